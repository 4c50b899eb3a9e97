/-
  The walk of sorted nodes: nodes in their order; the nearest ones.
-/
import Derived.Test.YtdbdnknnaekbhaaOM
set_option linter.unusedVariables false
set_option linter.unusedSimpArgs false
set_option maxRecDepth 20000
set_option maxHeartbeats 4000000
namespace Go.Proofs.Ytdbdnknnaekbhaa
open Go Go.Aw Go.Proofs
/-- R has just the nodes of l, in their order. -/
def NodesOf (t : List UInt8) (l R : List Nd) : Prop := (R.Pairwise fun x y => cmpN t x y < 0) ∧ (∀ x, x ∈ R ↔ x ∈ l) ∧ R.length ≤ l.length
theorem dist_inj {t a b : List UInt8} (ht : t.length = 20) (ha : a.length = 20) (hb : b.length = 20) (h : dist t a = dist t b) : a = b := by
  have h2 := dist_cancel t a (by omega)
  rw [h, dist_cancel t b (by omega)] at h2
  exact h2.symm
theorem orL_zero {a b : Int} (h : orL [a, b] = 0) : a = 0 ∧ b = 0 := by
  rw [orL2] at h
  split at h <;> omega
theorem cmpN_zero {t : List UInt8} (ht : t.length = 20) {x y : Nd} (hx : x.ok = true) (hy : y.ok = true) (h : cmpN t x y = 0) : x = y := by
  obtain ⟨h1, h2⟩ := orL_zero h
  obtain ⟨id, f, i, p⟩ := x
  obtain ⟨id', f', i', p'⟩ := y
  unfold Nd.ok at hx hy
  simp only [Bool.and_eq_true, decide_eq_true_eq] at hx hy
  have e1 : id = id' := dist_inj ht hx.1 hy.1 (cmpS_zero.1 h1)
  unfold ordA at h2
  simp only [orL] at h2
  have e2 : cmpI f f' = 0 := by
    split at h2
    · omega
    · omega
  rw [if_neg (by omega)] at h2
  have e3 : cmpS i i' = 0 := by
    split at h2 <;> omega
  rw [if_neg (by omega)] at h2
  have e4 : cmpI p p' = 0 := by
    split at h2 <;> omega
  rw [e1, cmpI_zero.1 e2, cmpS_zero.1 e3, cmpI_zero.1 e4]
theorem cptN_mem : ∀ (l : List Nd) (n : Nat) (x : Nd), x ∈ cptN l n ↔ x ∈ l.take n
  | l, 0, x => by simp [cptN]
  | l, n + 1, x => by
    rw [cptN, List.mem_append, cptN_mem l n x, List.take_add_one, List.mem_append]
    by_cases h : 0 < n ∧ l[n]? = l[n - 1]?
    · rw [if_pos h]
      simp only [List.not_mem_nil, or_false]
      constructor
      · intro h1; exact .inl h1
      · rintro (h1 | h1)
        · exact h1
        · rw [h.2, Option.mem_toList] at h1
          exact List.mem_iff_getElem?.2 ⟨n - 1, by rw [List.getElem?_take_of_lt (by omega)]; exact h1⟩
    · rw [if_neg h]
theorem cptN_pair {t : List UInt8} (ht : t.length = 20) {l : List Nd} (hok : ∀ x ∈ l, x.ok = true) (hs : Srt (leN t) l 0 l.length) : ∀ n, n ≤ l.length → (cptN l n).Pairwise fun x y => cmpN t x y < 0
  | 0, _ => by rw [cptN]; exact .nil
  | n + 1, hn => by
    have ih := cptN_pair ht hok hs n (by omega)
    have hnl : n < l.length := by omega
    rw [cptN]
    by_cases h : 0 < n ∧ l[n]? = l[n - 1]?
    · rw [if_pos h, List.append_nil]; exact ih
    · rw [if_neg h, List.getElem?_eq_getElem hnl]
      refine List.pairwise_append.2 ⟨ih, List.pairwise_singleton _ _, fun x hx y hy => ?_⟩
      have hy : y = l[n] := by simpa using hy
      subst hy
      obtain ⟨j, hj⟩ := List.mem_iff_getElem?.1 ((cptN_mem l n x).1 hx)
      have hjn : j < n := by
        rcases Nat.lt_or_ge j n with h' | h'
        · exact h'
        · rw [List.getElem?_take_eq_none h'] at hj; cases hj
      rw [List.getElem?_take_of_lt hjn] at hj
      have hle := hs j n x l[n] (Nat.zero_le _) hjn hnl hj (List.getElem?_eq_getElem hnl)
      have hng := (cmpN_ok t).neg x l[n]
      unfold leN at hle
      rcases (show cmpN t x l[n] < 0 ∨ cmpN t x l[n] = 0 by omega) with h1 | h1
      · exact h1
      · have hxe := cmpN_zero ht (hok x (List.mem_of_getElem? hj)) (hok _ (List.getElem_mem hnl)) h1
        subst hxe
        exfalso
        refine h ⟨by omega, ?_⟩
        have hn1 : n - 1 < l.length := by omega
        rw [List.getElem?_eq_getElem hnl, List.getElem?_eq_getElem hn1]
        congr 1
        rcases Nat.lt_or_ge j (n - 1) with h' | h'
        · have k1 := hs j (n - 1) l[n] l[n - 1] (Nat.zero_le _) h' hn1 hj (List.getElem?_eq_getElem hn1)
          have k2 := hs (n - 1) n l[n - 1] l[n] (Nat.zero_le _) (by omega) hnl (List.getElem?_eq_getElem hn1) (List.getElem?_eq_getElem hnl)
          unfold leN at k1 k2
          have := (cmpN_ok t).neg l[n] l[n - 1]
          exact cmpN_zero ht (hok _ (List.getElem_mem hnl)) (hok _ (List.getElem_mem hn1)) (by omega)
        · have : j = n - 1 := by omega
          subst this
          rw [List.getElem?_eq_getElem hn1] at hj
          exact (Option.some.inj hj).symm
theorem cptN_len (l : List Nd) : ∀ n, (cptN l n).length ≤ n
  | 0 => by simp [cptN]
  | n + 1 => by
    have := cptN_len l n
    rw [cptN, List.length_append]
    split
    · simp; omega
    · have : (l[n]?.toList).length ≤ 1 := by cases l[n]? <;> simp
      omega
theorem cptN_of {t : List UInt8} (ht : t.length = 20) {l l' : List Nd} (hok : ∀ x ∈ l, x.ok = true) (h : Srtd (leN t) l l' 0 l.length) : NodesOf t l (cptN l' l.length) := by
  have hlen := h.len
  have hs := h.srt
  rw [← hlen] at hs ⊢
  refine ⟨cptN_pair ht (fun x hx => hok x (h.sub x hx)) hs _ (Nat.le_refl _), fun x => ?_, by have := cptN_len l' l'.length; omega⟩
  rw [cptN_mem, List.take_length]
  refine ⟨h.sub x, fun hx => ?_⟩
  obtain ⟨q, hq, rfl⟩ := List.getElem_of_mem hx
  obtain ⟨r, _, _, r3⟩ := h.mem' q _ (Nat.zero_le _) hq (List.getElem?_eq_getElem hq)
  exact List.mem_of_getElem? r3
/-- A list that is given back. -/
def OutN (H : AHeap) (R : List Nd) (v : Value) : Prop :=
  (R = [] ∧ v = .slice none 0 0) ∨ ∃ b cap cs k, v = .slice (some ⟨b, 0, none⟩) R.length cap ∧ R.length ≤ cap ∧ H[b]? = some (.cells cs k) ∧ (k.esz = 4 ∨ k.esz = 0) ∧ R.length * 4 ≤ cs.length ∧ cs.take (R.length * 4) = ndsC R
theorem ins0 (v c : Value) (H : AHeap) : ARet Try.prog 73 [v, .int .i64 0, .int .i64 0, c] H noVal H := by
  refine AC.enter Try.func73 rfl (by kernel_rfl) 53 rfl [] rfl (by simp) fun hsc B => ?_
  repeat first
    | with_reducible refine AWP.seq ?_
    | ((with_reducible refine AWP.region ?_ ?_); exact rfl)
    | with_reducible refine AWP.block ?_
    | with_reducible refine AWP.skip ?_
    | with_reducible refine AWP.exit ?_
    | with_reducible refine AWP.ret ?_
    | with_reducible refine AWP.label ?_
    | with_reducible refine AWP.goto ?_
    | ((with_reducible refine AWP.condT ?_ ?_); focus (simp only [ev, lk_cons, ↓reduceIte, Nat.reduceEqDiff]; done))
    | ((with_reducible refine AWP.condF ?_ ?_); focus (simp only [ev, lk_cons, ↓reduceIte, Nat.reduceEqDiff]; done))
    | simp only [go_sem, ↓reduceIte, Nat.reduceEqDiff, reduceCtorEq, Nat.reduceAdd, Int.reduceEq, Int.reduceBNe, Int.reduceBEq, Int.reduceToNat, Int.reduceLT, Int.reduceLE, Int.reduceGT, Int.reduceGE, Nat.reduceSub, Nat.reduceBEq, Nat.reduceBNe, Int.reduceAdd, Int.reduceSub, Int.reduceMul, Int.reduceNeg, Nat.reduceMul, Nat.reduceLeDiff, Nat.reduceLT]
    | simp (disch := omega) only [wi64, wu8, wu16, wu32, wu64, Int.tdiv_eq_ediv_of_nonneg, Int.tmod_eq_emod_of_nonneg]
    | with_reducible_and_instances exact finR
    | ((with_reducible refine finR' ?_ ?_) <;> rfl)
    | ((with_reducible refine finD hsc (NRel.of_plain ?_)); exact rfl)
  refine AWP.loopN 1 ?_
  repeat first
    | with_reducible refine AWP.seq ?_
    | ((with_reducible refine AWP.region ?_ ?_); exact rfl)
    | with_reducible refine AWP.block ?_
    | with_reducible refine AWP.skip ?_
    | with_reducible refine AWP.exit ?_
    | with_reducible refine AWP.ret ?_
    | with_reducible refine AWP.label ?_
    | with_reducible refine AWP.goto ?_
    | ((with_reducible refine AWP.condT ?_ ?_); focus (simp only [ev, lk_cons, ↓reduceIte, Nat.reduceEqDiff]; done))
    | ((with_reducible refine AWP.condF ?_ ?_); focus (simp only [ev, lk_cons, ↓reduceIte, Nat.reduceEqDiff]; done))
    | simp only [go_sem, ↓reduceIte, Nat.reduceEqDiff, reduceCtorEq, Nat.reduceAdd, Int.reduceEq, Int.reduceBNe, Int.reduceBEq, Int.reduceToNat, Int.reduceLT, Int.reduceLE, Int.reduceGT, Int.reduceGE, Nat.reduceSub, Nat.reduceBEq, Nat.reduceBNe, Int.reduceAdd, Int.reduceSub, Int.reduceMul, Int.reduceNeg, Nat.reduceMul, Nat.reduceLeDiff, Nat.reduceLT, roundsW_s]
    | simp (disch := omega) only [wi64, wu8, wu16, wu32, wu64, Int.tdiv_eq_ediv_of_nonneg, Int.tmod_eq_emod_of_nonneg]
    | with_reducible_and_instances exact finR
    | ((with_reducible refine finR' ?_ ?_) <;> rfl)
    | ((with_reducible refine finD hsc (NRel.of_plain ?_)); exact rfl)
theorem stable0 (v c : Value) (H : AHeap) : ARet Try.prog 70 [v, .int .i64 0, c] H noVal H := by
  have hI := ins0 v c H
  refine AC.enter Try.func70 rfl (by kernel_rfl) 63 rfl [] rfl (by simp) fun hsc B => ?_
  repeat first
    | with_reducible refine AWP.seq ?_
    | ((with_reducible refine AWP.region ?_ ?_); exact rfl)
    | with_reducible refine AWP.block ?_
    | with_reducible refine AWP.skip ?_
    | with_reducible refine AWP.exit ?_
    | with_reducible refine AWP.ret ?_
    | with_reducible refine AWP.label ?_
    | with_reducible refine AWP.goto ?_
    | ((with_reducible refine AWP.condT ?_ ?_); focus (simp only [ev, lk_cons, ↓reduceIte, Nat.reduceEqDiff]; done))
    | ((with_reducible refine AWP.condF ?_ ?_); focus (simp only [ev, lk_cons, ↓reduceIte, Nat.reduceEqDiff]; done))
    | simp only [go_sem, ↓reduceIte, Nat.reduceEqDiff, reduceCtorEq, Nat.reduceAdd, Int.reduceEq, Int.reduceBNe, Int.reduceBEq, Int.reduceToNat, Int.reduceLT, Int.reduceLE, Int.reduceGT, Int.reduceGE, Nat.reduceSub, Nat.reduceBEq, Nat.reduceBNe, Int.reduceAdd, Int.reduceSub, Int.reduceMul, Int.reduceNeg, Nat.reduceMul, Nat.reduceLeDiff, Nat.reduceLT]
    | simp (disch := omega) only [wi64, wu8, wu16, wu32, wu64, Int.tdiv_eq_ediv_of_nonneg, Int.tmod_eq_emod_of_nonneg]
    | with_reducible_and_instances exact finR
    | ((with_reducible refine finR' ?_ ?_) <;> rfl)
    | ((with_reducible refine finD hsc (NRel.of_plain ?_)); exact rfl)
  refine AWP.loopN 1 ?_
  repeat first
    | with_reducible refine AWP.seq ?_
    | ((with_reducible refine AWP.region ?_ ?_); exact rfl)
    | with_reducible refine AWP.block ?_
    | with_reducible refine AWP.skip ?_
    | with_reducible refine AWP.exit ?_
    | with_reducible refine AWP.ret ?_
    | with_reducible refine AWP.label ?_
    | with_reducible refine AWP.goto ?_
    | ((with_reducible refine AWP.condT ?_ ?_); focus (simp only [ev, lk_cons, ↓reduceIte, Nat.reduceEqDiff]; done))
    | ((with_reducible refine AWP.condF ?_ ?_); focus (simp only [ev, lk_cons, ↓reduceIte, Nat.reduceEqDiff]; done))
    | with_reducible refine hI.use ?_
    | simp only [go_sem, ↓reduceIte, Nat.reduceEqDiff, reduceCtorEq, Nat.reduceAdd, Int.reduceEq, Int.reduceBNe, Int.reduceBEq, Int.reduceToNat, Int.reduceLT, Int.reduceLE, Int.reduceGT, Int.reduceGE, Nat.reduceSub, Nat.reduceBEq, Nat.reduceBNe, Int.reduceAdd, Int.reduceSub, Int.reduceMul, Int.reduceNeg, Nat.reduceMul, Nat.reduceLeDiff, Nat.reduceLT, roundsW_s]
    | simp (disch := omega) only [wi64, wu8, wu16, wu32, wu64, Int.tdiv_eq_ediv_of_nonneg, Int.tmod_eq_emod_of_nonneg]
    | with_reducible_and_instances exact finR
    | ((with_reducible refine finR' ?_ ?_) <;> rfl)
    | ((with_reducible refine finD hsc (NRel.of_plain ?_)); exact rfl)
  refine AWP.loopN 1 ?_
  repeat first
    | with_reducible refine AWP.seq ?_
    | ((with_reducible refine AWP.region ?_ ?_); exact rfl)
    | with_reducible refine AWP.block ?_
    | with_reducible refine AWP.skip ?_
    | with_reducible refine AWP.exit ?_
    | with_reducible refine AWP.ret ?_
    | with_reducible refine AWP.label ?_
    | with_reducible refine AWP.goto ?_
    | ((with_reducible refine AWP.condT ?_ ?_); focus (simp only [ev, lk_cons, ↓reduceIte, Nat.reduceEqDiff]; done))
    | ((with_reducible refine AWP.condF ?_ ?_); focus (simp only [ev, lk_cons, ↓reduceIte, Nat.reduceEqDiff]; done))
    | simp only [go_sem, ↓reduceIte, Nat.reduceEqDiff, reduceCtorEq, Nat.reduceAdd, Int.reduceEq, Int.reduceBNe, Int.reduceBEq, Int.reduceToNat, Int.reduceLT, Int.reduceLE, Int.reduceGT, Int.reduceGE, Nat.reduceSub, Nat.reduceBEq, Nat.reduceBNe, Int.reduceAdd, Int.reduceSub, Int.reduceMul, Int.reduceNeg, Nat.reduceMul, Nat.reduceLeDiff, Nat.reduceLT, roundsW_s]
    | simp (disch := omega) only [wi64, wu8, wu16, wu32, wu64, Int.tdiv_eq_ediv_of_nonneg, Int.tmod_eq_emod_of_nonneg]
    | with_reducible_and_instances exact finR
    | ((with_reducible refine finR' ?_ ?_) <;> rfl)
    | ((with_reducible refine finD hsc (NRel.of_plain ?_)); exact rfl)
theorem sort0 (v c : Value) (H : AHeap) (hv : ∀ H' K, lenW Try.prog 34 v H' K = K (.int .i64 (0 : Nat)) H') : ARet Try.prog 58 [v, c] H noVal H := by
  have hI := stable0 v c H
  refine AC.enter Try.func58 rfl (by kernel_rfl) 9 rfl [] rfl (by simp) fun hsc B => ?_
  repeat first
    | with_reducible refine AWP.seq ?_
    | ((with_reducible refine AWP.region ?_ ?_); exact rfl)
    | with_reducible refine AWP.block ?_
    | with_reducible refine AWP.skip ?_
    | with_reducible refine AWP.exit ?_
    | with_reducible refine AWP.ret ?_
    | with_reducible refine AWP.label ?_
    | with_reducible refine AWP.goto ?_
    | ((with_reducible refine AWP.condT ?_ ?_); focus (simp only [ev, lk_cons, ↓reduceIte, Nat.reduceEqDiff]; done))
    | ((with_reducible refine AWP.condF ?_ ?_); focus (simp only [ev, lk_cons, ↓reduceIte, Nat.reduceEqDiff]; done))
    | with_reducible refine hI.use ?_
    | simp only [go_sem, ↓reduceIte, Nat.reduceEqDiff, reduceCtorEq, Nat.reduceAdd, Int.reduceEq, Int.reduceBNe, Int.reduceBEq, Int.reduceToNat, Int.reduceLT, Int.reduceLE, Int.reduceGT, Int.reduceGE, Nat.reduceSub, Nat.reduceBEq, Nat.reduceBNe, Int.reduceAdd, Int.reduceSub, Int.reduceMul, Int.reduceNeg, Nat.reduceMul, Nat.reduceLeDiff, Nat.reduceLT, hv]
    | simp (disch := omega) only [wi64, wu8, wu16, wu32, wu64, Int.tdiv_eq_ediv_of_nonneg, Int.tmod_eq_emod_of_nonneg]
    | with_reducible_and_instances exact finR
    | ((with_reducible refine finR' ?_ ?_) <;> rfl)
    | ((with_reducible refine finD hsc (NRel.of_plain ?_)); exact rfl)
theorem compact0 (v : Value) (H : AHeap) (hv : ∀ H' K, lenW Try.prog 34 v H' K = K (.int .i64 (0 : Nat)) H') : AC Try.prog 59 [v] H (fun r H1 => r = .ret v ∧ H1 = H) := by
  refine AC.enter Try.func59 rfl (by kernel_rfl) 61 rfl [.tmp 2] rfl (by simp) fun hsc B => ?_
  repeat first
    | with_reducible refine AWP.seq ?_
    | ((with_reducible refine AWP.region ?_ ?_); exact rfl)
    | with_reducible refine AWP.block ?_
    | with_reducible refine AWP.skip ?_
    | with_reducible refine AWP.exit ?_
    | with_reducible refine AWP.ret ?_
    | with_reducible refine AWP.label ?_
    | with_reducible refine AWP.goto ?_
    | ((with_reducible refine AWP.condT ?_ ?_); focus (simp only [ev, lk_cons, ↓reduceIte, Nat.reduceEqDiff]; done))
    | ((with_reducible refine AWP.condF ?_ ?_); focus (simp only [ev, lk_cons, ↓reduceIte, Nat.reduceEqDiff]; done))
    | simp only [go_sem, ↓reduceIte, Nat.reduceEqDiff, reduceCtorEq, Nat.reduceAdd, Int.reduceEq, Int.reduceBNe, Int.reduceBEq, Int.reduceToNat, Int.reduceLT, Int.reduceLE, Int.reduceGT, Int.reduceGE, Nat.reduceSub, Nat.reduceBEq, Nat.reduceBNe, Int.reduceAdd, Int.reduceSub, Int.reduceMul, Int.reduceNeg, Nat.reduceMul, Nat.reduceLeDiff, Nat.reduceLT, hv]
    | simp (disch := omega) only [wi64, wu8, wu16, wu32, wu64, Int.tdiv_eq_ediv_of_nonneg, Int.tmod_eq_emod_of_nonneg]
    | with_reducible_and_instances exact finR
    | ((with_reducible refine finR' ?_ ?_) <;> rfl)
    | ((with_reducible refine finD hsc (NRel.of_plain ?_)); exact rfl)
theorem sortN (b p : Nat) (kp : CK) (t : List UInt8) (ht : t.length = 20) (l : List Nd) (hok : ∀ x ∈ l, x.ok = true) (hl : l.length ≤ 30) (hne : p ≠ b) (H : AHeap) (hb : H[b]? = some (lsO l)) (hp : H[p]? = some (.cells [.string (bs t)] kp)) :
    AC Try.prog 58 [.slice (some ⟨b, 0, none⟩) l.length l.length, cmpF p] H (SymR t b H l 0 l.length) := by
  have hS := stable b p kp t ht l l.length rfl hok hl hne H hb hp
  refine AC.enter Try.func58 rfl (by kernel_rfl) 9 rfl [] rfl (by simp) fun hsc B => ?_
  repeat first
    | with_reducible refine AWP.seq ?_
    | ((with_reducible refine AWP.region ?_ ?_); exact rfl)
    | with_reducible refine AWP.block ?_
    | with_reducible refine AWP.skip ?_
    | with_reducible refine AWP.exit ?_
    | with_reducible refine AWP.ret ?_
    | with_reducible refine AWP.label ?_
    | with_reducible refine AWP.goto ?_
    | ((with_reducible refine AWP.condT ?_ ?_); focus (simp only [ev, lk_cons, ↓reduceIte, Nat.reduceEqDiff]; done))
    | ((with_reducible refine AWP.condF ?_ ?_); focus (simp only [ev, lk_cons, ↓reduceIte, Nat.reduceEqDiff]; done))
    | simp only [go_sem, ↓reduceIte, Nat.reduceEqDiff, reduceCtorEq, Nat.reduceAdd, Int.reduceEq, Int.reduceBNe, Int.reduceBEq, Int.reduceToNat, Int.reduceLT, Int.reduceLE, Int.reduceGT, Int.reduceGE, Nat.reduceSub, Nat.reduceBEq, Nat.reduceBNe, Int.reduceAdd, Int.reduceSub, Int.reduceMul, Int.reduceNeg, Nat.reduceMul, Nat.reduceLeDiff, Nat.reduceLT]
    | simp (disch := omega) only [wi64, wu8, wu16, wu32, wu64, Int.tdiv_eq_ediv_of_nonneg, Int.tmod_eq_emod_of_nonneg]
    | with_reducible_and_instances exact finR
    | ((with_reducible refine finR' ?_ ?_) <;> rfl)
    | ((with_reducible refine finD hsc (NRel.of_plain ?_)); exact rfl)
  refine AC.mono hS ?_
  rintro r H1 ⟨rfl, l', h, rfl⟩
  repeat first
    | with_reducible refine AWP.seq ?_
    | ((with_reducible refine AWP.region ?_ ?_); exact rfl)
    | with_reducible refine AWP.block ?_
    | with_reducible refine AWP.skip ?_
    | with_reducible refine AWP.exit ?_
    | with_reducible refine AWP.ret ?_
    | with_reducible refine AWP.label ?_
    | with_reducible refine AWP.goto ?_
    | ((with_reducible refine AWP.condT ?_ ?_); focus (simp only [ev, lk_cons, ↓reduceIte, Nat.reduceEqDiff]; done))
    | ((with_reducible refine AWP.condF ?_ ?_); focus (simp only [ev, lk_cons, ↓reduceIte, Nat.reduceEqDiff]; done))
    | simp only [go_sem, ↓reduceIte, Nat.reduceEqDiff, reduceCtorEq, Nat.reduceAdd, Int.reduceEq, Int.reduceBNe, Int.reduceBEq, Int.reduceToNat, Int.reduceLT, Int.reduceLE, Int.reduceGT, Int.reduceGE, Nat.reduceSub, Nat.reduceBEq, Nat.reduceBNe, Int.reduceAdd, Int.reduceSub, Int.reduceMul, Int.reduceNeg, Nat.reduceMul, Nat.reduceLeDiff, Nat.reduceLT]
    | simp (disch := omega) only [wi64, wu8, wu16, wu32, wu64, Int.tdiv_eq_ediv_of_nonneg, Int.tmod_eq_emod_of_nonneg]
    | with_reducible_and_instances exact finR
    | ((with_reducible refine finR' ?_ ?_) <;> rfl)
    | ((with_reducible refine finD hsc (NRel.of_plain ?_)); exact rfl)
  exact ⟨_, _, .refl _ _ _, rfl, l', h, rfl⟩
/-- A list in its order is given back. -/
def OrdR (t : List UInt8) (l : List Nd) (H : AHeap) (r : ARes) (H1 : AHeap) : Prop := ∃ v' R, r = .ret v' ∧ Frm [] H H1 ∧ NodesOf t l R ∧ OutN H1 R v'
/-- The list in its order. -/
theorem ordered (p : Nat) (t : List UInt8) (ht : t.length = 20) (l : List Nd) (hok : ∀ x ∈ l, x.ok = true) (hl : l.length ≤ 30) (v : Value) (kp : CK) (H : AHeap) (hv : RdK H 4 v (l.map ndC)) (hp : H[p]? = some (.cells [.string (bs t)] kp)) :
    AC Try.prog 41 [v, cmpF p] H (OrdR t l H) := by
  have hC := CloneN l hl v H hv
  have hpl := lt_of_get hp
  refine AC.enter Try.func41 rfl (by kernel_rfl) 13 rfl [.tmp 4] rfl (by simp) fun hsc B => ?_
  repeat first
    | with_reducible refine AWP.seq ?_
    | ((with_reducible refine AWP.region ?_ ?_); exact rfl)
    | with_reducible refine AWP.block ?_
    | with_reducible refine AWP.skip ?_
    | with_reducible refine AWP.exit ?_
    | with_reducible refine AWP.ret ?_
    | with_reducible refine AWP.label ?_
    | with_reducible refine AWP.goto ?_
    | ((with_reducible refine AWP.condT ?_ ?_); focus (simp only [ev, lk_cons, ↓reduceIte, Nat.reduceEqDiff]; done))
    | ((with_reducible refine AWP.condF ?_ ?_); focus (simp only [ev, lk_cons, ↓reduceIte, Nat.reduceEqDiff]; done))
    | simp only [go_sem, ↓reduceIte, Nat.reduceEqDiff, reduceCtorEq, Nat.reduceAdd, Int.reduceEq, Int.reduceBNe, Int.reduceBEq, Int.reduceToNat, Int.reduceLT, Int.reduceLE, Int.reduceGT, Int.reduceGE, Nat.reduceSub, Nat.reduceBEq, Nat.reduceBNe, Int.reduceAdd, Int.reduceSub, Int.reduceMul, Int.reduceNeg, Nat.reduceMul, Nat.reduceLeDiff, Nat.reduceLT]
    | simp (disch := omega) only [wi64, wu8, wu16, wu32, wu64, Int.tdiv_eq_ediv_of_nonneg, Int.tmod_eq_emod_of_nonneg]
    | with_reducible_and_instances exact finR
    | ((with_reducible refine finR' ?_ ?_) <;> rfl)
    | ((with_reducible refine finD hsc (NRel.of_plain ?_)); exact rfl)
  refine AC.mono hC ?_
  rintro r H1 ⟨v1, rfl, hcp⟩
  rcases hcp with ⟨rfl, hv1, hf⟩ | ⟨hne, b, rfl, hb, hbl, hf⟩
  · have hlen : ∀ H' K, lenW Try.prog 34 v1 H' K = K (.int .i64 (0 : Nat)) H' := by
      intro H' K
      rcases hv1 with rfl | ⟨i, cs, k, rfl, hi, hz⟩
      · rw [lenW_sl (by simp only [go_sem, ↓reduceIte, Nat.reduceEqDiff, reduceCtorEq, Nat.reduceAdd, Int.reduceEq, Int.reduceBNe, Int.reduceBEq, Int.reduceToNat, Int.reduceLT, Int.reduceLE, Int.reduceGT, Int.reduceGE, Nat.reduceSub, Nat.reduceBEq, Nat.reduceBNe, Int.reduceAdd, Int.reduceSub, Int.reduceMul, Int.reduceNeg, Nat.reduceMul, Nat.reduceLeDiff, Nat.reduceLT])]
      · rw [lenW_sl (by simp only [go_sem, ↓reduceIte, Nat.reduceEqDiff, reduceCtorEq, Nat.reduceAdd, Int.reduceEq, Int.reduceBNe, Int.reduceBEq, Int.reduceToNat, Int.reduceLT, Int.reduceLE, Int.reduceGT, Int.reduceGE, Nat.reduceSub, Nat.reduceBEq, Nat.reduceBNe, Int.reduceAdd, Int.reduceSub, Int.reduceMul, Int.reduceNeg, Nat.reduceMul, Nat.reduceLeDiff, Nat.reduceLT])]
    have hS := sort0 v1 (cmpF p) H1 hlen
    have hCp := compact0 v1 H1 hlen
    repeat first
      | with_reducible refine AWP.seq ?_
      | ((with_reducible refine AWP.region ?_ ?_); exact rfl)
      | with_reducible refine AWP.block ?_
      | with_reducible refine AWP.skip ?_
      | with_reducible refine AWP.exit ?_
      | with_reducible refine AWP.ret ?_
      | with_reducible refine AWP.label ?_
      | with_reducible refine AWP.goto ?_
      | ((with_reducible refine AWP.condT ?_ ?_); focus (simp only [ev, lk_cons, ↓reduceIte, Nat.reduceEqDiff]; done))
      | ((with_reducible refine AWP.condF ?_ ?_); focus (simp only [ev, lk_cons, ↓reduceIte, Nat.reduceEqDiff]; done))
      | with_reducible refine hS.use ?_
      | simp only [go_sem, ↓reduceIte, Nat.reduceEqDiff, reduceCtorEq, Nat.reduceAdd, Int.reduceEq, Int.reduceBNe, Int.reduceBEq, Int.reduceToNat, Int.reduceLT, Int.reduceLE, Int.reduceGT, Int.reduceGE, Nat.reduceSub, Nat.reduceBEq, Nat.reduceBNe, Int.reduceAdd, Int.reduceSub, Int.reduceMul, Int.reduceNeg, Nat.reduceMul, Nat.reduceLeDiff, Nat.reduceLT]
      | simp (disch := omega) only [wi64, wu8, wu16, wu32, wu64, Int.tdiv_eq_ediv_of_nonneg, Int.tmod_eq_emod_of_nonneg]
      | with_reducible_and_instances exact finR
      | ((with_reducible refine finR' ?_ ?_) <;> rfl)
      | ((with_reducible refine finD hsc (NRel.of_plain ?_)); exact rfl)
    refine AC.mono hCp ?_
    rintro r H2 ⟨rfl, rfl⟩
    repeat first
      | with_reducible refine AWP.seq ?_
      | ((with_reducible refine AWP.region ?_ ?_); exact rfl)
      | with_reducible refine AWP.block ?_
      | with_reducible refine AWP.skip ?_
      | with_reducible refine AWP.exit ?_
      | with_reducible refine AWP.ret ?_
      | with_reducible refine AWP.label ?_
      | with_reducible refine AWP.goto ?_
      | ((with_reducible refine AWP.condT ?_ ?_); focus (simp only [ev, lk_cons, ↓reduceIte, Nat.reduceEqDiff]; done))
      | ((with_reducible refine AWP.condF ?_ ?_); focus (simp only [ev, lk_cons, ↓reduceIte, Nat.reduceEqDiff]; done))
      | simp only [go_sem, ↓reduceIte, Nat.reduceEqDiff, reduceCtorEq, Nat.reduceAdd, Int.reduceEq, Int.reduceBNe, Int.reduceBEq, Int.reduceToNat, Int.reduceLT, Int.reduceLE, Int.reduceGT, Int.reduceGE, Nat.reduceSub, Nat.reduceBEq, Nat.reduceBNe, Int.reduceAdd, Int.reduceSub, Int.reduceMul, Int.reduceNeg, Nat.reduceMul, Nat.reduceLeDiff, Nat.reduceLT]
      | simp (disch := omega) only [wi64, wu8, wu16, wu32, wu64, Int.tdiv_eq_ediv_of_nonneg, Int.tmod_eq_emod_of_nonneg]
      | with_reducible_and_instances exact finR
      | ((with_reducible refine finR' ?_ ?_) <;> rfl)
      | ((with_reducible refine finD hsc (NRel.of_plain ?_)); exact rfl)
    refine ⟨_, _, .refl _ _ _, v1, [], rfl, hf, ⟨.nil, fun x => Iff.rfl, Nat.le_refl _⟩, ?_⟩
    rcases hv1 with rfl | ⟨i, cs, k, rfl, hi, hz⟩
    · exact .inl ⟨rfl, rfl⟩
    · exact .inr ⟨i, 0, cs, k, rfl, Nat.le_refl _, hi, .inr hz, by simp, by simp [ndsC]⟩
  · have hbl1 := lt_of_get hb
    have hp1 : H1[p]? = some (.cells [.string (bs t)] kp) := hf.get hp (by simp)
    have hS := sortN b p kp t ht l hok hl (by omega) H1 hb hp1
    repeat first
      | with_reducible refine AWP.seq ?_
      | ((with_reducible refine AWP.region ?_ ?_); exact rfl)
      | with_reducible refine AWP.block ?_
      | with_reducible refine AWP.skip ?_
      | with_reducible refine AWP.exit ?_
      | with_reducible refine AWP.ret ?_
      | with_reducible refine AWP.label ?_
      | with_reducible refine AWP.goto ?_
      | ((with_reducible refine AWP.condT ?_ ?_); focus (simp only [ev, lk_cons, ↓reduceIte, Nat.reduceEqDiff]; done))
      | ((with_reducible refine AWP.condF ?_ ?_); focus (simp only [ev, lk_cons, ↓reduceIte, Nat.reduceEqDiff]; done))
      | simp only [go_sem, ↓reduceIte, Nat.reduceEqDiff, reduceCtorEq, Nat.reduceAdd, Int.reduceEq, Int.reduceBNe, Int.reduceBEq, Int.reduceToNat, Int.reduceLT, Int.reduceLE, Int.reduceGT, Int.reduceGE, Nat.reduceSub, Nat.reduceBEq, Nat.reduceBNe, Int.reduceAdd, Int.reduceSub, Int.reduceMul, Int.reduceNeg, Nat.reduceMul, Nat.reduceLeDiff, Nat.reduceLT]
      | simp (disch := omega) only [wi64, wu8, wu16, wu32, wu64, Int.tdiv_eq_ediv_of_nonneg, Int.tmod_eq_emod_of_nonneg]
      | with_reducible_and_instances exact finR
      | ((with_reducible refine finR' ?_ ?_) <;> rfl)
      | ((with_reducible refine finD hsc (NRel.of_plain ?_)); exact rfl)
    refine AC.mono hS ?_
    rintro r H2 ⟨rfl, l', hs, rfl⟩
    have hCp := Compact b l' l.length hs.len.symm (by omega) H1 hbl1
    repeat first
      | with_reducible refine AWP.seq ?_
      | ((with_reducible refine AWP.region ?_ ?_); exact rfl)
      | with_reducible refine AWP.block ?_
      | with_reducible refine AWP.skip ?_
      | with_reducible refine AWP.exit ?_
      | with_reducible refine AWP.ret ?_
      | with_reducible refine AWP.label ?_
      | with_reducible refine AWP.goto ?_
      | ((with_reducible refine AWP.condT ?_ ?_); focus (simp only [ev, lk_cons, ↓reduceIte, Nat.reduceEqDiff]; done))
      | ((with_reducible refine AWP.condF ?_ ?_); focus (simp only [ev, lk_cons, ↓reduceIte, Nat.reduceEqDiff]; done))
      | simp only [go_sem, ↓reduceIte, Nat.reduceEqDiff, reduceCtorEq, Nat.reduceAdd, Int.reduceEq, Int.reduceBNe, Int.reduceBEq, Int.reduceToNat, Int.reduceLT, Int.reduceLE, Int.reduceGT, Int.reduceGE, Nat.reduceSub, Nat.reduceBEq, Nat.reduceBNe, Int.reduceAdd, Int.reduceSub, Int.reduceMul, Int.reduceNeg, Nat.reduceMul, Nat.reduceLeDiff, Nat.reduceLT]
      | simp (disch := omega) only [wi64, wu8, wu16, wu32, wu64, Int.tdiv_eq_ediv_of_nonneg, Int.tmod_eq_emod_of_nonneg]
      | with_reducible_and_instances exact finR
      | ((with_reducible refine finR' ?_ ?_) <;> rfl)
      | ((with_reducible refine finD hsc (NRel.of_plain ?_)); exact rfl)
    refine AC.mono hCp ?_
    rintro r H3 ⟨rfl, cs, rfl, hcl, hcn, hct⟩
    repeat first
      | with_reducible refine AWP.seq ?_
      | ((with_reducible refine AWP.region ?_ ?_); exact rfl)
      | with_reducible refine AWP.block ?_
      | with_reducible refine AWP.skip ?_
      | with_reducible refine AWP.exit ?_
      | with_reducible refine AWP.ret ?_
      | with_reducible refine AWP.label ?_
      | with_reducible refine AWP.goto ?_
      | ((with_reducible refine AWP.condT ?_ ?_); focus (simp only [ev, lk_cons, ↓reduceIte, Nat.reduceEqDiff]; done))
      | ((with_reducible refine AWP.condF ?_ ?_); focus (simp only [ev, lk_cons, ↓reduceIte, Nat.reduceEqDiff]; done))
      | simp only [go_sem, ↓reduceIte, Nat.reduceEqDiff, reduceCtorEq, Nat.reduceAdd, Int.reduceEq, Int.reduceBNe, Int.reduceBEq, Int.reduceToNat, Int.reduceLT, Int.reduceLE, Int.reduceGT, Int.reduceGE, Nat.reduceSub, Nat.reduceBEq, Nat.reduceBNe, Int.reduceAdd, Int.reduceSub, Int.reduceMul, Int.reduceNeg, Nat.reduceMul, Nat.reduceLeDiff, Nat.reduceLT]
      | simp (disch := omega) only [wi64, wu8, wu16, wu32, wu64, Int.tdiv_eq_ediv_of_nonneg, Int.tmod_eq_emod_of_nonneg]
      | with_reducible_and_instances exact finR
      | ((with_reducible refine finR' ?_ ?_) <;> rfl)
      | ((with_reducible refine finD hsc (NRel.of_plain ?_)); exact rfl)
    refine ⟨_, _, .refl _ _ _, _, cptN l' l.length, rfl, ?_, cptN_of ht hok hs, .inr ⟨b, l.length, cs, ⟨46, 4, true, 0, none⟩, rfl, hcn, List.getElem?_set_self hbl1, .inl rfl, by omega, hct⟩⟩
    exact Frm.set hf (.inr hbl)
theorem allok {l : List Nd} (h : l.all Nd.ok = true) : ∀ x ∈ l, x.ok = true := List.all_eq_true.1 h
/-- What Sorted gives. -/
def SortR (t : List UInt8) (l : List Nd) (H : AHeap) (r : ARes) (H1 : AHeap) : Prop := Frm [] H H1 ∧ if t.length = 20 ∧ l.all Nd.ok = true then ∃ v' R, r = .ret (.tuple ⟨[v', .int .i64 0]⟩) ∧ NodesOf t l R ∧ OutN H1 R v' else r = .ret (.tuple ⟨[.slice none 0 0, .int .i64 1]⟩)
theorem Sorted (t : List UInt8) (l : List Nd) (hl : l.length ≤ 30) (v : Value) (H : AHeap) (hv : RdK H 4 v (l.map ndC)) : AC Try.prog 21 [.string (bs t), v] H (SortR t l H) := by
  have hT := valid t
  have hv1 : RdK (H ++ [.cells [.string (bs t)] ⟨9, 0, true, 0, none⟩]) 4 v (l.map ndC) := hv.kept (Kept.more _ _)
  have hO := odd l (by omega) v _ hv1.rdN
  by_cases ht : t.length = 20
  · rw [decide_eq_true ht] at hT
    cases hall : l.all Nd.ok with
    | false =>
      rw [hall] at hO
      refine AC.enter Try.func21 rfl (by kernel_rfl) 16 rfl [.tmp 4, .tmp 5] rfl (by simp) fun hsc B => ?_
      repeat first
        | with_reducible refine AWP.seq ?_
        | ((with_reducible refine AWP.region ?_ ?_); exact rfl)
        | with_reducible refine AWP.block ?_
        | with_reducible refine AWP.skip ?_
        | with_reducible refine AWP.exit ?_
        | with_reducible refine AWP.ret ?_
        | with_reducible refine AWP.label ?_
        | with_reducible refine AWP.goto ?_
        | ((with_reducible refine AWP.condT ?_ ?_); focus (simp only [ev, lk_cons, ↓reduceIte, Nat.reduceEqDiff]; done))
        | ((with_reducible refine AWP.condF ?_ ?_); focus (simp only [ev, lk_cons, ↓reduceIte, Nat.reduceEqDiff]; done))
        | with_reducible refine (hT _).use ?_
        | with_reducible refine hO.use ?_
        | simp only [go_sem, ↓reduceIte, Nat.reduceEqDiff, reduceCtorEq, Nat.reduceAdd, Int.reduceEq, Int.reduceBNe, Int.reduceBEq, Int.reduceToNat, Int.reduceLT, Int.reduceLE, Int.reduceGT, Int.reduceGE, Nat.reduceSub, Nat.reduceBEq, Nat.reduceBNe, Int.reduceAdd, Int.reduceSub, Int.reduceMul, Int.reduceNeg, Nat.reduceMul, Nat.reduceLeDiff, Nat.reduceLT]
        | simp (disch := omega) only [wi64, wu8, wu16, wu32, wu64, Int.tdiv_eq_ediv_of_nonneg, Int.tmod_eq_emod_of_nonneg]
        | with_reducible_and_instances exact finR
        | ((with_reducible refine finR' ?_ ?_) <;> rfl)
        | ((with_reducible refine finD hsc (NRel.of_plain ?_)); exact rfl)
      exact ⟨_, _, .refl _ _ _, Frm.app, by rw [if_neg (by rw [hall]; simp)]⟩
    | true =>
      rw [hall] at hO
      have hOr := ordered H.length t ht l (allok hall) hl v ⟨9, 0, true, 0, none⟩ _ hv1 (hget0 rfl)
      unfold cmpF at hOr
      refine AC.enter Try.func21 rfl (by kernel_rfl) 16 rfl [.tmp 4, .tmp 5] rfl (by simp) fun hsc B => ?_
      repeat first
        | with_reducible refine AWP.seq ?_
        | ((with_reducible refine AWP.region ?_ ?_); exact rfl)
        | with_reducible refine AWP.block ?_
        | with_reducible refine AWP.skip ?_
        | with_reducible refine AWP.exit ?_
        | with_reducible refine AWP.ret ?_
        | with_reducible refine AWP.label ?_
        | with_reducible refine AWP.goto ?_
        | ((with_reducible refine AWP.condT ?_ ?_); focus (simp only [ev, lk_cons, ↓reduceIte, Nat.reduceEqDiff]; done))
        | ((with_reducible refine AWP.condF ?_ ?_); focus (simp only [ev, lk_cons, ↓reduceIte, Nat.reduceEqDiff]; done))
        | with_reducible refine (hT _).use ?_
        | with_reducible refine hO.use ?_
        | simp only [go_sem, ↓reduceIte, Nat.reduceEqDiff, reduceCtorEq, Nat.reduceAdd, Int.reduceEq, Int.reduceBNe, Int.reduceBEq, Int.reduceToNat, Int.reduceLT, Int.reduceLE, Int.reduceGT, Int.reduceGE, Nat.reduceSub, Nat.reduceBEq, Nat.reduceBNe, Int.reduceAdd, Int.reduceSub, Int.reduceMul, Int.reduceNeg, Nat.reduceMul, Nat.reduceLeDiff, Nat.reduceLT]
        | simp (disch := omega) only [wi64, wu8, wu16, wu32, wu64, Int.tdiv_eq_ediv_of_nonneg, Int.tmod_eq_emod_of_nonneg]
        | with_reducible_and_instances exact finR
        | ((with_reducible refine finR' ?_ ?_) <;> rfl)
        | ((with_reducible refine finD hsc (NRel.of_plain ?_)); exact rfl)
      refine AC.mono hOr ?_
      rintro r H1 ⟨v', R, rfl, hf, hR, ho⟩
      repeat first
        | with_reducible refine AWP.seq ?_
        | ((with_reducible refine AWP.region ?_ ?_); exact rfl)
        | with_reducible refine AWP.block ?_
        | with_reducible refine AWP.skip ?_
        | with_reducible refine AWP.exit ?_
        | with_reducible refine AWP.ret ?_
        | with_reducible refine AWP.label ?_
        | with_reducible refine AWP.goto ?_
        | ((with_reducible refine AWP.condT ?_ ?_); focus (simp only [ev, lk_cons, ↓reduceIte, Nat.reduceEqDiff]; done))
        | ((with_reducible refine AWP.condF ?_ ?_); focus (simp only [ev, lk_cons, ↓reduceIte, Nat.reduceEqDiff]; done))
        | simp only [go_sem, ↓reduceIte, Nat.reduceEqDiff, reduceCtorEq, Nat.reduceAdd, Int.reduceEq, Int.reduceBNe, Int.reduceBEq, Int.reduceToNat, Int.reduceLT, Int.reduceLE, Int.reduceGT, Int.reduceGE, Nat.reduceSub, Nat.reduceBEq, Nat.reduceBNe, Int.reduceAdd, Int.reduceSub, Int.reduceMul, Int.reduceNeg, Nat.reduceMul, Nat.reduceLeDiff, Nat.reduceLT]
        | simp (disch := omega) only [wi64, wu8, wu16, wu32, wu64, Int.tdiv_eq_ediv_of_nonneg, Int.tmod_eq_emod_of_nonneg]
        | with_reducible_and_instances exact finR
        | ((with_reducible refine finR' ?_ ?_) <;> rfl)
        | ((with_reducible refine finD hsc (NRel.of_plain ?_)); exact rfl)
      exact ⟨_, _, .refl _ _ _, Frm.trans Frm.app hf (by simp), by rw [if_pos ⟨ht, hall⟩]; exact ⟨v', R, rfl, hR, ho⟩⟩
  · rw [decide_eq_false ht] at hT
    refine AC.enter Try.func21 rfl (by kernel_rfl) 16 rfl [.tmp 4, .tmp 5] rfl (by simp) fun hsc B => ?_
    repeat first
      | with_reducible refine AWP.seq ?_
      | ((with_reducible refine AWP.region ?_ ?_); exact rfl)
      | with_reducible refine AWP.block ?_
      | with_reducible refine AWP.skip ?_
      | with_reducible refine AWP.exit ?_
      | with_reducible refine AWP.ret ?_
      | with_reducible refine AWP.label ?_
      | with_reducible refine AWP.goto ?_
      | ((with_reducible refine AWP.condT ?_ ?_); focus (simp only [ev, lk_cons, ↓reduceIte, Nat.reduceEqDiff]; done))
      | ((with_reducible refine AWP.condF ?_ ?_); focus (simp only [ev, lk_cons, ↓reduceIte, Nat.reduceEqDiff]; done))
      | with_reducible refine (hT _).use ?_
      | simp only [go_sem, ↓reduceIte, Nat.reduceEqDiff, reduceCtorEq, Nat.reduceAdd, Int.reduceEq, Int.reduceBNe, Int.reduceBEq, Int.reduceToNat, Int.reduceLT, Int.reduceLE, Int.reduceGT, Int.reduceGE, Nat.reduceSub, Nat.reduceBEq, Nat.reduceBNe, Int.reduceAdd, Int.reduceSub, Int.reduceMul, Int.reduceNeg, Nat.reduceMul, Nat.reduceLeDiff, Nat.reduceLT]
      | simp (disch := omega) only [wi64, wu8, wu16, wu32, wu64, Int.tdiv_eq_ediv_of_nonneg, Int.tmod_eq_emod_of_nonneg]
      | with_reducible_and_instances exact finR
      | ((with_reducible refine finR' ?_ ?_) <;> rfl)
      | ((with_reducible refine finD hsc (NRel.of_plain ?_)); exact rfl)
    exact ⟨_, _, .refl _ _ _, Frm.app, by rw [if_neg (fun h => ht h.1)]⟩
theorem OutN.take {H : AHeap} {R : List Nd} {v : Value} (h : OutN H R v) (n : Nat) (hn : n ≤ R.length) : (R = [] ∧ v = .slice none 0 0) ∨ ∃ b cap : Nat, v = .slice (some ⟨b, 0, none⟩) R.length cap ∧ R.length ≤ cap ∧ (∃ cs k, H[b]? = some (.cells cs k) ∧ (k.esz = 4 ∨ k.esz = 0)) ∧ OutN H (R.take n) (.slice (some ⟨b, 0, none⟩) n cap) := by
  rcases h with h | ⟨b, cap, cs, k, e, hc, hb, hz, hl, ht⟩
  · exact .inl h
  · have hlen : (R.take n).length = n := by rw [List.length_take]; omega
    refine .inr ⟨b, cap, e, hc, ⟨cs, k, hb, hz⟩, .inr ⟨b, cap, cs, k, by rw [hlen], by omega, hb, hz, by omega, ?_⟩⟩
    rw [hlen, ← ndsC_take, ← ht, List.take_take, Nat.min_eq_left (by omega)]
theorem OutN.rd {H : AHeap} {R : List Nd} {v : Value} (h : OutN H R v) : RdN H 4 v (R.map ndC) := by
  rcases h with ⟨rfl, rfl⟩ | ⟨b, cap, cs, k, rfl, hc, hb, hz, hl, ht⟩
  · exact .inl ⟨rfl, rfl⟩
  · refine .inr ⟨b, 0, cap, cs, k, by rw [List.length_map], hb, fun _ => by rw [List.length_map]; omega, fun j r hr => ?_⟩
    rw [List.getElem?_map] at hr
    obtain ⟨x, hx, rfl⟩ := Option.map_eq_some_iff.1 hr
    have hj := (List.getElem?_eq_some_iff.1 hx).1
    rw [List.getElem?_eq_getElem hj] at hx
    have := ndsC_at R j hj
    rw [← ht, List.drop_take, List.take_take, Nat.min_eq_left (by omega)] at this
    rw [Nat.zero_add, this, Option.some.inj hx]
/-- What Nearest gives. -/
def NearR (t : List UInt8) (l : List Nd) (n : Int) (H : AHeap) (r : ARes) (H1 : AHeap) : Prop := Frm [] H H1 ∧ if t.length = 20 ∧ l.all Nd.ok = true then (if n < 0 then r = .ret (.tuple ⟨[.slice none 0 0, .int .i64 7]⟩) else ∃ v' R, r = .ret (.tuple ⟨[v', .int .i64 0]⟩) ∧ NodesOf t l R ∧ OutN H1 (R.take (min n (R.length : Int)).toNat) v') else r = .ret (.tuple ⟨[.slice none 0 0, .int .i64 1]⟩)
theorem Nearest (t : List UInt8) (l : List Nd) (n : Int) (hl : l.length ≤ 30) (v : Value) (H : AHeap) (hv : RdK H 4 v (l.map ndC)) : AC Try.prog 22 [.string (bs t), v, .int .i64 n] H (NearR t l n H) := by
  have hS := Sorted t l hl v H hv
  refine AC.enter Try.func22 rfl (by kernel_rfl) 29 rfl [.tmp 6, .tmp 7] rfl (by simp) fun hsc B => ?_
  repeat first
    | with_reducible refine AWP.seq ?_
    | ((with_reducible refine AWP.region ?_ ?_); exact rfl)
    | with_reducible refine AWP.block ?_
    | with_reducible refine AWP.skip ?_
    | with_reducible refine AWP.exit ?_
    | with_reducible refine AWP.ret ?_
    | with_reducible refine AWP.label ?_
    | with_reducible refine AWP.goto ?_
    | ((with_reducible refine AWP.condT ?_ ?_); focus (simp only [ev, lk_cons, ↓reduceIte, Nat.reduceEqDiff]; done))
    | ((with_reducible refine AWP.condF ?_ ?_); focus (simp only [ev, lk_cons, ↓reduceIte, Nat.reduceEqDiff]; done))
    | simp only [go_sem, ↓reduceIte, Nat.reduceEqDiff, reduceCtorEq, Nat.reduceAdd, Int.reduceEq, Int.reduceBNe, Int.reduceBEq, Int.reduceToNat, Int.reduceLT, Int.reduceLE, Int.reduceGT, Int.reduceGE, Nat.reduceSub, Nat.reduceBEq, Nat.reduceBNe, Int.reduceAdd, Int.reduceSub, Int.reduceMul, Int.reduceNeg, Nat.reduceMul, Nat.reduceLeDiff, Nat.reduceLT]
    | simp (disch := omega) only [wi64, wu8, wu16, wu32, wu64, Int.tdiv_eq_ediv_of_nonneg, Int.tmod_eq_emod_of_nonneg]
    | with_reducible_and_instances exact finR
    | ((with_reducible refine finR' ?_ ?_) <;> rfl)
    | ((with_reducible refine finD hsc (NRel.of_plain ?_)); exact rfl)
  refine AC.mono hS ?_
  rintro r H1 ⟨hf, h⟩
  by_cases hc : t.length = 20 ∧ l.all Nd.ok = true
  · rw [if_pos hc] at h
    obtain ⟨v', R, rfl, hR, ho⟩ := h
    by_cases hn : n < 0
    · repeat first
        | with_reducible refine AWP.seq ?_
        | ((with_reducible refine AWP.region ?_ ?_); exact rfl)
        | with_reducible refine AWP.block ?_
        | with_reducible refine AWP.skip ?_
        | with_reducible refine AWP.exit ?_
        | with_reducible refine AWP.ret ?_
        | with_reducible refine AWP.label ?_
        | with_reducible refine AWP.goto ?_
        | ((with_reducible refine AWP.condT ?_ ?_); focus (simp only [ev, lk_cons, ↓reduceIte, Nat.reduceEqDiff]; done))
        | ((with_reducible refine AWP.condF ?_ ?_); focus (simp only [ev, lk_cons, ↓reduceIte, Nat.reduceEqDiff]; done))
        | simp only [go_sem, ↓reduceIte, Nat.reduceEqDiff, reduceCtorEq, Nat.reduceAdd, Int.reduceEq, Int.reduceBNe, Int.reduceBEq, Int.reduceToNat, Int.reduceLT, Int.reduceLE, Int.reduceGT, Int.reduceGE, Nat.reduceSub, Nat.reduceBEq, Nat.reduceBNe, Int.reduceAdd, Int.reduceSub, Int.reduceMul, Int.reduceNeg, Nat.reduceMul, Nat.reduceLeDiff, Nat.reduceLT, hn]
        | simp (disch := omega) only [wi64, wu8, wu16, wu32, wu64, Int.tdiv_eq_ediv_of_nonneg, Int.tmod_eq_emod_of_nonneg]
        | with_reducible_and_instances exact finR
        | ((with_reducible refine finR' ?_ ?_) <;> rfl)
        | ((with_reducible refine finD hsc (NRel.of_plain ?_)); exact rfl)
      exact ⟨_, _, .refl _ _ _, hf, by rw [if_pos hc, if_pos hn]⟩
    · have hm0 : 0 ≤ min n (R.length : Int) := by omega
      have hm1 : min n (R.length : Int) ≤ (R.length : Int) := Int.min_le_right _ _
      have hot := ho.take (min n (R.length : Int)).toNat (by omega)
      rcases hot with ⟨rfl, rfl⟩ | ⟨b, cap, rfl, hcap, ⟨cs, k, hb, hz⟩, hot⟩
      · have hm : min n 0 = 0 := by omega
        repeat first
          | with_reducible refine AWP.seq ?_
          | ((with_reducible refine AWP.region ?_ ?_); exact rfl)
          | with_reducible refine AWP.block ?_
          | with_reducible refine AWP.skip ?_
          | with_reducible refine AWP.exit ?_
          | with_reducible refine AWP.ret ?_
          | with_reducible refine AWP.label ?_
          | with_reducible refine AWP.goto ?_
          | ((with_reducible refine AWP.condT ?_ ?_); focus (simp only [ev, lk_cons, ↓reduceIte, Nat.reduceEqDiff]; done))
          | ((with_reducible refine AWP.condF ?_ ?_); focus (simp only [ev, lk_cons, ↓reduceIte, Nat.reduceEqDiff]; done))
          | simp only [go_sem, ↓reduceIte, Nat.reduceEqDiff, reduceCtorEq, Nat.reduceAdd, Int.reduceEq, Int.reduceBNe, Int.reduceBEq, Int.reduceToNat, Int.reduceLT, Int.reduceLE, Int.reduceGT, Int.reduceGE, Nat.reduceSub, Nat.reduceBEq, Nat.reduceBNe, Int.reduceAdd, Int.reduceSub, Int.reduceMul, Int.reduceNeg, Nat.reduceMul, Nat.reduceLeDiff, Nat.reduceLT, hn, minMaxW, hm]
          | simp (disch := omega) only [wi64, wu8, wu16, wu32, wu64, Int.tdiv_eq_ediv_of_nonneg, Int.tmod_eq_emod_of_nonneg]
          | with_reducible_and_instances exact finR
          | ((with_reducible refine finR' ?_ ?_) <;> rfl)
          | ((with_reducible refine finD hsc (NRel.of_plain ?_)); exact rfl)
        refine ⟨fun h => rfl, rfl, ?_⟩
        repeat first
          | with_reducible refine AWP.seq ?_
          | ((with_reducible refine AWP.region ?_ ?_); exact rfl)
          | with_reducible refine AWP.block ?_
          | with_reducible refine AWP.skip ?_
          | with_reducible refine AWP.exit ?_
          | with_reducible refine AWP.ret ?_
          | with_reducible refine AWP.label ?_
          | with_reducible refine AWP.goto ?_
          | ((with_reducible refine AWP.condT ?_ ?_); focus (simp only [ev, lk_cons, ↓reduceIte, Nat.reduceEqDiff]; done))
          | ((with_reducible refine AWP.condF ?_ ?_); focus (simp only [ev, lk_cons, ↓reduceIte, Nat.reduceEqDiff]; done))
          | simp only [go_sem, ↓reduceIte, Nat.reduceEqDiff, reduceCtorEq, Nat.reduceAdd, Int.reduceEq, Int.reduceBNe, Int.reduceBEq, Int.reduceToNat, Int.reduceLT, Int.reduceLE, Int.reduceGT, Int.reduceGE, Nat.reduceSub, Nat.reduceBEq, Nat.reduceBNe, Int.reduceAdd, Int.reduceSub, Int.reduceMul, Int.reduceNeg, Nat.reduceMul, Nat.reduceLeDiff, Nat.reduceLT]
          | simp (disch := omega) only [wi64, wu8, wu16, wu32, wu64, Int.tdiv_eq_ediv_of_nonneg, Int.tmod_eq_emod_of_nonneg]
          | with_reducible_and_instances exact finR
          | ((with_reducible refine finR' ?_ ?_) <;> rfl)
          | ((with_reducible refine finD hsc (NRel.of_plain ?_)); exact rfl)
        exact ⟨_, _, .refl _ _ _, hf, by rw [if_pos hc, if_neg hn]; exact ⟨_, [], rfl, hR, .inl ⟨by simp, rfl⟩⟩⟩
      · obtain ⟨m, hm⟩ : ∃ m : Nat, min n (R.length : Int) = (m : Int) := ⟨(min n (R.length : Int)).toNat, by omega⟩
        rw [hm] at hot hm0 hm1
        rw [Int.toNat_natCast] at hot
        have hmc : (m : Int) ≤ (cap : Int) := by omega
        repeat first
          | with_reducible refine AWP.seq ?_
          | ((with_reducible refine AWP.region ?_ ?_); exact rfl)
          | with_reducible refine AWP.block ?_
          | with_reducible refine AWP.skip ?_
          | with_reducible refine AWP.exit ?_
          | with_reducible refine AWP.ret ?_
          | with_reducible refine AWP.label ?_
          | with_reducible refine AWP.goto ?_
          | ((with_reducible refine AWP.condT ?_ ?_); focus (simp only [ev, lk_cons, ↓reduceIte, Nat.reduceEqDiff]; done))
          | ((with_reducible refine AWP.condF ?_ ?_); focus (simp only [ev, lk_cons, ↓reduceIte, Nat.reduceEqDiff]; done))
          | simp only [go_sem, ↓reduceIte, Nat.reduceEqDiff, reduceCtorEq, Nat.reduceAdd, Int.reduceEq, Int.reduceBNe, Int.reduceBEq, Int.reduceToNat, Int.reduceLT, Int.reduceLE, Int.reduceGT, Int.reduceGE, Nat.reduceSub, Nat.reduceBEq, Nat.reduceBNe, Int.reduceAdd, Int.reduceSub, Int.reduceMul, Int.reduceNeg, Nat.reduceMul, Nat.reduceLeDiff, Nat.reduceLT, hn, minMaxW, hm, hb, hz, hmc]
          | simp (disch := omega) only [wi64, wu8, wu16, wu32, wu64, Int.tdiv_eq_ediv_of_nonneg, Int.tmod_eq_emod_of_nonneg]
          | with_reducible_and_instances exact finR
          | ((with_reducible refine finR' ?_ ?_) <;> rfl)
          | ((with_reducible refine finD hsc (NRel.of_plain ?_)); exact rfl)
        exact ⟨_, _, .refl _ _ _, hf, by rw [if_pos hc, if_neg hn]; exact ⟨_, R, rfl, hR, by rw [hm, Int.toNat_natCast]; exact hot⟩⟩
  · rw [if_neg hc] at h
    subst h
    repeat first
      | with_reducible refine AWP.seq ?_
      | ((with_reducible refine AWP.region ?_ ?_); exact rfl)
      | with_reducible refine AWP.block ?_
      | with_reducible refine AWP.skip ?_
      | with_reducible refine AWP.exit ?_
      | with_reducible refine AWP.ret ?_
      | with_reducible refine AWP.label ?_
      | with_reducible refine AWP.goto ?_
      | ((with_reducible refine AWP.condT ?_ ?_); focus (simp only [ev, lk_cons, ↓reduceIte, Nat.reduceEqDiff]; done))
      | ((with_reducible refine AWP.condF ?_ ?_); focus (simp only [ev, lk_cons, ↓reduceIte, Nat.reduceEqDiff]; done))
      | simp only [go_sem, ↓reduceIte, Nat.reduceEqDiff, reduceCtorEq, Nat.reduceAdd, Int.reduceEq, Int.reduceBNe, Int.reduceBEq, Int.reduceToNat, Int.reduceLT, Int.reduceLE, Int.reduceGT, Int.reduceGE, Nat.reduceSub, Nat.reduceBEq, Nat.reduceBNe, Int.reduceAdd, Int.reduceSub, Int.reduceMul, Int.reduceNeg, Nat.reduceMul, Nat.reduceLeDiff, Nat.reduceLT]
      | simp (disch := omega) only [wi64, wu8, wu16, wu32, wu64, Int.tdiv_eq_ediv_of_nonneg, Int.tmod_eq_emod_of_nonneg]
      | with_reducible_and_instances exact finR
      | ((with_reducible refine finR' ?_ ?_) <;> rfl)
      | ((with_reducible refine finD hsc (NRel.of_plain ?_)); exact rfl)
    exact ⟨_, _, .refl _ _ _, hf, by rw [if_neg hc]⟩
end Go.Proofs.Ytdbdnknnaekbhaa

