/-
  The walk of tokens: lists of secrets, the program's and the specification's; that two lists of texts are the same.
-/
import Derived.Test.YtmpkgdilmkeacaaDoorS6
import Derived.Test.YtmpkgdilmkeacaaDoorAwC
set_option linter.unusedVariables false
set_option linter.unusedSimpArgs false
set_option maxRecDepth 20000
set_option maxHeartbeats 4000000
namespace Go.Proofs.YtmpkgdilmkeacaaDoor
open Go Go.Aw Go.Proofs Go.Shelf Go.RowKit Go.ChangeShapes
theorem SameT (va vb : Value) (l : List (List UInt8)) (H : AHeap) (h1 : Rd H va (strsC l)) (h2 : Rd H vb (strsC l)) (hl : l.length < 1099511627776) : ARet Tryd.prog 57 [va, vb] H (.bool true) H := by
  have q1 : ∀ H' K, lenW Tryd.prog 80 va H' K = K (.int .i64 (l.length : Nat)) H' := fun H' K => by rw [h1.lenW Tryd.underlying80, strsC_length]
  have q2 : ∀ H' K, lenW Tryd.prog 80 vb H' K = K (.int .i64 (l.length : Nat)) H' := fun H' K => by rw [h2.lenW Tryd.underlying80, strsC_length]
  have hz : ((l.length : Int) != (l.length : Int)) = false := by simp
  refine AC.enter Tryd.func57 rfl (by kernel_rfl) 26 rfl [.tmp 4] rfl (by simp) fun hsc B => ?_
  repeat first
    | with_reducible refine AWP.seq ?_
    | ((with_reducible refine AWP.region ?_ ?_); exact rfl)
    | with_reducible refine AWP.block ?_
    | with_reducible refine AWP.skip ?_
    | with_reducible refine AWP.exit ?_
    | with_reducible refine AWP.ret ?_
    | with_reducible refine AWP.label ?_
    | with_reducible refine AWP.goto ?_
    | ((with_reducible refine AWP.condT ?_ ?_); focus (simp only [ev, lk_cons, ↓reduceIte, Nat.reduceEqDiff]; done))
    | ((with_reducible refine AWP.condF ?_ ?_); focus (simp only [ev, lk_cons, ↓reduceIte, Nat.reduceEqDiff]; done))
    | simp only [go_sem, ↓reduceIte, Nat.reduceEqDiff, reduceCtorEq, Nat.reduceAdd, Int.reduceEq, Int.reduceBNe, Int.reduceBEq, Int.reduceToNat, Int.reduceLT, Int.reduceLE, Int.reduceGT, Int.reduceGE, Nat.reduceSub, Nat.reduceBEq, Nat.reduceBNe, Int.reduceAdd, Int.reduceSub, Int.reduceMul, Int.reduceNeg, Nat.reduceMul, Nat.reduceLeDiff, Nat.reduceLT, q1, q2, hz]
    | simp (disch := omega) only [wi64, wu8, wu16, wu32, wu64, Int.tdiv_eq_ediv_of_nonneg, Int.tmod_eq_emod_of_nonneg]
    | with_reducible_and_instances exact finR
    | ((with_reducible refine finR' ?_ ?_) <;> rfl)
    | ((with_reducible refine finD hsc (NRel.of_plain ?_)); exact rfl)
  refine AWP.loopP (fun n : Nat => ⟨[(0, va), (1, vb), (12, .int .i64 (l.length : Nat)), (13, .int .i64 (n : Nat))], [], H⟩) (fun n => n ≤ l.length) (fun n => l.length - n) 0 ?_ (Nat.zero_le _) ?_
  · exact Weak.env (by simp [envIn, lk_cons, wth_some])
  intro n hn
  by_cases hc : n < l.length
  · have hc' : (n : Int) < (l.length : Int) := by omega
    rcases h1 with ⟨rfl, e1⟩ | ⟨i, o, cap, cs, k, rfl, hi, hg⟩
    · have := congrArg List.length e1; rw [strsC_length, List.length_nil] at this; omega
    rcases h2 with ⟨rfl, e1⟩ | ⟨i2, o2, cap2, cs2, k2, rfl, hi2, hg2⟩
    · have := congrArg List.length e1; rw [strsC_length, List.length_nil] at this; omega
    have g1 := (hg n (by rw [strsC_length]; exact hc)).trans (strsC_get hc)
    have g2 := (hg2 n (by rw [strsC_length]; exact hc)).trans (strsC_get hc)
    have hb : (!(l[n] == l[n])) = false := by simp
    repeat first
      | with_reducible refine AWP.seq ?_
      | ((with_reducible refine AWP.region ?_ ?_); exact rfl)
      | with_reducible refine AWP.block ?_
      | with_reducible refine AWP.skip ?_
      | with_reducible refine AWP.exit ?_
      | with_reducible refine AWP.ret ?_
      | with_reducible refine AWP.label ?_
      | with_reducible refine AWP.goto ?_
      | ((with_reducible refine AWP.condT ?_ ?_); focus (simp only [ev, lk_cons, ↓reduceIte, Nat.reduceEqDiff]; done))
      | ((with_reducible refine AWP.condF ?_ ?_); focus (simp only [ev, lk_cons, ↓reduceIte, Nat.reduceEqDiff]; done))
      | simp only [go_sem, ↓reduceIte, Nat.reduceEqDiff, reduceCtorEq, Nat.reduceAdd, Int.reduceEq, Int.reduceBNe, Int.reduceBEq, Int.reduceToNat, Int.reduceLT, Int.reduceLE, Int.reduceGT, Int.reduceGE, Nat.reduceSub, Nat.reduceBEq, Nat.reduceBNe, Int.reduceAdd, Int.reduceSub, Int.reduceMul, Int.reduceNeg, Nat.reduceMul, Nat.reduceLeDiff, Nat.reduceLT, hc']
      | simp (disch := omega) only [wi64, wu8, wu16, wu32, wu64, Int.tdiv_eq_ediv_of_nonneg, Int.tmod_eq_emod_of_nonneg]
      | with_reducible_and_instances exact finR
      | ((with_reducible refine finR' ?_ ?_) <;> rfl)
      | ((with_reducible refine finD hsc (NRel.of_plain ?_)); exact rfl)
    refine AWP.regionK 9 (by kernel_rfl) (by decide) (by kernel_rfl) ?_
    repeat first
      | with_reducible refine AWP.seq ?_
      | ((with_reducible refine AWP.region ?_ ?_); exact rfl)
      | with_reducible refine AWP.block ?_
      | with_reducible refine AWP.skip ?_
      | with_reducible refine AWP.exit ?_
      | with_reducible refine AWP.ret ?_
      | with_reducible refine AWP.label ?_
      | with_reducible refine AWP.goto ?_
      | ((with_reducible refine AWP.condT ?_ ?_); focus (simp only [ev, lk_cons, ↓reduceIte, Nat.reduceEqDiff]; done))
      | ((with_reducible refine AWP.condF ?_ ?_); focus (simp only [ev, lk_cons, ↓reduceIte, Nat.reduceEqDiff]; done))
      | simp only [go_sem, ↓reduceIte, Nat.reduceEqDiff, reduceCtorEq, Nat.reduceAdd, Int.reduceEq, Int.reduceBNe, Int.reduceBEq, Int.reduceToNat, Int.reduceLT, Int.reduceLE, Int.reduceGT, Int.reduceGE, Nat.reduceSub, Nat.reduceBEq, Nat.reduceBNe, Int.reduceAdd, Int.reduceSub, Int.reduceMul, Int.reduceNeg, Nat.reduceMul, Nat.reduceLeDiff, Nat.reduceLT, hc', hi, hi2, g1, g2, strsC_length, hb]
      | simp (disch := omega) only [wi64, wu8, wu16, wu32, wu64, Int.tdiv_eq_ediv_of_nonneg, Int.tmod_eq_emod_of_nonneg]
      | with_reducible_and_instances exact finR
      | ((with_reducible refine finR' ?_ ?_) <;> rfl)
      | ((with_reducible refine finD hsc (NRel.of_plain ?_)); exact rfl)
    exact ⟨n + 1, Weak.env (by simp [envIn, lk_cons, wth_some]), by omega, by omega⟩
  · have hc' : ¬ (n : Int) < (l.length : Int) := by omega
    repeat first
      | with_reducible refine AWP.seq ?_
      | ((with_reducible refine AWP.region ?_ ?_); exact rfl)
      | with_reducible refine AWP.block ?_
      | with_reducible refine AWP.skip ?_
      | with_reducible refine AWP.exit ?_
      | with_reducible refine AWP.ret ?_
      | with_reducible refine AWP.label ?_
      | with_reducible refine AWP.goto ?_
      | ((with_reducible refine AWP.condT ?_ ?_); focus (simp only [ev, lk_cons, ↓reduceIte, Nat.reduceEqDiff]; done))
      | ((with_reducible refine AWP.condF ?_ ?_); focus (simp only [ev, lk_cons, ↓reduceIte, Nat.reduceEqDiff]; done))
      | simp only [go_sem, ↓reduceIte, Nat.reduceEqDiff, reduceCtorEq, Nat.reduceAdd, Int.reduceEq, Int.reduceBNe, Int.reduceBEq, Int.reduceToNat, Int.reduceLT, Int.reduceLE, Int.reduceGT, Int.reduceGE, Nat.reduceSub, Nat.reduceBEq, Nat.reduceBNe, Int.reduceAdd, Int.reduceSub, Int.reduceMul, Int.reduceNeg, Nat.reduceMul, Nat.reduceLeDiff, Nat.reduceLT, hc']
      | simp (disch := omega) only [wi64, wu8, wu16, wu32, wu64, Int.tdiv_eq_ediv_of_nonneg, Int.tmod_eq_emod_of_nonneg]
      | with_reducible_and_instances exact finR
      | ((with_reducible refine finR' ?_ ?_) <;> rfl)
      | ((with_reducible refine finD hsc (NRel.of_plain ?_)); exact rfl)
theorem strsC_take_snoc (l : List (List UInt8)) (n : Nat) (h : n < l.length) : strsC (l.take n) ++ [.string (bs l[n])] = strsC (l.take (n + 1)) := by
  rw [List.take_add_one, List.getElem?_eq_getElem h]
  unfold strsC
  rw [List.map_append]; rfl
/-- A list that was not there before. -/
def newV (H : AHeap) (v : Value) : Prop := ∀ b o n c, v = .slice (some ⟨b, o, none⟩) n c → H.length ≤ b
theorem newV_nil {H : AHeap} : newV H (.slice none 0 0) := fun b o n c e => by cases e
theorem newV_gS {H : AHeap} {j n : Nat} (h : H.length ≤ j) : newV H (gS j n) := by
  intro b o n' c e
  cases n with
  | zero => rw [gS_zero] at e; cases e
  | succ n => rw [gS_succ] at e; cases e; exact h
def SecP (H : AHeap) (i m : Nat) (K' : Kp) (l : List (List UInt8)) (e : Int) : ARes → AHeap → Prop := fun r H' => ∃ v, r = .ret (.tuple ⟨[v, .int .i64 e]⟩) ∧ Rd H' v (strsC l) ∧ newV H v ∧ Kto H i m K' H'
def Kp.at (K : Kp) (t : Int) : Kp := if timeE K.now t = 0 then K.tell t else K
def secrL (K : Kp) (t : Int) : List (List UInt8) := if timeE K.now t = 0 then (secsL (K.tell t)).map (·.1) else []
theorem secsL_le (K : Kp) : (secsL K).length ≤ 2 := by
  unfold secsL
  split
  · simp
  · split <;> simp
theorem Secrets (K : Kp) (hok : K.ok) (i m : Nat) (t : Int) (H : AHeap) (h : Kst H i m K) : AC Tryd.prog 55 [.pointer (some ⟨i, 0, none⟩), .int .i64 t] H (SecP H i m (K.at t) (secrL K t) (timeE K.now t)) := by
  have hh := h.hi
  unfold Kp.o at hh
  unfold Kp.at secrL
  by_cases ht : t < K.now ∨ t > 1000000000
  · have e : timeE K.now t = 7 := if_pos ht
    have hT := tellB i m K.seed K.old K.ch K.per K.most K.now K.cnt t H hh ht
    rw [e, if_neg (by decide), if_neg (by decide)]
    unfold SecP
    refine AC.enter Tryd.func55 rfl (by kernel_rfl) 24 rfl [.tmp 4, .tmp 5] rfl (by simp) fun hsc B => ?_
    repeat first
      | with_reducible refine AWP.seq ?_
      | ((with_reducible refine AWP.region ?_ ?_); exact rfl)
      | with_reducible refine AWP.block ?_
      | with_reducible refine AWP.skip ?_
      | with_reducible refine AWP.exit ?_
      | with_reducible refine AWP.ret ?_
      | with_reducible refine AWP.label ?_
      | with_reducible refine AWP.goto ?_
      | ((with_reducible refine AWP.condT ?_ ?_); focus (simp only [ev, lk_cons, ↓reduceIte, Nat.reduceEqDiff]; done))
      | ((with_reducible refine AWP.condF ?_ ?_); focus (simp only [ev, lk_cons, ↓reduceIte, Nat.reduceEqDiff]; done))
      | with_reducible refine hT.use ?_
      | simp only [go_sem, ↓reduceIte, Nat.reduceEqDiff, reduceCtorEq, Nat.reduceAdd, Int.reduceEq, Int.reduceBNe, Int.reduceBEq, Int.reduceToNat, Int.reduceLT, Int.reduceLE, Int.reduceGT, Int.reduceGE, Nat.reduceSub, Nat.reduceBEq, Nat.reduceBNe, Int.reduceAdd, Int.reduceSub, Int.reduceMul, Int.reduceNeg, Nat.reduceMul, Nat.reduceLeDiff, Nat.reduceLT]
      | simp (disch := omega) only [wi64, wu8, wu16, wu32, wu64, Int.tdiv_eq_ediv_of_nonneg, Int.tmod_eq_emod_of_nonneg]
      | with_reducible_and_instances exact finR
      | ((with_reducible refine finR' ?_ ?_) <;> rfl)
      | ((with_reducible refine finD hsc (NRel.of_plain ?_)); exact rfl)
    exact ⟨_, _, .refl _ _ _, _, rfl, Rd.nil, newV_nil, Kto.refl h⟩
  have e : timeE K.now t = 0 := if_neg ht
  have ht1 : ¬ t < K.now := fun h => ht (.inl h)
  have ht2 : ¬ t > 1000000000 := fun h => ht (.inr h)
  have hT := tell K hok i m t ht1 ht2 H h
  have hok1 := hok.tell ht1 ht2
  rw [e, if_pos rfl, if_pos rfl]
  have hle := secsL_le (K.tell t)
  have hseq := fun b m => secrets1 (K.tell t) hok1 b i m
  unfold secsA SecOk at hseq
  unfold SecP
  generalize K.tell t = K1 at *
  generalize secsL K1 = l at *
  refine AC.enter Tryd.func55 rfl (by kernel_rfl) 24 rfl [.tmp 4, .tmp 5] rfl (by simp) fun hsc B => ?_
  repeat first
    | with_reducible refine AWP.seq ?_
    | ((with_reducible refine AWP.region ?_ ?_); exact rfl)
    | with_reducible refine AWP.block ?_
    | with_reducible refine AWP.skip ?_
    | with_reducible refine AWP.exit ?_
    | with_reducible refine AWP.ret ?_
    | with_reducible refine AWP.label ?_
    | with_reducible refine AWP.goto ?_
    | ((with_reducible refine AWP.condT ?_ ?_); focus (simp only [ev, lk_cons, ↓reduceIte, Nat.reduceEqDiff]; done))
    | ((with_reducible refine AWP.condF ?_ ?_); focus (simp only [ev, lk_cons, ↓reduceIte, Nat.reduceEqDiff]; done))
    | simp only [go_sem, ↓reduceIte, Nat.reduceEqDiff, reduceCtorEq, Nat.reduceAdd, Int.reduceEq, Int.reduceBNe, Int.reduceBEq, Int.reduceToNat, Int.reduceLT, Int.reduceLE, Int.reduceGT, Int.reduceGE, Nat.reduceSub, Nat.reduceBEq, Nat.reduceBNe, Int.reduceAdd, Int.reduceSub, Int.reduceMul, Int.reduceNeg, Nat.reduceMul, Nat.reduceLeDiff, Nat.reduceLT]
    | simp (disch := omega) only [wi64, wu8, wu16, wu32, wu64, Int.tdiv_eq_ediv_of_nonneg, Int.tmod_eq_emod_of_nonneg]
    | with_reducible_and_instances exact finR
    | ((with_reducible refine finR' ?_ ?_) <;> rfl)
    | ((with_reducible refine finD hsc (NRel.of_plain ?_)); exact rfl)
  refine hT.use fun H1 hk => ?_
  have hk0 := hk
  obtain ⟨m1, hs1, hf1, hm1⟩ := hk
  have hil := lt_of_get hs1.hi
  repeat first
    | with_reducible refine AWP.seq ?_
    | ((with_reducible refine AWP.region ?_ ?_); exact rfl)
    | with_reducible refine AWP.block ?_
    | with_reducible refine AWP.skip ?_
    | with_reducible refine AWP.exit ?_
    | with_reducible refine AWP.ret ?_
    | with_reducible refine AWP.label ?_
    | with_reducible refine AWP.goto ?_
    | ((with_reducible refine AWP.condT ?_ ?_); focus (simp only [ev, lk_cons, ↓reduceIte, Nat.reduceEqDiff]; done))
    | ((with_reducible refine AWP.condF ?_ ?_); focus (simp only [ev, lk_cons, ↓reduceIte, Nat.reduceEqDiff]; done))
    | with_reducible refine (secrets _ _).use ?_
    | simp only [go_sem, ↓reduceIte, Nat.reduceEqDiff, reduceCtorEq, Nat.reduceAdd, Int.reduceEq, Int.reduceBNe, Int.reduceBEq, Int.reduceToNat, Int.reduceLT, Int.reduceLE, Int.reduceGT, Int.reduceGE, Nat.reduceSub, Nat.reduceBEq, Nat.reduceBNe, Int.reduceAdd, Int.reduceSub, Int.reduceMul, Int.reduceNeg, Nat.reduceMul, Nat.reduceLeDiff, Nat.reduceLT]
    | simp (disch := omega) only [wi64, wu8, wu16, wu32, wu64, Int.tdiv_eq_ediv_of_nonneg, Int.tmod_eq_emod_of_nonneg]
    | with_reducible_and_instances exact finR
    | ((with_reducible refine finR' ?_ ?_) <;> rfl)
    | ((with_reducible refine finD hsc (NRel.of_plain ?_)); exact rfl)
  refine AWP.rangeS (hseq (H1.length + 1) m1) rfl (by simp; have := hf1.1; omega) (by simp only [go_sem, ↓reduceIte, Nat.reduceEqDiff, reduceCtorEq, Nat.reduceAdd, Int.reduceEq, Int.reduceBNe, Int.reduceBEq, Int.reduceToNat, Int.reduceLT, Int.reduceLE, Int.reduceGT, Int.reduceGE, Nat.reduceSub, Nat.reduceBEq, Nat.reduceBNe, Int.reduceAdd, Int.reduceSub, Int.reduceMul, Int.reduceNeg, Nat.reduceMul, Nat.reduceLeDiff, Nat.reduceLT]) fun L hL =>
    ⟨fun n HH => ∃ k R, n ≤ l.length ∧ HH = H1 ++ (.cells [gS (H1.length + (k + 3)) n] ⟨80, 0, true, 0, none⟩ :: .cells [.pointer (some ⟨i, 0, none⟩)] ⟨26, 0, true, 0, none⟩ :: .loop L :: R) ∧ (0 < n → R[k]? = some (.cells (strsC ((l.map (·.1)).take n)) ⟨9, 1, true, 0, none⟩)), fun _ => False,
    ⟨0, [], Nat.zero_le _, by simp only [gS_zero, List.append_assoc, List.cons_append, List.nil_append], by simp⟩, fun n HH ⟨k, R, h1, h2, h3⟩ => h2 ▸ ⟨(by with_unfolding_all first | exact (hget0 rfl).trans rfl | exact (hgetk rfl).trans rfl), by rw [hgetl hil]; exact hs1.hi, hs1.tab.more _⟩, fun n HH X ⟨k, R, h1, h2, h3⟩ => ⟨k, R ++ X, h1, by rw [h2]; simp, fun h => by rw [List.getElem?_append_left (lt_of_get (h3 h))]; exact h3 h⟩, ?_, ?_⟩
  · rintro n args HH hargs ⟨k, R, hn, rfl, hR⟩
    have hnl : n < l.length := by
      have := (List.getElem?_eq_some_iff.1 hargs).1
      simpa using this
    have hargs' : args = [.string (bs l[n].1), .int .i64 l[n].2] := by
      rw [List.getElem?_map, List.getElem?_eq_getElem hnl] at hargs
      simpa using hargs.symm
    subst hargs'
    have hnm : n < (l.map (·.1)).length := by simpa using hnl
    have ht := strsC_take_snoc (l.map (·.1)) n hnm
    have hge : (l.map (·.1))[n] = l[n].1 := by simp
    rw [hge] at ht
    have hml : ((l.map (·.1)).take n).length = n := by rw [List.length_take]; omega
    generalize l[n].1 = sx at *
    generalize l[n].2 = ux at *
    simp only [go_sem, ↓reduceIte, Nat.reduceEqDiff, reduceCtorEq, Nat.reduceAdd, Int.reduceEq, Int.reduceBNe, Int.reduceBEq, Int.reduceToNat, Int.reduceLT, Int.reduceLE, Int.reduceGT, Int.reduceGE, Nat.reduceSub, Nat.reduceBEq, Nat.reduceBNe, Int.reduceAdd, Int.reduceSub, Int.reduceMul, Int.reduceNeg, Nat.reduceMul, Nat.reduceLeDiff, Nat.reduceLT]
    refine AY.of (L := L) (by simp only [go_sem, ↓reduceIte, Nat.reduceEqDiff, reduceCtorEq, Nat.reduceAdd, Int.reduceEq, Int.reduceBNe, Int.reduceBEq, Int.reduceToNat, Int.reduceLT, Int.reduceLE, Int.reduceGT, Int.reduceGE, Nat.reduceSub, Nat.reduceBEq, Nat.reduceBNe, Int.reduceAdd, Int.reduceSub, Int.reduceMul, Int.reduceNeg, Nat.reduceMul, Nat.reduceLeDiff, Nat.reduceLT]) (by rw [hL]) (by rw [hL]; rfl) (by rw [hL]; simp) fun hsc2 lr B2 => ?_
    subst hL
    simp only [zipEnv]
    repeat first
      | with_reducible refine AWP.seq ?_
      | ((with_reducible refine AWP.region ?_ ?_); exact rfl)
      | with_reducible refine AWP.block ?_
      | with_reducible refine AWP.skip ?_
      | with_reducible refine AWP.exit ?_
      | with_reducible refine AWP.ret ?_
      | with_reducible refine AWP.label ?_
      | with_reducible refine AWP.goto ?_
      | ((with_reducible refine AWP.condT ?_ ?_); focus (simp only [ev, lk_cons, ↓reduceIte, Nat.reduceEqDiff]; done))
      | ((with_reducible refine AWP.condF ?_ ?_); focus (simp only [ev, lk_cons, ↓reduceIte, Nat.reduceEqDiff]; done))
      | simp only [go_sem, ↓reduceIte, Nat.reduceEqDiff, reduceCtorEq, Nat.reduceAdd, Int.reduceEq, Int.reduceBNe, Int.reduceBEq, Int.reduceToNat, Int.reduceLT, Int.reduceLE, Int.reduceGT, Int.reduceGE, Nat.reduceSub, Nat.reduceBEq, Nat.reduceBNe, Int.reduceAdd, Int.reduceSub, Int.reduceMul, Int.reduceNeg, Nat.reduceMul, Nat.reduceLeDiff, Nat.reduceLT]
      | simp (disch := omega) only [wi64, wu8, wu16, wu32, wu64, Int.tdiv_eq_ediv_of_nonneg, Int.tmod_eq_emod_of_nonneg]
      | with_reducible_and_instances exact finR
      | ((with_reducible refine finR' ?_ ?_) <;> rfl)
      | ((with_reducible refine finD hsc (NRel.of_plain ?_)); exact rfl)
    rcases Nat.eq_zero_or_pos n with rfl | hpos
    · simp only [gS_zero]
      refine appendTo_nil (by decide) (by decide) (by decide) ?_
      repeat first
        | with_reducible refine AWP.seq ?_
        | ((with_reducible refine AWP.region ?_ ?_); exact rfl)
        | with_reducible refine AWP.block ?_
        | with_reducible refine AWP.skip ?_
        | with_reducible refine AWP.exit ?_
        | with_reducible refine AWP.ret ?_
        | with_reducible refine AWP.label ?_
        | with_reducible refine AWP.goto ?_
        | ((with_reducible refine AWP.condT ?_ ?_); focus (simp only [ev, lk_cons, ↓reduceIte, Nat.reduceEqDiff]; done))
        | ((with_reducible refine AWP.condF ?_ ?_); focus (simp only [ev, lk_cons, ↓reduceIte, Nat.reduceEqDiff]; done))
        | simp only [go_sem, ↓reduceIte, Nat.reduceEqDiff, reduceCtorEq, Nat.reduceAdd, Int.reduceEq, Int.reduceBNe, Int.reduceBEq, Int.reduceToNat, Int.reduceLT, Int.reduceLE, Int.reduceGT, Int.reduceGE, Nat.reduceSub, Nat.reduceBEq, Nat.reduceBNe, Int.reduceAdd, Int.reduceSub, Int.reduceMul, Int.reduceNeg, Nat.reduceMul, Nat.reduceLeDiff, Nat.reduceLT]
        | simp (disch := omega) only [wi64, wu8, wu16, wu32, wu64, Int.tdiv_eq_ediv_of_nonneg, Int.tmod_eq_emod_of_nonneg]
        | with_reducible_and_instances exact finR
        | ((with_reducible refine finR' ?_ ?_) <;> rfl)
        | ((with_reducible refine finD hsc (NRel.of_plain ?_)); exact rfl)
      refine ⟨_, .refl _ _ _, true, rfl, fun _ => ⟨by omega, R.length + 1, R ++ [AObj.cells [.string (bs sx)] ⟨9, 0, true, 0, none⟩, AObj.cells (strsC ((l.map (·.1)).take 1)) ⟨9, 1, true, 0, none⟩], ?_, ?_⟩, fun e => by cases e⟩
      · rw [← ht]
        simp [gS_succ, strsC, Nat.add_assoc]
      · simp
    · rw [gS_pos hpos]
      have hR' := hR hpos
      have hkR := lt_of_get hR'
      have hR2 : (R ++ [.cells [.string (bs sx)] ⟨9, 0, true, 0, none⟩])[k]? = some (.cells (strsC ((l.map (·.1)).take n)) ⟨9, 1, true, 0, none⟩) := by rw [List.getElem?_append_left hkR]; exact hR'
      refine appendTo_own (cs := strsC ((l.map (·.1)).take n)) (by simp only [go_sem, ↓reduceIte, Nat.reduceEqDiff, reduceCtorEq, Nat.reduceAdd, Int.reduceEq, Int.reduceBNe, Int.reduceBEq, Int.reduceToNat, Int.reduceLT, Int.reduceLE, Int.reduceGT, Int.reduceGE, Nat.reduceSub, Nat.reduceBEq, Nat.reduceBNe, Int.reduceAdd, Int.reduceSub, Int.reduceMul, Int.reduceNeg, Nat.reduceMul, Nat.reduceLeDiff, Nat.reduceLT, hR2]) (by decide) (by rw [strsC_length, hml]; omega) (by decide) (by omega) (by omega) ?_
      repeat first
        | with_reducible refine AWP.seq ?_
        | ((with_reducible refine AWP.region ?_ ?_); exact rfl)
        | with_reducible refine AWP.block ?_
        | with_reducible refine AWP.skip ?_
        | with_reducible refine AWP.exit ?_
        | with_reducible refine AWP.ret ?_
        | with_reducible refine AWP.label ?_
        | with_reducible refine AWP.goto ?_
        | ((with_reducible refine AWP.condT ?_ ?_); focus (simp only [ev, lk_cons, ↓reduceIte, Nat.reduceEqDiff]; done))
        | ((with_reducible refine AWP.condF ?_ ?_); focus (simp only [ev, lk_cons, ↓reduceIte, Nat.reduceEqDiff]; done))
        | simp only [go_sem, ↓reduceIte, Nat.reduceEqDiff, reduceCtorEq, Nat.reduceAdd, Int.reduceEq, Int.reduceBNe, Int.reduceBEq, Int.reduceToNat, Int.reduceLT, Int.reduceLE, Int.reduceGT, Int.reduceGE, Nat.reduceSub, Nat.reduceBEq, Nat.reduceBNe, Int.reduceAdd, Int.reduceSub, Int.reduceMul, Int.reduceNeg, Nat.reduceMul, Nat.reduceLeDiff, Nat.reduceLT]
        | simp (disch := omega) only [wi64, wu8, wu16, wu32, wu64, Int.tdiv_eq_ediv_of_nonneg, Int.tmod_eq_emod_of_nonneg]
        | with_reducible_and_instances exact finR
        | ((with_reducible refine finR' ?_ ?_) <;> rfl)
        | ((with_reducible refine finD hsc (NRel.of_plain ?_)); exact rfl)
      refine ⟨_, .refl _ _ _, true, rfl, fun _ => ⟨by omega, R.length + 1, (R ++ [AObj.cells [.string (bs sx)] ⟨9, 0, true, 0, none⟩]).set k .dead ++ [AObj.cells (strsC ((l.map (·.1)).take (n + 1))) ⟨9, 1, true, 0, none⟩], ?_, ?_⟩, fun e => by cases e⟩
      · rw [← ht]
        simp [gS_succ, Nat.add_assoc]
      · rw [List.getElem?_append_right (by simp)]; simp
  · rintro H2 (⟨k, R, hn, rfl, hR⟩ | h)
    · subst hL
      rw [List.length_map] at *
      have hR' := fun h => hR h
      rw [show (l.map (·.1)).take l.length = l.map (·.1) from List.take_of_length_le (by simp)] at hR'
      repeat first
        | with_reducible refine AWP.seq ?_
        | ((with_reducible refine AWP.region ?_ ?_); exact rfl)
        | with_reducible refine AWP.block ?_
        | with_reducible refine AWP.skip ?_
        | with_reducible refine AWP.exit ?_
        | with_reducible refine AWP.ret ?_
        | with_reducible refine AWP.label ?_
        | with_reducible refine AWP.goto ?_
        | ((with_reducible refine AWP.condT ?_ ?_); focus (simp only [ev, lk_cons, ↓reduceIte, Nat.reduceEqDiff]; done))
        | ((with_reducible refine AWP.condF ?_ ?_); focus (simp only [ev, lk_cons, ↓reduceIte, Nat.reduceEqDiff]; done))
        | simp only [go_sem, ↓reduceIte, Nat.reduceEqDiff, reduceCtorEq, Nat.reduceAdd, Int.reduceEq, Int.reduceBNe, Int.reduceBEq, Int.reduceToNat, Int.reduceLT, Int.reduceLE, Int.reduceGT, Int.reduceGE, Nat.reduceSub, Nat.reduceBEq, Nat.reduceBNe, Int.reduceAdd, Int.reduceSub, Int.reduceMul, Int.reduceNeg, Nat.reduceMul, Nat.reduceLeDiff, Nat.reduceLT]
        | simp (disch := omega) only [wi64, wu8, wu16, wu32, wu64, Int.tdiv_eq_ediv_of_nonneg, Int.tmod_eq_emod_of_nonneg]
        | with_reducible_and_instances exact finR
        | ((with_reducible refine finR' ?_ ?_) <;> rfl)
        | ((with_reducible refine finD hsc (NRel.of_plain ?_)); exact rfl)
      refine ⟨_, _, .refl _ _ _, _, rfl, ?_, newV_gS (by have := hf1.1; omega), hk0.more⟩
      by_cases hz : l.length = 0
      · have : l = [] := List.eq_nil_of_length_eq_zero hz
        subst this
        exact Rd.nil
      · rw [gS_pos (by omega)]
        exact Rd.cells ((hgetk rfl).trans (hR' (by omega))) (by rw [strsC_length, List.length_map])
    · exact h.elim
def RSecP (H : AHeap) (i js jt : Nat) (R' : Rk) (l : List (List UInt8)) (e : Int) : ARes → AHeap → Prop := fun r H' => ∃ v, r = .ret (.tuple ⟨[v, .int .i64 e]⟩) ∧ Rd H' v (strsC l) ∧ newV H v ∧ Rst H' i js jt R' ∧ Frm [i, js, jt] H H'
def Rk.at (R : Rk) (t : Int) : Rk := if timeE R.now t = 0 then R.tell t else R
def rSecrL (R : Rk) (t : Int) : List (List UInt8) := if timeE R.now t = 0 then (holdsL (R.tell t)).map (·.1) else []
theorem rSecrets (R : Rk) (hok : R.ok) (i js jt : Nat) (t : Int) (H : AHeap) (h : Rst H i js jt R) : AC Tryd.prog 56 [.pointer (some ⟨i, 0, none⟩), .int .i64 t] H (RSecP H i js jt (R.at t) (rSecrL R t) (timeE R.now t)) := by
  unfold Rk.at rSecrL
  by_cases ht : t < R.now ∨ t > 1000000000
  · have e : timeE R.now t = 7 := if_pos ht
    have hT := rTimeNo R i js jt t H h ht
    rw [e, if_neg (by decide), if_neg (by decide)]
    unfold RSecP
    refine AC.enter Tryd.func56 rfl (by kernel_rfl) 32 rfl [.tmp 4, .tmp 5] rfl (by simp) fun hsc B => ?_
    repeat first
      | with_reducible refine AWP.seq ?_
      | ((with_reducible refine AWP.region ?_ ?_); exact rfl)
      | with_reducible refine AWP.block ?_
      | with_reducible refine AWP.skip ?_
      | with_reducible refine AWP.exit ?_
      | with_reducible refine AWP.ret ?_
      | with_reducible refine AWP.label ?_
      | with_reducible refine AWP.goto ?_
      | ((with_reducible refine AWP.condT ?_ ?_); focus (simp only [ev, lk_cons, ↓reduceIte, Nat.reduceEqDiff]; done))
      | ((with_reducible refine AWP.condF ?_ ?_); focus (simp only [ev, lk_cons, ↓reduceIte, Nat.reduceEqDiff]; done))
      | with_reducible refine hT.use ?_
      | simp only [go_sem, ↓reduceIte, Nat.reduceEqDiff, reduceCtorEq, Nat.reduceAdd, Int.reduceEq, Int.reduceBNe, Int.reduceBEq, Int.reduceToNat, Int.reduceLT, Int.reduceLE, Int.reduceGT, Int.reduceGE, Nat.reduceSub, Nat.reduceBEq, Nat.reduceBNe, Int.reduceAdd, Int.reduceSub, Int.reduceMul, Int.reduceNeg, Nat.reduceMul, Nat.reduceLeDiff, Nat.reduceLT]
      | simp (disch := omega) only [wi64, wu8, wu16, wu32, wu64, Int.tdiv_eq_ediv_of_nonneg, Int.tmod_eq_emod_of_nonneg]
      | with_reducible_and_instances exact finR
      | ((with_reducible refine finR' ?_ ?_) <;> rfl)
      | ((with_reducible refine finD hsc (NRel.of_plain ?_)); exact rfl)
    exact ⟨_, _, .refl _ _ _, _, rfl, Rd.nil, newV_nil, h, .refl _ _⟩
  have e : timeE R.now t = 0 := if_neg ht
  have hT := rTime R i js jt t H h ht
  have hok1 : (R.tell t).ok := hok.tell ht
  have hs1 : Rst (H.set i (rkC { R with now := t } js jt)) i js jt (R.tell t) := h.later t
  have hfr : Frm [i, js, jt] H (H.set i (rkC { R with now := t } js jt)) := (Frm.refl _ _).set (.inl (by simp))
  rw [e, if_pos rfl, if_pos rfl]
  have hLl : (H.set i (rkC { R with now := t } js jt)).length = H.length := List.length_set
  generalize H.set i (rkC { R with now := t } js jt) = H1 at *
  generalize R.tell t = R1 at *
  obtain ⟨z, hz, hH⟩ := holds R1 hok1 i js jt H1 hs1
  have hle := holdsL_le R1
  have hat := hoC_at (holdsL R1)
  have hcl := hoC_len (holdsL R1)
  generalize holdsL R1 = l at *
  unfold RSecP
  refine AC.enter Tryd.func56 rfl (by kernel_rfl) 32 rfl [.tmp 4, .tmp 5] rfl (by simp) fun hsc B => ?_
  repeat first
    | with_reducible refine AWP.seq ?_
    | ((with_reducible refine AWP.region ?_ ?_); exact rfl)
    | with_reducible refine AWP.block ?_
    | with_reducible refine AWP.skip ?_
    | with_reducible refine AWP.exit ?_
    | with_reducible refine AWP.ret ?_
    | with_reducible refine AWP.label ?_
    | with_reducible refine AWP.goto ?_
    | ((with_reducible refine AWP.condT ?_ ?_); focus (simp only [ev, lk_cons, ↓reduceIte, Nat.reduceEqDiff]; done))
    | ((with_reducible refine AWP.condF ?_ ?_); focus (simp only [ev, lk_cons, ↓reduceIte, Nat.reduceEqDiff]; done))
    | with_reducible refine hT.use ?_
    | with_reducible refine hH.use ?_
    | simp only [go_sem, ↓reduceIte, Nat.reduceEqDiff, reduceCtorEq, Nat.reduceAdd, Int.reduceEq, Int.reduceBNe, Int.reduceBEq, Int.reduceToNat, Int.reduceLT, Int.reduceLE, Int.reduceGT, Int.reduceGE, Nat.reduceSub, Nat.reduceBEq, Nat.reduceBNe, Int.reduceAdd, Int.reduceSub, Int.reduceMul, Int.reduceNeg, Nat.reduceMul, Nat.reduceLeDiff, Nat.reduceLT]
    | simp (disch := omega) only [wi64, wu8, wu16, wu32, wu64, Int.tdiv_eq_ediv_of_nonneg, Int.tmod_eq_emod_of_nonneg]
    | with_reducible_and_instances exact finR
    | ((with_reducible refine finR' ?_ ?_) <;> rfl)
    | ((with_reducible refine finD hsc (NRel.of_plain ?_)); exact rfl)
  refine AWP.loopP (fun s : Nat × Nat × AHeap => ⟨[(7, gS (H1.length + (s.2.1 + 1)) s.1), (19, .slice (some ⟨H1.length, 0, none⟩) l.length l.length), (20, .int .i64 (l.length : Nat)), (21, .int .i64 (s.1 : Nat))], [], H1 ++ (.cells (hoC l) ⟨109, z, true, 0, none⟩ :: s.2.2)⟩)
    (fun s => s.1 ≤ l.length ∧ (0 < s.1 → s.2.2[s.2.1]? = some (.cells (strsC ((l.map (·.1)).take s.1)) ⟨9, 1, true, 0, none⟩))) (fun s => l.length - s.1) (0, 0, []) ?_ ⟨Nat.zero_le _, fun h => absurd h (by decide)⟩ ?_
  · exact Weak.env (by simp [envIn, lk_cons, wth_some, gS_zero])
  rintro ⟨n, k, X⟩ ⟨hn, hX⟩
  simp only at hn hX ⊢
  by_cases hc : n < l.length
  · have hc' : (n : Int) < (l.length : Int) := by omega
    have hat1 := hat n hc
    have hnm : n < (l.map (·.1)).length := by simpa using hc
    have ht := strsC_take_snoc (l.map (·.1)) n hnm
    have hge : (l.map (·.1))[n] = l[n].1 := by simp
    rw [hge] at ht
    have hml : ((l.map (·.1)).take n).length = n := by rw [List.length_take]; omega
    have hle2 : n * 2 + 2 ≤ (hoC l).length := by omega
    have b0 : 0 + n * 2 = n * 2 := Nat.zero_add _
    generalize l[n].1 = sx at *
    generalize l[n].2 = ux at *
    repeat' first
      | omega
      | with_reducible refine And.intro ?_ ?_
      | with_reducible refine AWP.seq ?_
      | ((with_reducible refine AWP.region ?_ ?_); exact rfl)
      | with_reducible refine AWP.block ?_
      | with_reducible refine AWP.skip ?_
      | with_reducible refine AWP.exit ?_
      | with_reducible refine AWP.ret ?_
      | with_reducible refine AWP.label ?_
      | with_reducible refine AWP.goto ?_
      | ((with_reducible refine AWP.condT ?_ ?_); focus (simp only [ev, lk_cons, ↓reduceIte, Nat.reduceEqDiff]; done))
      | ((with_reducible refine AWP.condF ?_ ?_); focus (simp only [ev, lk_cons, ↓reduceIte, Nat.reduceEqDiff]; done))
      | simp only [go_sem, ↓reduceIte, Nat.reduceEqDiff, reduceCtorEq, Nat.reduceAdd, Int.reduceEq, Int.reduceBNe, Int.reduceBEq, Int.reduceToNat, Int.reduceLT, Int.reduceLE, Int.reduceGT, Int.reduceGE, Nat.reduceSub, Nat.reduceBEq, Nat.reduceBNe, Int.reduceAdd, Int.reduceSub, Int.reduceMul, Int.reduceNeg, Nat.reduceMul, Nat.reduceLeDiff, Nat.reduceLT, hc', hat1, hle2, b0]
      | simp (disch := omega) only [wi64, wu8, wu16, wu32, wu64, Int.tdiv_eq_ediv_of_nonneg, Int.tmod_eq_emod_of_nonneg]
      | with_reducible_and_instances exact finR
      | ((with_reducible refine finR' ?_ ?_) <;> rfl)
      | ((with_reducible refine finD hsc (NRel.of_plain ?_)); exact rfl)
    rcases Nat.eq_zero_or_pos n with rfl | hpos
    · simp only [gS_zero]
      refine appendTo_nil (by decide) (by decide) (by decide) ?_
      repeat first
        | with_reducible refine AWP.seq ?_
        | ((with_reducible refine AWP.region ?_ ?_); exact rfl)
        | with_reducible refine AWP.block ?_
        | with_reducible refine AWP.skip ?_
        | with_reducible refine AWP.exit ?_
        | with_reducible refine AWP.ret ?_
        | with_reducible refine AWP.label ?_
        | with_reducible refine AWP.goto ?_
        | ((with_reducible refine AWP.condT ?_ ?_); focus (simp only [ev, lk_cons, ↓reduceIte, Nat.reduceEqDiff]; done))
        | ((with_reducible refine AWP.condF ?_ ?_); focus (simp only [ev, lk_cons, ↓reduceIte, Nat.reduceEqDiff]; done))
        | simp only [go_sem, ↓reduceIte, Nat.reduceEqDiff, reduceCtorEq, Nat.reduceAdd, Int.reduceEq, Int.reduceBNe, Int.reduceBEq, Int.reduceToNat, Int.reduceLT, Int.reduceLE, Int.reduceGT, Int.reduceGE, Nat.reduceSub, Nat.reduceBEq, Nat.reduceBNe, Int.reduceAdd, Int.reduceSub, Int.reduceMul, Int.reduceNeg, Nat.reduceMul, Nat.reduceLeDiff, Nat.reduceLT]
        | simp (disch := omega) only [wi64, wu8, wu16, wu32, wu64, Int.tdiv_eq_ediv_of_nonneg, Int.tmod_eq_emod_of_nonneg]
        | with_reducible_and_instances exact finR
        | ((with_reducible refine finR' ?_ ?_) <;> rfl)
        | ((with_reducible refine finD hsc (NRel.of_plain ?_)); exact rfl)
      refine ⟨(1, X.length + 2, X ++ [AObj.cells [.string (bs sx), .int .i64 ux] ⟨109, 0, true, 0, none⟩, AObj.cells [.string (bs sx)] ⟨9, 0, true, 0, none⟩, AObj.cells [.string (bs sx)] ⟨9, 1, true, 0, none⟩]), ?_, by simp only; omega, fun _ => ?_, by simp only; omega⟩
      · exact Weak.env (by simp [envIn, lk_cons, wth_some, gS_succ])
      · simp only
        rw [← ht]
        rw [List.getElem?_append_right (by omega)]
        simp [strsC]
    · rw [gS_pos hpos]
      have hX' := hX hpos
      have hkX := lt_of_get hX'
      have hX2 : (X ++ [AObj.cells [.string (bs sx), .int .i64 ux] ⟨109, 0, true, 0, none⟩, AObj.cells [.string (bs sx)] ⟨9, 0, true, 0, none⟩])[k]? = some (.cells (strsC ((l.map (·.1)).take n)) ⟨9, 1, true, 0, none⟩) := by rw [List.getElem?_append_left hkX]; exact hX'
      refine appendTo_own (cs := strsC ((l.map (·.1)).take n)) (by simp only [go_sem, ↓reduceIte, Nat.reduceEqDiff, reduceCtorEq, Nat.reduceAdd, Int.reduceEq, Int.reduceBNe, Int.reduceBEq, Int.reduceToNat, Int.reduceLT, Int.reduceLE, Int.reduceGT, Int.reduceGE, Nat.reduceSub, Nat.reduceBEq, Nat.reduceBNe, Int.reduceAdd, Int.reduceSub, Int.reduceMul, Int.reduceNeg, Nat.reduceMul, Nat.reduceLeDiff, Nat.reduceLT, hX2]) (by decide) (by rw [strsC_length, hml]; omega) (by decide) (by omega) (by omega) ?_
      repeat first
        | with_reducible refine AWP.seq ?_
        | ((with_reducible refine AWP.region ?_ ?_); exact rfl)
        | with_reducible refine AWP.block ?_
        | with_reducible refine AWP.skip ?_
        | with_reducible refine AWP.exit ?_
        | with_reducible refine AWP.ret ?_
        | with_reducible refine AWP.label ?_
        | with_reducible refine AWP.goto ?_
        | ((with_reducible refine AWP.condT ?_ ?_); focus (simp only [ev, lk_cons, ↓reduceIte, Nat.reduceEqDiff]; done))
        | ((with_reducible refine AWP.condF ?_ ?_); focus (simp only [ev, lk_cons, ↓reduceIte, Nat.reduceEqDiff]; done))
        | simp only [go_sem, ↓reduceIte, Nat.reduceEqDiff, reduceCtorEq, Nat.reduceAdd, Int.reduceEq, Int.reduceBNe, Int.reduceBEq, Int.reduceToNat, Int.reduceLT, Int.reduceLE, Int.reduceGT, Int.reduceGE, Nat.reduceSub, Nat.reduceBEq, Nat.reduceBNe, Int.reduceAdd, Int.reduceSub, Int.reduceMul, Int.reduceNeg, Nat.reduceMul, Nat.reduceLeDiff, Nat.reduceLT]
        | simp (disch := omega) only [wi64, wu8, wu16, wu32, wu64, Int.tdiv_eq_ediv_of_nonneg, Int.tmod_eq_emod_of_nonneg]
        | with_reducible_and_instances exact finR
        | ((with_reducible refine finR' ?_ ?_) <;> rfl)
        | ((with_reducible refine finD hsc (NRel.of_plain ?_)); exact rfl)
      refine ⟨(n + 1, X.length + 2, (X ++ [AObj.cells [.string (bs sx), .int .i64 ux] ⟨109, 0, true, 0, none⟩, AObj.cells [.string (bs sx)] ⟨9, 0, true, 0, none⟩]).set k .dead ++ [AObj.cells (strsC ((l.map (·.1)).take n) ++ [.string (bs sx)]) ⟨9, 1, true, 0, none⟩]), ?_, by simp only; omega, fun _ => ?_, by simp only; omega⟩
      · refine Weak.env (by simp [envIn, lk_cons, wth_some, gS_succ])
      · simp only
        rw [← ht, List.getElem?_append_right (by simp)]; simp
  · have : n = l.length := by omega
    subst this
    have hc' : ¬ (l.length : Int) < (l.length : Int) := by omega
    have hX' := fun h => hX h
    rw [show (l.map (·.1)).take l.length = l.map (·.1) from List.take_of_length_le (by simp)] at hX'
    repeat first
      | with_reducible refine AWP.seq ?_
      | ((with_reducible refine AWP.region ?_ ?_); exact rfl)
      | with_reducible refine AWP.block ?_
      | with_reducible refine AWP.skip ?_
      | with_reducible refine AWP.exit ?_
      | with_reducible refine AWP.ret ?_
      | with_reducible refine AWP.label ?_
      | with_reducible refine AWP.goto ?_
      | ((with_reducible refine AWP.condT ?_ ?_); focus (simp only [ev, lk_cons, ↓reduceIte, Nat.reduceEqDiff]; done))
      | ((with_reducible refine AWP.condF ?_ ?_); focus (simp only [ev, lk_cons, ↓reduceIte, Nat.reduceEqDiff]; done))
      | simp only [go_sem, ↓reduceIte, Nat.reduceEqDiff, reduceCtorEq, Nat.reduceAdd, Int.reduceEq, Int.reduceBNe, Int.reduceBEq, Int.reduceToNat, Int.reduceLT, Int.reduceLE, Int.reduceGT, Int.reduceGE, Nat.reduceSub, Nat.reduceBEq, Nat.reduceBNe, Int.reduceAdd, Int.reduceSub, Int.reduceMul, Int.reduceNeg, Nat.reduceMul, Nat.reduceLeDiff, Nat.reduceLT, hc']
      | simp (disch := omega) only [wi64, wu8, wu16, wu32, wu64, Int.tdiv_eq_ediv_of_nonneg, Int.tmod_eq_emod_of_nonneg]
      | with_reducible_and_instances exact finR
      | ((with_reducible refine finR' ?_ ?_) <;> rfl)
      | ((with_reducible refine finD hsc (NRel.of_plain ?_)); exact rfl)
    refine ⟨_, _, .refl _ _ _, _, rfl, ?_, newV_gS (by omega), hs1.more _, hfr.more⟩
    by_cases hz : l.length = 0
    · have : l = [] := List.eq_nil_of_length_eq_zero hz
      subst this
      exact Rd.nil
    · rw [gS_pos (by omega)]
      exact Rd.cells ((hgetk rfl).trans (hX' (by omega))) (by rw [strsC_length, List.length_map])
end Go.Proofs.YtmpkgdilmkeacaaDoor
