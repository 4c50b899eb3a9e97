/-
  The walk of tokens' specification: secrets, tokens, times, keepers that are made.
-/
import Derived.Test.YtmpkgdilmkeacaaDoorPI
set_option linter.unusedVariables false
set_option linter.unusedSimpArgs false
set_option maxRecDepth 20000
set_option maxHeartbeats 4000000
namespace Go.Proofs.YtmpkgdilmkeacaaDoor
open Go Go.Aw Go.Proofs Go.Shelf Go.RowKit Go.ChangeShapes
theorem rSecret (seed : List UInt8) (p : Int) (hs : seed.length ≤ 1000) (h0 : 0 ≤ p) (h1 : p ≤ 9223372036854775807) (H : AHeap) (hT : TabH H) : ARet Tryd.prog 101 [.string (bs seed), .int .i64 p] H (.string (bs (secL seed p))) H := by
  have hI := Itoa p (by omega) h1 H hT
  have hl := itoa_len p h0 h1
  have hS := refSum (seed ++ 47 :: Lib.itoa p) (by simp only [List.length_append, List.length_cons]; omega) H
  unfold secL
  refine AC.enter Tryd.func101 rfl (by kernel_rfl) 11 rfl [.tmp 4] rfl (by simp) fun hsc B => ?_
  repeat' first
    | omega
    | with_reducible refine And.intro ?_ ?_
    | with_reducible refine AWP.seq ?_
    | ((with_reducible refine AWP.region ?_ ?_); exact rfl)
    | with_reducible refine AWP.block ?_
    | with_reducible refine AWP.skip ?_
    | with_reducible refine AWP.exit ?_
    | with_reducible refine AWP.ret ?_
    | with_reducible refine AWP.label ?_
    | with_reducible refine AWP.goto ?_
    | ((with_reducible refine AWP.condT ?_ ?_); focus (simp only [ev, lk_cons, ↓reduceIte, Nat.reduceEqDiff]; done))
    | ((with_reducible refine AWP.condF ?_ ?_); focus (simp only [ev, lk_cons, ↓reduceIte, Nat.reduceEqDiff]; done))
    | with_reducible refine hI.use ?_
    | with_reducible refine hS.use ?_
    | simp only [go_sem, ↓reduceIte, Nat.reduceEqDiff, reduceCtorEq, Nat.reduceAdd, Int.reduceEq, Int.reduceBNe, Int.reduceBEq, Int.reduceToNat, Int.reduceLT, Int.reduceLE, Int.reduceGT, Int.reduceGE, Nat.reduceSub, Nat.reduceBEq, Nat.reduceBNe, Int.reduceAdd, Int.reduceSub, Int.reduceMul, Int.reduceNeg, Nat.reduceMul, Nat.reduceLeDiff, Nat.reduceLT]
    | simp (disch := omega) only [wi64, wu8, wu16, wu32, wu64, Int.tdiv_eq_ediv_of_nonneg, Int.tmod_eq_emod_of_nonneg]
    | with_reducible_and_instances exact finR
    | ((with_reducible refine finR' ?_ ?_) <;> rfl)
    | ((with_reducible refine finD hsc (NRel.of_plain ?_)); exact rfl)
theorem made (s : List UInt8) (hs : s.length ≤ 3000) (a : Ad) (h : a.ok = true) (H : AHeap) : ARet Tryd.prog 82 [.string (bs s), a.v] H (.string (bs (tokL s a))) H := by
  obtain ⟨f, ip, p⟩ := a
  have hkl := keyL_len h
  obtain ⟨hf, -⟩ := ok_fam h
  have hS := fun H => refSum (s ++ keyL ⟨f, ip, p⟩) (by rw [List.length_append]; omega) H
  have hsl := sumL_len (s ++ keyL ⟨f, ip, p⟩)
  have hkk : keyL ⟨f, ip, p⟩ = ip ++ [UInt8.ofNat f.toNat] := rfl
  unfold tokL Ad.v
  simp only at hf
  rw [hkk] at hS hsl ⊢
  have hipl : ip.length ≤ 16 := by omega
  rcases hf with ⟨rfl, hl⟩ | ⟨rfl, hl⟩
  · have e8 : u8s [.int .u8 4] = some [UInt8.ofNat (4 : Int).toNat] := rfl
    generalize UInt8.ofNat (4 : Int).toNat = rb at *
    generalize sumL (s ++ (ip ++ [rb])) = sm at *
    refine AC.enter Tryd.func82 rfl (by kernel_rfl) 17 rfl [.tmp 4] rfl (by simp) fun hsc B => ?_
    repeat' first
      | omega
      | with_reducible refine And.intro ?_ ?_
      | with_reducible refine AWP.seq ?_
      | ((with_reducible refine AWP.region ?_ ?_); exact rfl)
      | with_reducible refine AWP.block ?_
      | with_reducible refine AWP.skip ?_
      | with_reducible refine AWP.exit ?_
      | with_reducible refine AWP.ret ?_
      | with_reducible refine AWP.label ?_
      | with_reducible refine AWP.goto ?_
      | ((with_reducible refine AWP.condT ?_ ?_); focus (simp only [ev, lk_cons, ↓reduceIte, Nat.reduceEqDiff]; done))
      | ((with_reducible refine AWP.condF ?_ ?_); focus (simp only [ev, lk_cons, ↓reduceIte, Nat.reduceEqDiff]; done))
      | with_reducible refine (hS _).use ?_
      | simp only [go_sem, ↓reduceIte, Nat.reduceEqDiff, reduceCtorEq, Nat.reduceAdd, Int.reduceEq, Int.reduceBNe, Int.reduceBEq, Int.reduceToNat, Int.reduceLT, Int.reduceLE, Int.reduceGT, Int.reduceGE, Nat.reduceSub, Nat.reduceBEq, Nat.reduceBNe, Int.reduceAdd, Int.reduceSub, Int.reduceMul, Int.reduceNeg, Nat.reduceMul, Nat.reduceLeDiff, Nat.reduceLT, e8, hsl]
      | simp (disch := omega) only [wi64, wu8, wu16, wu32, wu64, Int.tdiv_eq_ediv_of_nonneg, Int.tmod_eq_emod_of_nonneg]
      | with_reducible_and_instances exact finR
      | ((with_reducible refine finR' ?_ ?_) <;> rfl)
      | ((with_reducible refine finD hsc (NRel.of_plain ?_)); exact rfl)
  · have e8 : u8s [.int .u8 6] = some [UInt8.ofNat (6 : Int).toNat] := rfl
    generalize UInt8.ofNat (6 : Int).toNat = rb at *
    generalize sumL (s ++ (ip ++ [rb])) = sm at *
    refine AC.enter Tryd.func82 rfl (by kernel_rfl) 17 rfl [.tmp 4] rfl (by simp) fun hsc B => ?_
    repeat' first
      | omega
      | with_reducible refine And.intro ?_ ?_
      | with_reducible refine AWP.seq ?_
      | ((with_reducible refine AWP.region ?_ ?_); exact rfl)
      | with_reducible refine AWP.block ?_
      | with_reducible refine AWP.skip ?_
      | with_reducible refine AWP.exit ?_
      | with_reducible refine AWP.ret ?_
      | with_reducible refine AWP.label ?_
      | with_reducible refine AWP.goto ?_
      | ((with_reducible refine AWP.condT ?_ ?_); focus (simp only [ev, lk_cons, ↓reduceIte, Nat.reduceEqDiff]; done))
      | ((with_reducible refine AWP.condF ?_ ?_); focus (simp only [ev, lk_cons, ↓reduceIte, Nat.reduceEqDiff]; done))
      | with_reducible refine (hS _).use ?_
      | simp only [go_sem, ↓reduceIte, Nat.reduceEqDiff, reduceCtorEq, Nat.reduceAdd, Int.reduceEq, Int.reduceBNe, Int.reduceBEq, Int.reduceToNat, Int.reduceLT, Int.reduceLE, Int.reduceGT, Int.reduceGE, Nat.reduceSub, Nat.reduceBEq, Nat.reduceBNe, Int.reduceAdd, Int.reduceSub, Int.reduceMul, Int.reduceNeg, Nat.reduceMul, Nat.reduceLeDiff, Nat.reduceLT, e8, hsl]
      | simp (disch := omega) only [wi64, wu8, wu16, wu32, wu64, Int.tdiv_eq_ediv_of_nonneg, Int.tmod_eq_emod_of_nonneg]
      | with_reducible_and_instances exact finR
      | ((with_reducible refine finR' ?_ ?_) <;> rfl)
      | ((with_reducible refine finD hsc (NRel.of_plain ?_)); exact rfl)
/-- The specification's keeper: seeds from times on; announces that were taken. -/
structure Rk where
  seeds : List (Int × List UInt8)
  per : Int
  most : Int
  now : Int
  taken : List (Int × List UInt8)
def prC (l : List (Int × List UInt8)) : List Value := l.flatMap fun e => [.int .i64 e.1, .string (bs e.2)]
theorem prC_cons (e : Int × List UInt8) (l : List (Int × List UInt8)) : prC (e :: l) = .int .i64 e.1 :: .string (bs e.2) :: prC l := rfl
theorem prC_len : ∀ l : List (Int × List UInt8), (prC l).length = l.length * 2
  | [] => rfl
  | e :: l => by rw [prC_cons, List.length_cons, List.length_cons, prC_len l, List.length_cons]; omega
theorem prC_append (a b : List (Int × List UInt8)) : prC (a ++ b) = prC a ++ prC b := by unfold prC; rw [List.flatMap_append]
theorem prC_at : ∀ (l : List (Int × List UInt8)) (n : Nat) (h : n < l.length), ((prC l).drop (n * 2)).take 2 = [.int .i64 l[n].1, .string (bs l[n].2)]
  | e :: l, 0, _ => rfl
  | e :: l, n + 1, h => by
    rw [prC_cons, show (n + 1) * 2 = n * 2 + 1 + 1 by omega, List.drop_succ_cons, List.drop_succ_cons]
    exact prC_at l n (by simpa using h)
theorem prC_scalar : ∀ l : List (Int × List UInt8), (prC l).all scalar = true
  | [] => rfl
  | e :: l => by rw [prC_cons, List.all_cons, List.all_cons, prC_scalar l]; rfl
def rkC (R : Rk) (js jt : Nat) : AObj := .cells [.slice (some ⟨js, 0, none⟩) R.seeds.length R.seeds.length, .int .i64 R.per, .int .i64 R.most, .int .i64 R.now, gS jt R.taken.length] ⟨106, 0, true, 0, none⟩
structure Rst (H : AHeap) (i js jt : Nat) (R : Rk) : Prop where
  at_ : H[i]? = some (rkC R js jt)
  hs : ∃ z, (z = 0 ∨ z = 2) ∧ H[js]? = some (.cells (prC R.seeds) ⟨102, z, true, 0, none⟩)
  ht : R.taken ≠ [] → ∃ z, (z = 0 ∨ z = 2) ∧ H[jt]? = some (.cells (prC R.taken) ⟨114, z, true, 0, none⟩)
  ne : R.seeds ≠ []
  tab : TabH H
  jl : jt < H.length
structure Rk.ok (R : Rk) : Prop where
  per0 : 1000 ≤ R.per
  per1 : R.per ≤ 10000000
  most0 : 0 ≤ R.most
  most1 : R.most ≤ 1000
  now0 : 0 ≤ R.now
  now1 : R.now ≤ 1000000000
  seeds : ∀ e ∈ R.seeds, 0 ≤ e.1 ∧ e.1 ≤ 1000000000 ∧ e.2.length ≤ 100
  sl : R.seeds.length ≤ 1000
  tl : R.taken.length ≤ 1000
def Rto (H : AHeap) (i js jt : Nat) (R : Rk) (H' : AHeap) : Prop := ∃ js' jt', Rst H' i js' jt' R ∧ Frm [i, js, jt] H H' ∧ (js' = js ∨ H.length ≤ js') ∧ (jt' = jt ∨ H.length ≤ jt')
theorem Rst.more {H : AHeap} {i js jt : Nat} {R : Rk} (h : Rst H i js jt R) (X : AHeap) : Rst (H ++ X) i js jt R := by
  obtain ⟨z, hz, h2⟩ := h.hs
  refine ⟨by rw [hgetl (lt_of_get h.at_)]; exact h.at_, ⟨z, hz, by rw [hgetl (lt_of_get h2)]; exact h2⟩, fun hn => ?_, h.ne, h.tab.more X, by rw [List.length_append]; have := h.jl; omega⟩
  obtain ⟨z, hz, h3⟩ := h.ht hn
  exact ⟨z, hz, by rw [hgetl (lt_of_get h3)]; exact h3⟩
theorem Rst.njs {H : AHeap} {i js jt : Nat} {R : Rk} (h : Rst H i js jt R) : i ≠ js := by
  intro e
  obtain ⟨z, hz, h2⟩ := h.hs
  have h1 := h.at_
  rw [e, h2] at h1
  simp [rkC] at h1
theorem Rst.njt {H : AHeap} {i js jt : Nat} {R : Rk} (h : Rst H i js jt R) (hn : R.taken ≠ []) : i ≠ jt := by
  intro e
  obtain ⟨z, hz, h2⟩ := h.ht hn
  have h1 := h.at_
  rw [e, h2] at h1
  simp [rkC] at h1
theorem Rst.nst {H : AHeap} {i js jt : Nat} {R : Rk} (h : Rst H i js jt R) (hn : R.taken ≠ []) : js ≠ jt := by
  intro e
  obtain ⟨z, hz, h2⟩ := h.ht hn
  obtain ⟨z', hz', h1⟩ := h.hs
  rw [e, h2] at h1
  simp at h1
theorem Rst.tabNe {H : AHeap} {i js jt : Nat} {R : Rk} (h : Rst H i js jt R) : ∀ e, ∀ s ∈ [i, js], H[s]? ≠ some (tabO e (Tryd.laysItoa_ren.g 17) .u64 Lib.pow10Tab) := by
  intro e s hs he
  simp only [List.mem_cons, List.not_mem_nil, or_false] at hs
  rcases hs with rfl | rfl
  · rw [h.at_] at he; unfold rkC tabO at he; simp at he
  · obtain ⟨z, hz, h2⟩ := h.hs
    rw [h2] at he; unfold tabO at he; simp at he
theorem Rst.tabNt {H : AHeap} {i js jt : Nat} {R : Rk} (h : Rst H i js jt R) (hn : R.taken ≠ []) : ∀ e, H[jt]? ≠ some (tabO e (Tryd.laysItoa_ren.g 17) .u64 Lib.pow10Tab) := by
  intro e he
  obtain ⟨z, hz, h2⟩ := h.ht hn
  rw [h2] at he; unfold tabO at he; simp at he
theorem Rto.refl {H : AHeap} {i js jt : Nat} {R : Rk} (h : Rst H i js jt R) : Rto H i js jt R H := ⟨js, jt, h, .refl _ _, .inl rfl, .inl rfl⟩
theorem Rto.behind {H X H' : AHeap} {i js jt : Nat} {R : Rk} (h : Rto (H ++ X) i js jt R H') : Rto H i js jt R H' := by
  obtain ⟨a, b, h1, h2, h3, h4⟩ := h
  rw [List.length_append] at h3 h4
  exact ⟨a, b, h1, Frm.behind h2, h3.imp id fun h => by omega, h4.imp id fun h => by omega⟩
theorem Rto.more {H H' X : AHeap} {i js jt : Nat} {R : Rk} (h : Rto H i js jt R H') : Rto H i js jt R (H' ++ X) := by
  obtain ⟨a, b, h1, h2, h3, h4⟩ := h
  exact ⟨a, b, h1.more X, Go.Aw.Frm.more h2, h3, h4⟩
/-- A later time. -/
theorem Rst.later {H : AHeap} {i js jt : Nat} {R : Rk} (h : Rst H i js jt R) (t : Int) : Rst (H.set i (rkC { R with now := t } js jt)) i js jt { R with now := t } := by
  have hil := lt_of_get h.at_
  obtain ⟨z, hz, h2⟩ := h.hs
  refine ⟨hset_self hil, ⟨z, hz, by rw [hset_ne h.njs]; exact h2⟩, fun hn => ?_, h.ne, ?_, by rw [List.length_set]; exact h.jl⟩
  · obtain ⟨z, hz, h3⟩ := h.ht hn
    exact ⟨z, hz, by rw [hset_ne (h.njt hn)]; exact h3⟩
  · exact h.tab.frm ((Frm.refl [i] H).set (.inl (by simp))) fun e s hs => h.tabNe e s (by simp only [List.mem_cons, List.not_mem_nil, or_false] at hs ⊢; exact .inl hs)
theorem Rto.later {H : AHeap} {i js jt : Nat} {R : Rk} (h : Rst H i js jt R) (t : Int) : Rto H i js jt { R with now := t } (H.set i (rkC { R with now := t } js jt)) :=
  ⟨js, jt, h.later t, (Frm.refl _ _).set (.inl (by simp)), .inl rfl, .inl rfl⟩
theorem Rst.out {H : AHeap} {i js jt : Nat} {R : Rk} (h : Rst H i js jt R) {n : Nat} (hn : H.length ≤ n) : n ∉ [i, js, jt] := by
  have h1 := lt_of_get h.at_
  obtain ⟨z, hz, h2⟩ := h.hs
  have h3 := lt_of_get h2
  have h4 := h.jl
  simp only [List.mem_cons, List.not_mem_nil, or_false]
  omega
/-- A list that grows: what becomes of the heap behind which the longer one is made. -/
theorem grow {P : Program} {e : TypeId} {size y i len : Nat} {cs : List Value} {v : Value} {H : AHeap} (hv : v = .slice none 0 0 ∧ cs = [] ∧ len = 0 ∨ v = .slice (some ⟨i, 0, none⟩) len len ∧ ∃ z, (z = 0 ∨ z = size) ∧ H[i]? = some (.cells cs ⟨e, z, true, 0, none⟩))
    (hl : cs.length = len * size) (hs : size ≠ 0) (h1 : (len + 1) * y ≤ 140737488355328) (h2 : len + 1 ≤ 4611686018427387904) :
    ∃ Hk : AHeap, Hk.length = H.length ∧ (∀ j, j ≠ i → Hk[j]? = H[j]?) ∧ ∀ (X : AHeap) (news : List Value) (K : Value → AHeap → Prop), news.length = size → K (.slice (some ⟨(H ++ X).length, 0, none⟩) (len + 1) (len + 1)) (Hk ++ (X ++ [.cells (cs ++ news) ⟨e, size, true, 0, none⟩])) → appendTo P e size y v 1 news (H ++ X) K := by
  rcases hv with ⟨rfl, rfl, rfl⟩ | ⟨rfl, z, hz, hi⟩
  · refine ⟨H, rfl, fun _ _ => rfl, fun X news K hn hk => ?_⟩
    refine appendTo_nil (by decide) (by omega) (by omega) ?_
    rw [List.append_assoc]
    exact hk
  · have hil := lt_of_get hi
    rcases hz with rfl | rfl
    · refine ⟨H, rfl, fun _ _ => rfl, fun X news K hn hk => ?_⟩
      unfold appendTo
      simp only [hgetl hil, hi]
      refine ⟨fun h => absurd h (by omega), fun _ => ⟨⟨by omega, h1, h2⟩, fun h => absurd rfl h.1, fun _ => ?_⟩⟩
      have : (cs.drop 0).take (len * size) = cs := by rw [List.drop_zero, ← hl, List.take_length]
      rw [this, List.append_assoc]
      exact hk
    · refine ⟨H.set i .dead, by rw [List.length_set], fun j hj => hset_ne (Ne.symm hj), fun X news K hn hk => ?_⟩
      refine appendTo_own (by rw [hgetl hil]; exact hi) hs hl (by decide) (by omega) (by omega) ?_
      rw [hsetl hil, List.append_assoc]
      exact hk
def timeE (now t : Int) : Int := if t < now ∨ t > 1000000000 then 7 else 0
theorem rTimeNo (R : Rk) (i js jt : Nat) (t : Int) (H : AHeap) (h : Rst H i js jt R) (ht : t < R.now ∨ t > 1000000000) : ARet Tryd.prog 86 [.pointer (some ⟨i, 0, none⟩), .int .i64 t] H (.int .i64 7) H := by
  have hi := h.at_
  unfold rkC at hi
  by_cases h1 : t < R.now
  · skip
    refine AC.enter Tryd.func86 rfl (by kernel_rfl) 19 rfl [.tmp 4] rfl (by simp) fun hsc B => ?_
    repeat first
      | with_reducible refine AWP.seq ?_
      | ((with_reducible refine AWP.region ?_ ?_); exact rfl)
      | with_reducible refine AWP.block ?_
      | with_reducible refine AWP.skip ?_
      | with_reducible refine AWP.exit ?_
      | with_reducible refine AWP.ret ?_
      | with_reducible refine AWP.label ?_
      | with_reducible refine AWP.goto ?_
      | ((with_reducible refine AWP.condT ?_ ?_); focus (simp only [ev, lk_cons, ↓reduceIte, Nat.reduceEqDiff]; done))
      | ((with_reducible refine AWP.condF ?_ ?_); focus (simp only [ev, lk_cons, ↓reduceIte, Nat.reduceEqDiff]; done))
      | simp only [go_sem, ↓reduceIte, Nat.reduceEqDiff, reduceCtorEq, Nat.reduceAdd, Int.reduceEq, Int.reduceBNe, Int.reduceBEq, Int.reduceToNat, Int.reduceLT, Int.reduceLE, Int.reduceGT, Int.reduceGE, Nat.reduceSub, Nat.reduceBEq, Nat.reduceBNe, Int.reduceAdd, Int.reduceSub, Int.reduceMul, Int.reduceNeg, Nat.reduceMul, Nat.reduceLeDiff, Nat.reduceLT, hi, h1]
      | simp (disch := omega) only [wi64, wu8, wu16, wu32, wu64, Int.tdiv_eq_ediv_of_nonneg, Int.tmod_eq_emod_of_nonneg]
      | with_reducible_and_instances exact finR
      | ((with_reducible refine finR' ?_ ?_) <;> rfl)
      | ((with_reducible refine finD hsc (NRel.of_plain ?_)); exact rfl)
  · have h2 : t > 1000000000 := by omega
    refine AC.enter Tryd.func86 rfl (by kernel_rfl) 19 rfl [.tmp 4] rfl (by simp) fun hsc B => ?_
    repeat first
      | with_reducible refine AWP.seq ?_
      | ((with_reducible refine AWP.region ?_ ?_); exact rfl)
      | with_reducible refine AWP.block ?_
      | with_reducible refine AWP.skip ?_
      | with_reducible refine AWP.exit ?_
      | with_reducible refine AWP.ret ?_
      | with_reducible refine AWP.label ?_
      | with_reducible refine AWP.goto ?_
      | ((with_reducible refine AWP.condT ?_ ?_); focus (simp only [ev, lk_cons, ↓reduceIte, Nat.reduceEqDiff]; done))
      | ((with_reducible refine AWP.condF ?_ ?_); focus (simp only [ev, lk_cons, ↓reduceIte, Nat.reduceEqDiff]; done))
      | simp only [go_sem, ↓reduceIte, Nat.reduceEqDiff, reduceCtorEq, Nat.reduceAdd, Int.reduceEq, Int.reduceBNe, Int.reduceBEq, Int.reduceToNat, Int.reduceLT, Int.reduceLE, Int.reduceGT, Int.reduceGE, Nat.reduceSub, Nat.reduceBEq, Nat.reduceBNe, Int.reduceAdd, Int.reduceSub, Int.reduceMul, Int.reduceNeg, Nat.reduceMul, Nat.reduceLeDiff, Nat.reduceLT, hi, h1, h2]
      | simp (disch := omega) only [wi64, wu8, wu16, wu32, wu64, Int.tdiv_eq_ediv_of_nonneg, Int.tmod_eq_emod_of_nonneg]
      | with_reducible_and_instances exact finR
      | ((with_reducible refine finR' ?_ ?_) <;> rfl)
      | ((with_reducible refine finD hsc (NRel.of_plain ?_)); exact rfl)
theorem rTime (R : Rk) (i js jt : Nat) (t : Int) (H : AHeap) (h : Rst H i js jt R) (ht : ¬ (t < R.now ∨ t > 1000000000)) : ARet Tryd.prog 86 [.pointer (some ⟨i, 0, none⟩), .int .i64 t] H (.int .i64 0) (H.set i (rkC { R with now := t } js jt)) := by
  have hi := h.at_
  unfold rkC at hi ⊢
  have h1 : ¬ t < R.now := by omega
  have h2 : ¬ t > 1000000000 := by omega
  generalize gS jt R.taken.length = gt at *
  refine AC.enter Tryd.func86 rfl (by kernel_rfl) 19 rfl [.tmp 4] rfl (by simp) fun hsc B => ?_
  repeat first
    | with_reducible refine AWP.seq ?_
    | ((with_reducible refine AWP.region ?_ ?_); exact rfl)
    | with_reducible refine AWP.block ?_
    | with_reducible refine AWP.skip ?_
    | with_reducible refine AWP.exit ?_
    | with_reducible refine AWP.ret ?_
    | with_reducible refine AWP.label ?_
    | with_reducible refine AWP.goto ?_
    | ((with_reducible refine AWP.condT ?_ ?_); focus (simp only [ev, lk_cons, ↓reduceIte, Nat.reduceEqDiff]; done))
    | ((with_reducible refine AWP.condF ?_ ?_); focus (simp only [ev, lk_cons, ↓reduceIte, Nat.reduceEqDiff]; done))
    | simp only [go_sem, ↓reduceIte, Nat.reduceEqDiff, reduceCtorEq, Nat.reduceAdd, Int.reduceEq, Int.reduceBNe, Int.reduceBEq, Int.reduceToNat, Int.reduceLT, Int.reduceLE, Int.reduceGT, Int.reduceGE, Nat.reduceSub, Nat.reduceBEq, Nat.reduceBNe, Int.reduceAdd, Int.reduceSub, Int.reduceMul, Int.reduceNeg, Nat.reduceMul, Nat.reduceLeDiff, Nat.reduceLT, hi, h1, h2]
    | simp (disch := omega) only [wi64, wu8, wu16, wu32, wu64, Int.tdiv_eq_ediv_of_nonneg, Int.tmod_eq_emod_of_nonneg]
    | with_reducible_and_instances exact finR
    | ((with_reducible refine finR' ?_ ?_) <;> rfl)
    | ((with_reducible refine finD hsc (NRel.of_plain ?_)); exact rfl)
def Rk.tell (R : Rk) (t : Int) : Rk := { R with now := t }
def rAskE (R : Rk) (t : Int) (a : Ad) : Int := if a.ok = false then 1 else timeE R.now t
def Rk.ask (R : Rk) (t : Int) (a : Ad) : Rk := if rAskE R t a = 0 then R.tell t else R
theorem rAskE0 {R : Rk} {t : Int} {a : Ad} (h : rAskE R t a = 0) : a.ok = true ∧ ¬ (t < R.now ∨ t > 1000000000) := by
  unfold rAskE timeE at h
  split at h
  · simp at h
  · rename_i h1
    split at h
    · simp at h
    · rename_i h2
      exact ⟨by simpa using h1, h2⟩
theorem rTell (R : Rk) (i js jt : Nat) (t : Int) (a : Ad) (H : AHeap) (h : Rst H i js jt R) : ARex Tryd.prog 81 [.pointer (some ⟨i, 0, none⟩), .int .i64 t, a.v] H (.int .i64 (rAskE R t a)) (Rto H i js jt (R.ask t a)) := by
  have hV := fun H => rValid a H
  by_cases ha : a.ok = false
  · have e : rAskE R t a = 1 := if_pos ha
    unfold Rk.ask
    rw [e]
    rw [ha] at hV
    obtain ⟨f, ip, p⟩ := a
    unfold Ad.v at *
    refine ARet.rex (H' := H) ?_ (Rto.refl h)
    refine AC.enter Tryd.func81 rfl (by kernel_rfl) 17 rfl [.tmp 6] rfl (by simp) fun hsc B => ?_
    repeat first
      | with_reducible refine AWP.seq ?_
      | ((with_reducible refine AWP.region ?_ ?_); exact rfl)
      | with_reducible refine AWP.block ?_
      | with_reducible refine AWP.skip ?_
      | with_reducible refine AWP.exit ?_
      | with_reducible refine AWP.ret ?_
      | with_reducible refine AWP.label ?_
      | with_reducible refine AWP.goto ?_
      | ((with_reducible refine AWP.condT ?_ ?_); focus (simp only [ev, lk_cons, ↓reduceIte, Nat.reduceEqDiff]; done))
      | ((with_reducible refine AWP.condF ?_ ?_); focus (simp only [ev, lk_cons, ↓reduceIte, Nat.reduceEqDiff]; done))
      | with_reducible refine (hV _).use ?_
      | simp only [go_sem, ↓reduceIte, Nat.reduceEqDiff, reduceCtorEq, Nat.reduceAdd, Int.reduceEq, Int.reduceBNe, Int.reduceBEq, Int.reduceToNat, Int.reduceLT, Int.reduceLE, Int.reduceGT, Int.reduceGE, Nat.reduceSub, Nat.reduceBEq, Nat.reduceBNe, Int.reduceAdd, Int.reduceSub, Int.reduceMul, Int.reduceNeg, Nat.reduceMul, Nat.reduceLeDiff, Nat.reduceLT]
      | simp (disch := omega) only [wi64, wu8, wu16, wu32, wu64, Int.tdiv_eq_ediv_of_nonneg, Int.tmod_eq_emod_of_nonneg]
      | with_reducible_and_instances exact finR
      | ((with_reducible refine finR' ?_ ?_) <;> rfl)
      | ((with_reducible refine finD hsc (NRel.of_plain ?_)); exact rfl)
  have ha' : a.ok = true := by simpa using ha
  rw [ha'] at hV
  by_cases hb : t < R.now ∨ t > 1000000000
  · have e : rAskE R t a = 7 := by unfold rAskE timeE; rw [if_neg ha, if_pos hb]
    have hT := fun X => rTimeNo R i js jt t (H ++ X) (h.more X) hb
    unfold Rk.ask
    rw [e]
    obtain ⟨f, ip, p⟩ := a
    unfold Ad.v at *
    refine ARet.rex (H' := H) ?_ (Rto.refl h)
    refine AC.enter Tryd.func81 rfl (by kernel_rfl) 17 rfl [.tmp 6] rfl (by simp) fun hsc B => ?_
    repeat first
      | with_reducible refine AWP.seq ?_
      | ((with_reducible refine AWP.region ?_ ?_); exact rfl)
      | with_reducible refine AWP.block ?_
      | with_reducible refine AWP.skip ?_
      | with_reducible refine AWP.exit ?_
      | with_reducible refine AWP.ret ?_
      | with_reducible refine AWP.label ?_
      | with_reducible refine AWP.goto ?_
      | ((with_reducible refine AWP.condT ?_ ?_); focus (simp only [ev, lk_cons, ↓reduceIte, Nat.reduceEqDiff]; done))
      | ((with_reducible refine AWP.condF ?_ ?_); focus (simp only [ev, lk_cons, ↓reduceIte, Nat.reduceEqDiff]; done))
      | with_reducible refine (hV _).use ?_
      | with_reducible refine (hT _).use ?_
      | simp only [go_sem, ↓reduceIte, Nat.reduceEqDiff, reduceCtorEq, Nat.reduceAdd, Int.reduceEq, Int.reduceBNe, Int.reduceBEq, Int.reduceToNat, Int.reduceLT, Int.reduceLE, Int.reduceGT, Int.reduceGE, Nat.reduceSub, Nat.reduceBEq, Nat.reduceBNe, Int.reduceAdd, Int.reduceSub, Int.reduceMul, Int.reduceNeg, Nat.reduceMul, Nat.reduceLeDiff, Nat.reduceLT]
      | simp (disch := omega) only [wi64, wu8, wu16, wu32, wu64, Int.tdiv_eq_ediv_of_nonneg, Int.tmod_eq_emod_of_nonneg]
      | with_reducible_and_instances exact finR
      | ((with_reducible refine finR' ?_ ?_) <;> rfl)
      | ((with_reducible refine finD hsc (NRel.of_plain ?_)); exact rfl)
  · have e : rAskE R t a = 0 := by unfold rAskE timeE; rw [if_neg ha, if_neg hb]
    have hT := fun X => rTime R i js jt t (H ++ X) (h.more X) hb
    have hkk : R.ask t a = { R with now := t } := if_pos e
    rw [hkk, e]
    have hil := lt_of_get h.at_
    simp only [List.set_append_left _ _ hil] at hT
    obtain ⟨f, ip, p⟩ := a
    unfold Ad.v at *
    have hfin := (Rto.later h t).more (X := [.cells [.int .i64 f, .string (bs ip), .int .i64 p] ⟨23, 0, true, 0, none⟩])
    generalize H.set i (rkC { R with now := t } js jt) = HH at *
    refine AC.enter Tryd.func81 rfl (by kernel_rfl) 17 rfl [.tmp 6] rfl (by simp) fun hsc B => ?_
    repeat first
      | with_reducible refine AWP.seq ?_
      | ((with_reducible refine AWP.region ?_ ?_); exact rfl)
      | with_reducible refine AWP.block ?_
      | with_reducible refine AWP.skip ?_
      | with_reducible refine AWP.exit ?_
      | with_reducible refine AWP.ret ?_
      | with_reducible refine AWP.label ?_
      | with_reducible refine AWP.goto ?_
      | ((with_reducible refine AWP.condT ?_ ?_); focus (simp only [ev, lk_cons, ↓reduceIte, Nat.reduceEqDiff]; done))
      | ((with_reducible refine AWP.condF ?_ ?_); focus (simp only [ev, lk_cons, ↓reduceIte, Nat.reduceEqDiff]; done))
      | with_reducible refine (hV _).use ?_
      | with_reducible refine (hT _).use ?_
      | simp only [go_sem, ↓reduceIte, Nat.reduceEqDiff, reduceCtorEq, Nat.reduceAdd, Int.reduceEq, Int.reduceBNe, Int.reduceBEq, Int.reduceToNat, Int.reduceLT, Int.reduceLE, Int.reduceGT, Int.reduceGE, Nat.reduceSub, Nat.reduceBEq, Nat.reduceBNe, Int.reduceAdd, Int.reduceSub, Int.reduceMul, Int.reduceNeg, Nat.reduceMul, Nat.reduceLeDiff, Nat.reduceLT]
      | simp (disch := omega) only [wi64, wu8, wu16, wu32, wu64, Int.tdiv_eq_ediv_of_nonneg, Int.tmod_eq_emod_of_nonneg]
      | with_reducible_and_instances exact finR
      | ((with_reducible refine finR' ?_ ?_) <;> rfl)
      | ((with_reducible refine finD hsc (NRel.of_plain ?_)); exact rfl)
    exact ⟨_, _, .refl _ _ _, rfl, hfin⟩
theorem rNewA (seed : List UInt8) (p m : Int) (hs : (seed.length : Int) > 100) (H : AHeap) : ARet Tryd.prog 49 [.string (bs seed), .int .i64 p, .int .i64 m] H (.tuple ⟨[.pointer none, .int .i64 1]⟩) H := by
  refine AC.enter Tryd.func49 rfl (by kernel_rfl) 34 rfl [.tmp 6, .tmp 7] rfl (by simp) fun hsc B => ?_
  repeat first
    | with_reducible refine AWP.seq ?_
    | ((with_reducible refine AWP.region ?_ ?_); exact rfl)
    | with_reducible refine AWP.block ?_
    | with_reducible refine AWP.skip ?_
    | with_reducible refine AWP.exit ?_
    | with_reducible refine AWP.ret ?_
    | with_reducible refine AWP.label ?_
    | with_reducible refine AWP.goto ?_
    | ((with_reducible refine AWP.condT ?_ ?_); focus (simp only [ev, lk_cons, ↓reduceIte, Nat.reduceEqDiff]; done))
    | ((with_reducible refine AWP.condF ?_ ?_); focus (simp only [ev, lk_cons, ↓reduceIte, Nat.reduceEqDiff]; done))
    | simp only [go_sem, ↓reduceIte, Nat.reduceEqDiff, reduceCtorEq, Nat.reduceAdd, Int.reduceEq, Int.reduceBNe, Int.reduceBEq, Int.reduceToNat, Int.reduceLT, Int.reduceLE, Int.reduceGT, Int.reduceGE, Nat.reduceSub, Nat.reduceBEq, Nat.reduceBNe, Int.reduceAdd, Int.reduceSub, Int.reduceMul, Int.reduceNeg, Nat.reduceMul, Nat.reduceLeDiff, Nat.reduceLT, hs]
    | simp (disch := omega) only [wi64, wu8, wu16, wu32, wu64, Int.tdiv_eq_ediv_of_nonneg, Int.tmod_eq_emod_of_nonneg]
    | with_reducible_and_instances exact finR
    | ((with_reducible refine finR' ?_ ?_) <;> rfl)
    | ((with_reducible refine finD hsc (NRel.of_plain ?_)); exact rfl)
theorem rNewB (seed : List UInt8) (p m : Int) (hs : ¬ (seed.length : Int) > 100) (h : p < 1000 ∨ p > 10000000 ∨ m < 0 ∨ m > 1000) (H : AHeap) : ARet Tryd.prog 49 [.string (bs seed), .int .i64 p, .int .i64 m] H (.tuple ⟨[.pointer none, .int .i64 7]⟩) H := by
  by_cases h1 : p < 1000
  · skip
    refine AC.enter Tryd.func49 rfl (by kernel_rfl) 34 rfl [.tmp 6, .tmp 7] rfl (by simp) fun hsc B => ?_
    repeat first
      | with_reducible refine AWP.seq ?_
      | ((with_reducible refine AWP.region ?_ ?_); exact rfl)
      | with_reducible refine AWP.block ?_
      | with_reducible refine AWP.skip ?_
      | with_reducible refine AWP.exit ?_
      | with_reducible refine AWP.ret ?_
      | with_reducible refine AWP.label ?_
      | with_reducible refine AWP.goto ?_
      | ((with_reducible refine AWP.condT ?_ ?_); focus (simp only [ev, lk_cons, ↓reduceIte, Nat.reduceEqDiff]; done))
      | ((with_reducible refine AWP.condF ?_ ?_); focus (simp only [ev, lk_cons, ↓reduceIte, Nat.reduceEqDiff]; done))
      | simp only [go_sem, ↓reduceIte, Nat.reduceEqDiff, reduceCtorEq, Nat.reduceAdd, Int.reduceEq, Int.reduceBNe, Int.reduceBEq, Int.reduceToNat, Int.reduceLT, Int.reduceLE, Int.reduceGT, Int.reduceGE, Nat.reduceSub, Nat.reduceBEq, Nat.reduceBNe, Int.reduceAdd, Int.reduceSub, Int.reduceMul, Int.reduceNeg, Nat.reduceMul, Nat.reduceLeDiff, Nat.reduceLT, hs, h1]
      | simp (disch := omega) only [wi64, wu8, wu16, wu32, wu64, Int.tdiv_eq_ediv_of_nonneg, Int.tmod_eq_emod_of_nonneg]
      | with_reducible_and_instances exact finR
      | ((with_reducible refine finR' ?_ ?_) <;> rfl)
      | ((with_reducible refine finD hsc (NRel.of_plain ?_)); exact rfl)
  · by_cases h2 : p > 10000000
    · skip
      refine AC.enter Tryd.func49 rfl (by kernel_rfl) 34 rfl [.tmp 6, .tmp 7] rfl (by simp) fun hsc B => ?_
      repeat first
        | with_reducible refine AWP.seq ?_
        | ((with_reducible refine AWP.region ?_ ?_); exact rfl)
        | with_reducible refine AWP.block ?_
        | with_reducible refine AWP.skip ?_
        | with_reducible refine AWP.exit ?_
        | with_reducible refine AWP.ret ?_
        | with_reducible refine AWP.label ?_
        | with_reducible refine AWP.goto ?_
        | ((with_reducible refine AWP.condT ?_ ?_); focus (simp only [ev, lk_cons, ↓reduceIte, Nat.reduceEqDiff]; done))
        | ((with_reducible refine AWP.condF ?_ ?_); focus (simp only [ev, lk_cons, ↓reduceIte, Nat.reduceEqDiff]; done))
        | simp only [go_sem, ↓reduceIte, Nat.reduceEqDiff, reduceCtorEq, Nat.reduceAdd, Int.reduceEq, Int.reduceBNe, Int.reduceBEq, Int.reduceToNat, Int.reduceLT, Int.reduceLE, Int.reduceGT, Int.reduceGE, Nat.reduceSub, Nat.reduceBEq, Nat.reduceBNe, Int.reduceAdd, Int.reduceSub, Int.reduceMul, Int.reduceNeg, Nat.reduceMul, Nat.reduceLeDiff, Nat.reduceLT, hs, h1, h2]
        | simp (disch := omega) only [wi64, wu8, wu16, wu32, wu64, Int.tdiv_eq_ediv_of_nonneg, Int.tmod_eq_emod_of_nonneg]
        | with_reducible_and_instances exact finR
        | ((with_reducible refine finR' ?_ ?_) <;> rfl)
        | ((with_reducible refine finD hsc (NRel.of_plain ?_)); exact rfl)
    · by_cases h3 : m < 0
      · skip
        refine AC.enter Tryd.func49 rfl (by kernel_rfl) 34 rfl [.tmp 6, .tmp 7] rfl (by simp) fun hsc B => ?_
        repeat first
          | with_reducible refine AWP.seq ?_
          | ((with_reducible refine AWP.region ?_ ?_); exact rfl)
          | with_reducible refine AWP.block ?_
          | with_reducible refine AWP.skip ?_
          | with_reducible refine AWP.exit ?_
          | with_reducible refine AWP.ret ?_
          | with_reducible refine AWP.label ?_
          | with_reducible refine AWP.goto ?_
          | ((with_reducible refine AWP.condT ?_ ?_); focus (simp only [ev, lk_cons, ↓reduceIte, Nat.reduceEqDiff]; done))
          | ((with_reducible refine AWP.condF ?_ ?_); focus (simp only [ev, lk_cons, ↓reduceIte, Nat.reduceEqDiff]; done))
          | simp only [go_sem, ↓reduceIte, Nat.reduceEqDiff, reduceCtorEq, Nat.reduceAdd, Int.reduceEq, Int.reduceBNe, Int.reduceBEq, Int.reduceToNat, Int.reduceLT, Int.reduceLE, Int.reduceGT, Int.reduceGE, Nat.reduceSub, Nat.reduceBEq, Nat.reduceBNe, Int.reduceAdd, Int.reduceSub, Int.reduceMul, Int.reduceNeg, Nat.reduceMul, Nat.reduceLeDiff, Nat.reduceLT, hs, h1, h2, h3]
          | simp (disch := omega) only [wi64, wu8, wu16, wu32, wu64, Int.tdiv_eq_ediv_of_nonneg, Int.tmod_eq_emod_of_nonneg]
          | with_reducible_and_instances exact finR
          | ((with_reducible refine finR' ?_ ?_) <;> rfl)
          | ((with_reducible refine finD hsc (NRel.of_plain ?_)); exact rfl)
      · have h4 : m > 1000 := by omega
        refine AC.enter Tryd.func49 rfl (by kernel_rfl) 34 rfl [.tmp 6, .tmp 7] rfl (by simp) fun hsc B => ?_
        repeat first
          | with_reducible refine AWP.seq ?_
          | ((with_reducible refine AWP.region ?_ ?_); exact rfl)
          | with_reducible refine AWP.block ?_
          | with_reducible refine AWP.skip ?_
          | with_reducible refine AWP.exit ?_
          | with_reducible refine AWP.ret ?_
          | with_reducible refine AWP.label ?_
          | with_reducible refine AWP.goto ?_
          | ((with_reducible refine AWP.condT ?_ ?_); focus (simp only [ev, lk_cons, ↓reduceIte, Nat.reduceEqDiff]; done))
          | ((with_reducible refine AWP.condF ?_ ?_); focus (simp only [ev, lk_cons, ↓reduceIte, Nat.reduceEqDiff]; done))
          | simp only [go_sem, ↓reduceIte, Nat.reduceEqDiff, reduceCtorEq, Nat.reduceAdd, Int.reduceEq, Int.reduceBNe, Int.reduceBEq, Int.reduceToNat, Int.reduceLT, Int.reduceLE, Int.reduceGT, Int.reduceGE, Nat.reduceSub, Nat.reduceBEq, Nat.reduceBNe, Int.reduceAdd, Int.reduceSub, Int.reduceMul, Int.reduceNeg, Nat.reduceMul, Nat.reduceLeDiff, Nat.reduceLT, hs, h1, h2, h3, h4]
          | simp (disch := omega) only [wi64, wu8, wu16, wu32, wu64, Int.tdiv_eq_ediv_of_nonneg, Int.tmod_eq_emod_of_nonneg]
          | with_reducible_and_instances exact finR
          | ((with_reducible refine finR' ?_ ?_) <;> rfl)
          | ((with_reducible refine finD hsc (NRel.of_plain ?_)); exact rfl)
def newR (seed : List UInt8) (p m : Int) : Rk := ⟨[(0, seed)], p, m, 0, []⟩
theorem rNewC (seed : List UInt8) (p m : Int) (hs : ¬ (seed.length : Int) > 100) (h1 : ¬ p < 1000) (h2 : ¬ p > 10000000) (h3 : ¬ m < 0) (h4 : ¬ m > 1000) (H : AHeap) :
    ARet Tryd.prog 49 [.string (bs seed), .int .i64 p, .int .i64 m] H (.tuple ⟨[.pointer (some ⟨H.length + 1, 0, none⟩), .int .i64 0]⟩) (H ++ [.cells [.int .i64 0, .string (bs seed)] ⟨102, 0, true, 0, none⟩, .cells [.slice (some ⟨H.length, 0, none⟩) 1 1, .int .i64 p, .int .i64 m, .int .i64 0, .slice none 0 0] ⟨106, 0, true, 0, none⟩]) := by
  refine AC.enter Tryd.func49 rfl (by kernel_rfl) 34 rfl [.tmp 6, .tmp 7] rfl (by simp) fun hsc B => ?_
  repeat first
    | with_reducible refine AWP.seq ?_
    | ((with_reducible refine AWP.region ?_ ?_); exact rfl)
    | with_reducible refine AWP.block ?_
    | with_reducible refine AWP.skip ?_
    | with_reducible refine AWP.exit ?_
    | with_reducible refine AWP.ret ?_
    | with_reducible refine AWP.label ?_
    | with_reducible refine AWP.goto ?_
    | ((with_reducible refine AWP.condT ?_ ?_); focus (simp only [ev, lk_cons, ↓reduceIte, Nat.reduceEqDiff]; done))
    | ((with_reducible refine AWP.condF ?_ ?_); focus (simp only [ev, lk_cons, ↓reduceIte, Nat.reduceEqDiff]; done))
    | simp only [go_sem, ↓reduceIte, Nat.reduceEqDiff, reduceCtorEq, Nat.reduceAdd, Int.reduceEq, Int.reduceBNe, Int.reduceBEq, Int.reduceToNat, Int.reduceLT, Int.reduceLE, Int.reduceGT, Int.reduceGE, Nat.reduceSub, Nat.reduceBEq, Nat.reduceBNe, Int.reduceAdd, Int.reduceSub, Int.reduceMul, Int.reduceNeg, Nat.reduceMul, Nat.reduceLeDiff, Nat.reduceLT, hs, h1, h2, h3, h4]
    | simp (disch := omega) only [wi64, wu8, wu16, wu32, wu64, Int.tdiv_eq_ediv_of_nonneg, Int.tmod_eq_emod_of_nonneg]
    | with_reducible_and_instances exact finR
    | ((with_reducible refine finR' ?_ ?_) <;> rfl)
    | ((with_reducible refine finD hsc (NRel.of_plain ?_)); exact rfl)
theorem newR_st {seed : List UInt8} {p m : Int} {H : AHeap} (hT : TabH H) : Rst (H ++ [.cells [.int .i64 0, .string (bs seed)] ⟨102, 0, true, 0, none⟩, .cells [.slice (some ⟨H.length, 0, none⟩) 1 1, .int .i64 p, .int .i64 m, .int .i64 0, .slice none 0 0] ⟨106, 0, true, 0, none⟩]) (H.length + 1) H.length (H.length + 1) (newR seed p m) :=
  ⟨by rw [hgetk rfl]; rfl, ⟨0, .inl rfl, by rw [hget0 rfl]; rfl⟩, fun h => absurd rfl h, by simp [newR], hT.more _, by simp⟩
end Go.Proofs.YtmpkgdilmkeacaaDoor
