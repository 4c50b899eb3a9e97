/-
  The walk of sorted nodes: the specification's comparing.
-/
import Derived.Test.YtdbdnknnaekbhaaOQ
set_option linter.unusedVariables false
set_option linter.unusedSimpArgs false
set_option maxRecDepth 20000
set_option maxHeartbeats 4000000
namespace Go.Proofs.Ytdbdnknnaekbhaa
open Go Go.Aw Go.Proofs
theorem rordA_eq (a b : Ad) : rordA a b = ordA a b := by
  obtain ⟨f, i, p⟩ := a
  obtain ⟨f', i', p'⟩ := b
  unfold rordA ordA
  simp only [orL]
  have hs : cmpS i i' = if Op.bytesLess i i' then -1 else if i = i' then 0 else 1 := cmpS_less
  unfold cmpI
  rw [hs]
  have hself : Op.bytesLess i i = false := less_same i
  by_cases h1 : f < f'
  · simp [h1]
  · by_cases h2 : f = f'
    · subst h2
      cases h3 : Op.bytesLess i i' with
      | true =>
        have hne : i ≠ i' := fun e => by subst e; rw [hself] at h3; cases h3
        simp [hne]
      | false =>
        by_cases h4 : i = i'
        · subst h4
          by_cases h5 : p < p'
          · simp [h5]
          · by_cases h6 : p = p'
            · simp [h6]
            · have : p' < p := by omega
              simp [h5, h6, this]
        · simp [h4]
    · have : f' < f := by omega
      simp [h1, h2, this]
theorem cmpN_self {t : List UInt8} {x y : Nd} (h : x.id = y.id) : cmpN t x y = ordA x.a y.a := by
  unfold cmpN
  rw [h, show cmpS (dist t y.id) (dist t y.id) = 0 from cmpS_zero.2 rfl, orL2]
  simp
theorem cmpN_near {t : List UInt8} (ht : t.length = 20) {x y : Nd} (hx : x.id.length = 20) (hy : y.id.length = 20) (h : x.id ≠ y.id) : cmpN t x y = if Op.bytesLess (dist t x.id) (dist t y.id) then -1 else 1 := by
  have hs : cmpS (dist t x.id) (dist t y.id) = if Op.bytesLess (dist t x.id) (dist t y.id) then -1 else if dist t x.id = dist t y.id then 0 else 1 := cmpS_less
  unfold cmpN
  rw [orL2, hs, if_neg (fun e => h (dist_inj ht hx hy e))]
  split <;> rfl
theorem rCompare (t : List UInt8) (x y : Nd) (ht : t.length = 20) (hx : x.ok = true) (hy : y.ok = true) (H : AHeap) : ARet Try.prog 26 [.string (bs t), x.v, y.v] H (.int .i64 (cmpN t x y)) H := by
  have hx' := hx
  have hy' := hy
  unfold Nd.ok at hx' hy'
  simp only [Bool.and_eq_true, decide_eq_true_eq] at hx' hy'
  have hA := raCompare x.a y.a hx'.2 hy'.2
  rw [rordA_eq] at hA
  have hs1 := @cmpN_self t x y
  have hs2 := @cmpN_near t ht x y hx'.1 hy'.1
  have hN := rNearer t x.id y.id ht hx'.1 hy'.1
  rw [← near_eq t x.id y.id ht hx'.1 hy'.1] at hN
  obtain ⟨id, f, i, p⟩ := x
  obtain ⟨id', f', i', p'⟩ := y
  unfold Nd.v ndC
  unfold Ad.v at hA
  simp only at *
  generalize ordA _ _ = oc at *
  generalize Op.bytesLess (dist t id) (dist t id') = nb at *
  generalize cmpN t _ _ = cv at *
  by_cases he : id = id'
  · have he' : (id == id') = true := by simp [he]
    rw [hs1 he]
    refine AC.enter Try.func26 rfl (by kernel_rfl) 38 rfl [.tmp 6] rfl (by simp) fun hsc B => ?_
    repeat first
      | with_reducible refine AWP.seq ?_
      | ((with_reducible refine AWP.region ?_ ?_); exact rfl)
      | with_reducible refine AWP.block ?_
      | with_reducible refine AWP.skip ?_
      | with_reducible refine AWP.exit ?_
      | with_reducible refine AWP.ret ?_
      | with_reducible refine AWP.label ?_
      | with_reducible refine AWP.goto ?_
      | ((with_reducible refine AWP.condT ?_ ?_); focus (simp only [ev, lk_cons, ↓reduceIte, Nat.reduceEqDiff]; done))
      | ((with_reducible refine AWP.condF ?_ ?_); focus (simp only [ev, lk_cons, ↓reduceIte, Nat.reduceEqDiff]; done))
      | with_reducible refine (hA _).use ?_
      | simp only [go_sem, ↓reduceIte, Nat.reduceEqDiff, reduceCtorEq, Nat.reduceAdd, Int.reduceEq, Int.reduceBNe, Int.reduceBEq, Int.reduceToNat, Int.reduceLT, Int.reduceLE, Int.reduceGT, Int.reduceGE, Nat.reduceSub, Nat.reduceBEq, Nat.reduceBNe, Int.reduceAdd, Int.reduceSub, Int.reduceMul, Int.reduceNeg, Nat.reduceMul, Nat.reduceLeDiff, Nat.reduceLT, he', Bool.not_true, Bool.not_false]
      | simp (disch := omega) only [wi64, wu8, wu16, wu32, wu64, Int.tdiv_eq_ediv_of_nonneg, Int.tmod_eq_emod_of_nonneg]
      | with_reducible_and_instances exact finR
      | ((with_reducible refine finR' ?_ ?_) <;> rfl)
      | ((with_reducible refine finD hsc (NRel.of_plain ?_)); exact rfl)
  · have he' : (id == id') = false := by simp [he]
    rw [hs2 he]
    cases nb with
    | true =>
      refine AC.enter Try.func26 rfl (by kernel_rfl) 38 rfl [.tmp 6] rfl (by simp) fun hsc B => ?_
      repeat first
        | with_reducible refine AWP.seq ?_
        | ((with_reducible refine AWP.region ?_ ?_); exact rfl)
        | with_reducible refine AWP.block ?_
        | with_reducible refine AWP.skip ?_
        | with_reducible refine AWP.exit ?_
        | with_reducible refine AWP.ret ?_
        | with_reducible refine AWP.label ?_
        | with_reducible refine AWP.goto ?_
        | ((with_reducible refine AWP.condT ?_ ?_); focus (simp only [ev, lk_cons, ↓reduceIte, Nat.reduceEqDiff]; done))
        | ((with_reducible refine AWP.condF ?_ ?_); focus (simp only [ev, lk_cons, ↓reduceIte, Nat.reduceEqDiff]; done))
        | with_reducible refine (hN _).use ?_
        | simp only [go_sem, ↓reduceIte, Nat.reduceEqDiff, reduceCtorEq, Nat.reduceAdd, Int.reduceEq, Int.reduceBNe, Int.reduceBEq, Int.reduceToNat, Int.reduceLT, Int.reduceLE, Int.reduceGT, Int.reduceGE, Nat.reduceSub, Nat.reduceBEq, Nat.reduceBNe, Int.reduceAdd, Int.reduceSub, Int.reduceMul, Int.reduceNeg, Nat.reduceMul, Nat.reduceLeDiff, Nat.reduceLT, he', Bool.not_true, Bool.not_false]
        | simp (disch := omega) only [wi64, wu8, wu16, wu32, wu64, Int.tdiv_eq_ediv_of_nonneg, Int.tmod_eq_emod_of_nonneg]
        | with_reducible_and_instances exact finR
        | ((with_reducible refine finR' ?_ ?_) <;> rfl)
        | ((with_reducible refine finD hsc (NRel.of_plain ?_)); exact rfl)
    | false =>
      refine AC.enter Try.func26 rfl (by kernel_rfl) 38 rfl [.tmp 6] rfl (by simp) fun hsc B => ?_
      repeat first
        | with_reducible refine AWP.seq ?_
        | ((with_reducible refine AWP.region ?_ ?_); exact rfl)
        | with_reducible refine AWP.block ?_
        | with_reducible refine AWP.skip ?_
        | with_reducible refine AWP.exit ?_
        | with_reducible refine AWP.ret ?_
        | with_reducible refine AWP.label ?_
        | with_reducible refine AWP.goto ?_
        | ((with_reducible refine AWP.condT ?_ ?_); focus (simp only [ev, lk_cons, ↓reduceIte, Nat.reduceEqDiff]; done))
        | ((with_reducible refine AWP.condF ?_ ?_); focus (simp only [ev, lk_cons, ↓reduceIte, Nat.reduceEqDiff]; done))
        | with_reducible refine (hN _).use ?_
        | simp only [go_sem, ↓reduceIte, Nat.reduceEqDiff, reduceCtorEq, Nat.reduceAdd, Int.reduceEq, Int.reduceBNe, Int.reduceBEq, Int.reduceToNat, Int.reduceLT, Int.reduceLE, Int.reduceGT, Int.reduceGE, Nat.reduceSub, Nat.reduceBEq, Nat.reduceBNe, Int.reduceAdd, Int.reduceSub, Int.reduceMul, Int.reduceNeg, Nat.reduceMul, Nat.reduceLeDiff, Nat.reduceLT, he', Bool.not_true, Bool.not_false]
        | simp (disch := omega) only [wi64, wu8, wu16, wu32, wu64, Int.tdiv_eq_ediv_of_nonneg, Int.tmod_eq_emod_of_nonneg]
        | with_reducible_and_instances exact finR
        | ((with_reducible refine finR' ?_ ?_) <;> rfl)
        | ((with_reducible refine finD hsc (NRel.of_plain ?_)); exact rfl)
end Go.Proofs.Ytdbdnknnaekbhaa

