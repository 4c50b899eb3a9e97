/-
  The walk of identifiers: the next one, both.
-/
import Derived.Test.YtmpkgdilmkeacaaDoorRF
set_option linter.unusedVariables false
set_option linter.unusedSimpArgs false
set_option maxRecDepth 20000
set_option maxHeartbeats 4000000
namespace Go.Proofs.YtmpkgdilmkeacaaDoor
open Go Go.Aw Go.Proofs Go.Shelf Go.RowKit Go.ChangeShapes
theorem rNext (s : List UInt8) (hs : s.length = 20) (H : AHeap) : ARet Tryd.prog 29 [.string (bs s)] H (.string (bs (nextL s))) H := by
  have hB := fun H => bitsF s hs H
  refine AC.enter Tryd.func29 rfl (by kernel_rfl) 25 rfl [.tmp 2] rfl (by simp) fun hsc B => ?_
  repeat first
    | with_reducible refine AWP.seq ?_
    | ((with_reducible refine AWP.region ?_ ?_); exact rfl)
    | with_reducible refine AWP.block ?_
    | with_reducible refine AWP.skip ?_
    | with_reducible refine AWP.exit ?_
    | with_reducible refine AWP.ret ?_
    | with_reducible refine AWP.label ?_
    | with_reducible refine AWP.goto ?_
    | ((with_reducible refine AWP.condT ?_ ?_); focus (simp only [ev, lk_cons, ↓reduceIte, Nat.reduceEqDiff]; done))
    | ((with_reducible refine AWP.condF ?_ ?_); focus (simp only [ev, lk_cons, ↓reduceIte, Nat.reduceEqDiff]; done))
    | with_reducible refine (hB _).use ?_
    | simp only [go_sem, ↓reduceIte, Nat.reduceEqDiff, reduceCtorEq, Nat.reduceAdd, Int.reduceEq, Int.reduceBNe, Int.reduceBEq, Int.reduceToNat, Int.reduceLT, Int.reduceLE, Int.reduceGT, Int.reduceGE, Nat.reduceSub, Nat.reduceBEq, Nat.reduceBNe, Int.reduceAdd, Int.reduceSub, Int.reduceMul, Int.reduceNeg, Nat.reduceMul, Nat.reduceLeDiff, Nat.reduceLT]
    | simp (disch := omega) only [wi64, wu8, wu16, wu32, wu64, Int.tdiv_eq_ediv_of_nonneg, Int.tmod_eq_emod_of_nonneg]
    | with_reducible_and_instances exact finR
    | ((with_reducible refine finR' ?_ ?_) <;> rfl)
    | ((with_reducible refine finD hsc (NRel.of_plain ?_)); exact rfl)
  refine AWP.loopP (fun j : Nat => ⟨[(3, .slice (some ⟨H.length, 0, none⟩) 160 160), (4, .int .i64 ((j : Int) - 1))], [], H ++ [.cells (boF (fun m => if m < j then bitAt s m else false)) ⟨4, 1, true, 0, none⟩]⟩) (fun j => j ≤ 160 ∧ onesFrom s j = true) (fun j => j) 160 ?_ ⟨Nat.le_refl _, onesFrom_iff.2 fun x h1 h2 => by omega⟩ ?_
  · have : boF (fun m => if m < 160 then bitAt s m else false) = boF (bitAt s) := boF_congr fun m hm => by rw [if_pos hm]
    rw [this]
    exact Weak.env (by simp [envIn, lk_cons, wth_some])
  rintro j ⟨h1, h2⟩
  rcases Nat.eq_zero_or_pos j with rfl | hpos
  · have hc' : ¬ ((0 : Nat) : Int) - 1 ≥ 0 := by omega
    have e : boF (fun m => if m < 0 then bitAt s m else false) = boF (fun m => bitAt s m != onesFrom s (m + 1)) := boF_congr fun m hm => by
      rw [if_neg (by omega), onesFrom_iff.1 h2 m (Nat.zero_le _) hm, onesFrom_iff.2 fun x hx hx2 => onesFrom_iff.1 h2 x (Nat.zero_le _) hx2]; rfl
    rw [e]
    repeat first
      | with_reducible refine AWP.seq ?_
      | ((with_reducible refine AWP.region ?_ ?_); exact rfl)
      | with_reducible refine AWP.block ?_
      | with_reducible refine AWP.skip ?_
      | with_reducible refine AWP.exit ?_
      | with_reducible refine AWP.ret ?_
      | with_reducible refine AWP.label ?_
      | with_reducible refine AWP.goto ?_
      | ((with_reducible refine AWP.condT ?_ ?_); focus (simp only [ev, lk_cons, ↓reduceIte, Nat.reduceEqDiff]; done))
      | ((with_reducible refine AWP.condF ?_ ?_); focus (simp only [ev, lk_cons, ↓reduceIte, Nat.reduceEqDiff]; done))
      | simp only [go_sem, ↓reduceIte, Nat.reduceEqDiff, reduceCtorEq, Nat.reduceAdd, Int.reduceEq, Int.reduceBNe, Int.reduceBEq, Int.reduceToNat, Int.reduceLT, Int.reduceLE, Int.reduceGT, Int.reduceGE, Nat.reduceSub, Nat.reduceBEq, Nat.reduceBNe, Int.reduceAdd, Int.reduceSub, Int.reduceMul, Int.reduceNeg, Nat.reduceMul, Nat.reduceLeDiff, Nat.reduceLT, hc']
      | simp (disch := omega) only [wi64, wu8, wu16, wu32, wu64, Int.tdiv_eq_ediv_of_nonneg, Int.tmod_eq_emod_of_nonneg]
      | with_reducible_and_instances exact finR
      | ((with_reducible refine finR' ?_ ?_) <;> rfl)
      | ((with_reducible refine finD hsc (NRel.of_plain ?_)); exact rfl)
    refine (fromF (fun m => bitAt s m != onesFrom s (m + 1)) (nextL s) (nextL_len s) (fun m hm => nextL_bit s m hm) H.length ⟨4, 1, true, 0, none⟩ 160 _ (hget0 rfl)).use ?_
    repeat first
      | with_reducible refine AWP.seq ?_
      | ((with_reducible refine AWP.region ?_ ?_); exact rfl)
      | with_reducible refine AWP.block ?_
      | with_reducible refine AWP.skip ?_
      | with_reducible refine AWP.exit ?_
      | with_reducible refine AWP.ret ?_
      | with_reducible refine AWP.label ?_
      | with_reducible refine AWP.goto ?_
      | ((with_reducible refine AWP.condT ?_ ?_); focus (simp only [ev, lk_cons, ↓reduceIte, Nat.reduceEqDiff]; done))
      | ((with_reducible refine AWP.condF ?_ ?_); focus (simp only [ev, lk_cons, ↓reduceIte, Nat.reduceEqDiff]; done))
      | simp only [go_sem, ↓reduceIte, Nat.reduceEqDiff, reduceCtorEq, Nat.reduceAdd, Int.reduceEq, Int.reduceBNe, Int.reduceBEq, Int.reduceToNat, Int.reduceLT, Int.reduceLE, Int.reduceGT, Int.reduceGE, Nat.reduceSub, Nat.reduceBEq, Nat.reduceBNe, Int.reduceAdd, Int.reduceSub, Int.reduceMul, Int.reduceNeg, Nat.reduceMul, Nat.reduceLeDiff, Nat.reduceLT]
      | simp (disch := omega) only [wi64, wu8, wu16, wu32, wu64, Int.tdiv_eq_ediv_of_nonneg, Int.tmod_eq_emod_of_nonneg]
      | with_reducible_and_instances exact finR
      | ((with_reducible refine finR' ?_ ?_) <;> rfl)
      | ((with_reducible refine finD hsc (NRel.of_plain ?_)); exact rfl)
  · obtain ⟨i, rfl⟩ : ∃ i, j = i + 1 := ⟨j - 1, by omega⟩
    have hi : i < 160 := by omega
    have hc' : (i : Int) ≥ 0 := by omega
    have hc2 : (i : Int) < 160 := by omega
    have hij : ((i + 1 : Nat) : Int) - 1 = (i : Int) := by omega
    have hl := boF_len (fun m => if m < i + 1 then bitAt s m else false)
    have hg : (boF (fun m => if m < i + 1 then bitAt s m else false))[i]? = some (.bool (bitAt s i)) := by rw [boF_at hi, if_pos (by omega)]
    have hli : i < (boF (fun m => if m < i + 1 then bitAt s m else false)).length := by omega
    rw [hij]
    cases hb : bitAt s i with
    | true =>
      rw [hb] at hg
      have hst : (boF (fun m => if m < i + 1 then bitAt s m else false)).set i (.bool false) = boF (fun m => if m < i then bitAt s m else false) := by
        refine boF_set hi (by rw [if_neg (by omega)]) fun m _ hm => ?_
        by_cases h : m < i
        · rw [if_pos h, if_pos (by omega)]
        · rw [if_neg h, if_neg (by omega)]
      have hg2 : (boF (fun m => if m < i then bitAt s m else false))[i]? = some (.bool false) := by rw [boF_at hi, if_neg (by omega)]
      have h2' : onesFrom s i = true := onesFrom_iff.2 fun x hx hx2 => by
        rcases Nat.lt_or_ge i x with h' | h'
        · exact onesFrom_iff.1 h2 x h' hx2
        · have : x = i := by omega
          rw [this]; exact hb
      generalize hx : boF (fun m => if m < i then bitAt s m else false) = c2 at *
      generalize boF (fun m => if m < i + 1 then bitAt s m else false) = c1 at *
      repeat first
        | with_reducible refine AWP.seq ?_
        | ((with_reducible refine AWP.region ?_ ?_); exact rfl)
        | with_reducible refine AWP.block ?_
        | with_reducible refine AWP.skip ?_
        | with_reducible refine AWP.exit ?_
        | with_reducible refine AWP.ret ?_
        | with_reducible refine AWP.label ?_
        | with_reducible refine AWP.goto ?_
        | ((with_reducible refine AWP.condT ?_ ?_); focus (simp only [ev, lk_cons, ↓reduceIte, Nat.reduceEqDiff]; done))
        | ((with_reducible refine AWP.condF ?_ ?_); focus (simp only [ev, lk_cons, ↓reduceIte, Nat.reduceEqDiff]; done))
        | simp only [go_sem, ↓reduceIte, Nat.reduceEqDiff, reduceCtorEq, Nat.reduceAdd, Int.reduceEq, Int.reduceBNe, Int.reduceBEq, Int.reduceToNat, Int.reduceLT, Int.reduceLE, Int.reduceGT, Int.reduceGE, Nat.reduceSub, Nat.reduceBEq, Nat.reduceBNe, Int.reduceAdd, Int.reduceSub, Int.reduceMul, Int.reduceNeg, Nat.reduceMul, Nat.reduceLeDiff, Nat.reduceLT, hc', hc2, hst, hl, hg, hg2]
        | simp (disch := omega) only [wi64, wu8, wu16, wu32, wu64, Int.tdiv_eq_ediv_of_nonneg, Int.tmod_eq_emod_of_nonneg]
        | with_reducible_and_instances exact finR
        | ((with_reducible refine finR' ?_ ?_) <;> rfl)
        | ((with_reducible refine finD hsc (NRel.of_plain ?_)); exact rfl)
      refine ⟨by omega, ?_⟩
      repeat first
        | with_reducible refine AWP.seq ?_
        | ((with_reducible refine AWP.region ?_ ?_); exact rfl)
        | with_reducible refine AWP.block ?_
        | with_reducible refine AWP.skip ?_
        | with_reducible refine AWP.exit ?_
        | with_reducible refine AWP.ret ?_
        | with_reducible refine AWP.label ?_
        | with_reducible refine AWP.goto ?_
        | ((with_reducible refine AWP.condT ?_ ?_); focus (simp only [ev, lk_cons, ↓reduceIte, Nat.reduceEqDiff]; done))
        | ((with_reducible refine AWP.condF ?_ ?_); focus (simp only [ev, lk_cons, ↓reduceIte, Nat.reduceEqDiff]; done))
        | simp only [go_sem, ↓reduceIte, Nat.reduceEqDiff, reduceCtorEq, Nat.reduceAdd, Int.reduceEq, Int.reduceBNe, Int.reduceBEq, Int.reduceToNat, Int.reduceLT, Int.reduceLE, Int.reduceGT, Int.reduceGE, Nat.reduceSub, Nat.reduceBEq, Nat.reduceBNe, Int.reduceAdd, Int.reduceSub, Int.reduceMul, Int.reduceNeg, Nat.reduceMul, Nat.reduceLeDiff, Nat.reduceLT, hst, hg2, hc2, hl]
        | simp (disch := omega) only [wi64, wu8, wu16, wu32, wu64, Int.tdiv_eq_ediv_of_nonneg, Int.tmod_eq_emod_of_nonneg]
        | with_reducible_and_instances exact finR
        | ((with_reducible refine finR' ?_ ?_) <;> rfl)
        | ((with_reducible refine finD hsc (NRel.of_plain ?_)); exact rfl)
      exact ⟨i, by rw [hx]; exact Weak.env (by simp [envIn, lk_cons, wth_some]), by omega, h2', by omega⟩
    | false =>
      rw [hb] at hg
      have hst : (boF (fun m => if m < i + 1 then bitAt s m else false)).set i (.bool true) = boF (fun m => bitAt s m != onesFrom s (m + 1)) := by
        refine boF_set hi (by rw [hb, h2]; rfl) fun m hm hne => ?_
        by_cases h : m < i + 1
        · rw [if_pos h, onesFrom_false (x := i) (by omega) hi hb]; simp
        · rw [if_neg h, onesFrom_iff.1 h2 m (by omega) hm, onesFrom_iff.2 fun x hx hx2 => onesFrom_iff.1 h2 x (by omega) hx2]; rfl
      have hg2 : (boF (fun m => bitAt s m != onesFrom s (m + 1)))[i]? = some (.bool true) := by rw [boF_at hi, hb, h2]; rfl
      have hF := fun H hi => fromF (fun m => bitAt s m != onesFrom s (m + 1)) (nextL s) (nextL_len s) (fun m hm => nextL_bit s m hm) H.length ⟨4, 1, true, 0, none⟩ 160 H hi
      have hF2 := fromF (fun m => bitAt s m != onesFrom s (m + 1)) (nextL s) (nextL_len s) (fun m hm => nextL_bit s m hm) H.length ⟨4, 1, true, 0, none⟩ 160 (H ++ [.cells (boF (fun m => bitAt s m != onesFrom s (m + 1))) ⟨4, 1, true, 0, none⟩]) (hget0 rfl)
      generalize boF (fun m => bitAt s m != onesFrom s (m + 1)) = c2 at *
      generalize boF (fun m => if m < i + 1 then bitAt s m else false) = c1 at *
      generalize nextL s = nx at *
      repeat first
        | with_reducible refine AWP.seq ?_
        | ((with_reducible refine AWP.region ?_ ?_); exact rfl)
        | with_reducible refine AWP.block ?_
        | with_reducible refine AWP.skip ?_
        | with_reducible refine AWP.exit ?_
        | with_reducible refine AWP.ret ?_
        | with_reducible refine AWP.label ?_
        | with_reducible refine AWP.goto ?_
        | ((with_reducible refine AWP.condT ?_ ?_); focus (simp only [ev, lk_cons, ↓reduceIte, Nat.reduceEqDiff]; done))
        | ((with_reducible refine AWP.condF ?_ ?_); focus (simp only [ev, lk_cons, ↓reduceIte, Nat.reduceEqDiff]; done))
        | with_reducible refine hF2.use ?_
        | simp only [go_sem, ↓reduceIte, Nat.reduceEqDiff, reduceCtorEq, Nat.reduceAdd, Int.reduceEq, Int.reduceBNe, Int.reduceBEq, Int.reduceToNat, Int.reduceLT, Int.reduceLE, Int.reduceGT, Int.reduceGE, Nat.reduceSub, Nat.reduceBEq, Nat.reduceBNe, Int.reduceAdd, Int.reduceSub, Int.reduceMul, Int.reduceNeg, Nat.reduceMul, Nat.reduceLeDiff, Nat.reduceLT, hc', hc2, hst, hl, hg, hg2]
        | simp (disch := omega) only [wi64, wu8, wu16, wu32, wu64, Int.tdiv_eq_ediv_of_nonneg, Int.tmod_eq_emod_of_nonneg]
        | with_reducible_and_instances exact finR
        | ((with_reducible refine finR' ?_ ?_) <;> rfl)
        | ((with_reducible refine finD hsc (NRel.of_plain ?_)); exact rfl)
      refine ⟨by omega, ?_⟩
      repeat first
        | with_reducible refine AWP.seq ?_
        | ((with_reducible refine AWP.region ?_ ?_); exact rfl)
        | with_reducible refine AWP.block ?_
        | with_reducible refine AWP.skip ?_
        | with_reducible refine AWP.exit ?_
        | with_reducible refine AWP.ret ?_
        | with_reducible refine AWP.label ?_
        | with_reducible refine AWP.goto ?_
        | ((with_reducible refine AWP.condT ?_ ?_); focus (simp only [ev, lk_cons, ↓reduceIte, Nat.reduceEqDiff]; done))
        | ((with_reducible refine AWP.condF ?_ ?_); focus (simp only [ev, lk_cons, ↓reduceIte, Nat.reduceEqDiff]; done))
        | with_reducible refine hF2.use ?_
        | simp only [go_sem, ↓reduceIte, Nat.reduceEqDiff, reduceCtorEq, Nat.reduceAdd, Int.reduceEq, Int.reduceBNe, Int.reduceBEq, Int.reduceToNat, Int.reduceLT, Int.reduceLE, Int.reduceGT, Int.reduceGE, Nat.reduceSub, Nat.reduceBEq, Nat.reduceBNe, Int.reduceAdd, Int.reduceSub, Int.reduceMul, Int.reduceNeg, Nat.reduceMul, Nat.reduceLeDiff, Nat.reduceLT, hst, hg2, hc2, hl]
        | simp (disch := omega) only [wi64, wu8, wu16, wu32, wu64, Int.tdiv_eq_ediv_of_nonneg, Int.tmod_eq_emod_of_nonneg]
        | with_reducible_and_instances exact finR
        | ((with_reducible refine finR' ?_ ?_) <;> rfl)
        | ((with_reducible refine finD hsc (NRel.of_plain ?_)); exact rfl)
theorem Next (s : List UInt8) (H : AHeap) : ARet Tryd.prog 23 [.string (bs s)] H (if s.length = 20 then .tuple ⟨[.string (bs (nextL s)), .int .i64 0]⟩ else .tuple ⟨[.string (bs []), .int .i64 1]⟩) H := by
  have hV := fun H => valid s H
  by_cases hs : s.length = 20
  · rw [if_pos hs]
    refine AC.enter Tryd.func23 rfl (by kernel_rfl) 28 rfl [.tmp 2, .tmp 3] rfl (by simp) fun hsc B => ?_
    repeat first
      | with_reducible refine AWP.seq ?_
      | ((with_reducible refine AWP.region ?_ ?_); exact rfl)
      | with_reducible refine AWP.block ?_
      | with_reducible refine AWP.skip ?_
      | with_reducible refine AWP.exit ?_
      | with_reducible refine AWP.ret ?_
      | with_reducible refine AWP.label ?_
      | with_reducible refine AWP.goto ?_
      | ((with_reducible refine AWP.condT ?_ ?_); focus (simp only [ev, lk_cons, ↓reduceIte, Nat.reduceEqDiff]; done))
      | ((with_reducible refine AWP.condF ?_ ?_); focus (simp only [ev, lk_cons, ↓reduceIte, Nat.reduceEqDiff]; done))
      | with_reducible refine (hV _).use ?_
      | simp only [go_sem, ↓reduceIte, Nat.reduceEqDiff, reduceCtorEq, Nat.reduceAdd, Int.reduceEq, Int.reduceBNe, Int.reduceBEq, Int.reduceToNat, Int.reduceLT, Int.reduceLE, Int.reduceGT, Int.reduceGE, Nat.reduceSub, Nat.reduceBEq, Nat.reduceBNe, Int.reduceAdd, Int.reduceSub, Int.reduceMul, Int.reduceNeg, Nat.reduceMul, Nat.reduceLeDiff, Nat.reduceLT, hs]
      | simp (disch := omega) only [wi64, wu8, wu16, wu32, wu64, Int.tdiv_eq_ediv_of_nonneg, Int.tmod_eq_emod_of_nonneg]
      | with_reducible_and_instances exact finR
      | ((with_reducible refine finR' ?_ ?_) <;> rfl)
      | ((with_reducible refine finD hsc (NRel.of_plain ?_)); exact rfl)
    refine AWP.loopP (fun j : Nat => ⟨[(4, .slice (some ⟨H.length, 0, none⟩) 20 20), (5, .int .i64 ((j : Int) - 1))], [], H ++ [.cells (bytesC (s.take j ++ List.replicate (20 - j) 0)) ⟨5, 1, true, 0, none⟩]⟩) (fun j => j ≤ 20 ∧ ffFrom s j) (fun j => j) 20 ?_ ⟨Nat.le_refl _, fun x h1 h2 => by omega⟩ ?_
    · have : s.take 20 ++ List.replicate (20 - 20) 0 = s := by rw [List.take_of_length_le (by omega)]; simp
      rw [this]
      exact Weak.env (by simp [envIn, lk_cons, wth_some])
    rintro j ⟨h1, h2⟩
    rcases Nat.eq_zero_or_pos j with rfl | hpos
    · have hc' : ¬ ((0 : Nat) : Int) - 1 ≥ 0 := by omega
      have e : s.take 0 ++ List.replicate (20 - 0) 0 = nextL s := by rw [← next_all s h2]; rfl
      have hnl := nextL_len s
      rw [e]
      generalize nextL s = nx at *
      repeat first
        | with_reducible refine AWP.seq ?_
        | ((with_reducible refine AWP.region ?_ ?_); exact rfl)
        | with_reducible refine AWP.block ?_
        | with_reducible refine AWP.skip ?_
        | with_reducible refine AWP.exit ?_
        | with_reducible refine AWP.ret ?_
        | with_reducible refine AWP.label ?_
        | with_reducible refine AWP.goto ?_
        | ((with_reducible refine AWP.condT ?_ ?_); focus (simp only [ev, lk_cons, ↓reduceIte, Nat.reduceEqDiff]; done))
        | ((with_reducible refine AWP.condF ?_ ?_); focus (simp only [ev, lk_cons, ↓reduceIte, Nat.reduceEqDiff]; done))
        | simp only [go_sem, ↓reduceIte, Nat.reduceEqDiff, reduceCtorEq, Nat.reduceAdd, Int.reduceEq, Int.reduceBNe, Int.reduceBEq, Int.reduceToNat, Int.reduceLT, Int.reduceLE, Int.reduceGT, Int.reduceGE, Nat.reduceSub, Nat.reduceBEq, Nat.reduceBNe, Int.reduceAdd, Int.reduceSub, Int.reduceMul, Int.reduceNeg, Nat.reduceMul, Nat.reduceLeDiff, Nat.reduceLT, hc']
        | simp (disch := omega) only [wi64, wu8, wu16, wu32, wu64, Int.tdiv_eq_ediv_of_nonneg, Int.tmod_eq_emod_of_nonneg]
        | with_reducible_and_instances exact finR
        | ((with_reducible refine finR' ?_ ?_) <;> rfl)
        | ((with_reducible refine finD hsc (NRel.of_plain ?_)); exact rfl)
      refine ⟨by omega, ?_⟩
      rw [List.take_of_length_le (by omega)]
      repeat first
        | with_reducible refine AWP.seq ?_
        | ((with_reducible refine AWP.region ?_ ?_); exact rfl)
        | with_reducible refine AWP.block ?_
        | with_reducible refine AWP.skip ?_
        | with_reducible refine AWP.exit ?_
        | with_reducible refine AWP.ret ?_
        | with_reducible refine AWP.label ?_
        | with_reducible refine AWP.goto ?_
        | ((with_reducible refine AWP.condT ?_ ?_); focus (simp only [ev, lk_cons, ↓reduceIte, Nat.reduceEqDiff]; done))
        | ((with_reducible refine AWP.condF ?_ ?_); focus (simp only [ev, lk_cons, ↓reduceIte, Nat.reduceEqDiff]; done))
        | simp only [go_sem, ↓reduceIte, Nat.reduceEqDiff, reduceCtorEq, Nat.reduceAdd, Int.reduceEq, Int.reduceBNe, Int.reduceBEq, Int.reduceToNat, Int.reduceLT, Int.reduceLE, Int.reduceGT, Int.reduceGE, Nat.reduceSub, Nat.reduceBEq, Nat.reduceBNe, Int.reduceAdd, Int.reduceSub, Int.reduceMul, Int.reduceNeg, Nat.reduceMul, Nat.reduceLeDiff, Nat.reduceLT]
        | simp (disch := omega) only [wi64, wu8, wu16, wu32, wu64, Int.tdiv_eq_ediv_of_nonneg, Int.tmod_eq_emod_of_nonneg]
        | with_reducible_and_instances exact finR
        | ((with_reducible refine finR' ?_ ?_) <;> rfl)
        | ((with_reducible refine finD hsc (NRel.of_plain ?_)); exact rfl)
    · obtain ⟨i, rfl⟩ : ∃ i, j = i + 1 := ⟨j - 1, by omega⟩
      have hi : i < 20 := by omega
      have hc' : (i : Int) ≥ 0 := by omega
      have hc2 : (i : Int) < 20 := by omega
      have hij : ((i + 1 : Nat) : Int) - 1 = (i : Int) := by omega
      have hb : s[i]? = some s[i] := List.getElem?_eq_getElem (by omega)
      generalize s[i] = b at hb
      have htl : (s.take (i + 1)).length = i + 1 := by rw [List.length_take]; omega
      have hg : (bytesC (s.take (i + 1) ++ List.replicate (20 - (i + 1)) 0))[i]? = some (.int .u8 (b.toNat : Int)) := by
        rw [bytesC_get, List.getElem?_append_left (by omega), List.getElem?_take_of_lt (by omega), hb]; rfl
      have hset : (s.take (i + 1) ++ List.replicate (20 - (i + 1)) 0).set i (b + 1) = s.take i ++ [b + 1] ++ List.replicate (19 - i) 0 := by
        rw [List.set_append_left _ _ (by omega), List.take_add_one, hb, List.set_append_right _ _ (by rw [List.length_take]; omega)]
        have : (s.take i).length = i := by rw [List.length_take]; omega
        rw [this, Nat.sub_self, show 20 - (i + 1) = 19 - i by omega]
        rfl
      have hst : (bytesC (s.take (i + 1) ++ List.replicate (20 - (i + 1)) 0)).set i (.int .u8 ((b + 1).toNat : Int)) = bytesC (s.take i ++ [b + 1] ++ List.replicate (19 - i) 0) := by rw [bytesC_set, hset]
      have hw : IntKind.u8.wrap ((b.toNat : Int) + 1) = (((b + 1).toNat : Nat) : Int) := by
        rw [inc_nat, ← w8]; congr 1
      have hl : (bytesC (s.take (i + 1) ++ List.replicate (20 - (i + 1)) 0)).length = 20 := by rw [bytesC_length, List.length_append, htl, List.length_replicate]; omega
      have hg2 : (bytesC (s.take i ++ [b + 1] ++ List.replicate (19 - i) 0))[i]? = some (.int .u8 ((b + 1).toNat : Int)) := by rw [← hst, List.getElem?_set_self (by omega)]
      have hll : (bytesC (s.take i ++ [b + 1] ++ List.replicate (19 - i) 0)).length = 20 := by rw [← hst, List.length_set, hl]
      rw [hij]
      by_cases hz : b + 1 = 0
      · have hzn : ((((b + 1).toNat : Nat) : Int) != 0) = false := by rw [hz]; rfl
        have hb255 : b = 255 := by
          apply UInt8.toNat_inj.1
          have h3 := congrArg UInt8.toNat hz
          rw [inc_nat] at h3
          have := b.toNat_lt
          have h4 : (0 : UInt8).toNat = 0 := rfl
          have h5 : (255 : UInt8).toNat = 255 := rfl
          omega
        have hff : ffFrom s i := fun x hx hx2 => by
          rcases Nat.lt_or_ge i x with h' | h'
          · exact h2 x h' hx2
          · have : x = i := by omega
            rw [this, hb, hb255]
        have hx : s.take i ++ [b + 1] ++ List.replicate (19 - i) 0 = s.take i ++ List.replicate (20 - i) 0 := by
          rw [hz, List.append_assoc, show 20 - i = (19 - i) + 1 by omega, List.replicate_succ]; rfl
        rw [hx] at hst hg2 hll
        generalize hcc : bytesC (s.take i ++ List.replicate (20 - i) 0) = c2 at *
        generalize bytesC (s.take (i + 1) ++ List.replicate (20 - (i + 1)) 0) = c1 at *
        repeat' first
          | omega
          | with_reducible refine And.intro ?_ ?_
          | with_reducible refine AWP.seq ?_
          | ((with_reducible refine AWP.region ?_ ?_); exact rfl)
          | with_reducible refine AWP.block ?_
          | with_reducible refine AWP.skip ?_
          | with_reducible refine AWP.exit ?_
          | with_reducible refine AWP.ret ?_
          | with_reducible refine AWP.label ?_
          | with_reducible refine AWP.goto ?_
          | ((with_reducible refine AWP.condT ?_ ?_); focus (simp only [ev, lk_cons, ↓reduceIte, Nat.reduceEqDiff]; done))
          | ((with_reducible refine AWP.condF ?_ ?_); focus (simp only [ev, lk_cons, ↓reduceIte, Nat.reduceEqDiff]; done))
          | simp only [go_sem, ↓reduceIte, Nat.reduceEqDiff, reduceCtorEq, Nat.reduceAdd, Int.reduceEq, Int.reduceBNe, Int.reduceBEq, Int.reduceToNat, Int.reduceLT, Int.reduceLE, Int.reduceGT, Int.reduceGE, Nat.reduceSub, Nat.reduceBEq, Nat.reduceBNe, Int.reduceAdd, Int.reduceSub, Int.reduceMul, Int.reduceNeg, Nat.reduceMul, Nat.reduceLeDiff, Nat.reduceLT, hc', hc2, hg, hw, hl, hst, hg2, hll, hzn]
          | simp (disch := omega) only [wi64, wu8, wu16, wu32, wu64, Int.tdiv_eq_ediv_of_nonneg, Int.tmod_eq_emod_of_nonneg]
          | with_reducible_and_instances exact finR
          | ((with_reducible refine finR' ?_ ?_) <;> rfl)
          | ((with_reducible refine finD hsc (NRel.of_plain ?_)); exact rfl)
        exact ⟨i, by rw [hcc]; exact Weak.env (by simp [envIn, lk_cons, wth_some]), by omega, hff, by omega⟩
      · have hzn : ((((b + 1).toNat : Nat) : Int) != 0) = true := by
          rw [bne_iff_ne]
          intro h
          apply hz
          apply UInt8.toNat_inj.1
          have h4 : (0 : UInt8).toNat = 0 := rfl
          omega
        have hx := next_break s hs i hi h2 b hb hz
        have hnl := nextL_len s
        rw [hx] at hst hg2 hll
        generalize bytesC (s.take (i + 1) ++ List.replicate (20 - (i + 1)) 0) = c1 at *
        generalize nextL s = nx at *
        have htk : List.take 20 nx = nx := List.take_of_length_le (by omega)
        repeat' first
          | omega
          | with_reducible refine And.intro ?_ ?_
          | with_reducible refine AWP.seq ?_
          | ((with_reducible refine AWP.region ?_ ?_); exact rfl)
          | with_reducible refine AWP.block ?_
          | with_reducible refine AWP.skip ?_
          | with_reducible refine AWP.exit ?_
          | with_reducible refine AWP.ret ?_
          | with_reducible refine AWP.label ?_
          | with_reducible refine AWP.goto ?_
          | ((with_reducible refine AWP.condT ?_ ?_); focus (simp only [ev, lk_cons, ↓reduceIte, Nat.reduceEqDiff]; done))
          | ((with_reducible refine AWP.condF ?_ ?_); focus (simp only [ev, lk_cons, ↓reduceIte, Nat.reduceEqDiff]; done))
          | simp only [go_sem, ↓reduceIte, Nat.reduceEqDiff, reduceCtorEq, Nat.reduceAdd, Int.reduceEq, Int.reduceBNe, Int.reduceBEq, Int.reduceToNat, Int.reduceLT, Int.reduceLE, Int.reduceGT, Int.reduceGE, Nat.reduceSub, Nat.reduceBEq, Nat.reduceBNe, Int.reduceAdd, Int.reduceSub, Int.reduceMul, Int.reduceNeg, Nat.reduceMul, Nat.reduceLeDiff, Nat.reduceLT, hc', hc2, hg, hw, hl, hst, hg2, hll, hzn, htk]
          | simp (disch := omega) only [wi64, wu8, wu16, wu32, wu64, Int.tdiv_eq_ediv_of_nonneg, Int.tmod_eq_emod_of_nonneg]
          | with_reducible_and_instances exact finR
          | ((with_reducible refine finR' ?_ ?_) <;> rfl)
          | ((with_reducible refine finD hsc (NRel.of_plain ?_)); exact rfl)
  · rw [if_neg hs]
    refine AC.enter Tryd.func23 rfl (by kernel_rfl) 28 rfl [.tmp 2, .tmp 3] rfl (by simp) fun hsc B => ?_
    repeat first
      | with_reducible refine AWP.seq ?_
      | ((with_reducible refine AWP.region ?_ ?_); exact rfl)
      | with_reducible refine AWP.block ?_
      | with_reducible refine AWP.skip ?_
      | with_reducible refine AWP.exit ?_
      | with_reducible refine AWP.ret ?_
      | with_reducible refine AWP.label ?_
      | with_reducible refine AWP.goto ?_
      | ((with_reducible refine AWP.condT ?_ ?_); focus (simp only [ev, lk_cons, ↓reduceIte, Nat.reduceEqDiff]; done))
      | ((with_reducible refine AWP.condF ?_ ?_); focus (simp only [ev, lk_cons, ↓reduceIte, Nat.reduceEqDiff]; done))
      | with_reducible refine (hV _).use ?_
      | simp only [go_sem, ↓reduceIte, Nat.reduceEqDiff, reduceCtorEq, Nat.reduceAdd, Int.reduceEq, Int.reduceBNe, Int.reduceBEq, Int.reduceToNat, Int.reduceLT, Int.reduceLE, Int.reduceGT, Int.reduceGE, Nat.reduceSub, Nat.reduceBEq, Nat.reduceBNe, Int.reduceAdd, Int.reduceSub, Int.reduceMul, Int.reduceNeg, Nat.reduceMul, Nat.reduceLeDiff, Nat.reduceLT, hs]
      | simp (disch := omega) only [wi64, wu8, wu16, wu32, wu64, Int.tdiv_eq_ediv_of_nonneg, Int.tmod_eq_emod_of_nonneg]
      | with_reducible_and_instances exact finR
      | ((with_reducible refine finR' ?_ ?_) <;> rfl)
      | ((with_reducible refine finD hsc (NRel.of_plain ?_)); exact rfl)
end Go.Proofs.YtmpkgdilmkeacaaDoor
