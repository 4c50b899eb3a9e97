/-
  The law of round trip times.
-/
import Derived.Test.YtoikchnpflnehaaG9
set_option linter.unusedVariables false
set_option linter.unusedSimpArgs false
set_option maxRecDepth 20000
namespace Go.Proofs.Ytoikchnpflnehaa
open Go Go.Aw Go.Proofs
def tripAt (l : List Int) : TripS := l.foldl TripS.add ⟨0, 0, false⟩
theorem foldl_ok (l : List Int) : ∀ t : TripS, t.ok → (l.foldl TripS.add t).ok := by
  induction l with
  | nil => intro t h; exact h
  | cons a r ih => intro t h; exact ih _ (TripS.add_ok t h a)
theorem tripAt_ok (l : List Int) : (tripAt l).ok := foldl_ok l _ (by unfold TripS.ok; simp)
theorem tripAt_snoc (l : List Int) (x : Int) : tripAt (l ++ [x]) = (tripAt l).add x := by unfold tripAt; rw [List.foldl_append]; rfl
set_option maxHeartbeats 4000000 in
theorem lawTrips (l : List Int) (v : Value) (H : AHeap) (hv : Rd H v (intsC l)) : ARet Try.prog 4 [v] H (.bool true) H := by
  have q1 : ∀ H' K, lenW Try.prog 28 v H' K = K (.int .i64 (l.length : Nat)) H' := fun H' K => by rw [hv.lenW Try.underlying28, intsC_length]
  by_cases hL : l.length ≤ 100
  · have hL' : ¬ (l.length : Int) > 100 := by omega
    refine AC.enter Try.func4 rfl (by kernel_rfl) 67 rfl [.tmp 2] rfl (by simp) fun hsc B => ?_
    repeat first
      | with_reducible refine AWP.seq ?_
      | ((with_reducible refine AWP.region ?_ ?_); exact rfl)
      | with_reducible refine AWP.block ?_
      | with_reducible refine AWP.skip ?_
      | with_reducible refine AWP.exit ?_
      | with_reducible refine AWP.ret ?_
      | with_reducible refine AWP.label ?_
      | with_reducible refine AWP.goto ?_
      | ((with_reducible refine AWP.condT ?_ ?_); focus (simp only [ev, lk_cons, ↓reduceIte, Nat.reduceEqDiff]; done))
      | ((with_reducible refine AWP.condF ?_ ?_); focus (simp only [ev, lk_cons, ↓reduceIte, Nat.reduceEqDiff]; done))
      | with_reducible refine (NewTrip _).use ?_
      | simp only [go_sem, ↓reduceIte, Nat.reduceEqDiff, reduceCtorEq, Nat.reduceAdd, Int.reduceEq, Int.reduceBNe, Int.reduceBEq, Int.reduceToNat, Int.reduceLT, Int.reduceLE, Int.reduceGT, Int.reduceGE, Nat.reduceSub, Nat.reduceBEq, Nat.reduceBNe, Int.reduceAdd, Int.reduceSub, Int.reduceMul, Int.reduceNeg, Nat.reduceMul, Nat.reduceLeDiff, Nat.reduceLT, q1, hL']
      | simp (disch := omega) only [wi64, wu8, wu16, wu32, wu64, Int.tdiv_eq_ediv_of_nonneg, Int.tmod_eq_emod_of_nonneg]
      | with_reducible_and_instances exact finR
      | ((with_reducible refine finR' ?_ ?_) <;> rfl)
      | ((with_reducible refine finD hsc (NRel.of_plain ?_)); exact rfl)
    refine AWP.loopP (fun n : Nat => ⟨[(0, v), (3, .pointer (some ⟨H.length, 0, none⟩)), (4, .pointer (some ⟨H.length + 1, 0, none⟩)), (20, v), (21, .int .i64 (l.length : Nat)), (22, .int .i64 (n : Nat))], [], H ++ [.cells (tripC (tripAt (l.take n))) ⟨63, 0, true, 0, none⟩, .cells (rtripC (tripAt (l.take n))) ⟨33, 0, true, 0, none⟩]⟩) (fun n => n ≤ l.length) (fun n => l.length - n) 0 ?_ (Nat.zero_le _) ?_
    · exact Weak.env (by simp [envIn, lk_cons, wth_some])
    intro n hn
    by_cases hc : n < l.length
    · have hc' : (n : Int) < (l.length : Int) := by omega
      rcases hv with ⟨rfl, e1⟩ | ⟨i, o, cap, cs, k, rfl, hi, hg⟩
      · have : l.length = 0 := by rw [← intsC_length l, e1]; rfl
        omega
      have hil := lt_of_get hi
      have g1 : cs[o + n]? = some (.int .i64 l[n]) := by
        rw [hg n (by rw [intsC_length]; exact hc), intsC_get _ hc]
      have hT : tripAt (l.take (n + 1)) = (tripAt (l.take n)).add l[n] := by
        rw [List.take_add_one, List.getElem?_eq_getElem hc]; exact tripAt_snoc _ _
      have hok := tripAt_ok (l.take n)
      have hok2 := tripAt_ok (l.take (n + 1))
      rw [hT] at hok2
      generalize tripAt (l.take n) = T at hok hok2 hT
      have hA := Add H.length T hok l[n] (H ++ [.cells (tripC T) ⟨63, 0, true, 0, none⟩, .cells (rtripC T) ⟨33, 0, true, 0, none⟩]) (hget0 rfl)
      have hB := rAdd (H.length + 1) T hok l[n] (H ++ [.cells (tripC (T.add l[n])) ⟨63, 0, true, 0, none⟩, .cells (rtripC T) ⟨33, 0, true, 0, none⟩]) (hgetk rfl)
      have hX := Time H.length (T.add l[n]) (H ++ [.cells (tripC (T.add l[n])) ⟨63, 0, true, 0, none⟩, .cells (rtripC (T.add l[n])) ⟨33, 0, true, 0, none⟩]) (hget0 rfl)
      have hY := rTime (H.length + 1) (T.add l[n]) (H ++ [.cells (tripC (T.add l[n])) ⟨63, 0, true, 0, none⟩, .cells (rtripC (T.add l[n])) ⟨33, 0, true, 0, none⟩]) (hgetk rfl)
      have hO := Out H.length (T.add l[n]) hok2 (H ++ [.cells (tripC (T.add l[n])) ⟨63, 0, true, 0, none⟩, .cells (rtripC (T.add l[n])) ⟨33, 0, true, 0, none⟩]) (hget0 rfl)
      have hP := rOut (H.length + 1) (T.add l[n]) hok2 (H ++ [.cells (tripC (T.add l[n])) ⟨63, 0, true, 0, none⟩, .cells (rtripC (T.add l[n])) ⟨33, 0, true, 0, none⟩]) (hgetk rfl)
      repeat first
        | with_reducible refine AWP.seq ?_
        | ((with_reducible refine AWP.region ?_ ?_); exact rfl)
        | with_reducible refine AWP.block ?_
        | with_reducible refine AWP.skip ?_
        | with_reducible refine AWP.exit ?_
        | with_reducible refine AWP.ret ?_
        | with_reducible refine AWP.label ?_
        | with_reducible refine AWP.goto ?_
        | ((with_reducible refine AWP.condT ?_ ?_); focus (simp only [ev, lk_cons, ↓reduceIte, Nat.reduceEqDiff]; done))
        | ((with_reducible refine AWP.condF ?_ ?_); focus (simp only [ev, lk_cons, ↓reduceIte, Nat.reduceEqDiff]; done))
        | with_reducible refine hA.use ?_
        | with_reducible refine hB.use ?_
        | with_reducible refine hX.use ?_
        | with_reducible refine hY.use ?_
        | with_reducible refine hO.use ?_
        | with_reducible refine hP.use ?_
        | simp only [go_sem, ↓reduceIte, Nat.reduceEqDiff, reduceCtorEq, Nat.reduceAdd, Int.reduceEq, Int.reduceBNe, Int.reduceBEq, Int.reduceToNat, Int.reduceLT, Int.reduceLE, Int.reduceGT, Int.reduceGE, Nat.reduceSub, Nat.reduceBEq, Nat.reduceBNe, Int.reduceAdd, Int.reduceSub, Int.reduceMul, Int.reduceNeg, Nat.reduceMul, Nat.reduceLeDiff, Nat.reduceLT, hc', hi, hil, hgetl, g1, intsC_length]
        | simp (disch := omega) only [wi64, wu8, wu16, wu32, wu64, Int.tdiv_eq_ediv_of_nonneg, Int.tmod_eq_emod_of_nonneg]
        | with_reducible_and_instances exact finR
        | ((with_reducible refine finR' ?_ ?_) <;> rfl)
        | ((with_reducible refine finD hsc (NRel.of_plain ?_)); exact rfl)
      refine ⟨n + 1, ?_, by omega, by omega⟩
      rw [hT]
      exact Weak.env (by simp [envIn, lk_cons, wth_some])
    · have : n = l.length := by omega
      subst this
      have hc' : ¬ (l.length : Int) < (l.length : Int) := by omega
      rw [List.take_length]
      have hok := tripAt_ok l
      generalize tripAt l = T at hok
      have hO := Out H.length T hok (H ++ [.cells (tripC T) ⟨63, 0, true, 0, none⟩, .cells (rtripC T) ⟨33, 0, true, 0, none⟩]) (hget0 rfl)
      have hP := rOut (H.length + 1) T hok (H ++ [.cells (tripC T) ⟨63, 0, true, 0, none⟩, .cells (rtripC T) ⟨33, 0, true, 0, none⟩]) (hgetk rfl)
      repeat first
        | with_reducible refine AWP.seq ?_
        | ((with_reducible refine AWP.region ?_ ?_); exact rfl)
        | with_reducible refine AWP.block ?_
        | with_reducible refine AWP.skip ?_
        | with_reducible refine AWP.exit ?_
        | with_reducible refine AWP.ret ?_
        | with_reducible refine AWP.label ?_
        | with_reducible refine AWP.goto ?_
        | ((with_reducible refine AWP.condT ?_ ?_); focus (simp only [ev, lk_cons, ↓reduceIte, Nat.reduceEqDiff]; done))
        | ((with_reducible refine AWP.condF ?_ ?_); focus (simp only [ev, lk_cons, ↓reduceIte, Nat.reduceEqDiff]; done))
        | with_reducible refine hO.use ?_
        | with_reducible refine hP.use ?_
        | with_reducible refine (awake _).use ?_
        | simp only [go_sem, ↓reduceIte, Nat.reduceEqDiff, reduceCtorEq, Nat.reduceAdd, Int.reduceEq, Int.reduceBNe, Int.reduceBEq, Int.reduceToNat, Int.reduceLT, Int.reduceLE, Int.reduceGT, Int.reduceGE, Nat.reduceSub, Nat.reduceBEq, Nat.reduceBNe, Int.reduceAdd, Int.reduceSub, Int.reduceMul, Int.reduceNeg, Nat.reduceMul, Nat.reduceLeDiff, Nat.reduceLT, hc']
        | simp (disch := omega) only [wi64, wu8, wu16, wu32, wu64, Int.tdiv_eq_ediv_of_nonneg, Int.tmod_eq_emod_of_nonneg]
        | with_reducible_and_instances exact finR
        | ((with_reducible refine finR' ?_ ?_) <;> rfl)
        | ((with_reducible refine finD hsc (NRel.of_plain ?_)); exact rfl)
  · have hL' : (l.length : Int) > 100 := by omega
    refine AC.enter Try.func4 rfl (by kernel_rfl) 67 rfl [.tmp 2] rfl (by simp) fun hsc B => ?_
    repeat first
      | with_reducible refine AWP.seq ?_
      | ((with_reducible refine AWP.region ?_ ?_); exact rfl)
      | with_reducible refine AWP.block ?_
      | with_reducible refine AWP.skip ?_
      | with_reducible refine AWP.exit ?_
      | with_reducible refine AWP.ret ?_
      | with_reducible refine AWP.label ?_
      | with_reducible refine AWP.goto ?_
      | ((with_reducible refine AWP.condT ?_ ?_); focus (simp only [ev, lk_cons, ↓reduceIte, Nat.reduceEqDiff]; done))
      | ((with_reducible refine AWP.condF ?_ ?_); focus (simp only [ev, lk_cons, ↓reduceIte, Nat.reduceEqDiff]; done))
      | with_reducible refine (awake _).use ?_
      | simp only [go_sem, ↓reduceIte, Nat.reduceEqDiff, reduceCtorEq, Nat.reduceAdd, Int.reduceEq, Int.reduceBNe, Int.reduceBEq, Int.reduceToNat, Int.reduceLT, Int.reduceLE, Int.reduceGT, Int.reduceGE, Nat.reduceSub, Nat.reduceBEq, Nat.reduceBNe, Int.reduceAdd, Int.reduceSub, Int.reduceMul, Int.reduceNeg, Nat.reduceMul, Nat.reduceLeDiff, Nat.reduceLT, q1, hL']
      | simp (disch := omega) only [wi64, wu8, wu16, wu32, wu64, Int.tdiv_eq_ediv_of_nonneg, Int.tmod_eq_emod_of_nonneg]
      | with_reducible_and_instances exact finR
      | ((with_reducible refine finR' ?_ ?_) <;> rfl)
      | ((with_reducible refine finD hsc (NRel.of_plain ?_)); exact rfl)
end Go.Proofs.Ytoikchnpflnehaa
