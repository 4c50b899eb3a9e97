/-
  Links: the law of taking in steps.
-/
import Derived.Test.YtnfkbgpbligloaaDoorWK
set_option linter.unusedVariables false
set_option linter.unusedSimpArgs false
set_option maxRecDepth 20000
set_option maxHeartbeats 4000000
namespace Go.Proofs.YtnfkbgpbligloaaDoor
open Go Go.Aw Go.Proofs Go.Shelf
theorem Rd0.grown {H H2 : AHeap} {v : Value} {l : List Value} (h : Rd0 H v l) (hf : Frm [] H H2) : Rd0 H2 v l := by
  rcases h with h | ⟨i, cap, k, e, h1, h2, h3⟩
  · exact .inl h
  · exact .inr ⟨i, cap, k, e, h1, hf.get h2 (by simp), h3⟩
theorem pcsC_flat (l : List Pc) : (pcsC l).all flat = true := by
  rw [List.all_eq_true]
  intro x hx
  obtain ⟨p, _, hx⟩ := List.mem_flatMap.1 hx
  simp [Pc.c] at hx
  rcases hx with rfl | rfl | rfl | rfl | rfl | rfl <;> rfl
theorem putF_now (s : Lk) (now size : Int) (body : List UInt8) : (s.putF now size body).now = s.now ∨ (s.putF now size body).now = now := by
  unfold Lk.putF
  split
  · exact .inl rfl
  · split
    · exact .inl rfl
    · split
      · exact .inl rfl
      · split
        · exact .inr rfl
        · exact .inr rfl
def pairE (i j : Nat) (vl vt : Value) (len n : Nat) (H : AHeap) : ASt := ⟨[(3, vt), (9, .pointer (some ⟨i, 0, none⟩)), (11, .pointer (some ⟨j, 0, none⟩)), (57, vl), (58, .int .i64 (len : Nat)), (59, .int .i64 (n : Nat))], [], H⟩
theorem lawSteps (p : Pp) (nums : List Int) (l : List Ac) (ts : List Int) (vn vl vt : Value) (H : AHeap) (hT : LibH H) (hvn : Rd0 H vn (nums.map (.int .i64))) (hv : RdN H 10 vl (l.map acC)) (hvt : Rd0 H vt (ts.map (.int .i64))) :
    ARex Tryd.prog 3 [.agg ⟨p.c⟩, vn, vl, vt] H (.bool true) (fun _ => True) := by
  have hAw := awake
  let H0 : AHeap := H ++ [.cells p.c ⟨23, 0, true, 0, none⟩]
  have hH0 : H0 = H ++ [.cells p.c ⟨23, 0, true, 0, none⟩] := rfl
  have hcc : p.c = [.int .i64 p.delay, .int .i64 p.rate, .int .i64 p.room, .int .i64 p.loss, .int .i64 p.dbl, .int .i64 p.jit] := rfl
  rw [hcc] at hH0
  have hv0 : RdN H0 10 vl (l.map acC) := hv.more _
  have hvn0 : Rd0 H0 vn (nums.map (.int .i64)) := hvn.more _
  have hvt0 : Rd0 H0 vt (ts.map (.int .i64)) := hvt.more _
  have hT0 : LibH H0 := hT.lasts (Lasts.more _ _)
  have hpb0 : H0[H.length]? = some (.cells p.c ⟨23, 0, true, 0, none⟩) := hget0 rfl
  have q1 : ∀ H' K, lenW Tryd.prog 24 vn H' K = K (.int .i64 (nums.length : Nat)) H' := fun H' K => by rw [Rd0.lenT hvn (by simp only [go_sem, ↓reduceIte, Nat.reduceEqDiff, reduceCtorEq, Nat.reduceAdd, Int.reduceEq, Int.reduceBNe, Int.reduceBEq, Int.reduceToNat, Int.reduceLT, Int.reduceLE, Int.reduceGT, Int.reduceGE, Nat.reduceSub, Nat.reduceBEq, Nat.reduceBNe, Int.reduceAdd, Int.reduceSub, Int.reduceMul, Int.reduceNeg, Nat.reduceMul, Nat.reduceLeDiff, Nat.reduceLT]), List.length_map]
  have qt : ∀ H' K, lenW Tryd.prog 24 vt H' K = K (.int .i64 (ts.length : Nat)) H' := fun H' K => by rw [Rd0.lenT hvt (by simp only [go_sem, ↓reduceIte, Nat.reduceEqDiff, reduceCtorEq, Nat.reduceAdd, Int.reduceEq, Int.reduceBNe, Int.reduceBEq, Int.reduceToNat, Int.reduceLT, Int.reduceLE, Int.reduceGT, Int.reduceGE, Nat.reduceSub, Nat.reduceBEq, Nat.reduceBNe, Int.reduceAdd, Int.reduceSub, Int.reduceMul, Int.reduceNeg, Nat.reduceMul, Nat.reduceLeDiff, Nat.reduceLT]), List.length_map]
  have ql : ∀ H' K, lenW Tryd.prog 25 vl H' K = K (.int .i64 (l.length : Nat)) H' := fun H' K => by rw [hv.lenT (by simp only [go_sem, ↓reduceIte, Nat.reduceEqDiff, reduceCtorEq, Nat.reduceAdd, Int.reduceEq, Int.reduceBNe, Int.reduceBEq, Int.reduceToNat, Int.reduceLT, Int.reduceLE, Int.reduceGT, Int.reduceGE, Nat.reduceSub, Nat.reduceBEq, Nat.reduceBNe, Int.reduceAdd, Int.reduceSub, Int.reduceMul, Int.reduceNeg, Nat.reduceMul, Nat.reduceLeDiff, Nat.reduceLT]), List.length_map]
  have hL := light l vl H0 hv0 vn nums.length q1
  by_cases hg : lightB nums.length l = true ∧ ¬ (ts.length : Int) > 50 ∧ ¬ (ts.length : Int) = 0
  case neg =>
    have hAw0 := awake H0
    cases hlb : lightB nums.length l with
    | false =>
      rw [hlb] at hL
      unfold Pp.c
      refine AC.enter Tryd.func3 rfl (by kernel_rfl) 147 rfl [.tmp 8] rfl (by simp) fun hsc B => ?_
      repeat first
        | with_reducible refine AWP.seq ?_
        | ((with_reducible refine AWP.region ?_ ?_); exact rfl)
        | with_reducible refine AWP.block ?_
        | with_reducible refine AWP.skip ?_
        | with_reducible refine AWP.exit ?_
        | with_reducible refine AWP.ret ?_
        | with_reducible refine AWP.label ?_
        | with_reducible refine AWP.goto ?_
        | ((with_reducible refine AWP.condT ?_ ?_); focus (simp only [ev, lk_cons, ↓reduceIte, Nat.reduceEqDiff]; done))
        | ((with_reducible refine AWP.condF ?_ ?_); focus (simp only [ev, lk_cons, ↓reduceIte, Nat.reduceEqDiff]; done))
        | simp only [go_sem, ↓reduceIte, Nat.reduceEqDiff, reduceCtorEq, Nat.reduceAdd, Int.reduceEq, Int.reduceBNe, Int.reduceBEq, Int.reduceToNat, Int.reduceLT, Int.reduceLE, Int.reduceGT, Int.reduceGE, Nat.reduceSub, Nat.reduceBEq, Nat.reduceBNe, Int.reduceAdd, Int.reduceSub, Int.reduceMul, Int.reduceNeg, Nat.reduceMul, Nat.reduceLeDiff, Nat.reduceLT]
        | simp (disch := omega) only [wi64, wu8, wu16, wu32, wu64, Int.tdiv_eq_ediv_of_nonneg, Int.tmod_eq_emod_of_nonneg]
        | with_reducible_and_instances exact finR
        | ((with_reducible refine finR' ?_ ?_) <;> rfl)
        | ((with_reducible refine finD hsc (NRel.of_plain ?_)); exact rfl)
      rw [← hH0]
      repeat first
        | with_reducible refine AWP.seq ?_
        | ((with_reducible refine AWP.region ?_ ?_); exact rfl)
        | with_reducible refine AWP.block ?_
        | with_reducible refine AWP.skip ?_
        | with_reducible refine AWP.exit ?_
        | with_reducible refine AWP.ret ?_
        | with_reducible refine AWP.label ?_
        | with_reducible refine AWP.goto ?_
        | ((with_reducible refine AWP.condT ?_ ?_); focus (simp only [ev, lk_cons, ↓reduceIte, Nat.reduceEqDiff]; done))
        | ((with_reducible refine AWP.condF ?_ ?_); focus (simp only [ev, lk_cons, ↓reduceIte, Nat.reduceEqDiff]; done))
        | with_reducible refine hL.use ?_
        | simp only [go_sem, ↓reduceIte, Nat.reduceEqDiff, reduceCtorEq, Nat.reduceAdd, Int.reduceEq, Int.reduceBNe, Int.reduceBEq, Int.reduceToNat, Int.reduceLT, Int.reduceLE, Int.reduceGT, Int.reduceGE, Nat.reduceSub, Nat.reduceBEq, Nat.reduceBNe, Int.reduceAdd, Int.reduceSub, Int.reduceMul, Int.reduceNeg, Nat.reduceMul, Nat.reduceLeDiff, Nat.reduceLT]
        | simp (disch := omega) only [wi64, wu8, wu16, wu32, wu64, Int.tdiv_eq_ediv_of_nonneg, Int.tmod_eq_emod_of_nonneg]
        | with_reducible_and_instances exact finR
        | ((with_reducible refine finR' ?_ ?_) <;> rfl)
        | ((with_reducible refine finD hsc (NRel.of_plain ?_)); exact rfl)
      refine hAw0.use fun H1 _ => ?_
      repeat first
        | with_reducible refine AWP.seq ?_
        | ((with_reducible refine AWP.region ?_ ?_); exact rfl)
        | with_reducible refine AWP.block ?_
        | with_reducible refine AWP.skip ?_
        | with_reducible refine AWP.exit ?_
        | with_reducible refine AWP.ret ?_
        | with_reducible refine AWP.label ?_
        | with_reducible refine AWP.goto ?_
        | ((with_reducible refine AWP.condT ?_ ?_); focus (simp only [ev, lk_cons, ↓reduceIte, Nat.reduceEqDiff]; done))
        | ((with_reducible refine AWP.condF ?_ ?_); focus (simp only [ev, lk_cons, ↓reduceIte, Nat.reduceEqDiff]; done))
        | simp only [go_sem, ↓reduceIte, Nat.reduceEqDiff, reduceCtorEq, Nat.reduceAdd, Int.reduceEq, Int.reduceBNe, Int.reduceBEq, Int.reduceToNat, Int.reduceLT, Int.reduceLE, Int.reduceGT, Int.reduceGE, Nat.reduceSub, Nat.reduceBEq, Nat.reduceBNe, Int.reduceAdd, Int.reduceSub, Int.reduceMul, Int.reduceNeg, Nat.reduceMul, Nat.reduceLeDiff, Nat.reduceLT]
        | simp (disch := omega) only [wi64, wu8, wu16, wu32, wu64, Int.tdiv_eq_ediv_of_nonneg, Int.tmod_eq_emod_of_nonneg]
        | with_reducible_and_instances exact finR
        | ((with_reducible refine finR' ?_ ?_) <;> rfl)
        | ((with_reducible refine finD hsc (NRel.of_plain ?_)); exact rfl)
      exact ⟨_, _, .refl _ _ _, rfl⟩
    | true =>
      rw [hlb] at hL
      by_cases g1 : (ts.length : Int) > 50
      · unfold Pp.c
        refine AC.enter Tryd.func3 rfl (by kernel_rfl) 147 rfl [.tmp 8] rfl (by simp) fun hsc B => ?_
        repeat first
          | with_reducible refine AWP.seq ?_
          | ((with_reducible refine AWP.region ?_ ?_); exact rfl)
          | with_reducible refine AWP.block ?_
          | with_reducible refine AWP.skip ?_
          | with_reducible refine AWP.exit ?_
          | with_reducible refine AWP.ret ?_
          | with_reducible refine AWP.label ?_
          | with_reducible refine AWP.goto ?_
          | ((with_reducible refine AWP.condT ?_ ?_); focus (simp only [ev, lk_cons, ↓reduceIte, Nat.reduceEqDiff]; done))
          | ((with_reducible refine AWP.condF ?_ ?_); focus (simp only [ev, lk_cons, ↓reduceIte, Nat.reduceEqDiff]; done))
          | simp only [go_sem, ↓reduceIte, Nat.reduceEqDiff, reduceCtorEq, Nat.reduceAdd, Int.reduceEq, Int.reduceBNe, Int.reduceBEq, Int.reduceToNat, Int.reduceLT, Int.reduceLE, Int.reduceGT, Int.reduceGE, Nat.reduceSub, Nat.reduceBEq, Nat.reduceBNe, Int.reduceAdd, Int.reduceSub, Int.reduceMul, Int.reduceNeg, Nat.reduceMul, Nat.reduceLeDiff, Nat.reduceLT]
          | simp (disch := omega) only [wi64, wu8, wu16, wu32, wu64, Int.tdiv_eq_ediv_of_nonneg, Int.tmod_eq_emod_of_nonneg]
          | with_reducible_and_instances exact finR
          | ((with_reducible refine finR' ?_ ?_) <;> rfl)
          | ((with_reducible refine finD hsc (NRel.of_plain ?_)); exact rfl)
        rw [← hH0]
        repeat first
          | with_reducible refine AWP.seq ?_
          | ((with_reducible refine AWP.region ?_ ?_); exact rfl)
          | with_reducible refine AWP.block ?_
          | with_reducible refine AWP.skip ?_
          | with_reducible refine AWP.exit ?_
          | with_reducible refine AWP.ret ?_
          | with_reducible refine AWP.label ?_
          | with_reducible refine AWP.goto ?_
          | ((with_reducible refine AWP.condT ?_ ?_); focus (simp only [ev, lk_cons, ↓reduceIte, Nat.reduceEqDiff]; done))
          | ((with_reducible refine AWP.condF ?_ ?_); focus (simp only [ev, lk_cons, ↓reduceIte, Nat.reduceEqDiff]; done))
          | with_reducible refine hL.use ?_
          | simp only [go_sem, ↓reduceIte, Nat.reduceEqDiff, reduceCtorEq, Nat.reduceAdd, Int.reduceEq, Int.reduceBNe, Int.reduceBEq, Int.reduceToNat, Int.reduceLT, Int.reduceLE, Int.reduceGT, Int.reduceGE, Nat.reduceSub, Nat.reduceBEq, Nat.reduceBNe, Int.reduceAdd, Int.reduceSub, Int.reduceMul, Int.reduceNeg, Nat.reduceMul, Nat.reduceLeDiff, Nat.reduceLT, qt, g1]
          | simp (disch := omega) only [wi64, wu8, wu16, wu32, wu64, Int.tdiv_eq_ediv_of_nonneg, Int.tmod_eq_emod_of_nonneg]
          | with_reducible_and_instances exact finR
          | ((with_reducible refine finR' ?_ ?_) <;> rfl)
          | ((with_reducible refine finD hsc (NRel.of_plain ?_)); exact rfl)
        refine hAw0.use fun H1 _ => ?_
        repeat first
          | with_reducible refine AWP.seq ?_
          | ((with_reducible refine AWP.region ?_ ?_); exact rfl)
          | with_reducible refine AWP.block ?_
          | with_reducible refine AWP.skip ?_
          | with_reducible refine AWP.exit ?_
          | with_reducible refine AWP.ret ?_
          | with_reducible refine AWP.label ?_
          | with_reducible refine AWP.goto ?_
          | ((with_reducible refine AWP.condT ?_ ?_); focus (simp only [ev, lk_cons, ↓reduceIte, Nat.reduceEqDiff]; done))
          | ((with_reducible refine AWP.condF ?_ ?_); focus (simp only [ev, lk_cons, ↓reduceIte, Nat.reduceEqDiff]; done))
          | simp only [go_sem, ↓reduceIte, Nat.reduceEqDiff, reduceCtorEq, Nat.reduceAdd, Int.reduceEq, Int.reduceBNe, Int.reduceBEq, Int.reduceToNat, Int.reduceLT, Int.reduceLE, Int.reduceGT, Int.reduceGE, Nat.reduceSub, Nat.reduceBEq, Nat.reduceBNe, Int.reduceAdd, Int.reduceSub, Int.reduceMul, Int.reduceNeg, Nat.reduceMul, Nat.reduceLeDiff, Nat.reduceLT]
          | simp (disch := omega) only [wi64, wu8, wu16, wu32, wu64, Int.tdiv_eq_ediv_of_nonneg, Int.tmod_eq_emod_of_nonneg]
          | with_reducible_and_instances exact finR
          | ((with_reducible refine finR' ?_ ?_) <;> rfl)
          | ((with_reducible refine finD hsc (NRel.of_plain ?_)); exact rfl)
        exact ⟨_, _, .refl _ _ _, rfl⟩
      · have g2 : (ts.length : Int) = 0 := by
          rcases Classical.em ((ts.length : Int) = 0) with h | h
          · exact h
          · exact absurd ⟨hlb, g1, h⟩ hg
        have g2b : ((ts.length : Int) == 0) = true := by simpa using g2
        unfold Pp.c
        refine AC.enter Tryd.func3 rfl (by kernel_rfl) 147 rfl [.tmp 8] rfl (by simp) fun hsc B => ?_
        repeat first
          | with_reducible refine AWP.seq ?_
          | ((with_reducible refine AWP.region ?_ ?_); exact rfl)
          | with_reducible refine AWP.block ?_
          | with_reducible refine AWP.skip ?_
          | with_reducible refine AWP.exit ?_
          | with_reducible refine AWP.ret ?_
          | with_reducible refine AWP.label ?_
          | with_reducible refine AWP.goto ?_
          | ((with_reducible refine AWP.condT ?_ ?_); focus (simp only [ev, lk_cons, ↓reduceIte, Nat.reduceEqDiff]; done))
          | ((with_reducible refine AWP.condF ?_ ?_); focus (simp only [ev, lk_cons, ↓reduceIte, Nat.reduceEqDiff]; done))
          | simp only [go_sem, ↓reduceIte, Nat.reduceEqDiff, reduceCtorEq, Nat.reduceAdd, Int.reduceEq, Int.reduceBNe, Int.reduceBEq, Int.reduceToNat, Int.reduceLT, Int.reduceLE, Int.reduceGT, Int.reduceGE, Nat.reduceSub, Nat.reduceBEq, Nat.reduceBNe, Int.reduceAdd, Int.reduceSub, Int.reduceMul, Int.reduceNeg, Nat.reduceMul, Nat.reduceLeDiff, Nat.reduceLT]
          | simp (disch := omega) only [wi64, wu8, wu16, wu32, wu64, Int.tdiv_eq_ediv_of_nonneg, Int.tmod_eq_emod_of_nonneg]
          | with_reducible_and_instances exact finR
          | ((with_reducible refine finR' ?_ ?_) <;> rfl)
          | ((with_reducible refine finD hsc (NRel.of_plain ?_)); exact rfl)
        rw [← hH0]
        repeat first
          | with_reducible refine AWP.seq ?_
          | ((with_reducible refine AWP.region ?_ ?_); exact rfl)
          | with_reducible refine AWP.block ?_
          | with_reducible refine AWP.skip ?_
          | with_reducible refine AWP.exit ?_
          | with_reducible refine AWP.ret ?_
          | with_reducible refine AWP.label ?_
          | with_reducible refine AWP.goto ?_
          | ((with_reducible refine AWP.condT ?_ ?_); focus (simp only [ev, lk_cons, ↓reduceIte, Nat.reduceEqDiff]; done))
          | ((with_reducible refine AWP.condF ?_ ?_); focus (simp only [ev, lk_cons, ↓reduceIte, Nat.reduceEqDiff]; done))
          | with_reducible refine hL.use ?_
          | simp only [go_sem, ↓reduceIte, Nat.reduceEqDiff, reduceCtorEq, Nat.reduceAdd, Int.reduceEq, Int.reduceBNe, Int.reduceBEq, Int.reduceToNat, Int.reduceLT, Int.reduceLE, Int.reduceGT, Int.reduceGE, Nat.reduceSub, Nat.reduceBEq, Nat.reduceBNe, Int.reduceAdd, Int.reduceSub, Int.reduceMul, Int.reduceNeg, Nat.reduceMul, Nat.reduceLeDiff, Nat.reduceLT, qt, g1, g2b]
          | simp (disch := omega) only [wi64, wu8, wu16, wu32, wu64, Int.tdiv_eq_ediv_of_nonneg, Int.tmod_eq_emod_of_nonneg]
          | with_reducible_and_instances exact finR
          | ((with_reducible refine finR' ?_ ?_) <;> rfl)
          | ((with_reducible refine finD hsc (NRel.of_plain ?_)); exact rfl)
        refine hAw0.use fun H1 _ => ?_
        repeat first
          | with_reducible refine AWP.seq ?_
          | ((with_reducible refine AWP.region ?_ ?_); exact rfl)
          | with_reducible refine AWP.block ?_
          | with_reducible refine AWP.skip ?_
          | with_reducible refine AWP.exit ?_
          | with_reducible refine AWP.ret ?_
          | with_reducible refine AWP.label ?_
          | with_reducible refine AWP.goto ?_
          | ((with_reducible refine AWP.condT ?_ ?_); focus (simp only [ev, lk_cons, ↓reduceIte, Nat.reduceEqDiff]; done))
          | ((with_reducible refine AWP.condF ?_ ?_); focus (simp only [ev, lk_cons, ↓reduceIte, Nat.reduceEqDiff]; done))
          | simp only [go_sem, ↓reduceIte, Nat.reduceEqDiff, reduceCtorEq, Nat.reduceAdd, Int.reduceEq, Int.reduceBNe, Int.reduceBEq, Int.reduceToNat, Int.reduceLT, Int.reduceLE, Int.reduceGT, Int.reduceGE, Nat.reduceSub, Nat.reduceBEq, Nat.reduceBNe, Int.reduceAdd, Int.reduceSub, Int.reduceMul, Int.reduceNeg, Nat.reduceMul, Nat.reduceLeDiff, Nat.reduceLT]
          | simp (disch := omega) only [wi64, wu8, wu16, wu32, wu64, Int.tdiv_eq_ediv_of_nonneg, Int.tmod_eq_emod_of_nonneg]
          | with_reducible_and_instances exact finR
          | ((with_reducible refine finR' ?_ ?_) <;> rfl)
          | ((with_reducible refine finD hsc (NRel.of_plain ?_)); exact rfl)
        exact ⟨_, _, .refl _ _ _, rfl⟩
  obtain ⟨hlb, g1, g2⟩ := hg
  rw [hlb] at hL
  have g2b : ((ts.length : Int) == 0) = false := by simpa using g2
  have hpbl := lt_of_get hpb0
  rw [hcc] at hpb0
  have hlb2 := hlb
  unfold lightB at hlb2
  simp only [Bool.and_eq_true, decide_eq_true_eq] at hlb2
  obtain ⟨⟨hnl2, hl120⟩, hall⟩ := hlb2
  cases hok : okN p nums with
  | false =>
    have hN := NewNo p nums (by omega) vn H0 hvn0 hok
    rw [hcc] at hN
    unfold Pp.c
    refine AC.enter Tryd.func3 rfl (by kernel_rfl) 147 rfl [.tmp 8] rfl (by simp) fun hsc B => ?_
    repeat first
      | with_reducible refine AWP.seq ?_
      | ((with_reducible refine AWP.region ?_ ?_); exact rfl)
      | with_reducible refine AWP.block ?_
      | with_reducible refine AWP.skip ?_
      | with_reducible refine AWP.exit ?_
      | with_reducible refine AWP.ret ?_
      | with_reducible refine AWP.label ?_
      | with_reducible refine AWP.goto ?_
      | ((with_reducible refine AWP.condT ?_ ?_); focus (simp only [ev, lk_cons, ↓reduceIte, Nat.reduceEqDiff]; done))
      | ((with_reducible refine AWP.condF ?_ ?_); focus (simp only [ev, lk_cons, ↓reduceIte, Nat.reduceEqDiff]; done))
      | simp only [go_sem, ↓reduceIte, Nat.reduceEqDiff, reduceCtorEq, Nat.reduceAdd, Int.reduceEq, Int.reduceBNe, Int.reduceBEq, Int.reduceToNat, Int.reduceLT, Int.reduceLE, Int.reduceGT, Int.reduceGE, Nat.reduceSub, Nat.reduceBEq, Nat.reduceBNe, Int.reduceAdd, Int.reduceSub, Int.reduceMul, Int.reduceNeg, Nat.reduceMul, Nat.reduceLeDiff, Nat.reduceLT]
      | simp (disch := omega) only [wi64, wu8, wu16, wu32, wu64, Int.tdiv_eq_ediv_of_nonneg, Int.tmod_eq_emod_of_nonneg]
      | with_reducible_and_instances exact finR
      | ((with_reducible refine finR' ?_ ?_) <;> rfl)
      | ((with_reducible refine finD hsc (NRel.of_plain ?_)); exact rfl)
    rw [← hH0]
    repeat first
      | with_reducible refine AWP.seq ?_
      | ((with_reducible refine AWP.region ?_ ?_); exact rfl)
      | with_reducible refine AWP.block ?_
      | with_reducible refine AWP.skip ?_
      | with_reducible refine AWP.exit ?_
      | with_reducible refine AWP.ret ?_
      | with_reducible refine AWP.label ?_
      | with_reducible refine AWP.goto ?_
      | ((with_reducible refine AWP.condT ?_ ?_); focus (simp only [ev, lk_cons, ↓reduceIte, Nat.reduceEqDiff]; done))
      | ((with_reducible refine AWP.condF ?_ ?_); focus (simp only [ev, lk_cons, ↓reduceIte, Nat.reduceEqDiff]; done))
      | with_reducible refine hL.use ?_
      | with_reducible refine hN.use ?_
      | simp only [go_sem, ↓reduceIte, Nat.reduceEqDiff, reduceCtorEq, Nat.reduceAdd, Int.reduceEq, Int.reduceBNe, Int.reduceBEq, Int.reduceToNat, Int.reduceLT, Int.reduceLE, Int.reduceGT, Int.reduceGE, Nat.reduceSub, Nat.reduceBEq, Nat.reduceBNe, Int.reduceAdd, Int.reduceSub, Int.reduceMul, Int.reduceNeg, Nat.reduceMul, Nat.reduceLeDiff, Nat.reduceLT, qt, g1, g2b, hpb0, hpbl]
      | simp (disch := omega) only [wi64, wu8, wu16, wu32, wu64, Int.tdiv_eq_ediv_of_nonneg, Int.tmod_eq_emod_of_nonneg]
      | with_reducible_and_instances exact finR
      | ((with_reducible refine finR' ?_ ?_) <;> rfl)
      | ((with_reducible refine finD hsc (NRel.of_plain ?_)); exact rfl)
    refine (awake H0).use fun H1 _ => ?_
    repeat first
      | with_reducible refine AWP.seq ?_
      | ((with_reducible refine AWP.region ?_ ?_); exact rfl)
      | with_reducible refine AWP.block ?_
      | with_reducible refine AWP.skip ?_
      | with_reducible refine AWP.exit ?_
      | with_reducible refine AWP.ret ?_
      | with_reducible refine AWP.label ?_
      | with_reducible refine AWP.goto ?_
      | ((with_reducible refine AWP.condT ?_ ?_); focus (simp only [ev, lk_cons, ↓reduceIte, Nat.reduceEqDiff]; done))
      | ((with_reducible refine AWP.condF ?_ ?_); focus (simp only [ev, lk_cons, ↓reduceIte, Nat.reduceEqDiff]; done))
      | simp only [go_sem, ↓reduceIte, Nat.reduceEqDiff, reduceCtorEq, Nat.reduceAdd, Int.reduceEq, Int.reduceBNe, Int.reduceBEq, Int.reduceToNat, Int.reduceLT, Int.reduceLE, Int.reduceGT, Int.reduceGE, Nat.reduceSub, Nat.reduceBEq, Nat.reduceBNe, Int.reduceAdd, Int.reduceSub, Int.reduceMul, Int.reduceNeg, Nat.reduceMul, Nat.reduceLeDiff, Nat.reduceLT]
      | simp (disch := omega) only [wi64, wu8, wu16, wu32, wu64, Int.tdiv_eq_ediv_of_nonneg, Int.tmod_eq_emod_of_nonneg]
      | with_reducible_and_instances exact finR
      | ((with_reducible refine finR' ?_ ?_) <;> rfl)
      | ((with_reducible refine finD hsc (NRel.of_plain ?_)); exact rfl)
    exact ⟨_, _, .refl _ _ _, rfl⟩
  | true =>
  have hN := New p nums (by omega) vn H0 hvn0 hok
  rw [hcc] at hN
  have hI0 := iv_new p nums hok
  unfold Pp.c
  refine AC.enter Tryd.func3 rfl (by kernel_rfl) 147 rfl [.tmp 8] rfl (by simp) fun hsc B => ?_
  repeat first
    | with_reducible refine AWP.seq ?_
    | ((with_reducible refine AWP.region ?_ ?_); exact rfl)
    | with_reducible refine AWP.block ?_
    | with_reducible refine AWP.skip ?_
    | with_reducible refine AWP.exit ?_
    | with_reducible refine AWP.ret ?_
    | with_reducible refine AWP.label ?_
    | with_reducible refine AWP.goto ?_
    | ((with_reducible refine AWP.condT ?_ ?_); focus (simp only [ev, lk_cons, ↓reduceIte, Nat.reduceEqDiff]; done))
    | ((with_reducible refine AWP.condF ?_ ?_); focus (simp only [ev, lk_cons, ↓reduceIte, Nat.reduceEqDiff]; done))
    | simp only [go_sem, ↓reduceIte, Nat.reduceEqDiff, reduceCtorEq, Nat.reduceAdd, Int.reduceEq, Int.reduceBNe, Int.reduceBEq, Int.reduceToNat, Int.reduceLT, Int.reduceLE, Int.reduceGT, Int.reduceGE, Nat.reduceSub, Nat.reduceBEq, Nat.reduceBNe, Int.reduceAdd, Int.reduceSub, Int.reduceMul, Int.reduceNeg, Nat.reduceMul, Nat.reduceLeDiff, Nat.reduceLT]
    | simp (disch := omega) only [wi64, wu8, wu16, wu32, wu64, Int.tdiv_eq_ediv_of_nonneg, Int.tmod_eq_emod_of_nonneg]
    | with_reducible_and_instances exact finR
    | ((with_reducible refine finR' ?_ ?_) <;> rfl)
    | ((with_reducible refine finD hsc (NRel.of_plain ?_)); exact rfl)
  rw [← hH0]
  repeat first
    | with_reducible refine AWP.seq ?_
    | ((with_reducible refine AWP.region ?_ ?_); exact rfl)
    | with_reducible refine AWP.block ?_
    | with_reducible refine AWP.skip ?_
    | with_reducible refine AWP.exit ?_
    | with_reducible refine AWP.ret ?_
    | with_reducible refine AWP.label ?_
    | with_reducible refine AWP.goto ?_
    | ((with_reducible refine AWP.condT ?_ ?_); focus (simp only [ev, lk_cons, ↓reduceIte, Nat.reduceEqDiff]; done))
    | ((with_reducible refine AWP.condF ?_ ?_); focus (simp only [ev, lk_cons, ↓reduceIte, Nat.reduceEqDiff]; done))
    | with_reducible refine hL.use ?_
    | simp only [go_sem, ↓reduceIte, Nat.reduceEqDiff, reduceCtorEq, Nat.reduceAdd, Int.reduceEq, Int.reduceBNe, Int.reduceBEq, Int.reduceToNat, Int.reduceLT, Int.reduceLE, Int.reduceGT, Int.reduceGE, Nat.reduceSub, Nat.reduceBEq, Nat.reduceBNe, Int.reduceAdd, Int.reduceSub, Int.reduceMul, Int.reduceNeg, Nat.reduceMul, Nat.reduceLeDiff, Nat.reduceLT, qt, g1, g2b, hpb0, hpbl]
    | simp (disch := omega) only [wi64, wu8, wu16, wu32, wu64, Int.tdiv_eq_ediv_of_nonneg, Int.tmod_eq_emod_of_nonneg]
    | with_reducible_and_instances exact finR
    | ((with_reducible refine finR' ?_ ?_) <;> rfl)
    | ((with_reducible refine finD hsc (NRel.of_plain ?_)); exact rfl)
  refine AC.mono hN ?_
  rintro r H1 ⟨i, S, rfl, hA, hf1, hS⟩
  have hpb1 := hf1.get hpb0 (by simp)
  have hpbl1 := lt_of_get hpb1
  have hN2 := New p nums (by omega) vn H1 (Rd0.grown hvn0 hf1) hok
  rw [hcc] at hN2
  repeat first
    | with_reducible refine AWP.seq ?_
    | ((with_reducible refine AWP.region ?_ ?_); exact rfl)
    | with_reducible refine AWP.block ?_
    | with_reducible refine AWP.skip ?_
    | with_reducible refine AWP.exit ?_
    | with_reducible refine AWP.ret ?_
    | with_reducible refine AWP.label ?_
    | with_reducible refine AWP.goto ?_
    | ((with_reducible refine AWP.condT ?_ ?_); focus (simp only [ev, lk_cons, ↓reduceIte, Nat.reduceEqDiff]; done))
    | ((with_reducible refine AWP.condF ?_ ?_); focus (simp only [ev, lk_cons, ↓reduceIte, Nat.reduceEqDiff]; done))
    | simp only [go_sem, ↓reduceIte, Nat.reduceEqDiff, reduceCtorEq, Nat.reduceAdd, Int.reduceEq, Int.reduceBNe, Int.reduceBEq, Int.reduceToNat, Int.reduceLT, Int.reduceLE, Int.reduceGT, Int.reduceGE, Nat.reduceSub, Nat.reduceBEq, Nat.reduceBNe, Int.reduceAdd, Int.reduceSub, Int.reduceMul, Int.reduceNeg, Nat.reduceMul, Nat.reduceLeDiff, Nat.reduceLT, hpb1, hpbl1]
    | simp (disch := omega) only [wi64, wu8, wu16, wu32, wu64, Int.tdiv_eq_ediv_of_nonneg, Int.tmod_eq_emod_of_nonneg]
    | with_reducible_and_instances exact finR
    | ((with_reducible refine finR' ?_ ?_) <;> rfl)
    | ((with_reducible refine finD hsc (NRel.of_plain ?_)); exact rfl)
  refine AC.mono hN2 ?_
  rintro r H2 ⟨j, T, rfl, hA2, hf2, hS2⟩
  have hps : PS H0 i j (newS p nums) (newS p nums) H2 := ⟨S, T, hA.grown hf2, hA2, hf1.trans hf2 (by simp), hS, fun t ht => by have := hS2 t ht; have := hf1.1; omega, fun t ht hs => by have := hS2 t hs; have := hA.lt t ht; omega⟩
  let E1 : ASt → Prop := fun st => ∃ s H3 n, PS H0 i j s s H3 ∧ n ≤ 120 ∧ s.iv n ∧ s.now ≤ 120000000 ∧ st = ⟨[(3, vt), (9, .pointer (some ⟨i, 0, none⟩)), (11, .pointer (some ⟨j, 0, none⟩))], [], H3⟩
  repeat first
    | with_reducible refine AWP.seqE (x := .seq (.region 7 _ _) _) E1 ?_ ?_
    | with_reducible refine AWP.seq ?_
    | ((with_reducible refine AWP.region ?_ ?_); exact rfl)
    | with_reducible refine AWP.block ?_
    | with_reducible refine AWP.skip ?_
    | with_reducible refine AWP.exit ?_
    | with_reducible refine AWP.ret ?_
    | with_reducible refine AWP.label ?_
    | with_reducible refine AWP.goto ?_
    | ((with_reducible refine AWP.condT ?_ ?_); focus (simp only [ev, lk_cons, ↓reduceIte, Nat.reduceEqDiff]; done))
    | ((with_reducible refine AWP.condF ?_ ?_); focus (simp only [ev, lk_cons, ↓reduceIte, Nat.reduceEqDiff]; done))
    | simp only [go_sem, ↓reduceIte, Nat.reduceEqDiff, reduceCtorEq, Nat.reduceAdd, Int.reduceEq, Int.reduceBNe, Int.reduceBEq, Int.reduceToNat, Int.reduceLT, Int.reduceLE, Int.reduceGT, Int.reduceGE, Nat.reduceSub, Nat.reduceBEq, Nat.reduceBNe, Int.reduceAdd, Int.reduceSub, Int.reduceMul, Int.reduceNeg, Nat.reduceMul, Nat.reduceLeDiff, Nat.reduceLT]
    | simp (disch := omega) only [wi64, wu8, wu16, wu32, wu64, Int.tdiv_eq_ediv_of_nonneg, Int.tmod_eq_emod_of_nonneg]
    | with_reducible_and_instances exact finR
    | ((with_reducible refine finR' ?_ ?_) <;> rfl)
    | ((with_reducible refine finD hsc (NRel.of_plain ?_)); exact rfl)
  · skip
    repeat first
      | with_reducible refine AWP.seq ?_
      | ((with_reducible refine AWP.region ?_ ?_); exact rfl)
      | with_reducible refine AWP.block ?_
      | with_reducible refine AWP.skip ?_
      | with_reducible refine AWP.exit ?_
      | with_reducible refine AWP.ret ?_
      | with_reducible refine AWP.label ?_
      | with_reducible refine AWP.goto ?_
      | ((with_reducible refine AWP.condT ?_ ?_); focus (simp only [ev, lk_cons, ↓reduceIte, Nat.reduceEqDiff]; done))
      | ((with_reducible refine AWP.condF ?_ ?_); focus (simp only [ev, lk_cons, ↓reduceIte, Nat.reduceEqDiff]; done))
      | simp only [go_sem, ↓reduceIte, Nat.reduceEqDiff, reduceCtorEq, Nat.reduceAdd, Int.reduceEq, Int.reduceBNe, Int.reduceBEq, Int.reduceToNat, Int.reduceLT, Int.reduceLE, Int.reduceGT, Int.reduceGE, Nat.reduceSub, Nat.reduceBEq, Nat.reduceBNe, Int.reduceAdd, Int.reduceSub, Int.reduceMul, Int.reduceNeg, Nat.reduceMul, Nat.reduceLeDiff, Nat.reduceLT, ql]
      | simp (disch := omega) only [wi64, wu8, wu16, wu32, wu64, Int.tdiv_eq_ediv_of_nonneg, Int.tmod_eq_emod_of_nonneg]
      | with_reducible_and_instances exact finR
      | ((with_reducible refine finR' ?_ ?_) <;> rfl)
      | ((with_reducible refine finD hsc (NRel.of_plain ?_)); exact rfl)
    refine AWP.loopP (fun q : Nat × AHeap => pairE i j vl vt l.length q.1 q.2) (fun q => q.1 ≤ l.length ∧ ∃ s, PS H0 i j s s q.2 ∧ s.iv q.1 ∧ s.now ≤ q.1 * 1000000) (fun q => l.length - q.1) (0, H2) ?_ ⟨Nat.zero_le _, _, hps, hI0, by simp [newS]⟩ ?_
    · exact Weak.env (by simp [pairE, envIn, lk_cons, wth_some])
    rintro ⟨n, H3⟩ ⟨hn, s, hp3, hI, hnow⟩
    simp only [pairE] at hn hp3 hI hnow ⊢
    by_cases hc : n < l.length
    · have hc' : (n : Int) < (l.length : Int) := by omega
      obtain ⟨S3, T3, hA3, hB3, hf3, hS3, hT3, hd3⟩ := hp3
      have hv3 : RdN H3 10 vl (l.map acC) := hv0.frm hf3 (by simp)
      obtain ⟨jj, o, cap, cs, k, rfl, hj, hg, hle⟩ := acs_at hv3 hc
      have hjl := lt_of_get hj
      have hwn : IntKind.i64.wrap ((n : Int) + 1) = ((n + 1 : Nat) : Int) := by rw [wi64 (by omega)]; omega
      have hlt : l[n].light = true := List.all_eq_true.1 hall _ (List.getElem_mem hc)
      generalize l[n] = a at *
      unfold acC at hg
      let J2 : ASt → Prop := fun st => ∃ s' H5, PS H0 i j s' s' H5 ∧ s'.iv (n + 1) ∧ s'.now ≤ ((n + 1 : Nat) : Int) * 1000000 ∧
        st = ⟨[(3, vt), (9, .pointer (some ⟨i, 0, none⟩)), (11, .pointer (some ⟨j, 0, none⟩)), (57, .slice (some ⟨jj, o, none⟩) l.length cap), (58, .int .i64 (l.length : Nat)), (59, .int .i64 (n : Nat))], [], H5⟩
      repeat first
        | with_reducible refine AWP.seqE (x := .block 1 _) J2 ?_ ?_
        | with_reducible refine AWP.seq ?_
        | ((with_reducible refine AWP.region ?_ ?_); exact rfl)
        | with_reducible refine AWP.block ?_
        | with_reducible refine AWP.skip ?_
        | with_reducible refine AWP.exit ?_
        | with_reducible refine AWP.ret ?_
        | with_reducible refine AWP.label ?_
        | with_reducible refine AWP.goto ?_
        | ((with_reducible refine AWP.condT ?_ ?_); focus (simp only [ev, lk_cons, ↓reduceIte, Nat.reduceEqDiff]; done))
        | ((with_reducible refine AWP.condF ?_ ?_); focus (simp only [ev, lk_cons, ↓reduceIte, Nat.reduceEqDiff]; done))
        | simp only [go_sem, ↓reduceIte, Nat.reduceEqDiff, reduceCtorEq, Nat.reduceAdd, Int.reduceEq, Int.reduceBNe, Int.reduceBEq, Int.reduceToNat, Int.reduceLT, Int.reduceLE, Int.reduceGT, Int.reduceGE, Nat.reduceSub, Nat.reduceBEq, Nat.reduceBNe, Int.reduceAdd, Int.reduceSub, Int.reduceMul, Int.reduceNeg, Nat.reduceMul, Nat.reduceLeDiff, Nat.reduceLT, hc']
        | simp (disch := omega) only [wi64, wu8, wu16, wu32, wu64, Int.tdiv_eq_ediv_of_nonneg, Int.tmod_eq_emod_of_nonneg]
        | with_reducible_and_instances exact finR
        | ((with_reducible refine finR' ?_ ?_) <;> rfl)
        | ((with_reducible refine finD hsc (NRel.of_plain ?_)); exact rfl)
      rotate_left
      · rintro st5 ⟨s', H5, hp5, hI5, hnow5, rfl⟩
        repeat first
          | with_reducible refine AWP.seq ?_
          | ((with_reducible refine AWP.region ?_ ?_); exact rfl)
          | with_reducible refine AWP.block ?_
          | with_reducible refine AWP.skip ?_
          | with_reducible refine AWP.exit ?_
          | with_reducible refine AWP.ret ?_
          | with_reducible refine AWP.label ?_
          | with_reducible refine AWP.goto ?_
          | ((with_reducible refine AWP.condT ?_ ?_); focus (simp only [ev, lk_cons, ↓reduceIte, Nat.reduceEqDiff]; done))
          | ((with_reducible refine AWP.condF ?_ ?_); focus (simp only [ev, lk_cons, ↓reduceIte, Nat.reduceEqDiff]; done))
          | simp only [go_sem, ↓reduceIte, Nat.reduceEqDiff, reduceCtorEq, Nat.reduceAdd, Int.reduceEq, Int.reduceBNe, Int.reduceBEq, Int.reduceToNat, Int.reduceLT, Int.reduceLE, Int.reduceGT, Int.reduceGE, Nat.reduceSub, Nat.reduceBEq, Nat.reduceBNe, Int.reduceAdd, Int.reduceSub, Int.reduceMul, Int.reduceNeg, Nat.reduceMul, Nat.reduceLeDiff, Nat.reduceLT, hwn]
          | simp (disch := omega) only [wi64, wu8, wu16, wu32, wu64, Int.tdiv_eq_ediv_of_nonneg, Int.tmod_eq_emod_of_nonneg]
          | with_reducible_and_instances exact finR
          | ((with_reducible refine finR' ?_ ?_) <;> rfl)
          | ((with_reducible refine finD hsc (NRel.of_plain ?_)); exact rfl)
        exact ⟨(n + 1, H5), Weak.env (by simp [pairE, envIn, lk_cons, wth_some]), by show n + 1 ≤ _; omega, ⟨s', hp5, hI5, hnow5⟩, by show l.length - (n + 1) < _; omega⟩
      by_cases g3 : a.kind < 6
      case neg =>
        repeat first
          | with_reducible refine AWP.seq ?_
          | ((with_reducible refine AWP.region ?_ ?_); exact rfl)
          | with_reducible refine AWP.block ?_
          | with_reducible refine AWP.skip ?_
          | with_reducible refine AWP.exit ?_
          | with_reducible refine AWP.ret ?_
          | with_reducible refine AWP.label ?_
          | with_reducible refine AWP.goto ?_
          | ((with_reducible refine AWP.condT ?_ ?_); focus (simp only [ev, lk_cons, ↓reduceIte, Nat.reduceEqDiff]; done))
          | ((with_reducible refine AWP.condF ?_ ?_); focus (simp only [ev, lk_cons, ↓reduceIte, Nat.reduceEqDiff]; done))
          | simp only [go_sem, ↓reduceIte, Nat.reduceEqDiff, reduceCtorEq, Nat.reduceAdd, Int.reduceEq, Int.reduceBNe, Int.reduceBEq, Int.reduceToNat, Int.reduceLT, Int.reduceLE, Int.reduceGT, Int.reduceGE, Nat.reduceSub, Nat.reduceBEq, Nat.reduceBNe, Int.reduceAdd, Int.reduceSub, Int.reduceMul, Int.reduceNeg, Nat.reduceMul, Nat.reduceLeDiff, Nat.reduceLT, hc', hj, hjl, hgetl, hg, hle, g3, hwn]
          | simp (disch := omega) only [wi64, wu8, wu16, wu32, wu64, Int.tdiv_eq_ediv_of_nonneg, Int.tmod_eq_emod_of_nonneg]
          | with_reducible_and_instances exact finR
          | ((with_reducible refine finR' ?_ ?_) <;> rfl)
          | ((with_reducible refine finD hsc (NRel.of_plain ?_)); exact rfl)
        exact ⟨_, ⟨s, _, PS.more ⟨S3, T3, hA3, hB3, hf3, hS3, hT3, hd3⟩ _, iv_mono hI, by omega, rfl⟩, Weak.env (by simp [envIn, lk_cons, wth_some])⟩
      by_cases g4 : a.later ≥ 0
      case neg =>
        repeat first
          | with_reducible refine AWP.seq ?_
          | ((with_reducible refine AWP.region ?_ ?_); exact rfl)
          | with_reducible refine AWP.block ?_
          | with_reducible refine AWP.skip ?_
          | with_reducible refine AWP.exit ?_
          | with_reducible refine AWP.ret ?_
          | with_reducible refine AWP.label ?_
          | with_reducible refine AWP.goto ?_
          | ((with_reducible refine AWP.condT ?_ ?_); focus (simp only [ev, lk_cons, ↓reduceIte, Nat.reduceEqDiff]; done))
          | ((with_reducible refine AWP.condF ?_ ?_); focus (simp only [ev, lk_cons, ↓reduceIte, Nat.reduceEqDiff]; done))
          | simp only [go_sem, ↓reduceIte, Nat.reduceEqDiff, reduceCtorEq, Nat.reduceAdd, Int.reduceEq, Int.reduceBNe, Int.reduceBEq, Int.reduceToNat, Int.reduceLT, Int.reduceLE, Int.reduceGT, Int.reduceGE, Nat.reduceSub, Nat.reduceBEq, Nat.reduceBNe, Int.reduceAdd, Int.reduceSub, Int.reduceMul, Int.reduceNeg, Nat.reduceMul, Nat.reduceLeDiff, Nat.reduceLT, hc', hj, hjl, hgetl, hg, hle, g3, g4, hwn]
          | simp (disch := omega) only [wi64, wu8, wu16, wu32, wu64, Int.tdiv_eq_ediv_of_nonneg, Int.tmod_eq_emod_of_nonneg]
          | with_reducible_and_instances exact finR
          | ((with_reducible refine finR' ?_ ?_) <;> rfl)
          | ((with_reducible refine finD hsc (NRel.of_plain ?_)); exact rfl)
        exact ⟨_, ⟨s, _, PS.more ⟨S3, T3, hA3, hB3, hf3, hS3, hT3, hd3⟩ _, iv_mono hI, by omega, rfl⟩, Weak.env (by simp [envIn, lk_cons, wth_some])⟩
      have hlat : a.body.length ≤ 100 ∧ a.later ≤ 1000000 := by
        unfold Ac.light at hlt
        simp only [Bool.and_eq_true, decide_eq_true_eq] at hlt
        exact hlt
      have hnw := hI.nowb
      have hw1 : IntKind.i64.wrap (s.now + a.later) = s.now + a.later := wi64 (by omega)
      let s' := s.putF (s.now + a.later) a.size a.body
      have hI' : s'.iv (n + 1) := iv_putF hI (by omega) _ _ _
      have hnow' : s'.now ≤ ((n + 1 : Nat) : Int) * 1000000 := by
        have := putF_now s (s.now + a.later) a.size a.body
        have e : s'.now = s.now ∨ s'.now = s.now + a.later := this
        omega
      obtain ⟨v1, hP1⟩ := Put (hA3.more [.cells [.int .i64 a.kind, .int .i64 a.later, .int .i64 a.size, .string (bs a.body), .int .i64 a.pipe.delay, .int .i64 a.pipe.rate, .int .i64 a.pipe.room, .int .i64 a.pipe.loss, .int .i64 a.pipe.dbl, .int .i64 a.pipe.jit] ⟨33, 0, true, 0, none⟩]) hI (by omega) (s.now + a.later) a.size a.body
      have hN1 := now_ (hA3.more [.cells [.int .i64 a.kind, .int .i64 a.later, .int .i64 a.size, .string (bs a.body), .int .i64 a.pipe.delay, .int .i64 a.pipe.rate, .int .i64 a.pipe.room, .int .i64 a.pipe.loss, .int .i64 a.pipe.dbl, .int .i64 a.pipe.jit] ⟨33, 0, true, 0, none⟩])
      let J1 : ASt → Prop := fun st => ∃ H4, PS H0 i j s' s H4 ∧ H4[H3.length]? = some (.cells [.int .i64 a.kind, .int .i64 a.later, .int .i64 a.size, .string (bs a.body), .int .i64 a.pipe.delay, .int .i64 a.pipe.rate, .int .i64 a.pipe.room, .int .i64 a.pipe.loss, .int .i64 a.pipe.dbl, .int .i64 a.pipe.jit] ⟨33, 0, true, 0, none⟩) ∧
        st = ⟨[(14, .pointer (some ⟨H3.length, 0, none⟩)), (3, vt), (9, .pointer (some ⟨i, 0, none⟩)), (11, .pointer (some ⟨j, 0, none⟩)), (57, .slice (some ⟨jj, o, none⟩) l.length cap), (58, .int .i64 (l.length : Nat)), (59, .int .i64 (n : Nat))], [], H4⟩
      repeat first
        | with_reducible refine AWP.seqE (x := .region 11 _ _) J1 ?_ ?_
        | with_reducible refine AWP.seq ?_
        | ((with_reducible refine AWP.region ?_ ?_); exact rfl)
        | with_reducible refine AWP.block ?_
        | with_reducible refine AWP.skip ?_
        | with_reducible refine AWP.exit ?_
        | with_reducible refine AWP.ret ?_
        | with_reducible refine AWP.label ?_
        | with_reducible refine AWP.goto ?_
        | ((with_reducible refine AWP.condT ?_ ?_); focus (simp only [ev, lk_cons, ↓reduceIte, Nat.reduceEqDiff]; done))
        | ((with_reducible refine AWP.condF ?_ ?_); focus (simp only [ev, lk_cons, ↓reduceIte, Nat.reduceEqDiff]; done))
        | simp only [go_sem, ↓reduceIte, Nat.reduceEqDiff, reduceCtorEq, Nat.reduceAdd, Int.reduceEq, Int.reduceBNe, Int.reduceBEq, Int.reduceToNat, Int.reduceLT, Int.reduceLE, Int.reduceGT, Int.reduceGE, Nat.reduceSub, Nat.reduceBEq, Nat.reduceBNe, Int.reduceAdd, Int.reduceSub, Int.reduceMul, Int.reduceNeg, Nat.reduceMul, Nat.reduceLeDiff, Nat.reduceLT, hc', hj, hjl, hgetl, hg, hle, g3, g4]
        | simp (disch := omega) only [wi64, wu8, wu16, wu32, wu64, Int.tdiv_eq_ediv_of_nonneg, Int.tmod_eq_emod_of_nonneg]
        | with_reducible_and_instances exact finR
        | ((with_reducible refine finR' ?_ ?_) <;> rfl)
        | ((with_reducible refine finD hsc (NRel.of_plain ?_)); exact rfl)
      · refine AWP.regionM 10 [2, 4, 7, 9] [(2, .int .i64 s.now), (4, .int .i64 a.later)] (.both (.step 2 (.both (.step 4 (.both (.run [7, 9]) (.run [9, 7]))) (.both (.step 7 (.both (.run [4, 9]) (.run [9, 4]))) (.step 9 (.both (.run [4, 7]) (.run [7, 4])))))) (.both (.step 4 (.both (.step 2 (.both (.run [7, 9]) (.run [9, 7]))) (.both (.step 7 (.both (.run [2, 9]) (.run [9, 2]))) (.step 9 (.both (.run [2, 7]) (.run [7, 2])))))) (.both (.step 7 (.both (.step 2 (.both (.run [4, 9]) (.run [9, 4]))) (.both (.step 4 (.both (.run [2, 9]) (.run [9, 2]))) (.step 9 (.both (.run [2, 4]) (.run [4, 2])))))) (.step 9 (.both (.step 2 (.both (.run [4, 7]) (.run [7, 4]))) (.both (.step 4 (.both (.run [2, 7]) (.run [7, 2]))) (.step 7 (.both (.run [2, 4]) (.run [4, 2]))))))))) (by kernel_rfl) (by decide) (by kernel_rfl) (by kernel_rfl) (by kernel_rfl) ?_
        have hfin : ∀ H4, LkTo (H3 ++ [.cells [.int .i64 a.kind, .int .i64 a.later, .int .i64 a.size, .string (bs a.body), .int .i64 a.pipe.delay, .int .i64 a.pipe.rate, .int .i64 a.pipe.room, .int .i64 a.pipe.loss, .int .i64 a.pipe.dbl, .int .i64 a.pipe.jit] ⟨33, 0, true, 0, none⟩]) i S3 s' H4 → PS H0 i j s' s H4 ∧ H4[H3.length]? = some (.cells [.int .i64 a.kind, .int .i64 a.later, .int .i64 a.size, .string (bs a.body), .int .i64 a.pipe.delay, .int .i64 a.pipe.rate, .int .i64 a.pipe.room, .int .i64 a.pipe.loss, .int .i64 a.pipe.dbl, .int .i64 a.pipe.jit] ⟨33, 0, true, 0, none⟩) := fun H4 ht => by
          refine ⟨PS.goL (hA3.more _) (hB3.more _) (Frm.more hf3) hS3 hT3 hd3 ht, ?_⟩
          obtain ⟨S4, _, hf4, _⟩ := ht
          exact hf4.get (hget0 rfl) fun hs => by have := hA3.lt _ hs; omega
        repeat' first
          | with_reducible refine canW_n ?_
          | with_reducible refine canW_m (by decide) ?_
          | ((with_reducible apply canW_p (by decide)); focus (intro H; (simp only [go_sem, ↓reduceIte, Nat.reduceEqDiff, reduceCtorEq, Nat.reduceAdd, Int.reduceEq, Int.reduceBNe, Int.reduceBEq, Int.reduceToNat, Int.reduceLT, Int.reduceLE, Int.reduceGT, Int.reduceGE, Nat.reduceSub, Nat.reduceBEq, Nat.reduceBNe, Int.reduceAdd, Int.reduceSub, Int.reduceMul, Int.reduceNeg, Nat.reduceMul, Nat.reduceLeDiff, Nat.reduceLT, hw1, hgetl, List.map_cons, List.map_nil]); exact rfl))
          | with_reducible refine memW_b ?_ ?_
          | with_reducible refine memW_s rfl ?_
          | with_reducible refine memW_r rfl ?_
          | with_reducible refine memW_e ?_
          | simp only [List.take_succ_cons, List.take_zero, List.drop_succ_cons, List.drop_zero]
          | omega
          | with_reducible refine And.intro ?_ ?_
          | with_reducible refine hP1.use fun H4 ht => ?_
          | with_reducible refine AWP.seq ?_
          | ((with_reducible refine AWP.region ?_ ?_); exact rfl)
          | with_reducible refine AWP.block ?_
          | with_reducible refine AWP.skip ?_
          | with_reducible refine AWP.exit ?_
          | with_reducible refine AWP.ret ?_
          | with_reducible refine AWP.label ?_
          | with_reducible refine AWP.goto ?_
          | ((with_reducible refine AWP.condT ?_ ?_); focus (simp only [ev, lk_cons, ↓reduceIte, Nat.reduceEqDiff]; done))
          | ((with_reducible refine AWP.condF ?_ ?_); focus (simp only [ev, lk_cons, ↓reduceIte, Nat.reduceEqDiff]; done))
          | with_reducible refine hN1.use ?_
          | simp only [go_sem, ↓reduceIte, Nat.reduceEqDiff, reduceCtorEq, Nat.reduceAdd, Int.reduceEq, Int.reduceBNe, Int.reduceBEq, Int.reduceToNat, Int.reduceLT, Int.reduceLE, Int.reduceGT, Int.reduceGE, Nat.reduceSub, Nat.reduceBEq, Nat.reduceBNe, Int.reduceAdd, Int.reduceSub, Int.reduceMul, Int.reduceNeg, Nat.reduceMul, Nat.reduceLeDiff, Nat.reduceLT, hw1, hgetl, List.map_cons, List.map_nil]
          | simp (disch := omega) only [wi64, wu8, wu16, wu32, wu64, Int.tdiv_eq_ediv_of_nonneg, Int.tmod_eq_emod_of_nonneg]
          | with_reducible_and_instances exact finR
          | ((with_reducible refine finR' ?_ ?_) <;> rfl)
          | ((with_reducible refine finD hsc (NRel.of_plain ?_)); exact rfl)
        all_goals (obtain ⟨r1, r2⟩ := hfin H4 ht; exact ⟨_, ⟨H4, r1, r2, rfl⟩, Weak.env (by simp [envIn, lk_cons, wth_some])⟩)
      rintro st5 ⟨H4, hp4, hbx, rfl⟩
      have hbxl := lt_of_get hbx
      obtain ⟨S4, T4, hA4, hB4, hf4, hS4, hT4, hd4⟩ := hp4
      obtain ⟨v2, hP2⟩ := Put hB4 hI (by omega) (s.now + a.later) a.size a.body
      have hN2 := now_ hB4
      refine AWP.regionM 10 [2, 4, 7, 9] [(2, .int .i64 s.now), (4, .int .i64 a.later)] (.both (.step 2 (.both (.step 4 (.both (.run [7, 9]) (.run [9, 7]))) (.both (.step 7 (.both (.run [4, 9]) (.run [9, 4]))) (.step 9 (.both (.run [4, 7]) (.run [7, 4])))))) (.both (.step 4 (.both (.step 2 (.both (.run [7, 9]) (.run [9, 7]))) (.both (.step 7 (.both (.run [2, 9]) (.run [9, 2]))) (.step 9 (.both (.run [2, 7]) (.run [7, 2])))))) (.both (.step 7 (.both (.step 2 (.both (.run [4, 9]) (.run [9, 4]))) (.both (.step 4 (.both (.run [2, 9]) (.run [9, 2]))) (.step 9 (.both (.run [2, 4]) (.run [4, 2])))))) (.step 9 (.both (.step 2 (.both (.run [4, 7]) (.run [7, 4]))) (.both (.step 4 (.both (.run [2, 7]) (.run [7, 2]))) (.step 7 (.both (.run [2, 4]) (.run [4, 2]))))))))) (by kernel_rfl) (by decide) (by kernel_rfl) (by kernel_rfl) (by kernel_rfl) ?_
      have hfin : ∀ H5, LkTo H4 j T4 s' H5 → PS H0 i j s' s' H5 := fun H5 ht => PS.swap (PS.goL hB4 hA4 hf4 hT4 hS4 (fun t ht hs => hd4 t hs ht) ht)
      repeat' first
        | with_reducible refine canW_n ?_
        | with_reducible refine canW_m (by decide) ?_
        | ((with_reducible apply canW_p (by decide)); focus (intro H; (simp only [go_sem, ↓reduceIte, Nat.reduceEqDiff, reduceCtorEq, Nat.reduceAdd, Int.reduceEq, Int.reduceBNe, Int.reduceBEq, Int.reduceToNat, Int.reduceLT, Int.reduceLE, Int.reduceGT, Int.reduceGE, Nat.reduceSub, Nat.reduceBEq, Nat.reduceBNe, Int.reduceAdd, Int.reduceSub, Int.reduceMul, Int.reduceNeg, Nat.reduceMul, Nat.reduceLeDiff, Nat.reduceLT, hw1, hbx, hbxl, List.map_cons, List.map_nil]); exact rfl))
        | with_reducible refine memW_b ?_ ?_
        | with_reducible refine memW_s rfl ?_
        | with_reducible refine memW_r rfl ?_
        | with_reducible refine memW_e ?_
        | simp only [List.take_succ_cons, List.take_zero, List.drop_succ_cons, List.drop_zero]
        | omega
        | with_reducible refine And.intro ?_ ?_
        | with_reducible refine hP2.use fun H5 ht => ?_
        | with_reducible refine AWP.seq ?_
        | ((with_reducible refine AWP.region ?_ ?_); exact rfl)
        | with_reducible refine AWP.block ?_
        | with_reducible refine AWP.skip ?_
        | with_reducible refine AWP.exit ?_
        | with_reducible refine AWP.ret ?_
        | with_reducible refine AWP.label ?_
        | with_reducible refine AWP.goto ?_
        | ((with_reducible refine AWP.condT ?_ ?_); focus (simp only [ev, lk_cons, ↓reduceIte, Nat.reduceEqDiff]; done))
        | ((with_reducible refine AWP.condF ?_ ?_); focus (simp only [ev, lk_cons, ↓reduceIte, Nat.reduceEqDiff]; done))
        | with_reducible refine hN2.use ?_
        | simp only [go_sem, ↓reduceIte, Nat.reduceEqDiff, reduceCtorEq, Nat.reduceAdd, Int.reduceEq, Int.reduceBNe, Int.reduceBEq, Int.reduceToNat, Int.reduceLT, Int.reduceLE, Int.reduceGT, Int.reduceGE, Nat.reduceSub, Nat.reduceBEq, Nat.reduceBNe, Int.reduceAdd, Int.reduceSub, Int.reduceMul, Int.reduceNeg, Nat.reduceMul, Nat.reduceLeDiff, Nat.reduceLT, hw1, hbx, hbxl, List.map_cons, List.map_nil]
        | simp (disch := omega) only [wi64, wu8, wu16, wu32, wu64, Int.tdiv_eq_ediv_of_nonneg, Int.tmod_eq_emod_of_nonneg]
        | with_reducible_and_instances exact finR
        | ((with_reducible refine finR' ?_ ?_) <;> rfl)
        | ((with_reducible refine finD hsc (NRel.of_plain ?_)); exact rfl)
      all_goals exact ⟨_, ⟨s', H5, hfin H5 ht, hI', hnow', rfl⟩, Weak.env (by simp [envIn, lk_cons, wth_some])⟩
    · have hc' : ¬ (n : Int) < (l.length : Int) := by omega
      repeat first
        | with_reducible refine AWP.seq ?_
        | ((with_reducible refine AWP.region ?_ ?_); exact rfl)
        | with_reducible refine AWP.block ?_
        | with_reducible refine AWP.skip ?_
        | with_reducible refine AWP.exit ?_
        | with_reducible refine AWP.ret ?_
        | with_reducible refine AWP.label ?_
        | with_reducible refine AWP.goto ?_
        | ((with_reducible refine AWP.condT ?_ ?_); focus (simp only [ev, lk_cons, ↓reduceIte, Nat.reduceEqDiff]; done))
        | ((with_reducible refine AWP.condF ?_ ?_); focus (simp only [ev, lk_cons, ↓reduceIte, Nat.reduceEqDiff]; done))
        | simp only [go_sem, ↓reduceIte, Nat.reduceEqDiff, reduceCtorEq, Nat.reduceAdd, Int.reduceEq, Int.reduceBNe, Int.reduceBEq, Int.reduceToNat, Int.reduceLT, Int.reduceLE, Int.reduceGT, Int.reduceGE, Nat.reduceSub, Nat.reduceBEq, Nat.reduceBNe, Int.reduceAdd, Int.reduceSub, Int.reduceMul, Int.reduceNeg, Nat.reduceMul, Nat.reduceLeDiff, Nat.reduceLT, hc']
        | simp (disch := omega) only [wi64, wu8, wu16, wu32, wu64, Int.tdiv_eq_ediv_of_nonneg, Int.tmod_eq_emod_of_nonneg]
        | with_reducible_and_instances exact finR
        | ((with_reducible refine finR' ?_ ?_) <;> rfl)
        | ((with_reducible refine finD hsc (NRel.of_plain ?_)); exact rfl)
      exact ⟨_, ⟨s, H3, n, hp3, by omega, hI, by omega, rfl⟩, Weak.env (by simp [envIn, lk_cons, wth_some])⟩
  rintro st ⟨s, H3, n, hp3, hn, hI, hnow, rfl⟩
  -- the second loop
  obtain ⟨S3, T3, hA3, hB3, hf3, hS3, hT3, hd3⟩ := hp3
  have hN3 := now_ hA3
  have hnw := hI.nowb
  have hib := hI.inB (by omega)
  have hok3 := hI.okS (by omega)
  obtain ⟨m, hm1, hm2⟩ := sorted_exists s.under
  have hmm : ∀ x ∈ m, x ∈ s.under := fun x hx => hm1.mem_iff.1 hx
  have hke : ∀ x ∈ m, ∀ y ∈ m, ¬ bef x y → ¬ bef y x → x = y := fun x hx y hy => hI.keyB x (hmm x hx) y (hmm y hy)
  have hml := hm1.length_eq
  have hul := hI.arrb
  repeat first
    | with_reducible refine AWP.seq ?_
    | ((with_reducible refine AWP.region ?_ ?_); exact rfl)
    | with_reducible refine AWP.block ?_
    | with_reducible refine AWP.skip ?_
    | with_reducible refine AWP.exit ?_
    | with_reducible refine AWP.ret ?_
    | with_reducible refine AWP.label ?_
    | with_reducible refine AWP.goto ?_
    | ((with_reducible refine AWP.condT ?_ ?_); focus (simp only [ev, lk_cons, ↓reduceIte, Nat.reduceEqDiff]; done))
    | ((with_reducible refine AWP.condF ?_ ?_); focus (simp only [ev, lk_cons, ↓reduceIte, Nat.reduceEqDiff]; done))
    | with_reducible refine hN3.use ?_
    | simp only [go_sem, ↓reduceIte, Nat.reduceEqDiff, reduceCtorEq, Nat.reduceAdd, Int.reduceEq, Int.reduceBNe, Int.reduceBEq, Int.reduceToNat, Int.reduceLT, Int.reduceLE, Int.reduceGT, Int.reduceGE, Nat.reduceSub, Nat.reduceBEq, Nat.reduceBNe, Int.reduceAdd, Int.reduceSub, Int.reduceMul, Int.reduceNeg, Nat.reduceMul, Nat.reduceLeDiff, Nat.reduceLT, qt]
    | simp (disch := omega) only [wi64, wu8, wu16, wu32, wu64, Int.tdiv_eq_ediv_of_nonneg, Int.tmod_eq_emod_of_nonneg]
    | with_reducible_and_instances exact finR
    | ((with_reducible refine finR' ?_ ?_) <;> rfl)
    | ((with_reducible refine finD hsc (NRel.of_plain ?_)); exact rfl)
  refine AWP.loopP (fun q : Nat × Int × Value × AHeap => ⟨[(9, .pointer (some ⟨i, 0, none⟩)), (11, .pointer (some ⟨j, 0, none⟩)), (15, q.2.2.1), (16, .int .i64 q.2.1), (96, vt), (97, .int .i64 (ts.length : Nat)), (98, .int .i64 (q.1 : Nat))], [], q.2.2.2⟩)
    (fun q => q.1 ≤ ts.length ∧ ∃ got r u So, m = got ++ r ∧ u.Perm r ∧ (∀ x ∈ got, x.time ≤ q.2.1) ∧ (0 < q.1 → (r.takeWhile fun x => decide (x.time ≤ q.2.1)) = [] ∧ u = r) ∧ s.now ≤ q.2.1 ∧ q.2.1 ≤ s.now + q.1 * 100000 ∧
      PS H0 i j { s with now := q.2.1, under := u, arr := s.arr + (got.length : Nat) } s q.2.2.2 ∧ OwnL q.2.2.2 44 6 got.length (pcsC (got.map (·.p))) q.2.2.1 So ∧ ∀ t ∈ So, H0.length ≤ t) (fun q => ts.length - q.1) (0, s.now, .slice none 0 0, H3) ?_
    ⟨Nat.zero_le _, [], m, s.under, [], rfl, hm1.symm, by simp, fun h => absurd h (by simp), Int.le_refl _, by simp, by
      have e : ({ s with now := s.now, under := s.under, arr := s.arr + (([] : List Cm).length : Nat) } : Lk) = s := by simp
      simp only
      rw [e]; exact ⟨S3, T3, hA3, hB3, hf3, hS3, hT3, hd3⟩, .inl ⟨rfl, rfl, rfl, rfl⟩, by simp⟩ ?_
  · exact Weak.env (by simp [envIn, lk_cons, wth_some])
  rintro ⟨k, cur, vg, H4⟩ ⟨hk, got, r, u, So, hmg, hur, hgt, hend, hc0, hc1, hps4, hOg, hSo⟩
  simp only at hk hmg hur hgt hend hc0 hc1 hps4 hOg hSo ⊢
  by_cases hc : k < ts.length
  · have hc' : (k : Int) < (ts.length : Int) := by omega
    rcases hvt0 with ⟨_, e1⟩ | ⟨ix, cap, kk, rfl, _, hi, _⟩
    · have := congrArg List.length e1
      simp at this
      subst this
      simp at hc
    obtain ⟨S4, T4, hA4, hB4, hf4, hS4, hT4, hd4⟩ := hps4
    have hi4 := hf4.get hi (by simp)
    have hil4 := lt_of_get hi4
    have hgv : (ts.map (Value.int .i64))[k]? = some (.int .i64 ts[k]) := by rw [List.getElem?_map, List.getElem?_eq_getElem hc]; rfl
    have hwn : IntKind.i64.wrap ((k : Int) + 1) = ((k + 1 : Nat) : Int) := by rw [wi64 (by omega)]; omega
    generalize ts[k] = t at *
    have hlm : (ts.map (Value.int .i64)).length = ts.length := List.length_map _
    by_cases g5 : t < 0
    · skip
      repeat first
        | with_reducible refine AWP.seq ?_
        | ((with_reducible refine AWP.region ?_ ?_); exact rfl)
        | with_reducible refine AWP.block ?_
        | with_reducible refine AWP.skip ?_
        | with_reducible refine AWP.exit ?_
        | with_reducible refine AWP.ret ?_
        | with_reducible refine AWP.label ?_
        | with_reducible refine AWP.goto ?_
        | ((with_reducible refine AWP.condT ?_ ?_); focus (simp only [ev, lk_cons, ↓reduceIte, Nat.reduceEqDiff]; done))
        | ((with_reducible refine AWP.condF ?_ ?_); focus (simp only [ev, lk_cons, ↓reduceIte, Nat.reduceEqDiff]; done))
        | simp only [go_sem, ↓reduceIte, Nat.reduceEqDiff, reduceCtorEq, Nat.reduceAdd, Int.reduceEq, Int.reduceBNe, Int.reduceBEq, Int.reduceToNat, Int.reduceLT, Int.reduceLE, Int.reduceGT, Int.reduceGE, Nat.reduceSub, Nat.reduceBEq, Nat.reduceBNe, Int.reduceAdd, Int.reduceSub, Int.reduceMul, Int.reduceNeg, Nat.reduceMul, Nat.reduceLeDiff, Nat.reduceLT, hc', hi4, hil4, hgv, g5, hlm]
        | simp (disch := omega) only [wi64, wu8, wu16, wu32, wu64, Int.tdiv_eq_ediv_of_nonneg, Int.tmod_eq_emod_of_nonneg]
        | with_reducible_and_instances exact finR
        | ((with_reducible refine finR' ?_ ?_) <;> rfl)
        | ((with_reducible refine finD hsc (NRel.of_plain ?_)); exact rfl)
      refine (awake _).use fun H5 _ => ?_
      repeat first
        | with_reducible refine AWP.seq ?_
        | ((with_reducible refine AWP.region ?_ ?_); exact rfl)
        | with_reducible refine AWP.block ?_
        | with_reducible refine AWP.skip ?_
        | with_reducible refine AWP.exit ?_
        | with_reducible refine AWP.ret ?_
        | with_reducible refine AWP.label ?_
        | with_reducible refine AWP.goto ?_
        | ((with_reducible refine AWP.condT ?_ ?_); focus (simp only [ev, lk_cons, ↓reduceIte, Nat.reduceEqDiff]; done))
        | ((with_reducible refine AWP.condF ?_ ?_); focus (simp only [ev, lk_cons, ↓reduceIte, Nat.reduceEqDiff]; done))
        | simp only [go_sem, ↓reduceIte, Nat.reduceEqDiff, reduceCtorEq, Nat.reduceAdd, Int.reduceEq, Int.reduceBNe, Int.reduceBEq, Int.reduceToNat, Int.reduceLT, Int.reduceLE, Int.reduceGT, Int.reduceGE, Nat.reduceSub, Nat.reduceBEq, Nat.reduceBNe, Int.reduceAdd, Int.reduceSub, Int.reduceMul, Int.reduceNeg, Nat.reduceMul, Nat.reduceLeDiff, Nat.reduceLT]
        | simp (disch := omega) only [wi64, wu8, wu16, wu32, wu64, Int.tdiv_eq_ediv_of_nonneg, Int.tmod_eq_emod_of_nonneg]
        | with_reducible_and_instances exact finR
        | ((with_reducible refine finR' ?_ ?_) <;> rfl)
        | ((with_reducible refine finD hsc (NRel.of_plain ?_)); exact rfl)
      exact ⟨_, _, .refl _ _ _, rfl⟩
    by_cases g6 : t > 100000
    · skip
      repeat first
        | with_reducible refine AWP.seq ?_
        | ((with_reducible refine AWP.region ?_ ?_); exact rfl)
        | with_reducible refine AWP.block ?_
        | with_reducible refine AWP.skip ?_
        | with_reducible refine AWP.exit ?_
        | with_reducible refine AWP.ret ?_
        | with_reducible refine AWP.label ?_
        | with_reducible refine AWP.goto ?_
        | ((with_reducible refine AWP.condT ?_ ?_); focus (simp only [ev, lk_cons, ↓reduceIte, Nat.reduceEqDiff]; done))
        | ((with_reducible refine AWP.condF ?_ ?_); focus (simp only [ev, lk_cons, ↓reduceIte, Nat.reduceEqDiff]; done))
        | simp only [go_sem, ↓reduceIte, Nat.reduceEqDiff, reduceCtorEq, Nat.reduceAdd, Int.reduceEq, Int.reduceBNe, Int.reduceBEq, Int.reduceToNat, Int.reduceLT, Int.reduceLE, Int.reduceGT, Int.reduceGE, Nat.reduceSub, Nat.reduceBEq, Nat.reduceBNe, Int.reduceAdd, Int.reduceSub, Int.reduceMul, Int.reduceNeg, Nat.reduceMul, Nat.reduceLeDiff, Nat.reduceLT, hc', hi4, hil4, hgv, g5, g6, hlm]
        | simp (disch := omega) only [wi64, wu8, wu16, wu32, wu64, Int.tdiv_eq_ediv_of_nonneg, Int.tmod_eq_emod_of_nonneg]
        | with_reducible_and_instances exact finR
        | ((with_reducible refine finR' ?_ ?_) <;> rfl)
        | ((with_reducible refine finD hsc (NRel.of_plain ?_)); exact rfl)
      refine (awake _).use fun H5 _ => ?_
      repeat first
        | with_reducible refine AWP.seq ?_
        | ((with_reducible refine AWP.region ?_ ?_); exact rfl)
        | with_reducible refine AWP.block ?_
        | with_reducible refine AWP.skip ?_
        | with_reducible refine AWP.exit ?_
        | with_reducible refine AWP.ret ?_
        | with_reducible refine AWP.label ?_
        | with_reducible refine AWP.goto ?_
        | ((with_reducible refine AWP.condT ?_ ?_); focus (simp only [ev, lk_cons, ↓reduceIte, Nat.reduceEqDiff]; done))
        | ((with_reducible refine AWP.condF ?_ ?_); focus (simp only [ev, lk_cons, ↓reduceIte, Nat.reduceEqDiff]; done))
        | simp only [go_sem, ↓reduceIte, Nat.reduceEqDiff, reduceCtorEq, Nat.reduceAdd, Int.reduceEq, Int.reduceBNe, Int.reduceBEq, Int.reduceToNat, Int.reduceLT, Int.reduceLE, Int.reduceGT, Int.reduceGE, Nat.reduceSub, Nat.reduceBEq, Nat.reduceBNe, Int.reduceAdd, Int.reduceSub, Int.reduceMul, Int.reduceNeg, Nat.reduceMul, Nat.reduceLeDiff, Nat.reduceLT]
        | simp (disch := omega) only [wi64, wu8, wu16, wu32, wu64, Int.tdiv_eq_ediv_of_nonneg, Int.tmod_eq_emod_of_nonneg]
        | with_reducible_and_instances exact finR
        | ((with_reducible refine finR' ?_ ?_) <;> rfl)
        | ((with_reducible refine finD hsc (NRel.of_plain ?_)); exact rfl)
      exact ⟨_, _, .refl _ _ _, rfl⟩
    have hw1 : IntKind.i64.wrap (cur + t) = cur + t := wi64 (by omega)
    have hru : ∀ x ∈ u, x ∈ s.under := fun x hx => hmm x (by rw [hmg]; exact List.mem_append_right _ (hur.mem_iff.1 hx))
    have hlen : got.length + r.length = s.under.length := by rw [← hml, hmg, List.length_append]
    have hulen := hur.length_eq
    have hTk := Take hA4 (cur + t) (by unfold badT; simp; omega) (fun x hx => hib x (hru x hx)) (by simp only; omega) (by simp only; omega)
    repeat first
      | with_reducible refine AWP.seq ?_
      | ((with_reducible refine AWP.region ?_ ?_); exact rfl)
      | with_reducible refine AWP.block ?_
      | with_reducible refine AWP.skip ?_
      | with_reducible refine AWP.exit ?_
      | with_reducible refine AWP.ret ?_
      | with_reducible refine AWP.label ?_
      | with_reducible refine AWP.goto ?_
      | ((with_reducible refine AWP.condT ?_ ?_); focus (simp only [ev, lk_cons, ↓reduceIte, Nat.reduceEqDiff]; done))
      | ((with_reducible refine AWP.condF ?_ ?_); focus (simp only [ev, lk_cons, ↓reduceIte, Nat.reduceEqDiff]; done))
      | simp only [go_sem, ↓reduceIte, Nat.reduceEqDiff, reduceCtorEq, Nat.reduceAdd, Int.reduceEq, Int.reduceBNe, Int.reduceBEq, Int.reduceToNat, Int.reduceLT, Int.reduceLE, Int.reduceGT, Int.reduceGE, Nat.reduceSub, Nat.reduceBEq, Nat.reduceBNe, Int.reduceAdd, Int.reduceSub, Int.reduceMul, Int.reduceNeg, Nat.reduceMul, Nat.reduceLeDiff, Nat.reduceLT, hc', hi4, hil4, hgv, g5, g6, hlm, hw1]
      | simp (disch := omega) only [wi64, wu8, wu16, wu32, wu64, Int.tdiv_eq_ediv_of_nonneg, Int.tmod_eq_emod_of_nonneg]
      | with_reducible_and_instances exact finR
      | ((with_reducible refine finR' ?_ ?_) <;> rfl)
      | ((with_reducible refine finD hsc (NRel.of_plain ?_)); exact rfl)
    refine AC.mono hTk ?_
    rintro rr H5 ⟨ll, vo, rfl, hperm, hsrt, ⟨Sv, hOv, hSv⟩, hto⟩
    have hms := List.pairwise_append.1 (hmg ▸ hm2)
    have hll : ll = r := sort_eq (hperm.trans hur) hsrt hms.2.1 fun x hx y hy => hke x (by rw [hmg]; exact List.mem_append_right _ ((hperm.trans hur).mem_iff.1 hx)) y (by rw [hmg]; exact List.mem_append_right _ ((hperm.trans hur).mem_iff.1 hy))
    subst hll
    have hpsx := PS.goL hA4 hB4 hf4 hS4 hT4 hd4 hto
    obtain ⟨S5, hA5, hf5, hS5⟩ := hto
    have hOg5 := hOg.frm hf5 fun t ht hs => hA4.no44 (OwnL.k44 hOg) t hs ht
    obtain ⟨tw, htw⟩ : ∃ tw, tw = ll.takeWhile fun x => decide (x.time ≤ cur + t) := ⟨_, rfl⟩
    obtain ⟨dw, hdw⟩ : ∃ dw, dw = ll.dropWhile fun x => decide (x.time ≤ cur + t) := ⟨_, rfl⟩
    have htd : tw ++ dw = ll := by rw [htw, hdw]; exact List.takeWhile_append_dropWhile
    have htdl : tw.length + dw.length = ll.length := by rw [← htd, List.length_append]
    simp only at hpsx
    rw [← htw, ← hdw] at hpsx
    rw [← htw] at hOv
    have hpt : (pcsC (tw.map (·.p))).length = tw.length * 6 := by rw [pcsC_len, List.length_map]
    have hfin : ∀ v' H6 S6, OwnL H6 44 6 (got.length + tw.length) (pcsC (got.map (·.p)) ++ pcsC (tw.map (·.p))) v' S6 → Frm So H5 H6 → (∀ t ∈ S6, t ∈ So ∨ H5.length ≤ t) →
        k + 1 ≤ ts.length ∧ ∃ got r u So, m = got ++ r ∧ u.Perm r ∧ (∀ x ∈ got, x.time ≤ cur + t) ∧ (0 < k + 1 → (r.takeWhile fun x => decide (x.time ≤ cur + t)) = [] ∧ u = r) ∧ s.now ≤ cur + t ∧ cur + t ≤ s.now + ((k + 1 : Nat) : Int) * 100000 ∧
        PS H0 i j { s with now := cur + t, under := u, arr := s.arr + (got.length : Nat) } s H6 ∧ OwnL H6 44 6 got.length (pcsC (got.map (·.p))) v' So ∧ ∀ t ∈ So, H0.length ≤ t := fun v' H6 S6 h1 h2 h3 => by
      refine ⟨by omega, got ++ tw, dw, dw, S6, by rw [List.append_assoc, htd]; exact hmg, .refl _, fun x hx => ?_, fun _ => ⟨by rw [hdw]; exact takeWhile_drop ll, rfl⟩, by omega, by omega, ?_, ?_, fun q hq => ?_⟩
      · rcases List.mem_append.1 hx with hx | hx
        · have := hgt x hx; omega
        · rw [htw] at hx
          have := List.all_takeWhile (l := ll) (p := fun x => decide (x.time ≤ cur + t))
          rw [List.all_eq_true] at this
          exact of_decide_eq_true (this x hx)
      · have e : ({ s with now := cur + t, under := dw, arr := s.arr + ((got ++ tw).length : Nat) } : Lk) = { s with now := cur + t, under := dw, arr := s.arr + (got.length : Nat) + (tw.length : Nat) } := by
          rw [List.length_append, Int.natCast_add, Int.add_assoc]
        rw [e]
        exact hpsx.side h2 hSo (OwnL.k44 hOg5)
      · rw [List.length_append, List.map_append]
        have e2 : pcsC (got.map (·.p) ++ tw.map (·.p)) = pcsC (got.map (·.p)) ++ pcsC (tw.map (·.p)) := List.flatMap_append
        rw [e2]; exact h1
      · rcases h3 q hq with h | h
        · exact hSo q h
        · have := hf4.1; have := hf5.1; omega
    have hpf : (pcsC (tw.map (·.p))).all flat = true := pcsC_flat _
    rcases hOv with ⟨z1, z2, rfl, z3⟩ | ⟨jv, ov, csv, rfl, hjv, hclv, hdv, _⟩
    · rw [z1, z2] at hfin
      repeat first
        | with_reducible refine AWP.seq ?_
        | ((with_reducible refine AWP.region ?_ ?_); exact rfl)
        | with_reducible refine AWP.block ?_
        | with_reducible refine AWP.skip ?_
        | with_reducible refine AWP.exit ?_
        | with_reducible refine AWP.ret ?_
        | with_reducible refine AWP.label ?_
        | with_reducible refine AWP.goto ?_
        | ((with_reducible refine AWP.condT ?_ ?_); focus (simp only [ev, lk_cons, ↓reduceIte, Nat.reduceEqDiff]; done))
        | ((with_reducible refine AWP.condF ?_ ?_); focus (simp only [ev, lk_cons, ↓reduceIte, Nat.reduceEqDiff]; done))
        | simp only [go_sem, ↓reduceIte, Nat.reduceEqDiff, reduceCtorEq, Nat.reduceAdd, Int.reduceEq, Int.reduceBNe, Int.reduceBEq, Int.reduceToNat, Int.reduceLT, Int.reduceLE, Int.reduceGT, Int.reduceGE, Nat.reduceSub, Nat.reduceBEq, Nat.reduceBNe, Int.reduceAdd, Int.reduceSub, Int.reduceMul, Int.reduceNeg, Nat.reduceMul, Nat.reduceLeDiff, Nat.reduceLT]
        | simp (disch := omega) only [wi64, wu8, wu16, wu32, wu64, Int.tdiv_eq_ediv_of_nonneg, Int.tmod_eq_emod_of_nonneg]
        | with_reducible_and_instances exact finR
        | ((with_reducible refine finR' ?_ ?_) <;> rfl)
        | ((with_reducible refine finD hsc (NRel.of_plain ?_)); exact rfl)
      refine OwnL.appendM hOg5 (by decide) rfl (by omega) (by omega) fun v' H6 S6 h1 h2 h3 => ?_
      repeat first
        | with_reducible refine AWP.seq ?_
        | ((with_reducible refine AWP.region ?_ ?_); exact rfl)
        | with_reducible refine AWP.block ?_
        | with_reducible refine AWP.skip ?_
        | with_reducible refine AWP.exit ?_
        | with_reducible refine AWP.ret ?_
        | with_reducible refine AWP.label ?_
        | with_reducible refine AWP.goto ?_
        | ((with_reducible refine AWP.condT ?_ ?_); focus (simp only [ev, lk_cons, ↓reduceIte, Nat.reduceEqDiff]; done))
        | ((with_reducible refine AWP.condF ?_ ?_); focus (simp only [ev, lk_cons, ↓reduceIte, Nat.reduceEqDiff]; done))
        | simp only [go_sem, ↓reduceIte, Nat.reduceEqDiff, reduceCtorEq, Nat.reduceAdd, Int.reduceEq, Int.reduceBNe, Int.reduceBEq, Int.reduceToNat, Int.reduceLT, Int.reduceLE, Int.reduceGT, Int.reduceGE, Nat.reduceSub, Nat.reduceBEq, Nat.reduceBNe, Int.reduceAdd, Int.reduceSub, Int.reduceMul, Int.reduceNeg, Nat.reduceMul, Nat.reduceLeDiff, Nat.reduceLT, hwn]
        | simp (disch := omega) only [wi64, wu8, wu16, wu32, wu64, Int.tdiv_eq_ediv_of_nonneg, Int.tmod_eq_emod_of_nonneg]
        | with_reducible_and_instances exact finR
        | ((with_reducible refine finR' ?_ ?_) <;> rfl)
        | ((with_reducible refine finD hsc (NRel.of_plain ?_)); exact rfl)
      obtain ⟨f1, got', r', u', So', f2, f3, f4, f5, f6, f7, f8, f9, f10⟩ := hfin v' H6 S6 h1 h2 h3
      exact ⟨(k + 1, cur + t, v', H6), Weak.env (by simp [envIn, lk_cons, wth_some]), f1, ⟨got', r', f2, u', f3, f4, f5, f6, f7, f8, So', f9, f10⟩, by show ts.length - (k + 1) < _; omega⟩
    · have hjvl := lt_of_get hjv
      have htkv : (csv.drop ov).take (tw.length * 6) = pcsC (tw.map (·.p)) := by rw [hdv]; exact List.take_of_length_le (by rw [hpt]; exact Nat.le_refl _)
      repeat first
        | with_reducible refine AWP.seq ?_
        | ((with_reducible refine AWP.region ?_ ?_); exact rfl)
        | with_reducible refine AWP.block ?_
        | with_reducible refine AWP.skip ?_
        | with_reducible refine AWP.exit ?_
        | with_reducible refine AWP.ret ?_
        | with_reducible refine AWP.label ?_
        | with_reducible refine AWP.goto ?_
        | ((with_reducible refine AWP.condT ?_ ?_); focus (simp only [ev, lk_cons, ↓reduceIte, Nat.reduceEqDiff]; done))
        | ((with_reducible refine AWP.condF ?_ ?_); focus (simp only [ev, lk_cons, ↓reduceIte, Nat.reduceEqDiff]; done))
        | simp only [go_sem, ↓reduceIte, Nat.reduceEqDiff, reduceCtorEq, Nat.reduceAdd, Int.reduceEq, Int.reduceBNe, Int.reduceBEq, Int.reduceToNat, Int.reduceLT, Int.reduceLE, Int.reduceGT, Int.reduceGE, Nat.reduceSub, Nat.reduceBEq, Nat.reduceBNe, Int.reduceAdd, Int.reduceSub, Int.reduceMul, Int.reduceNeg, Nat.reduceMul, Nat.reduceLeDiff, Nat.reduceLT, hjv, hjvl, hclv, htkv, hpf, hpt]
        | simp (disch := omega) only [wi64, wu8, wu16, wu32, wu64, Int.tdiv_eq_ediv_of_nonneg, Int.tmod_eq_emod_of_nonneg]
        | with_reducible_and_instances exact finR
        | ((with_reducible refine finR' ?_ ?_) <;> rfl)
        | ((with_reducible refine finD hsc (NRel.of_plain ?_)); exact rfl)
      refine OwnL.appendM hOg5 (by decide) hpt (by omega) (by omega) fun v' H6 S6 h1 h2 h3 => ?_
      repeat first
        | with_reducible refine AWP.seq ?_
        | ((with_reducible refine AWP.region ?_ ?_); exact rfl)
        | with_reducible refine AWP.block ?_
        | with_reducible refine AWP.skip ?_
        | with_reducible refine AWP.exit ?_
        | with_reducible refine AWP.ret ?_
        | with_reducible refine AWP.label ?_
        | with_reducible refine AWP.goto ?_
        | ((with_reducible refine AWP.condT ?_ ?_); focus (simp only [ev, lk_cons, ↓reduceIte, Nat.reduceEqDiff]; done))
        | ((with_reducible refine AWP.condF ?_ ?_); focus (simp only [ev, lk_cons, ↓reduceIte, Nat.reduceEqDiff]; done))
        | simp only [go_sem, ↓reduceIte, Nat.reduceEqDiff, reduceCtorEq, Nat.reduceAdd, Int.reduceEq, Int.reduceBNe, Int.reduceBEq, Int.reduceToNat, Int.reduceLT, Int.reduceLE, Int.reduceGT, Int.reduceGE, Nat.reduceSub, Nat.reduceBEq, Nat.reduceBNe, Int.reduceAdd, Int.reduceSub, Int.reduceMul, Int.reduceNeg, Nat.reduceMul, Nat.reduceLeDiff, Nat.reduceLT, hwn]
        | simp (disch := omega) only [wi64, wu8, wu16, wu32, wu64, Int.tdiv_eq_ediv_of_nonneg, Int.tmod_eq_emod_of_nonneg]
        | with_reducible_and_instances exact finR
        | ((with_reducible refine finR' ?_ ?_) <;> rfl)
        | ((with_reducible refine finD hsc (NRel.of_plain ?_)); exact rfl)
      obtain ⟨f1, got', r', u', So', f2, f3, f4, f5, f6, f7, f8, f9, f10⟩ := hfin v' H6 S6 h1 h2 h3
      exact ⟨(k + 1, cur + t, v', H6), Weak.env (by simp [envIn, lk_cons, wth_some]), f1, ⟨got', r', f2, u', f3, f4, f5, f6, f7, f8, So', f9, f10⟩, by show ts.length - (k + 1) < _; omega⟩
  · have hc' : ¬ (k : Int) < (ts.length : Int) := by omega
    obtain ⟨hre, rfl⟩ := hend (by omega)
    obtain ⟨S4, T4, hA4, hB4, hf4, hS4, hT4, hd4⟩ := hps4
    have hlen : got.length + u.length = s.under.length := by rw [← hml, hmg, List.length_append]
    have hTb := Take hB4 cur (by unfold badT; simp; omega) (fun x hx => hib x hx) (by omega) (by omega)
    repeat first
      | with_reducible refine AWP.seq ?_
      | ((with_reducible refine AWP.region ?_ ?_); exact rfl)
      | with_reducible refine AWP.block ?_
      | with_reducible refine AWP.skip ?_
      | with_reducible refine AWP.exit ?_
      | with_reducible refine AWP.ret ?_
      | with_reducible refine AWP.label ?_
      | with_reducible refine AWP.goto ?_
      | ((with_reducible refine AWP.condT ?_ ?_); focus (simp only [ev, lk_cons, ↓reduceIte, Nat.reduceEqDiff]; done))
      | ((with_reducible refine AWP.condF ?_ ?_); focus (simp only [ev, lk_cons, ↓reduceIte, Nat.reduceEqDiff]; done))
      | simp only [go_sem, ↓reduceIte, Nat.reduceEqDiff, reduceCtorEq, Nat.reduceAdd, Int.reduceEq, Int.reduceBNe, Int.reduceBEq, Int.reduceToNat, Int.reduceLT, Int.reduceLE, Int.reduceGT, Int.reduceGE, Nat.reduceSub, Nat.reduceBEq, Nat.reduceBNe, Int.reduceAdd, Int.reduceSub, Int.reduceMul, Int.reduceNeg, Nat.reduceMul, Nat.reduceLeDiff, Nat.reduceLT, hc']
      | simp (disch := omega) only [wi64, wu8, wu16, wu32, wu64, Int.tdiv_eq_ediv_of_nonneg, Int.tmod_eq_emod_of_nonneg]
      | with_reducible_and_instances exact finR
      | ((with_reducible refine finR' ?_ ?_) <;> rfl)
      | ((with_reducible refine finD hsc (NRel.of_plain ?_)); exact rfl)
    refine AC.mono hTb ?_
    rintro rr H5 ⟨ll, vo, rfl, hperm, hsrt, ⟨Sv, hOv, hSv⟩, hto⟩
    have hll : ll = m := sort_eq (hperm.trans hm1.symm) hsrt hm2 fun x hx y hy => hI.keyB x (hperm.mem_iff.1 hx) y (hperm.mem_iff.1 hy)
    obtain ⟨e1, e2⟩ := takeWhile_end (p := fun x : Cm => decide (x.time ≤ cur)) (got := got) (r := u) (fun x hx => decide_eq_true (hgt x hx)) hre
    rw [hll, hmg, e1, e2] at hto
    rw [hll, hmg, e1] at hOv
    have hpsx := PS.swap (PS.goL hB4 hA4 hf4 hT4 hS4 (fun t ht hs => hd4 t hs ht) hto)
    have hI5 : ({ s with now := cur, under := u, arr := s.arr + (got.length : Nat) } : Lk).iv n := iv_take hI hc0 (by omega) (fun x hx => hmm x (by rw [hmg]; exact List.mem_append_right _ hx)) hlen
    obtain ⟨S5b, hB5x, hf5, hS5b⟩ := hto
    have hOg5 := hOg.frm hf5 fun t ht hs => hB4.no44 (OwnL.k44 hOg) t hs ht
    obtain ⟨S5, T5, hA5, hB5, hf5', hS5, hT5, hd5⟩ := hpsx
    have hT5l : LibH H5 := hT0.lasts fun q cs kk hq _ => hf5'.get hq (by simp)
    have hgl : (got.map (·.p)).length = got.length := List.length_map _
    have hsm := same (H := H5) (got.map (·.p)) vg vo So Sv (by rw [hgl]; omega) (by rw [hgl]; exact hOg5) (by rw [hgl]; exact hOv)
    have hTx := Text hA5 (hI5.okT (by omega)) hT5l
    have hus : ∀ us : List Cm, us.Perm u → us.Pairwise (fun a b => ¬ bef b a) → us = u := fun us h1 h2 => sort_eq h1 h2 (List.pairwise_append.1 (hmg ▸ hm2)).2.1 fun x hx y hy => hke x (by rw [hmg]; exact List.mem_append_right _ (h1.mem_iff.1 hx)) y (by rw [hmg]; exact List.mem_append_right _ (h1.mem_iff.1 hy))
    repeat first
      | with_reducible refine AWP.seq ?_
      | ((with_reducible refine AWP.region ?_ ?_); exact rfl)
      | with_reducible refine AWP.block ?_
      | with_reducible refine AWP.skip ?_
      | with_reducible refine AWP.exit ?_
      | with_reducible refine AWP.ret ?_
      | with_reducible refine AWP.label ?_
      | with_reducible refine AWP.goto ?_
      | ((with_reducible refine AWP.condT ?_ ?_); focus (simp only [ev, lk_cons, ↓reduceIte, Nat.reduceEqDiff]; done))
      | ((with_reducible refine AWP.condF ?_ ?_); focus (simp only [ev, lk_cons, ↓reduceIte, Nat.reduceEqDiff]; done))
      | with_reducible refine hsm.use ?_
      | simp only [go_sem, ↓reduceIte, Nat.reduceEqDiff, reduceCtorEq, Nat.reduceAdd, Int.reduceEq, Int.reduceBNe, Int.reduceBEq, Int.reduceToNat, Int.reduceLT, Int.reduceLE, Int.reduceGT, Int.reduceGE, Nat.reduceSub, Nat.reduceBEq, Nat.reduceBNe, Int.reduceAdd, Int.reduceSub, Int.reduceMul, Int.reduceNeg, Nat.reduceMul, Nat.reduceLeDiff, Nat.reduceLT]
      | simp (disch := omega) only [wi64, wu8, wu16, wu32, wu64, Int.tdiv_eq_ediv_of_nonneg, Int.tmod_eq_emod_of_nonneg]
      | with_reducible_and_instances exact finR
      | ((with_reducible refine finR' ?_ ?_) <;> rfl)
      | ((with_reducible refine finD hsc (NRel.of_plain ?_)); exact rfl)
    refine AC.mono hTx ?_
    rintro rr H6 ⟨us1, hu1, hu2, rfl, hf6⟩
    have hTy := Text (hB5.grown hf6) (hI5.okT (by omega)) (hT5l.lasts fun q cs kk hq _ => hf6.get hq (by simp))
    rw [hus us1 hu1 hu2]
    repeat first
      | with_reducible refine AWP.seq ?_
      | ((with_reducible refine AWP.region ?_ ?_); exact rfl)
      | with_reducible refine AWP.block ?_
      | with_reducible refine AWP.skip ?_
      | with_reducible refine AWP.exit ?_
      | with_reducible refine AWP.ret ?_
      | with_reducible refine AWP.label ?_
      | with_reducible refine AWP.goto ?_
      | ((with_reducible refine AWP.condT ?_ ?_); focus (simp only [ev, lk_cons, ↓reduceIte, Nat.reduceEqDiff]; done))
      | ((with_reducible refine AWP.condF ?_ ?_); focus (simp only [ev, lk_cons, ↓reduceIte, Nat.reduceEqDiff]; done))
      | simp only [go_sem, ↓reduceIte, Nat.reduceEqDiff, reduceCtorEq, Nat.reduceAdd, Int.reduceEq, Int.reduceBNe, Int.reduceBEq, Int.reduceToNat, Int.reduceLT, Int.reduceLE, Int.reduceGT, Int.reduceGE, Nat.reduceSub, Nat.reduceBEq, Nat.reduceBNe, Int.reduceAdd, Int.reduceSub, Int.reduceMul, Int.reduceNeg, Nat.reduceMul, Nat.reduceLeDiff, Nat.reduceLT]
      | simp (disch := omega) only [wi64, wu8, wu16, wu32, wu64, Int.tdiv_eq_ediv_of_nonneg, Int.tmod_eq_emod_of_nonneg]
      | with_reducible_and_instances exact finR
      | ((with_reducible refine finR' ?_ ?_) <;> rfl)
      | ((with_reducible refine finD hsc (NRel.of_plain ?_)); exact rfl)
    refine AC.mono hTy ?_
    rintro rr H7 ⟨us2, hu3, hu4, rfl, hf7⟩
    rw [hus us2 hu3 hu4]
    repeat first
      | with_reducible refine AWP.seq ?_
      | ((with_reducible refine AWP.region ?_ ?_); exact rfl)
      | with_reducible refine AWP.block ?_
      | with_reducible refine AWP.skip ?_
      | with_reducible refine AWP.exit ?_
      | with_reducible refine AWP.ret ?_
      | with_reducible refine AWP.label ?_
      | with_reducible refine AWP.goto ?_
      | ((with_reducible refine AWP.condT ?_ ?_); focus (simp only [ev, lk_cons, ↓reduceIte, Nat.reduceEqDiff]; done))
      | ((with_reducible refine AWP.condF ?_ ?_); focus (simp only [ev, lk_cons, ↓reduceIte, Nat.reduceEqDiff]; done))
      | simp only [go_sem, ↓reduceIte, Nat.reduceEqDiff, reduceCtorEq, Nat.reduceAdd, Int.reduceEq, Int.reduceBNe, Int.reduceBEq, Int.reduceToNat, Int.reduceLT, Int.reduceLE, Int.reduceGT, Int.reduceGE, Nat.reduceSub, Nat.reduceBEq, Nat.reduceBNe, Int.reduceAdd, Int.reduceSub, Int.reduceMul, Int.reduceNeg, Nat.reduceMul, Nat.reduceLeDiff, Nat.reduceLT]
      | simp (disch := omega) only [wi64, wu8, wu16, wu32, wu64, Int.tdiv_eq_ediv_of_nonneg, Int.tmod_eq_emod_of_nonneg]
      | with_reducible_and_instances exact finR
      | ((with_reducible refine finR' ?_ ?_) <;> rfl)
      | ((with_reducible refine finD hsc (NRel.of_plain ?_)); exact rfl)
    refine (awake _).use fun H8 _ => ?_
    repeat first
      | with_reducible refine AWP.seq ?_
      | ((with_reducible refine AWP.region ?_ ?_); exact rfl)
      | with_reducible refine AWP.block ?_
      | with_reducible refine AWP.skip ?_
      | with_reducible refine AWP.exit ?_
      | with_reducible refine AWP.ret ?_
      | with_reducible refine AWP.label ?_
      | with_reducible refine AWP.goto ?_
      | ((with_reducible refine AWP.condT ?_ ?_); focus (simp only [ev, lk_cons, ↓reduceIte, Nat.reduceEqDiff]; done))
      | ((with_reducible refine AWP.condF ?_ ?_); focus (simp only [ev, lk_cons, ↓reduceIte, Nat.reduceEqDiff]; done))
      | simp only [go_sem, ↓reduceIte, Nat.reduceEqDiff, reduceCtorEq, Nat.reduceAdd, Int.reduceEq, Int.reduceBNe, Int.reduceBEq, Int.reduceToNat, Int.reduceLT, Int.reduceLE, Int.reduceGT, Int.reduceGE, Nat.reduceSub, Nat.reduceBEq, Nat.reduceBNe, Int.reduceAdd, Int.reduceSub, Int.reduceMul, Int.reduceNeg, Nat.reduceMul, Nat.reduceLeDiff, Nat.reduceLT]
      | simp (disch := omega) only [wi64, wu8, wu16, wu32, wu64, Int.tdiv_eq_ediv_of_nonneg, Int.tmod_eq_emod_of_nonneg]
      | with_reducible_and_instances exact finR
      | ((with_reducible refine finR' ?_ ?_) <;> rfl)
      | ((with_reducible refine finD hsc (NRel.of_plain ?_)); exact rfl)
    exact ⟨_, _, .refl _ _ _, rfl⟩
end Go.Proofs.YtnfkbgpbligloaaDoor
