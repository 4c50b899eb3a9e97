/-
  The walk of tokens: the page's example.
-/
import Derived.Test.YtmpkgdilmkeacaaDoorPG
set_option linter.unusedVariables false
set_option linter.unusedSimpArgs false
set_option maxRecDepth 20000
set_option maxHeartbeats 4000000
namespace Go.Proofs.YtmpkgdilmkeacaaDoor
open Go Go.Aw Go.Proofs Go.Shelf Go.RowKit Go.ChangeShapes
def newK (seed : List UInt8) (p m : Int) : Kp := ⟨seed, [], -1, p, m, 0, 0, []⟩
theorem newK_ok {seed : List UInt8} {p m : Int} (hs : ¬ (seed.length : Int) > 100) (h1 : ¬ p < 1000) (h2 : ¬ p > 10000000) (h3 : ¬ m < 0) (h4 : ¬ m > 1000) : (newK seed p m).ok :=
  ⟨by show seed.length ≤ 100; omega, by show ([] : List UInt8).length ≤ 100; simp, by show 1000 ≤ p; omega, by show p ≤ _; omega, by show 0 ≤ m; omega, by show m ≤ _; omega, Int.le_refl _, by show (0 : Int) ≤ _; decide, by show (0 : Int) = 0 / p; rw [Int.zero_ediv], by show (-1 : Int) ≤ -1; decide, by show (-1 : Int) ≤ _; decide⟩
theorem newK_st {seed : List UInt8} {p m : Int} {H : AHeap} (hT : TabH H) : Kst (H ++ [.amap [] 0 true, .cells (kC seed [] (-1) p m 0 0 H.length) ⟨67, 0, true, 0, none⟩]) (H.length + 1) H.length (newK seed p m) :=
  ⟨by rw [hgetk rfl]; rfl, by rw [hget0 rfl]; rfl, hT.more _⟩
def exA : Ad := ⟨4, [10, 0, 0, 1], 80⟩
def exT : List UInt8 := tokL (secL [115] (500 / 1000)) exA
def exK : Kp := newK [115] 1000 0
theorem ex1 : decide (untilL ((exK.tell 500).tell 1999) exA exT ≥ 0) = true := by kernel_rfl
theorem ex2 : decide (untilL (((exK.tell 500).tell 1999).tell 2000) exA exT ≥ 0) = false := by kernel_rfl
theorem ex3 : exT.length = 8 := by kernel_rfl
theorem awake (H : AHeap) (hT : TabH H) : ARex Tryd.prog 10 [] H (.bool true) (fun _ => True) := by
  have hN := fun H => NewC [115] 1000 0 (by decide) (by decide) (by decide) (by decide) (by decide) H
  have hok0 : exK.ok := newK_ok (by decide) (by decide) (by decide) (by decide) (by decide)
  have hok1 : (exK.tell 500).ok := hok0.tell (by decide) (by decide)
  have hok2 : ((exK.tell 500).tell 1999).ok := hok1.tell (by decide) (by decide)
  have st0 : Kst (H ++ [.amap [] 0 true, .cells (kC [115] [] (-1) 1000 0 0 0 H.length) ⟨67, 0, true, 0, none⟩]) (H.length + 1) H.length exK := newK_st hT
  have hG := fun o => Give exK hok0 (H.length + 1) H.length 500 exA _ (st0.more [o])
  have hR1 := fun m H1 st => Right (exK.tell 500) hok1 (H.length + 1) m 1999 exA exT H1 st
  have hR2 := fun m H1 st => Right ((exK.tell 500).tell 1999) hok2 (H.length + 1) m 2000 exA exT H1 st
  have a0 : askE exK 500 exA = 0 := by decide
  have a1 : askE (exK.tell 500) 1999 exA = 0 := by decide
  have a2 : askE ((exK.tell 500).tell 1999) 2000 exA = 0 := by decide
  have g0 : giveV exK 500 exA = .tuple ⟨[.string (bs exT), .int .i64 0]⟩ := by unfold giveV; rw [a0]; rfl
  have g1 : rightV (exK.tell 500) 1999 exA exT = .tuple ⟨[.bool true, .int .i64 0]⟩ := by unfold rightV; rw [a1, if_pos rfl, ex1]
  have g2 : rightV ((exK.tell 500).tell 1999) 2000 exA exT = .tuple ⟨[.bool false, .int .i64 0]⟩ := by unfold rightV; rw [a2, if_pos rfl, ex2]
  have k0 : exK.ask 500 exA = exK.tell 500 := if_pos a0
  have k1 : (exK.tell 500).ask 1999 exA = (exK.tell 500).tell 1999 := if_pos a1
  rw [g0, k0] at hG
  rw [g1, k1] at hR1
  rw [g2] at hR2
  have h3 := ex3
  generalize exT = tk at *
  clear a0 a1 a2 g0 g1 g2
  unfold kC at *
  have hv : exA.v = .agg ⟨[.int .i64 4, .string (bs [10, 0, 0, 1]), .int .i64 80]⟩ := rfl
  rw [hv] at hG hR1 hR2
  simp only [List.append_assoc, List.cons_append, List.nil_append] at hG
  refine AC.enter Tryd.func10 rfl (by kernel_rfl) 62 rfl [.tmp 0] rfl (by simp) fun hsc B => ?_
  repeat first
    | with_reducible refine AWP.seq ?_
    | ((with_reducible refine AWP.region ?_ ?_); exact rfl)
    | with_reducible refine AWP.block ?_
    | with_reducible refine AWP.skip ?_
    | with_reducible refine AWP.exit ?_
    | with_reducible refine AWP.ret ?_
    | with_reducible refine AWP.label ?_
    | with_reducible refine AWP.goto ?_
    | ((with_reducible refine AWP.condT ?_ ?_); focus (simp only [ev, lk_cons, ↓reduceIte, Nat.reduceEqDiff]; done))
    | ((with_reducible refine AWP.condF ?_ ?_); focus (simp only [ev, lk_cons, ↓reduceIte, Nat.reduceEqDiff]; done))
    | with_reducible refine (hN _).use ?_
    | simp only [go_sem, ↓reduceIte, Nat.reduceEqDiff, reduceCtorEq, Nat.reduceAdd, Int.reduceEq, Int.reduceBNe, Int.reduceBEq, Int.reduceToNat, Int.reduceLT, Int.reduceLE, Int.reduceGT, Int.reduceGE, Nat.reduceSub, Nat.reduceBEq, Nat.reduceBNe, Int.reduceAdd, Int.reduceSub, Int.reduceMul, Int.reduceNeg, Nat.reduceMul, Nat.reduceLeDiff, Nat.reduceLT]
    | simp (disch := omega) only [wi64, wu8, wu16, wu32, wu64, Int.tdiv_eq_ediv_of_nonneg, Int.tmod_eq_emod_of_nonneg]
    | with_reducible_and_instances exact finR
    | ((with_reducible refine finR' ?_ ?_) <;> rfl)
    | ((with_reducible refine finD hsc (NRel.of_plain ?_)); exact rfl)
  refine (hG _).use fun H1 hk => ?_
  obtain ⟨m1, hs1, hf1, hm1⟩ := hk
  have hb1 := hf1.get (hgetk rfl) (show H.length + 2 ∉ [H.length + 1] by simp)
  repeat first
    | with_reducible refine AWP.seq ?_
    | ((with_reducible refine AWP.region ?_ ?_); exact rfl)
    | with_reducible refine AWP.block ?_
    | with_reducible refine AWP.skip ?_
    | with_reducible refine AWP.exit ?_
    | with_reducible refine AWP.ret ?_
    | with_reducible refine AWP.label ?_
    | with_reducible refine AWP.goto ?_
    | ((with_reducible refine AWP.condT ?_ ?_); focus (simp only [ev, lk_cons, ↓reduceIte, Nat.reduceEqDiff]; done))
    | ((with_reducible refine AWP.condF ?_ ?_); focus (simp only [ev, lk_cons, ↓reduceIte, Nat.reduceEqDiff]; done))
    | simp only [go_sem, ↓reduceIte, Nat.reduceEqDiff, reduceCtorEq, Nat.reduceAdd, Int.reduceEq, Int.reduceBNe, Int.reduceBEq, Int.reduceToNat, Int.reduceLT, Int.reduceLE, Int.reduceGT, Int.reduceGE, Nat.reduceSub, Nat.reduceBEq, Nat.reduceBNe, Int.reduceAdd, Int.reduceSub, Int.reduceMul, Int.reduceNeg, Nat.reduceMul, Nat.reduceLeDiff, Nat.reduceLT, hb1]
    | simp (disch := omega) only [wi64, wu8, wu16, wu32, wu64, Int.tdiv_eq_ediv_of_nonneg, Int.tmod_eq_emod_of_nonneg]
    | with_reducible_and_instances exact finR
    | ((with_reducible refine finR' ?_ ?_) <;> rfl)
    | ((with_reducible refine finD hsc (NRel.of_plain ?_)); exact rfl)
  refine (hR1 _ _ hs1).use fun H2 hk => ?_
  obtain ⟨m2, hs2, hf2, hm2⟩ := hk
  have hb2 := hf2.get hb1 (show H.length + 2 ∉ [H.length + 1] by simp)
  repeat first
    | with_reducible refine AWP.seq ?_
    | ((with_reducible refine AWP.region ?_ ?_); exact rfl)
    | with_reducible refine AWP.block ?_
    | with_reducible refine AWP.skip ?_
    | with_reducible refine AWP.exit ?_
    | with_reducible refine AWP.ret ?_
    | with_reducible refine AWP.label ?_
    | with_reducible refine AWP.goto ?_
    | ((with_reducible refine AWP.condT ?_ ?_); focus (simp only [ev, lk_cons, ↓reduceIte, Nat.reduceEqDiff]; done))
    | ((with_reducible refine AWP.condF ?_ ?_); focus (simp only [ev, lk_cons, ↓reduceIte, Nat.reduceEqDiff]; done))
    | simp only [go_sem, ↓reduceIte, Nat.reduceEqDiff, reduceCtorEq, Nat.reduceAdd, Int.reduceEq, Int.reduceBNe, Int.reduceBEq, Int.reduceToNat, Int.reduceLT, Int.reduceLE, Int.reduceGT, Int.reduceGE, Nat.reduceSub, Nat.reduceBEq, Nat.reduceBNe, Int.reduceAdd, Int.reduceSub, Int.reduceMul, Int.reduceNeg, Nat.reduceMul, Nat.reduceLeDiff, Nat.reduceLT, hb2]
    | simp (disch := omega) only [wi64, wu8, wu16, wu32, wu64, Int.tdiv_eq_ediv_of_nonneg, Int.tmod_eq_emod_of_nonneg]
    | with_reducible_and_instances exact finR
    | ((with_reducible refine finR' ?_ ?_) <;> rfl)
    | ((with_reducible refine finD hsc (NRel.of_plain ?_)); exact rfl)
  refine (hR2 _ _ hs2).use fun H3 hk => ?_
  repeat first
    | with_reducible refine AWP.seq ?_
    | ((with_reducible refine AWP.region ?_ ?_); exact rfl)
    | with_reducible refine AWP.block ?_
    | with_reducible refine AWP.skip ?_
    | with_reducible refine AWP.exit ?_
    | with_reducible refine AWP.ret ?_
    | with_reducible refine AWP.label ?_
    | with_reducible refine AWP.goto ?_
    | ((with_reducible refine AWP.condT ?_ ?_); focus (simp only [ev, lk_cons, ↓reduceIte, Nat.reduceEqDiff]; done))
    | ((with_reducible refine AWP.condF ?_ ?_); focus (simp only [ev, lk_cons, ↓reduceIte, Nat.reduceEqDiff]; done))
    | simp only [go_sem, ↓reduceIte, Nat.reduceEqDiff, reduceCtorEq, Nat.reduceAdd, Int.reduceEq, Int.reduceBNe, Int.reduceBEq, Int.reduceToNat, Int.reduceLT, Int.reduceLE, Int.reduceGT, Int.reduceGE, Nat.reduceSub, Nat.reduceBEq, Nat.reduceBNe, Int.reduceAdd, Int.reduceSub, Int.reduceMul, Int.reduceNeg, Nat.reduceMul, Nat.reduceLeDiff, Nat.reduceLT, h3]
    | simp (disch := omega) only [wi64, wu8, wu16, wu32, wu64, Int.tdiv_eq_ediv_of_nonneg, Int.tmod_eq_emod_of_nonneg]
    | with_reducible_and_instances exact finR
    | ((with_reducible refine finR' ?_ ?_) <;> rfl)
    | ((with_reducible refine finD hsc (NRel.of_plain ?_)); exact rfl)
  exact ⟨_, _, .refl _ _ _, rfl⟩
end Go.Proofs.YtmpkgdilmkeacaaDoor
