/-
  Identifiers: secure ones; the page's example.
-/
import Derived.Test.YtmpkgdilmkeacaaDoorR9
set_option linter.unusedVariables false
set_option linter.unusedSimpArgs false
set_option maxRecDepth 20000
set_option maxHeartbeats 4000000
namespace Go.Proofs.YtmpkgdilmkeacaaDoor
open Go Go.Aw Go.Proofs Go.Shelf Go.RowKit Go.ChangeShapes
theorem beginsL_len (a : Ad) (r : Nat) : (beginsL a r).length = 3 := by unfold beginsL; rw [List.length_take, sumL_len]; rfl
theorem Node (a : Ad) (h : a.ok = true) (seed : List UInt8) (hs : seed.length ≤ 1000) (r : Nat) (hr : r ≤ 255) : ∃ id : List UInt8, id.length = 20 ∧ ∀ H, ARet Tryd.prog 37 [a.v, .string (bs seed), .int .i64 (r : Nat)] H (.tuple ⟨[.string (bs id), .int .i64 0]⟩) H := by
  have hV := fun H => rValid a H
  rw [h] at hV
  have hB := fun H => begins a h r hr H
  have hS := fun H => refSum seed (by omega) H
  have hfl := beginsL_len a r
  have hsl := sumL_len seed
  obtain ⟨f0, f1, f2, hf⟩ : ∃ x y z, beginsL a r = [x, y, z] := by
    generalize beginsL a r = l at hfl
    match l, hfl with
    | [x, y, z], _ => exact ⟨x, y, z, rfl⟩
  rw [hf] at hB
  generalize sumL seed = s at *
  obtain ⟨s2, hs2⟩ : ∃ b, s[2]? = some b := ⟨_, List.getElem?_eq_getElem (by omega)⟩
  have b0 := f2.toNat_lt
  have b1 := s2.toNat_lt
  have e1 : ((f2.toNat : Nat) : Int).tdiv 8 = ((f2.toNat / 8 : Nat) : Int) := tdiv8 _
  have e2 : ((s2.toNat : Nat) : Int).tmod 8 = ((s2.toNat % 8 : Nat) : Int) := tmod8 _
  have w1 : IntKind.u8.wrap ((f2.toNat / 8 : Nat) : Int) = ((f2.toNat / 8 : Nat) : Int) := wu8 (by omega)
  have w2 : IntKind.u8.wrap (((f2.toNat / 8 : Nat) : Int) * 8) = ((f2.toNat / 8 * 8 : Nat) : Int) := by rw [wu8 (by omega)]; omega
  have w3 : IntKind.u8.wrap (((f2.toNat / 8 * 8 : Nat) : Int) + ((s2.toNat % 8 : Nat) : Int)) = ((f2.toNat / 8 * 8 + s2.toNat % 8 : Nat) : Int) := by rw [wu8 (by omega)]; omega
  have w4 : IntKind.u8.wrap ((r : Nat) : Int) = ((r : Nat) : Int) := wu8 (by omega)
  have u1 : u8s [Value.int .u8 ((f2.toNat / 8 * 8 + s2.toNat % 8 : Nat) : Int)] = some [UInt8.ofNat (f2.toNat / 8 * 8 + s2.toNat % 8)] := rfl
  have u2 : u8s [Value.int .u8 ((r : Nat) : Int)] = some [UInt8.ofNat r] := rfl
  generalize UInt8.ofNat (f2.toNat / 8 * 8 + s2.toNat % 8) = x1 at *
  generalize UInt8.ofNat r = x2 at *
  have hr0 : ¬ (r : Int) < 0 := by omega
  have hr1 : ¬ (r : Int) > 255 := by omega
  have hll : ((s.take 19).drop 3).length = 16 := by rw [List.length_drop, List.length_take]; omega
  refine ⟨(([f0, f1] ++ [x1]) ++ (s.take 19).drop 3) ++ [x2], by simp [hll], fun H => ?_⟩
  unfold Ad.v at hV hB ⊢
  refine AC.enter Tryd.func37 rfl (by kernel_rfl) 47 rfl [.tmp 6, .tmp 7] rfl (by simp) fun hsc B => ?_
  repeat first
    | with_reducible refine AWP.seq ?_
    | ((with_reducible refine AWP.region ?_ ?_); exact rfl)
    | with_reducible refine AWP.block ?_
    | with_reducible refine AWP.skip ?_
    | with_reducible refine AWP.exit ?_
    | with_reducible refine AWP.ret ?_
    | with_reducible refine AWP.label ?_
    | with_reducible refine AWP.goto ?_
    | ((with_reducible refine AWP.condT ?_ ?_); focus (simp only [ev, lk_cons, ↓reduceIte, Nat.reduceEqDiff]; done))
    | ((with_reducible refine AWP.condF ?_ ?_); focus (simp only [ev, lk_cons, ↓reduceIte, Nat.reduceEqDiff]; done))
    | with_reducible refine (hV _).use ?_
    | with_reducible refine (hS _).use ?_
    | with_reducible refine (hB _).use ?_
    | simp only [go_sem, ↓reduceIte, Nat.reduceEqDiff, reduceCtorEq, Nat.reduceAdd, Int.reduceEq, Int.reduceBNe, Int.reduceBEq, Int.reduceToNat, Int.reduceLT, Int.reduceLE, Int.reduceGT, Int.reduceGE, Nat.reduceSub, Nat.reduceBEq, Nat.reduceBNe, Int.reduceAdd, Int.reduceSub, Int.reduceMul, Int.reduceNeg, Nat.reduceMul, Nat.reduceLeDiff, Nat.reduceLT, hr0, hr1]
    | simp (disch := omega) only [wi64, wu8, wu16, wu32, wu64, Int.tdiv_eq_ediv_of_nonneg, Int.tmod_eq_emod_of_nonneg]
    | with_reducible_and_instances exact finR
    | ((with_reducible refine finR' ?_ ?_) <;> rfl)
    | ((with_reducible refine finD hsc (NRel.of_plain ?_)); exact rfl)
  refine AWP.regionM 20 [10, 11, 18, 19] [(11, .string (bs [x1])), (19, .string (bs [x2]))] (.both (.step 10 (.both (.run [11, 18, 19]) (.step 18 (.both (.run [11, 19]) (.run [19, 11]))))) (.step 18 (.both (.step 10 (.both (.run [11, 19]) (.run [19, 11]))) (.run [19, 10, 11])))) (by kernel_rfl) (by decide) (by kernel_rfl) (by kernel_rfl) (by kernel_rfl) ?_
  repeat' first
    | with_reducible refine canW_n ?_
    | with_reducible refine canW_m (by decide) ?_
    | ((with_reducible apply canW_p (by decide)); focus (intro H; (simp only [go_sem, ↓reduceIte, Nat.reduceEqDiff, reduceCtorEq, Nat.reduceAdd, Int.reduceEq, Int.reduceBNe, Int.reduceBEq, Int.reduceToNat, Int.reduceLT, Int.reduceLE, Int.reduceGT, Int.reduceGE, Nat.reduceSub, Nat.reduceBEq, Nat.reduceBNe, Int.reduceAdd, Int.reduceSub, Int.reduceMul, Int.reduceNeg, Nat.reduceMul, Nat.reduceLeDiff, Nat.reduceLT, hs2, hsl, e1, e2, w1, w2, w3, w4, u1, u2, hll, List.map_cons, List.map_nil]); exact rfl))
    | with_reducible refine memW_b ?_ ?_
    | with_reducible refine memW_s rfl ?_
    | with_reducible refine memW_r rfl ?_
    | with_reducible refine memW_e ?_
    | simp only [List.take_succ_cons, List.take_zero, List.drop_succ_cons, List.drop_zero]
    | omega
    | with_reducible refine And.intro ?_ ?_
    | with_reducible refine AWP.seq ?_
    | ((with_reducible refine AWP.region ?_ ?_); exact rfl)
    | with_reducible refine AWP.block ?_
    | with_reducible refine AWP.skip ?_
    | with_reducible refine AWP.exit ?_
    | with_reducible refine AWP.ret ?_
    | with_reducible refine AWP.label ?_
    | with_reducible refine AWP.goto ?_
    | ((with_reducible refine AWP.condT ?_ ?_); focus (simp only [ev, lk_cons, ↓reduceIte, Nat.reduceEqDiff]; done))
    | ((with_reducible refine AWP.condF ?_ ?_); focus (simp only [ev, lk_cons, ↓reduceIte, Nat.reduceEqDiff]; done))
    | simp only [go_sem, ↓reduceIte, Nat.reduceEqDiff, reduceCtorEq, Nat.reduceAdd, Int.reduceEq, Int.reduceBNe, Int.reduceBEq, Int.reduceToNat, Int.reduceLT, Int.reduceLE, Int.reduceGT, Int.reduceGE, Nat.reduceSub, Nat.reduceBEq, Nat.reduceBNe, Int.reduceAdd, Int.reduceSub, Int.reduceMul, Int.reduceNeg, Nat.reduceMul, Nat.reduceLeDiff, Nat.reduceLT, hs2, hsl, e1, e2, w1, w2, w3, w4, u1, u2, hll, List.map_cons, List.map_nil]
    | simp (disch := omega) only [wi64, wu8, wu16, wu32, wu64, Int.tdiv_eq_ediv_of_nonneg, Int.tmod_eq_emod_of_nonneg]
    | with_reducible_and_instances exact finR
    | ((with_reducible refine finR' ?_ ?_) <;> rfl)
    | ((with_reducible refine finD hsc (NRel.of_plain ?_)); exact rfl)
end Go.Proofs.YtmpkgdilmkeacaaDoor
