/-
  The walk of tokens: secrets, keys.
-/
import Derived.Test.YtmpkgdilmkeacaaDoorP4
import Derived.Test.YtmpkgdilmkeacaaDoorLg
set_option linter.unusedVariables false
set_option linter.unusedSimpArgs false
set_option maxRecDepth 20000
set_option maxHeartbeats 1000000
namespace Go.Proofs.YtmpkgdilmkeacaaDoor
open Go Go.Aw Go.Proofs Go.Shelf Go.RowKit Go.ChangeShapes
theorem gTab : Tryd.prog.globalNamed "internal/strconv.uint64pow10" = some (Tryd.laysItoa_ren.g 17) := by kernel_rfl
def TabH (H : AHeap) : Prop := ∃ e, H[Tryd.laysItoa_ren.g 17]? = some (tabO e (Tryd.laysItoa_ren.g 17) .u64 Lib.pow10Tab)
theorem TabH.more {H : AHeap} (h : TabH H) (X : AHeap) : TabH (H ++ X) := by
  obtain ⟨e, h⟩ := h
  exact ⟨e, by rw [hgetl (lt_of_get h)]; exact h⟩
theorem Itoa (n : Int) (h0 : -9223372036854775808 ≤ n) (h1 : n ≤ 9223372036854775807) (H : AHeap) (hT : TabH H) : ARet Tryd.prog 70 [.int .i64 n] H (.string (bs (Lib.itoa n))) H := by
  obtain ⟨e, hT⟩ := hT
  exact ARet.itoa Tryd.laysItoa Tryd.func70 rfl (by kernel_rfl) gTab hT h0 h1
def secL (seed : List UInt8) (p : Int) : List UInt8 := sumL (seed ++ 47 :: Lib.itoa p)
theorem itoa_len (p : Int) (h0 : 0 ≤ p) (h1 : p ≤ 9223372036854775807) : (Lib.itoa p).length ≤ 20 := by
  unfold Lib.itoa; rw [if_neg (by omega), Lib.decDigits_length]; exact Lib.nDigits_le20 _ (by omega)
theorem secret (seed : List UInt8) (p : Int) (hs : seed.length ≤ 1000) (h0 : 0 ≤ p) (h1 : p ≤ 9223372036854775807) (H : AHeap) (hT : TabH H) : ARet Tryd.prog 42 [.string (bs seed), .int .i64 p] H (.string (bs (secL seed p))) H := by
  have hI := Itoa p (by omega) h1 H hT
  have hl := itoa_len p h0 h1
  have hS := Sum (seed ++ 47 :: Lib.itoa p) (by simp only [List.length_append, List.length_cons]; omega) H
  unfold secL
  refine AC.enter Tryd.func42 rfl (by kernel_rfl) 11 rfl [.tmp 4] rfl (by simp) fun hsc B => ?_
  repeat' first
    | omega
    | with_reducible refine And.intro ?_ ?_
    | with_reducible refine AWP.seq ?_
    | ((with_reducible refine AWP.region ?_ ?_); exact rfl)
    | with_reducible refine AWP.block ?_
    | with_reducible refine AWP.skip ?_
    | with_reducible refine AWP.exit ?_
    | with_reducible refine AWP.ret ?_
    | with_reducible refine AWP.label ?_
    | with_reducible refine AWP.goto ?_
    | ((with_reducible refine AWP.condT ?_ ?_); focus (simp only [ev, lk_cons, ↓reduceIte, Nat.reduceEqDiff]; done))
    | ((with_reducible refine AWP.condF ?_ ?_); focus (simp only [ev, lk_cons, ↓reduceIte, Nat.reduceEqDiff]; done))
    | with_reducible refine hI.use ?_
    | with_reducible refine hS.use ?_
    | simp only [go_sem, ↓reduceIte, Nat.reduceEqDiff, reduceCtorEq, Nat.reduceAdd, Int.reduceEq, Int.reduceBNe, Int.reduceBEq, Int.reduceToNat, Int.reduceLT, Int.reduceLE, Int.reduceGT, Int.reduceGE, Nat.reduceSub, Nat.reduceBEq, Nat.reduceBNe, Int.reduceAdd, Int.reduceSub, Int.reduceMul, Int.reduceNeg, Nat.reduceMul, Nat.reduceLeDiff, Nat.reduceLT]
    | simp (disch := omega) only [wi64, wu8, wu16, wu32, wu64]
    | with_reducible_and_instances exact finR
    | ((with_reducible refine finR' ?_ ?_) <;> rfl)
    | ((with_reducible refine finD hsc (NRel.of_plain ?_)); exact rfl)
theorem ok_fam {a : Ad} (h : a.ok = true) : (a.fam = 4 ∧ a.ip.length = 4 ∨ a.fam = 6 ∧ a.ip.length = 16) ∧ 1 ≤ a.port ∧ a.port ≤ 65535 := by
  unfold Ad.ok at h
  simp only [Bool.and_eq_true, Bool.or_eq_true, beq_iff_eq, decide_eq_true_eq] at h
  omega
def keyL (a : Ad) : List UInt8 := a.ip ++ [UInt8.ofNat a.fam.toNat]
theorem key (a : Ad) (h : a.ok = true) (H : AHeap) : ARet Tryd.prog 47 [a.v] H (.string (bs (keyL a))) H := by
  obtain ⟨f, ip, p⟩ := a
  obtain ⟨hf, -⟩ := ok_fam h
  unfold Ad.v keyL
  simp only at hf ⊢
  rcases hf with ⟨rfl, hl⟩ | ⟨rfl, hl⟩
  · have e8 : u8s [.int .u8 4] = some [UInt8.ofNat (4 : Int).toNat] := rfl
    refine AC.enter Tryd.func47 rfl (by kernel_rfl) 11 rfl [.tmp 2] rfl (by simp) fun hsc B => ?_
    repeat' first
      | omega
      | with_reducible refine And.intro ?_ ?_
      | with_reducible refine AWP.seq ?_
      | ((with_reducible refine AWP.region ?_ ?_); exact rfl)
      | with_reducible refine AWP.block ?_
      | with_reducible refine AWP.skip ?_
      | with_reducible refine AWP.exit ?_
      | with_reducible refine AWP.ret ?_
      | with_reducible refine AWP.label ?_
      | with_reducible refine AWP.goto ?_
      | ((with_reducible refine AWP.condT ?_ ?_); focus (simp only [ev, lk_cons, ↓reduceIte, Nat.reduceEqDiff]; done))
      | ((with_reducible refine AWP.condF ?_ ?_); focus (simp only [ev, lk_cons, ↓reduceIte, Nat.reduceEqDiff]; done))
      | simp only [go_sem, ↓reduceIte, Nat.reduceEqDiff, reduceCtorEq, Nat.reduceAdd, Int.reduceEq, Int.reduceBNe, Int.reduceBEq, Int.reduceToNat, Int.reduceLT, Int.reduceLE, Int.reduceGT, Int.reduceGE, Nat.reduceSub, Nat.reduceBEq, Nat.reduceBNe, Int.reduceAdd, Int.reduceSub, Int.reduceMul, Int.reduceNeg, Nat.reduceMul, Nat.reduceLeDiff, Nat.reduceLT, e8]
      | simp (disch := omega) only [wi64, wu8, wu16, wu32, wu64]
      | with_reducible_and_instances exact finR
      | ((with_reducible refine finR' ?_ ?_) <;> rfl)
      | ((with_reducible refine finD hsc (NRel.of_plain ?_)); exact rfl)
  · have e8 : u8s [.int .u8 6] = some [UInt8.ofNat (6 : Int).toNat] := rfl
    refine AC.enter Tryd.func47 rfl (by kernel_rfl) 11 rfl [.tmp 2] rfl (by simp) fun hsc B => ?_
    repeat' first
      | omega
      | with_reducible refine And.intro ?_ ?_
      | with_reducible refine AWP.seq ?_
      | ((with_reducible refine AWP.region ?_ ?_); exact rfl)
      | with_reducible refine AWP.block ?_
      | with_reducible refine AWP.skip ?_
      | with_reducible refine AWP.exit ?_
      | with_reducible refine AWP.ret ?_
      | with_reducible refine AWP.label ?_
      | with_reducible refine AWP.goto ?_
      | ((with_reducible refine AWP.condT ?_ ?_); focus (simp only [ev, lk_cons, ↓reduceIte, Nat.reduceEqDiff]; done))
      | ((with_reducible refine AWP.condF ?_ ?_); focus (simp only [ev, lk_cons, ↓reduceIte, Nat.reduceEqDiff]; done))
      | simp only [go_sem, ↓reduceIte, Nat.reduceEqDiff, reduceCtorEq, Nat.reduceAdd, Int.reduceEq, Int.reduceBNe, Int.reduceBEq, Int.reduceToNat, Int.reduceLT, Int.reduceLE, Int.reduceGT, Int.reduceGE, Nat.reduceSub, Nat.reduceBEq, Nat.reduceBNe, Int.reduceAdd, Int.reduceSub, Int.reduceMul, Int.reduceNeg, Nat.reduceMul, Nat.reduceLeDiff, Nat.reduceLT, e8]
      | simp (disch := omega) only [wi64, wu8, wu16, wu32, wu64]
      | with_reducible_and_instances exact finR
      | ((with_reducible refine finR' ?_ ?_) <;> rfl)
      | ((with_reducible refine finD hsc (NRel.of_plain ?_)); exact rfl)
end Go.Proofs.YtmpkgdilmkeacaaDoor
