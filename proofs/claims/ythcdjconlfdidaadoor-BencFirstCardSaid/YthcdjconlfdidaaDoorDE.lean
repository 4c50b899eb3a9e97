/-
  The walk of the writer of bencoded values: Itoa, digits.
-/
import Derived.Test.YthcdjconlfdidaaDoorDC
import Derived.Test.YthcdjconlfdidaaDoorDL
import Derived.Test.YthcdjconlfdidaaDoorAwC
import Derived.Lib.AppendIntMem
import Derived.Lib.ItoaLen
set_option linter.unusedVariables false
set_option linter.unusedSimpArgs false
set_option maxHeartbeats 4000000
set_option maxRecDepth 20000
namespace Go.Proofs.YthcdjconlfdidaaDoor
open Go Go.Aw Go.Proofs
theorem gTab : Tryd.prog.globalNamed "internal/strconv.uint64pow10" = some 2 := by kernel_rfl
def TabH (H : AHeap) : Prop := ∃ e, H[2]? = some (tabO e 2 .u64 Lib.pow10Tab)
theorem TabH.more {H : AHeap} (h : TabH H) (X : AHeap) : TabH (H ++ X) := by
  obtain ⟨e, h⟩ := h
  exact ⟨e, by rw [hgetl (lt_of_get h)]; exact h⟩
theorem TabH.frm {H H1 : AHeap} {S : List Nat} (h : TabH H) (hf : Frm S H H1) (h0 : ¬ 2 ∈ S) : TabH H1 := by
  obtain ⟨e, h⟩ := h
  exact ⟨e, hf.get h h0⟩
theorem Itoa (n : Int) (h0 : -9223372036854775808 ≤ n) (h1 : n ≤ 9223372036854775807) (H : AHeap) (hT : TabH H) : ARet Tryd.prog 49 [.int .i64 n] H (.string (bs (Lib.itoa n))) H := by
  obtain ⟨e, hT⟩ := hT
  refine ARet.ofCallsT Tryd.func49 rfl (by kernel_rfl) rfl rfl H (fun w => Lib.TabIs Tryd.prog w "internal/strconv.uint64pow10" .u64 Lib.pow10Tab) (fun c w hh => tabIs_of_rel hh gTab hT) (fun w hw => ?_)
  refine (Any.strconv_Itoa Tryd.laysItoa n h0 h1 w hw).mono fun e w' ⟨he, k, os, hw'⟩ => ⟨he, ?_⟩
  subst hw'
  exact Lib.below_grow _ w (Nat.le_refl _) k os
theorem dec_le : ∀ (n k : Nat), 0 < k → n < 10 ^ k → (Lib.decDigits n).length ≤ k
  | n, 0, h, _ => by omega
  | n, k + 1, _, h => by
    rw [Lib.decDigits]
    split
    · simp
    · have hk : 0 < k := by
        rcases Nat.eq_zero_or_pos k with rfl | h'
        · simp at h; omega
        · exact h'
      have := dec_le (n / 10) k hk (by rw [Nat.pow_succ] at h; omega)
      rw [List.length_append, List.length_singleton]; omega
theorem itoa_le (n : Int) (h0 : -9223372036854775808 ≤ n) (h1 : n ≤ 9223372036854775807) : (Lib.itoa n).length ≤ 20 := by
  unfold Lib.itoa
  split
  · have := dec_le n.natAbs 19 (by omega) (by omega)
    simp; omega
  · have := dec_le n.toNat 19 (by omega) (by omega)
    omega
theorem digits (n : Nat) (h1 : (n : Int) ≤ 9223372036854775807) (H : AHeap) (hT : TabH H) : ARet Tryd.prog 67 [.int .i64 (n : Nat)] H (.int .i64 (((Lib.itoa (n : Nat)).length + 1 : Nat) : Int)) H := by
  have hI := Itoa (n : Nat) (by omega) h1 H hT
  have hl := itoa_le (n : Nat) (by omega) h1
  have hw : IntKind.i64.wrap (((Lib.itoa (n : Nat)).length : Int) + 1) = (((Lib.itoa (n : Nat)).length + 1 : Nat) : Int) := by rw [wi64 (by omega)]; omega
  refine AC.enter Tryd.func67 rfl (by kernel_rfl) 7 rfl [.tmp 2] rfl (by simp) fun hsc B => ?_
  repeat first
    | with_reducible refine AWP.seq ?_
    | ((with_reducible refine AWP.region ?_ ?_); exact rfl)
    | with_reducible refine AWP.block ?_
    | with_reducible refine AWP.skip ?_
    | with_reducible refine AWP.exit ?_
    | with_reducible refine AWP.ret ?_
    | with_reducible refine AWP.label ?_
    | with_reducible refine AWP.goto ?_
    | ((with_reducible refine AWP.condT ?_ ?_); focus (simp only [ev, lk_cons, ↓reduceIte, Nat.reduceEqDiff]; done))
    | ((with_reducible refine AWP.condF ?_ ?_); focus (simp only [ev, lk_cons, ↓reduceIte, Nat.reduceEqDiff]; done))
    | with_reducible refine hI.use ?_
    | simp only [go_sem, ↓reduceIte, Nat.reduceEqDiff, reduceCtorEq, Nat.reduceAdd, Int.reduceEq, Int.reduceBNe, Int.reduceBEq, Int.reduceToNat, Int.reduceLT, Int.reduceLE, Int.reduceGT, Int.reduceGE, Nat.reduceSub, Nat.reduceBEq, Nat.reduceBNe, Int.reduceAdd, Int.reduceSub, Int.reduceMul, Int.reduceNeg, Nat.reduceMul, Nat.reduceLeDiff, Nat.reduceLT, hw]
    | simp (disch := omega) only [wi64, wu8, wu16, wu32, wu64]
    | with_reducible_and_instances exact finR
    | ((with_reducible refine finR' ?_ ?_) <;> rfl)
    | ((with_reducible refine finD hsc (NRel.of_plain ?_)); exact rfl)
end Go.Proofs.YthcdjconlfdidaaDoor

