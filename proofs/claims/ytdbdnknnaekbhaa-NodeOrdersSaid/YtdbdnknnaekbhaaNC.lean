/-
  The walk of nodes: addresses that are right.
-/
import Derived.Test.YtdbdnknnaekbhaaN9
import Derived.Test.YtdbdnknnaekbhaaAwC
import Derived.Test.YtdbdnknnaekbhaaAwB
set_option linter.unusedVariables false
set_option linter.unusedSimpArgs false
set_option maxRecDepth 20000
set_option maxHeartbeats 4000000
namespace Go.Proofs.Ytdbdnknnaekbhaa
open Go Go.Aw Go.Proofs
/-- An address. -/
structure Ad where
  fam : Int
  ip : List UInt8
  port : Int
def Ad.v (a : Ad) : Value := .agg ⟨[.int .i64 a.fam, .string (bs a.ip), .int .i64 a.port]⟩
def Ad.ok (a : Ad) : Bool := (((a.fam == 4) && ((a.ip.length : Int) == 4)) || ((a.fam == 6) && ((a.ip.length : Int) == 16))) && decide (a.port ≥ 1) && decide (a.port ≤ 65535)
theorem rValid (a : Ad) (H : AHeap) : ARet Try.prog 55 [a.v] H (.bool a.ok) H := by
  obtain ⟨f, ip, p⟩ := a
  unfold Ad.v Ad.ok
  simp only
  cases b1 : (f == 4) <;> cases b2 : ((ip.length : Int) == 4) <;> cases b3 : (f == 6) <;> cases b4 : ((ip.length : Int) == 16) <;> by_cases h5 : p ≥ 1 <;> by_cases h6 : p ≤ 65535
  all_goals
    simp only [h5, h6, decide_true, decide_false, Bool.and_true, Bool.and_false, Bool.true_and, Bool.false_and, Bool.or_true, Bool.or_false, Bool.true_or, Bool.false_or]
    refine AC.enter Try.func55 rfl (by kernel_rfl) 33 rfl [.tmp 2] rfl (by simp) fun hsc B => ?_
    repeat first
      | with_reducible refine AWP.seq ?_
      | ((with_reducible refine AWP.region ?_ ?_); exact rfl)
      | with_reducible refine AWP.block ?_
      | with_reducible refine AWP.skip ?_
      | with_reducible refine AWP.exit ?_
      | with_reducible refine AWP.ret ?_
      | with_reducible refine AWP.label ?_
      | with_reducible refine AWP.goto ?_
      | ((with_reducible refine AWP.condT ?_ ?_); focus (simp only [ev, lk_cons, ↓reduceIte, Nat.reduceEqDiff]; done))
      | ((with_reducible refine AWP.condF ?_ ?_); focus (simp only [ev, lk_cons, ↓reduceIte, Nat.reduceEqDiff]; done))
      | simp only [go_sem, ↓reduceIte, Nat.reduceEqDiff, reduceCtorEq, Nat.reduceAdd, Int.reduceEq, Int.reduceBNe, Int.reduceBEq, Int.reduceToNat, Int.reduceLT, Int.reduceLE, Int.reduceGT, Int.reduceGE, Nat.reduceSub, Nat.reduceBEq, Nat.reduceBNe, Int.reduceAdd, Int.reduceSub, Int.reduceMul, Int.reduceNeg, Nat.reduceMul, Nat.reduceLeDiff, Nat.reduceLT, b1, b2, b3, b4, h5, h6]
      | simp (disch := omega) only [wi64, wu8, wu16, wu32, wu64]
      | with_reducible_and_instances exact finR
      | ((with_reducible refine finR' ?_ ?_) <;> rfl)
      | ((with_reducible refine finD hsc (NRel.of_plain ?_)); exact rfl)
end Go.Proofs.Ytdbdnknnaekbhaa

