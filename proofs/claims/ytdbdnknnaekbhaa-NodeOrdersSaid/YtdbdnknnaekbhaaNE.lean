/-
  The walk of nodes: nodes, their packs.
-/
import Derived.Test.YtdbdnknnaekbhaaND
set_option linter.unusedVariables false
set_option linter.unusedSimpArgs false
set_option maxRecDepth 20000
set_option maxHeartbeats 4000000
namespace Go.Proofs.Ytdbdnknnaekbhaa
open Go Go.Aw Go.Proofs
/-- A node. -/
structure Nd where
  id : List UInt8
  a : Ad
def ndC (x : Nd) : List Value := [.string (bs x.id), .int .i64 x.a.fam, .string (bs x.a.ip), .int .i64 x.a.port]
def Nd.v (x : Nd) : Value := .agg ⟨ndC x⟩
def Nd.ok (x : Nd) : Bool := decide (x.id.length = 20) && x.a.ok
theorem validNode (x : Nd) (H : AHeap) : ARet Try.prog 24 [x.v] H (.bool x.ok) H := by
  obtain ⟨id, f, ip, p⟩ := x
  have hV := fun H => Valid ⟨f, ip, p⟩ H
  have hI := fun H => valid id H
  unfold Nd.v ndC Nd.ok
  unfold Ad.v at hV
  simp only at hV ⊢
  cases h : decide (id.length = 20) with
  | false =>
    rw [h] at hI
    rw [Bool.false_and]
    refine AC.enter Try.func24 rfl (by kernel_rfl) 11 rfl [.tmp 2] rfl (by simp) fun hsc B => ?_
    repeat first
      | with_reducible refine AWP.seq ?_
      | ((with_reducible refine AWP.region ?_ ?_); exact rfl)
      | with_reducible refine AWP.block ?_
      | with_reducible refine AWP.skip ?_
      | with_reducible refine AWP.exit ?_
      | with_reducible refine AWP.ret ?_
      | with_reducible refine AWP.label ?_
      | with_reducible refine AWP.goto ?_
      | ((with_reducible refine AWP.condT ?_ ?_); focus (simp only [ev, lk_cons, ↓reduceIte, Nat.reduceEqDiff]; done))
      | ((with_reducible refine AWP.condF ?_ ?_); focus (simp only [ev, lk_cons, ↓reduceIte, Nat.reduceEqDiff]; done))
      | with_reducible refine (hI _).use ?_
      | simp only [go_sem, ↓reduceIte, Nat.reduceEqDiff, reduceCtorEq, Nat.reduceAdd, Int.reduceEq, Int.reduceBNe, Int.reduceBEq, Int.reduceToNat, Int.reduceLT, Int.reduceLE, Int.reduceGT, Int.reduceGE, Nat.reduceSub, Nat.reduceBEq, Nat.reduceBNe, Int.reduceAdd, Int.reduceSub, Int.reduceMul, Int.reduceNeg, Nat.reduceMul, Nat.reduceLeDiff, Nat.reduceLT]
      | simp (disch := omega) only [wi64, wu8, wu16, wu32, wu64, Int.tdiv_eq_ediv_of_nonneg, Int.tmod_eq_emod_of_nonneg]
      | with_reducible_and_instances exact finR
      | ((with_reducible refine finR' ?_ ?_) <;> rfl)
      | ((with_reducible refine finD hsc (NRel.of_plain ?_)); exact rfl)
  | true =>
    rw [h] at hI
    rw [Bool.true_and]
    refine AC.enter Try.func24 rfl (by kernel_rfl) 11 rfl [.tmp 2] rfl (by simp) fun hsc B => ?_
    repeat first
      | with_reducible refine AWP.seq ?_
      | ((with_reducible refine AWP.region ?_ ?_); exact rfl)
      | with_reducible refine AWP.block ?_
      | with_reducible refine AWP.skip ?_
      | with_reducible refine AWP.exit ?_
      | with_reducible refine AWP.ret ?_
      | with_reducible refine AWP.label ?_
      | with_reducible refine AWP.goto ?_
      | ((with_reducible refine AWP.condT ?_ ?_); focus (simp only [ev, lk_cons, ↓reduceIte, Nat.reduceEqDiff]; done))
      | ((with_reducible refine AWP.condF ?_ ?_); focus (simp only [ev, lk_cons, ↓reduceIte, Nat.reduceEqDiff]; done))
      | with_reducible refine (hI _).use ?_
      | with_reducible refine (hV _).use ?_
      | simp only [go_sem, ↓reduceIte, Nat.reduceEqDiff, reduceCtorEq, Nat.reduceAdd, Int.reduceEq, Int.reduceBNe, Int.reduceBEq, Int.reduceToNat, Int.reduceLT, Int.reduceLE, Int.reduceGT, Int.reduceGE, Nat.reduceSub, Nat.reduceBEq, Nat.reduceBNe, Int.reduceAdd, Int.reduceSub, Int.reduceMul, Int.reduceNeg, Nat.reduceMul, Nat.reduceLeDiff, Nat.reduceLT]
      | simp (disch := omega) only [wi64, wu8, wu16, wu32, wu64, Int.tdiv_eq_ediv_of_nonneg, Int.tmod_eq_emod_of_nonneg]
      | with_reducible_and_instances exact finR
      | ((with_reducible refine finR' ?_ ?_) <;> rfl)
      | ((with_reducible refine finD hsc (NRel.of_plain ?_)); exact rfl)
theorem rvalidNode (x : Nd) (H : AHeap) : ARet Try.prog 39 [x.v] H (.bool x.ok) H := by
  obtain ⟨id, f, ip, p⟩ := x
  have hV := fun H => rValid ⟨f, ip, p⟩ H
  have hI := fun H => rvalid id H
  unfold Nd.v ndC Nd.ok
  unfold Ad.v at hV
  simp only at hV ⊢
  cases h : decide (id.length = 20) with
  | false =>
    rw [h] at hI
    rw [Bool.false_and]
    refine AC.enter Try.func39 rfl (by kernel_rfl) 11 rfl [.tmp 2] rfl (by simp) fun hsc B => ?_
    repeat first
      | with_reducible refine AWP.seq ?_
      | ((with_reducible refine AWP.region ?_ ?_); exact rfl)
      | with_reducible refine AWP.block ?_
      | with_reducible refine AWP.skip ?_
      | with_reducible refine AWP.exit ?_
      | with_reducible refine AWP.ret ?_
      | with_reducible refine AWP.label ?_
      | with_reducible refine AWP.goto ?_
      | ((with_reducible refine AWP.condT ?_ ?_); focus (simp only [ev, lk_cons, ↓reduceIte, Nat.reduceEqDiff]; done))
      | ((with_reducible refine AWP.condF ?_ ?_); focus (simp only [ev, lk_cons, ↓reduceIte, Nat.reduceEqDiff]; done))
      | with_reducible refine (hI _).use ?_
      | simp only [go_sem, ↓reduceIte, Nat.reduceEqDiff, reduceCtorEq, Nat.reduceAdd, Int.reduceEq, Int.reduceBNe, Int.reduceBEq, Int.reduceToNat, Int.reduceLT, Int.reduceLE, Int.reduceGT, Int.reduceGE, Nat.reduceSub, Nat.reduceBEq, Nat.reduceBNe, Int.reduceAdd, Int.reduceSub, Int.reduceMul, Int.reduceNeg, Nat.reduceMul, Nat.reduceLeDiff, Nat.reduceLT]
      | simp (disch := omega) only [wi64, wu8, wu16, wu32, wu64, Int.tdiv_eq_ediv_of_nonneg, Int.tmod_eq_emod_of_nonneg]
      | with_reducible_and_instances exact finR
      | ((with_reducible refine finR' ?_ ?_) <;> rfl)
      | ((with_reducible refine finD hsc (NRel.of_plain ?_)); exact rfl)
  | true =>
    rw [h] at hI
    rw [Bool.true_and]
    refine AC.enter Try.func39 rfl (by kernel_rfl) 11 rfl [.tmp 2] rfl (by simp) fun hsc B => ?_
    repeat first
      | with_reducible refine AWP.seq ?_
      | ((with_reducible refine AWP.region ?_ ?_); exact rfl)
      | with_reducible refine AWP.block ?_
      | with_reducible refine AWP.skip ?_
      | with_reducible refine AWP.exit ?_
      | with_reducible refine AWP.ret ?_
      | with_reducible refine AWP.label ?_
      | with_reducible refine AWP.goto ?_
      | ((with_reducible refine AWP.condT ?_ ?_); focus (simp only [ev, lk_cons, ↓reduceIte, Nat.reduceEqDiff]; done))
      | ((with_reducible refine AWP.condF ?_ ?_); focus (simp only [ev, lk_cons, ↓reduceIte, Nat.reduceEqDiff]; done))
      | with_reducible refine (hI _).use ?_
      | with_reducible refine (hV _).use ?_
      | simp only [go_sem, ↓reduceIte, Nat.reduceEqDiff, reduceCtorEq, Nat.reduceAdd, Int.reduceEq, Int.reduceBNe, Int.reduceBEq, Int.reduceToNat, Int.reduceLT, Int.reduceLE, Int.reduceGT, Int.reduceGE, Nat.reduceSub, Nat.reduceBEq, Nat.reduceBNe, Int.reduceAdd, Int.reduceSub, Int.reduceMul, Int.reduceNeg, Nat.reduceMul, Nat.reduceLeDiff, Nat.reduceLT]
      | simp (disch := omega) only [wi64, wu8, wu16, wu32, wu64, Int.tdiv_eq_ediv_of_nonneg, Int.tmod_eq_emod_of_nonneg]
      | with_reducible_and_instances exact finR
      | ((with_reducible refine finR' ?_ ?_) <;> rfl)
      | ((with_reducible refine finD hsc (NRel.of_plain ?_)); exact rfl)
end Go.Proofs.Ytdbdnknnaekbhaa

