/-
  The walk of tokens: what is asked.
-/
import Derived.Test.YtmpkgdilmkeacaaDoorP8
set_option linter.unusedVariables false
set_option linter.unusedSimpArgs false
set_option maxRecDepth 20000
set_option maxHeartbeats 1000000
namespace Go.Proofs.YtmpkgdilmkeacaaDoor
open Go Go.Aw Go.Proofs Go.Shelf Go.RowKit Go.ChangeShapes
theorem askedA (i : Nat) (t : Int) (a : Ad) (h : a.ok = false) (H : AHeap) : ARet Tryd.prog 40 [.pointer (some ⟨i, 0, none⟩), .int .i64 t, a.v] H (.int .i64 1) H := by
  have hV := fun H => Valid a H
  rw [h] at hV
  obtain ⟨f, ip, p⟩ := a
  unfold Ad.v at hV ⊢
  refine AC.enter Tryd.func40 rfl (by kernel_rfl) 17 rfl [.tmp 6] rfl (by simp) fun hsc B => ?_
  repeat first
    | with_reducible refine AWP.seq ?_
    | ((with_reducible refine AWP.region ?_ ?_); exact rfl)
    | with_reducible refine AWP.block ?_
    | with_reducible refine AWP.skip ?_
    | with_reducible refine AWP.exit ?_
    | with_reducible refine AWP.ret ?_
    | with_reducible refine AWP.label ?_
    | with_reducible refine AWP.goto ?_
    | ((with_reducible refine AWP.condT ?_ ?_); focus (simp only [ev, lk_cons, ↓reduceIte, Nat.reduceEqDiff]; done))
    | ((with_reducible refine AWP.condF ?_ ?_); focus (simp only [ev, lk_cons, ↓reduceIte, Nat.reduceEqDiff]; done))
    | with_reducible refine (hV _).use ?_
    | simp only [go_sem, ↓reduceIte, Nat.reduceEqDiff, reduceCtorEq, Nat.reduceAdd, Int.reduceEq, Int.reduceBNe, Int.reduceBEq, Int.reduceToNat, Int.reduceLT, Int.reduceLE, Int.reduceGT, Int.reduceGE, Nat.reduceSub, Nat.reduceBEq, Nat.reduceBNe, Int.reduceAdd, Int.reduceSub, Int.reduceMul, Int.reduceNeg, Nat.reduceMul, Nat.reduceLeDiff, Nat.reduceLT]
    | simp (disch := omega) only [wi64, wu8, wu16, wu32, wu64]
    | with_reducible_and_instances exact finR
    | ((with_reducible refine finR' ?_ ?_) <;> rfl)
    | ((with_reducible refine finD hsc (NRel.of_plain ?_)); exact rfl)
theorem askedB (i m : Nat) (seed old : List UInt8) (ch per most now cnt t : Int) (a : Ad) (h : a.ok = true) (H : AHeap) (hi : H[i]? = some (.cells (kC seed old ch per most now cnt m) ⟨67, 0, true, 0, none⟩)) (ht : t < now ∨ t > 1000000000) : ARet Tryd.prog 40 [.pointer (some ⟨i, 0, none⟩), .int .i64 t, a.v] H (.int .i64 7) H := by
  have hV := fun H => Valid a H
  rw [h] at hV
  have hT := fun X => tellB i m seed old ch per most now cnt t (H ++ X) (by rw [hgetl (lt_of_get hi)]; exact hi) ht
  obtain ⟨f, ip, p⟩ := a
  unfold Ad.v at hV ⊢
  refine AC.enter Tryd.func40 rfl (by kernel_rfl) 17 rfl [.tmp 6] rfl (by simp) fun hsc B => ?_
  repeat first
    | with_reducible refine AWP.seq ?_
    | ((with_reducible refine AWP.region ?_ ?_); exact rfl)
    | with_reducible refine AWP.block ?_
    | with_reducible refine AWP.skip ?_
    | with_reducible refine AWP.exit ?_
    | with_reducible refine AWP.ret ?_
    | with_reducible refine AWP.label ?_
    | with_reducible refine AWP.goto ?_
    | ((with_reducible refine AWP.condT ?_ ?_); focus (simp only [ev, lk_cons, ↓reduceIte, Nat.reduceEqDiff]; done))
    | ((with_reducible refine AWP.condF ?_ ?_); focus (simp only [ev, lk_cons, ↓reduceIte, Nat.reduceEqDiff]; done))
    | with_reducible refine (hV _).use ?_
    | with_reducible refine (hT _).use ?_
    | simp only [go_sem, ↓reduceIte, Nat.reduceEqDiff, reduceCtorEq, Nat.reduceAdd, Int.reduceEq, Int.reduceBNe, Int.reduceBEq, Int.reduceToNat, Int.reduceLT, Int.reduceLE, Int.reduceGT, Int.reduceGE, Nat.reduceSub, Nat.reduceBEq, Nat.reduceBNe, Int.reduceAdd, Int.reduceSub, Int.reduceMul, Int.reduceNeg, Nat.reduceMul, Nat.reduceLeDiff, Nat.reduceLT]
    | simp (disch := omega) only [wi64, wu8, wu16, wu32, wu64]
    | with_reducible_and_instances exact finR
    | ((with_reducible refine finR' ?_ ?_) <;> rfl)
    | ((with_reducible refine finD hsc (NRel.of_plain ?_)); exact rfl)
theorem askedC (i m : Nat) (seed old : List UInt8) (ch per most now t P : Int) (a : Ad) (h : a.ok = true) (H : AHeap) (hmL : m < H.length) (hi : H[i]? = some (.cells (kC seed old ch per most now P m) ⟨67, 0, true, 0, none⟩)) (hm : ¬ t < now) (h2 : ¬ t > 1000000000) (hp : 1000 ≤ per) (hq : t.tdiv per = P) (hP : 0 ≤ P ∧ P ≤ 1000000000) :
    ARet Tryd.prog 40 [.pointer (some ⟨i, 0, none⟩), .int .i64 t, a.v] H (.int .i64 0) (H.set i (.cells (kC seed old ch per most t P m) ⟨67, 0, true, 0, none⟩)) := by
  have hV := fun H => Valid a H
  rw [h] at hV
  have hil := lt_of_get hi
  have hT := fun (X : AHeap) => tellC i m seed old ch per most now t P (H ++ X) (by rw [hgetl hil]; exact hi) hm h2 hp hq hP
  simp only [List.set_append_left _ _ hil] at hT
  obtain ⟨f, ip, p⟩ := a
  unfold Ad.v at hV ⊢
  refine AC.enter Tryd.func40 rfl (by kernel_rfl) 17 rfl [.tmp 6] rfl (by simp) fun hsc B => ?_
  repeat first
    | with_reducible refine AWP.seq ?_
    | ((with_reducible refine AWP.region ?_ ?_); exact rfl)
    | with_reducible refine AWP.block ?_
    | with_reducible refine AWP.skip ?_
    | with_reducible refine AWP.exit ?_
    | with_reducible refine AWP.ret ?_
    | with_reducible refine AWP.label ?_
    | with_reducible refine AWP.goto ?_
    | ((with_reducible refine AWP.condT ?_ ?_); focus (simp only [ev, lk_cons, ↓reduceIte, Nat.reduceEqDiff]; done))
    | ((with_reducible refine AWP.condF ?_ ?_); focus (simp only [ev, lk_cons, ↓reduceIte, Nat.reduceEqDiff]; done))
    | with_reducible refine (hV _).use ?_
    | with_reducible refine (hT _).use ?_
    | simp only [go_sem, ↓reduceIte, Nat.reduceEqDiff, reduceCtorEq, Nat.reduceAdd, Int.reduceEq, Int.reduceBNe, Int.reduceBEq, Int.reduceToNat, Int.reduceLT, Int.reduceLE, Int.reduceGT, Int.reduceGE, Nat.reduceSub, Nat.reduceBEq, Nat.reduceBNe, Int.reduceAdd, Int.reduceSub, Int.reduceMul, Int.reduceNeg, Nat.reduceMul, Nat.reduceLeDiff, Nat.reduceLT]
    | simp (disch := omega) only [wi64, wu8, wu16, wu32, wu64]
    | with_reducible_and_instances exact finR
    | ((with_reducible refine finR' ?_ ?_) <;> rfl)
    | ((with_reducible refine finD hsc (NRel.of_plain ?_)); exact rfl)
  refine ⟨_, _, WeakV.drop (by simp) (hsc.set (.cells _ ?_)) (by simp [nr_int]), rfl, rfl⟩
  unfold kC
  simp [ nrs_cons, nrs_nil, nr_int, nr_string, nr_map, upto_lt hmL]
theorem askedD (i m : Nat) (seed old : List UInt8) (ch per most now cnt t P : Int) (a : Ad) (h : a.ok = true) (H : AHeap) (hi : H[i]? = some (.cells (kC seed old ch per most now cnt m) ⟨67, 0, true, 0, none⟩)) (hm : ¬ t < now) (h2 : ¬ t > 1000000000) (hp : 1000 ≤ per) (hq : t.tdiv per = P) (hP : 0 ≤ P ∧ P ≤ 1000000000) (hne : P ≠ cnt) :
    ARet Tryd.prog 40 [.pointer (some ⟨i, 0, none⟩), .int .i64 t, a.v] H (.int .i64 0) (H.set i (.cells (kC seed old ch per most t P (H.length + 1)) ⟨67, 0, true, 0, none⟩) ++ [.cells [.int .i64 a.fam, .string (bs a.ip), .int .i64 a.port] ⟨23, 0, true, 0, none⟩, .amap [] 0 true]) := by
  have hV := fun H => Valid a H
  rw [h] at hV
  have hil := lt_of_get hi
  have hT := fun (o : AObj) => tellD i m seed old ch per most now cnt t P (H ++ [o]) (by rw [hgetl hil]; exact hi) hm h2 hp hq hP hne
  simp only [List.set_append_left _ _ hil, List.length_append, List.length_singleton, List.append_assoc, List.cons_append, List.nil_append] at hT
  obtain ⟨f, ip, p⟩ := a
  unfold Ad.v at hV ⊢
  refine AC.enter Tryd.func40 rfl (by kernel_rfl) 17 rfl [.tmp 6] rfl (by simp) fun hsc B => ?_
  repeat first
    | with_reducible refine AWP.seq ?_
    | ((with_reducible refine AWP.region ?_ ?_); exact rfl)
    | with_reducible refine AWP.block ?_
    | with_reducible refine AWP.skip ?_
    | with_reducible refine AWP.exit ?_
    | with_reducible refine AWP.ret ?_
    | with_reducible refine AWP.label ?_
    | with_reducible refine AWP.goto ?_
    | ((with_reducible refine AWP.condT ?_ ?_); focus (simp only [ev, lk_cons, ↓reduceIte, Nat.reduceEqDiff]; done))
    | ((with_reducible refine AWP.condF ?_ ?_); focus (simp only [ev, lk_cons, ↓reduceIte, Nat.reduceEqDiff]; done))
    | with_reducible refine (hV _).use ?_
    | with_reducible refine (hT _).use ?_
    | simp only [go_sem, ↓reduceIte, Nat.reduceEqDiff, reduceCtorEq, Nat.reduceAdd, Int.reduceEq, Int.reduceBNe, Int.reduceBEq, Int.reduceToNat, Int.reduceLT, Int.reduceLE, Int.reduceGT, Int.reduceGE, Nat.reduceSub, Nat.reduceBEq, Nat.reduceBNe, Int.reduceAdd, Int.reduceSub, Int.reduceMul, Int.reduceNeg, Nat.reduceMul, Nat.reduceLeDiff, Nat.reduceLT]
    | simp (disch := omega) only [wi64, wu8, wu16, wu32, wu64]
    | with_reducible_and_instances exact finR
    | ((with_reducible refine finR' ?_ ?_) <;> rfl)
    | ((with_reducible refine finD hsc (NRel.of_plain ?_)); exact rfl)
end Go.Proofs.YtmpkgdilmkeacaaDoor
