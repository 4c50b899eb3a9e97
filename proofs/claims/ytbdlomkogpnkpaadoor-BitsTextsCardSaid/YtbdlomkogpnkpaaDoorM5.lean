/-
  The walk of fields of bits: empty fields, fields that are opened.
-/
import Derived.Test.YtbdlomkogpnkpaaDoorM3
set_option linter.unusedVariables false
set_option linter.unusedSimpArgs false
set_option maxRecDepth 20000
namespace Go.Proofs.YtbdlomkogpnkpaaDoor
open Go Go.Aw Go.Proofs
theorem emptyA (n : Int) (h : ¬ okN n) (H : AHeap) : APan Tryd.prog 56 [.int .i64 n] H (pf 7) H := by
  by_cases h1 : n < 0
  · skip
    refine AC.enter Tryd.func56 rfl (by kernel_rfl) 16 rfl [.cell 2 53] rfl (by simp) fun hsc B => ?_
    repeat first
      | with_reducible refine finPD hsc (NRel.of_plain rfl)
      | with_reducible refine AWP.seq ?_
      | ((with_reducible refine AWP.region ?_ ?_); exact rfl)
      | with_reducible refine AWP.block ?_
      | with_reducible refine AWP.skip ?_
      | with_reducible refine AWP.exit ?_
      | with_reducible refine AWP.ret ?_
      | with_reducible refine AWP.label ?_
      | with_reducible refine AWP.goto ?_
      | ((with_reducible refine AWP.condT ?_ ?_); focus (simp only [ev, lk_cons, ↓reduceIte, Nat.reduceEqDiff]; done))
      | ((with_reducible refine AWP.condF ?_ ?_); focus (simp only [ev, lk_cons, ↓reduceIte, Nat.reduceEqDiff]; done))
      | with_reducible refine (failT _ _).use ?_
      | simp only [go_sem, ↓reduceIte, Nat.reduceEqDiff, reduceCtorEq, Nat.reduceAdd, Int.reduceEq, Int.reduceBNe, Int.reduceBEq, Int.reduceToNat, Int.reduceLT, Int.reduceLE, Int.reduceGT, Int.reduceGE, Nat.reduceSub, Nat.reduceBEq, Nat.reduceBNe, Int.reduceAdd, Int.reduceSub, Int.reduceMul, Int.reduceNeg, Nat.reduceMul, Nat.reduceLeDiff, Nat.reduceLT, h1]
      | simp (disch := omega) only [wi64, wu8, wu16, wu32, wu64]
      | with_reducible_and_instances exact finR
      | ((with_reducible refine finR' ?_ ?_) <;> rfl)
      | ((with_reducible refine finD hsc (NRel.of_plain ?_)); exact rfl)
  · have h2 : n > 4096 := by have := (okN_iff n).2 h; omega
    refine AC.enter Tryd.func56 rfl (by kernel_rfl) 16 rfl [.cell 2 53] rfl (by simp) fun hsc B => ?_
    repeat first
      | with_reducible refine finPD hsc (NRel.of_plain rfl)
      | with_reducible refine AWP.seq ?_
      | ((with_reducible refine AWP.region ?_ ?_); exact rfl)
      | with_reducible refine AWP.block ?_
      | with_reducible refine AWP.skip ?_
      | with_reducible refine AWP.exit ?_
      | with_reducible refine AWP.ret ?_
      | with_reducible refine AWP.label ?_
      | with_reducible refine AWP.goto ?_
      | ((with_reducible refine AWP.condT ?_ ?_); focus (simp only [ev, lk_cons, ↓reduceIte, Nat.reduceEqDiff]; done))
      | ((with_reducible refine AWP.condF ?_ ?_); focus (simp only [ev, lk_cons, ↓reduceIte, Nat.reduceEqDiff]; done))
      | with_reducible refine (failT _ _).use ?_
      | simp only [go_sem, ↓reduceIte, Nat.reduceEqDiff, reduceCtorEq, Nat.reduceAdd, Int.reduceEq, Int.reduceBNe, Int.reduceBEq, Int.reduceToNat, Int.reduceLT, Int.reduceLE, Int.reduceGT, Int.reduceGE, Nat.reduceSub, Nat.reduceBEq, Nat.reduceBNe, Int.reduceAdd, Int.reduceSub, Int.reduceMul, Int.reduceNeg, Nat.reduceMul, Nat.reduceLeDiff, Nat.reduceLT, h1, h2]
      | simp (disch := omega) only [wi64, wu8, wu16, wu32, wu64]
      | with_reducible_and_instances exact finR
      | ((with_reducible refine finR' ?_ ?_) <;> rfl)
      | ((with_reducible refine finD hsc (NRel.of_plain ?_)); exact rfl)
theorem empty (n : Nat) (h : n ≤ 4096) (H : AHeap) : ARet Tryd.prog 56 [.int .i64 (n : Nat)] H (.agg ⟨[.int .i64 (n : Nat), .slice (some ⟨H.length, 0, none⟩) (lon n) (lon n)]⟩) (H ++ [.cells (bytesC (zerosB n)) ⟨5, 0, true, 0, none⟩]) := by
  have h1 : ¬ (n : Int) < 0 := by omega
  have h2 : ¬ (n : Int) > 4096 := by omega
  have hl := lon_le n
  have hz : List.replicate (lon n) (0 : UInt8) = zerosB n := rfl
  refine AC.enter Tryd.func56 rfl (by kernel_rfl) 16 rfl [.cell 2 53] rfl (by simp) fun hsc B => ?_
  repeat first
    | with_reducible refine AWP.seq ?_
    | ((with_reducible refine AWP.region ?_ ?_); exact rfl)
    | with_reducible refine AWP.block ?_
    | with_reducible refine AWP.skip ?_
    | with_reducible refine AWP.exit ?_
    | with_reducible refine AWP.ret ?_
    | with_reducible refine AWP.label ?_
    | with_reducible refine AWP.goto ?_
    | ((with_reducible refine AWP.condT ?_ ?_); focus (simp only [ev, lk_cons, ↓reduceIte, Nat.reduceEqDiff]; done))
    | ((with_reducible refine AWP.condF ?_ ?_); focus (simp only [ev, lk_cons, ↓reduceIte, Nat.reduceEqDiff]; done))
    | with_reducible refine (failF _ _).use ?_
    | simp only [go_sem, ↓reduceIte, Nat.reduceEqDiff, reduceCtorEq, Nat.reduceAdd, Int.reduceEq, Int.reduceBNe, Int.reduceBEq, Int.reduceToNat, Int.reduceLT, Int.reduceLE, Int.reduceGT, Int.reduceGE, Nat.reduceSub, Nat.reduceBEq, Nat.reduceBNe, Int.reduceAdd, Int.reduceSub, Int.reduceMul, Int.reduceNeg, Nat.reduceMul, Nat.reduceLeDiff, Nat.reduceLT, h1, h2, tdiv8i, makeSliceW, repZ_one, bytesC_zeros, hz]
    | simp (disch := omega) only [wi64, wu8, wu16, wu32, wu64]
    | with_reducible_and_instances exact finR
    | ((with_reducible refine finR' ?_ ?_) <;> rfl)
    | ((with_reducible refine finD hsc (NRel.of_plain ?_)); exact rfl)
  refine ⟨by omega, by omega, by omega, ?_⟩
  repeat first
    | with_reducible refine AWP.seq ?_
    | ((with_reducible refine AWP.region ?_ ?_); exact rfl)
    | with_reducible refine AWP.block ?_
    | with_reducible refine AWP.skip ?_
    | with_reducible refine AWP.exit ?_
    | with_reducible refine AWP.ret ?_
    | with_reducible refine AWP.label ?_
    | with_reducible refine AWP.goto ?_
    | ((with_reducible refine AWP.condT ?_ ?_); focus (simp only [ev, lk_cons, ↓reduceIte, Nat.reduceEqDiff]; done))
    | ((with_reducible refine AWP.condF ?_ ?_); focus (simp only [ev, lk_cons, ↓reduceIte, Nat.reduceEqDiff]; done))
    | simp only [go_sem, ↓reduceIte, Nat.reduceEqDiff, reduceCtorEq, Nat.reduceAdd, Int.reduceEq, Int.reduceBNe, Int.reduceBEq, Int.reduceToNat, Int.reduceLT, Int.reduceLE, Int.reduceGT, Int.reduceGE, Nat.reduceSub, Nat.reduceBEq, Nat.reduceBNe, Int.reduceAdd, Int.reduceSub, Int.reduceMul, Int.reduceNeg, Nat.reduceMul, Nat.reduceLeDiff, Nat.reduceLT]
    | simp (disch := omega) only [wi64, wu8, wu16, wu32, wu64]
    | with_reducible_and_instances exact finR
    | ((with_reducible refine finR' ?_ ?_) <;> rfl)
    | ((with_reducible refine finD hsc (NRel.of_plain ?_)); exact rfl)
  exact finK [1] hsc (by simp) (by simp [selW_cons, selW_nil, wth_some, onm_cells, onm_dead, nrs_cons, nrs_nil, nr_int, nr_bool, nr_string, nr_slice, nr_nilSlice, nr_ptr, nr_nilPtr, nr_agg, nr_tuple, nr_iface, nr_nilIface, nr_func, nr_gs, nr_g, selN_0, selN_k, selN_lt, nrs_refl (bytesC_scalar _)])
theorem openA (n : Int) (h : ¬ okN n) (v : Value) (H : AHeap) : APan Tryd.prog 59 [.int .i64 n, v] H (pf 7) H := by
  by_cases h1 : n < 0
  · skip
    refine AC.enter Tryd.func59 rfl (by kernel_rfl) 41 rfl [.tmp 4] rfl (by simp) fun hsc B => ?_
    repeat first
      | with_reducible refine finP
      | with_reducible refine AWP.seq ?_
      | ((with_reducible refine AWP.region ?_ ?_); exact rfl)
      | with_reducible refine AWP.block ?_
      | with_reducible refine AWP.skip ?_
      | with_reducible refine AWP.exit ?_
      | with_reducible refine AWP.ret ?_
      | with_reducible refine AWP.label ?_
      | with_reducible refine AWP.goto ?_
      | ((with_reducible refine AWP.condT ?_ ?_); focus (simp only [ev, lk_cons, ↓reduceIte, Nat.reduceEqDiff]; done))
      | ((with_reducible refine AWP.condF ?_ ?_); focus (simp only [ev, lk_cons, ↓reduceIte, Nat.reduceEqDiff]; done))
      | with_reducible refine (failT _ _).use ?_
      | simp only [go_sem, ↓reduceIte, Nat.reduceEqDiff, reduceCtorEq, Nat.reduceAdd, Int.reduceEq, Int.reduceBNe, Int.reduceBEq, Int.reduceToNat, Int.reduceLT, Int.reduceLE, Int.reduceGT, Int.reduceGE, Nat.reduceSub, Nat.reduceBEq, Nat.reduceBNe, Int.reduceAdd, Int.reduceSub, Int.reduceMul, Int.reduceNeg, Nat.reduceMul, Nat.reduceLeDiff, Nat.reduceLT, h1]
      | simp (disch := omega) only [wi64, wu8, wu16, wu32, wu64]
      | with_reducible_and_instances exact finR
      | ((with_reducible refine finR' ?_ ?_) <;> rfl)
      | ((with_reducible refine finD hsc (NRel.of_plain ?_)); exact rfl)
  · have h2 : n > 4096 := by have := (okN_iff n).2 h; omega
    refine AC.enter Tryd.func59 rfl (by kernel_rfl) 41 rfl [.tmp 4] rfl (by simp) fun hsc B => ?_
    repeat first
      | with_reducible refine finP
      | with_reducible refine AWP.seq ?_
      | ((with_reducible refine AWP.region ?_ ?_); exact rfl)
      | with_reducible refine AWP.block ?_
      | with_reducible refine AWP.skip ?_
      | with_reducible refine AWP.exit ?_
      | with_reducible refine AWP.ret ?_
      | with_reducible refine AWP.label ?_
      | with_reducible refine AWP.goto ?_
      | ((with_reducible refine AWP.condT ?_ ?_); focus (simp only [ev, lk_cons, ↓reduceIte, Nat.reduceEqDiff]; done))
      | ((with_reducible refine AWP.condF ?_ ?_); focus (simp only [ev, lk_cons, ↓reduceIte, Nat.reduceEqDiff]; done))
      | with_reducible refine (failT _ _).use ?_
      | simp only [go_sem, ↓reduceIte, Nat.reduceEqDiff, reduceCtorEq, Nat.reduceAdd, Int.reduceEq, Int.reduceBNe, Int.reduceBEq, Int.reduceToNat, Int.reduceLT, Int.reduceLE, Int.reduceGT, Int.reduceGE, Nat.reduceSub, Nat.reduceBEq, Nat.reduceBNe, Int.reduceAdd, Int.reduceSub, Int.reduceMul, Int.reduceNeg, Nat.reduceMul, Nat.reduceLeDiff, Nat.reduceLT, h1, h2]
      | simp (disch := omega) only [wi64, wu8, wu16, wu32, wu64]
      | with_reducible_and_instances exact finR
      | ((with_reducible refine finR' ?_ ?_) <;> rfl)
      | ((with_reducible refine finD hsc (NRel.of_plain ?_)); exact rfl)
theorem openB (n : Nat) (h : n ≤ 4096) (s : List UInt8) (hs : s.length < 140737488355328) (hv : ¬ validB n s) (i cap : Nat) (k : CK) (r : List Value) (m : Nat) (hm : 0 < m) (H : AHeap) (hi : H[i]? = some (.cells (.string (bs s) :: r) k)) : APan Tryd.prog 59 [.int .i64 (n : Nat), .slice (some ⟨i, 0, none⟩) m cap] H (pf 1) H := by
  have h1 : ¬ (n : Int) < 0 := by omega
  have h2 : ¬ (n : Int) > 4096 := by omega
  have hW := fun H => Wrong (n : Nat) s hs H
  have hne : ((wrongR n s).2 != 0) = true := by simp; exact fun e => hv ((wrongR_ok n s h).1 e)
  have hm' : (0 : Int) < (m : Int) := by omega
  refine AC.enter Tryd.func59 rfl (by kernel_rfl) 41 rfl [.tmp 4] rfl (by simp) fun hsc B => ?_
  repeat first
    | with_reducible refine AWP.seq ?_
    | ((with_reducible refine AWP.region ?_ ?_); exact rfl)
    | with_reducible refine AWP.block ?_
    | with_reducible refine AWP.skip ?_
    | with_reducible refine AWP.exit ?_
    | with_reducible refine AWP.ret ?_
    | with_reducible refine AWP.label ?_
    | with_reducible refine AWP.goto ?_
    | ((with_reducible refine AWP.condT ?_ ?_); focus (simp only [ev, lk_cons, ↓reduceIte, Nat.reduceEqDiff]; done))
    | ((with_reducible refine AWP.condF ?_ ?_); focus (simp only [ev, lk_cons, ↓reduceIte, Nat.reduceEqDiff]; done))
    | with_reducible refine (failF _ _).use ?_
    | simp only [go_sem, ↓reduceIte, Nat.reduceEqDiff, reduceCtorEq, Nat.reduceAdd, Int.reduceEq, Int.reduceBNe, Int.reduceBEq, Int.reduceToNat, Int.reduceLT, Int.reduceLE, Int.reduceGT, Int.reduceGE, Nat.reduceSub, Nat.reduceBEq, Nat.reduceBNe, Int.reduceAdd, Int.reduceSub, Int.reduceMul, Int.reduceNeg, Nat.reduceMul, Nat.reduceLeDiff, Nat.reduceLT, h1, h2]
    | simp (disch := omega) only [wi64, wu8, wu16, wu32, wu64]
    | with_reducible_and_instances exact finR
    | ((with_reducible refine finR' ?_ ?_) <;> rfl)
    | ((with_reducible refine finD hsc (NRel.of_plain ?_)); exact rfl)
  refine AWP.loopN 1 ?_
  repeat first
    | with_reducible refine finP
    | with_reducible refine AWP.seq ?_
    | ((with_reducible refine AWP.region ?_ ?_); exact rfl)
    | with_reducible refine AWP.block ?_
    | with_reducible refine AWP.skip ?_
    | with_reducible refine AWP.exit ?_
    | with_reducible refine AWP.ret ?_
    | with_reducible refine AWP.label ?_
    | with_reducible refine AWP.goto ?_
    | ((with_reducible refine AWP.condT ?_ ?_); focus (simp only [ev, lk_cons, ↓reduceIte, Nat.reduceEqDiff]; done))
    | ((with_reducible refine AWP.condF ?_ ?_); focus (simp only [ev, lk_cons, ↓reduceIte, Nat.reduceEqDiff]; done))
    | with_reducible refine (failT _ _).use ?_
    | with_reducible refine (hW _).use ?_
    | simp only [go_sem, ↓reduceIte, Nat.reduceEqDiff, reduceCtorEq, Nat.reduceAdd, Int.reduceEq, Int.reduceBNe, Int.reduceBEq, Int.reduceToNat, Int.reduceLT, Int.reduceLE, Int.reduceGT, Int.reduceGE, Nat.reduceSub, Nat.reduceBEq, Nat.reduceBNe, Int.reduceAdd, Int.reduceSub, Int.reduceMul, Int.reduceNeg, Nat.reduceMul, Nat.reduceLeDiff, Nat.reduceLT, roundsW_s, hi, hne, hm']
    | simp (disch := omega) only [wi64, wu8, wu16, wu32, wu64]
    | with_reducible_and_instances exact finR
    | ((with_reducible refine finR' ?_ ?_) <;> rfl)
    | ((with_reducible refine finD hsc (NRel.of_plain ?_)); exact rfl)
theorem openC (n : Nat) (h : n ≤ 4096) (s : List UInt8) (hv : validB n s) (i cap : Nat) (k : CK) (H : AHeap) (hi : H[i]? = some (.cells [.string (bs s)] k)) : ARet Tryd.prog 59 [.int .i64 (n : Nat), .slice (some ⟨i, 0, none⟩) 1 cap] H
    (.slice (some ⟨H.length + 1, 0, none⟩) 1 1) (H ++ [.cells (bytesC s) ⟨5, 1, true, 0, none⟩, .cells [.int .i64 (n : Nat), .slice (some ⟨H.length, 0, none⟩) s.length s.length] ⟨53, 2, true, 0, none⟩]) := by
  have h1 : ¬ (n : Int) < 0 := by omega
  have h2 : ¬ (n : Int) > 4096 := by omega
  have hl := lon_le n
  have hW := fun H => Wrong (n : Nat) s (by rw [hv.1]; omega) H
  simp only [wrongR_valid h hv] at hW
  have hil := lt_of_get hi
  refine AC.enter Tryd.func59 rfl (by kernel_rfl) 41 rfl [.tmp 4] rfl (by simp) fun hsc B => ?_
  repeat first
    | with_reducible refine AWP.seq ?_
    | ((with_reducible refine AWP.region ?_ ?_); exact rfl)
    | with_reducible refine AWP.block ?_
    | with_reducible refine AWP.skip ?_
    | with_reducible refine AWP.exit ?_
    | with_reducible refine AWP.ret ?_
    | with_reducible refine AWP.label ?_
    | with_reducible refine AWP.goto ?_
    | ((with_reducible refine AWP.condT ?_ ?_); focus (simp only [ev, lk_cons, ↓reduceIte, Nat.reduceEqDiff]; done))
    | ((with_reducible refine AWP.condF ?_ ?_); focus (simp only [ev, lk_cons, ↓reduceIte, Nat.reduceEqDiff]; done))
    | with_reducible refine (failF _ _).use ?_
    | simp only [go_sem, ↓reduceIte, Nat.reduceEqDiff, reduceCtorEq, Nat.reduceAdd, Int.reduceEq, Int.reduceBNe, Int.reduceBEq, Int.reduceToNat, Int.reduceLT, Int.reduceLE, Int.reduceGT, Int.reduceGE, Nat.reduceSub, Nat.reduceBEq, Nat.reduceBNe, Int.reduceAdd, Int.reduceSub, Int.reduceMul, Int.reduceNeg, Nat.reduceMul, Nat.reduceLeDiff, Nat.reduceLT, h1, h2]
    | simp (disch := omega) only [wi64, wu8, wu16, wu32, wu64]
    | with_reducible_and_instances exact finR
    | ((with_reducible refine finR' ?_ ?_) <;> rfl)
    | ((with_reducible refine finD hsc (NRel.of_plain ?_)); exact rfl)
  refine AWP.loopN 2 ?_
  repeat first
    | with_reducible refine AWP.seq ?_
    | ((with_reducible refine AWP.region ?_ ?_); exact rfl)
    | with_reducible refine AWP.block ?_
    | with_reducible refine AWP.skip ?_
    | with_reducible refine AWP.exit ?_
    | with_reducible refine AWP.ret ?_
    | with_reducible refine AWP.label ?_
    | with_reducible refine AWP.goto ?_
    | ((with_reducible refine AWP.condT ?_ ?_); focus (simp only [ev, lk_cons, ↓reduceIte, Nat.reduceEqDiff]; done))
    | ((with_reducible refine AWP.condF ?_ ?_); focus (simp only [ev, lk_cons, ↓reduceIte, Nat.reduceEqDiff]; done))
    | with_reducible refine (failF _ _).use ?_
    | with_reducible refine (hW _).use ?_
    | simp only [go_sem, ↓reduceIte, Nat.reduceEqDiff, reduceCtorEq, Nat.reduceAdd, Int.reduceEq, Int.reduceBNe, Int.reduceBEq, Int.reduceToNat, Int.reduceLT, Int.reduceLE, Int.reduceGT, Int.reduceGE, Nat.reduceSub, Nat.reduceBEq, Nat.reduceBNe, Int.reduceAdd, Int.reduceSub, Int.reduceMul, Int.reduceNeg, Nat.reduceMul, Nat.reduceLeDiff, Nat.reduceLT, roundsW_s, hi]
    | simp (disch := omega) only [wi64, wu8, wu16, wu32, wu64]
    | with_reducible_and_instances exact finR
    | ((with_reducible refine finR' ?_ ?_) <;> rfl)
    | ((with_reducible refine finD hsc (NRel.of_plain ?_)); exact rfl)
  refine appendTo_nil (by decide) (by decide) (by decide) ?_
  repeat first
    | with_reducible refine AWP.seq ?_
    | ((with_reducible refine AWP.region ?_ ?_); exact rfl)
    | with_reducible refine AWP.block ?_
    | with_reducible refine AWP.skip ?_
    | with_reducible refine AWP.exit ?_
    | with_reducible refine AWP.ret ?_
    | with_reducible refine AWP.label ?_
    | with_reducible refine AWP.goto ?_
    | ((with_reducible refine AWP.condT ?_ ?_); focus (simp only [ev, lk_cons, ↓reduceIte, Nat.reduceEqDiff]; done))
    | ((with_reducible refine AWP.condF ?_ ?_); focus (simp only [ev, lk_cons, ↓reduceIte, Nat.reduceEqDiff]; done))
    | simp only [go_sem, ↓reduceIte, Nat.reduceEqDiff, reduceCtorEq, Nat.reduceAdd, Int.reduceEq, Int.reduceBNe, Int.reduceBEq, Int.reduceToNat, Int.reduceLT, Int.reduceLE, Int.reduceGT, Int.reduceGE, Nat.reduceSub, Nat.reduceBEq, Nat.reduceBNe, Int.reduceAdd, Int.reduceSub, Int.reduceMul, Int.reduceNeg, Nat.reduceMul, Nat.reduceLeDiff, Nat.reduceLT, roundsW_s, hi]
    | simp (disch := omega) only [wi64, wu8, wu16, wu32, wu64]
    | with_reducible_and_instances exact finR
    | ((with_reducible refine finR' ?_ ?_) <;> rfl)
    | ((with_reducible refine finD hsc (NRel.of_plain ?_)); exact rfl)
  exact finK [0, 2] hsc (by simp) (by simp [selW_cons, selW_nil, wth_some, onm_cells, onm_dead, nrs_cons, nrs_nil, nr_int, nr_bool, nr_string, nr_slice, nr_nilSlice, nr_ptr, nr_nilPtr, nr_agg, nr_tuple, nr_iface, nr_nilIface, nr_func, nr_gs, nr_g, selN_0, selN_k, selN_lt, nrs_refl (bytesC_scalar _)])
end Go.Proofs.YtbdlomkogpnkpaaDoor
