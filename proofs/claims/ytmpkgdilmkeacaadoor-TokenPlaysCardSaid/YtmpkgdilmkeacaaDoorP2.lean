/-
  The walk of the program's digest: eight, take, each, ended, New, Add, Sum.
-/
import Derived.Test.YtmpkgdilmkeacaaDoorP1
set_option linter.unusedVariables false
set_option linter.unusedSimpArgs false
set_option maxRecDepth 20000
namespace Go.Proofs.YtmpkgdilmkeacaaDoor
open Go Go.Aw Go.Proofs
theorem bytesC_snoc (l : List UInt8) (b : UInt8) : bytesC l ++ [.int .u8 (b.toNat : Int)] = bytesC (l ++ [b]) := by simp [bytesC]
theorem bytesC_ne {l : List UInt8} (h : 0 < l.length) : bytesC l ≠ [] := List.ne_nil_of_length_pos (by rw [bytesC_length]; exact h)
theorem eight (h : UInt64) (H : AHeap) : ARet Tryd.prog 113 [.int .u64 (h.toNat : Int)] H (.slice (some ⟨H.length, 0, none⟩) 8 8) (H ++ [.cells (bytesC (be8 h)) ⟨5, 1, true, 0, none⟩]) := by
  refine AC.enter Tryd.func113 rfl (by kernel_rfl) 17 rfl [.tmp 2] rfl (by simp) fun hsc B => ?_
  repeat first
    | with_reducible refine AWP.seq ?_
    | ((with_reducible refine AWP.region ?_ ?_); exact rfl)
    | with_reducible refine AWP.block ?_
    | with_reducible refine AWP.skip ?_
    | with_reducible refine AWP.exit ?_
    | with_reducible refine AWP.ret ?_
    | with_reducible refine AWP.label ?_
    | with_reducible refine AWP.goto ?_
    | ((with_reducible refine AWP.condT ?_ ?_); focus (simp only [ev, lk_cons, ↓reduceIte, Nat.reduceEqDiff]; done))
    | ((with_reducible refine AWP.condF ?_ ?_); focus (simp only [ev, lk_cons, ↓reduceIte, Nat.reduceEqDiff]; done))
    | simp only [go_sem, ↓reduceIte, Nat.reduceEqDiff, reduceCtorEq, Nat.reduceAdd, Int.reduceEq, Int.reduceBNe, Int.reduceBEq, Int.reduceToNat, Int.reduceLT, Int.reduceLE, Int.reduceGT, Int.reduceGE, Nat.reduceSub, Nat.reduceBEq, Nat.reduceBNe, Int.reduceAdd, Int.reduceSub, Int.reduceMul, Int.reduceNeg, Nat.reduceMul, Nat.reduceLeDiff, Nat.reduceLT]
    | simp (disch := omega) only [wi64, wu8, wu16, wu32, wu64]
    | with_reducible_and_instances exact finR
    | ((with_reducible refine finR' ?_ ?_) <;> rfl)
    | ((with_reducible refine finD hsc (NRel.of_plain ?_)); exact rfl)
  refine AWP.loopP (fun n : Nat => ⟨[(0, .int .u64 (h.toNat : Int)), (3, gS H.length n), (4, .int .i64 (56 - 8 * (n : Int)))], [], H ++ [gO (bytesC ((be8 h).take n)) ⟨5, 1, true, 0, none⟩]⟩)
    (fun n => n ≤ 8) (fun n => 8 - n) 0 ?_ (by simp) ?_
  · exact Weak.pad1 (by simp [envIn, lk_cons, wth_some, gS_zero])
  intro n hn
  have hbl := be8_len h
  by_cases hc : n < 8
  · have hc' : 56 - 8 * (n : Int) ≥ 0 := by omega
    have h0 : (0 : Int) ≤ 56 - 8 * (n : Int) := by omega
    have hsh : shrI .u64 (h.toNat : Int) (56 - 8 * (n : Int)) = ((h >>> UInt64.ofNat (56 - 8 * n)).toNat : Int) := by
      rw [← w64_shr _ _ (by omega)]; congr 1; omega
    have hln : (bytesC ((be8 h).take n)).length = n := by rw [bytesC_length, List.length_take]; omega
    repeat first
      | with_reducible refine AWP.seq ?_
      | ((with_reducible refine AWP.region ?_ ?_); exact rfl)
      | with_reducible refine AWP.block ?_
      | with_reducible refine AWP.skip ?_
      | with_reducible refine AWP.exit ?_
      | with_reducible refine AWP.ret ?_
      | with_reducible refine AWP.label ?_
      | with_reducible refine AWP.goto ?_
      | ((with_reducible refine AWP.condT ?_ ?_); focus (simp only [ev, lk_cons, ↓reduceIte, Nat.reduceEqDiff]; done))
      | ((with_reducible refine AWP.condF ?_ ?_); focus (simp only [ev, lk_cons, ↓reduceIte, Nat.reduceEqDiff]; done))
      | simp only [go_sem, ↓reduceIte, Nat.reduceEqDiff, reduceCtorEq, Nat.reduceAdd, Int.reduceEq, Int.reduceBNe, Int.reduceBEq, Int.reduceToNat, Int.reduceLT, Int.reduceLE, Int.reduceGT, Int.reduceGE, Nat.reduceSub, Nat.reduceBEq, Nat.reduceBNe, Int.reduceAdd, Int.reduceSub, Int.reduceMul, Int.reduceNeg, Nat.reduceMul, Nat.reduceLeDiff, Nat.reduceLT, hc', h0, hsh, w64_u8]
      | simp (disch := omega) only [wi64, wu8, wu16, wu32, wu64]
      | with_reducible_and_instances exact finR
      | ((with_reducible refine finR' ?_ ?_) <;> rfl)
      | ((with_reducible refine finD hsc (NRel.of_plain ?_)); exact rfl)
    refine appendTo_gn (by simp only [go_sem, ↓reduceIte, Nat.reduceEqDiff, reduceCtorEq, Nat.reduceAdd, Int.reduceEq, Int.reduceBNe, Int.reduceBEq, Int.reduceToNat, Int.reduceLT, Int.reduceLE, Int.reduceGT, Int.reduceGE, Nat.reduceSub, Nat.reduceBEq, Nat.reduceBNe, Int.reduceAdd, Int.reduceSub, Int.reduceMul, Int.reduceNeg, Nat.reduceMul, Nat.reduceLeDiff, Nat.reduceLT]) hln (by omega) (by omega) ?_
    have hb := be8_at h n hc
    have hst : bytesC ((be8 h).take n) ++ [.int .u8 ((h >>> UInt64.ofNat (56 - 8 * n)).toUInt8.toNat : Int)] = bytesC ((be8 h).take (n + 1)) := by
      rw [bytesC_snoc, List.take_add_one, hb]; rfl
    repeat first
      | with_reducible refine AWP.seq ?_
      | ((with_reducible refine AWP.region ?_ ?_); exact rfl)
      | with_reducible refine AWP.block ?_
      | with_reducible refine AWP.skip ?_
      | with_reducible refine AWP.exit ?_
      | with_reducible refine AWP.ret ?_
      | with_reducible refine AWP.label ?_
      | with_reducible refine AWP.goto ?_
      | ((with_reducible refine AWP.condT ?_ ?_); focus (simp only [ev, lk_cons, ↓reduceIte, Nat.reduceEqDiff]; done))
      | ((with_reducible refine AWP.condF ?_ ?_); focus (simp only [ev, lk_cons, ↓reduceIte, Nat.reduceEqDiff]; done))
      | simp only [go_sem, ↓reduceIte, Nat.reduceEqDiff, reduceCtorEq, Nat.reduceAdd, Int.reduceEq, Int.reduceBNe, Int.reduceBEq, Int.reduceToNat, Int.reduceLT, Int.reduceLE, Int.reduceGT, Int.reduceGE, Nat.reduceSub, Nat.reduceBEq, Nat.reduceBNe, Int.reduceAdd, Int.reduceSub, Int.reduceMul, Int.reduceNeg, Nat.reduceMul, Nat.reduceLeDiff, Nat.reduceLT, hst]
      | simp (disch := omega) only [wi64, wu8, wu16, wu32, wu64]
      | with_reducible_and_instances exact finR
      | ((with_reducible refine finR' ?_ ?_) <;> rfl)
      | ((with_reducible refine finD hsc (NRel.of_plain ?_)); exact rfl)
    refine ⟨n + 1, ?_, by omega, by omega⟩
    refine Weak.pick [2] rfl hsc (by simp) ⟨?_, ?_⟩
    · rw [gO_ne (bytesC_ne (by rw [List.length_take]; omega))]
      simp [selW_cons, selW_nil, wth_some, onm_cells, nrs_refl (bytesC_scalar _)]
    · simp only [Int.natCast_add, Int.natCast_zero, Int.natCast_one, Int.cast_ofNat_Int, envIn_nil, envIn_cons, lk_co, wth_so, nr_bool, nr_int, nr_string, nr_slice, nr_nilSlice, nr_ptr, nr_nilPtr, nr_map, nr_nilMap, nr_nilFunc, nr_nilIface, nr_iface, nr_agg, nr_tuple, nr_func, nr_yield, nrs_nil, nrs_cons, selN_0, selN_k, selN_lt, upto_lt, List.getElem?_cons_zero, List.getElem?_cons_succ, Option.map_some, Nat.add_zero, and_self, ↓reduceIte, Nat.reduceEqDiff, true_and, and_true, nr_gs]
      omega
  · have : n = 8 := by omega
    subst this
    rw [gS_pos (n := 8) (by omega), List.take_of_length_le (by omega), gO_ne (bytesC_ne (by omega))]
    repeat first
      | with_reducible refine AWP.seq ?_
      | ((with_reducible refine AWP.region ?_ ?_); exact rfl)
      | with_reducible refine AWP.block ?_
      | with_reducible refine AWP.skip ?_
      | with_reducible refine AWP.exit ?_
      | with_reducible refine AWP.ret ?_
      | with_reducible refine AWP.label ?_
      | with_reducible refine AWP.goto ?_
      | ((with_reducible refine AWP.condT ?_ ?_); focus (simp only [ev, lk_cons, ↓reduceIte, Nat.reduceEqDiff]; done))
      | ((with_reducible refine AWP.condF ?_ ?_); focus (simp only [ev, lk_cons, ↓reduceIte, Nat.reduceEqDiff]; done))
      | simp only [go_sem, ↓reduceIte, Nat.reduceEqDiff, reduceCtorEq, Nat.reduceAdd, Int.reduceEq, Int.reduceBNe, Int.reduceBEq, Int.reduceToNat, Int.reduceLT, Int.reduceLE, Int.reduceGT, Int.reduceGE, Nat.reduceSub, Nat.reduceBEq, Nat.reduceBNe, Int.reduceAdd, Int.reduceSub, Int.reduceMul, Int.reduceNeg, Nat.reduceMul, Nat.reduceLeDiff, Nat.reduceLT]
      | simp (disch := omega) only [wi64, wu8, wu16, wu32, wu64]
      | with_reducible_and_instances exact finR
      | ((with_reducible refine finR' ?_ ?_) <;> rfl)
      | ((with_reducible refine finD hsc (NRel.of_plain ?_)); exact rfl)
def hObj (l : List UInt64) (r : List Value) : AObj := .cells (u64C l ++ r) ⟨141, 0, true, 0, none⟩
theorem u64C_take (l : List UInt64) (r : List Value) (n : Nat) (h : l.length = n) : List.take n (u64C l ++ r) = u64C l := by
  rw [List.take_left' (by rw [u64C_length, h])]
theorem u64C_setr (l : List UInt64) (r : List Value) (n : Nat) (x : UInt64) (h : n < l.length) : (u64C l ++ r).set n (.int .u64 (x.toNat : Int)) = u64C (l.set n x) ++ r := by
  rw [List.set_append_left _ _ (by rw [u64C_length]; exact h), u64C_set]
theorem take_ (i : Nat) (l : List UInt64) (hl : l.length = 4) (r : List Value) (b : UInt8) (H : AHeap) (hi : H[i]? = some (hObj l r)) : ARet Tryd.prog 107 [.pointer (some ⟨i, 0, none⟩), .int .u8 (b.toNat : Int)] H noVal (H.set i (hObj (takeL l b) r)) := by
  unfold hObj at hi
  have hil := lt_of_get hi
  have ht := u64C_take l r 4 hl
  refine AC.enter Tryd.func107 rfl (by kernel_rfl) 29 rfl [] rfl (by simp) fun hsc B => ?_
  repeat first
    | with_reducible refine AWP.seq ?_
    | ((with_reducible refine AWP.region ?_ ?_); exact rfl)
    | with_reducible refine AWP.block ?_
    | with_reducible refine AWP.skip ?_
    | with_reducible refine AWP.exit ?_
    | with_reducible refine AWP.ret ?_
    | with_reducible refine AWP.label ?_
    | with_reducible refine AWP.goto ?_
    | ((with_reducible refine AWP.condT ?_ ?_); focus (simp only [ev, lk_cons, ↓reduceIte, Nat.reduceEqDiff]; done))
    | ((with_reducible refine AWP.condF ?_ ?_); focus (simp only [ev, lk_cons, ↓reduceIte, Nat.reduceEqDiff]; done))
    | simp only [go_sem, ↓reduceIte, Nat.reduceEqDiff, reduceCtorEq, Nat.reduceAdd, Int.reduceEq, Int.reduceBNe, Int.reduceBEq, Int.reduceToNat, Int.reduceLT, Int.reduceLE, Int.reduceGT, Int.reduceGE, Nat.reduceSub, Nat.reduceBEq, Nat.reduceBNe, Int.reduceAdd, Int.reduceSub, Int.reduceMul, Int.reduceNeg, Nat.reduceMul, Nat.reduceLeDiff, Nat.reduceLT, hi, ht, u64C_length, hl]
    | simp (disch := omega) only [wi64, wu8, wu16, wu32, wu64]
    | with_reducible_and_instances exact finR
    | ((with_reducible refine finR' ?_ ?_) <;> rfl)
    | ((with_reducible refine finD hsc (NRel.of_plain ?_)); exact rfl)
  refine ⟨by omega, ?_⟩
  repeat first
    | with_reducible refine AWP.seq ?_
    | ((with_reducible refine AWP.region ?_ ?_); exact rfl)
    | with_reducible refine AWP.block ?_
    | with_reducible refine AWP.skip ?_
    | with_reducible refine AWP.exit ?_
    | with_reducible refine AWP.ret ?_
    | with_reducible refine AWP.label ?_
    | with_reducible refine AWP.goto ?_
    | ((with_reducible refine AWP.condT ?_ ?_); focus (simp only [ev, lk_cons, ↓reduceIte, Nat.reduceEqDiff]; done))
    | ((with_reducible refine AWP.condF ?_ ?_); focus (simp only [ev, lk_cons, ↓reduceIte, Nat.reduceEqDiff]; done))
    | simp only [go_sem, ↓reduceIte, Nat.reduceEqDiff, reduceCtorEq, Nat.reduceAdd, Int.reduceEq, Int.reduceBNe, Int.reduceBEq, Int.reduceToNat, Int.reduceLT, Int.reduceLE, Int.reduceGT, Int.reduceGE, Nat.reduceSub, Nat.reduceBEq, Nat.reduceBNe, Int.reduceAdd, Int.reduceSub, Int.reduceMul, Int.reduceNeg, Nat.reduceMul, Nat.reduceLeDiff, Nat.reduceLT]
    | simp (disch := omega) only [wi64, wu8, wu16, wu32, wu64]
    | with_reducible_and_instances exact finR
    | ((with_reducible refine finR' ?_ ?_) <;> rfl)
    | ((with_reducible refine finD hsc (NRel.of_plain ?_)); exact rfl)
  refine AWP.loopP (fun n : Nat => ⟨[(0, .pointer (some ⟨i, 0, none⟩)), (1, .int .u8 (b.toNat : Int)), (9, .agg ⟨u64C l⟩), (10, .int .i64 (n : Nat))], [], H.set i (hObj ((l.take n).map (fun h => hStep h b) ++ l.drop n) r)⟩)
    (fun n => n ≤ 4) (fun n => 4 - n) 0 ?_ (by simp) ?_
  · simp only [List.take_zero, List.map_nil, List.nil_append, List.drop_zero, hObj]
    rw [set_same hi]
    exact Weak.env (by simp [envIn, lk_cons, wth_some])
  intro n hn
  unfold hObj
  have hg : (H.set i (.cells (u64C ((l.take n).map (fun h => hStep h b) ++ l.drop n) ++ r) ⟨141, 0, true, 0, none⟩))[i]? = some (.cells (u64C ((l.take n).map (fun h => hStep h b) ++ l.drop n) ++ r) ⟨141, 0, true, 0, none⟩) := List.getElem?_set_self hil
  have hll : ((l.take n).map (fun h => hStep h b) ++ l.drop n).length = 4 := by simp; omega
  by_cases hc : n < 4
  · have hc' : (n : Int) < 4 := by omega
    have hn4 : n < l.length := by omega
    have hgl := u64C_get hn4
    have hst := turnS (fun h => hStep h b) l n hn4
    have hsr : (u64C ((l.take n).map (fun h => hStep h b) ++ l.drop n) ++ r).set n (.int .u64 (((l[n] ^^^ b.toUInt64) * hP ^^^ ((l[n] ^^^ b.toUInt64) * hP) >>> 29).toNat : Int)) = u64C ((l.take (n + 1)).map (fun h => hStep h b) ++ l.drop (n + 1)) ++ r := by
      have := u64C_setr _ r n (hStep l[n] b) (by rw [hll]; exact hc)
      rw [hst] at this
      exact this
    have hlr : n + 1 ≤ (u64C ((l.take n).map (fun h => hStep h b) ++ l.drop n) ++ r).length := by
      rw [List.length_append, u64C_length, hll]; omega
    rw [List.length_append] at hlr
    repeat first
      | with_reducible refine AWP.seq ?_
      | ((with_reducible refine AWP.region ?_ ?_); exact rfl)
      | with_reducible refine AWP.block ?_
      | with_reducible refine AWP.skip ?_
      | with_reducible refine AWP.exit ?_
      | with_reducible refine AWP.ret ?_
      | with_reducible refine AWP.label ?_
      | with_reducible refine AWP.goto ?_
      | ((with_reducible refine AWP.condT ?_ ?_); focus (simp only [ev, lk_cons, ↓reduceIte, Nat.reduceEqDiff]; done))
      | ((with_reducible refine AWP.condF ?_ ?_); focus (simp only [ev, lk_cons, ↓reduceIte, Nat.reduceEqDiff]; done))
      | simp only [go_sem, ↓reduceIte, Nat.reduceEqDiff, reduceCtorEq, Nat.reduceAdd, Int.reduceEq, Int.reduceBNe, Int.reduceBEq, Int.reduceToNat, Int.reduceLT, Int.reduceLE, Int.reduceGT, Int.reduceGE, Nat.reduceSub, Nat.reduceBEq, Nat.reduceBNe, Int.reduceAdd, Int.reduceSub, Int.reduceMul, Int.reduceNeg, Nat.reduceMul, Nat.reduceLeDiff, Nat.reduceLT, hc', hgl, w8_u64, w64_xor, w64_mulP, w64_shr29, hg, hsr]
      | simp (disch := omega) only [wi64, wu8, wu16, wu32, wu64]
      | with_reducible_and_instances exact finR
      | ((with_reducible refine finR' ?_ ?_) <;> rfl)
      | ((with_reducible refine finD hsc (NRel.of_plain ?_)); exact rfl)
    refine ⟨hlr, ?_⟩
    repeat first
      | with_reducible refine AWP.seq ?_
      | ((with_reducible refine AWP.region ?_ ?_); exact rfl)
      | with_reducible refine AWP.block ?_
      | with_reducible refine AWP.skip ?_
      | with_reducible refine AWP.exit ?_
      | with_reducible refine AWP.ret ?_
      | with_reducible refine AWP.label ?_
      | with_reducible refine AWP.goto ?_
      | ((with_reducible refine AWP.condT ?_ ?_); focus (simp only [ev, lk_cons, ↓reduceIte, Nat.reduceEqDiff]; done))
      | ((with_reducible refine AWP.condF ?_ ?_); focus (simp only [ev, lk_cons, ↓reduceIte, Nat.reduceEqDiff]; done))
      | simp only [go_sem, ↓reduceIte, Nat.reduceEqDiff, reduceCtorEq, Nat.reduceAdd, Int.reduceEq, Int.reduceBNe, Int.reduceBEq, Int.reduceToNat, Int.reduceLT, Int.reduceLE, Int.reduceGT, Int.reduceGE, Nat.reduceSub, Nat.reduceBEq, Nat.reduceBNe, Int.reduceAdd, Int.reduceSub, Int.reduceMul, Int.reduceNeg, Nat.reduceMul, Nat.reduceLeDiff, Nat.reduceLT]
      | simp (disch := omega) only [wi64, wu8, wu16, wu32, wu64]
      | with_reducible_and_instances exact finR
      | ((with_reducible refine finR' ?_ ?_) <;> rfl)
      | ((with_reducible refine finD hsc (NRel.of_plain ?_)); exact rfl)
    refine ⟨n + 1, ?_, by omega, by omega⟩
    exact Weak.env (by simp [envIn, lk_cons, wth_some])
  · have : n = 4 := by omega
    subst this
    have e : (l.take 4).map (fun h => hStep h b) ++ l.drop 4 = takeL l b := by
      rw [List.take_of_length_le (by omega), List.drop_eq_nil_of_le (by omega), List.append_nil]; rfl
    rw [e]
    repeat first
      | with_reducible refine AWP.seq ?_
      | ((with_reducible refine AWP.region ?_ ?_); exact rfl)
      | with_reducible refine AWP.block ?_
      | with_reducible refine AWP.skip ?_
      | with_reducible refine AWP.exit ?_
      | with_reducible refine AWP.ret ?_
      | with_reducible refine AWP.label ?_
      | with_reducible refine AWP.goto ?_
      | ((with_reducible refine AWP.condT ?_ ?_); focus (simp only [ev, lk_cons, ↓reduceIte, Nat.reduceEqDiff]; done))
      | ((with_reducible refine AWP.condF ?_ ?_); focus (simp only [ev, lk_cons, ↓reduceIte, Nat.reduceEqDiff]; done))
      | simp only [go_sem, ↓reduceIte, Nat.reduceEqDiff, reduceCtorEq, Nat.reduceAdd, Int.reduceEq, Int.reduceBNe, Int.reduceBEq, Int.reduceToNat, Int.reduceLT, Int.reduceLE, Int.reduceGT, Int.reduceGE, Nat.reduceSub, Nat.reduceBEq, Nat.reduceBNe, Int.reduceAdd, Int.reduceSub, Int.reduceMul, Int.reduceNeg, Nat.reduceMul, Nat.reduceLeDiff, Nat.reduceLT]
      | simp (disch := omega) only [wi64, wu8, wu16, wu32, wu64]
      | with_reducible_and_instances exact finR
      | ((with_reducible refine finR' ?_ ?_) <;> rfl)
      | ((with_reducible refine finD hsc (NRel.of_plain ?_)); exact rfl)
theorem each (i : Nat) (l : List UInt64) (hl : l.length = 4) (r : List Value) (s : List UInt8) (hs : s.length ≤ 9223372036854775807) (H : AHeap) (hi : H[i]? = some (hObj l r)) : ARet Tryd.prog 106 [.string (bs s), .func (.func 107) ⟨[.pointer (some ⟨i, 0, none⟩)]⟩ ⟨[]⟩] H noVal (H.set i (hObj (s.foldl takeL l) r)) := by
  have hil := lt_of_get hi
  refine AC.enter Tryd.func106 rfl (by kernel_rfl) 16 rfl [] rfl (by simp) fun hsc B => ?_
  repeat first
    | with_reducible refine AWP.seq ?_
    | ((with_reducible refine AWP.region ?_ ?_); exact rfl)
    | with_reducible refine AWP.block ?_
    | with_reducible refine AWP.skip ?_
    | with_reducible refine AWP.exit ?_
    | with_reducible refine AWP.ret ?_
    | with_reducible refine AWP.label ?_
    | with_reducible refine AWP.goto ?_
    | ((with_reducible refine AWP.condT ?_ ?_); focus (simp only [ev, lk_cons, ↓reduceIte, Nat.reduceEqDiff]; done))
    | ((with_reducible refine AWP.condF ?_ ?_); focus (simp only [ev, lk_cons, ↓reduceIte, Nat.reduceEqDiff]; done))
    | simp only [go_sem, ↓reduceIte, Nat.reduceEqDiff, reduceCtorEq, Nat.reduceAdd, Int.reduceEq, Int.reduceBNe, Int.reduceBEq, Int.reduceToNat, Int.reduceLT, Int.reduceLE, Int.reduceGT, Int.reduceGE, Nat.reduceSub, Nat.reduceBEq, Nat.reduceBNe, Int.reduceAdd, Int.reduceSub, Int.reduceMul, Int.reduceNeg, Nat.reduceMul, Nat.reduceLeDiff, Nat.reduceLT]
    | simp (disch := omega) only [wi64, wu8, wu16, wu32, wu64]
    | with_reducible_and_instances exact finR
    | ((with_reducible refine finR' ?_ ?_) <;> rfl)
    | ((with_reducible refine finD hsc (NRel.of_plain ?_)); exact rfl)
  refine AWP.loopP (fun n : Nat => ⟨[(0, .string (bs s)), (1, .func (.func 107) ⟨[.pointer (some ⟨i, 0, none⟩)]⟩ ⟨[]⟩), (6, .int .i64 (s.length : Nat)), (7, .int .i64 (n : Nat))], [], H.set i (hObj ((s.take n).foldl takeL l) r)⟩)
    (fun n => n ≤ s.length) (fun n => s.length - n) 0 ?_ (Nat.zero_le _) ?_
  · simp only [List.take_zero, List.foldl_nil]
    rw [set_same hi]
    exact Weak.env (by simp [envIn, lk_cons, wth_some])
  intro n hn
  by_cases hc : n < s.length
  · have hc' : (n : Int) < (s.length : Int) := by omega
    have hg : s[n]? = some s[n] := List.getElem?_eq_getElem hc
    have hh : (H.set i (hObj ((s.take n).foldl takeL l) r))[i]? = some (hObj ((s.take n).foldl takeL l) r) := List.getElem?_set_self hil
    have ht := take_ i ((s.take n).foldl takeL l) (by rw [foldl_len, hl]) r s[n] _ hh
    rw [List.set_set] at ht
    repeat first
      | with_reducible refine AWP.seq ?_
      | ((with_reducible refine AWP.region ?_ ?_); exact rfl)
      | with_reducible refine AWP.block ?_
      | with_reducible refine AWP.skip ?_
      | with_reducible refine AWP.exit ?_
      | with_reducible refine AWP.ret ?_
      | with_reducible refine AWP.label ?_
      | with_reducible refine AWP.goto ?_
      | ((with_reducible refine AWP.condT ?_ ?_); focus (simp only [ev, lk_cons, ↓reduceIte, Nat.reduceEqDiff]; done))
      | ((with_reducible refine AWP.condF ?_ ?_); focus (simp only [ev, lk_cons, ↓reduceIte, Nat.reduceEqDiff]; done))
      | with_reducible refine ht.use ?_
      | simp only [go_sem, ↓reduceIte, Nat.reduceEqDiff, reduceCtorEq, Nat.reduceAdd, Int.reduceEq, Int.reduceBNe, Int.reduceBEq, Int.reduceToNat, Int.reduceLT, Int.reduceLE, Int.reduceGT, Int.reduceGE, Nat.reduceSub, Nat.reduceBEq, Nat.reduceBNe, Int.reduceAdd, Int.reduceSub, Int.reduceMul, Int.reduceNeg, Nat.reduceMul, Nat.reduceLeDiff, Nat.reduceLT, hc', hg]
      | simp (disch := omega) only [wi64, wu8, wu16, wu32, wu64]
      | with_reducible_and_instances exact finR
      | ((with_reducible refine finR' ?_ ?_) <;> rfl)
      | ((with_reducible refine finD hsc (NRel.of_plain ?_)); exact rfl)
    refine ⟨n + 1, ?_, by omega, by omega⟩
    rw [List.take_add_one, hg, Option.toList, List.foldl_append]
    exact Weak.env (by simp [envIn, lk_cons, wth_some])
  · have : n = s.length := by omega
    subst this
    rw [List.take_length]
    have hc' : ¬ (s.length : Int) < (s.length : Int) := by omega
    repeat first
      | with_reducible refine AWP.seq ?_
      | ((with_reducible refine AWP.region ?_ ?_); exact rfl)
      | with_reducible refine AWP.block ?_
      | with_reducible refine AWP.skip ?_
      | with_reducible refine AWP.exit ?_
      | with_reducible refine AWP.ret ?_
      | with_reducible refine AWP.label ?_
      | with_reducible refine AWP.goto ?_
      | ((with_reducible refine AWP.condT ?_ ?_); focus (simp only [ev, lk_cons, ↓reduceIte, Nat.reduceEqDiff]; done))
      | ((with_reducible refine AWP.condF ?_ ?_); focus (simp only [ev, lk_cons, ↓reduceIte, Nat.reduceEqDiff]; done))
      | simp only [go_sem, ↓reduceIte, Nat.reduceEqDiff, reduceCtorEq, Nat.reduceAdd, Int.reduceEq, Int.reduceBNe, Int.reduceBEq, Int.reduceToNat, Int.reduceLT, Int.reduceLE, Int.reduceGT, Int.reduceGE, Nat.reduceSub, Nat.reduceBEq, Nat.reduceBNe, Int.reduceAdd, Int.reduceSub, Int.reduceMul, Int.reduceNeg, Nat.reduceMul, Nat.reduceLeDiff, Nat.reduceLT, hc']
      | simp (disch := omega) only [wi64, wu8, wu16, wu32, wu64]
      | with_reducible_and_instances exact finR
      | ((with_reducible refine finR' ?_ ?_) <;> rfl)
      | ((with_reducible refine finD hsc (NRel.of_plain ?_)); exact rfl)
theorem endL_snoc (l : List UInt64) (n m : Nat) (h : n < l.length) : endL (l.take (n + 1)) m = endL (l.take n) m ++ be8 (hEnd m l[n]) := by
  unfold endL; rw [List.take_add_one, List.getElem?_eq_getElem h, List.flatMap_append]; simp
theorem ended (l : List UInt64) (hl : l.length = 4) (m : Nat) (H : AHeap) : ARet Tryd.prog 108 [.agg ⟨u64C l⟩, .int .i64 (m : Nat)] H (.string (bs (endL l m))) H := by
  have ht : List.take 4 (u64C l) = u64C l := List.take_of_length_le (by rw [u64C_length]; omega)
  refine AC.enter Tryd.func108 rfl (by kernel_rfl) 30 rfl [.tmp 4] rfl (by simp) fun hsc B => ?_
  repeat first
    | with_reducible refine AWP.seq ?_
    | ((with_reducible refine AWP.region ?_ ?_); exact rfl)
    | with_reducible refine AWP.block ?_
    | with_reducible refine AWP.skip ?_
    | with_reducible refine AWP.exit ?_
    | with_reducible refine AWP.ret ?_
    | with_reducible refine AWP.label ?_
    | with_reducible refine AWP.goto ?_
    | ((with_reducible refine AWP.condT ?_ ?_); focus (simp only [ev, lk_cons, ↓reduceIte, Nat.reduceEqDiff]; done))
    | ((with_reducible refine AWP.condF ?_ ?_); focus (simp only [ev, lk_cons, ↓reduceIte, Nat.reduceEqDiff]; done))
    | simp only [go_sem, ↓reduceIte, Nat.reduceEqDiff, reduceCtorEq, Nat.reduceAdd, Int.reduceEq, Int.reduceBNe, Int.reduceBEq, Int.reduceToNat, Int.reduceLT, Int.reduceLE, Int.reduceGT, Int.reduceGE, Nat.reduceSub, Nat.reduceBEq, Nat.reduceBNe, Int.reduceAdd, Int.reduceSub, Int.reduceMul, Int.reduceNeg, Nat.reduceMul, Nat.reduceLeDiff, Nat.reduceLT, ht, u64C_length]
    | simp (disch := omega) only [wi64, wu8, wu16, wu32, wu64]
    | with_reducible_and_instances exact finR
    | ((with_reducible refine finR' ?_ ?_) <;> rfl)
    | ((with_reducible refine finD hsc (NRel.of_plain ?_)); exact rfl)
  refine ⟨by omega, ?_⟩
  repeat first
    | with_reducible refine AWP.seq ?_
    | ((with_reducible refine AWP.region ?_ ?_); exact rfl)
    | with_reducible refine AWP.block ?_
    | with_reducible refine AWP.skip ?_
    | with_reducible refine AWP.exit ?_
    | with_reducible refine AWP.ret ?_
    | with_reducible refine AWP.label ?_
    | with_reducible refine AWP.goto ?_
    | ((with_reducible refine AWP.condT ?_ ?_); focus (simp only [ev, lk_cons, ↓reduceIte, Nat.reduceEqDiff]; done))
    | ((with_reducible refine AWP.condF ?_ ?_); focus (simp only [ev, lk_cons, ↓reduceIte, Nat.reduceEqDiff]; done))
    | simp only [go_sem, ↓reduceIte, Nat.reduceEqDiff, reduceCtorEq, Nat.reduceAdd, Int.reduceEq, Int.reduceBNe, Int.reduceBEq, Int.reduceToNat, Int.reduceLT, Int.reduceLE, Int.reduceGT, Int.reduceGE, Nat.reduceSub, Nat.reduceBEq, Nat.reduceBNe, Int.reduceAdd, Int.reduceSub, Int.reduceMul, Int.reduceNeg, Nat.reduceMul, Nat.reduceLeDiff, Nat.reduceLT]
    | simp (disch := omega) only [wi64, wu8, wu16, wu32, wu64]
    | with_reducible_and_instances exact finR
    | ((with_reducible refine finR' ?_ ?_) <;> rfl)
    | ((with_reducible refine finD hsc (NRel.of_plain ?_)); exact rfl)
  refine AWP.loopP (fun n : Nat => ⟨[(1, .int .i64 (m : Nat)), (2, .pointer (some ⟨H.length, 0, none⟩)), (5, gS (H.length + 1) (n * 8)), (9, .agg ⟨u64C l⟩), (10, .int .i64 (n : Nat))], [], H ++ [.cells (u64C l) ⟨138, 0, true, 0, none⟩, gO (bytesC (endL (l.take n) m)) ⟨5, 1, true, 0, none⟩]⟩)
    (fun n => n ≤ 4) (fun n => 4 - n) 0 ?_ (by simp) ?_
  · have := Weak.pad1 (n0 := H.length) (ds := []) (H := H ++ [.cells (u64C l) ⟨138, 0, true, 0, none⟩]) (e1 := [(10, .int .i64 0), (9, .agg ⟨u64C l⟩), (5, .slice none 0 0), (2, .pointer (some ⟨H.length, 0, none⟩)), (1, .int .i64 (m : Nat))]) (e2 := [(1, .int .i64 (m : Nat)), (2, .pointer (some ⟨H.length, 0, none⟩)), (5, gS (H.length + 1) (0 * 8)), (9, .agg ⟨u64C l⟩), (10, .int .i64 (0 : Nat))]) (by simp [envIn, lk_cons, wth_some, gS_zero])
    rw [List.append_assoc] at this
    exact (Weak.env (by simp [envIn, lk_cons, wth_some])).trans this
  intro n hn
  by_cases hc : n < 4
  · have hc' : (n : Int) < 4 := by omega
    have hn4 : n < l.length := by omega
    have hgl := u64C_get hn4
    have h8 := eight (hEnd m l[n])
    have hln : (bytesC (endL (l.take n) m)).length = n * 8 := by rw [bytesC_length, endL_len, List.length_take]; omega
    have hbl := be8_len (hEnd m l[n])
    have htb : List.take 8 (bytesC (be8 (hEnd m l[n]))) = bytesC (be8 (hEnd m l[n])) := List.take_of_length_le (by rw [bytesC_length]; omega)
    simp only [hEnd, hMix2] at h8 htb hbl
    repeat first
      | with_reducible refine AWP.seq ?_
      | ((with_reducible refine AWP.region ?_ ?_); exact rfl)
      | with_reducible refine AWP.block ?_
      | with_reducible refine AWP.skip ?_
      | with_reducible refine AWP.exit ?_
      | with_reducible refine AWP.ret ?_
      | with_reducible refine AWP.label ?_
      | with_reducible refine AWP.goto ?_
      | ((with_reducible refine AWP.condT ?_ ?_); focus (simp only [ev, lk_cons, ↓reduceIte, Nat.reduceEqDiff]; done))
      | ((with_reducible refine AWP.condF ?_ ?_); focus (simp only [ev, lk_cons, ↓reduceIte, Nat.reduceEqDiff]; done))
      | with_reducible refine (h8 _).use ?_
      | simp only [go_sem, ↓reduceIte, Nat.reduceEqDiff, reduceCtorEq, Nat.reduceAdd, Int.reduceEq, Int.reduceBNe, Int.reduceBEq, Int.reduceToNat, Int.reduceLT, Int.reduceLE, Int.reduceGT, Int.reduceGE, Nat.reduceSub, Nat.reduceBEq, Nat.reduceBNe, Int.reduceAdd, Int.reduceSub, Int.reduceMul, Int.reduceNeg, Nat.reduceMul, Nat.reduceLeDiff, Nat.reduceLT, hc', hgl, wN_u64, w64_xor, w64_mulP, w64_shr32, htb, hbl]
      | simp (disch := omega) only [wi64, wu8, wu16, wu32, wu64]
      | with_reducible_and_instances exact finR
      | ((with_reducible refine finR' ?_ ?_) <;> rfl)
      | ((with_reducible refine finD hsc (NRel.of_plain ?_)); exact rfl)
    refine ⟨bytesC_flat _, ?_⟩
    refine appendTo_gs (by simp only [go_sem, ↓reduceIte, Nat.reduceEqDiff, reduceCtorEq, Nat.reduceAdd, Int.reduceEq, Int.reduceBNe, Int.reduceBEq, Int.reduceToNat, Int.reduceLT, Int.reduceLE, Int.reduceGT, Int.reduceGE, Nat.reduceSub, Nat.reduceBEq, Nat.reduceBNe, Int.reduceAdd, Int.reduceSub, Int.reduceMul, Int.reduceNeg, Nat.reduceMul, Nat.reduceLeDiff, Nat.reduceLT]) hln (by omega) (by omega) (by omega) ?_
    have hst : bytesC (endL (l.take n) m) ++ bytesC (be8 (hEnd m l[n])) = bytesC (endL (l.take (n + 1)) m) := by
      rw [endL_snoc _ _ _ hn4, bytesC_append]
    simp only [hEnd, hMix2] at hst
    repeat first
      | with_reducible refine AWP.seq ?_
      | ((with_reducible refine AWP.region ?_ ?_); exact rfl)
      | with_reducible refine AWP.block ?_
      | with_reducible refine AWP.skip ?_
      | with_reducible refine AWP.exit ?_
      | with_reducible refine AWP.ret ?_
      | with_reducible refine AWP.label ?_
      | with_reducible refine AWP.goto ?_
      | ((with_reducible refine AWP.condT ?_ ?_); focus (simp only [ev, lk_cons, ↓reduceIte, Nat.reduceEqDiff]; done))
      | ((with_reducible refine AWP.condF ?_ ?_); focus (simp only [ev, lk_cons, ↓reduceIte, Nat.reduceEqDiff]; done))
      | simp only [go_sem, ↓reduceIte, Nat.reduceEqDiff, reduceCtorEq, Nat.reduceAdd, Int.reduceEq, Int.reduceBNe, Int.reduceBEq, Int.reduceToNat, Int.reduceLT, Int.reduceLE, Int.reduceGT, Int.reduceGE, Nat.reduceSub, Nat.reduceBEq, Nat.reduceBNe, Int.reduceAdd, Int.reduceSub, Int.reduceMul, Int.reduceNeg, Nat.reduceMul, Nat.reduceLeDiff, Nat.reduceLT, hst]
      | simp (disch := omega) only [wi64, wu8, wu16, wu32, wu64]
      | with_reducible_and_instances exact finR
      | ((with_reducible refine finR' ?_ ?_) <;> rfl)
      | ((with_reducible refine finD hsc (NRel.of_plain ?_)); exact rfl)
    refine ⟨n + 1, ?_, by omega, by omega⟩
    refine Weak.pick [0, 3] rfl hsc (by simp) ⟨?_, ?_⟩
    · rw [gO_ne (bytesC_ne (by rw [endL_len, List.length_take]; omega))]
      simp [selW_cons, selW_nil, wth_some, onm_cells, nrs_refl (bytesC_scalar _), nrs_refl (u64C_scalar _)]
    · simp only [Int.natCast_add, Int.natCast_zero, Int.natCast_one, Int.cast_ofNat_Int, envIn_nil, envIn_cons, lk_co, wth_so, nr_bool, nr_int, nr_string, nr_slice, nr_nilSlice, nr_ptr, nr_nilPtr, nr_map, nr_nilMap, nr_nilFunc, nr_nilIface, nr_iface, nr_agg, nr_tuple, nr_func, nr_yield, nrs_nil, nrs_cons, selN_0, selN_k, selN_lt, upto_lt, List.getElem?_cons_zero, List.getElem?_cons_succ, Option.map_some, Nat.add_zero, and_self, ↓reduceIte, Nat.reduceEqDiff, true_and, and_true, nr_gs]
      exact ⟨⟨by omega, by omega⟩, .of_scalars (u64C_scalar _)⟩
  · have : n = 4 := by omega
    subst this
    have e1 : bytesC (endL (l.take 4) m) ≠ [] := bytesC_ne (by rw [endL_len, List.length_take]; omega)
    have e2 : (endL l m).length = 32 := by rw [endL_len]; omega
    rw [gS_pos (n := 4 * 8) (by omega), gO_ne e1, List.take_of_length_le (by omega)]
    have e3 : List.take 32 (endL l m) = endL l m := List.take_of_length_le (by omega)
    repeat first
      | with_reducible refine AWP.seq ?_
      | ((with_reducible refine AWP.region ?_ ?_); exact rfl)
      | with_reducible refine AWP.block ?_
      | with_reducible refine AWP.skip ?_
      | with_reducible refine AWP.exit ?_
      | with_reducible refine AWP.ret ?_
      | with_reducible refine AWP.label ?_
      | with_reducible refine AWP.goto ?_
      | ((with_reducible refine AWP.condT ?_ ?_); focus (simp only [ev, lk_cons, ↓reduceIte, Nat.reduceEqDiff]; done))
      | ((with_reducible refine AWP.condF ?_ ?_); focus (simp only [ev, lk_cons, ↓reduceIte, Nat.reduceEqDiff]; done))
      | simp only [go_sem, ↓reduceIte, Nat.reduceEqDiff, reduceCtorEq, Nat.reduceAdd, Int.reduceEq, Int.reduceBNe, Int.reduceBEq, Int.reduceToNat, Int.reduceLT, Int.reduceLE, Int.reduceGT, Int.reduceGE, Nat.reduceSub, Nat.reduceBEq, Nat.reduceBNe, Int.reduceAdd, Int.reduceSub, Int.reduceMul, Int.reduceNeg, Nat.reduceMul, Nat.reduceLeDiff, Nat.reduceLT, e2, e3]
      | simp (disch := omega) only [wi64, wu8, wu16, wu32, wu64]
      | with_reducible_and_instances exact finR
      | ((with_reducible refine finR' ?_ ?_) <;> rfl)
      | ((with_reducible refine finD hsc (NRel.of_plain ?_)); exact rfl)
theorem New (H : AHeap) : ARet Tryd.prog 96 [] H (.pointer (some ⟨H.length, 0, none⟩)) (H ++ [hObj lanes0 [.int .i64 0]]) := by
  have e : (u64C lanes0).length = 4 := rfl
  unfold hObj
  refine AC.enter Tryd.func96 rfl (by kernel_rfl) 4 rfl [.tmp 0] rfl (by simp) fun hsc B => ?_
  repeat first
    | with_reducible refine AWP.seq ?_
    | ((with_reducible refine AWP.region ?_ ?_); exact rfl)
    | with_reducible refine AWP.block ?_
    | with_reducible refine AWP.skip ?_
    | with_reducible refine AWP.exit ?_
    | with_reducible refine AWP.ret ?_
    | with_reducible refine AWP.label ?_
    | with_reducible refine AWP.goto ?_
    | ((with_reducible refine AWP.condT ?_ ?_); focus (simp only [ev, lk_cons, ↓reduceIte, Nat.reduceEqDiff]; done))
    | ((with_reducible refine AWP.condF ?_ ?_); focus (simp only [ev, lk_cons, ↓reduceIte, Nat.reduceEqDiff]; done))
    | with_reducible refine (begun _).use ?_
    | simp only [go_sem, ↓reduceIte, Nat.reduceEqDiff, reduceCtorEq, Nat.reduceAdd, Int.reduceEq, Int.reduceBNe, Int.reduceBEq, Int.reduceToNat, Int.reduceLT, Int.reduceLE, Int.reduceGT, Int.reduceGE, Nat.reduceSub, Nat.reduceBEq, Nat.reduceBNe, Int.reduceAdd, Int.reduceSub, Int.reduceMul, Int.reduceNeg, Nat.reduceMul, Nat.reduceLeDiff, Nat.reduceLT, e]
    | simp (disch := omega) only [wi64, wu8, wu16, wu32, wu64]
    | with_reducible_and_instances exact finR
    | ((with_reducible refine finR' ?_ ?_) <;> rfl)
    | ((with_reducible refine finD hsc (NRel.of_plain ?_)); exact rfl)
theorem Add (i : Nat) (l : List UInt64) (hl : l.length = 4) (m : Nat) (s : List UInt8) (hm : m + s.length ≤ 9223372036854775807) (H : AHeap) (hi : H[i]? = some (hObj l [.int .i64 (m : Nat)])) :
    ARet Tryd.prog 97 [.pointer (some ⟨i, 0, none⟩), .string (bs s)] H noVal (H.set i (hObj (s.foldl takeL l) [.int .i64 ((m + s.length : Nat) : Int)])) := by
  have hil := lt_of_get hi
  have he := each i l hl [.int .i64 (m : Nat)] s (by omega) H hi
  have hg : ∀ x, (H.set i x)[i]? = some x := fun x => List.getElem?_set_self hil
  have hfl := foldl_len s l
  have hge : (u64C (s.foldl takeL l) ++ [Value.int .i64 (m : Nat)])[4]? = some (.int .i64 (m : Nat)) := by
    rw [List.getElem?_append_right (by rw [u64C_length]; omega), u64C_length, hfl, hl]; rfl
  have hse : ∀ x, (u64C (s.foldl takeL l) ++ [Value.int .i64 (m : Nat)]).set 4 x = u64C (s.foldl takeL l) ++ [x] := fun x => by
    rw [List.set_append_right _ _ (by rw [u64C_length]; omega), u64C_length, hfl, hl]; rfl
  unfold hObj at he hi ⊢
  refine AC.enter Tryd.func97 rfl (by kernel_rfl) 21 rfl [] rfl (by simp) fun hsc B => ?_
  have hge' : (u64C (s.foldl takeL l) ++ [Value.int .i64 (m : Nat)]).length = 5 := by rw [List.length_append, u64C_length, hfl, hl]; rfl
  repeat first
    | with_reducible refine AWP.seq ?_
    | ((with_reducible refine AWP.region ?_ ?_); exact rfl)
    | with_reducible refine AWP.block ?_
    | with_reducible refine AWP.skip ?_
    | with_reducible refine AWP.exit ?_
    | with_reducible refine AWP.ret ?_
    | with_reducible refine AWP.label ?_
    | with_reducible refine AWP.goto ?_
    | ((with_reducible refine AWP.condT ?_ ?_); focus (simp only [ev, lk_cons, ↓reduceIte, Nat.reduceEqDiff]; done))
    | ((with_reducible refine AWP.condF ?_ ?_); focus (simp only [ev, lk_cons, ↓reduceIte, Nat.reduceEqDiff]; done))
    | with_reducible refine he.use ?_
    | simp only [go_sem, ↓reduceIte, Nat.reduceEqDiff, reduceCtorEq, Nat.reduceAdd, Int.reduceEq, Int.reduceBNe, Int.reduceBEq, Int.reduceToNat, Int.reduceLT, Int.reduceLE, Int.reduceGT, Int.reduceGE, Nat.reduceSub, Nat.reduceBEq, Nat.reduceBNe, Int.reduceAdd, Int.reduceSub, Int.reduceMul, Int.reduceNeg, Nat.reduceMul, Nat.reduceLeDiff, Nat.reduceLT, hi, hg, hge, hse, u64C_length, hfl, hl, Int.natCast_add]
    | simp (disch := omega) only [wi64, wu8, wu16, wu32, wu64]
    | with_reducible_and_instances exact finR
    | ((with_reducible refine finR' ?_ ?_) <;> rfl)
    | ((with_reducible refine finD hsc (NRel.of_plain ?_)); exact rfl)
theorem SumM (i : Nat) (l : List UInt64) (hl : l.length = 4) (m : Nat) (H : AHeap) (hi : H[i]? = some (hObj l [.int .i64 (m : Nat)])) : ARet Tryd.prog 98 [.pointer (some ⟨i, 0, none⟩)] H (.string (bs (endL l m))) H := by
  have hge : (u64C l ++ [Value.int .i64 (m : Nat)])[4]? = some (.int .i64 (m : Nat)) := by
    rw [List.getElem?_append_right (by rw [u64C_length]; omega), u64C_length, hl]; rfl
  have ht := u64C_take l [.int .i64 (m : Nat)] 4 hl
  unfold hObj at hi
  refine AC.enter Tryd.func98 rfl (by kernel_rfl) 14 rfl [.tmp 2] rfl (by simp) fun hsc B => ?_
  repeat first
    | with_reducible refine AWP.seq ?_
    | ((with_reducible refine AWP.region ?_ ?_); exact rfl)
    | with_reducible refine AWP.block ?_
    | with_reducible refine AWP.skip ?_
    | with_reducible refine AWP.exit ?_
    | with_reducible refine AWP.ret ?_
    | with_reducible refine AWP.label ?_
    | with_reducible refine AWP.goto ?_
    | ((with_reducible refine AWP.condT ?_ ?_); focus (simp only [ev, lk_cons, ↓reduceIte, Nat.reduceEqDiff]; done))
    | ((with_reducible refine AWP.condF ?_ ?_); focus (simp only [ev, lk_cons, ↓reduceIte, Nat.reduceEqDiff]; done))
    | simp only [go_sem, ↓reduceIte, Nat.reduceEqDiff, reduceCtorEq, Nat.reduceAdd, Int.reduceEq, Int.reduceBNe, Int.reduceBEq, Int.reduceToNat, Int.reduceLT, Int.reduceLE, Int.reduceGT, Int.reduceGE, Nat.reduceSub, Nat.reduceBEq, Nat.reduceBNe, Int.reduceAdd, Int.reduceSub, Int.reduceMul, Int.reduceNeg, Nat.reduceMul, Nat.reduceLeDiff, Nat.reduceLT]
    | simp (disch := omega) only [wi64, wu8, wu16, wu32, wu64]
    | with_reducible_and_instances exact finR
    | ((with_reducible refine finR' ?_ ?_) <;> rfl)
    | ((with_reducible refine finD hsc (NRel.of_plain ?_)); exact rfl)
  refine AWP.regionK 8 (by kernel_rfl) (by decide) (by kernel_rfl) ?_
  repeat first
    | with_reducible refine AWP.seq ?_
    | ((with_reducible refine AWP.region ?_ ?_); exact rfl)
    | with_reducible refine AWP.block ?_
    | with_reducible refine AWP.skip ?_
    | with_reducible refine AWP.exit ?_
    | with_reducible refine AWP.ret ?_
    | with_reducible refine AWP.label ?_
    | with_reducible refine AWP.goto ?_
    | ((with_reducible refine AWP.condT ?_ ?_); focus (simp only [ev, lk_cons, ↓reduceIte, Nat.reduceEqDiff]; done))
    | ((with_reducible refine AWP.condF ?_ ?_); focus (simp only [ev, lk_cons, ↓reduceIte, Nat.reduceEqDiff]; done))
    | with_reducible refine (ended l hl m _).use ?_
    | simp only [go_sem, ↓reduceIte, Nat.reduceEqDiff, reduceCtorEq, Nat.reduceAdd, Int.reduceEq, Int.reduceBNe, Int.reduceBEq, Int.reduceToNat, Int.reduceLT, Int.reduceLE, Int.reduceGT, Int.reduceGE, Nat.reduceSub, Nat.reduceBEq, Nat.reduceBNe, Int.reduceAdd, Int.reduceSub, Int.reduceMul, Int.reduceNeg, Nat.reduceMul, Nat.reduceLeDiff, Nat.reduceLT, hi, hge, ht, u64C_length, hl]
    | simp (disch := omega) only [wi64, wu8, wu16, wu32, wu64]
    | with_reducible_and_instances exact finR
    | ((with_reducible refine finR' ?_ ?_) <;> rfl)
    | ((with_reducible refine finD hsc (NRel.of_plain ?_)); exact rfl)
theorem Sum (s : List UInt8) (hs : s.length ≤ 9223372036854775807) (H : AHeap) : ARet Tryd.prog 79 [.string (bs s)] H (.string (bs (sumL s))) H := by
  have hA := Add H.length lanes0 rfl 0 s (by omega) (H ++ [hObj lanes0 [.int .i64 0]]) (hget0 rfl)
  rw [Nat.zero_add] at hA
  have hS := SumM H.length (s.foldl takeL lanes0) (by rw [foldl_len]; rfl) s.length (H ++ [hObj (s.foldl takeL lanes0) [.int .i64 (s.length : Nat)]]) (hget0 rfl)
  rw [show (H ++ [hObj lanes0 [.int .i64 0]]).set H.length (hObj (s.foldl takeL lanes0) [.int .i64 (s.length : Nat)]) = H ++ [hObj (s.foldl takeL lanes0) [.int .i64 (s.length : Nat)]] by simp] at hA
  unfold sumL
  refine AC.enter Tryd.func79 rfl (by kernel_rfl) 10 rfl [.tmp 2] rfl (by simp) fun hsc B => ?_
  repeat first
    | with_reducible refine AWP.seq ?_
    | ((with_reducible refine AWP.region ?_ ?_); exact rfl)
    | with_reducible refine AWP.block ?_
    | with_reducible refine AWP.skip ?_
    | with_reducible refine AWP.exit ?_
    | with_reducible refine AWP.ret ?_
    | with_reducible refine AWP.label ?_
    | with_reducible refine AWP.goto ?_
    | ((with_reducible refine AWP.condT ?_ ?_); focus (simp only [ev, lk_cons, ↓reduceIte, Nat.reduceEqDiff]; done))
    | ((with_reducible refine AWP.condF ?_ ?_); focus (simp only [ev, lk_cons, ↓reduceIte, Nat.reduceEqDiff]; done))
    | with_reducible refine (New _).use ?_
    | with_reducible refine hA.use ?_
    | with_reducible refine hS.use ?_
    | simp only [go_sem, ↓reduceIte, Nat.reduceEqDiff, reduceCtorEq, Nat.reduceAdd, Int.reduceEq, Int.reduceBNe, Int.reduceBEq, Int.reduceToNat, Int.reduceLT, Int.reduceLE, Int.reduceGT, Int.reduceGE, Nat.reduceSub, Nat.reduceBEq, Nat.reduceBNe, Int.reduceAdd, Int.reduceSub, Int.reduceMul, Int.reduceNeg, Nat.reduceMul, Nat.reduceLeDiff, Nat.reduceLT]
    | simp (disch := omega) only [wi64, wu8, wu16, wu32, wu64]
    | with_reducible_and_instances exact finR
    | ((with_reducible refine finR' ?_ ?_) <;> rfl)
    | ((with_reducible refine finD hsc (NRel.of_plain ?_)); exact rfl)
theorem maxS {a b : List UInt8} : (bs a ++ bs b) = bs (a ++ b) := bs_append a b
def oldL (s : List UInt8) : List UInt8 := (sumL ([111, 108, 100, 58] ++ s)).take 20
theorem oldL_len (s : List UInt8) : (oldL s).length = 20 := by unfold oldL; rw [List.length_take, sumL_len]; rfl
theorem refOld (s : List UInt8) (hs : s.length ≤ 9223372036854775803) (H : AHeap) : ARet Tryd.prog 71 [.string (bs s)] H (.string (bs (oldL s))) H := by
  have h := refSum ([111, 108, 100, 58] ++ s) (by simp; omega)
  have hl := sumL_len ([111, 108, 100, 58] ++ s)
  simp only [List.cons_append, List.nil_append] at h hl
  unfold oldL
  refine AC.enter Tryd.func71 rfl (by kernel_rfl) 7 rfl [.tmp 2] rfl (by simp) fun hsc B => ?_
  repeat first
    | with_reducible refine AWP.seq ?_
    | ((with_reducible refine AWP.region ?_ ?_); exact rfl)
    | with_reducible refine AWP.block ?_
    | with_reducible refine AWP.skip ?_
    | with_reducible refine AWP.exit ?_
    | with_reducible refine AWP.ret ?_
    | with_reducible refine AWP.label ?_
    | with_reducible refine AWP.goto ?_
    | ((with_reducible refine AWP.condT ?_ ?_); focus (simp only [ev, lk_cons, ↓reduceIte, Nat.reduceEqDiff]; done))
    | ((with_reducible refine AWP.condF ?_ ?_); focus (simp only [ev, lk_cons, ↓reduceIte, Nat.reduceEqDiff]; done))
    | with_reducible refine (h _).use ?_
    | simp only [go_sem, ↓reduceIte, Nat.reduceEqDiff, reduceCtorEq, Nat.reduceAdd, Int.reduceEq, Int.reduceBNe, Int.reduceBEq, Int.reduceToNat, Int.reduceLT, Int.reduceLE, Int.reduceGT, Int.reduceGE, Nat.reduceSub, Nat.reduceBEq, Nat.reduceBNe, Int.reduceAdd, Int.reduceSub, Int.reduceMul, Int.reduceNeg, Nat.reduceMul, Nat.reduceLeDiff, Nat.reduceLT, hl]
    | simp (disch := omega) only [wi64, wu8, wu16, wu32, wu64]
    | with_reducible_and_instances exact finR
    | ((with_reducible refine finR' ?_ ?_) <;> rfl)
    | ((with_reducible refine finD hsc (NRel.of_plain ?_)); exact rfl)
  refine ⟨by omega, ?_⟩
  repeat first
    | with_reducible refine AWP.seq ?_
    | ((with_reducible refine AWP.region ?_ ?_); exact rfl)
    | with_reducible refine AWP.block ?_
    | with_reducible refine AWP.skip ?_
    | with_reducible refine AWP.exit ?_
    | with_reducible refine AWP.ret ?_
    | with_reducible refine AWP.label ?_
    | with_reducible refine AWP.goto ?_
    | ((with_reducible refine AWP.condT ?_ ?_); focus (simp only [ev, lk_cons, ↓reduceIte, Nat.reduceEqDiff]; done))
    | ((with_reducible refine AWP.condF ?_ ?_); focus (simp only [ev, lk_cons, ↓reduceIte, Nat.reduceEqDiff]; done))
    | with_reducible refine (h _).use ?_
    | simp only [go_sem, ↓reduceIte, Nat.reduceEqDiff, reduceCtorEq, Nat.reduceAdd, Int.reduceEq, Int.reduceBNe, Int.reduceBEq, Int.reduceToNat, Int.reduceLT, Int.reduceLE, Int.reduceGT, Int.reduceGE, Nat.reduceSub, Nat.reduceBEq, Nat.reduceBNe, Int.reduceAdd, Int.reduceSub, Int.reduceMul, Int.reduceNeg, Nat.reduceMul, Nat.reduceLeDiff, Nat.reduceLT, hl]
    | simp (disch := omega) only [wi64, wu8, wu16, wu32, wu64]
    | with_reducible_and_instances exact finR
    | ((with_reducible refine finR' ?_ ?_) <;> rfl)
    | ((with_reducible refine finD hsc (NRel.of_plain ?_)); exact rfl)
end Go.Proofs.YtmpkgdilmkeacaaDoor
