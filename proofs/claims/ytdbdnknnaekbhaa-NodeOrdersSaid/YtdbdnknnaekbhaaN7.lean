/- A part of the proof of a statement of this seat. -/
import Derived.Test.YtdbdnknnaekbhaaN6
set_option linter.unusedVariables false
set_option linter.unusedSimpArgs false
namespace Go.Proofs.Ytdbdnknnaekbhaa
open Go Go.Aw Go.Proofs
def hStart (k : Nat) : Nat := (14695981039346656037 + k * 11400714819323198485) % 18446744073709551616
theorem start (k : Nat) (hk : k < 18446744073709551616) (H : AHeap) : ARet Try.prog 67 [.int .u64 (k : Nat)] H (.int .u64 (hStart k : Nat)) H := by
  have h1 : IntKind.u64.wrap ((k : Int) * 11400714819323198485) = ((k * 11400714819323198485 % 18446744073709551616 : Nat) : Int) := w64mul k 11400714819323198485
  have h2 : IntKind.u64.wrap (14695981039346656037 + ((k * 11400714819323198485 % 18446744073709551616 : Nat) : Int)) = (hStart k : Int) := by
    have := w64add 14695981039346656037 (k * 11400714819323198485 % 18446744073709551616)
    refine this.trans ?_
    unfold hStart; omega
  refine AC.enter Try.func67 rfl (by kernel_rfl) 6 rfl [.tmp 2] rfl (by simp) fun hsc B => ?_
  repeat first
    | with_reducible refine AWP.seq ?_
    | ((with_reducible refine AWP.region ?_ ?_); exact rfl)
    | with_reducible refine AWP.block ?_
    | with_reducible refine AWP.skip ?_
    | with_reducible refine AWP.exit ?_
    | with_reducible refine AWP.ret ?_
    | with_reducible refine AWP.label ?_
    | with_reducible refine AWP.goto ?_
    | ((with_reducible refine AWP.condT ?_ ?_); focus (simp only [ev, lk_cons, ↓reduceIte, Nat.reduceEqDiff]; done))
    | ((with_reducible refine AWP.condF ?_ ?_); focus (simp only [ev, lk_cons, ↓reduceIte, Nat.reduceEqDiff]; done))
    | simp only [↓regionW_nil, ↓regionW_go, ↓regionW_if, ↓gstep_tt, ↓gstep_ff, ↓gstep_tf, ↓gstep_ft, ↓gstep_no, wantW, gd, ↓op_move, ↓op_assign, ↓op_alloc, ↓op_box, ↓op_build, ↓op_buildSlice, ↓op_load, ↓op_store, ↓op_binOp, ↓op_unOp, ↓op_convert, ↓op_makeInterface, ↓op_makeFunc, ↓op_makeSlice, ↓op_slice, ↓op_fieldAddr, ↓op_field, ↓op_indexAddr, ↓op_index, ↓op_typeAssert, ↓op_extract, ↓op_callV, ↓op_callB, ↓op_callI, ↓op_pick, ↓op_panic, ↓op_nilCheck, ↓pickW_t, ↓pickW_f, ↓pickW_b, ↓panW_i, ↓nilW_p, ↓nilW_f, ↓nilW_i, invokeW, ev, evs, evP, evO, lk_co, lk_nil, ↓wth_so, ↓kv_go, ↓put_so, ↓put_no, ↓next_n, ↓next_e, ↓next_g, ↓next_r, ↓next_p, ↓inB_n, ↓inB_e, ↓inB_g, ↓inB_r, ↓inB_p, ↓resK_r, ↓resK_p, noVal, plain, scalar, List.all_cons, List.all_nil, Bool.and_true, Bool.true_and, Bool.and_self, List.cons_append, List.nil_append, List.append_nil, List.append_assoc, List.getElem?_cons_zero, List.getElem?_cons_succ, List.getElem?_nil, List.set_cons_zero, List.set_cons_succ, Option.bind_some, Option.map_some, ↓reduceIte, Nat.reduceEqDiff, reduceCtorEq, argEnv, Nat.reduceAdd, Nat.zero_add, Nat.add_zero, true_implies, false_implies, decide_true, decide_false, Bool.not_true, Bool.not_false, Bool.true_eq_false, ne_eq, not_true_eq_false, not_false_eq_true, and_true, true_and, builtinW, ↓lenW_bs, lenW, bs_toList', ↓strW_eql, ↓strW_neq, ↓strW_lss, ↓strW_leq, ↓strW_gtr, ↓strW_geq, ↓strW_add, binW_int, binW_str, binW_bool_eql, binW_bool_neq, binW_agg_eql, binW_agg_neq, binW_slice_eql, binW_slice_neq, eqV_bool, eqV_int, eqV_sn, eqV_nn, eqV_ns, unW_not, unW_neg, unW_xor, fillL, placeOf, Int.reduceEq, Int.reduceBNe, Int.reduceBEq, bne_self_eq_false, beq_self_eq_true, Int.reduceToNat, Int.reduceLT, Int.reduceLE, Int.reduceGT, Int.reduceGE, Nat.reduceSub, Nat.reduceBEq, Nat.reduceBNe, Int.reduceAdd, Int.reduceSub, Int.reduceMul, Int.reduceNeg, Nat.reduceMul, Nat.reduceLeDiff, Nat.reduceLT, Int.cast_ofNat_Int, Int.natCast_zero, Nat.le_refl, intW, strW, callV, FPost, LeaveW, resV, packV0, packV1, packV2, extractW, loadW, storeW, indexW, indexAddrW, convW, bitV, fieldW, fieldAddrW, partW, buildW, allocW, boxW, restrict, reads, Op.operands, tmpOf, ASt.only, stepW, Option.toList, List.filterMap_cons, List.filterMap_nil, hget0, hgetk, hset0, hsetk, List.length_append, List.length_cons, List.length_nil, List.length_set, Nat.add_assoc, Option.some.injEq, forall_eq', List.take_succ_cons, List.take_zero, List.drop_succ_cons, List.drop_zero, Nat.mul_one, ownW, Bool.false_eq_true, cellsOf_int, cellsOf_bool, cellsOf_string, cellsOf_agg, cellsOf_pointer, cellsOf_slice, cellsOf_map, cellsOf_func, cellsOf_nilFunc, cellsOf_iface, cellsOf_nilIface, putCells, flat, quietW, mkB, repZ1, appendW, srcW, buildSliceW, sliceW, lowOf, highOf, bs_size, bs_extract, Int.toNat_zero, List.drop_zero, AObj.loop.injEq, roundQ, endR, loopK, exists_eq_left', and_assoc, exists_and_left, exists_const, Call.operands, Int.toNat_natCast, Int.natCast_nonneg, Array.toList_append, bytesC_length, bytesC_set, bytesC_take, bytesC_drop, bytesC_append, bytesC_nil, u8s_bytesC, Try.underlying92, ts92, tb92, ta92, tz92, tv92, tc92, h1, h2]
    | simp (disch := omega) only [wi64, wu8, wu16, wu32, wu64]
    | with_reducible_and_instances exact finR
    | ((with_reducible refine finR' ?_ ?_) <;> rfl)
    | ((with_reducible refine finD hsc (NRel.of_plain ?_)); exact rfl)
def hByte (h : Nat) (b : UInt8) : Nat := ((h ^^^ b.toNat) * 1099511628211 % 18446744073709551616) ^^^ ((h ^^^ b.toNat) * 1099511628211 % 18446744073709551616 / 536870912)
def hEnd (h n : Nat) : Nat := (((h ^^^ n) * 1099511628211 % 18446744073709551616) ^^^ ((h ^^^ n) * 1099511628211 % 18446744073709551616 / 4294967296)) * 1099511628211 % 18446744073709551616
def hOne (s : List UInt8) (h : Nat) : Nat := hEnd (s.foldl hByte h) s.length
theorem xor64_lt {a b : Nat} (ha : a < 18446744073709551616) (hb : b < 18446744073709551616) : a ^^^ b < 18446744073709551616 := Nat.xor_lt_two_pow (n := 64) ha hb
theorem hByte_lt (h : Nat) (b : UInt8) : hByte h b < 18446744073709551616 := xor64_lt (by omega) (by omega)
theorem hFold_lt (s : List UInt8) : ∀ (h : Nat), h < 18446744073709551616 → s.foldl hByte h < 18446744073709551616 := by
  induction s with
  | nil => intro h hh; exact hh
  | cons b s ih => intro h _; exact ih _ (hByte_lt h b)
theorem one (s : List UInt8) (hs : s.length < 1099511627776) (h : Nat) (hh : h < 18446744073709551616) (H : AHeap) : ARet Try.prog 66 [.string (bs s), .int .u64 (h : Nat)] H (.int .u64 (hOne s h : Nat)) H := by
  refine AC.enter Try.func66 rfl (by kernel_rfl) 35 rfl [.tmp 4] rfl (by simp) fun hsc B => ?_
  repeat first
    | with_reducible refine AWP.seq ?_
    | ((with_reducible refine AWP.region ?_ ?_); exact rfl)
    | with_reducible refine AWP.block ?_
    | with_reducible refine AWP.skip ?_
    | with_reducible refine AWP.exit ?_
    | with_reducible refine AWP.ret ?_
    | with_reducible refine AWP.label ?_
    | with_reducible refine AWP.goto ?_
    | ((with_reducible refine AWP.condT ?_ ?_); focus (simp only [ev, lk_cons, ↓reduceIte, Nat.reduceEqDiff]; done))
    | ((with_reducible refine AWP.condF ?_ ?_); focus (simp only [ev, lk_cons, ↓reduceIte, Nat.reduceEqDiff]; done))
    | simp only [↓regionW_nil, ↓regionW_go, ↓regionW_if, ↓gstep_tt, ↓gstep_ff, ↓gstep_tf, ↓gstep_ft, ↓gstep_no, wantW, gd, ↓op_move, ↓op_assign, ↓op_alloc, ↓op_box, ↓op_build, ↓op_buildSlice, ↓op_load, ↓op_store, ↓op_binOp, ↓op_unOp, ↓op_convert, ↓op_makeInterface, ↓op_makeFunc, ↓op_makeSlice, ↓op_slice, ↓op_fieldAddr, ↓op_field, ↓op_indexAddr, ↓op_index, ↓op_typeAssert, ↓op_extract, ↓op_callV, ↓op_callB, ↓op_callI, ↓op_pick, ↓op_panic, ↓op_nilCheck, ↓pickW_t, ↓pickW_f, ↓pickW_b, ↓panW_i, ↓nilW_p, ↓nilW_f, ↓nilW_i, invokeW, ev, evs, evP, evO, lk_co, lk_nil, ↓wth_so, ↓kv_go, ↓put_so, ↓put_no, ↓next_n, ↓next_e, ↓next_g, ↓next_r, ↓next_p, ↓inB_n, ↓inB_e, ↓inB_g, ↓inB_r, ↓inB_p, ↓resK_r, ↓resK_p, noVal, plain, scalar, List.all_cons, List.all_nil, Bool.and_true, Bool.true_and, Bool.and_self, List.cons_append, List.nil_append, List.append_nil, List.append_assoc, List.getElem?_cons_zero, List.getElem?_cons_succ, List.getElem?_nil, List.set_cons_zero, List.set_cons_succ, Option.bind_some, Option.map_some, ↓reduceIte, Nat.reduceEqDiff, reduceCtorEq, argEnv, Nat.reduceAdd, Nat.zero_add, Nat.add_zero, true_implies, false_implies, decide_true, decide_false, Bool.not_true, Bool.not_false, Bool.true_eq_false, ne_eq, not_true_eq_false, not_false_eq_true, and_true, true_and, builtinW, ↓lenW_bs, lenW, bs_toList', ↓strW_eql, ↓strW_neq, ↓strW_lss, ↓strW_leq, ↓strW_gtr, ↓strW_geq, ↓strW_add, binW_int, binW_str, binW_bool_eql, binW_bool_neq, binW_agg_eql, binW_agg_neq, binW_slice_eql, binW_slice_neq, eqV_bool, eqV_int, eqV_sn, eqV_nn, eqV_ns, unW_not, unW_neg, unW_xor, fillL, placeOf, Int.reduceEq, Int.reduceBNe, Int.reduceBEq, bne_self_eq_false, beq_self_eq_true, Int.reduceToNat, Int.reduceLT, Int.reduceLE, Int.reduceGT, Int.reduceGE, Nat.reduceSub, Nat.reduceBEq, Nat.reduceBNe, Int.reduceAdd, Int.reduceSub, Int.reduceMul, Int.reduceNeg, Nat.reduceMul, Nat.reduceLeDiff, Nat.reduceLT, Int.cast_ofNat_Int, Int.natCast_zero, Nat.le_refl, intW, strW, callV, FPost, LeaveW, resV, packV0, packV1, packV2, extractW, loadW, storeW, indexW, indexAddrW, convW, bitV, fieldW, fieldAddrW, partW, buildW, allocW, boxW, restrict, reads, Op.operands, tmpOf, ASt.only, stepW, Option.toList, List.filterMap_cons, List.filterMap_nil, hget0, hgetk, hset0, hsetk, List.length_append, List.length_cons, List.length_nil, List.length_set, Nat.add_assoc, Option.some.injEq, forall_eq', List.take_succ_cons, List.take_zero, List.drop_succ_cons, List.drop_zero, Nat.mul_one, ownW, Bool.false_eq_true, cellsOf_int, cellsOf_bool, cellsOf_string, cellsOf_agg, cellsOf_pointer, cellsOf_slice, cellsOf_map, cellsOf_func, cellsOf_nilFunc, cellsOf_iface, cellsOf_nilIface, putCells, flat, quietW, mkB, repZ1, appendW, srcW, buildSliceW, sliceW, lowOf, highOf, bs_size, bs_extract, Int.toNat_zero, List.drop_zero, AObj.loop.injEq, roundQ, endR, loopK, exists_eq_left', and_assoc, exists_and_left, exists_const, Call.operands, Int.toNat_natCast, Int.natCast_nonneg, Array.toList_append, bytesC_length, bytesC_set, bytesC_take, bytesC_drop, bytesC_append, bytesC_nil, u8s_bytesC, Try.underlying3, ts3, tb3, ta3, tz3, tv3, tc3, Try.underlying5, ts5, tb5, ta5, tz5, tv5, tc5, Try.underlying9, ts9, tb9, ta9, tz9, tv9, tc9, Try.underlying92, ts92, tb92, ta92, tz92, tv92, tc92]
    | simp (disch := omega) only [wi64, wu8, wu16, wu32, wu64]
    | with_reducible_and_instances exact finR
    | ((with_reducible refine finR' ?_ ?_) <;> rfl)
    | ((with_reducible refine finD hsc (NRel.of_plain ?_)); exact rfl)
  refine AWP.loopP (fun n : Nat => ⟨[(8, .int .i64 (n : Nat)), (7, .int .i64 s.length), (0, .string (bs s)), (1, .int .u64 ((s.take n).foldl hByte h : Nat))], [], H⟩) (fun n => n ≤ s.length) (fun n => s.length - n) 0 ?_ (by simp) ?_
  · exact Weak.env (by simp [envIn, lk_cons, wth_some])
  intro n hn
  have hg := hFold_lt (s.take n) h hh
  generalize hgv : (s.take n).foldl hByte h = g at hg
  by_cases hc : n < s.length
  · have hc' : (n : Int) < (s.length : Int) := by omega
    have hsn : s[n]? = some s[n] := List.getElem?_eq_getElem hc
    have hb := (s[n]).toNat_lt
    have e1 := bw64_xor g (s[n]).toNat hg (by omega)
    have e2 : IntKind.u64.wrap (((g ^^^ (s[n]).toNat : Nat) : Int) * 1099511628211) = (((g ^^^ (s[n]).toNat) * 1099511628211 % 18446744073709551616 : Nat) : Int) := w64mul _ 1099511628211
    have e3 : ((((g ^^^ (s[n]).toNat) * 1099511628211 % 18446744073709551616 : Nat) : Int)).tdiv 536870912 = (((g ^^^ (s[n]).toNat) * 1099511628211 % 18446744073709551616 / 536870912 : Nat) : Int) := rfl
    have e4 : IntKind.u64.wrap (((g ^^^ (s[n]).toNat) * 1099511628211 % 18446744073709551616 / 536870912 : Nat) : Int) = (((g ^^^ (s[n]).toNat) * 1099511628211 % 18446744073709551616 / 536870912 : Nat) : Int) := wu64 (by omega)
    have e5 := bw64_xor ((g ^^^ (s[n]).toNat) * 1099511628211 % 18446744073709551616) ((g ^^^ (s[n]).toNat) * 1099511628211 % 18446744073709551616 / 536870912) (by omega) (by omega)
    repeat first
      | with_reducible refine AWP.seq ?_
      | ((with_reducible refine AWP.region ?_ ?_); exact rfl)
      | with_reducible refine AWP.block ?_
      | with_reducible refine AWP.skip ?_
      | with_reducible refine AWP.exit ?_
      | with_reducible refine AWP.ret ?_
      | with_reducible refine AWP.label ?_
      | with_reducible refine AWP.goto ?_
      | ((with_reducible refine AWP.condT ?_ ?_); focus (simp only [ev, lk_cons, ↓reduceIte, Nat.reduceEqDiff]; done))
      | ((with_reducible refine AWP.condF ?_ ?_); focus (simp only [ev, lk_cons, ↓reduceIte, Nat.reduceEqDiff]; done))
      | simp only [↓regionW_nil, ↓regionW_go, ↓regionW_if, ↓gstep_tt, ↓gstep_ff, ↓gstep_tf, ↓gstep_ft, ↓gstep_no, wantW, gd, ↓op_move, ↓op_assign, ↓op_alloc, ↓op_box, ↓op_build, ↓op_buildSlice, ↓op_load, ↓op_store, ↓op_binOp, ↓op_unOp, ↓op_convert, ↓op_makeInterface, ↓op_makeFunc, ↓op_makeSlice, ↓op_slice, ↓op_fieldAddr, ↓op_field, ↓op_indexAddr, ↓op_index, ↓op_typeAssert, ↓op_extract, ↓op_callV, ↓op_callB, ↓op_callI, ↓op_pick, ↓op_panic, ↓op_nilCheck, ↓pickW_t, ↓pickW_f, ↓pickW_b, ↓panW_i, ↓nilW_p, ↓nilW_f, ↓nilW_i, invokeW, ev, evs, evP, evO, lk_co, lk_nil, ↓wth_so, ↓kv_go, ↓put_so, ↓put_no, ↓next_n, ↓next_e, ↓next_g, ↓next_r, ↓next_p, ↓inB_n, ↓inB_e, ↓inB_g, ↓inB_r, ↓inB_p, ↓resK_r, ↓resK_p, noVal, plain, scalar, List.all_cons, List.all_nil, Bool.and_true, Bool.true_and, Bool.and_self, List.cons_append, List.nil_append, List.append_nil, List.append_assoc, List.getElem?_cons_zero, List.getElem?_cons_succ, List.getElem?_nil, List.set_cons_zero, List.set_cons_succ, Option.bind_some, Option.map_some, ↓reduceIte, Nat.reduceEqDiff, reduceCtorEq, argEnv, Nat.reduceAdd, Nat.zero_add, Nat.add_zero, true_implies, false_implies, decide_true, decide_false, Bool.not_true, Bool.not_false, Bool.true_eq_false, ne_eq, not_true_eq_false, not_false_eq_true, and_true, true_and, builtinW, ↓lenW_bs, lenW, bs_toList', ↓strW_eql, ↓strW_neq, ↓strW_lss, ↓strW_leq, ↓strW_gtr, ↓strW_geq, ↓strW_add, binW_int, binW_str, binW_bool_eql, binW_bool_neq, binW_agg_eql, binW_agg_neq, binW_slice_eql, binW_slice_neq, eqV_bool, eqV_int, eqV_sn, eqV_nn, eqV_ns, unW_not, unW_neg, unW_xor, fillL, placeOf, Int.reduceEq, Int.reduceBNe, Int.reduceBEq, bne_self_eq_false, beq_self_eq_true, Int.reduceToNat, Int.reduceLT, Int.reduceLE, Int.reduceGT, Int.reduceGE, Nat.reduceSub, Nat.reduceBEq, Nat.reduceBNe, Int.reduceAdd, Int.reduceSub, Int.reduceMul, Int.reduceNeg, Nat.reduceMul, Nat.reduceLeDiff, Nat.reduceLT, Int.cast_ofNat_Int, Int.natCast_zero, Nat.le_refl, intW, strW, callV, FPost, LeaveW, resV, packV0, packV1, packV2, extractW, loadW, storeW, indexW, indexAddrW, convW, bitV, fieldW, fieldAddrW, partW, buildW, allocW, boxW, restrict, reads, Op.operands, tmpOf, ASt.only, stepW, Option.toList, List.filterMap_cons, List.filterMap_nil, hget0, hgetk, hset0, hsetk, List.length_append, List.length_cons, List.length_nil, List.length_set, Nat.add_assoc, Option.some.injEq, forall_eq', List.take_succ_cons, List.take_zero, List.drop_succ_cons, List.drop_zero, Nat.mul_one, ownW, Bool.false_eq_true, cellsOf_int, cellsOf_bool, cellsOf_string, cellsOf_agg, cellsOf_pointer, cellsOf_slice, cellsOf_map, cellsOf_func, cellsOf_nilFunc, cellsOf_iface, cellsOf_nilIface, putCells, flat, quietW, mkB, repZ1, appendW, srcW, buildSliceW, sliceW, lowOf, highOf, bs_size, bs_extract, Int.toNat_zero, List.drop_zero, AObj.loop.injEq, roundQ, endR, loopK, exists_eq_left', and_assoc, exists_and_left, exists_const, Call.operands, Int.toNat_natCast, Int.natCast_nonneg, Array.toList_append, bytesC_length, bytesC_set, bytesC_take, bytesC_drop, bytesC_append, bytesC_nil, u8s_bytesC, Try.underlying3, ts3, tb3, ta3, tz3, tv3, tc3, Try.underlying5, ts5, tb5, ta5, tz5, tv5, tc5, Try.underlying9, ts9, tb9, ta9, tz9, tv9, tc9, Try.underlying92, ts92, tb92, ta92, tz92, tv92, tc92, hc', hsn, e1, e2, e3, e4, e5]
      | simp (disch := omega) only [wi64, wu8, wu16, wu32, wu64]
      | with_reducible_and_instances exact finR
      | ((with_reducible refine finR' ?_ ?_) <;> rfl)
      | ((with_reducible refine finD hsc (NRel.of_plain ?_)); exact rfl)
    have e6 : (s.take (n + 1)).foldl hByte h = hByte g s[n] := by
      rw [← List.take_append_getElem hc, List.foldl_append, hgv, List.foldl_cons, List.foldl_nil]
    refine ⟨n + 1, Weak.env ?_, by omega, by omega⟩
    rw [e6]
    simp [envIn, lk_cons, wth_some, hByte]
  · have : n = s.length := by omega
    subst this
    rw [List.take_length] at hgv
    have hd : decide ((s.length : Int) < (s.length : Int)) = false := by simp
    have e1 := bw64_xor g s.length hg (by omega)
    have e2 : IntKind.u64.wrap (((g ^^^ s.length : Nat) : Int) * 1099511628211) = (((g ^^^ s.length) * 1099511628211 % 18446744073709551616 : Nat) : Int) := w64mul _ 1099511628211
    have e3 : ((((g ^^^ s.length) * 1099511628211 % 18446744073709551616 : Nat) : Int)).tdiv 4294967296 = (((g ^^^ s.length) * 1099511628211 % 18446744073709551616 / 4294967296 : Nat) : Int) := rfl
    have e4 : IntKind.u64.wrap (((g ^^^ s.length) * 1099511628211 % 18446744073709551616 / 4294967296 : Nat) : Int) = (((g ^^^ s.length) * 1099511628211 % 18446744073709551616 / 4294967296 : Nat) : Int) := wu64 (by omega)
    have e5 := bw64_xor ((g ^^^ s.length) * 1099511628211 % 18446744073709551616) ((g ^^^ s.length) * 1099511628211 % 18446744073709551616 / 4294967296) (by omega) (by omega)
    have e6 : IntKind.u64.wrap ((((g ^^^ s.length) * 1099511628211 % 18446744073709551616) ^^^ ((g ^^^ s.length) * 1099511628211 % 18446744073709551616 / 4294967296) : Nat) * 1099511628211) = (hOne s h : Int) := by
      rw [hOne, hgv]; exact w64mul _ 1099511628211
    have e7 : IntKind.u64.wrap (s.length : Int) = (s.length : Int) := wu64 (by omega)
    repeat first
      | with_reducible refine AWP.seq ?_
      | ((with_reducible refine AWP.region ?_ ?_); exact rfl)
      | with_reducible refine AWP.block ?_
      | with_reducible refine AWP.skip ?_
      | with_reducible refine AWP.exit ?_
      | with_reducible refine AWP.ret ?_
      | with_reducible refine AWP.label ?_
      | with_reducible refine AWP.goto ?_
      | ((with_reducible refine AWP.condT ?_ ?_); focus (simp only [ev, lk_cons, ↓reduceIte, Nat.reduceEqDiff]; done))
      | ((with_reducible refine AWP.condF ?_ ?_); focus (simp only [ev, lk_cons, ↓reduceIte, Nat.reduceEqDiff]; done))
      | simp only [↓regionW_nil, ↓regionW_go, ↓regionW_if, ↓gstep_tt, ↓gstep_ff, ↓gstep_tf, ↓gstep_ft, ↓gstep_no, wantW, gd, ↓op_move, ↓op_assign, ↓op_alloc, ↓op_box, ↓op_build, ↓op_buildSlice, ↓op_load, ↓op_store, ↓op_binOp, ↓op_unOp, ↓op_convert, ↓op_makeInterface, ↓op_makeFunc, ↓op_makeSlice, ↓op_slice, ↓op_fieldAddr, ↓op_field, ↓op_indexAddr, ↓op_index, ↓op_typeAssert, ↓op_extract, ↓op_callV, ↓op_callB, ↓op_callI, ↓op_pick, ↓op_panic, ↓op_nilCheck, ↓pickW_t, ↓pickW_f, ↓pickW_b, ↓panW_i, ↓nilW_p, ↓nilW_f, ↓nilW_i, invokeW, ev, evs, evP, evO, lk_co, lk_nil, ↓wth_so, ↓kv_go, ↓put_so, ↓put_no, ↓next_n, ↓next_e, ↓next_g, ↓next_r, ↓next_p, ↓inB_n, ↓inB_e, ↓inB_g, ↓inB_r, ↓inB_p, ↓resK_r, ↓resK_p, noVal, plain, scalar, List.all_cons, List.all_nil, Bool.and_true, Bool.true_and, Bool.and_self, List.cons_append, List.nil_append, List.append_nil, List.append_assoc, List.getElem?_cons_zero, List.getElem?_cons_succ, List.getElem?_nil, List.set_cons_zero, List.set_cons_succ, Option.bind_some, Option.map_some, ↓reduceIte, Nat.reduceEqDiff, reduceCtorEq, argEnv, Nat.reduceAdd, Nat.zero_add, Nat.add_zero, true_implies, false_implies, decide_true, decide_false, Bool.not_true, Bool.not_false, Bool.true_eq_false, ne_eq, not_true_eq_false, not_false_eq_true, and_true, true_and, builtinW, ↓lenW_bs, lenW, bs_toList', ↓strW_eql, ↓strW_neq, ↓strW_lss, ↓strW_leq, ↓strW_gtr, ↓strW_geq, ↓strW_add, binW_int, binW_str, binW_bool_eql, binW_bool_neq, binW_agg_eql, binW_agg_neq, binW_slice_eql, binW_slice_neq, eqV_bool, eqV_int, eqV_sn, eqV_nn, eqV_ns, unW_not, unW_neg, unW_xor, fillL, placeOf, Int.reduceEq, Int.reduceBNe, Int.reduceBEq, bne_self_eq_false, beq_self_eq_true, Int.reduceToNat, Int.reduceLT, Int.reduceLE, Int.reduceGT, Int.reduceGE, Nat.reduceSub, Nat.reduceBEq, Nat.reduceBNe, Int.reduceAdd, Int.reduceSub, Int.reduceMul, Int.reduceNeg, Nat.reduceMul, Nat.reduceLeDiff, Nat.reduceLT, Int.cast_ofNat_Int, Int.natCast_zero, Nat.le_refl, intW, strW, callV, FPost, LeaveW, resV, packV0, packV1, packV2, extractW, loadW, storeW, indexW, indexAddrW, convW, bitV, fieldW, fieldAddrW, partW, buildW, allocW, boxW, restrict, reads, Op.operands, tmpOf, ASt.only, stepW, Option.toList, List.filterMap_cons, List.filterMap_nil, hget0, hgetk, hset0, hsetk, List.length_append, List.length_cons, List.length_nil, List.length_set, Nat.add_assoc, Option.some.injEq, forall_eq', List.take_succ_cons, List.take_zero, List.drop_succ_cons, List.drop_zero, Nat.mul_one, ownW, Bool.false_eq_true, cellsOf_int, cellsOf_bool, cellsOf_string, cellsOf_agg, cellsOf_pointer, cellsOf_slice, cellsOf_map, cellsOf_func, cellsOf_nilFunc, cellsOf_iface, cellsOf_nilIface, putCells, flat, quietW, mkB, repZ1, appendW, srcW, buildSliceW, sliceW, lowOf, highOf, bs_size, bs_extract, Int.toNat_zero, List.drop_zero, AObj.loop.injEq, roundQ, endR, loopK, exists_eq_left', and_assoc, exists_and_left, exists_const, Call.operands, Int.toNat_natCast, Int.natCast_nonneg, Array.toList_append, bytesC_length, bytesC_set, bytesC_take, bytesC_drop, bytesC_append, bytesC_nil, u8s_bytesC, Try.underlying3, ts3, tb3, ta3, tz3, tv3, tc3, Try.underlying5, ts5, tb5, ta5, tz5, tv5, tc5, Try.underlying9, ts9, tb9, ta9, tz9, tv9, tc9, Try.underlying92, ts92, tb92, ta92, tz92, tv92, tc92, hd, e1, e2, e3, e4, e5, e6, e7]
      | simp (disch := omega) only [wi64, wu8, wu16, wu32, wu64]
      | with_reducible_and_instances exact finR
      | ((with_reducible refine finR' ?_ ?_) <;> rfl)
      | ((with_reducible refine finD hsc (NRel.of_plain ?_)); exact rfl)
def eightB (h n j : Nat) : UInt8 := if 7 - j < n then UInt8.ofNat (h / 256 ^ (7 - j)) else 0
theorem eight (h : Nat) (hh : h < 18446744073709551616) (H : AHeap) : ARet Try.prog 65 [.int .u64 (h : Nat)] H (.string (bs ((List.range 8).map (eightB h 8)))) H := by
  refine AC.enter Try.func65 rfl (by kernel_rfl) 21 rfl [.tmp 2] rfl (by simp) fun hsc B => ?_
  repeat first
    | with_reducible refine AWP.seq ?_
    | ((with_reducible refine AWP.region ?_ ?_); exact rfl)
    | with_reducible refine AWP.block ?_
    | with_reducible refine AWP.skip ?_
    | with_reducible refine AWP.exit ?_
    | with_reducible refine AWP.ret ?_
    | with_reducible refine AWP.label ?_
    | with_reducible refine AWP.goto ?_
    | ((with_reducible refine AWP.condT ?_ ?_); focus (simp only [ev, lk_cons, ↓reduceIte, Nat.reduceEqDiff]; done))
    | ((with_reducible refine AWP.condF ?_ ?_); focus (simp only [ev, lk_cons, ↓reduceIte, Nat.reduceEqDiff]; done))
    | simp only [↓regionW_nil, ↓regionW_go, ↓regionW_if, ↓gstep_tt, ↓gstep_ff, ↓gstep_tf, ↓gstep_ft, ↓gstep_no, wantW, gd, ↓op_move, ↓op_assign, ↓op_alloc, ↓op_box, ↓op_build, ↓op_buildSlice, ↓op_load, ↓op_store, ↓op_binOp, ↓op_unOp, ↓op_convert, ↓op_makeInterface, ↓op_makeFunc, ↓op_makeSlice, ↓op_slice, ↓op_fieldAddr, ↓op_field, ↓op_indexAddr, ↓op_index, ↓op_typeAssert, ↓op_extract, ↓op_callV, ↓op_callB, ↓op_callI, ↓op_pick, ↓op_panic, ↓op_nilCheck, ↓pickW_t, ↓pickW_f, ↓pickW_b, ↓panW_i, ↓nilW_p, ↓nilW_f, ↓nilW_i, invokeW, ev, evs, evP, evO, lk_co, lk_nil, ↓wth_so, ↓kv_go, ↓put_so, ↓put_no, ↓next_n, ↓next_e, ↓next_g, ↓next_r, ↓next_p, ↓inB_n, ↓inB_e, ↓inB_g, ↓inB_r, ↓inB_p, ↓resK_r, ↓resK_p, noVal, plain, scalar, List.all_cons, List.all_nil, Bool.and_true, Bool.true_and, Bool.and_self, List.cons_append, List.nil_append, List.append_nil, List.append_assoc, List.getElem?_cons_zero, List.getElem?_cons_succ, List.getElem?_nil, List.set_cons_zero, List.set_cons_succ, Option.bind_some, Option.map_some, ↓reduceIte, Nat.reduceEqDiff, reduceCtorEq, argEnv, Nat.reduceAdd, Nat.zero_add, Nat.add_zero, true_implies, false_implies, decide_true, decide_false, Bool.not_true, Bool.not_false, Bool.true_eq_false, ne_eq, not_true_eq_false, not_false_eq_true, and_true, true_and, builtinW, ↓lenW_bs, lenW, bs_toList', ↓strW_eql, ↓strW_neq, ↓strW_lss, ↓strW_leq, ↓strW_gtr, ↓strW_geq, ↓strW_add, binW_int, binW_str, binW_bool_eql, binW_bool_neq, binW_agg_eql, binW_agg_neq, binW_slice_eql, binW_slice_neq, eqV_bool, eqV_int, eqV_sn, eqV_nn, eqV_ns, unW_not, unW_neg, unW_xor, fillL, placeOf, Int.reduceEq, Int.reduceBNe, Int.reduceBEq, bne_self_eq_false, beq_self_eq_true, Int.reduceToNat, Int.reduceLT, Int.reduceLE, Int.reduceGT, Int.reduceGE, Nat.reduceSub, Nat.reduceBEq, Nat.reduceBNe, Int.reduceAdd, Int.reduceSub, Int.reduceMul, Int.reduceNeg, Nat.reduceMul, Nat.reduceLeDiff, Nat.reduceLT, Int.cast_ofNat_Int, Int.natCast_zero, Nat.le_refl, intW, strW, callV, FPost, LeaveW, resV, packV0, packV1, packV2, extractW, loadW, storeW, indexW, indexAddrW, convW, bitV, fieldW, fieldAddrW, partW, buildW, allocW, boxW, restrict, reads, Op.operands, tmpOf, ASt.only, stepW, Option.toList, List.filterMap_cons, List.filterMap_nil, hget0, hgetk, hset0, hsetk, List.length_append, List.length_cons, List.length_nil, List.length_set, Nat.add_assoc, Option.some.injEq, forall_eq', List.take_succ_cons, List.take_zero, List.drop_succ_cons, List.drop_zero, Nat.mul_one, ownW, Bool.false_eq_true, cellsOf_int, cellsOf_bool, cellsOf_string, cellsOf_agg, cellsOf_pointer, cellsOf_slice, cellsOf_map, cellsOf_func, cellsOf_nilFunc, cellsOf_iface, cellsOf_nilIface, putCells, flat, quietW, mkB, repZ1, appendW, srcW, buildSliceW, sliceW, lowOf, highOf, bs_size, bs_extract, Int.toNat_zero, List.drop_zero, AObj.loop.injEq, roundQ, endR, loopK, exists_eq_left', and_assoc, exists_and_left, exists_const, Call.operands, Int.toNat_natCast, Int.natCast_nonneg, Array.toList_append, bytesC_length, bytesC_set, bytesC_take, bytesC_drop, bytesC_append, bytesC_nil, u8s_bytesC, Try.underlying3, ts3, tb3, ta3, tz3, tv3, tc3, Try.underlying5, ts5, tb5, ta5, tz5, tv5, tc5, Try.underlying9, ts9, tb9, ta9, tz9, tv9, tc9, Try.underlying74, ts74, tb74, ta74, tz74, tv74, tc74, Try.underlying92, ts92, tb92, ta92, tz92, tv92, tc92, makeSliceW]
    | simp (disch := omega) only [wi64, wu8, wu16, wu32, wu64]
    | with_reducible_and_instances exact finR
    | ((with_reducible refine finR' ?_ ?_) <;> rfl)
    | ((with_reducible refine finD hsc (NRel.of_plain ?_)); exact rfl)
  refine AWP.loopP (fun n : Nat => ⟨[(6, .int .i64 (n : Nat)), (3, .slice (some ⟨H.length, 0, none⟩) 8 8), (0, .int .u64 (h / 256 ^ n : Nat))], [], H ++ [.cells (bytesC ((List.range 8).map (eightB h n))) ⟨5, 0, true, 0, none⟩]⟩) (fun n => n ≤ 8) (fun n => 8 - n) 0 ?_ (by simp) ?_
  · have : repZ 8 [Value.int .u8 0] = bytesC ((List.range 8).map (eightB h 0)) := by
      rw [repZ_one, bytesC_zeros]
      congr 1
    rw [this]
    exact Weak.env (by simp [envIn, lk_cons, wth_some])
  intro n hn
  by_cases hc : n < 8
  · have hc' : (n : Int) < 8 := by omega
    have hq : h / 256 ^ n < 18446744073709551616 := Nat.lt_of_le_of_lt (Nat.div_le_self _ _) hh
    have e0 : (7 - (n : Int)).toNat = 7 - n := by omega
    have e1 : (0 : Int) ≤ 7 - (n : Int) := by omega
    have e2 : (7 - (n : Int)) < 8 := by omega
    have hl : (eightB h n) = (eightB h n) := rfl
    generalize hqv : h / 256 ^ n = q at hq
    have e3 : (q : Int).tmod 256 = ((q % 256 : Nat) : Int) := tmodN
    have e4 : IntKind.u8.wrap ((q % 256 : Nat) : Int) = ((UInt8.ofNat q).toNat : Int) := by rw [w8c]; simp
    have e5 : (q : Int).tdiv 256 = ((q / 256 : Nat) : Int) := tdivN
    have e6 : IntKind.u64.wrap ((q / 256 : Nat) : Int) = ((q / 256 : Nat) : Int) := wu64 (by omega)
    repeat first
      | with_reducible refine AWP.seq ?_
      | ((with_reducible refine AWP.region ?_ ?_); exact rfl)
      | with_reducible refine AWP.block ?_
      | with_reducible refine AWP.skip ?_
      | with_reducible refine AWP.exit ?_
      | with_reducible refine AWP.ret ?_
      | with_reducible refine AWP.label ?_
      | with_reducible refine AWP.goto ?_
      | ((with_reducible refine AWP.condT ?_ ?_); focus (simp only [ev, lk_cons, ↓reduceIte, Nat.reduceEqDiff]; done))
      | ((with_reducible refine AWP.condF ?_ ?_); focus (simp only [ev, lk_cons, ↓reduceIte, Nat.reduceEqDiff]; done))
      | simp only [↓regionW_nil, ↓regionW_go, ↓regionW_if, ↓gstep_tt, ↓gstep_ff, ↓gstep_tf, ↓gstep_ft, ↓gstep_no, wantW, gd, ↓op_move, ↓op_assign, ↓op_alloc, ↓op_box, ↓op_build, ↓op_buildSlice, ↓op_load, ↓op_store, ↓op_binOp, ↓op_unOp, ↓op_convert, ↓op_makeInterface, ↓op_makeFunc, ↓op_makeSlice, ↓op_slice, ↓op_fieldAddr, ↓op_field, ↓op_indexAddr, ↓op_index, ↓op_typeAssert, ↓op_extract, ↓op_callV, ↓op_callB, ↓op_callI, ↓op_pick, ↓op_panic, ↓op_nilCheck, ↓pickW_t, ↓pickW_f, ↓pickW_b, ↓panW_i, ↓nilW_p, ↓nilW_f, ↓nilW_i, invokeW, ev, evs, evP, evO, lk_co, lk_nil, ↓wth_so, ↓kv_go, ↓put_so, ↓put_no, ↓next_n, ↓next_e, ↓next_g, ↓next_r, ↓next_p, ↓inB_n, ↓inB_e, ↓inB_g, ↓inB_r, ↓inB_p, ↓resK_r, ↓resK_p, noVal, plain, scalar, List.all_cons, List.all_nil, Bool.and_true, Bool.true_and, Bool.and_self, List.cons_append, List.nil_append, List.append_nil, List.append_assoc, List.getElem?_cons_zero, List.getElem?_cons_succ, List.getElem?_nil, List.set_cons_zero, List.set_cons_succ, Option.bind_some, Option.map_some, ↓reduceIte, Nat.reduceEqDiff, reduceCtorEq, argEnv, Nat.reduceAdd, Nat.zero_add, Nat.add_zero, true_implies, false_implies, decide_true, decide_false, Bool.not_true, Bool.not_false, Bool.true_eq_false, ne_eq, not_true_eq_false, not_false_eq_true, and_true, true_and, builtinW, ↓lenW_bs, lenW, bs_toList', ↓strW_eql, ↓strW_neq, ↓strW_lss, ↓strW_leq, ↓strW_gtr, ↓strW_geq, ↓strW_add, binW_int, binW_str, binW_bool_eql, binW_bool_neq, binW_agg_eql, binW_agg_neq, binW_slice_eql, binW_slice_neq, eqV_bool, eqV_int, eqV_sn, eqV_nn, eqV_ns, unW_not, unW_neg, unW_xor, fillL, placeOf, Int.reduceEq, Int.reduceBNe, Int.reduceBEq, bne_self_eq_false, beq_self_eq_true, Int.reduceToNat, Int.reduceLT, Int.reduceLE, Int.reduceGT, Int.reduceGE, Nat.reduceSub, Nat.reduceBEq, Nat.reduceBNe, Int.reduceAdd, Int.reduceSub, Int.reduceMul, Int.reduceNeg, Nat.reduceMul, Nat.reduceLeDiff, Nat.reduceLT, Int.cast_ofNat_Int, Int.natCast_zero, Nat.le_refl, intW, strW, callV, FPost, LeaveW, resV, packV0, packV1, packV2, extractW, loadW, storeW, indexW, indexAddrW, convW, bitV, fieldW, fieldAddrW, partW, buildW, allocW, boxW, restrict, reads, Op.operands, tmpOf, ASt.only, stepW, Option.toList, List.filterMap_cons, List.filterMap_nil, hget0, hgetk, hset0, hsetk, List.length_append, List.length_cons, List.length_nil, List.length_set, Nat.add_assoc, Option.some.injEq, forall_eq', List.take_succ_cons, List.take_zero, List.drop_succ_cons, List.drop_zero, Nat.mul_one, ownW, Bool.false_eq_true, cellsOf_int, cellsOf_bool, cellsOf_string, cellsOf_agg, cellsOf_pointer, cellsOf_slice, cellsOf_map, cellsOf_func, cellsOf_nilFunc, cellsOf_iface, cellsOf_nilIface, putCells, flat, quietW, mkB, repZ1, appendW, srcW, buildSliceW, sliceW, lowOf, highOf, bs_size, bs_extract, Int.toNat_zero, List.drop_zero, AObj.loop.injEq, roundQ, endR, loopK, exists_eq_left', and_assoc, exists_and_left, exists_const, Call.operands, Int.toNat_natCast, Int.natCast_nonneg, Array.toList_append, bytesC_length, bytesC_set, bytesC_take, bytesC_drop, bytesC_append, bytesC_nil, u8s_bytesC, Try.underlying3, ts3, tb3, ta3, tz3, tv3, tc3, Try.underlying5, ts5, tb5, ta5, tz5, tv5, tc5, Try.underlying9, ts9, tb9, ta9, tz9, tv9, tc9, Try.underlying74, ts74, tb74, ta74, tz74, tv74, tc74, Try.underlying92, ts92, tb92, ta92, tz92, tv92, tc92, hc', e0, e1, e2, e3, e4, e5, e6]
      | simp (disch := omega) only [wi64, wu8, wu16, wu32, wu64]
      | with_reducible_and_instances exact finR
      | ((with_reducible refine finR' ?_ ?_) <;> rfl)
      | ((with_reducible refine finD hsc (NRel.of_plain ?_)); exact rfl)
    refine ⟨Nat.zero_le _, by rw [List.length_map, List.length_range]; omega, ?_⟩
    have e7 : ((List.range 8).map (eightB h n)).set (7 - n) (UInt8.ofNat q) = (List.range 8).map (eightB h (n + 1)) := by
      refine range_set 8 (7 - n) (eightB h n) (eightB h (n + 1)) _ (by omega) ?_ (fun m hm8 hm => ?_)
      · unfold eightB
        rw [if_pos (by omega), show 7 - (7 - n) = n by omega, hqv]
      · unfold eightB
        by_cases h1 : 7 - m < n
        · rw [if_pos h1, if_pos (by omega)]
        · by_cases h2 : 7 - m = n
          · omega
          · rw [if_neg h1, if_neg (by omega)]
    rw [e7]
    repeat first
      | with_reducible refine AWP.seq ?_
      | ((with_reducible refine AWP.region ?_ ?_); exact rfl)
      | with_reducible refine AWP.block ?_
      | with_reducible refine AWP.skip ?_
      | with_reducible refine AWP.exit ?_
      | with_reducible refine AWP.ret ?_
      | with_reducible refine AWP.label ?_
      | with_reducible refine AWP.goto ?_
      | ((with_reducible refine AWP.condT ?_ ?_); focus (simp only [ev, lk_cons, ↓reduceIte, Nat.reduceEqDiff]; done))
      | ((with_reducible refine AWP.condF ?_ ?_); focus (simp only [ev, lk_cons, ↓reduceIte, Nat.reduceEqDiff]; done))
      | simp only [↓regionW_nil, ↓regionW_go, ↓regionW_if, ↓gstep_tt, ↓gstep_ff, ↓gstep_tf, ↓gstep_ft, ↓gstep_no, wantW, gd, ↓op_move, ↓op_assign, ↓op_alloc, ↓op_box, ↓op_build, ↓op_buildSlice, ↓op_load, ↓op_store, ↓op_binOp, ↓op_unOp, ↓op_convert, ↓op_makeInterface, ↓op_makeFunc, ↓op_makeSlice, ↓op_slice, ↓op_fieldAddr, ↓op_field, ↓op_indexAddr, ↓op_index, ↓op_typeAssert, ↓op_extract, ↓op_callV, ↓op_callB, ↓op_callI, ↓op_pick, ↓op_panic, ↓op_nilCheck, ↓pickW_t, ↓pickW_f, ↓pickW_b, ↓panW_i, ↓nilW_p, ↓nilW_f, ↓nilW_i, invokeW, ev, evs, evP, evO, lk_co, lk_nil, ↓wth_so, ↓kv_go, ↓put_so, ↓put_no, ↓next_n, ↓next_e, ↓next_g, ↓next_r, ↓next_p, ↓inB_n, ↓inB_e, ↓inB_g, ↓inB_r, ↓inB_p, ↓resK_r, ↓resK_p, noVal, plain, scalar, List.all_cons, List.all_nil, Bool.and_true, Bool.true_and, Bool.and_self, List.cons_append, List.nil_append, List.append_nil, List.append_assoc, List.getElem?_cons_zero, List.getElem?_cons_succ, List.getElem?_nil, List.set_cons_zero, List.set_cons_succ, Option.bind_some, Option.map_some, ↓reduceIte, Nat.reduceEqDiff, reduceCtorEq, argEnv, Nat.reduceAdd, Nat.zero_add, Nat.add_zero, true_implies, false_implies, decide_true, decide_false, Bool.not_true, Bool.not_false, Bool.true_eq_false, ne_eq, not_true_eq_false, not_false_eq_true, and_true, true_and, builtinW, ↓lenW_bs, lenW, bs_toList', ↓strW_eql, ↓strW_neq, ↓strW_lss, ↓strW_leq, ↓strW_gtr, ↓strW_geq, ↓strW_add, binW_int, binW_str, binW_bool_eql, binW_bool_neq, binW_agg_eql, binW_agg_neq, binW_slice_eql, binW_slice_neq, eqV_bool, eqV_int, eqV_sn, eqV_nn, eqV_ns, unW_not, unW_neg, unW_xor, fillL, placeOf, Int.reduceEq, Int.reduceBNe, Int.reduceBEq, bne_self_eq_false, beq_self_eq_true, Int.reduceToNat, Int.reduceLT, Int.reduceLE, Int.reduceGT, Int.reduceGE, Nat.reduceSub, Nat.reduceBEq, Nat.reduceBNe, Int.reduceAdd, Int.reduceSub, Int.reduceMul, Int.reduceNeg, Nat.reduceMul, Nat.reduceLeDiff, Nat.reduceLT, Int.cast_ofNat_Int, Int.natCast_zero, Nat.le_refl, intW, strW, callV, FPost, LeaveW, resV, packV0, packV1, packV2, extractW, loadW, storeW, indexW, indexAddrW, convW, bitV, fieldW, fieldAddrW, partW, buildW, allocW, boxW, restrict, reads, Op.operands, tmpOf, ASt.only, stepW, Option.toList, List.filterMap_cons, List.filterMap_nil, hget0, hgetk, hset0, hsetk, List.length_append, List.length_cons, List.length_nil, List.length_set, Nat.add_assoc, Option.some.injEq, forall_eq', List.take_succ_cons, List.take_zero, List.drop_succ_cons, List.drop_zero, Nat.mul_one, ownW, Bool.false_eq_true, cellsOf_int, cellsOf_bool, cellsOf_string, cellsOf_agg, cellsOf_pointer, cellsOf_slice, cellsOf_map, cellsOf_func, cellsOf_nilFunc, cellsOf_iface, cellsOf_nilIface, putCells, flat, quietW, mkB, repZ1, appendW, srcW, buildSliceW, sliceW, lowOf, highOf, bs_size, bs_extract, Int.toNat_zero, List.drop_zero, AObj.loop.injEq, roundQ, endR, loopK, exists_eq_left', and_assoc, exists_and_left, exists_const, Call.operands, Int.toNat_natCast, Int.natCast_nonneg, Array.toList_append, bytesC_length, bytesC_set, bytesC_take, bytesC_drop, bytesC_append, bytesC_nil, u8s_bytesC, Try.underlying3, ts3, tb3, ta3, tz3, tv3, tc3, Try.underlying5, ts5, tb5, ta5, tz5, tv5, tc5, Try.underlying9, ts9, tb9, ta9, tz9, tv9, tc9, Try.underlying74, ts74, tb74, ta74, tz74, tv74, tc74, Try.underlying92, ts92, tb92, ta92, tz92, tv92, tc92]
      | simp (disch := omega) only [wi64, wu8, wu16, wu32, wu64]
      | with_reducible_and_instances exact finR
      | ((with_reducible refine finR' ?_ ?_) <;> rfl)
      | ((with_reducible refine finD hsc (NRel.of_plain ?_)); exact rfl)
    refine ⟨n + 1, Weak.env ?_, by omega, by omega⟩
    rw [show h / 256 ^ (n + 1) = q / 256 from by rw [Nat.pow_succ, ← Nat.div_div_eq_div_mul, hqv]]
    simp [envIn, lk_cons, wth_some]
  · have : n = 8 := by omega
    subst this
    repeat first
      | with_reducible refine AWP.seq ?_
      | ((with_reducible refine AWP.region ?_ ?_); exact rfl)
      | with_reducible refine AWP.block ?_
      | with_reducible refine AWP.skip ?_
      | with_reducible refine AWP.exit ?_
      | with_reducible refine AWP.ret ?_
      | with_reducible refine AWP.label ?_
      | with_reducible refine AWP.goto ?_
      | ((with_reducible refine AWP.condT ?_ ?_); focus (simp only [ev, lk_cons, ↓reduceIte, Nat.reduceEqDiff]; done))
      | ((with_reducible refine AWP.condF ?_ ?_); focus (simp only [ev, lk_cons, ↓reduceIte, Nat.reduceEqDiff]; done))
      | simp only [↓regionW_nil, ↓regionW_go, ↓regionW_if, ↓gstep_tt, ↓gstep_ff, ↓gstep_tf, ↓gstep_ft, ↓gstep_no, wantW, gd, ↓op_move, ↓op_assign, ↓op_alloc, ↓op_box, ↓op_build, ↓op_buildSlice, ↓op_load, ↓op_store, ↓op_binOp, ↓op_unOp, ↓op_convert, ↓op_makeInterface, ↓op_makeFunc, ↓op_makeSlice, ↓op_slice, ↓op_fieldAddr, ↓op_field, ↓op_indexAddr, ↓op_index, ↓op_typeAssert, ↓op_extract, ↓op_callV, ↓op_callB, ↓op_callI, ↓op_pick, ↓op_panic, ↓op_nilCheck, ↓pickW_t, ↓pickW_f, ↓pickW_b, ↓panW_i, ↓nilW_p, ↓nilW_f, ↓nilW_i, invokeW, ev, evs, evP, evO, lk_co, lk_nil, ↓wth_so, ↓kv_go, ↓put_so, ↓put_no, ↓next_n, ↓next_e, ↓next_g, ↓next_r, ↓next_p, ↓inB_n, ↓inB_e, ↓inB_g, ↓inB_r, ↓inB_p, ↓resK_r, ↓resK_p, noVal, plain, scalar, List.all_cons, List.all_nil, Bool.and_true, Bool.true_and, Bool.and_self, List.cons_append, List.nil_append, List.append_nil, List.append_assoc, List.getElem?_cons_zero, List.getElem?_cons_succ, List.getElem?_nil, List.set_cons_zero, List.set_cons_succ, Option.bind_some, Option.map_some, ↓reduceIte, Nat.reduceEqDiff, reduceCtorEq, argEnv, Nat.reduceAdd, Nat.zero_add, Nat.add_zero, true_implies, false_implies, decide_true, decide_false, Bool.not_true, Bool.not_false, Bool.true_eq_false, ne_eq, not_true_eq_false, not_false_eq_true, and_true, true_and, builtinW, ↓lenW_bs, lenW, bs_toList', ↓strW_eql, ↓strW_neq, ↓strW_lss, ↓strW_leq, ↓strW_gtr, ↓strW_geq, ↓strW_add, binW_int, binW_str, binW_bool_eql, binW_bool_neq, binW_agg_eql, binW_agg_neq, binW_slice_eql, binW_slice_neq, eqV_bool, eqV_int, eqV_sn, eqV_nn, eqV_ns, unW_not, unW_neg, unW_xor, fillL, placeOf, Int.reduceEq, Int.reduceBNe, Int.reduceBEq, bne_self_eq_false, beq_self_eq_true, Int.reduceToNat, Int.reduceLT, Int.reduceLE, Int.reduceGT, Int.reduceGE, Nat.reduceSub, Nat.reduceBEq, Nat.reduceBNe, Int.reduceAdd, Int.reduceSub, Int.reduceMul, Int.reduceNeg, Nat.reduceMul, Nat.reduceLeDiff, Nat.reduceLT, Int.cast_ofNat_Int, Int.natCast_zero, Nat.le_refl, intW, strW, callV, FPost, LeaveW, resV, packV0, packV1, packV2, extractW, loadW, storeW, indexW, indexAddrW, convW, bitV, fieldW, fieldAddrW, partW, buildW, allocW, boxW, restrict, reads, Op.operands, tmpOf, ASt.only, stepW, Option.toList, List.filterMap_cons, List.filterMap_nil, hget0, hgetk, hset0, hsetk, List.length_append, List.length_cons, List.length_nil, List.length_set, Nat.add_assoc, Option.some.injEq, forall_eq', List.take_succ_cons, List.take_zero, List.drop_succ_cons, List.drop_zero, Nat.mul_one, ownW, Bool.false_eq_true, cellsOf_int, cellsOf_bool, cellsOf_string, cellsOf_agg, cellsOf_pointer, cellsOf_slice, cellsOf_map, cellsOf_func, cellsOf_nilFunc, cellsOf_iface, cellsOf_nilIface, putCells, flat, quietW, mkB, repZ1, appendW, srcW, buildSliceW, sliceW, lowOf, highOf, bs_size, bs_extract, Int.toNat_zero, List.drop_zero, AObj.loop.injEq, roundQ, endR, loopK, exists_eq_left', and_assoc, exists_and_left, exists_const, Call.operands, Int.toNat_natCast, Int.natCast_nonneg, Array.toList_append, bytesC_length, bytesC_set, bytesC_take, bytesC_drop, bytesC_append, bytesC_nil, u8s_bytesC, Try.underlying3, ts3, tb3, ta3, tz3, tv3, tc3, Try.underlying5, ts5, tb5, ta5, tz5, tv5, tc5, Try.underlying9, ts9, tb9, ta9, tz9, tv9, tc9, Try.underlying74, ts74, tb74, ta74, tz74, tv74, tc74, Try.underlying92, ts92, tb92, ta92, tz92, tv92, tc92]
      | simp (disch := omega) only [wi64, wu8, wu16, wu32, wu64]
      | with_reducible_and_instances exact finR
      | ((with_reducible refine finR' ?_ ?_) <;> rfl)
      | ((with_reducible refine finD hsc (NRel.of_plain ?_)); exact rfl)
    refine ⟨by simp, ?_⟩
    rw [List.take_of_length_le (by simp)]
    repeat first
      | with_reducible refine AWP.seq ?_
      | ((with_reducible refine AWP.region ?_ ?_); exact rfl)
      | with_reducible refine AWP.block ?_
      | with_reducible refine AWP.skip ?_
      | with_reducible refine AWP.exit ?_
      | with_reducible refine AWP.ret ?_
      | with_reducible refine AWP.label ?_
      | with_reducible refine AWP.goto ?_
      | ((with_reducible refine AWP.condT ?_ ?_); focus (simp only [ev, lk_cons, ↓reduceIte, Nat.reduceEqDiff]; done))
      | ((with_reducible refine AWP.condF ?_ ?_); focus (simp only [ev, lk_cons, ↓reduceIte, Nat.reduceEqDiff]; done))
      | simp only [↓regionW_nil, ↓regionW_go, ↓regionW_if, ↓gstep_tt, ↓gstep_ff, ↓gstep_tf, ↓gstep_ft, ↓gstep_no, wantW, gd, ↓op_move, ↓op_assign, ↓op_alloc, ↓op_box, ↓op_build, ↓op_buildSlice, ↓op_load, ↓op_store, ↓op_binOp, ↓op_unOp, ↓op_convert, ↓op_makeInterface, ↓op_makeFunc, ↓op_makeSlice, ↓op_slice, ↓op_fieldAddr, ↓op_field, ↓op_indexAddr, ↓op_index, ↓op_typeAssert, ↓op_extract, ↓op_callV, ↓op_callB, ↓op_callI, ↓op_pick, ↓op_panic, ↓op_nilCheck, ↓pickW_t, ↓pickW_f, ↓pickW_b, ↓panW_i, ↓nilW_p, ↓nilW_f, ↓nilW_i, invokeW, ev, evs, evP, evO, lk_co, lk_nil, ↓wth_so, ↓kv_go, ↓put_so, ↓put_no, ↓next_n, ↓next_e, ↓next_g, ↓next_r, ↓next_p, ↓inB_n, ↓inB_e, ↓inB_g, ↓inB_r, ↓inB_p, ↓resK_r, ↓resK_p, noVal, plain, scalar, List.all_cons, List.all_nil, Bool.and_true, Bool.true_and, Bool.and_self, List.cons_append, List.nil_append, List.append_nil, List.append_assoc, List.getElem?_cons_zero, List.getElem?_cons_succ, List.getElem?_nil, List.set_cons_zero, List.set_cons_succ, Option.bind_some, Option.map_some, ↓reduceIte, Nat.reduceEqDiff, reduceCtorEq, argEnv, Nat.reduceAdd, Nat.zero_add, Nat.add_zero, true_implies, false_implies, decide_true, decide_false, Bool.not_true, Bool.not_false, Bool.true_eq_false, ne_eq, not_true_eq_false, not_false_eq_true, and_true, true_and, builtinW, ↓lenW_bs, lenW, bs_toList', ↓strW_eql, ↓strW_neq, ↓strW_lss, ↓strW_leq, ↓strW_gtr, ↓strW_geq, ↓strW_add, binW_int, binW_str, binW_bool_eql, binW_bool_neq, binW_agg_eql, binW_agg_neq, binW_slice_eql, binW_slice_neq, eqV_bool, eqV_int, eqV_sn, eqV_nn, eqV_ns, unW_not, unW_neg, unW_xor, fillL, placeOf, Int.reduceEq, Int.reduceBNe, Int.reduceBEq, bne_self_eq_false, beq_self_eq_true, Int.reduceToNat, Int.reduceLT, Int.reduceLE, Int.reduceGT, Int.reduceGE, Nat.reduceSub, Nat.reduceBEq, Nat.reduceBNe, Int.reduceAdd, Int.reduceSub, Int.reduceMul, Int.reduceNeg, Nat.reduceMul, Nat.reduceLeDiff, Nat.reduceLT, Int.cast_ofNat_Int, Int.natCast_zero, Nat.le_refl, intW, strW, callV, FPost, LeaveW, resV, packV0, packV1, packV2, extractW, loadW, storeW, indexW, indexAddrW, convW, bitV, fieldW, fieldAddrW, partW, buildW, allocW, boxW, restrict, reads, Op.operands, tmpOf, ASt.only, stepW, Option.toList, List.filterMap_cons, List.filterMap_nil, hget0, hgetk, hset0, hsetk, List.length_append, List.length_cons, List.length_nil, List.length_set, Nat.add_assoc, Option.some.injEq, forall_eq', List.take_succ_cons, List.take_zero, List.drop_succ_cons, List.drop_zero, Nat.mul_one, ownW, Bool.false_eq_true, cellsOf_int, cellsOf_bool, cellsOf_string, cellsOf_agg, cellsOf_pointer, cellsOf_slice, cellsOf_map, cellsOf_func, cellsOf_nilFunc, cellsOf_iface, cellsOf_nilIface, putCells, flat, quietW, mkB, repZ1, appendW, srcW, buildSliceW, sliceW, lowOf, highOf, bs_size, bs_extract, Int.toNat_zero, List.drop_zero, AObj.loop.injEq, roundQ, endR, loopK, exists_eq_left', and_assoc, exists_and_left, exists_const, Call.operands, Int.toNat_natCast, Int.natCast_nonneg, Array.toList_append, bytesC_length, bytesC_set, bytesC_take, bytesC_drop, bytesC_append, bytesC_nil, u8s_bytesC, Try.underlying3, ts3, tb3, ta3, tz3, tv3, tc3, Try.underlying5, ts5, tb5, ta5, tz5, tv5, tc5, Try.underlying9, ts9, tb9, ta9, tz9, tv9, tc9, Try.underlying74, ts74, tb74, ta74, tz74, tv74, tc74, Try.underlying92, ts92, tb92, ta92, tz92, tv92, tc92]
      | simp (disch := omega) only [wi64, wu8, wu16, wu32, wu64]
      | with_reducible_and_instances exact finR
      | ((with_reducible refine finR' ?_ ?_) <;> rfl)
      | ((with_reducible refine finD hsc (NRel.of_plain ?_)); exact rfl)
theorem asked (s : List UInt8) (n most : Int) (H : AHeap) : ARet Try.prog 49 [.string (bs s), .int .i64 n, .int .i64 most] H (.int .i64 (if s.length = 20 then (if n < 0 ∨ most < n then 7 else 0) else 1)) H := by
  by_cases hs : s.length = 20
  · rw [if_pos hs]
    by_cases h1 : n < 0
    · rw [if_pos (.inl h1)]
      refine AC.enter Try.func49 rfl (by kernel_rfl) 19 rfl [.tmp 6] rfl (by simp) fun hsc B => ?_
      repeat first
        | with_reducible refine AWP.seq ?_
        | ((with_reducible refine AWP.region ?_ ?_); exact rfl)
        | with_reducible refine AWP.block ?_
        | with_reducible refine AWP.skip ?_
        | with_reducible refine AWP.exit ?_
        | with_reducible refine AWP.ret ?_
        | with_reducible refine AWP.label ?_
        | with_reducible refine AWP.goto ?_
        | ((with_reducible refine AWP.condT ?_ ?_); focus (simp only [ev, lk_cons, ↓reduceIte, Nat.reduceEqDiff]; done))
        | ((with_reducible refine AWP.condF ?_ ?_); focus (simp only [ev, lk_cons, ↓reduceIte, Nat.reduceEqDiff]; done))
        | with_reducible refine (valid s _).use ?_
        | simp only [↓regionW_nil, ↓regionW_go, ↓regionW_if, ↓gstep_tt, ↓gstep_ff, ↓gstep_tf, ↓gstep_ft, ↓gstep_no, wantW, gd, ↓op_move, ↓op_assign, ↓op_alloc, ↓op_box, ↓op_build, ↓op_buildSlice, ↓op_load, ↓op_store, ↓op_binOp, ↓op_unOp, ↓op_convert, ↓op_makeInterface, ↓op_makeFunc, ↓op_makeSlice, ↓op_slice, ↓op_fieldAddr, ↓op_field, ↓op_indexAddr, ↓op_index, ↓op_typeAssert, ↓op_extract, ↓op_callV, ↓op_callB, ↓op_callI, ↓op_pick, ↓op_panic, ↓op_nilCheck, ↓pickW_t, ↓pickW_f, ↓pickW_b, ↓panW_i, ↓nilW_p, ↓nilW_f, ↓nilW_i, invokeW, ev, evs, evP, evO, lk_co, lk_nil, ↓wth_so, ↓kv_go, ↓put_so, ↓put_no, ↓next_n, ↓next_e, ↓next_g, ↓next_r, ↓next_p, ↓inB_n, ↓inB_e, ↓inB_g, ↓inB_r, ↓inB_p, ↓resK_r, ↓resK_p, noVal, plain, scalar, List.all_cons, List.all_nil, Bool.and_true, Bool.true_and, Bool.and_self, List.cons_append, List.nil_append, List.append_nil, List.append_assoc, List.getElem?_cons_zero, List.getElem?_cons_succ, List.getElem?_nil, List.set_cons_zero, List.set_cons_succ, Option.bind_some, Option.map_some, ↓reduceIte, Nat.reduceEqDiff, reduceCtorEq, argEnv, Nat.reduceAdd, Nat.zero_add, Nat.add_zero, true_implies, false_implies, decide_true, decide_false, Bool.not_true, Bool.not_false, Bool.true_eq_false, ne_eq, not_true_eq_false, not_false_eq_true, and_true, true_and, builtinW, ↓lenW_bs, lenW, bs_toList', ↓strW_eql, ↓strW_neq, ↓strW_lss, ↓strW_leq, ↓strW_gtr, ↓strW_geq, ↓strW_add, binW_int, binW_str, binW_bool_eql, binW_bool_neq, binW_agg_eql, binW_agg_neq, binW_slice_eql, binW_slice_neq, eqV_bool, eqV_int, eqV_sn, eqV_nn, eqV_ns, unW_not, unW_neg, unW_xor, fillL, placeOf, Int.reduceEq, Int.reduceBNe, Int.reduceBEq, bne_self_eq_false, beq_self_eq_true, Int.reduceToNat, Int.reduceLT, Int.reduceLE, Int.reduceGT, Int.reduceGE, Nat.reduceSub, Nat.reduceBEq, Nat.reduceBNe, Int.reduceAdd, Int.reduceSub, Int.reduceMul, Int.reduceNeg, Nat.reduceMul, Nat.reduceLeDiff, Nat.reduceLT, Int.cast_ofNat_Int, Int.natCast_zero, Nat.le_refl, intW, strW, callV, FPost, LeaveW, resV, packV0, packV1, packV2, extractW, loadW, storeW, indexW, indexAddrW, convW, bitV, fieldW, fieldAddrW, partW, buildW, allocW, boxW, restrict, reads, Op.operands, tmpOf, ASt.only, stepW, Option.toList, List.filterMap_cons, List.filterMap_nil, hget0, hgetk, hset0, hsetk, List.length_append, List.length_cons, List.length_nil, List.length_set, Nat.add_assoc, Option.some.injEq, forall_eq', List.take_succ_cons, List.take_zero, List.drop_succ_cons, List.drop_zero, Nat.mul_one, ownW, Bool.false_eq_true, cellsOf_int, cellsOf_bool, cellsOf_string, cellsOf_agg, cellsOf_pointer, cellsOf_slice, cellsOf_map, cellsOf_func, cellsOf_nilFunc, cellsOf_iface, cellsOf_nilIface, putCells, flat, quietW, mkB, repZ1, appendW, srcW, buildSliceW, sliceW, lowOf, highOf, bs_size, bs_extract, Int.toNat_zero, List.drop_zero, AObj.loop.injEq, roundQ, endR, loopK, exists_eq_left', and_assoc, exists_and_left, exists_const, Call.operands, Int.toNat_natCast, Int.natCast_nonneg, Array.toList_append, bytesC_length, bytesC_set, bytesC_take, bytesC_drop, bytesC_append, bytesC_nil, u8s_bytesC, Try.underlying3, ts3, tb3, ta3, tz3, tv3, tc3, Try.underlying4, ts4, tb4, ta4, tz4, tv4, tc4, Try.underlying9, ts9, tb9, ta9, tz9, tv9, tc9, hs, h1]
        | simp (disch := omega) only [wi64, wu8, wu16, wu32, wu64]
        | with_reducible_and_instances exact finR
        | ((with_reducible refine finR' ?_ ?_) <;> rfl)
        | ((with_reducible refine finD hsc (NRel.of_plain ?_)); exact rfl)
    · by_cases h2 : most < n
      · rw [if_pos (.inr h2)]
        have h2' : n > most := h2
        refine AC.enter Try.func49 rfl (by kernel_rfl) 19 rfl [.tmp 6] rfl (by simp) fun hsc B => ?_
        repeat first
          | with_reducible refine AWP.seq ?_
          | ((with_reducible refine AWP.region ?_ ?_); exact rfl)
          | with_reducible refine AWP.block ?_
          | with_reducible refine AWP.skip ?_
          | with_reducible refine AWP.exit ?_
          | with_reducible refine AWP.ret ?_
          | with_reducible refine AWP.label ?_
          | with_reducible refine AWP.goto ?_
          | ((with_reducible refine AWP.condT ?_ ?_); focus (simp only [ev, lk_cons, ↓reduceIte, Nat.reduceEqDiff]; done))
          | ((with_reducible refine AWP.condF ?_ ?_); focus (simp only [ev, lk_cons, ↓reduceIte, Nat.reduceEqDiff]; done))
          | with_reducible refine (valid s _).use ?_
          | simp only [↓regionW_nil, ↓regionW_go, ↓regionW_if, ↓gstep_tt, ↓gstep_ff, ↓gstep_tf, ↓gstep_ft, ↓gstep_no, wantW, gd, ↓op_move, ↓op_assign, ↓op_alloc, ↓op_box, ↓op_build, ↓op_buildSlice, ↓op_load, ↓op_store, ↓op_binOp, ↓op_unOp, ↓op_convert, ↓op_makeInterface, ↓op_makeFunc, ↓op_makeSlice, ↓op_slice, ↓op_fieldAddr, ↓op_field, ↓op_indexAddr, ↓op_index, ↓op_typeAssert, ↓op_extract, ↓op_callV, ↓op_callB, ↓op_callI, ↓op_pick, ↓op_panic, ↓op_nilCheck, ↓pickW_t, ↓pickW_f, ↓pickW_b, ↓panW_i, ↓nilW_p, ↓nilW_f, ↓nilW_i, invokeW, ev, evs, evP, evO, lk_co, lk_nil, ↓wth_so, ↓kv_go, ↓put_so, ↓put_no, ↓next_n, ↓next_e, ↓next_g, ↓next_r, ↓next_p, ↓inB_n, ↓inB_e, ↓inB_g, ↓inB_r, ↓inB_p, ↓resK_r, ↓resK_p, noVal, plain, scalar, List.all_cons, List.all_nil, Bool.and_true, Bool.true_and, Bool.and_self, List.cons_append, List.nil_append, List.append_nil, List.append_assoc, List.getElem?_cons_zero, List.getElem?_cons_succ, List.getElem?_nil, List.set_cons_zero, List.set_cons_succ, Option.bind_some, Option.map_some, ↓reduceIte, Nat.reduceEqDiff, reduceCtorEq, argEnv, Nat.reduceAdd, Nat.zero_add, Nat.add_zero, true_implies, false_implies, decide_true, decide_false, Bool.not_true, Bool.not_false, Bool.true_eq_false, ne_eq, not_true_eq_false, not_false_eq_true, and_true, true_and, builtinW, ↓lenW_bs, lenW, bs_toList', ↓strW_eql, ↓strW_neq, ↓strW_lss, ↓strW_leq, ↓strW_gtr, ↓strW_geq, ↓strW_add, binW_int, binW_str, binW_bool_eql, binW_bool_neq, binW_agg_eql, binW_agg_neq, binW_slice_eql, binW_slice_neq, eqV_bool, eqV_int, eqV_sn, eqV_nn, eqV_ns, unW_not, unW_neg, unW_xor, fillL, placeOf, Int.reduceEq, Int.reduceBNe, Int.reduceBEq, bne_self_eq_false, beq_self_eq_true, Int.reduceToNat, Int.reduceLT, Int.reduceLE, Int.reduceGT, Int.reduceGE, Nat.reduceSub, Nat.reduceBEq, Nat.reduceBNe, Int.reduceAdd, Int.reduceSub, Int.reduceMul, Int.reduceNeg, Nat.reduceMul, Nat.reduceLeDiff, Nat.reduceLT, Int.cast_ofNat_Int, Int.natCast_zero, Nat.le_refl, intW, strW, callV, FPost, LeaveW, resV, packV0, packV1, packV2, extractW, loadW, storeW, indexW, indexAddrW, convW, bitV, fieldW, fieldAddrW, partW, buildW, allocW, boxW, restrict, reads, Op.operands, tmpOf, ASt.only, stepW, Option.toList, List.filterMap_cons, List.filterMap_nil, hget0, hgetk, hset0, hsetk, List.length_append, List.length_cons, List.length_nil, List.length_set, Nat.add_assoc, Option.some.injEq, forall_eq', List.take_succ_cons, List.take_zero, List.drop_succ_cons, List.drop_zero, Nat.mul_one, ownW, Bool.false_eq_true, cellsOf_int, cellsOf_bool, cellsOf_string, cellsOf_agg, cellsOf_pointer, cellsOf_slice, cellsOf_map, cellsOf_func, cellsOf_nilFunc, cellsOf_iface, cellsOf_nilIface, putCells, flat, quietW, mkB, repZ1, appendW, srcW, buildSliceW, sliceW, lowOf, highOf, bs_size, bs_extract, Int.toNat_zero, List.drop_zero, AObj.loop.injEq, roundQ, endR, loopK, exists_eq_left', and_assoc, exists_and_left, exists_const, Call.operands, Int.toNat_natCast, Int.natCast_nonneg, Array.toList_append, bytesC_length, bytesC_set, bytesC_take, bytesC_drop, bytesC_append, bytesC_nil, u8s_bytesC, Try.underlying3, ts3, tb3, ta3, tz3, tv3, tc3, Try.underlying4, ts4, tb4, ta4, tz4, tv4, tc4, Try.underlying9, ts9, tb9, ta9, tz9, tv9, tc9, hs, h1, h2, gt_iff_lt]
          | simp (disch := omega) only [wi64, wu8, wu16, wu32, wu64]
          | with_reducible_and_instances exact finR
          | ((with_reducible refine finR' ?_ ?_) <;> rfl)
          | ((with_reducible refine finD hsc (NRel.of_plain ?_)); exact rfl)
      · rw [if_neg (by omega)]
        refine AC.enter Try.func49 rfl (by kernel_rfl) 19 rfl [.tmp 6] rfl (by simp) fun hsc B => ?_
        repeat first
          | with_reducible refine AWP.seq ?_
          | ((with_reducible refine AWP.region ?_ ?_); exact rfl)
          | with_reducible refine AWP.block ?_
          | with_reducible refine AWP.skip ?_
          | with_reducible refine AWP.exit ?_
          | with_reducible refine AWP.ret ?_
          | with_reducible refine AWP.label ?_
          | with_reducible refine AWP.goto ?_
          | ((with_reducible refine AWP.condT ?_ ?_); focus (simp only [ev, lk_cons, ↓reduceIte, Nat.reduceEqDiff]; done))
          | ((with_reducible refine AWP.condF ?_ ?_); focus (simp only [ev, lk_cons, ↓reduceIte, Nat.reduceEqDiff]; done))
          | with_reducible refine (valid s _).use ?_
          | simp only [↓regionW_nil, ↓regionW_go, ↓regionW_if, ↓gstep_tt, ↓gstep_ff, ↓gstep_tf, ↓gstep_ft, ↓gstep_no, wantW, gd, ↓op_move, ↓op_assign, ↓op_alloc, ↓op_box, ↓op_build, ↓op_buildSlice, ↓op_load, ↓op_store, ↓op_binOp, ↓op_unOp, ↓op_convert, ↓op_makeInterface, ↓op_makeFunc, ↓op_makeSlice, ↓op_slice, ↓op_fieldAddr, ↓op_field, ↓op_indexAddr, ↓op_index, ↓op_typeAssert, ↓op_extract, ↓op_callV, ↓op_callB, ↓op_callI, ↓op_pick, ↓op_panic, ↓op_nilCheck, ↓pickW_t, ↓pickW_f, ↓pickW_b, ↓panW_i, ↓nilW_p, ↓nilW_f, ↓nilW_i, invokeW, ev, evs, evP, evO, lk_co, lk_nil, ↓wth_so, ↓kv_go, ↓put_so, ↓put_no, ↓next_n, ↓next_e, ↓next_g, ↓next_r, ↓next_p, ↓inB_n, ↓inB_e, ↓inB_g, ↓inB_r, ↓inB_p, ↓resK_r, ↓resK_p, noVal, plain, scalar, List.all_cons, List.all_nil, Bool.and_true, Bool.true_and, Bool.and_self, List.cons_append, List.nil_append, List.append_nil, List.append_assoc, List.getElem?_cons_zero, List.getElem?_cons_succ, List.getElem?_nil, List.set_cons_zero, List.set_cons_succ, Option.bind_some, Option.map_some, ↓reduceIte, Nat.reduceEqDiff, reduceCtorEq, argEnv, Nat.reduceAdd, Nat.zero_add, Nat.add_zero, true_implies, false_implies, decide_true, decide_false, Bool.not_true, Bool.not_false, Bool.true_eq_false, ne_eq, not_true_eq_false, not_false_eq_true, and_true, true_and, builtinW, ↓lenW_bs, lenW, bs_toList', ↓strW_eql, ↓strW_neq, ↓strW_lss, ↓strW_leq, ↓strW_gtr, ↓strW_geq, ↓strW_add, binW_int, binW_str, binW_bool_eql, binW_bool_neq, binW_agg_eql, binW_agg_neq, binW_slice_eql, binW_slice_neq, eqV_bool, eqV_int, eqV_sn, eqV_nn, eqV_ns, unW_not, unW_neg, unW_xor, fillL, placeOf, Int.reduceEq, Int.reduceBNe, Int.reduceBEq, bne_self_eq_false, beq_self_eq_true, Int.reduceToNat, Int.reduceLT, Int.reduceLE, Int.reduceGT, Int.reduceGE, Nat.reduceSub, Nat.reduceBEq, Nat.reduceBNe, Int.reduceAdd, Int.reduceSub, Int.reduceMul, Int.reduceNeg, Nat.reduceMul, Nat.reduceLeDiff, Nat.reduceLT, Int.cast_ofNat_Int, Int.natCast_zero, Nat.le_refl, intW, strW, callV, FPost, LeaveW, resV, packV0, packV1, packV2, extractW, loadW, storeW, indexW, indexAddrW, convW, bitV, fieldW, fieldAddrW, partW, buildW, allocW, boxW, restrict, reads, Op.operands, tmpOf, ASt.only, stepW, Option.toList, List.filterMap_cons, List.filterMap_nil, hget0, hgetk, hset0, hsetk, List.length_append, List.length_cons, List.length_nil, List.length_set, Nat.add_assoc, Option.some.injEq, forall_eq', List.take_succ_cons, List.take_zero, List.drop_succ_cons, List.drop_zero, Nat.mul_one, ownW, Bool.false_eq_true, cellsOf_int, cellsOf_bool, cellsOf_string, cellsOf_agg, cellsOf_pointer, cellsOf_slice, cellsOf_map, cellsOf_func, cellsOf_nilFunc, cellsOf_iface, cellsOf_nilIface, putCells, flat, quietW, mkB, repZ1, appendW, srcW, buildSliceW, sliceW, lowOf, highOf, bs_size, bs_extract, Int.toNat_zero, List.drop_zero, AObj.loop.injEq, roundQ, endR, loopK, exists_eq_left', and_assoc, exists_and_left, exists_const, Call.operands, Int.toNat_natCast, Int.natCast_nonneg, Array.toList_append, bytesC_length, bytesC_set, bytesC_take, bytesC_drop, bytesC_append, bytesC_nil, u8s_bytesC, Try.underlying3, ts3, tb3, ta3, tz3, tv3, tc3, Try.underlying4, ts4, tb4, ta4, tz4, tv4, tc4, Try.underlying9, ts9, tb9, ta9, tz9, tv9, tc9, hs, h1, h2, gt_iff_lt]
          | simp (disch := omega) only [wi64, wu8, wu16, wu32, wu64]
          | with_reducible_and_instances exact finR
          | ((with_reducible refine finR' ?_ ?_) <;> rfl)
          | ((with_reducible refine finD hsc (NRel.of_plain ?_)); exact rfl)
  · rw [if_neg hs]
    refine AC.enter Try.func49 rfl (by kernel_rfl) 19 rfl [.tmp 6] rfl (by simp) fun hsc B => ?_
    repeat first
      | with_reducible refine AWP.seq ?_
      | ((with_reducible refine AWP.region ?_ ?_); exact rfl)
      | with_reducible refine AWP.block ?_
      | with_reducible refine AWP.skip ?_
      | with_reducible refine AWP.exit ?_
      | with_reducible refine AWP.ret ?_
      | with_reducible refine AWP.label ?_
      | with_reducible refine AWP.goto ?_
      | ((with_reducible refine AWP.condT ?_ ?_); focus (simp only [ev, lk_cons, ↓reduceIte, Nat.reduceEqDiff]; done))
      | ((with_reducible refine AWP.condF ?_ ?_); focus (simp only [ev, lk_cons, ↓reduceIte, Nat.reduceEqDiff]; done))
      | with_reducible refine (valid s _).use ?_
      | simp only [↓regionW_nil, ↓regionW_go, ↓regionW_if, ↓gstep_tt, ↓gstep_ff, ↓gstep_tf, ↓gstep_ft, ↓gstep_no, wantW, gd, ↓op_move, ↓op_assign, ↓op_alloc, ↓op_box, ↓op_build, ↓op_buildSlice, ↓op_load, ↓op_store, ↓op_binOp, ↓op_unOp, ↓op_convert, ↓op_makeInterface, ↓op_makeFunc, ↓op_makeSlice, ↓op_slice, ↓op_fieldAddr, ↓op_field, ↓op_indexAddr, ↓op_index, ↓op_typeAssert, ↓op_extract, ↓op_callV, ↓op_callB, ↓op_callI, ↓op_pick, ↓op_panic, ↓op_nilCheck, ↓pickW_t, ↓pickW_f, ↓pickW_b, ↓panW_i, ↓nilW_p, ↓nilW_f, ↓nilW_i, invokeW, ev, evs, evP, evO, lk_co, lk_nil, ↓wth_so, ↓kv_go, ↓put_so, ↓put_no, ↓next_n, ↓next_e, ↓next_g, ↓next_r, ↓next_p, ↓inB_n, ↓inB_e, ↓inB_g, ↓inB_r, ↓inB_p, ↓resK_r, ↓resK_p, noVal, plain, scalar, List.all_cons, List.all_nil, Bool.and_true, Bool.true_and, Bool.and_self, List.cons_append, List.nil_append, List.append_nil, List.append_assoc, List.getElem?_cons_zero, List.getElem?_cons_succ, List.getElem?_nil, List.set_cons_zero, List.set_cons_succ, Option.bind_some, Option.map_some, ↓reduceIte, Nat.reduceEqDiff, reduceCtorEq, argEnv, Nat.reduceAdd, Nat.zero_add, Nat.add_zero, true_implies, false_implies, decide_true, decide_false, Bool.not_true, Bool.not_false, Bool.true_eq_false, ne_eq, not_true_eq_false, not_false_eq_true, and_true, true_and, builtinW, ↓lenW_bs, lenW, bs_toList', ↓strW_eql, ↓strW_neq, ↓strW_lss, ↓strW_leq, ↓strW_gtr, ↓strW_geq, ↓strW_add, binW_int, binW_str, binW_bool_eql, binW_bool_neq, binW_agg_eql, binW_agg_neq, binW_slice_eql, binW_slice_neq, eqV_bool, eqV_int, eqV_sn, eqV_nn, eqV_ns, unW_not, unW_neg, unW_xor, fillL, placeOf, Int.reduceEq, Int.reduceBNe, Int.reduceBEq, bne_self_eq_false, beq_self_eq_true, Int.reduceToNat, Int.reduceLT, Int.reduceLE, Int.reduceGT, Int.reduceGE, Nat.reduceSub, Nat.reduceBEq, Nat.reduceBNe, Int.reduceAdd, Int.reduceSub, Int.reduceMul, Int.reduceNeg, Nat.reduceMul, Nat.reduceLeDiff, Nat.reduceLT, Int.cast_ofNat_Int, Int.natCast_zero, Nat.le_refl, intW, strW, callV, FPost, LeaveW, resV, packV0, packV1, packV2, extractW, loadW, storeW, indexW, indexAddrW, convW, bitV, fieldW, fieldAddrW, partW, buildW, allocW, boxW, restrict, reads, Op.operands, tmpOf, ASt.only, stepW, Option.toList, List.filterMap_cons, List.filterMap_nil, hget0, hgetk, hset0, hsetk, List.length_append, List.length_cons, List.length_nil, List.length_set, Nat.add_assoc, Option.some.injEq, forall_eq', List.take_succ_cons, List.take_zero, List.drop_succ_cons, List.drop_zero, Nat.mul_one, ownW, Bool.false_eq_true, cellsOf_int, cellsOf_bool, cellsOf_string, cellsOf_agg, cellsOf_pointer, cellsOf_slice, cellsOf_map, cellsOf_func, cellsOf_nilFunc, cellsOf_iface, cellsOf_nilIface, putCells, flat, quietW, mkB, repZ1, appendW, srcW, buildSliceW, sliceW, lowOf, highOf, bs_size, bs_extract, Int.toNat_zero, List.drop_zero, AObj.loop.injEq, roundQ, endR, loopK, exists_eq_left', and_assoc, exists_and_left, exists_const, Call.operands, Int.toNat_natCast, Int.natCast_nonneg, Array.toList_append, bytesC_length, bytesC_set, bytesC_take, bytesC_drop, bytesC_append, bytesC_nil, u8s_bytesC, Try.underlying3, ts3, tb3, ta3, tz3, tv3, tc3, Try.underlying4, ts4, tb4, ta4, tz4, tv4, tc4, Try.underlying9, ts9, tb9, ta9, tz9, tv9, tc9, hs]
      | simp (disch := omega) only [wi64, wu8, wu16, wu32, wu64]
      | with_reducible_and_instances exact finR
      | ((with_reducible refine finR' ?_ ?_) <;> rfl)
      | ((with_reducible refine finD hsc (NRel.of_plain ?_)); exact rfl)
end Go.Proofs.Ytdbdnknnaekbhaa

