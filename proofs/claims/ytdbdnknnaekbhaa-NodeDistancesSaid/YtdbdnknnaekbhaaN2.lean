/- A part of the proof of a statement of this seat. -/
import Derived.Test.YtdbdnknnaekbhaaN1
set_option linter.unusedVariables false
set_option linter.unusedSimpArgs false
namespace Go.Proofs.Ytdbdnknnaekbhaa
open Go Go.Aw Go.Proofs

theorem valid (s : List UInt8) (H : AHeap) : ARet Try.prog 8 [.string (bs s)] H (.bool (decide (s.length = 20))) H := by
  refine AC.enter Try.func8 rfl (by kernel_rfl) 6 rfl [.tmp 2] rfl (by simp) fun hsc B => ?_
  repeat first
    | with_reducible refine AWP.seq ?_
    | ((with_reducible refine AWP.region ?_ ?_); exact rfl)
    | with_reducible refine AWP.block ?_
    | with_reducible refine AWP.skip ?_
    | with_reducible refine AWP.exit ?_
    | with_reducible refine AWP.ret ?_
    | with_reducible refine AWP.label ?_
    | with_reducible refine AWP.goto ?_
    | ((with_reducible refine AWP.condT ?_ ?_); focus (simp only [ev, lk_cons, ↓reduceIte, Nat.reduceEqDiff]; done))
    | ((with_reducible refine AWP.condF ?_ ?_); focus (simp only [ev, lk_cons, ↓reduceIte, Nat.reduceEqDiff]; done))
    | simp only [↓regionW_nil, ↓regionW_go, ↓regionW_if, ↓gstep_tt, ↓gstep_ff, ↓gstep_tf, ↓gstep_ft, ↓gstep_no, wantW, gd, ↓op_move, ↓op_assign, ↓op_alloc, ↓op_box, ↓op_build, ↓op_buildSlice, ↓op_load, ↓op_store, ↓op_binOp, ↓op_unOp, ↓op_convert, ↓op_makeInterface, ↓op_makeFunc, ↓op_makeSlice, ↓op_slice, ↓op_fieldAddr, ↓op_field, ↓op_indexAddr, ↓op_index, ↓op_typeAssert, ↓op_extract, ↓op_callV, ↓op_callB, ↓op_callI, ↓op_pick, ↓op_panic, ↓op_nilCheck, ↓pickW_t, ↓pickW_f, ↓pickW_b, ↓panW_i, ↓nilW_p, ↓nilW_f, ↓nilW_i, invokeW, ev, evs, evP, evO, lk_co, lk_nil, ↓wth_so, ↓kv_go, ↓put_so, ↓put_no, ↓next_n, ↓next_e, ↓next_g, ↓next_r, ↓next_p, ↓inB_n, ↓inB_e, ↓inB_g, ↓inB_r, ↓inB_p, ↓resK_r, ↓resK_p, noVal, plain, scalar, List.all_cons, List.all_nil, Bool.and_true, Bool.true_and, Bool.and_self, List.cons_append, List.nil_append, List.append_nil, List.append_assoc, List.getElem?_cons_zero, List.getElem?_cons_succ, List.getElem?_nil, List.set_cons_zero, List.set_cons_succ, Option.bind_some, Option.map_some, ↓reduceIte, Nat.reduceEqDiff, reduceCtorEq, argEnv, Nat.reduceAdd, Nat.zero_add, Nat.add_zero, true_implies, false_implies, decide_true, decide_false, Bool.not_true, Bool.not_false, Bool.true_eq_false, ne_eq, not_true_eq_false, not_false_eq_true, and_true, true_and, builtinW, ↓lenW_bs, lenW, bs_toList', ↓strW_eql, ↓strW_neq, ↓strW_lss, ↓strW_leq, ↓strW_gtr, ↓strW_geq, ↓strW_add, binW_int, binW_str, binW_bool_eql, binW_bool_neq, binW_agg_eql, binW_agg_neq, binW_slice_eql, binW_slice_neq, eqV_bool, eqV_int, eqV_sn, eqV_nn, eqV_ns, unW_not, unW_neg, unW_xor, fillL, placeOf, Int.reduceEq, Int.reduceToNat, Int.reduceLT, Int.reduceLE, Int.reduceAdd, Int.reduceSub, Int.reduceMul, Int.reduceNeg, Nat.reduceMul, Nat.reduceLeDiff, Nat.reduceLT, Int.cast_ofNat_Int, Int.natCast_zero, Nat.le_refl, intW, strW, callV, FPost, LeaveW, resV, packV0, packV1, packV2, extractW, loadW, storeW, indexW, indexAddrW, convW, bitV, fieldW, fieldAddrW, partW, buildW, allocW, boxW, restrict, reads, Op.operands, tmpOf, ASt.only, stepW, Option.toList, List.filterMap_cons, List.filterMap_nil, hget0, hgetk, hset0, hsetk, List.length_append, List.length_cons, List.length_nil, List.length_set, Nat.add_assoc, Option.some.injEq, forall_eq', List.take_succ_cons, List.take_zero, List.drop_succ_cons, List.drop_zero, Nat.mul_one, ownW, Bool.false_eq_true, cellsOf_int, cellsOf_bool, cellsOf_string, cellsOf_agg, cellsOf_pointer, cellsOf_slice, cellsOf_map, cellsOf_func, cellsOf_nilFunc, cellsOf_iface, cellsOf_nilIface, putCells, flat, quietW, mkB, AObj.loop.injEq, roundQ, endR, loopK, exists_eq_left', and_assoc, exists_and_left, exists_const, Call.operands, Int.toNat_natCast, Int.natCast_nonneg, Array.toList_append, bytesC_length, bytesC_set, bytesC_take, bytesC_drop, bytesC_append, bytesC_nil, u8s_bytesC, Try.underlying3, ts3, tb3, ta3, tz3, tv3, tc3, Try.underlying9, ts9, tb9, ta9, tz9, tv9, tc9, beq20]
    | simp (disch := omega) only [wi64, wu8, wu16, wu32, wu64]
    | with_reducible_and_instances exact finR
    | ((with_reducible refine finR' ?_ ?_) <;> rfl)
    | ((with_reducible refine finD hsc (NRel.of_plain ?_)); exact rfl)
theorem rvalid (s : List UInt8) (H : AHeap) : ARet Try.prog 7 [.string (bs s)] H (.bool (decide (s.length = 20))) H := by
  refine AC.enter Try.func7 rfl (by kernel_rfl) 6 rfl [.tmp 2] rfl (by simp) fun hsc B => ?_
  repeat first
    | with_reducible refine AWP.seq ?_
    | ((with_reducible refine AWP.region ?_ ?_); exact rfl)
    | with_reducible refine AWP.block ?_
    | with_reducible refine AWP.skip ?_
    | with_reducible refine AWP.exit ?_
    | with_reducible refine AWP.ret ?_
    | with_reducible refine AWP.label ?_
    | with_reducible refine AWP.goto ?_
    | ((with_reducible refine AWP.condT ?_ ?_); focus (simp only [ev, lk_cons, ↓reduceIte, Nat.reduceEqDiff]; done))
    | ((with_reducible refine AWP.condF ?_ ?_); focus (simp only [ev, lk_cons, ↓reduceIte, Nat.reduceEqDiff]; done))
    | simp only [↓regionW_nil, ↓regionW_go, ↓regionW_if, ↓gstep_tt, ↓gstep_ff, ↓gstep_tf, ↓gstep_ft, ↓gstep_no, wantW, gd, ↓op_move, ↓op_assign, ↓op_alloc, ↓op_box, ↓op_build, ↓op_buildSlice, ↓op_load, ↓op_store, ↓op_binOp, ↓op_unOp, ↓op_convert, ↓op_makeInterface, ↓op_makeFunc, ↓op_makeSlice, ↓op_slice, ↓op_fieldAddr, ↓op_field, ↓op_indexAddr, ↓op_index, ↓op_typeAssert, ↓op_extract, ↓op_callV, ↓op_callB, ↓op_callI, ↓op_pick, ↓op_panic, ↓op_nilCheck, ↓pickW_t, ↓pickW_f, ↓pickW_b, ↓panW_i, ↓nilW_p, ↓nilW_f, ↓nilW_i, invokeW, ev, evs, evP, evO, lk_co, lk_nil, ↓wth_so, ↓kv_go, ↓put_so, ↓put_no, ↓next_n, ↓next_e, ↓next_g, ↓next_r, ↓next_p, ↓inB_n, ↓inB_e, ↓inB_g, ↓inB_r, ↓inB_p, ↓resK_r, ↓resK_p, noVal, plain, scalar, List.all_cons, List.all_nil, Bool.and_true, Bool.true_and, Bool.and_self, List.cons_append, List.nil_append, List.append_nil, List.append_assoc, List.getElem?_cons_zero, List.getElem?_cons_succ, List.getElem?_nil, List.set_cons_zero, List.set_cons_succ, Option.bind_some, Option.map_some, ↓reduceIte, Nat.reduceEqDiff, reduceCtorEq, argEnv, Nat.reduceAdd, Nat.zero_add, Nat.add_zero, true_implies, false_implies, decide_true, decide_false, Bool.not_true, Bool.not_false, Bool.true_eq_false, ne_eq, not_true_eq_false, not_false_eq_true, and_true, true_and, builtinW, ↓lenW_bs, lenW, bs_toList', ↓strW_eql, ↓strW_neq, ↓strW_lss, ↓strW_leq, ↓strW_gtr, ↓strW_geq, ↓strW_add, binW_int, binW_str, binW_bool_eql, binW_bool_neq, binW_agg_eql, binW_agg_neq, binW_slice_eql, binW_slice_neq, eqV_bool, eqV_int, eqV_sn, eqV_nn, eqV_ns, unW_not, unW_neg, unW_xor, fillL, placeOf, Int.reduceEq, Int.reduceToNat, Int.reduceLT, Int.reduceLE, Int.reduceAdd, Int.reduceSub, Int.reduceMul, Int.reduceNeg, Nat.reduceMul, Nat.reduceLeDiff, Nat.reduceLT, Int.cast_ofNat_Int, Int.natCast_zero, Nat.le_refl, intW, strW, callV, FPost, LeaveW, resV, packV0, packV1, packV2, extractW, loadW, storeW, indexW, indexAddrW, convW, bitV, fieldW, fieldAddrW, partW, buildW, allocW, boxW, restrict, reads, Op.operands, tmpOf, ASt.only, stepW, Option.toList, List.filterMap_cons, List.filterMap_nil, hget0, hgetk, hset0, hsetk, List.length_append, List.length_cons, List.length_nil, List.length_set, Nat.add_assoc, Option.some.injEq, forall_eq', List.take_succ_cons, List.take_zero, List.drop_succ_cons, List.drop_zero, Nat.mul_one, ownW, Bool.false_eq_true, cellsOf_int, cellsOf_bool, cellsOf_string, cellsOf_agg, cellsOf_pointer, cellsOf_slice, cellsOf_map, cellsOf_func, cellsOf_nilFunc, cellsOf_iface, cellsOf_nilIface, putCells, flat, quietW, mkB, AObj.loop.injEq, roundQ, endR, loopK, exists_eq_left', and_assoc, exists_and_left, exists_const, Call.operands, Int.toNat_natCast, Int.natCast_nonneg, Array.toList_append, bytesC_length, bytesC_set, bytesC_take, bytesC_drop, bytesC_append, bytesC_nil, u8s_bytesC, Try.underlying3, ts3, tb3, ta3, tz3, tv3, tc3, Try.underlying9, ts9, tb9, ta9, tz9, tv9, tc9, beq20]
    | simp (disch := omega) only [wi64, wu8, wu16, wu32, wu64]
    | with_reducible_and_instances exact finR
    | ((with_reducible refine finR' ?_ ?_) <;> rfl)
    | ((with_reducible refine finD hsc (NRel.of_plain ?_)); exact rfl)
theorem xorB (x y : UInt8) (H : AHeap) : ARet Try.prog 47 [.int .u8 x.toNat, .int .u8 y.toNat] H (.int .u8 (x ^^^ y).toNat) H := by
  refine AC.enter Try.func47 rfl (by kernel_rfl) 8 rfl [.tmp 4] rfl (by simp) fun hsc B => ?_
  repeat first
    | with_reducible refine AWP.seq ?_
    | ((with_reducible refine AWP.region ?_ ?_); exact rfl)
    | with_reducible refine AWP.block ?_
    | with_reducible refine AWP.skip ?_
    | with_reducible refine AWP.exit ?_
    | with_reducible refine AWP.ret ?_
    | with_reducible refine AWP.label ?_
    | with_reducible refine AWP.goto ?_
    | ((with_reducible refine AWP.condT ?_ ?_); focus (simp only [ev, lk_cons, ↓reduceIte, Nat.reduceEqDiff]; done))
    | ((with_reducible refine AWP.condF ?_ ?_); focus (simp only [ev, lk_cons, ↓reduceIte, Nat.reduceEqDiff]; done))
    | simp only [↓regionW_nil, ↓regionW_go, ↓regionW_if, ↓gstep_tt, ↓gstep_ff, ↓gstep_tf, ↓gstep_ft, ↓gstep_no, wantW, gd, ↓op_move, ↓op_assign, ↓op_alloc, ↓op_box, ↓op_build, ↓op_buildSlice, ↓op_load, ↓op_store, ↓op_binOp, ↓op_unOp, ↓op_convert, ↓op_makeInterface, ↓op_makeFunc, ↓op_makeSlice, ↓op_slice, ↓op_fieldAddr, ↓op_field, ↓op_indexAddr, ↓op_index, ↓op_typeAssert, ↓op_extract, ↓op_callV, ↓op_callB, ↓op_callI, ↓op_pick, ↓op_panic, ↓op_nilCheck, ↓pickW_t, ↓pickW_f, ↓pickW_b, ↓panW_i, ↓nilW_p, ↓nilW_f, ↓nilW_i, invokeW, ev, evs, evP, evO, lk_co, lk_nil, ↓wth_so, ↓kv_go, ↓put_so, ↓put_no, ↓next_n, ↓next_e, ↓next_g, ↓next_r, ↓next_p, ↓inB_n, ↓inB_e, ↓inB_g, ↓inB_r, ↓inB_p, ↓resK_r, ↓resK_p, noVal, plain, scalar, List.all_cons, List.all_nil, Bool.and_true, Bool.true_and, Bool.and_self, List.cons_append, List.nil_append, List.append_nil, List.append_assoc, List.getElem?_cons_zero, List.getElem?_cons_succ, List.getElem?_nil, List.set_cons_zero, List.set_cons_succ, Option.bind_some, Option.map_some, ↓reduceIte, Nat.reduceEqDiff, reduceCtorEq, argEnv, Nat.reduceAdd, Nat.zero_add, Nat.add_zero, true_implies, false_implies, decide_true, decide_false, Bool.not_true, Bool.not_false, Bool.true_eq_false, ne_eq, not_true_eq_false, not_false_eq_true, and_true, true_and, builtinW, ↓lenW_bs, lenW, bs_toList', ↓strW_eql, ↓strW_neq, ↓strW_lss, ↓strW_leq, ↓strW_gtr, ↓strW_geq, ↓strW_add, binW_int, binW_str, binW_bool_eql, binW_bool_neq, binW_agg_eql, binW_agg_neq, binW_slice_eql, binW_slice_neq, eqV_bool, eqV_int, eqV_sn, eqV_nn, eqV_ns, unW_not, unW_neg, unW_xor, fillL, placeOf, Int.reduceEq, Int.reduceToNat, Int.reduceLT, Int.reduceLE, Int.reduceAdd, Int.reduceSub, Int.reduceMul, Int.reduceNeg, Nat.reduceMul, Nat.reduceLeDiff, Nat.reduceLT, Int.cast_ofNat_Int, Int.natCast_zero, Nat.le_refl, intW, strW, callV, FPost, LeaveW, resV, packV0, packV1, packV2, extractW, loadW, storeW, indexW, indexAddrW, convW, bitV, fieldW, fieldAddrW, partW, buildW, allocW, boxW, restrict, reads, Op.operands, tmpOf, ASt.only, stepW, Option.toList, List.filterMap_cons, List.filterMap_nil, hget0, hgetk, hset0, hsetk, List.length_append, List.length_cons, List.length_nil, List.length_set, Nat.add_assoc, Option.some.injEq, forall_eq', List.take_succ_cons, List.take_zero, List.drop_succ_cons, List.drop_zero, Nat.mul_one, ownW, Bool.false_eq_true, cellsOf_int, cellsOf_bool, cellsOf_string, cellsOf_agg, cellsOf_pointer, cellsOf_slice, cellsOf_map, cellsOf_func, cellsOf_nilFunc, cellsOf_iface, cellsOf_nilIface, putCells, flat, quietW, mkB, AObj.loop.injEq, roundQ, endR, loopK, exists_eq_left', and_assoc, exists_and_left, exists_const, Call.operands, Int.toNat_natCast, Int.natCast_nonneg, Array.toList_append, bytesC_length, bytesC_set, bytesC_take, bytesC_drop, bytesC_append, bytesC_nil, u8s_bytesC, Try.underlying5, ts5, tb5, ta5, tz5, tv5, tc5, bw8_xor, x.toNat_lt, y.toNat_lt, UInt8.toNat_xor]
    | simp (disch := omega) only [wi64, wu8, wu16, wu32, wu64]
    | with_reducible_and_instances exact finR
    | ((with_reducible refine finR' ?_ ?_) <;> rfl)
    | ((with_reducible refine finD hsc (NRel.of_plain ?_)); exact rfl)
theorem bit (s : List UInt8) (n : Nat) (hn : n < 160) (hs : s.length = 20) (H : AHeap) : ARet Try.prog 34 [.string (bs s), .int .i64 (n : Nat)] H (.bool (bitAt s n)) H := by
  refine AC.enter Try.func34 rfl (by kernel_rfl) 15 rfl [.tmp 4] rfl (by simp) fun hsc B => ?_
  have hg : s[n / 8]? = some (s.getD (n / 8) 0) := by rw [List.getD_eq_getElem?_getD, List.getElem?_eq_getElem (by omega)]; rfl
  have ht : (7 - ((n % 8 : Nat) : Int)).toNat = 7 - n % 8 := by omega
  have h0 : (0 : Int) ≤ 7 - ((n % 8 : Nat) : Int) := by omega
  repeat first
    | with_reducible refine AWP.seq ?_
    | ((with_reducible refine AWP.region ?_ ?_); exact rfl)
    | with_reducible refine AWP.block ?_
    | with_reducible refine AWP.skip ?_
    | with_reducible refine AWP.exit ?_
    | with_reducible refine AWP.ret ?_
    | with_reducible refine AWP.label ?_
    | with_reducible refine AWP.goto ?_
    | ((with_reducible refine AWP.condT ?_ ?_); focus (simp only [ev, lk_cons, ↓reduceIte, Nat.reduceEqDiff]; done))
    | ((with_reducible refine AWP.condF ?_ ?_); focus (simp only [ev, lk_cons, ↓reduceIte, Nat.reduceEqDiff]; done))
    | simp only [↓regionW_nil, ↓regionW_go, ↓regionW_if, ↓gstep_tt, ↓gstep_ff, ↓gstep_tf, ↓gstep_ft, ↓gstep_no, wantW, gd, ↓op_move, ↓op_assign, ↓op_alloc, ↓op_box, ↓op_build, ↓op_buildSlice, ↓op_load, ↓op_store, ↓op_binOp, ↓op_unOp, ↓op_convert, ↓op_makeInterface, ↓op_makeFunc, ↓op_makeSlice, ↓op_slice, ↓op_fieldAddr, ↓op_field, ↓op_indexAddr, ↓op_index, ↓op_typeAssert, ↓op_extract, ↓op_callV, ↓op_callB, ↓op_callI, ↓op_pick, ↓op_panic, ↓op_nilCheck, ↓pickW_t, ↓pickW_f, ↓pickW_b, ↓panW_i, ↓nilW_p, ↓nilW_f, ↓nilW_i, invokeW, ev, evs, evP, evO, lk_co, lk_nil, ↓wth_so, ↓kv_go, ↓put_so, ↓put_no, ↓next_n, ↓next_e, ↓next_g, ↓next_r, ↓next_p, ↓inB_n, ↓inB_e, ↓inB_g, ↓inB_r, ↓inB_p, ↓resK_r, ↓resK_p, noVal, plain, scalar, List.all_cons, List.all_nil, Bool.and_true, Bool.true_and, Bool.and_self, List.cons_append, List.nil_append, List.append_nil, List.append_assoc, List.getElem?_cons_zero, List.getElem?_cons_succ, List.getElem?_nil, List.set_cons_zero, List.set_cons_succ, Option.bind_some, Option.map_some, ↓reduceIte, Nat.reduceEqDiff, reduceCtorEq, argEnv, Nat.reduceAdd, Nat.zero_add, Nat.add_zero, true_implies, false_implies, decide_true, decide_false, Bool.not_true, Bool.not_false, Bool.true_eq_false, ne_eq, not_true_eq_false, not_false_eq_true, and_true, true_and, builtinW, ↓lenW_bs, lenW, bs_toList', ↓strW_eql, ↓strW_neq, ↓strW_lss, ↓strW_leq, ↓strW_gtr, ↓strW_geq, ↓strW_add, binW_int, binW_str, binW_bool_eql, binW_bool_neq, binW_agg_eql, binW_agg_neq, binW_slice_eql, binW_slice_neq, eqV_bool, eqV_int, eqV_sn, eqV_nn, eqV_ns, unW_not, unW_neg, unW_xor, fillL, placeOf, Int.reduceEq, Int.reduceToNat, Int.reduceLT, Int.reduceLE, Int.reduceAdd, Int.reduceSub, Int.reduceMul, Int.reduceNeg, Nat.reduceMul, Nat.reduceLeDiff, Nat.reduceLT, Int.cast_ofNat_Int, Int.natCast_zero, Nat.le_refl, intW, strW, callV, FPost, LeaveW, resV, packV0, packV1, packV2, extractW, loadW, storeW, indexW, indexAddrW, convW, bitV, fieldW, fieldAddrW, partW, buildW, allocW, boxW, restrict, reads, Op.operands, tmpOf, ASt.only, stepW, Option.toList, List.filterMap_cons, List.filterMap_nil, hget0, hgetk, hset0, hsetk, List.length_append, List.length_cons, List.length_nil, List.length_set, Nat.add_assoc, Option.some.injEq, forall_eq', List.take_succ_cons, List.take_zero, List.drop_succ_cons, List.drop_zero, Nat.mul_one, ownW, Bool.false_eq_true, cellsOf_int, cellsOf_bool, cellsOf_string, cellsOf_agg, cellsOf_pointer, cellsOf_slice, cellsOf_map, cellsOf_func, cellsOf_nilFunc, cellsOf_iface, cellsOf_nilIface, putCells, flat, quietW, mkB, AObj.loop.injEq, roundQ, endR, loopK, exists_eq_left', and_assoc, exists_and_left, exists_const, Call.operands, Int.toNat_natCast, Int.natCast_nonneg, Array.toList_append, bytesC_length, bytesC_set, bytesC_take, bytesC_drop, bytesC_append, bytesC_nil, u8s_bytesC, Try.underlying3, ts3, tb3, ta3, tz3, tv3, tc3, Try.underlying5, ts5, tb5, ta5, tz5, tv5, tc5, Try.underlying9, ts9, tb9, ta9, tz9, tv9, tc9, tdiv8, tmod8, hg, ht, h0]
    | simp (disch := omega) only [wi64, wu8, wu16, wu32, wu64]
    | with_reducible_and_instances exact finR
    | ((with_reducible refine finR' ?_ ?_) <;> rfl)
    | ((with_reducible refine finD hsc (NRel.of_plain ?_)); exact rfl)
  rw [bw8_shr_bit _ _ (by omega)]
  exact ⟨_, _, .refl _ _ _, rfl, rfl⟩
def dist (a b : List UInt8) : List UInt8 := List.zipWith (· ^^^ ·) a b
theorem distance (a b : List UInt8) (h : a.length ≤ b.length) (hb : a.length < 1000) (H : AHeap) : ARet Try.prog 28 [.string (bs a), .string (bs b)] H (.string (bs (dist a b))) H := by
  refine AC.enter Try.func28 rfl (by kernel_rfl) 8 rfl [.tmp 4] rfl (by simp) fun hsc B => ?_
  unfold dist
  repeat first
    | with_reducible refine AWP.seq ?_
    | ((with_reducible refine AWP.region ?_ ?_); exact rfl)
    | with_reducible refine AWP.block ?_
    | with_reducible refine AWP.skip ?_
    | with_reducible refine AWP.exit ?_
    | with_reducible refine AWP.ret ?_
    | with_reducible refine AWP.label ?_
    | with_reducible refine AWP.goto ?_
    | ((with_reducible refine AWP.condT ?_ ?_); focus (simp only [ev, lk_cons, ↓reduceIte, Nat.reduceEqDiff]; done))
    | ((with_reducible refine AWP.condF ?_ ?_); focus (simp only [ev, lk_cons, ↓reduceIte, Nat.reduceEqDiff]; done))
    | with_reducible refine (joined 47 _ xorB a b h hb _).use ?_
    | simp only [↓regionW_nil, ↓regionW_go, ↓regionW_if, ↓gstep_tt, ↓gstep_ff, ↓gstep_tf, ↓gstep_ft, ↓gstep_no, wantW, gd, ↓op_move, ↓op_assign, ↓op_alloc, ↓op_box, ↓op_build, ↓op_buildSlice, ↓op_load, ↓op_store, ↓op_binOp, ↓op_unOp, ↓op_convert, ↓op_makeInterface, ↓op_makeFunc, ↓op_makeSlice, ↓op_slice, ↓op_fieldAddr, ↓op_field, ↓op_indexAddr, ↓op_index, ↓op_typeAssert, ↓op_extract, ↓op_callV, ↓op_callB, ↓op_callI, ↓op_pick, ↓op_panic, ↓op_nilCheck, ↓pickW_t, ↓pickW_f, ↓pickW_b, ↓panW_i, ↓nilW_p, ↓nilW_f, ↓nilW_i, invokeW, ev, evs, evP, evO, lk_co, lk_nil, ↓wth_so, ↓kv_go, ↓put_so, ↓put_no, ↓next_n, ↓next_e, ↓next_g, ↓next_r, ↓next_p, ↓inB_n, ↓inB_e, ↓inB_g, ↓inB_r, ↓inB_p, ↓resK_r, ↓resK_p, noVal, plain, scalar, List.all_cons, List.all_nil, Bool.and_true, Bool.true_and, Bool.and_self, List.cons_append, List.nil_append, List.append_nil, List.append_assoc, List.getElem?_cons_zero, List.getElem?_cons_succ, List.getElem?_nil, List.set_cons_zero, List.set_cons_succ, Option.bind_some, Option.map_some, ↓reduceIte, Nat.reduceEqDiff, reduceCtorEq, argEnv, Nat.reduceAdd, Nat.zero_add, Nat.add_zero, true_implies, false_implies, decide_true, decide_false, Bool.not_true, Bool.not_false, Bool.true_eq_false, ne_eq, not_true_eq_false, not_false_eq_true, and_true, true_and, builtinW, ↓lenW_bs, lenW, bs_toList', ↓strW_eql, ↓strW_neq, ↓strW_lss, ↓strW_leq, ↓strW_gtr, ↓strW_geq, ↓strW_add, binW_int, binW_str, binW_bool_eql, binW_bool_neq, binW_agg_eql, binW_agg_neq, binW_slice_eql, binW_slice_neq, eqV_bool, eqV_int, eqV_sn, eqV_nn, eqV_ns, unW_not, unW_neg, unW_xor, fillL, placeOf, Int.reduceEq, Int.reduceToNat, Int.reduceLT, Int.reduceLE, Int.reduceAdd, Int.reduceSub, Int.reduceMul, Int.reduceNeg, Nat.reduceMul, Nat.reduceLeDiff, Nat.reduceLT, Int.cast_ofNat_Int, Int.natCast_zero, Nat.le_refl, intW, strW, callV, FPost, LeaveW, resV, packV0, packV1, packV2, extractW, loadW, storeW, indexW, indexAddrW, convW, bitV, fieldW, fieldAddrW, partW, buildW, allocW, boxW, restrict, reads, Op.operands, tmpOf, ASt.only, stepW, Option.toList, List.filterMap_cons, List.filterMap_nil, hget0, hgetk, hset0, hsetk, List.length_append, List.length_cons, List.length_nil, List.length_set, Nat.add_assoc, Option.some.injEq, forall_eq', List.take_succ_cons, List.take_zero, List.drop_succ_cons, List.drop_zero, Nat.mul_one, ownW, Bool.false_eq_true, cellsOf_int, cellsOf_bool, cellsOf_string, cellsOf_agg, cellsOf_pointer, cellsOf_slice, cellsOf_map, cellsOf_func, cellsOf_nilFunc, cellsOf_iface, cellsOf_nilIface, putCells, flat, quietW, mkB, AObj.loop.injEq, roundQ, endR, loopK, exists_eq_left', and_assoc, exists_and_left, exists_const, Call.operands, Int.toNat_natCast, Int.natCast_nonneg, Array.toList_append, bytesC_length, bytesC_set, bytesC_take, bytesC_drop, bytesC_append, bytesC_nil, u8s_bytesC, Try.underlying9, ts9, tb9, ta9, tz9, tv9, tc9, Try.underlying72, ts72, tb72, ta72, tz72, tv72, tc72]
    | simp (disch := omega) only [wi64, wu8, wu16, wu32, wu64]
    | with_reducible_and_instances exact finR
    | ((with_reducible refine finR' ?_ ?_) <;> rfl)
    | ((with_reducible refine finD hsc (NRel.of_plain ?_)); exact rfl)
theorem Distance (a b : List UInt8) (H : AHeap) : ARet Try.prog 6 [.string (bs a), .string (bs b)] H (if a.length = 20 ∧ b.length = 20 then .tuple ⟨[.string (bs (dist a b)), .int .i64 0]⟩ else .tuple ⟨[.string (bs []), .int .i64 1]⟩) H := by
  by_cases ha : a.length = 20
  · by_cases hb : b.length = 20
    · rw [if_pos ⟨ha, hb⟩]
      refine AC.enter Try.func6 rfl (by kernel_rfl) 17 rfl [.tmp 4, .tmp 5] rfl (by simp) fun hsc B => ?_
      repeat first
        | with_reducible refine AWP.seq ?_
        | ((with_reducible refine AWP.region ?_ ?_); exact rfl)
        | with_reducible refine AWP.block ?_
        | with_reducible refine AWP.skip ?_
        | with_reducible refine AWP.exit ?_
        | with_reducible refine AWP.ret ?_
        | with_reducible refine AWP.label ?_
        | with_reducible refine AWP.goto ?_
        | ((with_reducible refine AWP.condT ?_ ?_); focus (simp only [ev, lk_cons, ↓reduceIte, Nat.reduceEqDiff]; done))
        | ((with_reducible refine AWP.condF ?_ ?_); focus (simp only [ev, lk_cons, ↓reduceIte, Nat.reduceEqDiff]; done))
        | with_reducible refine (valid a _).use ?_
        | with_reducible refine (valid b _).use ?_
        | with_reducible refine (distance a b (by omega) (by omega) _).use ?_
        | simp only [↓regionW_nil, ↓regionW_go, ↓regionW_if, ↓gstep_tt, ↓gstep_ff, ↓gstep_tf, ↓gstep_ft, ↓gstep_no, wantW, gd, ↓op_move, ↓op_assign, ↓op_alloc, ↓op_box, ↓op_build, ↓op_buildSlice, ↓op_load, ↓op_store, ↓op_binOp, ↓op_unOp, ↓op_convert, ↓op_makeInterface, ↓op_makeFunc, ↓op_makeSlice, ↓op_slice, ↓op_fieldAddr, ↓op_field, ↓op_indexAddr, ↓op_index, ↓op_typeAssert, ↓op_extract, ↓op_callV, ↓op_callB, ↓op_callI, ↓op_pick, ↓op_panic, ↓op_nilCheck, ↓pickW_t, ↓pickW_f, ↓pickW_b, ↓panW_i, ↓nilW_p, ↓nilW_f, ↓nilW_i, invokeW, ev, evs, evP, evO, lk_co, lk_nil, ↓wth_so, ↓kv_go, ↓put_so, ↓put_no, ↓next_n, ↓next_e, ↓next_g, ↓next_r, ↓next_p, ↓inB_n, ↓inB_e, ↓inB_g, ↓inB_r, ↓inB_p, ↓resK_r, ↓resK_p, noVal, plain, scalar, List.all_cons, List.all_nil, Bool.and_true, Bool.true_and, Bool.and_self, List.cons_append, List.nil_append, List.append_nil, List.append_assoc, List.getElem?_cons_zero, List.getElem?_cons_succ, List.getElem?_nil, List.set_cons_zero, List.set_cons_succ, Option.bind_some, Option.map_some, ↓reduceIte, Nat.reduceEqDiff, reduceCtorEq, argEnv, Nat.reduceAdd, Nat.zero_add, Nat.add_zero, true_implies, false_implies, decide_true, decide_false, Bool.not_true, Bool.not_false, Bool.true_eq_false, ne_eq, not_true_eq_false, not_false_eq_true, and_true, true_and, builtinW, ↓lenW_bs, lenW, bs_toList', ↓strW_eql, ↓strW_neq, ↓strW_lss, ↓strW_leq, ↓strW_gtr, ↓strW_geq, ↓strW_add, binW_int, binW_str, binW_bool_eql, binW_bool_neq, binW_agg_eql, binW_agg_neq, binW_slice_eql, binW_slice_neq, eqV_bool, eqV_int, eqV_sn, eqV_nn, eqV_ns, unW_not, unW_neg, unW_xor, fillL, placeOf, Int.reduceEq, Int.reduceToNat, Int.reduceLT, Int.reduceLE, Int.reduceAdd, Int.reduceSub, Int.reduceMul, Int.reduceNeg, Nat.reduceMul, Nat.reduceLeDiff, Nat.reduceLT, Int.cast_ofNat_Int, Int.natCast_zero, Nat.le_refl, intW, strW, callV, FPost, LeaveW, resV, packV0, packV1, packV2, extractW, loadW, storeW, indexW, indexAddrW, convW, bitV, fieldW, fieldAddrW, partW, buildW, allocW, boxW, restrict, reads, Op.operands, tmpOf, ASt.only, stepW, Option.toList, List.filterMap_cons, List.filterMap_nil, hget0, hgetk, hset0, hsetk, List.length_append, List.length_cons, List.length_nil, List.length_set, Nat.add_assoc, Option.some.injEq, forall_eq', List.take_succ_cons, List.take_zero, List.drop_succ_cons, List.drop_zero, Nat.mul_one, ownW, Bool.false_eq_true, cellsOf_int, cellsOf_bool, cellsOf_string, cellsOf_agg, cellsOf_pointer, cellsOf_slice, cellsOf_map, cellsOf_func, cellsOf_nilFunc, cellsOf_iface, cellsOf_nilIface, putCells, flat, quietW, mkB, AObj.loop.injEq, roundQ, endR, loopK, exists_eq_left', and_assoc, exists_and_left, exists_const, Call.operands, Int.toNat_natCast, Int.natCast_nonneg, Array.toList_append, bytesC_length, bytesC_set, bytesC_take, bytesC_drop, bytesC_append, bytesC_nil, u8s_bytesC, Try.underlying4, ts4, tb4, ta4, tz4, tv4, tc4, Try.underlying9, ts9, tb9, ta9, tz9, tv9, tc9, ha, hb]
        | simp (disch := omega) only [wi64, wu8, wu16, wu32, wu64]
        | with_reducible_and_instances exact finR
        | ((with_reducible refine finR' ?_ ?_) <;> rfl)
        | ((with_reducible refine finD hsc (NRel.of_plain ?_)); exact rfl)
    · rw [if_neg (fun h => hb h.2)]
      refine AC.enter Try.func6 rfl (by kernel_rfl) 17 rfl [.tmp 4, .tmp 5] rfl (by simp) fun hsc B => ?_
      repeat first
        | with_reducible refine AWP.seq ?_
        | ((with_reducible refine AWP.region ?_ ?_); exact rfl)
        | with_reducible refine AWP.block ?_
        | with_reducible refine AWP.skip ?_
        | with_reducible refine AWP.exit ?_
        | with_reducible refine AWP.ret ?_
        | with_reducible refine AWP.label ?_
        | with_reducible refine AWP.goto ?_
        | ((with_reducible refine AWP.condT ?_ ?_); focus (simp only [ev, lk_cons, ↓reduceIte, Nat.reduceEqDiff]; done))
        | ((with_reducible refine AWP.condF ?_ ?_); focus (simp only [ev, lk_cons, ↓reduceIte, Nat.reduceEqDiff]; done))
        | with_reducible refine (valid a _).use ?_
        | with_reducible refine (valid b _).use ?_
        | simp only [↓regionW_nil, ↓regionW_go, ↓regionW_if, ↓gstep_tt, ↓gstep_ff, ↓gstep_tf, ↓gstep_ft, ↓gstep_no, wantW, gd, ↓op_move, ↓op_assign, ↓op_alloc, ↓op_box, ↓op_build, ↓op_buildSlice, ↓op_load, ↓op_store, ↓op_binOp, ↓op_unOp, ↓op_convert, ↓op_makeInterface, ↓op_makeFunc, ↓op_makeSlice, ↓op_slice, ↓op_fieldAddr, ↓op_field, ↓op_indexAddr, ↓op_index, ↓op_typeAssert, ↓op_extract, ↓op_callV, ↓op_callB, ↓op_callI, ↓op_pick, ↓op_panic, ↓op_nilCheck, ↓pickW_t, ↓pickW_f, ↓pickW_b, ↓panW_i, ↓nilW_p, ↓nilW_f, ↓nilW_i, invokeW, ev, evs, evP, evO, lk_co, lk_nil, ↓wth_so, ↓kv_go, ↓put_so, ↓put_no, ↓next_n, ↓next_e, ↓next_g, ↓next_r, ↓next_p, ↓inB_n, ↓inB_e, ↓inB_g, ↓inB_r, ↓inB_p, ↓resK_r, ↓resK_p, noVal, plain, scalar, List.all_cons, List.all_nil, Bool.and_true, Bool.true_and, Bool.and_self, List.cons_append, List.nil_append, List.append_nil, List.append_assoc, List.getElem?_cons_zero, List.getElem?_cons_succ, List.getElem?_nil, List.set_cons_zero, List.set_cons_succ, Option.bind_some, Option.map_some, ↓reduceIte, Nat.reduceEqDiff, reduceCtorEq, argEnv, Nat.reduceAdd, Nat.zero_add, Nat.add_zero, true_implies, false_implies, decide_true, decide_false, Bool.not_true, Bool.not_false, Bool.true_eq_false, ne_eq, not_true_eq_false, not_false_eq_true, and_true, true_and, builtinW, ↓lenW_bs, lenW, bs_toList', ↓strW_eql, ↓strW_neq, ↓strW_lss, ↓strW_leq, ↓strW_gtr, ↓strW_geq, ↓strW_add, binW_int, binW_str, binW_bool_eql, binW_bool_neq, binW_agg_eql, binW_agg_neq, binW_slice_eql, binW_slice_neq, eqV_bool, eqV_int, eqV_sn, eqV_nn, eqV_ns, unW_not, unW_neg, unW_xor, fillL, placeOf, Int.reduceEq, Int.reduceToNat, Int.reduceLT, Int.reduceLE, Int.reduceAdd, Int.reduceSub, Int.reduceMul, Int.reduceNeg, Nat.reduceMul, Nat.reduceLeDiff, Nat.reduceLT, Int.cast_ofNat_Int, Int.natCast_zero, Nat.le_refl, intW, strW, callV, FPost, LeaveW, resV, packV0, packV1, packV2, extractW, loadW, storeW, indexW, indexAddrW, convW, bitV, fieldW, fieldAddrW, partW, buildW, allocW, boxW, restrict, reads, Op.operands, tmpOf, ASt.only, stepW, Option.toList, List.filterMap_cons, List.filterMap_nil, hget0, hgetk, hset0, hsetk, List.length_append, List.length_cons, List.length_nil, List.length_set, Nat.add_assoc, Option.some.injEq, forall_eq', List.take_succ_cons, List.take_zero, List.drop_succ_cons, List.drop_zero, Nat.mul_one, ownW, Bool.false_eq_true, cellsOf_int, cellsOf_bool, cellsOf_string, cellsOf_agg, cellsOf_pointer, cellsOf_slice, cellsOf_map, cellsOf_func, cellsOf_nilFunc, cellsOf_iface, cellsOf_nilIface, putCells, flat, quietW, mkB, AObj.loop.injEq, roundQ, endR, loopK, exists_eq_left', and_assoc, exists_and_left, exists_const, Call.operands, Int.toNat_natCast, Int.natCast_nonneg, Array.toList_append, bytesC_length, bytesC_set, bytesC_take, bytesC_drop, bytesC_append, bytesC_nil, u8s_bytesC, Try.underlying4, ts4, tb4, ta4, tz4, tv4, tc4, Try.underlying9, ts9, tb9, ta9, tz9, tv9, tc9, ha, hb]
        | simp (disch := omega) only [wi64, wu8, wu16, wu32, wu64]
        | with_reducible_and_instances exact finR
        | ((with_reducible refine finR' ?_ ?_) <;> rfl)
        | ((with_reducible refine finD hsc (NRel.of_plain ?_)); exact rfl)
  · rw [if_neg (fun h => ha h.1)]
    refine AC.enter Try.func6 rfl (by kernel_rfl) 17 rfl [.tmp 4, .tmp 5] rfl (by simp) fun hsc B => ?_
    repeat first
      | with_reducible refine AWP.seq ?_
      | ((with_reducible refine AWP.region ?_ ?_); exact rfl)
      | with_reducible refine AWP.block ?_
      | with_reducible refine AWP.skip ?_
      | with_reducible refine AWP.exit ?_
      | with_reducible refine AWP.ret ?_
      | with_reducible refine AWP.label ?_
      | with_reducible refine AWP.goto ?_
      | ((with_reducible refine AWP.condT ?_ ?_); focus (simp only [ev, lk_cons, ↓reduceIte, Nat.reduceEqDiff]; done))
      | ((with_reducible refine AWP.condF ?_ ?_); focus (simp only [ev, lk_cons, ↓reduceIte, Nat.reduceEqDiff]; done))
      | with_reducible refine (valid a _).use ?_
      | with_reducible refine (valid b _).use ?_
      | simp only [↓regionW_nil, ↓regionW_go, ↓regionW_if, ↓gstep_tt, ↓gstep_ff, ↓gstep_tf, ↓gstep_ft, ↓gstep_no, wantW, gd, ↓op_move, ↓op_assign, ↓op_alloc, ↓op_box, ↓op_build, ↓op_buildSlice, ↓op_load, ↓op_store, ↓op_binOp, ↓op_unOp, ↓op_convert, ↓op_makeInterface, ↓op_makeFunc, ↓op_makeSlice, ↓op_slice, ↓op_fieldAddr, ↓op_field, ↓op_indexAddr, ↓op_index, ↓op_typeAssert, ↓op_extract, ↓op_callV, ↓op_callB, ↓op_callI, ↓op_pick, ↓op_panic, ↓op_nilCheck, ↓pickW_t, ↓pickW_f, ↓pickW_b, ↓panW_i, ↓nilW_p, ↓nilW_f, ↓nilW_i, invokeW, ev, evs, evP, evO, lk_co, lk_nil, ↓wth_so, ↓kv_go, ↓put_so, ↓put_no, ↓next_n, ↓next_e, ↓next_g, ↓next_r, ↓next_p, ↓inB_n, ↓inB_e, ↓inB_g, ↓inB_r, ↓inB_p, ↓resK_r, ↓resK_p, noVal, plain, scalar, List.all_cons, List.all_nil, Bool.and_true, Bool.true_and, Bool.and_self, List.cons_append, List.nil_append, List.append_nil, List.append_assoc, List.getElem?_cons_zero, List.getElem?_cons_succ, List.getElem?_nil, List.set_cons_zero, List.set_cons_succ, Option.bind_some, Option.map_some, ↓reduceIte, Nat.reduceEqDiff, reduceCtorEq, argEnv, Nat.reduceAdd, Nat.zero_add, Nat.add_zero, true_implies, false_implies, decide_true, decide_false, Bool.not_true, Bool.not_false, Bool.true_eq_false, ne_eq, not_true_eq_false, not_false_eq_true, and_true, true_and, builtinW, ↓lenW_bs, lenW, bs_toList', ↓strW_eql, ↓strW_neq, ↓strW_lss, ↓strW_leq, ↓strW_gtr, ↓strW_geq, ↓strW_add, binW_int, binW_str, binW_bool_eql, binW_bool_neq, binW_agg_eql, binW_agg_neq, binW_slice_eql, binW_slice_neq, eqV_bool, eqV_int, eqV_sn, eqV_nn, eqV_ns, unW_not, unW_neg, unW_xor, fillL, placeOf, Int.reduceEq, Int.reduceToNat, Int.reduceLT, Int.reduceLE, Int.reduceAdd, Int.reduceSub, Int.reduceMul, Int.reduceNeg, Nat.reduceMul, Nat.reduceLeDiff, Nat.reduceLT, Int.cast_ofNat_Int, Int.natCast_zero, Nat.le_refl, intW, strW, callV, FPost, LeaveW, resV, packV0, packV1, packV2, extractW, loadW, storeW, indexW, indexAddrW, convW, bitV, fieldW, fieldAddrW, partW, buildW, allocW, boxW, restrict, reads, Op.operands, tmpOf, ASt.only, stepW, Option.toList, List.filterMap_cons, List.filterMap_nil, hget0, hgetk, hset0, hsetk, List.length_append, List.length_cons, List.length_nil, List.length_set, Nat.add_assoc, Option.some.injEq, forall_eq', List.take_succ_cons, List.take_zero, List.drop_succ_cons, List.drop_zero, Nat.mul_one, ownW, Bool.false_eq_true, cellsOf_int, cellsOf_bool, cellsOf_string, cellsOf_agg, cellsOf_pointer, cellsOf_slice, cellsOf_map, cellsOf_func, cellsOf_nilFunc, cellsOf_iface, cellsOf_nilIface, putCells, flat, quietW, mkB, AObj.loop.injEq, roundQ, endR, loopK, exists_eq_left', and_assoc, exists_and_left, exists_const, Call.operands, Int.toNat_natCast, Int.natCast_nonneg, Array.toList_append, bytesC_length, bytesC_set, bytesC_take, bytesC_drop, bytesC_append, bytesC_nil, u8s_bytesC, Try.underlying4, ts4, tb4, ta4, tz4, tv4, tc4, Try.underlying9, ts9, tb9, ta9, tz9, tv9, tc9, ha]
      | simp (disch := omega) only [wi64, wu8, wu16, wu32, wu64]
      | with_reducible_and_instances exact finR
      | ((with_reducible refine finR' ?_ ?_) <;> rfl)
      | ((with_reducible refine finD hsc (NRel.of_plain ?_)); exact rfl)
end Go.Proofs.Ytdbdnknnaekbhaa
