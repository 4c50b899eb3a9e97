/-
  The walk of identifiers: common bits, the specification too.
-/
import Derived.Test.YtmpkgdilmkeacaaDoorR3
set_option linter.unusedVariables false
set_option linter.unusedSimpArgs false
set_option maxRecDepth 20000
set_option maxHeartbeats 4000000
namespace Go.Proofs.YtmpkgdilmkeacaaDoor
open Go Go.Aw Go.Proofs
theorem Common (a b : List UInt8) (H : AHeap) : ARet Tryd.prog 38 [.string (bs a), .string (bs b)] H (if a.length = 20 ∧ b.length = 20 then .tuple ⟨[.int .i64 (lead (bitAt (dist a b)) 160 : Nat), .int .i64 0]⟩ else .tuple ⟨[.int .i64 0, .int .i64 1]⟩) H := by
  by_cases ha : a.length = 20
  · by_cases hb : b.length = 20
    · rw [if_pos ⟨ha, hb⟩]
      refine AC.enter Tryd.func38 rfl (by kernel_rfl) 17 rfl [.tmp 4, .tmp 5] rfl (by simp) fun hsc B => ?_
      repeat first
        | with_reducible refine AWP.seq ?_
        | ((with_reducible refine AWP.region ?_ ?_); exact rfl)
        | with_reducible refine AWP.block ?_
        | with_reducible refine AWP.skip ?_
        | with_reducible refine AWP.exit ?_
        | with_reducible refine AWP.ret ?_
        | with_reducible refine AWP.label ?_
        | with_reducible refine AWP.goto ?_
        | ((with_reducible refine AWP.condT ?_ ?_); focus (simp only [ev, lk_cons, ↓reduceIte, Nat.reduceEqDiff]; done))
        | ((with_reducible refine AWP.condF ?_ ?_); focus (simp only [ev, lk_cons, ↓reduceIte, Nat.reduceEqDiff]; done))
        | with_reducible refine (valid a _).use ?_
        | with_reducible refine (valid b _).use ?_
        | with_reducible refine (common a b ha hb _).use ?_
        | simp only [↓regionW_nil, ↓regionW_go, ↓regionW_if, ↓gstep_tt, ↓gstep_ff, ↓gstep_tf, ↓gstep_ft, ↓gstep_no, wantW, gd, ↓op_move, ↓op_assign, ↓op_alloc, ↓op_box, ↓op_build, ↓op_buildSlice, ↓op_load, ↓op_store, ↓op_binOp, ↓op_unOp, ↓op_convert, ↓op_makeInterface, ↓op_makeFunc, ↓op_makeSlice, ↓op_slice, ↓op_fieldAddr, ↓op_field, ↓op_indexAddr, ↓op_index, ↓op_typeAssert, ↓op_extract, ↓op_callV, ↓op_callB, ↓op_callI, ↓op_pick, ↓op_panic, ↓op_nilCheck, ↓pickW_t, ↓pickW_f, ↓pickW_b, ↓panW_i, ↓nilW_p, ↓nilW_f, ↓nilW_i, invokeW, ev, evs, evP, evO, lk_co, lk_nil, ↓wth_so, ↓kv_go, ↓put_so, ↓put_no, ↓next_n, ↓next_e, ↓next_g, ↓next_r, ↓next_p, ↓inB_n, ↓inB_e, ↓inB_g, ↓inB_r, ↓inB_p, ↓resK_r, ↓resK_p, noVal, plain, scalar, List.all_cons, List.all_nil, Bool.and_true, Bool.true_and, Bool.and_self, List.cons_append, List.nil_append, List.append_nil, List.append_assoc, List.getElem?_cons_zero, List.getElem?_cons_succ, List.getElem?_nil, List.set_cons_zero, List.set_cons_succ, Option.bind_some, Option.map_some, ↓reduceIte, Nat.reduceEqDiff, reduceCtorEq, argEnv, Nat.reduceAdd, Nat.zero_add, Nat.add_zero, true_implies, false_implies, decide_true, decide_false, Bool.not_true, Bool.not_false, Bool.true_eq_false, ne_eq, not_true_eq_false, not_false_eq_true, and_true, true_and, builtinW, ↓lenW_bs, lenW, bs_toList', ↓strW_eql, ↓strW_neq, ↓strW_lss, ↓strW_leq, ↓strW_gtr, ↓strW_geq, ↓strW_add, binW_int, binW_str, binW_bool_eql, binW_bool_neq, binW_agg_eql, binW_agg_neq, binW_slice_eql, binW_slice_neq, eqV_bool, eqV_int, eqV_sn, eqV_nn, eqV_ns, unW_not, unW_neg, unW_xor, fillL, placeOf, Int.reduceEq, Int.reduceBNe, Int.reduceBEq, bne_self_eq_false, beq_self_eq_true, Int.reduceToNat, Int.reduceLT, Int.reduceLE, Int.reduceGT, Int.reduceGE, Nat.reduceSub, Nat.reduceBEq, Nat.reduceBNe, Int.reduceAdd, Int.reduceSub, Int.reduceMul, Int.reduceNeg, Nat.reduceMul, Nat.reduceLeDiff, Nat.reduceLT, Int.cast_ofNat_Int, Int.natCast_zero, Nat.le_refl, intW, strW, callV, FPost, LeaveW, resV, packV0, packV1, packV2, extractW, loadW, storeW, indexW, indexAddrW, convW, bitV, fieldW, fieldAddrW, partW, buildW, allocW, boxW, restrict, reads, Op.operands, tmpOf, ASt.only, stepW, Option.toList, List.filterMap_cons, List.filterMap_nil, hget0, hgetk, hset0, hsetk, List.length_append, List.length_cons, List.length_nil, List.length_set, Nat.add_assoc, Option.some.injEq, forall_eq', List.take_succ_cons, List.take_zero, List.drop_succ_cons, List.drop_zero, Nat.mul_one, ownW, Bool.false_eq_true, cellsOf_int, cellsOf_bool, cellsOf_string, cellsOf_agg, cellsOf_pointer, cellsOf_slice, cellsOf_map, cellsOf_func, cellsOf_nilFunc, cellsOf_iface, cellsOf_nilIface, putCells, flat, quietW, mkB, repZ1, appendW, srcW, buildSliceW, sliceW, lowOf, highOf, bs_size, bs_extract, Int.toNat_zero, List.drop_zero, AObj.loop.injEq, roundQ, endR, loopK, exists_eq_left', and_assoc, exists_and_left, exists_const, Call.operands, Int.toNat_natCast, Int.natCast_nonneg, Array.toList_append, bytesC_length, bytesC_set, bytesC_take, bytesC_drop, bytesC_append, bytesC_nil, u8s_bytesC, Tryd.underlying4, ts4, tb4, ta4, tz4, tv4, tc4, Tryd.underlying9, ts9, tb9, ta9, tz9, tv9, tc9, ha, hb]
        | simp (disch := omega) only [wi64, wu8, wu16, wu32, wu64]
        | with_reducible_and_instances exact finR
        | ((with_reducible refine finR' ?_ ?_) <;> rfl)
        | ((with_reducible refine finD hsc (NRel.of_plain ?_)); exact rfl)
    · rw [if_neg (fun h => hb h.2)]
      refine AC.enter Tryd.func38 rfl (by kernel_rfl) 17 rfl [.tmp 4, .tmp 5] rfl (by simp) fun hsc B => ?_
      repeat first
        | with_reducible refine AWP.seq ?_
        | ((with_reducible refine AWP.region ?_ ?_); exact rfl)
        | with_reducible refine AWP.block ?_
        | with_reducible refine AWP.skip ?_
        | with_reducible refine AWP.exit ?_
        | with_reducible refine AWP.ret ?_
        | with_reducible refine AWP.label ?_
        | with_reducible refine AWP.goto ?_
        | ((with_reducible refine AWP.condT ?_ ?_); focus (simp only [ev, lk_cons, ↓reduceIte, Nat.reduceEqDiff]; done))
        | ((with_reducible refine AWP.condF ?_ ?_); focus (simp only [ev, lk_cons, ↓reduceIte, Nat.reduceEqDiff]; done))
        | with_reducible refine (valid a _).use ?_
        | with_reducible refine (valid b _).use ?_
        | simp only [↓regionW_nil, ↓regionW_go, ↓regionW_if, ↓gstep_tt, ↓gstep_ff, ↓gstep_tf, ↓gstep_ft, ↓gstep_no, wantW, gd, ↓op_move, ↓op_assign, ↓op_alloc, ↓op_box, ↓op_build, ↓op_buildSlice, ↓op_load, ↓op_store, ↓op_binOp, ↓op_unOp, ↓op_convert, ↓op_makeInterface, ↓op_makeFunc, ↓op_makeSlice, ↓op_slice, ↓op_fieldAddr, ↓op_field, ↓op_indexAddr, ↓op_index, ↓op_typeAssert, ↓op_extract, ↓op_callV, ↓op_callB, ↓op_callI, ↓op_pick, ↓op_panic, ↓op_nilCheck, ↓pickW_t, ↓pickW_f, ↓pickW_b, ↓panW_i, ↓nilW_p, ↓nilW_f, ↓nilW_i, invokeW, ev, evs, evP, evO, lk_co, lk_nil, ↓wth_so, ↓kv_go, ↓put_so, ↓put_no, ↓next_n, ↓next_e, ↓next_g, ↓next_r, ↓next_p, ↓inB_n, ↓inB_e, ↓inB_g, ↓inB_r, ↓inB_p, ↓resK_r, ↓resK_p, noVal, plain, scalar, List.all_cons, List.all_nil, Bool.and_true, Bool.true_and, Bool.and_self, List.cons_append, List.nil_append, List.append_nil, List.append_assoc, List.getElem?_cons_zero, List.getElem?_cons_succ, List.getElem?_nil, List.set_cons_zero, List.set_cons_succ, Option.bind_some, Option.map_some, ↓reduceIte, Nat.reduceEqDiff, reduceCtorEq, argEnv, Nat.reduceAdd, Nat.zero_add, Nat.add_zero, true_implies, false_implies, decide_true, decide_false, Bool.not_true, Bool.not_false, Bool.true_eq_false, ne_eq, not_true_eq_false, not_false_eq_true, and_true, true_and, builtinW, ↓lenW_bs, lenW, bs_toList', ↓strW_eql, ↓strW_neq, ↓strW_lss, ↓strW_leq, ↓strW_gtr, ↓strW_geq, ↓strW_add, binW_int, binW_str, binW_bool_eql, binW_bool_neq, binW_agg_eql, binW_agg_neq, binW_slice_eql, binW_slice_neq, eqV_bool, eqV_int, eqV_sn, eqV_nn, eqV_ns, unW_not, unW_neg, unW_xor, fillL, placeOf, Int.reduceEq, Int.reduceBNe, Int.reduceBEq, bne_self_eq_false, beq_self_eq_true, Int.reduceToNat, Int.reduceLT, Int.reduceLE, Int.reduceGT, Int.reduceGE, Nat.reduceSub, Nat.reduceBEq, Nat.reduceBNe, Int.reduceAdd, Int.reduceSub, Int.reduceMul, Int.reduceNeg, Nat.reduceMul, Nat.reduceLeDiff, Nat.reduceLT, Int.cast_ofNat_Int, Int.natCast_zero, Nat.le_refl, intW, strW, callV, FPost, LeaveW, resV, packV0, packV1, packV2, extractW, loadW, storeW, indexW, indexAddrW, convW, bitV, fieldW, fieldAddrW, partW, buildW, allocW, boxW, restrict, reads, Op.operands, tmpOf, ASt.only, stepW, Option.toList, List.filterMap_cons, List.filterMap_nil, hget0, hgetk, hset0, hsetk, List.length_append, List.length_cons, List.length_nil, List.length_set, Nat.add_assoc, Option.some.injEq, forall_eq', List.take_succ_cons, List.take_zero, List.drop_succ_cons, List.drop_zero, Nat.mul_one, ownW, Bool.false_eq_true, cellsOf_int, cellsOf_bool, cellsOf_string, cellsOf_agg, cellsOf_pointer, cellsOf_slice, cellsOf_map, cellsOf_func, cellsOf_nilFunc, cellsOf_iface, cellsOf_nilIface, putCells, flat, quietW, mkB, repZ1, appendW, srcW, buildSliceW, sliceW, lowOf, highOf, bs_size, bs_extract, Int.toNat_zero, List.drop_zero, AObj.loop.injEq, roundQ, endR, loopK, exists_eq_left', and_assoc, exists_and_left, exists_const, Call.operands, Int.toNat_natCast, Int.natCast_nonneg, Array.toList_append, bytesC_length, bytesC_set, bytesC_take, bytesC_drop, bytesC_append, bytesC_nil, u8s_bytesC, Tryd.underlying4, ts4, tb4, ta4, tz4, tv4, tc4, Tryd.underlying9, ts9, tb9, ta9, tz9, tv9, tc9, ha, hb]
        | simp (disch := omega) only [wi64, wu8, wu16, wu32, wu64]
        | with_reducible_and_instances exact finR
        | ((with_reducible refine finR' ?_ ?_) <;> rfl)
        | ((with_reducible refine finD hsc (NRel.of_plain ?_)); exact rfl)
  · rw [if_neg (fun h => ha h.1)]
    refine AC.enter Tryd.func38 rfl (by kernel_rfl) 17 rfl [.tmp 4, .tmp 5] rfl (by simp) fun hsc B => ?_
    repeat first
      | with_reducible refine AWP.seq ?_
      | ((with_reducible refine AWP.region ?_ ?_); exact rfl)
      | with_reducible refine AWP.block ?_
      | with_reducible refine AWP.skip ?_
      | with_reducible refine AWP.exit ?_
      | with_reducible refine AWP.ret ?_
      | with_reducible refine AWP.label ?_
      | with_reducible refine AWP.goto ?_
      | ((with_reducible refine AWP.condT ?_ ?_); focus (simp only [ev, lk_cons, ↓reduceIte, Nat.reduceEqDiff]; done))
      | ((with_reducible refine AWP.condF ?_ ?_); focus (simp only [ev, lk_cons, ↓reduceIte, Nat.reduceEqDiff]; done))
      | with_reducible refine (valid a _).use ?_
      | with_reducible refine (valid b _).use ?_
      | simp only [↓regionW_nil, ↓regionW_go, ↓regionW_if, ↓gstep_tt, ↓gstep_ff, ↓gstep_tf, ↓gstep_ft, ↓gstep_no, wantW, gd, ↓op_move, ↓op_assign, ↓op_alloc, ↓op_box, ↓op_build, ↓op_buildSlice, ↓op_load, ↓op_store, ↓op_binOp, ↓op_unOp, ↓op_convert, ↓op_makeInterface, ↓op_makeFunc, ↓op_makeSlice, ↓op_slice, ↓op_fieldAddr, ↓op_field, ↓op_indexAddr, ↓op_index, ↓op_typeAssert, ↓op_extract, ↓op_callV, ↓op_callB, ↓op_callI, ↓op_pick, ↓op_panic, ↓op_nilCheck, ↓pickW_t, ↓pickW_f, ↓pickW_b, ↓panW_i, ↓nilW_p, ↓nilW_f, ↓nilW_i, invokeW, ev, evs, evP, evO, lk_co, lk_nil, ↓wth_so, ↓kv_go, ↓put_so, ↓put_no, ↓next_n, ↓next_e, ↓next_g, ↓next_r, ↓next_p, ↓inB_n, ↓inB_e, ↓inB_g, ↓inB_r, ↓inB_p, ↓resK_r, ↓resK_p, noVal, plain, scalar, List.all_cons, List.all_nil, Bool.and_true, Bool.true_and, Bool.and_self, List.cons_append, List.nil_append, List.append_nil, List.append_assoc, List.getElem?_cons_zero, List.getElem?_cons_succ, List.getElem?_nil, List.set_cons_zero, List.set_cons_succ, Option.bind_some, Option.map_some, ↓reduceIte, Nat.reduceEqDiff, reduceCtorEq, argEnv, Nat.reduceAdd, Nat.zero_add, Nat.add_zero, true_implies, false_implies, decide_true, decide_false, Bool.not_true, Bool.not_false, Bool.true_eq_false, ne_eq, not_true_eq_false, not_false_eq_true, and_true, true_and, builtinW, ↓lenW_bs, lenW, bs_toList', ↓strW_eql, ↓strW_neq, ↓strW_lss, ↓strW_leq, ↓strW_gtr, ↓strW_geq, ↓strW_add, binW_int, binW_str, binW_bool_eql, binW_bool_neq, binW_agg_eql, binW_agg_neq, binW_slice_eql, binW_slice_neq, eqV_bool, eqV_int, eqV_sn, eqV_nn, eqV_ns, unW_not, unW_neg, unW_xor, fillL, placeOf, Int.reduceEq, Int.reduceBNe, Int.reduceBEq, bne_self_eq_false, beq_self_eq_true, Int.reduceToNat, Int.reduceLT, Int.reduceLE, Int.reduceGT, Int.reduceGE, Nat.reduceSub, Nat.reduceBEq, Nat.reduceBNe, Int.reduceAdd, Int.reduceSub, Int.reduceMul, Int.reduceNeg, Nat.reduceMul, Nat.reduceLeDiff, Nat.reduceLT, Int.cast_ofNat_Int, Int.natCast_zero, Nat.le_refl, intW, strW, callV, FPost, LeaveW, resV, packV0, packV1, packV2, extractW, loadW, storeW, indexW, indexAddrW, convW, bitV, fieldW, fieldAddrW, partW, buildW, allocW, boxW, restrict, reads, Op.operands, tmpOf, ASt.only, stepW, Option.toList, List.filterMap_cons, List.filterMap_nil, hget0, hgetk, hset0, hsetk, List.length_append, List.length_cons, List.length_nil, List.length_set, Nat.add_assoc, Option.some.injEq, forall_eq', List.take_succ_cons, List.take_zero, List.drop_succ_cons, List.drop_zero, Nat.mul_one, ownW, Bool.false_eq_true, cellsOf_int, cellsOf_bool, cellsOf_string, cellsOf_agg, cellsOf_pointer, cellsOf_slice, cellsOf_map, cellsOf_func, cellsOf_nilFunc, cellsOf_iface, cellsOf_nilIface, putCells, flat, quietW, mkB, repZ1, appendW, srcW, buildSliceW, sliceW, lowOf, highOf, bs_size, bs_extract, Int.toNat_zero, List.drop_zero, AObj.loop.injEq, roundQ, endR, loopK, exists_eq_left', and_assoc, exists_and_left, exists_const, Call.operands, Int.toNat_natCast, Int.natCast_nonneg, Array.toList_append, bytesC_length, bytesC_set, bytesC_take, bytesC_drop, bytesC_append, bytesC_nil, u8s_bytesC, Tryd.underlying4, ts4, tb4, ta4, tz4, tv4, tc4, Tryd.underlying9, ts9, tb9, ta9, tz9, tv9, tc9, ha]
      | simp (disch := omega) only [wi64, wu8, wu16, wu32, wu64]
      | with_reducible_and_instances exact finR
      | ((with_reducible refine finR' ?_ ?_) <;> rfl)
      | ((with_reducible refine finD hsc (NRel.of_plain ?_)); exact rfl)
theorem rCommon (a b : List UInt8) (ha : a.length = 20) (hb : b.length = 20) (H : AHeap) : ARet Tryd.prog 74 [.string (bs a), .string (bs b)] H (.int .i64 (lead (fun m => bitAt a m != bitAt b m) 160 : Nat)) H := by
  refine AC.enter Tryd.func74 rfl (by kernel_rfl) 20 rfl [.tmp 4] rfl (by simp) fun hsc B => ?_
  repeat first
    | with_reducible refine AWP.seq ?_
    | ((with_reducible refine AWP.region ?_ ?_); exact rfl)
    | with_reducible refine AWP.block ?_
    | with_reducible refine AWP.skip ?_
    | with_reducible refine AWP.exit ?_
    | with_reducible refine AWP.ret ?_
    | with_reducible refine AWP.label ?_
    | with_reducible refine AWP.goto ?_
    | ((with_reducible refine AWP.condT ?_ ?_); focus (simp only [ev, lk_cons, ↓reduceIte, Nat.reduceEqDiff]; done))
    | ((with_reducible refine AWP.condF ?_ ?_); focus (simp only [ev, lk_cons, ↓reduceIte, Nat.reduceEqDiff]; done))
    | simp only [↓regionW_nil, ↓regionW_go, ↓regionW_if, ↓gstep_tt, ↓gstep_ff, ↓gstep_tf, ↓gstep_ft, ↓gstep_no, wantW, gd, ↓op_move, ↓op_assign, ↓op_alloc, ↓op_box, ↓op_build, ↓op_buildSlice, ↓op_load, ↓op_store, ↓op_binOp, ↓op_unOp, ↓op_convert, ↓op_makeInterface, ↓op_makeFunc, ↓op_makeSlice, ↓op_slice, ↓op_fieldAddr, ↓op_field, ↓op_indexAddr, ↓op_index, ↓op_typeAssert, ↓op_extract, ↓op_callV, ↓op_callB, ↓op_callI, ↓op_pick, ↓op_panic, ↓op_nilCheck, ↓pickW_t, ↓pickW_f, ↓pickW_b, ↓panW_i, ↓nilW_p, ↓nilW_f, ↓nilW_i, invokeW, ev, evs, evP, evO, lk_co, lk_nil, ↓wth_so, ↓kv_go, ↓put_so, ↓put_no, ↓next_n, ↓next_e, ↓next_g, ↓next_r, ↓next_p, ↓inB_n, ↓inB_e, ↓inB_g, ↓inB_r, ↓inB_p, ↓resK_r, ↓resK_p, noVal, plain, scalar, List.all_cons, List.all_nil, Bool.and_true, Bool.true_and, Bool.and_self, List.cons_append, List.nil_append, List.append_nil, List.append_assoc, List.getElem?_cons_zero, List.getElem?_cons_succ, List.getElem?_nil, List.set_cons_zero, List.set_cons_succ, Option.bind_some, Option.map_some, ↓reduceIte, Nat.reduceEqDiff, reduceCtorEq, argEnv, Nat.reduceAdd, Nat.zero_add, Nat.add_zero, true_implies, false_implies, decide_true, decide_false, Bool.not_true, Bool.not_false, Bool.true_eq_false, ne_eq, not_true_eq_false, not_false_eq_true, and_true, true_and, builtinW, ↓lenW_bs, lenW, bs_toList', ↓strW_eql, ↓strW_neq, ↓strW_lss, ↓strW_leq, ↓strW_gtr, ↓strW_geq, ↓strW_add, binW_int, binW_str, binW_bool_eql, binW_bool_neq, binW_agg_eql, binW_agg_neq, binW_slice_eql, binW_slice_neq, eqV_bool, eqV_int, eqV_sn, eqV_nn, eqV_ns, unW_not, unW_neg, unW_xor, fillL, placeOf, Int.reduceEq, Int.reduceBNe, Int.reduceBEq, bne_self_eq_false, beq_self_eq_true, Int.reduceToNat, Int.reduceLT, Int.reduceLE, Int.reduceGT, Int.reduceGE, Nat.reduceSub, Nat.reduceBEq, Nat.reduceBNe, Int.reduceAdd, Int.reduceSub, Int.reduceMul, Int.reduceNeg, Nat.reduceMul, Nat.reduceLeDiff, Nat.reduceLT, Int.cast_ofNat_Int, Int.natCast_zero, Nat.le_refl, intW, strW, callV, FPost, LeaveW, resV, packV0, packV1, packV2, extractW, loadW, storeW, indexW, indexAddrW, convW, bitV, fieldW, fieldAddrW, partW, buildW, allocW, boxW, restrict, reads, Op.operands, tmpOf, ASt.only, stepW, Option.toList, List.filterMap_cons, List.filterMap_nil, hget0, hgetk, hset0, hsetk, List.length_append, List.length_cons, List.length_nil, List.length_set, Nat.add_assoc, Option.some.injEq, forall_eq', List.take_succ_cons, List.take_zero, List.drop_succ_cons, List.drop_zero, Nat.mul_one, ownW, Bool.false_eq_true, cellsOf_int, cellsOf_bool, cellsOf_string, cellsOf_agg, cellsOf_pointer, cellsOf_slice, cellsOf_map, cellsOf_func, cellsOf_nilFunc, cellsOf_iface, cellsOf_nilIface, putCells, flat, quietW, mkB, repZ1, appendW, srcW, buildSliceW, sliceW, lowOf, highOf, bs_size, bs_extract, Int.toNat_zero, List.drop_zero, AObj.loop.injEq, roundQ, endR, loopK, exists_eq_left', and_assoc, exists_and_left, exists_const, Call.operands, Int.toNat_natCast, Int.natCast_nonneg, Array.toList_append, bytesC_length, bytesC_set, bytesC_take, bytesC_drop, bytesC_append, bytesC_nil, u8s_bytesC, Tryd.underlying3, ts3, tb3, ta3, tz3, tv3, tc3, Tryd.underlying4, ts4, tb4, ta4, tz4, tv4, tc4, Tryd.underlying9, ts9, tb9, ta9, tz9, tv9, tc9]
    | simp (disch := omega) only [wi64, wu8, wu16, wu32, wu64]
    | with_reducible_and_instances exact finR
    | ((with_reducible refine finR' ?_ ?_) <;> rfl)
    | ((with_reducible refine finD hsc (NRel.of_plain ?_)); exact rfl)
  refine AWP.loopP (fun n : Nat => ⟨[(0, .string (bs a)), (1, .string (bs b)), (5, .int .i64 (n : Nat))], [], H⟩) (fun n => n ≤ 160 ∧ ∀ m, m < n → (bitAt a m != bitAt b m) = false) (fun n => 160 - n) 0 ?_ ⟨by simp, fun m hm => by omega⟩ ?_
  · exact Weak.env (by simp [envIn, lk_cons, wth_some])
  rintro n ⟨hn, hm⟩
  by_cases hc : n < 160
  · have hc' : (n : Int) < 160 := by omega
    repeat first
      | with_reducible refine AWP.seq ?_
      | ((with_reducible refine AWP.region ?_ ?_); exact rfl)
      | with_reducible refine AWP.block ?_
      | with_reducible refine AWP.skip ?_
      | with_reducible refine AWP.exit ?_
      | with_reducible refine AWP.ret ?_
      | with_reducible refine AWP.label ?_
      | with_reducible refine AWP.goto ?_
      | ((with_reducible refine AWP.condT ?_ ?_); focus (simp only [ev, lk_cons, ↓reduceIte, Nat.reduceEqDiff]; done))
      | ((with_reducible refine AWP.condF ?_ ?_); focus (simp only [ev, lk_cons, ↓reduceIte, Nat.reduceEqDiff]; done))
      | with_reducible refine (bit a n hc ha _).use ?_
      | with_reducible refine (bit b n hc hb _).use ?_
      | simp only [↓regionW_nil, ↓regionW_go, ↓regionW_if, ↓gstep_tt, ↓gstep_ff, ↓gstep_tf, ↓gstep_ft, ↓gstep_no, wantW, gd, ↓op_move, ↓op_assign, ↓op_alloc, ↓op_box, ↓op_build, ↓op_buildSlice, ↓op_load, ↓op_store, ↓op_binOp, ↓op_unOp, ↓op_convert, ↓op_makeInterface, ↓op_makeFunc, ↓op_makeSlice, ↓op_slice, ↓op_fieldAddr, ↓op_field, ↓op_indexAddr, ↓op_index, ↓op_typeAssert, ↓op_extract, ↓op_callV, ↓op_callB, ↓op_callI, ↓op_pick, ↓op_panic, ↓op_nilCheck, ↓pickW_t, ↓pickW_f, ↓pickW_b, ↓panW_i, ↓nilW_p, ↓nilW_f, ↓nilW_i, invokeW, ev, evs, evP, evO, lk_co, lk_nil, ↓wth_so, ↓kv_go, ↓put_so, ↓put_no, ↓next_n, ↓next_e, ↓next_g, ↓next_r, ↓next_p, ↓inB_n, ↓inB_e, ↓inB_g, ↓inB_r, ↓inB_p, ↓resK_r, ↓resK_p, noVal, plain, scalar, List.all_cons, List.all_nil, Bool.and_true, Bool.true_and, Bool.and_self, List.cons_append, List.nil_append, List.append_nil, List.append_assoc, List.getElem?_cons_zero, List.getElem?_cons_succ, List.getElem?_nil, List.set_cons_zero, List.set_cons_succ, Option.bind_some, Option.map_some, ↓reduceIte, Nat.reduceEqDiff, reduceCtorEq, argEnv, Nat.reduceAdd, Nat.zero_add, Nat.add_zero, true_implies, false_implies, decide_true, decide_false, Bool.not_true, Bool.not_false, Bool.true_eq_false, ne_eq, not_true_eq_false, not_false_eq_true, and_true, true_and, builtinW, ↓lenW_bs, lenW, bs_toList', ↓strW_eql, ↓strW_neq, ↓strW_lss, ↓strW_leq, ↓strW_gtr, ↓strW_geq, ↓strW_add, binW_int, binW_str, binW_bool_eql, binW_bool_neq, binW_agg_eql, binW_agg_neq, binW_slice_eql, binW_slice_neq, eqV_bool, eqV_int, eqV_sn, eqV_nn, eqV_ns, unW_not, unW_neg, unW_xor, fillL, placeOf, Int.reduceEq, Int.reduceBNe, Int.reduceBEq, bne_self_eq_false, beq_self_eq_true, Int.reduceToNat, Int.reduceLT, Int.reduceLE, Int.reduceGT, Int.reduceGE, Nat.reduceSub, Nat.reduceBEq, Nat.reduceBNe, Int.reduceAdd, Int.reduceSub, Int.reduceMul, Int.reduceNeg, Nat.reduceMul, Nat.reduceLeDiff, Nat.reduceLT, Int.cast_ofNat_Int, Int.natCast_zero, Nat.le_refl, intW, strW, callV, FPost, LeaveW, resV, packV0, packV1, packV2, extractW, loadW, storeW, indexW, indexAddrW, convW, bitV, fieldW, fieldAddrW, partW, buildW, allocW, boxW, restrict, reads, Op.operands, tmpOf, ASt.only, stepW, Option.toList, List.filterMap_cons, List.filterMap_nil, hget0, hgetk, hset0, hsetk, List.length_append, List.length_cons, List.length_nil, List.length_set, Nat.add_assoc, Option.some.injEq, forall_eq', List.take_succ_cons, List.take_zero, List.drop_succ_cons, List.drop_zero, Nat.mul_one, ownW, Bool.false_eq_true, cellsOf_int, cellsOf_bool, cellsOf_string, cellsOf_agg, cellsOf_pointer, cellsOf_slice, cellsOf_map, cellsOf_func, cellsOf_nilFunc, cellsOf_iface, cellsOf_nilIface, putCells, flat, quietW, mkB, repZ1, appendW, srcW, buildSliceW, sliceW, lowOf, highOf, bs_size, bs_extract, Int.toNat_zero, List.drop_zero, AObj.loop.injEq, roundQ, endR, loopK, exists_eq_left', and_assoc, exists_and_left, exists_const, Call.operands, Int.toNat_natCast, Int.natCast_nonneg, Array.toList_append, bytesC_length, bytesC_set, bytesC_take, bytesC_drop, bytesC_append, bytesC_nil, u8s_bytesC, Tryd.underlying3, ts3, tb3, ta3, tz3, tv3, tc3, Tryd.underlying4, ts4, tb4, ta4, tz4, tv4, tc4, Tryd.underlying9, ts9, tb9, ta9, tz9, tv9, tc9, hc']
      | simp (disch := omega) only [wi64, wu8, wu16, wu32, wu64]
      | with_reducible_and_instances exact finR
      | ((with_reducible refine finR' ?_ ?_) <;> rfl)
      | ((with_reducible refine finD hsc (NRel.of_plain ?_)); exact rfl)
    refine AWP.cond rfl (fun hd => ?_) (fun hd => ?_)
    · have hd' : (bitAt a n != bitAt b n) = false := by simpa using hd
      repeat first
        | with_reducible refine AWP.seq ?_
        | ((with_reducible refine AWP.region ?_ ?_); exact rfl)
        | with_reducible refine AWP.block ?_
        | with_reducible refine AWP.skip ?_
        | with_reducible refine AWP.exit ?_
        | with_reducible refine AWP.ret ?_
        | with_reducible refine AWP.label ?_
        | with_reducible refine AWP.goto ?_
        | ((with_reducible refine AWP.condT ?_ ?_); focus (simp only [ev, lk_cons, ↓reduceIte, Nat.reduceEqDiff]; done))
        | ((with_reducible refine AWP.condF ?_ ?_); focus (simp only [ev, lk_cons, ↓reduceIte, Nat.reduceEqDiff]; done))
        | simp only [↓regionW_nil, ↓regionW_go, ↓regionW_if, ↓gstep_tt, ↓gstep_ff, ↓gstep_tf, ↓gstep_ft, ↓gstep_no, wantW, gd, ↓op_move, ↓op_assign, ↓op_alloc, ↓op_box, ↓op_build, ↓op_buildSlice, ↓op_load, ↓op_store, ↓op_binOp, ↓op_unOp, ↓op_convert, ↓op_makeInterface, ↓op_makeFunc, ↓op_makeSlice, ↓op_slice, ↓op_fieldAddr, ↓op_field, ↓op_indexAddr, ↓op_index, ↓op_typeAssert, ↓op_extract, ↓op_callV, ↓op_callB, ↓op_callI, ↓op_pick, ↓op_panic, ↓op_nilCheck, ↓pickW_t, ↓pickW_f, ↓pickW_b, ↓panW_i, ↓nilW_p, ↓nilW_f, ↓nilW_i, invokeW, ev, evs, evP, evO, lk_co, lk_nil, ↓wth_so, ↓kv_go, ↓put_so, ↓put_no, ↓next_n, ↓next_e, ↓next_g, ↓next_r, ↓next_p, ↓inB_n, ↓inB_e, ↓inB_g, ↓inB_r, ↓inB_p, ↓resK_r, ↓resK_p, noVal, plain, scalar, List.all_cons, List.all_nil, Bool.and_true, Bool.true_and, Bool.and_self, List.cons_append, List.nil_append, List.append_nil, List.append_assoc, List.getElem?_cons_zero, List.getElem?_cons_succ, List.getElem?_nil, List.set_cons_zero, List.set_cons_succ, Option.bind_some, Option.map_some, ↓reduceIte, Nat.reduceEqDiff, reduceCtorEq, argEnv, Nat.reduceAdd, Nat.zero_add, Nat.add_zero, true_implies, false_implies, decide_true, decide_false, Bool.not_true, Bool.not_false, Bool.true_eq_false, ne_eq, not_true_eq_false, not_false_eq_true, and_true, true_and, builtinW, ↓lenW_bs, lenW, bs_toList', ↓strW_eql, ↓strW_neq, ↓strW_lss, ↓strW_leq, ↓strW_gtr, ↓strW_geq, ↓strW_add, binW_int, binW_str, binW_bool_eql, binW_bool_neq, binW_agg_eql, binW_agg_neq, binW_slice_eql, binW_slice_neq, eqV_bool, eqV_int, eqV_sn, eqV_nn, eqV_ns, unW_not, unW_neg, unW_xor, fillL, placeOf, Int.reduceEq, Int.reduceBNe, Int.reduceBEq, bne_self_eq_false, beq_self_eq_true, Int.reduceToNat, Int.reduceLT, Int.reduceLE, Int.reduceGT, Int.reduceGE, Nat.reduceSub, Nat.reduceBEq, Nat.reduceBNe, Int.reduceAdd, Int.reduceSub, Int.reduceMul, Int.reduceNeg, Nat.reduceMul, Nat.reduceLeDiff, Nat.reduceLT, Int.cast_ofNat_Int, Int.natCast_zero, Nat.le_refl, intW, strW, callV, FPost, LeaveW, resV, packV0, packV1, packV2, extractW, loadW, storeW, indexW, indexAddrW, convW, bitV, fieldW, fieldAddrW, partW, buildW, allocW, boxW, restrict, reads, Op.operands, tmpOf, ASt.only, stepW, Option.toList, List.filterMap_cons, List.filterMap_nil, hget0, hgetk, hset0, hsetk, List.length_append, List.length_cons, List.length_nil, List.length_set, Nat.add_assoc, Option.some.injEq, forall_eq', List.take_succ_cons, List.take_zero, List.drop_succ_cons, List.drop_zero, Nat.mul_one, ownW, Bool.false_eq_true, cellsOf_int, cellsOf_bool, cellsOf_string, cellsOf_agg, cellsOf_pointer, cellsOf_slice, cellsOf_map, cellsOf_func, cellsOf_nilFunc, cellsOf_iface, cellsOf_nilIface, putCells, flat, quietW, mkB, repZ1, appendW, srcW, buildSliceW, sliceW, lowOf, highOf, bs_size, bs_extract, Int.toNat_zero, List.drop_zero, AObj.loop.injEq, roundQ, endR, loopK, exists_eq_left', and_assoc, exists_and_left, exists_const, Call.operands, Int.toNat_natCast, Int.natCast_nonneg, Array.toList_append, bytesC_length, bytesC_set, bytesC_take, bytesC_drop, bytesC_append, bytesC_nil, u8s_bytesC, Tryd.underlying3, ts3, tb3, ta3, tz3, tv3, tc3, Tryd.underlying4, ts4, tb4, ta4, tz4, tv4, tc4, Tryd.underlying9, ts9, tb9, ta9, tz9, tv9, tc9]
        | simp (disch := omega) only [wi64, wu8, wu16, wu32, wu64]
        | with_reducible_and_instances exact finR
        | ((with_reducible refine finR' ?_ ?_) <;> rfl)
        | ((with_reducible refine finD hsc (NRel.of_plain ?_)); exact rfl)
      refine ⟨n + 1, Weak.env (by simp [envIn, lk_cons, wth_some]), by omega, fun m hm' => ?_, by omega⟩
      rcases Nat.lt_or_ge m n with h' | h'
      · exact hm m h'
      · have : m = n := by omega
        subst this; exact hd'
    · have hd' : (bitAt a n != bitAt b n) = true := by simpa using hd
      rw [lead_eq hc hm hd']
      repeat first
        | with_reducible refine AWP.seq ?_
        | ((with_reducible refine AWP.region ?_ ?_); exact rfl)
        | with_reducible refine AWP.block ?_
        | with_reducible refine AWP.skip ?_
        | with_reducible refine AWP.exit ?_
        | with_reducible refine AWP.ret ?_
        | with_reducible refine AWP.label ?_
        | with_reducible refine AWP.goto ?_
        | ((with_reducible refine AWP.condT ?_ ?_); focus (simp only [ev, lk_cons, ↓reduceIte, Nat.reduceEqDiff]; done))
        | ((with_reducible refine AWP.condF ?_ ?_); focus (simp only [ev, lk_cons, ↓reduceIte, Nat.reduceEqDiff]; done))
        | simp only [↓regionW_nil, ↓regionW_go, ↓regionW_if, ↓gstep_tt, ↓gstep_ff, ↓gstep_tf, ↓gstep_ft, ↓gstep_no, wantW, gd, ↓op_move, ↓op_assign, ↓op_alloc, ↓op_box, ↓op_build, ↓op_buildSlice, ↓op_load, ↓op_store, ↓op_binOp, ↓op_unOp, ↓op_convert, ↓op_makeInterface, ↓op_makeFunc, ↓op_makeSlice, ↓op_slice, ↓op_fieldAddr, ↓op_field, ↓op_indexAddr, ↓op_index, ↓op_typeAssert, ↓op_extract, ↓op_callV, ↓op_callB, ↓op_callI, ↓op_pick, ↓op_panic, ↓op_nilCheck, ↓pickW_t, ↓pickW_f, ↓pickW_b, ↓panW_i, ↓nilW_p, ↓nilW_f, ↓nilW_i, invokeW, ev, evs, evP, evO, lk_co, lk_nil, ↓wth_so, ↓kv_go, ↓put_so, ↓put_no, ↓next_n, ↓next_e, ↓next_g, ↓next_r, ↓next_p, ↓inB_n, ↓inB_e, ↓inB_g, ↓inB_r, ↓inB_p, ↓resK_r, ↓resK_p, noVal, plain, scalar, List.all_cons, List.all_nil, Bool.and_true, Bool.true_and, Bool.and_self, List.cons_append, List.nil_append, List.append_nil, List.append_assoc, List.getElem?_cons_zero, List.getElem?_cons_succ, List.getElem?_nil, List.set_cons_zero, List.set_cons_succ, Option.bind_some, Option.map_some, ↓reduceIte, Nat.reduceEqDiff, reduceCtorEq, argEnv, Nat.reduceAdd, Nat.zero_add, Nat.add_zero, true_implies, false_implies, decide_true, decide_false, Bool.not_true, Bool.not_false, Bool.true_eq_false, ne_eq, not_true_eq_false, not_false_eq_true, and_true, true_and, builtinW, ↓lenW_bs, lenW, bs_toList', ↓strW_eql, ↓strW_neq, ↓strW_lss, ↓strW_leq, ↓strW_gtr, ↓strW_geq, ↓strW_add, binW_int, binW_str, binW_bool_eql, binW_bool_neq, binW_agg_eql, binW_agg_neq, binW_slice_eql, binW_slice_neq, eqV_bool, eqV_int, eqV_sn, eqV_nn, eqV_ns, unW_not, unW_neg, unW_xor, fillL, placeOf, Int.reduceEq, Int.reduceBNe, Int.reduceBEq, bne_self_eq_false, beq_self_eq_true, Int.reduceToNat, Int.reduceLT, Int.reduceLE, Int.reduceGT, Int.reduceGE, Nat.reduceSub, Nat.reduceBEq, Nat.reduceBNe, Int.reduceAdd, Int.reduceSub, Int.reduceMul, Int.reduceNeg, Nat.reduceMul, Nat.reduceLeDiff, Nat.reduceLT, Int.cast_ofNat_Int, Int.natCast_zero, Nat.le_refl, intW, strW, callV, FPost, LeaveW, resV, packV0, packV1, packV2, extractW, loadW, storeW, indexW, indexAddrW, convW, bitV, fieldW, fieldAddrW, partW, buildW, allocW, boxW, restrict, reads, Op.operands, tmpOf, ASt.only, stepW, Option.toList, List.filterMap_cons, List.filterMap_nil, hget0, hgetk, hset0, hsetk, List.length_append, List.length_cons, List.length_nil, List.length_set, Nat.add_assoc, Option.some.injEq, forall_eq', List.take_succ_cons, List.take_zero, List.drop_succ_cons, List.drop_zero, Nat.mul_one, ownW, Bool.false_eq_true, cellsOf_int, cellsOf_bool, cellsOf_string, cellsOf_agg, cellsOf_pointer, cellsOf_slice, cellsOf_map, cellsOf_func, cellsOf_nilFunc, cellsOf_iface, cellsOf_nilIface, putCells, flat, quietW, mkB, repZ1, appendW, srcW, buildSliceW, sliceW, lowOf, highOf, bs_size, bs_extract, Int.toNat_zero, List.drop_zero, AObj.loop.injEq, roundQ, endR, loopK, exists_eq_left', and_assoc, exists_and_left, exists_const, Call.operands, Int.toNat_natCast, Int.natCast_nonneg, Array.toList_append, bytesC_length, bytesC_set, bytesC_take, bytesC_drop, bytesC_append, bytesC_nil, u8s_bytesC, Tryd.underlying3, ts3, tb3, ta3, tz3, tv3, tc3, Tryd.underlying4, ts4, tb4, ta4, tz4, tv4, tc4, Tryd.underlying9, ts9, tb9, ta9, tz9, tv9, tc9]
        | simp (disch := omega) only [wi64, wu8, wu16, wu32, wu64]
        | with_reducible_and_instances exact finR
        | ((with_reducible refine finR' ?_ ?_) <;> rfl)
        | ((with_reducible refine finD hsc (NRel.of_plain ?_)); exact rfl)
  · have : n = 160 := by omega
    subst this
    rw [lead_all hm]
    repeat first
      | with_reducible refine AWP.seq ?_
      | ((with_reducible refine AWP.region ?_ ?_); exact rfl)
      | with_reducible refine AWP.block ?_
      | with_reducible refine AWP.skip ?_
      | with_reducible refine AWP.exit ?_
      | with_reducible refine AWP.ret ?_
      | with_reducible refine AWP.label ?_
      | with_reducible refine AWP.goto ?_
      | ((with_reducible refine AWP.condT ?_ ?_); focus (simp only [ev, lk_cons, ↓reduceIte, Nat.reduceEqDiff]; done))
      | ((with_reducible refine AWP.condF ?_ ?_); focus (simp only [ev, lk_cons, ↓reduceIte, Nat.reduceEqDiff]; done))
      | simp only [↓regionW_nil, ↓regionW_go, ↓regionW_if, ↓gstep_tt, ↓gstep_ff, ↓gstep_tf, ↓gstep_ft, ↓gstep_no, wantW, gd, ↓op_move, ↓op_assign, ↓op_alloc, ↓op_box, ↓op_build, ↓op_buildSlice, ↓op_load, ↓op_store, ↓op_binOp, ↓op_unOp, ↓op_convert, ↓op_makeInterface, ↓op_makeFunc, ↓op_makeSlice, ↓op_slice, ↓op_fieldAddr, ↓op_field, ↓op_indexAddr, ↓op_index, ↓op_typeAssert, ↓op_extract, ↓op_callV, ↓op_callB, ↓op_callI, ↓op_pick, ↓op_panic, ↓op_nilCheck, ↓pickW_t, ↓pickW_f, ↓pickW_b, ↓panW_i, ↓nilW_p, ↓nilW_f, ↓nilW_i, invokeW, ev, evs, evP, evO, lk_co, lk_nil, ↓wth_so, ↓kv_go, ↓put_so, ↓put_no, ↓next_n, ↓next_e, ↓next_g, ↓next_r, ↓next_p, ↓inB_n, ↓inB_e, ↓inB_g, ↓inB_r, ↓inB_p, ↓resK_r, ↓resK_p, noVal, plain, scalar, List.all_cons, List.all_nil, Bool.and_true, Bool.true_and, Bool.and_self, List.cons_append, List.nil_append, List.append_nil, List.append_assoc, List.getElem?_cons_zero, List.getElem?_cons_succ, List.getElem?_nil, List.set_cons_zero, List.set_cons_succ, Option.bind_some, Option.map_some, ↓reduceIte, Nat.reduceEqDiff, reduceCtorEq, argEnv, Nat.reduceAdd, Nat.zero_add, Nat.add_zero, true_implies, false_implies, decide_true, decide_false, Bool.not_true, Bool.not_false, Bool.true_eq_false, ne_eq, not_true_eq_false, not_false_eq_true, and_true, true_and, builtinW, ↓lenW_bs, lenW, bs_toList', ↓strW_eql, ↓strW_neq, ↓strW_lss, ↓strW_leq, ↓strW_gtr, ↓strW_geq, ↓strW_add, binW_int, binW_str, binW_bool_eql, binW_bool_neq, binW_agg_eql, binW_agg_neq, binW_slice_eql, binW_slice_neq, eqV_bool, eqV_int, eqV_sn, eqV_nn, eqV_ns, unW_not, unW_neg, unW_xor, fillL, placeOf, Int.reduceEq, Int.reduceBNe, Int.reduceBEq, bne_self_eq_false, beq_self_eq_true, Int.reduceToNat, Int.reduceLT, Int.reduceLE, Int.reduceGT, Int.reduceGE, Nat.reduceSub, Nat.reduceBEq, Nat.reduceBNe, Int.reduceAdd, Int.reduceSub, Int.reduceMul, Int.reduceNeg, Nat.reduceMul, Nat.reduceLeDiff, Nat.reduceLT, Int.cast_ofNat_Int, Int.natCast_zero, Nat.le_refl, intW, strW, callV, FPost, LeaveW, resV, packV0, packV1, packV2, extractW, loadW, storeW, indexW, indexAddrW, convW, bitV, fieldW, fieldAddrW, partW, buildW, allocW, boxW, restrict, reads, Op.operands, tmpOf, ASt.only, stepW, Option.toList, List.filterMap_cons, List.filterMap_nil, hget0, hgetk, hset0, hsetk, List.length_append, List.length_cons, List.length_nil, List.length_set, Nat.add_assoc, Option.some.injEq, forall_eq', List.take_succ_cons, List.take_zero, List.drop_succ_cons, List.drop_zero, Nat.mul_one, ownW, Bool.false_eq_true, cellsOf_int, cellsOf_bool, cellsOf_string, cellsOf_agg, cellsOf_pointer, cellsOf_slice, cellsOf_map, cellsOf_func, cellsOf_nilFunc, cellsOf_iface, cellsOf_nilIface, putCells, flat, quietW, mkB, repZ1, appendW, srcW, buildSliceW, sliceW, lowOf, highOf, bs_size, bs_extract, Int.toNat_zero, List.drop_zero, AObj.loop.injEq, roundQ, endR, loopK, exists_eq_left', and_assoc, exists_and_left, exists_const, Call.operands, Int.toNat_natCast, Int.natCast_nonneg, Array.toList_append, bytesC_length, bytesC_set, bytesC_take, bytesC_drop, bytesC_append, bytesC_nil, u8s_bytesC, Tryd.underlying3, ts3, tb3, ta3, tz3, tv3, tc3, Tryd.underlying4, ts4, tb4, ta4, tz4, tv4, tc4, Tryd.underlying9, ts9, tb9, ta9, tz9, tv9, tc9]
      | simp (disch := omega) only [wi64, wu8, wu16, wu32, wu64]
      | with_reducible_and_instances exact finR
      | ((with_reducible refine finR' ?_ ?_) <;> rfl)
      | ((with_reducible refine finD hsc (NRel.of_plain ?_)); exact rfl)
end Go.Proofs.YtmpkgdilmkeacaaDoor
