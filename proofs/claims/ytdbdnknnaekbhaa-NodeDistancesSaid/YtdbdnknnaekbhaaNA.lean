/- A part of the proof of a statement of this seat. -/
import Derived.Test.YtdbdnknnaekbhaaN9
set_option linter.unusedVariables false
set_option linter.unusedSimpArgs false
namespace Go.Proofs.Ytdbdnknnaekbhaa
open Go Go.Aw Go.Proofs
set_option maxRecDepth 20000 in
set_option maxHeartbeats 4000000 in
theorem law_ (t a b : List UInt8) (H : AHeap) : ARet Try.prog 3 [.string (bs t), .string (bs a), .string (bs b)] H (.bool true) H := by
  by_cases ht : t.length = 20
  · by_cases ha : a.length = 20
    · have hD := Distance t a
      rw [if_pos ⟨ht, ha⟩] at hD
      have hE := Distance a t
      rw [if_pos ⟨ha, ht⟩, dist_comm] at hE
      have hx : (dist t a).length = 20 := by rw [dist_length _ _ (by omega), ht]
      have hF := Distance t (dist t a)
      rw [if_pos ⟨ht, hx⟩, dist_cancel t a (by omega)] at hF
      have hrD := rDistance t a ht ha
      by_cases hb : b.length = 20
      · have hN := Nearer t a b
        rw [if_pos ⟨ht, ha, hb⟩] at hN
        have hC := Common t b
        rw [if_pos ⟨ht, hb⟩] at hC
        have hC2 := Common t a
        rw [if_pos ⟨ht, ha⟩] at hC2
        have hrN := rNearer t a b ht ha hb
        rw [← near_eq t a b ht ha hb] at hrN
        have hrC := rCommon t b ht hb
        rw [← common_eq t b (by omega)] at hrC
        have hrC2 := rCommon t a ht ha
        rw [← common_eq t a (by omega)] at hrC2
        have hG := Distance a b
        rw [if_pos ⟨ha, hb⟩] at hG
        have hI := Distance t b
        rw [if_pos ⟨ht, hb⟩] at hI
        have hab : (dist a b).length = 20 := by rw [dist_length _ _ (by omega), ha]
        have hJ := Distance (dist t a) (dist a b)
        rw [if_pos ⟨hx, hab⟩, dist_sum t a b (by omega) (by omega)] at hJ
        have hmore := more_near t a b ht ha hb
        generalize lead (bitAt (dist t b)) 160 = n at *
        generalize lead (bitAt (dist t a)) 160 = m at *
        generalize Op.bytesLess (dist t a) (dist t b) = near at *
        generalize dist t a = x at *
        generalize dist t b = tb at *
        generalize dist a b = ab at *
        by_cases hmn : n < m
        · have hnear := hmore hmn
          have hmn' : (m : Int) > (n : Int) := by omega
          subst hnear
          refine AC.enter Try.func3 rfl (by kernel_rfl) 204 rfl [.tmp 6] rfl (by simp) fun hsc B => ?_
          repeat first
            | with_reducible refine AWP.seq ?_
            | ((with_reducible refine AWP.region ?_ ?_); exact rfl)
            | with_reducible refine AWP.block ?_
            | with_reducible refine AWP.skip ?_
            | with_reducible refine AWP.exit ?_
            | with_reducible refine AWP.ret ?_
            | with_reducible refine AWP.label ?_
            | with_reducible refine AWP.goto ?_
            | ((with_reducible refine AWP.condT ?_ ?_); focus (simp only [ev, lk_cons, ↓reduceIte, Nat.reduceEqDiff]; done))
            | ((with_reducible refine AWP.condF ?_ ?_); focus (simp only [ev, lk_cons, ↓reduceIte, Nat.reduceEqDiff]; done))
            | with_reducible refine (hD _).use ?_
            | with_reducible refine (hE _).use ?_
            | with_reducible refine (hF _).use ?_
            | with_reducible refine (hG _).use ?_
            | with_reducible refine (hI _).use ?_
            | with_reducible refine (hJ _).use ?_
            | with_reducible refine (hN _).use ?_
            | with_reducible refine (hC _).use ?_
            | with_reducible refine (hC2 _).use ?_
            | with_reducible refine (hrD _).use ?_
            | with_reducible refine (hrN _).use ?_
            | with_reducible refine (hrC _).use ?_
            | with_reducible refine (hrC2 _).use ?_
            | with_reducible refine (rvalid t _).use ?_
            | with_reducible refine (valid a _).use ?_
            | with_reducible refine (rvalid a _).use ?_
            | with_reducible refine (rvalid b _).use ?_
            | with_reducible refine (awake _).use ?_
            | simp only [↓regionW_nil, ↓regionW_go, ↓regionW_if, ↓gstep_tt, ↓gstep_ff, ↓gstep_tf, ↓gstep_ft, ↓gstep_no, wantW, gd, ↓op_move, ↓op_assign, ↓op_alloc, ↓op_box, ↓op_build, ↓op_buildSlice, ↓op_load, ↓op_store, ↓op_binOp, ↓op_unOp, ↓op_convert, ↓op_makeInterface, ↓op_makeFunc, ↓op_makeSlice, ↓op_slice, ↓op_fieldAddr, ↓op_field, ↓op_indexAddr, ↓op_index, ↓op_typeAssert, ↓op_extract, ↓op_callV, ↓op_callB, ↓op_callI, ↓op_pick, ↓op_panic, ↓op_nilCheck, ↓pickW_t, ↓pickW_f, ↓pickW_b, ↓panW_i, ↓nilW_p, ↓nilW_f, ↓nilW_i, invokeW, ev, evs, evP, evO, lk_co, lk_nil, ↓wth_so, ↓kv_go, ↓put_so, ↓put_no, ↓next_n, ↓next_e, ↓next_g, ↓next_r, ↓next_p, ↓inB_n, ↓inB_e, ↓inB_g, ↓inB_r, ↓inB_p, ↓resK_r, ↓resK_p, noVal, plain, scalar, List.all_cons, List.all_nil, Bool.and_true, Bool.true_and, Bool.and_self, List.cons_append, List.nil_append, List.append_nil, List.append_assoc, List.getElem?_cons_zero, List.getElem?_cons_succ, List.getElem?_nil, List.set_cons_zero, List.set_cons_succ, Option.bind_some, Option.map_some, ↓reduceIte, Nat.reduceEqDiff, reduceCtorEq, argEnv, Nat.reduceAdd, Nat.zero_add, Nat.add_zero, true_implies, false_implies, decide_true, decide_false, Bool.not_true, Bool.not_false, Bool.true_eq_false, ne_eq, not_true_eq_false, not_false_eq_true, and_true, true_and, builtinW, ↓lenW_bs, lenW, bs_toList', ↓strW_eql, ↓strW_neq, ↓strW_lss, ↓strW_leq, ↓strW_gtr, ↓strW_geq, ↓strW_add, binW_int, binW_str, binW_bool_eql, binW_bool_neq, binW_agg_eql, binW_agg_neq, binW_slice_eql, binW_slice_neq, eqV_bool, eqV_int, eqV_sn, eqV_nn, eqV_ns, unW_not, unW_neg, unW_xor, fillL, placeOf, Int.reduceEq, Int.reduceBNe, Int.reduceBEq, bne_self_eq_false, beq_self_eq_true, Int.reduceToNat, Int.reduceLT, Int.reduceLE, Int.reduceAdd, Int.reduceSub, Int.reduceMul, Int.reduceNeg, Nat.reduceMul, Nat.reduceLeDiff, Nat.reduceLT, Int.cast_ofNat_Int, Int.natCast_zero, Nat.le_refl, intW, strW, callV, FPost, LeaveW, resV, packV0, packV1, packV2, extractW, loadW, storeW, indexW, indexAddrW, convW, bitV, fieldW, fieldAddrW, partW, buildW, allocW, boxW, restrict, reads, Op.operands, tmpOf, ASt.only, stepW, Option.toList, List.filterMap_cons, List.filterMap_nil, hget0, hgetk, hset0, hsetk, List.length_append, List.length_cons, List.length_nil, List.length_set, Nat.add_assoc, Option.some.injEq, forall_eq', List.take_succ_cons, List.take_zero, List.drop_succ_cons, List.drop_zero, Nat.mul_one, ownW, Bool.false_eq_true, cellsOf_int, cellsOf_bool, cellsOf_string, cellsOf_agg, cellsOf_pointer, cellsOf_slice, cellsOf_map, cellsOf_func, cellsOf_nilFunc, cellsOf_iface, cellsOf_nilIface, putCells, flat, quietW, mkB, repZ1, appendW, srcW, buildSliceW, sliceW, lowOf, highOf, bs_size, bs_extract, Int.toNat_zero, List.drop_zero, AObj.loop.injEq, roundQ, endR, loopK, exists_eq_left', and_assoc, exists_and_left, exists_const, Call.operands, Int.toNat_natCast, Int.natCast_nonneg, Array.toList_append, bytesC_length, bytesC_set, bytesC_take, bytesC_drop, bytesC_append, bytesC_nil, u8s_bytesC, Try.underlying3, ts3, tb3, ta3, tz3, tv3, tc3, Try.underlying4, ts4, tb4, ta4, tz4, tv4, tc4, Try.underlying9, ts9, tb9, ta9, tz9, tv9, tc9, Try.underlying22, ts22, tb22, ta22, tz22, tv22, tc22, ht, ha, hb, hmn', hmn]
            | simp (disch := omega) only [wi64, wu8, wu16, wu32, wu64]
            | with_reducible_and_instances exact finR
            | ((with_reducible refine finR' ?_ ?_) <;> rfl)
            | ((with_reducible refine finD hsc (NRel.of_plain ?_)); exact rfl)
        · have hmn' : ¬ (m : Int) > (n : Int) := by omega
          refine AC.enter Try.func3 rfl (by kernel_rfl) 204 rfl [.tmp 6] rfl (by simp) fun hsc B => ?_
          repeat first
            | with_reducible refine AWP.seq ?_
            | ((with_reducible refine AWP.region ?_ ?_); exact rfl)
            | with_reducible refine AWP.block ?_
            | with_reducible refine AWP.skip ?_
            | with_reducible refine AWP.exit ?_
            | with_reducible refine AWP.ret ?_
            | with_reducible refine AWP.label ?_
            | with_reducible refine AWP.goto ?_
            | ((with_reducible refine AWP.condT ?_ ?_); focus (simp only [ev, lk_cons, ↓reduceIte, Nat.reduceEqDiff]; done))
            | ((with_reducible refine AWP.condF ?_ ?_); focus (simp only [ev, lk_cons, ↓reduceIte, Nat.reduceEqDiff]; done))
            | with_reducible refine (hD _).use ?_
            | with_reducible refine (hE _).use ?_
            | with_reducible refine (hF _).use ?_
            | with_reducible refine (hG _).use ?_
            | with_reducible refine (hI _).use ?_
            | with_reducible refine (hJ _).use ?_
            | with_reducible refine (hN _).use ?_
            | with_reducible refine (hC _).use ?_
            | with_reducible refine (hC2 _).use ?_
            | with_reducible refine (hrD _).use ?_
            | with_reducible refine (hrN _).use ?_
            | with_reducible refine (hrC _).use ?_
            | with_reducible refine (hrC2 _).use ?_
            | with_reducible refine (rvalid t _).use ?_
            | with_reducible refine (valid a _).use ?_
            | with_reducible refine (rvalid a _).use ?_
            | with_reducible refine (rvalid b _).use ?_
            | with_reducible refine (awake _).use ?_
            | simp only [↓regionW_nil, ↓regionW_go, ↓regionW_if, ↓gstep_tt, ↓gstep_ff, ↓gstep_tf, ↓gstep_ft, ↓gstep_no, wantW, gd, ↓op_move, ↓op_assign, ↓op_alloc, ↓op_box, ↓op_build, ↓op_buildSlice, ↓op_load, ↓op_store, ↓op_binOp, ↓op_unOp, ↓op_convert, ↓op_makeInterface, ↓op_makeFunc, ↓op_makeSlice, ↓op_slice, ↓op_fieldAddr, ↓op_field, ↓op_indexAddr, ↓op_index, ↓op_typeAssert, ↓op_extract, ↓op_callV, ↓op_callB, ↓op_callI, ↓op_pick, ↓op_panic, ↓op_nilCheck, ↓pickW_t, ↓pickW_f, ↓pickW_b, ↓panW_i, ↓nilW_p, ↓nilW_f, ↓nilW_i, invokeW, ev, evs, evP, evO, lk_co, lk_nil, ↓wth_so, ↓kv_go, ↓put_so, ↓put_no, ↓next_n, ↓next_e, ↓next_g, ↓next_r, ↓next_p, ↓inB_n, ↓inB_e, ↓inB_g, ↓inB_r, ↓inB_p, ↓resK_r, ↓resK_p, noVal, plain, scalar, List.all_cons, List.all_nil, Bool.and_true, Bool.true_and, Bool.and_self, List.cons_append, List.nil_append, List.append_nil, List.append_assoc, List.getElem?_cons_zero, List.getElem?_cons_succ, List.getElem?_nil, List.set_cons_zero, List.set_cons_succ, Option.bind_some, Option.map_some, ↓reduceIte, Nat.reduceEqDiff, reduceCtorEq, argEnv, Nat.reduceAdd, Nat.zero_add, Nat.add_zero, true_implies, false_implies, decide_true, decide_false, Bool.not_true, Bool.not_false, Bool.true_eq_false, ne_eq, not_true_eq_false, not_false_eq_true, and_true, true_and, builtinW, ↓lenW_bs, lenW, bs_toList', ↓strW_eql, ↓strW_neq, ↓strW_lss, ↓strW_leq, ↓strW_gtr, ↓strW_geq, ↓strW_add, binW_int, binW_str, binW_bool_eql, binW_bool_neq, binW_agg_eql, binW_agg_neq, binW_slice_eql, binW_slice_neq, eqV_bool, eqV_int, eqV_sn, eqV_nn, eqV_ns, unW_not, unW_neg, unW_xor, fillL, placeOf, Int.reduceEq, Int.reduceBNe, Int.reduceBEq, bne_self_eq_false, beq_self_eq_true, Int.reduceToNat, Int.reduceLT, Int.reduceLE, Int.reduceAdd, Int.reduceSub, Int.reduceMul, Int.reduceNeg, Nat.reduceMul, Nat.reduceLeDiff, Nat.reduceLT, Int.cast_ofNat_Int, Int.natCast_zero, Nat.le_refl, intW, strW, callV, FPost, LeaveW, resV, packV0, packV1, packV2, extractW, loadW, storeW, indexW, indexAddrW, convW, bitV, fieldW, fieldAddrW, partW, buildW, allocW, boxW, restrict, reads, Op.operands, tmpOf, ASt.only, stepW, Option.toList, List.filterMap_cons, List.filterMap_nil, hget0, hgetk, hset0, hsetk, List.length_append, List.length_cons, List.length_nil, List.length_set, Nat.add_assoc, Option.some.injEq, forall_eq', List.take_succ_cons, List.take_zero, List.drop_succ_cons, List.drop_zero, Nat.mul_one, ownW, Bool.false_eq_true, cellsOf_int, cellsOf_bool, cellsOf_string, cellsOf_agg, cellsOf_pointer, cellsOf_slice, cellsOf_map, cellsOf_func, cellsOf_nilFunc, cellsOf_iface, cellsOf_nilIface, putCells, flat, quietW, mkB, repZ1, appendW, srcW, buildSliceW, sliceW, lowOf, highOf, bs_size, bs_extract, Int.toNat_zero, List.drop_zero, AObj.loop.injEq, roundQ, endR, loopK, exists_eq_left', and_assoc, exists_and_left, exists_const, Call.operands, Int.toNat_natCast, Int.natCast_nonneg, Array.toList_append, bytesC_length, bytesC_set, bytesC_take, bytesC_drop, bytesC_append, bytesC_nil, u8s_bytesC, Try.underlying3, ts3, tb3, ta3, tz3, tv3, tc3, Try.underlying4, ts4, tb4, ta4, tz4, tv4, tc4, Try.underlying9, ts9, tb9, ta9, tz9, tv9, tc9, Try.underlying22, ts22, tb22, ta22, tz22, tv22, tc22, ht, ha, hb, hmn', hmn]
            | simp (disch := omega) only [wi64, wu8, wu16, wu32, wu64]
            | with_reducible_and_instances exact finR
            | ((with_reducible refine finR' ?_ ?_) <;> rfl)
            | ((with_reducible refine finD hsc (NRel.of_plain ?_)); exact rfl)
      · have hN := Nearer t a b
        rw [if_neg (fun h => hb h.2.2)] at hN
        have hC := Common t b
        rw [if_neg (fun h => hb h.2)] at hC
        generalize dist t a = x at *
        refine AC.enter Try.func3 rfl (by kernel_rfl) 204 rfl [.tmp 6] rfl (by simp) fun hsc B => ?_
        repeat first
          | with_reducible refine AWP.seq ?_
          | ((with_reducible refine AWP.region ?_ ?_); exact rfl)
          | with_reducible refine AWP.block ?_
          | with_reducible refine AWP.skip ?_
          | with_reducible refine AWP.exit ?_
          | with_reducible refine AWP.ret ?_
          | with_reducible refine AWP.label ?_
          | with_reducible refine AWP.goto ?_
          | ((with_reducible refine AWP.condT ?_ ?_); focus (simp only [ev, lk_cons, ↓reduceIte, Nat.reduceEqDiff]; done))
          | ((with_reducible refine AWP.condF ?_ ?_); focus (simp only [ev, lk_cons, ↓reduceIte, Nat.reduceEqDiff]; done))
          | with_reducible refine (hD _).use ?_
          | with_reducible refine (hE _).use ?_
          | with_reducible refine (hF _).use ?_
          | with_reducible refine (hN _).use ?_
          | with_reducible refine (hC _).use ?_
          | with_reducible refine (hrD _).use ?_
          | with_reducible refine (rvalid t _).use ?_
          | with_reducible refine (valid a _).use ?_
          | with_reducible refine (rvalid a _).use ?_
          | with_reducible refine (rvalid b _).use ?_
          | with_reducible refine (awake _).use ?_
          | simp only [↓regionW_nil, ↓regionW_go, ↓regionW_if, ↓gstep_tt, ↓gstep_ff, ↓gstep_tf, ↓gstep_ft, ↓gstep_no, wantW, gd, ↓op_move, ↓op_assign, ↓op_alloc, ↓op_box, ↓op_build, ↓op_buildSlice, ↓op_load, ↓op_store, ↓op_binOp, ↓op_unOp, ↓op_convert, ↓op_makeInterface, ↓op_makeFunc, ↓op_makeSlice, ↓op_slice, ↓op_fieldAddr, ↓op_field, ↓op_indexAddr, ↓op_index, ↓op_typeAssert, ↓op_extract, ↓op_callV, ↓op_callB, ↓op_callI, ↓op_pick, ↓op_panic, ↓op_nilCheck, ↓pickW_t, ↓pickW_f, ↓pickW_b, ↓panW_i, ↓nilW_p, ↓nilW_f, ↓nilW_i, invokeW, ev, evs, evP, evO, lk_co, lk_nil, ↓wth_so, ↓kv_go, ↓put_so, ↓put_no, ↓next_n, ↓next_e, ↓next_g, ↓next_r, ↓next_p, ↓inB_n, ↓inB_e, ↓inB_g, ↓inB_r, ↓inB_p, ↓resK_r, ↓resK_p, noVal, plain, scalar, List.all_cons, List.all_nil, Bool.and_true, Bool.true_and, Bool.and_self, List.cons_append, List.nil_append, List.append_nil, List.append_assoc, List.getElem?_cons_zero, List.getElem?_cons_succ, List.getElem?_nil, List.set_cons_zero, List.set_cons_succ, Option.bind_some, Option.map_some, ↓reduceIte, Nat.reduceEqDiff, reduceCtorEq, argEnv, Nat.reduceAdd, Nat.zero_add, Nat.add_zero, true_implies, false_implies, decide_true, decide_false, Bool.not_true, Bool.not_false, Bool.true_eq_false, ne_eq, not_true_eq_false, not_false_eq_true, and_true, true_and, builtinW, ↓lenW_bs, lenW, bs_toList', ↓strW_eql, ↓strW_neq, ↓strW_lss, ↓strW_leq, ↓strW_gtr, ↓strW_geq, ↓strW_add, binW_int, binW_str, binW_bool_eql, binW_bool_neq, binW_agg_eql, binW_agg_neq, binW_slice_eql, binW_slice_neq, eqV_bool, eqV_int, eqV_sn, eqV_nn, eqV_ns, unW_not, unW_neg, unW_xor, fillL, placeOf, Int.reduceEq, Int.reduceBNe, Int.reduceBEq, bne_self_eq_false, beq_self_eq_true, Int.reduceToNat, Int.reduceLT, Int.reduceLE, Int.reduceAdd, Int.reduceSub, Int.reduceMul, Int.reduceNeg, Nat.reduceMul, Nat.reduceLeDiff, Nat.reduceLT, Int.cast_ofNat_Int, Int.natCast_zero, Nat.le_refl, intW, strW, callV, FPost, LeaveW, resV, packV0, packV1, packV2, extractW, loadW, storeW, indexW, indexAddrW, convW, bitV, fieldW, fieldAddrW, partW, buildW, allocW, boxW, restrict, reads, Op.operands, tmpOf, ASt.only, stepW, Option.toList, List.filterMap_cons, List.filterMap_nil, hget0, hgetk, hset0, hsetk, List.length_append, List.length_cons, List.length_nil, List.length_set, Nat.add_assoc, Option.some.injEq, forall_eq', List.take_succ_cons, List.take_zero, List.drop_succ_cons, List.drop_zero, Nat.mul_one, ownW, Bool.false_eq_true, cellsOf_int, cellsOf_bool, cellsOf_string, cellsOf_agg, cellsOf_pointer, cellsOf_slice, cellsOf_map, cellsOf_func, cellsOf_nilFunc, cellsOf_iface, cellsOf_nilIface, putCells, flat, quietW, mkB, repZ1, appendW, srcW, buildSliceW, sliceW, lowOf, highOf, bs_size, bs_extract, Int.toNat_zero, List.drop_zero, AObj.loop.injEq, roundQ, endR, loopK, exists_eq_left', and_assoc, exists_and_left, exists_const, Call.operands, Int.toNat_natCast, Int.natCast_nonneg, Array.toList_append, bytesC_length, bytesC_set, bytesC_take, bytesC_drop, bytesC_append, bytesC_nil, u8s_bytesC, Try.underlying3, ts3, tb3, ta3, tz3, tv3, tc3, Try.underlying4, ts4, tb4, ta4, tz4, tv4, tc4, Try.underlying9, ts9, tb9, ta9, tz9, tv9, tc9, Try.underlying22, ts22, tb22, ta22, tz22, tv22, tc22, ht, ha, hb]
          | simp (disch := omega) only [wi64, wu8, wu16, wu32, wu64]
          | with_reducible_and_instances exact finR
          | ((with_reducible refine finR' ?_ ?_) <;> rfl)
          | ((with_reducible refine finD hsc (NRel.of_plain ?_)); exact rfl)
    · have hD := Distance t a
      rw [if_neg (fun h => ha h.2)] at hD
      refine AC.enter Try.func3 rfl (by kernel_rfl) 204 rfl [.tmp 6] rfl (by simp) fun hsc B => ?_
      repeat first
        | with_reducible refine AWP.seq ?_
        | ((with_reducible refine AWP.region ?_ ?_); exact rfl)
        | with_reducible refine AWP.block ?_
        | with_reducible refine AWP.skip ?_
        | with_reducible refine AWP.exit ?_
        | with_reducible refine AWP.ret ?_
        | with_reducible refine AWP.label ?_
        | with_reducible refine AWP.goto ?_
        | ((with_reducible refine AWP.condT ?_ ?_); focus (simp only [ev, lk_cons, ↓reduceIte, Nat.reduceEqDiff]; done))
        | ((with_reducible refine AWP.condF ?_ ?_); focus (simp only [ev, lk_cons, ↓reduceIte, Nat.reduceEqDiff]; done))
        | with_reducible refine (hD _).use ?_
        | with_reducible refine (rvalid t _).use ?_
        | with_reducible refine (valid a _).use ?_
        | with_reducible refine (rvalid a _).use ?_
        | with_reducible refine (awake _).use ?_
        | simp only [↓regionW_nil, ↓regionW_go, ↓regionW_if, ↓gstep_tt, ↓gstep_ff, ↓gstep_tf, ↓gstep_ft, ↓gstep_no, wantW, gd, ↓op_move, ↓op_assign, ↓op_alloc, ↓op_box, ↓op_build, ↓op_buildSlice, ↓op_load, ↓op_store, ↓op_binOp, ↓op_unOp, ↓op_convert, ↓op_makeInterface, ↓op_makeFunc, ↓op_makeSlice, ↓op_slice, ↓op_fieldAddr, ↓op_field, ↓op_indexAddr, ↓op_index, ↓op_typeAssert, ↓op_extract, ↓op_callV, ↓op_callB, ↓op_callI, ↓op_pick, ↓op_panic, ↓op_nilCheck, ↓pickW_t, ↓pickW_f, ↓pickW_b, ↓panW_i, ↓nilW_p, ↓nilW_f, ↓nilW_i, invokeW, ev, evs, evP, evO, lk_co, lk_nil, ↓wth_so, ↓kv_go, ↓put_so, ↓put_no, ↓next_n, ↓next_e, ↓next_g, ↓next_r, ↓next_p, ↓inB_n, ↓inB_e, ↓inB_g, ↓inB_r, ↓inB_p, ↓resK_r, ↓resK_p, noVal, plain, scalar, List.all_cons, List.all_nil, Bool.and_true, Bool.true_and, Bool.and_self, List.cons_append, List.nil_append, List.append_nil, List.append_assoc, List.getElem?_cons_zero, List.getElem?_cons_succ, List.getElem?_nil, List.set_cons_zero, List.set_cons_succ, Option.bind_some, Option.map_some, ↓reduceIte, Nat.reduceEqDiff, reduceCtorEq, argEnv, Nat.reduceAdd, Nat.zero_add, Nat.add_zero, true_implies, false_implies, decide_true, decide_false, Bool.not_true, Bool.not_false, Bool.true_eq_false, ne_eq, not_true_eq_false, not_false_eq_true, and_true, true_and, builtinW, ↓lenW_bs, lenW, bs_toList', ↓strW_eql, ↓strW_neq, ↓strW_lss, ↓strW_leq, ↓strW_gtr, ↓strW_geq, ↓strW_add, binW_int, binW_str, binW_bool_eql, binW_bool_neq, binW_agg_eql, binW_agg_neq, binW_slice_eql, binW_slice_neq, eqV_bool, eqV_int, eqV_sn, eqV_nn, eqV_ns, unW_not, unW_neg, unW_xor, fillL, placeOf, Int.reduceEq, Int.reduceBNe, Int.reduceBEq, bne_self_eq_false, beq_self_eq_true, Int.reduceToNat, Int.reduceLT, Int.reduceLE, Int.reduceAdd, Int.reduceSub, Int.reduceMul, Int.reduceNeg, Nat.reduceMul, Nat.reduceLeDiff, Nat.reduceLT, Int.cast_ofNat_Int, Int.natCast_zero, Nat.le_refl, intW, strW, callV, FPost, LeaveW, resV, packV0, packV1, packV2, extractW, loadW, storeW, indexW, indexAddrW, convW, bitV, fieldW, fieldAddrW, partW, buildW, allocW, boxW, restrict, reads, Op.operands, tmpOf, ASt.only, stepW, Option.toList, List.filterMap_cons, List.filterMap_nil, hget0, hgetk, hset0, hsetk, List.length_append, List.length_cons, List.length_nil, List.length_set, Nat.add_assoc, Option.some.injEq, forall_eq', List.take_succ_cons, List.take_zero, List.drop_succ_cons, List.drop_zero, Nat.mul_one, ownW, Bool.false_eq_true, cellsOf_int, cellsOf_bool, cellsOf_string, cellsOf_agg, cellsOf_pointer, cellsOf_slice, cellsOf_map, cellsOf_func, cellsOf_nilFunc, cellsOf_iface, cellsOf_nilIface, putCells, flat, quietW, mkB, repZ1, appendW, srcW, buildSliceW, sliceW, lowOf, highOf, bs_size, bs_extract, Int.toNat_zero, List.drop_zero, AObj.loop.injEq, roundQ, endR, loopK, exists_eq_left', and_assoc, exists_and_left, exists_const, Call.operands, Int.toNat_natCast, Int.natCast_nonneg, Array.toList_append, bytesC_length, bytesC_set, bytesC_take, bytesC_drop, bytesC_append, bytesC_nil, u8s_bytesC, Try.underlying3, ts3, tb3, ta3, tz3, tv3, tc3, Try.underlying4, ts4, tb4, ta4, tz4, tv4, tc4, Try.underlying9, ts9, tb9, ta9, tz9, tv9, tc9, Try.underlying22, ts22, tb22, ta22, tz22, tv22, tc22, ht, ha]
        | simp (disch := omega) only [wi64, wu8, wu16, wu32, wu64]
        | with_reducible_and_instances exact finR
        | ((with_reducible refine finR' ?_ ?_) <;> rfl)
        | ((with_reducible refine finD hsc (NRel.of_plain ?_)); exact rfl)
  · have hD := Distance t a
    rw [if_neg (fun h => ht h.1)] at hD
    refine AC.enter Try.func3 rfl (by kernel_rfl) 204 rfl [.tmp 6] rfl (by simp) fun hsc B => ?_
    repeat first
      | with_reducible refine AWP.seq ?_
      | ((with_reducible refine AWP.region ?_ ?_); exact rfl)
      | with_reducible refine AWP.block ?_
      | with_reducible refine AWP.skip ?_
      | with_reducible refine AWP.exit ?_
      | with_reducible refine AWP.ret ?_
      | with_reducible refine AWP.label ?_
      | with_reducible refine AWP.goto ?_
      | ((with_reducible refine AWP.condT ?_ ?_); focus (simp only [ev, lk_cons, ↓reduceIte, Nat.reduceEqDiff]; done))
      | ((with_reducible refine AWP.condF ?_ ?_); focus (simp only [ev, lk_cons, ↓reduceIte, Nat.reduceEqDiff]; done))
      | with_reducible refine (hD _).use ?_
      | with_reducible refine (rvalid t _).use ?_
      | with_reducible refine (valid a _).use ?_
      | with_reducible refine (rvalid a _).use ?_
      | with_reducible refine (awake _).use ?_
      | simp only [↓regionW_nil, ↓regionW_go, ↓regionW_if, ↓gstep_tt, ↓gstep_ff, ↓gstep_tf, ↓gstep_ft, ↓gstep_no, wantW, gd, ↓op_move, ↓op_assign, ↓op_alloc, ↓op_box, ↓op_build, ↓op_buildSlice, ↓op_load, ↓op_store, ↓op_binOp, ↓op_unOp, ↓op_convert, ↓op_makeInterface, ↓op_makeFunc, ↓op_makeSlice, ↓op_slice, ↓op_fieldAddr, ↓op_field, ↓op_indexAddr, ↓op_index, ↓op_typeAssert, ↓op_extract, ↓op_callV, ↓op_callB, ↓op_callI, ↓op_pick, ↓op_panic, ↓op_nilCheck, ↓pickW_t, ↓pickW_f, ↓pickW_b, ↓panW_i, ↓nilW_p, ↓nilW_f, ↓nilW_i, invokeW, ev, evs, evP, evO, lk_co, lk_nil, ↓wth_so, ↓kv_go, ↓put_so, ↓put_no, ↓next_n, ↓next_e, ↓next_g, ↓next_r, ↓next_p, ↓inB_n, ↓inB_e, ↓inB_g, ↓inB_r, ↓inB_p, ↓resK_r, ↓resK_p, noVal, plain, scalar, List.all_cons, List.all_nil, Bool.and_true, Bool.true_and, Bool.and_self, List.cons_append, List.nil_append, List.append_nil, List.append_assoc, List.getElem?_cons_zero, List.getElem?_cons_succ, List.getElem?_nil, List.set_cons_zero, List.set_cons_succ, Option.bind_some, Option.map_some, ↓reduceIte, Nat.reduceEqDiff, reduceCtorEq, argEnv, Nat.reduceAdd, Nat.zero_add, Nat.add_zero, true_implies, false_implies, decide_true, decide_false, Bool.not_true, Bool.not_false, Bool.true_eq_false, ne_eq, not_true_eq_false, not_false_eq_true, and_true, true_and, builtinW, ↓lenW_bs, lenW, bs_toList', ↓strW_eql, ↓strW_neq, ↓strW_lss, ↓strW_leq, ↓strW_gtr, ↓strW_geq, ↓strW_add, binW_int, binW_str, binW_bool_eql, binW_bool_neq, binW_agg_eql, binW_agg_neq, binW_slice_eql, binW_slice_neq, eqV_bool, eqV_int, eqV_sn, eqV_nn, eqV_ns, unW_not, unW_neg, unW_xor, fillL, placeOf, Int.reduceEq, Int.reduceBNe, Int.reduceBEq, bne_self_eq_false, beq_self_eq_true, Int.reduceToNat, Int.reduceLT, Int.reduceLE, Int.reduceAdd, Int.reduceSub, Int.reduceMul, Int.reduceNeg, Nat.reduceMul, Nat.reduceLeDiff, Nat.reduceLT, Int.cast_ofNat_Int, Int.natCast_zero, Nat.le_refl, intW, strW, callV, FPost, LeaveW, resV, packV0, packV1, packV2, extractW, loadW, storeW, indexW, indexAddrW, convW, bitV, fieldW, fieldAddrW, partW, buildW, allocW, boxW, restrict, reads, Op.operands, tmpOf, ASt.only, stepW, Option.toList, List.filterMap_cons, List.filterMap_nil, hget0, hgetk, hset0, hsetk, List.length_append, List.length_cons, List.length_nil, List.length_set, Nat.add_assoc, Option.some.injEq, forall_eq', List.take_succ_cons, List.take_zero, List.drop_succ_cons, List.drop_zero, Nat.mul_one, ownW, Bool.false_eq_true, cellsOf_int, cellsOf_bool, cellsOf_string, cellsOf_agg, cellsOf_pointer, cellsOf_slice, cellsOf_map, cellsOf_func, cellsOf_nilFunc, cellsOf_iface, cellsOf_nilIface, putCells, flat, quietW, mkB, repZ1, appendW, srcW, buildSliceW, sliceW, lowOf, highOf, bs_size, bs_extract, Int.toNat_zero, List.drop_zero, AObj.loop.injEq, roundQ, endR, loopK, exists_eq_left', and_assoc, exists_and_left, exists_const, Call.operands, Int.toNat_natCast, Int.natCast_nonneg, Array.toList_append, bytesC_length, bytesC_set, bytesC_take, bytesC_drop, bytesC_append, bytesC_nil, u8s_bytesC, Try.underlying3, ts3, tb3, ta3, tz3, tv3, tc3, Try.underlying4, ts4, tb4, ta4, tz4, tv4, tc4, Try.underlying9, ts9, tb9, ta9, tz9, tv9, tc9, Try.underlying22, ts22, tb22, ta22, tz22, tv22, tc22, ht]
      | simp (disch := omega) only [wi64, wu8, wu16, wu32, wu64]
      | with_reducible_and_instances exact finR
      | ((with_reducible refine finR' ?_ ?_) <;> rfl)
      | ((with_reducible refine finD hsc (NRel.of_plain ?_)); exact rfl)
end Go.Proofs.Ytdbdnknnaekbhaa
