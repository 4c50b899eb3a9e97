/- A part of the proof of a statement of this seat. -/
import Derived.Test.YtdbdnknnaekbhaaN5
set_option linter.unusedVariables false
set_option linter.unusedSimpArgs false
namespace Go.Proofs.Ytdbdnknnaekbhaa
open Go Go.Aw Go.Proofs
theorem boolsC_set (l : List Bool) (n : Nat) (b : Bool) : (boolsC l).set n (.bool b) = boolsC (l.set n b) := by simp [boolsC, List.map_set]
theorem boolsC_length (l : List Bool) : (boolsC l).length = l.length := by simp [boolsC]
theorem range_set {α : Type} (N n : Nat) (f g : Nat → α) (v : α) (hn : n < N) (hv : v = g n) (h : ∀ m, m < N → m ≠ n → f m = g m) : ((List.range N).map f).set n v = (List.range N).map g := by
  apply List.ext_getElem (by simp)
  intro i h1 h2
  rw [List.getElem_set]
  split
  · rename_i e; subst e; simp [hv]
  · rename_i e; simp [h i (by simpa using h2) (Ne.symm e)]
def mixed (a b : List UInt8) (n m : Nat) : Bool := if m < n then bitAt a m != bitAt b m else bitAt a m
theorem rDistance (a b : List UInt8) (ha : a.length = 20) (hb : b.length = 20) (H : AHeap) : ARet Try.prog 10 [.string (bs a), .string (bs b)] H (.string (bs (dist a b))) H := by
  refine AC.enter Try.func10 rfl (by kernel_rfl) 32 rfl [.tmp 4] rfl (by simp) fun hsc B => ?_
  repeat first
    | with_reducible refine AWP.seq ?_
    | ((with_reducible refine AWP.region ?_ ?_); exact rfl)
    | with_reducible refine AWP.block ?_
    | with_reducible refine AWP.skip ?_
    | with_reducible refine AWP.exit ?_
    | with_reducible refine AWP.ret ?_
    | with_reducible refine AWP.label ?_
    | with_reducible refine AWP.goto ?_
    | ((with_reducible refine AWP.condT ?_ ?_); focus (simp only [ev, lk_cons, ↓reduceIte, Nat.reduceEqDiff]; done))
    | ((with_reducible refine AWP.condF ?_ ?_); focus (simp only [ev, lk_cons, ↓reduceIte, Nat.reduceEqDiff]; done))
    | with_reducible refine (bits a ha _).use ?_
    | with_reducible refine (bits b hb _).use ?_
    | simp only [↓regionW_nil, ↓regionW_go, ↓regionW_if, ↓gstep_tt, ↓gstep_ff, ↓gstep_tf, ↓gstep_ft, ↓gstep_no, wantW, gd, ↓op_move, ↓op_assign, ↓op_alloc, ↓op_box, ↓op_build, ↓op_buildSlice, ↓op_load, ↓op_store, ↓op_binOp, ↓op_unOp, ↓op_convert, ↓op_makeInterface, ↓op_makeFunc, ↓op_makeSlice, ↓op_slice, ↓op_fieldAddr, ↓op_field, ↓op_indexAddr, ↓op_index, ↓op_typeAssert, ↓op_extract, ↓op_callV, ↓op_callB, ↓op_callI, ↓op_pick, ↓op_panic, ↓op_nilCheck, ↓pickW_t, ↓pickW_f, ↓pickW_b, ↓panW_i, ↓nilW_p, ↓nilW_f, ↓nilW_i, invokeW, ev, evs, evP, evO, lk_co, lk_nil, ↓wth_so, ↓kv_go, ↓put_so, ↓put_no, ↓next_n, ↓next_e, ↓next_g, ↓next_r, ↓next_p, ↓inB_n, ↓inB_e, ↓inB_g, ↓inB_r, ↓inB_p, ↓resK_r, ↓resK_p, noVal, plain, scalar, List.all_cons, List.all_nil, Bool.and_true, Bool.true_and, Bool.and_self, List.cons_append, List.nil_append, List.append_nil, List.append_assoc, List.getElem?_cons_zero, List.getElem?_cons_succ, List.getElem?_nil, List.set_cons_zero, List.set_cons_succ, Option.bind_some, Option.map_some, ↓reduceIte, Nat.reduceEqDiff, reduceCtorEq, argEnv, Nat.reduceAdd, Nat.zero_add, Nat.add_zero, true_implies, false_implies, decide_true, decide_false, Bool.not_true, Bool.not_false, Bool.true_eq_false, ne_eq, not_true_eq_false, not_false_eq_true, and_true, true_and, builtinW, ↓lenW_bs, lenW, bs_toList', ↓strW_eql, ↓strW_neq, ↓strW_lss, ↓strW_leq, ↓strW_gtr, ↓strW_geq, ↓strW_add, binW_int, binW_str, binW_bool_eql, binW_bool_neq, binW_agg_eql, binW_agg_neq, binW_slice_eql, binW_slice_neq, eqV_bool, eqV_int, eqV_sn, eqV_nn, eqV_ns, unW_not, unW_neg, unW_xor, fillL, placeOf, Int.reduceEq, Int.reduceBNe, Int.reduceBEq, bne_self_eq_false, beq_self_eq_true, Int.reduceToNat, Int.reduceLT, Int.reduceLE, Int.reduceGT, Int.reduceGE, Nat.reduceSub, Nat.reduceBEq, Nat.reduceBNe, Int.reduceAdd, Int.reduceSub, Int.reduceMul, Int.reduceNeg, Nat.reduceMul, Nat.reduceLeDiff, Nat.reduceLT, Int.cast_ofNat_Int, Int.natCast_zero, Nat.le_refl, intW, strW, callV, FPost, LeaveW, resV, packV0, packV1, packV2, extractW, loadW, storeW, indexW, indexAddrW, convW, bitV, fieldW, fieldAddrW, partW, buildW, allocW, boxW, restrict, reads, Op.operands, tmpOf, ASt.only, stepW, Option.toList, List.filterMap_cons, List.filterMap_nil, hget0, hgetk, hset0, hsetk, List.length_append, List.length_cons, List.length_nil, List.length_set, Nat.add_assoc, Option.some.injEq, forall_eq', List.take_succ_cons, List.take_zero, List.drop_succ_cons, List.drop_zero, Nat.mul_one, ownW, Bool.false_eq_true, cellsOf_int, cellsOf_bool, cellsOf_string, cellsOf_agg, cellsOf_pointer, cellsOf_slice, cellsOf_map, cellsOf_func, cellsOf_nilFunc, cellsOf_iface, cellsOf_nilIface, putCells, flat, quietW, mkB, repZ1, appendW, srcW, buildSliceW, sliceW, lowOf, highOf, bs_size, bs_extract, Int.toNat_zero, List.drop_zero, AObj.loop.injEq, roundQ, endR, loopK, exists_eq_left', and_assoc, exists_and_left, exists_const, Call.operands, Int.toNat_natCast, Int.natCast_nonneg, Array.toList_append, bytesC_length, bytesC_set, bytesC_take, bytesC_drop, bytesC_append, bytesC_nil, u8s_bytesC, Try.underlying3, ts3, tb3, ta3, tz3, tv3, tc3, Try.underlying4, ts4, tb4, ta4, tz4, tv4, tc4, Try.underlying9, ts9, tb9, ta9, tz9, tv9, tc9, Try.underlying58, ts58, tb58, ta58, tz58, tv58, tc58]
    | simp (disch := omega) only [wi64, wu8, wu16, wu32, wu64]
    | with_reducible_and_instances exact finR
    | ((with_reducible refine finR' ?_ ?_) <;> rfl)
    | ((with_reducible refine finD hsc (NRel.of_plain ?_)); exact rfl)
  refine AWP.loopP (fun n : Nat => ⟨[(14, .int .i64 (n : Nat)), (13, .int .i64 160), (6, .slice (some ⟨H.length + 1, 0, none⟩) 160 160), (5, .slice (some ⟨H.length, 0, none⟩) 160 160)], [],
    H ++ [.cells (boolsC ((List.range 160).map (mixed a b n))) ⟨4, 1, true, 0, none⟩, .cells (boolsC ((List.range 160).map (bitAt b))) ⟨4, 1, true, 0, none⟩]⟩) (fun n => n ≤ 160) (fun n => 160 - n) 0 ?_ (by simp) ?_
  · have : mixed a b 0 = bitAt a := by funext m; simp [mixed]
    rw [this]
    exact Weak.env (by simp [envIn, lk_cons, wth_some])
  intro n hn
  by_cases hc : n < 160
  · have hc' : (n : Int) < 160 := by omega
    have h1 : (boolsC ((List.range 160).map (mixed a b n)))[n]? = some (.bool (bitAt a n)) := by
      rw [boolsC_get _ _ (by simpa using hc)]; simp [List.getD_eq_getElem?_getD, hc, mixed]
    have h2 : (boolsC ((List.range 160).map (bitAt b)))[n]? = some (.bool (bitAt b n)) := by
      rw [boolsC_get _ _ (by simpa using hc)]; simp [List.getD_eq_getElem?_getD, hc]
    repeat first
      | with_reducible refine AWP.seq ?_
      | ((with_reducible refine AWP.region ?_ ?_); exact rfl)
      | with_reducible refine AWP.block ?_
      | with_reducible refine AWP.skip ?_
      | with_reducible refine AWP.exit ?_
      | with_reducible refine AWP.ret ?_
      | with_reducible refine AWP.label ?_
      | with_reducible refine AWP.goto ?_
      | ((with_reducible refine AWP.condT ?_ ?_); focus (simp only [ev, lk_cons, ↓reduceIte, Nat.reduceEqDiff]; done))
      | ((with_reducible refine AWP.condF ?_ ?_); focus (simp only [ev, lk_cons, ↓reduceIte, Nat.reduceEqDiff]; done))
      | simp only [↓regionW_nil, ↓regionW_go, ↓regionW_if, ↓gstep_tt, ↓gstep_ff, ↓gstep_tf, ↓gstep_ft, ↓gstep_no, wantW, gd, ↓op_move, ↓op_assign, ↓op_alloc, ↓op_box, ↓op_build, ↓op_buildSlice, ↓op_load, ↓op_store, ↓op_binOp, ↓op_unOp, ↓op_convert, ↓op_makeInterface, ↓op_makeFunc, ↓op_makeSlice, ↓op_slice, ↓op_fieldAddr, ↓op_field, ↓op_indexAddr, ↓op_index, ↓op_typeAssert, ↓op_extract, ↓op_callV, ↓op_callB, ↓op_callI, ↓op_pick, ↓op_panic, ↓op_nilCheck, ↓pickW_t, ↓pickW_f, ↓pickW_b, ↓panW_i, ↓nilW_p, ↓nilW_f, ↓nilW_i, invokeW, ev, evs, evP, evO, lk_co, lk_nil, ↓wth_so, ↓kv_go, ↓put_so, ↓put_no, ↓next_n, ↓next_e, ↓next_g, ↓next_r, ↓next_p, ↓inB_n, ↓inB_e, ↓inB_g, ↓inB_r, ↓inB_p, ↓resK_r, ↓resK_p, noVal, plain, scalar, List.all_cons, List.all_nil, Bool.and_true, Bool.true_and, Bool.and_self, List.cons_append, List.nil_append, List.append_nil, List.append_assoc, List.getElem?_cons_zero, List.getElem?_cons_succ, List.getElem?_nil, List.set_cons_zero, List.set_cons_succ, Option.bind_some, Option.map_some, ↓reduceIte, Nat.reduceEqDiff, reduceCtorEq, argEnv, Nat.reduceAdd, Nat.zero_add, Nat.add_zero, true_implies, false_implies, decide_true, decide_false, Bool.not_true, Bool.not_false, Bool.true_eq_false, ne_eq, not_true_eq_false, not_false_eq_true, and_true, true_and, builtinW, ↓lenW_bs, lenW, bs_toList', ↓strW_eql, ↓strW_neq, ↓strW_lss, ↓strW_leq, ↓strW_gtr, ↓strW_geq, ↓strW_add, binW_int, binW_str, binW_bool_eql, binW_bool_neq, binW_agg_eql, binW_agg_neq, binW_slice_eql, binW_slice_neq, eqV_bool, eqV_int, eqV_sn, eqV_nn, eqV_ns, unW_not, unW_neg, unW_xor, fillL, placeOf, Int.reduceEq, Int.reduceBNe, Int.reduceBEq, bne_self_eq_false, beq_self_eq_true, Int.reduceToNat, Int.reduceLT, Int.reduceLE, Int.reduceGT, Int.reduceGE, Nat.reduceSub, Nat.reduceBEq, Nat.reduceBNe, Int.reduceAdd, Int.reduceSub, Int.reduceMul, Int.reduceNeg, Nat.reduceMul, Nat.reduceLeDiff, Nat.reduceLT, Int.cast_ofNat_Int, Int.natCast_zero, Nat.le_refl, intW, strW, callV, FPost, LeaveW, resV, packV0, packV1, packV2, extractW, loadW, storeW, indexW, indexAddrW, convW, bitV, fieldW, fieldAddrW, partW, buildW, allocW, boxW, restrict, reads, Op.operands, tmpOf, ASt.only, stepW, Option.toList, List.filterMap_cons, List.filterMap_nil, hget0, hgetk, hset0, hsetk, List.length_append, List.length_cons, List.length_nil, List.length_set, Nat.add_assoc, Option.some.injEq, forall_eq', List.take_succ_cons, List.take_zero, List.drop_succ_cons, List.drop_zero, Nat.mul_one, ownW, Bool.false_eq_true, cellsOf_int, cellsOf_bool, cellsOf_string, cellsOf_agg, cellsOf_pointer, cellsOf_slice, cellsOf_map, cellsOf_func, cellsOf_nilFunc, cellsOf_iface, cellsOf_nilIface, putCells, flat, quietW, mkB, repZ1, appendW, srcW, buildSliceW, sliceW, lowOf, highOf, bs_size, bs_extract, Int.toNat_zero, List.drop_zero, AObj.loop.injEq, roundQ, endR, loopK, exists_eq_left', and_assoc, exists_and_left, exists_const, Call.operands, Int.toNat_natCast, Int.natCast_nonneg, Array.toList_append, bytesC_length, bytesC_set, bytesC_take, bytesC_drop, bytesC_append, bytesC_nil, u8s_bytesC, Try.underlying3, ts3, tb3, ta3, tz3, tv3, tc3, Try.underlying4, ts4, tb4, ta4, tz4, tv4, tc4, Try.underlying9, ts9, tb9, ta9, tz9, tv9, tc9, Try.underlying58, ts58, tb58, ta58, tz58, tv58, tc58, hc']
      | simp (disch := omega) only [wi64, wu8, wu16, wu32, wu64]
      | with_reducible_and_instances exact finR
      | ((with_reducible refine finR' ?_ ?_) <;> rfl)
      | ((with_reducible refine finD hsc (NRel.of_plain ?_)); exact rfl)
    refine AWP.regionK 11 (by kernel_rfl) (by decide) (by kernel_rfl) ?_
    repeat first
      | with_reducible refine AWP.seq ?_
      | ((with_reducible refine AWP.region ?_ ?_); exact rfl)
      | with_reducible refine AWP.block ?_
      | with_reducible refine AWP.skip ?_
      | with_reducible refine AWP.exit ?_
      | with_reducible refine AWP.ret ?_
      | with_reducible refine AWP.label ?_
      | with_reducible refine AWP.goto ?_
      | ((with_reducible refine AWP.condT ?_ ?_); focus (simp only [ev, lk_cons, ↓reduceIte, Nat.reduceEqDiff]; done))
      | ((with_reducible refine AWP.condF ?_ ?_); focus (simp only [ev, lk_cons, ↓reduceIte, Nat.reduceEqDiff]; done))
      | simp only [↓regionW_nil, ↓regionW_go, ↓regionW_if, ↓gstep_tt, ↓gstep_ff, ↓gstep_tf, ↓gstep_ft, ↓gstep_no, wantW, gd, ↓op_move, ↓op_assign, ↓op_alloc, ↓op_box, ↓op_build, ↓op_buildSlice, ↓op_load, ↓op_store, ↓op_binOp, ↓op_unOp, ↓op_convert, ↓op_makeInterface, ↓op_makeFunc, ↓op_makeSlice, ↓op_slice, ↓op_fieldAddr, ↓op_field, ↓op_indexAddr, ↓op_index, ↓op_typeAssert, ↓op_extract, ↓op_callV, ↓op_callB, ↓op_callI, ↓op_pick, ↓op_panic, ↓op_nilCheck, ↓pickW_t, ↓pickW_f, ↓pickW_b, ↓panW_i, ↓nilW_p, ↓nilW_f, ↓nilW_i, invokeW, ev, evs, evP, evO, lk_co, lk_nil, ↓wth_so, ↓kv_go, ↓put_so, ↓put_no, ↓next_n, ↓next_e, ↓next_g, ↓next_r, ↓next_p, ↓inB_n, ↓inB_e, ↓inB_g, ↓inB_r, ↓inB_p, ↓resK_r, ↓resK_p, noVal, plain, scalar, List.all_cons, List.all_nil, Bool.and_true, Bool.true_and, Bool.and_self, List.cons_append, List.nil_append, List.append_nil, List.append_assoc, List.getElem?_cons_zero, List.getElem?_cons_succ, List.getElem?_nil, List.set_cons_zero, List.set_cons_succ, Option.bind_some, Option.map_some, ↓reduceIte, Nat.reduceEqDiff, reduceCtorEq, argEnv, Nat.reduceAdd, Nat.zero_add, Nat.add_zero, true_implies, false_implies, decide_true, decide_false, Bool.not_true, Bool.not_false, Bool.true_eq_false, ne_eq, not_true_eq_false, not_false_eq_true, and_true, true_and, builtinW, ↓lenW_bs, lenW, bs_toList', ↓strW_eql, ↓strW_neq, ↓strW_lss, ↓strW_leq, ↓strW_gtr, ↓strW_geq, ↓strW_add, binW_int, binW_str, binW_bool_eql, binW_bool_neq, binW_agg_eql, binW_agg_neq, binW_slice_eql, binW_slice_neq, eqV_bool, eqV_int, eqV_sn, eqV_nn, eqV_ns, unW_not, unW_neg, unW_xor, fillL, placeOf, Int.reduceEq, Int.reduceBNe, Int.reduceBEq, bne_self_eq_false, beq_self_eq_true, Int.reduceToNat, Int.reduceLT, Int.reduceLE, Int.reduceGT, Int.reduceGE, Nat.reduceSub, Nat.reduceBEq, Nat.reduceBNe, Int.reduceAdd, Int.reduceSub, Int.reduceMul, Int.reduceNeg, Nat.reduceMul, Nat.reduceLeDiff, Nat.reduceLT, Int.cast_ofNat_Int, Int.natCast_zero, Nat.le_refl, intW, strW, callV, FPost, LeaveW, resV, packV0, packV1, packV2, extractW, loadW, storeW, indexW, indexAddrW, convW, bitV, fieldW, fieldAddrW, partW, buildW, allocW, boxW, restrict, reads, Op.operands, tmpOf, ASt.only, stepW, Option.toList, List.filterMap_cons, List.filterMap_nil, hget0, hgetk, hset0, hsetk, List.length_append, List.length_cons, List.length_nil, List.length_set, Nat.add_assoc, Option.some.injEq, forall_eq', List.take_succ_cons, List.take_zero, List.drop_succ_cons, List.drop_zero, Nat.mul_one, ownW, Bool.false_eq_true, cellsOf_int, cellsOf_bool, cellsOf_string, cellsOf_agg, cellsOf_pointer, cellsOf_slice, cellsOf_map, cellsOf_func, cellsOf_nilFunc, cellsOf_iface, cellsOf_nilIface, putCells, flat, quietW, mkB, repZ1, appendW, srcW, buildSliceW, sliceW, lowOf, highOf, bs_size, bs_extract, Int.toNat_zero, List.drop_zero, AObj.loop.injEq, roundQ, endR, loopK, exists_eq_left', and_assoc, exists_and_left, exists_const, Call.operands, Int.toNat_natCast, Int.natCast_nonneg, Array.toList_append, bytesC_length, bytesC_set, bytesC_take, bytesC_drop, bytesC_append, bytesC_nil, u8s_bytesC, Try.underlying3, ts3, tb3, ta3, tz3, tv3, tc3, Try.underlying4, ts4, tb4, ta4, tz4, tv4, tc4, Try.underlying9, ts9, tb9, ta9, tz9, tv9, tc9, Try.underlying58, ts58, tb58, ta58, tz58, tv58, tc58, hc', h1, h2]
      | simp (disch := omega) only [wi64, wu8, wu16, wu32, wu64]
      | with_reducible_and_instances exact finR
      | ((with_reducible refine finR' ?_ ?_) <;> rfl)
      | ((with_reducible refine finD hsc (NRel.of_plain ?_)); exact rfl)
    refine ⟨by omega, by simp [boolsC]; omega, ?_⟩
    have e1 : (boolsC ((List.range 160).map (mixed a b n))).set n (.bool (!(bitAt a n == bitAt b n))) = boolsC ((List.range 160).map (mixed a b (n + 1))) := by
      rw [boolsC_set, range_set 160 n (mixed a b n) (mixed a b (n + 1)) _ hc (by simp [mixed]; cases bitAt a n <;> cases bitAt b n <;> rfl)]
      intro m _ hm
      unfold mixed
      by_cases h : m < n
      · rw [if_pos h, if_pos (by omega)]
      · rw [if_neg h, if_neg (by omega)]
    rw [e1]
    repeat first
      | with_reducible refine AWP.seq ?_
      | ((with_reducible refine AWP.region ?_ ?_); exact rfl)
      | with_reducible refine AWP.block ?_
      | with_reducible refine AWP.skip ?_
      | with_reducible refine AWP.exit ?_
      | with_reducible refine AWP.ret ?_
      | with_reducible refine AWP.label ?_
      | with_reducible refine AWP.goto ?_
      | ((with_reducible refine AWP.condT ?_ ?_); focus (simp only [ev, lk_cons, ↓reduceIte, Nat.reduceEqDiff]; done))
      | ((with_reducible refine AWP.condF ?_ ?_); focus (simp only [ev, lk_cons, ↓reduceIte, Nat.reduceEqDiff]; done))
      | simp only [↓regionW_nil, ↓regionW_go, ↓regionW_if, ↓gstep_tt, ↓gstep_ff, ↓gstep_tf, ↓gstep_ft, ↓gstep_no, wantW, gd, ↓op_move, ↓op_assign, ↓op_alloc, ↓op_box, ↓op_build, ↓op_buildSlice, ↓op_load, ↓op_store, ↓op_binOp, ↓op_unOp, ↓op_convert, ↓op_makeInterface, ↓op_makeFunc, ↓op_makeSlice, ↓op_slice, ↓op_fieldAddr, ↓op_field, ↓op_indexAddr, ↓op_index, ↓op_typeAssert, ↓op_extract, ↓op_callV, ↓op_callB, ↓op_callI, ↓op_pick, ↓op_panic, ↓op_nilCheck, ↓pickW_t, ↓pickW_f, ↓pickW_b, ↓panW_i, ↓nilW_p, ↓nilW_f, ↓nilW_i, invokeW, ev, evs, evP, evO, lk_co, lk_nil, ↓wth_so, ↓kv_go, ↓put_so, ↓put_no, ↓next_n, ↓next_e, ↓next_g, ↓next_r, ↓next_p, ↓inB_n, ↓inB_e, ↓inB_g, ↓inB_r, ↓inB_p, ↓resK_r, ↓resK_p, noVal, plain, scalar, List.all_cons, List.all_nil, Bool.and_true, Bool.true_and, Bool.and_self, List.cons_append, List.nil_append, List.append_nil, List.append_assoc, List.getElem?_cons_zero, List.getElem?_cons_succ, List.getElem?_nil, List.set_cons_zero, List.set_cons_succ, Option.bind_some, Option.map_some, ↓reduceIte, Nat.reduceEqDiff, reduceCtorEq, argEnv, Nat.reduceAdd, Nat.zero_add, Nat.add_zero, true_implies, false_implies, decide_true, decide_false, Bool.not_true, Bool.not_false, Bool.true_eq_false, ne_eq, not_true_eq_false, not_false_eq_true, and_true, true_and, builtinW, ↓lenW_bs, lenW, bs_toList', ↓strW_eql, ↓strW_neq, ↓strW_lss, ↓strW_leq, ↓strW_gtr, ↓strW_geq, ↓strW_add, binW_int, binW_str, binW_bool_eql, binW_bool_neq, binW_agg_eql, binW_agg_neq, binW_slice_eql, binW_slice_neq, eqV_bool, eqV_int, eqV_sn, eqV_nn, eqV_ns, unW_not, unW_neg, unW_xor, fillL, placeOf, Int.reduceEq, Int.reduceBNe, Int.reduceBEq, bne_self_eq_false, beq_self_eq_true, Int.reduceToNat, Int.reduceLT, Int.reduceLE, Int.reduceGT, Int.reduceGE, Nat.reduceSub, Nat.reduceBEq, Nat.reduceBNe, Int.reduceAdd, Int.reduceSub, Int.reduceMul, Int.reduceNeg, Nat.reduceMul, Nat.reduceLeDiff, Nat.reduceLT, Int.cast_ofNat_Int, Int.natCast_zero, Nat.le_refl, intW, strW, callV, FPost, LeaveW, resV, packV0, packV1, packV2, extractW, loadW, storeW, indexW, indexAddrW, convW, bitV, fieldW, fieldAddrW, partW, buildW, allocW, boxW, restrict, reads, Op.operands, tmpOf, ASt.only, stepW, Option.toList, List.filterMap_cons, List.filterMap_nil, hget0, hgetk, hset0, hsetk, List.length_append, List.length_cons, List.length_nil, List.length_set, Nat.add_assoc, Option.some.injEq, forall_eq', List.take_succ_cons, List.take_zero, List.drop_succ_cons, List.drop_zero, Nat.mul_one, ownW, Bool.false_eq_true, cellsOf_int, cellsOf_bool, cellsOf_string, cellsOf_agg, cellsOf_pointer, cellsOf_slice, cellsOf_map, cellsOf_func, cellsOf_nilFunc, cellsOf_iface, cellsOf_nilIface, putCells, flat, quietW, mkB, repZ1, appendW, srcW, buildSliceW, sliceW, lowOf, highOf, bs_size, bs_extract, Int.toNat_zero, List.drop_zero, AObj.loop.injEq, roundQ, endR, loopK, exists_eq_left', and_assoc, exists_and_left, exists_const, Call.operands, Int.toNat_natCast, Int.natCast_nonneg, Array.toList_append, bytesC_length, bytesC_set, bytesC_take, bytesC_drop, bytesC_append, bytesC_nil, u8s_bytesC, Try.underlying3, ts3, tb3, ta3, tz3, tv3, tc3, Try.underlying4, ts4, tb4, ta4, tz4, tv4, tc4, Try.underlying9, ts9, tb9, ta9, tz9, tv9, tc9, Try.underlying58, ts58, tb58, ta58, tz58, tv58, tc58]
      | simp (disch := omega) only [wi64, wu8, wu16, wu32, wu64]
      | with_reducible_and_instances exact finR
      | ((with_reducible refine finR' ?_ ?_) <;> rfl)
      | ((with_reducible refine finD hsc (NRel.of_plain ?_)); exact rfl)
    exact ⟨n + 1, Weak.env (by simp [envIn, lk_cons, wth_some]), by omega, by omega⟩
  · have : n = 160 := by omega
    subst this
    repeat first
      | with_reducible refine AWP.seq ?_
      | ((with_reducible refine AWP.region ?_ ?_); exact rfl)
      | with_reducible refine AWP.block ?_
      | with_reducible refine AWP.skip ?_
      | with_reducible refine AWP.exit ?_
      | with_reducible refine AWP.ret ?_
      | with_reducible refine AWP.label ?_
      | with_reducible refine AWP.goto ?_
      | ((with_reducible refine AWP.condT ?_ ?_); focus (simp only [ev, lk_cons, ↓reduceIte, Nat.reduceEqDiff]; done))
      | ((with_reducible refine AWP.condF ?_ ?_); focus (simp only [ev, lk_cons, ↓reduceIte, Nat.reduceEqDiff]; done))
      | simp only [↓regionW_nil, ↓regionW_go, ↓regionW_if, ↓gstep_tt, ↓gstep_ff, ↓gstep_tf, ↓gstep_ft, ↓gstep_no, wantW, gd, ↓op_move, ↓op_assign, ↓op_alloc, ↓op_box, ↓op_build, ↓op_buildSlice, ↓op_load, ↓op_store, ↓op_binOp, ↓op_unOp, ↓op_convert, ↓op_makeInterface, ↓op_makeFunc, ↓op_makeSlice, ↓op_slice, ↓op_fieldAddr, ↓op_field, ↓op_indexAddr, ↓op_index, ↓op_typeAssert, ↓op_extract, ↓op_callV, ↓op_callB, ↓op_callI, ↓op_pick, ↓op_panic, ↓op_nilCheck, ↓pickW_t, ↓pickW_f, ↓pickW_b, ↓panW_i, ↓nilW_p, ↓nilW_f, ↓nilW_i, invokeW, ev, evs, evP, evO, lk_co, lk_nil, ↓wth_so, ↓kv_go, ↓put_so, ↓put_no, ↓next_n, ↓next_e, ↓next_g, ↓next_r, ↓next_p, ↓inB_n, ↓inB_e, ↓inB_g, ↓inB_r, ↓inB_p, ↓resK_r, ↓resK_p, noVal, plain, scalar, List.all_cons, List.all_nil, Bool.and_true, Bool.true_and, Bool.and_self, List.cons_append, List.nil_append, List.append_nil, List.append_assoc, List.getElem?_cons_zero, List.getElem?_cons_succ, List.getElem?_nil, List.set_cons_zero, List.set_cons_succ, Option.bind_some, Option.map_some, ↓reduceIte, Nat.reduceEqDiff, reduceCtorEq, argEnv, Nat.reduceAdd, Nat.zero_add, Nat.add_zero, true_implies, false_implies, decide_true, decide_false, Bool.not_true, Bool.not_false, Bool.true_eq_false, ne_eq, not_true_eq_false, not_false_eq_true, and_true, true_and, builtinW, ↓lenW_bs, lenW, bs_toList', ↓strW_eql, ↓strW_neq, ↓strW_lss, ↓strW_leq, ↓strW_gtr, ↓strW_geq, ↓strW_add, binW_int, binW_str, binW_bool_eql, binW_bool_neq, binW_agg_eql, binW_agg_neq, binW_slice_eql, binW_slice_neq, eqV_bool, eqV_int, eqV_sn, eqV_nn, eqV_ns, unW_not, unW_neg, unW_xor, fillL, placeOf, Int.reduceEq, Int.reduceBNe, Int.reduceBEq, bne_self_eq_false, beq_self_eq_true, Int.reduceToNat, Int.reduceLT, Int.reduceLE, Int.reduceGT, Int.reduceGE, Nat.reduceSub, Nat.reduceBEq, Nat.reduceBNe, Int.reduceAdd, Int.reduceSub, Int.reduceMul, Int.reduceNeg, Nat.reduceMul, Nat.reduceLeDiff, Nat.reduceLT, Int.cast_ofNat_Int, Int.natCast_zero, Nat.le_refl, intW, strW, callV, FPost, LeaveW, resV, packV0, packV1, packV2, extractW, loadW, storeW, indexW, indexAddrW, convW, bitV, fieldW, fieldAddrW, partW, buildW, allocW, boxW, restrict, reads, Op.operands, tmpOf, ASt.only, stepW, Option.toList, List.filterMap_cons, List.filterMap_nil, hget0, hgetk, hset0, hsetk, List.length_append, List.length_cons, List.length_nil, List.length_set, Nat.add_assoc, Option.some.injEq, forall_eq', List.take_succ_cons, List.take_zero, List.drop_succ_cons, List.drop_zero, Nat.mul_one, ownW, Bool.false_eq_true, cellsOf_int, cellsOf_bool, cellsOf_string, cellsOf_agg, cellsOf_pointer, cellsOf_slice, cellsOf_map, cellsOf_func, cellsOf_nilFunc, cellsOf_iface, cellsOf_nilIface, putCells, flat, quietW, mkB, repZ1, appendW, srcW, buildSliceW, sliceW, lowOf, highOf, bs_size, bs_extract, Int.toNat_zero, List.drop_zero, AObj.loop.injEq, roundQ, endR, loopK, exists_eq_left', and_assoc, exists_and_left, exists_const, Call.operands, Int.toNat_natCast, Int.natCast_nonneg, Array.toList_append, bytesC_length, bytesC_set, bytesC_take, bytesC_drop, bytesC_append, bytesC_nil, u8s_bytesC, Try.underlying3, ts3, tb3, ta3, tz3, tv3, tc3, Try.underlying4, ts4, tb4, ta4, tz4, tv4, tc4, Try.underlying9, ts9, tb9, ta9, tz9, tv9, tc9, Try.underlying58, ts58, tb58, ta58, tz58, tv58, tc58]
      | simp (disch := omega) only [wi64, wu8, wu16, wu32, wu64]
      | with_reducible_and_instances exact finR
      | ((with_reducible refine finR' ?_ ?_) <;> rfl)
      | ((with_reducible refine finD hsc (NRel.of_plain ?_)); exact rfl)
    refine (from_ _ (by simp) (dist a b) (by simp [dist, ha, hb]) ?_ H.length _ 160 _ (hget0 rfl)).use ?_
    · intro m hm
      unfold dist
      rw [bitAt_xor a b (by omega)]
      simp [List.getD_eq_getElem?_getD, hm, mixed]
    repeat first
      | with_reducible refine AWP.seq ?_
      | ((with_reducible refine AWP.region ?_ ?_); exact rfl)
      | with_reducible refine AWP.block ?_
      | with_reducible refine AWP.skip ?_
      | with_reducible refine AWP.exit ?_
      | with_reducible refine AWP.ret ?_
      | with_reducible refine AWP.label ?_
      | with_reducible refine AWP.goto ?_
      | ((with_reducible refine AWP.condT ?_ ?_); focus (simp only [ev, lk_cons, ↓reduceIte, Nat.reduceEqDiff]; done))
      | ((with_reducible refine AWP.condF ?_ ?_); focus (simp only [ev, lk_cons, ↓reduceIte, Nat.reduceEqDiff]; done))
      | simp only [↓regionW_nil, ↓regionW_go, ↓regionW_if, ↓gstep_tt, ↓gstep_ff, ↓gstep_tf, ↓gstep_ft, ↓gstep_no, wantW, gd, ↓op_move, ↓op_assign, ↓op_alloc, ↓op_box, ↓op_build, ↓op_buildSlice, ↓op_load, ↓op_store, ↓op_binOp, ↓op_unOp, ↓op_convert, ↓op_makeInterface, ↓op_makeFunc, ↓op_makeSlice, ↓op_slice, ↓op_fieldAddr, ↓op_field, ↓op_indexAddr, ↓op_index, ↓op_typeAssert, ↓op_extract, ↓op_callV, ↓op_callB, ↓op_callI, ↓op_pick, ↓op_panic, ↓op_nilCheck, ↓pickW_t, ↓pickW_f, ↓pickW_b, ↓panW_i, ↓nilW_p, ↓nilW_f, ↓nilW_i, invokeW, ev, evs, evP, evO, lk_co, lk_nil, ↓wth_so, ↓kv_go, ↓put_so, ↓put_no, ↓next_n, ↓next_e, ↓next_g, ↓next_r, ↓next_p, ↓inB_n, ↓inB_e, ↓inB_g, ↓inB_r, ↓inB_p, ↓resK_r, ↓resK_p, noVal, plain, scalar, List.all_cons, List.all_nil, Bool.and_true, Bool.true_and, Bool.and_self, List.cons_append, List.nil_append, List.append_nil, List.append_assoc, List.getElem?_cons_zero, List.getElem?_cons_succ, List.getElem?_nil, List.set_cons_zero, List.set_cons_succ, Option.bind_some, Option.map_some, ↓reduceIte, Nat.reduceEqDiff, reduceCtorEq, argEnv, Nat.reduceAdd, Nat.zero_add, Nat.add_zero, true_implies, false_implies, decide_true, decide_false, Bool.not_true, Bool.not_false, Bool.true_eq_false, ne_eq, not_true_eq_false, not_false_eq_true, and_true, true_and, builtinW, ↓lenW_bs, lenW, bs_toList', ↓strW_eql, ↓strW_neq, ↓strW_lss, ↓strW_leq, ↓strW_gtr, ↓strW_geq, ↓strW_add, binW_int, binW_str, binW_bool_eql, binW_bool_neq, binW_agg_eql, binW_agg_neq, binW_slice_eql, binW_slice_neq, eqV_bool, eqV_int, eqV_sn, eqV_nn, eqV_ns, unW_not, unW_neg, unW_xor, fillL, placeOf, Int.reduceEq, Int.reduceBNe, Int.reduceBEq, bne_self_eq_false, beq_self_eq_true, Int.reduceToNat, Int.reduceLT, Int.reduceLE, Int.reduceGT, Int.reduceGE, Nat.reduceSub, Nat.reduceBEq, Nat.reduceBNe, Int.reduceAdd, Int.reduceSub, Int.reduceMul, Int.reduceNeg, Nat.reduceMul, Nat.reduceLeDiff, Nat.reduceLT, Int.cast_ofNat_Int, Int.natCast_zero, Nat.le_refl, intW, strW, callV, FPost, LeaveW, resV, packV0, packV1, packV2, extractW, loadW, storeW, indexW, indexAddrW, convW, bitV, fieldW, fieldAddrW, partW, buildW, allocW, boxW, restrict, reads, Op.operands, tmpOf, ASt.only, stepW, Option.toList, List.filterMap_cons, List.filterMap_nil, hget0, hgetk, hset0, hsetk, List.length_append, List.length_cons, List.length_nil, List.length_set, Nat.add_assoc, Option.some.injEq, forall_eq', List.take_succ_cons, List.take_zero, List.drop_succ_cons, List.drop_zero, Nat.mul_one, ownW, Bool.false_eq_true, cellsOf_int, cellsOf_bool, cellsOf_string, cellsOf_agg, cellsOf_pointer, cellsOf_slice, cellsOf_map, cellsOf_func, cellsOf_nilFunc, cellsOf_iface, cellsOf_nilIface, putCells, flat, quietW, mkB, repZ1, appendW, srcW, buildSliceW, sliceW, lowOf, highOf, bs_size, bs_extract, Int.toNat_zero, List.drop_zero, AObj.loop.injEq, roundQ, endR, loopK, exists_eq_left', and_assoc, exists_and_left, exists_const, Call.operands, Int.toNat_natCast, Int.natCast_nonneg, Array.toList_append, bytesC_length, bytesC_set, bytesC_take, bytesC_drop, bytesC_append, bytesC_nil, u8s_bytesC, Try.underlying3, ts3, tb3, ta3, tz3, tv3, tc3, Try.underlying4, ts4, tb4, ta4, tz4, tv4, tc4, Try.underlying9, ts9, tb9, ta9, tz9, tv9, tc9, Try.underlying58, ts58, tb58, ta58, tz58, tv58, tc58]
      | simp (disch := omega) only [wi64, wu8, wu16, wu32, wu64]
      | with_reducible_and_instances exact finR
      | ((with_reducible refine finR' ?_ ?_) <;> rfl)
      | ((with_reducible refine finD hsc (NRel.of_plain ?_)); exact rfl)
end Go.Proofs.Ytdbdnknnaekbhaa
