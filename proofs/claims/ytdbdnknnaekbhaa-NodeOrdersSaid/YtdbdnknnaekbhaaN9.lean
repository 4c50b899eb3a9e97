/- A part of the proof of a statement of this seat. -/
import Derived.Test.YtdbdnknnaekbhaaN8
set_option linter.unusedVariables false
set_option linter.unusedSimpArgs false
namespace Go.Proofs.Ytdbdnknnaekbhaa
open Go Go.Aw Go.Proofs
def flipL (s : List UInt8) (n : Nat) : List UInt8 := s.set (n / 8) (UInt8.ofNat ((s.getD (n / 8) 0).toNat ^^^ 2 ^ (7 - n % 8)))
theorem flipL_length (s : List UInt8) (n : Nat) : (flipL s n).length = s.length := by simp [flipL]
theorem bitAt_flip (c : List UInt8) (n : Nat) (hn : n / 8 < c.length) (m : Nat) : bitAt (flipL c n) m = (bitAt c m != decide (m = n)) := by
  unfold flipL
  rw [bitAt_set _ _ _ hn]
  have h256 : (c.getD (n / 8) 0).toNat ^^^ 2 ^ (7 - n % 8) < 256 := Nat.xor_lt_two_pow (n := 8) (UInt8.toNat_lt _) (Nat.pow_lt_pow_right (by omega) (by omega))
  split
  · rename_i h
    rw [toNat_ofNat8 h256, Nat.testBit_xor, Nat.testBit_two_pow, ← h]
    congr 1
    by_cases hmn : m = n
    · subst hmn; simp
    · simp only [hmn]; simp; omega
  · rename_i h
    have : m ≠ n := fun e => h (by rw [e])
    simp [this]
def oldL (s : List UInt8) : List UInt8 := (sumL ([111, 108, 100, 58] ++ s) 4).take 20
theorem oldL_length (s : List UInt8) : (oldL s).length = 20 := by simp [oldL, sumL_length]
theorem lead_flip : lead (bitAt (dist (oldL [97]) (flipL (oldL [97]) 159))) 160 = 159 := by
  have hl := oldL_length [97]
  have hb : ∀ m, bitAt (dist (oldL [97]) (flipL (oldL [97]) 159)) m = decide (m = 159) := by
    intro m
    unfold dist
    rw [bitAt_xor _ _ (by rw [flipL_length]), bitAt_flip _ _ (by omega)]
    cases bitAt (oldL [97]) m <;> cases decide (m = 159) <;> rfl
  exact lead_eq (by omega) (fun m hm => by rw [hb]; simp; omega) (by rw [hb]; simp)
theorem awake (H : AHeap) : ARet Try.prog 9 [] H (.bool true) H := by
  have h1 := Old [97] (by decide)
  have h2 := Flip (oldL [97]) (oldL_length _) 159 (by decide)
  have h3 := Common (oldL [97]) (flipL (oldL [97]) 159)
  rw [if_pos ⟨oldL_length _, by rw [flipL_length]; exact oldL_length _⟩, lead_flip] at h3
  change ∀ H, ARet Try.prog 29 [.string (bs [97])] H (.string (bs (oldL [97]))) H at h1
  change ∀ H, ARet Try.prog 30 [.string (bs (oldL [97])), .int .i64 159] H (.tuple ⟨[.string (bs (flipL (oldL [97]) 159)), .int .i64 0]⟩) H at h2
  change ∀ H, ARet Try.prog 12 [.string (bs (oldL [97])), .string (bs (flipL (oldL [97]) 159))] H (.tuple ⟨[.int .i64 159, .int .i64 0]⟩) H at h3
  generalize oldL [97] = a at *
  generalize flipL a 159 = b at *
  refine AC.enter Try.func9 rfl (by kernel_rfl) 28 rfl [.tmp 0] rfl (by simp) fun hsc B => ?_
  repeat first
    | with_reducible refine AWP.seq ?_
    | ((with_reducible refine AWP.region ?_ ?_); exact rfl)
    | with_reducible refine AWP.block ?_
    | with_reducible refine AWP.skip ?_
    | with_reducible refine AWP.exit ?_
    | with_reducible refine AWP.ret ?_
    | with_reducible refine AWP.label ?_
    | with_reducible refine AWP.goto ?_
    | ((with_reducible refine AWP.condT ?_ ?_); focus (simp only [ev, lk_cons, ↓reduceIte, Nat.reduceEqDiff]; done))
    | ((with_reducible refine AWP.condF ?_ ?_); focus (simp only [ev, lk_cons, ↓reduceIte, Nat.reduceEqDiff]; done))
    | with_reducible refine (h1 _).use ?_
    | with_reducible refine (h2 _).use ?_
    | with_reducible refine (h3 _).use ?_
    | simp only [↓regionW_nil, ↓regionW_go, ↓regionW_if, ↓gstep_tt, ↓gstep_ff, ↓gstep_tf, ↓gstep_ft, ↓gstep_no, wantW, gd, ↓op_move, ↓op_assign, ↓op_alloc, ↓op_box, ↓op_build, ↓op_buildSlice, ↓op_load, ↓op_store, ↓op_binOp, ↓op_unOp, ↓op_convert, ↓op_makeInterface, ↓op_makeFunc, ↓op_makeSlice, ↓op_slice, ↓op_fieldAddr, ↓op_field, ↓op_indexAddr, ↓op_index, ↓op_typeAssert, ↓op_extract, ↓op_callV, ↓op_callB, ↓op_callI, ↓op_pick, ↓op_panic, ↓op_nilCheck, ↓pickW_t, ↓pickW_f, ↓pickW_b, ↓panW_i, ↓nilW_p, ↓nilW_f, ↓nilW_i, invokeW, ev, evs, evP, evO, lk_co, lk_nil, ↓wth_so, ↓kv_go, ↓put_so, ↓put_no, ↓next_n, ↓next_e, ↓next_g, ↓next_r, ↓next_p, ↓inB_n, ↓inB_e, ↓inB_g, ↓inB_r, ↓inB_p, ↓resK_r, ↓resK_p, noVal, plain, scalar, List.all_cons, List.all_nil, Bool.and_true, Bool.true_and, Bool.and_self, List.cons_append, List.nil_append, List.append_nil, List.append_assoc, List.getElem?_cons_zero, List.getElem?_cons_succ, List.getElem?_nil, List.set_cons_zero, List.set_cons_succ, Option.bind_some, Option.map_some, ↓reduceIte, Nat.reduceEqDiff, reduceCtorEq, argEnv, Nat.reduceAdd, Nat.zero_add, Nat.add_zero, true_implies, false_implies, decide_true, decide_false, Bool.not_true, Bool.not_false, Bool.true_eq_false, ne_eq, not_true_eq_false, not_false_eq_true, and_true, true_and, builtinW, ↓lenW_bs, lenW, bs_toList', ↓strW_eql, ↓strW_neq, ↓strW_lss, ↓strW_leq, ↓strW_gtr, ↓strW_geq, ↓strW_add, binW_int, binW_str, binW_bool_eql, binW_bool_neq, binW_agg_eql, binW_agg_neq, binW_slice_eql, binW_slice_neq, eqV_bool, eqV_int, eqV_sn, eqV_nn, eqV_ns, unW_not, unW_neg, unW_xor, fillL, placeOf, Int.reduceEq, Int.reduceBNe, Int.reduceBEq, bne_self_eq_false, beq_self_eq_true, Int.reduceToNat, Int.reduceLT, Int.reduceLE, Int.reduceGT, Int.reduceGE, Nat.reduceSub, Nat.reduceBEq, Nat.reduceBNe, Int.reduceAdd, Int.reduceSub, Int.reduceMul, Int.reduceNeg, Nat.reduceMul, Nat.reduceLeDiff, Nat.reduceLT, Int.cast_ofNat_Int, Int.natCast_zero, Nat.le_refl, intW, strW, callV, FPost, LeaveW, resV, packV0, packV1, packV2, extractW, loadW, storeW, indexW, indexAddrW, convW, bitV, fieldW, fieldAddrW, partW, buildW, allocW, boxW, restrict, reads, Op.operands, tmpOf, ASt.only, stepW, Option.toList, List.filterMap_cons, List.filterMap_nil, hget0, hgetk, hset0, hsetk, List.length_append, List.length_cons, List.length_nil, List.length_set, Nat.add_assoc, Option.some.injEq, forall_eq', List.take_succ_cons, List.take_zero, List.drop_succ_cons, List.drop_zero, Nat.mul_one, ownW, Bool.false_eq_true, cellsOf_int, cellsOf_bool, cellsOf_string, cellsOf_agg, cellsOf_pointer, cellsOf_slice, cellsOf_map, cellsOf_func, cellsOf_nilFunc, cellsOf_iface, cellsOf_nilIface, putCells, flat, quietW, mkB, repZ1, appendW, srcW, buildSliceW, sliceW, lowOf, highOf, bs_size, bs_extract, Int.toNat_zero, List.drop_zero, AObj.loop.injEq, roundQ, endR, loopK, exists_eq_left', and_assoc, exists_and_left, exists_const, Call.operands, Int.toNat_natCast, Int.natCast_nonneg, Array.toList_append, bytesC_length, bytesC_set, bytesC_take, bytesC_drop, bytesC_append, bytesC_nil, u8s_bytesC, Try.underlying3, ts3, tb3, ta3, tz3, tv3, tc3, Try.underlying9, ts9, tb9, ta9, tz9, tv9, tc9, Try.underlying22, ts22, tb22, ta22, tz22, tv22, tc22]
    | simp (disch := omega) only [wi64, wu8, wu16, wu32, wu64]
    | with_reducible_and_instances exact finR
    | ((with_reducible refine finR' ?_ ?_) <;> rfl)
    | ((with_reducible refine finD hsc (NRel.of_plain ?_)); exact rfl)
theorem less_at : ∀ (x y : List UInt8) (j : Nat) (hx : j < x.length) (hy : j < y.length), (∀ i, i < j → x.getD i 0 = y.getD i 0) → x[j].toNat < y[j].toNat → Op.bytesLess x y = true ∧ Op.bytesLess y x = false
  | [], _, j, hx, _, _, _ => by simp at hx
  | _ :: _, [], j, _, hy, _, _ => by simp at hy
  | a :: x, b :: y, 0, _, _, _, h => by
    simp at h
    have h1 : a < b := UInt8.lt_iff_toNat_lt.2 h
    have h2 : ¬ b < a := by rw [UInt8.lt_iff_toNat_lt]; omega
    have h3 : ¬ b = a := fun e => by subst e; omega
    simp [Op.bytesLess, h1, h2, h3]
  | a :: x, b :: y, j + 1, hx, hy, he, h => by
    have h0 := he 0 (by omega)
    simp at h0; subst h0
    have := less_at x y j (by simpa using hx) (by simpa using hy) (fun i hi => by have := he (i + 1) (by omega); simpa using this) (by simpa using h)
    simpa [Op.bytesLess] using this
theorem lt_of_bit {n m : Nat} (i : Nat) (hn : n.testBit i = false) (hm : m.testBit i = true) (h : ∀ j, i < j → n.testBit j = m.testBit j) : n < m := by
  have h1 : n / 2 ^ (i + 1) = m / 2 ^ (i + 1) := by
    apply Nat.eq_of_testBit_eq
    intro j
    rw [Nat.testBit_div_two_pow, Nat.testBit_div_two_pow]
    exact h _ (by omega)
  rw [Nat.testBit_eq_decide_div_mod_eq] at hn hm
  have hn' : n / 2 ^ i % 2 ≠ 1 := by simpa using hn
  have hm' : m / 2 ^ i % 2 = 1 := by simpa using hm
  rw [Nat.pow_succ, ← Nat.div_div_eq_div_mul, ← Nat.div_div_eq_div_mul] at h1
  have h2 : n / 2 ^ i < m / 2 ^ i := by omega
  exact Nat.lt_of_div_lt_div h2
theorem less_same : ∀ (x : List UInt8), Op.bytesLess x x = false
  | [] => rfl
  | a :: x => by simp [Op.bytesLess, less_same x]
/-- Of two texts the lesser one is told by the first bit that differs. -/
theorem less_bit (x y : List UInt8) (hx : x.length = 20) (hy : y.length = 20) (n : Nat) (hn : n < 160) (he : ∀ m, m < n → bitAt x m = bitAt y m) (h0 : bitAt x n = false) (h1 : bitAt y n = true) : Op.bytesLess x y = true ∧ Op.bytesLess y x = false := by
  refine less_at x y (n / 8) (by omega) (by omega) (fun i hi => ?_) ?_
  · apply byte_ext
    intro k hk
    have := he (8 * i + (7 - k)) (by omega)
    unfold bitAt at this
    rwa [show (8 * i + (7 - k)) / 8 = i by omega, show 7 - (8 * i + (7 - k)) % 8 = k by omega] at this
  · unfold bitAt at h0 h1
    rw [List.getD_eq_getElem?_getD, List.getElem?_eq_getElem (by omega)] at h0 h1
    refine lt_of_bit (7 - n % 8) h0 h1 (fun j hj => ?_)
    by_cases hj8 : j < 8
    · have := he (8 * (n / 8) + (7 - j)) (by omega)
      unfold bitAt at this
      rw [show (8 * (n / 8) + (7 - j)) / 8 = n / 8 by omega, show 7 - (8 * (n / 8) + (7 - j)) % 8 = j by omega, List.getD_eq_getElem?_getD, List.getD_eq_getElem?_getD, List.getElem?_eq_getElem (by omega), List.getElem?_eq_getElem (by omega)] at this
      exact this
    · have h3 : 2 ^ 8 ≤ 2 ^ j := Nat.pow_le_pow_right (by omega) (by omega)
      rw [Nat.testBit_lt_two_pow (Nat.lt_of_lt_of_le (UInt8.toNat_lt _) h3), Nat.testBit_lt_two_pow (Nat.lt_of_lt_of_le (UInt8.toNat_lt _) h3)]
theorem lead_spec (p : Nat → Bool) (N : Nat) : (lead p N < N ∧ p (lead p N) = true ∧ ∀ m, m < lead p N → p m = false) ∨ (lead p N = N ∧ ∀ m, m < N → p m = false) := by
  by_cases h : ∃ m, m < N ∧ p m = true
  · obtain ⟨k, ⟨h1, h2⟩, hmin⟩ := least (p := fun m => m < N ∧ p m = true) h
    have hl : ∀ m, m < k → p m = false := fun m hm => by
      cases hp : p m with
      | false => rfl
      | true => have := hmin m ⟨by omega, hp⟩; omega
    rw [lead_eq h1 hl h2]
    exact .inl ⟨h1, h2, hl⟩
  · have hl : ∀ m, m < N → p m = false := fun m hm => by
      cases hp : p m with
      | false => rfl
      | true => exact absurd ⟨m, hm, hp⟩ h
    rw [lead_all hl]
    exact .inr ⟨rfl, hl⟩
theorem dist_length (a b : List UInt8) (h : a.length = b.length) : (dist a b).length = a.length := by simp [dist, h]
theorem bitAt_dist (a b : List UInt8) (h : a.length = b.length) (m : Nat) : bitAt (dist a b) m = (bitAt a m != bitAt b m) := bitAt_xor a b h m
theorem near_eq (t a b : List UInt8) (ht : t.length = 20) (ha : a.length = 20) (hb : b.length = 20) :
    Op.bytesLess (dist t a) (dist t b) = (if lead (fun m => bitAt a m != bitAt b m) 160 < 160 then bitAt a (lead (fun m => bitAt a m != bitAt b m) 160) == bitAt t (lead (fun m => bitAt a m != bitAt b m) 160) else false) := by
  have hx : (dist t a).length = 20 := by rw [dist_length _ _ (by omega), ht]
  have hy : (dist t b).length = 20 := by rw [dist_length _ _ (by omega), ht]
  rcases lead_spec (fun m => bitAt a m != bitAt b m) 160 with ⟨h1, h2, h3⟩ | ⟨h1, h2⟩
  · generalize lead (fun m => bitAt a m != bitAt b m) 160 = n at *
    rw [if_pos h1]
    have he : ∀ m, m < n → bitAt (dist t a) m = bitAt (dist t b) m := fun m hm => by
      have := h3 m hm
      rw [bitAt_dist _ _ (by omega), bitAt_dist _ _ (by omega)]
      cases h4 : bitAt a m <;> cases h5 : bitAt b m <;> simp_all
    cases h4 : bitAt a n <;> cases h5 : bitAt t n <;> cases h6 : bitAt b n <;> simp only [h4, h6] at h2 <;> try (exact absurd h2 (by decide))
    all_goals first
      | exact (less_bit _ _ hx hy n h1 he (by rw [bitAt_dist _ _ (by omega), h4, h5]; rfl) (by rw [bitAt_dist _ _ (by omega), h5, h6]; rfl)).1
      | exact (less_bit _ _ hy hx n h1 (fun m hm => (he m hm).symm) (by rw [bitAt_dist _ _ (by omega), h5, h6]; rfl) (by rw [bitAt_dist _ _ (by omega), h4, h5]; rfl)).2
  · rw [h1, if_neg (by omega)]
    have : dist t a = dist t b := bits_ext _ _ 20 hx hy (fun m hm => by
      have := h2 m (by omega)
      rw [bitAt_dist _ _ (by omega), bitAt_dist _ _ (by omega)]
      cases h4 : bitAt a m <;> cases h5 : bitAt b m <;> simp_all)
    rw [this, less_same]
theorem dist_cancel (a b : List UInt8) (h : a.length = b.length) : dist a (dist a b) = b := by
  unfold dist
  apply List.ext_getElem (by simp; omega)
  intro i h1 h2
  simp [← UInt8.xor_assoc]
end Go.Proofs.Ytdbdnknnaekbhaa

