/-
  The specification's links: Put, where the packet is taken.
-/
import Derived.Test.YtnfkbgpbligloaaY4
set_option linter.unusedVariables false
set_option linter.unusedSimpArgs false
set_option maxRecDepth 20000
set_option maxHeartbeats 4000000
namespace Go.Proofs.Ytnfkbgpbligloaa
open Go Go.Aw Go.Proofs
theorem rdF_int {H : AHeap} {v : Value} {l : List Int} (h : RdF H 1 v (l.map fun n => [.int .i64 n])) {n : Nat} (hn : n < l.length) : ∃ j o cap cs k, v = .slice (some ⟨j, o, none⟩) l.length cap ∧ H[j]? = some (.cells cs k) ∧ cs[o + n]? = some (.int .i64 l[n]) := by
  obtain ⟨i, off, cap, cs, k, e, hi, hg, hle⟩ := h.at2 (n := n) (by rw [List.length_map]; exact hn)
  rw [List.length_map] at e
  refine ⟨i, off, cap, cs, k, e, hi, ?_⟩
  have h2 := congrArg (·[0]?) hg
  simpa using h2
theorem rPutOk {H : AHeap} {i : Nat} {r : Rk} {S : List Nat} (h : RkAt H i r S) (hB : r.okB) (now size : Int) (body : List UInt8) (hl : ¬ (body.length : Int) > 65536) (hb : rBadS r now size = false) (hu : ¬ (r.under.length : Int) ≥ 10000) (hd : r.dropQ now size = false) :
    ARex Try.prog 46 [.pointer (some ⟨i, 0, none⟩), .int .i64 now, .int .i64 size, .string (bs body)] H (.tuple ⟨[.int .i64 (r.put + 1), .bool false, .int .i64 0]⟩) (RkTo H i S (r.putS now size body)) := by
  have hA := rAt h now
  have hW := rWithin size 0 100000
  unfold rBadS at hb
  simp only [Bool.or_eq_false_iff, Bool.not_eq_false'] at hb
  have hbad := hb.1
  unfold rBad at hbad
  simp only [Bool.or_eq_false_iff, decide_eq_false_iff_not] at hbad
  rw [hb.1] at hA
  simp only [Bool.false_eq_true, if_false] at hA
  rw [hb.2] at hW
  have hsz : 0 ≤ size ∧ size ≤ 100000 := by have := hb.2; simpa [wi] using this
  obtain ⟨vn, va, vu, Sa, Su, hp, rfl⟩ := h
  have hi := hp.at_
  have hil := lt_of_get hi
  have q : ∀ H' K, lenW Try.prog 81 vu H' K = K (.int .i64 (r.under.length : Nat)) H' := fun H' K => hp.und.lenT (by simp only [go_sem, ↓reduceIte, Nat.reduceEqDiff, reduceCtorEq, Nat.reduceAdd, Int.reduceEq, Int.reduceBNe, Int.reduceBEq, Int.reduceToNat, Int.reduceLT, Int.reduceLE, Int.reduceGT, Int.reduceGE, Nat.reduceSub, Nat.reduceBEq, Nat.reduceBNe, Int.reduceAdd, Int.reduceSub, Int.reduceMul, Int.reduceNeg, Nat.reduceMul, Nat.reduceLeDiff, Nat.reduceLT])
  have q2 : ∀ H' K, lenW Try.prog 44 vn H' K = K (.int .i64 (r.nums.length : Nat)) H' := fun H' K => by rw [hp.nums.lenT (by simp only [go_sem, ↓reduceIte, Nat.reduceEqDiff, reduceCtorEq, Nat.reduceAdd, Int.reduceEq, Int.reduceBNe, Int.reduceBEq, Int.reduceToNat, Int.reduceLT, Int.reduceLE, Int.reduceGT, Int.reduceGE, Nat.reduceSub, Nat.reduceBEq, Nat.reduceBNe, Int.reduceAdd, Int.reduceSub, Int.reduceMul, Int.reduceNeg, Nat.reduceMul, Nat.reduceLeDiff, Nat.reduceLT]), List.length_map]
  let r1 : Rk := { r with now := now }
  let H1 : AHeap := H.set i (.cells (r1.c vn va vu) ⟨83, 0, true, 0, none⟩)
  have hH1 : H1 = H.set i (.cells (r1.c vn va vu) ⟨83, 0, true, 0, none⟩) := rfl
  have hf1 : Frm [i] H H1 := Frm.set (.refl _ _) (.inl (by simp))
  have hp1 : RkP H1 i r1 vn va vu Sa Su := hp.to' hf1 (hset_self hil) rfl rfl rfl
  have hB1 := rQueue1 (r := r1) ⟨_, _, _, _, _, hp1, rfl⟩ (by have := hB.allL; simp only [r1]; omega) hB.all now
  have hi1 := hp1.at_
  have hil1 := lt_of_get hi1
  unfold Rk.c at hi hi1 hH1
  have hwb := sumW_bound (l := wq (allW r.all) now) fun w hm => by
    obtain ⟨x, hx, rfl⟩ := List.mem_map.1 (List.mem_filter.1 hm).1
    exact hB.all x hx
  have hwl := wq_len (allW r.all) now
  have hwl2 := hB.allL
  have hal : (allW r.all).length = r.all.length := List.length_map _
  have hw1 : IntKind.i64.wrap (sumW (wq (allW r.all) now) + size) = sumW (wq (allW r.all) now) + size := wi64 (by omega)
  simp only [r1] at hH1 hi1 hB1
  have hpt := hB.put
  refine AC.enter Try.func46 rfl (by kernel_rfl) 211 rfl [.tmp 8, .tmp 9, .tmp 10] rfl (by simp) fun hsc B => ?_
  repeat first
    | with_reducible refine AWP.seqJ (x := .seq (.region 9 _ _) _) ⟨[(0, .pointer (some ⟨i, 0, none⟩)), (1, .int .i64 now), (2, .int .i64 size), (3, .string (bs body)), (11, .int .i64 (max now r.free))], [], H1⟩ ?_ ?_
    | with_reducible refine AWP.seq ?_
    | ((with_reducible refine AWP.region ?_ ?_); exact rfl)
    | with_reducible refine AWP.block ?_
    | with_reducible refine AWP.skip ?_
    | with_reducible refine AWP.exit ?_
    | with_reducible refine AWP.ret ?_
    | with_reducible refine AWP.label ?_
    | with_reducible refine AWP.goto ?_
    | ((with_reducible refine AWP.condT ?_ ?_); focus (simp only [ev, lk_cons, ↓reduceIte, Nat.reduceEqDiff]; done))
    | ((with_reducible refine AWP.condF ?_ ?_); focus (simp only [ev, lk_cons, ↓reduceIte, Nat.reduceEqDiff]; done))
    | with_reducible refine hA.use ?_
    | with_reducible refine (hW _).use ?_
    | simp only [go_sem, ↓reduceIte, Nat.reduceEqDiff, reduceCtorEq, Nat.reduceAdd, Int.reduceEq, Int.reduceBNe, Int.reduceBEq, Int.reduceToNat, Int.reduceLT, Int.reduceLE, Int.reduceGT, Int.reduceGE, Nat.reduceSub, Nat.reduceBEq, Nat.reduceBNe, Int.reduceAdd, Int.reduceSub, Int.reduceMul, Int.reduceNeg, Nat.reduceMul, Nat.reduceLeDiff, Nat.reduceLT, hi, hil, hl, q, hu, minMaxW]
    | simp (disch := omega) only [wi64, wu8, wu16, wu32, wu64, Int.tdiv_eq_ediv_of_nonneg, Int.tmod_eq_emod_of_nonneg]
    | with_reducible_and_instances exact finR
    | ((with_reducible refine finR' ?_ ?_) <;> rfl)
    | ((with_reducible refine finD hsc (NRel.of_plain ?_)); exact rfl)
  · rw [← hH1]
    repeat first
      | with_reducible refine AWP.seq ?_
      | ((with_reducible refine AWP.region ?_ ?_); exact rfl)
      | with_reducible refine AWP.block ?_
      | with_reducible refine AWP.skip ?_
      | with_reducible refine AWP.exit ?_
      | with_reducible refine AWP.ret ?_
      | with_reducible refine AWP.label ?_
      | with_reducible refine AWP.goto ?_
      | ((with_reducible refine AWP.condT ?_ ?_); focus (simp only [ev, lk_cons, ↓reduceIte, Nat.reduceEqDiff]; done))
      | ((with_reducible refine AWP.condF ?_ ?_); focus (simp only [ev, lk_cons, ↓reduceIte, Nat.reduceEqDiff]; done))
      | simp only [go_sem, ↓reduceIte, Nat.reduceEqDiff, reduceCtorEq, Nat.reduceAdd, Int.reduceEq, Int.reduceBNe, Int.reduceBEq, Int.reduceToNat, Int.reduceLT, Int.reduceLE, Int.reduceGT, Int.reduceGE, Nat.reduceSub, Nat.reduceBEq, Nat.reduceBNe, Int.reduceAdd, Int.reduceSub, Int.reduceMul, Int.reduceNeg, Nat.reduceMul, Nat.reduceLeDiff, Nat.reduceLT, hi1, hil1, minMaxW]
      | simp (disch := omega) only [wi64, wu8, wu16, wu32, wu64, Int.tdiv_eq_ediv_of_nonneg, Int.tmod_eq_emod_of_nonneg]
      | with_reducible_and_instances exact finR
      | ((with_reducible refine finR' ?_ ?_) <;> rfl)
      | ((with_reducible refine finD hsc (NRel.of_plain ?_)); exact rfl)
    refine AWP.regionK 14 (by kernel_rfl) (by decide) (by kernel_rfl) ?_
    by_cases d1 : max now r.free > now
    · have d2 : ¬ sumW (wq (allW r.all) now) + size > r.pipe.room := by
        unfold Rk.dropQ at hd
        simpa [d1] using hd
      repeat first
        | with_reducible refine AWP.seq ?_
        | ((with_reducible refine AWP.region ?_ ?_); exact rfl)
        | with_reducible refine AWP.block ?_
        | with_reducible refine AWP.skip ?_
        | with_reducible refine AWP.exit ?_
        | with_reducible refine AWP.ret ?_
        | with_reducible refine AWP.label ?_
        | with_reducible refine AWP.goto ?_
        | ((with_reducible refine AWP.condT ?_ ?_); focus (simp only [ev, lk_cons, ↓reduceIte, Nat.reduceEqDiff]; done))
        | ((with_reducible refine AWP.condF ?_ ?_); focus (simp only [ev, lk_cons, ↓reduceIte, Nat.reduceEqDiff]; done))
        | simp only [go_sem, ↓reduceIte, Nat.reduceEqDiff, reduceCtorEq, Nat.reduceAdd, Int.reduceEq, Int.reduceBNe, Int.reduceBEq, Int.reduceToNat, Int.reduceLT, Int.reduceLE, Int.reduceGT, Int.reduceGE, Nat.reduceSub, Nat.reduceBEq, Nat.reduceBNe, Int.reduceAdd, Int.reduceSub, Int.reduceMul, Int.reduceNeg, Nat.reduceMul, Nat.reduceLeDiff, Nat.reduceLT, hi1, hil1, d1, List.map_cons, List.map_nil]
        | simp (disch := omega) only [wi64, wu8, wu16, wu32, wu64, Int.tdiv_eq_ediv_of_nonneg, Int.tmod_eq_emod_of_nonneg]
        | with_reducible_and_instances exact finR
        | ((with_reducible refine finR' ?_ ?_) <;> rfl)
        | ((with_reducible refine finD hsc (NRel.of_plain ?_)); exact rfl)
      refine ARet.exq (hB1) (by simp only [go_sem, ↓reduceIte, Nat.reduceEqDiff, reduceCtorEq, Nat.reduceAdd, Int.reduceEq, Int.reduceBNe, Int.reduceBEq, Int.reduceToNat, Int.reduceLT, Int.reduceLE, Int.reduceGT, Int.reduceGE, Nat.reduceSub, Nat.reduceBEq, Nat.reduceBNe, Int.reduceAdd, Int.reduceSub, Int.reduceMul, Int.reduceNeg, Nat.reduceMul, Nat.reduceLeDiff, Nat.reduceLT]) ?_
      repeat first
        | with_reducible refine AWP.seq ?_
        | ((with_reducible refine AWP.region ?_ ?_); exact rfl)
        | with_reducible refine AWP.block ?_
        | with_reducible refine AWP.skip ?_
        | with_reducible refine AWP.exit ?_
        | with_reducible refine AWP.ret ?_
        | with_reducible refine AWP.label ?_
        | with_reducible refine AWP.goto ?_
        | ((with_reducible refine AWP.condT ?_ ?_); focus (simp only [ev, lk_cons, ↓reduceIte, Nat.reduceEqDiff]; done))
        | ((with_reducible refine AWP.condF ?_ ?_); focus (simp only [ev, lk_cons, ↓reduceIte, Nat.reduceEqDiff]; done))
        | simp only [go_sem, ↓reduceIte, Nat.reduceEqDiff, reduceCtorEq, Nat.reduceAdd, Int.reduceEq, Int.reduceBNe, Int.reduceBEq, Int.reduceToNat, Int.reduceLT, Int.reduceLE, Int.reduceGT, Int.reduceGE, Nat.reduceSub, Nat.reduceBEq, Nat.reduceBNe, Int.reduceAdd, Int.reduceSub, Int.reduceMul, Int.reduceNeg, Nat.reduceMul, Nat.reduceLeDiff, Nat.reduceLT, hi1, hil1, d1, hw1, d2, List.map_cons, List.map_nil]
        | simp (disch := omega) only [wi64, wu8, wu16, wu32, wu64, Int.tdiv_eq_ediv_of_nonneg, Int.tmod_eq_emod_of_nonneg]
        | with_reducible_and_instances exact finR
        | ((with_reducible refine finR' ?_ ?_) <;> rfl)
        | ((with_reducible refine finD hsc (NRel.of_plain ?_)); exact rfl)
      exact Weak.env (by simp [envIn, lk_cons, wth_some])
    · repeat first
        | with_reducible refine AWP.seq ?_
        | ((with_reducible refine AWP.region ?_ ?_); exact rfl)
        | with_reducible refine AWP.block ?_
        | with_reducible refine AWP.skip ?_
        | with_reducible refine AWP.exit ?_
        | with_reducible refine AWP.ret ?_
        | with_reducible refine AWP.label ?_
        | with_reducible refine AWP.goto ?_
        | ((with_reducible refine AWP.condT ?_ ?_); focus (simp only [ev, lk_cons, ↓reduceIte, Nat.reduceEqDiff]; done))
        | ((with_reducible refine AWP.condF ?_ ?_); focus (simp only [ev, lk_cons, ↓reduceIte, Nat.reduceEqDiff]; done))
        | simp only [go_sem, ↓reduceIte, Nat.reduceEqDiff, reduceCtorEq, Nat.reduceAdd, Int.reduceEq, Int.reduceBNe, Int.reduceBEq, Int.reduceToNat, Int.reduceLT, Int.reduceLE, Int.reduceGT, Int.reduceGE, Nat.reduceSub, Nat.reduceBEq, Nat.reduceBNe, Int.reduceAdd, Int.reduceSub, Int.reduceMul, Int.reduceNeg, Nat.reduceMul, Nat.reduceLeDiff, Nat.reduceLT, hi1, hil1, d1, List.map_cons, List.map_nil, exists_eq_left]
        | simp (disch := omega) only [wi64, wu8, wu16, wu32, wu64, Int.tdiv_eq_ediv_of_nonneg, Int.tmod_eq_emod_of_nonneg]
        | with_reducible_and_instances exact finR
        | ((with_reducible refine finR' ?_ ?_) <;> rfl)
        | ((with_reducible refine finD hsc (NRel.of_plain ?_)); exact rfl)
      exact Weak.env (by simp [envIn, lk_cons, wth_some])
  repeat first
    | with_reducible refine AWP.seqJ (x := .seq (.region 13 _ _) _) ⟨[(0, .pointer (some ⟨i, 0, none⟩)), (1, .int .i64 now), (2, .int .i64 size), (3, .string (bs body)), (11, .int .i64 (max now r.free)), (12, .int .i64 r.kk)], [], H1⟩ ?_ ?_
    | with_reducible refine AWP.seq ?_
    | ((with_reducible refine AWP.region ?_ ?_); exact rfl)
    | with_reducible refine AWP.block ?_
    | with_reducible refine AWP.skip ?_
    | with_reducible refine AWP.exit ?_
    | with_reducible refine AWP.ret ?_
    | with_reducible refine AWP.label ?_
    | with_reducible refine AWP.goto ?_
    | ((with_reducible refine AWP.condT ?_ ?_); focus (simp only [ev, lk_cons, ↓reduceIte, Nat.reduceEqDiff]; done))
    | ((with_reducible refine AWP.condF ?_ ?_); focus (simp only [ev, lk_cons, ↓reduceIte, Nat.reduceEqDiff]; done))
    | simp only [go_sem, ↓reduceIte, Nat.reduceEqDiff, reduceCtorEq, Nat.reduceAdd, Int.reduceEq, Int.reduceBNe, Int.reduceBEq, Int.reduceToNat, Int.reduceLT, Int.reduceLE, Int.reduceGT, Int.reduceGE, Nat.reduceSub, Nat.reduceBEq, Nat.reduceBNe, Int.reduceAdd, Int.reduceSub, Int.reduceMul, Int.reduceNeg, Nat.reduceMul, Nat.reduceLeDiff, Nat.reduceLT, hi, hil, hl, q, hu, minMaxW]
    | simp (disch := omega) only [wi64, wu8, wu16, wu32, wu64, Int.tdiv_eq_ediv_of_nonneg, Int.tmod_eq_emod_of_nonneg]
    | with_reducible_and_instances exact finR
    | ((with_reducible refine finR' ?_ ?_) <;> rfl)
    | ((with_reducible refine finD hsc (NRel.of_plain ?_)); exact rfl)
  · refine AWP.regionK 9 (by kernel_rfl) (by decide) (by kernel_rfl) ?_
    by_cases hn : r.put < (r.nums.length : Int)
    · have hnn : r.put.toNat < r.nums.length := by omega
      have hpn : RdF H1 1 vn (r.nums.map fun n => [.int .i64 n]) := hp1.nums
      obtain ⟨j, o, cap, cs, k, rfl, hj, hg⟩ := rdF_int hpn (n := r.put.toNat) hnn
      have hjl := lt_of_get hj
      have hkk : r.kk = r.nums[r.put.toNat] := by
        unfold Rk.kk
        rw [List.drop_eq_getElem_cons hnn]; rfl
      have h0p : 0 ≤ r.put := hpt.1
      repeat first
        | with_reducible refine AWP.seq ?_
        | ((with_reducible refine AWP.region ?_ ?_); exact rfl)
        | with_reducible refine AWP.block ?_
        | with_reducible refine AWP.skip ?_
        | with_reducible refine AWP.exit ?_
        | with_reducible refine AWP.ret ?_
        | with_reducible refine AWP.label ?_
        | with_reducible refine AWP.goto ?_
        | ((with_reducible refine AWP.condT ?_ ?_); focus (simp only [ev, lk_cons, ↓reduceIte, Nat.reduceEqDiff]; done))
        | ((with_reducible refine AWP.condF ?_ ?_); focus (simp only [ev, lk_cons, ↓reduceIte, Nat.reduceEqDiff]; done))
        | simp only [go_sem, ↓reduceIte, Nat.reduceEqDiff, reduceCtorEq, Nat.reduceAdd, Int.reduceEq, Int.reduceBNe, Int.reduceBEq, Int.reduceToNat, Int.reduceLT, Int.reduceLE, Int.reduceGT, Int.reduceGE, Nat.reduceSub, Nat.reduceBEq, Nat.reduceBNe, Int.reduceAdd, Int.reduceSub, Int.reduceMul, Int.reduceNeg, Nat.reduceMul, Nat.reduceLeDiff, Nat.reduceLT, hi1, hil1, q2, hn, List.map_cons, List.map_nil]
        | simp (disch := omega) only [wi64, wu8, wu16, wu32, wu64, Int.tdiv_eq_ediv_of_nonneg, Int.tmod_eq_emod_of_nonneg]
        | with_reducible_and_instances exact finR
        | ((with_reducible refine finR' ?_ ?_) <;> rfl)
        | ((with_reducible refine finD hsc (NRel.of_plain ?_)); exact rfl)
      refine AWP.regionK 8 (by kernel_rfl) (by decide) (by kernel_rfl) ?_
      repeat first
        | with_reducible refine AWP.seq ?_
        | ((with_reducible refine AWP.region ?_ ?_); exact rfl)
        | with_reducible refine AWP.block ?_
        | with_reducible refine AWP.skip ?_
        | with_reducible refine AWP.exit ?_
        | with_reducible refine AWP.ret ?_
        | with_reducible refine AWP.label ?_
        | with_reducible refine AWP.goto ?_
        | ((with_reducible refine AWP.condT ?_ ?_); focus (simp only [ev, lk_cons, ↓reduceIte, Nat.reduceEqDiff]; done))
        | ((with_reducible refine AWP.condF ?_ ?_); focus (simp only [ev, lk_cons, ↓reduceIte, Nat.reduceEqDiff]; done))
        | simp only [go_sem, ↓reduceIte, Nat.reduceEqDiff, reduceCtorEq, Nat.reduceAdd, Int.reduceEq, Int.reduceBNe, Int.reduceBEq, Int.reduceToNat, Int.reduceLT, Int.reduceLE, Int.reduceGT, Int.reduceGE, Nat.reduceSub, Nat.reduceBEq, Nat.reduceBNe, Int.reduceAdd, Int.reduceSub, Int.reduceMul, Int.reduceNeg, Nat.reduceMul, Nat.reduceLeDiff, Nat.reduceLT, hi1, hil1, hj, hjl, hg, hn, h0p, List.map_cons, List.map_nil]
        | simp (disch := omega) only [wi64, wu8, wu16, wu32, wu64, Int.tdiv_eq_ediv_of_nonneg, Int.tmod_eq_emod_of_nonneg]
        | with_reducible_and_instances exact finR
        | ((with_reducible refine finR' ?_ ?_) <;> rfl)
        | ((with_reducible refine finD hsc (NRel.of_plain ?_)); exact rfl)
      rw [hkk]
      exact Weak.env (by simp [envIn, lk_cons, wth_some])
    · have hkk : r.kk = 0 := by
        unfold Rk.kk
        rw [List.drop_eq_nil_of_le (by omega)]; rfl
      repeat first
        | with_reducible refine AWP.seq ?_
        | ((with_reducible refine AWP.region ?_ ?_); exact rfl)
        | with_reducible refine AWP.block ?_
        | with_reducible refine AWP.skip ?_
        | with_reducible refine AWP.exit ?_
        | with_reducible refine AWP.ret ?_
        | with_reducible refine AWP.label ?_
        | with_reducible refine AWP.goto ?_
        | ((with_reducible refine AWP.condT ?_ ?_); focus (simp only [ev, lk_cons, ↓reduceIte, Nat.reduceEqDiff]; done))
        | ((with_reducible refine AWP.condF ?_ ?_); focus (simp only [ev, lk_cons, ↓reduceIte, Nat.reduceEqDiff]; done))
        | simp only [go_sem, ↓reduceIte, Nat.reduceEqDiff, reduceCtorEq, Nat.reduceAdd, Int.reduceEq, Int.reduceBNe, Int.reduceBEq, Int.reduceToNat, Int.reduceLT, Int.reduceLE, Int.reduceGT, Int.reduceGE, Nat.reduceSub, Nat.reduceBEq, Nat.reduceBNe, Int.reduceAdd, Int.reduceSub, Int.reduceMul, Int.reduceNeg, Nat.reduceMul, Nat.reduceLeDiff, Nat.reduceLT, hi1, hil1, q2, hn, List.map_cons, List.map_nil]
        | simp (disch := omega) only [wi64, wu8, wu16, wu32, wu64, Int.tdiv_eq_ediv_of_nonneg, Int.tmod_eq_emod_of_nonneg]
        | with_reducible_and_instances exact finR
        | ((with_reducible refine finR' ?_ ?_) <;> rfl)
        | ((with_reducible refine finD hsc (NRel.of_plain ?_)); exact rfl)
      rw [hkk]
      exact Weak.env (by simp [envIn, lk_cons, wth_some])
  have hgone := rTime r.pipe hB.pipe size hsz.1 hsz.2
  have hgb := gone_bd r.pipe hB.pipe size hsz.1 hsz.2
  have hfr := hB.free
  have w2 : IntKind.i64.wrap (r.put + 1) = r.put + 1 := wi64 (by omega)
  have w3 : IntKind.i64.wrap (max now r.free + r.pipe.gone size) = max now r.free + r.pipe.gone size := wi64 (by omega)
  unfold Pp.c at hgone
  have hkk : 0 ≤ r.kk ∧ r.kk ≤ 999999999 := by
    unfold Rk.kk
    cases hnn : r.nums.drop r.put.toNat with
    | nil => simp
    | cons n l => exact hB.nums n (List.mem_of_mem_drop (by rw [hnn]; exact List.mem_cons_self ..))
  obtain ⟨hpd, -, -, -, -, hpj⟩ := r.pipe.ok_iff.1 hB.pipe
  generalize hg0 : r.pipe.gone size = gg at *
  have v1 : r.kk.tdiv 10000 = r.kk / 10000 := Int.tdiv_eq_ediv_of_nonneg (by omega)
  have v2 : IntKind.i64.wrap (r.kk / 10000) = r.kk / 10000 := wi64 (by omega)
  have v3 : IntKind.i64.wrap (r.pipe.jit + 1) = r.pipe.jit + 1 := wi64 (by omega)
  have v4 : (r.kk / 10000).tmod (r.pipe.jit + 1) = r.kk / 10000 % (r.pipe.jit + 1) := Int.tmod_eq_emod_of_nonneg (by omega)
  have v5 : r.pipe.jit + 1 ≠ 0 := by omega
  have v6 : 0 ≤ r.kk / 10000 % (r.pipe.jit + 1) ∧ r.kk / 10000 % (r.pipe.jit + 1) < 1001 := ⟨Int.emod_nonneg _ v5, by have := Int.emod_lt_of_pos (r.kk / 10000) (b := r.pipe.jit + 1) (by omega); omega⟩
  have v7 : IntKind.i64.wrap (max now r.free + gg + r.pipe.delay) = max now r.free + gg + r.pipe.delay := wi64 (by omega)
  have v8 : IntKind.i64.wrap (max now r.free + gg + r.pipe.delay + r.kk / 10000 % (r.pipe.jit + 1)) = max now r.free + gg + r.pipe.delay + r.kk / 10000 % (r.pipe.jit + 1) := wi64 (by omega)
  let r3 : Rk := { r1 with put := r.put + 1, free := max now r.free + gg }
  let H3 : AHeap := H1.set i (.cells (r3.c vn va vu) ⟨83, 0, true, 0, none⟩)
  have hH3 : H3 = H1.set i (.cells (r3.c vn va vu) ⟨83, 0, true, 0, none⟩) := rfl
  have hf13 : Frm [i] H1 H3 := Frm.set (.refl _ _) (.inl (by simp))
  have hp3 : RkP H3 i r3 vn va vu Sa Su := hp1.to' hf13 (hset_self hil1) rfl rfl rfl
  have hi3 := hp3.at_
  have hil3 := lt_of_get hi3
  unfold Rk.c at hH3 hi3
  simp only [r3, r1] at hH3 hi3
  let pk : Pc := r.pk now size body
  have hpc : (r.pk now size body).c = [.int .i64 (r.put + 1), .int .i64 size, .int .i64 now, .int .i64 (max now r.free), .int .i64 (max now r.free + gg + r.pipe.delay + r.kk / 10000 % (r.pipe.jit + 1)), .string (bs body)] := by simp only [Rk.pk, Pc.c, hg0]
  let J3 : ASt → Prop := fun st => st = ⟨[(0, .pointer (some ⟨i, 0, none⟩)), (12, .int .i64 r.kk), (13, .pointer (some ⟨H3.length, 0, none⟩))], [], H3 ++ [.cells (r.pk now size body).c ⟨42, 0, true, 0, none⟩]⟩
  repeat first
    | with_reducible refine AWP.seqE (x := .region 17 _ _) J3 ?_ ?_
    | with_reducible refine AWP.seq ?_
    | ((with_reducible refine AWP.region ?_ ?_); exact rfl)
    | with_reducible refine AWP.block ?_
    | with_reducible refine AWP.skip ?_
    | with_reducible refine AWP.exit ?_
    | with_reducible refine AWP.ret ?_
    | with_reducible refine AWP.label ?_
    | with_reducible refine AWP.goto ?_
    | ((with_reducible refine AWP.condT ?_ ?_); focus (simp only [ev, lk_cons, ↓reduceIte, Nat.reduceEqDiff]; done))
    | ((with_reducible refine AWP.condF ?_ ?_); focus (simp only [ev, lk_cons, ↓reduceIte, Nat.reduceEqDiff]; done))
    | with_reducible refine (hgone _).use ?_
    | simp only [go_sem, ↓reduceIte, Nat.reduceEqDiff, reduceCtorEq, Nat.reduceAdd, Int.reduceEq, Int.reduceBNe, Int.reduceBEq, Int.reduceToNat, Int.reduceLT, Int.reduceLE, Int.reduceGT, Int.reduceGE, Nat.reduceSub, Nat.reduceBEq, Nat.reduceBNe, Int.reduceAdd, Int.reduceSub, Int.reduceMul, Int.reduceNeg, Nat.reduceMul, Nat.reduceLeDiff, Nat.reduceLT, hi1, hil1, w2, w3, hset_set, List.length_set]
    | simp (disch := omega) only [wi64, wu8, wu16, wu32, wu64, Int.tdiv_eq_ediv_of_nonneg, Int.tmod_eq_emod_of_nonneg]
    | with_reducible_and_instances exact finR
    | ((with_reducible refine finR' ?_ ?_) <;> rfl)
    | ((with_reducible refine finD hsc (NRel.of_plain ?_)); exact rfl)
  · rw [← hH3]
    refine AWP.regionF 30 29 [0, 1, 2, 3, 4, 5, 6, 7, 8, 9, 10, 11, 12, 13, 14, 15, 16, 17, 18, 19, 20, 21, 22, 23, 24, 25, 26, 27, 28] (by kernel_rfl) (by decide) (by kernel_rfl) (by kernel_rfl) rfl ?_
    repeat first
      | with_reducible refine AWP.seq ?_
      | ((with_reducible refine AWP.region ?_ ?_); exact rfl)
      | with_reducible refine AWP.block ?_
      | with_reducible refine AWP.skip ?_
      | with_reducible refine AWP.exit ?_
      | with_reducible refine AWP.ret ?_
      | with_reducible refine AWP.label ?_
      | with_reducible refine AWP.goto ?_
      | ((with_reducible refine AWP.condT ?_ ?_); focus (simp only [ev, lk_cons, ↓reduceIte, Nat.reduceEqDiff]; done))
      | ((with_reducible refine AWP.condF ?_ ?_); focus (simp only [ev, lk_cons, ↓reduceIte, Nat.reduceEqDiff]; done))
      | simp only [go_sem, ↓reduceIte, Nat.reduceEqDiff, reduceCtorEq, Nat.reduceAdd, Int.reduceEq, Int.reduceBNe, Int.reduceBEq, Int.reduceToNat, Int.reduceLT, Int.reduceLE, Int.reduceGT, Int.reduceGE, Nat.reduceSub, Nat.reduceBEq, Nat.reduceBNe, Int.reduceAdd, Int.reduceSub, Int.reduceMul, Int.reduceNeg, Nat.reduceMul, Nat.reduceLeDiff, Nat.reduceLT, hi3, hil3, hgetl, v1, v2, v3, v4, v5, v7, v8, keepW, dstV, exists_eq_left, pickO, List.map_cons, List.map_nil]
      | simp (disch := omega) only [wi64, wu8, wu16, wu32, wu64, Int.tdiv_eq_ediv_of_nonneg, Int.tmod_eq_emod_of_nonneg]
      | with_reducible_and_instances exact finR
      | ((with_reducible refine finR' ?_ ?_) <;> rfl)
      | ((with_reducible refine finD hsc (NRel.of_plain ?_)); exact rfl)
    refine ⟨_, rfl, ?_⟩
    rw [hpc]
    exact Weak.env (by simp [envIn, lk_cons, wth_some])
  intro st5 hst5
  simp only [J3] at hst5
  subst hst5
  let H5 : AHeap := H3 ++ [.cells (r.pk now size body).c ⟨42, 0, true, 0, none⟩]
  have hH5 : H5 = H3 ++ [.cells (r.pk now size body).c ⟨42, 0, true, 0, none⟩] := rfl
  have hf35 : Frm [] H3 H5 := Frm.app
  have hp5 := hp3.beside hf35 (.nil _) (by simp)
  have hf5 : Frm [i] H H5 := (hf1.trans hf13 fun t ht => .inl ht).trans hf35 (by simp)
  have hbx : H5[H3.length]? = some (.cells (r.pk now size body).c ⟨42, 0, true, 0, none⟩) := hget0 rfl
  have hbl := lt_of_get hbx
  have hl13 : H3.length = H.length := by rw [List.length_set, List.length_set]
  generalize hbn : H3.length = b at *
  -- the list of all packets
  have hO5 : OwnL H5 42 6 r.all.length (pcsC r.all) va Sa := hp5.all
  have hap : ∀ (X : AHeap) (K : Value → AHeap → Prop) (news : List Value), (∀ H', H'.length = (H5 ++ X).length → (∀ j, j ∉ Sa → H'[j]? = (H5 ++ X)[j]?) → K (.slice (some ⟨(H5 ++ X).length, 0, none⟩) (r.all.length + 1) (r.all.length + 1)) (H' ++ [.cells (pcsC r.all ++ news) ⟨42, 6, true, 0, none⟩])) → appendTo Try.prog 42 6 56 va 1 news (H5 ++ X) K :=
    fun X K news hk => (hO5.frm (T := []) Frm.app (by simp)).append (by decide) (by omega) (by omega) hk
  have hpush := fun X H' h1 h2 N hN => RkTo.trans (H := H5) (S := i :: (Sa ++ Su)) Frm.app (fun t ht => .inl ht) ((hp5.beside (H2 := H5 ++ X) (T := []) Frm.app (.nil _) (by simp)).pushAll (H' := H') h1 h2 (r.pk now size body) N hN)
  have hi5 := hp5.at_
  have hil5 := lt_of_get hi5
  have hbx5 := hbx
  unfold Rk.c at hi5 hpush
  simp only [r3, r1] at hi5 hpush
  rw [hpc] at hbx5 hpush
  let J4 : ASt → Prop := fun st => ∃ H6, st = ⟨[(0, .pointer (some ⟨i, 0, none⟩)), (12, .int .i64 r.kk), (13, .pointer (some ⟨b, 0, none⟩))], [], H6⟩ ∧ RkTo H5 i (i :: (Sa ++ Su)) { r3 with all := r.all ++ [r.pk now size body] } H6
  repeat first
    | with_reducible refine AWP.seqE (x := .region 18 _ _) J4 ?_ ?_
    | with_reducible refine AWP.seq ?_
    | ((with_reducible refine AWP.region ?_ ?_); exact rfl)
    | with_reducible refine AWP.block ?_
    | with_reducible refine AWP.skip ?_
    | with_reducible refine AWP.exit ?_
    | with_reducible refine AWP.ret ?_
    | with_reducible refine AWP.label ?_
    | with_reducible refine AWP.goto ?_
    | ((with_reducible refine AWP.condT ?_ ?_); focus (simp only [ev, lk_cons, ↓reduceIte, Nat.reduceEqDiff]; done))
    | ((with_reducible refine AWP.condF ?_ ?_); focus (simp only [ev, lk_cons, ↓reduceIte, Nat.reduceEqDiff]; done))
    | simp only [go_sem, ↓reduceIte, Nat.reduceEqDiff, reduceCtorEq, Nat.reduceAdd, Int.reduceEq, Int.reduceBNe, Int.reduceBEq, Int.reduceToNat, Int.reduceLT, Int.reduceLE, Int.reduceGT, Int.reduceGE, Nat.reduceSub, Nat.reduceBEq, Nat.reduceBNe, Int.reduceAdd, Int.reduceSub, Int.reduceMul, Int.reduceNeg, Nat.reduceMul, Nat.reduceLeDiff, Nat.reduceLT]
    | simp (disch := omega) only [wi64, wu8, wu16, wu32, wu64, Int.tdiv_eq_ediv_of_nonneg, Int.tmod_eq_emod_of_nonneg]
    | with_reducible_and_instances exact finR
    | ((with_reducible refine finR' ?_ ?_) <;> rfl)
    | ((with_reducible refine finD hsc (NRel.of_plain ?_)); exact rfl)
  · rw [← hH5]
    refine AWP.regionM 8 [4, 5, 6, 7] [] (.both (.run [4, 5, 6, 7]) (.step 5 (.both (.run [4, 6, 7]) (.run [6, 4, 7])))) (by kernel_rfl) (by decide) (by kernel_rfl) (by kernel_rfl) (by kernel_rfl) ?_
    repeat' first
      | with_reducible refine canW_n ?_
      | with_reducible refine canW_m (by decide) ?_
      | ((with_reducible apply canW_p (by decide)); focus (intro H; (simp only [go_sem, ↓reduceIte, Nat.reduceEqDiff, reduceCtorEq, Nat.reduceAdd, Int.reduceEq, Int.reduceBNe, Int.reduceBEq, Int.reduceToNat, Int.reduceLT, Int.reduceLE, Int.reduceGT, Int.reduceGE, Nat.reduceSub, Nat.reduceBEq, Nat.reduceBNe, Int.reduceAdd, Int.reduceSub, Int.reduceMul, Int.reduceNeg, Nat.reduceMul, Nat.reduceLeDiff, Nat.reduceLT, hi5, hil5, hgetl, hbx5, hbl, List.map_cons, List.map_nil]); exact rfl))
      | with_reducible refine memW_b ?_ ?_
      | with_reducible refine memW_s rfl ?_
      | with_reducible refine memW_r rfl ?_
      | with_reducible refine memW_e ?_
      | simp only [List.take_succ_cons, List.take_zero, List.drop_succ_cons, List.drop_zero]
      | omega
      | with_reducible refine And.intro ?_ ?_
      | with_reducible refine hap _ _ _ fun H' h1 h2 => ?_
      | with_reducible refine AWP.seq ?_
      | ((with_reducible refine AWP.region ?_ ?_); exact rfl)
      | with_reducible refine AWP.block ?_
      | with_reducible refine AWP.skip ?_
      | with_reducible refine AWP.exit ?_
      | with_reducible refine AWP.ret ?_
      | with_reducible refine AWP.label ?_
      | with_reducible refine AWP.goto ?_
      | ((with_reducible refine AWP.condT ?_ ?_); focus (simp only [ev, lk_cons, ↓reduceIte, Nat.reduceEqDiff]; done))
      | ((with_reducible refine AWP.condF ?_ ?_); focus (simp only [ev, lk_cons, ↓reduceIte, Nat.reduceEqDiff]; done))
      | simp only [go_sem, ↓reduceIte, Nat.reduceEqDiff, reduceCtorEq, Nat.reduceAdd, Int.reduceEq, Int.reduceBNe, Int.reduceBEq, Int.reduceToNat, Int.reduceLT, Int.reduceLE, Int.reduceGT, Int.reduceGE, Nat.reduceSub, Nat.reduceBEq, Nat.reduceBNe, Int.reduceAdd, Int.reduceSub, Int.reduceMul, Int.reduceNeg, Nat.reduceMul, Nat.reduceLeDiff, Nat.reduceLT, hi5, hil5, hgetl, hbx5, hbl, List.map_cons, List.map_nil]
      | simp (disch := omega) only [wi64, wu8, wu16, wu32, wu64, Int.tdiv_eq_ediv_of_nonneg, Int.tmod_eq_emod_of_nonneg]
      | with_reducible_and_instances exact finR
      | ((with_reducible refine finR' ?_ ?_) <;> rfl)
      | ((with_reducible refine finD hsc (NRel.of_plain ?_)); exact rfl)
    all_goals
      have hi6 : H'[i]? = _ := (h2 i hp5.iSa).trans ((hgetl hil5).trans hi5)
      have hil6 := lt_of_get hi6
      repeat' first
        | with_reducible refine canW_n ?_
        | with_reducible refine canW_m (by decide) ?_
        | ((with_reducible apply canW_p (by decide)); focus (intro H; (simp only [go_sem, ↓reduceIte, Nat.reduceEqDiff, reduceCtorEq, Nat.reduceAdd, Int.reduceEq, Int.reduceBNe, Int.reduceBEq, Int.reduceToNat, Int.reduceLT, Int.reduceLE, Int.reduceGT, Int.reduceGE, Nat.reduceSub, Nat.reduceBEq, Nat.reduceBNe, Int.reduceAdd, Int.reduceSub, Int.reduceMul, Int.reduceNeg, Nat.reduceMul, Nat.reduceLeDiff, Nat.reduceLT, hi6, hil6, hgetl, hsetl, List.map_cons, List.map_nil]); exact rfl))
        | with_reducible refine memW_b ?_ ?_
        | with_reducible refine memW_s rfl ?_
        | with_reducible refine memW_r rfl ?_
        | with_reducible refine memW_e ?_
        | simp only [List.take_succ_cons, List.take_zero, List.drop_succ_cons, List.drop_zero]
        | omega
        | with_reducible refine And.intro ?_ ?_
        | with_reducible refine AWP.seq ?_
        | ((with_reducible refine AWP.region ?_ ?_); exact rfl)
        | with_reducible refine AWP.block ?_
        | with_reducible refine AWP.skip ?_
        | with_reducible refine AWP.exit ?_
        | with_reducible refine AWP.ret ?_
        | with_reducible refine AWP.label ?_
        | with_reducible refine AWP.goto ?_
        | ((with_reducible refine AWP.condT ?_ ?_); focus (simp only [ev, lk_cons, ↓reduceIte, Nat.reduceEqDiff]; done))
        | ((with_reducible refine AWP.condF ?_ ?_); focus (simp only [ev, lk_cons, ↓reduceIte, Nat.reduceEqDiff]; done))
        | simp only [go_sem, ↓reduceIte, Nat.reduceEqDiff, reduceCtorEq, Nat.reduceAdd, Int.reduceEq, Int.reduceBNe, Int.reduceBEq, Int.reduceToNat, Int.reduceLT, Int.reduceLE, Int.reduceGT, Int.reduceGE, Nat.reduceSub, Nat.reduceBEq, Nat.reduceBNe, Int.reduceAdd, Int.reduceSub, Int.reduceMul, Int.reduceNeg, Nat.reduceMul, Nat.reduceLeDiff, Nat.reduceLT, hi6, hil6, hgetl, hsetl, List.map_cons, List.map_nil]
        | simp (disch := omega) only [wi64, wu8, wu16, wu32, wu64, Int.tdiv_eq_ediv_of_nonneg, Int.tmod_eq_emod_of_nonneg]
        | with_reducible_and_instances exact finR
        | ((with_reducible refine finR' ?_ ?_) <;> rfl)
        | ((with_reducible refine finD hsc (NRel.of_plain ?_)); exact rfl)
    all_goals exact ⟨_, ⟨_, rfl, hpush _ _ h1 h2 (H5.length + 1) (by simp)⟩, Weak.env (by simp [envIn, lk_cons, wth_some])⟩
  rintro st6 ⟨H6, rfl, S6, ⟨vn6, va6, vu6, Sa6, Su6, hp6, rfl⟩, hF6, hS6⟩
  have hknb : ∀ (H9 : AHeap) (S9 : List Nat) (r9 : Rk) cs, RkAt H9 i r9 S9 → H9[b]? = some (.cells cs ⟨42, 0, true, 0, none⟩) → b ∉ S9 := fun H9 S9 r9 cs hA9 hb9 hm => by
    obtain ⟨cs', k', e', hk'⟩ := hA9.kn b hm
    rw [hb9] at e'
    cases e'
    simp [kR] at hk'
  have hb5 : b ∉ i :: (Sa ++ Su) := hknb H5 _ _ _ ⟨_, _, _, _, _, hp5, rfl⟩ hbx
  have hbx6 := hF6.get hbx hb5
  have hbl6 := lt_of_get hbx6
  have hi6 := hp6.at_
  have hil6 := lt_of_get hi6
  unfold Rk.c at hi6
  simp only [r3, r1] at hi6
  rw [hpc] at hbx6
  have hf05 : Frm (i :: (Sa ++ Su)) H H5 := hf5.mono fun t ht => by rw [List.mem_singleton.1 ht]; exact List.mem_cons_self ..
  have fin : ∀ r9 H9, RkTo H6 i (i :: (Sa6 ++ Su6)) r9 H9 → r9 = r.putS now size body → RkTo H i (i :: (Sa ++ Su)) (r.putS now size body) H9 := fun r9 H9 ht e => by
    subst e
    refine RkTo.trans (hf05.trans hF6 fun t ht => .inl ht) (fun t ht => ?_) ht
    rcases hS6 t ht with h | h
    · exact .inl h
    · exact .inr (by have := hf5.1; omega)
  have e100 : r.kk.tmod 100 = r.kk % 100 := Int.tmod_eq_emod_of_nonneg (by omega)
  have e2 : r.kk.tdiv 100 = r.kk / 100 := Int.tdiv_eq_ediv_of_nonneg (by omega)
  have e3 : (r.kk / 100).tmod 100 = r.kk / 100 % 100 := Int.tmod_eq_emod_of_nonneg (by omega)
  have e4 : IntKind.i64.wrap (r.kk / 100) = r.kk / 100 := wi64 (by omega)
  have hpkt : 0 ≤ max now r.free + gg + r.pipe.delay + r.kk / 10000 % (r.pipe.jit + 1) := by omega
  have w9 : IntKind.i64.wrap (max now r.free + gg + r.pipe.delay + r.kk / 10000 % (r.pipe.jit + 1) + 1) = max now r.free + gg + r.pipe.delay + r.kk / 10000 % (r.pipe.jit + 1) + 1 := wi64 (by omega)
  have hlo := hB.lost
  have hdb := hB.dbl
  have wl : IntKind.i64.wrap (r.lost + 1) = r.lost + 1 := wi64 (by omega)
  have wd : IntKind.i64.wrap (r.dbl + 1) = r.dbl + 1 := wi64 (by omega)
  by_cases c1 : r.kk % 100 < r.pipe.loss
  · have f1 : r.pipe.fate r.kk = 1 := by unfold Pp.fate; rw [if_pos c1]
    repeat first
      | with_reducible refine AWP.seq ?_
      | ((with_reducible refine AWP.region ?_ ?_); exact rfl)
      | with_reducible refine AWP.block ?_
      | with_reducible refine AWP.skip ?_
      | with_reducible refine AWP.exit ?_
      | with_reducible refine AWP.ret ?_
      | with_reducible refine AWP.label ?_
      | with_reducible refine AWP.goto ?_
      | ((with_reducible refine AWP.condT ?_ ?_); focus (simp only [ev, lk_cons, ↓reduceIte, Nat.reduceEqDiff]; done))
      | ((with_reducible refine AWP.condF ?_ ?_); focus (simp only [ev, lk_cons, ↓reduceIte, Nat.reduceEqDiff]; done))
      | simp only [go_sem, ↓reduceIte, Nat.reduceEqDiff, reduceCtorEq, Nat.reduceAdd, Int.reduceEq, Int.reduceBNe, Int.reduceBEq, Int.reduceToNat, Int.reduceLT, Int.reduceLE, Int.reduceGT, Int.reduceGE, Nat.reduceSub, Nat.reduceBEq, Nat.reduceBNe, Int.reduceAdd, Int.reduceSub, Int.reduceMul, Int.reduceNeg, Nat.reduceMul, Nat.reduceLeDiff, Nat.reduceLT, hi6, hil6, e100, c1, wl]
      | simp (disch := omega) only [wi64, wu8, wu16, wu32, wu64, Int.tdiv_eq_ediv_of_nonneg, Int.tmod_eq_emod_of_nonneg]
      | with_reducible_and_instances exact finR
      | ((with_reducible refine finR' ?_ ?_) <;> rfl)
      | ((with_reducible refine finD hsc (NRel.of_plain ?_)); exact rfl)
    refine ⟨_, _, .refl _ _ _, rfl, fin _ _ (hp6.to (r' := { r3 with all := r.all ++ [r.pk now size body], lost := r.lost + 1 }) (Frm.set (.refl _ _) (.inl (by simp))) (hset_self hil6) rfl rfl rfl) ?_⟩
    simp only [Rk.putS, Rk.coms, if_pos f1, f1, hg0]
    simp [r3, r1]
  have f1 : ¬ r.pipe.fate r.kk = 1 := by
    unfold Pp.fate
    rw [if_neg c1]
    split <;> omega
  have hund6 : OwnC H6 94 7 r.under.length (flsC r.under) vu6 Su6 := hp6.und
  have hul := hB.underL
  have hap6 : ∀ (X : AHeap) (K : Value → AHeap → Prop) (news : List Value), news.length = 7 → (∀ H' i' o cap S', OwnC H' 94 7 (r.under.length + 1) (flsC r.under ++ news) (.slice (some ⟨i', o, none⟩) (r.under.length + 1) cap) S' → Frm Su6 (H6 ++ X) H' → (∀ t ∈ S', t ∈ Su6 ∨ (H6 ++ X).length ≤ t) → K (.slice (some ⟨i', o, none⟩) (r.under.length + 1) cap) H') → appendTo Try.prog 94 7 64 vu6 1 news (H6 ++ X) K :=
    fun X K news hn hk => (hund6.frm (T := []) Frm.app (by simp)).append (by decide) hn (by rw [flsC_len]) (by omega) (by omega) hk
  have hpush6 := fun X H' v' S' (hO : OwnC H' 94 7 (r.under.length + 1) (flsC r.under ++ flC (r.pk now size body).cm) v' S') hf hS => RkTo.trans (H := H6) (S := i :: (Sa6 ++ Su6)) Frm.app (fun t ht => .inl ht) ((hp6.beside (H2 := H6 ++ X) (T := []) Frm.app (.nil _) (by simp)).pushUnd (H' := H') (r.pk now size body).cm hO hf hS)
  have hfc : flC (r.pk now size body).cm = [.int .i64 (r.put + 1), .int .i64 size, .int .i64 now, .int .i64 (max now r.free), .int .i64 (max now r.free + gg + r.pipe.delay + r.kk / 10000 % (r.pipe.jit + 1)), .string (bs body), .bool false] := by simp only [Rk.pk, Pc.cm, flC, hg0]; rfl
  unfold Rk.c at hpush6
  simp only [r3, r1] at hpush6
  rw [hfc] at hpush6
  let J7 : ASt → Prop := fun st => ∃ H7, st = ⟨[(0, .pointer (some ⟨i, 0, none⟩)), (12, .int .i64 r.kk), (13, .pointer (some ⟨b, 0, none⟩))], [], H7⟩ ∧ RkTo H6 i (i :: (Sa6 ++ Su6)) { r3 with all := r.all ++ [r.pk now size body], under := r.under ++ [(r.pk now size body).cm] } H7
  repeat first
    | with_reducible refine AWP.seqE (x := .region 19 _ _) J7 ?_ ?_
    | with_reducible refine AWP.seq ?_
    | ((with_reducible refine AWP.region ?_ ?_); exact rfl)
    | with_reducible refine AWP.block ?_
    | with_reducible refine AWP.skip ?_
    | with_reducible refine AWP.exit ?_
    | with_reducible refine AWP.ret ?_
    | with_reducible refine AWP.label ?_
    | with_reducible refine AWP.goto ?_
    | ((with_reducible refine AWP.condT ?_ ?_); focus (simp only [ev, lk_cons, ↓reduceIte, Nat.reduceEqDiff]; done))
    | ((with_reducible refine AWP.condF ?_ ?_); focus (simp only [ev, lk_cons, ↓reduceIte, Nat.reduceEqDiff]; done))
    | simp only [go_sem, ↓reduceIte, Nat.reduceEqDiff, reduceCtorEq, Nat.reduceAdd, Int.reduceEq, Int.reduceBNe, Int.reduceBEq, Int.reduceToNat, Int.reduceLT, Int.reduceLE, Int.reduceGT, Int.reduceGE, Nat.reduceSub, Nat.reduceBEq, Nat.reduceBNe, Int.reduceAdd, Int.reduceSub, Int.reduceMul, Int.reduceNeg, Nat.reduceMul, Nat.reduceLeDiff, Nat.reduceLT, hi6, hil6, e100, c1]
    | simp (disch := omega) only [wi64, wu8, wu16, wu32, wu64, Int.tdiv_eq_ediv_of_nonneg, Int.tmod_eq_emod_of_nonneg]
    | with_reducible_and_instances exact finR
    | ((with_reducible refine finR' ?_ ?_) <;> rfl)
    | ((with_reducible refine finD hsc (NRel.of_plain ?_)); exact rfl)
  · refine AWP.regionM 9 [4, 5, 7, 8] [(5, .agg ⟨[.int .i64 (r.put + 1), .int .i64 size, .int .i64 now, .int .i64 (max now r.free), .int .i64 (max now r.free + gg + r.pipe.delay + r.kk / 10000 % (r.pipe.jit + 1)), .string (bs body)]⟩)] (.both (.run [4, 5, 7, 8]) (.step 5 (.both (.run [4, 7, 8]) (.run [7, 4, 8])))) (by kernel_rfl) (by decide) (by kernel_rfl) (by kernel_rfl) (by kernel_rfl) ?_
    repeat' first
      | with_reducible refine canW_n ?_
      | with_reducible refine canW_m (by decide) ?_
      | ((with_reducible apply canW_p (by decide)); focus (intro H; (simp only [go_sem, ↓reduceIte, Nat.reduceEqDiff, reduceCtorEq, Nat.reduceAdd, Int.reduceEq, Int.reduceBNe, Int.reduceBEq, Int.reduceToNat, Int.reduceLT, Int.reduceLE, Int.reduceGT, Int.reduceGE, Nat.reduceSub, Nat.reduceBEq, Nat.reduceBNe, Int.reduceAdd, Int.reduceSub, Int.reduceMul, Int.reduceNeg, Nat.reduceMul, Nat.reduceLeDiff, Nat.reduceLT, hi6, hil6, hgetl, hbx6, hbl6, List.map_cons, List.map_nil]); exact rfl))
      | with_reducible refine memW_b ?_ ?_
      | with_reducible refine memW_s rfl ?_
      | with_reducible refine memW_r rfl ?_
      | with_reducible refine memW_e ?_
      | simp only [List.take_succ_cons, List.take_zero, List.drop_succ_cons, List.drop_zero]
      | omega
      | with_reducible refine And.intro ?_ ?_
      | with_reducible refine hap6 _ _ _ rfl fun H' i' o' cap' S' hO' h1 h2 => ?_
      | with_reducible refine AWP.seq ?_
      | ((with_reducible refine AWP.region ?_ ?_); exact rfl)
      | with_reducible refine AWP.block ?_
      | with_reducible refine AWP.skip ?_
      | with_reducible refine AWP.exit ?_
      | with_reducible refine AWP.ret ?_
      | with_reducible refine AWP.label ?_
      | with_reducible refine AWP.goto ?_
      | ((with_reducible refine AWP.condT ?_ ?_); focus (simp only [ev, lk_cons, ↓reduceIte, Nat.reduceEqDiff]; done))
      | ((with_reducible refine AWP.condF ?_ ?_); focus (simp only [ev, lk_cons, ↓reduceIte, Nat.reduceEqDiff]; done))
      | simp only [go_sem, ↓reduceIte, Nat.reduceEqDiff, reduceCtorEq, Nat.reduceAdd, Int.reduceEq, Int.reduceBNe, Int.reduceBEq, Int.reduceToNat, Int.reduceLT, Int.reduceLE, Int.reduceGT, Int.reduceGE, Nat.reduceSub, Nat.reduceBEq, Nat.reduceBNe, Int.reduceAdd, Int.reduceSub, Int.reduceMul, Int.reduceNeg, Nat.reduceMul, Nat.reduceLeDiff, Nat.reduceLT, hi6, hil6, hgetl, hbx6, hbl6, List.map_cons, List.map_nil]
      | simp (disch := omega) only [wi64, wu8, wu16, wu32, wu64, Int.tdiv_eq_ediv_of_nonneg, Int.tmod_eq_emod_of_nonneg]
      | with_reducible_and_instances exact finR
      | ((with_reducible refine finR' ?_ ?_) <;> rfl)
      | ((with_reducible refine finD hsc (NRel.of_plain ?_)); exact rfl)
    all_goals
      have hi7 : H'[i]? = _ := h1.get ((hgetl hil6).trans hi6) hp6.iSu
      have hil7 := lt_of_get hi7
      repeat' first
        | with_reducible refine canW_n ?_
        | with_reducible refine canW_m (by decide) ?_
        | ((with_reducible apply canW_p (by decide)); focus (intro H; (simp only [go_sem, ↓reduceIte, Nat.reduceEqDiff, reduceCtorEq, Nat.reduceAdd, Int.reduceEq, Int.reduceBNe, Int.reduceBEq, Int.reduceToNat, Int.reduceLT, Int.reduceLE, Int.reduceGT, Int.reduceGE, Nat.reduceSub, Nat.reduceBEq, Nat.reduceBNe, Int.reduceAdd, Int.reduceSub, Int.reduceMul, Int.reduceNeg, Nat.reduceMul, Nat.reduceLeDiff, Nat.reduceLT, hi7, hil7, hgetl, hsetl, List.map_cons, List.map_nil]); exact rfl))
        | with_reducible refine memW_b ?_ ?_
        | with_reducible refine memW_s rfl ?_
        | with_reducible refine memW_r rfl ?_
        | with_reducible refine memW_e ?_
        | simp only [List.take_succ_cons, List.take_zero, List.drop_succ_cons, List.drop_zero]
        | omega
        | with_reducible refine And.intro ?_ ?_
        | with_reducible refine AWP.seq ?_
        | ((with_reducible refine AWP.region ?_ ?_); exact rfl)
        | with_reducible refine AWP.block ?_
        | with_reducible refine AWP.skip ?_
        | with_reducible refine AWP.exit ?_
        | with_reducible refine AWP.ret ?_
        | with_reducible refine AWP.label ?_
        | with_reducible refine AWP.goto ?_
        | ((with_reducible refine AWP.condT ?_ ?_); focus (simp only [ev, lk_cons, ↓reduceIte, Nat.reduceEqDiff]; done))
        | ((with_reducible refine AWP.condF ?_ ?_); focus (simp only [ev, lk_cons, ↓reduceIte, Nat.reduceEqDiff]; done))
        | simp only [go_sem, ↓reduceIte, Nat.reduceEqDiff, reduceCtorEq, Nat.reduceAdd, Int.reduceEq, Int.reduceBNe, Int.reduceBEq, Int.reduceToNat, Int.reduceLT, Int.reduceLE, Int.reduceGT, Int.reduceGE, Nat.reduceSub, Nat.reduceBEq, Nat.reduceBNe, Int.reduceAdd, Int.reduceSub, Int.reduceMul, Int.reduceNeg, Nat.reduceMul, Nat.reduceLeDiff, Nat.reduceLT, hi7, hil7, hgetl, hsetl, List.map_cons, List.map_nil]
        | simp (disch := omega) only [wi64, wu8, wu16, wu32, wu64, Int.tdiv_eq_ediv_of_nonneg, Int.tmod_eq_emod_of_nonneg]
        | with_reducible_and_instances exact finR
        | ((with_reducible refine finR' ?_ ?_) <;> rfl)
        | ((with_reducible refine finD hsc (NRel.of_plain ?_)); exact rfl)
    all_goals exact ⟨_, ⟨_, rfl, hpush6 _ _ _ _ hO' h1 h2⟩, Weak.env (by simp [envIn, lk_cons, wth_some])⟩
  rintro st7 ⟨H7, rfl, S7, ⟨vn7, va7, vu7, Sa7, Su7, hp7, rfl⟩, hF7, hS7⟩
  have hb6 : b ∉ i :: (Sa6 ++ Su6) := hknb H6 _ _ _ ⟨_, _, _, _, _, hp6, rfl⟩ hbx6
  have hbx7 := hF7.get hbx6 hb6
  have hbl7 := lt_of_get hbx7
  have hi7 := hp7.at_
  have hil7 := lt_of_get hi7
  unfold Rk.c at hi7
  simp only [r3, r1] at hi7
  by_cases c2 : r.kk / 100 % 100 < r.pipe.dbl
  · have f2 : r.pipe.fate r.kk = 2 := by unfold Pp.fate; rw [if_neg c1, if_pos c2]
    let r8 : Rk := { r3 with all := r.all ++ [r.pk now size body], under := r.under ++ [(r.pk now size body).cm], dbl := r.dbl + 1 }
    let H7a : AHeap := H7.set i (.cells (r8.c vn7 va7 vu7) ⟨83, 0, true, 0, none⟩)
    have hH7a : H7a = H7.set i (.cells (r8.c vn7 va7 vu7) ⟨83, 0, true, 0, none⟩) := rfl
    have hf7a : Frm [i] H7 H7a := Frm.set (.refl _ _) (.inl (by simp))
    have hp7a : RkP H7a i r8 vn7 va7 vu7 Sa7 Su7 := hp7.to' hf7a (hset_self hil7) rfl rfl rfl
    have hb7 : b ∉ i :: (Sa7 ++ Su7) := hknb H7 _ _ _ ⟨_, _, _, _, _, hp7, rfl⟩ hbx7
    have hbi : i ≠ b := fun e => hb7 (e ▸ List.mem_cons_self ..)
    have hbx7a := hf7a.get hbx7 (by simp; exact fun e => hbi e.symm)
    have hbl7a := lt_of_get hbx7a
    let H8 : AHeap := H7a.set b (.cells [.int .i64 (r.put + 1), .int .i64 size, .int .i64 now, .int .i64 (max now r.free), .int .i64 (max now r.free + gg + r.pipe.delay + r.kk / 10000 % (r.pipe.jit + 1) + 1), .string (bs body)] ⟨42, 0, true, 0, none⟩)
    have hH8 : H8 = H7a.set b (.cells [.int .i64 (r.put + 1), .int .i64 size, .int .i64 now, .int .i64 (max now r.free), .int .i64 (max now r.free + gg + r.pipe.delay + r.kk / 10000 % (r.pipe.jit + 1) + 1), .string (bs body)] ⟨42, 0, true, 0, none⟩) := rfl
    have hf8 : Frm [b] H7a H8 := Frm.set (.refl _ _) (.inl (by simp))
    have hp8 : RkP H8 i r8 vn7 va7 vu7 Sa7 Su7 := by
      refine ⟨hf8.get hp7a.at_ (by simp; exact hbi), hp7a.nums.box hf8 hbx7a rfl, hp7a.all.frm hf8 fun t ht ht2 => ?_, hp7a.und.frm hf8 fun t ht ht2 => ?_⟩
      · rw [List.mem_singleton.1 ht2] at ht
        exact hb7 (List.mem_cons_of_mem _ (List.mem_append_left _ ht))
      · rw [List.mem_singleton.1 ht2] at ht
        exact hb7 (List.mem_cons_of_mem _ (List.mem_append_right _ ht))
    have hi8 := hp8.at_
    have hil8 := lt_of_get hi8
    have hbx8 : H8[b]? = _ := hset_self hbl7a
    have hbl8 := lt_of_get hbx8
    have hi7a := hp7a.at_
    have hil7a := lt_of_get hi7a
    unfold Rk.c at hi8 hH7a hi7a
    simp only [r8, r3, r1] at hi8 hH7a hi7a
    have hund8 : OwnC H8 94 7 (r.under.length + 1) (flsC (r.under ++ [(r.pk now size body).cm])) vu7 Su7 := by
      have := hp8.und
      simp only [r8, List.length_append, List.length_singleton] at this
      exact this
    have hap8 : ∀ (X : AHeap) (K : Value → AHeap → Prop) (news : List Value), news.length = 7 → (∀ H' i' o cap S', OwnC H' 94 7 (r.under.length + 1 + 1) (flsC (r.under ++ [(r.pk now size body).cm]) ++ news) (.slice (some ⟨i', o, none⟩) (r.under.length + 1 + 1) cap) S' → Frm Su7 (H8 ++ X) H' → (∀ t ∈ S', t ∈ Su7 ∨ (H8 ++ X).length ≤ t) → K (.slice (some ⟨i', o, none⟩) (r.under.length + 1 + 1) cap) H') → appendTo Try.prog 94 7 64 vu7 1 news (H8 ++ X) K :=
      fun X K news hn hk => (hund8.frm (T := []) Frm.app (by simp)).append (by decide) hn (by rw [flsC_len, List.length_append]; rfl) (by omega) (by omega) hk
    have hpush8 := fun X H' v' S' (hO : OwnC H' 94 7 (r.under.length + 1 + 1) (flsC (r.under ++ [(r.pk now size body).cm]) ++ flC (r.pk now size body).cm.again) v' S') hf hS => RkTo.trans (H := H8) (S := i :: (Sa7 ++ Su7)) Frm.app (fun t ht => .inl ht) ((hp8.beside (H2 := H8 ++ X) (T := []) Frm.app (.nil _) (by simp)).pushUnd (H' := H') (r.pk now size body).cm.again (by simp only [r8, List.length_append, List.length_singleton]; exact hO) hf hS)
    have hfc8 : flC (r.pk now size body).cm.again = [.int .i64 (r.put + 1), .int .i64 size, .int .i64 now, .int .i64 (max now r.free), .int .i64 (max now r.free + gg + r.pipe.delay + r.kk / 10000 % (r.pipe.jit + 1) + 1), .string (bs body), .bool true] := by simp only [Rk.pk, Pc.cm, Cm.again, flC, hg0]; rfl
    unfold Rk.c at hpush8
    simp only [r8, r3, r1] at hpush8
    rw [hfc8] at hpush8
    repeat first
      | with_reducible refine AWP.seq ?_
      | ((with_reducible refine AWP.region ?_ ?_); exact rfl)
      | with_reducible refine AWP.block ?_
      | with_reducible refine AWP.skip ?_
      | with_reducible refine AWP.exit ?_
      | with_reducible refine AWP.ret ?_
      | with_reducible refine AWP.label ?_
      | with_reducible refine AWP.goto ?_
      | ((with_reducible refine AWP.condT ?_ ?_); focus (simp only [ev, lk_cons, ↓reduceIte, Nat.reduceEqDiff]; done))
      | ((with_reducible refine AWP.condF ?_ ?_); focus (simp only [ev, lk_cons, ↓reduceIte, Nat.reduceEqDiff]; done))
      | simp only [go_sem, ↓reduceIte, Nat.reduceEqDiff, reduceCtorEq, Nat.reduceAdd, Int.reduceEq, Int.reduceBNe, Int.reduceBEq, Int.reduceToNat, Int.reduceLT, Int.reduceLE, Int.reduceGT, Int.reduceGE, Nat.reduceSub, Nat.reduceBEq, Nat.reduceBNe, Int.reduceAdd, Int.reduceSub, Int.reduceMul, Int.reduceNeg, Nat.reduceMul, Nat.reduceLeDiff, Nat.reduceLT, hi7, hil7, e2, e3, e4, c2, wd]
      | simp (disch := omega) only [wi64, wu8, wu16, wu32, wu64, Int.tdiv_eq_ediv_of_nonneg, Int.tmod_eq_emod_of_nonneg]
      | with_reducible_and_instances exact finR
      | ((with_reducible refine finR' ?_ ?_) <;> rfl)
      | ((with_reducible refine finD hsc (NRel.of_plain ?_)); exact rfl)
    rw [← hH7a]
    repeat first
      | with_reducible refine AWP.seq ?_
      | ((with_reducible refine AWP.region ?_ ?_); exact rfl)
      | with_reducible refine AWP.block ?_
      | with_reducible refine AWP.skip ?_
      | with_reducible refine AWP.exit ?_
      | with_reducible refine AWP.ret ?_
      | with_reducible refine AWP.label ?_
      | with_reducible refine AWP.goto ?_
      | ((with_reducible refine AWP.condT ?_ ?_); focus (simp only [ev, lk_cons, ↓reduceIte, Nat.reduceEqDiff]; done))
      | ((with_reducible refine AWP.condF ?_ ?_); focus (simp only [ev, lk_cons, ↓reduceIte, Nat.reduceEqDiff]; done))
      | simp only [go_sem, ↓reduceIte, Nat.reduceEqDiff, reduceCtorEq, Nat.reduceAdd, Int.reduceEq, Int.reduceBNe, Int.reduceBEq, Int.reduceToNat, Int.reduceLT, Int.reduceLE, Int.reduceGT, Int.reduceGE, Nat.reduceSub, Nat.reduceBEq, Nat.reduceBNe, Int.reduceAdd, Int.reduceSub, Int.reduceMul, Int.reduceNeg, Nat.reduceMul, Nat.reduceLeDiff, Nat.reduceLT, hbx7a, hbl7a, w9]
      | simp (disch := omega) only [wi64, wu8, wu16, wu32, wu64, Int.tdiv_eq_ediv_of_nonneg, Int.tmod_eq_emod_of_nonneg]
      | with_reducible_and_instances exact finR
      | ((with_reducible refine finR' ?_ ?_) <;> rfl)
      | ((with_reducible refine finD hsc (NRel.of_plain ?_)); exact rfl)
    rw [← hH8]
    refine AWP.regionM 9 [4, 5, 7, 8] [(5, .agg ⟨[.int .i64 (r.put + 1), .int .i64 size, .int .i64 now, .int .i64 (max now r.free), .int .i64 (max now r.free + gg + r.pipe.delay + r.kk / 10000 % (r.pipe.jit + 1) + 1), .string (bs body)]⟩)] (.both (.run [4, 5, 7, 8]) (.step 5 (.both (.run [4, 7, 8]) (.run [7, 4, 8])))) (by kernel_rfl) (by decide) (by kernel_rfl) (by kernel_rfl) (by kernel_rfl) ?_
    repeat' first
      | with_reducible refine canW_n ?_
      | with_reducible refine canW_m (by decide) ?_
      | ((with_reducible apply canW_p (by decide)); focus (intro H; (simp only [go_sem, ↓reduceIte, Nat.reduceEqDiff, reduceCtorEq, Nat.reduceAdd, Int.reduceEq, Int.reduceBNe, Int.reduceBEq, Int.reduceToNat, Int.reduceLT, Int.reduceLE, Int.reduceGT, Int.reduceGE, Nat.reduceSub, Nat.reduceBEq, Nat.reduceBNe, Int.reduceAdd, Int.reduceSub, Int.reduceMul, Int.reduceNeg, Nat.reduceMul, Nat.reduceLeDiff, Nat.reduceLT, hi8, hil8, hgetl, hbx8, hbl8, List.map_cons, List.map_nil]); exact rfl))
      | with_reducible refine memW_b ?_ ?_
      | with_reducible refine memW_s rfl ?_
      | with_reducible refine memW_r rfl ?_
      | with_reducible refine memW_e ?_
      | simp only [List.take_succ_cons, List.take_zero, List.drop_succ_cons, List.drop_zero]
      | omega
      | with_reducible refine And.intro ?_ ?_
      | with_reducible refine hap8 _ _ _ rfl fun H' i' o' cap' S' hO' h1 h2 => ?_
      | with_reducible refine AWP.seq ?_
      | ((with_reducible refine AWP.region ?_ ?_); exact rfl)
      | with_reducible refine AWP.block ?_
      | with_reducible refine AWP.skip ?_
      | with_reducible refine AWP.exit ?_
      | with_reducible refine AWP.ret ?_
      | with_reducible refine AWP.label ?_
      | with_reducible refine AWP.goto ?_
      | ((with_reducible refine AWP.condT ?_ ?_); focus (simp only [ev, lk_cons, ↓reduceIte, Nat.reduceEqDiff]; done))
      | ((with_reducible refine AWP.condF ?_ ?_); focus (simp only [ev, lk_cons, ↓reduceIte, Nat.reduceEqDiff]; done))
      | simp only [go_sem, ↓reduceIte, Nat.reduceEqDiff, reduceCtorEq, Nat.reduceAdd, Int.reduceEq, Int.reduceBNe, Int.reduceBEq, Int.reduceToNat, Int.reduceLT, Int.reduceLE, Int.reduceGT, Int.reduceGE, Nat.reduceSub, Nat.reduceBEq, Nat.reduceBNe, Int.reduceAdd, Int.reduceSub, Int.reduceMul, Int.reduceNeg, Nat.reduceMul, Nat.reduceLeDiff, Nat.reduceLT, hi8, hil8, hgetl, hbx8, hbl8, List.map_cons, List.map_nil]
      | simp (disch := omega) only [wi64, wu8, wu16, wu32, wu64, Int.tdiv_eq_ediv_of_nonneg, Int.tmod_eq_emod_of_nonneg]
      | with_reducible_and_instances exact finR
      | ((with_reducible refine finR' ?_ ?_) <;> rfl)
      | ((with_reducible refine finD hsc (NRel.of_plain ?_)); exact rfl)
    all_goals
      have hi9 : H'[i]? = _ := h1.get ((hgetl hil8).trans hi8) hp8.iSu
      have hil9 := lt_of_get hi9
      repeat' first
        | with_reducible refine canW_n ?_
        | with_reducible refine canW_m (by decide) ?_
        | ((with_reducible apply canW_p (by decide)); focus (intro H; (simp only [go_sem, ↓reduceIte, Nat.reduceEqDiff, reduceCtorEq, Nat.reduceAdd, Int.reduceEq, Int.reduceBNe, Int.reduceBEq, Int.reduceToNat, Int.reduceLT, Int.reduceLE, Int.reduceGT, Int.reduceGE, Nat.reduceSub, Nat.reduceBEq, Nat.reduceBNe, Int.reduceAdd, Int.reduceSub, Int.reduceMul, Int.reduceNeg, Nat.reduceMul, Nat.reduceLeDiff, Nat.reduceLT, hi9, hil9, hgetl, hsetl, List.map_cons, List.map_nil]); exact rfl))
        | with_reducible refine memW_b ?_ ?_
        | with_reducible refine memW_s rfl ?_
        | with_reducible refine memW_r rfl ?_
        | with_reducible refine memW_e ?_
        | simp only [List.take_succ_cons, List.take_zero, List.drop_succ_cons, List.drop_zero]
        | omega
        | with_reducible refine And.intro ?_ ?_
        | with_reducible refine AWP.seq ?_
        | ((with_reducible refine AWP.region ?_ ?_); exact rfl)
        | with_reducible refine AWP.block ?_
        | with_reducible refine AWP.skip ?_
        | with_reducible refine AWP.exit ?_
        | with_reducible refine AWP.ret ?_
        | with_reducible refine AWP.label ?_
        | with_reducible refine AWP.goto ?_
        | ((with_reducible refine AWP.condT ?_ ?_); focus (simp only [ev, lk_cons, ↓reduceIte, Nat.reduceEqDiff]; done))
        | ((with_reducible refine AWP.condF ?_ ?_); focus (simp only [ev, lk_cons, ↓reduceIte, Nat.reduceEqDiff]; done))
        | simp only [go_sem, ↓reduceIte, Nat.reduceEqDiff, reduceCtorEq, Nat.reduceAdd, Int.reduceEq, Int.reduceBNe, Int.reduceBEq, Int.reduceToNat, Int.reduceLT, Int.reduceLE, Int.reduceGT, Int.reduceGE, Nat.reduceSub, Nat.reduceBEq, Nat.reduceBNe, Int.reduceAdd, Int.reduceSub, Int.reduceMul, Int.reduceNeg, Nat.reduceMul, Nat.reduceLeDiff, Nat.reduceLT, hi9, hil9, hgetl, hsetl, List.map_cons, List.map_nil]
        | simp (disch := omega) only [wi64, wu8, wu16, wu32, wu64, Int.tdiv_eq_ediv_of_nonneg, Int.tmod_eq_emod_of_nonneg]
        | with_reducible_and_instances exact finR
        | ((with_reducible refine finR' ?_ ?_) <;> rfl)
        | ((with_reducible refine finD hsc (NRel.of_plain ?_)); exact rfl)
    all_goals
      have hst : ∀ t ∈ i :: (Sa6 ++ Su6), t ∈ i :: (Sa ++ Su) ∨ H.length ≤ t := fun t ht => by
        rcases hS6 t ht with h | h
        · exact .inl h
        · exact .inr (by have := hf5.1; omega)
      have hst7 : ∀ t ∈ i :: (Sa7 ++ Su7), t ∈ i :: (Sa ++ Su) ∨ H.length ≤ t := fun t ht => by
        rcases hS7 t ht with h | h
        · exact hst t h
        · exact .inr (by have := hf5.1; have := hF6.1; omega)
      have hfx : Frm (i :: (Sa ++ Su)) H H8 := (((hf05.trans hF6 fun t ht => .inl ht).trans hF7 hst).trans hf7a fun t ht => .inl (by rw [List.mem_singleton.1 ht]; exact List.mem_cons_self ..)).trans hf8 fun t ht => .inr (by rw [List.mem_singleton.1 ht, hl13]; exact Nat.le_refl _)
      have e9 : ({ r8 with under := r8.under ++ [(r.pk now size body).cm.again] } : Rk) = r.putS now size body := by
        simp only [Rk.putS, Rk.coms, if_neg f1, if_pos f2, f2, hg0]
        simp [r8, r3, r1]
      refine ⟨_, _, .refl _ _ _, rfl, ?_⟩
      rw [← e9]
      exact RkTo.trans hfx hst7 (hpush8 _ _ _ _ hO' h1 h2)
  · have f2 : ¬ r.pipe.fate r.kk = 2 := by
      unfold Pp.fate
      rw [if_neg c1, if_neg c2]; omega
    repeat first
      | with_reducible refine AWP.seq ?_
      | ((with_reducible refine AWP.region ?_ ?_); exact rfl)
      | with_reducible refine AWP.block ?_
      | with_reducible refine AWP.skip ?_
      | with_reducible refine AWP.exit ?_
      | with_reducible refine AWP.ret ?_
      | with_reducible refine AWP.label ?_
      | with_reducible refine AWP.goto ?_
      | ((with_reducible refine AWP.condT ?_ ?_); focus (simp only [ev, lk_cons, ↓reduceIte, Nat.reduceEqDiff]; done))
      | ((with_reducible refine AWP.condF ?_ ?_); focus (simp only [ev, lk_cons, ↓reduceIte, Nat.reduceEqDiff]; done))
      | simp only [go_sem, ↓reduceIte, Nat.reduceEqDiff, reduceCtorEq, Nat.reduceAdd, Int.reduceEq, Int.reduceBNe, Int.reduceBEq, Int.reduceToNat, Int.reduceLT, Int.reduceLE, Int.reduceGT, Int.reduceGE, Nat.reduceSub, Nat.reduceBEq, Nat.reduceBNe, Int.reduceAdd, Int.reduceSub, Int.reduceMul, Int.reduceNeg, Nat.reduceMul, Nat.reduceLeDiff, Nat.reduceLT, hi7, hil7, e2, e3, e4, c2]
      | simp (disch := omega) only [wi64, wu8, wu16, wu32, wu64, Int.tdiv_eq_ediv_of_nonneg, Int.tmod_eq_emod_of_nonneg]
      | with_reducible_and_instances exact finR
      | ((with_reducible refine finR' ?_ ?_) <;> rfl)
      | ((with_reducible refine finD hsc (NRel.of_plain ?_)); exact rfl)
    refine ⟨_, _, .refl _ _ _, rfl, fin _ _ ⟨_, ⟨_, _, _, _, _, hp7, rfl⟩, hF7, hS7⟩ ?_⟩
    simp only [Rk.putS, Rk.coms, if_neg f1, if_neg f2, hg0]
    simp [r3, r1]
end Go.Proofs.Ytnfkbgpbligloaa
