/-
  Links: Put, where the packet is taken.
-/
import Derived.Test.YtnfkbgpbligloaaDoorW9
set_option linter.unusedVariables false
set_option linter.unusedSimpArgs false
set_option maxRecDepth 20000
set_option maxHeartbeats 4000000
namespace Go.Proofs.YtnfkbgpbligloaaDoor
open Go Go.Aw Go.Proofs
theorem ws_get : ∀ (l : List (Int × Int)) (j : Nat) (r : List Value), (waitC l)[j]? = some r → ((wsC l).drop (j * 2)).take 2 = r
  | [], j, r, h => by simp [waitC] at h
  | w :: l, 0, r, h => by simp [waitC] at h; subst h; simp [wsC, wC]
  | w :: l, j + 1, r, h => by
    have h' : (waitC l)[j]? = some r := by simpa [waitC] using h
    have e : (wsC (w :: l)).drop ((j + 1) * 2) = (wsC l).drop (j * 2) := by
      have e2 : wsC (w :: l) = wC w ++ wsC l := rfl
      rw [e2, show (j + 1) * 2 = 2 + j * 2 by omega, ← List.drop_drop]; rfl
    rw [e]
    exact ws_get l j r h'
theorem rd_ws {H : AHeap} {i cap : Nat} {l : List (Int × Int)} {k : CK} (hi : H[i]? = some (.cells (wsC l) k)) (hk : fixK k = true) (hz : k.esz = 2 ∨ k.esz = 0) (hc : l.length ≤ cap) : RdF H 2 (.slice (some ⟨i, 0, none⟩) l.length cap) (waitC l) := by
  refine .inr ⟨i, 0, cap, _, k, by rw [waitC_len], by rw [waitC_len]; exact hc, hi, hk, hz, fun _ => by rw [waitC_len, wsC_len]; omega, fun j r h => ?_⟩
  rw [Nat.zero_add]; exact ws_get l j r h
/-- The numbers but the first one. -/
theorem RdF.tail {H : AHeap} {v : Value} {n : Int} {l : List Int} (h : RdF H 1 v ((n :: l).map fun n => [.int .i64 n])) : ∃ j o cap cs k, v = .slice (some ⟨j, o, none⟩) (l.length + 1) cap ∧ l.length + 1 ≤ cap ∧ H[j]? = some (.cells cs k) ∧ cs[o]? = some (.int .i64 n) ∧ (k.esz = 1 ∨ k.esz = 0) ∧ fixK k = true ∧ RdF H 1 (.slice (some ⟨j, o + 1, none⟩) l.length (cap - 1)) (l.map fun n => [.int .i64 n]) := by
  rcases h with ⟨_, h⟩ | ⟨i, off, cap, cs, k, e, hc, hi, hk, hz, hl, hr⟩
  · simp at h
  have hl' := hl (by simp)
  rw [List.length_map, List.length_cons] at *
  have h0 := hr 0 _ rfl
  simp only [Nat.zero_mul, Nat.add_zero] at h0
  refine ⟨i, off, cap, cs, k, e, hc, hi, ?_, hz, hk, .inr ⟨i, off + 1, cap - 1, cs, k, by rw [List.length_map], by rw [List.length_map]; omega, hi, hk, hz, fun _ => by rw [List.length_map]; omega, fun j r h => ?_⟩⟩
  · have := congrArg (·[0]?) h0
    simpa using this
  · have := hr (j + 1) r (by simpa using h)
    rw [show off + 1 + j * 1 = off + (j + 1) * 1 by omega]; exact this
theorem LkP.to2 {H H2 : AHeap} {i : Nat} {s s' : Lk} {vn vw vu vn' vw' : Value} {us : List (Cm × Value)} {Su : List Nat} (h : LkP H i s vn vw vu us Su) (hf : Frm [i] H H2) (hi : H2[i]? = some (.cells (s'.c vn' vw' vu) ⟨52, 0, true, 0, none⟩)) (hn : RdF H2 1 vn' (s'.nums.map fun n => [.int .i64 n])) (hw : RdF H2 2 vw' (waitC s'.wait)) (e3 : s'.under = s.under) :
    LkP H2 i s' vn' vw' vu us Su := by
  have hx := Frm.fix hf (fun t ht => by rw [List.mem_singleton.1 ht]; exact ⟨_, _, h.at_, rfl⟩)
  refine ⟨hi, hn, hw, e3 ▸ h.und, h.own.frm hf fun s hs e => ?_, fun u hu => (h.give u hu).fix hx⟩
  rw [List.mem_singleton.1 e] at hs
  exact h.out hs
theorem putOk {H : AHeap} {i : Nat} {s : Lk} {S : List Nat} (h : LkAt H i s S) (hB : s.okB) (now size : Int) (body : List UInt8) (hl : ¬ (body.length : Int) > 65536) (hb : badS s now size = false) (hu : ¬ (s.under.length : Int) ≥ 10000) (hd : s.dropQ now size = false) :
    ARex Tryd.prog 7 [.pointer (some ⟨i, 0, none⟩), .int .i64 now, .int .i64 size, .string (bs body)] H (.tuple ⟨[.int .i64 (s.id + 1), .bool false, .int .i64 0]⟩) (LkTo H i S (s.putS now size body)) := by
  obtain ⟨vn, vw, vu, us, Su, hp, rfl⟩ := h
  have hi := hp.at_
  have hil := lt_of_get hi
  have hlu : s.under.length = us.length := by rw [← hp.und, List.length_map]
  have q : ∀ H' K, lenW Tryd.prog 50 vu H' K = K (.int .i64 (us.length : Nat)) H' := fun H' K => OwnL.lenT hp.own (by simp only [go_sem, ↓reduceIte, Nat.reduceEqDiff, reduceCtorEq, Nat.reduceAdd, Int.reduceEq, Int.reduceBNe, Int.reduceBEq, Int.reduceToNat, Int.reduceLT, Int.reduceLE, Int.reduceGT, Int.reduceGE, Nat.reduceSub, Nat.reduceBEq, Nat.reduceBNe, Int.reduceAdd, Int.reduceSub, Int.reduceMul, Int.reduceNeg, Nat.reduceMul, Nat.reduceLeDiff, Nat.reduceLT])
  rw [hlu] at hu
  let s1 : Lk := { s with now := now }
  let H1 : AHeap := H.set i (.cells (s1.c vn vw vu) ⟨52, 0, true, 0, none⟩)
  have hH1 : H1 = H.set i (.cells (s1.c vn vw vu) ⟨52, 0, true, 0, none⟩) := rfl
  have hf1 : Frm [i] H H1 := Frm.set (.refl _ _) (.inl (by simp))
  have hp1 : LkP H1 i s1 vn vw vu us Su := hp.to' hf1 (hset_self hil) rfl rfl rfl
  have hB1 := bytes (s := s1) ⟨vn, vw, vu, us, Su, hp1, rfl⟩ (by have := hB.waitL; simp only [s1]; omega) hB.wait now
  have hi1 := hp1.at_
  have hil1 := lt_of_get hi1
  unfold Lk.c at hi hi1 hH1
  unfold badS at hb
  simp only [Bool.or_eq_false_iff, decide_eq_false_iff_not] at hb
  obtain ⟨⟨⟨h1, h2⟩, h3⟩, h4⟩ := hb
  have hwb := sumW_bound (l := wq s.wait now) fun w hm => hB.wait w (List.mem_filter.1 hm).1
  have hwl := wq_len s.wait now
  have hwl2 := hB.waitL
  have hw1 : IntKind.i64.wrap (sumW (wq s.wait now) + size) = sumW (wq s.wait now) + size := wi64 (by omega)
  have q2 : ∀ H' K, lenW Tryd.prog 24 vn H' K = K (.int .i64 (s.nums.length : Nat)) H' := fun H' K => by rw [hp.nums.lenT (by simp only [go_sem, ↓reduceIte, Nat.reduceEqDiff, reduceCtorEq, Nat.reduceAdd, Int.reduceEq, Int.reduceBNe, Int.reduceBEq, Int.reduceToNat, Int.reduceLT, Int.reduceLE, Int.reduceGT, Int.reduceGE, Nat.reduceSub, Nat.reduceBEq, Nat.reduceBNe, Int.reduceAdd, Int.reduceSub, Int.reduceMul, Int.reduceNeg, Nat.reduceMul, Nat.reduceLeDiff, Nat.reduceLT]), List.length_map]
  simp only [s1] at hH1 hi1 hB1
  refine AC.enter Tryd.func7 rfl (by kernel_rfl) 181 rfl [.tmp 8, .tmp 9, .tmp 10] rfl (by simp) fun hsc B => ?_
  repeat first
    | with_reducible refine AWP.seqJ (x := .seq (.region 9 _ _) _) ⟨[(0, .pointer (some ⟨i, 0, none⟩)), (1, .int .i64 now), (2, .int .i64 size), (3, .string (bs body)), (11, .int .i64 (max now s.free))], [], H1⟩ ?_ ?_
    | with_reducible refine AWP.seq ?_
    | ((with_reducible refine AWP.region ?_ ?_); exact rfl)
    | with_reducible refine AWP.block ?_
    | with_reducible refine AWP.skip ?_
    | with_reducible refine AWP.exit ?_
    | with_reducible refine AWP.ret ?_
    | with_reducible refine AWP.label ?_
    | with_reducible refine AWP.goto ?_
    | ((with_reducible refine AWP.condT ?_ ?_); focus (simp only [ev, lk_cons, ↓reduceIte, Nat.reduceEqDiff]; done))
    | ((with_reducible refine AWP.condF ?_ ?_); focus (simp only [ev, lk_cons, ↓reduceIte, Nat.reduceEqDiff]; done))
    | simp only [go_sem, ↓reduceIte, Nat.reduceEqDiff, reduceCtorEq, Nat.reduceAdd, Int.reduceEq, Int.reduceBNe, Int.reduceBEq, Int.reduceToNat, Int.reduceLT, Int.reduceLE, Int.reduceGT, Int.reduceGE, Nat.reduceSub, Nat.reduceBEq, Nat.reduceBNe, Int.reduceAdd, Int.reduceSub, Int.reduceMul, Int.reduceNeg, Nat.reduceMul, Nat.reduceLeDiff, Nat.reduceLT, hi, hil, hl, h1, h2, h3, h4, q, hu, minMaxW]
    | simp (disch := omega) only [wi64, wu8, wu16, wu32, wu64, Int.tdiv_eq_ediv_of_nonneg, Int.tmod_eq_emod_of_nonneg]
    | with_reducible_and_instances exact finR
    | ((with_reducible refine finR' ?_ ?_) <;> rfl)
    | ((with_reducible refine finD hsc (NRel.of_plain ?_)); exact rfl)
  · rw [← hH1]
    repeat first
      | with_reducible refine AWP.seq ?_
      | ((with_reducible refine AWP.region ?_ ?_); exact rfl)
      | with_reducible refine AWP.block ?_
      | with_reducible refine AWP.skip ?_
      | with_reducible refine AWP.exit ?_
      | with_reducible refine AWP.ret ?_
      | with_reducible refine AWP.label ?_
      | with_reducible refine AWP.goto ?_
      | ((with_reducible refine AWP.condT ?_ ?_); focus (simp only [ev, lk_cons, ↓reduceIte, Nat.reduceEqDiff]; done))
      | ((with_reducible refine AWP.condF ?_ ?_); focus (simp only [ev, lk_cons, ↓reduceIte, Nat.reduceEqDiff]; done))
      | simp only [go_sem, ↓reduceIte, Nat.reduceEqDiff, reduceCtorEq, Nat.reduceAdd, Int.reduceEq, Int.reduceBNe, Int.reduceBEq, Int.reduceToNat, Int.reduceLT, Int.reduceLE, Int.reduceGT, Int.reduceGE, Nat.reduceSub, Nat.reduceBEq, Nat.reduceBNe, Int.reduceAdd, Int.reduceSub, Int.reduceMul, Int.reduceNeg, Nat.reduceMul, Nat.reduceLeDiff, Nat.reduceLT, hi1, hil1, minMaxW]
      | simp (disch := omega) only [wi64, wu8, wu16, wu32, wu64, Int.tdiv_eq_ediv_of_nonneg, Int.tmod_eq_emod_of_nonneg]
      | with_reducible_and_instances exact finR
      | ((with_reducible refine finR' ?_ ?_) <;> rfl)
      | ((with_reducible refine finD hsc (NRel.of_plain ?_)); exact rfl)
    refine AWP.regionK 14 (by kernel_rfl) (by decide) (by kernel_rfl) ?_
    by_cases d1 : max now s.free > now
    · have d2 : ¬ sumW (wq s.wait now) + size > s.pipe.room := by
        unfold Lk.dropQ at hd
        simpa [d1] using hd
      repeat first
        | with_reducible refine AWP.seq ?_
        | ((with_reducible refine AWP.region ?_ ?_); exact rfl)
        | with_reducible refine AWP.block ?_
        | with_reducible refine AWP.skip ?_
        | with_reducible refine AWP.exit ?_
        | with_reducible refine AWP.ret ?_
        | with_reducible refine AWP.label ?_
        | with_reducible refine AWP.goto ?_
        | ((with_reducible refine AWP.condT ?_ ?_); focus (simp only [ev, lk_cons, ↓reduceIte, Nat.reduceEqDiff]; done))
        | ((with_reducible refine AWP.condF ?_ ?_); focus (simp only [ev, lk_cons, ↓reduceIte, Nat.reduceEqDiff]; done))
        | simp only [go_sem, ↓reduceIte, Nat.reduceEqDiff, reduceCtorEq, Nat.reduceAdd, Int.reduceEq, Int.reduceBNe, Int.reduceBEq, Int.reduceToNat, Int.reduceLT, Int.reduceLE, Int.reduceGT, Int.reduceGE, Nat.reduceSub, Nat.reduceBEq, Nat.reduceBNe, Int.reduceAdd, Int.reduceSub, Int.reduceMul, Int.reduceNeg, Nat.reduceMul, Nat.reduceLeDiff, Nat.reduceLT, hi1, hil1, d1, List.map_cons, List.map_nil]
        | simp (disch := omega) only [wi64, wu8, wu16, wu32, wu64, Int.tdiv_eq_ediv_of_nonneg, Int.tmod_eq_emod_of_nonneg]
        | with_reducible_and_instances exact finR
        | ((with_reducible refine finR' ?_ ?_) <;> rfl)
        | ((with_reducible refine finD hsc (NRel.of_plain ?_)); exact rfl)
      refine ARet.exq (hB1) (by simp only [go_sem, ↓reduceIte, Nat.reduceEqDiff, reduceCtorEq, Nat.reduceAdd, Int.reduceEq, Int.reduceBNe, Int.reduceBEq, Int.reduceToNat, Int.reduceLT, Int.reduceLE, Int.reduceGT, Int.reduceGE, Nat.reduceSub, Nat.reduceBEq, Nat.reduceBNe, Int.reduceAdd, Int.reduceSub, Int.reduceMul, Int.reduceNeg, Nat.reduceMul, Nat.reduceLeDiff, Nat.reduceLT]) ?_
      repeat first
        | with_reducible refine AWP.seq ?_
        | ((with_reducible refine AWP.region ?_ ?_); exact rfl)
        | with_reducible refine AWP.block ?_
        | with_reducible refine AWP.skip ?_
        | with_reducible refine AWP.exit ?_
        | with_reducible refine AWP.ret ?_
        | with_reducible refine AWP.label ?_
        | with_reducible refine AWP.goto ?_
        | ((with_reducible refine AWP.condT ?_ ?_); focus (simp only [ev, lk_cons, ↓reduceIte, Nat.reduceEqDiff]; done))
        | ((with_reducible refine AWP.condF ?_ ?_); focus (simp only [ev, lk_cons, ↓reduceIte, Nat.reduceEqDiff]; done))
        | simp only [go_sem, ↓reduceIte, Nat.reduceEqDiff, reduceCtorEq, Nat.reduceAdd, Int.reduceEq, Int.reduceBNe, Int.reduceBEq, Int.reduceToNat, Int.reduceLT, Int.reduceLE, Int.reduceGT, Int.reduceGE, Nat.reduceSub, Nat.reduceBEq, Nat.reduceBNe, Int.reduceAdd, Int.reduceSub, Int.reduceMul, Int.reduceNeg, Nat.reduceMul, Nat.reduceLeDiff, Nat.reduceLT, hi1, hil1, d1, hw1, d2, List.map_cons, List.map_nil]
        | simp (disch := omega) only [wi64, wu8, wu16, wu32, wu64, Int.tdiv_eq_ediv_of_nonneg, Int.tmod_eq_emod_of_nonneg]
        | with_reducible_and_instances exact finR
        | ((with_reducible refine finR' ?_ ?_) <;> rfl)
        | ((with_reducible refine finD hsc (NRel.of_plain ?_)); exact rfl)
      exact Weak.env (by simp [envIn, lk_cons, wth_some])
    · repeat first
        | with_reducible refine AWP.seq ?_
        | ((with_reducible refine AWP.region ?_ ?_); exact rfl)
        | with_reducible refine AWP.block ?_
        | with_reducible refine AWP.skip ?_
        | with_reducible refine AWP.exit ?_
        | with_reducible refine AWP.ret ?_
        | with_reducible refine AWP.label ?_
        | with_reducible refine AWP.goto ?_
        | ((with_reducible refine AWP.condT ?_ ?_); focus (simp only [ev, lk_cons, ↓reduceIte, Nat.reduceEqDiff]; done))
        | ((with_reducible refine AWP.condF ?_ ?_); focus (simp only [ev, lk_cons, ↓reduceIte, Nat.reduceEqDiff]; done))
        | simp only [go_sem, ↓reduceIte, Nat.reduceEqDiff, reduceCtorEq, Nat.reduceAdd, Int.reduceEq, Int.reduceBNe, Int.reduceBEq, Int.reduceToNat, Int.reduceLT, Int.reduceLE, Int.reduceGT, Int.reduceGE, Nat.reduceSub, Nat.reduceBEq, Nat.reduceBNe, Int.reduceAdd, Int.reduceSub, Int.reduceMul, Int.reduceNeg, Nat.reduceMul, Nat.reduceLeDiff, Nat.reduceLT, hi1, hil1, d1, List.map_cons, List.map_nil, exists_eq_left]
        | simp (disch := omega) only [wi64, wu8, wu16, wu32, wu64, Int.tdiv_eq_ediv_of_nonneg, Int.tmod_eq_emod_of_nonneg]
        | with_reducible_and_instances exact finR
        | ((with_reducible refine finR' ?_ ?_) <;> rfl)
        | ((with_reducible refine finD hsc (NRel.of_plain ?_)); exact rfl)
      exact Weak.env (by simp [envIn, lk_cons, wth_some])
  let J : ASt → Prop := fun st => ∃ H2 vn', st = ⟨[(0, .pointer (some ⟨i, 0, none⟩)), (1, .int .i64 now), (2, .int .i64 size), (3, .string (bs body)), (11, .int .i64 (max now s.free)), (12, .int .i64 s.kk)], [], H2⟩ ∧ LkP H2 i { s1 with nums := s.nums.tail } vn' vw vu us Su ∧ Frm [i] H H2
  repeat first
    | with_reducible refine AWP.seqE (x := .seq (.region 13 _ _) _) J ?_ ?_
    | with_reducible refine AWP.seq ?_
    | ((with_reducible refine AWP.region ?_ ?_); exact rfl)
    | with_reducible refine AWP.block ?_
    | with_reducible refine AWP.skip ?_
    | with_reducible refine AWP.exit ?_
    | with_reducible refine AWP.ret ?_
    | with_reducible refine AWP.label ?_
    | with_reducible refine AWP.goto ?_
    | ((with_reducible refine AWP.condT ?_ ?_); focus (simp only [ev, lk_cons, ↓reduceIte, Nat.reduceEqDiff]; done))
    | ((with_reducible refine AWP.condF ?_ ?_); focus (simp only [ev, lk_cons, ↓reduceIte, Nat.reduceEqDiff]; done))
    | simp only [go_sem, ↓reduceIte, Nat.reduceEqDiff, reduceCtorEq, Nat.reduceAdd, Int.reduceEq, Int.reduceBNe, Int.reduceBEq, Int.reduceToNat, Int.reduceLT, Int.reduceLE, Int.reduceGT, Int.reduceGE, Nat.reduceSub, Nat.reduceBEq, Nat.reduceBNe, Int.reduceAdd, Int.reduceSub, Int.reduceMul, Int.reduceNeg, Nat.reduceMul, Nat.reduceLeDiff, Nat.reduceLT, hi, hil, hl, h1, h2, h3, h4, q, hu, minMaxW]
    | simp (disch := omega) only [wi64, wu8, wu16, wu32, wu64, Int.tdiv_eq_ediv_of_nonneg, Int.tmod_eq_emod_of_nonneg]
    | with_reducible_and_instances exact finR
    | ((with_reducible refine finR' ?_ ?_) <;> rfl)
    | ((with_reducible refine finD hsc (NRel.of_plain ?_)); exact rfl)
  · cases hnums : s.nums with
    | nil =>
      rw [hnums] at q2
      repeat first
        | with_reducible refine AWP.seq ?_
        | ((with_reducible refine AWP.region ?_ ?_); exact rfl)
        | with_reducible refine AWP.block ?_
        | with_reducible refine AWP.skip ?_
        | with_reducible refine AWP.exit ?_
        | with_reducible refine AWP.ret ?_
        | with_reducible refine AWP.label ?_
        | with_reducible refine AWP.goto ?_
        | ((with_reducible refine AWP.condT ?_ ?_); focus (simp only [ev, lk_cons, ↓reduceIte, Nat.reduceEqDiff]; done))
        | ((with_reducible refine AWP.condF ?_ ?_); focus (simp only [ev, lk_cons, ↓reduceIte, Nat.reduceEqDiff]; done))
        | simp only [go_sem, ↓reduceIte, Nat.reduceEqDiff, reduceCtorEq, Nat.reduceAdd, Int.reduceEq, Int.reduceBNe, Int.reduceBEq, Int.reduceToNat, Int.reduceLT, Int.reduceLE, Int.reduceGT, Int.reduceGE, Nat.reduceSub, Nat.reduceBEq, Nat.reduceBNe, Int.reduceAdd, Int.reduceSub, Int.reduceMul, Int.reduceNeg, Nat.reduceMul, Nat.reduceLeDiff, Nat.reduceLT, hi1, hil1, q2, List.length_nil]
        | simp (disch := omega) only [wi64, wu8, wu16, wu32, wu64, Int.tdiv_eq_ediv_of_nonneg, Int.tmod_eq_emod_of_nonneg]
        | with_reducible_and_instances exact finR
        | ((with_reducible refine finR' ?_ ?_) <;> rfl)
        | ((with_reducible refine finD hsc (NRel.of_plain ?_)); exact rfl)
      refine ⟨_, ⟨H1, vn, rfl, ?_, hf1⟩, Weak.env (by simp [envIn, lk_cons, wth_some, Lk.kk, hnums])⟩
      have hpn := hp1.nums
      simp only [s1, hnums] at hpn
      exact ⟨hp1.at_, by simp only [hnums, List.tail_nil]; exact hpn, hp1.wait, hp1.und, hp1.own, hp1.give⟩
    | cons n nr =>
      have hpn := hp1.nums
      simp only [s1] at hpn
      rw [hnums] at hpn q2
      obtain ⟨j, o, cap, cs, k, rfl, hcap, hj, hg, hz, hm, hrd⟩ := hpn.tail
      have hjl := lt_of_get hj
      have hji : j ≠ i := fun e => by
        rw [e, hp1.at_] at hj
        cases hj
        simp [fixK, mutK] at hm
      have hn0 : (((nr.length + 1 : Nat) : Int) > 0) = True := by simp <;> omega
      repeat first
        | with_reducible refine AWP.seq ?_
        | ((with_reducible refine AWP.region ?_ ?_); exact rfl)
        | with_reducible refine AWP.block ?_
        | with_reducible refine AWP.skip ?_
        | with_reducible refine AWP.exit ?_
        | with_reducible refine AWP.ret ?_
        | with_reducible refine AWP.label ?_
        | with_reducible refine AWP.goto ?_
        | ((with_reducible refine AWP.condT ?_ ?_); focus (simp only [ev, lk_cons, ↓reduceIte, Nat.reduceEqDiff]; done))
        | ((with_reducible refine AWP.condF ?_ ?_); focus (simp only [ev, lk_cons, ↓reduceIte, Nat.reduceEqDiff]; done))
        | simp only [go_sem, ↓reduceIte, Nat.reduceEqDiff, reduceCtorEq, Nat.reduceAdd, Int.reduceEq, Int.reduceBNe, Int.reduceBEq, Int.reduceToNat, Int.reduceLT, Int.reduceLE, Int.reduceGT, Int.reduceGE, Nat.reduceSub, Nat.reduceBEq, Nat.reduceBNe, Int.reduceAdd, Int.reduceSub, Int.reduceMul, Int.reduceNeg, Nat.reduceMul, Nat.reduceLeDiff, Nat.reduceLT, hi1, hil1, q2, hn0]
        | simp (disch := omega) only [wi64, wu8, wu16, wu32, wu64, Int.tdiv_eq_ediv_of_nonneg, Int.tmod_eq_emod_of_nonneg]
        | with_reducible_and_instances exact finR
        | ((with_reducible refine finR' ?_ ?_) <;> rfl)
        | ((with_reducible refine finD hsc (NRel.of_plain ?_)); exact rfl)
      refine AWP.regionK 13 (by kernel_rfl) (by decide) (by kernel_rfl) ?_
      repeat first
        | with_reducible refine AWP.seq ?_
        | ((with_reducible refine AWP.region ?_ ?_); exact rfl)
        | with_reducible refine AWP.block ?_
        | with_reducible refine AWP.skip ?_
        | with_reducible refine AWP.exit ?_
        | with_reducible refine AWP.ret ?_
        | with_reducible refine AWP.label ?_
        | with_reducible refine AWP.goto ?_
        | ((with_reducible refine AWP.condT ?_ ?_); focus (simp only [ev, lk_cons, ↓reduceIte, Nat.reduceEqDiff]; done))
        | ((with_reducible refine AWP.condF ?_ ?_); focus (simp only [ev, lk_cons, ↓reduceIte, Nat.reduceEqDiff]; done))
        | simp only [go_sem, ↓reduceIte, Nat.reduceEqDiff, reduceCtorEq, Nat.reduceAdd, Int.reduceEq, Int.reduceBNe, Int.reduceBEq, Int.reduceToNat, Int.reduceLT, Int.reduceLE, Int.reduceGT, Int.reduceGE, Nat.reduceSub, Nat.reduceBEq, Nat.reduceBNe, Int.reduceAdd, Int.reduceSub, Int.reduceMul, Int.reduceNeg, Nat.reduceMul, Nat.reduceLeDiff, Nat.reduceLT, hi1, hil1, hj, hjl, hg, List.map_cons, List.map_nil]
        | simp (disch := omega) only [wi64, wu8, wu16, wu32, wu64, Int.tdiv_eq_ediv_of_nonneg, Int.tmod_eq_emod_of_nonneg]
        | with_reducible_and_instances exact finR
        | ((with_reducible refine finR' ?_ ?_) <;> rfl)
        | ((with_reducible refine finD hsc (NRel.of_plain ?_)); exact rfl)
      have hf12 : ∀ o, Frm [i] H1 (H1.set i o) := fun o => Frm.set (.refl _ _) (.inl (by simp))
      have hm1 : Mut H1 [i] := fun t ht => by rw [List.mem_singleton.1 ht]; exact ⟨_, _, hp1.at_, rfl⟩
      refine ⟨by omega, by omega, by omega, hz, _, ⟨_, .slice (some ⟨j, o + 1, none⟩) nr.length (cap - 1), rfl, hp1.to2 (hf12 _) (hset_self hil1) (RdF.fix (by simp only [hnums, List.tail_cons]; exact hrd) (Frm.fix (hf12 _) hm1)) (hp1.wait.fix (Frm.fix (hf12 _) hm1)) rfl, hf1.trans (hf12 _) fun t ht => .inl ht⟩, ?_⟩
      exact Weak.env (by simp [envIn, lk_cons, wth_some, Lk.kk, hnums])
  rintro st2 ⟨H2, vn2, rfl, hp2, hf2⟩
  have hgone := gone s.pipe hB.pipe size (by omega) (by omega)
  have hi2 := hp2.at_
  have hil2 := lt_of_get hi2
  unfold Lk.c at hi2
  have hfr := hB.free
  have hgb : 0 ≤ s.pipe.gone size ∧ s.pipe.gone size ≤ 101000000 := by
    obtain ⟨-, hr, -⟩ := s.pipe.ok_iff.1 hB.pipe
    unfold Pp.gone
    refine ⟨Int.ediv_nonneg (by omega) (by omega), ?_⟩
    have := Int.ediv_le_self (a := size * 1000 + s.pipe.rate - 1) s.pipe.rate (by omega)
    omega
  have hid := hB.id
  have hpt := hB.put
  have w1 : IntKind.i64.wrap (s.id + 1) = s.id + 1 := wi64 (by omega)
  have w2 : IntKind.i64.wrap (s.put + 1) = s.put + 1 := wi64 (by omega)
  have w3 : IntKind.i64.wrap (max now s.free + s.pipe.gone size) = max now s.free + s.pipe.gone size := wi64 (by omega)
  unfold Pp.c at hgone
  let s3 : Lk := { s1 with nums := s.nums.tail, id := s.id + 1, put := s.put + 1, free := max now s.free + s.pipe.gone size }
  let H3 : AHeap := H2.set i (.cells (s3.c vn2 vw vu) ⟨52, 0, true, 0, none⟩)
  have hH3 : H3 = H2.set i (.cells (s3.c vn2 vw vu) ⟨52, 0, true, 0, none⟩) := rfl
  have hf23 : Frm [i] H2 H3 := Frm.set (.refl _ _) (.inl (by simp))
  have hp3 : LkP H3 i s3 vn2 vw vu us Su := hp2.to' hf23 (hset_self hil2) rfl rfl rfl
  unfold Lk.c at hH3
  simp only [s3, s1] at hH3
  simp only [s1] at hi2
  let J2 : ASt → Prop := fun st => ∃ H4 vw', st = ⟨[(0, .pointer (some ⟨i, 0, none⟩)), (1, .int .i64 now), (2, .int .i64 size), (3, .string (bs body)), (11, .int .i64 (max now s.free)), (12, .int .i64 s.kk)], [], H4⟩ ∧ LkP H4 i { s3 with wait := wq s.wait now ++ [(max now s.free, size)] } vn2 vw' vu us Su ∧ Frm [i] H H4
  repeat first
    | with_reducible refine AWP.seqE (x := .region 18 _ _) J2 ?_ ?_
    | with_reducible refine AWP.seq ?_
    | ((with_reducible refine AWP.region ?_ ?_); exact rfl)
    | with_reducible refine AWP.block ?_
    | with_reducible refine AWP.skip ?_
    | with_reducible refine AWP.exit ?_
    | with_reducible refine AWP.ret ?_
    | with_reducible refine AWP.label ?_
    | with_reducible refine AWP.goto ?_
    | ((with_reducible refine AWP.condT ?_ ?_); focus (simp only [ev, lk_cons, ↓reduceIte, Nat.reduceEqDiff]; done))
    | ((with_reducible refine AWP.condF ?_ ?_); focus (simp only [ev, lk_cons, ↓reduceIte, Nat.reduceEqDiff]; done))
    | with_reducible refine (hgone _).use ?_
    | simp only [go_sem, ↓reduceIte, Nat.reduceEqDiff, reduceCtorEq, Nat.reduceAdd, Int.reduceEq, Int.reduceBNe, Int.reduceBEq, Int.reduceToNat, Int.reduceLT, Int.reduceLE, Int.reduceGT, Int.reduceGE, Nat.reduceSub, Nat.reduceBEq, Nat.reduceBNe, Int.reduceAdd, Int.reduceSub, Int.reduceMul, Int.reduceNeg, Nat.reduceMul, Nat.reduceLeDiff, Nat.reduceLT, hi2, hil2, w1, w2, w3, hset_set, List.length_set]
    | simp (disch := omega) only [wi64, wu8, wu16, wu32, wu64, Int.tdiv_eq_ediv_of_nonneg, Int.tmod_eq_emod_of_nonneg]
    | with_reducible_and_instances exact finR
    | ((with_reducible refine finR' ?_ ?_) <;> rfl)
    | ((with_reducible refine finD hsc (NRel.of_plain ?_)); exact rfl)
  · rw [← hH3]
    have hi3 := hp3.at_
    have hil3 := lt_of_get hi3
    unfold Lk.c at hi3
    simp only [s3, s1] at hi3
    have hcol := Collect 37 [.pointer (some ⟨H3.length, 0, none⟩), .pointer (some ⟨H3.length + 1, 0, none⟩)] (wq s.wait now) (by omega) (QOk s3 i H3.length (H3.length + 1) now vw) (H3 ++ [.cells [.pointer (some ⟨i, 0, none⟩)] ⟨28, 0, true, 0, none⟩, .cells [.int .i64 now] ⟨3, 0, true, 0, none⟩])
      (queue1 s3 i H3.length (H3.length + 1) now vw (by show s.wait.length < _; omega)) (fun X => by
        rw [List.append_assoc]
        exact ⟨hget0 rfl, hgetk rfl, ⟨vn2, vu, by rw [hgetl hil3]; exact hp3.at_⟩, hp3.wait.fix (Fix.more _ _)⟩)
    refine (queue H3 i now).use ?_
    repeat first
      | with_reducible refine AWP.seq ?_
      | ((with_reducible refine AWP.region ?_ ?_); exact rfl)
      | with_reducible refine AWP.block ?_
      | with_reducible refine AWP.skip ?_
      | with_reducible refine AWP.exit ?_
      | with_reducible refine AWP.ret ?_
      | with_reducible refine AWP.label ?_
      | with_reducible refine AWP.goto ?_
      | ((with_reducible refine AWP.condT ?_ ?_); focus (simp only [ev, lk_cons, ↓reduceIte, Nat.reduceEqDiff]; done))
      | ((with_reducible refine AWP.condF ?_ ?_); focus (simp only [ev, lk_cons, ↓reduceIte, Nat.reduceEqDiff]; done))
      | with_reducible refine hcol.use ?_
      | simp only [go_sem, ↓reduceIte, Nat.reduceEqDiff, reduceCtorEq, Nat.reduceAdd, Int.reduceEq, Int.reduceBNe, Int.reduceBEq, Int.reduceToNat, Int.reduceLT, Int.reduceLE, Int.reduceGT, Int.reduceGE, Nat.reduceSub, Nat.reduceBEq, Nat.reduceBNe, Int.reduceAdd, Int.reduceSub, Int.reduceMul, Int.reduceNeg, Nat.reduceMul, Nat.reduceLeDiff, Nat.reduceLT, hi3, hil3, hgetl]
      | simp (disch := omega) only [wi64, wu8, wu16, wu32, wu64, Int.tdiv_eq_ediv_of_nonneg, Int.tmod_eq_emod_of_nonneg]
      | with_reducible_and_instances exact finR
      | ((with_reducible refine finR' ?_ ?_) <;> rfl)
      | ((with_reducible refine finD hsc (NRel.of_plain ?_)); exact rfl)
    refine appendTo_gm (l := wsC (wq s.wait now)) (by with_unfolding_all first | exact (hget0 rfl).trans rfl | exact (hgetk rfl).trans rfl) (by decide) (by rw [wsC_len]) (by omega) (by omega) ?_
    repeat first
      | with_reducible refine AWP.seq ?_
      | ((with_reducible refine AWP.region ?_ ?_); exact rfl)
      | with_reducible refine AWP.block ?_
      | with_reducible refine AWP.skip ?_
      | with_reducible refine AWP.exit ?_
      | with_reducible refine AWP.ret ?_
      | with_reducible refine AWP.label ?_
      | with_reducible refine AWP.goto ?_
      | ((with_reducible refine AWP.condT ?_ ?_); focus (simp only [ev, lk_cons, ↓reduceIte, Nat.reduceEqDiff]; done))
      | ((with_reducible refine AWP.condF ?_ ?_); focus (simp only [ev, lk_cons, ↓reduceIte, Nat.reduceEqDiff]; done))
      | simp only [go_sem, ↓reduceIte, Nat.reduceEqDiff, reduceCtorEq, Nat.reduceAdd, Int.reduceEq, Int.reduceBNe, Int.reduceBEq, Int.reduceToNat, Int.reduceLT, Int.reduceLE, Int.reduceGT, Int.reduceGE, Nat.reduceSub, Nat.reduceBEq, Nat.reduceBNe, Int.reduceAdd, Int.reduceSub, Int.reduceMul, Int.reduceNeg, Nat.reduceMul, Nat.reduceLeDiff, Nat.reduceLT, hi3, hil3, hgetl, hsetl]
      | simp (disch := omega) only [wi64, wu8, wu16, wu32, wu64, Int.tdiv_eq_ediv_of_nonneg, Int.tmod_eq_emod_of_nonneg]
      | with_reducible_and_instances exact finR
      | ((with_reducible refine finR' ?_ ?_) <;> rfl)
      | ((with_reducible refine finD hsc (NRel.of_plain ?_)); exact rfl)
    have hf34 : ∀ o X, Frm [i] H3 (H3.set i o ++ X) := fun o X => Frm.more (Frm.set (.refl _ _) (.inl (by simp)))
    have hm3 : Mut H3 [i] := fun t ht => by rw [List.mem_singleton.1 ht]; exact ⟨_, _, hp3.at_, rfl⟩
    refine ⟨_, ⟨_, .slice (some ⟨H3.length + 4, 0, none⟩) ((wq s.wait now).length + 1) ((wq s.wait now).length + 1), rfl, hp3.to2 (hf34 _ _) ((hgetl (by rw [List.length_set]; exact hil3)).trans (hset_self hil3)) (hp3.nums.fix (Frm.fix (hf34 _ _) hm3)) ?_ rfl, (hf2.trans hf23 fun t ht => .inl ht).trans (hf34 _ _) fun t ht => .inl ht⟩, Weak.env (by simp [envIn, lk_cons, wth_some])⟩
    have e : (wq s.wait now ++ [(max now s.free, size)]).length = (wq s.wait now).length + 1 := by simp
    rw [← e]
    refine rd_ws (k := ⟨57, 2, true, 0, none⟩) ?_ rfl (.inl rfl) (Nat.le_refl _)
    rw [wsC_snoc]
    exact (hgetk (by rw [List.length_set])).trans rfl
  rintro st4 ⟨H4, vw4, rfl, hp4, hf4⟩
  have hi4 := hp4.at_
  have hil4 := lt_of_get hi4
  unfold Lk.c at hi4
  simp only [s3, s1] at hi4
  have hkk : 0 ≤ s.kk ∧ s.kk ≤ 999999999 := by
    unfold Lk.kk
    cases hnn : s.nums with
    | nil => simp
    | cons n l => exact hB.nums n (by rw [hnn]; exact List.mem_cons_self ..)
  obtain ⟨hpd, -, -, -, -, hpj⟩ := s.pipe.ok_iff.1 hB.pipe
  have hgpos := hgb
  generalize hg0 : s.pipe.gone size = gg at *
  have v1 : s.kk.tdiv 10000 = s.kk / 10000 := Int.tdiv_eq_ediv_of_nonneg (by omega)
  have v2 : IntKind.i64.wrap (s.kk / 10000) = s.kk / 10000 := wi64 (by omega)
  have v3 : IntKind.i64.wrap (s.pipe.jit + 1) = s.pipe.jit + 1 := wi64 (by omega)
  have v4 : (s.kk / 10000).tmod (s.pipe.jit + 1) = s.kk / 10000 % (s.pipe.jit + 1) := Int.tmod_eq_emod_of_nonneg (by omega)
  have v5 : s.pipe.jit + 1 ≠ 0 := by omega
  have v6 : 0 ≤ s.kk / 10000 % (s.pipe.jit + 1) ∧ s.kk / 10000 % (s.pipe.jit + 1) < 1001 := ⟨Int.emod_nonneg _ v5, by have := Int.emod_lt_of_pos (s.kk / 10000) (b := s.pipe.jit + 1) (by omega); omega⟩
  have v7 : IntKind.i64.wrap (max now s.free + gg + s.pipe.delay) = max now s.free + gg + s.pipe.delay := wi64 (by omega)
  have v8 : IntKind.i64.wrap (max now s.free + gg + s.pipe.delay + s.kk / 10000 % (s.pipe.jit + 1)) = max now s.free + gg + s.pipe.delay + s.kk / 10000 % (s.pipe.jit + 1) := wi64 (by omega)
  let J3 : ASt → Prop := fun st => st = ⟨[(0, .pointer (some ⟨i, 0, none⟩)), (12, .int .i64 s.kk), (13, .pointer (some ⟨H4.length, 0, none⟩))], [], H4 ++ [.cells (s.pk now size body).c ⟨44, 0, true, 0, none⟩]⟩
  repeat first
    | with_reducible refine AWP.seqE (x := .region 19 _ _) J3 ?_ ?_
    | with_reducible refine AWP.seq ?_
    | ((with_reducible refine AWP.region ?_ ?_); exact rfl)
    | with_reducible refine AWP.block ?_
    | with_reducible refine AWP.skip ?_
    | with_reducible refine AWP.exit ?_
    | with_reducible refine AWP.ret ?_
    | with_reducible refine AWP.label ?_
    | with_reducible refine AWP.goto ?_
    | ((with_reducible refine AWP.condT ?_ ?_); focus (simp only [ev, lk_cons, ↓reduceIte, Nat.reduceEqDiff]; done))
    | ((with_reducible refine AWP.condF ?_ ?_); focus (simp only [ev, lk_cons, ↓reduceIte, Nat.reduceEqDiff]; done))
    | simp only [go_sem, ↓reduceIte, Nat.reduceEqDiff, reduceCtorEq, Nat.reduceAdd, Int.reduceEq, Int.reduceBNe, Int.reduceBEq, Int.reduceToNat, Int.reduceLT, Int.reduceLE, Int.reduceGT, Int.reduceGE, Nat.reduceSub, Nat.reduceBEq, Nat.reduceBNe, Int.reduceAdd, Int.reduceSub, Int.reduceMul, Int.reduceNeg, Nat.reduceMul, Nat.reduceLeDiff, Nat.reduceLT, hi4, hil4]
    | simp (disch := omega) only [wi64, wu8, wu16, wu32, wu64, Int.tdiv_eq_ediv_of_nonneg, Int.tmod_eq_emod_of_nonneg]
    | with_reducible_and_instances exact finR
    | ((with_reducible refine finR' ?_ ?_) <;> rfl)
    | ((with_reducible refine finD hsc (NRel.of_plain ?_)); exact rfl)
  · refine AWP.regionF 30 29 [0, 1, 2, 3, 4, 5, 6, 7, 8, 9, 10, 11, 12, 13, 14, 15, 16, 17, 18, 19, 20, 21, 22, 23, 24, 25, 26, 27, 28] (by kernel_rfl) (by decide) (by kernel_rfl) (by kernel_rfl) rfl ?_
    repeat first
      | with_reducible refine AWP.seq ?_
      | ((with_reducible refine AWP.region ?_ ?_); exact rfl)
      | with_reducible refine AWP.block ?_
      | with_reducible refine AWP.skip ?_
      | with_reducible refine AWP.exit ?_
      | with_reducible refine AWP.ret ?_
      | with_reducible refine AWP.label ?_
      | with_reducible refine AWP.goto ?_
      | ((with_reducible refine AWP.condT ?_ ?_); focus (simp only [ev, lk_cons, ↓reduceIte, Nat.reduceEqDiff]; done))
      | ((with_reducible refine AWP.condF ?_ ?_); focus (simp only [ev, lk_cons, ↓reduceIte, Nat.reduceEqDiff]; done))
      | simp only [go_sem, ↓reduceIte, Nat.reduceEqDiff, reduceCtorEq, Nat.reduceAdd, Int.reduceEq, Int.reduceBNe, Int.reduceBEq, Int.reduceToNat, Int.reduceLT, Int.reduceLE, Int.reduceGT, Int.reduceGE, Nat.reduceSub, Nat.reduceBEq, Nat.reduceBNe, Int.reduceAdd, Int.reduceSub, Int.reduceMul, Int.reduceNeg, Nat.reduceMul, Nat.reduceLeDiff, Nat.reduceLT, hi4, hil4, hgetl, v1, v2, v3, v4, v5, v7, v8, keepW, dstV, exists_eq_left, pickO, List.map_cons, List.map_nil]
      | simp (disch := omega) only [wi64, wu8, wu16, wu32, wu64, Int.tdiv_eq_ediv_of_nonneg, Int.tmod_eq_emod_of_nonneg]
      | with_reducible_and_instances exact finR
      | ((with_reducible refine finR' ?_ ?_) <;> rfl)
      | ((with_reducible refine finD hsc (NRel.of_plain ?_)); exact rfl)
    have hpc : (s.pk now size body).c = [.int .i64 (s.id + 1), .int .i64 size, .int .i64 now, .int .i64 (max now s.free), .int .i64 (max now s.free + gg + s.pipe.delay + s.kk / 10000 % (s.pipe.jit + 1)), .string (bs body)] := by simp only [Lk.pk, Pc.c, hg0]
    refine ⟨_, rfl, ?_⟩
    rw [hpc]
    exact Weak.env (by simp [envIn, lk_cons, wth_some])
  intro st5 hst5
  simp only [J3] at hst5
  subst hst5
  let H5 : AHeap := H4 ++ [.cells (s.pk now size body).c ⟨44, 0, true, 0, none⟩]
  have hH5 : H5 = H4 ++ [.cells (s.pk now size body).c ⟨44, 0, true, 0, none⟩] := rfl
  have hf45 : Frm [] H4 H5 := Frm.app
  have hp5 := hp4.beside hf45 (.nil _) (by simp)
  have hf5 : Frm [i] H H5 := hf4.trans hf45 (by simp)
  have hbx : H5[H4.length]? = some (.cells (s.pk now size body).c ⟨44, 0, true, 0, none⟩) := hget0 rfl
  have hbl := lt_of_get hbx
  have hgx : Gv H5 (.func (.func 22) ⟨[]⟩ ⟨[.pointer (some ⟨H4.length, 0, none⟩)]⟩) (s.pk now size body).cm.p := .one hbx rfl
  have hpt2 : 0 ≤ (s.pk now size body).time ∧ (s.pk now size body).time < 1152921504606846976 := by
    simp only [Lk.pk, hg0]; omega
  have hA5 : LkAt H5 i _ (i :: Su) := ⟨_, _, _, _, _, hp5, rfl⟩
  have hbS : H4.length ∉ i :: Su := fun hm => by
    have h1 := hf4.1
    rcases List.mem_cons.1 hm with e | hm
    · omega
    · have := hp.own.lt _ hm; omega
  have hfate := fate hA5 s.kk (by omega)
  have hfates := fates H5
  have hcm : cmC ((s.pk now size body).cm, .func (.func 22) ⟨[]⟩ ⟨[.pointer (some ⟨H4.length, 0, none⟩)]⟩) = [.int .i64 (s.pk now size body).time, .int .i64 (s.pk now size body).id, .int .i64 0, .func (.func 22) ⟨[]⟩ ⟨[.pointer (some ⟨H4.length, 0, none⟩)]⟩] := rfl
  have hbx' := hbx
  unfold Pc.c at hbx'
  have fin : ∀ s5 H6, LkTo H5 i (i :: Su) s5 H6 → s5 = s.putS now size body → (∃ k cs, H6[H4.length]? = some (.cells cs k) ∧ cs[0]? = some (.int .i64 (s.id + 1))) ∧ LkTo H i (i :: Su) (s.putS now size body) H6 := fun s5 H6 ht e => by
    subst e
    refine ⟨?_, LkTo.trans (hf5.mono fun t ht => by rw [List.mem_singleton.1 ht]; exact List.mem_cons_self ..) (fun t ht => .inl ht) ht⟩
    obtain ⟨S6, -, hf6, -⟩ := ht
    exact ⟨_, _, hf6.get hbx hbS, rfl⟩
  repeat first
    | with_reducible refine AWP.seq ?_
    | ((with_reducible refine AWP.region ?_ ?_); exact rfl)
    | with_reducible refine AWP.block ?_
    | with_reducible refine AWP.skip ?_
    | with_reducible refine AWP.exit ?_
    | with_reducible refine AWP.ret ?_
    | with_reducible refine AWP.label ?_
    | with_reducible refine AWP.goto ?_
    | ((with_reducible refine AWP.condT ?_ ?_); focus (simp only [ev, lk_cons, ↓reduceIte, Nat.reduceEqDiff]; done))
    | ((with_reducible refine AWP.condF ?_ ?_); focus (simp only [ev, lk_cons, ↓reduceIte, Nat.reduceEqDiff]; done))
    | simp only [go_sem, ↓reduceIte, Nat.reduceEqDiff, reduceCtorEq, Nat.reduceAdd, Int.reduceEq, Int.reduceBNe, Int.reduceBEq, Int.reduceToNat, Int.reduceLT, Int.reduceLE, Int.reduceGT, Int.reduceGE, Nat.reduceSub, Nat.reduceBEq, Nat.reduceBNe, Int.reduceAdd, Int.reduceSub, Int.reduceMul, Int.reduceNeg, Nat.reduceMul, Nat.reduceLeDiff, Nat.reduceLT]
    | simp (disch := omega) only [wi64, wu8, wu16, wu32, wu64, Int.tdiv_eq_ediv_of_nonneg, Int.tmod_eq_emod_of_nonneg]
    | with_reducible_and_instances exact finR
    | ((with_reducible refine finR' ?_ ?_) <;> rfl)
    | ((with_reducible refine finD hsc (NRel.of_plain ?_)); exact rfl)
  rw [← hH5]
  by_cases f1 : s.pipe.fate s.kk = 1
  · rw [show ({ s3 with wait := wq s.wait now ++ [(max now s.free, size)] } : Lk).pipe = s.pipe from rfl, f1] at hfate
    have hL := lost hA5 ⟨hB.lost.1, Int.lt_trans hB.lost.2 (by decide)⟩ (cmC ((s.pk now size body).cm, .func (.func 22) ⟨[]⟩ ⟨[.pointer (some ⟨H4.length, 0, none⟩)]⟩))
    rw [hcm] at hL
    refine AWP.regionK 12 (by kernel_rfl) (by decide) (by kernel_rfl) ?_
    repeat first
      | with_reducible refine AWP.seq ?_
      | ((with_reducible refine AWP.region ?_ ?_); exact rfl)
      | with_reducible refine AWP.block ?_
      | with_reducible refine AWP.skip ?_
      | with_reducible refine AWP.exit ?_
      | with_reducible refine AWP.ret ?_
      | with_reducible refine AWP.label ?_
      | with_reducible refine AWP.goto ?_
      | ((with_reducible refine AWP.condT ?_ ?_); focus (simp only [ev, lk_cons, ↓reduceIte, Nat.reduceEqDiff]; done))
      | ((with_reducible refine AWP.condF ?_ ?_); focus (simp only [ev, lk_cons, ↓reduceIte, Nat.reduceEqDiff]; done))
      | simp only [go_sem, ↓reduceIte, Nat.reduceEqDiff, reduceCtorEq, Nat.reduceAdd, Int.reduceEq, Int.reduceBNe, Int.reduceBEq, Int.reduceToNat, Int.reduceLT, Int.reduceLE, Int.reduceGT, Int.reduceGE, Nat.reduceSub, Nat.reduceBEq, Nat.reduceBNe, Int.reduceAdd, Int.reduceSub, Int.reduceMul, Int.reduceNeg, Nat.reduceMul, Nat.reduceLeDiff, Nat.reduceLT, List.map_cons, List.map_nil]
      | simp (disch := omega) only [wi64, wu8, wu16, wu32, wu64, Int.tdiv_eq_ediv_of_nonneg, Int.tmod_eq_emod_of_nonneg]
      | with_reducible_and_instances exact finR
      | ((with_reducible refine finR' ?_ ?_) <;> rfl)
      | ((with_reducible refine finD hsc (NRel.of_plain ?_)); exact rfl)
    refine ARet.exq (hfates) (by simp only [go_sem, ↓reduceIte, Nat.reduceEqDiff, reduceCtorEq, Nat.reduceAdd, Int.reduceEq, Int.reduceBNe, Int.reduceBEq, Int.reduceToNat, Int.reduceLT, Int.reduceLE, Int.reduceGT, Int.reduceGE, Nat.reduceSub, Nat.reduceBEq, Nat.reduceBNe, Int.reduceAdd, Int.reduceSub, Int.reduceMul, Int.reduceNeg, Nat.reduceMul, Nat.reduceLeDiff, Nat.reduceLT]) ?_
    repeat first
      | with_reducible refine AWP.seq ?_
      | ((with_reducible refine AWP.region ?_ ?_); exact rfl)
      | with_reducible refine AWP.block ?_
      | with_reducible refine AWP.skip ?_
      | with_reducible refine AWP.exit ?_
      | with_reducible refine AWP.ret ?_
      | with_reducible refine AWP.label ?_
      | with_reducible refine AWP.goto ?_
      | ((with_reducible refine AWP.condT ?_ ?_); focus (simp only [ev, lk_cons, ↓reduceIte, Nat.reduceEqDiff]; done))
      | ((with_reducible refine AWP.condF ?_ ?_); focus (simp only [ev, lk_cons, ↓reduceIte, Nat.reduceEqDiff]; done))
      | simp only [go_sem, ↓reduceIte, Nat.reduceEqDiff, reduceCtorEq, Nat.reduceAdd, Int.reduceEq, Int.reduceBNe, Int.reduceBEq, Int.reduceToNat, Int.reduceLT, Int.reduceLE, Int.reduceGT, Int.reduceGE, Nat.reduceSub, Nat.reduceBEq, Nat.reduceBNe, Int.reduceAdd, Int.reduceSub, Int.reduceMul, Int.reduceNeg, Nat.reduceMul, Nat.reduceLeDiff, Nat.reduceLT, List.map_cons, List.map_nil]
      | simp (disch := omega) only [wi64, wu8, wu16, wu32, wu64, Int.tdiv_eq_ediv_of_nonneg, Int.tmod_eq_emod_of_nonneg]
      | with_reducible_and_instances exact finR
      | ((with_reducible refine finR' ?_ ?_) <;> rfl)
      | ((with_reducible refine finD hsc (NRel.of_plain ?_)); exact rfl)
    refine ARet.exq (hfate) (by simp only [go_sem, ↓reduceIte, Nat.reduceEqDiff, reduceCtorEq, Nat.reduceAdd, Int.reduceEq, Int.reduceBNe, Int.reduceBEq, Int.reduceToNat, Int.reduceLT, Int.reduceLE, Int.reduceGT, Int.reduceGE, Nat.reduceSub, Nat.reduceBEq, Nat.reduceBNe, Int.reduceAdd, Int.reduceSub, Int.reduceMul, Int.reduceNeg, Nat.reduceMul, Nat.reduceLeDiff, Nat.reduceLT]) ?_
    repeat first
      | with_reducible refine AWP.seq ?_
      | ((with_reducible refine AWP.region ?_ ?_); exact rfl)
      | with_reducible refine AWP.block ?_
      | with_reducible refine AWP.skip ?_
      | with_reducible refine AWP.exit ?_
      | with_reducible refine AWP.ret ?_
      | with_reducible refine AWP.label ?_
      | with_reducible refine AWP.goto ?_
      | ((with_reducible refine AWP.condT ?_ ?_); focus (simp only [ev, lk_cons, ↓reduceIte, Nat.reduceEqDiff]; done))
      | ((with_reducible refine AWP.condF ?_ ?_); focus (simp only [ev, lk_cons, ↓reduceIte, Nat.reduceEqDiff]; done))
      | simp only [go_sem, ↓reduceIte, Nat.reduceEqDiff, reduceCtorEq, Nat.reduceAdd, Int.reduceEq, Int.reduceBNe, Int.reduceBEq, Int.reduceToNat, Int.reduceLT, Int.reduceLE, Int.reduceGT, Int.reduceGE, Nat.reduceSub, Nat.reduceBEq, Nat.reduceBNe, Int.reduceAdd, Int.reduceSub, Int.reduceMul, Int.reduceNeg, Nat.reduceMul, Nat.reduceLeDiff, Nat.reduceLT, hbx', hbl, List.map_cons, List.map_nil]
      | simp (disch := omega) only [wi64, wu8, wu16, wu32, wu64, Int.tdiv_eq_ediv_of_nonneg, Int.tmod_eq_emod_of_nonneg]
      | with_reducible_and_instances exact finR
      | ((with_reducible refine finR' ?_ ?_) <;> rfl)
      | ((with_reducible refine finD hsc (NRel.of_plain ?_)); exact rfl)
    refine hL.use fun H6 ht => ?_
    obtain ⟨⟨k6, cs6, hb6, hc6⟩, hfin⟩ := fin _ H6 ht (by
      simp only [Lk.putS, Lk.coms, if_pos f1, f1]
      simp [s3, s1, hg0])
    repeat first
      | with_reducible refine AWP.seq ?_
      | ((with_reducible refine AWP.region ?_ ?_); exact rfl)
      | with_reducible refine AWP.block ?_
      | with_reducible refine AWP.skip ?_
      | with_reducible refine AWP.exit ?_
      | with_reducible refine AWP.ret ?_
      | with_reducible refine AWP.label ?_
      | with_reducible refine AWP.goto ?_
      | ((with_reducible refine AWP.condT ?_ ?_); focus (simp only [ev, lk_cons, ↓reduceIte, Nat.reduceEqDiff]; done))
      | ((with_reducible refine AWP.condF ?_ ?_); focus (simp only [ev, lk_cons, ↓reduceIte, Nat.reduceEqDiff]; done))
      | simp only [go_sem, ↓reduceIte, Nat.reduceEqDiff, reduceCtorEq, Nat.reduceAdd, Int.reduceEq, Int.reduceBNe, Int.reduceBEq, Int.reduceToNat, Int.reduceLT, Int.reduceLE, Int.reduceGT, Int.reduceGE, Nat.reduceSub, Nat.reduceBEq, Nat.reduceBNe, Int.reduceAdd, Int.reduceSub, Int.reduceMul, Int.reduceNeg, Nat.reduceMul, Nat.reduceLeDiff, Nat.reduceLT, hb6, hc6]
      | simp (disch := omega) only [wi64, wu8, wu16, wu32, wu64, Int.tdiv_eq_ediv_of_nonneg, Int.tmod_eq_emod_of_nonneg]
      | with_reducible_and_instances exact finR
      | ((with_reducible refine finR' ?_ ?_) <;> rfl)
      | ((with_reducible refine finD hsc (NRel.of_plain ?_)); exact rfl)
    exact ⟨_, _, .refl _ _ _, rfl, hfin⟩
  by_cases f2 : s.pipe.fate s.kk = 2
  · rw [show ({ s3 with wait := wq s.wait now ++ [(max now s.free, size)] } : Lk).pipe = s.pipe from rfl, f2] at hfate
    have hL := twice hA5 (by have := hB.underL; show s.under.length < _; omega) ⟨hB.dbl.1, Int.lt_trans hB.dbl.2 (by decide)⟩ (s.pk now size body).cm hpt2 H4.length _ hbx rfl
    rw [hcm] at hL
    refine AWP.regionK 12 (by kernel_rfl) (by decide) (by kernel_rfl) ?_
    repeat first
      | with_reducible refine AWP.seq ?_
      | ((with_reducible refine AWP.region ?_ ?_); exact rfl)
      | with_reducible refine AWP.block ?_
      | with_reducible refine AWP.skip ?_
      | with_reducible refine AWP.exit ?_
      | with_reducible refine AWP.ret ?_
      | with_reducible refine AWP.label ?_
      | with_reducible refine AWP.goto ?_
      | ((with_reducible refine AWP.condT ?_ ?_); focus (simp only [ev, lk_cons, ↓reduceIte, Nat.reduceEqDiff]; done))
      | ((with_reducible refine AWP.condF ?_ ?_); focus (simp only [ev, lk_cons, ↓reduceIte, Nat.reduceEqDiff]; done))
      | simp only [go_sem, ↓reduceIte, Nat.reduceEqDiff, reduceCtorEq, Nat.reduceAdd, Int.reduceEq, Int.reduceBNe, Int.reduceBEq, Int.reduceToNat, Int.reduceLT, Int.reduceLE, Int.reduceGT, Int.reduceGE, Nat.reduceSub, Nat.reduceBEq, Nat.reduceBNe, Int.reduceAdd, Int.reduceSub, Int.reduceMul, Int.reduceNeg, Nat.reduceMul, Nat.reduceLeDiff, Nat.reduceLT, List.map_cons, List.map_nil]
      | simp (disch := omega) only [wi64, wu8, wu16, wu32, wu64, Int.tdiv_eq_ediv_of_nonneg, Int.tmod_eq_emod_of_nonneg]
      | with_reducible_and_instances exact finR
      | ((with_reducible refine finR' ?_ ?_) <;> rfl)
      | ((with_reducible refine finD hsc (NRel.of_plain ?_)); exact rfl)
    refine ARet.exq (hfates) (by simp only [go_sem, ↓reduceIte, Nat.reduceEqDiff, reduceCtorEq, Nat.reduceAdd, Int.reduceEq, Int.reduceBNe, Int.reduceBEq, Int.reduceToNat, Int.reduceLT, Int.reduceLE, Int.reduceGT, Int.reduceGE, Nat.reduceSub, Nat.reduceBEq, Nat.reduceBNe, Int.reduceAdd, Int.reduceSub, Int.reduceMul, Int.reduceNeg, Nat.reduceMul, Nat.reduceLeDiff, Nat.reduceLT]) ?_
    repeat first
      | with_reducible refine AWP.seq ?_
      | ((with_reducible refine AWP.region ?_ ?_); exact rfl)
      | with_reducible refine AWP.block ?_
      | with_reducible refine AWP.skip ?_
      | with_reducible refine AWP.exit ?_
      | with_reducible refine AWP.ret ?_
      | with_reducible refine AWP.label ?_
      | with_reducible refine AWP.goto ?_
      | ((with_reducible refine AWP.condT ?_ ?_); focus (simp only [ev, lk_cons, ↓reduceIte, Nat.reduceEqDiff]; done))
      | ((with_reducible refine AWP.condF ?_ ?_); focus (simp only [ev, lk_cons, ↓reduceIte, Nat.reduceEqDiff]; done))
      | simp only [go_sem, ↓reduceIte, Nat.reduceEqDiff, reduceCtorEq, Nat.reduceAdd, Int.reduceEq, Int.reduceBNe, Int.reduceBEq, Int.reduceToNat, Int.reduceLT, Int.reduceLE, Int.reduceGT, Int.reduceGE, Nat.reduceSub, Nat.reduceBEq, Nat.reduceBNe, Int.reduceAdd, Int.reduceSub, Int.reduceMul, Int.reduceNeg, Nat.reduceMul, Nat.reduceLeDiff, Nat.reduceLT, List.map_cons, List.map_nil]
      | simp (disch := omega) only [wi64, wu8, wu16, wu32, wu64, Int.tdiv_eq_ediv_of_nonneg, Int.tmod_eq_emod_of_nonneg]
      | with_reducible_and_instances exact finR
      | ((with_reducible refine finR' ?_ ?_) <;> rfl)
      | ((with_reducible refine finD hsc (NRel.of_plain ?_)); exact rfl)
    refine ARet.exq (hfate) (by simp only [go_sem, ↓reduceIte, Nat.reduceEqDiff, reduceCtorEq, Nat.reduceAdd, Int.reduceEq, Int.reduceBNe, Int.reduceBEq, Int.reduceToNat, Int.reduceLT, Int.reduceLE, Int.reduceGT, Int.reduceGE, Nat.reduceSub, Nat.reduceBEq, Nat.reduceBNe, Int.reduceAdd, Int.reduceSub, Int.reduceMul, Int.reduceNeg, Nat.reduceMul, Nat.reduceLeDiff, Nat.reduceLT]) ?_
    repeat first
      | with_reducible refine AWP.seq ?_
      | ((with_reducible refine AWP.region ?_ ?_); exact rfl)
      | with_reducible refine AWP.block ?_
      | with_reducible refine AWP.skip ?_
      | with_reducible refine AWP.exit ?_
      | with_reducible refine AWP.ret ?_
      | with_reducible refine AWP.label ?_
      | with_reducible refine AWP.goto ?_
      | ((with_reducible refine AWP.condT ?_ ?_); focus (simp only [ev, lk_cons, ↓reduceIte, Nat.reduceEqDiff]; done))
      | ((with_reducible refine AWP.condF ?_ ?_); focus (simp only [ev, lk_cons, ↓reduceIte, Nat.reduceEqDiff]; done))
      | simp only [go_sem, ↓reduceIte, Nat.reduceEqDiff, reduceCtorEq, Nat.reduceAdd, Int.reduceEq, Int.reduceBNe, Int.reduceBEq, Int.reduceToNat, Int.reduceLT, Int.reduceLE, Int.reduceGT, Int.reduceGE, Nat.reduceSub, Nat.reduceBEq, Nat.reduceBNe, Int.reduceAdd, Int.reduceSub, Int.reduceMul, Int.reduceNeg, Nat.reduceMul, Nat.reduceLeDiff, Nat.reduceLT, hbx', hbl, List.map_cons, List.map_nil]
      | simp (disch := omega) only [wi64, wu8, wu16, wu32, wu64, Int.tdiv_eq_ediv_of_nonneg, Int.tmod_eq_emod_of_nonneg]
      | with_reducible_and_instances exact finR
      | ((with_reducible refine finR' ?_ ?_) <;> rfl)
      | ((with_reducible refine finD hsc (NRel.of_plain ?_)); exact rfl)
    refine hL.use fun H6 ht => ?_
    obtain ⟨⟨k6, cs6, hb6, hc6⟩, hfin⟩ := fin _ H6 ht (by
      simp only [Lk.putS, Lk.coms, if_pos f2, if_neg f1, f2]
      simp [s3, s1, hg0])
    repeat first
      | with_reducible refine AWP.seq ?_
      | ((with_reducible refine AWP.region ?_ ?_); exact rfl)
      | with_reducible refine AWP.block ?_
      | with_reducible refine AWP.skip ?_
      | with_reducible refine AWP.exit ?_
      | with_reducible refine AWP.ret ?_
      | with_reducible refine AWP.label ?_
      | with_reducible refine AWP.goto ?_
      | ((with_reducible refine AWP.condT ?_ ?_); focus (simp only [ev, lk_cons, ↓reduceIte, Nat.reduceEqDiff]; done))
      | ((with_reducible refine AWP.condF ?_ ?_); focus (simp only [ev, lk_cons, ↓reduceIte, Nat.reduceEqDiff]; done))
      | simp only [go_sem, ↓reduceIte, Nat.reduceEqDiff, reduceCtorEq, Nat.reduceAdd, Int.reduceEq, Int.reduceBNe, Int.reduceBEq, Int.reduceToNat, Int.reduceLT, Int.reduceLE, Int.reduceGT, Int.reduceGE, Nat.reduceSub, Nat.reduceBEq, Nat.reduceBNe, Int.reduceAdd, Int.reduceSub, Int.reduceMul, Int.reduceNeg, Nat.reduceMul, Nat.reduceLeDiff, Nat.reduceLT, hb6, hc6]
      | simp (disch := omega) only [wi64, wu8, wu16, wu32, wu64, Int.tdiv_eq_ediv_of_nonneg, Int.tmod_eq_emod_of_nonneg]
      | with_reducible_and_instances exact finR
      | ((with_reducible refine finR' ?_ ?_) <;> rfl)
      | ((with_reducible refine finD hsc (NRel.of_plain ?_)); exact rfl)
    exact ⟨_, _, .refl _ _ _, rfl, hfin⟩
  · have f0 : s.pipe.fate s.kk = 0 := by
      unfold Pp.fate at f1 f2 ⊢
      split at f1
      · omega
      · rename_i h9
        rw [if_neg h9] at f2 ⊢
        split at f2
        · omega
        · rename_i h8
          rw [if_neg h8]
    rw [show ({ s3 with wait := wq s.wait now ++ [(max now s.free, size)] } : Lk).pipe = s.pipe from rfl, f0] at hfate
    have hL := goes hA5 (by have := hB.underL; show s.under.length < _; omega) (s.pk now size body).cm _ hgx
    rw [hcm] at hL
    refine AWP.regionK 12 (by kernel_rfl) (by decide) (by kernel_rfl) ?_
    repeat first
      | with_reducible refine AWP.seq ?_
      | ((with_reducible refine AWP.region ?_ ?_); exact rfl)
      | with_reducible refine AWP.block ?_
      | with_reducible refine AWP.skip ?_
      | with_reducible refine AWP.exit ?_
      | with_reducible refine AWP.ret ?_
      | with_reducible refine AWP.label ?_
      | with_reducible refine AWP.goto ?_
      | ((with_reducible refine AWP.condT ?_ ?_); focus (simp only [ev, lk_cons, ↓reduceIte, Nat.reduceEqDiff]; done))
      | ((with_reducible refine AWP.condF ?_ ?_); focus (simp only [ev, lk_cons, ↓reduceIte, Nat.reduceEqDiff]; done))
      | simp only [go_sem, ↓reduceIte, Nat.reduceEqDiff, reduceCtorEq, Nat.reduceAdd, Int.reduceEq, Int.reduceBNe, Int.reduceBEq, Int.reduceToNat, Int.reduceLT, Int.reduceLE, Int.reduceGT, Int.reduceGE, Nat.reduceSub, Nat.reduceBEq, Nat.reduceBNe, Int.reduceAdd, Int.reduceSub, Int.reduceMul, Int.reduceNeg, Nat.reduceMul, Nat.reduceLeDiff, Nat.reduceLT, List.map_cons, List.map_nil]
      | simp (disch := omega) only [wi64, wu8, wu16, wu32, wu64, Int.tdiv_eq_ediv_of_nonneg, Int.tmod_eq_emod_of_nonneg]
      | with_reducible_and_instances exact finR
      | ((with_reducible refine finR' ?_ ?_) <;> rfl)
      | ((with_reducible refine finD hsc (NRel.of_plain ?_)); exact rfl)
    refine ARet.exq (hfates) (by simp only [go_sem, ↓reduceIte, Nat.reduceEqDiff, reduceCtorEq, Nat.reduceAdd, Int.reduceEq, Int.reduceBNe, Int.reduceBEq, Int.reduceToNat, Int.reduceLT, Int.reduceLE, Int.reduceGT, Int.reduceGE, Nat.reduceSub, Nat.reduceBEq, Nat.reduceBNe, Int.reduceAdd, Int.reduceSub, Int.reduceMul, Int.reduceNeg, Nat.reduceMul, Nat.reduceLeDiff, Nat.reduceLT]) ?_
    repeat first
      | with_reducible refine AWP.seq ?_
      | ((with_reducible refine AWP.region ?_ ?_); exact rfl)
      | with_reducible refine AWP.block ?_
      | with_reducible refine AWP.skip ?_
      | with_reducible refine AWP.exit ?_
      | with_reducible refine AWP.ret ?_
      | with_reducible refine AWP.label ?_
      | with_reducible refine AWP.goto ?_
      | ((with_reducible refine AWP.condT ?_ ?_); focus (simp only [ev, lk_cons, ↓reduceIte, Nat.reduceEqDiff]; done))
      | ((with_reducible refine AWP.condF ?_ ?_); focus (simp only [ev, lk_cons, ↓reduceIte, Nat.reduceEqDiff]; done))
      | simp only [go_sem, ↓reduceIte, Nat.reduceEqDiff, reduceCtorEq, Nat.reduceAdd, Int.reduceEq, Int.reduceBNe, Int.reduceBEq, Int.reduceToNat, Int.reduceLT, Int.reduceLE, Int.reduceGT, Int.reduceGE, Nat.reduceSub, Nat.reduceBEq, Nat.reduceBNe, Int.reduceAdd, Int.reduceSub, Int.reduceMul, Int.reduceNeg, Nat.reduceMul, Nat.reduceLeDiff, Nat.reduceLT, List.map_cons, List.map_nil]
      | simp (disch := omega) only [wi64, wu8, wu16, wu32, wu64, Int.tdiv_eq_ediv_of_nonneg, Int.tmod_eq_emod_of_nonneg]
      | with_reducible_and_instances exact finR
      | ((with_reducible refine finR' ?_ ?_) <;> rfl)
      | ((with_reducible refine finD hsc (NRel.of_plain ?_)); exact rfl)
    refine ARet.exq (hfate) (by simp only [go_sem, ↓reduceIte, Nat.reduceEqDiff, reduceCtorEq, Nat.reduceAdd, Int.reduceEq, Int.reduceBNe, Int.reduceBEq, Int.reduceToNat, Int.reduceLT, Int.reduceLE, Int.reduceGT, Int.reduceGE, Nat.reduceSub, Nat.reduceBEq, Nat.reduceBNe, Int.reduceAdd, Int.reduceSub, Int.reduceMul, Int.reduceNeg, Nat.reduceMul, Nat.reduceLeDiff, Nat.reduceLT]) ?_
    repeat first
      | with_reducible refine AWP.seq ?_
      | ((with_reducible refine AWP.region ?_ ?_); exact rfl)
      | with_reducible refine AWP.block ?_
      | with_reducible refine AWP.skip ?_
      | with_reducible refine AWP.exit ?_
      | with_reducible refine AWP.ret ?_
      | with_reducible refine AWP.label ?_
      | with_reducible refine AWP.goto ?_
      | ((with_reducible refine AWP.condT ?_ ?_); focus (simp only [ev, lk_cons, ↓reduceIte, Nat.reduceEqDiff]; done))
      | ((with_reducible refine AWP.condF ?_ ?_); focus (simp only [ev, lk_cons, ↓reduceIte, Nat.reduceEqDiff]; done))
      | simp only [go_sem, ↓reduceIte, Nat.reduceEqDiff, reduceCtorEq, Nat.reduceAdd, Int.reduceEq, Int.reduceBNe, Int.reduceBEq, Int.reduceToNat, Int.reduceLT, Int.reduceLE, Int.reduceGT, Int.reduceGE, Nat.reduceSub, Nat.reduceBEq, Nat.reduceBNe, Int.reduceAdd, Int.reduceSub, Int.reduceMul, Int.reduceNeg, Nat.reduceMul, Nat.reduceLeDiff, Nat.reduceLT, hbx', hbl, List.map_cons, List.map_nil]
      | simp (disch := omega) only [wi64, wu8, wu16, wu32, wu64, Int.tdiv_eq_ediv_of_nonneg, Int.tmod_eq_emod_of_nonneg]
      | with_reducible_and_instances exact finR
      | ((with_reducible refine finR' ?_ ?_) <;> rfl)
      | ((with_reducible refine finD hsc (NRel.of_plain ?_)); exact rfl)
    refine hL.use fun H6 ht => ?_
    obtain ⟨⟨k6, cs6, hb6, hc6⟩, hfin⟩ := fin _ H6 ht (by
      simp only [Lk.putS, Lk.coms, if_neg f1, if_neg f2]
      simp [s3, s1, hg0])
    repeat first
      | with_reducible refine AWP.seq ?_
      | ((with_reducible refine AWP.region ?_ ?_); exact rfl)
      | with_reducible refine AWP.block ?_
      | with_reducible refine AWP.skip ?_
      | with_reducible refine AWP.exit ?_
      | with_reducible refine AWP.ret ?_
      | with_reducible refine AWP.label ?_
      | with_reducible refine AWP.goto ?_
      | ((with_reducible refine AWP.condT ?_ ?_); focus (simp only [ev, lk_cons, ↓reduceIte, Nat.reduceEqDiff]; done))
      | ((with_reducible refine AWP.condF ?_ ?_); focus (simp only [ev, lk_cons, ↓reduceIte, Nat.reduceEqDiff]; done))
      | simp only [go_sem, ↓reduceIte, Nat.reduceEqDiff, reduceCtorEq, Nat.reduceAdd, Int.reduceEq, Int.reduceBNe, Int.reduceBEq, Int.reduceToNat, Int.reduceLT, Int.reduceLE, Int.reduceGT, Int.reduceGE, Nat.reduceSub, Nat.reduceBEq, Nat.reduceBNe, Int.reduceAdd, Int.reduceSub, Int.reduceMul, Int.reduceNeg, Nat.reduceMul, Nat.reduceLeDiff, Nat.reduceLT, hb6, hc6]
      | simp (disch := omega) only [wi64, wu8, wu16, wu32, wu64, Int.tdiv_eq_ediv_of_nonneg, Int.tmod_eq_emod_of_nonneg]
      | with_reducible_and_instances exact finR
      | ((with_reducible refine finR' ?_ ?_) <;> rfl)
      | ((with_reducible refine finD hsc (NRel.of_plain ?_)); exact rfl)
    exact ⟨_, _, .refl _ _ _, rfl, hfin⟩
end Go.Proofs.YtnfkbgpbligloaaDoor
