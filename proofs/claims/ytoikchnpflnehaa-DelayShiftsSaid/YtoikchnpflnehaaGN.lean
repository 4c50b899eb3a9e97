/-
  The walk of DelayShifts.
-/
import Derived.Test.YtoikchnpflnehaaGK
import Derived.Test.YtoikchnpflnehaaGM
import Derived.Test.YtoikchnpflnehaaAw30
set_option linter.unusedVariables false
set_option linter.unusedSimpArgs false
set_option maxRecDepth 20000
namespace Go.Proofs.Ytoikchnpflnehaa
open Go Go.Aw Go.Proofs
/-- Two controls, apart from each other and from H. -/
structure Two (H : AHeap) (ca cb : Nat) (C D : Ctl) (H1 : AHeap) (lv pv : Value) (S1 S2 : List Nat) (lw pw : Value) (R1 R2 : List Nat) : Prop where
  a : CtlAt H1 ca C lv pv S1 S2
  b : CtlAt H1 cb D lw pw R1 R2
  dis : ∀ s ∈ ca :: (S1 ++ S2), s ∉ cb :: (R1 ++ R2)
  ha : ∀ s ∈ ca :: (S1 ++ S2), H.length ≤ s
  hb : ∀ s ∈ cb :: (R1 ++ R2), H.length ≤ s
  pre : ∀ j, j < H.length → H1[j]? = H[j]?
  len : H.length ≤ H1.length
theorem CtlAt.lt {H : AHeap} {c : Nat} {C : Ctl} {lv pv : Value} {S1 S2 : List Nat} (h : CtlAt H c C lv pv S1 S2) : ∀ s ∈ c :: (S1 ++ S2), s < H.length := fun s hs => by
  rcases List.mem_cons.1 hs with rfl | hs
  · exact lt_of_get h.at_
  · rcases List.mem_append.1 hs with hs | hs
    · exact h.last.lt _ hs
    · exact h.past.lt _ hs
theorem CtlAt.frm' {T : List Nat} {H H2 : AHeap} {c : Nat} {C : Ctl} {lv pv : Value} {S1 S2 : List Nat} (h : CtlAt H c C lv pv S1 S2) (hf : Frm T H H2) (hd : ∀ s ∈ c :: (S1 ++ S2), s ∉ T) : CtlAt H2 c C lv pv S1 S2 :=
  h.frm hf (hd c (by simp)) (fun s hs => hd s (by simp [hs])) (fun s hs => hd s (by simp [hs]))
theorem mem3 {c : Nat} {S1 S2 S1' S2' : List Nat} {n : Nat} (k1 : ∀ s ∈ S1', s ∈ S1 ∨ n ≤ s) (k2 : ∀ s ∈ S2', s ∈ S2 ∨ n ≤ s) : ∀ s ∈ c :: (S1' ++ S2'), s ∈ c :: (S1 ++ S2) ∨ n ≤ s := fun s hs => by
  rcases List.mem_cons.1 hs with rfl | hs
  · left; simp
  · rcases List.mem_append.1 hs with hs | hs
    · rcases k1 s hs with h | h
      · left; simp [h]
      · right; exact h
    · rcases k2 s hs with h | h
      · left; simp [h]
      · right; exact h
section
variable {H : AHeap} {ca cb : Nat} {C D : Ctl} {H1 : AHeap} {lv pv : Value} {S1 S2 : List Nat} {lw pw : Value} {R1 R2 : List Nat}
theorem Two.more (h : Two H ca cb C D H1 lv pv S1 S2 lw pw R1 R2) (X : AHeap) : Two H ca cb C D (H1 ++ X) lv pv S1 S2 lw pw R1 R2 :=
  ⟨h.a.more X, h.b.more X, h.dis, h.ha, h.hb, fun j hj => by rw [hgetl (Nat.lt_of_lt_of_le hj h.len)]; exact h.pre j hj, by rw [List.length_append]; have := h.len; omega⟩
theorem Two.stepA (h : Two H ca cb C D H1 lv pv S1 S2 lw pw R1 R2) {C' : Ctl} {H2 : AHeap} {lv' pv' : Value} {S1' S2' : List Nat} (g : CtlAt H2 ca C' lv' pv' S1' S2') (hf : Frm (ca :: (S1 ++ S2)) H1 H2) (k1 : ∀ s ∈ S1', s ∈ S1 ∨ H1.length ≤ s) (k2 : ∀ s ∈ S2', s ∈ S2 ∨ H1.length ≤ s) :
    Two H ca cb C' D H2 lv' pv' S1' S2' lw pw R1 R2 :=
  ⟨g, h.b.frm' hf (fun s hs hm => h.dis s hm hs), fun s hs hm => by
    rcases mem3 (c := ca) k1 k2 s hs with h' | h'
    · exact h.dis s h' hm
    · have := h.b.lt s hm; omega, fun s hs => by
    rcases mem3 (c := ca) k1 k2 s hs with h' | h'
    · exact h.ha s h'
    · have := h.len; omega, h.hb, fun j hj => by rw [hf.2 j (Nat.lt_of_lt_of_le hj h.len) (fun hm => by have := h.ha j hm; omega)]; exact h.pre j hj, Nat.le_trans h.len hf.1⟩
theorem Two.stepB (h : Two H ca cb C D H1 lv pv S1 S2 lw pw R1 R2) {D' : Ctl} {H2 : AHeap} {lw' pw' : Value} {R1' R2' : List Nat} (g : CtlAt H2 cb D' lw' pw' R1' R2') (hf : Frm (cb :: (R1 ++ R2)) H1 H2) (k1 : ∀ s ∈ R1', s ∈ R1 ∨ H1.length ≤ s) (k2 : ∀ s ∈ R2', s ∈ R2 ∨ H1.length ≤ s) :
    Two H ca cb C D' H2 lv pv S1 S2 lw' pw' R1' R2' :=
  ⟨h.a.frm' hf (fun s hs hm => h.dis s hs hm), g, fun s hs hm => by
    rcases mem3 (c := cb) k1 k2 s hm with h' | h'
    · exact h.dis s hs h'
    · have := h.a.lt s hs; omega, h.ha, fun s hs => by
    rcases mem3 (c := cb) k1 k2 s hs with h' | h'
    · exact h.hb s h'
    · have := h.len; omega, fun j hj => by rw [hf.2 j (Nat.lt_of_lt_of_le hj h.len) (fun hm => by have := h.hb j hm; omega)]; exact h.pre j hj, Nat.le_trans h.len hf.1⟩
theorem Two.putA (h : Two H ca cb C D H1 lv pv S1 S2 lw pw R1 R2) {C' : Ctl} (h1 : C'.last = C.last) (h2 : C'.past = C.past) : Two H ca cb C' D (H1.set ca (cO C' lv pv)) lv pv S1 S2 lw pw R1 R2 :=
  h.stepA (h.a.put h1 h2) ((Frm.refl _ _).set (.inl (by simp))) (fun s hs => .inl hs) (fun s hs => .inl hs)
theorem Two.putB (h : Two H ca cb C D H1 lv pv S1 S2 lw pw R1 R2) {D' : Ctl} (h1 : D'.last = D.last) (h2 : D'.past = D.past) : Two H ca cb C D' (H1.set cb (cO D' lw pw)) lv pv S1 S2 lw pw R1 R2 :=
  h.stepB (h.b.put h1 h2) ((Frm.refl _ _).set (.inl (by simp))) (fun s hs => .inl hs) (fun s hs => .inl hs)
end
theorem out_same (C : Ctl) (t : Int) : (C.out t).last = C.last ∧ (C.out t).past = C.past ∧ (C.out t).now ≤ max C.now t := by
  unfold Ctl.out
  split
  · exact ⟨rfl, rfl, by show t ≤ max C.now t; omega⟩
  · exact ⟨rfl, rfl, by omega⟩
theorem sample_now (C : Ctl) (t b d u : Int) : (C.sampleL t b d u).now ≤ max C.now t := by
  by_cases hd : sampleD C t b d u
  · rw [sampleL_eq _ _ _ _ _ hd]; show t ≤ max C.now t; omega
  · have e1 : C.sampleL t b d u = C := if_neg hd
    rw [e1]; omega
set_option maxHeartbeats 8000000 in
theorem lawShifts (tg y : Int) (l : List ActS) (v : Value) (H : AHeap) (hv : RdN H 6 v (actsC l)) : ARet Try.prog 6 [.int .i64 tg, .int .i64 y, v] H (.bool true) H := by
  have hal : (actsC l).length = l.length := by simp [actsC]
  have q1 : ∀ H' K, lenW Try.prog 39 v H' K = K (.int .i64 (l.length : Nat)) H' := fun H' K => by rw [hv.lenT (by simp only [go_sem, ↓reduceIte, Nat.reduceEqDiff, reduceCtorEq, Nat.reduceAdd, Int.reduceEq, Int.reduceBNe, Int.reduceBEq, Int.reduceToNat, Int.reduceLT, Int.reduceLE, Int.reduceGT, Int.reduceGE, Nat.reduceSub, Nat.reduceBEq, Nat.reduceBNe, Int.reduceAdd, Int.reduceSub, Int.reduceMul, Int.reduceNeg, Nat.reduceMul, Nat.reduceLeDiff, Nat.reduceLT]), hal]
  have hlt := light l v H hv
  cases hll : lightL l with
  | false =>
    rw [hll] at hlt
    refine AC.enter Try.func6 rfl (by kernel_rfl) 142 rfl [.tmp 6] rfl (by simp) fun hsc B => ?_
    repeat first
      | with_reducible refine AWP.seq ?_
      | ((with_reducible refine AWP.region ?_ ?_); exact rfl)
      | with_reducible refine AWP.block ?_
      | with_reducible refine AWP.skip ?_
      | with_reducible refine AWP.exit ?_
      | with_reducible refine AWP.ret ?_
      | with_reducible refine AWP.label ?_
      | with_reducible refine AWP.goto ?_
      | ((with_reducible refine AWP.condT ?_ ?_); focus (simp only [ev, lk_cons, ↓reduceIte, Nat.reduceEqDiff]; done))
      | ((with_reducible refine AWP.condF ?_ ?_); focus (simp only [ev, lk_cons, ↓reduceIte, Nat.reduceEqDiff]; done))
      | with_reducible refine hlt.use ?_
      | with_reducible refine (awake _).use ?_
      | simp only [go_sem, ↓reduceIte, Nat.reduceEqDiff, reduceCtorEq, Nat.reduceAdd, Int.reduceEq, Int.reduceBNe, Int.reduceBEq, Int.reduceToNat, Int.reduceLT, Int.reduceLE, Int.reduceGT, Int.reduceGE, Nat.reduceSub, Nat.reduceBEq, Nat.reduceBNe, Int.reduceAdd, Int.reduceSub, Int.reduceMul, Int.reduceNeg, Nat.reduceMul, Nat.reduceLeDiff, Nat.reduceLT]
      | simp (disch := omega) only [wi64, wu8, wu16, wu32, wu64, Int.tdiv_eq_ediv_of_nonneg, Int.tmod_eq_emod_of_nonneg]
      | with_reducible_and_instances exact finR
      | ((with_reducible refine finR' ?_ ?_) <;> rfl)
      | ((with_reducible refine finD hsc (NRel.of_plain ?_)); exact rfl)
  | true =>
    rw [hll] at hlt
    have hll' := hll
    unfold lightL at hll'
    simp only [Bool.and_eq_true, decide_eq_true_eq, List.all_eq_true, Bool.not_eq_true', decide_eq_false_iff_not] at hll'
    obtain ⟨h80, hfar⟩ := hll'
    by_cases y0 : y < 0
    · skip
      refine AC.enter Try.func6 rfl (by kernel_rfl) 142 rfl [.tmp 6] rfl (by simp) fun hsc B => ?_
      repeat first
        | with_reducible refine AWP.seq ?_
        | ((with_reducible refine AWP.region ?_ ?_); exact rfl)
        | with_reducible refine AWP.block ?_
        | with_reducible refine AWP.skip ?_
        | with_reducible refine AWP.exit ?_
        | with_reducible refine AWP.ret ?_
        | with_reducible refine AWP.label ?_
        | with_reducible refine AWP.goto ?_
        | ((with_reducible refine AWP.condT ?_ ?_); focus (simp only [ev, lk_cons, ↓reduceIte, Nat.reduceEqDiff]; done))
        | ((with_reducible refine AWP.condF ?_ ?_); focus (simp only [ev, lk_cons, ↓reduceIte, Nat.reduceEqDiff]; done))
        | with_reducible refine hlt.use ?_
        | with_reducible refine (awake _).use ?_
        | simp only [go_sem, ↓reduceIte, Nat.reduceEqDiff, reduceCtorEq, Nat.reduceAdd, Int.reduceEq, Int.reduceBNe, Int.reduceBEq, Int.reduceToNat, Int.reduceLT, Int.reduceLE, Int.reduceGT, Int.reduceGE, Nat.reduceSub, Nat.reduceBEq, Nat.reduceBNe, Int.reduceAdd, Int.reduceSub, Int.reduceMul, Int.reduceNeg, Nat.reduceMul, Nat.reduceLeDiff, Nat.reduceLT, y0]
        | simp (disch := omega) only [wi64, wu8, wu16, wu32, wu64, Int.tdiv_eq_ediv_of_nonneg, Int.tmod_eq_emod_of_nonneg]
        | with_reducible_and_instances exact finR
        | ((with_reducible refine finR' ?_ ?_) <;> rfl)
        | ((with_reducible refine finD hsc (NRel.of_plain ?_)); exact rfl)
    by_cases y1 : y ≥ 4294967296
    · skip
      refine AC.enter Try.func6 rfl (by kernel_rfl) 142 rfl [.tmp 6] rfl (by simp) fun hsc B => ?_
      repeat first
        | with_reducible refine AWP.seq ?_
        | ((with_reducible refine AWP.region ?_ ?_); exact rfl)
        | with_reducible refine AWP.block ?_
        | with_reducible refine AWP.skip ?_
        | with_reducible refine AWP.exit ?_
        | with_reducible refine AWP.ret ?_
        | with_reducible refine AWP.label ?_
        | with_reducible refine AWP.goto ?_
        | ((with_reducible refine AWP.condT ?_ ?_); focus (simp only [ev, lk_cons, ↓reduceIte, Nat.reduceEqDiff]; done))
        | ((with_reducible refine AWP.condF ?_ ?_); focus (simp only [ev, lk_cons, ↓reduceIte, Nat.reduceEqDiff]; done))
        | with_reducible refine hlt.use ?_
        | with_reducible refine (awake _).use ?_
        | simp only [go_sem, ↓reduceIte, Nat.reduceEqDiff, reduceCtorEq, Nat.reduceAdd, Int.reduceEq, Int.reduceBNe, Int.reduceBEq, Int.reduceToNat, Int.reduceLT, Int.reduceLE, Int.reduceGT, Int.reduceGE, Nat.reduceSub, Nat.reduceBEq, Nat.reduceBNe, Int.reduceAdd, Int.reduceSub, Int.reduceMul, Int.reduceNeg, Nat.reduceMul, Nat.reduceLeDiff, Nat.reduceLT, y0, y1]
        | simp (disch := omega) only [wi64, wu8, wu16, wu32, wu64, Int.tdiv_eq_ediv_of_nonneg, Int.tmod_eq_emod_of_nonneg]
        | with_reducible_and_instances exact finR
        | ((with_reducible refine finR' ?_ ?_) <;> rfl)
        | ((with_reducible refine finD hsc (NRel.of_plain ?_)); exact rfl)
    have hN := New tg H
    by_cases htg : 1 ≤ tg ∧ tg ≤ 1000
    · have hM := New tg (H ++ [cO (ctl0 tg) (.slice none 0 0) (.slice none 0 0)])
      rw [if_pos htg, if_pos htg] at hN hM
      have hN : ARet Try.prog 20 [.int .i64 tg] H (.tuple ⟨[.pointer (some ⟨H.length, 0, none⟩), .int .i64 0]⟩) (H ++ [cO (ctl0 tg) (.slice none 0 0) (.slice none 0 0)]) := hN
      have hM : ARet Try.prog 20 [.int .i64 tg] (H ++ [cO (ctl0 tg) (.slice none 0 0) (.slice none 0 0)]) (.tuple ⟨[.pointer (some ⟨H.length + 1, 0, none⟩), .int .i64 0]⟩) (H ++ [cO (ctl0 tg) (.slice none 0 0) (.slice none 0 0), cO (ctl0 tg) (.slice none 0 0) (.slice none 0 0)]) := by
        have e : (H ++ [cO (ctl0 tg) (.slice none 0 0) (.slice none 0 0)]).length = H.length + 1 := by simp
        rw [e, List.append_assoc] at hM; exact hM
      have hTw : Two H H.length (H.length + 1) (ctl0 tg) ((ctl0 tg).shift y) (H ++ [cO (ctl0 tg) (.slice none 0 0) (.slice none 0 0), cO (ctl0 tg) (.slice none 0 0) (.slice none 0 0)]) (.slice none 0 0) (.slice none 0 0) [] [] (.slice none 0 0) (.slice none 0 0) [] [] :=
        ⟨⟨hget0 rfl, .inl ⟨rfl, rfl, rfl, rfl⟩, .inl ⟨rfl, rfl, rfl, rfl⟩, by simp, by simp, by simp⟩, ⟨hgetk rfl, .inl ⟨rfl, rfl, rfl, rfl⟩, .inl ⟨rfl, rfl, rfl, rfl⟩, by simp, by simp, by simp⟩, by simp, by simp, by simp, fun j hj => hgetl hj, by simp⟩
      refine AC.enter Try.func6 rfl (by kernel_rfl) 142 rfl [.tmp 6] rfl (by simp) fun hsc B => ?_
      repeat first
        | with_reducible refine AWP.seq ?_
        | ((with_reducible refine AWP.region ?_ ?_); exact rfl)
        | with_reducible refine AWP.block ?_
        | with_reducible refine AWP.skip ?_
        | with_reducible refine AWP.exit ?_
        | with_reducible refine AWP.ret ?_
        | with_reducible refine AWP.label ?_
        | with_reducible refine AWP.goto ?_
        | ((with_reducible refine AWP.condT ?_ ?_); focus (simp only [ev, lk_cons, ↓reduceIte, Nat.reduceEqDiff]; done))
        | ((with_reducible refine AWP.condF ?_ ?_); focus (simp only [ev, lk_cons, ↓reduceIte, Nat.reduceEqDiff]; done))
        | with_reducible refine hlt.use ?_
        | with_reducible refine hN.use ?_
        | with_reducible refine hM.use ?_
        | simp only [go_sem, ↓reduceIte, Nat.reduceEqDiff, reduceCtorEq, Nat.reduceAdd, Int.reduceEq, Int.reduceBNe, Int.reduceBEq, Int.reduceToNat, Int.reduceLT, Int.reduceLE, Int.reduceGT, Int.reduceGE, Nat.reduceSub, Nat.reduceBEq, Nat.reduceBNe, Int.reduceAdd, Int.reduceSub, Int.reduceMul, Int.reduceNeg, Nat.reduceMul, Nat.reduceLeDiff, Nat.reduceLT, q1, y0, y1]
        | simp (disch := omega) only [wi64, wu8, wu16, wu32, wu64, Int.tdiv_eq_ediv_of_nonneg, Int.tmod_eq_emod_of_nonneg]
        | with_reducible_and_instances exact finR
        | ((with_reducible refine finR' ?_ ?_) <;> rfl)
        | ((with_reducible refine finD hsc (NRel.of_plain ?_)); exact rfl)
      refine AWP.loopP (fun s : Nat × Int × AHeap => ⟨[(0, .int .i64 tg), (1, .int .i64 y), (2, v), (7, .pointer (some ⟨H.length, 0, none⟩)), (9, .pointer (some ⟨H.length + 1, 0, none⟩)), (11, .int .i64 s.2.1), (47, v), (48, .int .i64 (l.length : Nat)), (49, .int .i64 (s.1 : Nat))], [], s.2.2⟩)
        (fun s => s.1 ≤ l.length ∧ (0 ≤ s.2.1 ∧ s.2.1 ≤ s.1 * 1000000) ∧ ∃ C lv pv S1 S2 lw pw R1 R2, C.inv tg s.1 ∧ C.full ∧ C.now ≤ s.2.1 ∧ Two H H.length (H.length + 1) C (C.shift y) s.2.2 lv pv S1 S2 lw pw R1 R2) (fun s => l.length - s.1) (0, 0, H ++ [cO (ctl0 tg) (.slice none 0 0) (.slice none 0 0), cO (ctl0 tg) (.slice none 0 0) (.slice none 0 0)]) ?_ ?_ ?_
      · exact Weak.env (by simp [envIn, lk_cons, wth_some])
      · exact ⟨Nat.zero_le _, by simp, ctl0 tg, _, _, _, _, _, _, _, _, ⟨⟨by simp [ctl0], htg, by simp [ctl0], by simp [ctl0]⟩, by simp [ctl0], rfl, Nat.le_refl _⟩, fun h => absurd rfl h, Int.le_refl _, hTw⟩
      rintro ⟨n, now, H1⟩ ⟨hn, hnow, C, lv, pv, S1, S2, lw, pw, R1, R2, hI, hFl, hCn, hT⟩
      simp only at hn hnow hI hCn hT
      by_cases hc : n < l.length
      · have hc' : (n : Int) < (l.length : Int) := by omega
        rcases hv with ⟨rfl, e1⟩ | ⟨i, o, cap, cs, k, rfl, hi, hle, hrr⟩
        · have : l.length = 0 := by rw [← hal, e1]; rfl
          omega
        have hil := lt_of_get hi
        have hi1 : H1[i]? = some (.cells cs k) := (hT.pre i hil).trans hi
        have hil1 := lt_of_get hi1
        obtain ⟨hg, hg2⟩ := act_get (H := H) (i := i) (cap := cap) (k := k) (hle (by intro e; rw [e] at hal; simp at hal; omega)) hrr hc
        have hfx := hfar l[n] (List.getElem_mem _)
        generalize l[n] = x at hg hfx
        unfold farA at hfx
        simp only [actC] at hg
        by_cases hneg : x.later < 0
        · obtain ⟨Y, rfl⟩ := frm_split hT.len hT.pre
          repeat first
            | with_reducible refine AWP.seq ?_
            | ((with_reducible refine AWP.region ?_ ?_); exact rfl)
            | with_reducible refine AWP.block ?_
            | with_reducible refine AWP.skip ?_
            | with_reducible refine AWP.exit ?_
            | with_reducible refine AWP.ret ?_
            | with_reducible refine AWP.label ?_
            | with_reducible refine AWP.goto ?_
            | ((with_reducible refine AWP.condT ?_ ?_); focus (simp only [ev, lk_cons, ↓reduceIte, Nat.reduceEqDiff]; done))
            | ((with_reducible refine AWP.condF ?_ ?_); focus (simp only [ev, lk_cons, ↓reduceIte, Nat.reduceEqDiff]; done))
            | with_reducible refine (awake _).use ?_
            | simp only [go_sem, ↓reduceIte, Nat.reduceEqDiff, reduceCtorEq, Nat.reduceAdd, Int.reduceEq, Int.reduceBNe, Int.reduceBEq, Int.reduceToNat, Int.reduceLT, Int.reduceLE, Int.reduceGT, Int.reduceGE, Nat.reduceSub, Nat.reduceBEq, Nat.reduceBNe, Int.reduceAdd, Int.reduceSub, Int.reduceMul, Int.reduceNeg, Nat.reduceMul, Nat.reduceLeDiff, Nat.reduceLT, hc', hi1, hil1, hgetl, hg, hg2, hal, hneg]
            | simp (disch := omega) only [wi64, wu8, wu16, wu32, wu64, Int.tdiv_eq_ediv_of_nonneg, Int.tmod_eq_emod_of_nonneg]
            | with_reducible_and_instances exact finR
            | ((with_reducible refine finR' ?_ ?_) <;> rfl)
            | ((with_reducible refine finD hsc (NRel.of_plain ?_)); exact rfl)
        by_cases d0 : x.delay < 0
        · obtain ⟨Y, rfl⟩ := frm_split hT.len hT.pre
          repeat first
            | with_reducible refine AWP.seq ?_
            | ((with_reducible refine AWP.region ?_ ?_); exact rfl)
            | with_reducible refine AWP.block ?_
            | with_reducible refine AWP.skip ?_
            | with_reducible refine AWP.exit ?_
            | with_reducible refine AWP.ret ?_
            | with_reducible refine AWP.label ?_
            | with_reducible refine AWP.goto ?_
            | ((with_reducible refine AWP.condT ?_ ?_); focus (simp only [ev, lk_cons, ↓reduceIte, Nat.reduceEqDiff]; done))
            | ((with_reducible refine AWP.condF ?_ ?_); focus (simp only [ev, lk_cons, ↓reduceIte, Nat.reduceEqDiff]; done))
            | with_reducible refine (awake _).use ?_
            | simp only [go_sem, ↓reduceIte, Nat.reduceEqDiff, reduceCtorEq, Nat.reduceAdd, Int.reduceEq, Int.reduceBNe, Int.reduceBEq, Int.reduceToNat, Int.reduceLT, Int.reduceLE, Int.reduceGT, Int.reduceGE, Nat.reduceSub, Nat.reduceBEq, Nat.reduceBNe, Int.reduceAdd, Int.reduceSub, Int.reduceMul, Int.reduceNeg, Nat.reduceMul, Nat.reduceLeDiff, Nat.reduceLT, hc', hi1, hil1, hgetl, hg, hg2, hal, hneg, d0]
            | simp (disch := omega) only [wi64, wu8, wu16, wu32, wu64, Int.tdiv_eq_ediv_of_nonneg, Int.tmod_eq_emod_of_nonneg]
            | with_reducible_and_instances exact finR
            | ((with_reducible refine finR' ?_ ?_) <;> rfl)
            | ((with_reducible refine finD hsc (NRel.of_plain ?_)); exact rfl)
        by_cases d1 : x.delay ≥ 4294967296
        · obtain ⟨Y, rfl⟩ := frm_split hT.len hT.pre
          repeat first
            | with_reducible refine AWP.seq ?_
            | ((with_reducible refine AWP.region ?_ ?_); exact rfl)
            | with_reducible refine AWP.block ?_
            | with_reducible refine AWP.skip ?_
            | with_reducible refine AWP.exit ?_
            | with_reducible refine AWP.ret ?_
            | with_reducible refine AWP.label ?_
            | with_reducible refine AWP.goto ?_
            | ((with_reducible refine AWP.condT ?_ ?_); focus (simp only [ev, lk_cons, ↓reduceIte, Nat.reduceEqDiff]; done))
            | ((with_reducible refine AWP.condF ?_ ?_); focus (simp only [ev, lk_cons, ↓reduceIte, Nat.reduceEqDiff]; done))
            | with_reducible refine (awake _).use ?_
            | simp only [go_sem, ↓reduceIte, Nat.reduceEqDiff, reduceCtorEq, Nat.reduceAdd, Int.reduceEq, Int.reduceBNe, Int.reduceBEq, Int.reduceToNat, Int.reduceLT, Int.reduceLE, Int.reduceGT, Int.reduceGE, Nat.reduceSub, Nat.reduceBEq, Nat.reduceBNe, Int.reduceAdd, Int.reduceSub, Int.reduceMul, Int.reduceNeg, Nat.reduceMul, Nat.reduceLeDiff, Nat.reduceLT, hc', hi1, hil1, hgetl, hg, hg2, hal, hneg, d0, d1]
            | simp (disch := omega) only [wi64, wu8, wu16, wu32, wu64, Int.tdiv_eq_ediv_of_nonneg, Int.tmod_eq_emod_of_nonneg]
            | with_reducible_and_instances exact finR
            | ((with_reducible refine finR' ?_ ?_) <;> rfl)
            | ((with_reducible refine finD hsc (NRel.of_plain ?_)); exact rfl)
        have hnd : numD x.delay := ⟨by omega, by omega⟩
        have hTb := hT.more [boxA x]
        have hpn := hI.past
        have hfinal : ∀ (C' : Ctl) (H3 : AHeap) (lv' pv' : Value) (S1' S2' : List Nat) (lw' pw' : Value) (R1' R2' : List Nat), C'.inv tg (n + 1) → C'.full → C'.now ≤ now + x.later → Two H H.length (H.length + 1) C' (C'.shift y) H3 lv' pv' S1' S2' lw' pw' R1' R2' →
            (n + 1 ≤ l.length ∧ (0 ≤ now + x.later ∧ now + x.later ≤ ((n + 1 : Nat) : Int) * 1000000) ∧ ∃ C lv pv S1 S2 lw pw R1 R2, C.inv tg (n + 1) ∧ C.full ∧ C.now ≤ now + x.later ∧ Two H H.length (H.length + 1) C (C.shift y) H3 lv pv S1 S2 lw pw R1 R2) := fun C' H3 lv' pv' S1' S2' lw' pw' R1' R2' a1 a2 a3 a4 =>
          ⟨by omega, ⟨by omega, by omega⟩, C', lv', pv', S1', S2', lw', pw', R1', R2', a1, a2, a3, a4⟩
        have hcne : H.length ≠ H1.length := by have := hT.a.lt H.length (by simp); omega
        have hcne2 : H.length + 1 ≠ H1.length := by have := hT.b.lt (H.length + 1) (by simp); omega
        repeat first
          | with_reducible refine AWP.seqP (x := .seq (.region 14 _ _) _) (fun p : Ctl × AHeap × (Value × Value × List Nat × List Nat) × (Value × Value × List Nat × List Nat) => ⟨[(0, .int .i64 tg), (1, .int .i64 y), (2, .slice (some ⟨i, o, none⟩) (actsC l).length cap), (7, .pointer (some ⟨H.length, 0, none⟩)), (9, .pointer (some ⟨H.length + 1, 0, none⟩)), (11, .int .i64 (now + x.later)), (47, .slice (some ⟨i, o, none⟩) (actsC l).length cap), (48, .int .i64 (l.length : Nat)), (49, .int .i64 (n : Nat))], [], p.2.1⟩) (fun p => p.1.inv tg (n + 1) ∧ p.1.full ∧ p.1.now ≤ now + x.later ∧ Two H H.length (H.length + 1) p.1 (p.1.shift y) p.2.1 p.2.2.1.1 p.2.2.1.2.1 p.2.2.1.2.2.1 p.2.2.1.2.2.2 p.2.2.2.1 p.2.2.2.2.1 p.2.2.2.2.2.1 p.2.2.2.2.2.2) ?_ ?_
          | with_reducible refine AWP.seq ?_
          | ((with_reducible refine AWP.region ?_ ?_); exact rfl)
          | with_reducible refine AWP.block ?_
          | with_reducible refine AWP.skip ?_
          | with_reducible refine AWP.exit ?_
          | with_reducible refine AWP.ret ?_
          | with_reducible refine AWP.label ?_
          | with_reducible refine AWP.goto ?_
          | ((with_reducible refine AWP.condT ?_ ?_); focus (simp only [ev, lk_cons, ↓reduceIte, Nat.reduceEqDiff]; done))
          | ((with_reducible refine AWP.condF ?_ ?_); focus (simp only [ev, lk_cons, ↓reduceIte, Nat.reduceEqDiff]; done))
          | simp only [go_sem, ↓reduceIte, Nat.reduceEqDiff, reduceCtorEq, Nat.reduceAdd, Int.reduceEq, Int.reduceBNe, Int.reduceBEq, Int.reduceToNat, Int.reduceLT, Int.reduceLE, Int.reduceGT, Int.reduceGE, Nat.reduceSub, Nat.reduceBEq, Nat.reduceBNe, Int.reduceAdd, Int.reduceSub, Int.reduceMul, Int.reduceNeg, Nat.reduceMul, Nat.reduceLeDiff, Nat.reduceLT, hc', hi1, hil1, hgetl, hg, hg2, hal, hneg, d0, d1]
          | simp (disch := omega) only [wi64, wu8, wu16, wu32, wu64, Int.tdiv_eq_ediv_of_nonneg, Int.tmod_eq_emod_of_nonneg]
          | with_reducible_and_instances exact finR
          | ((with_reducible refine finR' ?_ ?_) <;> rfl)
          | ((with_reducible refine finD hsc (NRel.of_plain ?_)); exact rfl)
        · by_cases k5 : x.kind = 5
          · have k5' : (x.kind == 5) = true := by simp [k5]
            obtain ⟨u1, u2, u3⟩ := loss_same C (now + x.later) x.trip
            obtain ⟨w1, w2, _⟩ := loss_same (C.shift y) (now + x.later) x.trip
            have hsi := shift_inv C tg n hI y
            have hT2 := hTb.putA (C' := C.loss (now + x.later) x.trip) u1 u2
            have hA := cLoss H.length C lv pv hI.ok hI.halved (now + x.later) x.trip (H1 ++ [boxA x]) hTb.a.at_
            have hB := cLoss (H.length + 1) (C.shift y) lw pw hsi.ok hsi.halved (now + x.later) x.trip _ hT2.b.at_
            rw [loss_sh] at hB w1 w2
            have hT3 := hT2.putB (D' := (C.loss (now + x.later) x.trip).shift y) w1 w2
            have hli := (loss_inv C tg n hI (now + x.later) x.trip).1
            have hfl : (C.loss (now + x.later) x.trip).full := by unfold Ctl.full at *; rw [u1, u2]; exact hFl
            generalize C.loss (now + x.later) x.trip = C' at *
            repeat first
              | with_reducible refine AWP.seq ?_
              | ((with_reducible refine AWP.region ?_ ?_); exact rfl)
              | with_reducible refine AWP.block ?_
              | with_reducible refine AWP.skip ?_
              | with_reducible refine AWP.exit ?_
              | with_reducible refine AWP.ret ?_
              | with_reducible refine AWP.label ?_
              | with_reducible refine AWP.goto ?_
              | ((with_reducible refine AWP.condT ?_ ?_); focus (simp only [ev, lk_cons, ↓reduceIte, Nat.reduceEqDiff]; done))
              | ((with_reducible refine AWP.condF ?_ ?_); focus (simp only [ev, lk_cons, ↓reduceIte, Nat.reduceEqDiff]; done))
              | with_reducible refine hA.use ?_
              | with_reducible refine hB.use ?_
              | simp only [go_sem, ↓reduceIte, Nat.reduceEqDiff, reduceCtorEq, Nat.reduceAdd, Int.reduceEq, Int.reduceBNe, Int.reduceBEq, Int.reduceToNat, Int.reduceLT, Int.reduceLE, Int.reduceGT, Int.reduceGE, Nat.reduceSub, Nat.reduceBEq, Nat.reduceBNe, Int.reduceAdd, Int.reduceSub, Int.reduceMul, Int.reduceNeg, Nat.reduceMul, Nat.reduceLeDiff, Nat.reduceLT, k5', hcne, hcne2]
              | simp (disch := omega) only [wi64, wu8, wu16, wu32, wu64, Int.tdiv_eq_ediv_of_nonneg, Int.tmod_eq_emod_of_nonneg]
              | with_reducible_and_instances exact finR
              | ((with_reducible refine finR' ?_ ?_) <;> rfl)
              | ((with_reducible refine finD hsc (NRel.of_plain ?_)); exact rfl)
            exact ⟨(C', _, (lv, pv, S1, S2), (lw, pw, R1, R2)), Weak.env (by simp [envIn, lk_cons, wth_some, hal]), ⟨hli.ok, hli.halved, hli.target, by show C'.past.length ≤ n + 1; have := hli.past; omega⟩, hfl, by simp only; omega, hT3⟩
          · have k5' : (x.kind == 5) = false := by simp [k5]
            by_cases k6 : x.kind = 6
            · have k6' : (x.kind == 6) = true := by simp [k6]
              obtain ⟨u1, u2, u3⟩ := out_same C (now + x.later)
              obtain ⟨w1, w2, _⟩ := out_same (C.shift y) (now + x.later)
              have hT2 := hTb.putA (C' := C.out (now + x.later)) u1 u2
              have hA := cOut H.length C lv pv (now + x.later) (H1 ++ [boxA x]) hTb.a.at_
              have hB := cOut (H.length + 1) (C.shift y) lw pw (now + x.later) _ hT2.b.at_
              rw [out_sh] at hB w1 w2
              have hT3 := hT2.putB (D' := (C.out (now + x.later)).shift y) w1 w2
              have hli := (out_inv C tg n hI (now + x.later)).1
              have hfl : (C.out (now + x.later)).full := by unfold Ctl.full at *; rw [u1, u2]; exact hFl
              generalize C.out (now + x.later) = C' at *
              repeat first
                | with_reducible refine AWP.seq ?_
                | ((with_reducible refine AWP.region ?_ ?_); exact rfl)
                | with_reducible refine AWP.block ?_
                | with_reducible refine AWP.skip ?_
                | with_reducible refine AWP.exit ?_
                | with_reducible refine AWP.ret ?_
                | with_reducible refine AWP.label ?_
                | with_reducible refine AWP.goto ?_
                | ((with_reducible refine AWP.condT ?_ ?_); focus (simp only [ev, lk_cons, ↓reduceIte, Nat.reduceEqDiff]; done))
                | ((with_reducible refine AWP.condF ?_ ?_); focus (simp only [ev, lk_cons, ↓reduceIte, Nat.reduceEqDiff]; done))
                | with_reducible refine hA.use ?_
                | with_reducible refine hB.use ?_
                | simp only [go_sem, ↓reduceIte, Nat.reduceEqDiff, reduceCtorEq, Nat.reduceAdd, Int.reduceEq, Int.reduceBNe, Int.reduceBEq, Int.reduceToNat, Int.reduceLT, Int.reduceLE, Int.reduceGT, Int.reduceGE, Nat.reduceSub, Nat.reduceBEq, Nat.reduceBNe, Int.reduceAdd, Int.reduceSub, Int.reduceMul, Int.reduceNeg, Nat.reduceMul, Nat.reduceLeDiff, Nat.reduceLT, k5', k6', hcne, hcne2]
                | simp (disch := omega) only [wi64, wu8, wu16, wu32, wu64, Int.tdiv_eq_ediv_of_nonneg, Int.tmod_eq_emod_of_nonneg]
                | with_reducible_and_instances exact finR
                | ((with_reducible refine finR' ?_ ?_) <;> rfl)
                | ((with_reducible refine finD hsc (NRel.of_plain ?_)); exact rfl)
              exact ⟨(C', _, (lv, pv, S1, S2), (lw, pw, R1, R2)), Weak.env (by simp [envIn, lk_cons, wth_some, hal]), ⟨hli.ok, hli.halved, hli.target, by show C'.past.length ≤ n + 1; have := hli.past; omega⟩, hfl, by simp only; omega, hT3⟩
            · have k6' : (x.kind == 6) = false := by simp [k6]
              have hsi := shift_inv C tg n hI y
              have hSa := Sample H.length C hI.ok lv pv S1 S2 (now + x.later) x.bytes x.delay x.under (by omega) _ hTb.a
              have hnow' := sample_now C (now + x.later) x.bytes x.delay x.under
              have hli := (sample_inv C tg n hI (now + x.later) x.bytes x.delay x.under).1
              have hfl := sample_full C hFl (now + x.later) x.bytes x.delay x.under
              have hsm := sample_sh C (now + x.later) x.bytes x.delay x.under y hnd
              have hse := sampleE_sh C (now + x.later) x.bytes x.delay x.under y hnd
              have hwd : IntKind.i64.wrap (x.delay + y) = x.delay + y := IntWalk.i64_in _ (by omega)
              have htd : (x.delay + y).tmod 4294967296 = sh y x.delay := by rw [Int.tmod_eq_emod_of_nonneg (by omega)]; rfl
              have hpn2 := hsi.past
              have hbl : (H1 ++ [boxA x])[H1.length]? = some (boxA x) := hget0 rfl
              repeat first
                | with_reducible refine AWP.seq ?_
                | ((with_reducible refine AWP.region ?_ ?_); exact rfl)
                | with_reducible refine AWP.block ?_
                | with_reducible refine AWP.skip ?_
                | with_reducible refine AWP.exit ?_
                | with_reducible refine AWP.ret ?_
                | with_reducible refine AWP.label ?_
                | with_reducible refine AWP.goto ?_
                | ((with_reducible refine AWP.condT ?_ ?_); focus (simp only [ev, lk_cons, ↓reduceIte, Nat.reduceEqDiff]; done))
                | ((with_reducible refine AWP.condF ?_ ?_); focus (simp only [ev, lk_cons, ↓reduceIte, Nat.reduceEqDiff]; done))
                | simp only [go_sem, ↓reduceIte, Nat.reduceEqDiff, reduceCtorEq, Nat.reduceAdd, Int.reduceEq, Int.reduceBNe, Int.reduceBEq, Int.reduceToNat, Int.reduceLT, Int.reduceLE, Int.reduceGT, Int.reduceGE, Nat.reduceSub, Nat.reduceBEq, Nat.reduceBNe, Int.reduceAdd, Int.reduceSub, Int.reduceMul, Int.reduceNeg, Nat.reduceMul, Nat.reduceLeDiff, Nat.reduceLT, k5', k6']
                | simp (disch := omega) only [wi64, wu8, wu16, wu32, wu64, Int.tdiv_eq_ediv_of_nonneg, Int.tmod_eq_emod_of_nonneg]
                | with_reducible_and_instances exact finR
                | ((with_reducible refine finR' ?_ ?_) <;> rfl)
                | ((with_reducible refine finD hsc (NRel.of_plain ?_)); exact rfl)
              refine AWP.regionE 20 8 (by kernel_rfl) (by decide) (by kernel_rfl) (by kernel_rfl) rfl ?_
              repeat first
                | with_reducible refine AWP.seq ?_
                | ((with_reducible refine AWP.region ?_ ?_); exact rfl)
                | with_reducible refine AWP.block ?_
                | with_reducible refine AWP.skip ?_
                | with_reducible refine AWP.exit ?_
                | with_reducible refine AWP.ret ?_
                | with_reducible refine AWP.label ?_
                | with_reducible refine AWP.goto ?_
                | ((with_reducible refine AWP.condT ?_ ?_); focus (simp only [ev, lk_cons, ↓reduceIte, Nat.reduceEqDiff]; done))
                | ((with_reducible refine AWP.condF ?_ ?_); focus (simp only [ev, lk_cons, ↓reduceIte, Nat.reduceEqDiff]; done))
                | simp only [go_sem, ↓reduceIte, Nat.reduceEqDiff, reduceCtorEq, Nat.reduceAdd, Int.reduceEq, Int.reduceBNe, Int.reduceBEq, Int.reduceToNat, Int.reduceLT, Int.reduceLE, Int.reduceGT, Int.reduceGE, Nat.reduceSub, Nat.reduceBEq, Nat.reduceBNe, Int.reduceAdd, Int.reduceSub, Int.reduceMul, Int.reduceNeg, Nat.reduceMul, Nat.reduceLeDiff, Nat.reduceLT, hbl, hwd, htd]
                | simp (disch := omega) only [wi64, wu8, wu16, wu32, wu64, Int.tdiv_eq_ediv_of_nonneg, Int.tmod_eq_emod_of_nonneg]
                | with_reducible_and_instances exact finR
                | ((with_reducible refine finR' ?_ ?_) <;> rfl)
                | ((with_reducible refine finD hsc (NRel.of_plain ?_)); exact rfl)
              refine hSa.mono ?_
              rintro r H2 ⟨rfl, ⟨lv2, pv2, U1, U2, hC2, j1, j2⟩, hf2⟩
              have hT2 := hTb.stepA hC2 hf2 j1 j2
              have gbx : H2[H1.length]? = some (boxA x) := hf2.get hbl (fun hm => by have := hT.a.lt _ hm; omega)
              have hSb := Sample (H.length + 1) (C.shift y) hsi.ok lw pw R1 R2 (now + x.later) x.bytes (sh y x.delay) x.under (by omega) _ hT2.b
              repeat first
                | with_reducible refine AWP.seq ?_
                | ((with_reducible refine AWP.region ?_ ?_); exact rfl)
                | with_reducible refine AWP.block ?_
                | with_reducible refine AWP.skip ?_
                | with_reducible refine AWP.exit ?_
                | with_reducible refine AWP.ret ?_
                | with_reducible refine AWP.label ?_
                | with_reducible refine AWP.goto ?_
                | ((with_reducible refine AWP.condT ?_ ?_); focus (simp only [ev, lk_cons, ↓reduceIte, Nat.reduceEqDiff]; done))
                | ((with_reducible refine AWP.condF ?_ ?_); focus (simp only [ev, lk_cons, ↓reduceIte, Nat.reduceEqDiff]; done))
                | simp only [go_sem, ↓reduceIte, Nat.reduceEqDiff, reduceCtorEq, Nat.reduceAdd, Int.reduceEq, Int.reduceBNe, Int.reduceBEq, Int.reduceToNat, Int.reduceLT, Int.reduceLE, Int.reduceGT, Int.reduceGE, Nat.reduceSub, Nat.reduceBEq, Nat.reduceBNe, Int.reduceAdd, Int.reduceSub, Int.reduceMul, Int.reduceNeg, Nat.reduceMul, Nat.reduceLeDiff, Nat.reduceLT, gbx, keepW, dstV, hwd, htd, exists_eq_left]
                | simp (disch := omega) only [wi64, wu8, wu16, wu32, wu64, Int.tdiv_eq_ediv_of_nonneg, Int.tmod_eq_emod_of_nonneg]
                | with_reducible_and_instances exact finR
                | ((with_reducible refine finR' ?_ ?_) <;> rfl)
                | ((with_reducible refine finD hsc (NRel.of_plain ?_)); exact rfl)
              refine hSb.mono ?_
              rintro r H3 ⟨rfl, ⟨lw2, pw2, V1, V2, hC3, i1, i2⟩, hf3⟩
              have hT3 := hT2.stepB hC3 hf3 i1 i2
              rw [hsm] at hT3
              rw [hse]
              generalize C.sampleL (now + x.later) x.bytes x.delay x.under = C' at *
              repeat first
                | with_reducible refine AWP.seq ?_
                | ((with_reducible refine AWP.region ?_ ?_); exact rfl)
                | with_reducible refine AWP.block ?_
                | with_reducible refine AWP.skip ?_
                | with_reducible refine AWP.exit ?_
                | with_reducible refine AWP.ret ?_
                | with_reducible refine AWP.label ?_
                | with_reducible refine AWP.goto ?_
                | ((with_reducible refine AWP.condT ?_ ?_); focus (simp only [ev, lk_cons, ↓reduceIte, Nat.reduceEqDiff]; done))
                | ((with_reducible refine AWP.condF ?_ ?_); focus (simp only [ev, lk_cons, ↓reduceIte, Nat.reduceEqDiff]; done))
                | simp only [go_sem, ↓reduceIte, Nat.reduceEqDiff, reduceCtorEq, Nat.reduceAdd, Int.reduceEq, Int.reduceBNe, Int.reduceBEq, Int.reduceToNat, Int.reduceLT, Int.reduceLE, Int.reduceGT, Int.reduceGE, Nat.reduceSub, Nat.reduceBEq, Nat.reduceBNe, Int.reduceAdd, Int.reduceSub, Int.reduceMul, Int.reduceNeg, Nat.reduceMul, Nat.reduceLeDiff, Nat.reduceLT]
                | simp (disch := omega) only [wi64, wu8, wu16, wu32, wu64, Int.tdiv_eq_ediv_of_nonneg, Int.tmod_eq_emod_of_nonneg]
                | with_reducible_and_instances exact finR
                | ((with_reducible refine finR' ?_ ?_) <;> rfl)
                | ((with_reducible refine finD hsc (NRel.of_plain ?_)); exact rfl)
              exact ⟨(C', H3, (lv2, pv2, U1, U2), (lw2, pw2, V1, V2)), Weak.env (by simp [envIn, lk_cons, wth_some, hal]), hli, hfl, by simp only; omega, hT3⟩
        · rintro ⟨C', H3, ⟨lv', pv', S1', S2'⟩, ⟨lw', pw', R1', R2'⟩⟩ ⟨b1, b2, b3, b4⟩
          simp only at b1 b2 b3 b4
          have hsi := shift_inv C' tg (n + 1) b1 y
          have hp1 := b1.past
          have hp2 := hsi.past
          have hQa := Queueing H.length C' lv' pv' S1' S2' (by have := b1.ok.last; omega) (by omega) H3 b4.a
          have hQb := Queueing (H.length + 1) (C'.shift y) lw' pw' R1' R2' (by have := hsi.ok.last; omega) (by omega) H3 b4.b
          rw [queueR_sh C' y b2, ask_sh] at hQb
          have hLa := Limit H.length C' lv' pv' S1' S2' H3 b4.a
          have hLb := Limit (H.length + 1) (C'.shift y) lw' pw' R1' R2' H3 b4.b
          have hll : (C'.shift y).limit = C'.limit := rfl
          rw [hll] at hLb
          repeat first
            | with_reducible refine AWP.seq ?_
            | ((with_reducible refine AWP.region ?_ ?_); exact rfl)
            | with_reducible refine AWP.block ?_
            | with_reducible refine AWP.skip ?_
            | with_reducible refine AWP.exit ?_
            | with_reducible refine AWP.ret ?_
            | with_reducible refine AWP.label ?_
            | with_reducible refine AWP.goto ?_
            | ((with_reducible refine AWP.condT ?_ ?_); focus (simp only [ev, lk_cons, ↓reduceIte, Nat.reduceEqDiff]; done))
            | ((with_reducible refine AWP.condF ?_ ?_); focus (simp only [ev, lk_cons, ↓reduceIte, Nat.reduceEqDiff]; done))
            | with_reducible refine hQa.use ?_
            | with_reducible refine hQb.use ?_
            | with_reducible refine hLa.use ?_
            | with_reducible refine hLb.use ?_
            | simp only [go_sem, ↓reduceIte, Nat.reduceEqDiff, reduceCtorEq, Nat.reduceAdd, Int.reduceEq, Int.reduceBNe, Int.reduceBEq, Int.reduceToNat, Int.reduceLT, Int.reduceLE, Int.reduceGT, Int.reduceGE, Nat.reduceSub, Nat.reduceBEq, Nat.reduceBNe, Int.reduceAdd, Int.reduceSub, Int.reduceMul, Int.reduceNeg, Nat.reduceMul, Nat.reduceLeDiff, Nat.reduceLT]
            | simp (disch := omega) only [wi64, wu8, wu16, wu32, wu64, Int.tdiv_eq_ediv_of_nonneg, Int.tmod_eq_emod_of_nonneg]
            | with_reducible_and_instances exact finR
            | ((with_reducible refine finR' ?_ ?_) <;> rfl)
            | ((with_reducible refine finD hsc (NRel.of_plain ?_)); exact rfl)
          have := hfinal C' H3 lv' pv' S1' S2' lw' pw' R1' R2' b1 b2 b3 b4
          exact ⟨(n + 1, now + x.later, H3), Weak.env (by simp [envIn, lk_cons, wth_some, hal]), this.1, this.2.1.1, this.2.1.2, ⟨C', b1, b2, b3, lv', pv', S1', S2', lw', pw', R1', R2', b4⟩, by simp; omega⟩
      · have : n = l.length := by omega
        subst this
        have hc' : ¬ (l.length : Int) < (l.length : Int) := by omega
        obtain ⟨Y, rfl⟩ := frm_split hT.len hT.pre
        repeat first
          | with_reducible refine AWP.seq ?_
          | ((with_reducible refine AWP.region ?_ ?_); exact rfl)
          | with_reducible refine AWP.block ?_
          | with_reducible refine AWP.skip ?_
          | with_reducible refine AWP.exit ?_
          | with_reducible refine AWP.ret ?_
          | with_reducible refine AWP.label ?_
          | with_reducible refine AWP.goto ?_
          | ((with_reducible refine AWP.condT ?_ ?_); focus (simp only [ev, lk_cons, ↓reduceIte, Nat.reduceEqDiff]; done))
          | ((with_reducible refine AWP.condF ?_ ?_); focus (simp only [ev, lk_cons, ↓reduceIte, Nat.reduceEqDiff]; done))
          | with_reducible refine (awake _).use ?_
          | simp only [go_sem, ↓reduceIte, Nat.reduceEqDiff, reduceCtorEq, Nat.reduceAdd, Int.reduceEq, Int.reduceBNe, Int.reduceBEq, Int.reduceToNat, Int.reduceLT, Int.reduceLE, Int.reduceGT, Int.reduceGE, Nat.reduceSub, Nat.reduceBEq, Nat.reduceBNe, Int.reduceAdd, Int.reduceSub, Int.reduceMul, Int.reduceNeg, Nat.reduceMul, Nat.reduceLeDiff, Nat.reduceLT, hc']
          | simp (disch := omega) only [wi64, wu8, wu16, wu32, wu64, Int.tdiv_eq_ediv_of_nonneg, Int.tmod_eq_emod_of_nonneg]
          | with_reducible_and_instances exact finR
          | ((with_reducible refine finR' ?_ ?_) <;> rfl)
          | ((with_reducible refine finD hsc (NRel.of_plain ?_)); exact rfl)
    · rw [if_neg htg, if_neg htg, List.append_nil] at hN
      refine AC.enter Try.func6 rfl (by kernel_rfl) 142 rfl [.tmp 6] rfl (by simp) fun hsc B => ?_
      repeat first
        | with_reducible refine AWP.seq ?_
        | ((with_reducible refine AWP.region ?_ ?_); exact rfl)
        | with_reducible refine AWP.block ?_
        | with_reducible refine AWP.skip ?_
        | with_reducible refine AWP.exit ?_
        | with_reducible refine AWP.ret ?_
        | with_reducible refine AWP.label ?_
        | with_reducible refine AWP.goto ?_
        | ((with_reducible refine AWP.condT ?_ ?_); focus (simp only [ev, lk_cons, ↓reduceIte, Nat.reduceEqDiff]; done))
        | ((with_reducible refine AWP.condF ?_ ?_); focus (simp only [ev, lk_cons, ↓reduceIte, Nat.reduceEqDiff]; done))
        | with_reducible refine hlt.use ?_
        | with_reducible refine hN.use ?_
        | with_reducible refine (awake _).use ?_
        | simp only [go_sem, ↓reduceIte, Nat.reduceEqDiff, reduceCtorEq, Nat.reduceAdd, Int.reduceEq, Int.reduceBNe, Int.reduceBEq, Int.reduceToNat, Int.reduceLT, Int.reduceLE, Int.reduceGT, Int.reduceGE, Nat.reduceSub, Nat.reduceBEq, Nat.reduceBNe, Int.reduceAdd, Int.reduceSub, Int.reduceMul, Int.reduceNeg, Nat.reduceMul, Nat.reduceLeDiff, Nat.reduceLT, y0, y1]
        | simp (disch := omega) only [wi64, wu8, wu16, wu32, wu64, Int.tdiv_eq_ediv_of_nonneg, Int.tmod_eq_emod_of_nonneg]
        | with_reducible_and_instances exact finR
        | ((with_reducible refine finR' ?_ ?_) <;> rfl)
        | ((with_reducible refine finD hsc (NRel.of_plain ?_)); exact rfl)
end Go.Proofs.Ytoikchnpflnehaa
