/-
  The control and that of the specification in one heap: what an act makes of them; that they stand alike.
-/
import Derived.Test.YtoikchnpflnehaaGV
import Derived.Test.YtoikchnpflnehaaGK
set_option linter.unusedVariables false
set_option linter.unusedSimpArgs false
set_option maxRecDepth 20000
set_option maxHeartbeats 4000000
namespace Go.Proofs.Ytoikchnpflnehaa
open Go Go.Aw Go.Proofs
theorem ctl_lt {H : AHeap} {c : Nat} {C : Ctl} {lv pv : Value} {S1 S2 : List Nat} (h : CtlAt H c C lv pv S1 S2) : ∀ s ∈ c :: (S1 ++ S2), s < H.length := fun s hs => by
  rcases List.mem_cons.1 hs with rfl | hs
  · exact lt_of_get h.at_
  · rcases List.mem_append.1 hs with hs | hs
    · exact h.last.lt _ hs
    · exact h.past.lt _ hs
theorem ctl_frm {T : List Nat} {H H2 : AHeap} {c : Nat} {C : Ctl} {lv pv : Value} {S1 S2 : List Nat} (h : CtlAt H c C lv pv S1 S2) (hf : Frm T H H2) (hd : ∀ s ∈ c :: (S1 ++ S2), s ∉ T) : CtlAt H2 c C lv pv S1 S2 :=
  h.frm hf (hd c (by simp)) (fun s hs => hd s (by simp [hs])) (fun s hs => hd s (by simp [hs]))
theorem mem3' {c : Nat} {S1 S2 S1' S2' : List Nat} {n : Nat} (k1 : ∀ s ∈ S1', s ∈ S1 ∨ n ≤ s) (k2 : ∀ s ∈ S2', s ∈ S2 ∨ n ≤ s) : ∀ s ∈ c :: (S1' ++ S2'), s ∈ c :: (S1 ++ S2) ∨ n ≤ s := fun s hs => by
  rcases List.mem_cons.1 hs with rfl | hs
  · left; simp
  · rcases List.mem_append.1 hs with hs | hs
    · rcases k1 s hs with h | h
      · left; simp [h]
      · right; exact h
    · rcases k2 s hs with h | h
      · left; simp [h]
      · right; exact h
theorem rat_lt {H : AHeap} {c : Nat} {R : RCtl} {av : Value} {S : List Nat} (h : RAt H c R av S) : ∀ s ∈ c :: S, s < H.length := fun s hs => by
  rcases List.mem_cons.1 hs with rfl | hs
  · exact lt_of_get h.at_
  · exact h.all.lt _ hs
/-- The control at ca and that of the specification at cb, apart from each other and from what K names. -/
structure Duo (K : Nat → AObj → Prop) (ca cb : Nat) (C : Ctl) (R : RCtl) (H1 : AHeap) (lv pv : Value) (S1 S2 : List Nat) (av : Value) (S : List Nat) : Prop where
  a : CtlAt H1 ca C lv pv S1 S2
  b : RAt H1 cb R av S
  dis : ∀ s ∈ ca :: (S1 ++ S2), s ∉ cb :: S
  keep : ∀ j o, K j o → H1[j]? = some o ∧ j ∉ ca :: (S1 ++ S2) ∧ j ∉ cb :: S
section
variable {K : Nat → AObj → Prop} {ca cb : Nat} {C : Ctl} {R : RCtl} {H1 : AHeap} {lv pv : Value} {S1 S2 : List Nat} {av : Value} {S : List Nat}
theorem Duo.grown (h : Duo K ca cb C R H1 lv pv S1 S2 av S) {H2 : AHeap} (hf : Frm [] H1 H2) : Duo K ca cb C R H2 lv pv S1 S2 av S :=
  ⟨ctl_frm h.a hf (by simp), h.b.grown hf, h.dis, fun j o hk => ⟨hf.get (h.keep j o hk).1 (by simp), (h.keep j o hk).2⟩⟩
theorem Duo.more (h : Duo K ca cb C R H1 lv pv S1 S2 av S) (X : AHeap) : Duo K ca cb C R (H1 ++ X) lv pv S1 S2 av S := h.grown Frm.app
theorem Duo.stepA (h : Duo K ca cb C R H1 lv pv S1 S2 av S) {C' : Ctl} {H2 : AHeap} {lv' pv' : Value} {S1' S2' : List Nat} (g : CtlAt H2 ca C' lv' pv' S1' S2') (hf : Frm (ca :: (S1 ++ S2)) H1 H2) (k1 : ∀ s ∈ S1', s ∈ S1 ∨ H1.length ≤ s) (k2 : ∀ s ∈ S2', s ∈ S2 ∨ H1.length ≤ s) :
    Duo K ca cb C' R H2 lv' pv' S1' S2' av S := by
  refine ⟨g, h.b.frm hf (fun hm => h.dis _ hm (by simp)) (fun s hs hm => h.dis s hm (by simp [hs])), fun s hs hm => ?_, fun j o hk => ?_⟩
  · rcases mem3' (c := ca) k1 k2 s hs with h' | h'
    · exact h.dis s h' hm
    · have := rat_lt h.b s hm; omega
  · obtain ⟨h1, h2, h3⟩ := h.keep j o hk
    refine ⟨hf.get h1 h2, fun hm => ?_, h3⟩
    rcases mem3' (c := ca) k1 k2 j hm with h' | h'
    · exact h2 h'
    · have := lt_of_get h1; omega
theorem Duo.stepB (h : Duo K ca cb C R H1 lv pv S1 S2 av S) {R' : RCtl} {H2 : AHeap} {av' : Value} {S' : List Nat} (g : RAt H2 cb R' av' S') (hf : Frm (cb :: S) H1 H2) (k1 : ∀ s ∈ S', s ∈ S ∨ H1.length ≤ s) :
    Duo K ca cb C R' H2 lv pv S1 S2 av' S' := by
  have hm' : ∀ s, s ∈ cb :: S' → s ∈ cb :: S ∨ H1.length ≤ s := fun s hs => by
    rcases List.mem_cons.1 hs with rfl | hs
    · left; simp
    · rcases k1 s hs with h' | h'
      · left; simp [h']
      · exact .inr h'
  refine ⟨ctl_frm h.a hf (fun s hs hm => h.dis s hs hm), g, fun s hs hm => ?_, fun j o hk => ?_⟩
  · rcases hm' s hm with h' | h'
    · exact h.dis s hs h'
    · have := ctl_lt h.a s hs; omega
  · obtain ⟨h1, h2, h3⟩ := h.keep j o hk
    refine ⟨hf.get h1 h3, h2, fun hm => ?_⟩
    rcases hm' j hm with h' | h'
    · exact h3 h'
    · have := lt_of_get h1; omega
theorem Duo.putA (h : Duo K ca cb C R H1 lv pv S1 S2 av S) {C' : Ctl} (h1 : C'.last = C.last) (h2 : C'.past = C.past) : Duo K ca cb C' R (H1.set ca (cO C' lv pv)) lv pv S1 S2 av S :=
  h.stepA (h.a.put h1 h2) ((Frm.refl _ _).set (.inl (by simp))) (fun s hs => .inl hs) (fun s hs => .inl hs)
theorem Duo.putB (h : Duo K ca cb C R H1 lv pv S1 S2 av S) {R' : RCtl} (h1 : R'.all = R.all) : Duo K ca cb C R' (H1.set cb (rcO R' av)) lv pv S1 S2 av S :=
  h.stepB (h.b.put h1) ((Frm.refl _ _).set (.inl (by simp))) (fun s hs => .inl hs)
end
/-- The two stand alike at some heap. -/
def Alk (tg : Int) (K : Nat → AObj → Prop) (ca cb n : Nat) (H1 : AHeap) : Prop := ∃ C R lv pv S1 S2 av S, Both tg n C R ∧ Duo K ca cb C R H1 lv pv S1 S2 av S
theorem Alk.weak {tg : Int} {K K' : Nat → AObj → Prop} {ca cb n : Nat} {H1 : AHeap} (h : Alk tg K ca cb n H1) (hk : ∀ j o, K' j o → K j o) : Alk tg K' ca cb n H1 := by
  obtain ⟨C, R, lv, pv, S1, S2, av, S, hB, hD⟩ := h
  exact ⟨C, R, lv, pv, S1, S2, av, S, hB, hD.a, hD.b, hD.dis, fun j o h => hD.keep j o (hk j o h)⟩
theorem Alk.box {tg : Int} {K : Nat → AObj → Prop} {ca cb n : Nat} {H1 : AHeap} (h : Alk tg K ca cb n H1) (o : AObj) : Alk tg (fun j x => K j x ∨ (j = H1.length ∧ x = o)) ca cb n (H1 ++ [o]) := by
  obtain ⟨C, R, lv, pv, S1, S2, av, S, hB, hD⟩ := h
  have h2 := hD.more [o]
  refine ⟨C, R, lv, pv, S1, S2, av, S, hB, h2.a, h2.b, h2.dis, fun j x h => ?_⟩
  rcases h with h | ⟨rfl, rfl⟩
  · exact h2.keep j x h
  · exact ⟨hget0 rfl, fun hm => by have := ctl_lt hD.a _ hm; omega, fun hm => by have := rat_lt hD.b _ hm; omega⟩
theorem Alk.get {tg : Int} {K : Nat → AObj → Prop} {ca cb n : Nat} {H1 : AHeap} (h : Alk tg K ca cb n H1) {j : Nat} {o : AObj} (hk : K j o) : H1[j]? = some o := by
  obtain ⟨C, R, lv, pv, S1, S2, av, S, hB, hD⟩ := h
  exact (hD.keep j o hk).1
theorem Alk.pre {tg : Int} {H : AHeap} {ca cb n : Nat} {H1 : AHeap} (h : Alk tg (fun j o => H[j]? = some o) ca cb n H1) : ∃ Y, H1 = H ++ Y := by
  refine frm_split ?_ fun j hj => ?_
  · rcases Nat.eq_zero_or_pos H.length with e | e
    · omega
    · have hj : H.length - 1 < H.length := by omega
      have := lt_of_get (h.get (j := H.length - 1) (List.getElem?_eq_getElem hj))
      omega
  · rw [List.getElem?_eq_getElem hj]; exact h.get (List.getElem?_eq_getElem hj)
def ActS.v (x : ActS) : Value := .agg ⟨[.int .i64 x.kind, .int .i64 x.later, .int .i64 x.bytes, .int .i64 x.delay, .int .i64 x.under, .int .i64 x.trip]⟩
theorem loss_lp (C : Ctl) (t trip : Int) : (C.loss t trip).last = C.last ∧ (C.loss t trip).past = C.past := ⟨(loss_same C t trip).1, (loss_same C t trip).2.1⟩
theorem out_lp (C : Ctl) (t : Int) : (C.out t).last = C.last ∧ (C.out t).past = C.past := by
  unfold Ctl.out
  split <;> exact ⟨rfl, rfl⟩
theorem doW (tg : Int) (K : Nat → AObj → Prop) (ca cb n : Nat) (hn : n < 1000) (now : Int) (x : ActS) (H1 : AHeap) (h : Alk tg K ca cb n H1) :
    AC Try.prog 37 [.pointer (some ⟨ca, 0, none⟩), .pointer (some ⟨cb, 0, none⟩), .int .i64 now, x.v] H1 (fun r H2 => r = .ret (.bool true) ∧ Alk tg K ca cb (n + 1) H2) := by
  obtain ⟨C, R, lv, pv, S1, S2, av, S, ⟨hI, hok, hcp, hal⟩, hD⟩ := h
  have hDb := hD.more [boxA x]
  have hcl := lt_of_get hDb.a.at_
  have hcl2 := lt_of_get hDb.b.at_
  have hne : ca ≠ cb := fun e => hD.dis ca (by simp) (by simp [e])
  have hna : ca ≠ H1.length := by have := lt_of_get hD.a.at_; omega
  have hnb : cb ≠ H1.length := by have := lt_of_get hD.b.at_; omega
  unfold ActS.v
  by_cases h5 : x.kind = 5
  · have h5' : (x.kind == 5) = true := beq_iff_eq.2 h5
    have hA := cLoss ca C lv pv hI.ok hI.halved now x.trip (H1 ++ [boxA x]) hDb.a.at_
    obtain ⟨l1, l2⟩ := loss_lp C now x.trip
    have hD2 := hDb.putA l1 l2
    obtain ⟨c1, c2, c3, c4, c5⟩ := hcp.loss hok now x.trip
    have hB := rcLoss cb R av now x.trip hok.now.1 hok.time hok.limit _ hD2.b.at_
    have hD3 := hD2.putB c5
    have hinv := (loss_inv C tg n hI now x.trip).1
    rw [← c3, ← c4] at hB
    generalize clossB C now x.trip = b at *
    generalize clossE C now x.trip = e at *
    have g2 : ((H1 ++ [boxA x]).set ca (cO (C.loss now x.trip) lv pv))[H1.length]? = some (boxA x) := by rw [hset_ne hna]; exact hget0 rfl
    refine AC.enter Try.func37 rfl (by kernel_rfl) 69 rfl [.tmp 8] rfl (by simp) fun hsc B => ?_
    repeat first
      | with_reducible refine AWP.seq ?_
      | ((with_reducible refine AWP.region ?_ ?_); exact rfl)
      | with_reducible refine AWP.block ?_
      | with_reducible refine AWP.skip ?_
      | with_reducible refine AWP.exit ?_
      | with_reducible refine AWP.ret ?_
      | with_reducible refine AWP.label ?_
      | with_reducible refine AWP.goto ?_
      | ((with_reducible refine AWP.condT ?_ ?_); focus (simp only [ev, lk_cons, ↓reduceIte, Nat.reduceEqDiff]; done))
      | ((with_reducible refine AWP.condF ?_ ?_); focus (simp only [ev, lk_cons, ↓reduceIte, Nat.reduceEqDiff]; done))
      | with_reducible refine hA.use ?_
      | with_reducible refine hB.use ?_
      | simp only [go_sem, ↓reduceIte, Nat.reduceEqDiff, reduceCtorEq, Nat.reduceAdd, Int.reduceEq, Int.reduceBNe, Int.reduceBEq, Int.reduceToNat, Int.reduceLT, Int.reduceLE, Int.reduceGT, Int.reduceGE, Nat.reduceSub, Nat.reduceBEq, Nat.reduceBNe, Int.reduceAdd, Int.reduceSub, Int.reduceMul, Int.reduceNeg, Nat.reduceMul, Nat.reduceLeDiff, Nat.reduceLT, h5', g2]
      | simp (disch := omega) only [wi64, wu8, wu16, wu32, wu64, Int.tdiv_eq_ediv_of_nonneg, Int.tmod_eq_emod_of_nonneg]
      | with_reducible_and_instances exact finR
      | ((with_reducible refine finR' ?_ ?_) <;> rfl)
      | ((with_reducible refine finD hsc (NRel.of_plain ?_)); exact rfl)
    exact ⟨_, _, .refl _ _ _, rfl, _, _, _, _, _, _, _, _, ⟨⟨hinv.ok, hinv.halved, hinv.target, by have := hinv.past; omega⟩, c2, c1, by rw [c5]; omega⟩, hD3⟩
  · have h5' : (x.kind == 5) = false := beq_eq_false_iff_ne.2 h5
    by_cases h6 : x.kind = 6
    · have h6' : (x.kind == 6) = true := beq_iff_eq.2 h6
      have hA := cOut ca C lv pv now (H1 ++ [boxA x]) hDb.a.at_
      obtain ⟨l1, l2⟩ := out_lp C now
      have hD2 := hDb.putA l1 l2
      obtain ⟨c1, c2, c4, c5⟩ := hcp.out hok now
      have hB := rcOut cb R av now _ hD2.b.at_
      have hD3 := hD2.putB c5
      have hinv := out_inv C tg n hI now
      rw [← c4] at hB
      generalize coutE C now = e at *
      refine AC.enter Try.func37 rfl (by kernel_rfl) 69 rfl [.tmp 8] rfl (by simp) fun hsc B => ?_
      repeat first
        | with_reducible refine AWP.seq ?_
        | ((with_reducible refine AWP.region ?_ ?_); exact rfl)
        | with_reducible refine AWP.block ?_
        | with_reducible refine AWP.skip ?_
        | with_reducible refine AWP.exit ?_
        | with_reducible refine AWP.ret ?_
        | with_reducible refine AWP.label ?_
        | with_reducible refine AWP.goto ?_
        | ((with_reducible refine AWP.condT ?_ ?_); focus (simp only [ev, lk_cons, ↓reduceIte, Nat.reduceEqDiff]; done))
        | ((with_reducible refine AWP.condF ?_ ?_); focus (simp only [ev, lk_cons, ↓reduceIte, Nat.reduceEqDiff]; done))
        | with_reducible refine hA.use ?_
        | with_reducible refine hB.use ?_
        | simp only [go_sem, ↓reduceIte, Nat.reduceEqDiff, reduceCtorEq, Nat.reduceAdd, Int.reduceEq, Int.reduceBNe, Int.reduceBEq, Int.reduceToNat, Int.reduceLT, Int.reduceLE, Int.reduceGT, Int.reduceGE, Nat.reduceSub, Nat.reduceBEq, Nat.reduceBNe, Int.reduceAdd, Int.reduceSub, Int.reduceMul, Int.reduceNeg, Nat.reduceMul, Nat.reduceLeDiff, Nat.reduceLT, h5', h6']
        | simp (disch := omega) only [wi64, wu8, wu16, wu32, wu64, Int.tdiv_eq_ediv_of_nonneg, Int.tmod_eq_emod_of_nonneg]
        | with_reducible_and_instances exact finR
        | ((with_reducible refine finR' ?_ ?_) <;> rfl)
        | ((with_reducible refine finD hsc (NRel.of_plain ?_)); exact rfl)
      exact ⟨_, _, .refl _ _ _, rfl, _, _, _, _, _, _, _, _, ⟨⟨hinv.ok, hinv.halved, hinv.target, by have := hinv.past; omega⟩, c2, c1, by rw [c5]; omega⟩, hD3⟩
    · have h6' : (x.kind == 6) = false := beq_eq_false_iff_ne.2 h6
      have hpl := hI.past
      have hSa := Sample ca C hI.ok lv pv S1 S2 now x.bytes x.delay x.under (by omega) _ hDb.a
      obtain ⟨c1, c2, c3, c4⟩ := hcp.sample hok now x.bytes x.delay x.under
      have hinv := (sample_inv C tg n hI now x.bytes x.delay x.under).1
      have hbl : (H1 ++ [boxA x])[H1.length]? = some (boxA x) := hget0 rfl
      refine AC.enter Try.func37 rfl (by kernel_rfl) 69 rfl [.tmp 8] rfl (by simp) fun hsc B => ?_
      repeat first
        | with_reducible refine AWP.seq ?_
        | ((with_reducible refine AWP.region ?_ ?_); exact rfl)
        | with_reducible refine AWP.block ?_
        | with_reducible refine AWP.skip ?_
        | with_reducible refine AWP.exit ?_
        | with_reducible refine AWP.ret ?_
        | with_reducible refine AWP.label ?_
        | with_reducible refine AWP.goto ?_
        | ((with_reducible refine AWP.condT ?_ ?_); focus (simp only [ev, lk_cons, ↓reduceIte, Nat.reduceEqDiff]; done))
        | ((with_reducible refine AWP.condF ?_ ?_); focus (simp only [ev, lk_cons, ↓reduceIte, Nat.reduceEqDiff]; done))
        | simp only [go_sem, ↓reduceIte, Nat.reduceEqDiff, reduceCtorEq, Nat.reduceAdd, Int.reduceEq, Int.reduceBNe, Int.reduceBEq, Int.reduceToNat, Int.reduceLT, Int.reduceLE, Int.reduceGT, Int.reduceGE, Nat.reduceSub, Nat.reduceBEq, Nat.reduceBNe, Int.reduceAdd, Int.reduceSub, Int.reduceMul, Int.reduceNeg, Nat.reduceMul, Nat.reduceLeDiff, Nat.reduceLT, h5', h6']
        | simp (disch := omega) only [wi64, wu8, wu16, wu32, wu64, Int.tdiv_eq_ediv_of_nonneg, Int.tmod_eq_emod_of_nonneg]
        | with_reducible_and_instances exact finR
        | ((with_reducible refine finR' ?_ ?_) <;> rfl)
        | ((with_reducible refine finD hsc (NRel.of_plain ?_)); exact rfl)
      refine AWP.regionE 17 8 (by kernel_rfl) (by decide) (by kernel_rfl) (by kernel_rfl) rfl ?_
      repeat first
        | with_reducible refine AWP.seq ?_
        | ((with_reducible refine AWP.region ?_ ?_); exact rfl)
        | with_reducible refine AWP.block ?_
        | with_reducible refine AWP.skip ?_
        | with_reducible refine AWP.exit ?_
        | with_reducible refine AWP.ret ?_
        | with_reducible refine AWP.label ?_
        | with_reducible refine AWP.goto ?_
        | ((with_reducible refine AWP.condT ?_ ?_); focus (simp only [ev, lk_cons, ↓reduceIte, Nat.reduceEqDiff]; done))
        | ((with_reducible refine AWP.condF ?_ ?_); focus (simp only [ev, lk_cons, ↓reduceIte, Nat.reduceEqDiff]; done))
        | simp only [go_sem, ↓reduceIte, Nat.reduceEqDiff, reduceCtorEq, Nat.reduceAdd, Int.reduceEq, Int.reduceBNe, Int.reduceBEq, Int.reduceToNat, Int.reduceLT, Int.reduceLE, Int.reduceGT, Int.reduceGE, Nat.reduceSub, Nat.reduceBEq, Nat.reduceBNe, Int.reduceAdd, Int.reduceSub, Int.reduceMul, Int.reduceNeg, Nat.reduceMul, Nat.reduceLeDiff, Nat.reduceLT, hbl]
        | simp (disch := omega) only [wi64, wu8, wu16, wu32, wu64, Int.tdiv_eq_ediv_of_nonneg, Int.tmod_eq_emod_of_nonneg]
        | with_reducible_and_instances exact finR
        | ((with_reducible refine finR' ?_ ?_) <;> rfl)
        | ((with_reducible refine finD hsc (NRel.of_plain ?_)); exact rfl)
      refine hSa.mono ?_
      rintro r H2 ⟨rfl, ⟨lv2, pv2, U1, U2, hC2, j1, j2⟩, hf2⟩
      have hD2 := hDb.stepA hC2 hf2 j1 j2
      have gbx : H2[H1.length]? = some (boxA x) := hf2.get hbl (fun hm => by have := ctl_lt hD.a _ hm; omega)
      have hSb := rSample cb R hok av S now x.bytes x.delay x.under (by omega) H2 hD2.b
      repeat first
        | with_reducible refine AWP.seq ?_
        | ((with_reducible refine AWP.region ?_ ?_); exact rfl)
        | with_reducible refine AWP.block ?_
        | with_reducible refine AWP.skip ?_
        | with_reducible refine AWP.exit ?_
        | with_reducible refine AWP.ret ?_
        | with_reducible refine AWP.label ?_
        | with_reducible refine AWP.goto ?_
        | ((with_reducible refine AWP.condT ?_ ?_); focus (simp only [ev, lk_cons, ↓reduceIte, Nat.reduceEqDiff]; done))
        | ((with_reducible refine AWP.condF ?_ ?_); focus (simp only [ev, lk_cons, ↓reduceIte, Nat.reduceEqDiff]; done))
        | simp only [go_sem, ↓reduceIte, Nat.reduceEqDiff, reduceCtorEq, Nat.reduceAdd, Int.reduceEq, Int.reduceBNe, Int.reduceBEq, Int.reduceToNat, Int.reduceLT, Int.reduceLE, Int.reduceGT, Int.reduceGE, Nat.reduceSub, Nat.reduceBEq, Nat.reduceBNe, Int.reduceAdd, Int.reduceSub, Int.reduceMul, Int.reduceNeg, Nat.reduceMul, Nat.reduceLeDiff, Nat.reduceLT, gbx, keepW, dstV, exists_eq_left]
        | simp (disch := omega) only [wi64, wu8, wu16, wu32, wu64, Int.tdiv_eq_ediv_of_nonneg, Int.tmod_eq_emod_of_nonneg]
        | with_reducible_and_instances exact finR
        | ((with_reducible refine finR' ?_ ?_) <;> rfl)
        | ((with_reducible refine finD hsc (NRel.of_plain ?_)); exact rfl)
      refine hSb.mono ?_
      rintro r H3 ⟨rfl, av2, S', hR3, hf3, k1⟩
      have hD3 := hD2.stepB hR3 hf3 k1
      rw [c3]
      generalize rsampleE R now x.bytes x.delay x.under = e at *
      repeat first
        | with_reducible refine AWP.seq ?_
        | ((with_reducible refine AWP.region ?_ ?_); exact rfl)
        | with_reducible refine AWP.block ?_
        | with_reducible refine AWP.skip ?_
        | with_reducible refine AWP.exit ?_
        | with_reducible refine AWP.ret ?_
        | with_reducible refine AWP.label ?_
        | with_reducible refine AWP.goto ?_
        | ((with_reducible refine AWP.condT ?_ ?_); focus (simp only [ev, lk_cons, ↓reduceIte, Nat.reduceEqDiff]; done))
        | ((with_reducible refine AWP.condF ?_ ?_); focus (simp only [ev, lk_cons, ↓reduceIte, Nat.reduceEqDiff]; done))
        | simp only [go_sem, ↓reduceIte, Nat.reduceEqDiff, reduceCtorEq, Nat.reduceAdd, Int.reduceEq, Int.reduceBNe, Int.reduceBEq, Int.reduceToNat, Int.reduceLT, Int.reduceLE, Int.reduceGT, Int.reduceGE, Nat.reduceSub, Nat.reduceBEq, Nat.reduceBNe, Int.reduceAdd, Int.reduceSub, Int.reduceMul, Int.reduceNeg, Nat.reduceMul, Nat.reduceLeDiff, Nat.reduceLT]
        | simp (disch := omega) only [wi64, wu8, wu16, wu32, wu64, Int.tdiv_eq_ediv_of_nonneg, Int.tmod_eq_emod_of_nonneg]
        | with_reducible_and_instances exact finR
        | ((with_reducible refine finR' ?_ ?_) <;> rfl)
        | ((with_reducible refine finD hsc (NRel.of_plain ?_)); exact rfl)
      exact ⟨_, _, .refl _ _ _, rfl, _, _, _, _, _, _, _, _, ⟨hinv, c2, c1, by omega⟩, hD3⟩
theorem alikeW (tg : Int) (K : Nat → AObj → Prop) (ca cb n : Nat) (hn : n < 1000) (H1 : AHeap) (h : Alk tg K ca cb n H1) :
    AC Try.prog 38 [.pointer (some ⟨ca, 0, none⟩), .pointer (some ⟨cb, 0, none⟩)] H1 (fun r H2 => r = .ret (.bool true) ∧ Alk tg K ca cb n H2) := by
  obtain ⟨C, R, lv, pv, S1, S2, av, S, hB, hD⟩ := h
  obtain ⟨hI, hok, hcp, hal⟩ := hB
  have hpl := hI.past
  have hll := hI.ok.last
  have hb : ∀ s ∈ R.all, 0 ≤ s.1 ∧ s.1 ≤ 1000000000 := fun s hs => by have h1 := hok.all s hs; have h2 := hok.now; omega
  have b1 := cBase ca C lv pv S1 S2 (by omega) H1 hD.a
  have b2 := rBase cb R av S (by omega) hok.srt hb H1 hD.b
  have b3 := Queueing ca C lv pv S1 S2 (by omega) (by omega) H1 hD.a
  have b4 := rQueueing cb R av S (by omega) hok.srt hb H1 hD.b
  have b5 := Limit ca C lv pv S1 S2 H1 hD.a
  have b6 := rLimit cb R av H1 hD.b.at_
  have b7 := cTarget ca C lv pv H1 hD.a.at_
  have b8 := rTarget cb R av H1 hD.b.at_
  rw [← hcp.base hok, ← hcp.ask hok] at b2
  rw [← hcp.queue hok, ← hcp.ask hok] at b4
  rw [← hcp.limit] at b6
  rw [← hcp.target] at b8
  have b9 := cBases ca C lv pv S1 S2 (by omega) H1 hD.a
  rw [hcp.bases] at b9
  generalize baseL C = x1 at *
  generalize askE C = x2 at *
  generalize queueR C = x3 at *
  generalize C.limit = x4 at *
  generalize C.target = x5 at *
  refine AC.enter Try.func38 rfl (by kernel_rfl) 72 rfl [.tmp 4] rfl (by simp) fun hsc B => ?_
  repeat first
    | with_reducible refine AWP.seq ?_
    | ((with_reducible refine AWP.region ?_ ?_); exact rfl)
    | with_reducible refine AWP.block ?_
    | with_reducible refine AWP.skip ?_
    | with_reducible refine AWP.exit ?_
    | with_reducible refine AWP.ret ?_
    | with_reducible refine AWP.label ?_
    | with_reducible refine AWP.goto ?_
    | ((with_reducible refine AWP.condT ?_ ?_); focus (simp only [ev, lk_cons, ↓reduceIte, Nat.reduceEqDiff]; done))
    | ((with_reducible refine AWP.condF ?_ ?_); focus (simp only [ev, lk_cons, ↓reduceIte, Nat.reduceEqDiff]; done))
    | with_reducible refine b1.use ?_
    | with_reducible refine b2.use ?_
    | with_reducible refine b3.use ?_
    | with_reducible refine b4.use ?_
    | with_reducible refine b5.use ?_
    | with_reducible refine b6.use ?_
    | with_reducible refine b7.use ?_
    | with_reducible refine b8.use ?_
    | simp only [go_sem, ↓reduceIte, Nat.reduceEqDiff, reduceCtorEq, Nat.reduceAdd, Int.reduceEq, Int.reduceBNe, Int.reduceBEq, Int.reduceToNat, Int.reduceLT, Int.reduceLE, Int.reduceGT, Int.reduceGE, Nat.reduceSub, Nat.reduceBEq, Nat.reduceBNe, Int.reduceAdd, Int.reduceSub, Int.reduceMul, Int.reduceNeg, Nat.reduceMul, Nat.reduceLeDiff, Nat.reduceLT]
    | simp (disch := omega) only [wi64, wu8, wu16, wu32, wu64, Int.tdiv_eq_ediv_of_nonneg, Int.tmod_eq_emod_of_nonneg]
    | with_reducible_and_instances exact finR
    | ((with_reducible refine finR' ?_ ?_) <;> rfl)
    | ((with_reducible refine finD hsc (NRel.of_plain ?_)); exact rfl)
  refine b9.mono ?_
  rintro r H2 ⟨v1, T1, rfl, hO1, hf1, hT1⟩
  have hD2 := hD.grown hf1
  repeat first
    | with_reducible refine AWP.seq ?_
    | ((with_reducible refine AWP.region ?_ ?_); exact rfl)
    | with_reducible refine AWP.block ?_
    | with_reducible refine AWP.skip ?_
    | with_reducible refine AWP.exit ?_
    | with_reducible refine AWP.ret ?_
    | with_reducible refine AWP.label ?_
    | with_reducible refine AWP.goto ?_
    | ((with_reducible refine AWP.condT ?_ ?_); focus (simp only [ev, lk_cons, ↓reduceIte, Nat.reduceEqDiff]; done))
    | ((with_reducible refine AWP.condF ?_ ?_); focus (simp only [ev, lk_cons, ↓reduceIte, Nat.reduceEqDiff]; done))
    | simp only [go_sem, ↓reduceIte, Nat.reduceEqDiff, reduceCtorEq, Nat.reduceAdd, Int.reduceEq, Int.reduceBNe, Int.reduceBEq, Int.reduceToNat, Int.reduceLT, Int.reduceLE, Int.reduceGT, Int.reduceGE, Nat.reduceSub, Nat.reduceBEq, Nat.reduceBNe, Int.reduceAdd, Int.reduceSub, Int.reduceMul, Int.reduceNeg, Nat.reduceMul, Nat.reduceLeDiff, Nat.reduceLT]
    | simp (disch := omega) only [wi64, wu8, wu16, wu32, wu64, Int.tdiv_eq_ediv_of_nonneg, Int.tmod_eq_emod_of_nonneg]
    | with_reducible_and_instances exact finR
    | ((with_reducible refine finR' ?_ ?_) <;> rfl)
    | ((with_reducible refine finD hsc (NRel.of_plain ?_)); exact rfl)
  refine (rBases cb R av S (by omega) hb H2 hD2.b).mono ?_
  rintro r H3 ⟨v2, T2, rfl, hO2, hf2, hT2⟩
  have hD3 := hD2.grown hf2
  have hm := made_len R
  have hS := SameInts (basesR R) (basesR R) (by omega) (by omega) v1 v2 H3 (hO1.frm hf2 (by simp)).rd hO2.rd
  rw [decide_eq_true rfl] at hS
  repeat first
    | with_reducible refine AWP.seq ?_
    | ((with_reducible refine AWP.region ?_ ?_); exact rfl)
    | with_reducible refine AWP.block ?_
    | with_reducible refine AWP.skip ?_
    | with_reducible refine AWP.exit ?_
    | with_reducible refine AWP.ret ?_
    | with_reducible refine AWP.label ?_
    | with_reducible refine AWP.goto ?_
    | ((with_reducible refine AWP.condT ?_ ?_); focus (simp only [ev, lk_cons, ↓reduceIte, Nat.reduceEqDiff]; done))
    | ((with_reducible refine AWP.condF ?_ ?_); focus (simp only [ev, lk_cons, ↓reduceIte, Nat.reduceEqDiff]; done))
    | with_reducible refine hS.use ?_
    | simp only [go_sem, ↓reduceIte, Nat.reduceEqDiff, reduceCtorEq, Nat.reduceAdd, Int.reduceEq, Int.reduceBNe, Int.reduceBEq, Int.reduceToNat, Int.reduceLT, Int.reduceLE, Int.reduceGT, Int.reduceGE, Nat.reduceSub, Nat.reduceBEq, Nat.reduceBNe, Int.reduceAdd, Int.reduceSub, Int.reduceMul, Int.reduceNeg, Nat.reduceMul, Nat.reduceLeDiff, Nat.reduceLT]
    | simp (disch := omega) only [wi64, wu8, wu16, wu32, wu64, Int.tdiv_eq_ediv_of_nonneg, Int.tmod_eq_emod_of_nonneg]
    | with_reducible_and_instances exact finR
    | ((with_reducible refine finR' ?_ ?_) <;> rfl)
    | ((with_reducible refine finD hsc (NRel.of_plain ?_)); exact rfl)
  exact ⟨_, _, .refl _ _ _, rfl, C, R, _, _, _, _, _, _, ⟨hI, hok, hcp, hal⟩, hD3⟩
end Go.Proofs.Ytoikchnpflnehaa
