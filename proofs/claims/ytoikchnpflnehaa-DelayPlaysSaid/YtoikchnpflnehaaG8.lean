/-
  Sample: a sample is taken.
-/
import Derived.Test.YtoikchnpflnehaaG7
set_option linter.unusedVariables false
set_option linter.unusedSimpArgs false
set_option maxRecDepth 20000
namespace Go.Proofs.Ytoikchnpflnehaa
open Go Go.Aw Go.Proofs
/-- From H0, in which the control's lists lay in S1 and S2, to H1: the control is C. -/
structure Stg (H0 : AHeap) (c : Nat) (S1 S2 : List Nat) (C : Ctl) (H1 : AHeap) : Prop where
  ex : ∃ lv pv S1' S2', CtlAt H1 c C lv pv S1' S2' ∧ (∀ s ∈ S1', s ∈ S1 ∨ H0.length ≤ s) ∧ (∀ s ∈ S2', s ∈ S2 ∨ H0.length ≤ s)
  frm : Frm (c :: (S1 ++ S2)) H0 H1
theorem Stg.start {H0 : AHeap} {c : Nat} {C : Ctl} {lv pv : Value} {S1 S2 : List Nat} (h : CtlAt H0 c C lv pv S1 S2) : Stg H0 c S1 S2 C H0 :=
  ⟨⟨lv, pv, S1, S2, h, fun _ => .inl, fun _ => .inl⟩, .refl _ _⟩
theorem Stg.step1 {H0 H1 H2 : AHeap} {c : Nat} {C' : Ctl} {S1 S2 S1' S2' : List Nat} {lv' pv' : Value} (h1 : ∀ s ∈ S1', s ∈ S1 ∨ H0.length ≤ s) (h2 : ∀ s ∈ S2', s ∈ S2 ∨ H0.length ≤ s) (hf : Frm (c :: (S1 ++ S2)) H0 H1) {T1 T2 : List Nat}
    (h : CtlAt H2 c C' lv' pv' T1 T2) (g : Frm (c :: (S1' ++ S2')) H1 H2) (k1 : ∀ s ∈ T1, s ∈ S1' ∨ H1.length ≤ s) (k2 : ∀ s ∈ T2, s ∈ S2' ∨ H1.length ≤ s) : Stg H0 c S1 S2 C' H2 := by
  have hl := hf.1
  refine ⟨⟨lv', pv', T1, T2, h, fun s hs => ?_, fun s hs => ?_⟩, hf.trans g fun s hs => ?_⟩
  · rcases k1 s hs with h | h
    · exact h1 s h
    · right; omega
  · rcases k2 s hs with h | h
    · exact h2 s h
    · right; omega
  · rcases List.mem_cons.1 hs with rfl | hs
    · left; simp
    · rcases List.mem_append.1 hs with hs | hs
      · rcases h1 s hs with h | h
        · left; simp [h]
        · right; exact h
      · rcases h2 s hs with h | h
        · left; simp [h]
        · right; exact h
theorem Sample2 (c a b : Nat) (C : Ctl) (lv pv : Value) (S1 S2 : List Nat) (x : Int) (hnow : 0 ≤ C.now) (hnow2 : C.now ≤ 1000000000) (hpl : C.past.length < 1099511627776) (H : AHeap) (ha : H[a]? = some (.cells [.pointer (some ⟨c, 0, none⟩)] ⟨41, 0, true, 0, none⟩)) (hb : H[b]? = some (.cells [.int .i64 x] ⟨3, 0, true, 0, none⟩)) (hC : CtlAt H c C lv pv S1 S2) :
    AC Try.prog 45 [.pointer (some ⟨a, 0, none⟩), .pointer (some ⟨b, 0, none⟩)] H (fun r H2 => r = .ret noVal ∧ ∃ pv' S2', CtlAt H2 c (C.noteL x) lv pv' S1 S2' ∧ Frm (c :: S2) H H2 ∧ ∀ s ∈ S2', s ∈ S2 ∨ H.length ≤ s) := by
  refine AC.enter Try.func45 rfl (by kernel_rfl) 5 rfl [] rfl (by simp) fun hsc B => ?_
  repeat first
    | with_reducible refine AWP.seq ?_
    | ((with_reducible refine AWP.region ?_ ?_); exact rfl)
    | with_reducible refine AWP.block ?_
    | with_reducible refine AWP.skip ?_
    | with_reducible refine AWP.exit ?_
    | with_reducible refine AWP.ret ?_
    | with_reducible refine AWP.label ?_
    | with_reducible refine AWP.goto ?_
    | ((with_reducible refine AWP.condT ?_ ?_); focus (simp only [ev, lk_cons, ↓reduceIte, Nat.reduceEqDiff]; done))
    | ((with_reducible refine AWP.condF ?_ ?_); focus (simp only [ev, lk_cons, ↓reduceIte, Nat.reduceEqDiff]; done))
    | simp only [go_sem, ↓reduceIte, Nat.reduceEqDiff, reduceCtorEq, Nat.reduceAdd, Int.reduceEq, Int.reduceBNe, Int.reduceBEq, Int.reduceToNat, Int.reduceLT, Int.reduceLE, Int.reduceGT, Int.reduceGE, Nat.reduceSub, Nat.reduceBEq, Nat.reduceBNe, Int.reduceAdd, Int.reduceSub, Int.reduceMul, Int.reduceNeg, Nat.reduceMul, Nat.reduceLeDiff, Nat.reduceLT, ha, hb]
    | simp (disch := omega) only [wi64, wu8, wu16, wu32, wu64, Int.tdiv_eq_ediv_of_nonneg, Int.tmod_eq_emod_of_nonneg]
    | with_reducible_and_instances exact finR
    | ((with_reducible refine finR' ?_ ?_) <;> rfl)
    | ((with_reducible refine finD hsc (NRel.of_plain ?_)); exact rfl)
  refine (note c C lv pv S1 S2 x hnow hnow2 hpl H hC).mono ?_
  rintro r H2 ⟨rfl, h⟩
  repeat first
    | with_reducible refine AWP.seq ?_
    | ((with_reducible refine AWP.region ?_ ?_); exact rfl)
    | with_reducible refine AWP.block ?_
    | with_reducible refine AWP.skip ?_
    | with_reducible refine AWP.exit ?_
    | with_reducible refine AWP.ret ?_
    | with_reducible refine AWP.label ?_
    | with_reducible refine AWP.goto ?_
    | ((with_reducible refine AWP.condT ?_ ?_); focus (simp only [ev, lk_cons, ↓reduceIte, Nat.reduceEqDiff]; done))
    | ((with_reducible refine AWP.condF ?_ ?_); focus (simp only [ev, lk_cons, ↓reduceIte, Nat.reduceEqDiff]; done))
    | simp only [go_sem, ↓reduceIte, Nat.reduceEqDiff, reduceCtorEq, Nat.reduceAdd, Int.reduceEq, Int.reduceBNe, Int.reduceBEq, Int.reduceToNat, Int.reduceLT, Int.reduceLE, Int.reduceGT, Int.reduceGE, Nat.reduceSub, Nat.reduceBEq, Nat.reduceBNe, Int.reduceAdd, Int.reduceSub, Int.reduceMul, Int.reduceNeg, Nat.reduceMul, Nat.reduceLeDiff, Nat.reduceLT]
    | simp (disch := omega) only [wi64, wu8, wu16, wu32, wu64, Int.tdiv_eq_ediv_of_nonneg, Int.tmod_eq_emod_of_nonneg]
    | with_reducible_and_instances exact finR
    | ((with_reducible refine finR' ?_ ?_) <;> rfl)
    | ((with_reducible refine finD hsc (NRel.of_plain ?_)); exact rfl)
  exact ⟨_, _, .refl _ _ _, rfl, h⟩
theorem Sample3 (c a b e : Nat) (C : Ctl) (hok : C.ok) (lv pv : Value) (S1 S2 : List Nat) (bytes under : Int) (hby : 0 ≤ bytes ∧ bytes ≤ 1000000) (hu : 0 ≤ under ∧ under ≤ 1000000) (h2 : C.past.length < 1099511627776) (H : AHeap)
    (ha : H[a]? = some (.cells [.pointer (some ⟨c, 0, none⟩)] ⟨41, 0, true, 0, none⟩)) (hb : H[b]? = some (.cells [.int .i64 bytes] ⟨3, 0, true, 0, none⟩)) (he : H[e]? = some (.cells [.int .i64 under] ⟨3, 0, true, 0, none⟩)) (hC : CtlAt H c C lv pv S1 S2) :
    ARet Try.prog 47 [.pointer (some ⟨a, 0, none⟩), .pointer (some ⟨b, 0, none⟩), .pointer (some ⟨e, 0, none⟩)] H noVal (H.set c (.cells (ctlC (C.changeL bytes under) lv pv) ⟨70, 0, true, 0, none⟩)) := by
  refine AC.enter Try.func47 rfl (by kernel_rfl) 7 rfl [] rfl (by simp) fun hsc B => ?_
  repeat first
    | with_reducible refine AWP.seq ?_
    | ((with_reducible refine AWP.region ?_ ?_); exact rfl)
    | with_reducible refine AWP.block ?_
    | with_reducible refine AWP.skip ?_
    | with_reducible refine AWP.exit ?_
    | with_reducible refine AWP.ret ?_
    | with_reducible refine AWP.label ?_
    | with_reducible refine AWP.goto ?_
    | ((with_reducible refine AWP.condT ?_ ?_); focus (simp only [ev, lk_cons, ↓reduceIte, Nat.reduceEqDiff]; done))
    | ((with_reducible refine AWP.condF ?_ ?_); focus (simp only [ev, lk_cons, ↓reduceIte, Nat.reduceEqDiff]; done))
    | with_reducible refine (change c C hok lv pv S1 S2 bytes under hby hu h2 H hC).use ?_
    | simp only [go_sem, ↓reduceIte, Nat.reduceEqDiff, reduceCtorEq, Nat.reduceAdd, Int.reduceEq, Int.reduceBNe, Int.reduceBEq, Int.reduceToNat, Int.reduceLT, Int.reduceLE, Int.reduceGT, Int.reduceGE, Nat.reduceSub, Nat.reduceBEq, Nat.reduceBNe, Int.reduceAdd, Int.reduceSub, Int.reduceMul, Int.reduceNeg, Nat.reduceMul, Nat.reduceLeDiff, Nat.reduceLT, ha, hb, he]
    | simp (disch := omega) only [wi64, wu8, wu16, wu32, wu64, Int.tdiv_eq_ediv_of_nonneg, Int.tmod_eq_emod_of_nonneg]
    | with_reducible_and_instances exact finR
    | ((with_reducible refine finR' ?_ ?_) <;> rfl)
    | ((with_reducible refine finD hsc (NRel.of_plain ?_)); exact rfl)
def sampleD (C : Ctl) (now bytes delay under : Int) : Prop := (0 ≤ bytes ∧ bytes ≤ 1000000) ∧ (0 ≤ under ∧ under ≤ 1000000) ∧ numD delay ∧ tellD C now
instance (C : Ctl) (now bytes delay under : Int) : Decidable (sampleD C now bytes delay under) := by unfold sampleD; infer_instance
def Ctl.sampleL (C : Ctl) (now bytes delay under : Int) : Ctl := if sampleD C now bytes delay under then (((Ctl.mk now C.halved C.ever C.target C.limit C.last C.past).addL delay).noteL delay).changeL bytes under else C
def sampleE (C : Ctl) (now bytes delay under : Int) : Int := if sampleD C now bytes delay under then 0 else 7
def stageC (C : Ctl) (now bytes delay under : Int) : Nat → Ctl
  | 0 => Ctl.mk now C.halved C.ever C.target C.limit C.last C.past
  | 1 => (Ctl.mk now C.halved C.ever C.target C.limit C.last C.past).addL delay
  | 2 => ((Ctl.mk now C.halved C.ever C.target C.limit C.last C.past).addL delay).noteL delay
  | _ => (((Ctl.mk now C.halved C.ever C.target C.limit C.last C.past).addL delay).noteL delay).changeL bytes under
theorem Ctl.noteL_len (C : Ctl) (d : Int) : (C.noteL d).past.length ≤ C.past.length + 1 := by
  have := keptL_len (C.now / 60000) C.past
  show (putL _ _ _).length ≤ _
  unfold putL
  split
  · simp; omega
  · split
    · split
      · simp; omega
      · omega
    · simp; omega
set_option maxHeartbeats 2000000 in
theorem Sample (c : Nat) (C : Ctl) (hok : C.ok) (lv pv : Value) (S1 S2 : List Nat) (now bytes delay under : Int) (h2 : C.past.length < 549755813888) (H : AHeap) (hC : CtlAt H c C lv pv S1 S2) :
    AC Try.prog 22 [.pointer (some ⟨c, 0, none⟩), .int .i64 now, .int .i64 bytes, .int .i64 delay, .int .i64 under] H (fun r H2 => r = .ret (.int .i64 (sampleE C now bytes delay under)) ∧ Stg H c S1 S2 (C.sampleL now bytes delay under) H2) := by
  by_cases hg : sampleD C now bytes delay under
  · have hE : sampleE C now bytes delay under = 0 := if_pos hg
    have hL : C.sampleL now bytes delay under = stageC C now bytes delay under 3 := if_pos hg
    rw [hE, hL]
    obtain ⟨hb, hu, hn, ht⟩ := hg
    have b1 : ¬ bytes < 0 := by omega
    have b2 : ¬ bytes > 1000000 := by omega
    have u1 : ¬ under < 0 := by omega
    have u2 : ¬ under > 1000000 := by omega
    have hT := tell c C lv pv now (H ++ [.cells [.pointer (some ⟨c, 0, none⟩)] ⟨41, 0, true, 0, none⟩, .cells [.int .i64 bytes] ⟨3, 0, true, 0, none⟩, .cells [.int .i64 delay] ⟨3, 0, true, 0, none⟩, .cells [.int .i64 under] ⟨3, 0, true, 0, none⟩]) ((hC.more _).at_)
    rw [if_pos ht, decide_eq_true ht] at hT
    have hcl := lt_of_get hC.at_
    rw [hsetl hcl] at hT
    refine AC.enter Try.func22 rfl (by kernel_rfl) 54 rfl [.tmp 10] rfl (by simp) fun hsc B => ?_
    repeat first
      | with_reducible refine AWP.seq ?_
      | ((with_reducible refine AWP.region ?_ ?_); exact rfl)
      | with_reducible refine AWP.block ?_
      | with_reducible refine AWP.skip ?_
      | with_reducible refine AWP.exit ?_
      | with_reducible refine AWP.ret ?_
      | with_reducible refine AWP.label ?_
      | with_reducible refine AWP.goto ?_
      | ((with_reducible refine AWP.condT ?_ ?_); focus (simp only [ev, lk_cons, ↓reduceIte, Nat.reduceEqDiff]; done))
      | ((with_reducible refine AWP.condF ?_ ?_); focus (simp only [ev, lk_cons, ↓reduceIte, Nat.reduceEqDiff]; done))
      | with_reducible refine (number _ _).use ?_
      | with_reducible refine hT.use ?_
      | simp only [go_sem, ↓reduceIte, Nat.reduceEqDiff, reduceCtorEq, Nat.reduceAdd, Int.reduceEq, Int.reduceBNe, Int.reduceBEq, Int.reduceToNat, Int.reduceLT, Int.reduceLE, Int.reduceGT, Int.reduceGE, Nat.reduceSub, Nat.reduceBEq, Nat.reduceBNe, Int.reduceAdd, Int.reduceSub, Int.reduceMul, Int.reduceNeg, Nat.reduceMul, Nat.reduceLeDiff, Nat.reduceLT, b1, b2, u1, u2, hn]
      | simp (disch := omega) only [wi64, wu8, wu16, wu32, wu64, Int.tdiv_eq_ediv_of_nonneg, Int.tmod_eq_emod_of_nonneg]
      | with_reducible_and_instances exact finR
      | ((with_reducible refine finR' ?_ ?_) <;> rfl)
      | ((with_reducible refine finD hsc (NRel.of_plain ?_)); exact rfl)
    obtain ⟨H0, hH0⟩ : ∃ H0 : AHeap, H0 = H.set c (.cells (ctlC ⟨now, C.halved, C.ever, C.target, C.limit, C.last, C.past⟩ lv pv) ⟨70, 0, true, 0, none⟩) ++ [.cells [.pointer (some ⟨c, 0, none⟩)] ⟨41, 0, true, 0, none⟩, .cells [.int .i64 bytes] ⟨3, 0, true, 0, none⟩, .cells [.int .i64 delay] ⟨3, 0, true, 0, none⟩, .cells [.int .i64 under] ⟨3, 0, true, 0, none⟩,
      .cells [.func (.func 43) ⟨[]⟩ ⟨[ptrTo H.length 0, ptrTo (H.length + 2) 0]⟩, .func (.func 45) ⟨[]⟩ ⟨[ptrTo H.length 0, ptrTo (H.length + 2) 0]⟩, .func (.func 47) ⟨[]⟩ ⟨[ptrTo H.length 0, ptrTo (H.length + 1) 0, ptrTo (H.length + 3) 0]⟩] ⟨73, 0, true, 0, none⟩] := ⟨_, rfl⟩
    have hl0 : (H.set c (.cells (ctlC ⟨now, C.halved, C.ever, C.target, C.limit, C.last, C.past⟩ lv pv) ⟨70, 0, true, 0, none⟩)).length = H.length := List.length_set
    have g5 : H0[H.length]? = some (.cells [.pointer (some ⟨c, 0, none⟩)] ⟨41, 0, true, 0, none⟩) := by rw [hH0, hget0 hl0]; rfl
    have g7 : H0[H.length + 1]? = some (.cells [.int .i64 bytes] ⟨3, 0, true, 0, none⟩) := by rw [hH0, hgetk hl0]; rfl
    have g8 : H0[H.length + 2]? = some (.cells [.int .i64 delay] ⟨3, 0, true, 0, none⟩) := by rw [hH0, hgetk hl0]; rfl
    have g9 : H0[H.length + 3]? = some (.cells [.int .i64 under] ⟨3, 0, true, 0, none⟩) := by rw [hH0, hgetk hl0]; rfl
    have hfr0 : Frm [c] H H0 := by rw [hH0]; exact ((Frm.refl [c] H).set (.inl (by simp))).more
    have hC0 : CtlAt H0 c (stageC C now bytes delay under 0) lv pv S1 S2 :=
      ⟨by rw [hH0, hgetl (by rw [hl0]; exact hcl), hset_self hcl]; rfl, hC.last.frm hfr0 (fun s hs => by simp; intro e; exact hC.n1 (e ▸ hs)), hC.past.frm hfr0 (fun s hs => by simp; intro e; exact hC.n2 (e ▸ hs)), hC.n1, hC.n2, hC.n3⟩
    have hlen0 : H.length + 4 < H0.length := by rw [hH0]; simp
    have hout : ∀ i, H.length + i ∉ c :: (S1 ++ S2) := fun i hi => by
      rcases List.mem_cons.1 hi with e | hi
      · omega
      · rcases List.mem_append.1 hi with hi | hi
        · have := hC.last.lt _ hi; omega
        · have := hC.past.lt _ hi; omega
    rw [← hH0]
    refine AWP.loopP (fun s : Nat × AHeap => ⟨[(47, .agg ⟨[.func (.func 43) ⟨[]⟩ ⟨[ptrTo H.length 0, ptrTo (H.length + 2) 0]⟩, .func (.func 45) ⟨[]⟩ ⟨[ptrTo H.length 0, ptrTo (H.length + 2) 0]⟩, .func (.func 47) ⟨[]⟩ ⟨[ptrTo H.length 0, ptrTo (H.length + 1) 0, ptrTo (H.length + 3) 0]⟩]⟩), (48, .int .i64 (s.1 : Nat))], [], s.2⟩)
      (fun s => s.1 ≤ 3 ∧ Stg H0 c S1 S2 (stageC C now bytes delay under s.1) s.2) (fun s => 3 - s.1) (0, H0) ?_ ⟨by simp, .start hC0⟩ ?_
    · exact Weak.env (by simp [envIn, lk_cons, wth_some])
    rintro ⟨n, H1⟩ ⟨hn3, ⟨⟨lv1, pv1, T1, T2, hC1, k1, k2⟩, hf⟩⟩
    simp only at hn3 hC1 hf
    have f5 := hf.get g5 (hout 0)
    have f7 := hf.get g7 (hout 1)
    have f8 := hf.get g8 (hout 2)
    have f9 := hf.get g9 (hout 3)
    have hok0 : (stageC C now bytes delay under 0).ok := ⟨⟨by unfold tellD at ht; have := hok.now.1; show 0 ≤ now; omega, ht.2⟩, hok.target, hok.limit, hok.last⟩
    have hok1 : (stageC C now bytes delay under 1).ok := ⟨hok0.now, hok.target, hok.limit, by simp [stageC, Ctl.addL]; have := hok.last; omega⟩
    have hok2 : (stageC C now bytes delay under 2).ok := ⟨hok0.now, hok.target, hok.limit, hok1.last⟩
    rcases n with _ | _ | _ | n
    · repeat first
        | with_reducible refine AWP.seq ?_
        | ((with_reducible refine AWP.region ?_ ?_); exact rfl)
        | with_reducible refine AWP.block ?_
        | with_reducible refine AWP.skip ?_
        | with_reducible refine AWP.exit ?_
        | with_reducible refine AWP.ret ?_
        | with_reducible refine AWP.label ?_
        | with_reducible refine AWP.goto ?_
        | ((with_reducible refine AWP.condT ?_ ?_); focus (simp only [ev, lk_cons, ↓reduceIte, Nat.reduceEqDiff]; done))
        | ((with_reducible refine AWP.condF ?_ ?_); focus (simp only [ev, lk_cons, ↓reduceIte, Nat.reduceEqDiff]; done))
        | simp only [go_sem, ↓reduceIte, Nat.reduceEqDiff, reduceCtorEq, Nat.reduceAdd, Int.reduceEq, Int.reduceBNe, Int.reduceBEq, Int.reduceToNat, Int.reduceLT, Int.reduceLE, Int.reduceGT, Int.reduceGE, Nat.reduceSub, Nat.reduceBEq, Nat.reduceBNe, Int.reduceAdd, Int.reduceSub, Int.reduceMul, Int.reduceNeg, Nat.reduceMul, Nat.reduceLeDiff, Nat.reduceLT]
        | simp (disch := omega) only [wi64, wu8, wu16, wu32, wu64, Int.tdiv_eq_ediv_of_nonneg, Int.tmod_eq_emod_of_nonneg]
        | with_reducible_and_instances exact finR
        | ((with_reducible refine finR' ?_ ?_) <;> rfl)
        | ((with_reducible refine finD hsc (NRel.of_plain ?_)); exact rfl)
      refine (Sample1 c H.length (H.length + 2) _ lv1 pv1 T1 T2 delay hok0.last H1 f5 f8 hC1).mono ?_
      rintro r H2 ⟨rfl, lv2, S1', hC2, hf2, hS2⟩
      repeat first
        | with_reducible refine AWP.seq ?_
        | ((with_reducible refine AWP.region ?_ ?_); exact rfl)
        | with_reducible refine AWP.block ?_
        | with_reducible refine AWP.skip ?_
        | with_reducible refine AWP.exit ?_
        | with_reducible refine AWP.ret ?_
        | with_reducible refine AWP.label ?_
        | with_reducible refine AWP.goto ?_
        | ((with_reducible refine AWP.condT ?_ ?_); focus (simp only [ev, lk_cons, ↓reduceIte, Nat.reduceEqDiff]; done))
        | ((with_reducible refine AWP.condF ?_ ?_); focus (simp only [ev, lk_cons, ↓reduceIte, Nat.reduceEqDiff]; done))
        | simp only [go_sem, ↓reduceIte, Nat.reduceEqDiff, reduceCtorEq, Nat.reduceAdd, Int.reduceEq, Int.reduceBNe, Int.reduceBEq, Int.reduceToNat, Int.reduceLT, Int.reduceLE, Int.reduceGT, Int.reduceGE, Nat.reduceSub, Nat.reduceBEq, Nat.reduceBNe, Int.reduceAdd, Int.reduceSub, Int.reduceMul, Int.reduceNeg, Nat.reduceMul, Nat.reduceLeDiff, Nat.reduceLT]
        | simp (disch := omega) only [wi64, wu8, wu16, wu32, wu64, Int.tdiv_eq_ediv_of_nonneg, Int.tmod_eq_emod_of_nonneg]
        | with_reducible_and_instances exact finR
        | ((with_reducible refine finR' ?_ ?_) <;> rfl)
        | ((with_reducible refine finD hsc (NRel.of_plain ?_)); exact rfl)
      exact ⟨(1, H2), Weak.env (by simp [envIn, lk_cons, wth_some]), by simp, .step1 k1 k2 hf hC2 (hf2.mono (by intro s hs; simp at hs ⊢; rcases hs with h | h <;> simp [h])) (fun s hs => .inr (hS2 s hs)) (fun s hs => .inl hs), by simp⟩
    · repeat first
        | with_reducible refine AWP.seq ?_
        | ((with_reducible refine AWP.region ?_ ?_); exact rfl)
        | with_reducible refine AWP.block ?_
        | with_reducible refine AWP.skip ?_
        | with_reducible refine AWP.exit ?_
        | with_reducible refine AWP.ret ?_
        | with_reducible refine AWP.label ?_
        | with_reducible refine AWP.goto ?_
        | ((with_reducible refine AWP.condT ?_ ?_); focus (simp only [ev, lk_cons, ↓reduceIte, Nat.reduceEqDiff]; done))
        | ((with_reducible refine AWP.condF ?_ ?_); focus (simp only [ev, lk_cons, ↓reduceIte, Nat.reduceEqDiff]; done))
        | simp only [go_sem, ↓reduceIte, Nat.reduceEqDiff, reduceCtorEq, Nat.reduceAdd, Int.reduceEq, Int.reduceBNe, Int.reduceBEq, Int.reduceToNat, Int.reduceLT, Int.reduceLE, Int.reduceGT, Int.reduceGE, Nat.reduceSub, Nat.reduceBEq, Nat.reduceBNe, Int.reduceAdd, Int.reduceSub, Int.reduceMul, Int.reduceNeg, Nat.reduceMul, Nat.reduceLeDiff, Nat.reduceLT]
        | simp (disch := omega) only [wi64, wu8, wu16, wu32, wu64, Int.tdiv_eq_ediv_of_nonneg, Int.tmod_eq_emod_of_nonneg]
        | with_reducible_and_instances exact finR
        | ((with_reducible refine finR' ?_ ?_) <;> rfl)
        | ((with_reducible refine finD hsc (NRel.of_plain ?_)); exact rfl)
      refine (Sample2 c H.length (H.length + 2) _ lv1 pv1 T1 T2 delay hok1.now.1 hok1.now.2 (by show C.past.length < _; omega) H1 f5 f8 hC1).mono ?_
      rintro r H2 ⟨rfl, lv2, S1', hC2, hf2, hS2⟩
      repeat first
        | with_reducible refine AWP.seq ?_
        | ((with_reducible refine AWP.region ?_ ?_); exact rfl)
        | with_reducible refine AWP.block ?_
        | with_reducible refine AWP.skip ?_
        | with_reducible refine AWP.exit ?_
        | with_reducible refine AWP.ret ?_
        | with_reducible refine AWP.label ?_
        | with_reducible refine AWP.goto ?_
        | ((with_reducible refine AWP.condT ?_ ?_); focus (simp only [ev, lk_cons, ↓reduceIte, Nat.reduceEqDiff]; done))
        | ((with_reducible refine AWP.condF ?_ ?_); focus (simp only [ev, lk_cons, ↓reduceIte, Nat.reduceEqDiff]; done))
        | simp only [go_sem, ↓reduceIte, Nat.reduceEqDiff, reduceCtorEq, Nat.reduceAdd, Int.reduceEq, Int.reduceBNe, Int.reduceBEq, Int.reduceToNat, Int.reduceLT, Int.reduceLE, Int.reduceGT, Int.reduceGE, Nat.reduceSub, Nat.reduceBEq, Nat.reduceBNe, Int.reduceAdd, Int.reduceSub, Int.reduceMul, Int.reduceNeg, Nat.reduceMul, Nat.reduceLeDiff, Nat.reduceLT]
        | simp (disch := omega) only [wi64, wu8, wu16, wu32, wu64, Int.tdiv_eq_ediv_of_nonneg, Int.tmod_eq_emod_of_nonneg]
        | with_reducible_and_instances exact finR
        | ((with_reducible refine finR' ?_ ?_) <;> rfl)
        | ((with_reducible refine finD hsc (NRel.of_plain ?_)); exact rfl)
      exact ⟨(2, H2), Weak.env (by simp [envIn, lk_cons, wth_some]), by simp, .step1 k1 k2 hf hC2 (hf2.mono (by intro s hs; simp at hs ⊢; rcases hs with h | h <;> simp [h])) (fun s hs => .inl hs) hS2, by simp⟩
    · have h3 := Sample3 c H.length (H.length + 1) (H.length + 3) _ hok2 lv1 pv1 T1 T2 bytes under hb hu (by
        have := Ctl.noteL_len (stageC C now bytes delay under 1) delay
        show ((stageC C now bytes delay under 1).noteL delay).past.length < _
        have h4 : (stageC C now bytes delay under 1).past.length = C.past.length := rfl
        omega) H1 f5 f7 f9 hC1
      repeat first
        | with_reducible refine AWP.seq ?_
        | ((with_reducible refine AWP.region ?_ ?_); exact rfl)
        | with_reducible refine AWP.block ?_
        | with_reducible refine AWP.skip ?_
        | with_reducible refine AWP.exit ?_
        | with_reducible refine AWP.ret ?_
        | with_reducible refine AWP.label ?_
        | with_reducible refine AWP.goto ?_
        | ((with_reducible refine AWP.condT ?_ ?_); focus (simp only [ev, lk_cons, ↓reduceIte, Nat.reduceEqDiff]; done))
        | ((with_reducible refine AWP.condF ?_ ?_); focus (simp only [ev, lk_cons, ↓reduceIte, Nat.reduceEqDiff]; done))
        | with_reducible refine h3.use ?_
        | simp only [go_sem, ↓reduceIte, Nat.reduceEqDiff, reduceCtorEq, Nat.reduceAdd, Int.reduceEq, Int.reduceBNe, Int.reduceBEq, Int.reduceToNat, Int.reduceLT, Int.reduceLE, Int.reduceGT, Int.reduceGE, Nat.reduceSub, Nat.reduceBEq, Nat.reduceBNe, Int.reduceAdd, Int.reduceSub, Int.reduceMul, Int.reduceNeg, Nat.reduceMul, Nat.reduceLeDiff, Nat.reduceLT]
        | simp (disch := omega) only [wi64, wu8, wu16, wu32, wu64, Int.tdiv_eq_ediv_of_nonneg, Int.tmod_eq_emod_of_nonneg]
        | with_reducible_and_instances exact finR
        | ((with_reducible refine finR' ?_ ?_) <;> rfl)
        | ((with_reducible refine finD hsc (NRel.of_plain ?_)); exact rfl)
      have hcl1 := lt_of_get hC1.at_
      have hf3 : Frm [c] H1 (H1.set c (.cells (ctlC (stageC C now bytes delay under 3) lv1 pv1) ⟨70, 0, true, 0, none⟩)) := (Frm.refl _ _).set (.inl (by simp))
      have hC3 : CtlAt (H1.set c (.cells (ctlC (stageC C now bytes delay under 3) lv1 pv1) ⟨70, 0, true, 0, none⟩)) c (stageC C now bytes delay under 3) lv1 pv1 T1 T2 :=
        ⟨hset_self hcl1, hC1.last.frm hf3 (fun s hs => by simp; intro e; exact hC1.n1 (e ▸ hs)), hC1.past.frm hf3 (fun s hs => by simp; intro e; exact hC1.n2 (e ▸ hs)), hC1.n1, hC1.n2, hC1.n3⟩
      exact ⟨(3, _), Weak.env (by simp [envIn, lk_cons, wth_some]), by simp, .step1 k1 k2 hf hC3 (hf3.mono (by intro s hs; simp at hs ⊢; simp [hs])) (fun s hs => .inl hs) (fun s hs => .inl hs), by simp⟩
    · have : n = 0 := by omega
      subst this
      repeat first
        | with_reducible refine AWP.seq ?_
        | ((with_reducible refine AWP.region ?_ ?_); exact rfl)
        | with_reducible refine AWP.block ?_
        | with_reducible refine AWP.skip ?_
        | with_reducible refine AWP.exit ?_
        | with_reducible refine AWP.ret ?_
        | with_reducible refine AWP.label ?_
        | with_reducible refine AWP.goto ?_
        | ((with_reducible refine AWP.condT ?_ ?_); focus (simp only [ev, lk_cons, ↓reduceIte, Nat.reduceEqDiff]; done))
        | ((with_reducible refine AWP.condF ?_ ?_); focus (simp only [ev, lk_cons, ↓reduceIte, Nat.reduceEqDiff]; done))
        | simp only [go_sem, ↓reduceIte, Nat.reduceEqDiff, reduceCtorEq, Nat.reduceAdd, Int.reduceEq, Int.reduceBNe, Int.reduceBEq, Int.reduceToNat, Int.reduceLT, Int.reduceLE, Int.reduceGT, Int.reduceGE, Nat.reduceSub, Nat.reduceBEq, Nat.reduceBNe, Int.reduceAdd, Int.reduceSub, Int.reduceMul, Int.reduceNeg, Nat.reduceMul, Nat.reduceLeDiff, Nat.reduceLT]
        | simp (disch := omega) only [wi64, wu8, wu16, wu32, wu64, Int.tdiv_eq_ediv_of_nonneg, Int.tmod_eq_emod_of_nonneg]
        | with_reducible_and_instances exact finR
        | ((with_reducible refine finR' ?_ ?_) <;> rfl)
        | ((with_reducible refine finD hsc (NRel.of_plain ?_)); exact rfl)
      refine ⟨_, _, .refl _ _ _, rfl, ⟨lv1, pv1, T1, T2, hC1, fun s hs => (k1 s hs).imp id (fun h => by omega), fun s hs => (k2 s hs).imp id (fun h => by omega)⟩, ?_⟩
      exact (hfr0.mono (by intro s hs; simp at hs ⊢; simp [hs])).trans hf (fun s hs => .inl hs)
  · have hE : sampleE C now bytes delay under = 7 := if_neg hg
    have hL : C.sampleL now bytes delay under = C := if_neg hg
    rw [hE, hL]
    suffices h : ARet Try.prog 22 [.pointer (some ⟨c, 0, none⟩), .int .i64 now, .int .i64 bytes, .int .i64 delay, .int .i64 under] H (.int .i64 7) H from h.mono fun r H2 ⟨h1, h2⟩ => ⟨h1, by rw [h2]; exact .start hC⟩
    by_cases b1 : bytes < 0
    · skip
      refine AC.enter Try.func22 rfl (by kernel_rfl) 54 rfl [.tmp 10] rfl (by simp) fun hsc B => ?_
      repeat first
        | with_reducible refine AWP.seq ?_
        | ((with_reducible refine AWP.region ?_ ?_); exact rfl)
        | with_reducible refine AWP.block ?_
        | with_reducible refine AWP.skip ?_
        | with_reducible refine AWP.exit ?_
        | with_reducible refine AWP.ret ?_
        | with_reducible refine AWP.label ?_
        | with_reducible refine AWP.goto ?_
        | ((with_reducible refine AWP.condT ?_ ?_); focus (simp only [ev, lk_cons, ↓reduceIte, Nat.reduceEqDiff]; done))
        | ((with_reducible refine AWP.condF ?_ ?_); focus (simp only [ev, lk_cons, ↓reduceIte, Nat.reduceEqDiff]; done))
        | simp only [go_sem, ↓reduceIte, Nat.reduceEqDiff, reduceCtorEq, Nat.reduceAdd, Int.reduceEq, Int.reduceBNe, Int.reduceBEq, Int.reduceToNat, Int.reduceLT, Int.reduceLE, Int.reduceGT, Int.reduceGE, Nat.reduceSub, Nat.reduceBEq, Nat.reduceBNe, Int.reduceAdd, Int.reduceSub, Int.reduceMul, Int.reduceNeg, Nat.reduceMul, Nat.reduceLeDiff, Nat.reduceLT, b1]
        | simp (disch := omega) only [wi64, wu8, wu16, wu32, wu64, Int.tdiv_eq_ediv_of_nonneg, Int.tmod_eq_emod_of_nonneg]
        | with_reducible_and_instances exact finR
        | ((with_reducible refine finR' ?_ ?_) <;> rfl)
        | ((with_reducible refine finD hsc (NRel.of_plain ?_)); exact rfl)
    · by_cases b2 : bytes > 1000000
      · skip
        refine AC.enter Try.func22 rfl (by kernel_rfl) 54 rfl [.tmp 10] rfl (by simp) fun hsc B => ?_
        repeat first
          | with_reducible refine AWP.seq ?_
          | ((with_reducible refine AWP.region ?_ ?_); exact rfl)
          | with_reducible refine AWP.block ?_
          | with_reducible refine AWP.skip ?_
          | with_reducible refine AWP.exit ?_
          | with_reducible refine AWP.ret ?_
          | with_reducible refine AWP.label ?_
          | with_reducible refine AWP.goto ?_
          | ((with_reducible refine AWP.condT ?_ ?_); focus (simp only [ev, lk_cons, ↓reduceIte, Nat.reduceEqDiff]; done))
          | ((with_reducible refine AWP.condF ?_ ?_); focus (simp only [ev, lk_cons, ↓reduceIte, Nat.reduceEqDiff]; done))
          | simp only [go_sem, ↓reduceIte, Nat.reduceEqDiff, reduceCtorEq, Nat.reduceAdd, Int.reduceEq, Int.reduceBNe, Int.reduceBEq, Int.reduceToNat, Int.reduceLT, Int.reduceLE, Int.reduceGT, Int.reduceGE, Nat.reduceSub, Nat.reduceBEq, Nat.reduceBNe, Int.reduceAdd, Int.reduceSub, Int.reduceMul, Int.reduceNeg, Nat.reduceMul, Nat.reduceLeDiff, Nat.reduceLT, b1, b2]
          | simp (disch := omega) only [wi64, wu8, wu16, wu32, wu64, Int.tdiv_eq_ediv_of_nonneg, Int.tmod_eq_emod_of_nonneg]
          | with_reducible_and_instances exact finR
          | ((with_reducible refine finR' ?_ ?_) <;> rfl)
          | ((with_reducible refine finD hsc (NRel.of_plain ?_)); exact rfl)
      · by_cases u1 : under < 0
        · skip
          refine AC.enter Try.func22 rfl (by kernel_rfl) 54 rfl [.tmp 10] rfl (by simp) fun hsc B => ?_
          repeat first
            | with_reducible refine AWP.seq ?_
            | ((with_reducible refine AWP.region ?_ ?_); exact rfl)
            | with_reducible refine AWP.block ?_
            | with_reducible refine AWP.skip ?_
            | with_reducible refine AWP.exit ?_
            | with_reducible refine AWP.ret ?_
            | with_reducible refine AWP.label ?_
            | with_reducible refine AWP.goto ?_
            | ((with_reducible refine AWP.condT ?_ ?_); focus (simp only [ev, lk_cons, ↓reduceIte, Nat.reduceEqDiff]; done))
            | ((with_reducible refine AWP.condF ?_ ?_); focus (simp only [ev, lk_cons, ↓reduceIte, Nat.reduceEqDiff]; done))
            | simp only [go_sem, ↓reduceIte, Nat.reduceEqDiff, reduceCtorEq, Nat.reduceAdd, Int.reduceEq, Int.reduceBNe, Int.reduceBEq, Int.reduceToNat, Int.reduceLT, Int.reduceLE, Int.reduceGT, Int.reduceGE, Nat.reduceSub, Nat.reduceBEq, Nat.reduceBNe, Int.reduceAdd, Int.reduceSub, Int.reduceMul, Int.reduceNeg, Nat.reduceMul, Nat.reduceLeDiff, Nat.reduceLT, b1, b2, u1]
            | simp (disch := omega) only [wi64, wu8, wu16, wu32, wu64, Int.tdiv_eq_ediv_of_nonneg, Int.tmod_eq_emod_of_nonneg]
            | with_reducible_and_instances exact finR
            | ((with_reducible refine finR' ?_ ?_) <;> rfl)
            | ((with_reducible refine finD hsc (NRel.of_plain ?_)); exact rfl)
        · by_cases u2 : under > 1000000
          · skip
            refine AC.enter Try.func22 rfl (by kernel_rfl) 54 rfl [.tmp 10] rfl (by simp) fun hsc B => ?_
            repeat first
              | with_reducible refine AWP.seq ?_
              | ((with_reducible refine AWP.region ?_ ?_); exact rfl)
              | with_reducible refine AWP.block ?_
              | with_reducible refine AWP.skip ?_
              | with_reducible refine AWP.exit ?_
              | with_reducible refine AWP.ret ?_
              | with_reducible refine AWP.label ?_
              | with_reducible refine AWP.goto ?_
              | ((with_reducible refine AWP.condT ?_ ?_); focus (simp only [ev, lk_cons, ↓reduceIte, Nat.reduceEqDiff]; done))
              | ((with_reducible refine AWP.condF ?_ ?_); focus (simp only [ev, lk_cons, ↓reduceIte, Nat.reduceEqDiff]; done))
              | simp only [go_sem, ↓reduceIte, Nat.reduceEqDiff, reduceCtorEq, Nat.reduceAdd, Int.reduceEq, Int.reduceBNe, Int.reduceBEq, Int.reduceToNat, Int.reduceLT, Int.reduceLE, Int.reduceGT, Int.reduceGE, Nat.reduceSub, Nat.reduceBEq, Nat.reduceBNe, Int.reduceAdd, Int.reduceSub, Int.reduceMul, Int.reduceNeg, Nat.reduceMul, Nat.reduceLeDiff, Nat.reduceLT, b1, b2, u1, u2]
              | simp (disch := omega) only [wi64, wu8, wu16, wu32, wu64, Int.tdiv_eq_ediv_of_nonneg, Int.tmod_eq_emod_of_nonneg]
              | with_reducible_and_instances exact finR
              | ((with_reducible refine finR' ?_ ?_) <;> rfl)
              | ((with_reducible refine finD hsc (NRel.of_plain ?_)); exact rfl)
          · by_cases hn : numD delay
            · have ht : ¬ tellD C now := fun ht => hg ⟨by omega, by omega, hn, ht⟩
              have hT := tell c C lv pv now (H ++ [.cells [.pointer (some ⟨c, 0, none⟩)] ⟨41, 0, true, 0, none⟩, .cells [.int .i64 bytes] ⟨3, 0, true, 0, none⟩, .cells [.int .i64 delay] ⟨3, 0, true, 0, none⟩, .cells [.int .i64 under] ⟨3, 0, true, 0, none⟩]) ((hC.more _).at_)
              rw [if_neg ht, decide_eq_false ht] at hT
              refine AC.enter Try.func22 rfl (by kernel_rfl) 54 rfl [.tmp 10] rfl (by simp) fun hsc B => ?_
              repeat first
                | with_reducible refine AWP.seq ?_
                | ((with_reducible refine AWP.region ?_ ?_); exact rfl)
                | with_reducible refine AWP.block ?_
                | with_reducible refine AWP.skip ?_
                | with_reducible refine AWP.exit ?_
                | with_reducible refine AWP.ret ?_
                | with_reducible refine AWP.label ?_
                | with_reducible refine AWP.goto ?_
                | ((with_reducible refine AWP.condT ?_ ?_); focus (simp only [ev, lk_cons, ↓reduceIte, Nat.reduceEqDiff]; done))
                | ((with_reducible refine AWP.condF ?_ ?_); focus (simp only [ev, lk_cons, ↓reduceIte, Nat.reduceEqDiff]; done))
                | with_reducible refine (number _ _).use ?_
                | with_reducible refine hT.use ?_
                | simp only [go_sem, ↓reduceIte, Nat.reduceEqDiff, reduceCtorEq, Nat.reduceAdd, Int.reduceEq, Int.reduceBNe, Int.reduceBEq, Int.reduceToNat, Int.reduceLT, Int.reduceLE, Int.reduceGT, Int.reduceGE, Nat.reduceSub, Nat.reduceBEq, Nat.reduceBNe, Int.reduceAdd, Int.reduceSub, Int.reduceMul, Int.reduceNeg, Nat.reduceMul, Nat.reduceLeDiff, Nat.reduceLT, b1, b2, u1, u2, hn]
                | simp (disch := omega) only [wi64, wu8, wu16, wu32, wu64, Int.tdiv_eq_ediv_of_nonneg, Int.tmod_eq_emod_of_nonneg]
                | with_reducible_and_instances exact finR
                | ((with_reducible refine finR' ?_ ?_) <;> rfl)
                | ((with_reducible refine finD hsc (NRel.of_plain ?_)); exact rfl)
            · skip
              refine AC.enter Try.func22 rfl (by kernel_rfl) 54 rfl [.tmp 10] rfl (by simp) fun hsc B => ?_
              repeat first
                | with_reducible refine AWP.seq ?_
                | ((with_reducible refine AWP.region ?_ ?_); exact rfl)
                | with_reducible refine AWP.block ?_
                | with_reducible refine AWP.skip ?_
                | with_reducible refine AWP.exit ?_
                | with_reducible refine AWP.ret ?_
                | with_reducible refine AWP.label ?_
                | with_reducible refine AWP.goto ?_
                | ((with_reducible refine AWP.condT ?_ ?_); focus (simp only [ev, lk_cons, ↓reduceIte, Nat.reduceEqDiff]; done))
                | ((with_reducible refine AWP.condF ?_ ?_); focus (simp only [ev, lk_cons, ↓reduceIte, Nat.reduceEqDiff]; done))
                | with_reducible refine (number _ _).use ?_
                | simp only [go_sem, ↓reduceIte, Nat.reduceEqDiff, reduceCtorEq, Nat.reduceAdd, Int.reduceEq, Int.reduceBNe, Int.reduceBEq, Int.reduceToNat, Int.reduceLT, Int.reduceLE, Int.reduceGT, Int.reduceGE, Nat.reduceSub, Nat.reduceBEq, Nat.reduceBNe, Int.reduceAdd, Int.reduceSub, Int.reduceMul, Int.reduceNeg, Nat.reduceMul, Nat.reduceLeDiff, Nat.reduceLT, b1, b2, u1, u2, hn]
                | simp (disch := omega) only [wi64, wu8, wu16, wu32, wu64, Int.tdiv_eq_ediv_of_nonneg, Int.tmod_eq_emod_of_nonneg]
                | with_reducible_and_instances exact finR
                | ((with_reducible refine finR' ?_ ?_) <;> rfl)
                | ((with_reducible refine finD hsc (NRel.of_plain ?_)); exact rfl)
end Go.Proofs.Ytoikchnpflnehaa
