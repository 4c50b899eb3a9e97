/-
  Links: what becomes of a packet: it goes, is lost, or goes twice.
-/
import Derived.Test.YtnfkbgpbligloaaDoorW7
set_option linter.unusedVariables false
set_option linter.unusedSimpArgs false
set_option maxRecDepth 20000
set_option maxHeartbeats 4000000
namespace Go.Proofs.YtnfkbgpbligloaaDoor
open Go Go.Aw Go.Proofs
theorem Gv.form {H : AHeap} {g : Value} {p : Pc} (h : Gv H g p) : ∃ f a, g = .func (.func f) ⟨[]⟩ ⟨[.pointer (some ⟨a, 0, none⟩)]⟩ := by
  cases h <;> exact ⟨_, _, rfl⟩
/-- One more is under way. -/
theorem LkP.push {H H2 H3 : AHeap} {i : Nat} {s : Lk} {vn vw vu : Value} {us : List (Cm × Value)} {Su : List Nat} (h : LkP H i s vn vw vu us Su) (hf : Frm [] H H2) (h1 : H3.length = H2.length) (h2 : ∀ j, j ∉ Su → H3[j]? = H2[j]?) (x : Cm) (g : Value) (hg : Gv H2 g x.p) (X : AHeap) (N : Nat) (hN : N = H2.length) :
    LkTo H i (i :: Su) { s with under := s.under ++ [x] } (H3.set i (.cells (s.c vn vw (.slice (some ⟨N, 0, none⟩) (us.length + 1) (us.length + 1))) ⟨52, 0, true, 0, none⟩) ++ (.cells (cmsC us ++ cmC (x, g)) ⟨66, 4, true, 0, none⟩ :: X)) := by
  subst hN
  have hi := h.at_
  have hil := lt_of_get hi
  have hl := hf.1
  have hf3 : Frm Su H H3 := ⟨by omega, fun j hj hn => by rw [h2 j hn]; exact hf.2 j hj (by simp)⟩
  have hmS := OwnL.mut h.own
  have hf23 : Frm Su H2 H3 := ⟨by omega, fun j hj hn => h2 j hn⟩
  have hmS2 : Mut H2 Su := fun t ht => by
    obtain ⟨cs, k, e, hk⟩ := hmS t ht
    exact ⟨cs, k, hf.get e (by simp), hk⟩
  have hi3 : H3[i]? = some (.cells (s.c vn vw vu) ⟨52, 0, true, 0, none⟩) := hf3.get hi h.out
  have hil3 := lt_of_get hi3
  have hf4 : ∀ o (Y : AHeap), Frm [i] H3 (H3.set i o ++ Y) := fun o Y => (Frm.refl [i] H3).set (i := i) (o := o) (.inl (by simp)) |>.more (X := Y)
  have hm4 : Mut H3 [i] := fun t ht => by rw [List.mem_singleton.1 ht]; exact ⟨_, _, hi3, rfl⟩
  have hx : ∀ o (Y : AHeap), Fix H (H3.set i o ++ Y) := fun o Y => (Frm.fix hf3 hmS).trans (Frm.fix (hf4 o Y) hm4)
  have hx2 : ∀ o (Y : AHeap), Fix H2 (H3.set i o ++ Y) := fun o Y => (Frm.fix hf23 hmS2).trans (Frm.fix (hf4 o Y) hm4)
  have hgv : ∀ o (Y : AHeap), ∀ u ∈ us ++ [(x, g)], Gv (H3.set i o ++ Y) u.2 u.1.p := fun o Y u hu => by
    rcases List.mem_append.1 hu with hu | hu
    · exact (h.give u hu).fix (hx o Y)
    · rw [List.mem_singleton.1 hu]
      exact hg.fix (hx2 o Y)
  have hls : ∀ o, (H3.set i o).length = H2.length := fun o => by rw [List.length_set, h1]
  refine ⟨[i, H2.length], ⟨vn, vw, .slice (some ⟨H2.length, 0, none⟩) (us.length + 1) (us.length + 1), us ++ [(x, g)], [H2.length], ⟨?_, h.nums.fix (hx _ _), h.wait.fix (hx _ _), by rw [List.map_append, h.und]; rfl, ?_, hgv _ _⟩, rfl⟩, ?_, ?_⟩
  · rw [hgetl (by rw [List.length_set]; exact hil3)]
    exact hset_self hil3
  · refine .inr ⟨H2.length, 0, _, by rw [List.length_append]; rfl, hget0 (hls _), ?_, (cmsC_snoc ..).symm, rfl⟩
    rw [List.length_append, cmsC_len, List.length_append]; simp [cmC]; omega
  · exact (hf3.mono fun t ht => List.mem_cons_of_mem _ ht).trans (hf4 _ _) fun t ht => .inl (by rw [List.mem_singleton.1 ht]; exact List.mem_cons_self ..)
  · intro t ht
    simp only [List.mem_cons, List.not_mem_nil, or_false] at ht
    rcases ht with rfl | rfl
    · exact .inl (List.mem_cons_self ..)
    · exact .inr hl
theorem goes {H : AHeap} {i : Nat} {s : Lk} {S : List Nat} (h : LkAt H i s S) (hsz : s.under.length < 1099511627776) (x : Cm) (g : Value) (hg : Gv H g x.p) :
    ARex Tryd.prog 38 [.pointer (some ⟨i, 0, none⟩), .agg ⟨cmC (x, g)⟩] H noVal (LkTo H i S { s with under := s.under ++ [x] }) := by
  obtain ⟨vn, vw, vu, us, Su, hp, rfl⟩ := h
  have hi := hp.at_
  have hil := lt_of_get hi
  have hul : us.length = s.under.length := by rw [← hp.und, List.length_map]
  obtain ⟨fg, ag, rfl⟩ := hg.form
  have hO := hp.own
  have hc2 : cmC (x, .func (.func fg) ⟨[]⟩ ⟨[.pointer (some ⟨ag, 0, none⟩)]⟩) = [.int .i64 x.time, .int .i64 x.id, .int .i64 x.copy, .func (.func fg) ⟨[]⟩ ⟨[.pointer (some ⟨ag, 0, none⟩)]⟩] := rfl
  have hap : ∀ (X : AHeap) (K : Value → AHeap → Prop) (news : List Value), (∀ H', H'.length = (H ++ X).length → (∀ j, j ∉ Su → H'[j]? = (H ++ X)[j]?) → K (.slice (some ⟨(H ++ X).length, 0, none⟩) (us.length + 1) (us.length + 1)) (H' ++ [.cells (cmsC us ++ news) ⟨66, 4, true, 0, none⟩])) → appendTo Tryd.prog 66 4 32 vu 1 news (H ++ X) K :=
    fun X K news hk => (hO.frm (T := []) Frm.app (by simp)).append (by decide) (by omega) (by omega) hk
  have hpush := fun H3 X Y N hN h1 h2 => hp.push (H2 := H ++ X) (H3 := H3) Frm.app h1 h2 x _ (hg.fix (Fix.more _ _)) Y N hN
  unfold Lk.c at hi hpush
  rw [hc2] at *
  refine AC.enter Tryd.func38 rfl (by kernel_rfl) 14 rfl [] rfl (by simp) fun hsc B => ?_
  repeat first
    | with_reducible refine AWP.seq ?_
    | ((with_reducible refine AWP.region ?_ ?_); exact rfl)
    | with_reducible refine AWP.block ?_
    | with_reducible refine AWP.skip ?_
    | with_reducible refine AWP.exit ?_
    | with_reducible refine AWP.ret ?_
    | with_reducible refine AWP.label ?_
    | with_reducible refine AWP.goto ?_
    | ((with_reducible refine AWP.condT ?_ ?_); focus (simp only [ev, lk_cons, ↓reduceIte, Nat.reduceEqDiff]; done))
    | ((with_reducible refine AWP.condF ?_ ?_); focus (simp only [ev, lk_cons, ↓reduceIte, Nat.reduceEqDiff]; done))
    | simp only [go_sem, ↓reduceIte, Nat.reduceEqDiff, reduceCtorEq, Nat.reduceAdd, Int.reduceEq, Int.reduceBNe, Int.reduceBEq, Int.reduceToNat, Int.reduceLT, Int.reduceLE, Int.reduceGT, Int.reduceGE, Nat.reduceSub, Nat.reduceBEq, Nat.reduceBNe, Int.reduceAdd, Int.reduceSub, Int.reduceMul, Int.reduceNeg, Nat.reduceMul, Nat.reduceLeDiff, Nat.reduceLT]
    | simp (disch := omega) only [wi64, wu8, wu16, wu32, wu64, Int.tdiv_eq_ediv_of_nonneg, Int.tmod_eq_emod_of_nonneg]
    | with_reducible_and_instances exact finR
    | ((with_reducible refine finR' ?_ ?_) <;> rfl)
    | ((with_reducible refine finD hsc (NRel.of_plain ?_)); exact rfl)
  refine AWP.regionM 8 [4, 5, 6, 7] [] (.both (.run [4, 5, 6, 7]) (.step 5 (.both (.run [4, 6, 7]) (.run [6, 4, 7])))) (by kernel_rfl) (by decide) (by kernel_rfl) (by kernel_rfl) (by kernel_rfl) ?_
  repeat' first
    | with_reducible refine canW_n ?_
    | with_reducible refine canW_m (by decide) ?_
    | ((with_reducible apply canW_p (by decide)); focus (intro H; (simp only [go_sem, ↓reduceIte, Nat.reduceEqDiff, reduceCtorEq, Nat.reduceAdd, Int.reduceEq, Int.reduceBNe, Int.reduceBEq, Int.reduceToNat, Int.reduceLT, Int.reduceLE, Int.reduceGT, Int.reduceGE, Nat.reduceSub, Nat.reduceBEq, Nat.reduceBNe, Int.reduceAdd, Int.reduceSub, Int.reduceMul, Int.reduceNeg, Nat.reduceMul, Nat.reduceLeDiff, Nat.reduceLT, hi, hil, hgetl, List.map_cons, List.map_nil]); exact rfl))
    | with_reducible refine memW_b ?_ ?_
    | with_reducible refine memW_s rfl ?_
    | with_reducible refine memW_r rfl ?_
    | with_reducible refine memW_e ?_
    | simp only [List.take_succ_cons, List.take_zero, List.drop_succ_cons, List.drop_zero]
    | omega
    | with_reducible refine And.intro ?_ ?_
    | with_reducible refine hap _ _ _ fun H' h1 h2 => ?_
    | with_reducible refine AWP.seq ?_
    | ((with_reducible refine AWP.region ?_ ?_); exact rfl)
    | with_reducible refine AWP.block ?_
    | with_reducible refine AWP.skip ?_
    | with_reducible refine AWP.exit ?_
    | with_reducible refine AWP.ret ?_
    | with_reducible refine AWP.label ?_
    | with_reducible refine AWP.goto ?_
    | ((with_reducible refine AWP.condT ?_ ?_); focus (simp only [ev, lk_cons, ↓reduceIte, Nat.reduceEqDiff]; done))
    | ((with_reducible refine AWP.condF ?_ ?_); focus (simp only [ev, lk_cons, ↓reduceIte, Nat.reduceEqDiff]; done))
    | simp only [go_sem, ↓reduceIte, Nat.reduceEqDiff, reduceCtorEq, Nat.reduceAdd, Int.reduceEq, Int.reduceBNe, Int.reduceBEq, Int.reduceToNat, Int.reduceLT, Int.reduceLE, Int.reduceGT, Int.reduceGE, Nat.reduceSub, Nat.reduceBEq, Nat.reduceBNe, Int.reduceAdd, Int.reduceSub, Int.reduceMul, Int.reduceNeg, Nat.reduceMul, Nat.reduceLeDiff, Nat.reduceLT, hi, hil, hgetl, List.map_cons, List.map_nil]
    | simp (disch := omega) only [wi64, wu8, wu16, wu32, wu64, Int.tdiv_eq_ediv_of_nonneg, Int.tmod_eq_emod_of_nonneg]
    | with_reducible_and_instances exact finR
    | ((with_reducible refine finR' ?_ ?_) <;> rfl)
    | ((with_reducible refine finD hsc (NRel.of_plain ?_)); exact rfl)
  all_goals
    have hi4 : H'[i]? = _ := (h2 i hp.out).trans ((hgetl hil).trans hi)
    have hil4 := lt_of_get hi4
    repeat' first
      | with_reducible refine canW_n ?_
      | with_reducible refine canW_m (by decide) ?_
      | ((with_reducible apply canW_p (by decide)); focus (intro H; (simp only [go_sem, ↓reduceIte, Nat.reduceEqDiff, reduceCtorEq, Nat.reduceAdd, Int.reduceEq, Int.reduceBNe, Int.reduceBEq, Int.reduceToNat, Int.reduceLT, Int.reduceLE, Int.reduceGT, Int.reduceGE, Nat.reduceSub, Nat.reduceBEq, Nat.reduceBNe, Int.reduceAdd, Int.reduceSub, Int.reduceMul, Int.reduceNeg, Nat.reduceMul, Nat.reduceLeDiff, Nat.reduceLT, hi4, hil4, hgetl, hsetl, List.map_cons, List.map_nil]); exact rfl))
      | with_reducible refine memW_b ?_ ?_
      | with_reducible refine memW_s rfl ?_
      | with_reducible refine memW_r rfl ?_
      | with_reducible refine memW_e ?_
      | simp only [List.take_succ_cons, List.take_zero, List.drop_succ_cons, List.drop_zero]
      | omega
      | with_reducible refine And.intro ?_ ?_
      | with_reducible refine AWP.seq ?_
      | ((with_reducible refine AWP.region ?_ ?_); exact rfl)
      | with_reducible refine AWP.block ?_
      | with_reducible refine AWP.skip ?_
      | with_reducible refine AWP.exit ?_
      | with_reducible refine AWP.ret ?_
      | with_reducible refine AWP.label ?_
      | with_reducible refine AWP.goto ?_
      | ((with_reducible refine AWP.condT ?_ ?_); focus (simp only [ev, lk_cons, ↓reduceIte, Nat.reduceEqDiff]; done))
      | ((with_reducible refine AWP.condF ?_ ?_); focus (simp only [ev, lk_cons, ↓reduceIte, Nat.reduceEqDiff]; done))
      | simp only [go_sem, ↓reduceIte, Nat.reduceEqDiff, reduceCtorEq, Nat.reduceAdd, Int.reduceEq, Int.reduceBNe, Int.reduceBEq, Int.reduceToNat, Int.reduceLT, Int.reduceLE, Int.reduceGT, Int.reduceGE, Nat.reduceSub, Nat.reduceBEq, Nat.reduceBNe, Int.reduceAdd, Int.reduceSub, Int.reduceMul, Int.reduceNeg, Nat.reduceMul, Nat.reduceLeDiff, Nat.reduceLT, hi4, hil4, hgetl, hsetl, List.map_cons, List.map_nil]
      | simp (disch := omega) only [wi64, wu8, wu16, wu32, wu64, Int.tdiv_eq_ediv_of_nonneg, Int.tmod_eq_emod_of_nonneg]
      | with_reducible_and_instances exact finR
      | ((with_reducible refine finR' ?_ ?_) <;> rfl)
      | ((with_reducible refine finD hsc (NRel.of_plain ?_)); exact rfl)
  all_goals exact ⟨_, _, .refl _ _ _, rfl, hpush _ _ _ _ (by simp) h1 h2⟩
/-- A cut between two codes, at a state of which J holds. -/
theorem AWP.seqE {g : Cfg} {Q : AExit → ASt → Prop} {st : ASt} {x y : Code} (J : ASt → Prop) (h : AWP g x (next (fun s => ∃ st2, J st2 ∧ Weak g.n0 s st2) Q) st) (k : ∀ st2, J st2 → AWP g y Q st2) : AWP g (.seq x y) Q st := by
  refine AWP.seq (h.mono ?_)
  intro e s hq
  cases e with
  | normal =>
    obtain ⟨st2, h1, h2⟩ := hq
    exact Go.Aw.AWP.weak h2 (k _ h1)
  | exit i => exact hq
  | goto i => exact hq
  | ret => exact hq
  | panic v => exact hq
theorem lost {H : AHeap} {i : Nat} {s : Lk} {S : List Nat} (h : LkAt H i s S) (hb : 0 ≤ s.lost ∧ s.lost < 1152921504606846976) (l : List Value) :
    ARex Tryd.prog 39 [.pointer (some ⟨i, 0, none⟩), .agg ⟨l⟩] H noVal (LkTo H i S { s with lost := s.lost + 1 }) := by
  obtain ⟨vn, vw, vu, us, Su, hp, rfl⟩ := h
  have hi := hp.at_
  have hil := lt_of_get hi
  have hw : IntKind.i64.wrap (s.lost + 1) = s.lost + 1 := wi64 (by omega)
  unfold Lk.c at hi
  refine AC.enter Tryd.func39 rfl (by kernel_rfl) 11 rfl [] rfl (by simp) fun hsc B => ?_
  repeat first
    | with_reducible refine AWP.seq ?_
    | ((with_reducible refine AWP.region ?_ ?_); exact rfl)
    | with_reducible refine AWP.block ?_
    | with_reducible refine AWP.skip ?_
    | with_reducible refine AWP.exit ?_
    | with_reducible refine AWP.ret ?_
    | with_reducible refine AWP.label ?_
    | with_reducible refine AWP.goto ?_
    | ((with_reducible refine AWP.condT ?_ ?_); focus (simp only [ev, lk_cons, ↓reduceIte, Nat.reduceEqDiff]; done))
    | ((with_reducible refine AWP.condF ?_ ?_); focus (simp only [ev, lk_cons, ↓reduceIte, Nat.reduceEqDiff]; done))
    | simp only [go_sem, ↓reduceIte, Nat.reduceEqDiff, reduceCtorEq, Nat.reduceAdd, Int.reduceEq, Int.reduceBNe, Int.reduceBEq, Int.reduceToNat, Int.reduceLT, Int.reduceLE, Int.reduceGT, Int.reduceGE, Nat.reduceSub, Nat.reduceBEq, Nat.reduceBNe, Int.reduceAdd, Int.reduceSub, Int.reduceMul, Int.reduceNeg, Nat.reduceMul, Nat.reduceLeDiff, Nat.reduceLT, hi, hil, hgetl, hsetl, hw]
    | simp (disch := omega) only [wi64, wu8, wu16, wu32, wu64, Int.tdiv_eq_ediv_of_nonneg, Int.tmod_eq_emod_of_nonneg]
    | with_reducible_and_instances exact finR
    | ((with_reducible refine finR' ?_ ?_) <;> rfl)
    | ((with_reducible refine finD hsc (NRel.of_plain ?_)); exact rfl)
  refine ⟨_, _, .refl _ _ _, rfl, hp.to (s' := { s with lost := s.lost + 1 }) ?_ ?_ rfl rfl rfl⟩
  · exact Frm.more (Frm.set (.refl _ _) (.inl (by simp)))
  · exact (hgetl (by rw [List.length_set]; exact hil)).trans (hset_self hil)
/-- A packet that comes a second time. -/
def Cm.again (x : Cm) : Cm := ⟨x.time + 1, x.id, 1, { x.p with time := x.p.time + 1 }⟩
theorem twice {H : AHeap} {i : Nat} {s : Lk} {S : List Nat} (h : LkAt H i s S) (hsz : s.under.length < 1099511627775) (hb : 0 ≤ s.dbl ∧ s.dbl < 1152921504606846976) (x : Cm) (ht : 0 ≤ x.time ∧ x.time < 1152921504606846976) (a : Nat) (k : CK) (ha : H[a]? = some (.cells x.p.c k)) (hk : mutK k = false) :
    ARex Tryd.prog 40 [.pointer (some ⟨i, 0, none⟩), .agg ⟨cmC (x, .func (.func 22) ⟨[]⟩ ⟨[.pointer (some ⟨a, 0, none⟩)]⟩)⟩] H noVal (LkTo H i S { s with dbl := s.dbl + 1, under := s.under ++ [x, x.again] }) := by
  obtain ⟨vn, vw, vu, us, Su, hp, rfl⟩ := h
  have hi := hp.at_
  have hil := lt_of_get hi
  have hw : IntKind.i64.wrap (s.dbl + 1) = s.dbl + 1 := wi64 (by omega)
  have hw2 : IntKind.i64.wrap (x.time + 1) = x.time + 1 := wi64 (by omega)
  have hul : us.length = s.under.length := by rw [← hp.und, List.length_map]
  let s1 : Lk := { s with dbl := s.dbl + 1 }
  have hg : Gv H (.func (.func 22) ⟨[]⟩ ⟨[.pointer (some ⟨a, 0, none⟩)]⟩) x.p := .one ha hk
  have hc2 : cmC (x, .func (.func 22) ⟨[]⟩ ⟨[.pointer (some ⟨a, 0, none⟩)]⟩) = [.int .i64 x.time, .int .i64 x.id, .int .i64 x.copy, .func (.func 22) ⟨[]⟩ ⟨[.pointer (some ⟨a, 0, none⟩)]⟩] := rfl
  let H1 : AHeap := H.set i (.cells (s1.c vn vw vu) ⟨52, 0, true, 0, none⟩)
  have hf1 : Frm [i] H H1 := Frm.set (.refl _ _) (.inl (by simp))
  have hl1 : H1.length = H.length := List.length_set
  have hp1 : LkP H1 i s1 vn vw vu us Su := hp.to' hf1 (hset_self hil) rfl rfl rfl
  have hg1 : Gv H1 (.func (.func 22) ⟨[]⟩ ⟨[.pointer (some ⟨a, 0, none⟩)]⟩) x.p := hg.fix (Frm.fix hf1 fun t ht => by rw [List.mem_singleton.1 ht]; exact ⟨_, _, hi, rfl⟩)
  have hi1 := hp1.at_
  have hil1 := lt_of_get hi1
  have hO1 := hp1.own
  have hap : ∀ (X : AHeap) (K : Value → AHeap → Prop) (news : List Value), (∀ H', H'.length = (H1 ++ X).length → (∀ j, j ∉ Su → H'[j]? = (H1 ++ X)[j]?) → K (.slice (some ⟨(H1 ++ X).length, 0, none⟩) (us.length + 1) (us.length + 1)) (H' ++ [.cells (cmsC us ++ news) ⟨66, 4, true, 0, none⟩])) → appendTo Tryd.prog 66 4 32 vu 1 news (H1 ++ X) K :=
    fun X K news hk => (hO1.frm (T := []) Frm.app (by simp)).append (by decide) (by omega) (by omega) hk
  have hpush := fun H3 X Y N hN h1 h2 => hp1.push (H2 := H1 ++ X) (H3 := H3) Frm.app h1 h2 x _ (hg1.fix (Fix.more _ _)) Y N hN
  have hH1 : H1 = H.set i (.cells (s1.c vn vw vu) ⟨52, 0, true, 0, none⟩) := rfl
  unfold Lk.c at hi hpush hi1 hH1
  simp only [s1] at hH1 hi1 hpush
  rw [hc2] at *
  refine AC.enter Tryd.func40 rfl (by kernel_rfl) 41 rfl [] rfl (by simp) fun hsc B => ?_
  have hb0 : ∀ l : AHeap, (H1 ++ l)[H.length]? = l[0]? := fun l => hget0 hl1
  have hb1 : ∀ l : AHeap, (H1 ++ l)[H.length + 1]? = l[1]? := fun l => hgetk hl1
  let J : ASt → Prop := fun st => ∃ H2 vn' vw' vu' us' Su', st = ⟨[(0, .pointer (some ⟨i, 0, none⟩)), (3, .pointer (some ⟨H.length, 0, none⟩))], [], H2⟩ ∧ LkP H2 i { s1 with under := s.under ++ [x] } vn' vw' vu' us' Su' ∧ H2[H.length]? = some (.cells [.int .i64 x.time, .int .i64 x.id, .int .i64 x.copy, .func (.func 22) ⟨[]⟩ ⟨[.pointer (some ⟨a, 0, none⟩)]⟩] ⟨66, 0, true, 0, none⟩) ∧ Frm (i :: Su) H1 H2 ∧ ∀ t ∈ i :: Su', t ∈ i :: Su ∨ H1.length ≤ t
  repeat first
    | with_reducible refine AWP.seqE (x := .region 2 _ _) J ?_ ?_
    | with_reducible refine AWP.seq ?_
    | ((with_reducible refine AWP.region ?_ ?_); exact rfl)
    | with_reducible refine AWP.block ?_
    | with_reducible refine AWP.skip ?_
    | with_reducible refine AWP.exit ?_
    | with_reducible refine AWP.ret ?_
    | with_reducible refine AWP.label ?_
    | with_reducible refine AWP.goto ?_
    | ((with_reducible refine AWP.condT ?_ ?_); focus (simp only [ev, lk_cons, ↓reduceIte, Nat.reduceEqDiff]; done))
    | ((with_reducible refine AWP.condF ?_ ?_); focus (simp only [ev, lk_cons, ↓reduceIte, Nat.reduceEqDiff]; done))
    | simp only [go_sem, ↓reduceIte, Nat.reduceEqDiff, reduceCtorEq, Nat.reduceAdd, Int.reduceEq, Int.reduceBNe, Int.reduceBEq, Int.reduceToNat, Int.reduceLT, Int.reduceLE, Int.reduceGT, Int.reduceGE, Nat.reduceSub, Nat.reduceBEq, Nat.reduceBNe, Int.reduceAdd, Int.reduceSub, Int.reduceMul, Int.reduceNeg, Nat.reduceMul, Nat.reduceLeDiff, Nat.reduceLT, hi, hil, hgetl, hsetl, hw]
    | simp (disch := omega) only [wi64, wu8, wu16, wu32, wu64, Int.tdiv_eq_ediv_of_nonneg, Int.tmod_eq_emod_of_nonneg]
    | with_reducible_and_instances exact finR
    | ((with_reducible refine finR' ?_ ?_) <;> rfl)
    | ((with_reducible refine finD hsc (NRel.of_plain ?_)); exact rfl)
  · rw [← hH1]
    refine AWP.regionM 8 [4, 5, 6, 7] [] (.both (.run [4, 5, 6, 7]) (.step 5 (.both (.run [4, 6, 7]) (.run [6, 4, 7])))) (by kernel_rfl) (by decide) (by kernel_rfl) (by kernel_rfl) (by kernel_rfl) ?_
    repeat' first
      | with_reducible refine canW_n ?_
      | with_reducible refine canW_m (by decide) ?_
      | ((with_reducible apply canW_p (by decide)); focus (intro H; (simp only [go_sem, ↓reduceIte, Nat.reduceEqDiff, reduceCtorEq, Nat.reduceAdd, Int.reduceEq, Int.reduceBNe, Int.reduceBEq, Int.reduceToNat, Int.reduceLT, Int.reduceLE, Int.reduceGT, Int.reduceGE, Nat.reduceSub, Nat.reduceBEq, Nat.reduceBNe, Int.reduceAdd, Int.reduceSub, Int.reduceMul, Int.reduceNeg, Nat.reduceMul, Nat.reduceLeDiff, Nat.reduceLT, hi1, hil1, hil, hgetl, hb0, hb1, hl1, List.map_cons, List.map_nil]); exact rfl))
      | with_reducible refine memW_b ?_ ?_
      | with_reducible refine memW_s rfl ?_
      | with_reducible refine memW_r rfl ?_
      | with_reducible refine memW_e ?_
      | simp only [List.take_succ_cons, List.take_zero, List.drop_succ_cons, List.drop_zero]
      | omega
      | with_reducible refine And.intro ?_ ?_
      | with_reducible refine hap _ _ _ fun H' h1 h2 => ?_
      | with_reducible refine AWP.seq ?_
      | ((with_reducible refine AWP.region ?_ ?_); exact rfl)
      | with_reducible refine AWP.block ?_
      | with_reducible refine AWP.skip ?_
      | with_reducible refine AWP.exit ?_
      | with_reducible refine AWP.ret ?_
      | with_reducible refine AWP.label ?_
      | with_reducible refine AWP.goto ?_
      | ((with_reducible refine AWP.condT ?_ ?_); focus (simp only [ev, lk_cons, ↓reduceIte, Nat.reduceEqDiff]; done))
      | ((with_reducible refine AWP.condF ?_ ?_); focus (simp only [ev, lk_cons, ↓reduceIte, Nat.reduceEqDiff]; done))
      | simp only [go_sem, ↓reduceIte, Nat.reduceEqDiff, reduceCtorEq, Nat.reduceAdd, Int.reduceEq, Int.reduceBNe, Int.reduceBEq, Int.reduceToNat, Int.reduceLT, Int.reduceLE, Int.reduceGT, Int.reduceGE, Nat.reduceSub, Nat.reduceBEq, Nat.reduceBNe, Int.reduceAdd, Int.reduceSub, Int.reduceMul, Int.reduceNeg, Nat.reduceMul, Nat.reduceLeDiff, Nat.reduceLT, hi1, hil1, hil, hgetl, hb0, hb1, hl1, List.map_cons, List.map_nil]
      | simp (disch := omega) only [wi64, wu8, wu16, wu32, wu64, Int.tdiv_eq_ediv_of_nonneg, Int.tmod_eq_emod_of_nonneg]
      | with_reducible_and_instances exact finR
      | ((with_reducible refine finR' ?_ ?_) <;> rfl)
      | ((with_reducible refine finD hsc (NRel.of_plain ?_)); exact rfl)
    all_goals
      have hi4 : H'[i]? = _ := (h2 i hp.out).trans ((hgetl hil1).trans hi1)
      have hil4 := lt_of_get hi4
      repeat' first
        | with_reducible refine canW_n ?_
        | with_reducible refine canW_m (by decide) ?_
        | ((with_reducible apply canW_p (by decide)); focus (intro H; (simp only [go_sem, ↓reduceIte, Nat.reduceEqDiff, reduceCtorEq, Nat.reduceAdd, Int.reduceEq, Int.reduceBNe, Int.reduceBEq, Int.reduceToNat, Int.reduceLT, Int.reduceLE, Int.reduceGT, Int.reduceGE, Nat.reduceSub, Nat.reduceBEq, Nat.reduceBNe, Int.reduceAdd, Int.reduceSub, Int.reduceMul, Int.reduceNeg, Nat.reduceMul, Nat.reduceLeDiff, Nat.reduceLT, hi4, hil4, hgetl, hsetl, List.map_cons, List.map_nil]); exact rfl))
        | with_reducible refine memW_b ?_ ?_
        | with_reducible refine memW_s rfl ?_
        | with_reducible refine memW_r rfl ?_
        | with_reducible refine memW_e ?_
        | simp only [List.take_succ_cons, List.take_zero, List.drop_succ_cons, List.drop_zero]
        | omega
        | with_reducible refine And.intro ?_ ?_
        | with_reducible refine AWP.seq ?_
        | ((with_reducible refine AWP.region ?_ ?_); exact rfl)
        | with_reducible refine AWP.block ?_
        | with_reducible refine AWP.skip ?_
        | with_reducible refine AWP.exit ?_
        | with_reducible refine AWP.ret ?_
        | with_reducible refine AWP.label ?_
        | with_reducible refine AWP.goto ?_
        | ((with_reducible refine AWP.condT ?_ ?_); focus (simp only [ev, lk_cons, ↓reduceIte, Nat.reduceEqDiff]; done))
        | ((with_reducible refine AWP.condF ?_ ?_); focus (simp only [ev, lk_cons, ↓reduceIte, Nat.reduceEqDiff]; done))
        | simp only [go_sem, ↓reduceIte, Nat.reduceEqDiff, reduceCtorEq, Nat.reduceAdd, Int.reduceEq, Int.reduceBNe, Int.reduceBEq, Int.reduceToNat, Int.reduceLT, Int.reduceLE, Int.reduceGT, Int.reduceGE, Nat.reduceSub, Nat.reduceBEq, Nat.reduceBNe, Int.reduceAdd, Int.reduceSub, Int.reduceMul, Int.reduceNeg, Nat.reduceMul, Nat.reduceLeDiff, Nat.reduceLT, hi4, hil4, hgetl, hsetl, List.map_cons, List.map_nil]
        | simp (disch := omega) only [wi64, wu8, wu16, wu32, wu64, Int.tdiv_eq_ediv_of_nonneg, Int.tmod_eq_emod_of_nonneg]
        | with_reducible_and_instances exact finR
        | ((with_reducible refine finR' ?_ ?_) <;> rfl)
        | ((with_reducible refine finD hsc (NRel.of_plain ?_)); exact rfl)
    all_goals
      obtain ⟨S2, ⟨vn', vw', vu', us', Su', hP', rfl⟩, hF, hS⟩ := hpush _ _ [] (H.length + 2) (by simp [hl1]) h1 h2
      have hbS : H.length ∉ Su := fun hm => by have := hp.own.lt _ hm; omega
      have hb4 : H'[H.length]? = _ := (h2 _ hbS).trans (hb0 _)
      have hbl := lt_of_get hb4
      refine ⟨_, ⟨_, vn', vw', vu', us', Su', rfl, hP', ?_, hF, hS⟩, Weak.env (by simp [envIn, lk_cons, wth_some])⟩
      rw [hgetl (by rw [List.length_set]; exact hbl), hset_ne (by omega)]
      exact hb4
  · rintro st2 ⟨H2, vn', vw', vu', us', Su', rfl, hP2, hb2, hf2, hs2⟩
    have hi2 := hP2.at_
    have hil2 := lt_of_get hi2
    have hbl2 := lt_of_get hb2
    have hib : H.length ≠ i := by omega
    have hul2 : us'.length = s.under.length + 1 := by
      have := congrArg List.length hP2.und
      simpa using this
    have hbS : H.length ∉ i :: Su' := fun hm => by
      rcases List.mem_cons.1 hm with e | hm
      · omega
      · rcases hP2.own with ⟨_, _, _, rfl⟩ | ⟨j, o, cs, _, hj, _, _, rfl⟩
        · simp at hm
        · rw [List.mem_singleton.1 hm, hj] at hb2
          simp at hb2
    let H3 : AHeap := H2.set H.length (.cells [.int .i64 (x.time + 1), .int .i64 x.id, .int .i64 1, .func (.func 41) ⟨[]⟩ ⟨[.pointer (some ⟨H2.length, 0, none⟩)]⟩] ⟨66, 0, true, 0, none⟩)
    have hH3 : H3 = H2.set H.length (.cells [.int .i64 (x.time + 1), .int .i64 x.id, .int .i64 1, .func (.func 41) ⟨[]⟩ ⟨[.pointer (some ⟨H2.length, 0, none⟩)]⟩] ⟨66, 0, true, 0, none⟩) := rfl
    have hf3 : Frm [H.length] H2 H3 := Frm.set (.refl _ _) (.inl (by simp))
    have hm3 : Mut H2 [H.length] := fun t ht => by rw [List.mem_singleton.1 ht]; exact ⟨_, _, hb2, rfl⟩
    have hP3 := hP2.beside hf3 hm3 (fun t ht e => hbS (by rw [← List.mem_singleton.1 e]; exact ht))
    unfold Lk.c at hi2
    simp only [s1] at hi2
    repeat first
      | with_reducible refine AWP.seq ?_
      | ((with_reducible refine AWP.region ?_ ?_); exact rfl)
      | with_reducible refine AWP.block ?_
      | with_reducible refine AWP.skip ?_
      | with_reducible refine AWP.exit ?_
      | with_reducible refine AWP.ret ?_
      | with_reducible refine AWP.label ?_
      | with_reducible refine AWP.goto ?_
      | ((with_reducible refine AWP.condT ?_ ?_); focus (simp only [ev, lk_cons, ↓reduceIte, Nat.reduceEqDiff]; done))
      | ((with_reducible refine AWP.condF ?_ ?_); focus (simp only [ev, lk_cons, ↓reduceIte, Nat.reduceEqDiff]; done))
      | simp only [go_sem, ↓reduceIte, Nat.reduceEqDiff, reduceCtorEq, Nat.reduceAdd, Int.reduceEq, Int.reduceBNe, Int.reduceBEq, Int.reduceToNat, Int.reduceLT, Int.reduceLE, Int.reduceGT, Int.reduceGE, Nat.reduceSub, Nat.reduceBEq, Nat.reduceBNe, Int.reduceAdd, Int.reduceSub, Int.reduceMul, Int.reduceNeg, Nat.reduceMul, Nat.reduceLeDiff, Nat.reduceLT, hb2, hbl2, hgetl, hsetl, hw2]
      | simp (disch := omega) only [wi64, wu8, wu16, wu32, wu64, Int.tdiv_eq_ediv_of_nonneg, Int.tmod_eq_emod_of_nonneg]
      | with_reducible_and_instances exact finR
      | ((with_reducible refine finR' ?_ ?_) <;> rfl)
      | ((with_reducible refine finD hsc (NRel.of_plain ?_)); exact rfl)
    rw [← hH3]
    have hi3 := hP3.at_
    have hil3 := lt_of_get hi3
    have hb3 : H3[H.length]? = _ := hset_self hbl2
    have hbl3 := lt_of_get hb3
    have hl3 : H3.length = H2.length := List.length_set
    have hc3 : ∀ l : AHeap, (H3 ++ l)[H2.length]? = l[0]? := fun l => hget0 hl3
    have hx1 : Fix H H1 := Frm.fix hf1 fun t ht => by rw [List.mem_singleton.1 ht]; exact ⟨_, _, hi, rfl⟩
    have hx2 : Fix H1 H2 := Frm.fix hf2 hp1.mut
    have hx3 : Fix H2 H3 := Frm.fix hf3 hm3
    have hgv : ∀ Y : AHeap, Gv (H3 ++ (.cells [.func (.func 22) ⟨[]⟩ ⟨[.pointer (some ⟨a, 0, none⟩)]⟩] ⟨64, 0, true, 0, none⟩ :: Y)) (.func (.func 41) ⟨[]⟩ ⟨[.pointer (some ⟨H2.length, 0, none⟩)]⟩) x.again.p := fun Y =>
      .two (i := a) (k := k) (p := x.p) (hc3 _) rfl (((hx1.trans hx2).trans (hx3.trans (Fix.more _ _))) _ _ _ ha hk) hk
    have hO3 := hP3.own
    have hap3 : ∀ (X : AHeap) (K : Value → AHeap → Prop) (news : List Value), (∀ H', H'.length = (H3 ++ X).length → (∀ j, j ∉ Su' → H'[j]? = (H3 ++ X)[j]?) → K (.slice (some ⟨(H3 ++ X).length, 0, none⟩) (us'.length + 1) (us'.length + 1)) (H' ++ [.cells (cmsC us' ++ news) ⟨66, 4, true, 0, none⟩])) → appendTo Tryd.prog 66 4 32 vu' 1 news (H3 ++ X) K :=
      fun X K news hk => (hO3.frm (T := []) Frm.app (by simp)).append (by decide) (by omega) (by omega) hk
    have hpush3 := fun H3' X Y N hN h1 h2 hgx => hP3.push (H2 := H3 ++ X) (H3 := H3') Frm.app h1 h2 x.again (.func (.func 41) ⟨[]⟩ ⟨[.pointer (some ⟨H2.length, 0, none⟩)]⟩) hgx Y N hN
    unfold Lk.c at hi3 hpush3
    simp only [s1] at hi3 hpush3
    refine AWP.regionM 8 [4, 5, 6, 7] [] (.both (.run [4, 5, 6, 7]) (.step 5 (.both (.run [4, 6, 7]) (.run [6, 4, 7])))) (by kernel_rfl) (by decide) (by kernel_rfl) (by kernel_rfl) (by kernel_rfl) ?_
    repeat' first
      | with_reducible refine canW_n ?_
      | with_reducible refine canW_m (by decide) ?_
      | ((with_reducible apply canW_p (by decide)); focus (intro H; (simp only [go_sem, ↓reduceIte, Nat.reduceEqDiff, reduceCtorEq, Nat.reduceAdd, Int.reduceEq, Int.reduceBNe, Int.reduceBEq, Int.reduceToNat, Int.reduceLT, Int.reduceLE, Int.reduceGT, Int.reduceGE, Nat.reduceSub, Nat.reduceBEq, Nat.reduceBNe, Int.reduceAdd, Int.reduceSub, Int.reduceMul, Int.reduceNeg, Nat.reduceMul, Nat.reduceLeDiff, Nat.reduceLT, hi3, hil3, hgetl, hb3, hbl3, List.map_cons, List.map_nil]); exact rfl))
      | with_reducible refine memW_b ?_ ?_
      | with_reducible refine memW_s rfl ?_
      | with_reducible refine memW_r rfl ?_
      | with_reducible refine memW_e ?_
      | simp only [List.take_succ_cons, List.take_zero, List.drop_succ_cons, List.drop_zero]
      | omega
      | with_reducible refine And.intro ?_ ?_
      | with_reducible refine hap3 _ _ _ fun H' h1 h2 => ?_
      | with_reducible refine AWP.seq ?_
      | ((with_reducible refine AWP.region ?_ ?_); exact rfl)
      | with_reducible refine AWP.block ?_
      | with_reducible refine AWP.skip ?_
      | with_reducible refine AWP.exit ?_
      | with_reducible refine AWP.ret ?_
      | with_reducible refine AWP.label ?_
      | with_reducible refine AWP.goto ?_
      | ((with_reducible refine AWP.condT ?_ ?_); focus (simp only [ev, lk_cons, ↓reduceIte, Nat.reduceEqDiff]; done))
      | ((with_reducible refine AWP.condF ?_ ?_); focus (simp only [ev, lk_cons, ↓reduceIte, Nat.reduceEqDiff]; done))
      | simp only [go_sem, ↓reduceIte, Nat.reduceEqDiff, reduceCtorEq, Nat.reduceAdd, Int.reduceEq, Int.reduceBNe, Int.reduceBEq, Int.reduceToNat, Int.reduceLT, Int.reduceLE, Int.reduceGT, Int.reduceGE, Nat.reduceSub, Nat.reduceBEq, Nat.reduceBNe, Int.reduceAdd, Int.reduceSub, Int.reduceMul, Int.reduceNeg, Nat.reduceMul, Nat.reduceLeDiff, Nat.reduceLT, hi3, hil3, hgetl, hb3, hbl3, List.map_cons, List.map_nil]
      | simp (disch := omega) only [wi64, wu8, wu16, wu32, wu64, Int.tdiv_eq_ediv_of_nonneg, Int.tmod_eq_emod_of_nonneg]
      | with_reducible_and_instances exact finR
      | ((with_reducible refine finR' ?_ ?_) <;> rfl)
      | ((with_reducible refine finD hsc (NRel.of_plain ?_)); exact rfl)
    all_goals
      have hi4 : H'[i]? = _ := (h2 i hP3.out).trans ((hgetl hil3).trans hi3)
      have hil4 := lt_of_get hi4
      repeat' first
        | with_reducible refine canW_n ?_
        | with_reducible refine canW_m (by decide) ?_
        | ((with_reducible apply canW_p (by decide)); focus (intro H; (simp only [go_sem, ↓reduceIte, Nat.reduceEqDiff, reduceCtorEq, Nat.reduceAdd, Int.reduceEq, Int.reduceBNe, Int.reduceBEq, Int.reduceToNat, Int.reduceLT, Int.reduceLE, Int.reduceGT, Int.reduceGE, Nat.reduceSub, Nat.reduceBEq, Nat.reduceBNe, Int.reduceAdd, Int.reduceSub, Int.reduceMul, Int.reduceNeg, Nat.reduceMul, Nat.reduceLeDiff, Nat.reduceLT, hi4, hil4, hgetl, hsetl, List.map_cons, List.map_nil]); exact rfl))
        | with_reducible refine memW_b ?_ ?_
        | with_reducible refine memW_s rfl ?_
        | with_reducible refine memW_r rfl ?_
        | with_reducible refine memW_e ?_
        | simp only [List.take_succ_cons, List.take_zero, List.drop_succ_cons, List.drop_zero]
        | omega
        | with_reducible refine And.intro ?_ ?_
        | with_reducible refine AWP.seq ?_
        | ((with_reducible refine AWP.region ?_ ?_); exact rfl)
        | with_reducible refine AWP.block ?_
        | with_reducible refine AWP.skip ?_
        | with_reducible refine AWP.exit ?_
        | with_reducible refine AWP.ret ?_
        | with_reducible refine AWP.label ?_
        | with_reducible refine AWP.goto ?_
        | ((with_reducible refine AWP.condT ?_ ?_); focus (simp only [ev, lk_cons, ↓reduceIte, Nat.reduceEqDiff]; done))
        | ((with_reducible refine AWP.condF ?_ ?_); focus (simp only [ev, lk_cons, ↓reduceIte, Nat.reduceEqDiff]; done))
        | simp only [go_sem, ↓reduceIte, Nat.reduceEqDiff, reduceCtorEq, Nat.reduceAdd, Int.reduceEq, Int.reduceBNe, Int.reduceBEq, Int.reduceToNat, Int.reduceLT, Int.reduceLE, Int.reduceGT, Int.reduceGE, Nat.reduceSub, Nat.reduceBEq, Nat.reduceBNe, Int.reduceAdd, Int.reduceSub, Int.reduceMul, Int.reduceNeg, Nat.reduceMul, Nat.reduceLeDiff, Nat.reduceLT, hi4, hil4, hgetl, hsetl, List.map_cons, List.map_nil]
        | simp (disch := omega) only [wi64, wu8, wu16, wu32, wu64, Int.tdiv_eq_ediv_of_nonneg, Int.tmod_eq_emod_of_nonneg]
        | with_reducible_and_instances exact finR
        | ((with_reducible refine finR' ?_ ?_) <;> rfl)
        | ((with_reducible refine finD hsc (NRel.of_plain ?_)); exact rfl)
    all_goals
      obtain ⟨S2, hA5, hF5, hS5⟩ := hpush3 _ _ [] (H3.length + 2) (by simp) h1 h2 (hgv _)
      refine ⟨_, _, .refl _ _ _, rfl, S2, ?_, ?_, ?_⟩
      · have e : ({ s with dbl := s.dbl + 1, under := s.under ++ [x, x.again] } : Lk) = { s with dbl := s.dbl + 1, under := s.under ++ [x] ++ [x.again] } := by simp
        rw [e]
        exact hA5
      · have hfa : Frm (i :: Su) H H1 := hf1.mono fun t ht => by rw [List.mem_singleton.1 ht]; exact List.mem_cons_self ..
        have hfb := hfa.trans hf2 fun t ht => .inl ht
        have hfc := hfb.trans hf3 fun t ht => .inr (by rw [List.mem_singleton.1 ht]; exact Nat.le_refl _)
        exact hfc.trans hF5 fun t ht => by rcases hs2 t ht with h | h; exact .inl h; exact .inr (by omega)
      · intro t ht
        rcases hS5 t ht with h | h
        · rcases hs2 t h with h | h
          · exact .inl h
          · exact .inr (by omega)
        · exact .inr (by have := hf2.1; omega)
end Go.Proofs.YtnfkbgpbligloaaDoor
