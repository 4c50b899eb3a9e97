/-
  The control by delays: its state; the least of delays; iterating over delays and bases; the queueing delay.
-/
import Derived.Test.YtoikchnpflnehaaG2
set_option linter.unusedVariables false
set_option linter.unusedSimpArgs false
set_option maxRecDepth 20000
namespace Go.Proofs.Ytoikchnpflnehaa
open Go Go.Aw Go.Proofs
def intsC (l : List Int) : List Value := l.map (.int .i64)
theorem intsC_length (l : List Int) : (intsC l).length = l.length := by simp [intsC]
theorem intsC_get (l : List Int) {n : Nat} (h : n < l.length) : (intsC l)[n]? = some (.int .i64 l[n]) := by simp [intsC, h]
def pastC (l : List (Int × Int)) : List Value := l.flatMap fun p => [.int .i64 p.1, .int .i64 p.2]
theorem pastC_length (l : List (Int × Int)) : (pastC l).length = l.length * 2 := by
  induction l with
  | nil => rfl
  | cons a r ih => unfold pastC at *; rw [List.flatMap_cons, List.length_append, ih, List.length_cons]; simp; omega
theorem pastC_get (l : List (Int × Int)) : ∀ {n : Nat} (h : n < l.length), (pastC l)[n * 2]? = some (.int .i64 l[n].1) ∧ (pastC l)[n * 2 + 1]? = some (.int .i64 l[n].2) := by
  induction l with
  | nil => intro n h; simp at h
  | cons a r ih =>
    intro n h
    rcases n with _ | n
    · exact ⟨rfl, rfl⟩
    · have h2 : (n + 1) * 2 = n * 2 + 1 + 1 := by omega
      have := ih (n := n) (by simpa using h)
      rw [h2]
      exact this
structure Ctl where
  now : Int
  halved : Int
  ever : Bool
  target : Int
  limit : Int
  last : List Int
  past : List (Int × Int)
def ctlC (C : Ctl) (lv pv : Value) : List Value := [.int .i64 C.now, .int .i64 C.halved, .bool C.ever, .int .i64 C.target, .int .i64 C.limit, lv, .int .i64 4, pv]
/-- At c lies the control C; lv and pv are its two lists; S1 and S2 name what these lie in. -/
structure CtlAt (H : AHeap) (c : Nat) (C : Ctl) (lv pv : Value) (S1 S2 : List Nat) : Prop where
  at_ : H[c]? = some (.cells (ctlC C lv pv) ⟨70, 0, true, 0, none⟩)
  last : OwnL H 3 1 C.last.length (intsC C.last) lv S1
  past : OwnL H 89 2 C.past.length (pastC C.past) pv S2
  n1 : c ∉ S1
  n2 : c ∉ S2
  n3 : ∀ s ∈ S1, s ∉ S2
theorem CtlAt.frm {T : List Nat} {H H2 : AHeap} {c : Nat} {C : Ctl} {lv pv : Value} {S1 S2 : List Nat} (h : CtlAt H c C lv pv S1 S2) (hf : Frm T H H2) (hc : c ∉ T) (h1 : ∀ s ∈ S1, s ∉ T) (h2 : ∀ s ∈ S2, s ∉ T) : CtlAt H2 c C lv pv S1 S2 :=
  ⟨hf.get h.at_ hc, h.last.frm hf h1, h.past.frm hf h2, h.n1, h.n2, h.n3⟩
theorem CtlAt.more {H : AHeap} {c : Nat} {C : Ctl} {lv pv : Value} {S1 S2 : List Nat} (h : CtlAt H c C lv pv S1 S2) (X : AHeap) : CtlAt (H ++ X) c C lv pv S1 S2 :=
  h.frm (T := []) Frm.app (by simp) (by simp) (by simp)
/-- The least of delays on the circle, a later one only if it is less. -/
def leastL : List Int → Int
  | [] => 0
  | a :: r => r.foldl (fun out x => if lessD x out then x else out) a
theorem leastL_snoc (l : List Int) (x : Int) : leastL (l ++ [x]) = if l = [] then x else if lessD x (leastL l) then x else leastL l := by
  cases l with
  | nil => rfl
  | cons a r =>
    rw [if_neg (by simp)]
    show List.foldl _ a (r ++ [x]) = _
    rw [List.foldl_append]; rfl
theorem delays (i : Nat) (H : AHeap) : ARet Try.prog 66 [.pointer (some ⟨i, 0, none⟩)] H (.func (.func 69) ⟨[]⟩ ⟨[.pointer (some ⟨H.length, 0, none⟩)]⟩) (H ++ [.cells [.pointer (some ⟨i, 0, none⟩)] ⟨41, 0, true, 0, none⟩]) := by
  refine AC.enter Try.func66 rfl (by kernel_rfl) 4 rfl [.tmp 2] rfl (by simp) fun hsc B => ?_
  repeat first
    | with_reducible refine AWP.seq ?_
    | ((with_reducible refine AWP.region ?_ ?_); exact rfl)
    | with_reducible refine AWP.block ?_
    | with_reducible refine AWP.skip ?_
    | with_reducible refine AWP.exit ?_
    | with_reducible refine AWP.ret ?_
    | with_reducible refine AWP.label ?_
    | with_reducible refine AWP.goto ?_
    | ((with_reducible refine AWP.condT ?_ ?_); focus (simp only [ev, lk_cons, ↓reduceIte, Nat.reduceEqDiff]; done))
    | ((with_reducible refine AWP.condF ?_ ?_); focus (simp only [ev, lk_cons, ↓reduceIte, Nat.reduceEqDiff]; done))
    | simp only [go_sem, ↓reduceIte, Nat.reduceEqDiff, reduceCtorEq, Nat.reduceAdd, Int.reduceEq, Int.reduceBNe, Int.reduceBEq, Int.reduceToNat, Int.reduceLT, Int.reduceLE, Int.reduceGT, Int.reduceGE, Nat.reduceSub, Nat.reduceBEq, Nat.reduceBNe, Int.reduceAdd, Int.reduceSub, Int.reduceMul, Int.reduceNeg, Nat.reduceMul, Nat.reduceLeDiff, Nat.reduceLT]
    | simp (disch := omega) only [wi64, wu8, wu16, wu32, wu64, Int.tdiv_eq_ediv_of_nonneg, Int.tmod_eq_emod_of_nonneg]
    | with_reducible_and_instances exact finR
    | ((with_reducible refine finR' ?_ ?_) <;> rfl)
    | ((with_reducible refine finD hsc (NRel.of_plain ?_)); exact rfl)
theorem bases (i : Nat) (H : AHeap) : ARet Try.prog 67 [.pointer (some ⟨i, 0, none⟩)] H (.func (.func 70) ⟨[]⟩ ⟨[.pointer (some ⟨H.length, 0, none⟩)]⟩) (H ++ [.cells [.pointer (some ⟨i, 0, none⟩)] ⟨41, 0, true, 0, none⟩]) := by
  refine AC.enter Try.func67 rfl (by kernel_rfl) 4 rfl [.tmp 2] rfl (by simp) fun hsc B => ?_
  repeat first
    | with_reducible refine AWP.seq ?_
    | ((with_reducible refine AWP.region ?_ ?_); exact rfl)
    | with_reducible refine AWP.block ?_
    | with_reducible refine AWP.skip ?_
    | with_reducible refine AWP.exit ?_
    | with_reducible refine AWP.ret ?_
    | with_reducible refine AWP.label ?_
    | with_reducible refine AWP.goto ?_
    | ((with_reducible refine AWP.condT ?_ ?_); focus (simp only [ev, lk_cons, ↓reduceIte, Nat.reduceEqDiff]; done))
    | ((with_reducible refine AWP.condF ?_ ?_); focus (simp only [ev, lk_cons, ↓reduceIte, Nat.reduceEqDiff]; done))
    | simp only [go_sem, ↓reduceIte, Nat.reduceEqDiff, reduceCtorEq, Nat.reduceAdd, Int.reduceEq, Int.reduceBNe, Int.reduceBEq, Int.reduceToNat, Int.reduceLT, Int.reduceLE, Int.reduceGT, Int.reduceGE, Nat.reduceSub, Nat.reduceBEq, Nat.reduceBNe, Int.reduceAdd, Int.reduceSub, Int.reduceMul, Int.reduceNeg, Nat.reduceMul, Nat.reduceLeDiff, Nat.reduceLT]
    | simp (disch := omega) only [wi64, wu8, wu16, wu32, wu64, Int.tdiv_eq_ediv_of_nonneg, Int.tmod_eq_emod_of_nonneg]
    | with_reducible_and_instances exact finR
    | ((with_reducible refine finR' ?_ ?_) <;> rfl)
    | ((with_reducible refine finD hsc (NRel.of_plain ?_)); exact rfl)
theorem delays1 (c j : Nat) (C : Ctl) (lv pv : Value) (S1 S2 : List Nat) (hl : C.last.length < 1099511627776) : SeqG Try.prog 69 [.pointer (some ⟨j, 0, none⟩)] (C.last.map fun x => [.int .i64 x])
    (fun H => H[j]? = some (.cells [.pointer (some ⟨c, 0, none⟩)] ⟨41, 0, true, 0, none⟩) ∧ CtlAt H c C lv pv S1 S2) := by
  refine ⟨⟨_, Try.func69, by kernel_rfl, by kernel_rfl⟩, fun i H I D h0 hok hx hy => ?_⟩
  obtain ⟨hj0, hC0⟩ := hok 0 H h0
  have hc0 := hC0.at_
  simp only [ctlC] at hc0
  have q1 : ∀ H' K, lenW Try.prog 28 lv H' K = K (.int .i64 (C.last.length : Nat)) H' := fun H' K => by rw [hC0.last.rd.lenW Try.underlying28, intsC_length]
  refine AC.enter Try.func69 rfl (by kernel_rfl) 20 rfl [] rfl (by simp) fun hsc B => ?_
  repeat first
    | with_reducible refine AWP.seq ?_
    | ((with_reducible refine AWP.region ?_ ?_); exact rfl)
    | with_reducible refine AWP.block ?_
    | with_reducible refine AWP.skip ?_
    | with_reducible refine AWP.exit ?_
    | with_reducible refine AWP.ret ?_
    | with_reducible refine AWP.label ?_
    | with_reducible refine AWP.goto ?_
    | ((with_reducible refine AWP.condT ?_ ?_); focus (simp only [ev, lk_cons, ↓reduceIte, Nat.reduceEqDiff]; done))
    | ((with_reducible refine AWP.condF ?_ ?_); focus (simp only [ev, lk_cons, ↓reduceIte, Nat.reduceEqDiff]; done))
    | simp only [go_sem, ↓reduceIte, Nat.reduceEqDiff, reduceCtorEq, Nat.reduceAdd, Int.reduceEq, Int.reduceBNe, Int.reduceBEq, Int.reduceToNat, Int.reduceLT, Int.reduceLE, Int.reduceGT, Int.reduceGE, Nat.reduceSub, Nat.reduceBEq, Nat.reduceBNe, Int.reduceAdd, Int.reduceSub, Int.reduceMul, Int.reduceNeg, Nat.reduceMul, Nat.reduceLeDiff, Nat.reduceLT, hj0, hc0, q1]
    | simp (disch := omega) only [wi64, wu8, wu16, wu32, wu64, Int.tdiv_eq_ediv_of_nonneg, Int.tmod_eq_emod_of_nonneg]
    | with_reducible_and_instances exact finR
    | ((with_reducible refine finR' ?_ ?_) <;> rfl)
    | ((with_reducible refine finD hsc (NRel.of_plain ?_)); exact rfl)
  refine AWP.loopP (fun s2 : Nat × AHeap => ⟨[(0, .func (.yield i) ⟨[]⟩ ⟨[]⟩), (9, lv), (10, .int .i64 (C.last.length : Nat)), (11, .int .i64 (s2.1 : Nat))], [], s2.2⟩) (fun s2 => s2.1 ≤ C.last.length ∧ I s2.1 s2.2) (fun s2 => C.last.length - s2.1) (0, H) ?_ ⟨by simp, h0⟩ ?_
  · exact Weak.env (by simp [envIn, lk_cons, wth_some])
  rintro ⟨n, H1⟩ ⟨hn, hn1⟩
  simp only at hn hn1
  by_cases hc : n < C.last.length
  · have hc' : (n : Int) < (C.last.length : Int) := by omega
    obtain ⟨hj, hC⟩ := hok n H1 hn1
    have hyy := hy n [.int .i64 C.last[n]] H1 (by simp [hc]) hn1
    have hlast := hC.last
    rcases hlast with ⟨h1, _⟩ | ⟨i2, o, cs, rfl, hi2, hcl, hd, rfl⟩
    · omega
    have hg : cs[o + n]? = some (.int .i64 C.last[n]) := by
      rw [← List.getElem?_drop, hd, intsC_get _ hc]
    repeat first
      | with_reducible refine AWP.seq ?_
      | ((with_reducible refine AWP.region ?_ ?_); exact rfl)
      | with_reducible refine AWP.block ?_
      | with_reducible refine AWP.skip ?_
      | with_reducible refine AWP.exit ?_
      | with_reducible refine AWP.ret ?_
      | with_reducible refine AWP.label ?_
      | with_reducible refine AWP.goto ?_
      | ((with_reducible refine AWP.condT ?_ ?_); focus (simp only [ev, lk_cons, ↓reduceIte, Nat.reduceEqDiff]; done))
      | ((with_reducible refine AWP.condF ?_ ?_); focus (simp only [ev, lk_cons, ↓reduceIte, Nat.reduceEqDiff]; done))
      | simp only [go_sem, ↓reduceIte, Nat.reduceEqDiff, reduceCtorEq, Nat.reduceAdd, Int.reduceEq, Int.reduceBNe, Int.reduceBEq, Int.reduceToNat, Int.reduceLT, Int.reduceLE, Int.reduceGT, Int.reduceGE, Nat.reduceSub, Nat.reduceBEq, Nat.reduceBNe, Int.reduceAdd, Int.reduceSub, Int.reduceMul, Int.reduceNeg, Nat.reduceMul, Nat.reduceLeDiff, Nat.reduceLT, hc', hi2, hg]
      | simp (disch := omega) only [wi64, wu8, wu16, wu32, wu64, Int.tdiv_eq_ediv_of_nonneg, Int.tmod_eq_emod_of_nonneg]
      | with_reducible_and_instances exact finR
      | ((with_reducible refine finR' ?_ ?_) <;> rfl)
      | ((with_reducible refine finD hsc (NRel.of_plain ?_)); exact rfl)
    refine AY.mono hyy ?_
    rintro v H2 ⟨b, rfl, hb1, hb2⟩
    cases b with
    | true =>
      repeat first
        | with_reducible refine AWP.seq ?_
        | ((with_reducible refine AWP.region ?_ ?_); exact rfl)
        | with_reducible refine AWP.block ?_
        | with_reducible refine AWP.skip ?_
        | with_reducible refine AWP.exit ?_
        | with_reducible refine AWP.ret ?_
        | with_reducible refine AWP.label ?_
        | with_reducible refine AWP.goto ?_
        | ((with_reducible refine AWP.condT ?_ ?_); focus (simp only [ev, lk_cons, ↓reduceIte, Nat.reduceEqDiff]; done))
        | ((with_reducible refine AWP.condF ?_ ?_); focus (simp only [ev, lk_cons, ↓reduceIte, Nat.reduceEqDiff]; done))
        | simp only [go_sem, ↓reduceIte, Nat.reduceEqDiff, reduceCtorEq, Nat.reduceAdd, Int.reduceEq, Int.reduceBNe, Int.reduceBEq, Int.reduceToNat, Int.reduceLT, Int.reduceLE, Int.reduceGT, Int.reduceGE, Nat.reduceSub, Nat.reduceBEq, Nat.reduceBNe, Int.reduceAdd, Int.reduceSub, Int.reduceMul, Int.reduceNeg, Nat.reduceMul, Nat.reduceLeDiff, Nat.reduceLT]
        | simp (disch := omega) only [wi64, wu8, wu16, wu32, wu64, Int.tdiv_eq_ediv_of_nonneg, Int.tmod_eq_emod_of_nonneg]
        | with_reducible_and_instances exact finR
        | ((with_reducible refine finR' ?_ ?_) <;> rfl)
        | ((with_reducible refine finD hsc (NRel.of_plain ?_)); exact rfl)
      exact ⟨(n + 1, H2), Weak.env (by simp [envIn, lk_cons, wth_some]), by omega, hb1 rfl, by simp; omega⟩
    | false =>
      repeat first
        | with_reducible refine AWP.seq ?_
        | ((with_reducible refine AWP.region ?_ ?_); exact rfl)
        | with_reducible refine AWP.block ?_
        | with_reducible refine AWP.skip ?_
        | with_reducible refine AWP.exit ?_
        | with_reducible refine AWP.ret ?_
        | with_reducible refine AWP.label ?_
        | with_reducible refine AWP.goto ?_
        | ((with_reducible refine AWP.condT ?_ ?_); focus (simp only [ev, lk_cons, ↓reduceIte, Nat.reduceEqDiff]; done))
        | ((with_reducible refine AWP.condF ?_ ?_); focus (simp only [ev, lk_cons, ↓reduceIte, Nat.reduceEqDiff]; done))
        | simp only [go_sem, ↓reduceIte, Nat.reduceEqDiff, reduceCtorEq, Nat.reduceAdd, Int.reduceEq, Int.reduceBNe, Int.reduceBEq, Int.reduceToNat, Int.reduceLT, Int.reduceLE, Int.reduceGT, Int.reduceGE, Nat.reduceSub, Nat.reduceBEq, Nat.reduceBNe, Int.reduceAdd, Int.reduceSub, Int.reduceMul, Int.reduceNeg, Nat.reduceMul, Nat.reduceLeDiff, Nat.reduceLT]
        | simp (disch := omega) only [wi64, wu8, wu16, wu32, wu64, Int.tdiv_eq_ediv_of_nonneg, Int.tmod_eq_emod_of_nonneg]
        | with_reducible_and_instances exact finR
        | ((with_reducible refine finR' ?_ ?_) <;> rfl)
        | ((with_reducible refine finD hsc (NRel.of_plain ?_)); exact rfl)
      exact ⟨_, _, .refl _ _ _, rfl, .inr (hb2 rfl)⟩
  · have : n = C.last.length := by omega
    subst this
    have hc' : ¬ (C.last.length : Int) < (C.last.length : Int) := by omega
    repeat first
      | with_reducible refine AWP.seq ?_
      | ((with_reducible refine AWP.region ?_ ?_); exact rfl)
      | with_reducible refine AWP.block ?_
      | with_reducible refine AWP.skip ?_
      | with_reducible refine AWP.exit ?_
      | with_reducible refine AWP.ret ?_
      | with_reducible refine AWP.label ?_
      | with_reducible refine AWP.goto ?_
      | ((with_reducible refine AWP.condT ?_ ?_); focus (simp only [ev, lk_cons, ↓reduceIte, Nat.reduceEqDiff]; done))
      | ((with_reducible refine AWP.condF ?_ ?_); focus (simp only [ev, lk_cons, ↓reduceIte, Nat.reduceEqDiff]; done))
      | simp only [go_sem, ↓reduceIte, Nat.reduceEqDiff, reduceCtorEq, Nat.reduceAdd, Int.reduceEq, Int.reduceBNe, Int.reduceBEq, Int.reduceToNat, Int.reduceLT, Int.reduceLE, Int.reduceGT, Int.reduceGE, Nat.reduceSub, Nat.reduceBEq, Nat.reduceBNe, Int.reduceAdd, Int.reduceSub, Int.reduceMul, Int.reduceNeg, Nat.reduceMul, Nat.reduceLeDiff, Nat.reduceLT, hc']
      | simp (disch := omega) only [wi64, wu8, wu16, wu32, wu64, Int.tdiv_eq_ediv_of_nonneg, Int.tmod_eq_emod_of_nonneg]
      | with_reducible_and_instances exact finR
      | ((with_reducible refine finR' ?_ ?_) <;> rfl)
      | ((with_reducible refine finD hsc (NRel.of_plain ?_)); exact rfl)
    exact ⟨_, _, .refl _ _ _, rfl, .inl (by rw [List.length_map]; exact hn1)⟩
theorem bases1 (c j : Nat) (C : Ctl) (lv pv : Value) (S1 S2 : List Nat) (hl : C.past.length < 1099511627776) : SeqG Try.prog 70 [.pointer (some ⟨j, 0, none⟩)] ((C.past.map (·.2)).map fun x => [.int .i64 x])
    (fun H => H[j]? = some (.cells [.pointer (some ⟨c, 0, none⟩)] ⟨41, 0, true, 0, none⟩) ∧ CtlAt H c C lv pv S1 S2) := by
  refine ⟨⟨_, Try.func70, by kernel_rfl, by kernel_rfl⟩, fun i H I D h0 hok hx hy => ?_⟩
  obtain ⟨hj0, hC0⟩ := hok 0 H h0
  have hc0 := hC0.at_
  simp only [ctlC] at hc0
  have q1 : ∀ H' K, lenW Try.prog 68 pv H' K = K (.int .i64 (C.past.length : Nat)) H' := fun H' K => by
    rcases hC0.past with ⟨h1, _, h3, _⟩ | ⟨i2, o, cs, h1, _⟩
    · rw [h1, h3]; simp only [go_sem, ↓reduceIte, Nat.reduceEqDiff, reduceCtorEq, Nat.reduceAdd, Int.reduceEq, Int.reduceBNe, Int.reduceBEq, Int.reduceToNat, Int.reduceLT, Int.reduceLE, Int.reduceGT, Int.reduceGE, Nat.reduceSub, Nat.reduceBEq, Nat.reduceBNe, Int.reduceAdd, Int.reduceSub, Int.reduceMul, Int.reduceNeg, Nat.reduceMul, Nat.reduceLeDiff, Nat.reduceLT]
    · rw [h1]; simp only [go_sem, ↓reduceIte, Nat.reduceEqDiff, reduceCtorEq, Nat.reduceAdd, Int.reduceEq, Int.reduceBNe, Int.reduceBEq, Int.reduceToNat, Int.reduceLT, Int.reduceLE, Int.reduceGT, Int.reduceGE, Nat.reduceSub, Nat.reduceBEq, Nat.reduceBNe, Int.reduceAdd, Int.reduceSub, Int.reduceMul, Int.reduceNeg, Nat.reduceMul, Nat.reduceLeDiff, Nat.reduceLT]
  refine AC.enter Try.func70 rfl (by kernel_rfl) 20 rfl [] rfl (by simp) fun hsc B => ?_
  repeat first
    | with_reducible refine AWP.seq ?_
    | ((with_reducible refine AWP.region ?_ ?_); exact rfl)
    | with_reducible refine AWP.block ?_
    | with_reducible refine AWP.skip ?_
    | with_reducible refine AWP.exit ?_
    | with_reducible refine AWP.ret ?_
    | with_reducible refine AWP.label ?_
    | with_reducible refine AWP.goto ?_
    | ((with_reducible refine AWP.condT ?_ ?_); focus (simp only [ev, lk_cons, ↓reduceIte, Nat.reduceEqDiff]; done))
    | ((with_reducible refine AWP.condF ?_ ?_); focus (simp only [ev, lk_cons, ↓reduceIte, Nat.reduceEqDiff]; done))
    | simp only [go_sem, ↓reduceIte, Nat.reduceEqDiff, reduceCtorEq, Nat.reduceAdd, Int.reduceEq, Int.reduceBNe, Int.reduceBEq, Int.reduceToNat, Int.reduceLT, Int.reduceLE, Int.reduceGT, Int.reduceGE, Nat.reduceSub, Nat.reduceBEq, Nat.reduceBNe, Int.reduceAdd, Int.reduceSub, Int.reduceMul, Int.reduceNeg, Nat.reduceMul, Nat.reduceLeDiff, Nat.reduceLT, hj0, hc0, q1]
    | simp (disch := omega) only [wi64, wu8, wu16, wu32, wu64, Int.tdiv_eq_ediv_of_nonneg, Int.tmod_eq_emod_of_nonneg]
    | with_reducible_and_instances exact finR
    | ((with_reducible refine finR' ?_ ?_) <;> rfl)
    | ((with_reducible refine finD hsc (NRel.of_plain ?_)); exact rfl)
  refine AWP.loopP (fun s2 : Nat × AHeap => ⟨[(0, .func (.yield i) ⟨[]⟩ ⟨[]⟩), (8, pv), (9, .int .i64 (C.past.length : Nat)), (10, .int .i64 (s2.1 : Nat))], [], s2.2⟩) (fun s2 => s2.1 ≤ C.past.length ∧ I s2.1 s2.2) (fun s2 => C.past.length - s2.1) (0, H) ?_ ⟨by simp, h0⟩ ?_
  · exact Weak.env (by simp [envIn, lk_cons, wth_some])
  rintro ⟨n, H1⟩ ⟨hn, hn1⟩
  simp only at hn hn1
  by_cases hc : n < C.past.length
  · have hc' : (n : Int) < (C.past.length : Int) := by omega
    obtain ⟨hj, hC⟩ := hok n H1 hn1
    have hpast := hC.past
    rcases hpast with ⟨h1, _⟩ | ⟨i2, o, cs, rfl, hi2, hcl, hd, rfl⟩
    · omega
    have hil := lt_of_get hi2
    have hg := pastC_get C.past hc
    have ht : (cs.drop (o + n * 2)).take 2 = [.int .i64 C.past[n].1, .int .i64 C.past[n].2] := by
      rw [← List.drop_drop, hd]
      have h3 : n * 2 + 1 < (pastC C.past).length := by rw [pastC_length]; omega
      have e1 := hg.1
      have e2 := hg.2
      rw [List.getElem?_eq_getElem (by omega)] at e1 e2
      rw [List.drop_eq_getElem_cons (by omega), List.drop_eq_getElem_cons h3]
      simp only [Option.some.injEq] at e1 e2
      rw [e1, e2]; rfl
    have hle : o + (n * 2 + 2) ≤ cs.length := by omega
    have hyy := hy n [.int .i64 C.past[n].2] (H1 ++ [.cells [.int .i64 C.past[n].1, .int .i64 C.past[n].2] ⟨89, 0, true, 0, none⟩]) (by simp [hc]) (hx _ _ _ hn1)
    repeat first
      | with_reducible refine AWP.seq ?_
      | ((with_reducible refine AWP.region ?_ ?_); exact rfl)
      | with_reducible refine AWP.block ?_
      | with_reducible refine AWP.skip ?_
      | with_reducible refine AWP.exit ?_
      | with_reducible refine AWP.ret ?_
      | with_reducible refine AWP.label ?_
      | with_reducible refine AWP.goto ?_
      | ((with_reducible refine AWP.condT ?_ ?_); focus (simp only [ev, lk_cons, ↓reduceIte, Nat.reduceEqDiff]; done))
      | ((with_reducible refine AWP.condF ?_ ?_); focus (simp only [ev, lk_cons, ↓reduceIte, Nat.reduceEqDiff]; done))
      | simp only [go_sem, ↓reduceIte, Nat.reduceEqDiff, reduceCtorEq, Nat.reduceAdd, Int.reduceEq, Int.reduceBNe, Int.reduceBEq, Int.reduceToNat, Int.reduceLT, Int.reduceLE, Int.reduceGT, Int.reduceGE, Nat.reduceSub, Nat.reduceBEq, Nat.reduceBNe, Int.reduceAdd, Int.reduceSub, Int.reduceMul, Int.reduceNeg, Nat.reduceMul, Nat.reduceLeDiff, Nat.reduceLT, hc', hi2, hil, hgetl, ht, hle]
      | simp (disch := omega) only [wi64, wu8, wu16, wu32, wu64, Int.tdiv_eq_ediv_of_nonneg, Int.tmod_eq_emod_of_nonneg]
      | with_reducible_and_instances exact finR
      | ((with_reducible refine finR' ?_ ?_) <;> rfl)
      | ((with_reducible refine finD hsc (NRel.of_plain ?_)); exact rfl)
    refine AY.mono hyy ?_
    rintro v H2 ⟨b, rfl, hb1, hb2⟩
    cases b with
    | true =>
      repeat first
        | with_reducible refine AWP.seq ?_
        | ((with_reducible refine AWP.region ?_ ?_); exact rfl)
        | with_reducible refine AWP.block ?_
        | with_reducible refine AWP.skip ?_
        | with_reducible refine AWP.exit ?_
        | with_reducible refine AWP.ret ?_
        | with_reducible refine AWP.label ?_
        | with_reducible refine AWP.goto ?_
        | ((with_reducible refine AWP.condT ?_ ?_); focus (simp only [ev, lk_cons, ↓reduceIte, Nat.reduceEqDiff]; done))
        | ((with_reducible refine AWP.condF ?_ ?_); focus (simp only [ev, lk_cons, ↓reduceIte, Nat.reduceEqDiff]; done))
        | simp only [go_sem, ↓reduceIte, Nat.reduceEqDiff, reduceCtorEq, Nat.reduceAdd, Int.reduceEq, Int.reduceBNe, Int.reduceBEq, Int.reduceToNat, Int.reduceLT, Int.reduceLE, Int.reduceGT, Int.reduceGE, Nat.reduceSub, Nat.reduceBEq, Nat.reduceBNe, Int.reduceAdd, Int.reduceSub, Int.reduceMul, Int.reduceNeg, Nat.reduceMul, Nat.reduceLeDiff, Nat.reduceLT]
        | simp (disch := omega) only [wi64, wu8, wu16, wu32, wu64, Int.tdiv_eq_ediv_of_nonneg, Int.tmod_eq_emod_of_nonneg]
        | with_reducible_and_instances exact finR
        | ((with_reducible refine finR' ?_ ?_) <;> rfl)
        | ((with_reducible refine finD hsc (NRel.of_plain ?_)); exact rfl)
      exact ⟨(n + 1, H2), Weak.env (by simp [envIn, lk_cons, wth_some]), by omega, hb1 rfl, by simp; omega⟩
    | false =>
      repeat first
        | with_reducible refine AWP.seq ?_
        | ((with_reducible refine AWP.region ?_ ?_); exact rfl)
        | with_reducible refine AWP.block ?_
        | with_reducible refine AWP.skip ?_
        | with_reducible refine AWP.exit ?_
        | with_reducible refine AWP.ret ?_
        | with_reducible refine AWP.label ?_
        | with_reducible refine AWP.goto ?_
        | ((with_reducible refine AWP.condT ?_ ?_); focus (simp only [ev, lk_cons, ↓reduceIte, Nat.reduceEqDiff]; done))
        | ((with_reducible refine AWP.condF ?_ ?_); focus (simp only [ev, lk_cons, ↓reduceIte, Nat.reduceEqDiff]; done))
        | simp only [go_sem, ↓reduceIte, Nat.reduceEqDiff, reduceCtorEq, Nat.reduceAdd, Int.reduceEq, Int.reduceBNe, Int.reduceBEq, Int.reduceToNat, Int.reduceLT, Int.reduceLE, Int.reduceGT, Int.reduceGE, Nat.reduceSub, Nat.reduceBEq, Nat.reduceBNe, Int.reduceAdd, Int.reduceSub, Int.reduceMul, Int.reduceNeg, Nat.reduceMul, Nat.reduceLeDiff, Nat.reduceLT]
        | simp (disch := omega) only [wi64, wu8, wu16, wu32, wu64, Int.tdiv_eq_ediv_of_nonneg, Int.tmod_eq_emod_of_nonneg]
        | with_reducible_and_instances exact finR
        | ((with_reducible refine finR' ?_ ?_) <;> rfl)
        | ((with_reducible refine finD hsc (NRel.of_plain ?_)); exact rfl)
      exact ⟨_, _, .refl _ _ _, rfl, .inr (hb2 rfl)⟩
  · have : n = C.past.length := by omega
    subst this
    have hc' : ¬ (C.past.length : Int) < (C.past.length : Int) := by omega
    repeat first
      | with_reducible refine AWP.seq ?_
      | ((with_reducible refine AWP.region ?_ ?_); exact rfl)
      | with_reducible refine AWP.block ?_
      | with_reducible refine AWP.skip ?_
      | with_reducible refine AWP.exit ?_
      | with_reducible refine AWP.ret ?_
      | with_reducible refine AWP.label ?_
      | with_reducible refine AWP.goto ?_
      | ((with_reducible refine AWP.condT ?_ ?_); focus (simp only [ev, lk_cons, ↓reduceIte, Nat.reduceEqDiff]; done))
      | ((with_reducible refine AWP.condF ?_ ?_); focus (simp only [ev, lk_cons, ↓reduceIte, Nat.reduceEqDiff]; done))
      | simp only [go_sem, ↓reduceIte, Nat.reduceEqDiff, reduceCtorEq, Nat.reduceAdd, Int.reduceEq, Int.reduceBNe, Int.reduceBEq, Int.reduceToNat, Int.reduceLT, Int.reduceLE, Int.reduceGT, Int.reduceGE, Nat.reduceSub, Nat.reduceBEq, Nat.reduceBNe, Int.reduceAdd, Int.reduceSub, Int.reduceMul, Int.reduceNeg, Nat.reduceMul, Nat.reduceLeDiff, Nat.reduceLT, hc']
      | simp (disch := omega) only [wi64, wu8, wu16, wu32, wu64, Int.tdiv_eq_ediv_of_nonneg, Int.tmod_eq_emod_of_nonneg]
      | with_reducible_and_instances exact finR
      | ((with_reducible refine finR' ?_ ?_) <;> rfl)
      | ((with_reducible refine finD hsc (NRel.of_plain ?_)); exact rfl)
    exact ⟨_, _, .refl _ _ _, rfl, .inl (by rw [List.length_map, List.length_map]; exact hn1)⟩
theorem leastOf (f : FuncId) (cap : List Value) (l : List Int) (Hok : AHeap → Prop) (H : AHeap) (hs : SeqG Try.prog f cap (l.map fun x => [.int .i64 x]) Hok) (hok : ∀ X, Hok (H ++ X)) :
    ARet Try.prog 65 [.func (.func f) ⟨[]⟩ ⟨cap⟩, .func (.func 40) ⟨[]⟩ ⟨[]⟩] H (.int .i64 (leastL l)) H := by
  refine AC.enter Try.func65 rfl (by kernel_rfl) 19 rfl [.tmp 4] rfl (by simp) fun hsc B => ?_
  repeat first
    | with_reducible refine AWP.seq ?_
    | ((with_reducible refine AWP.region ?_ ?_); exact rfl)
    | with_reducible refine AWP.block ?_
    | with_reducible refine AWP.skip ?_
    | with_reducible refine AWP.exit ?_
    | with_reducible refine AWP.ret ?_
    | with_reducible refine AWP.label ?_
    | with_reducible refine AWP.goto ?_
    | ((with_reducible refine AWP.condT ?_ ?_); focus (simp only [ev, lk_cons, ↓reduceIte, Nat.reduceEqDiff]; done))
    | ((with_reducible refine AWP.condF ?_ ?_); focus (simp only [ev, lk_cons, ↓reduceIte, Nat.reduceEqDiff]; done))
    | simp only [go_sem, ↓reduceIte, Nat.reduceEqDiff, reduceCtorEq, Nat.reduceAdd, Int.reduceEq, Int.reduceBNe, Int.reduceBEq, Int.reduceToNat, Int.reduceLT, Int.reduceLE, Int.reduceGT, Int.reduceGE, Nat.reduceSub, Nat.reduceBEq, Nat.reduceBNe, Int.reduceAdd, Int.reduceSub, Int.reduceMul, Int.reduceNeg, Nat.reduceMul, Nat.reduceLeDiff, Nat.reduceLT]
    | simp (disch := omega) only [wi64, wu8, wu16, wu32, wu64, Int.tdiv_eq_ediv_of_nonneg, Int.tmod_eq_emod_of_nonneg]
    | with_reducible_and_instances exact finR
    | ((with_reducible refine finR' ?_ ?_) <;> rfl)
    | ((with_reducible refine finD hsc (NRel.of_plain ?_)); exact rfl)
  refine AWP.rangeS hs rfl (by simp) (by simp only [go_sem, ↓reduceIte, Nat.reduceEqDiff, reduceCtorEq, Nat.reduceAdd, Int.reduceEq, Int.reduceBNe, Int.reduceBEq, Int.reduceToNat, Int.reduceLT, Int.reduceLE, Int.reduceGT, Int.reduceGE, Nat.reduceSub, Nat.reduceBEq, Nat.reduceBNe, Int.reduceAdd, Int.reduceSub, Int.reduceMul, Int.reduceNeg, Nat.reduceMul, Nat.reduceLeDiff, Nat.reduceLT]) fun L hL =>
    ⟨fun n H1 => ∃ R, n ≤ l.length ∧ H1 = H ++ (.cells [.func (.func 40) ⟨[]⟩ ⟨[]⟩] ⟨26, 0, true, 0, none⟩ :: .cells [.int .i64 (leastL (l.take n))] ⟨3, 0, true, 0, none⟩ :: .cells [.bool (decide (n = 0))] ⟨4, 0, true, 0, none⟩ :: .loop L :: R), fun _ => False,
    ⟨[], Nat.zero_le _, by simp only [List.append_assoc, List.cons_append, List.nil_append]; rfl⟩, fun n H1 ⟨R, h1, h2⟩ => h2 ▸ hok _, fun n H1 X ⟨R, h1, h2⟩ => ⟨R ++ X, h1, by rw [h2]; simp⟩, ?_, ?_⟩
  · rintro n args H1 ha ⟨R, hn, rfl⟩
    have hnl : n < l.length := by
      have := (List.getElem?_eq_some_iff.1 ha).1
      simpa using this
    have hargs : args = [.int .i64 l[n]] := by
      rw [List.getElem?_map, List.getElem?_eq_getElem hnl] at ha
      simpa using ha.symm
    subst hargs
    simp only [go_sem, ↓reduceIte, Nat.reduceEqDiff, reduceCtorEq, Nat.reduceAdd, Int.reduceEq, Int.reduceBNe, Int.reduceBEq, Int.reduceToNat, Int.reduceLT, Int.reduceLE, Int.reduceGT, Int.reduceGE, Nat.reduceSub, Nat.reduceBEq, Nat.reduceBNe, Int.reduceAdd, Int.reduceSub, Int.reduceMul, Int.reduceNeg, Nat.reduceMul, Nat.reduceLeDiff, Nat.reduceLT]
    refine AY.of (L := L) (by simp only [go_sem, ↓reduceIte, Nat.reduceEqDiff, reduceCtorEq, Nat.reduceAdd, Int.reduceEq, Int.reduceBNe, Int.reduceBEq, Int.reduceToNat, Int.reduceLT, Int.reduceLE, Int.reduceGT, Int.reduceGE, Nat.reduceSub, Nat.reduceBEq, Nat.reduceBNe, Int.reduceAdd, Int.reduceSub, Int.reduceMul, Int.reduceNeg, Nat.reduceMul, Nat.reduceLeDiff, Nat.reduceLT]) (by rw [hL]) (by rw [hL]; rfl) (by rw [hL]; simp) fun hsc2 lr B2 => ?_
    subst hL
    simp only [zipEnv]
    have hstep : leastL (l.take (n + 1)) = if l.take n = [] then l[n] else if lessD l[n] (leastL (l.take n)) then l[n] else leastL (l.take n) := by
      rw [List.take_add_one, List.getElem?_eq_getElem hnl]; exact leastL_snoc _ _
    rcases Nat.eq_zero_or_pos n with rfl | hpos
    · have h1 : leastL (l.take (0 + 1)) = l[0] := by rw [hstep]; rfl
      repeat first
        | with_reducible refine AWP.seq ?_
        | ((with_reducible refine AWP.region ?_ ?_); exact rfl)
        | with_reducible refine AWP.block ?_
        | with_reducible refine AWP.skip ?_
        | with_reducible refine AWP.exit ?_
        | with_reducible refine AWP.ret ?_
        | with_reducible refine AWP.label ?_
        | with_reducible refine AWP.goto ?_
        | ((with_reducible refine AWP.condT ?_ ?_); focus (simp only [ev, lk_cons, ↓reduceIte, Nat.reduceEqDiff]; done))
        | ((with_reducible refine AWP.condF ?_ ?_); focus (simp only [ev, lk_cons, ↓reduceIte, Nat.reduceEqDiff]; done))
        | simp only [go_sem, ↓reduceIte, Nat.reduceEqDiff, reduceCtorEq, Nat.reduceAdd, Int.reduceEq, Int.reduceBNe, Int.reduceBEq, Int.reduceToNat, Int.reduceLT, Int.reduceLE, Int.reduceGT, Int.reduceGE, Nat.reduceSub, Nat.reduceBEq, Nat.reduceBNe, Int.reduceAdd, Int.reduceSub, Int.reduceMul, Int.reduceNeg, Nat.reduceMul, Nat.reduceLeDiff, Nat.reduceLT]
        | simp (disch := omega) only [wi64, wu8, wu16, wu32, wu64, Int.tdiv_eq_ediv_of_nonneg, Int.tmod_eq_emod_of_nonneg]
        | with_reducible_and_instances exact finR
        | ((with_reducible refine finR' ?_ ?_) <;> rfl)
        | ((with_reducible refine finD hsc (NRel.of_plain ?_)); exact rfl)
      exact ⟨_, .refl _ _ _, true, rfl, fun _ => ⟨by omega, R, by rw [show leastL (l.take 1) = l[0] from h1]⟩, fun e => by cases e⟩
    · have hd : decide (n = 0) = false := decide_eq_false (by omega)
      have hne : l.take n ≠ [] := List.ne_nil_of_length_pos (by rw [List.length_take]; omega)
      rw [if_neg hne] at hstep
      by_cases hb : lessD l[n] (leastL (l.take n))
      · rw [if_pos hb] at hstep
        repeat first
          | with_reducible refine AWP.seq ?_
          | ((with_reducible refine AWP.region ?_ ?_); exact rfl)
          | with_reducible refine AWP.block ?_
          | with_reducible refine AWP.skip ?_
          | with_reducible refine AWP.exit ?_
          | with_reducible refine AWP.ret ?_
          | with_reducible refine AWP.label ?_
          | with_reducible refine AWP.goto ?_
          | ((with_reducible refine AWP.condT ?_ ?_); focus (simp only [ev, lk_cons, ↓reduceIte, Nat.reduceEqDiff]; done))
          | ((with_reducible refine AWP.condF ?_ ?_); focus (simp only [ev, lk_cons, ↓reduceIte, Nat.reduceEqDiff]; done))
          | with_reducible refine (less _ _ _).use ?_
          | simp only [go_sem, ↓reduceIte, Nat.reduceEqDiff, reduceCtorEq, Nat.reduceAdd, Int.reduceEq, Int.reduceBNe, Int.reduceBEq, Int.reduceToNat, Int.reduceLT, Int.reduceLE, Int.reduceGT, Int.reduceGE, Nat.reduceSub, Nat.reduceBEq, Nat.reduceBNe, Int.reduceAdd, Int.reduceSub, Int.reduceMul, Int.reduceNeg, Nat.reduceMul, Nat.reduceLeDiff, Nat.reduceLT, hd, hb]
          | simp (disch := omega) only [wi64, wu8, wu16, wu32, wu64, Int.tdiv_eq_ediv_of_nonneg, Int.tmod_eq_emod_of_nonneg]
          | with_reducible_and_instances exact finR
          | ((with_reducible refine finR' ?_ ?_) <;> rfl)
          | ((with_reducible refine finD hsc (NRel.of_plain ?_)); exact rfl)
        exact ⟨_, .refl _ _ _, true, rfl, fun _ => ⟨by omega, R, by rw [hstep]⟩, fun e => by cases e⟩
      · rw [if_neg hb] at hstep
        repeat first
          | with_reducible refine AWP.seq ?_
          | ((with_reducible refine AWP.region ?_ ?_); exact rfl)
          | with_reducible refine AWP.block ?_
          | with_reducible refine AWP.skip ?_
          | with_reducible refine AWP.exit ?_
          | with_reducible refine AWP.ret ?_
          | with_reducible refine AWP.label ?_
          | with_reducible refine AWP.goto ?_
          | ((with_reducible refine AWP.condT ?_ ?_); focus (simp only [ev, lk_cons, ↓reduceIte, Nat.reduceEqDiff]; done))
          | ((with_reducible refine AWP.condF ?_ ?_); focus (simp only [ev, lk_cons, ↓reduceIte, Nat.reduceEqDiff]; done))
          | with_reducible refine (less _ _ _).use ?_
          | simp only [go_sem, ↓reduceIte, Nat.reduceEqDiff, reduceCtorEq, Nat.reduceAdd, Int.reduceEq, Int.reduceBNe, Int.reduceBEq, Int.reduceToNat, Int.reduceLT, Int.reduceLE, Int.reduceGT, Int.reduceGE, Nat.reduceSub, Nat.reduceBEq, Nat.reduceBNe, Int.reduceAdd, Int.reduceSub, Int.reduceMul, Int.reduceNeg, Nat.reduceMul, Nat.reduceLeDiff, Nat.reduceLT, hd, hb]
          | simp (disch := omega) only [wi64, wu8, wu16, wu32, wu64, Int.tdiv_eq_ediv_of_nonneg, Int.tmod_eq_emod_of_nonneg]
          | with_reducible_and_instances exact finR
          | ((with_reducible refine finR' ?_ ?_) <;> rfl)
          | ((with_reducible refine finD hsc (NRel.of_plain ?_)); exact rfl)
        exact ⟨_, .refl _ _ _, true, rfl, fun _ => ⟨by omega, R, by rw [hstep]⟩, fun e => by cases e⟩
  · rintro H2 (⟨R, hn, rfl⟩ | h)
    · subst hL
      rw [List.length_map, List.take_length]
      repeat first
        | with_reducible refine AWP.seq ?_
        | ((with_reducible refine AWP.region ?_ ?_); exact rfl)
        | with_reducible refine AWP.block ?_
        | with_reducible refine AWP.skip ?_
        | with_reducible refine AWP.exit ?_
        | with_reducible refine AWP.ret ?_
        | with_reducible refine AWP.label ?_
        | with_reducible refine AWP.goto ?_
        | ((with_reducible refine AWP.condT ?_ ?_); focus (simp only [ev, lk_cons, ↓reduceIte, Nat.reduceEqDiff]; done))
        | ((with_reducible refine AWP.condF ?_ ?_); focus (simp only [ev, lk_cons, ↓reduceIte, Nat.reduceEqDiff]; done))
        | simp only [go_sem, ↓reduceIte, Nat.reduceEqDiff, reduceCtorEq, Nat.reduceAdd, Int.reduceEq, Int.reduceBNe, Int.reduceBEq, Int.reduceToNat, Int.reduceLT, Int.reduceLE, Int.reduceGT, Int.reduceGE, Nat.reduceSub, Nat.reduceBEq, Nat.reduceBNe, Int.reduceAdd, Int.reduceSub, Int.reduceMul, Int.reduceNeg, Nat.reduceMul, Nat.reduceLeDiff, Nat.reduceLT]
        | simp (disch := omega) only [wi64, wu8, wu16, wu32, wu64, Int.tdiv_eq_ediv_of_nonneg, Int.tmod_eq_emod_of_nonneg]
        | with_reducible_and_instances exact finR
        | ((with_reducible refine finR' ?_ ?_) <;> rfl)
        | ((with_reducible refine finD hsc (NRel.of_plain ?_)); exact rfl)
    · exact h.elim
end Go.Proofs.Ytoikchnpflnehaa
