/-
  The bases of the minutes that are kept: of the control, of that of the specification; their least ones.
-/
import Derived.Test.YtoikchnpflnehaaGQ
set_option linter.unusedVariables false
set_option linter.unusedSimpArgs false
set_option maxRecDepth 20000
set_option maxHeartbeats 4000000
namespace Go.Proofs.Ytoikchnpflnehaa
open Go Go.Aw Go.Proofs
/-- A list of numbers, made behind H. -/
def MadeL (H : AHeap) (l : List Int) (r : ARes) (H2 : AHeap) : Prop := ∃ v S, r = .ret v ∧ OwnL H2 3 1 l.length (intsC l) v S ∧ Frm [] H H2 ∧ ∀ s ∈ S, H.length ≤ s
theorem intsC_snoc (l : List Int) (x : Int) : intsC l ++ [.int .i64 x] = intsC (l ++ [x]) := by simp [intsC]
def baseL (C : Ctl) : Int := if C.past = [] then 0 else leastL (C.past.map (·.2))
theorem cBase (c : Nat) (C : Ctl) (lv pv : Value) (S1 S2 : List Nat) (hpl : C.past.length < 1099511627776) (H : AHeap) (hC : CtlAt H c C lv pv S1 S2) : ARet Try.prog 56 [.pointer (some ⟨c, 0, none⟩)] H (.tuple ⟨[.int .i64 (baseL C), .int .i64 (askE C)]⟩) H := by
  have ha := asked c C lv pv S1 S2 hpl H hC
  by_cases hp : C.past = []
  · have hE : askE C = 8 := if_pos hp
    have hQ : baseL C = 0 := if_pos hp
    rw [hE] at ha ⊢
    rw [hQ]
    refine AC.enter Try.func56 rfl (by kernel_rfl) 13 rfl [.tmp 2, .tmp 3] rfl (by simp) fun hsc B => ?_
    repeat first
      | with_reducible refine AWP.seq ?_
      | ((with_reducible refine AWP.region ?_ ?_); exact rfl)
      | with_reducible refine AWP.block ?_
      | with_reducible refine AWP.skip ?_
      | with_reducible refine AWP.exit ?_
      | with_reducible refine AWP.ret ?_
      | with_reducible refine AWP.label ?_
      | with_reducible refine AWP.goto ?_
      | ((with_reducible refine AWP.condT ?_ ?_); focus (simp only [ev, lk_cons, ↓reduceIte, Nat.reduceEqDiff]; done))
      | ((with_reducible refine AWP.condF ?_ ?_); focus (simp only [ev, lk_cons, ↓reduceIte, Nat.reduceEqDiff]; done))
      | with_reducible refine ha.use ?_
      | simp only [go_sem, ↓reduceIte, Nat.reduceEqDiff, reduceCtorEq, Nat.reduceAdd, Int.reduceEq, Int.reduceBNe, Int.reduceBEq, Int.reduceToNat, Int.reduceLT, Int.reduceLE, Int.reduceGT, Int.reduceGE, Nat.reduceSub, Nat.reduceBEq, Nat.reduceBNe, Int.reduceAdd, Int.reduceSub, Int.reduceMul, Int.reduceNeg, Nat.reduceMul, Nat.reduceLeDiff, Nat.reduceLT]
      | simp (disch := omega) only [wi64, wu8, wu16, wu32, wu64, Int.tdiv_eq_ediv_of_nonneg, Int.tmod_eq_emod_of_nonneg]
      | with_reducible_and_instances exact finR
      | ((with_reducible refine finR' ?_ ?_) <;> rfl)
      | ((with_reducible refine finD hsc (NRel.of_plain ?_)); exact rfl)
  · have hE : askE C = 0 := if_neg hp
    have hQ : baseL C = leastL (C.past.map (·.2)) := if_neg hp
    have hb := leastOf 70 [.pointer (some ⟨H.length, 0, none⟩)] (C.past.map (·.2)) _ (H ++ [.cells [.pointer (some ⟨c, 0, none⟩)] ⟨41, 0, true, 0, none⟩]) (bases1 c H.length C lv pv S1 S2 hpl) (fun Y => ⟨by simp only [go_sem, ↓reduceIte, Nat.reduceEqDiff, reduceCtorEq, Nat.reduceAdd, Int.reduceEq, Int.reduceBNe, Int.reduceBEq, Int.reduceToNat, Int.reduceLT, Int.reduceLE, Int.reduceGT, Int.reduceGE, Nat.reduceSub, Nat.reduceBEq, Nat.reduceBNe, Int.reduceAdd, Int.reduceSub, Int.reduceMul, Int.reduceNeg, Nat.reduceMul, Nat.reduceLeDiff, Nat.reduceLT], (hC.more _).more _⟩)
    rw [hE] at ha ⊢
    rw [hQ]
    refine AC.enter Try.func56 rfl (by kernel_rfl) 13 rfl [.tmp 2, .tmp 3] rfl (by simp) fun hsc B => ?_
    repeat first
      | with_reducible refine AWP.seq ?_
      | ((with_reducible refine AWP.region ?_ ?_); exact rfl)
      | with_reducible refine AWP.block ?_
      | with_reducible refine AWP.skip ?_
      | with_reducible refine AWP.exit ?_
      | with_reducible refine AWP.ret ?_
      | with_reducible refine AWP.label ?_
      | with_reducible refine AWP.goto ?_
      | ((with_reducible refine AWP.condT ?_ ?_); focus (simp only [ev, lk_cons, ↓reduceIte, Nat.reduceEqDiff]; done))
      | ((with_reducible refine AWP.condF ?_ ?_); focus (simp only [ev, lk_cons, ↓reduceIte, Nat.reduceEqDiff]; done))
      | with_reducible refine ha.use ?_
      | with_reducible refine (bases _ _).use ?_
      | with_reducible refine hb.use ?_
      | simp only [go_sem, ↓reduceIte, Nat.reduceEqDiff, reduceCtorEq, Nat.reduceAdd, Int.reduceEq, Int.reduceBNe, Int.reduceBEq, Int.reduceToNat, Int.reduceLT, Int.reduceLE, Int.reduceGT, Int.reduceGE, Nat.reduceSub, Nat.reduceBEq, Nat.reduceBNe, Int.reduceAdd, Int.reduceSub, Int.reduceMul, Int.reduceNeg, Nat.reduceMul, Nat.reduceLeDiff, Nat.reduceLT]
      | simp (disch := omega) only [wi64, wu8, wu16, wu32, wu64, Int.tdiv_eq_ediv_of_nonneg, Int.tmod_eq_emod_of_nonneg]
      | with_reducible_and_instances exact finR
      | ((with_reducible refine finR' ?_ ?_) <;> rfl)
      | ((with_reducible refine finD hsc (NRel.of_plain ?_)); exact rfl)
theorem ownL_grown {A R H' : AHeap} {S : List Nat} (hl : H'.length = (A ++ R).length) (hs : ∀ s ∈ S, A.length ≤ s) (h : ∀ j, j ∉ S → H'[j]? = (A ++ R)[j]?) : ∃ R', H' = A ++ R' :=
  frm_split (by rw [hl, List.length_append]; omega) fun j hj => by rw [h j fun hm => by have := hs j hm; omega, hgetl hj]
theorem frm_behind {A A' R X : AHeap} (hl : A.length = A'.length) : Frm (List.range A.length) (A ++ R) (A' ++ (R ++ X)) := by
  refine ⟨by simp; omega, fun j hj hn => ?_⟩
  have hj2 : A.length ≤ j := by
    rcases Nat.lt_or_ge j A.length with h | h
    · exact absurd (List.mem_range.2 h) hn
    · exact h
  rw [List.getElem?_append_right hj2, List.getElem?_append_right (by omega), hl]
  rw [List.length_append] at hj
  rw [List.getElem?_append_left (by omega)]
theorem ownL_behind3 {H R : AHeap} {a b c a' b' c' : AObj} {e size n : Nat} {l : List Value} {v : Value} {S : List Nat} (h : OwnL (H ++ (a :: b :: c :: R)) e size n l v S) (hs : ∀ s ∈ S, H.length + 3 ≤ s) (X : AHeap) : OwnL (H ++ (a' :: b' :: c' :: (R ++ X))) e size n l v S := by
  have e1 : H ++ (a :: b :: c :: R) = (H ++ [a, b, c]) ++ R := by simp
  have e2 : H ++ (a' :: b' :: c' :: (R ++ X)) = (H ++ [a', b', c']) ++ (R ++ X) := by simp
  rw [e1] at h
  rw [e2]
  exact h.frm (frm_behind (by simp)) fun s hm => by have := hs s hm; simp; omega
theorem grown3 {H R H' : AHeap} {a b c : AObj} {S : List Nat} (hl : H'.length = (H ++ (a :: b :: c :: R)).length) (hs : ∀ s ∈ S, H.length + 3 ≤ s) (h : ∀ j, j ∉ S → H'[j]? = (H ++ (a :: b :: c :: R))[j]?) : ∃ R', H' = H ++ (a :: b :: c :: R') ∧ R'.length = R.length := by
  have e1 : H ++ (a :: b :: c :: R) = (H ++ [a, b, c]) ++ R := by simp
  rw [e1] at hl h
  obtain ⟨R', rfl⟩ := ownL_grown hl (fun s hm => by have := hs s hm; simp; omega) h
  exact ⟨R', by simp, by simpa using hl⟩
theorem ownL_int {A : AHeap} {l : List Int} {n nm : Nat} (h : l.length = n) (hA : A.length = nm) : OwnL (A ++ [.cells (intsC l) ⟨3, 1, true, 0, none⟩]) 3 1 n (intsC l) (.slice (some ⟨nm, 0, none⟩) n n) [nm] :=
  .inr ⟨nm, 0, intsC l, rfl, by subst hA; simp, by rw [intsC_length]; omega, List.drop_zero, rfl⟩
theorem cBases (c : Nat) (C : Ctl) (lv pv : Value) (S1 S2 : List Nat) (hpl : C.past.length < 1099511627776) (H : AHeap) (hC : CtlAt H c C lv pv S1 S2) : AC Try.prog 63 [.pointer (some ⟨c, 0, none⟩)] H (MadeL H (C.past.map (·.2))) := by
  obtain ⟨l, hl⟩ : ∃ l, C.past.map (·.2) = l := ⟨_, rfl⟩
  have hs := bases1 c (H.length + 1) C lv pv S1 S2 hpl
  have hok : ∀ v X, (H ++ (.cells [v] ⟨28, 0, true, 0, none⟩ :: .cells [.pointer (some ⟨c, 0, none⟩)] ⟨41, 0, true, 0, none⟩ :: X))[H.length + 1]? = some (.cells [.pointer (some ⟨c, 0, none⟩)] ⟨41, 0, true, 0, none⟩) ∧ CtlAt (H ++ (.cells [v] ⟨28, 0, true, 0, none⟩ :: .cells [.pointer (some ⟨c, 0, none⟩)] ⟨41, 0, true, 0, none⟩ :: X)) c C lv pv S1 S2 := fun v X => ⟨(by with_unfolding_all first | exact (hget0 rfl).trans rfl | exact (hgetk rfl).trans rfl), hC.more _⟩
  have hpl2 : l.length < 1099511627776 := by rw [← hl, List.length_map]; exact hpl
  rw [hl] at hs ⊢
  refine AC.enter Try.func63 rfl (by kernel_rfl) 15 rfl [.tmp 2] rfl (by simp) fun hsc B => ?_
  repeat first
    | with_reducible refine AWP.seq ?_
    | ((with_reducible refine AWP.region ?_ ?_); exact rfl)
    | with_reducible refine AWP.block ?_
    | with_reducible refine AWP.skip ?_
    | with_reducible refine AWP.exit ?_
    | with_reducible refine AWP.ret ?_
    | with_reducible refine AWP.label ?_
    | with_reducible refine AWP.goto ?_
    | ((with_reducible refine AWP.condT ?_ ?_); focus (simp only [ev, lk_cons, ↓reduceIte, Nat.reduceEqDiff]; done))
    | ((with_reducible refine AWP.condF ?_ ?_); focus (simp only [ev, lk_cons, ↓reduceIte, Nat.reduceEqDiff]; done))
    | with_reducible refine (bases _ _).use ?_
    | simp only [go_sem, ↓reduceIte, Nat.reduceEqDiff, reduceCtorEq, Nat.reduceAdd, Int.reduceEq, Int.reduceBNe, Int.reduceBEq, Int.reduceToNat, Int.reduceLT, Int.reduceLE, Int.reduceGT, Int.reduceGE, Nat.reduceSub, Nat.reduceBEq, Nat.reduceBNe, Int.reduceAdd, Int.reduceSub, Int.reduceMul, Int.reduceNeg, Nat.reduceMul, Nat.reduceLeDiff, Nat.reduceLT]
    | simp (disch := omega) only [wi64, wu8, wu16, wu32, wu64, Int.tdiv_eq_ediv_of_nonneg, Int.tmod_eq_emod_of_nonneg]
    | with_reducible_and_instances exact finR
    | ((with_reducible refine finR' ?_ ?_) <;> rfl)
    | ((with_reducible refine finD hsc (NRel.of_plain ?_)); exact rfl)
  refine AWP.rangeS hs rfl (by simp) (by simp only [go_sem, ↓reduceIte, Nat.reduceEqDiff, reduceCtorEq, Nat.reduceAdd, Int.reduceEq, Int.reduceBNe, Int.reduceBEq, Int.reduceToNat, Int.reduceLT, Int.reduceLE, Int.reduceGT, Int.reduceGE, Nat.reduceSub, Nat.reduceBEq, Nat.reduceBNe, Int.reduceAdd, Int.reduceSub, Int.reduceMul, Int.reduceNeg, Nat.reduceMul, Nat.reduceLeDiff, Nat.reduceLT]) fun L hL =>
    ⟨fun n H1 => ∃ v S R, n ≤ l.length ∧ H1 = H ++ (.cells [v] ⟨28, 0, true, 0, none⟩ :: .cells [.pointer (some ⟨c, 0, none⟩)] ⟨41, 0, true, 0, none⟩ :: .loop L :: R) ∧ OwnL H1 3 1 n (intsC (l.take n)) v S ∧ ∀ s ∈ S, H.length + 3 ≤ s, fun _ => False,
    ⟨.slice none 0 0, [], [], Nat.zero_le _, by simp only [List.append_assoc, List.cons_append, List.nil_append], .inl ⟨rfl, rfl, rfl, rfl⟩, by simp⟩, ?_, ?_, ?_, ?_⟩
  · rintro n H1 ⟨v, S, R, _, rfl, _, _⟩
    exact hok v _
  · rintro n H1 X ⟨v, S, R, h1, h2, h3, h4⟩
    exact ⟨v, S, R ++ X, h1, by rw [h2]; simp, h3.frm (T := []) Frm.app (by simp), h4⟩
  · rintro n args H1 ha ⟨v, S, R, hn, rfl, hO, hS⟩
    have hnl : n < l.length := by
      have := (List.getElem?_eq_some_iff.1 ha).1
      simpa using this
    have hargs : args = [.int .i64 l[n]] := by
      rw [List.getElem?_map, List.getElem?_eq_getElem hnl] at ha
      simpa using ha.symm
    subst hargs
    have hst : l.take (n + 1) = l.take n ++ [l[n]] := by rw [List.take_add_one, List.getElem?_eq_getElem hnl]; rfl
    simp only [go_sem, ↓reduceIte, Nat.reduceEqDiff, reduceCtorEq, Nat.reduceAdd, Int.reduceEq, Int.reduceBNe, Int.reduceBEq, Int.reduceToNat, Int.reduceLT, Int.reduceLE, Int.reduceGT, Int.reduceGE, Nat.reduceSub, Nat.reduceBEq, Nat.reduceBNe, Int.reduceAdd, Int.reduceSub, Int.reduceMul, Int.reduceNeg, Nat.reduceMul, Nat.reduceLeDiff, Nat.reduceLT]
    refine AY.of (L := L) (by simp only [go_sem, ↓reduceIte, Nat.reduceEqDiff, reduceCtorEq, Nat.reduceAdd, Int.reduceEq, Int.reduceBNe, Int.reduceBEq, Int.reduceToNat, Int.reduceLT, Int.reduceLE, Int.reduceGT, Int.reduceGE, Nat.reduceSub, Nat.reduceBEq, Nat.reduceBNe, Int.reduceAdd, Int.reduceSub, Int.reduceMul, Int.reduceNeg, Nat.reduceMul, Nat.reduceLeDiff, Nat.reduceLT]) (by rw [hL]) (by rw [hL]; rfl) (by rw [hL]; simp) fun hsc2 lr B2 => ?_
    subst hL
    simp only [zipEnv]
    repeat first
      | with_reducible refine AWP.seq ?_
      | ((with_reducible refine AWP.region ?_ ?_); exact rfl)
      | with_reducible refine AWP.block ?_
      | with_reducible refine AWP.skip ?_
      | with_reducible refine AWP.exit ?_
      | with_reducible refine AWP.ret ?_
      | with_reducible refine AWP.label ?_
      | with_reducible refine AWP.goto ?_
      | ((with_reducible refine AWP.condT ?_ ?_); focus (simp only [ev, lk_cons, ↓reduceIte, Nat.reduceEqDiff]; done))
      | ((with_reducible refine AWP.condF ?_ ?_); focus (simp only [ev, lk_cons, ↓reduceIte, Nat.reduceEqDiff]; done))
      | simp only [go_sem, ↓reduceIte, Nat.reduceEqDiff, reduceCtorEq, Nat.reduceAdd, Int.reduceEq, Int.reduceBNe, Int.reduceBEq, Int.reduceToNat, Int.reduceLT, Int.reduceLE, Int.reduceGT, Int.reduceGE, Nat.reduceSub, Nat.reduceBEq, Nat.reduceBNe, Int.reduceAdd, Int.reduceSub, Int.reduceMul, Int.reduceNeg, Nat.reduceMul, Nat.reduceLeDiff, Nat.reduceLT]
      | simp (disch := omega) only [wi64, wu8, wu16, wu32, wu64, Int.tdiv_eq_ediv_of_nonneg, Int.tmod_eq_emod_of_nonneg]
      | with_reducible_and_instances exact finR
      | ((with_reducible refine finR' ?_ ?_) <;> rfl)
      | ((with_reducible refine finD hsc (NRel.of_plain ?_)); exact rfl)
    refine (ownL_behind3 hO hS _).append (by decide) (by omega) (by omega) fun H' hlen hH' => ?_
    obtain ⟨R', rfl, hR'⟩ := grown3 hlen hS hH'
    clear hlen hH'
    rw [List.length_append, List.length_singleton] at hR'
    repeat first
      | with_reducible refine AWP.seq ?_
      | ((with_reducible refine AWP.region ?_ ?_); exact rfl)
      | with_reducible refine AWP.block ?_
      | with_reducible refine AWP.skip ?_
      | with_reducible refine AWP.exit ?_
      | with_reducible refine AWP.ret ?_
      | with_reducible refine AWP.label ?_
      | with_reducible refine AWP.goto ?_
      | ((with_reducible refine AWP.condT ?_ ?_); focus (simp only [ev, lk_cons, ↓reduceIte, Nat.reduceEqDiff]; done))
      | ((with_reducible refine AWP.condF ?_ ?_); focus (simp only [ev, lk_cons, ↓reduceIte, Nat.reduceEqDiff]; done))
      | simp only [go_sem, ↓reduceIte, Nat.reduceEqDiff, reduceCtorEq, Nat.reduceAdd, Int.reduceEq, Int.reduceBNe, Int.reduceBEq, Int.reduceToNat, Int.reduceLT, Int.reduceLE, Int.reduceGT, Int.reduceGE, Nat.reduceSub, Nat.reduceBEq, Nat.reduceBNe, Int.reduceAdd, Int.reduceSub, Int.reduceMul, Int.reduceNeg, Nat.reduceMul, Nat.reduceLeDiff, Nat.reduceLT]
      | simp (disch := omega) only [wi64, wu8, wu16, wu32, wu64, Int.tdiv_eq_ediv_of_nonneg, Int.tmod_eq_emod_of_nonneg]
      | with_reducible_and_instances exact finR
      | ((with_reducible refine finR' ?_ ?_) <;> rfl)
      | ((with_reducible refine finD hsc (NRel.of_plain ?_)); exact rfl)
    refine ⟨_, .refl _ _ _, true, rfl, fun _ => ⟨by omega, .slice (some ⟨H.length + (R.length + 4), 0, none⟩) (n + 1) (n + 1), [H.length + (R.length + 4)], R' ++ [.cells (intsC (l.take (n + 1))) ⟨3, 1, true, 0, none⟩], ?_, ?_, by simp⟩, fun e => by cases e⟩
    · rw [hst, ← intsC_snoc]
    · rw [hst, intsC_snoc, ← hst, ← List.cons_append, ← List.cons_append, ← List.cons_append, ← List.append_assoc]
      exact ownL_int (by rw [List.length_take]; omega) (by simp; omega)
  · rintro H2 (⟨v, S, R, hn, rfl, hO, hS⟩ | h)
    · subst hL
      rw [List.length_map, List.take_length] at hO
      rw [List.length_map] at hn
      repeat first
        | with_reducible refine AWP.seq ?_
        | ((with_reducible refine AWP.region ?_ ?_); exact rfl)
        | with_reducible refine AWP.block ?_
        | with_reducible refine AWP.skip ?_
        | with_reducible refine AWP.exit ?_
        | with_reducible refine AWP.ret ?_
        | with_reducible refine AWP.label ?_
        | with_reducible refine AWP.goto ?_
        | ((with_reducible refine AWP.condT ?_ ?_); focus (simp only [ev, lk_cons, ↓reduceIte, Nat.reduceEqDiff]; done))
        | ((with_reducible refine AWP.condF ?_ ?_); focus (simp only [ev, lk_cons, ↓reduceIte, Nat.reduceEqDiff]; done))
        | simp only [go_sem, ↓reduceIte, Nat.reduceEqDiff, reduceCtorEq, Nat.reduceAdd, Int.reduceEq, Int.reduceBNe, Int.reduceBEq, Int.reduceToNat, Int.reduceLT, Int.reduceLE, Int.reduceGT, Int.reduceGE, Nat.reduceSub, Nat.reduceBEq, Nat.reduceBNe, Int.reduceAdd, Int.reduceSub, Int.reduceMul, Int.reduceNeg, Nat.reduceMul, Nat.reduceLeDiff, Nat.reduceLT]
        | simp (disch := omega) only [wi64, wu8, wu16, wu32, wu64, Int.tdiv_eq_ediv_of_nonneg, Int.tmod_eq_emod_of_nonneg]
        | with_reducible_and_instances exact finR
        | ((with_reducible refine finR' ?_ ?_) <;> rfl)
        | ((with_reducible refine finD hsc (NRel.of_plain ?_)); exact rfl)
      refine ⟨v, _, .refl _ _ _, v, S, rfl, ?_, Frm.app, fun s hs => by have := hS s hs; omega⟩
      have := ownL_behind3 (a' := .cells [v] ⟨28, 0, true, 0, none⟩) (b' := .cells [.pointer (some ⟨c, 0, none⟩)] ⟨41, 0, true, 0, none⟩) (c' := .dead) hO hS []
      rw [List.append_nil] at this
      exact this
    · exact h.elim
end Go.Proofs.Ytoikchnpflnehaa
