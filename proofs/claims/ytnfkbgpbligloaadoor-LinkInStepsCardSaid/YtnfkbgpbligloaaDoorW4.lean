/-
  Links: how many bytes the queue has; collecting the queue; Queue, Wait.
-/
import Derived.Test.YtnfkbgpbligloaaDoorW3
set_option linter.unusedVariables false
set_option linter.unusedSimpArgs false
set_option maxRecDepth 20000
set_option maxHeartbeats 4000000
namespace Go.Proofs.YtnfkbgpbligloaaDoor
open Go Go.Aw Go.Proofs
def sumW (l : List (Int × Int)) : Int := (l.map (·.2)).sum
theorem sumW_snoc (l : List (Int × Int)) (w : Int × Int) : sumW (l ++ [w]) = sumW l + w.2 := by simp [sumW]
theorem sumW_bound {l : List (Int × Int)} (h : ∀ w ∈ l, 0 ≤ w.2 ∧ w.2 ≤ 100000) : 0 ≤ sumW l ∧ sumW l ≤ 100000 * (l.length : Nat) := by
  induction l with
  | nil => simp [sumW]
  | cons w l ih =>
    have h1 := ih fun x hx => h x (List.mem_cons_of_mem _ hx)
    have h2 := h w (List.mem_cons_self ..)
    have e : sumW (w :: l) = w.2 + sumW l := by simp [sumW]
    rw [e, List.length_cons]
    omega
theorem wq_len (l : List (Int × Int)) (now : Int) : (wq l now).length ≤ l.length := List.length_filter_le ..
theorem bytes {H : AHeap} {i : Nat} {s : Lk} {S : List Nat} (h : LkAt H i s S) (hl : s.wait.length < 1099511627776) (hw : ∀ w ∈ s.wait, 0 ≤ w.2 ∧ w.2 ≤ 100000) (now : Int) :
    ARet Tryd.prog 16 [.pointer (some ⟨i, 0, none⟩), .int .i64 now] H (.int .i64 (sumW (wq s.wait now))) H := by
  obtain ⟨vn, vw, vu, us, Su, hp, rfl⟩ := h
  have hi := hp.at_
  have hil := lt_of_get hi
  have hwql := wq_len s.wait now
  have hq := queue
  have hsum : ∀ n, 0 ≤ sumW ((wq s.wait now).take n) ∧ sumW ((wq s.wait now).take n) ≤ 100000 * (s.wait.length : Nat) := fun n => by
    have hb := sumW_bound (l := (wq s.wait now).take n) fun w hm => hw w (List.mem_filter.1 (List.mem_of_mem_take hm)).1
    have : ((wq s.wait now).take n).length ≤ s.wait.length := by rw [List.length_take]; omega
    omega
  refine AC.enter Tryd.func16 rfl (by kernel_rfl) 16 rfl [.tmp 4] rfl (by simp) fun hsc B => ?_
  repeat first
    | with_reducible refine AWP.seq ?_
    | ((with_reducible refine AWP.region ?_ ?_); exact rfl)
    | with_reducible refine AWP.block ?_
    | with_reducible refine AWP.skip ?_
    | with_reducible refine AWP.exit ?_
    | with_reducible refine AWP.ret ?_
    | with_reducible refine AWP.label ?_
    | with_reducible refine AWP.goto ?_
    | ((with_reducible refine AWP.condT ?_ ?_); focus (simp only [ev, lk_cons, ↓reduceIte, Nat.reduceEqDiff]; done))
    | ((with_reducible refine AWP.condF ?_ ?_); focus (simp only [ev, lk_cons, ↓reduceIte, Nat.reduceEqDiff]; done))
    | with_reducible refine (hq _ _ _).use ?_
    | simp only [go_sem, ↓reduceIte, Nat.reduceEqDiff, reduceCtorEq, Nat.reduceAdd, Int.reduceEq, Int.reduceBNe, Int.reduceBEq, Int.reduceToNat, Int.reduceLT, Int.reduceLE, Int.reduceGT, Int.reduceGE, Nat.reduceSub, Nat.reduceBEq, Nat.reduceBNe, Int.reduceAdd, Int.reduceSub, Int.reduceMul, Int.reduceNeg, Nat.reduceMul, Nat.reduceLeDiff, Nat.reduceLT]
    | simp (disch := omega) only [wi64, wu8, wu16, wu32, wu64, Int.tdiv_eq_ediv_of_nonneg, Int.tmod_eq_emod_of_nonneg]
    | with_reducible_and_instances exact finR
    | ((with_reducible refine finR' ?_ ?_) <;> rfl)
    | ((with_reducible refine finD hsc (NRel.of_plain ?_)); exact rfl)
  refine AWP.rangeS (queue1 s i (H.length + 1) (H.length + 1 + 1) now vw hl) rfl (by simp) (by simp only [go_sem, ↓reduceIte, Nat.reduceEqDiff, reduceCtorEq, Nat.reduceAdd, Int.reduceEq, Int.reduceBNe, Int.reduceBEq, Int.reduceToNat, Int.reduceLT, Int.reduceLE, Int.reduceGT, Int.reduceGE, Nat.reduceSub, Nat.reduceBEq, Nat.reduceBNe, Int.reduceAdd, Int.reduceSub, Int.reduceMul, Int.reduceNeg, Nat.reduceMul, Nat.reduceLeDiff, Nat.reduceLT]) fun L hL =>
    ⟨fun n H1 => n ≤ (wq s.wait now).length ∧ ∃ R, H1 = H ++ (.cells [.int .i64 (sumW ((wq s.wait now).take n))] ⟨3, 0, true, 0, none⟩ :: .cells [.pointer (some ⟨i, 0, none⟩)] ⟨28, 0, true, 0, none⟩ :: .cells [.int .i64 now] ⟨3, 0, true, 0, none⟩ :: .loop L :: R), fun _ => False, ?_, ?_, ?_, ?_, ?_⟩
  · exact ⟨Nat.zero_le _, [], by simp [sumW]⟩
  · rintro n H1 ⟨hn, R, rfl⟩
    refine ⟨hgetk (n := H.length) (k := 1) rfl, hgetk (n := H.length) (k := 2) rfl, ⟨vn, vu, ?_⟩, hp.wait.fix (Fix.more _ _)⟩
    rw [hgetl hil]; exact hi
  · rintro n H1 X ⟨hn, R, rfl⟩
    exact ⟨hn, R ++ X, by simp⟩
  · rintro n args H1 ha ⟨hn, R, rfl⟩
    have hnl : n < (wq s.wait now).length := by
      have := (List.getElem?_eq_some_iff.1 ha).1
      simpa using this
    have hargs : args = [.agg ⟨[.int .i64 (wq s.wait now)[n].1, .int .i64 (wq s.wait now)[n].2]⟩] := by
      rw [List.getElem?_map, List.getElem?_eq_getElem hnl] at ha
      simpa [wC] using ha.symm
    subst hargs
    have htk : sumW ((wq s.wait now).take (n + 1)) = sumW ((wq s.wait now).take n) + (wq s.wait now)[n].2 := by
      rw [List.take_add_one, List.getElem?_eq_getElem hnl]; exact sumW_snoc ..
    have hb1 := hsum (n + 1)
    have hwr : IntKind.i64.wrap (sumW ((wq s.wait now).take n) + (wq s.wait now)[n].2) = sumW ((wq s.wait now).take (n + 1)) := by rw [← htk]; exact wi64 (by omega)
    simp only [go_sem, ↓reduceIte, Nat.reduceEqDiff, reduceCtorEq, Nat.reduceAdd, Int.reduceEq, Int.reduceBNe, Int.reduceBEq, Int.reduceToNat, Int.reduceLT, Int.reduceLE, Int.reduceGT, Int.reduceGE, Nat.reduceSub, Nat.reduceBEq, Nat.reduceBNe, Int.reduceAdd, Int.reduceSub, Int.reduceMul, Int.reduceNeg, Nat.reduceMul, Nat.reduceLeDiff, Nat.reduceLT]
    refine AY.of (L := L) (by simp only [go_sem, ↓reduceIte, Nat.reduceEqDiff, reduceCtorEq, Nat.reduceAdd, Int.reduceEq, Int.reduceBNe, Int.reduceBEq, Int.reduceToNat, Int.reduceLT, Int.reduceLE, Int.reduceGT, Int.reduceGE, Nat.reduceSub, Nat.reduceBEq, Nat.reduceBNe, Int.reduceAdd, Int.reduceSub, Int.reduceMul, Int.reduceNeg, Nat.reduceMul, Nat.reduceLeDiff, Nat.reduceLT]) (by rw [hL]) (by rw [hL]; rfl) (by rw [hL]; simp) fun hsc2 lr B2 => ?_
    subst hL
    simp only [zipEnv]
    repeat first
      | with_reducible refine AWP.seq ?_
      | ((with_reducible refine AWP.region ?_ ?_); exact rfl)
      | with_reducible refine AWP.block ?_
      | with_reducible refine AWP.skip ?_
      | with_reducible refine AWP.exit ?_
      | with_reducible refine AWP.ret ?_
      | with_reducible refine AWP.label ?_
      | with_reducible refine AWP.goto ?_
      | ((with_reducible refine AWP.condT ?_ ?_); focus (simp only [ev, lk_cons, ↓reduceIte, Nat.reduceEqDiff]; done))
      | ((with_reducible refine AWP.condF ?_ ?_); focus (simp only [ev, lk_cons, ↓reduceIte, Nat.reduceEqDiff]; done))
      | simp only [go_sem, ↓reduceIte, Nat.reduceEqDiff, reduceCtorEq, Nat.reduceAdd, Int.reduceEq, Int.reduceBNe, Int.reduceBEq, Int.reduceToNat, Int.reduceLT, Int.reduceLE, Int.reduceGT, Int.reduceGE, Nat.reduceSub, Nat.reduceBEq, Nat.reduceBNe, Int.reduceAdd, Int.reduceSub, Int.reduceMul, Int.reduceNeg, Nat.reduceMul, Nat.reduceLeDiff, Nat.reduceLT, hwr]
      | simp (disch := omega) only [wi64, wu8, wu16, wu32, wu64, Int.tdiv_eq_ediv_of_nonneg, Int.tmod_eq_emod_of_nonneg]
      | with_reducible_and_instances exact finR
      | ((with_reducible refine finR' ?_ ?_) <;> rfl)
      | ((with_reducible refine finD hsc (NRel.of_plain ?_)); exact rfl)
    exact ⟨_, .refl _ _ _, true, rfl, fun _ => ⟨by omega, _, rfl⟩, fun e => by cases e⟩
  · rintro H2 (⟨hn, R, rfl⟩ | h)
    · subst hL
      rw [List.length_map, List.take_length]
      repeat first
        | with_reducible refine AWP.seq ?_
        | ((with_reducible refine AWP.region ?_ ?_); exact rfl)
        | with_reducible refine AWP.block ?_
        | with_reducible refine AWP.skip ?_
        | with_reducible refine AWP.exit ?_
        | with_reducible refine AWP.ret ?_
        | with_reducible refine AWP.label ?_
        | with_reducible refine AWP.goto ?_
        | ((with_reducible refine AWP.condT ?_ ?_); focus (simp only [ev, lk_cons, ↓reduceIte, Nat.reduceEqDiff]; done))
        | ((with_reducible refine AWP.condF ?_ ?_); focus (simp only [ev, lk_cons, ↓reduceIte, Nat.reduceEqDiff]; done))
        | simp only [go_sem, ↓reduceIte, Nat.reduceEqDiff, reduceCtorEq, Nat.reduceAdd, Int.reduceEq, Int.reduceBNe, Int.reduceBEq, Int.reduceToNat, Int.reduceLT, Int.reduceLE, Int.reduceGT, Int.reduceGE, Nat.reduceSub, Nat.reduceBEq, Nat.reduceBNe, Int.reduceAdd, Int.reduceSub, Int.reduceMul, Int.reduceNeg, Nat.reduceMul, Nat.reduceLeDiff, Nat.reduceLT]
        | simp (disch := omega) only [wi64, wu8, wu16, wu32, wu64, Int.tdiv_eq_ediv_of_nonneg, Int.tmod_eq_emod_of_nonneg]
        | with_reducible_and_instances exact finR
        | ((with_reducible refine finR' ?_ ?_) <;> rfl)
        | ((with_reducible refine finD hsc (NRel.of_plain ?_)); exact rfl)
    · exact h.elim
def wsC (l : List (Int × Int)) : List Value := l.flatMap wC
theorem wsC_len (l : List (Int × Int)) : (wsC l).length = l.length * 2 := by
  induction l with
  | nil => rfl
  | cons u us ih =>
    have : (wsC (u :: us)) = wC u ++ wsC us := rfl
    rw [this, List.length_append, ih, List.length_cons]; simp [wC]; omega
theorem wsC_snoc (l : List (Int × Int)) (w : Int × Int) : wsC (l ++ [w]) = wsC l ++ wC w := by
  unfold wsC; rw [List.flatMap_append]; simp
theorem wsC_scalar (l : List (Int × Int)) : (wsC l).all scalar = true := by
  induction l with
  | nil => rfl
  | cons u us ih =>
    have : (wsC (u :: us)) = wC u ++ wsC us := rfl
    rw [this, List.all_append, ih]; rfl
theorem AppendSeq (f : FuncId) (cap : List Value) (l : List (Int × Int)) (hl : l.length < 1099511627776) (Hok : AHeap → Prop) (H : AHeap) (hs : SeqG Tryd.prog f cap (l.map fun w => [.agg ⟨wC w⟩]) Hok) (hok : ∀ X, Hok (H ++ X)) :
    ARet Tryd.prog 36 [.slice none 0 0, .func (.func f) ⟨[]⟩ ⟨cap⟩] H (gS H.length l.length) (H ++ [gO (wsC l) ⟨57, 2, true, 0, none⟩]) := by
  refine AC.enter Tryd.func36 rfl (by kernel_rfl) 13 rfl [.tmp 4] rfl (by simp) fun hsc B => ?_
  repeat first
    | with_reducible refine AWP.seq ?_
    | ((with_reducible refine AWP.region ?_ ?_); exact rfl)
    | with_reducible refine AWP.block ?_
    | with_reducible refine AWP.skip ?_
    | with_reducible refine AWP.exit ?_
    | with_reducible refine AWP.ret ?_
    | with_reducible refine AWP.label ?_
    | with_reducible refine AWP.goto ?_
    | ((with_reducible refine AWP.condT ?_ ?_); focus (simp only [ev, lk_cons, ↓reduceIte, Nat.reduceEqDiff]; done))
    | ((with_reducible refine AWP.condF ?_ ?_); focus (simp only [ev, lk_cons, ↓reduceIte, Nat.reduceEqDiff]; done))
    | simp only [go_sem, ↓reduceIte, Nat.reduceEqDiff, reduceCtorEq, Nat.reduceAdd, Int.reduceEq, Int.reduceBNe, Int.reduceBEq, Int.reduceToNat, Int.reduceLT, Int.reduceLE, Int.reduceGT, Int.reduceGE, Nat.reduceSub, Nat.reduceBEq, Nat.reduceBNe, Int.reduceAdd, Int.reduceSub, Int.reduceMul, Int.reduceNeg, Nat.reduceMul, Nat.reduceLeDiff, Nat.reduceLT]
    | simp (disch := omega) only [wi64, wu8, wu16, wu32, wu64, Int.tdiv_eq_ediv_of_nonneg, Int.tmod_eq_emod_of_nonneg]
    | with_reducible_and_instances exact finR
    | ((with_reducible refine finR' ?_ ?_) <;> rfl)
    | ((with_reducible refine finD hsc (NRel.of_plain ?_)); exact rfl)
  refine AWP.rangeS hs rfl (by simp) (by simp only [go_sem, ↓reduceIte, Nat.reduceEqDiff, reduceCtorEq, Nat.reduceAdd, Int.reduceEq, Int.reduceBNe, Int.reduceBEq, Int.reduceToNat, Int.reduceLT, Int.reduceLE, Int.reduceGT, Int.reduceGE, Nat.reduceSub, Nat.reduceBEq, Nat.reduceBNe, Int.reduceAdd, Int.reduceSub, Int.reduceMul, Int.reduceNeg, Nat.reduceMul, Nat.reduceLeDiff, Nat.reduceLT]) fun L hL => 
    ⟨fun n H1 => ∃ k R, n ≤ l.length ∧ H1 = H ++ (.cells [gS (H.length + (k + 2)) n] ⟨49, 0, true, 0, none⟩ :: .loop L :: R) ∧ (0 < n → R[k]? = some (.cells (wsC (l.take n)) ⟨57, 2, true, 0, none⟩)), fun _ => False,
    ⟨0, [], Nat.zero_le _, by simp only [gS_zero, List.append_assoc, List.cons_append, List.nil_append], by simp⟩, fun n H1 ⟨k, R, h1, h2, h3⟩ => h2 ▸ hok _, fun n H1 X ⟨k, R, h1, h2, h3⟩ => ⟨k, R ++ X, h1, by rw [h2]; simp, fun h => by rw [List.getElem?_append_left (lt_of_get (h3 h))]; exact h3 h⟩, ?_, ?_⟩
  · rintro n args H1 ha ⟨k, R, hn, rfl, hR⟩
    have hnl : n < l.length := by
      have := (List.getElem?_eq_some_iff.1 ha).1
      simpa using this
    have hargs : args = [.agg ⟨[.int .i64 l[n].1, .int .i64 l[n].2]⟩] := by
      rw [List.getElem?_map, List.getElem?_eq_getElem hnl] at ha
      simpa [wC] using ha.symm
    subst hargs
    simp only [go_sem, ↓reduceIte, Nat.reduceEqDiff, reduceCtorEq, Nat.reduceAdd, Int.reduceEq, Int.reduceBNe, Int.reduceBEq, Int.reduceToNat, Int.reduceLT, Int.reduceLE, Int.reduceGT, Int.reduceGE, Nat.reduceSub, Nat.reduceBEq, Nat.reduceBNe, Int.reduceAdd, Int.reduceSub, Int.reduceMul, Int.reduceNeg, Nat.reduceMul, Nat.reduceLeDiff, Nat.reduceLT]
    refine AY.of (L := L) (by simp only [go_sem, ↓reduceIte, Nat.reduceEqDiff, reduceCtorEq, Nat.reduceAdd, Int.reduceEq, Int.reduceBNe, Int.reduceBEq, Int.reduceToNat, Int.reduceLT, Int.reduceLE, Int.reduceGT, Int.reduceGE, Nat.reduceSub, Nat.reduceBEq, Nat.reduceBNe, Int.reduceAdd, Int.reduceSub, Int.reduceMul, Int.reduceNeg, Nat.reduceMul, Nat.reduceLeDiff, Nat.reduceLT]) (by rw [hL]) (by rw [hL]; rfl) (by rw [hL]; simp) fun hsc2 lr B2 => ?_
    subst hL
    simp only [zipEnv]
    repeat first
      | with_reducible refine AWP.seq ?_
      | ((with_reducible refine AWP.region ?_ ?_); exact rfl)
      | with_reducible refine AWP.block ?_
      | with_reducible refine AWP.skip ?_
      | with_reducible refine AWP.exit ?_
      | with_reducible refine AWP.ret ?_
      | with_reducible refine AWP.label ?_
      | with_reducible refine AWP.goto ?_
      | ((with_reducible refine AWP.condT ?_ ?_); focus (simp only [ev, lk_cons, ↓reduceIte, Nat.reduceEqDiff]; done))
      | ((with_reducible refine AWP.condF ?_ ?_); focus (simp only [ev, lk_cons, ↓reduceIte, Nat.reduceEqDiff]; done))
      | simp only [go_sem, ↓reduceIte, Nat.reduceEqDiff, reduceCtorEq, Nat.reduceAdd, Int.reduceEq, Int.reduceBNe, Int.reduceBEq, Int.reduceToNat, Int.reduceLT, Int.reduceLE, Int.reduceGT, Int.reduceGE, Nat.reduceSub, Nat.reduceBEq, Nat.reduceBNe, Int.reduceAdd, Int.reduceSub, Int.reduceMul, Int.reduceNeg, Nat.reduceMul, Nat.reduceLeDiff, Nat.reduceLT]
      | simp (disch := omega) only [wi64, wu8, wu16, wu32, wu64, Int.tdiv_eq_ediv_of_nonneg, Int.tmod_eq_emod_of_nonneg]
      | with_reducible_and_instances exact finR
      | ((with_reducible refine finR' ?_ ?_) <;> rfl)
      | ((with_reducible refine finD hsc (NRel.of_plain ?_)); exact rfl)
    have ht : wsC (l.take n) ++ [.int .i64 l[n].1, .int .i64 l[n].2] = wsC (l.take (n + 1)) := by
      rw [List.take_add_one, List.getElem?_eq_getElem hnl]; exact (wsC_snoc ..).symm
    rcases Nat.eq_zero_or_pos n with rfl | hpos
    · simp only [gS_zero]
      refine appendTo_nil (by decide) (by decide) (by decide) ?_
      repeat first
        | with_reducible refine AWP.seq ?_
        | ((with_reducible refine AWP.region ?_ ?_); exact rfl)
        | with_reducible refine AWP.block ?_
        | with_reducible refine AWP.skip ?_
        | with_reducible refine AWP.exit ?_
        | with_reducible refine AWP.ret ?_
        | with_reducible refine AWP.label ?_
        | with_reducible refine AWP.goto ?_
        | ((with_reducible refine AWP.condT ?_ ?_); focus (simp only [ev, lk_cons, ↓reduceIte, Nat.reduceEqDiff]; done))
        | ((with_reducible refine AWP.condF ?_ ?_); focus (simp only [ev, lk_cons, ↓reduceIte, Nat.reduceEqDiff]; done))
        | simp only [go_sem, ↓reduceIte, Nat.reduceEqDiff, reduceCtorEq, Nat.reduceAdd, Int.reduceEq, Int.reduceBNe, Int.reduceBEq, Int.reduceToNat, Int.reduceLT, Int.reduceLE, Int.reduceGT, Int.reduceGE, Nat.reduceSub, Nat.reduceBEq, Nat.reduceBNe, Int.reduceAdd, Int.reduceSub, Int.reduceMul, Int.reduceNeg, Nat.reduceMul, Nat.reduceLeDiff, Nat.reduceLT]
        | simp (disch := omega) only [wi64, wu8, wu16, wu32, wu64, Int.tdiv_eq_ediv_of_nonneg, Int.tmod_eq_emod_of_nonneg]
        | with_reducible_and_instances exact finR
        | ((with_reducible refine finR' ?_ ?_) <;> rfl)
        | ((with_reducible refine finD hsc (NRel.of_plain ?_)); exact rfl)
      refine ⟨_, .refl _ _ _, true, rfl, fun _ => ⟨by omega, R.length + 2, R ++ [AObj.cells [.int .i64 l[0].1, .int .i64 l[0].2] ⟨57, 0, true, 0, none⟩, AObj.cells [.int .i64 l[0].1, .int .i64 l[0].2] ⟨57, 0, true, 0, none⟩, AObj.cells (wsC (l.take 1)) ⟨57, 2, true, 0, none⟩], ?_, ?_⟩, fun e => by cases e⟩
      · rw [← ht]
        simp [gS_succ, wsC, Nat.add_assoc]
      · simp
    · rw [gS_pos hpos]
      have hR' := hR hpos
      have hkR := lt_of_get hR'
      have hR2 : (R ++ [.cells [.int .i64 l[n].1, .int .i64 l[n].2] ⟨57, 0, true, 0, none⟩, .cells [.int .i64 l[n].1, .int .i64 l[n].2] ⟨57, 0, true, 0, none⟩])[k]? = some (.cells (wsC (l.take n)) ⟨57, 2, true, 0, none⟩) := by rw [List.getElem?_append_left hkR]; exact hR'
      refine appendTo_own (cs := wsC (l.take n)) (by simp only [go_sem, ↓reduceIte, Nat.reduceEqDiff, reduceCtorEq, Nat.reduceAdd, Int.reduceEq, Int.reduceBNe, Int.reduceBEq, Int.reduceToNat, Int.reduceLT, Int.reduceLE, Int.reduceGT, Int.reduceGE, Nat.reduceSub, Nat.reduceBEq, Nat.reduceBNe, Int.reduceAdd, Int.reduceSub, Int.reduceMul, Int.reduceNeg, Nat.reduceMul, Nat.reduceLeDiff, Nat.reduceLT, hR2]) (by decide) (by rw [wsC_len, List.length_take]; omega) (by decide) (by omega) (by omega) ?_
      repeat first
        | with_reducible refine AWP.seq ?_
        | ((with_reducible refine AWP.region ?_ ?_); exact rfl)
        | with_reducible refine AWP.block ?_
        | with_reducible refine AWP.skip ?_
        | with_reducible refine AWP.exit ?_
        | with_reducible refine AWP.ret ?_
        | with_reducible refine AWP.label ?_
        | with_reducible refine AWP.goto ?_
        | ((with_reducible refine AWP.condT ?_ ?_); focus (simp only [ev, lk_cons, ↓reduceIte, Nat.reduceEqDiff]; done))
        | ((with_reducible refine AWP.condF ?_ ?_); focus (simp only [ev, lk_cons, ↓reduceIte, Nat.reduceEqDiff]; done))
        | simp only [go_sem, ↓reduceIte, Nat.reduceEqDiff, reduceCtorEq, Nat.reduceAdd, Int.reduceEq, Int.reduceBNe, Int.reduceBEq, Int.reduceToNat, Int.reduceLT, Int.reduceLE, Int.reduceGT, Int.reduceGE, Nat.reduceSub, Nat.reduceBEq, Nat.reduceBNe, Int.reduceAdd, Int.reduceSub, Int.reduceMul, Int.reduceNeg, Nat.reduceMul, Nat.reduceLeDiff, Nat.reduceLT]
        | simp (disch := omega) only [wi64, wu8, wu16, wu32, wu64, Int.tdiv_eq_ediv_of_nonneg, Int.tmod_eq_emod_of_nonneg]
        | with_reducible_and_instances exact finR
        | ((with_reducible refine finR' ?_ ?_) <;> rfl)
        | ((with_reducible refine finD hsc (NRel.of_plain ?_)); exact rfl)
      refine ⟨_, .refl _ _ _, true, rfl, fun _ => ⟨by omega, R.length + 2, (R ++ [AObj.cells [.int .i64 l[n].1, .int .i64 l[n].2] ⟨57, 0, true, 0, none⟩, AObj.cells [.int .i64 l[n].1, .int .i64 l[n].2] ⟨57, 0, true, 0, none⟩]).set k .dead ++ [AObj.cells (wsC (l.take (n + 1))) ⟨57, 2, true, 0, none⟩], ?_, ?_⟩, fun e => by cases e⟩
      · rw [← ht]
        simp [gS_succ, Nat.add_assoc]
      · simp
  · rintro H2 (⟨k, R, hn, rfl, hR⟩ | h)
    · subst hL
      rw [List.length_map] at hR ⊢
      repeat first
        | with_reducible refine AWP.seq ?_
        | ((with_reducible refine AWP.region ?_ ?_); exact rfl)
        | with_reducible refine AWP.block ?_
        | with_reducible refine AWP.skip ?_
        | with_reducible refine AWP.exit ?_
        | with_reducible refine AWP.ret ?_
        | with_reducible refine AWP.label ?_
        | with_reducible refine AWP.goto ?_
        | ((with_reducible refine AWP.condT ?_ ?_); focus (simp only [ev, lk_cons, ↓reduceIte, Nat.reduceEqDiff]; done))
        | ((with_reducible refine AWP.condF ?_ ?_); focus (simp only [ev, lk_cons, ↓reduceIte, Nat.reduceEqDiff]; done))
        | simp only [go_sem, ↓reduceIte, Nat.reduceEqDiff, reduceCtorEq, Nat.reduceAdd, Int.reduceEq, Int.reduceBNe, Int.reduceBEq, Int.reduceToNat, Int.reduceLT, Int.reduceLE, Int.reduceGT, Int.reduceGE, Nat.reduceSub, Nat.reduceBEq, Nat.reduceBNe, Int.reduceAdd, Int.reduceSub, Int.reduceMul, Int.reduceNeg, Nat.reduceMul, Nat.reduceLeDiff, Nat.reduceLT]
        | simp (disch := omega) only [wi64, wu8, wu16, wu32, wu64, Int.tdiv_eq_ediv_of_nonneg, Int.tmod_eq_emod_of_nonneg]
        | with_reducible_and_instances exact finR
        | ((with_reducible refine finR' ?_ ?_) <;> rfl)
        | ((with_reducible refine finD hsc (NRel.of_plain ?_)); exact rfl)
      rcases l with _ | ⟨x, l⟩
      · exact ⟨_, _, .pick [0] rfl hsc (by simp) (by simp [selW_cons, selW_nil, onm_dead, gS_zero, nr_nilSlice, wth_some, gO, wsC]), rfl, rfl⟩
      · have hR' := hR (by simp)
        rw [List.take_length] at hR'
        refine ⟨_, _, .pick (v2 := gS H.length (x :: l).length) (objs := [.cells (wsC (x :: l)) ⟨57, 2, true, 0, none⟩]) [k + 2] rfl hsc (by simp) ⟨?_, ?_⟩, rfl, ?_⟩
        · simp [selW_cons, selW_nil, hR', wth_some, onm_cells, nrs_refl (wsC_scalar _)]
        · rw [nr_g]
          exact ⟨rfl, .inr (by rw [selN_0]; rfl)⟩
        · simp [gO, wsC, wC]
    · exact h.elim
theorem Collect (f : FuncId) (cap : List Value) (l : List (Int × Int)) (hl : l.length < 1099511627776) (Hok : AHeap → Prop) (H : AHeap) (hs : SeqG Tryd.prog f cap (l.map fun w => [.agg ⟨wC w⟩]) Hok) (hok : ∀ X, Hok (H ++ X)) :
    ARet Tryd.prog 18 [.func (.func f) ⟨[]⟩ ⟨cap⟩] H (gS H.length l.length) (H ++ [gO (wsC l) ⟨57, 2, true, 0, none⟩]) := by
  refine AC.enter Tryd.func18 rfl (by kernel_rfl) 5 rfl [.tmp 2] rfl (by simp) fun hsc B => ?_
  repeat first
    | with_reducible refine AWP.seq ?_
    | ((with_reducible refine AWP.region ?_ ?_); exact rfl)
    | with_reducible refine AWP.block ?_
    | with_reducible refine AWP.skip ?_
    | with_reducible refine AWP.exit ?_
    | with_reducible refine AWP.ret ?_
    | with_reducible refine AWP.label ?_
    | with_reducible refine AWP.goto ?_
    | ((with_reducible refine AWP.condT ?_ ?_); focus (simp only [ev, lk_cons, ↓reduceIte, Nat.reduceEqDiff]; done))
    | ((with_reducible refine AWP.condF ?_ ?_); focus (simp only [ev, lk_cons, ↓reduceIte, Nat.reduceEqDiff]; done))
    | with_reducible refine (AppendSeq f cap l hl Hok _ hs hok).use ?_
    | simp only [go_sem, ↓reduceIte, Nat.reduceEqDiff, reduceCtorEq, Nat.reduceAdd, Int.reduceEq, Int.reduceBNe, Int.reduceBEq, Int.reduceToNat, Int.reduceLT, Int.reduceLE, Int.reduceGT, Int.reduceGE, Nat.reduceSub, Nat.reduceBEq, Nat.reduceBNe, Int.reduceAdd, Int.reduceSub, Int.reduceMul, Int.reduceNeg, Nat.reduceMul, Nat.reduceLeDiff, Nat.reduceLT]
    | simp (disch := omega) only [wi64, wu8, wu16, wu32, wu64, Int.tdiv_eq_ediv_of_nonneg, Int.tmod_eq_emod_of_nonneg]
    | with_reducible_and_instances exact finR
    | ((with_reducible refine finR' ?_ ?_) <;> rfl)
    | ((with_reducible refine finD hsc (NRel.of_plain ?_)); exact rfl)
end Go.Proofs.YtnfkbgpbligloaaDoor
