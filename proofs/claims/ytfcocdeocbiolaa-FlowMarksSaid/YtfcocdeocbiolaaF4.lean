/-
  Collecting what is yielded: AppendSeq, Collect.
-/
import Derived.Test.YtfcocdeocbiolaaF3
set_option linter.unusedVariables false
set_option linter.unusedSimpArgs false
set_option maxRecDepth 20000
namespace Go.Proofs.Ytfcocdeocbiolaa
open Go Go.Aw Go.Proofs
theorem AppendSeq (f : FuncId) (cap : List Value) (l : List Int) (hl : l.length < 1099511627776) (Hok : AHeap → Prop) (H : AHeap) (hs : SeqG Try.prog f cap (l.map fun x => [.int .i64 x]) Hok) (hok : ∀ X, Hok (H ++ X)) :
    ARet Try.prog 71 [.slice none 0 0, .func (.func f) ⟨[]⟩ ⟨cap⟩] H (gS H.length l.length) (H ++ [gO (intsC l) ⟨3, 1, true, 0, none⟩]) := by
  refine AC.enter Try.func71 rfl (by kernel_rfl) 13 rfl [.tmp 4] rfl (by simp) fun hsc B => ?_
  repeat first
    | with_reducible refine AWP.seq ?_
    | ((with_reducible refine AWP.region ?_ ?_); exact rfl)
    | with_reducible refine AWP.block ?_
    | with_reducible refine AWP.skip ?_
    | with_reducible refine AWP.exit ?_
    | with_reducible refine AWP.ret ?_
    | with_reducible refine AWP.label ?_
    | with_reducible refine AWP.goto ?_
    | ((with_reducible refine AWP.condT ?_ ?_); focus (simp only [ev, lk_cons, ↓reduceIte, Nat.reduceEqDiff]; done))
    | ((with_reducible refine AWP.condF ?_ ?_); focus (simp only [ev, lk_cons, ↓reduceIte, Nat.reduceEqDiff]; done))
    | simp only [go_sem, ↓reduceIte, Nat.reduceEqDiff, reduceCtorEq, Nat.reduceAdd, Int.reduceEq, Int.reduceBNe, Int.reduceBEq, Int.reduceToNat, Int.reduceLT, Int.reduceLE, Int.reduceGT, Int.reduceGE, Nat.reduceSub, Int.reduceAdd, Int.reduceSub, Int.reduceMul, Int.reduceNeg, Nat.reduceMul, Nat.reduceLeDiff, Nat.reduceLT]
    | simp (disch := omega) only [wi64, wu8, wu16, wu32, wu64]
    | with_reducible_and_instances exact finR
    | ((with_reducible refine finR' ?_ ?_) <;> rfl)
    | ((with_reducible refine finD hsc (NRel.of_plain ?_)); exact rfl)
  refine AWP.rangeS hs rfl (by simp) (by simp only [go_sem, ↓reduceIte, Nat.reduceEqDiff, reduceCtorEq, Nat.reduceAdd, Int.reduceEq, Int.reduceBNe, Int.reduceBEq, Int.reduceToNat, Int.reduceLT, Int.reduceLE, Int.reduceGT, Int.reduceGE, Nat.reduceSub, Int.reduceAdd, Int.reduceSub, Int.reduceMul, Int.reduceNeg, Nat.reduceMul, Nat.reduceLeDiff, Nat.reduceLT]) fun L hL => 
    ⟨fun n H1 => ∃ k R, n ≤ l.length ∧ H1 = H ++ (.cells [gS (H.length + (k + 2)) n] ⟨22, 0, true, 0, none⟩ :: .loop L :: R) ∧ (0 < n → R[k]? = some (.cells (intsC (l.take n)) ⟨3, 1, true, 0, none⟩)), fun _ => False,
    ⟨0, [], Nat.zero_le _, by simp only [gS_zero, List.append_assoc, List.cons_append, List.nil_append], by simp⟩, fun n H1 ⟨k, R, h1, h2, h3⟩ => h2 ▸ hok _, ?_, ?_⟩
  · rintro n args H1 ha ⟨k, R, hn, rfl, hR⟩
    have hnl : n < l.length := by
      have := (List.getElem?_eq_some_iff.1 ha).1
      simpa using this
    have hargs : args = [.int .i64 l[n]] := by
      rw [List.getElem?_map, List.getElem?_eq_getElem hnl] at ha
      simpa using ha.symm
    subst hargs
    simp only [go_sem, ↓reduceIte, Nat.reduceEqDiff, reduceCtorEq, Nat.reduceAdd, Int.reduceEq, Int.reduceBNe, Int.reduceBEq, Int.reduceToNat, Int.reduceLT, Int.reduceLE, Int.reduceGT, Int.reduceGE, Nat.reduceSub, Int.reduceAdd, Int.reduceSub, Int.reduceMul, Int.reduceNeg, Nat.reduceMul, Nat.reduceLeDiff, Nat.reduceLT]
    refine AY.of (L := L) (by simp only [go_sem, ↓reduceIte, Nat.reduceEqDiff, reduceCtorEq, Nat.reduceAdd, Int.reduceEq, Int.reduceBNe, Int.reduceBEq, Int.reduceToNat, Int.reduceLT, Int.reduceLE, Int.reduceGT, Int.reduceGE, Nat.reduceSub, Int.reduceAdd, Int.reduceSub, Int.reduceMul, Int.reduceNeg, Nat.reduceMul, Nat.reduceLeDiff, Nat.reduceLT]) (by rw [hL]) (by rw [hL]; rfl) (by rw [hL]; simp) fun hsc2 lr B2 => ?_
    subst hL
    simp only [zipEnv]
    repeat first
      | with_reducible refine AWP.seq ?_
      | ((with_reducible refine AWP.region ?_ ?_); exact rfl)
      | with_reducible refine AWP.block ?_
      | with_reducible refine AWP.skip ?_
      | with_reducible refine AWP.exit ?_
      | with_reducible refine AWP.ret ?_
      | with_reducible refine AWP.label ?_
      | with_reducible refine AWP.goto ?_
      | ((with_reducible refine AWP.condT ?_ ?_); focus (simp only [ev, lk_cons, ↓reduceIte, Nat.reduceEqDiff]; done))
      | ((with_reducible refine AWP.condF ?_ ?_); focus (simp only [ev, lk_cons, ↓reduceIte, Nat.reduceEqDiff]; done))
      | simp only [go_sem, ↓reduceIte, Nat.reduceEqDiff, reduceCtorEq, Nat.reduceAdd, Int.reduceEq, Int.reduceBNe, Int.reduceBEq, Int.reduceToNat, Int.reduceLT, Int.reduceLE, Int.reduceGT, Int.reduceGE, Nat.reduceSub, Int.reduceAdd, Int.reduceSub, Int.reduceMul, Int.reduceNeg, Nat.reduceMul, Nat.reduceLeDiff, Nat.reduceLT]
      | simp (disch := omega) only [wi64, wu8, wu16, wu32, wu64]
      | with_reducible_and_instances exact finR
      | ((with_reducible refine finR' ?_ ?_) <;> rfl)
      | ((with_reducible refine finD hsc (NRel.of_plain ?_)); exact rfl)
    have ht : intsC (l.take n) ++ [.int .i64 l[n]] = intsC (l.take (n + 1)) := by
      rw [intsC_snoc, List.take_add_one, List.getElem?_eq_getElem hnl]; rfl
    have htk : (List.map (fun x => [Value.int .i64 x]) l).length = l.length := List.length_map _
    rcases Nat.eq_zero_or_pos n with rfl | hpos
    · simp only [gS_zero]
      refine appendTo_nil (by decide) (by decide) (by decide) ?_
      repeat first
        | with_reducible refine AWP.seq ?_
        | ((with_reducible refine AWP.region ?_ ?_); exact rfl)
        | with_reducible refine AWP.block ?_
        | with_reducible refine AWP.skip ?_
        | with_reducible refine AWP.exit ?_
        | with_reducible refine AWP.ret ?_
        | with_reducible refine AWP.label ?_
        | with_reducible refine AWP.goto ?_
        | ((with_reducible refine AWP.condT ?_ ?_); focus (simp only [ev, lk_cons, ↓reduceIte, Nat.reduceEqDiff]; done))
        | ((with_reducible refine AWP.condF ?_ ?_); focus (simp only [ev, lk_cons, ↓reduceIte, Nat.reduceEqDiff]; done))
        | simp only [go_sem, ↓reduceIte, Nat.reduceEqDiff, reduceCtorEq, Nat.reduceAdd, Int.reduceEq, Int.reduceBNe, Int.reduceBEq, Int.reduceToNat, Int.reduceLT, Int.reduceLE, Int.reduceGT, Int.reduceGE, Nat.reduceSub, Int.reduceAdd, Int.reduceSub, Int.reduceMul, Int.reduceNeg, Nat.reduceMul, Nat.reduceLeDiff, Nat.reduceLT]
        | simp (disch := omega) only [wi64, wu8, wu16, wu32, wu64]
        | with_reducible_and_instances exact finR
        | ((with_reducible refine finR' ?_ ?_) <;> rfl)
        | ((with_reducible refine finD hsc (NRel.of_plain ?_)); exact rfl)
      refine ⟨_, .refl _ _ _, true, rfl, fun _ => ⟨by omega, R.length + 1, R ++ [AObj.cells [.int .i64 l[0]] ⟨3, 0, true, 0, none⟩, AObj.cells (intsC (l.take 1)) ⟨3, 1, true, 0, none⟩], ?_, ?_⟩, fun e => by cases e⟩
      · rw [← ht]
        simp [gS_succ, intsC, Nat.add_assoc]
      · simp
    · rw [gS_pos hpos]
      have hR' := hR hpos
      have hkR := lt_of_get hR'
      have hR2 : (R ++ [.cells [.int .i64 l[n]] ⟨3, 0, true, 0, none⟩])[k]? = some (.cells (intsC (l.take n)) ⟨3, 1, true, 0, none⟩) := by rw [List.getElem?_append_left hkR]; exact hR'
      refine appendTo_own (cs := intsC (l.take n)) (by simp only [go_sem, ↓reduceIte, Nat.reduceEqDiff, reduceCtorEq, Nat.reduceAdd, Int.reduceEq, Int.reduceBNe, Int.reduceBEq, Int.reduceToNat, Int.reduceLT, Int.reduceLE, Int.reduceGT, Int.reduceGE, Nat.reduceSub, Int.reduceAdd, Int.reduceSub, Int.reduceMul, Int.reduceNeg, Nat.reduceMul, Nat.reduceLeDiff, Nat.reduceLT, hR2]) (by decide) (by rw [intsC_length, List.length_take]; omega) (by decide) (by omega) (by omega) ?_
      repeat first
        | with_reducible refine AWP.seq ?_
        | ((with_reducible refine AWP.region ?_ ?_); exact rfl)
        | with_reducible refine AWP.block ?_
        | with_reducible refine AWP.skip ?_
        | with_reducible refine AWP.exit ?_
        | with_reducible refine AWP.ret ?_
        | with_reducible refine AWP.label ?_
        | with_reducible refine AWP.goto ?_
        | ((with_reducible refine AWP.condT ?_ ?_); focus (simp only [ev, lk_cons, ↓reduceIte, Nat.reduceEqDiff]; done))
        | ((with_reducible refine AWP.condF ?_ ?_); focus (simp only [ev, lk_cons, ↓reduceIte, Nat.reduceEqDiff]; done))
        | simp only [go_sem, ↓reduceIte, Nat.reduceEqDiff, reduceCtorEq, Nat.reduceAdd, Int.reduceEq, Int.reduceBNe, Int.reduceBEq, Int.reduceToNat, Int.reduceLT, Int.reduceLE, Int.reduceGT, Int.reduceGE, Nat.reduceSub, Int.reduceAdd, Int.reduceSub, Int.reduceMul, Int.reduceNeg, Nat.reduceMul, Nat.reduceLeDiff, Nat.reduceLT]
        | simp (disch := omega) only [wi64, wu8, wu16, wu32, wu64]
        | with_reducible_and_instances exact finR
        | ((with_reducible refine finR' ?_ ?_) <;> rfl)
        | ((with_reducible refine finD hsc (NRel.of_plain ?_)); exact rfl)
      refine ⟨_, .refl _ _ _, true, rfl, fun _ => ⟨by omega, R.length + 1, (R ++ [AObj.cells [.int .i64 l[n]] ⟨3, 0, true, 0, none⟩]).set k .dead ++ [AObj.cells (intsC (l.take (n + 1))) ⟨3, 1, true, 0, none⟩], ?_, ?_⟩, fun e => by cases e⟩
      · rw [← ht]
        simp [gS_succ, Nat.add_assoc]
      · simp
  · rintro H2 (⟨k, R, hn, rfl, hR⟩ | h)
    · subst hL
      rw [List.length_map] at hR ⊢
      repeat first
        | with_reducible refine AWP.seq ?_
        | ((with_reducible refine AWP.region ?_ ?_); exact rfl)
        | with_reducible refine AWP.block ?_
        | with_reducible refine AWP.skip ?_
        | with_reducible refine AWP.exit ?_
        | with_reducible refine AWP.ret ?_
        | with_reducible refine AWP.label ?_
        | with_reducible refine AWP.goto ?_
        | ((with_reducible refine AWP.condT ?_ ?_); focus (simp only [ev, lk_cons, ↓reduceIte, Nat.reduceEqDiff]; done))
        | ((with_reducible refine AWP.condF ?_ ?_); focus (simp only [ev, lk_cons, ↓reduceIte, Nat.reduceEqDiff]; done))
        | simp only [go_sem, ↓reduceIte, Nat.reduceEqDiff, reduceCtorEq, Nat.reduceAdd, Int.reduceEq, Int.reduceBNe, Int.reduceBEq, Int.reduceToNat, Int.reduceLT, Int.reduceLE, Int.reduceGT, Int.reduceGE, Nat.reduceSub, Int.reduceAdd, Int.reduceSub, Int.reduceMul, Int.reduceNeg, Nat.reduceMul, Nat.reduceLeDiff, Nat.reduceLT]
        | simp (disch := omega) only [wi64, wu8, wu16, wu32, wu64]
        | with_reducible_and_instances exact finR
        | ((with_reducible refine finR' ?_ ?_) <;> rfl)
        | ((with_reducible refine finD hsc (NRel.of_plain ?_)); exact rfl)
      rcases l with _ | ⟨x, l⟩
      · exact ⟨_, _, .pick [0] rfl hsc (by simp) (by simp [selW_cons, selW_nil, onm_dead, gS_zero, nr_nilSlice, wth_some, gO, intsC]), rfl, rfl⟩
      · have hR' := hR (by simp)
        rw [List.take_length] at hR'
        refine ⟨_, _, .pick (v2 := gS H.length (x :: l).length) (objs := [.cells (intsC (x :: l)) ⟨3, 1, true, 0, none⟩]) [k + 2] rfl hsc (by simp) ⟨?_, ?_⟩, rfl, ?_⟩
        · simp [selW_cons, selW_nil, hR', wth_some, onm_cells, nrs_refl (intsC_scalar _)]
        · rw [nr_g]
          exact ⟨rfl, .inr (by rw [selN_0]; rfl)⟩
        · simp [gO, intsC]
    · exact h.elim
theorem Collect (f : FuncId) (cap : List Value) (l : List Int) (hl : l.length < 1099511627776) (Hok : AHeap → Prop) (H : AHeap) (hs : SeqG Try.prog f cap (l.map fun x => [.int .i64 x]) Hok) (hok : ∀ X, Hok (H ++ X)) :
    ARet Try.prog 46 [.func (.func f) ⟨[]⟩ ⟨cap⟩] H (gS H.length l.length) (H ++ [gO (intsC l) ⟨3, 1, true, 0, none⟩]) := by
  refine AC.enter Try.func46 rfl (by kernel_rfl) 5 rfl [.tmp 2] rfl (by simp) fun hsc B => ?_
  repeat first
    | with_reducible refine AWP.seq ?_
    | ((with_reducible refine AWP.region ?_ ?_); exact rfl)
    | with_reducible refine AWP.block ?_
    | with_reducible refine AWP.skip ?_
    | with_reducible refine AWP.exit ?_
    | with_reducible refine AWP.ret ?_
    | with_reducible refine AWP.label ?_
    | with_reducible refine AWP.goto ?_
    | ((with_reducible refine AWP.condT ?_ ?_); focus (simp only [ev, lk_cons, ↓reduceIte, Nat.reduceEqDiff]; done))
    | ((with_reducible refine AWP.condF ?_ ?_); focus (simp only [ev, lk_cons, ↓reduceIte, Nat.reduceEqDiff]; done))
    | with_reducible refine (AppendSeq f cap l hl Hok _ hs hok).use ?_
    | simp only [go_sem, ↓reduceIte, Nat.reduceEqDiff, reduceCtorEq, Nat.reduceAdd, Int.reduceEq, Int.reduceBNe, Int.reduceBEq, Int.reduceToNat, Int.reduceLT, Int.reduceLE, Int.reduceGT, Int.reduceGE, Nat.reduceSub, Int.reduceAdd, Int.reduceSub, Int.reduceMul, Int.reduceNeg, Nat.reduceMul, Nat.reduceLeDiff, Nat.reduceLT]
    | simp (disch := omega) only [wi64, wu8, wu16, wu32, wu64]
    | with_reducible_and_instances exact finR
    | ((with_reducible refine finR' ?_ ?_) <;> rfl)
    | ((with_reducible refine finD hsc (NRel.of_plain ?_)); exact rfl)
end Go.Proofs.Ytfcocdeocbiolaa
