/-
  Parse of Text; the law BitsTexts.
-/
import Derived.Test.YtbdlomkogpnkpaaDoorMW
set_option linter.unusedVariables false
set_option linter.unusedSimpArgs false
set_option maxRecDepth 20000
set_option maxHeartbeats 1000000
namespace Go.Proofs.YtbdlomkogpnkpaaDoor
open Go Go.Aw Go.Proofs Go.Shelf Go.RowKit Go.ChangeShapes
theorem dd_no {c : UInt8} (v : Nat) (h : c.toNat < 48 ∨ 57 < c.toNat) : c ∉ Lib.decDigits v := fun hm => by
  have := dd_digit v c hm
  omega
theorem runT_no (p : Nat × Nat) : (44 : UInt8) ∉ runT p := by
  unfold runT
  intro hm
  rcases List.mem_append.1 hm with hm | hm
  · exact dd_no _ (.inl (by decide)) hm
  · split at hm
    · rcases List.mem_cons.1 hm with e | hm
      · cases e
      · exact dd_no _ (.inl (by decide)) hm
    · cases hm
theorem part_run {f c : Nat} (hc : 1 ≤ c) (h : f + c ≤ 4096) : partR (runT (f, c)) = some (f, c) := by
  unfold partR runT
  by_cases h1 : 1 < c
  · simp only [if_pos h1]
    rw [cutsL_app _ (dd_no f (.inl (by decide))), cutsL_none (dd_no (f + c - 1) (.inl (by decide))), if_neg (by simp)]
    show pairR (numO (Lib.decDigits f)) (numO (Lib.decDigits (f + c - 1))) = _
    rw [pair_val _ _ (by omega) (by omega), if_neg (by omega), show f + c - 1 - f + 1 = c by omega]
  · simp only [if_neg h1, List.append_nil]
    rw [cutsL_none (dd_no f (.inl (by decide))), if_neg (by simp)]
    show pairR (numO (Lib.decDigits f)) (numO (Lib.decDigits f)) = _
    rw [pair_val _ _ (by omega) (by omega), if_neg (by omega), show f - f + 1 = c by omega]
theorem cuts_join : ∀ (xs : List (List UInt8)), xs ≠ [] → (∀ x ∈ xs, (44 : UInt8) ∉ x) → cutsL 44 (Lib.join xs [44]) = xs
  | [], h, _ => absurd rfl h
  | [x], _, h => by rw [Lib.join_one, cutsL_none (h x (by simp))]
  | x :: y :: ys, _, h => by
    have e : Lib.join (x :: y :: ys) [44] = x ++ 44 :: Lib.join (y :: ys) [44] := by
      rw [Lib.join_cons, Lib.join_cons]
      simp [Lib.joinTail]
    rw [e, cutsL_app _ (h x (by simp)), cuts_join (y :: ys) (by simp) (fun z hz => h z (by simp [hz]))]
theorem runT_ne (p : Nat × Nat) : runT p ≠ [] := fun e => by
  unfold runT at e
  exact dd_ne p.1 (List.append_eq_nil_iff.1 e).1
theorem dd_len4 (v : Nat) (h : v ≤ 4096) : (Lib.decDigits v).length ≤ 4 := by
  rcases Nat.lt_or_ge v 10 with h1 | h1
  · rw [dd_lt v h1]; simp
  · rw [dd_eq v h1, List.length_append]
    rcases Nat.lt_or_ge (v / 10) 10 with h2 | h2
    · rw [dd_lt _ h2]; simp
    · rw [dd_eq _ h2, List.length_append]
      rcases Nat.lt_or_ge (v / 10 / 10) 10 with h3 | h3
      · rw [dd_lt _ h3]; simp
      · rw [dd_eq _ h3, List.length_append, dd_lt _ (by omega)]; simp
theorem runs_inv' {n : Nat} {s : List UInt8} (hv : validB n s) : RunInv n (runsL (allL s)) := by
  rw [allL_valid hv]
  refine (runsL_inv (n := n) ?_ ?_).1
  · exact List.Pairwise.filter _ List.pairwise_lt_range
  · intro i hi
    exact List.mem_range.1 (List.mem_filter.1 hi).1
theorem text_len {n : Nat} {s : List UInt8} (h : n ≤ 4096) (hv : validB n s) : (textL (runsL (allL s))).length ≤ 65536 := by
  have hI := runs_inv' hv
  have hc : (runsL (allL s)).length ≤ 4096 := by
    refine Nat.le_trans (runsL_len _) ?_
    rw [allL_valid hv]
    refine Nat.le_trans (List.length_filter_le _ _) ?_
    rw [List.length_range]; exact h
  have := textL_le 9 (runsL (allL s)) (fun p hp => by
    have h1 := hI.pos p hp
    have h2 := hI.below p hp
    have d1 := dd_len4 p.1 (by omega)
    have d2 := dd_len4 (p.1 + p.2 - 1) (by omega)
    unfold runT
    split <;> simp <;> omega)
  omega
theorem parse_text {n : Nat} {s : List UInt8} (h : n ≤ 4096) (hv : validB n s) : parseV n (textL (runsL (allL s))) = (s, 0) := by
  have hl := text_len h hv
  have hI := runs_inv' hv
  have hf := frV_runs hv
  rw [← allL_valid hv] at hf
  have hgood : ∀ r, RunInv n r → goodR (r.map runT) = some r := fun r hr => (goodR_iff _ _).2 (by
    rw [List.map_map]
    refine List.map_congr_left fun p hp => ?_
    have h1 := hr.pos p hp
    have h2 := hr.below p hp
    exact part_run h1 (by omega))
  have hg := hgood _ hI
  unfold parseV
  rw [if_neg (by omega)]
  have hfin : finV n (textL (runsL (allL s))) (runsL (allL s)) = (s, 0) := by
    unfold finV
    rw [hf]
    simp
  by_cases h0 : runsL (allL s) = []
  · rw [h0] at hfin ⊢
    have e : textL [] = [] := rfl
    rw [e] at hfin ⊢
    rw [if_pos rfl]
    exact hfin
  · have hc : cutsL 44 (textL (runsL (allL s))) = (runsL (allL s)).map runT := cuts_join _ (by simpa using h0) (fun x hx => by
      obtain ⟨p, _, rfl⟩ := List.mem_map.1 hx
      exact runT_no p)
    have hne : textL (runsL (allL s)) ≠ [] := fun e => by
      rw [e] at hc
      cases hr : runsL (allL s) with
      | nil => exact h0 hr
      | cons p r =>
        rw [hr, List.map_cons] at hc
        have : cutsL 44 [] = [[]] := rfl
        rw [this] at hc
        exact runT_ne p (List.cons.inj hc).1.symm
    rw [if_neg hne, hc, hg]
    exact hfin
theorem parse_ok {n : Nat} {t : List UInt8} (h : (parseV n t).2 = 0) : validB n (parseV n t).1 ∧ textL (runsL (allL (parseV n t).1)) = t := by
  have hfin : ∀ r, (finV n t r).2 = 0 → validB n (finV n t r).1 ∧ textL (runsL (allL (finV n t r).1)) = t := fun r hr => by
    unfold finV at hr ⊢
    split at hr
    · cases hr
    · rename_i h1
      have h1' : (frV n (castR r)).2 = 0 := Classical.byContradiction h1
      rw [if_neg h1]
      split at hr
      · rename_i h2
        rw [if_pos h2]
        exact ⟨frV_valid h1', h2⟩
      · cases hr
  unfold parseV at h ⊢
  split at h
  · cases h
  · rename_i h1
    rw [if_neg h1]
    generalize (if t = [] then some [] else goodR (cutsL 44 t)) = o at h ⊢
    cases o with
    | none => cases h
    | some r => exact hfin r h
theorem lawTexts (n : Int) (s t : List UInt8) (hs : s.length < 140737488355328) (ht : t.length < 140737488355328) (H : AHeap) (hT : GlobH H) : ARet Tryd.prog 9 [.int .i64 n, .string (bs s), .string (bs t)] H (.bool true) H := by
  have hLt := fun H => Light n s H
  by_cases hl : n < 5000 ∧ s.length < 700
  · simp only [decide_eq_true hl] at hLt
    by_cases h3 : (t.length : Int) > 3000
    · skip
      refine AC.enter Tryd.func9 rfl (by kernel_rfl) 102 rfl [.tmp 6] rfl (by simp) fun hsc B => ?_
      repeat first
        | with_reducible refine AWP.seq ?_
        | ((with_reducible refine AWP.region ?_ ?_); exact rfl)
        | with_reducible refine AWP.block ?_
        | with_reducible refine AWP.skip ?_
        | with_reducible refine AWP.exit ?_
        | with_reducible refine AWP.ret ?_
        | with_reducible refine AWP.label ?_
        | with_reducible refine AWP.goto ?_
        | ((with_reducible refine AWP.condT ?_ ?_); focus (simp only [ev, lk_cons, ↓reduceIte, Nat.reduceEqDiff]; done))
        | ((with_reducible refine AWP.condF ?_ ?_); focus (simp only [ev, lk_cons, ↓reduceIte, Nat.reduceEqDiff]; done))
        | with_reducible refine (hLt _).use ?_
        | with_reducible refine (awake _).use ?_
        | simp only [go_sem, ↓reduceIte, Nat.reduceEqDiff, reduceCtorEq, Nat.reduceAdd, Int.reduceEq, Int.reduceBNe, Int.reduceBEq, Int.reduceToNat, Int.reduceLT, Int.reduceLE, Int.reduceGT, Int.reduceGE, Nat.reduceSub, Nat.reduceBEq, Nat.reduceBNe, Int.reduceAdd, Int.reduceSub, Int.reduceMul, Int.reduceNeg, Nat.reduceMul, Nat.reduceLeDiff, Nat.reduceLT, h3]
        | simp (disch := omega) only [wi64, wu8, wu16, wu32, wu64]
        | with_reducible_and_instances exact finR
        | ((with_reducible refine finR' ?_ ?_) <;> rfl)
        | ((with_reducible refine finD hsc (NRel.of_plain ?_)); exact rfl)
    · have htl : t.length ≤ 65536 := by omega
      by_cases hn : okN n
      · obtain ⟨N, rfl⟩ : ∃ N : Nat, n = N := ⟨n.toNat, by unfold okN at hn; omega⟩
        have hN : N ≤ 4096 := by unfold okN at hn; omega
        have hP := ParseC N hN t htl H hT
        have hrP := rParseC N hN t htl H
        have hok := @parse_ok N t
        generalize (parseV N t).1 = x at *
        generalize (parseV N t).2 = z at *
        by_cases hv : validB N s
        · have hX := TextG N hN s hv H hT
          have hrX := rTextG N hN s hv H
          have hP2 := ParseC N hN (textL (runsL (allL s))) (text_len hN hv) H hT
          rw [parse_text hN hv] at hP2
          generalize textL (runsL (allL s)) = T at *
          by_cases hz : z = 0
          · obtain ⟨g1, g2⟩ := hok hz
            subst hz
            have hX2 := TextG N hN x g1 H hT
            rw [g2] at hX2
            refine AC.enter Tryd.func9 rfl (by kernel_rfl) 102 rfl [.tmp 6] rfl (by simp) fun hsc B => ?_
            repeat first
              | with_reducible refine AWP.seq ?_
              | ((with_reducible refine AWP.region ?_ ?_); exact rfl)
              | with_reducible refine AWP.block ?_
              | with_reducible refine AWP.skip ?_
              | with_reducible refine AWP.exit ?_
              | with_reducible refine AWP.ret ?_
              | with_reducible refine AWP.label ?_
              | with_reducible refine AWP.goto ?_
              | ((with_reducible refine AWP.condT ?_ ?_); focus (simp only [ev, lk_cons, ↓reduceIte, Nat.reduceEqDiff]; done))
              | ((with_reducible refine AWP.condF ?_ ?_); focus (simp only [ev, lk_cons, ↓reduceIte, Nat.reduceEqDiff]; done))
              | with_reducible refine (hLt _).use ?_
              | with_reducible refine hX.use ?_
              | with_reducible refine hrX.use ?_
              | with_reducible refine hP.use ?_
              | with_reducible refine hrP.use ?_
              | with_reducible refine hP2.use ?_
              | with_reducible refine hX2.use ?_
              | with_reducible refine (awake _).use ?_
              | simp only [go_sem, ↓reduceIte, Nat.reduceEqDiff, reduceCtorEq, Nat.reduceAdd, Int.reduceEq, Int.reduceBNe, Int.reduceBEq, Int.reduceToNat, Int.reduceLT, Int.reduceLE, Int.reduceGT, Int.reduceGE, Nat.reduceSub, Nat.reduceBEq, Nat.reduceBNe, Int.reduceAdd, Int.reduceSub, Int.reduceMul, Int.reduceNeg, Nat.reduceMul, Nat.reduceLeDiff, Nat.reduceLT, h3]
              | simp (disch := omega) only [wi64, wu8, wu16, wu32, wu64]
              | with_reducible_and_instances exact finR
              | ((with_reducible refine finR' ?_ ?_) <;> rfl)
              | ((with_reducible refine finD hsc (NRel.of_plain ?_)); exact rfl)
          · have hz' : (z == 0) = false := beq_eq_false_iff_ne.2 hz
            refine AC.enter Tryd.func9 rfl (by kernel_rfl) 102 rfl [.tmp 6] rfl (by simp) fun hsc B => ?_
            repeat first
              | with_reducible refine AWP.seq ?_
              | ((with_reducible refine AWP.region ?_ ?_); exact rfl)
              | with_reducible refine AWP.block ?_
              | with_reducible refine AWP.skip ?_
              | with_reducible refine AWP.exit ?_
              | with_reducible refine AWP.ret ?_
              | with_reducible refine AWP.label ?_
              | with_reducible refine AWP.goto ?_
              | ((with_reducible refine AWP.condT ?_ ?_); focus (simp only [ev, lk_cons, ↓reduceIte, Nat.reduceEqDiff]; done))
              | ((with_reducible refine AWP.condF ?_ ?_); focus (simp only [ev, lk_cons, ↓reduceIte, Nat.reduceEqDiff]; done))
              | with_reducible refine (hLt _).use ?_
              | with_reducible refine hX.use ?_
              | with_reducible refine hrX.use ?_
              | with_reducible refine hP.use ?_
              | with_reducible refine hrP.use ?_
              | with_reducible refine hP2.use ?_
              | with_reducible refine (awake _).use ?_
              | simp only [go_sem, ↓reduceIte, Nat.reduceEqDiff, reduceCtorEq, Nat.reduceAdd, Int.reduceEq, Int.reduceBNe, Int.reduceBEq, Int.reduceToNat, Int.reduceLT, Int.reduceLE, Int.reduceGT, Int.reduceGE, Nat.reduceSub, Nat.reduceBEq, Nat.reduceBNe, Int.reduceAdd, Int.reduceSub, Int.reduceMul, Int.reduceNeg, Nat.reduceMul, Nat.reduceLeDiff, Nat.reduceLT, h3, hz']
              | simp (disch := omega) only [wi64, wu8, wu16, wu32, wu64]
              | with_reducible_and_instances exact finR
              | ((with_reducible refine finR' ?_ ?_) <;> rfl)
              | ((with_reducible refine finD hsc (NRel.of_plain ?_)); exact rfl)
        · have hX := TextB N hN s hs hv H
          have hrX := rTextB N hN s hs hv H
          by_cases hz : z = 0
          · obtain ⟨g1, g2⟩ := hok hz
            subst hz
            have hX2 := TextG N hN x g1 H hT
            rw [g2] at hX2
            refine AC.enter Tryd.func9 rfl (by kernel_rfl) 102 rfl [.tmp 6] rfl (by simp) fun hsc B => ?_
            repeat first
              | with_reducible refine AWP.seq ?_
              | ((with_reducible refine AWP.region ?_ ?_); exact rfl)
              | with_reducible refine AWP.block ?_
              | with_reducible refine AWP.skip ?_
              | with_reducible refine AWP.exit ?_
              | with_reducible refine AWP.ret ?_
              | with_reducible refine AWP.label ?_
              | with_reducible refine AWP.goto ?_
              | ((with_reducible refine AWP.condT ?_ ?_); focus (simp only [ev, lk_cons, ↓reduceIte, Nat.reduceEqDiff]; done))
              | ((with_reducible refine AWP.condF ?_ ?_); focus (simp only [ev, lk_cons, ↓reduceIte, Nat.reduceEqDiff]; done))
              | with_reducible refine (hLt _).use ?_
              | with_reducible refine hX.use ?_
              | with_reducible refine hrX.use ?_
              | with_reducible refine hP.use ?_
              | with_reducible refine hrP.use ?_
              | with_reducible refine hX2.use ?_
              | with_reducible refine (awake _).use ?_
              | simp only [go_sem, ↓reduceIte, Nat.reduceEqDiff, reduceCtorEq, Nat.reduceAdd, Int.reduceEq, Int.reduceBNe, Int.reduceBEq, Int.reduceToNat, Int.reduceLT, Int.reduceLE, Int.reduceGT, Int.reduceGE, Nat.reduceSub, Nat.reduceBEq, Nat.reduceBNe, Int.reduceAdd, Int.reduceSub, Int.reduceMul, Int.reduceNeg, Nat.reduceMul, Nat.reduceLeDiff, Nat.reduceLT, h3]
              | simp (disch := omega) only [wi64, wu8, wu16, wu32, wu64]
              | with_reducible_and_instances exact finR
              | ((with_reducible refine finR' ?_ ?_) <;> rfl)
              | ((with_reducible refine finD hsc (NRel.of_plain ?_)); exact rfl)
          · have hz' : (z == 0) = false := beq_eq_false_iff_ne.2 hz
            refine AC.enter Tryd.func9 rfl (by kernel_rfl) 102 rfl [.tmp 6] rfl (by simp) fun hsc B => ?_
            repeat first
              | with_reducible refine AWP.seq ?_
              | ((with_reducible refine AWP.region ?_ ?_); exact rfl)
              | with_reducible refine AWP.block ?_
              | with_reducible refine AWP.skip ?_
              | with_reducible refine AWP.exit ?_
              | with_reducible refine AWP.ret ?_
              | with_reducible refine AWP.label ?_
              | with_reducible refine AWP.goto ?_
              | ((with_reducible refine AWP.condT ?_ ?_); focus (simp only [ev, lk_cons, ↓reduceIte, Nat.reduceEqDiff]; done))
              | ((with_reducible refine AWP.condF ?_ ?_); focus (simp only [ev, lk_cons, ↓reduceIte, Nat.reduceEqDiff]; done))
              | with_reducible refine (hLt _).use ?_
              | with_reducible refine hX.use ?_
              | with_reducible refine hrX.use ?_
              | with_reducible refine hP.use ?_
              | with_reducible refine hrP.use ?_
              | with_reducible refine (awake _).use ?_
              | simp only [go_sem, ↓reduceIte, Nat.reduceEqDiff, reduceCtorEq, Nat.reduceAdd, Int.reduceEq, Int.reduceBNe, Int.reduceBEq, Int.reduceToNat, Int.reduceLT, Int.reduceLE, Int.reduceGT, Int.reduceGE, Nat.reduceSub, Nat.reduceBEq, Nat.reduceBNe, Int.reduceAdd, Int.reduceSub, Int.reduceMul, Int.reduceNeg, Nat.reduceMul, Nat.reduceLeDiff, Nat.reduceLT, h3, hz']
              | simp (disch := omega) only [wi64, wu8, wu16, wu32, wu64]
              | with_reducible_and_instances exact finR
              | ((with_reducible refine finR' ?_ ?_) <;> rfl)
              | ((with_reducible refine finD hsc (NRel.of_plain ?_)); exact rfl)
      · skip
        refine AC.enter Tryd.func9 rfl (by kernel_rfl) 102 rfl [.tmp 6] rfl (by simp) fun hsc B => ?_
        repeat first
          | with_reducible refine AWP.seq ?_
          | ((with_reducible refine AWP.region ?_ ?_); exact rfl)
          | with_reducible refine AWP.block ?_
          | with_reducible refine AWP.skip ?_
          | with_reducible refine AWP.exit ?_
          | with_reducible refine AWP.ret ?_
          | with_reducible refine AWP.label ?_
          | with_reducible refine AWP.goto ?_
          | ((with_reducible refine AWP.condT ?_ ?_); focus (simp only [ev, lk_cons, ↓reduceIte, Nat.reduceEqDiff]; done))
          | ((with_reducible refine AWP.condF ?_ ?_); focus (simp only [ev, lk_cons, ↓reduceIte, Nat.reduceEqDiff]; done))
          | with_reducible refine (hLt _).use ?_
          | with_reducible refine (TextA n hn s _).use ?_
          | with_reducible refine (rTextA n hn s hs _).use ?_
          | with_reducible refine (ParseA n hn t _).use ?_
          | with_reducible refine (rParseA n hn t _).use ?_
          | with_reducible refine (awake _).use ?_
          | simp only [go_sem, ↓reduceIte, Nat.reduceEqDiff, reduceCtorEq, Nat.reduceAdd, Int.reduceEq, Int.reduceBNe, Int.reduceBEq, Int.reduceToNat, Int.reduceLT, Int.reduceLE, Int.reduceGT, Int.reduceGE, Nat.reduceSub, Nat.reduceBEq, Nat.reduceBNe, Int.reduceAdd, Int.reduceSub, Int.reduceMul, Int.reduceNeg, Nat.reduceMul, Nat.reduceLeDiff, Nat.reduceLT, h3]
          | simp (disch := omega) only [wi64, wu8, wu16, wu32, wu64]
          | with_reducible_and_instances exact finR
          | ((with_reducible refine finR' ?_ ?_) <;> rfl)
          | ((with_reducible refine finD hsc (NRel.of_plain ?_)); exact rfl)
  · simp only [decide_eq_false hl] at hLt
    refine AC.enter Tryd.func9 rfl (by kernel_rfl) 102 rfl [.tmp 6] rfl (by simp) fun hsc B => ?_
    repeat first
      | with_reducible refine AWP.seq ?_
      | ((with_reducible refine AWP.region ?_ ?_); exact rfl)
      | with_reducible refine AWP.block ?_
      | with_reducible refine AWP.skip ?_
      | with_reducible refine AWP.exit ?_
      | with_reducible refine AWP.ret ?_
      | with_reducible refine AWP.label ?_
      | with_reducible refine AWP.goto ?_
      | ((with_reducible refine AWP.condT ?_ ?_); focus (simp only [ev, lk_cons, ↓reduceIte, Nat.reduceEqDiff]; done))
      | ((with_reducible refine AWP.condF ?_ ?_); focus (simp only [ev, lk_cons, ↓reduceIte, Nat.reduceEqDiff]; done))
      | with_reducible refine (hLt _).use ?_
      | with_reducible refine (awake _).use ?_
      | simp only [go_sem, ↓reduceIte, Nat.reduceEqDiff, reduceCtorEq, Nat.reduceAdd, Int.reduceEq, Int.reduceBNe, Int.reduceBEq, Int.reduceToNat, Int.reduceLT, Int.reduceLE, Int.reduceGT, Int.reduceGE, Nat.reduceSub, Nat.reduceBEq, Nat.reduceBNe, Int.reduceAdd, Int.reduceSub, Int.reduceMul, Int.reduceNeg, Nat.reduceMul, Nat.reduceLeDiff, Nat.reduceLT]
      | simp (disch := omega) only [wi64, wu8, wu16, wu32, wu64]
      | with_reducible_and_instances exact finR
      | ((with_reducible refine finR' ?_ ?_) <;> rfl)
      | ((with_reducible refine finD hsc (NRel.of_plain ?_)); exact rfl)
end Go.Proofs.YtbdlomkogpnkpaaDoor
