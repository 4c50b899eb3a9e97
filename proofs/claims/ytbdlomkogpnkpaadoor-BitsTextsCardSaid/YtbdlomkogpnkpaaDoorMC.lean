/-
  The walk of fields of bits: lists of the bits that are set.
-/
import Derived.Test.YtbdlomkogpnkpaaDoorM8
import Derived.Test.YtbdlomkogpnkpaaDoorMB
set_option linter.unusedVariables false
set_option linter.unusedSimpArgs false
set_option maxRecDepth 20000
namespace Go.Proofs.YtbdlomkogpnkpaaDoor
open Go Go.Aw Go.Proofs
theorem allL_len (s : List UInt8) : (allL s).length ≤ 8 * s.length := by
  unfold allL
  have := List.length_filter_le (bitAt s) (List.range (8 * s.length))
  simpa using this
theorem ListC (n : Nat) (h : n ≤ 4096) (s : List UInt8) (hv : validB n s) (H : AHeap) : ARet Tryd.prog 34 [.int .i64 (n : Nat), .string (bs s)] H (.tuple ⟨[gS H.length (allL s).length, .int .i64 0]⟩) (H ++ [gO (natsC (allL s)) ⟨3, 1, true, 0, none⟩]) := by
  have hl := lon_le n
  have hsl := hv.1
  have hal := allL_len s
  refine AC.enter Tryd.func34 rfl (by kernel_rfl) 20 rfl [.cell 4 38, .cell 5 24] rfl (by simp) fun hsc B => ?_
  repeat first
    | with_reducible refine AWP.seq ?_
    | ((with_reducible refine AWP.region ?_ ?_); exact rfl)
    | with_reducible refine AWP.block ?_
    | with_reducible refine AWP.skip ?_
    | with_reducible refine AWP.exit ?_
    | with_reducible refine AWP.ret ?_
    | with_reducible refine AWP.label ?_
    | with_reducible refine AWP.goto ?_
    | ((with_reducible refine AWP.condT ?_ ?_); focus (simp only [ev, lk_cons, ↓reduceIte, Nat.reduceEqDiff]; done))
    | ((with_reducible refine AWP.condF ?_ ?_); focus (simp only [ev, lk_cons, ↓reduceIte, Nat.reduceEqDiff]; done))
    | with_reducible refine (openC n h s hv _ _ _ _ (by with_unfolding_all first | exact (hget0 rfl).trans rfl | exact (hgetk rfl).trans rfl)).use ?_
    | with_reducible refine (all _ _ _ s _).use ?_
    | simp only [go_sem, ↓reduceIte, Nat.reduceEqDiff, reduceCtorEq, Nat.reduceAdd, Int.reduceEq, Int.reduceBNe, Int.reduceBEq, Int.reduceToNat, Int.reduceLT, Int.reduceLE, Int.reduceGT, Int.reduceGE, Nat.reduceSub, Nat.reduceBEq, Nat.reduceBNe, Int.reduceAdd, Int.reduceSub, Int.reduceMul, Int.reduceNeg, Nat.reduceMul, Nat.reduceLeDiff, Nat.reduceLT]
    | simp (disch := omega) only [wi64, wu8, wu16, wu32, wu64]
    | with_reducible_and_instances exact finR
    | ((with_reducible refine finR' ?_ ?_) <;> rfl)
    | ((with_reducible refine finD hsc (NRel.of_plain ?_)); exact rfl)
  refine AWP.rangeS (all1 s (by omega) (H.length + 5) (H.length + 3) n s.length) rfl (by simp) (by simp only [go_sem, ↓reduceIte, Nat.reduceEqDiff, reduceCtorEq, Nat.reduceAdd, Int.reduceEq, Int.reduceBNe, Int.reduceBEq, Int.reduceToNat, Int.reduceLT, Int.reduceLE, Int.reduceGT, Int.reduceGE, Nat.reduceSub, Nat.reduceBEq, Nat.reduceBNe, Int.reduceAdd, Int.reduceSub, Int.reduceMul, Int.reduceNeg, Nat.reduceMul, Nat.reduceLeDiff, Nat.reduceLT]) fun L hL => 
    ⟨fun m H1 => ∃ k R, m ≤ (allL s).length ∧ H1 = H ++ (.cells [gS (H.length + (k + 7)) m] ⟨38, 0, true, 0, none⟩ :: .cells [.int .i64 0] ⟨24, 0, true, 0, none⟩ :: .cells [.string (bs s)] ⟨9, 0, true, 0, none⟩ :: .cells (bytesC s) ⟨5, 1, true, 0, none⟩ :: .cells [.int .i64 (n : Nat), .slice (some ⟨H.length + 3, 0, none⟩) s.length s.length] ⟨53, 2, true, 0, none⟩ :: .cells [.int .i64 (n : Nat), .slice (some ⟨H.length + 3, 0, none⟩) s.length s.length] ⟨53, 0, true, 0, none⟩ :: .loop L :: R) ∧ (0 < m → R[k]? = some (.cells (natsC ((allL s).take m)) ⟨3, 1, true, 0, none⟩)), fun _ => False,
    ⟨0, [], Nat.zero_le _, by simp only [gS_zero, List.append_assoc, List.cons_append, List.nil_append], by simp⟩, fun m H1 ⟨k, R, h1, h2, h3⟩ => by subst h2; exact ⟨⟨_, (by with_unfolding_all first | exact (hget0 rfl).trans rfl | exact (hgetk rfl).trans rfl)⟩, ⟨_, (by with_unfolding_all first | exact (hget0 rfl).trans rfl | exact (hgetk rfl).trans rfl)⟩⟩, fun m H1 X ⟨k, R, h1, h2, h3⟩ => ⟨k, R ++ X, h1, by rw [h2]; simp, fun h => by rw [List.getElem?_append_left (lt_of_get (h3 h))]; exact h3 h⟩, ?_, ?_⟩
  · rintro m args H1 ha ⟨k, R, hm, rfl, hR⟩
    have hml : m < (allL s).length := by
      have := (List.getElem?_eq_some_iff.1 ha).1
      unfold allA at this
      simpa using this
    have hargs : args = [.int .i64 ((allL s)[m] : Nat)] := by
      unfold allA at ha
      rw [List.getElem?_map, List.getElem?_eq_getElem hml] at ha
      simpa using ha.symm
    subst hargs
    simp only [go_sem, ↓reduceIte, Nat.reduceEqDiff, reduceCtorEq, Nat.reduceAdd, Int.reduceEq, Int.reduceBNe, Int.reduceBEq, Int.reduceToNat, Int.reduceLT, Int.reduceLE, Int.reduceGT, Int.reduceGE, Nat.reduceSub, Nat.reduceBEq, Nat.reduceBNe, Int.reduceAdd, Int.reduceSub, Int.reduceMul, Int.reduceNeg, Nat.reduceMul, Nat.reduceLeDiff, Nat.reduceLT]
    refine AY.of (L := L) (by simp only [go_sem, ↓reduceIte, Nat.reduceEqDiff, reduceCtorEq, Nat.reduceAdd, Int.reduceEq, Int.reduceBNe, Int.reduceBEq, Int.reduceToNat, Int.reduceLT, Int.reduceLE, Int.reduceGT, Int.reduceGE, Nat.reduceSub, Nat.reduceBEq, Nat.reduceBNe, Int.reduceAdd, Int.reduceSub, Int.reduceMul, Int.reduceNeg, Nat.reduceMul, Nat.reduceLeDiff, Nat.reduceLT]) (by rw [hL]) (by rw [hL]; rfl) (by rw [hL]; simp) fun hsc2 lr B2 => ?_
    subst hL
    simp only [zipEnv]
    repeat first
      | with_reducible refine AWP.seq ?_
      | ((with_reducible refine AWP.region ?_ ?_); exact rfl)
      | with_reducible refine AWP.block ?_
      | with_reducible refine AWP.skip ?_
      | with_reducible refine AWP.exit ?_
      | with_reducible refine AWP.ret ?_
      | with_reducible refine AWP.label ?_
      | with_reducible refine AWP.goto ?_
      | ((with_reducible refine AWP.condT ?_ ?_); focus (simp only [ev, lk_cons, ↓reduceIte, Nat.reduceEqDiff]; done))
      | ((with_reducible refine AWP.condF ?_ ?_); focus (simp only [ev, lk_cons, ↓reduceIte, Nat.reduceEqDiff]; done))
      | simp only [go_sem, ↓reduceIte, Nat.reduceEqDiff, reduceCtorEq, Nat.reduceAdd, Int.reduceEq, Int.reduceBNe, Int.reduceBEq, Int.reduceToNat, Int.reduceLT, Int.reduceLE, Int.reduceGT, Int.reduceGE, Nat.reduceSub, Nat.reduceBEq, Nat.reduceBNe, Int.reduceAdd, Int.reduceSub, Int.reduceMul, Int.reduceNeg, Nat.reduceMul, Nat.reduceLeDiff, Nat.reduceLT]
      | simp (disch := omega) only [wi64, wu8, wu16, wu32, wu64]
      | with_reducible_and_instances exact finR
      | ((with_reducible refine finR' ?_ ?_) <;> rfl)
      | ((with_reducible refine finD hsc (NRel.of_plain ?_)); exact rfl)
    have ht : natsC ((allL s).take m) ++ [.int .i64 ((allL s)[m] : Nat)] = natsC ((allL s).take (m + 1)) := by
      rw [natsC_snoc, List.take_add_one, List.getElem?_eq_getElem hml]; rfl
    rcases Nat.eq_zero_or_pos m with rfl | hpos
    · simp only [gS_zero]
      refine appendTo_nil (by decide) (by decide) (by decide) ?_
      repeat first
        | with_reducible refine AWP.seq ?_
        | ((with_reducible refine AWP.region ?_ ?_); exact rfl)
        | with_reducible refine AWP.block ?_
        | with_reducible refine AWP.skip ?_
        | with_reducible refine AWP.exit ?_
        | with_reducible refine AWP.ret ?_
        | with_reducible refine AWP.label ?_
        | with_reducible refine AWP.goto ?_
        | ((with_reducible refine AWP.condT ?_ ?_); focus (simp only [ev, lk_cons, ↓reduceIte, Nat.reduceEqDiff]; done))
        | ((with_reducible refine AWP.condF ?_ ?_); focus (simp only [ev, lk_cons, ↓reduceIte, Nat.reduceEqDiff]; done))
        | simp only [go_sem, ↓reduceIte, Nat.reduceEqDiff, reduceCtorEq, Nat.reduceAdd, Int.reduceEq, Int.reduceBNe, Int.reduceBEq, Int.reduceToNat, Int.reduceLT, Int.reduceLE, Int.reduceGT, Int.reduceGE, Nat.reduceSub, Nat.reduceBEq, Nat.reduceBNe, Int.reduceAdd, Int.reduceSub, Int.reduceMul, Int.reduceNeg, Nat.reduceMul, Nat.reduceLeDiff, Nat.reduceLT]
        | simp (disch := omega) only [wi64, wu8, wu16, wu32, wu64]
        | with_reducible_and_instances exact finR
        | ((with_reducible refine finR' ?_ ?_) <;> rfl)
        | ((with_reducible refine finD hsc (NRel.of_plain ?_)); exact rfl)
      refine ⟨_, .refl _ _ _, true, rfl, fun _ => ⟨by omega, R.length + 1, R ++ [AObj.cells [.int .i64 ((allL s)[0] : Nat)] ⟨3, 0, true, 0, none⟩, AObj.cells (natsC ((allL s).take 1)) ⟨3, 1, true, 0, none⟩], ?_, ?_⟩, fun e => by cases e⟩
      · rw [← ht]
        simp [gS_succ, natsC, Nat.add_assoc]
      · simp
    · rw [gS_pos hpos]
      have hR' := hR hpos
      have hkR := lt_of_get hR'
      have hR2 : (R ++ [.cells [.int .i64 ((allL s)[m] : Nat)] ⟨3, 0, true, 0, none⟩])[k]? = some (.cells (natsC ((allL s).take m)) ⟨3, 1, true, 0, none⟩) := by rw [List.getElem?_append_left hkR]; exact hR'
      refine appendTo_own (cs := natsC ((allL s).take m)) (by simp only [go_sem, ↓reduceIte, Nat.reduceEqDiff, reduceCtorEq, Nat.reduceAdd, Int.reduceEq, Int.reduceBNe, Int.reduceBEq, Int.reduceToNat, Int.reduceLT, Int.reduceLE, Int.reduceGT, Int.reduceGE, Nat.reduceSub, Nat.reduceBEq, Nat.reduceBNe, Int.reduceAdd, Int.reduceSub, Int.reduceMul, Int.reduceNeg, Nat.reduceMul, Nat.reduceLeDiff, Nat.reduceLT, hR2]) (by decide) (by rw [natsC_length, List.length_take]; omega) (by decide) (by omega) (by omega) ?_
      repeat first
        | with_reducible refine AWP.seq ?_
        | ((with_reducible refine AWP.region ?_ ?_); exact rfl)
        | with_reducible refine AWP.block ?_
        | with_reducible refine AWP.skip ?_
        | with_reducible refine AWP.exit ?_
        | with_reducible refine AWP.ret ?_
        | with_reducible refine AWP.label ?_
        | with_reducible refine AWP.goto ?_
        | ((with_reducible refine AWP.condT ?_ ?_); focus (simp only [ev, lk_cons, ↓reduceIte, Nat.reduceEqDiff]; done))
        | ((with_reducible refine AWP.condF ?_ ?_); focus (simp only [ev, lk_cons, ↓reduceIte, Nat.reduceEqDiff]; done))
        | simp only [go_sem, ↓reduceIte, Nat.reduceEqDiff, reduceCtorEq, Nat.reduceAdd, Int.reduceEq, Int.reduceBNe, Int.reduceBEq, Int.reduceToNat, Int.reduceLT, Int.reduceLE, Int.reduceGT, Int.reduceGE, Nat.reduceSub, Nat.reduceBEq, Nat.reduceBNe, Int.reduceAdd, Int.reduceSub, Int.reduceMul, Int.reduceNeg, Nat.reduceMul, Nat.reduceLeDiff, Nat.reduceLT]
        | simp (disch := omega) only [wi64, wu8, wu16, wu32, wu64]
        | with_reducible_and_instances exact finR
        | ((with_reducible refine finR' ?_ ?_) <;> rfl)
        | ((with_reducible refine finD hsc (NRel.of_plain ?_)); exact rfl)
      refine ⟨_, .refl _ _ _, true, rfl, fun _ => ⟨by omega, R.length + 1, (R ++ [AObj.cells [.int .i64 ((allL s)[m] : Nat)] ⟨3, 0, true, 0, none⟩]).set k .dead ++ [AObj.cells (natsC ((allL s).take (m + 1))) ⟨3, 1, true, 0, none⟩], ?_, ?_⟩, fun e => by cases e⟩
      · rw [← ht]
        simp [gS_succ, Nat.add_assoc]
      · simp
  · rintro H2 (⟨k, R, hm, rfl, hR⟩ | h)
    · subst hL
      unfold allA at hR ⊢
      rw [List.length_map] at hR ⊢
      repeat first
        | with_reducible refine caughtR ?_
        | with_reducible refine AWP.seq ?_
        | ((with_reducible refine AWP.region ?_ ?_); exact rfl)
        | with_reducible refine AWP.block ?_
        | with_reducible refine AWP.skip ?_
        | with_reducible refine AWP.exit ?_
        | with_reducible refine AWP.ret ?_
        | with_reducible refine AWP.label ?_
        | with_reducible refine AWP.goto ?_
        | ((with_reducible refine AWP.condT ?_ ?_); focus (simp only [ev, lk_cons, ↓reduceIte, Nat.reduceEqDiff]; done))
        | ((with_reducible refine AWP.condF ?_ ?_); focus (simp only [ev, lk_cons, ↓reduceIte, Nat.reduceEqDiff]; done))
        | simp only [go_sem, ↓reduceIte, Nat.reduceEqDiff, reduceCtorEq, Nat.reduceAdd, Int.reduceEq, Int.reduceBNe, Int.reduceBEq, Int.reduceToNat, Int.reduceLT, Int.reduceLE, Int.reduceGT, Int.reduceGE, Nat.reduceSub, Nat.reduceBEq, Nat.reduceBNe, Int.reduceAdd, Int.reduceSub, Int.reduceMul, Int.reduceNeg, Nat.reduceMul, Nat.reduceLeDiff, Nat.reduceLT]
        | simp (disch := omega) only [wi64, wu8, wu16, wu32, wu64]
        | with_reducible_and_instances exact finR
        | ((with_reducible refine finR' ?_ ?_) <;> rfl)
        | ((with_reducible refine finD hsc (NRel.of_plain ?_)); exact rfl)
      rcases hz : allL s with _ | ⟨x, l⟩
      · exact ⟨_, _, .pick [0] rfl hsc (by simp) (by simp [selW_cons, selW_nil, onm_dead, gS_zero, nr_nilSlice, nr_tuple, nrs_cons, nrs_nil, nr_int, wth_some, gO, natsC]), rfl, rfl⟩
      · rw [hz] at hR
        have hR' := hR (by simp)
        rw [List.take_length] at hR'
        refine ⟨_, _, .pick (v2 := .tuple ⟨[gS H.length (x :: l).length, .int .i64 0]⟩) (objs := [.cells (natsC (x :: l)) ⟨3, 1, true, 0, none⟩]) [k + 7] rfl hsc (by simp) ⟨?_, ?_⟩, rfl, ?_⟩
        · simp [selW_cons, selW_nil, hR', wth_some, onm_cells, nrs_refl (natsC_scalar _)]
        · rw [nr_tuple, nrs_cons, nrs_cons, nrs_nil, nr_g, nr_int]
          exact ⟨⟨rfl, .inr (by rw [selN_0]; rfl)⟩, rfl, trivial⟩
        · simp [gO, natsC]
    · exact h.elim
end Go.Proofs.YtbdlomkogpnkpaaDoor
