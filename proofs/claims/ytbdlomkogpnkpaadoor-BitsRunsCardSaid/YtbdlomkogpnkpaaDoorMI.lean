/-
  The walk of fields of bits: BitsOne's and BitsRanks' functions: Next, Rank, Select.
-/
import Derived.Test.YtbdlomkogpnkpaaDoorMG
set_option linter.unusedVariables false
set_option linter.unusedSimpArgs false
set_option maxRecDepth 20000
namespace Go.Proofs.YtbdlomkogpnkpaaDoor
open Go Go.Aw Go.Proofs Go.Shelf Go.RowKit Go.ChangeShapes
/-- The first bit from a number on. -/
def nextR (l : List Nat) (i : Nat) : Int × Int := match l.find? (fun x => decide (i ≤ x)) with | some x => (((x : Nat) : Int), 0) | none => (0, 8)
theorem find_some {l : List Nat} {i m : Nat} (hm : m < l.length) (h1 : ∀ j (hj : j < l.length), j < m → l[j] < i) (h2 : i ≤ l[m]) : nextR l i = (((l[m] : Nat) : Int), 0) := by
  unfold nextR
  have : l.find? (fun x => decide (i ≤ x)) = some l[m] := by
    rw [List.find?_eq_some_iff_getElem]
    exact ⟨by simpa using h2, m, hm, rfl, fun j hj => by have := h1 j (by omega) hj; simp; omega⟩
  rw [this]
theorem find_none {l : List Nat} {i : Nat} (h1 : ∀ j (hj : j < l.length), l[j] < i) : nextR l i = (0, 8) := by
  unfold nextR
  have : l.find? (fun x => decide (i ≤ x)) = none := by
    rw [List.find?_eq_none]
    intro x hx
    obtain ⟨j, hj, rfl⟩ := List.mem_iff_getElem.1 hx
    have := h1 j hj; simp; omega
  rw [this]
theorem NextD (n : Nat) (h : n ≤ 4096) (s : List UInt8) (hv : validB n s) (i : Int) (hi : i < 0 ∨ (n : Int) < i) (H : AHeap) : ARet Tryd.prog 24 [.int .i64 (n : Nat), .string (bs s), .int .i64 i] H (.tuple ⟨[.int .i64 0, .int .i64 7]⟩) H := by
  by_cases h1 : i < 0
  · skip
    refine AC.enter Tryd.func24 rfl (by kernel_rfl) 31 rfl [.cell 6 3, .cell 7 24] rfl (by simp) fun hsc B => ?_
    repeat first
      | with_reducible refine caughtP (by with_unfolding_all first | exact (hget0 rfl).trans rfl | exact (hgetk rfl).trans rfl) ?_
      | with_reducible refine caughtR ?_
      | with_reducible refine AWP.seq ?_
      | ((with_reducible refine AWP.region ?_ ?_); exact rfl)
      | with_reducible refine AWP.block ?_
      | with_reducible refine AWP.skip ?_
      | with_reducible refine AWP.exit ?_
      | with_reducible refine AWP.ret ?_
      | with_reducible refine AWP.label ?_
      | with_reducible refine AWP.goto ?_
      | ((with_reducible refine AWP.condT ?_ ?_); focus (simp only [ev, lk_cons, ↓reduceIte, Nat.reduceEqDiff]; done))
      | ((with_reducible refine AWP.condF ?_ ?_); focus (simp only [ev, lk_cons, ↓reduceIte, Nat.reduceEqDiff]; done))
      | with_reducible refine (openC n h s hv _ _ _ _ (by with_unfolding_all first | exact (hget0 rfl).trans rfl | exact (hgetk rfl).trans rfl)).use ?_
      | with_reducible refine (failT _ _).use ?_
      | simp only [go_sem, ↓reduceIte, Nat.reduceEqDiff, reduceCtorEq, Nat.reduceAdd, Int.reduceEq, Int.reduceBNe, Int.reduceBEq, Int.reduceToNat, Int.reduceLT, Int.reduceLE, Int.reduceGT, Int.reduceGE, Nat.reduceSub, Nat.reduceBEq, Nat.reduceBNe, Int.reduceAdd, Int.reduceSub, Int.reduceMul, Int.reduceNeg, Nat.reduceMul, Nat.reduceLeDiff, Nat.reduceLT, h1]
      | simp (disch := omega) only [wi64, wu8, wu16, wu32, wu64]
      | with_reducible_and_instances exact finR
      | ((with_reducible refine finR' ?_ ?_) <;> rfl)
      | ((with_reducible refine finD hsc (NRel.of_plain ?_)); exact rfl)
  · have h2 : i > (n : Int) := by omega
    refine AC.enter Tryd.func24 rfl (by kernel_rfl) 31 rfl [.cell 6 3, .cell 7 24] rfl (by simp) fun hsc B => ?_
    repeat first
      | with_reducible refine caughtP (by with_unfolding_all first | exact (hget0 rfl).trans rfl | exact (hgetk rfl).trans rfl) ?_
      | with_reducible refine caughtR ?_
      | with_reducible refine AWP.seq ?_
      | ((with_reducible refine AWP.region ?_ ?_); exact rfl)
      | with_reducible refine AWP.block ?_
      | with_reducible refine AWP.skip ?_
      | with_reducible refine AWP.exit ?_
      | with_reducible refine AWP.ret ?_
      | with_reducible refine AWP.label ?_
      | with_reducible refine AWP.goto ?_
      | ((with_reducible refine AWP.condT ?_ ?_); focus (simp only [ev, lk_cons, ↓reduceIte, Nat.reduceEqDiff]; done))
      | ((with_reducible refine AWP.condF ?_ ?_); focus (simp only [ev, lk_cons, ↓reduceIte, Nat.reduceEqDiff]; done))
      | with_reducible refine (openC n h s hv _ _ _ _ (by with_unfolding_all first | exact (hget0 rfl).trans rfl | exact (hgetk rfl).trans rfl)).use ?_
      | with_reducible refine (failT _ _).use ?_
      | simp only [go_sem, ↓reduceIte, Nat.reduceEqDiff, reduceCtorEq, Nat.reduceAdd, Int.reduceEq, Int.reduceBNe, Int.reduceBEq, Int.reduceToNat, Int.reduceLT, Int.reduceLE, Int.reduceGT, Int.reduceGE, Nat.reduceSub, Nat.reduceBEq, Nat.reduceBNe, Int.reduceAdd, Int.reduceSub, Int.reduceMul, Int.reduceNeg, Nat.reduceMul, Nat.reduceLeDiff, Nat.reduceLT, h1, h2]
      | simp (disch := omega) only [wi64, wu8, wu16, wu32, wu64]
      | with_reducible_and_instances exact finR
      | ((with_reducible refine finR' ?_ ?_) <;> rfl)
      | ((with_reducible refine finD hsc (NRel.of_plain ?_)); exact rfl)
theorem NextC (n : Nat) (h : n ≤ 4096) (s : List UInt8) (hv : validB n s) (i : Nat) (hi : i ≤ n) (H : AHeap) : ARet Tryd.prog 24 [.int .i64 (n : Nat), .string (bs s), .int .i64 (i : Nat)] H (.tuple ⟨[.int .i64 (nextR (allL s) i).1, .int .i64 (nextR (allL s) i).2]⟩) H := by
  have hl := lon_le n
  have hsl := hv.1
  have hal := allL_len s
  have h1 : ¬ (i : Int) < 0 := by omega
  have h2 : ¬ (i : Int) > (n : Int) := by omega
  refine AC.enter Tryd.func24 rfl (by kernel_rfl) 31 rfl [.cell 6 3, .cell 7 24] rfl (by simp) fun hsc B => ?_
  repeat first
    | with_reducible refine AWP.seq ?_
    | ((with_reducible refine AWP.region ?_ ?_); exact rfl)
    | with_reducible refine AWP.block ?_
    | with_reducible refine AWP.skip ?_
    | with_reducible refine AWP.exit ?_
    | with_reducible refine AWP.ret ?_
    | with_reducible refine AWP.label ?_
    | with_reducible refine AWP.goto ?_
    | ((with_reducible refine AWP.condT ?_ ?_); focus (simp only [ev, lk_cons, ↓reduceIte, Nat.reduceEqDiff]; done))
    | ((with_reducible refine AWP.condF ?_ ?_); focus (simp only [ev, lk_cons, ↓reduceIte, Nat.reduceEqDiff]; done))
    | with_reducible refine (openC n h s hv _ _ _ _ (by with_unfolding_all first | exact (hget0 rfl).trans rfl | exact (hgetk rfl).trans rfl)).use ?_
    | with_reducible refine (failF _ _).use ?_
    | with_reducible refine (all _ _ _ s _).use ?_
    | simp only [go_sem, ↓reduceIte, Nat.reduceEqDiff, reduceCtorEq, Nat.reduceAdd, Int.reduceEq, Int.reduceBNe, Int.reduceBEq, Int.reduceToNat, Int.reduceLT, Int.reduceLE, Int.reduceGT, Int.reduceGE, Nat.reduceSub, Nat.reduceBEq, Nat.reduceBNe, Int.reduceAdd, Int.reduceSub, Int.reduceMul, Int.reduceNeg, Nat.reduceMul, Nat.reduceLeDiff, Nat.reduceLT, h1, h2]
    | simp (disch := omega) only [wi64, wu8, wu16, wu32, wu64]
    | with_reducible_and_instances exact finR
    | ((with_reducible refine finR' ?_ ?_) <;> rfl)
    | ((with_reducible refine finD hsc (NRel.of_plain ?_)); exact rfl)
  refine AWP.rangeS (all1 s (by omega) (H.length + 7) (H.length + 4) n s.length) rfl (by simp) (by simp only [go_sem, ↓reduceIte, Nat.reduceEqDiff, reduceCtorEq, Nat.reduceAdd, Int.reduceEq, Int.reduceBNe, Int.reduceBEq, Int.reduceToNat, Int.reduceLT, Int.reduceLE, Int.reduceGT, Int.reduceGE, Nat.reduceSub, Nat.reduceBEq, Nat.reduceBNe, Int.reduceAdd, Int.reduceSub, Int.reduceMul, Int.reduceNeg, Nat.reduceMul, Nat.reduceLeDiff, Nat.reduceLT]) fun L hL => 
    ⟨fun m H1 => ∃ R, (m ≤ (allL s).length ∧ ∀ j (hj : j < (allL s).length), j < m → (allL s)[j] < i) ∧ H1 = H ++ (.cells [.int .i64 (i : Nat)] ⟨3, 0, true, 0, none⟩ :: .cells [.int .i64 0] ⟨3, 0, true, 0, none⟩ :: .cells [.int .i64 0] ⟨24, 0, true, 0, none⟩ :: .cells [.string (bs s)] ⟨9, 0, true, 0, none⟩ :: .cells (bytesC s) ⟨5, 1, true, 0, none⟩ :: .cells [.int .i64 (n : Nat), .slice (some ⟨H.length + 4, 0, none⟩) s.length s.length] ⟨53, 2, true, 0, none⟩ :: .cells [.int .i64 (n : Nat), .slice (some ⟨H.length + 4, 0, none⟩) s.length s.length] ⟨53, 0, true, 0, none⟩ :: .cells [.int .i64 (n : Nat), .slice (some ⟨H.length + 4, 0, none⟩) s.length s.length] ⟨53, 0, true, 0, none⟩ :: .loop L :: R),
     fun H1 => ∃ R m, (∃ hm : m < (allL s).length, i ≤ (allL s)[m] ∧ ∀ j (hj : j < (allL s).length), j < m → (allL s)[j] < i) ∧ H1 = H ++ (.cells [.int .i64 (i : Nat)] ⟨3, 0, true, 0, none⟩ :: .cells [.int .i64 ((allL s).getD m 0 : Nat)] ⟨3, 0, true, 0, none⟩ :: .cells [.int .i64 0] ⟨24, 0, true, 0, none⟩ :: .cells [.string (bs s)] ⟨9, 0, true, 0, none⟩ :: .cells (bytesC s) ⟨5, 1, true, 0, none⟩ :: .cells [.int .i64 (n : Nat), .slice (some ⟨H.length + 4, 0, none⟩) s.length s.length] ⟨53, 2, true, 0, none⟩ :: .cells [.int .i64 (n : Nat), .slice (some ⟨H.length + 4, 0, none⟩) s.length s.length] ⟨53, 0, true, 0, none⟩ :: .cells [.int .i64 (n : Nat), .slice (some ⟨H.length + 4, 0, none⟩) s.length s.length] ⟨53, 0, true, 0, none⟩ :: .loop { L with state := .done, pending := some .ret } :: R),
    ⟨[], ⟨Nat.zero_le _, fun j hj h => by omega⟩, by simp only [List.append_assoc, List.cons_append, List.nil_append]⟩, fun m H1 ⟨R, h1, h2⟩ => by subst h2; exact ⟨⟨_, (by with_unfolding_all first | exact (hget0 rfl).trans rfl | exact (hgetk rfl).trans rfl)⟩, ⟨_, (by with_unfolding_all first | exact (hget0 rfl).trans rfl | exact (hgetk rfl).trans rfl)⟩⟩, fun m H1 X ⟨R, h1, h2⟩ => ⟨R ++ X, h1, by rw [h2]; simp⟩, ?_, ?_⟩
  · rintro m args H1 ha ⟨R, ⟨hm, hlt⟩, rfl⟩
    have hml : m < (allL s).length := by
      have := (List.getElem?_eq_some_iff.1 ha).1
      unfold allA at this
      simpa using this
    have hargs : args = [.int .i64 ((allL s)[m] : Nat)] := by
      unfold allA at ha
      rw [List.getElem?_map, List.getElem?_eq_getElem hml] at ha
      simpa using ha.symm
    subst hargs
    have hgd : (allL s).getD m 0 = (allL s)[m] := by rw [List.getD_eq_getElem?_getD, List.getElem?_eq_getElem hml]; rfl
    simp only [go_sem, ↓reduceIte, Nat.reduceEqDiff, reduceCtorEq, Nat.reduceAdd, Int.reduceEq, Int.reduceBNe, Int.reduceBEq, Int.reduceToNat, Int.reduceLT, Int.reduceLE, Int.reduceGT, Int.reduceGE, Nat.reduceSub, Nat.reduceBEq, Nat.reduceBNe, Int.reduceAdd, Int.reduceSub, Int.reduceMul, Int.reduceNeg, Nat.reduceMul, Nat.reduceLeDiff, Nat.reduceLT]
    refine AY.of (L := L) (by simp only [go_sem, ↓reduceIte, Nat.reduceEqDiff, reduceCtorEq, Nat.reduceAdd, Int.reduceEq, Int.reduceBNe, Int.reduceBEq, Int.reduceToNat, Int.reduceLT, Int.reduceLE, Int.reduceGT, Int.reduceGE, Nat.reduceSub, Nat.reduceBEq, Nat.reduceBNe, Int.reduceAdd, Int.reduceSub, Int.reduceMul, Int.reduceNeg, Nat.reduceMul, Nat.reduceLeDiff, Nat.reduceLT]) (by rw [hL]) (by rw [hL]; rfl) (by rw [hL]; simp) fun hsc2 lr B2 => ?_
    subst hL
    simp only [zipEnv]
    by_cases hc : i ≤ (allL s)[m]
    · have hc' : (((allL s)[m] : Nat) : Int) ≥ (i : Int) := by omega
      repeat first
        | with_reducible refine AWP.seq ?_
        | ((with_reducible refine AWP.region ?_ ?_); exact rfl)
        | with_reducible refine AWP.block ?_
        | with_reducible refine AWP.skip ?_
        | with_reducible refine AWP.exit ?_
        | with_reducible refine AWP.ret ?_
        | with_reducible refine AWP.label ?_
        | with_reducible refine AWP.goto ?_
        | ((with_reducible refine AWP.condT ?_ ?_); focus (simp only [ev, lk_cons, ↓reduceIte, Nat.reduceEqDiff]; done))
        | ((with_reducible refine AWP.condF ?_ ?_); focus (simp only [ev, lk_cons, ↓reduceIte, Nat.reduceEqDiff]; done))
        | simp only [go_sem, ↓reduceIte, Nat.reduceEqDiff, reduceCtorEq, Nat.reduceAdd, Int.reduceEq, Int.reduceBNe, Int.reduceBEq, Int.reduceToNat, Int.reduceLT, Int.reduceLE, Int.reduceGT, Int.reduceGE, Nat.reduceSub, Nat.reduceBEq, Nat.reduceBNe, Int.reduceAdd, Int.reduceSub, Int.reduceMul, Int.reduceNeg, Nat.reduceMul, Nat.reduceLeDiff, Nat.reduceLT, hc']
        | simp (disch := omega) only [wi64, wu8, wu16, wu32, wu64]
        | with_reducible_and_instances exact finR
        | ((with_reducible refine finR' ?_ ?_) <;> rfl)
        | ((with_reducible refine finD hsc (NRel.of_plain ?_)); exact rfl)
      exact ⟨_, .refl _ _ _, false, rfl, (fun e => by cases e), fun _ => ⟨R, m, ⟨hml, hc, hlt⟩, by rw [hgd]⟩⟩
    · have hc' : ¬ (((allL s)[m] : Nat) : Int) ≥ (i : Int) := by omega
      repeat first
        | with_reducible refine AWP.seq ?_
        | ((with_reducible refine AWP.region ?_ ?_); exact rfl)
        | with_reducible refine AWP.block ?_
        | with_reducible refine AWP.skip ?_
        | with_reducible refine AWP.exit ?_
        | with_reducible refine AWP.ret ?_
        | with_reducible refine AWP.label ?_
        | with_reducible refine AWP.goto ?_
        | ((with_reducible refine AWP.condT ?_ ?_); focus (simp only [ev, lk_cons, ↓reduceIte, Nat.reduceEqDiff]; done))
        | ((with_reducible refine AWP.condF ?_ ?_); focus (simp only [ev, lk_cons, ↓reduceIte, Nat.reduceEqDiff]; done))
        | simp only [go_sem, ↓reduceIte, Nat.reduceEqDiff, reduceCtorEq, Nat.reduceAdd, Int.reduceEq, Int.reduceBNe, Int.reduceBEq, Int.reduceToNat, Int.reduceLT, Int.reduceLE, Int.reduceGT, Int.reduceGE, Nat.reduceSub, Nat.reduceBEq, Nat.reduceBNe, Int.reduceAdd, Int.reduceSub, Int.reduceMul, Int.reduceNeg, Nat.reduceMul, Nat.reduceLeDiff, Nat.reduceLT, hc']
        | simp (disch := omega) only [wi64, wu8, wu16, wu32, wu64]
        | with_reducible_and_instances exact finR
        | ((with_reducible refine finR' ?_ ?_) <;> rfl)
        | ((with_reducible refine finD hsc (NRel.of_plain ?_)); exact rfl)
      exact ⟨_, .refl _ _ _, true, rfl, fun _ => ⟨by omega, fun j hj h => (Nat.lt_succ_iff_lt_or_eq.1 h).elim (hlt j hj) (fun e => by subst e; omega), R, rfl⟩, fun e => by cases e⟩
  · rintro H2 (⟨R, ⟨hm, hlt⟩, rfl⟩ | ⟨R, m, ⟨hm, hge, hlt⟩, rfl⟩)
    · subst hL
      unfold allA at hlt hm
      rw [List.length_map] at hlt hm
      rw [find_none (fun j hj => hlt j hj hj)]
      repeat first
        | with_reducible refine caughtR ?_
        | with_reducible refine AWP.seq ?_
        | ((with_reducible refine AWP.region ?_ ?_); exact rfl)
        | with_reducible refine AWP.block ?_
        | with_reducible refine AWP.skip ?_
        | with_reducible refine AWP.exit ?_
        | with_reducible refine AWP.ret ?_
        | with_reducible refine AWP.label ?_
        | with_reducible refine AWP.goto ?_
        | ((with_reducible refine AWP.condT ?_ ?_); focus (simp only [ev, lk_cons, ↓reduceIte, Nat.reduceEqDiff]; done))
        | ((with_reducible refine AWP.condF ?_ ?_); focus (simp only [ev, lk_cons, ↓reduceIte, Nat.reduceEqDiff]; done))
        | simp only [go_sem, ↓reduceIte, Nat.reduceEqDiff, reduceCtorEq, Nat.reduceAdd, Int.reduceEq, Int.reduceBNe, Int.reduceBEq, Int.reduceToNat, Int.reduceLT, Int.reduceLE, Int.reduceGT, Int.reduceGE, Nat.reduceSub, Nat.reduceBEq, Nat.reduceBNe, Int.reduceAdd, Int.reduceSub, Int.reduceMul, Int.reduceNeg, Nat.reduceMul, Nat.reduceLeDiff, Nat.reduceLT]
        | simp (disch := omega) only [wi64, wu8, wu16, wu32, wu64]
        | with_reducible_and_instances exact finR
        | ((with_reducible refine finR' ?_ ?_) <;> rfl)
        | ((with_reducible refine finD hsc (NRel.of_plain ?_)); exact rfl)
    · subst hL
      rw [find_some hm hlt hge]
      have hgd : (allL s).getD m 0 = (allL s)[m] := by rw [List.getD_eq_getElem?_getD, List.getElem?_eq_getElem hm]; rfl
      rw [hgd]
      repeat first
        | with_reducible refine caughtR ?_
        | with_reducible refine AWP.seq ?_
        | ((with_reducible refine AWP.region ?_ ?_); exact rfl)
        | with_reducible refine AWP.block ?_
        | with_reducible refine AWP.skip ?_
        | with_reducible refine AWP.exit ?_
        | with_reducible refine AWP.ret ?_
        | with_reducible refine AWP.label ?_
        | with_reducible refine AWP.goto ?_
        | ((with_reducible refine AWP.condT ?_ ?_); focus (simp only [ev, lk_cons, ↓reduceIte, Nat.reduceEqDiff]; done))
        | ((with_reducible refine AWP.condF ?_ ?_); focus (simp only [ev, lk_cons, ↓reduceIte, Nat.reduceEqDiff]; done))
        | simp only [go_sem, ↓reduceIte, Nat.reduceEqDiff, reduceCtorEq, Nat.reduceAdd, Int.reduceEq, Int.reduceBNe, Int.reduceBEq, Int.reduceToNat, Int.reduceLT, Int.reduceLE, Int.reduceGT, Int.reduceGE, Nat.reduceSub, Nat.reduceBEq, Nat.reduceBNe, Int.reduceAdd, Int.reduceSub, Int.reduceMul, Int.reduceNeg, Nat.reduceMul, Nat.reduceLeDiff, Nat.reduceLT]
        | simp (disch := omega) only [wi64, wu8, wu16, wu32, wu64]
        | with_reducible_and_instances exact finR
        | ((with_reducible refine finR' ?_ ?_) <;> rfl)
        | ((with_reducible refine finD hsc (NRel.of_plain ?_)); exact rfl)
/-- How many bits are below a number. -/
def rankR (l : List Nat) (i : Nat) : Nat := (l.filter fun x => decide (x < i)).length
theorem allL_sorted (s : List UInt8) : (allL s).Pairwise (· < ·) := List.Pairwise.filter _ List.pairwise_lt_range
theorem rank_at {l : List Nat} {i m : Nat} (hs : l.Pairwise (· < ·)) (hm : m ≤ l.length) (h1 : ∀ j (hj : j < l.length), j < m → l[j] < i) (h2 : ∀ (h : m < l.length), i ≤ l[m]) : rankR l i = m := by
  unfold rankR
  have e : l.filter (fun x => decide (x < i)) = l.take m := by
    have e1 : l = l.take m ++ l.drop m := (List.take_append_drop m l).symm
    rw [e1, List.filter_append]
    rw [List.filter_eq_self.2, List.filter_eq_nil_iff.2]
    · rw [List.append_nil, List.take_append_drop]
    · intro x hx
      obtain ⟨j, hj, rfl⟩ := List.mem_iff_getElem.1 hx
      rw [List.length_drop] at hj
      rw [List.getElem_drop]
      have hml : m < l.length := by omega
      have := h2 hml
      rcases Nat.eq_zero_or_pos j with rfl | hj0
      · simpa using this
      · have := List.pairwise_iff_getElem.1 hs m (m + j) hml (by omega) (by omega)
        simp; omega
    · intro x hx
      obtain ⟨j, hj, rfl⟩ := List.mem_iff_getElem.1 hx
      rw [List.length_take] at hj
      rw [List.getElem_take]
      simpa using h1 j (by omega) (by omega)
  rw [e, List.length_take]; omega
theorem RankD (n : Nat) (h : n ≤ 4096) (s : List UInt8) (hv : validB n s) (i : Int) (hi : i < 0 ∨ (n : Int) < i) (H : AHeap) : ARet Tryd.prog 38 [.int .i64 (n : Nat), .string (bs s), .int .i64 i] H (.tuple ⟨[.int .i64 0, .int .i64 7]⟩) H := by
  by_cases h1 : i < 0
  · skip
    refine AC.enter Tryd.func38 rfl (by kernel_rfl) 33 rfl [.cell 6 3, .cell 7 24] rfl (by simp) fun hsc B => ?_
    repeat first
      | with_reducible refine caughtP (by with_unfolding_all first | exact (hget0 rfl).trans rfl | exact (hgetk rfl).trans rfl) ?_
      | with_reducible refine caughtR ?_
      | with_reducible refine AWP.seq ?_
      | ((with_reducible refine AWP.region ?_ ?_); exact rfl)
      | with_reducible refine AWP.block ?_
      | with_reducible refine AWP.skip ?_
      | with_reducible refine AWP.exit ?_
      | with_reducible refine AWP.ret ?_
      | with_reducible refine AWP.label ?_
      | with_reducible refine AWP.goto ?_
      | ((with_reducible refine AWP.condT ?_ ?_); focus (simp only [ev, lk_cons, ↓reduceIte, Nat.reduceEqDiff]; done))
      | ((with_reducible refine AWP.condF ?_ ?_); focus (simp only [ev, lk_cons, ↓reduceIte, Nat.reduceEqDiff]; done))
      | with_reducible refine (openC n h s hv _ _ _ _ (by with_unfolding_all first | exact (hget0 rfl).trans rfl | exact (hgetk rfl).trans rfl)).use ?_
      | with_reducible refine (failT _ _).use ?_
      | simp only [go_sem, ↓reduceIte, Nat.reduceEqDiff, reduceCtorEq, Nat.reduceAdd, Int.reduceEq, Int.reduceBNe, Int.reduceBEq, Int.reduceToNat, Int.reduceLT, Int.reduceLE, Int.reduceGT, Int.reduceGE, Nat.reduceSub, Nat.reduceBEq, Nat.reduceBNe, Int.reduceAdd, Int.reduceSub, Int.reduceMul, Int.reduceNeg, Nat.reduceMul, Nat.reduceLeDiff, Nat.reduceLT, h1]
      | simp (disch := omega) only [wi64, wu8, wu16, wu32, wu64]
      | with_reducible_and_instances exact finR
      | ((with_reducible refine finR' ?_ ?_) <;> rfl)
      | ((with_reducible refine finD hsc (NRel.of_plain ?_)); exact rfl)
  · have h2 : i > (n : Int) := by omega
    refine AC.enter Tryd.func38 rfl (by kernel_rfl) 33 rfl [.cell 6 3, .cell 7 24] rfl (by simp) fun hsc B => ?_
    repeat first
      | with_reducible refine caughtP (by with_unfolding_all first | exact (hget0 rfl).trans rfl | exact (hgetk rfl).trans rfl) ?_
      | with_reducible refine caughtR ?_
      | with_reducible refine AWP.seq ?_
      | ((with_reducible refine AWP.region ?_ ?_); exact rfl)
      | with_reducible refine AWP.block ?_
      | with_reducible refine AWP.skip ?_
      | with_reducible refine AWP.exit ?_
      | with_reducible refine AWP.ret ?_
      | with_reducible refine AWP.label ?_
      | with_reducible refine AWP.goto ?_
      | ((with_reducible refine AWP.condT ?_ ?_); focus (simp only [ev, lk_cons, ↓reduceIte, Nat.reduceEqDiff]; done))
      | ((with_reducible refine AWP.condF ?_ ?_); focus (simp only [ev, lk_cons, ↓reduceIte, Nat.reduceEqDiff]; done))
      | with_reducible refine (openC n h s hv _ _ _ _ (by with_unfolding_all first | exact (hget0 rfl).trans rfl | exact (hgetk rfl).trans rfl)).use ?_
      | with_reducible refine (failT _ _).use ?_
      | simp only [go_sem, ↓reduceIte, Nat.reduceEqDiff, reduceCtorEq, Nat.reduceAdd, Int.reduceEq, Int.reduceBNe, Int.reduceBEq, Int.reduceToNat, Int.reduceLT, Int.reduceLE, Int.reduceGT, Int.reduceGE, Nat.reduceSub, Nat.reduceBEq, Nat.reduceBNe, Int.reduceAdd, Int.reduceSub, Int.reduceMul, Int.reduceNeg, Nat.reduceMul, Nat.reduceLeDiff, Nat.reduceLT, h1, h2]
      | simp (disch := omega) only [wi64, wu8, wu16, wu32, wu64]
      | with_reducible_and_instances exact finR
      | ((with_reducible refine finR' ?_ ?_) <;> rfl)
      | ((with_reducible refine finD hsc (NRel.of_plain ?_)); exact rfl)
theorem RankC (n : Nat) (h : n ≤ 4096) (s : List UInt8) (hv : validB n s) (i : Nat) (hi : i ≤ n) (H : AHeap) : ARet Tryd.prog 38 [.int .i64 (n : Nat), .string (bs s), .int .i64 (i : Nat)] H (.tuple ⟨[.int .i64 (rankR (allL s) i : Nat), .int .i64 0]⟩) H := by
  have hl := lon_le n
  have hsl := hv.1
  have hal := allL_len s
  have h1 : ¬ (i : Int) < 0 := by omega
  have h2 : ¬ (i : Int) > (n : Int) := by omega
  refine AC.enter Tryd.func38 rfl (by kernel_rfl) 33 rfl [.cell 6 3, .cell 7 24] rfl (by simp) fun hsc B => ?_
  repeat first
    | with_reducible refine AWP.seq ?_
    | ((with_reducible refine AWP.region ?_ ?_); exact rfl)
    | with_reducible refine AWP.block ?_
    | with_reducible refine AWP.skip ?_
    | with_reducible refine AWP.exit ?_
    | with_reducible refine AWP.ret ?_
    | with_reducible refine AWP.label ?_
    | with_reducible refine AWP.goto ?_
    | ((with_reducible refine AWP.condT ?_ ?_); focus (simp only [ev, lk_cons, ↓reduceIte, Nat.reduceEqDiff]; done))
    | ((with_reducible refine AWP.condF ?_ ?_); focus (simp only [ev, lk_cons, ↓reduceIte, Nat.reduceEqDiff]; done))
    | with_reducible refine (openC n h s hv _ _ _ _ (by with_unfolding_all first | exact (hget0 rfl).trans rfl | exact (hgetk rfl).trans rfl)).use ?_
    | with_reducible refine (failF _ _).use ?_
    | with_reducible refine (all _ _ _ s _).use ?_
    | simp only [go_sem, ↓reduceIte, Nat.reduceEqDiff, reduceCtorEq, Nat.reduceAdd, Int.reduceEq, Int.reduceBNe, Int.reduceBEq, Int.reduceToNat, Int.reduceLT, Int.reduceLE, Int.reduceGT, Int.reduceGE, Nat.reduceSub, Nat.reduceBEq, Nat.reduceBNe, Int.reduceAdd, Int.reduceSub, Int.reduceMul, Int.reduceNeg, Nat.reduceMul, Nat.reduceLeDiff, Nat.reduceLT, h1, h2]
    | simp (disch := omega) only [wi64, wu8, wu16, wu32, wu64]
    | with_reducible_and_instances exact finR
    | ((with_reducible refine finR' ?_ ?_) <;> rfl)
    | ((with_reducible refine finD hsc (NRel.of_plain ?_)); exact rfl)
  refine AWP.rangeS (all1 s (by omega) (H.length + 7) (H.length + 4) n s.length) rfl (by simp) (by simp only [go_sem, ↓reduceIte, Nat.reduceEqDiff, reduceCtorEq, Nat.reduceAdd, Int.reduceEq, Int.reduceBNe, Int.reduceBEq, Int.reduceToNat, Int.reduceLT, Int.reduceLE, Int.reduceGT, Int.reduceGE, Nat.reduceSub, Nat.reduceBEq, Nat.reduceBNe, Int.reduceAdd, Int.reduceSub, Int.reduceMul, Int.reduceNeg, Nat.reduceMul, Nat.reduceLeDiff, Nat.reduceLT]) fun L hL => 
    ⟨fun m H1 => ∃ R, (m ≤ (allL s).length ∧ ∀ j (hj : j < (allL s).length), j < m → (allL s)[j] < i) ∧ H1 = H ++ (.cells [.int .i64 (i : Nat)] ⟨3, 0, true, 0, none⟩ :: .cells [.int .i64 (m : Nat)] ⟨3, 0, true, 0, none⟩ :: .cells [.int .i64 0] ⟨24, 0, true, 0, none⟩ :: .cells [.string (bs s)] ⟨9, 0, true, 0, none⟩ :: .cells (bytesC s) ⟨5, 1, true, 0, none⟩ :: .cells [.int .i64 (n : Nat), .slice (some ⟨H.length + 4, 0, none⟩) s.length s.length] ⟨53, 2, true, 0, none⟩ :: .cells [.int .i64 (n : Nat), .slice (some ⟨H.length + 4, 0, none⟩) s.length s.length] ⟨53, 0, true, 0, none⟩ :: .cells [.int .i64 (n : Nat), .slice (some ⟨H.length + 4, 0, none⟩) s.length s.length] ⟨53, 0, true, 0, none⟩ :: .loop L :: R),
     fun H1 => ∃ R m, (∃ hm : m < (allL s).length, i ≤ (allL s)[m] ∧ ∀ j (hj : j < (allL s).length), j < m → (allL s)[j] < i) ∧ H1 = H ++ (.cells [.int .i64 (i : Nat)] ⟨3, 0, true, 0, none⟩ :: .cells [.int .i64 (m : Nat)] ⟨3, 0, true, 0, none⟩ :: .cells [.int .i64 0] ⟨24, 0, true, 0, none⟩ :: .cells [.string (bs s)] ⟨9, 0, true, 0, none⟩ :: .cells (bytesC s) ⟨5, 1, true, 0, none⟩ :: .cells [.int .i64 (n : Nat), .slice (some ⟨H.length + 4, 0, none⟩) s.length s.length] ⟨53, 2, true, 0, none⟩ :: .cells [.int .i64 (n : Nat), .slice (some ⟨H.length + 4, 0, none⟩) s.length s.length] ⟨53, 0, true, 0, none⟩ :: .cells [.int .i64 (n : Nat), .slice (some ⟨H.length + 4, 0, none⟩) s.length s.length] ⟨53, 0, true, 0, none⟩ :: .loop { L with state := .done, pending := some (.exit 0) } :: R),
    ⟨[], ⟨Nat.zero_le _, fun j hj h => by omega⟩, by simp only [List.append_assoc, List.cons_append, List.nil_append, Nat.sub_zero]; rfl⟩, fun m H1 ⟨R, h1, h2⟩ => by subst h2; exact ⟨⟨_, (by with_unfolding_all first | exact (hget0 rfl).trans rfl | exact (hgetk rfl).trans rfl)⟩, ⟨_, (by with_unfolding_all first | exact (hget0 rfl).trans rfl | exact (hgetk rfl).trans rfl)⟩⟩, fun m H1 X ⟨R, h1, h2⟩ => ⟨R ++ X, h1, by rw [h2]; simp⟩, ?_, ?_⟩
  · rintro m args H1 ha ⟨R, ⟨hm, hlt⟩, rfl⟩
    have hml : m < (allL s).length := by
      have := (List.getElem?_eq_some_iff.1 ha).1
      unfold allA at this
      simpa using this
    have hargs : args = [.int .i64 ((allL s)[m] : Nat)] := by
      unfold allA at ha
      rw [List.getElem?_map, List.getElem?_eq_getElem hml] at ha
      simpa using ha.symm
    subst hargs
    have hgd : (allL s).getD m 0 = (allL s)[m] := by rw [List.getD_eq_getElem?_getD, List.getElem?_eq_getElem hml]; rfl
    simp only [go_sem, ↓reduceIte, Nat.reduceEqDiff, reduceCtorEq, Nat.reduceAdd, Int.reduceEq, Int.reduceBNe, Int.reduceBEq, Int.reduceToNat, Int.reduceLT, Int.reduceLE, Int.reduceGT, Int.reduceGE, Nat.reduceSub, Nat.reduceBEq, Nat.reduceBNe, Int.reduceAdd, Int.reduceSub, Int.reduceMul, Int.reduceNeg, Nat.reduceMul, Nat.reduceLeDiff, Nat.reduceLT]
    refine AY.of (L := L) (by simp only [go_sem, ↓reduceIte, Nat.reduceEqDiff, reduceCtorEq, Nat.reduceAdd, Int.reduceEq, Int.reduceBNe, Int.reduceBEq, Int.reduceToNat, Int.reduceLT, Int.reduceLE, Int.reduceGT, Int.reduceGE, Nat.reduceSub, Nat.reduceBEq, Nat.reduceBNe, Int.reduceAdd, Int.reduceSub, Int.reduceMul, Int.reduceNeg, Nat.reduceMul, Nat.reduceLeDiff, Nat.reduceLT]) (by rw [hL]) (by rw [hL]; rfl) (by rw [hL]; simp) fun hsc2 lr B2 => ?_
    subst hL
    simp only [zipEnv]
    by_cases hc : i ≤ (allL s)[m]
    · have hc' : (((allL s)[m] : Nat) : Int) ≥ (i : Int) := by omega
      repeat first
        | with_reducible refine AWP.seq ?_
        | ((with_reducible refine AWP.region ?_ ?_); exact rfl)
        | with_reducible refine AWP.block ?_
        | with_reducible refine AWP.skip ?_
        | with_reducible refine AWP.exit ?_
        | with_reducible refine AWP.ret ?_
        | with_reducible refine AWP.label ?_
        | with_reducible refine AWP.goto ?_
        | ((with_reducible refine AWP.condT ?_ ?_); focus (simp only [ev, lk_cons, ↓reduceIte, Nat.reduceEqDiff]; done))
        | ((with_reducible refine AWP.condF ?_ ?_); focus (simp only [ev, lk_cons, ↓reduceIte, Nat.reduceEqDiff]; done))
        | simp only [go_sem, ↓reduceIte, Nat.reduceEqDiff, reduceCtorEq, Nat.reduceAdd, Int.reduceEq, Int.reduceBNe, Int.reduceBEq, Int.reduceToNat, Int.reduceLT, Int.reduceLE, Int.reduceGT, Int.reduceGE, Nat.reduceSub, Nat.reduceBEq, Nat.reduceBNe, Int.reduceAdd, Int.reduceSub, Int.reduceMul, Int.reduceNeg, Nat.reduceMul, Nat.reduceLeDiff, Nat.reduceLT, hc']
        | simp (disch := omega) only [wi64, wu8, wu16, wu32, wu64]
        | with_reducible_and_instances exact finR
        | ((with_reducible refine finR' ?_ ?_) <;> rfl)
        | ((with_reducible refine finD hsc (NRel.of_plain ?_)); exact rfl)
      exact ⟨_, .refl _ _ _, false, rfl, (fun e => by cases e), fun _ => ⟨R, m, ⟨hml, hc, hlt⟩, rfl⟩⟩
    · have hc' : ¬ (((allL s)[m] : Nat) : Int) ≥ (i : Int) := by omega
      repeat first
        | with_reducible refine AWP.seq ?_
        | ((with_reducible refine AWP.region ?_ ?_); exact rfl)
        | with_reducible refine AWP.block ?_
        | with_reducible refine AWP.skip ?_
        | with_reducible refine AWP.exit ?_
        | with_reducible refine AWP.ret ?_
        | with_reducible refine AWP.label ?_
        | with_reducible refine AWP.goto ?_
        | ((with_reducible refine AWP.condT ?_ ?_); focus (simp only [ev, lk_cons, ↓reduceIte, Nat.reduceEqDiff]; done))
        | ((with_reducible refine AWP.condF ?_ ?_); focus (simp only [ev, lk_cons, ↓reduceIte, Nat.reduceEqDiff]; done))
        | simp only [go_sem, ↓reduceIte, Nat.reduceEqDiff, reduceCtorEq, Nat.reduceAdd, Int.reduceEq, Int.reduceBNe, Int.reduceBEq, Int.reduceToNat, Int.reduceLT, Int.reduceLE, Int.reduceGT, Int.reduceGE, Nat.reduceSub, Nat.reduceBEq, Nat.reduceBNe, Int.reduceAdd, Int.reduceSub, Int.reduceMul, Int.reduceNeg, Nat.reduceMul, Nat.reduceLeDiff, Nat.reduceLT, hc']
        | simp (disch := omega) only [wi64, wu8, wu16, wu32, wu64]
        | with_reducible_and_instances exact finR
        | ((with_reducible refine finR' ?_ ?_) <;> rfl)
        | ((with_reducible refine finD hsc (NRel.of_plain ?_)); exact rfl)
      exact ⟨_, .refl _ _ _, true, rfl, fun _ => ⟨by omega, fun j hj h => (Nat.lt_succ_iff_lt_or_eq.1 h).elim (hlt j hj) (fun e => by subst e; omega), R, rfl⟩, fun e => by cases e⟩
  · rintro H2 (⟨R, ⟨hm, hlt⟩, rfl⟩ | ⟨R, m, ⟨hm, hge, hlt⟩, rfl⟩)
    · subst hL
      unfold allA at hlt hm ⊢
      rw [List.length_map] at hlt hm ⊢
      rw [rank_at (allL_sorted s) (Nat.le_refl _) (fun j hj h => hlt j hj h) (fun h => by omega)]
      repeat first
        | with_reducible refine caughtR ?_
        | with_reducible refine AWP.seq ?_
        | ((with_reducible refine AWP.region ?_ ?_); exact rfl)
        | with_reducible refine AWP.block ?_
        | with_reducible refine AWP.skip ?_
        | with_reducible refine AWP.exit ?_
        | with_reducible refine AWP.ret ?_
        | with_reducible refine AWP.label ?_
        | with_reducible refine AWP.goto ?_
        | ((with_reducible refine AWP.condT ?_ ?_); focus (simp only [ev, lk_cons, ↓reduceIte, Nat.reduceEqDiff]; done))
        | ((with_reducible refine AWP.condF ?_ ?_); focus (simp only [ev, lk_cons, ↓reduceIte, Nat.reduceEqDiff]; done))
        | simp only [go_sem, ↓reduceIte, Nat.reduceEqDiff, reduceCtorEq, Nat.reduceAdd, Int.reduceEq, Int.reduceBNe, Int.reduceBEq, Int.reduceToNat, Int.reduceLT, Int.reduceLE, Int.reduceGT, Int.reduceGE, Nat.reduceSub, Nat.reduceBEq, Nat.reduceBNe, Int.reduceAdd, Int.reduceSub, Int.reduceMul, Int.reduceNeg, Nat.reduceMul, Nat.reduceLeDiff, Nat.reduceLT]
        | simp (disch := omega) only [wi64, wu8, wu16, wu32, wu64]
        | with_reducible_and_instances exact finR
        | ((with_reducible refine finR' ?_ ?_) <;> rfl)
        | ((with_reducible refine finD hsc (NRel.of_plain ?_)); exact rfl)
    · subst hL
      rw [rank_at (allL_sorted s) (Nat.le_of_lt hm) hlt (fun _ => hge)]
      repeat first
        | with_reducible refine caughtR ?_
        | with_reducible refine AWP.seq ?_
        | ((with_reducible refine AWP.region ?_ ?_); exact rfl)
        | with_reducible refine AWP.block ?_
        | with_reducible refine AWP.skip ?_
        | with_reducible refine AWP.exit ?_
        | with_reducible refine AWP.ret ?_
        | with_reducible refine AWP.label ?_
        | with_reducible refine AWP.goto ?_
        | ((with_reducible refine AWP.condT ?_ ?_); focus (simp only [ev, lk_cons, ↓reduceIte, Nat.reduceEqDiff]; done))
        | ((with_reducible refine AWP.condF ?_ ?_); focus (simp only [ev, lk_cons, ↓reduceIte, Nat.reduceEqDiff]; done))
        | simp only [go_sem, ↓reduceIte, Nat.reduceEqDiff, reduceCtorEq, Nat.reduceAdd, Int.reduceEq, Int.reduceBNe, Int.reduceBEq, Int.reduceToNat, Int.reduceLT, Int.reduceLE, Int.reduceGT, Int.reduceGE, Nat.reduceSub, Nat.reduceBEq, Nat.reduceBNe, Int.reduceAdd, Int.reduceSub, Int.reduceMul, Int.reduceNeg, Nat.reduceMul, Nat.reduceLeDiff, Nat.reduceLT]
        | simp (disch := omega) only [wi64, wu8, wu16, wu32, wu64]
        | with_reducible_and_instances exact finR
        | ((with_reducible refine finR' ?_ ?_) <;> rfl)
        | ((with_reducible refine finD hsc (NRel.of_plain ?_)); exact rfl)
def selR (l : List Nat) (k : Nat) : Int × Int := match l[k]? with | some x => (((x : Nat) : Int), 0) | none => (0, 8)
theorem SelectD (n : Nat) (h : n ≤ 4096) (s : List UInt8) (hv : validB n s) (i : Int) (h1 : i < 0) (H : AHeap) : ARet Tryd.prog 40 [.int .i64 (n : Nat), .string (bs s), .int .i64 i] H (.tuple ⟨[.int .i64 0, .int .i64 7]⟩) H := by
  refine AC.enter Tryd.func40 rfl (by kernel_rfl) 27 rfl [.cell 6 3, .cell 7 24] rfl (by simp) fun hsc B => ?_
  repeat first
    | with_reducible refine caughtP (by with_unfolding_all first | exact (hget0 rfl).trans rfl | exact (hgetk rfl).trans rfl) ?_
    | with_reducible refine caughtR ?_
    | with_reducible refine AWP.seq ?_
    | ((with_reducible refine AWP.region ?_ ?_); exact rfl)
    | with_reducible refine AWP.block ?_
    | with_reducible refine AWP.skip ?_
    | with_reducible refine AWP.exit ?_
    | with_reducible refine AWP.ret ?_
    | with_reducible refine AWP.label ?_
    | with_reducible refine AWP.goto ?_
    | ((with_reducible refine AWP.condT ?_ ?_); focus (simp only [ev, lk_cons, ↓reduceIte, Nat.reduceEqDiff]; done))
    | ((with_reducible refine AWP.condF ?_ ?_); focus (simp only [ev, lk_cons, ↓reduceIte, Nat.reduceEqDiff]; done))
    | with_reducible refine (openC n h s hv _ _ _ _ (by with_unfolding_all first | exact (hget0 rfl).trans rfl | exact (hgetk rfl).trans rfl)).use ?_
    | with_reducible refine (failT _ _).use ?_
    | simp only [go_sem, ↓reduceIte, Nat.reduceEqDiff, reduceCtorEq, Nat.reduceAdd, Int.reduceEq, Int.reduceBNe, Int.reduceBEq, Int.reduceToNat, Int.reduceLT, Int.reduceLE, Int.reduceGT, Int.reduceGE, Nat.reduceSub, Nat.reduceBEq, Nat.reduceBNe, Int.reduceAdd, Int.reduceSub, Int.reduceMul, Int.reduceNeg, Nat.reduceMul, Nat.reduceLeDiff, Nat.reduceLT, h1]
    | simp (disch := omega) only [wi64, wu8, wu16, wu32, wu64]
    | with_reducible_and_instances exact finR
    | ((with_reducible refine finR' ?_ ?_) <;> rfl)
    | ((with_reducible refine finD hsc (NRel.of_plain ?_)); exact rfl)
theorem SelectC (n : Nat) (h : n ≤ 4096) (s : List UInt8) (hv : validB n s) (i : Nat) (hi : i ≤ 9223372036854775807) (H : AHeap) : ARet Tryd.prog 40 [.int .i64 (n : Nat), .string (bs s), .int .i64 (i : Nat)] H (.tuple ⟨[.int .i64 (selR (allL s) i).1, .int .i64 (selR (allL s) i).2]⟩) H := by
  have hl := lon_le n
  have hsl := hv.1
  have hal := allL_len s
  have h1 : ¬ (i : Int) < 0 := by omega
  refine AC.enter Tryd.func40 rfl (by kernel_rfl) 27 rfl [.cell 6 3, .cell 7 24] rfl (by simp) fun hsc B => ?_
  repeat first
    | with_reducible refine AWP.seq ?_
    | ((with_reducible refine AWP.region ?_ ?_); exact rfl)
    | with_reducible refine AWP.block ?_
    | with_reducible refine AWP.skip ?_
    | with_reducible refine AWP.exit ?_
    | with_reducible refine AWP.ret ?_
    | with_reducible refine AWP.label ?_
    | with_reducible refine AWP.goto ?_
    | ((with_reducible refine AWP.condT ?_ ?_); focus (simp only [ev, lk_cons, ↓reduceIte, Nat.reduceEqDiff]; done))
    | ((with_reducible refine AWP.condF ?_ ?_); focus (simp only [ev, lk_cons, ↓reduceIte, Nat.reduceEqDiff]; done))
    | with_reducible refine (openC n h s hv _ _ _ _ (by with_unfolding_all first | exact (hget0 rfl).trans rfl | exact (hgetk rfl).trans rfl)).use ?_
    | with_reducible refine (failF _ _).use ?_
    | with_reducible refine (all _ _ _ s _).use ?_
    | simp only [go_sem, ↓reduceIte, Nat.reduceEqDiff, reduceCtorEq, Nat.reduceAdd, Int.reduceEq, Int.reduceBNe, Int.reduceBEq, Int.reduceToNat, Int.reduceLT, Int.reduceLE, Int.reduceGT, Int.reduceGE, Nat.reduceSub, Nat.reduceBEq, Nat.reduceBNe, Int.reduceAdd, Int.reduceSub, Int.reduceMul, Int.reduceNeg, Nat.reduceMul, Nat.reduceLeDiff, Nat.reduceLT, h1]
    | simp (disch := omega) only [wi64, wu8, wu16, wu32, wu64]
    | with_reducible_and_instances exact finR
    | ((with_reducible refine finR' ?_ ?_) <;> rfl)
    | ((with_reducible refine finD hsc (NRel.of_plain ?_)); exact rfl)
  refine AWP.rangeS (all1 s (by omega) (H.length + 7) (H.length + 4) n s.length) rfl (by simp) (by simp only [go_sem, ↓reduceIte, Nat.reduceEqDiff, reduceCtorEq, Nat.reduceAdd, Int.reduceEq, Int.reduceBNe, Int.reduceBEq, Int.reduceToNat, Int.reduceLT, Int.reduceLE, Int.reduceGT, Int.reduceGE, Nat.reduceSub, Nat.reduceBEq, Nat.reduceBNe, Int.reduceAdd, Int.reduceSub, Int.reduceMul, Int.reduceNeg, Nat.reduceMul, Nat.reduceLeDiff, Nat.reduceLT]) fun L hL => 
    ⟨fun m H1 => ∃ R, (m ≤ (allL s).length ∧ m ≤ i) ∧ H1 = H ++ (.cells [.int .i64 (i - m : Nat)] ⟨3, 0, true, 0, none⟩ :: .cells [.int .i64 0] ⟨3, 0, true, 0, none⟩ :: .cells [.int .i64 0] ⟨24, 0, true, 0, none⟩ :: .cells [.string (bs s)] ⟨9, 0, true, 0, none⟩ :: .cells (bytesC s) ⟨5, 1, true, 0, none⟩ :: .cells [.int .i64 (n : Nat), .slice (some ⟨H.length + 4, 0, none⟩) s.length s.length] ⟨53, 2, true, 0, none⟩ :: .cells [.int .i64 (n : Nat), .slice (some ⟨H.length + 4, 0, none⟩) s.length s.length] ⟨53, 0, true, 0, none⟩ :: .cells [.int .i64 (n : Nat), .slice (some ⟨H.length + 4, 0, none⟩) s.length s.length] ⟨53, 0, true, 0, none⟩ :: .loop L :: R),
     fun H1 => ∃ R m, (m < (allL s).length ∧ m = i) ∧ H1 = H ++ (.cells [.int .i64 (i - m : Nat)] ⟨3, 0, true, 0, none⟩ :: .cells [.int .i64 ((allL s).getD m 0 : Nat)] ⟨3, 0, true, 0, none⟩ :: .cells [.int .i64 0] ⟨24, 0, true, 0, none⟩ :: .cells [.string (bs s)] ⟨9, 0, true, 0, none⟩ :: .cells (bytesC s) ⟨5, 1, true, 0, none⟩ :: .cells [.int .i64 (n : Nat), .slice (some ⟨H.length + 4, 0, none⟩) s.length s.length] ⟨53, 2, true, 0, none⟩ :: .cells [.int .i64 (n : Nat), .slice (some ⟨H.length + 4, 0, none⟩) s.length s.length] ⟨53, 0, true, 0, none⟩ :: .cells [.int .i64 (n : Nat), .slice (some ⟨H.length + 4, 0, none⟩) s.length s.length] ⟨53, 0, true, 0, none⟩ :: .loop { L with state := .done, pending := some .ret } :: R),
    ⟨[], ⟨Nat.zero_le _, Nat.zero_le _⟩, by simp only [List.append_assoc, List.cons_append, List.nil_append, Nat.sub_zero]⟩, fun m H1 ⟨R, h1, h2⟩ => by subst h2; exact ⟨⟨_, (by with_unfolding_all first | exact (hget0 rfl).trans rfl | exact (hgetk rfl).trans rfl)⟩, ⟨_, (by with_unfolding_all first | exact (hget0 rfl).trans rfl | exact (hgetk rfl).trans rfl)⟩⟩, fun m H1 X ⟨R, h1, h2⟩ => ⟨R ++ X, h1, by rw [h2]; simp⟩, ?_, ?_⟩
  · rintro m args H1 ha ⟨R, ⟨hm, hlt⟩, rfl⟩
    have hml : m < (allL s).length := by
      have := (List.getElem?_eq_some_iff.1 ha).1
      unfold allA at this
      simpa using this
    have hargs : args = [.int .i64 ((allL s)[m] : Nat)] := by
      unfold allA at ha
      rw [List.getElem?_map, List.getElem?_eq_getElem hml] at ha
      simpa using ha.symm
    subst hargs
    have hgd : (allL s).getD m 0 = (allL s)[m] := by rw [List.getD_eq_getElem?_getD, List.getElem?_eq_getElem hml]; rfl
    simp only [go_sem, ↓reduceIte, Nat.reduceEqDiff, reduceCtorEq, Nat.reduceAdd, Int.reduceEq, Int.reduceBNe, Int.reduceBEq, Int.reduceToNat, Int.reduceLT, Int.reduceLE, Int.reduceGT, Int.reduceGE, Nat.reduceSub, Nat.reduceBEq, Nat.reduceBNe, Int.reduceAdd, Int.reduceSub, Int.reduceMul, Int.reduceNeg, Nat.reduceMul, Nat.reduceLeDiff, Nat.reduceLT]
    refine AY.of (L := L) (by simp only [go_sem, ↓reduceIte, Nat.reduceEqDiff, reduceCtorEq, Nat.reduceAdd, Int.reduceEq, Int.reduceBNe, Int.reduceBEq, Int.reduceToNat, Int.reduceLT, Int.reduceLE, Int.reduceGT, Int.reduceGE, Nat.reduceSub, Nat.reduceBEq, Nat.reduceBNe, Int.reduceAdd, Int.reduceSub, Int.reduceMul, Int.reduceNeg, Nat.reduceMul, Nat.reduceLeDiff, Nat.reduceLT]) (by rw [hL]) (by rw [hL]; rfl) (by rw [hL]; simp) fun hsc2 lr B2 => ?_
    subst hL
    simp only [zipEnv]
    by_cases hc : m = i
    · subst hc
      repeat first
        | with_reducible refine AWP.seq ?_
        | ((with_reducible refine AWP.region ?_ ?_); exact rfl)
        | with_reducible refine AWP.block ?_
        | with_reducible refine AWP.skip ?_
        | with_reducible refine AWP.exit ?_
        | with_reducible refine AWP.ret ?_
        | with_reducible refine AWP.label ?_
        | with_reducible refine AWP.goto ?_
        | ((with_reducible refine AWP.condT ?_ ?_); focus (simp only [ev, lk_cons, ↓reduceIte, Nat.reduceEqDiff]; done))
        | ((with_reducible refine AWP.condF ?_ ?_); focus (simp only [ev, lk_cons, ↓reduceIte, Nat.reduceEqDiff]; done))
        | simp only [go_sem, ↓reduceIte, Nat.reduceEqDiff, reduceCtorEq, Nat.reduceAdd, Int.reduceEq, Int.reduceBNe, Int.reduceBEq, Int.reduceToNat, Int.reduceLT, Int.reduceLE, Int.reduceGT, Int.reduceGE, Nat.reduceSub, Nat.reduceBEq, Nat.reduceBNe, Int.reduceAdd, Int.reduceSub, Int.reduceMul, Int.reduceNeg, Nat.reduceMul, Nat.reduceLeDiff, Nat.reduceLT, Nat.sub_self]
        | simp (disch := omega) only [wi64, wu8, wu16, wu32, wu64]
        | with_reducible_and_instances exact finR
        | ((with_reducible refine finR' ?_ ?_) <;> rfl)
        | ((with_reducible refine finD hsc (NRel.of_plain ?_)); exact rfl)
      exact ⟨_, .refl _ _ _, false, rfl, (fun e => by cases e), fun _ => ⟨R, m, hml, rfl, by rw [hgd, Nat.sub_self]; rfl⟩⟩
    · have hc' : (((i - m : Nat) : Int) == 0) = false := by simp; omega
      have hd : ((i - m : Nat) : Int) - 1 = ((i - (m + 1) : Nat) : Int) := by omega
      repeat first
        | with_reducible refine AWP.seq ?_
        | ((with_reducible refine AWP.region ?_ ?_); exact rfl)
        | with_reducible refine AWP.block ?_
        | with_reducible refine AWP.skip ?_
        | with_reducible refine AWP.exit ?_
        | with_reducible refine AWP.ret ?_
        | with_reducible refine AWP.label ?_
        | with_reducible refine AWP.goto ?_
        | ((with_reducible refine AWP.condT ?_ ?_); focus (simp only [ev, lk_cons, ↓reduceIte, Nat.reduceEqDiff]; done))
        | ((with_reducible refine AWP.condF ?_ ?_); focus (simp only [ev, lk_cons, ↓reduceIte, Nat.reduceEqDiff]; done))
        | simp only [go_sem, ↓reduceIte, Nat.reduceEqDiff, reduceCtorEq, Nat.reduceAdd, Int.reduceEq, Int.reduceBNe, Int.reduceBEq, Int.reduceToNat, Int.reduceLT, Int.reduceLE, Int.reduceGT, Int.reduceGE, Nat.reduceSub, Nat.reduceBEq, Nat.reduceBNe, Int.reduceAdd, Int.reduceSub, Int.reduceMul, Int.reduceNeg, Nat.reduceMul, Nat.reduceLeDiff, Nat.reduceLT, hc', hd]
        | simp (disch := omega) only [wi64, wu8, wu16, wu32, wu64]
        | with_reducible_and_instances exact finR
        | ((with_reducible refine finR' ?_ ?_) <;> rfl)
        | ((with_reducible refine finD hsc (NRel.of_plain ?_)); exact rfl)
      exact ⟨_, .refl _ _ _, true, rfl, fun _ => ⟨by omega, by omega, R, rfl⟩, fun e => by cases e⟩
  · rintro H2 (⟨R, ⟨hm, hlt⟩, rfl⟩ | ⟨R, m, ⟨hm, rfl⟩, rfl⟩)
    · subst hL
      unfold allA at hlt hm
      rw [List.length_map] at hlt hm
      have hr : selR (allL s) i = (0, 8) := by unfold selR; rw [List.getElem?_eq_none (by omega)]
      rw [hr]
      repeat first
        | with_reducible refine caughtR ?_
        | with_reducible refine AWP.seq ?_
        | ((with_reducible refine AWP.region ?_ ?_); exact rfl)
        | with_reducible refine AWP.block ?_
        | with_reducible refine AWP.skip ?_
        | with_reducible refine AWP.exit ?_
        | with_reducible refine AWP.ret ?_
        | with_reducible refine AWP.label ?_
        | with_reducible refine AWP.goto ?_
        | ((with_reducible refine AWP.condT ?_ ?_); focus (simp only [ev, lk_cons, ↓reduceIte, Nat.reduceEqDiff]; done))
        | ((with_reducible refine AWP.condF ?_ ?_); focus (simp only [ev, lk_cons, ↓reduceIte, Nat.reduceEqDiff]; done))
        | simp only [go_sem, ↓reduceIte, Nat.reduceEqDiff, reduceCtorEq, Nat.reduceAdd, Int.reduceEq, Int.reduceBNe, Int.reduceBEq, Int.reduceToNat, Int.reduceLT, Int.reduceLE, Int.reduceGT, Int.reduceGE, Nat.reduceSub, Nat.reduceBEq, Nat.reduceBNe, Int.reduceAdd, Int.reduceSub, Int.reduceMul, Int.reduceNeg, Nat.reduceMul, Nat.reduceLeDiff, Nat.reduceLT]
        | simp (disch := omega) only [wi64, wu8, wu16, wu32, wu64]
        | with_reducible_and_instances exact finR
        | ((with_reducible refine finR' ?_ ?_) <;> rfl)
        | ((with_reducible refine finD hsc (NRel.of_plain ?_)); exact rfl)
    · subst hL
      have hgd : (allL s).getD m 0 = (allL s)[m] := by rw [List.getD_eq_getElem?_getD, List.getElem?_eq_getElem hm]; rfl
      have hr : selR (allL s) m = ((((allL s)[m] : Nat) : Int), 0) := by unfold selR; rw [List.getElem?_eq_getElem hm]
      rw [hgd, hr]
      repeat first
        | with_reducible refine caughtR ?_
        | with_reducible refine AWP.seq ?_
        | ((with_reducible refine AWP.region ?_ ?_); exact rfl)
        | with_reducible refine AWP.block ?_
        | with_reducible refine AWP.skip ?_
        | with_reducible refine AWP.exit ?_
        | with_reducible refine AWP.ret ?_
        | with_reducible refine AWP.label ?_
        | with_reducible refine AWP.goto ?_
        | ((with_reducible refine AWP.condT ?_ ?_); focus (simp only [ev, lk_cons, ↓reduceIte, Nat.reduceEqDiff]; done))
        | ((with_reducible refine AWP.condF ?_ ?_); focus (simp only [ev, lk_cons, ↓reduceIte, Nat.reduceEqDiff]; done))
        | simp only [go_sem, ↓reduceIte, Nat.reduceEqDiff, reduceCtorEq, Nat.reduceAdd, Int.reduceEq, Int.reduceBNe, Int.reduceBEq, Int.reduceToNat, Int.reduceLT, Int.reduceLE, Int.reduceGT, Int.reduceGE, Nat.reduceSub, Nat.reduceBEq, Nat.reduceBNe, Int.reduceAdd, Int.reduceSub, Int.reduceMul, Int.reduceNeg, Nat.reduceMul, Nat.reduceLeDiff, Nat.reduceLT]
        | simp (disch := omega) only [wi64, wu8, wu16, wu32, wu64]
        | with_reducible_and_instances exact finR
        | ((with_reducible refine finR' ?_ ?_) <;> rfl)
        | ((with_reducible refine finD hsc (NRel.of_plain ?_)); exact rfl)
end Go.Proofs.YtbdlomkogpnkpaaDoor
