/-
  The walk of fields of bits: runs.
-/
import Derived.Test.YtbdlomkogpnkpaaDoorMD
set_option linter.unusedVariables false
set_option linter.unusedSimpArgs false
set_option maxRecDepth 20000
namespace Go.Proofs.YtbdlomkogpnkpaaDoor
open Go Go.Aw Go.Proofs
abbrev runsO (r : List (Nat × Nat)) : AObj := gO (runsC r) ⟨74, 2, true, 0, none⟩
theorem RunsC (n : Nat) (h : n ≤ 4096) (s : List UInt8) (hv : validB n s) (H : AHeap) : ARet Tryd.prog 42 [.int .i64 (n : Nat), .string (bs s)] H (.tuple ⟨[gS H.length (runsL (allL s)).length, .int .i64 0]⟩) (H ++ [runsO (runsL (allL s))]) := by
  have hl := lon_le n
  have hsl := hv.1
  have hal := allL_len s
  refine AC.enter Tryd.func42 rfl (by kernel_rfl) 50 rfl [.cell 4 45, .cell 5 24] rfl (by simp) fun hsc B => ?_
  repeat first
    | with_reducible refine AWP.seq ?_
    | ((with_reducible refine AWP.region ?_ ?_); exact rfl)
    | with_reducible refine AWP.block ?_
    | with_reducible refine AWP.skip ?_
    | with_reducible refine AWP.exit ?_
    | with_reducible refine AWP.ret ?_
    | with_reducible refine AWP.label ?_
    | with_reducible refine AWP.goto ?_
    | ((with_reducible refine AWP.condT ?_ ?_); focus (simp only [ev, lk_cons, ↓reduceIte, Nat.reduceEqDiff]; done))
    | ((with_reducible refine AWP.condF ?_ ?_); focus (simp only [ev, lk_cons, ↓reduceIte, Nat.reduceEqDiff]; done))
    | with_reducible refine (openC n h s hv _ _ _ _ (by with_unfolding_all first | exact (hget0 rfl).trans rfl | exact (hgetk rfl).trans rfl)).use ?_
    | with_reducible refine (all _ _ _ s _).use ?_
    | simp only [go_sem, ↓reduceIte, Nat.reduceEqDiff, reduceCtorEq, Nat.reduceAdd, Int.reduceEq, Int.reduceBNe, Int.reduceBEq, Int.reduceToNat, Int.reduceLT, Int.reduceLE, Int.reduceGT, Int.reduceGE, Nat.reduceSub, Nat.reduceBEq, Nat.reduceBNe, Int.reduceAdd, Int.reduceSub, Int.reduceMul, Int.reduceNeg, Nat.reduceMul, Nat.reduceLeDiff, Nat.reduceLT]
    | simp (disch := omega) only [wi64, wu8, wu16, wu32, wu64]
    | with_reducible_and_instances exact finR
    | ((with_reducible refine finR' ?_ ?_) <;> rfl)
    | ((with_reducible refine finD hsc (NRel.of_plain ?_)); exact rfl)
  refine AWP.rangeS (all1 s (by omega) (H.length + 5) (H.length + 3) n s.length) rfl (by simp) (by simp only [go_sem, ↓reduceIte, Nat.reduceEqDiff, reduceCtorEq, Nat.reduceAdd, Int.reduceEq, Int.reduceBNe, Int.reduceBEq, Int.reduceToNat, Int.reduceLT, Int.reduceLE, Int.reduceGT, Int.reduceGE, Nat.reduceSub, Nat.reduceBEq, Nat.reduceBNe, Int.reduceAdd, Int.reduceSub, Int.reduceMul, Int.reduceNeg, Nat.reduceMul, Nat.reduceLeDiff, Nat.reduceLT]) fun L hL => 
    ⟨fun m H1 => ∃ k R, m ≤ (allL s).length ∧ runsOk (8 * s.length) (runsL ((allL s).take m)) ∧ H1 = H ++ (.cells [gS (H.length + (k + 7)) (runsL ((allL s).take m)).length] ⟨45, 0, true, 0, none⟩ :: .cells [.int .i64 0] ⟨24, 0, true, 0, none⟩ :: .cells [.string (bs s)] ⟨9, 0, true, 0, none⟩ :: .cells (bytesC s) ⟨5, 1, true, 0, none⟩ :: .cells [.int .i64 (n : Nat), .slice (some ⟨H.length + 3, 0, none⟩) s.length s.length] ⟨53, 2, true, 0, none⟩ :: .cells [.int .i64 (n : Nat), .slice (some ⟨H.length + 3, 0, none⟩) s.length s.length] ⟨53, 0, true, 0, none⟩ :: .loop L :: R) ∧ (0 < (runsL ((allL s).take m)).length → R[k]? = some (.cells (runsC (runsL ((allL s).take m))) ⟨74, 2, true, 0, none⟩)), fun _ => False,
    ⟨0, [], Nat.zero_le _, fun j f c e => by simp [runsL] at e, by simp [runsL, gS_zero], by simp [runsL]⟩, fun m H1 ⟨k, R, h1, ho, h2, h3⟩ => by subst h2; exact ⟨⟨_, (by with_unfolding_all first | exact (hget0 rfl).trans rfl | exact (hgetk rfl).trans rfl)⟩, ⟨_, (by with_unfolding_all first | exact (hget0 rfl).trans rfl | exact (hgetk rfl).trans rfl)⟩⟩, fun m H1 X ⟨k, R, h1, ho, h2, h3⟩ => ⟨k, R ++ X, h1, ho, by rw [h2]; simp, fun h => by rw [List.getElem?_append_left (lt_of_get (h3 h))]; exact h3 h⟩, ?_, ?_⟩
  · rintro m args H1 ha ⟨k, R, hm, ho, rfl, hR⟩
    have hml : m < (allL s).length := by
      have := (List.getElem?_eq_some_iff.1 ha).1
      unfold allA at this
      simpa using this
    have hargs : args = [.int .i64 ((allL s)[m] : Nat)] := by
      unfold allA at ha
      rw [List.getElem?_map, List.getElem?_eq_getElem hml] at ha
      simpa using ha.symm
    subst hargs
    have hi8 : (allL s)[m] < 8 * s.length := by
      have : (allL s)[m] ∈ allL s := List.getElem_mem _
      unfold allL at this
      exact List.mem_range.1 (List.mem_filter.1 this).1
    have hstep := runsL_succ hml
    have hrl : (runsL ((allL s).take m)).length ≤ 8 * s.length := Nat.le_trans (runsL_len _) (by rw [List.length_take]; omega)
    have hok2 := runsF_ok ho hi8
    rw [← hstep] at hok2
    generalize (allL s)[m] = i at *
    generalize hr1 : runsL ((allL s).take (m + 1)) = r1 at *
    generalize runsL ((allL s).take m) = r at *
    simp only [go_sem, ↓reduceIte, Nat.reduceEqDiff, reduceCtorEq, Nat.reduceAdd, Int.reduceEq, Int.reduceBNe, Int.reduceBEq, Int.reduceToNat, Int.reduceLT, Int.reduceLE, Int.reduceGT, Int.reduceGE, Nat.reduceSub, Nat.reduceBEq, Nat.reduceBNe, Int.reduceAdd, Int.reduceSub, Int.reduceMul, Int.reduceNeg, Nat.reduceMul, Nat.reduceLeDiff, Nat.reduceLT]
    refine AY.of (L := L) (by simp only [go_sem, ↓reduceIte, Nat.reduceEqDiff, reduceCtorEq, Nat.reduceAdd, Int.reduceEq, Int.reduceBNe, Int.reduceBEq, Int.reduceToNat, Int.reduceLT, Int.reduceLE, Int.reduceGT, Int.reduceGE, Nat.reduceSub, Nat.reduceBEq, Nat.reduceBNe, Int.reduceAdd, Int.reduceSub, Int.reduceMul, Int.reduceNeg, Nat.reduceMul, Nat.reduceLeDiff, Nat.reduceLT]) (by rw [hL]) (by rw [hL]; rfl) (by rw [hL]; simp) fun hsc2 lr B2 => ?_
    subst hL
    simp only [zipEnv]
    rcases Nat.eq_zero_or_pos r.length with h0 | h0
    · have hnil : r = [] := List.length_eq_zero_iff.1 h0
      subst hnil
      have hr1' : r1 = [(i, 1)] := hstep
      subst hr1'
      simp only [List.length_nil, gS_zero]
      repeat first
        | with_reducible refine AWP.seq ?_
        | ((with_reducible refine AWP.region ?_ ?_); exact rfl)
        | with_reducible refine AWP.block ?_
        | with_reducible refine AWP.skip ?_
        | with_reducible refine AWP.exit ?_
        | with_reducible refine AWP.ret ?_
        | with_reducible refine AWP.label ?_
        | with_reducible refine AWP.goto ?_
        | ((with_reducible refine AWP.condT ?_ ?_); focus (simp only [ev, lk_cons, ↓reduceIte, Nat.reduceEqDiff]; done))
        | ((with_reducible refine AWP.condF ?_ ?_); focus (simp only [ev, lk_cons, ↓reduceIte, Nat.reduceEqDiff]; done))
        | simp only [go_sem, ↓reduceIte, Nat.reduceEqDiff, reduceCtorEq, Nat.reduceAdd, Int.reduceEq, Int.reduceBNe, Int.reduceBEq, Int.reduceToNat, Int.reduceLT, Int.reduceLE, Int.reduceGT, Int.reduceGE, Nat.reduceSub, Nat.reduceBEq, Nat.reduceBNe, Int.reduceAdd, Int.reduceSub, Int.reduceMul, Int.reduceNeg, Nat.reduceMul, Nat.reduceLeDiff, Nat.reduceLT]
        | simp (disch := omega) only [wi64, wu8, wu16, wu32, wu64]
        | with_reducible_and_instances exact finR
        | ((with_reducible refine finR' ?_ ?_) <;> rfl)
        | ((with_reducible refine finD hsc (NRel.of_plain ?_)); exact rfl)
      refine AWP.regionK 17 (by kernel_rfl) (by decide) (by kernel_rfl) ?_
      repeat first
        | with_reducible refine AWP.seq ?_
        | ((with_reducible refine AWP.region ?_ ?_); exact rfl)
        | with_reducible refine AWP.block ?_
        | with_reducible refine AWP.skip ?_
        | with_reducible refine AWP.exit ?_
        | with_reducible refine AWP.ret ?_
        | with_reducible refine AWP.label ?_
        | with_reducible refine AWP.goto ?_
        | ((with_reducible refine AWP.condT ?_ ?_); focus (simp only [ev, lk_cons, ↓reduceIte, Nat.reduceEqDiff]; done))
        | ((with_reducible refine AWP.condF ?_ ?_); focus (simp only [ev, lk_cons, ↓reduceIte, Nat.reduceEqDiff]; done))
        | simp only [go_sem, ↓reduceIte, Nat.reduceEqDiff, reduceCtorEq, Nat.reduceAdd, Int.reduceEq, Int.reduceBNe, Int.reduceBEq, Int.reduceToNat, Int.reduceLT, Int.reduceLE, Int.reduceGT, Int.reduceGE, Nat.reduceSub, Nat.reduceBEq, Nat.reduceBNe, Int.reduceAdd, Int.reduceSub, Int.reduceMul, Int.reduceNeg, Nat.reduceMul, Nat.reduceLeDiff, Nat.reduceLT, exists_eq_left]
        | simp (disch := omega) only [wi64, wu8, wu16, wu32, wu64]
        | with_reducible_and_instances exact finR
        | ((with_reducible refine finR' ?_ ?_) <;> rfl)
        | ((with_reducible refine finD hsc (NRel.of_plain ?_)); exact rfl)
      refine appendTo_nil (by decide) (by decide) (by decide) ?_
      repeat first
        | with_reducible refine AWP.seq ?_
        | ((with_reducible refine AWP.region ?_ ?_); exact rfl)
        | with_reducible refine AWP.block ?_
        | with_reducible refine AWP.skip ?_
        | with_reducible refine AWP.exit ?_
        | with_reducible refine AWP.ret ?_
        | with_reducible refine AWP.label ?_
        | with_reducible refine AWP.goto ?_
        | ((with_reducible refine AWP.condT ?_ ?_); focus (simp only [ev, lk_cons, ↓reduceIte, Nat.reduceEqDiff]; done))
        | ((with_reducible refine AWP.condF ?_ ?_); focus (simp only [ev, lk_cons, ↓reduceIte, Nat.reduceEqDiff]; done))
        | simp only [go_sem, ↓reduceIte, Nat.reduceEqDiff, reduceCtorEq, Nat.reduceAdd, Int.reduceEq, Int.reduceBNe, Int.reduceBEq, Int.reduceToNat, Int.reduceLT, Int.reduceLE, Int.reduceGT, Int.reduceGE, Nat.reduceSub, Nat.reduceBEq, Nat.reduceBNe, Int.reduceAdd, Int.reduceSub, Int.reduceMul, Int.reduceNeg, Nat.reduceMul, Nat.reduceLeDiff, Nat.reduceLT]
        | simp (disch := omega) only [wi64, wu8, wu16, wu32, wu64]
        | with_reducible_and_instances exact finR
        | ((with_reducible refine finR' ?_ ?_) <;> rfl)
        | ((with_reducible refine finD hsc (NRel.of_plain ?_)); exact rfl)
      refine ⟨_, .refl _ _ _, true, rfl, fun _ => ⟨by omega, by rw [hr1]; exact hok2, R.length + 1, R ++ [AObj.cells [.int .i64 (i : Nat), .int .i64 1] ⟨74, 0, true, 0, none⟩, AObj.cells (runsC [(i, 1)]) ⟨74, 2, true, 0, none⟩], ?_, ?_⟩, fun e => by cases e⟩
      · rw [hr1]; simp [gS_succ, runsC, Nat.add_assoc]
      · rw [hr1]; simp
    · rw [gS_pos h0]
      have hR' := hR h0
      have hkR := lt_of_get hR'
      obtain ⟨⟨f, c⟩, hp⟩ : ∃ p, r[r.length - 1]? = some p := ⟨_, List.getElem?_eq_getElem (by omega)⟩
      obtain ⟨g1, g2⟩ := runsC_get r (r.length - 1) f c hp
      have hfc := ho _ _ _ hp
      have hr1' : r1 = if f + c = i then r.set (r.length - 1) (f, c + 1) else r ++ [(i, 1)] := by
        rw [hstep]; unfold runsF; rw [hp]
      have hk1 : IntKind.i64.wrap ((r.length : Int) - 1) = ((r.length - 1 : Nat) : Int) := by rw [wi64 (by omega)]; omega
      have hk2 : ((r.length - 1 : Nat) : Int) ≥ 0 := by omega
      have hk0 : (0 : Int) ≤ ((r.length - 1 : Nat) : Int) := by omega
      have hk3 : ((r.length - 1 : Nat) : Int) < (r.length : Int) := by omega
      have hw : IntKind.i64.wrap ((f : Int) + (c : Int)) = ((f + c : Nat) : Int) := by rw [wi64 (by omega)]; omega
      repeat first
        | with_reducible refine AWP.seq ?_
        | ((with_reducible refine AWP.region ?_ ?_); exact rfl)
        | with_reducible refine AWP.block ?_
        | with_reducible refine AWP.skip ?_
        | with_reducible refine AWP.exit ?_
        | with_reducible refine AWP.ret ?_
        | with_reducible refine AWP.label ?_
        | with_reducible refine AWP.goto ?_
        | ((with_reducible refine AWP.condT ?_ ?_); focus (simp only [ev, lk_cons, ↓reduceIte, Nat.reduceEqDiff]; done))
        | ((with_reducible refine AWP.condF ?_ ?_); focus (simp only [ev, lk_cons, ↓reduceIte, Nat.reduceEqDiff]; done))
        | simp only [go_sem, ↓reduceIte, Nat.reduceEqDiff, reduceCtorEq, Nat.reduceAdd, Int.reduceEq, Int.reduceBNe, Int.reduceBEq, Int.reduceToNat, Int.reduceLT, Int.reduceLE, Int.reduceGT, Int.reduceGE, Nat.reduceSub, Nat.reduceBEq, Nat.reduceBNe, Int.reduceAdd, Int.reduceSub, Int.reduceMul, Int.reduceNeg, Nat.reduceMul, Nat.reduceLeDiff, Nat.reduceLT, hk1]
        | simp (disch := omega) only [wi64, wu8, wu16, wu32, wu64]
        | with_reducible_and_instances exact finR
        | ((with_reducible refine finR' ?_ ?_) <;> rfl)
        | ((with_reducible refine finD hsc (NRel.of_plain ?_)); exact rfl)
      refine AWP.regionK 17 (by kernel_rfl) (by decide) (by kernel_rfl) ?_
      by_cases e : f + c = i
      · rw [if_pos e] at hr1'
        subst e
        have hset := runsC_set r (r.length - 1) f c (c + 1) hp
        have hcc : ((c : Nat) : Int) + 1 = ((c + 1 : Nat) : Int) := by omega
        rw [← hr1'] at hset
        have hlen1 : r1.length = r.length := by rw [hr1']; simp
        have hb : (r.length - 1) * 2 + 2 ≤ (runsC r).length := by rw [runsC_length]; omega
        have heq : ((((f + c : Nat) : Nat) : Int) == ((f + c : Nat) : Int)) = true := beq_self_eq_true _
        repeat first
          | with_reducible refine AWP.seq ?_
          | ((with_reducible refine AWP.region ?_ ?_); exact rfl)
          | with_reducible refine AWP.block ?_
          | with_reducible refine AWP.skip ?_
          | with_reducible refine AWP.exit ?_
          | with_reducible refine AWP.ret ?_
          | with_reducible refine AWP.label ?_
          | with_reducible refine AWP.goto ?_
          | ((with_reducible refine AWP.condT ?_ ?_); focus (simp only [ev, lk_cons, ↓reduceIte, Nat.reduceEqDiff]; done))
          | ((with_reducible refine AWP.condF ?_ ?_); focus (simp only [ev, lk_cons, ↓reduceIte, Nat.reduceEqDiff]; done))
          | simp only [go_sem, ↓reduceIte, Nat.reduceEqDiff, reduceCtorEq, Nat.reduceAdd, Int.reduceEq, Int.reduceBNe, Int.reduceBEq, Int.reduceToNat, Int.reduceLT, Int.reduceLE, Int.reduceGT, Int.reduceGE, Nat.reduceSub, Nat.reduceBEq, Nat.reduceBNe, Int.reduceAdd, Int.reduceSub, Int.reduceMul, Int.reduceNeg, Nat.reduceMul, Nat.reduceLeDiff, Nat.reduceLT, hk1, hk2, hk0, hk3, hR', g1, g2, hw, heq, hcc, hset]
          | simp (disch := omega) only [wi64, wu8, wu16, wu32, wu64]
          | with_reducible_and_instances exact finR
          | ((with_reducible refine finR' ?_ ?_) <;> rfl)
          | ((with_reducible refine finD hsc (NRel.of_plain ?_)); exact rfl)
        exact ⟨hb, _, .refl _ _ _, true, rfl, fun _ => ⟨by omega, by rw [hr1]; exact hok2, k, R.set k (AObj.cells (runsC r1) ⟨74, 2, true, 0, none⟩), by rw [hr1, hlen1, gS_pos h0], fun _ => by rw [hr1]; exact List.getElem?_set_self hkR⟩, fun e => by cases e⟩
      · rw [if_neg e] at hr1'
        have heq : ((((f + c : Nat) : Nat) : Int) == ((i : Nat) : Int)) = false := by simp; omega
        repeat first
          | with_reducible refine AWP.seq ?_
          | ((with_reducible refine AWP.region ?_ ?_); exact rfl)
          | with_reducible refine AWP.block ?_
          | with_reducible refine AWP.skip ?_
          | with_reducible refine AWP.exit ?_
          | with_reducible refine AWP.ret ?_
          | with_reducible refine AWP.label ?_
          | with_reducible refine AWP.goto ?_
          | ((with_reducible refine AWP.condT ?_ ?_); focus (simp only [ev, lk_cons, ↓reduceIte, Nat.reduceEqDiff]; done))
          | ((with_reducible refine AWP.condF ?_ ?_); focus (simp only [ev, lk_cons, ↓reduceIte, Nat.reduceEqDiff]; done))
          | simp only [go_sem, ↓reduceIte, Nat.reduceEqDiff, reduceCtorEq, Nat.reduceAdd, Int.reduceEq, Int.reduceBNe, Int.reduceBEq, Int.reduceToNat, Int.reduceLT, Int.reduceLE, Int.reduceGT, Int.reduceGE, Nat.reduceSub, Nat.reduceBEq, Nat.reduceBNe, Int.reduceAdd, Int.reduceSub, Int.reduceMul, Int.reduceNeg, Nat.reduceMul, Nat.reduceLeDiff, Nat.reduceLT, hk1, hk2, hk0, hk3, hR', g1, g2, hw, heq]
          | simp (disch := omega) only [wi64, wu8, wu16, wu32, wu64]
          | with_reducible_and_instances exact finR
          | ((with_reducible refine finR' ?_ ?_) <;> rfl)
          | ((with_reducible refine finD hsc (NRel.of_plain ?_)); exact rfl)
        have hR2 : (R ++ [.cells [.int .i64 (i : Nat), .int .i64 1] ⟨74, 0, true, 0, none⟩])[k]? = some (.cells (runsC r) ⟨74, 2, true, 0, none⟩) := by rw [List.getElem?_append_left hkR]; exact hR'
        have hlen1 : r1.length = r.length + 1 := by rw [hr1']; simp
        refine appendTo_own (cs := runsC r) (by simp only [go_sem, ↓reduceIte, Nat.reduceEqDiff, reduceCtorEq, Nat.reduceAdd, Int.reduceEq, Int.reduceBNe, Int.reduceBEq, Int.reduceToNat, Int.reduceLT, Int.reduceLE, Int.reduceGT, Int.reduceGE, Nat.reduceSub, Nat.reduceBEq, Nat.reduceBNe, Int.reduceAdd, Int.reduceSub, Int.reduceMul, Int.reduceNeg, Nat.reduceMul, Nat.reduceLeDiff, Nat.reduceLT, hR2]) (by decide) (runsC_length r) (by decide) (by omega) (by omega) ?_
        have ht : runsC r ++ [.int .i64 (i : Nat), .int .i64 1] = runsC r1 := by rw [hr1']; exact runsC_snoc r i 1
        repeat first
          | with_reducible refine AWP.seq ?_
          | ((with_reducible refine AWP.region ?_ ?_); exact rfl)
          | with_reducible refine AWP.block ?_
          | with_reducible refine AWP.skip ?_
          | with_reducible refine AWP.exit ?_
          | with_reducible refine AWP.ret ?_
          | with_reducible refine AWP.label ?_
          | with_reducible refine AWP.goto ?_
          | ((with_reducible refine AWP.condT ?_ ?_); focus (simp only [ev, lk_cons, ↓reduceIte, Nat.reduceEqDiff]; done))
          | ((with_reducible refine AWP.condF ?_ ?_); focus (simp only [ev, lk_cons, ↓reduceIte, Nat.reduceEqDiff]; done))
          | simp only [go_sem, ↓reduceIte, Nat.reduceEqDiff, reduceCtorEq, Nat.reduceAdd, Int.reduceEq, Int.reduceBNe, Int.reduceBEq, Int.reduceToNat, Int.reduceLT, Int.reduceLE, Int.reduceGT, Int.reduceGE, Nat.reduceSub, Nat.reduceBEq, Nat.reduceBNe, Int.reduceAdd, Int.reduceSub, Int.reduceMul, Int.reduceNeg, Nat.reduceMul, Nat.reduceLeDiff, Nat.reduceLT, ht]
          | simp (disch := omega) only [wi64, wu8, wu16, wu32, wu64]
          | with_reducible_and_instances exact finR
          | ((with_reducible refine finR' ?_ ?_) <;> rfl)
          | ((with_reducible refine finD hsc (NRel.of_plain ?_)); exact rfl)
        refine ⟨_, .refl _ _ _, true, rfl, fun _ => ⟨by omega, by rw [hr1]; exact hok2, R.length + 1, (R ++ [AObj.cells [.int .i64 (i : Nat), .int .i64 1] ⟨74, 0, true, 0, none⟩]).set k .dead ++ [AObj.cells (runsC r1) ⟨74, 2, true, 0, none⟩], ?_, ?_⟩, fun e => by cases e⟩
        · rw [hr1, hlen1]
          simp [gS_succ, Nat.add_assoc]
        · rw [hr1]
          simp
  · rintro H2 (⟨k, R, hm, ho, rfl, hR⟩ | h)
    · subst hL
      unfold allA at hR ho ⊢
      rw [List.length_map, List.take_length] at hR ho ⊢
      repeat first
        | with_reducible refine caughtR ?_
        | with_reducible refine AWP.seq ?_
        | ((with_reducible refine AWP.region ?_ ?_); exact rfl)
        | with_reducible refine AWP.block ?_
        | with_reducible refine AWP.skip ?_
        | with_reducible refine AWP.exit ?_
        | with_reducible refine AWP.ret ?_
        | with_reducible refine AWP.label ?_
        | with_reducible refine AWP.goto ?_
        | ((with_reducible refine AWP.condT ?_ ?_); focus (simp only [ev, lk_cons, ↓reduceIte, Nat.reduceEqDiff]; done))
        | ((with_reducible refine AWP.condF ?_ ?_); focus (simp only [ev, lk_cons, ↓reduceIte, Nat.reduceEqDiff]; done))
        | simp only [go_sem, ↓reduceIte, Nat.reduceEqDiff, reduceCtorEq, Nat.reduceAdd, Int.reduceEq, Int.reduceBNe, Int.reduceBEq, Int.reduceToNat, Int.reduceLT, Int.reduceLE, Int.reduceGT, Int.reduceGE, Nat.reduceSub, Nat.reduceBEq, Nat.reduceBNe, Int.reduceAdd, Int.reduceSub, Int.reduceMul, Int.reduceNeg, Nat.reduceMul, Nat.reduceLeDiff, Nat.reduceLT]
        | simp (disch := omega) only [wi64, wu8, wu16, wu32, wu64]
        | with_reducible_and_instances exact finR
        | ((with_reducible refine finR' ?_ ?_) <;> rfl)
        | ((with_reducible refine finD hsc (NRel.of_plain ?_)); exact rfl)
      rcases hz : runsL (allL s) with _ | ⟨x, l⟩
      · exact ⟨_, _, .pick [0] rfl hsc (by simp) (by simp [selW_cons, selW_nil, onm_dead, gS_zero, nr_nilSlice, nr_tuple, nrs_cons, nrs_nil, nr_int, wth_some, gO, runsC]), rfl, rfl⟩
      · rw [hz] at hR
        have hR' := hR (by simp)
        refine ⟨_, _, .pick (v2 := .tuple ⟨[gS H.length (x :: l).length, .int .i64 0]⟩) (objs := [.cells (runsC (x :: l)) ⟨74, 2, true, 0, none⟩]) [k + 7] rfl hsc (by simp) ⟨?_, ?_⟩, rfl, ?_⟩
        · simp [selW_cons, selW_nil, hR', wth_some, onm_cells, nrs_refl (runsC_scalar _)]
        · rw [nr_tuple, nrs_cons, nrs_cons, nrs_nil, nr_g, nr_int]
          exact ⟨⟨rfl, .inr (by rw [selN_0]; rfl)⟩, rfl, trivial⟩
        · rw [runsO, gO_ne (runsC_ne (by simp))]
    · exact h.elim
end Go.Proofs.YtbdlomkogpnkpaaDoor
