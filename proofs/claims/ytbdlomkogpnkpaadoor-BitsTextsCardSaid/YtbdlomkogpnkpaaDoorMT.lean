/-
  The walk of the specification's texts of runs: Digits, Cut, Decimal.
-/
import Derived.Test.YtbdlomkogpnkpaaDoorMS
set_option linter.unusedVariables false
set_option linter.unusedSimpArgs false
set_option maxRecDepth 20000
set_option maxHeartbeats 1000000
namespace Go.Proofs.YtbdlomkogpnkpaaDoor
open Go Go.Aw Go.Proofs Go.Shelf Go.RowKit Go.ChangeShapes
theorem dec_len : ∀ (u : Nat), (Lib.decDigits u).length ≤ u + 1 := fun u => by
  induction u using Nat.strongRecOn with
  | _ u ih =>
    rw [Lib.decDigits]
    split
    · simp
    · have := ih (u / 10) (by omega)
      rw [List.length_append, List.length_singleton]; omega
theorem dec_big (u : Nat) (h : ¬ u < 10) : Lib.decDigits u = Lib.decDigits (u / 10) ++ [UInt8.ofNat (48 + u % 10)] := by rw [Lib.decDigits, dif_neg h]
theorem rDecimal (u : Nat) (hu : u ≤ 9223372036854775807) : ∀ H : AHeap, ARet Tryd.prog 68 [.int .i64 (u : Nat)] H (.string (bs (Lib.decDigits u))) H := by
  induction u using Nat.strongRecOn with
  | _ u ih =>
    intro H
    have q : (u : Int).tdiv 10 = ((u / 10 : Nat) : Int) := Int.ofNat_tdiv _ _
    have r : (u : Int).tmod 10 = ((u % 10 : Nat) : Int) := Int.ofNat_tmod _ _
    have hneg : ¬ ((u : Int) < 0) := by omega
    have e8 : u8s [.int .u8 (48 + ((u % 10 : Nat) : Int))] = some [UInt8.ofNat (48 + u % 10)] := by
      have h := u8s_bytesC [UInt8.ofNat (48 + u % 10)]
      have e : (((UInt8.ofNat (48 + u % 10)).toNat : Nat) : Int) = 48 + ((u % 10 : Nat) : Int) := by rw [dig_nat _ (by omega)]; omega
      unfold bytesC at h
      rw [List.map_cons, List.map_nil, e] at h
      exact h
    by_cases hc : u < 10
    · have hc' : (u : Int) < 10 := by omega
      rw [dec_small u hc]
      refine AC.enter Tryd.func68 rfl (by kernel_rfl) 35 rfl [.tmp 2] rfl (by simp) fun hsc B => ?_
      repeat first
        | with_reducible refine AWP.seq ?_
        | ((with_reducible refine AWP.region ?_ ?_); exact rfl)
        | with_reducible refine AWP.block ?_
        | with_reducible refine AWP.skip ?_
        | with_reducible refine AWP.exit ?_
        | with_reducible refine AWP.ret ?_
        | with_reducible refine AWP.label ?_
        | with_reducible refine AWP.goto ?_
        | ((with_reducible refine AWP.condT ?_ ?_); focus (simp only [ev, lk_cons, ↓reduceIte, Nat.reduceEqDiff]; done))
        | ((with_reducible refine AWP.condF ?_ ?_); focus (simp only [ev, lk_cons, ↓reduceIte, Nat.reduceEqDiff]; done))
        | simp only [go_sem, ↓reduceIte, Nat.reduceEqDiff, reduceCtorEq, Nat.reduceAdd, Int.reduceEq, Int.reduceBNe, Int.reduceBEq, Int.reduceToNat, Int.reduceLT, Int.reduceLE, Int.reduceGT, Int.reduceGE, Nat.reduceSub, Nat.reduceBEq, Nat.reduceBNe, Int.reduceAdd, Int.reduceSub, Int.reduceMul, Int.reduceNeg, Nat.reduceMul, Nat.reduceLeDiff, Nat.reduceLT, hneg, q, r, hc', e8]
        | simp (disch := omega) only [wi64, wu8, wu16, wu32, wu64]
        | with_reducible_and_instances exact finR
        | ((with_reducible refine finR' ?_ ?_) <;> rfl)
        | ((with_reducible refine finD hsc (NRel.of_plain ?_)); exact rfl)
    · have hc' : ¬ (u : Int) < 10 := by omega
      have hd := ih (u / 10) (by omega) (by omega)
      have hl := dec_len (u / 10)
      rw [dec_big u hc]
      refine AC.enter Tryd.func68 rfl (by kernel_rfl) 35 rfl [.tmp 2] rfl (by simp) fun hsc B => ?_
      repeat first
        | with_reducible refine AWP.seq ?_
        | ((with_reducible refine AWP.region ?_ ?_); exact rfl)
        | with_reducible refine AWP.block ?_
        | with_reducible refine AWP.skip ?_
        | with_reducible refine AWP.exit ?_
        | with_reducible refine AWP.ret ?_
        | with_reducible refine AWP.label ?_
        | with_reducible refine AWP.goto ?_
        | ((with_reducible refine AWP.condT ?_ ?_); focus (simp only [ev, lk_cons, ↓reduceIte, Nat.reduceEqDiff]; done))
        | ((with_reducible refine AWP.condF ?_ ?_); focus (simp only [ev, lk_cons, ↓reduceIte, Nat.reduceEqDiff]; done))
        | with_reducible refine (hd _).use ?_
        | simp only [go_sem, ↓reduceIte, Nat.reduceEqDiff, reduceCtorEq, Nat.reduceAdd, Int.reduceEq, Int.reduceBNe, Int.reduceBEq, Int.reduceToNat, Int.reduceLT, Int.reduceLE, Int.reduceGT, Int.reduceGE, Nat.reduceSub, Nat.reduceBEq, Nat.reduceBNe, Int.reduceAdd, Int.reduceSub, Int.reduceMul, Int.reduceNeg, Nat.reduceMul, Nat.reduceLeDiff, Nat.reduceLT, hneg, q, r, hc', e8]
        | simp (disch := omega) only [wi64, wu8, wu16, wu32, wu64]
        | with_reducible_and_instances exact finR
        | ((with_reducible refine finR' ?_ ?_) <;> rfl)
        | ((with_reducible refine finD hsc (NRel.of_plain ?_)); exact rfl)
      refine ⟨by omega, ?_⟩
      repeat first
        | with_reducible refine AWP.seq ?_
        | ((with_reducible refine AWP.region ?_ ?_); exact rfl)
        | with_reducible refine AWP.block ?_
        | with_reducible refine AWP.skip ?_
        | with_reducible refine AWP.exit ?_
        | with_reducible refine AWP.ret ?_
        | with_reducible refine AWP.label ?_
        | with_reducible refine AWP.goto ?_
        | ((with_reducible refine AWP.condT ?_ ?_); focus (simp only [ev, lk_cons, ↓reduceIte, Nat.reduceEqDiff]; done))
        | ((with_reducible refine AWP.condF ?_ ?_); focus (simp only [ev, lk_cons, ↓reduceIte, Nat.reduceEqDiff]; done))
        | simp only [go_sem, ↓reduceIte, Nat.reduceEqDiff, reduceCtorEq, Nat.reduceAdd, Int.reduceEq, Int.reduceBNe, Int.reduceBEq, Int.reduceToNat, Int.reduceLT, Int.reduceLE, Int.reduceGT, Int.reduceGE, Nat.reduceSub, Nat.reduceBEq, Nat.reduceBNe, Int.reduceAdd, Int.reduceSub, Int.reduceMul, Int.reduceNeg, Nat.reduceMul, Nat.reduceLeDiff, Nat.reduceLT]
        | simp (disch := omega) only [wi64, wu8, wu16, wu32, wu64]
        | with_reducible_and_instances exact finR
        | ((with_reducible refine finR' ?_ ?_) <;> rfl)
        | ((with_reducible refine finD hsc (NRel.of_plain ?_)); exact rfl)
theorem rCut (c : UInt8) (s : List UInt8) (hs : s.length ≤ 65536) (H : AHeap) : ARet Tryd.prog 72 [.string (bs s), .int .u8 (c.toNat : Nat)] H (.slice (some ⟨H.length, 0, none⟩) (cutsL c s).length (cutsL c s).length) (H ++ [.cells (strsC (cutsL c s)) ⟨9, 1, true, 0, none⟩]) := by
  refine AC.enter Tryd.func72 rfl (by kernel_rfl) 34 rfl [.tmp 4] rfl (by simp) fun hsc B => ?_
  repeat first
    | with_reducible refine AWP.seq ?_
    | ((with_reducible refine AWP.region ?_ ?_); exact rfl)
    | with_reducible refine AWP.block ?_
    | with_reducible refine AWP.skip ?_
    | with_reducible refine AWP.exit ?_
    | with_reducible refine AWP.ret ?_
    | with_reducible refine AWP.label ?_
    | with_reducible refine AWP.goto ?_
    | ((with_reducible refine AWP.condT ?_ ?_); focus (simp only [ev, lk_cons, ↓reduceIte, Nat.reduceEqDiff]; done))
    | ((with_reducible refine AWP.condF ?_ ?_); focus (simp only [ev, lk_cons, ↓reduceIte, Nat.reduceEqDiff]; done))
    | simp only [go_sem, ↓reduceIte, Nat.reduceEqDiff, reduceCtorEq, Nat.reduceAdd, Int.reduceEq, Int.reduceBNe, Int.reduceBEq, Int.reduceToNat, Int.reduceLT, Int.reduceLE, Int.reduceGT, Int.reduceGE, Nat.reduceSub, Nat.reduceBEq, Nat.reduceBNe, Int.reduceAdd, Int.reduceSub, Int.reduceMul, Int.reduceNeg, Nat.reduceMul, Nat.reduceLeDiff, Nat.reduceLT]
    | simp (disch := omega) only [wi64, wu8, wu16, wu32, wu64]
    | with_reducible_and_instances exact finR
    | ((with_reducible refine finR' ?_ ?_) <;> rfl)
    | ((with_reducible refine finD hsc (NRel.of_plain ?_)); exact rfl)
  refine AWP.loopP (fun p : Nat × Nat × List (List UInt8) => ⟨[(0, .string (bs s)), (1, .int .u8 (c.toNat : Nat)), (5, gS H.length p.2.2.length), (6, .int .i64 (p.2.1 : Nat)), (9, .int .i64 (s.length : Nat)), (10, .int .i64 (p.1 : Nat))], [], H ++ [gO (strsC p.2.2) ⟨9, 1, true, 0, none⟩]⟩)
    (fun p => p.1 ≤ s.length ∧ p.2.1 ≤ p.1 ∧ p.2.2.length ≤ p.1 ∧ cutsL c s = p.2.2 ++ cutsL c (s.drop p.2.1) ∧ c ∉ (s.take p.1).drop p.2.1) (fun p => s.length - p.1) (0, 0, []) ?_ ⟨Nat.zero_le _, Nat.le_refl _, Nat.le_refl _, rfl, by simp⟩ ?_
  · have hz : gO (strsC []) ⟨9, 1, true, 0, none⟩ = .dead := rfl
    simp only [hz]
    exact Weak.pad1 (by simp [envIn, lk_cons, wth_some, gS_zero])
  rintro ⟨k, f, ps⟩ ⟨hk, hf, hp, hcs, hno⟩
  simp only at hk hf hp hcs hno
  by_cases hc : k < s.length
  · have hc' : (k : Int) < (s.length : Int) := by omega
    have hg : s[k]? = some s[k] := List.getElem?_eq_getElem hc
    by_cases hx : s[k] = c
    · have hx' : (((s[k].toNat : Nat) : Int) == ((c.toNat : Nat) : Int)) = true := by rw [hx]; simp
      have hsplit : s.drop f = (s.take k).drop f ++ c :: s.drop (k + 1) := by
        have h1 : s = s.take k ++ c :: s.drop (k + 1) := by
          have := List.take_append_drop k s
          rw [List.drop_eq_getElem_cons hc, hx] at this
          exact this.symm
        conv => lhs; rw [h1]
        rw [List.drop_append_of_le_length (by rw [List.length_take]; omega)]
      rw [hsplit, cutsL_app _ hno] at hcs
      repeat first
        | with_reducible refine AWP.seq ?_
        | ((with_reducible refine AWP.region ?_ ?_); exact rfl)
        | with_reducible refine AWP.block ?_
        | with_reducible refine AWP.skip ?_
        | with_reducible refine AWP.exit ?_
        | with_reducible refine AWP.ret ?_
        | with_reducible refine AWP.label ?_
        | with_reducible refine AWP.goto ?_
        | ((with_reducible refine AWP.condT ?_ ?_); focus (simp only [ev, lk_cons, ↓reduceIte, Nat.reduceEqDiff]; done))
        | ((with_reducible refine AWP.condF ?_ ?_); focus (simp only [ev, lk_cons, ↓reduceIte, Nat.reduceEqDiff]; done))
        | simp only [go_sem, ↓reduceIte, Nat.reduceEqDiff, reduceCtorEq, Nat.reduceAdd, Int.reduceEq, Int.reduceBNe, Int.reduceBEq, Int.reduceToNat, Int.reduceLT, Int.reduceLE, Int.reduceGT, Int.reduceGE, Nat.reduceSub, Nat.reduceBEq, Nat.reduceBNe, Int.reduceAdd, Int.reduceSub, Int.reduceMul, Int.reduceNeg, Nat.reduceMul, Nat.reduceLeDiff, Nat.reduceLT, hc', hg, hx']
        | simp (disch := omega) only [wi64, wu8, wu16, wu32, wu64]
        | with_reducible_and_instances exact finR
        | ((with_reducible refine finR' ?_ ?_) <;> rfl)
        | ((with_reducible refine finD hsc (NRel.of_plain ?_)); exact rfl)
      refine ⟨by omega, by omega, ?_⟩
      refine appendTo_gn (l := strsC ps) (by with_unfolding_all first | exact (hget0 rfl).trans rfl | exact (hgetk rfl).trans rfl) (strsC_length _) (by omega) (by omega) ?_
      have ht : strsC ps ++ [.string (bs ((s.take k).drop f))] = strsC (ps ++ [(s.take k).drop f]) := by simp [strsC]
      repeat first
        | with_reducible refine AWP.seq ?_
        | ((with_reducible refine AWP.region ?_ ?_); exact rfl)
        | with_reducible refine AWP.block ?_
        | with_reducible refine AWP.skip ?_
        | with_reducible refine AWP.exit ?_
        | with_reducible refine AWP.ret ?_
        | with_reducible refine AWP.label ?_
        | with_reducible refine AWP.goto ?_
        | ((with_reducible refine AWP.condT ?_ ?_); focus (simp only [ev, lk_cons, ↓reduceIte, Nat.reduceEqDiff]; done))
        | ((with_reducible refine AWP.condF ?_ ?_); focus (simp only [ev, lk_cons, ↓reduceIte, Nat.reduceEqDiff]; done))
        | simp only [go_sem, ↓reduceIte, Nat.reduceEqDiff, reduceCtorEq, Nat.reduceAdd, Int.reduceEq, Int.reduceBNe, Int.reduceBEq, Int.reduceToNat, Int.reduceLT, Int.reduceLE, Int.reduceGT, Int.reduceGE, Nat.reduceSub, Nat.reduceBEq, Nat.reduceBNe, Int.reduceAdd, Int.reduceSub, Int.reduceMul, Int.reduceNeg, Nat.reduceMul, Nat.reduceLeDiff, Nat.reduceLT, ht]
        | simp (disch := omega) only [wi64, wu8, wu16, wu32, wu64]
        | with_reducible_and_instances exact finR
        | ((with_reducible refine finR' ?_ ?_) <;> rfl)
        | ((with_reducible refine finD hsc (NRel.of_plain ?_)); exact rfl)
      refine ⟨(k + 1, k + 1, ps ++ [(s.take k).drop f]), ?_, hc, Nat.le_refl _, (show (ps ++ [(s.take k).drop f]).length ≤ k + 1 by simp; omega), (by simp [hcs]), (by simp), (show s.length - (k + 1) < s.length - k by omega)⟩
      refine Weak.pick [2] rfl hsc (by simp) ⟨?_, ?_⟩
      · have hne : strsC (ps ++ [(s.take k).drop f]) ≠ [] := by simp [strsC]
        rw [gO_ne hne]
        simp [selW_cons, selW_nil, wth_some, onm_cells, nrs_refl (strsC_scalar _)]
      · simp [envIn, lk_cons, wth_some, nr_int, nr_string, nr_gs, selN_0, selN_k, nr_slice, gS_succ]
    · have hx' : (((s[k].toNat : Nat) : Int) == ((c.toNat : Nat) : Int)) = false := by
        apply beq_eq_false_iff_ne.2
        intro e
        exact hx (UInt8.toNat_inj.1 (by omega))
      repeat first
        | with_reducible refine AWP.seq ?_
        | ((with_reducible refine AWP.region ?_ ?_); exact rfl)
        | with_reducible refine AWP.block ?_
        | with_reducible refine AWP.skip ?_
        | with_reducible refine AWP.exit ?_
        | with_reducible refine AWP.ret ?_
        | with_reducible refine AWP.label ?_
        | with_reducible refine AWP.goto ?_
        | ((with_reducible refine AWP.condT ?_ ?_); focus (simp only [ev, lk_cons, ↓reduceIte, Nat.reduceEqDiff]; done))
        | ((with_reducible refine AWP.condF ?_ ?_); focus (simp only [ev, lk_cons, ↓reduceIte, Nat.reduceEqDiff]; done))
        | simp only [go_sem, ↓reduceIte, Nat.reduceEqDiff, reduceCtorEq, Nat.reduceAdd, Int.reduceEq, Int.reduceBNe, Int.reduceBEq, Int.reduceToNat, Int.reduceLT, Int.reduceLE, Int.reduceGT, Int.reduceGE, Nat.reduceSub, Nat.reduceBEq, Nat.reduceBNe, Int.reduceAdd, Int.reduceSub, Int.reduceMul, Int.reduceNeg, Nat.reduceMul, Nat.reduceLeDiff, Nat.reduceLT, hc', hg, hx']
        | simp (disch := omega) only [wi64, wu8, wu16, wu32, wu64]
        | with_reducible_and_instances exact finR
        | ((with_reducible refine finR' ?_ ?_) <;> rfl)
        | ((with_reducible refine finD hsc (NRel.of_plain ?_)); exact rfl)
      refine ⟨(k + 1, f, ps), Weak.env (by simp [envIn, lk_cons, wth_some]), hc, (show f ≤ k + 1 by omega), (show ps.length ≤ k + 1 by omega), hcs, ?_, (show s.length - (k + 1) < s.length - k by omega)⟩
      show c ∉ (s.take (k + 1)).drop f
      rw [List.take_add_one, hg, Option.toList, List.drop_append_of_le_length (by rw [List.length_take]; omega)]
      intro hm
      rcases List.mem_append.1 hm with hm | hm
      · exact hno hm
      · exact hx (List.mem_singleton.1 hm).symm
  · have : k = s.length := by omega
    subst this
    have hc' : ¬ (s.length : Int) < (s.length : Int) := by omega
    rw [List.take_length] at hno
    rw [cutsL_none hno] at hcs
    repeat first
      | with_reducible refine AWP.seq ?_
      | ((with_reducible refine AWP.region ?_ ?_); exact rfl)
      | with_reducible refine AWP.block ?_
      | with_reducible refine AWP.skip ?_
      | with_reducible refine AWP.exit ?_
      | with_reducible refine AWP.ret ?_
      | with_reducible refine AWP.label ?_
      | with_reducible refine AWP.goto ?_
      | ((with_reducible refine AWP.condT ?_ ?_); focus (simp only [ev, lk_cons, ↓reduceIte, Nat.reduceEqDiff]; done))
      | ((with_reducible refine AWP.condF ?_ ?_); focus (simp only [ev, lk_cons, ↓reduceIte, Nat.reduceEqDiff]; done))
      | simp only [go_sem, ↓reduceIte, Nat.reduceEqDiff, reduceCtorEq, Nat.reduceAdd, Int.reduceEq, Int.reduceBNe, Int.reduceBEq, Int.reduceToNat, Int.reduceLT, Int.reduceLE, Int.reduceGT, Int.reduceGE, Nat.reduceSub, Nat.reduceBEq, Nat.reduceBNe, Int.reduceAdd, Int.reduceSub, Int.reduceMul, Int.reduceNeg, Nat.reduceMul, Nat.reduceLeDiff, Nat.reduceLT, hc']
      | simp (disch := omega) only [wi64, wu8, wu16, wu32, wu64]
      | with_reducible_and_instances exact finR
      | ((with_reducible refine finR' ?_ ?_) <;> rfl)
      | ((with_reducible refine finD hsc (NRel.of_plain ?_)); exact rfl)
    refine ⟨by omega, by omega, ?_⟩
    rw [List.take_length]
    refine appendTo_gn (l := strsC ps) (by with_unfolding_all first | exact (hget0 rfl).trans rfl | exact (hgetk rfl).trans rfl) (strsC_length _) (by omega) (by omega) ?_
    have ht : strsC ps ++ [.string (bs (s.drop f))] = strsC (cutsL c s) := by simp [strsC, hcs]
    have hl : ps.length + 1 = (cutsL c s).length := by rw [hcs]; simp
    repeat first
      | with_reducible refine AWP.seq ?_
      | ((with_reducible refine AWP.region ?_ ?_); exact rfl)
      | with_reducible refine AWP.block ?_
      | with_reducible refine AWP.skip ?_
      | with_reducible refine AWP.exit ?_
      | with_reducible refine AWP.ret ?_
      | with_reducible refine AWP.label ?_
      | with_reducible refine AWP.goto ?_
      | ((with_reducible refine AWP.condT ?_ ?_); focus (simp only [ev, lk_cons, ↓reduceIte, Nat.reduceEqDiff]; done))
      | ((with_reducible refine AWP.condF ?_ ?_); focus (simp only [ev, lk_cons, ↓reduceIte, Nat.reduceEqDiff]; done))
      | simp only [go_sem, ↓reduceIte, Nat.reduceEqDiff, reduceCtorEq, Nat.reduceAdd, Int.reduceEq, Int.reduceBNe, Int.reduceBEq, Int.reduceToNat, Int.reduceLT, Int.reduceLE, Int.reduceGT, Int.reduceGE, Nat.reduceSub, Nat.reduceBEq, Nat.reduceBNe, Int.reduceAdd, Int.reduceSub, Int.reduceMul, Int.reduceNeg, Nat.reduceMul, Nat.reduceLeDiff, Nat.reduceLT, ht, hl]
      | simp (disch := omega) only [wi64, wu8, wu16, wu32, wu64]
      | with_reducible_and_instances exact finR
      | ((with_reducible refine finR' ?_ ?_) <;> rfl)
      | ((with_reducible refine finD hsc (NRel.of_plain ?_)); exact rfl)
    exact finK [2] hsc (by simp) (by simp [selW_cons, selW_nil, wth_some, onm_cells, onm_dead, nrs_cons, nrs_nil, nr_int, nr_bool, nr_string, nr_slice, nr_nilSlice, nr_ptr, nr_nilPtr, nr_agg, nr_tuple, nr_iface, nr_nilIface, nr_func, nr_gs, nr_g, selN_0, selN_k, selN_lt, nrs_refl (bytesC_scalar _), strsC_scalar, nrs_refl (strsC_scalar _)])
end Go.Proofs.YtbdlomkogpnkpaaDoor
