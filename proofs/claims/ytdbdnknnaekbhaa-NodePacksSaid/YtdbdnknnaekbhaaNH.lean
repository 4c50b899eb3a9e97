/-
  The walk of nodes: reading nodes, the specification's; lists of nodes that are the same, that are right.
-/
import Derived.Test.YtdbdnknnaekbhaaNG
set_option linter.unusedVariables false
set_option linter.unusedSimpArgs false
set_option maxRecDepth 20000
set_option maxHeartbeats 4000000
namespace Go.Proofs.Ytdbdnknnaekbhaa
open Go Go.Aw Go.Proofs
theorem rUnpack (s : List UInt8) (hs : s.length ≤ 4000) (f : Int) (H : AHeap) : AC Try.prog 16 [.string (bs s), .int .i64 f] H (UnP s f H) := by
  have hU := rUnpack1
  unfold UnP
  by_cases hz : sizeL f = 0
  · have e : unE s f = 7 := if_pos hz
    have el : unL s f = [] := by unfold unL; rw [e]; rfl
    have hm := mget f
    rw [hz] at hm
    rw [e, el]
    refine AC.enter Try.func16 rfl (by kernel_rfl) 55 rfl [.tmp 4, .tmp 5] rfl (by simp) fun hsc B => ?_
    repeat first
      | with_reducible refine AWP.seq ?_
      | ((with_reducible refine AWP.region ?_ ?_); exact rfl)
      | with_reducible refine AWP.block ?_
      | with_reducible refine AWP.skip ?_
      | with_reducible refine AWP.exit ?_
      | with_reducible refine AWP.ret ?_
      | with_reducible refine AWP.label ?_
      | with_reducible refine AWP.goto ?_
      | ((with_reducible refine AWP.condT ?_ ?_); focus (simp only [ev, lk_cons, ↓reduceIte, Nat.reduceEqDiff]; done))
      | ((with_reducible refine AWP.condF ?_ ?_); focus (simp only [ev, lk_cons, ↓reduceIte, Nat.reduceEqDiff]; done))
      | simp only [go_sem, ↓reduceIte, Nat.reduceEqDiff, reduceCtorEq, Nat.reduceAdd, Int.reduceEq, Int.reduceBNe, Int.reduceBEq, Int.reduceToNat, Int.reduceLT, Int.reduceLE, Int.reduceGT, Int.reduceGE, Nat.reduceSub, Nat.reduceBEq, Nat.reduceBNe, Int.reduceAdd, Int.reduceSub, Int.reduceMul, Int.reduceNeg, Nat.reduceMul, Nat.reduceLeDiff, Nat.reduceLT]
      | simp (disch := omega) only [wi64, wu8, wu16, wu32, wu64, Int.tdiv_eq_ediv_of_nonneg, Int.tmod_eq_emod_of_nonneg]
      | with_reducible_and_instances exact finR
      | ((with_reducible refine finR' ?_ ?_) <;> rfl)
      | ((with_reducible refine finD hsc (NRel.of_plain ?_)); exact rfl)
    refine ⟨rfl, rfl, ?_⟩
    repeat first
      | with_reducible refine AWP.seq ?_
      | ((with_reducible refine AWP.region ?_ ?_); exact rfl)
      | with_reducible refine AWP.block ?_
      | with_reducible refine AWP.skip ?_
      | with_reducible refine AWP.exit ?_
      | with_reducible refine AWP.ret ?_
      | with_reducible refine AWP.label ?_
      | with_reducible refine AWP.goto ?_
      | ((with_reducible refine AWP.condT ?_ ?_); focus (simp only [ev, lk_cons, ↓reduceIte, Nat.reduceEqDiff]; done))
      | ((with_reducible refine AWP.condF ?_ ?_); focus (simp only [ev, lk_cons, ↓reduceIte, Nat.reduceEqDiff]; done))
      | simp only [go_sem, ↓reduceIte, Nat.reduceEqDiff, reduceCtorEq, Nat.reduceAdd, Int.reduceEq, Int.reduceBNe, Int.reduceBEq, Int.reduceToNat, Int.reduceLT, Int.reduceLE, Int.reduceGT, Int.reduceGE, Nat.reduceSub, Nat.reduceBEq, Nat.reduceBNe, Int.reduceAdd, Int.reduceSub, Int.reduceMul, Int.reduceNeg, Nat.reduceMul, Nat.reduceLeDiff, Nat.reduceLT, hm]
      | simp (disch := omega) only [wi64, wu8, wu16, wu32, wu64, Int.tdiv_eq_ediv_of_nonneg, Int.tmod_eq_emod_of_nonneg]
      | with_reducible_and_instances exact finR
      | ((with_reducible refine finR' ?_ ?_) <;> rfl)
      | ((with_reducible refine finD hsc (NRel.of_plain ?_)); exact rfl)
    exact ⟨_, _, .refl _ _ _, _, rfl, _, rfl, .inl ⟨rfl, rfl⟩⟩
  have hm := mget f
  obtain ⟨sz, hsz⟩ : ∃ sz, sz = sizeL f := ⟨_, rfl⟩
  have hsv : sz = 26 ∨ sz = 38 := by
    rw [hsz]
    unfold sizeL at *
    split
    · exact .inl rfl
    · rename_i h4
      rw [if_neg h4] at hz
      split
      · exact .inr rfl
      · rename_i h6
        rw [if_neg h6] at hz
        exact absurd rfl hz
  rw [← hsz] at hm hz
  have hz' : ¬ ((sz : Nat) : Int) = 0 := by omega
  have hz2 : (((sz : Nat) : Int) == 0) = false := beq_eq_false_iff_ne.2 hz'
  have hmod : (s.length : Int).tmod (sz : Int) = ((s.length % sz : Nat) : Int) := by rw [Int.tmod_eq_emod_of_nonneg (by omega)]; rfl
  by_cases hl : s.length % sz = 0
  · have hl' : (((s.length % sz : Nat) : Int) != 0) = false := by rw [bne_eq_false_iff_eq]; omega
    have hlen : s.length = s.length / sz * sz := by have := Nat.div_add_mod s.length sz; rw [hl, Nat.mul_comm] at this; omega
    obtain ⟨N, hN⟩ : ∃ N, N = s.length / sz := ⟨_, rfl⟩
    have hN2 : N ≤ 4000 := by rw [hN]; exact Nat.le_trans (Nat.div_le_self _ _) hs
    have eE : unE s f = if (List.range N).any (badAt sz s) = true then 12 else 0 := by unfold unE; rw [← hsz, if_neg hz, if_neg (by omega), hN]
    have eL : (List.range N).any (badAt sz s) = false → unL s f = (List.range N).map (ndAt sz s) := by
      intro h
      unfold unL
      rw [eE, h, if_neg (by decide : ¬ false = true), if_pos rfl, ← hsz, hN]
    have eL2 : (List.range N).any (badAt sz s) = true → unL s f = [] := by
      intro h
      unfold unL
      rw [eE, h, if_pos rfl, if_neg (by decide : ¬ (12 : Int) = 0)]
    rw [← hN] at hlen
    clear hN
    refine AC.enter Try.func16 rfl (by kernel_rfl) 55 rfl [.tmp 4, .tmp 5] rfl (by simp) fun hsc B => ?_
    repeat first
      | with_reducible refine AWP.seq ?_
      | ((with_reducible refine AWP.region ?_ ?_); exact rfl)
      | with_reducible refine AWP.block ?_
      | with_reducible refine AWP.skip ?_
      | with_reducible refine AWP.exit ?_
      | with_reducible refine AWP.ret ?_
      | with_reducible refine AWP.label ?_
      | with_reducible refine AWP.goto ?_
      | ((with_reducible refine AWP.condT ?_ ?_); focus (simp only [ev, lk_cons, ↓reduceIte, Nat.reduceEqDiff]; done))
      | ((with_reducible refine AWP.condF ?_ ?_); focus (simp only [ev, lk_cons, ↓reduceIte, Nat.reduceEqDiff]; done))
      | simp only [go_sem, ↓reduceIte, Nat.reduceEqDiff, reduceCtorEq, Nat.reduceAdd, Int.reduceEq, Int.reduceBNe, Int.reduceBEq, Int.reduceToNat, Int.reduceLT, Int.reduceLE, Int.reduceGT, Int.reduceGE, Nat.reduceSub, Nat.reduceBEq, Nat.reduceBNe, Int.reduceAdd, Int.reduceSub, Int.reduceMul, Int.reduceNeg, Nat.reduceMul, Nat.reduceLeDiff, Nat.reduceLT]
      | simp (disch := omega) only [wi64, wu8, wu16, wu32, wu64, Int.tdiv_eq_ediv_of_nonneg, Int.tmod_eq_emod_of_nonneg]
      | with_reducible_and_instances exact finR
      | ((with_reducible refine finR' ?_ ?_) <;> rfl)
      | ((with_reducible refine finD hsc (NRel.of_plain ?_)); exact rfl)
    refine ⟨rfl, rfl, ?_⟩
    repeat first
      | with_reducible refine AWP.seq ?_
      | ((with_reducible refine AWP.region ?_ ?_); exact rfl)
      | with_reducible refine AWP.block ?_
      | with_reducible refine AWP.skip ?_
      | with_reducible refine AWP.exit ?_
      | with_reducible refine AWP.ret ?_
      | with_reducible refine AWP.label ?_
      | with_reducible refine AWP.goto ?_
      | ((with_reducible refine AWP.condT ?_ ?_); focus (simp only [ev, lk_cons, ↓reduceIte, Nat.reduceEqDiff]; done))
      | ((with_reducible refine AWP.condF ?_ ?_); focus (simp only [ev, lk_cons, ↓reduceIte, Nat.reduceEqDiff]; done))
      | simp only [go_sem, ↓reduceIte, Nat.reduceEqDiff, reduceCtorEq, Nat.reduceAdd, Int.reduceEq, Int.reduceBNe, Int.reduceBEq, Int.reduceToNat, Int.reduceLT, Int.reduceLE, Int.reduceGT, Int.reduceGE, Nat.reduceSub, Nat.reduceBEq, Nat.reduceBNe, Int.reduceAdd, Int.reduceSub, Int.reduceMul, Int.reduceNeg, Nat.reduceMul, Nat.reduceLeDiff, Nat.reduceLT, hm, hz', hz2, hmod, hl']
      | simp (disch := omega) only [wi64, wu8, wu16, wu32, wu64, Int.tdiv_eq_ediv_of_nonneg, Int.tmod_eq_emod_of_nonneg]
      | with_reducible_and_instances exact finR
      | ((with_reducible refine finR' ?_ ?_) <;> rfl)
      | ((with_reducible refine finD hsc (NRel.of_plain ?_)); exact rfl)
    generalize AObj.amap (mPut (.int .i64 6) (.int .i64 38) (mCk (.int .i64 4) 0 []) (mPut (.int .i64 4) (.int .i64 26) 0 [])) (mCk (.int .i64 6) (mCk (.int .i64 4) 0 []) (mPut (.int .i64 4) (.int .i64 26) 0 [])) true = mo
    refine AWP.loopP (fun st : Nat × Nat × AHeap => ⟨[(0, .string (bs s)), (6, .int .i64 (sz : Nat)), (7, gS (H.length + st.2.1) st.1), (8, .int .i64 (st.1 * sz : Nat))], [], H ++ st.2.2⟩)
      (fun st => st.1 ≤ N ∧ (∀ j', j' < st.1 → badAt sz s j' = false) ∧ (0 < st.1 → st.2.2[st.2.1]? = some (.cells (ndsC ((List.range st.1).map (ndAt sz s))) ⟨46, 4, true, 0, none⟩))) (fun st => N - st.1) (0, 0, [mo]) ?_ ⟨Nat.zero_le _, fun j' h => absurd h (Nat.not_lt_zero _), fun h => absurd h (Nat.lt_irrefl _)⟩ ?_
    · exact Weak.env (by simp [envIn, lk_cons, wth_some, gS_zero])
    rintro ⟨j, k, X⟩ ⟨hj, hbad, hX⟩
    simp only at hj hbad hX ⊢
    have hmul : j * sz ≤ N * sz := Nat.mul_le_mul_right _ hj
    by_cases hc : j < N
    · have hmul1 : (j + 1) * sz ≤ N * sz := Nat.mul_le_mul_right _ hc
      rw [Nat.add_mul, Nat.one_mul] at hmul1
      have hnd : ndAt sz s j = ⟨(s.drop (j * sz)).take 20, adOf ((s.drop (j * sz + 20)).take (sz - 20))⟩ := rfl
      have hbd : badAt sz s j = ((adOf ((s.drop (j * sz + 20)).take (sz - 20))).port == 0) := rfl
      have hnx : (j + 1) * sz = j * sz + sz := by rw [Nat.add_mul, Nat.one_mul]
      rw [← hlen] at hmul1
      obtain ⟨i, hi⟩ : ∃ i, i = j * sz := ⟨_, rfl⟩
      rw [← hi] at hmul1 hnd hbd hnx ⊢
      have hc' : (i : Int) < (s.length : Int) := by omega
      have hcl : ((s.drop (i + 20)).take (sz - 20)).length = sz - 20 := by rw [List.length_take, List.length_drop]; omega
      have hU1 := fun H => hU ((s.drop (i + 20)).take (sz - 20)) (by rw [hcl]; omega) H
      have hsl : (s.take ((i : Int) + (sz : Int)).toNat).drop ((i : Int) + 20).toNat = (s.drop (i + 20)).take (sz - 20) := by
        rw [show ((i : Int) + (sz : Int)).toNat = i + sz by omega, show ((i : Int) + 20).toNat = i + 20 by omega, List.drop_take, show i + sz - (i + 20) = sz - 20 by omega]
      have hsl2 : (s.take ((i : Int) + 20).toNat).drop i = (s.drop i).take 20 := by
        rw [show ((i : Int) + 20).toNat = i + 20 by omega, List.drop_take, show i + 20 - i = 20 by omega]
      generalize (s.drop (i + 20)).take (sz - 20) = ct at *
      generalize (s.drop i).take 20 = idt at *
      unfold adV at hU1
      by_cases hp : (adOf ct).port = 0
      · rw [if_pos hp] at hU1
        have hany : (List.range N).any (badAt sz s) = true := List.any_eq_true.2 ⟨j, List.mem_range.2 hc, by rw [hbd, hp]; rfl⟩
        rw [eE, hany, if_pos rfl, eL2 hany]
        repeat' first
          | omega
          | with_reducible refine And.intro ?_ ?_
          | with_reducible refine AWP.seq ?_
          | ((with_reducible refine AWP.region ?_ ?_); exact rfl)
          | with_reducible refine AWP.block ?_
          | with_reducible refine AWP.skip ?_
          | with_reducible refine AWP.exit ?_
          | with_reducible refine AWP.ret ?_
          | with_reducible refine AWP.label ?_
          | with_reducible refine AWP.goto ?_
          | ((with_reducible refine AWP.condT ?_ ?_); focus (simp only [ev, lk_cons, ↓reduceIte, Nat.reduceEqDiff]; done))
          | ((with_reducible refine AWP.condF ?_ ?_); focus (simp only [ev, lk_cons, ↓reduceIte, Nat.reduceEqDiff]; done))
          | with_reducible refine (hU1 _).use ?_
          | simp only [go_sem, ↓reduceIte, Nat.reduceEqDiff, reduceCtorEq, Nat.reduceAdd, Int.reduceEq, Int.reduceBNe, Int.reduceBEq, Int.reduceToNat, Int.reduceLT, Int.reduceLE, Int.reduceGT, Int.reduceGE, Nat.reduceSub, Nat.reduceBEq, Nat.reduceBNe, Int.reduceAdd, Int.reduceSub, Int.reduceMul, Int.reduceNeg, Nat.reduceMul, Nat.reduceLeDiff, Nat.reduceLT, hc', hsl]
          | simp (disch := omega) only [wi64, wu8, wu16, wu32, wu64, Int.tdiv_eq_ediv_of_nonneg, Int.tmod_eq_emod_of_nonneg]
          | with_reducible_and_instances exact finR
          | ((with_reducible refine finR' ?_ ?_) <;> rfl)
          | ((with_reducible refine finD hsc (NRel.of_plain ?_)); exact rfl)
        exact ⟨_, _, .refl _ _ _, _, rfl, _, rfl, .inl ⟨rfl, rfl⟩⟩
      · rw [if_neg hp] at hU1
        have hbf : badAt sz s j = false := by rw [hbd]; exact beq_eq_false_iff_ne.2 hp
        generalize adOf ct = ad at *
        obtain ⟨fm, ip, po⟩ := ad
        unfold Ad.v at hU1
        simp only at hU1
        repeat' first
          | omega
          | with_reducible refine And.intro ?_ ?_
          | with_reducible refine AWP.seq ?_
          | ((with_reducible refine AWP.region ?_ ?_); exact rfl)
          | with_reducible refine AWP.block ?_
          | with_reducible refine AWP.skip ?_
          | with_reducible refine AWP.exit ?_
          | with_reducible refine AWP.ret ?_
          | with_reducible refine AWP.label ?_
          | with_reducible refine AWP.goto ?_
          | ((with_reducible refine AWP.condT ?_ ?_); focus (simp only [ev, lk_cons, ↓reduceIte, Nat.reduceEqDiff]; done))
          | ((with_reducible refine AWP.condF ?_ ?_); focus (simp only [ev, lk_cons, ↓reduceIte, Nat.reduceEqDiff]; done))
          | with_reducible refine (hU1 _).use ?_
          | simp only [go_sem, ↓reduceIte, Nat.reduceEqDiff, reduceCtorEq, Nat.reduceAdd, Int.reduceEq, Int.reduceBNe, Int.reduceBEq, Int.reduceToNat, Int.reduceLT, Int.reduceLE, Int.reduceGT, Int.reduceGE, Nat.reduceSub, Nat.reduceBEq, Nat.reduceBNe, Int.reduceAdd, Int.reduceSub, Int.reduceMul, Int.reduceNeg, Nat.reduceMul, Nat.reduceLeDiff, Nat.reduceLT, hc', hsl]
          | simp (disch := omega) only [wi64, wu8, wu16, wu32, wu64, Int.tdiv_eq_ediv_of_nonneg, Int.tmod_eq_emod_of_nonneg]
          | with_reducible_and_instances exact finR
          | ((with_reducible refine finR' ?_ ?_) <;> rfl)
          | ((with_reducible refine finD hsc (NRel.of_plain ?_)); exact rfl)
        refine AWP.regionM 9 [6, 8] [(6, .agg ⟨[.int .i64 fm, .string (bs ip), .int .i64 po]⟩)] (.run [6, 8]) (by kernel_rfl) (by decide) (by kernel_rfl) (by kernel_rfl) (by kernel_rfl) ?_
        have n1 : 0 ≤ (i : Int) := by omega
        have n2 : (i : Int) ≤ (i : Int) + 20 := by omega
        have n3 : (i : Int) + 20 ≤ (s.length : Int) := by omega
        repeat' first
          | with_reducible refine canW_n ?_
          | with_reducible refine canW_m (by decide) ?_
          | ((with_reducible apply canW_p (by decide)); focus (intro H; (simp only [go_sem, ↓reduceIte, Nat.reduceEqDiff, reduceCtorEq, Nat.reduceAdd, Int.reduceEq, Int.reduceBNe, Int.reduceBEq, Int.reduceToNat, Int.reduceLT, Int.reduceLE, Int.reduceGT, Int.reduceGE, Nat.reduceSub, Nat.reduceBEq, Nat.reduceBNe, Int.reduceAdd, Int.reduceSub, Int.reduceMul, Int.reduceNeg, Nat.reduceMul, Nat.reduceLeDiff, Nat.reduceLT, hsl2, Int.toNat_natCast, n1, n2, n3, List.map_cons, List.map_nil]); exact rfl))
          | with_reducible refine memW_b ?_ ?_
          | with_reducible refine memW_s rfl ?_
          | with_reducible refine memW_r rfl ?_
          | with_reducible refine memW_e ?_
          | simp only [List.take_succ_cons, List.take_zero, List.drop_succ_cons, List.drop_zero]
          | omega
          | with_reducible refine And.intro ?_ ?_
          | with_reducible refine AWP.seq ?_
          | ((with_reducible refine AWP.region ?_ ?_); exact rfl)
          | with_reducible refine AWP.block ?_
          | with_reducible refine AWP.skip ?_
          | with_reducible refine AWP.exit ?_
          | with_reducible refine AWP.ret ?_
          | with_reducible refine AWP.label ?_
          | with_reducible refine AWP.goto ?_
          | ((with_reducible refine AWP.condT ?_ ?_); focus (simp only [ev, lk_cons, ↓reduceIte, Nat.reduceEqDiff]; done))
          | ((with_reducible refine AWP.condF ?_ ?_); focus (simp only [ev, lk_cons, ↓reduceIte, Nat.reduceEqDiff]; done))
          | simp only [go_sem, ↓reduceIte, Nat.reduceEqDiff, reduceCtorEq, Nat.reduceAdd, Int.reduceEq, Int.reduceBNe, Int.reduceBEq, Int.reduceToNat, Int.reduceLT, Int.reduceLE, Int.reduceGT, Int.reduceGE, Nat.reduceSub, Nat.reduceBEq, Nat.reduceBNe, Int.reduceAdd, Int.reduceSub, Int.reduceMul, Int.reduceNeg, Nat.reduceMul, Nat.reduceLeDiff, Nat.reduceLT, hsl2, Int.toNat_natCast, n1, n2, n3, List.map_cons, List.map_nil]
          | simp (disch := omega) only [wi64, wu8, wu16, wu32, wu64, Int.tdiv_eq_ediv_of_nonneg, Int.tmod_eq_emod_of_nonneg]
          | with_reducible_and_instances exact finR
          | ((with_reducible refine finR' ?_ ?_) <;> rfl)
          | ((with_reducible refine finD hsc (NRel.of_plain ?_)); exact rfl)
        have hsn : (List.range (j + 1)).map (ndAt sz s) = (List.range j).map (ndAt sz s) ++ [⟨idt, ⟨fm, ip, po⟩⟩] := by
          rw [List.range_succ, List.map_append, List.map_singleton, hnd]
        have hbad2 : ∀ j', j' < j + 1 → badAt sz s j' = false := fun j' h => by
          rcases Nat.lt_or_ge j' j with h' | h'
          · exact hbad j' h'
          · rw [show j' = j by omega]; exact hbf
        have hcell : ndsC ((List.range j).map (ndAt sz s)) ++ [.string (bs idt), .int .i64 fm, .string (bs ip), .int .i64 po] = ndsC ((List.range (j + 1)).map (ndAt sz s)) := by
          rw [hsn, ndsC_snoc]; rfl
        have hll : (ndsC ((List.range j).map (ndAt sz s))).length = j * 4 := by rw [ndsC_len, List.length_map, List.length_range]
        have hwn : IntKind.i64.wrap ((i : Int) + (sz : Int)) = ((i + sz : Nat) : Int) := by rw [wi64 (by omega)]; omega
        rcases Nat.eq_zero_or_pos j with rfl | hpos
        · simp only [gS_zero]
          refine appendTo_nil (by decide) (by decide) (by decide) ?_
          repeat first
            | with_reducible refine AWP.seq ?_
            | ((with_reducible refine AWP.region ?_ ?_); exact rfl)
            | with_reducible refine AWP.block ?_
            | with_reducible refine AWP.skip ?_
            | with_reducible refine AWP.exit ?_
            | with_reducible refine AWP.ret ?_
            | with_reducible refine AWP.label ?_
            | with_reducible refine AWP.goto ?_
            | ((with_reducible refine AWP.condT ?_ ?_); focus (simp only [ev, lk_cons, ↓reduceIte, Nat.reduceEqDiff]; done))
            | ((with_reducible refine AWP.condF ?_ ?_); focus (simp only [ev, lk_cons, ↓reduceIte, Nat.reduceEqDiff]; done))
            | simp only [go_sem, ↓reduceIte, Nat.reduceEqDiff, reduceCtorEq, Nat.reduceAdd, Int.reduceEq, Int.reduceBNe, Int.reduceBEq, Int.reduceToNat, Int.reduceLT, Int.reduceLE, Int.reduceGT, Int.reduceGE, Nat.reduceSub, Nat.reduceBEq, Nat.reduceBNe, Int.reduceAdd, Int.reduceSub, Int.reduceMul, Int.reduceNeg, Nat.reduceMul, Nat.reduceLeDiff, Nat.reduceLT, hwn]
            | simp (disch := omega) only [wi64, wu8, wu16, wu32, wu64, Int.tdiv_eq_ediv_of_nonneg, Int.tmod_eq_emod_of_nonneg]
            | with_reducible_and_instances exact finR
            | ((with_reducible refine finR' ?_ ?_) <;> rfl)
            | ((with_reducible refine finD hsc (NRel.of_plain ?_)); exact rfl)
          refine ⟨(0 + 1, X.length + 2, X ++ [AObj.cells [.int .i64 fm, .string (bs ip), .int .i64 po] ⟨44, 0, true, 0, none⟩, .cells [.string (bs idt), .int .i64 fm, .string (bs ip), .int .i64 po] ⟨46, 0, true, 0, none⟩, .cells (ndsC ((List.range (0 + 1)).map (ndAt sz s))) ⟨46, 4, true, 0, none⟩]), ?_, by show 0 + 1 ≤ N; omega, hbad2, fun _ => ?_, by show N - (0 + 1) < N - 0; omega⟩
          · rw [← hcell]
            exact Weak.env (by simp [envIn, lk_cons, wth_some, gS_succ, hnx])
          · show (X ++ _)[X.length + 2]? = _
            rw [List.getElem?_append_right (by omega)]
            simp
        · rw [gS_pos hpos]
          have hX' := hX hpos
          have hkX := lt_of_get hX'
          have hX2 : (X ++ [AObj.cells [.int .i64 fm, .string (bs ip), .int .i64 po] ⟨44, 0, true, 0, none⟩, .cells [.string (bs idt), .int .i64 fm, .string (bs ip), .int .i64 po] ⟨46, 0, true, 0, none⟩])[k]? = some (.cells (ndsC ((List.range j).map (ndAt sz s))) ⟨46, 4, true, 0, none⟩) := by rw [List.getElem?_append_left hkX]; exact hX'
          refine appendTo_own (cs := ndsC ((List.range j).map (ndAt sz s))) (by simp only [go_sem, ↓reduceIte, Nat.reduceEqDiff, reduceCtorEq, Nat.reduceAdd, Int.reduceEq, Int.reduceBNe, Int.reduceBEq, Int.reduceToNat, Int.reduceLT, Int.reduceLE, Int.reduceGT, Int.reduceGE, Nat.reduceSub, Nat.reduceBEq, Nat.reduceBNe, Int.reduceAdd, Int.reduceSub, Int.reduceMul, Int.reduceNeg, Nat.reduceMul, Nat.reduceLeDiff, Nat.reduceLT, hX2]) (by decide) hll (by decide) (by omega) (by omega) ?_
          repeat first
            | with_reducible refine AWP.seq ?_
            | ((with_reducible refine AWP.region ?_ ?_); exact rfl)
            | with_reducible refine AWP.block ?_
            | with_reducible refine AWP.skip ?_
            | with_reducible refine AWP.exit ?_
            | with_reducible refine AWP.ret ?_
            | with_reducible refine AWP.label ?_
            | with_reducible refine AWP.goto ?_
            | ((with_reducible refine AWP.condT ?_ ?_); focus (simp only [ev, lk_cons, ↓reduceIte, Nat.reduceEqDiff]; done))
            | ((with_reducible refine AWP.condF ?_ ?_); focus (simp only [ev, lk_cons, ↓reduceIte, Nat.reduceEqDiff]; done))
            | simp only [go_sem, ↓reduceIte, Nat.reduceEqDiff, reduceCtorEq, Nat.reduceAdd, Int.reduceEq, Int.reduceBNe, Int.reduceBEq, Int.reduceToNat, Int.reduceLT, Int.reduceLE, Int.reduceGT, Int.reduceGE, Nat.reduceSub, Nat.reduceBEq, Nat.reduceBNe, Int.reduceAdd, Int.reduceSub, Int.reduceMul, Int.reduceNeg, Nat.reduceMul, Nat.reduceLeDiff, Nat.reduceLT, hwn]
            | simp (disch := omega) only [wi64, wu8, wu16, wu32, wu64, Int.tdiv_eq_ediv_of_nonneg, Int.tmod_eq_emod_of_nonneg]
            | with_reducible_and_instances exact finR
            | ((with_reducible refine finR' ?_ ?_) <;> rfl)
            | ((with_reducible refine finD hsc (NRel.of_plain ?_)); exact rfl)
          refine ⟨(j + 1, X.length + 2, (X ++ [AObj.cells [.int .i64 fm, .string (bs ip), .int .i64 po] ⟨44, 0, true, 0, none⟩, .cells [.string (bs idt), .int .i64 fm, .string (bs ip), .int .i64 po] ⟨46, 0, true, 0, none⟩]).set k .dead ++ [.cells (ndsC ((List.range (j + 1)).map (ndAt sz s))) ⟨46, 4, true, 0, none⟩]), ?_, by show j + 1 ≤ N; omega, hbad2, fun _ => ?_, by show N - (j + 1) < N - j; omega⟩
          · rw [← hcell]
            exact Weak.env (by simp [envIn, lk_cons, wth_some, gS_succ, hnx])
          · show (_ ++ _)[X.length + 2]? = _
            rw [List.getElem?_append_right (by simp)]
            simp
    · have : j = N := by omega
      subst this
      have hany : (List.range j).any (badAt sz s) = false := by
        rw [Bool.eq_false_iff]
        intro h
        obtain ⟨j', h1, h2⟩ := List.any_eq_true.1 h
        rw [hbad j' (List.mem_range.1 h1)] at h2
        cases h2
      have hc' : ¬ ((j * sz : Nat) : Int) < (s.length : Int) := by omega
      rw [eE, hany, if_neg (by decide : ¬ false = true), eL hany]
      repeat first
        | with_reducible refine AWP.seq ?_
        | ((with_reducible refine AWP.region ?_ ?_); exact rfl)
        | with_reducible refine AWP.block ?_
        | with_reducible refine AWP.skip ?_
        | with_reducible refine AWP.exit ?_
        | with_reducible refine AWP.ret ?_
        | with_reducible refine AWP.label ?_
        | with_reducible refine AWP.goto ?_
        | ((with_reducible refine AWP.condT ?_ ?_); focus (simp only [ev, lk_cons, ↓reduceIte, Nat.reduceEqDiff]; done))
        | ((with_reducible refine AWP.condF ?_ ?_); focus (simp only [ev, lk_cons, ↓reduceIte, Nat.reduceEqDiff]; done))
        | simp only [go_sem, ↓reduceIte, Nat.reduceEqDiff, reduceCtorEq, Nat.reduceAdd, Int.reduceEq, Int.reduceBNe, Int.reduceBEq, Int.reduceToNat, Int.reduceLT, Int.reduceLE, Int.reduceGT, Int.reduceGE, Nat.reduceSub, Nat.reduceBEq, Nat.reduceBNe, Int.reduceAdd, Int.reduceSub, Int.reduceMul, Int.reduceNeg, Nat.reduceMul, Nat.reduceLeDiff, Nat.reduceLT, hc']
        | simp (disch := omega) only [wi64, wu8, wu16, wu32, wu64, Int.tdiv_eq_ediv_of_nonneg, Int.tmod_eq_emod_of_nonneg]
        | with_reducible_and_instances exact finR
        | ((with_reducible refine finR' ?_ ?_) <;> rfl)
        | ((with_reducible refine finD hsc (NRel.of_plain ?_)); exact rfl)
      refine ⟨_, _, .refl _ _ _, _, rfl, X, rfl, ?_⟩
      rcases Nat.eq_zero_or_pos j with rfl | hpos
      · exact .inl ⟨rfl, rfl⟩
      · rw [gS_pos hpos]
        exact RdN.nds ((hgetk rfl).trans (hX hpos)) (by rw [List.length_map, List.length_range])
  · have e : unE s f = 11 := by unfold unE; rw [← hsz, if_neg hz, if_pos hl]
    have el : unL s f = [] := by unfold unL; rw [e]; rfl
    have hl' : (((s.length % sz : Nat) : Int) != 0) = true := by rw [bne_iff_ne]; omega
    rw [e, el]
    refine AC.enter Try.func16 rfl (by kernel_rfl) 55 rfl [.tmp 4, .tmp 5] rfl (by simp) fun hsc B => ?_
    repeat first
      | with_reducible refine AWP.seq ?_
      | ((with_reducible refine AWP.region ?_ ?_); exact rfl)
      | with_reducible refine AWP.block ?_
      | with_reducible refine AWP.skip ?_
      | with_reducible refine AWP.exit ?_
      | with_reducible refine AWP.ret ?_
      | with_reducible refine AWP.label ?_
      | with_reducible refine AWP.goto ?_
      | ((with_reducible refine AWP.condT ?_ ?_); focus (simp only [ev, lk_cons, ↓reduceIte, Nat.reduceEqDiff]; done))
      | ((with_reducible refine AWP.condF ?_ ?_); focus (simp only [ev, lk_cons, ↓reduceIte, Nat.reduceEqDiff]; done))
      | simp only [go_sem, ↓reduceIte, Nat.reduceEqDiff, reduceCtorEq, Nat.reduceAdd, Int.reduceEq, Int.reduceBNe, Int.reduceBEq, Int.reduceToNat, Int.reduceLT, Int.reduceLE, Int.reduceGT, Int.reduceGE, Nat.reduceSub, Nat.reduceBEq, Nat.reduceBNe, Int.reduceAdd, Int.reduceSub, Int.reduceMul, Int.reduceNeg, Nat.reduceMul, Nat.reduceLeDiff, Nat.reduceLT]
      | simp (disch := omega) only [wi64, wu8, wu16, wu32, wu64, Int.tdiv_eq_ediv_of_nonneg, Int.tmod_eq_emod_of_nonneg]
      | with_reducible_and_instances exact finR
      | ((with_reducible refine finR' ?_ ?_) <;> rfl)
      | ((with_reducible refine finD hsc (NRel.of_plain ?_)); exact rfl)
    refine ⟨rfl, rfl, ?_⟩
    repeat first
      | with_reducible refine AWP.seq ?_
      | ((with_reducible refine AWP.region ?_ ?_); exact rfl)
      | with_reducible refine AWP.block ?_
      | with_reducible refine AWP.skip ?_
      | with_reducible refine AWP.exit ?_
      | with_reducible refine AWP.ret ?_
      | with_reducible refine AWP.label ?_
      | with_reducible refine AWP.goto ?_
      | ((with_reducible refine AWP.condT ?_ ?_); focus (simp only [ev, lk_cons, ↓reduceIte, Nat.reduceEqDiff]; done))
      | ((with_reducible refine AWP.condF ?_ ?_); focus (simp only [ev, lk_cons, ↓reduceIte, Nat.reduceEqDiff]; done))
      | simp only [go_sem, ↓reduceIte, Nat.reduceEqDiff, reduceCtorEq, Nat.reduceAdd, Int.reduceEq, Int.reduceBNe, Int.reduceBEq, Int.reduceToNat, Int.reduceLT, Int.reduceLE, Int.reduceGT, Int.reduceGE, Nat.reduceSub, Nat.reduceBEq, Nat.reduceBNe, Int.reduceAdd, Int.reduceSub, Int.reduceMul, Int.reduceNeg, Nat.reduceMul, Nat.reduceLeDiff, Nat.reduceLT, hm, hz', hz2, hmod, hl']
      | simp (disch := omega) only [wi64, wu8, wu16, wu32, wu64, Int.tdiv_eq_ediv_of_nonneg, Int.tmod_eq_emod_of_nonneg]
      | with_reducible_and_instances exact finR
      | ((with_reducible refine finR' ?_ ?_) <;> rfl)
      | ((with_reducible refine finD hsc (NRel.of_plain ?_)); exact rfl)
    exact ⟨_, _, .refl _ _ _, _, rfl, _, rfl, .inl ⟨rfl, rfl⟩⟩
instance : DecidableEq Ad := fun a b => match a, b with
  | ⟨f, i, p⟩, ⟨f', i', p'⟩ => decidable_of_iff (f = f' ∧ i = i' ∧ p = p') (by simp)
instance : DecidableEq Nd := fun a b => match a, b with
  | ⟨i, x⟩, ⟨i', x'⟩ => decidable_of_iff (i = i' ∧ x = x') (by simp)
theorem ndsN_len (l : List Nd) : (l.map ndC).length = l.length := List.length_map _
/-- A list of nodes at a place. -/
def NdAt (H : AHeap) (v : Value) (l : List Nd) : Prop := ∀ n, (h : n < l.length) → ∃ i o cap cs k, v = .slice (some ⟨i, o, none⟩) l.length cap ∧ H[i]? = some (.cells cs k) ∧ (cs.drop (o + n * 4)).take 4 = ndC l[n] ∧ o + (n * 4 + 4) ≤ cs.length
theorem ndAt_of {H : AHeap} {v : Value} {l : List Nd} (h : RdN H 4 v (l.map ndC)) : NdAt H v l := by
  intro n hn
  rcases h with ⟨rfl, e⟩ | ⟨i, o, cap, cs, k, rfl, hi, hle, hr⟩
  · have := congrArg List.length e
    rw [List.length_map] at this
    rw [this] at hn
    exact absurd hn (Nat.not_lt_zero _)
  · have h2 := hle (by intro e; have := congrArg List.length e; rw [List.length_map] at this; rw [this] at hn; exact absurd hn (Nat.not_lt_zero _))
    rw [List.length_map] at h2 ⊢
    exact ⟨i, o, cap, cs, k, rfl, hi, hr n _ (by rw [List.getElem?_map, List.getElem?_eq_getElem hn]; rfl), by omega⟩
theorem right (l : List Nd) (hl : l.length < 1099511627776) (v : Value) (H : AHeap) (hv : RdN H 4 v (l.map ndC)) : ARet Try.prog 19 [v] H (.bool (l.all Nd.ok)) H := by
  have q1 : ∀ H' K, lenW Try.prog 34 v H' K = K (.int .i64 (l.length : Nat)) H' := fun H' K => by rw [hv.lenT (by simp only [go_sem, ↓reduceIte, Nat.reduceEqDiff, reduceCtorEq, Nat.reduceAdd, Int.reduceEq, Int.reduceBNe, Int.reduceBEq, Int.reduceToNat, Int.reduceLT, Int.reduceLE, Int.reduceGT, Int.reduceGE, Nat.reduceSub, Nat.reduceBEq, Nat.reduceBNe, Int.reduceAdd, Int.reduceSub, Int.reduceMul, Int.reduceNeg, Nat.reduceMul, Nat.reduceLeDiff, Nat.reduceLT]), ndsN_len]
  have hat := ndAt_of hv
  refine AC.enter Try.func19 rfl (by kernel_rfl) 15 rfl [.tmp 2] rfl (by simp) fun hsc B => ?_
  repeat first
    | with_reducible refine AWP.seq ?_
    | ((with_reducible refine AWP.region ?_ ?_); exact rfl)
    | with_reducible refine AWP.block ?_
    | with_reducible refine AWP.skip ?_
    | with_reducible refine AWP.exit ?_
    | with_reducible refine AWP.ret ?_
    | with_reducible refine AWP.label ?_
    | with_reducible refine AWP.goto ?_
    | ((with_reducible refine AWP.condT ?_ ?_); focus (simp only [ev, lk_cons, ↓reduceIte, Nat.reduceEqDiff]; done))
    | ((with_reducible refine AWP.condF ?_ ?_); focus (simp only [ev, lk_cons, ↓reduceIte, Nat.reduceEqDiff]; done))
    | simp only [go_sem, ↓reduceIte, Nat.reduceEqDiff, reduceCtorEq, Nat.reduceAdd, Int.reduceEq, Int.reduceBNe, Int.reduceBEq, Int.reduceToNat, Int.reduceLT, Int.reduceLE, Int.reduceGT, Int.reduceGE, Nat.reduceSub, Nat.reduceBEq, Nat.reduceBNe, Int.reduceAdd, Int.reduceSub, Int.reduceMul, Int.reduceNeg, Nat.reduceMul, Nat.reduceLeDiff, Nat.reduceLT, q1]
    | simp (disch := omega) only [wi64, wu8, wu16, wu32, wu64, Int.tdiv_eq_ediv_of_nonneg, Int.tmod_eq_emod_of_nonneg]
    | with_reducible_and_instances exact finR
    | ((with_reducible refine finR' ?_ ?_) <;> rfl)
    | ((with_reducible refine finD hsc (NRel.of_plain ?_)); exact rfl)
  refine AWP.loopP (fun s : Nat × AHeap => ⟨[(5, v), (6, .int .i64 (l.length : Nat)), (7, .int .i64 (s.1 : Nat))], [], H ++ s.2⟩) (fun s => s.1 ≤ l.length ∧ (l.take s.1).all Nd.ok = true) (fun s => l.length - s.1) (0, []) ?_ ⟨Nat.zero_le _, rfl⟩ ?_
  · simp only [List.append_nil]
    exact Weak.env (by simp [envIn, lk_cons, wth_some])
  rintro ⟨n, X⟩ ⟨hn, hall⟩
  simp only at hn hall ⊢
  by_cases hc : n < l.length
  · have hc' : (n : Int) < (l.length : Int) := by omega
    obtain ⟨i, o, cap, cs, k, rfl, hi, hg, hg2⟩ := hat n hc
    have hil := lt_of_get hi
    have hV := rvalidNode l[n]
    have htk : (l.take (n + 1)).all Nd.ok = l[n].ok := by
      rw [List.take_add_one, List.getElem?_eq_getElem hc, List.all_append, hall]; simp
    have hwn : IntKind.i64.wrap ((n : Int) + 1) = ((n + 1 : Nat) : Int) := by rw [wi64 (by omega)]; omega
    have hmem : l[n] ∈ l := List.getElem_mem _
    generalize l[n] = x at *
    unfold Nd.v at hV
    unfold ndC at hg hV
    cases hk : x.ok with
    | true =>
      rw [hk] at hV htk
      repeat first
        | with_reducible refine AWP.seq ?_
        | ((with_reducible refine AWP.region ?_ ?_); exact rfl)
        | with_reducible refine AWP.block ?_
        | with_reducible refine AWP.skip ?_
        | with_reducible refine AWP.exit ?_
        | with_reducible refine AWP.ret ?_
        | with_reducible refine AWP.label ?_
        | with_reducible refine AWP.goto ?_
        | ((with_reducible refine AWP.condT ?_ ?_); focus (simp only [ev, lk_cons, ↓reduceIte, Nat.reduceEqDiff]; done))
        | ((with_reducible refine AWP.condF ?_ ?_); focus (simp only [ev, lk_cons, ↓reduceIte, Nat.reduceEqDiff]; done))
        | with_reducible refine (hV _).use ?_
        | simp only [go_sem, ↓reduceIte, Nat.reduceEqDiff, reduceCtorEq, Nat.reduceAdd, Int.reduceEq, Int.reduceBNe, Int.reduceBEq, Int.reduceToNat, Int.reduceLT, Int.reduceLE, Int.reduceGT, Int.reduceGE, Nat.reduceSub, Nat.reduceBEq, Nat.reduceBNe, Int.reduceAdd, Int.reduceSub, Int.reduceMul, Int.reduceNeg, Nat.reduceMul, Nat.reduceLeDiff, Nat.reduceLT, hc', hi, hil, hgetl, hg, hg2, hwn]
        | simp (disch := omega) only [wi64, wu8, wu16, wu32, wu64, Int.tdiv_eq_ediv_of_nonneg, Int.tmod_eq_emod_of_nonneg]
        | with_reducible_and_instances exact finR
        | ((with_reducible refine finR' ?_ ?_) <;> rfl)
        | ((with_reducible refine finD hsc (NRel.of_plain ?_)); exact rfl)
      exact ⟨(n + 1, X ++ [.cells (ndC x) ⟨46, 0, true, 0, none⟩]), Weak.env (by simp [envIn, lk_cons, wth_some, ndC]), by show n + 1 ≤ _; omega, htk, by show l.length - (n + 1) < _; omega⟩
    | false =>
      rw [hk] at hV
      have hf : l.all Nd.ok = false := by
        rw [Bool.eq_false_iff]
        intro h
        have := List.all_eq_true.1 h x hmem
        rw [hk] at this
        cases this
      rw [hf]
      repeat first
        | with_reducible refine AWP.seq ?_
        | ((with_reducible refine AWP.region ?_ ?_); exact rfl)
        | with_reducible refine AWP.block ?_
        | with_reducible refine AWP.skip ?_
        | with_reducible refine AWP.exit ?_
        | with_reducible refine AWP.ret ?_
        | with_reducible refine AWP.label ?_
        | with_reducible refine AWP.goto ?_
        | ((with_reducible refine AWP.condT ?_ ?_); focus (simp only [ev, lk_cons, ↓reduceIte, Nat.reduceEqDiff]; done))
        | ((with_reducible refine AWP.condF ?_ ?_); focus (simp only [ev, lk_cons, ↓reduceIte, Nat.reduceEqDiff]; done))
        | with_reducible refine (hV _).use ?_
        | simp only [go_sem, ↓reduceIte, Nat.reduceEqDiff, reduceCtorEq, Nat.reduceAdd, Int.reduceEq, Int.reduceBNe, Int.reduceBEq, Int.reduceToNat, Int.reduceLT, Int.reduceLE, Int.reduceGT, Int.reduceGE, Nat.reduceSub, Nat.reduceBEq, Nat.reduceBNe, Int.reduceAdd, Int.reduceSub, Int.reduceMul, Int.reduceNeg, Nat.reduceMul, Nat.reduceLeDiff, Nat.reduceLT, hc', hi, hil, hgetl, hg, hg2, hwn]
        | simp (disch := omega) only [wi64, wu8, wu16, wu32, wu64, Int.tdiv_eq_ediv_of_nonneg, Int.tmod_eq_emod_of_nonneg]
        | with_reducible_and_instances exact finR
        | ((with_reducible refine finR' ?_ ?_) <;> rfl)
        | ((with_reducible refine finD hsc (NRel.of_plain ?_)); exact rfl)
  · have : n = l.length := by omega
    subst this
    have hc' : ¬ (l.length : Int) < (l.length : Int) := by omega
    rw [List.take_length] at hall
    rw [hall]
    repeat first
      | with_reducible refine AWP.seq ?_
      | ((with_reducible refine AWP.region ?_ ?_); exact rfl)
      | with_reducible refine AWP.block ?_
      | with_reducible refine AWP.skip ?_
      | with_reducible refine AWP.exit ?_
      | with_reducible refine AWP.ret ?_
      | with_reducible refine AWP.label ?_
      | with_reducible refine AWP.goto ?_
      | ((with_reducible refine AWP.condT ?_ ?_); focus (simp only [ev, lk_cons, ↓reduceIte, Nat.reduceEqDiff]; done))
      | ((with_reducible refine AWP.condF ?_ ?_); focus (simp only [ev, lk_cons, ↓reduceIte, Nat.reduceEqDiff]; done))
      | simp only [go_sem, ↓reduceIte, Nat.reduceEqDiff, reduceCtorEq, Nat.reduceAdd, Int.reduceEq, Int.reduceBNe, Int.reduceBEq, Int.reduceToNat, Int.reduceLT, Int.reduceLE, Int.reduceGT, Int.reduceGE, Nat.reduceSub, Nat.reduceBEq, Nat.reduceBNe, Int.reduceAdd, Int.reduceSub, Int.reduceMul, Int.reduceNeg, Nat.reduceMul, Nat.reduceLeDiff, Nat.reduceLT, hc']
      | simp (disch := omega) only [wi64, wu8, wu16, wu32, wu64, Int.tdiv_eq_ediv_of_nonneg, Int.tmod_eq_emod_of_nonneg]
      | with_reducible_and_instances exact finR
      | ((with_reducible refine finR' ?_ ?_) <;> rfl)
      | ((with_reducible refine finD hsc (NRel.of_plain ?_)); exact rfl)
end Go.Proofs.Ytdbdnknnaekbhaa
