/-
  The walk of the law of first wrong bytes.
-/
import Derived.Test.YthcdjconlfdidaaDoorE5
set_option linter.unusedVariables false
set_option linter.unusedSimpArgs false
set_option maxRecDepth 20000
set_option maxHeartbeats 8000000
namespace Go.Proofs.YthcdjconlfdidaaDoor
open Go Go.Aw Go.Proofs
theorem cut12 (s : List UInt8) : ∃ d, (∀ m, m ≤ s.length → valR (s.take m) 12 0 0 = if d ≤ m then valR s 12 0 0 else .bad m 2) ∧ (∀ v j n, valR s 12 0 0 = .ok v j n → d = j) ∧ (∀ a e, valR s 12 0 0 = .bad a e → a + 1 ≤ d) := by
  obtain ⟨d, h1, h2, h3⟩ := val_cut s 12 0 0 (Nat.zero_le _)
  exact ⟨d, fun m hm => h1 m (Nat.zero_le _) hm, h2, h3⟩
theorem readR_ok {s : List UInt8} (hs : s.length ≤ 65536) {v : BV} {j n : Nat} (h : valR s 12 0 0 = .ok v j n) : readR s = (v, (j : Int), -1, 0) := by
  unfold readR
  rw [if_neg (by omega), h]
theorem readR_bad {s : List UInt8} (hs : s.length ≤ 65536) {a : Nat} {e : Int} (h : valR s 12 0 0 = .bad a e) : readR s = (.zero, 0, (a : Int), e) := by
  unfold readR
  rw [if_neg (by omega), h]
/-- What stands behind a call of Read. -/
theorem use_read {H : AHeap} {s : List UInt8} {K : ARes → AHeap → Prop} (H1 : AHeap) (h0 : Frm [] H H1)
    (h : ∀ cs H2, Frm [] H (H2 ++ [AObj.cells cs ⟨26, 0, true, 0, none⟩]) → cs.length = 5 → cs.all Go.Aw.flat = true → putCells [.int .i64 0, .int .i64 0, .string (bs []), .slice none 0 0, .slice none 0 0] 0 cs = cs → K (.ret (.tuple ⟨[.agg ⟨cs⟩, .int .i64 (readR s).2.1, .int .i64 (readR s).2.2.1, .int .i64 (readR s).2.2.2]⟩)) H2) :
    AC Tryd.prog 9 [.string (bs s)] H1 K := by
  refine AC.mono (read s H1) ?_
  rintro res H2 ⟨cs, rfl, hf, hR⟩
  refine h cs H2 ((h0.trans hf (fun x hx => by cases hx)).more) hR.len (RdV_flat hR) ?_
  have hc5 := hR.len
  match cs, hc5 with
  | [_, _, _, _, _], _ => rfl
theorem lawFirst (s o : List UInt8) (hs : s.length < 140737488355328) (ho : o.length < 140737488355328) (H : AHeap) (hG : GlobB H) :
    AC Tryd.prog 4 [.string (bs s), .string (bs o)] H (fun r _ => r = .ret (.bool true)) := by
  have hAw : ∀ H1, Frm [] H H1 → AC Tryd.prog 8 [] H1 (fun r H2 => r = .ret (.bool true) ∧ Frm [] H1 H2) := fun H1 h => awake H1 (hG.frm h)
  by_cases b1 : 400 < s.length
  · have b1' : (s.length : Int) > 400 := by omega
    refine AC.enter Tryd.func4 rfl (by kernel_rfl) 163 rfl [.tmp 4] rfl (by simp) fun hsc B => ?_
    repeat first
      | with_reducible refine AWP.seq ?_
      | ((with_reducible refine AWP.region ?_ ?_); exact rfl)
      | with_reducible refine AWP.block ?_
      | with_reducible refine AWP.skip ?_
      | with_reducible refine AWP.exit ?_
      | with_reducible refine AWP.ret ?_
      | with_reducible refine AWP.label ?_
      | with_reducible refine AWP.goto ?_
      | ((with_reducible refine AWP.condT ?_ ?_); focus (simp only [ev, lk_cons, ↓reduceIte, Nat.reduceEqDiff]; done))
      | ((with_reducible refine AWP.condF ?_ ?_); focus (simp only [ev, lk_cons, ↓reduceIte, Nat.reduceEqDiff]; done))
      | simp only [go_sem, ↓reduceIte, Nat.reduceEqDiff, reduceCtorEq, Nat.reduceAdd, Int.reduceEq, Int.reduceBNe, Int.reduceBEq, Int.reduceToNat, Int.reduceLT, Int.reduceLE, Int.reduceGT, Int.reduceGE, Nat.reduceSub, Nat.reduceBEq, Nat.reduceBNe, Int.reduceAdd, Int.reduceSub, Int.reduceMul, Int.reduceNeg, Nat.reduceMul, Nat.reduceLeDiff, Nat.reduceLT, b1', exists_eq_left]
      | simp (disch := omega) only [wi64, wu8, wu16, wu32, wu64, Int.tdiv_eq_ediv_of_nonneg, Int.tmod_eq_emod_of_nonneg]
      | with_reducible_and_instances exact finR
      | ((with_reducible refine finR' ?_ ?_) <;> rfl)
      | ((with_reducible refine finD hsc (NRel.of_plain ?_)); exact rfl)
    refine AC.mono (hAw H (Frm.refl _ _)) ?_
    rintro res H1 ⟨rfl, hf⟩
    repeat first
      | with_reducible refine AWP.seq ?_
      | ((with_reducible refine AWP.region ?_ ?_); exact rfl)
      | with_reducible refine AWP.block ?_
      | with_reducible refine AWP.skip ?_
      | with_reducible refine AWP.exit ?_
      | with_reducible refine AWP.ret ?_
      | with_reducible refine AWP.label ?_
      | with_reducible refine AWP.goto ?_
      | ((with_reducible refine AWP.condT ?_ ?_); focus (simp only [ev, lk_cons, ↓reduceIte, Nat.reduceEqDiff]; done))
      | ((with_reducible refine AWP.condF ?_ ?_); focus (simp only [ev, lk_cons, ↓reduceIte, Nat.reduceEqDiff]; done))
      | simp only [go_sem, ↓reduceIte, Nat.reduceEqDiff, reduceCtorEq, Nat.reduceAdd, Int.reduceEq, Int.reduceBNe, Int.reduceBEq, Int.reduceToNat, Int.reduceLT, Int.reduceLE, Int.reduceGT, Int.reduceGE, Nat.reduceSub, Nat.reduceBEq, Nat.reduceBNe, Int.reduceAdd, Int.reduceSub, Int.reduceMul, Int.reduceNeg, Nat.reduceMul, Nat.reduceLeDiff, Nat.reduceLT]
      | simp (disch := omega) only [wi64, wu8, wu16, wu32, wu64, Int.tdiv_eq_ediv_of_nonneg, Int.tmod_eq_emod_of_nonneg]
      | with_reducible_and_instances exact finR
      | ((with_reducible refine finR' ?_ ?_) <;> rfl)
      | ((with_reducible refine finD hsc (NRel.of_plain ?_)); exact rfl)
    exact ⟨_, _, .refl _ _ _, rfl⟩
  by_cases b2 : 400 < o.length
  · have b1' : ¬ (s.length : Int) > 400 := by omega
    have b2' : (o.length : Int) > 400 := by omega
    refine AC.enter Tryd.func4 rfl (by kernel_rfl) 163 rfl [.tmp 4] rfl (by simp) fun hsc B => ?_
    repeat first
      | with_reducible refine AWP.seq ?_
      | ((with_reducible refine AWP.region ?_ ?_); exact rfl)
      | with_reducible refine AWP.block ?_
      | with_reducible refine AWP.skip ?_
      | with_reducible refine AWP.exit ?_
      | with_reducible refine AWP.ret ?_
      | with_reducible refine AWP.label ?_
      | with_reducible refine AWP.goto ?_
      | ((with_reducible refine AWP.condT ?_ ?_); focus (simp only [ev, lk_cons, ↓reduceIte, Nat.reduceEqDiff]; done))
      | ((with_reducible refine AWP.condF ?_ ?_); focus (simp only [ev, lk_cons, ↓reduceIte, Nat.reduceEqDiff]; done))
      | simp only [go_sem, ↓reduceIte, Nat.reduceEqDiff, reduceCtorEq, Nat.reduceAdd, Int.reduceEq, Int.reduceBNe, Int.reduceBEq, Int.reduceToNat, Int.reduceLT, Int.reduceLE, Int.reduceGT, Int.reduceGE, Nat.reduceSub, Nat.reduceBEq, Nat.reduceBNe, Int.reduceAdd, Int.reduceSub, Int.reduceMul, Int.reduceNeg, Nat.reduceMul, Nat.reduceLeDiff, Nat.reduceLT, b1', b2', exists_eq_left]
      | simp (disch := omega) only [wi64, wu8, wu16, wu32, wu64, Int.tdiv_eq_ediv_of_nonneg, Int.tmod_eq_emod_of_nonneg]
      | with_reducible_and_instances exact finR
      | ((with_reducible refine finR' ?_ ?_) <;> rfl)
      | ((with_reducible refine finD hsc (NRel.of_plain ?_)); exact rfl)
    refine AC.mono (hAw H (Frm.refl _ _)) ?_
    rintro res H1 ⟨rfl, hf⟩
    repeat first
      | with_reducible refine AWP.seq ?_
      | ((with_reducible refine AWP.region ?_ ?_); exact rfl)
      | with_reducible refine AWP.block ?_
      | with_reducible refine AWP.skip ?_
      | with_reducible refine AWP.exit ?_
      | with_reducible refine AWP.ret ?_
      | with_reducible refine AWP.label ?_
      | with_reducible refine AWP.goto ?_
      | ((with_reducible refine AWP.condT ?_ ?_); focus (simp only [ev, lk_cons, ↓reduceIte, Nat.reduceEqDiff]; done))
      | ((with_reducible refine AWP.condF ?_ ?_); focus (simp only [ev, lk_cons, ↓reduceIte, Nat.reduceEqDiff]; done))
      | simp only [go_sem, ↓reduceIte, Nat.reduceEqDiff, reduceCtorEq, Nat.reduceAdd, Int.reduceEq, Int.reduceBNe, Int.reduceBEq, Int.reduceToNat, Int.reduceLT, Int.reduceLE, Int.reduceGT, Int.reduceGE, Nat.reduceSub, Nat.reduceBEq, Nat.reduceBNe, Int.reduceAdd, Int.reduceSub, Int.reduceMul, Int.reduceNeg, Nat.reduceMul, Nat.reduceLeDiff, Nat.reduceLT]
      | simp (disch := omega) only [wi64, wu8, wu16, wu32, wu64, Int.tdiv_eq_ediv_of_nonneg, Int.tmod_eq_emod_of_nonneg]
      | with_reducible_and_instances exact finR
      | ((with_reducible refine finR' ?_ ?_) <;> rfl)
      | ((with_reducible refine finD hsc (NRel.of_plain ?_)); exact rfl)
    exact ⟨_, _, .refl _ _ _, rfl⟩
  have b1' : ¬ (s.length : Int) > 400 := by omega
  have b2' : ¬ (o.length : Int) > 400 := by omega
  obtain ⟨d, d1, d2, d3⟩ := cut12 s
  refine AC.enter Tryd.func4 rfl (by kernel_rfl) 163 rfl [.tmp 4] rfl (by simp) fun hsc B => ?_
  repeat first
    | with_reducible refine AWP.seq ?_
    | ((with_reducible refine AWP.region ?_ ?_); exact rfl)
    | with_reducible refine AWP.block ?_
    | with_reducible refine AWP.skip ?_
    | with_reducible refine AWP.exit ?_
    | with_reducible refine AWP.ret ?_
    | with_reducible refine AWP.label ?_
    | with_reducible refine AWP.goto ?_
    | ((with_reducible refine AWP.condT ?_ ?_); focus (simp only [ev, lk_cons, ↓reduceIte, Nat.reduceEqDiff]; done))
    | ((with_reducible refine AWP.condF ?_ ?_); focus (simp only [ev, lk_cons, ↓reduceIte, Nat.reduceEqDiff]; done))
    | simp only [go_sem, ↓reduceIte, Nat.reduceEqDiff, reduceCtorEq, Nat.reduceAdd, Int.reduceEq, Int.reduceBNe, Int.reduceBEq, Int.reduceToNat, Int.reduceLT, Int.reduceLE, Int.reduceGT, Int.reduceGE, Nat.reduceSub, Nat.reduceBEq, Nat.reduceBNe, Int.reduceAdd, Int.reduceSub, Int.reduceMul, Int.reduceNeg, Nat.reduceMul, Nat.reduceLeDiff, Nat.reduceLT, b1', b2', exists_eq_left]
    | simp (disch := omega) only [wi64, wu8, wu16, wu32, wu64, Int.tdiv_eq_ediv_of_nonneg, Int.tmod_eq_emod_of_nonneg]
    | with_reducible_and_instances exact finR
    | ((with_reducible refine finR' ?_ ?_) <;> rfl)
    | ((with_reducible refine finD hsc (NRel.of_plain ?_)); exact rfl)
  refine use_read H (Frm.refl _ _) fun cs H2 hf2 hc5 hfl hput => ?_
  cases hv : valR s 12 0 0 with
  | ok v u nn =>
    have hR := readR_ok (by omega) hv
    rw [hR]
    dsimp only
    have hdu := d2 _ _ _ hv
    subst hdu
    have hgo := (valR_goes s 12).ok 0 0 _ _ _ (Nat.zero_le _) hv
    repeat first
      | with_reducible refine AWP.seq ?_
      | ((with_reducible refine AWP.region ?_ ?_); exact rfl)
      | with_reducible refine AWP.block ?_
      | with_reducible refine AWP.skip ?_
      | with_reducible refine AWP.exit ?_
      | with_reducible refine AWP.ret ?_
      | with_reducible refine AWP.label ?_
      | with_reducible refine AWP.goto ?_
      | ((with_reducible refine AWP.condT ?_ ?_); focus (simp only [ev, lk_cons, ↓reduceIte, Nat.reduceEqDiff]; done))
      | ((with_reducible refine AWP.condF ?_ ?_); focus (simp only [ev, lk_cons, ↓reduceIte, Nat.reduceEqDiff]; done))
      | simp only [go_sem, ↓reduceIte, Nat.reduceEqDiff, reduceCtorEq, Nat.reduceAdd, Int.reduceEq, Int.reduceBNe, Int.reduceBEq, Int.reduceToNat, Int.reduceLT, Int.reduceLE, Int.reduceGT, Int.reduceGE, Nat.reduceSub, Nat.reduceBEq, Nat.reduceBNe, Int.reduceAdd, Int.reduceSub, Int.reduceMul, Int.reduceNeg, Nat.reduceMul, Nat.reduceLeDiff, Nat.reduceLT, hc5, hfl, hput]
      | simp (disch := omega) only [wi64, wu8, wu16, wu32, wu64, Int.tdiv_eq_ediv_of_nonneg, Int.tmod_eq_emod_of_nonneg]
      | with_reducible_and_instances exact finR
      | ((with_reducible refine finR' ?_ ?_) <;> rfl)
      | ((with_reducible refine finD hsc (NRel.of_plain ?_)); exact rfl)
    refine AWP.loopP (fun p : Nat × AHeap => ⟨[(0, .string (bs s)), (46, .int .i64 (d : Nat)), (47, .int .i64 (p.1 : Nat))], [], p.2⟩)
      (fun p => p.1 ≤ d ∧ Frm [] H p.2) (fun p => d - p.1) (0, _) ?_ ⟨Nat.zero_le _, hf2⟩ ?_
    · exact Weak.env (by simp [envIn, lk_cons, wth_some])
    rintro ⟨i, Hc⟩ ⟨hi, hf⟩
    dsimp only at hi hf ⊢
    by_cases hlt : i < d
    · have hlt' : (i : Int) < (d : Int) := by omega
      have hcut := d1 i (by omega)
      rw [if_neg (by omega)] at hcut
      have hR2 := readR_bad (by rw [List.length_take]; omega) hcut
      have hwi : IntKind.i64.wrap ((i : Int) + 1) = ((i + 1 : Nat) : Int) := by rw [wi64 (by omega)]; omega
      have hi1 : (0 : Int) ≤ (i : Int) := Int.natCast_nonneg _
      have hi2 : (i : Int) ≤ (s.length : Int) := by omega
      repeat first
        | with_reducible refine AWP.seq ?_
        | ((with_reducible refine AWP.region ?_ ?_); exact rfl)
        | with_reducible refine AWP.block ?_
        | with_reducible refine AWP.skip ?_
        | with_reducible refine AWP.exit ?_
        | with_reducible refine AWP.ret ?_
        | with_reducible refine AWP.label ?_
        | with_reducible refine AWP.goto ?_
        | ((with_reducible refine AWP.condT ?_ ?_); focus (simp only [ev, lk_cons, ↓reduceIte, Nat.reduceEqDiff]; done))
        | ((with_reducible refine AWP.condF ?_ ?_); focus (simp only [ev, lk_cons, ↓reduceIte, Nat.reduceEqDiff]; done))
        | simp only [go_sem, ↓reduceIte, Nat.reduceEqDiff, reduceCtorEq, Nat.reduceAdd, Int.reduceEq, Int.reduceBNe, Int.reduceBEq, Int.reduceToNat, Int.reduceLT, Int.reduceLE, Int.reduceGT, Int.reduceGE, Nat.reduceSub, Nat.reduceBEq, Nat.reduceBNe, Int.reduceAdd, Int.reduceSub, Int.reduceMul, Int.reduceNeg, Nat.reduceMul, Nat.reduceLeDiff, Nat.reduceLT, hlt', hi1, hi2, List.drop_zero]
        | simp (disch := omega) only [wi64, wu8, wu16, wu32, wu64, Int.tdiv_eq_ediv_of_nonneg, Int.tmod_eq_emod_of_nonneg]
        | with_reducible_and_instances exact finR
        | ((with_reducible refine finR' ?_ ?_) <;> rfl)
        | ((with_reducible refine finD hsc (NRel.of_plain ?_)); exact rfl)
      refine use_read Hc hf fun cs2 H3 hf3 hc52 hfl2 hput2 => ?_
      rw [hR2]
      repeat first
        | with_reducible refine AWP.seq ?_
        | ((with_reducible refine AWP.region ?_ ?_); exact rfl)
        | with_reducible refine AWP.block ?_
        | with_reducible refine AWP.skip ?_
        | with_reducible refine AWP.exit ?_
        | with_reducible refine AWP.ret ?_
        | with_reducible refine AWP.label ?_
        | with_reducible refine AWP.goto ?_
        | ((with_reducible refine AWP.condT ?_ ?_); focus (simp only [ev, lk_cons, ↓reduceIte, Nat.reduceEqDiff]; done))
        | ((with_reducible refine AWP.condF ?_ ?_); focus (simp only [ev, lk_cons, ↓reduceIte, Nat.reduceEqDiff]; done))
        | simp only [go_sem, ↓reduceIte, Nat.reduceEqDiff, reduceCtorEq, Nat.reduceAdd, Int.reduceEq, Int.reduceBNe, Int.reduceBEq, Int.reduceToNat, Int.reduceLT, Int.reduceLE, Int.reduceGT, Int.reduceGE, Nat.reduceSub, Nat.reduceBEq, Nat.reduceBNe, Int.reduceAdd, Int.reduceSub, Int.reduceMul, Int.reduceNeg, Nat.reduceMul, Nat.reduceLeDiff, Nat.reduceLT, hc52, hfl2, hput2, hwi, exists_eq_left]
        | simp (disch := omega) only [wi64, wu8, wu16, wu32, wu64, Int.tdiv_eq_ediv_of_nonneg, Int.tmod_eq_emod_of_nonneg]
        | with_reducible_and_instances exact finR
        | ((with_reducible refine finR' ?_ ?_) <;> rfl)
        | ((with_reducible refine finD hsc (NRel.of_plain ?_)); exact rfl)
      exact ⟨(i + 1, _), Weak.env (by simp [envIn, lk_cons, wth_some]), by dsimp only; omega, hf3, by dsimp only; omega⟩
    · have hlt' : ¬ (i : Int) < (d : Int) := by omega
      repeat first
        | with_reducible refine AWP.seq ?_
        | ((with_reducible refine AWP.region ?_ ?_); exact rfl)
        | with_reducible refine AWP.block ?_
        | with_reducible refine AWP.skip ?_
        | with_reducible refine AWP.exit ?_
        | with_reducible refine AWP.ret ?_
        | with_reducible refine AWP.label ?_
        | with_reducible refine AWP.goto ?_
        | ((with_reducible refine AWP.condT ?_ ?_); focus (simp only [ev, lk_cons, ↓reduceIte, Nat.reduceEqDiff]; done))
        | ((with_reducible refine AWP.condF ?_ ?_); focus (simp only [ev, lk_cons, ↓reduceIte, Nat.reduceEqDiff]; done))
        | simp only [go_sem, ↓reduceIte, Nat.reduceEqDiff, reduceCtorEq, Nat.reduceAdd, Int.reduceEq, Int.reduceBNe, Int.reduceBEq, Int.reduceToNat, Int.reduceLT, Int.reduceLE, Int.reduceGT, Int.reduceGE, Nat.reduceSub, Nat.reduceBEq, Nat.reduceBNe, Int.reduceAdd, Int.reduceSub, Int.reduceMul, Int.reduceNeg, Nat.reduceMul, Nat.reduceLeDiff, Nat.reduceLT, hlt']
        | simp (disch := omega) only [wi64, wu8, wu16, wu32, wu64, Int.tdiv_eq_ediv_of_nonneg, Int.tmod_eq_emod_of_nonneg]
        | with_reducible_and_instances exact finR
        | ((with_reducible refine finR' ?_ ?_) <;> rfl)
        | ((with_reducible refine finD hsc (NRel.of_plain ?_)); exact rfl)
      refine AC.mono (hAw _ hf) ?_
      rintro res H1 ⟨rfl, hf1⟩
      repeat first
        | with_reducible refine AWP.seq ?_
        | ((with_reducible refine AWP.region ?_ ?_); exact rfl)
        | with_reducible refine AWP.block ?_
        | with_reducible refine AWP.skip ?_
        | with_reducible refine AWP.exit ?_
        | with_reducible refine AWP.ret ?_
        | with_reducible refine AWP.label ?_
        | with_reducible refine AWP.goto ?_
        | ((with_reducible refine AWP.condT ?_ ?_); focus (simp only [ev, lk_cons, ↓reduceIte, Nat.reduceEqDiff]; done))
        | ((with_reducible refine AWP.condF ?_ ?_); focus (simp only [ev, lk_cons, ↓reduceIte, Nat.reduceEqDiff]; done))
        | simp only [go_sem, ↓reduceIte, Nat.reduceEqDiff, reduceCtorEq, Nat.reduceAdd, Int.reduceEq, Int.reduceBNe, Int.reduceBEq, Int.reduceToNat, Int.reduceLT, Int.reduceLE, Int.reduceGT, Int.reduceGE, Nat.reduceSub, Nat.reduceBEq, Nat.reduceBNe, Int.reduceAdd, Int.reduceSub, Int.reduceMul, Int.reduceNeg, Nat.reduceMul, Nat.reduceLeDiff, Nat.reduceLT]
        | simp (disch := omega) only [wi64, wu8, wu16, wu32, wu64, Int.tdiv_eq_ediv_of_nonneg, Int.tmod_eq_emod_of_nonneg]
        | with_reducible_and_instances exact finR
        | ((with_reducible refine finR' ?_ ?_) <;> rfl)
        | ((with_reducible refine finD hsc (NRel.of_plain ?_)); exact rfl)
      exact ⟨_, _, .refl _ _ _, rfl⟩
  | bad a e =>
    have hR := readR_bad (by omega) hv
    rw [hR]
    dsimp only
    have hda := d3 _ _ hv
    obtain ⟨-, ha, he⟩ := (valR_goes s 12).bad 0 0 _ _ (Nat.zero_le _) hv
    have ha0 : ¬ (a : Int) < 0 := by omega
    have ha1 : ¬ (a : Int) > (s.length : Int) := by omega
    have hsa := d1 a ha
    rw [if_neg (by omega)] at hsa
    have hai1 : (0 : Int) ≤ (a : Int) := Int.natCast_nonneg _
    have hai2 : (a : Int) ≤ (s.length : Int) := by omega
    have hwa : IntKind.i64.wrap ((a : Int) + 1) = ((a + 1 : Nat) : Int) := by rw [wi64 (by omega)]; omega
    obtain ⟨x, hx⟩ : ∃ x, x = s.take a ++ o := ⟨_, rfl⟩
    have hxl : x.length = a + o.length := by rw [hx, List.length_append, List.length_take]; omega
    have hxa : valR (x.take a) 12 0 0 = .bad a 2 := by
      rw [hx, List.take_append_of_le_length (by rw [List.length_take]; omega), List.take_take, Nat.min_self]
      exact hsa
    obtain ⟨dx, x1, x2, x3⟩ := cut12 x
    have hxa2 := x1 a (by omega)
    rw [hxa] at hxa2
    have hvx : (dx ≤ a → valR x 12 0 0 = .bad a 2) := fun h => by rw [if_pos h] at hxa2; exact hxa2.symm
    have hE : ∀ st : ASt, FJ H [(0, .string (bs s)), (1, .string (bs o)), (7, .int .i64 (a : Nat))] st → True := fun _ _ => trivial
    rcases he with rfl | rfl
    all_goals
      repeat first
        | with_reducible refine AWP.seqE (x := .seq (.region 18 _ _) _) (FJ H [(0, .string (bs s)), (1, .string (bs o)), (7, .int .i64 (a : Nat))]) ?_ ?_
        | with_reducible refine AWP.seq ?_
        | ((with_reducible refine AWP.region ?_ ?_); exact rfl)
        | with_reducible refine AWP.block ?_
        | with_reducible refine AWP.skip ?_
        | with_reducible refine AWP.exit ?_
        | with_reducible refine AWP.ret ?_
        | with_reducible refine AWP.label ?_
        | with_reducible refine AWP.goto ?_
        | ((with_reducible refine AWP.condT ?_ ?_); focus (simp only [ev, lk_cons, ↓reduceIte, Nat.reduceEqDiff]; done))
        | ((with_reducible refine AWP.condF ?_ ?_); focus (simp only [ev, lk_cons, ↓reduceIte, Nat.reduceEqDiff]; done))
        | simp only [go_sem, ↓reduceIte, Nat.reduceEqDiff, reduceCtorEq, Nat.reduceAdd, Int.reduceEq, Int.reduceBNe, Int.reduceBEq, Int.reduceToNat, Int.reduceLT, Int.reduceLE, Int.reduceGT, Int.reduceGE, Nat.reduceSub, Nat.reduceBEq, Nat.reduceBNe, Int.reduceAdd, Int.reduceSub, Int.reduceMul, Int.reduceNeg, Nat.reduceMul, Nat.reduceLeDiff, Nat.reduceLT, hc5, hfl, hput, ha0, ha1, exists_eq_left]
        | simp (disch := omega) only [wi64, wu8, wu16, wu32, wu64, Int.tdiv_eq_ediv_of_nonneg, Int.tmod_eq_emod_of_nonneg]
        | with_reducible_and_instances exact finR
        | ((with_reducible refine finR' ?_ ?_) <;> rfl)
        | ((with_reducible refine finD hsc (NRel.of_plain ?_)); exact rfl)
      · by_cases hlt : a < s.length
        · have hlt' : (a : Int) < (s.length : Int) := by omega
          have hi1 : (0 : Int) ≤ ((a + 1 : Nat) : Int) := Int.natCast_nonneg _
          have hi2 : ((a + 1 : Nat) : Int) ≤ (s.length : Int) := by omega
          have hcut := d1 (a + 1) hlt
          by_cases hd : d ≤ a + 1
          · rw [if_pos hd, hv] at hcut
            have hR2 := readR_bad (by rw [List.length_take]; omega) hcut
            have hne : ((a : Int) != (a : Int)) = false := by simp
            repeat first
              | with_reducible refine AWP.seq ?_
              | ((with_reducible refine AWP.region ?_ ?_); exact rfl)
              | with_reducible refine AWP.block ?_
              | with_reducible refine AWP.skip ?_
              | with_reducible refine AWP.exit ?_
              | with_reducible refine AWP.ret ?_
              | with_reducible refine AWP.label ?_
              | with_reducible refine AWP.goto ?_
              | ((with_reducible refine AWP.condT ?_ ?_); focus (simp only [ev, lk_cons, ↓reduceIte, Nat.reduceEqDiff]; done))
              | ((with_reducible refine AWP.condF ?_ ?_); focus (simp only [ev, lk_cons, ↓reduceIte, Nat.reduceEqDiff]; done))
              | simp only [go_sem, ↓reduceIte, Nat.reduceEqDiff, reduceCtorEq, Nat.reduceAdd, Int.reduceEq, Int.reduceBNe, Int.reduceBEq, Int.reduceToNat, Int.reduceLT, Int.reduceLE, Int.reduceGT, Int.reduceGE, Nat.reduceSub, Nat.reduceBEq, Nat.reduceBNe, Int.reduceAdd, Int.reduceSub, Int.reduceMul, Int.reduceNeg, Nat.reduceMul, Nat.reduceLeDiff, Nat.reduceLT, hlt', hwa, hi1, hi2, List.drop_zero]
              | simp (disch := omega) only [wi64, wu8, wu16, wu32, wu64, Int.tdiv_eq_ediv_of_nonneg, Int.tmod_eq_emod_of_nonneg]
              | with_reducible_and_instances exact finR
              | ((with_reducible refine finR' ?_ ?_) <;> rfl)
              | ((with_reducible refine finD hsc (NRel.of_plain ?_)); exact rfl)
            refine use_read _ hf2 fun cs2 H3 hf3 hc52 hfl2 hput2 => ?_
            rw [hR2]
            repeat first
              | with_reducible refine AWP.seq ?_
              | ((with_reducible refine AWP.region ?_ ?_); exact rfl)
              | with_reducible refine AWP.block ?_
              | with_reducible refine AWP.skip ?_
              | with_reducible refine AWP.exit ?_
              | with_reducible refine AWP.ret ?_
              | with_reducible refine AWP.label ?_
              | with_reducible refine AWP.goto ?_
              | ((with_reducible refine AWP.condT ?_ ?_); focus (simp only [ev, lk_cons, ↓reduceIte, Nat.reduceEqDiff]; done))
              | ((with_reducible refine AWP.condF ?_ ?_); focus (simp only [ev, lk_cons, ↓reduceIte, Nat.reduceEqDiff]; done))
              | simp only [go_sem, ↓reduceIte, Nat.reduceEqDiff, reduceCtorEq, Nat.reduceAdd, Int.reduceEq, Int.reduceBNe, Int.reduceBEq, Int.reduceToNat, Int.reduceLT, Int.reduceLE, Int.reduceGT, Int.reduceGE, Nat.reduceSub, Nat.reduceBEq, Nat.reduceBNe, Int.reduceAdd, Int.reduceSub, Int.reduceMul, Int.reduceNeg, Nat.reduceMul, Nat.reduceLeDiff, Nat.reduceLT, hc52, hfl2, hput2, hne]
              | simp (disch := omega) only [wi64, wu8, wu16, wu32, wu64, Int.tdiv_eq_ediv_of_nonneg, Int.tmod_eq_emod_of_nonneg]
              | with_reducible_and_instances exact finR
              | ((with_reducible refine finR' ?_ ?_) <;> rfl)
              | ((with_reducible refine finD hsc (NRel.of_plain ?_)); exact rfl)
            exact ⟨_, ⟨_, hf3, rfl⟩, Weak.env (by simp [envIn, lk_cons, wth_some])⟩
          · rw [if_neg hd] at hcut
            have hR2 := readR_bad (by rw [List.length_take]; omega) hcut
            have hne : (((a + 1 : Nat) : Int) != (a : Int)) = true := by simp; omega
            repeat first
              | with_reducible refine AWP.seq ?_
              | ((with_reducible refine AWP.region ?_ ?_); exact rfl)
              | with_reducible refine AWP.block ?_
              | with_reducible refine AWP.skip ?_
              | with_reducible refine AWP.exit ?_
              | with_reducible refine AWP.ret ?_
              | with_reducible refine AWP.label ?_
              | with_reducible refine AWP.goto ?_
              | ((with_reducible refine AWP.condT ?_ ?_); focus (simp only [ev, lk_cons, ↓reduceIte, Nat.reduceEqDiff]; done))
              | ((with_reducible refine AWP.condF ?_ ?_); focus (simp only [ev, lk_cons, ↓reduceIte, Nat.reduceEqDiff]; done))
              | simp only [go_sem, ↓reduceIte, Nat.reduceEqDiff, reduceCtorEq, Nat.reduceAdd, Int.reduceEq, Int.reduceBNe, Int.reduceBEq, Int.reduceToNat, Int.reduceLT, Int.reduceLE, Int.reduceGT, Int.reduceGE, Nat.reduceSub, Nat.reduceBEq, Nat.reduceBNe, Int.reduceAdd, Int.reduceSub, Int.reduceMul, Int.reduceNeg, Nat.reduceMul, Nat.reduceLeDiff, Nat.reduceLT, hlt', hwa, hi1, hi2, List.drop_zero]
              | simp (disch := omega) only [wi64, wu8, wu16, wu32, wu64, Int.tdiv_eq_ediv_of_nonneg, Int.tmod_eq_emod_of_nonneg]
              | with_reducible_and_instances exact finR
              | ((with_reducible refine finR' ?_ ?_) <;> rfl)
              | ((with_reducible refine finD hsc (NRel.of_plain ?_)); exact rfl)
            refine use_read _ hf2 fun cs2 H3 hf3 hc52 hfl2 hput2 => ?_
            rw [hR2]
            repeat first
              | with_reducible refine AWP.seq ?_
              | ((with_reducible refine AWP.region ?_ ?_); exact rfl)
              | with_reducible refine AWP.block ?_
              | with_reducible refine AWP.skip ?_
              | with_reducible refine AWP.exit ?_
              | with_reducible refine AWP.ret ?_
              | with_reducible refine AWP.label ?_
              | with_reducible refine AWP.goto ?_
              | ((with_reducible refine AWP.condT ?_ ?_); focus (simp only [ev, lk_cons, ↓reduceIte, Nat.reduceEqDiff]; done))
              | ((with_reducible refine AWP.condF ?_ ?_); focus (simp only [ev, lk_cons, ↓reduceIte, Nat.reduceEqDiff]; done))
              | simp only [go_sem, ↓reduceIte, Nat.reduceEqDiff, reduceCtorEq, Nat.reduceAdd, Int.reduceEq, Int.reduceBNe, Int.reduceBEq, Int.reduceToNat, Int.reduceLT, Int.reduceLE, Int.reduceGT, Int.reduceGE, Nat.reduceSub, Nat.reduceBEq, Nat.reduceBNe, Int.reduceAdd, Int.reduceSub, Int.reduceMul, Int.reduceNeg, Nat.reduceMul, Nat.reduceLeDiff, Nat.reduceLT, hc52, hfl2, hput2, hne, hwa, exists_eq_left]
              | simp (disch := omega) only [wi64, wu8, wu16, wu32, wu64, Int.tdiv_eq_ediv_of_nonneg, Int.tmod_eq_emod_of_nonneg]
              | with_reducible_and_instances exact finR
              | ((with_reducible refine finR' ?_ ?_) <;> rfl)
              | ((with_reducible refine finD hsc (NRel.of_plain ?_)); exact rfl)
            refine AC.mono (hAw _ hf3) ?_
            rintro res H1 ⟨rfl, hf1⟩
            repeat first
              | with_reducible refine AWP.seq ?_
              | ((with_reducible refine AWP.region ?_ ?_); exact rfl)
              | with_reducible refine AWP.block ?_
              | with_reducible refine AWP.skip ?_
              | with_reducible refine AWP.exit ?_
              | with_reducible refine AWP.ret ?_
              | with_reducible refine AWP.label ?_
              | with_reducible refine AWP.goto ?_
              | ((with_reducible refine AWP.condT ?_ ?_); focus (simp only [ev, lk_cons, ↓reduceIte, Nat.reduceEqDiff]; done))
              | ((with_reducible refine AWP.condF ?_ ?_); focus (simp only [ev, lk_cons, ↓reduceIte, Nat.reduceEqDiff]; done))
              | simp only [go_sem, ↓reduceIte, Nat.reduceEqDiff, reduceCtorEq, Nat.reduceAdd, Int.reduceEq, Int.reduceBNe, Int.reduceBEq, Int.reduceToNat, Int.reduceLT, Int.reduceLE, Int.reduceGT, Int.reduceGE, Nat.reduceSub, Nat.reduceBEq, Nat.reduceBNe, Int.reduceAdd, Int.reduceSub, Int.reduceMul, Int.reduceNeg, Nat.reduceMul, Nat.reduceLeDiff, Nat.reduceLT]
              | simp (disch := omega) only [wi64, wu8, wu16, wu32, wu64, Int.tdiv_eq_ediv_of_nonneg, Int.tmod_eq_emod_of_nonneg]
              | with_reducible_and_instances exact finR
              | ((with_reducible refine finR' ?_ ?_) <;> rfl)
              | ((with_reducible refine finD hsc (NRel.of_plain ?_)); exact rfl)
            exact ⟨_, _, .refl _ _ _, rfl⟩
        · have hlt' : ¬ (a : Int) < (s.length : Int) := by omega
          repeat first
            | with_reducible refine AWP.seq ?_
            | ((with_reducible refine AWP.region ?_ ?_); exact rfl)
            | with_reducible refine AWP.block ?_
            | with_reducible refine AWP.skip ?_
            | with_reducible refine AWP.exit ?_
            | with_reducible refine AWP.ret ?_
            | with_reducible refine AWP.label ?_
            | with_reducible refine AWP.goto ?_
            | ((with_reducible refine AWP.condT ?_ ?_); focus (simp only [ev, lk_cons, ↓reduceIte, Nat.reduceEqDiff]; done))
            | ((with_reducible refine AWP.condF ?_ ?_); focus (simp only [ev, lk_cons, ↓reduceIte, Nat.reduceEqDiff]; done))
            | simp only [go_sem, ↓reduceIte, Nat.reduceEqDiff, reduceCtorEq, Nat.reduceAdd, Int.reduceEq, Int.reduceBNe, Int.reduceBEq, Int.reduceToNat, Int.reduceLT, Int.reduceLE, Int.reduceGT, Int.reduceGE, Nat.reduceSub, Nat.reduceBEq, Nat.reduceBNe, Int.reduceAdd, Int.reduceSub, Int.reduceMul, Int.reduceNeg, Nat.reduceMul, Nat.reduceLeDiff, Nat.reduceLT, hlt']
            | simp (disch := omega) only [wi64, wu8, wu16, wu32, wu64, Int.tdiv_eq_ediv_of_nonneg, Int.tmod_eq_emod_of_nonneg]
            | with_reducible_and_instances exact finR
            | ((with_reducible refine finR' ?_ ?_) <;> rfl)
            | ((with_reducible refine finD hsc (NRel.of_plain ?_)); exact rfl)
          exact ⟨_, ⟨_, hf2, rfl⟩, Weak.env (by simp [envIn, lk_cons, wth_some])⟩
      rintro st ⟨H3, hf3, rfl⟩
      repeat first
        | with_reducible refine AWP.seq ?_
        | ((with_reducible refine AWP.region ?_ ?_); exact rfl)
        | with_reducible refine AWP.block ?_
        | with_reducible refine AWP.skip ?_
        | with_reducible refine AWP.exit ?_
        | with_reducible refine AWP.ret ?_
        | with_reducible refine AWP.label ?_
        | with_reducible refine AWP.goto ?_
        | ((with_reducible refine AWP.condT ?_ ?_); focus (simp only [ev, lk_cons, ↓reduceIte, Nat.reduceEqDiff]; done))
        | ((with_reducible refine AWP.condF ?_ ?_); focus (simp only [ev, lk_cons, ↓reduceIte, Nat.reduceEqDiff]; done))
        | simp only [go_sem, ↓reduceIte, Nat.reduceEqDiff, reduceCtorEq, Nat.reduceAdd, Int.reduceEq, Int.reduceBNe, Int.reduceBEq, Int.reduceToNat, Int.reduceLT, Int.reduceLE, Int.reduceGT, Int.reduceGE, Nat.reduceSub, Nat.reduceBEq, Nat.reduceBNe, Int.reduceAdd, Int.reduceSub, Int.reduceMul, Int.reduceNeg, Nat.reduceMul, Nat.reduceLeDiff, Nat.reduceLT, hai1, hai2, List.drop_zero]
        | simp (disch := omega) only [wi64, wu8, wu16, wu32, wu64, Int.tdiv_eq_ediv_of_nonneg, Int.tmod_eq_emod_of_nonneg]
        | with_reducible_and_instances exact finR
        | ((with_reducible refine finR' ?_ ?_) <;> rfl)
        | ((with_reducible refine finD hsc (NRel.of_plain ?_)); exact rfl)
      refine ⟨by rw [List.length_take]; omega, ?_⟩
      have hcat : bs (s.take a) ++ bs o = bs x := by rw [hx, bs_append]
      rw [hcat]
      repeat first
        | with_reducible refine AWP.seq ?_
        | ((with_reducible refine AWP.region ?_ ?_); exact rfl)
        | with_reducible refine AWP.block ?_
        | with_reducible refine AWP.skip ?_
        | with_reducible refine AWP.exit ?_
        | with_reducible refine AWP.ret ?_
        | with_reducible refine AWP.label ?_
        | with_reducible refine AWP.goto ?_
        | ((with_reducible refine AWP.condT ?_ ?_); focus (simp only [ev, lk_cons, ↓reduceIte, Nat.reduceEqDiff]; done))
        | ((with_reducible refine AWP.condF ?_ ?_); focus (simp only [ev, lk_cons, ↓reduceIte, Nat.reduceEqDiff]; done))
        | simp only [go_sem, ↓reduceIte, Nat.reduceEqDiff, reduceCtorEq, Nat.reduceAdd, Int.reduceEq, Int.reduceBNe, Int.reduceBEq, Int.reduceToNat, Int.reduceLT, Int.reduceLE, Int.reduceGT, Int.reduceGE, Nat.reduceSub, Nat.reduceBEq, Nat.reduceBNe, Int.reduceAdd, Int.reduceSub, Int.reduceMul, Int.reduceNeg, Nat.reduceMul, Nat.reduceLeDiff, Nat.reduceLT]
        | simp (disch := omega) only [wi64, wu8, wu16, wu32, wu64, Int.tdiv_eq_ediv_of_nonneg, Int.tmod_eq_emod_of_nonneg]
        | with_reducible_and_instances exact finR
        | ((with_reducible refine finR' ?_ ?_) <;> rfl)
        | ((with_reducible refine finD hsc (NRel.of_plain ?_)); exact rfl)
      refine use_read _ hf3 fun cs2 H4 hf4 hc52 hfl2 hput2 => ?_
      cases hvx2 : valR x 12 0 0 with
      | ok v u nn =>
        have hR3 := readR_ok (by omega) hvx2
        rw [hR3]
        have hu := x2 _ _ _ hvx2
        have hua : ¬ (u : Int) < (a : Int) := by
          intro hlt
          have := hvx (by omega)
          rw [hvx2] at this
          cases this
        repeat first
          | with_reducible refine AWP.seq ?_
          | ((with_reducible refine AWP.region ?_ ?_); exact rfl)
          | with_reducible refine AWP.block ?_
          | with_reducible refine AWP.skip ?_
          | with_reducible refine AWP.exit ?_
          | with_reducible refine AWP.ret ?_
          | with_reducible refine AWP.label ?_
          | with_reducible refine AWP.goto ?_
          | ((with_reducible refine AWP.condT ?_ ?_); focus (simp only [ev, lk_cons, ↓reduceIte, Nat.reduceEqDiff]; done))
          | ((with_reducible refine AWP.condF ?_ ?_); focus (simp only [ev, lk_cons, ↓reduceIte, Nat.reduceEqDiff]; done))
          | simp only [go_sem, ↓reduceIte, Nat.reduceEqDiff, reduceCtorEq, Nat.reduceAdd, Int.reduceEq, Int.reduceBNe, Int.reduceBEq, Int.reduceToNat, Int.reduceLT, Int.reduceLE, Int.reduceGT, Int.reduceGE, Nat.reduceSub, Nat.reduceBEq, Nat.reduceBNe, Int.reduceAdd, Int.reduceSub, Int.reduceMul, Int.reduceNeg, Nat.reduceMul, Nat.reduceLeDiff, Nat.reduceLT, hc52, hfl2, hput2, hua, exists_eq_left]
          | simp (disch := omega) only [wi64, wu8, wu16, wu32, wu64, Int.tdiv_eq_ediv_of_nonneg, Int.tmod_eq_emod_of_nonneg]
          | with_reducible_and_instances exact finR
          | ((with_reducible refine finR' ?_ ?_) <;> rfl)
          | ((with_reducible refine finD hsc (NRel.of_plain ?_)); exact rfl)
        refine AC.mono (hAw _ hf4) ?_
        rintro res H1 ⟨rfl, hf1⟩
        repeat first
          | with_reducible refine AWP.seq ?_
          | ((with_reducible refine AWP.region ?_ ?_); exact rfl)
          | with_reducible refine AWP.block ?_
          | with_reducible refine AWP.skip ?_
          | with_reducible refine AWP.exit ?_
          | with_reducible refine AWP.ret ?_
          | with_reducible refine AWP.label ?_
          | with_reducible refine AWP.goto ?_
          | ((with_reducible refine AWP.condT ?_ ?_); focus (simp only [ev, lk_cons, ↓reduceIte, Nat.reduceEqDiff]; done))
          | ((with_reducible refine AWP.condF ?_ ?_); focus (simp only [ev, lk_cons, ↓reduceIte, Nat.reduceEqDiff]; done))
          | simp only [go_sem, ↓reduceIte, Nat.reduceEqDiff, reduceCtorEq, Nat.reduceAdd, Int.reduceEq, Int.reduceBNe, Int.reduceBEq, Int.reduceToNat, Int.reduceLT, Int.reduceLE, Int.reduceGT, Int.reduceGE, Nat.reduceSub, Nat.reduceBEq, Nat.reduceBNe, Int.reduceAdd, Int.reduceSub, Int.reduceMul, Int.reduceNeg, Nat.reduceMul, Nat.reduceLeDiff, Nat.reduceLT]
          | simp (disch := omega) only [wi64, wu8, wu16, wu32, wu64, Int.tdiv_eq_ediv_of_nonneg, Int.tmod_eq_emod_of_nonneg]
          | with_reducible_and_instances exact finR
          | ((with_reducible refine finR' ?_ ?_) <;> rfl)
          | ((with_reducible refine finD hsc (NRel.of_plain ?_)); exact rfl)
        exact ⟨_, _, .refl _ _ _, rfl⟩
      | bad b e2 =>
        have hR3 := readR_bad (by omega) hvx2
        rw [hR3]
        obtain ⟨-, hbx, he2⟩ := (valR_goes x 12).bad 0 0 _ _ (Nat.zero_le _) hvx2
        have hb0 : (b : Int) ≥ 0 := Int.natCast_nonneg _
        have he20 : (e2 == 0) = false := by rcases he2 with rfl | rfl <;> rfl
        have he21 : (e2 != 0) = true := by rcases he2 with rfl | rfl <;> rfl
        by_cases hba : b < a
        · have hba' : (b : Int) < (a : Int) := by omega
          have hdx : ¬ dx ≤ b + 1 := fun h => by
            have := hvx (by omega)
            rw [hvx2] at this
            cases this
            omega
          have hcut := x1 (b + 1) (by omega)
          rw [if_neg hdx] at hcut
          have hR4 := readR_bad (by rw [List.length_take]; omega) hcut
          have hwb : IntKind.i64.wrap ((b : Int) + 1) = ((b + 1 : Nat) : Int) := by rw [wi64 (by omega)]; omega
          have hi1 : (0 : Int) ≤ ((b + 1 : Nat) : Int) := Int.natCast_nonneg _
          have hi2 : ((b + 1 : Nat) : Int) ≤ (x.length : Int) := by omega
          repeat first
            | with_reducible refine AWP.seq ?_
            | ((with_reducible refine AWP.region ?_ ?_); exact rfl)
            | with_reducible refine AWP.block ?_
            | with_reducible refine AWP.skip ?_
            | with_reducible refine AWP.exit ?_
            | with_reducible refine AWP.ret ?_
            | with_reducible refine AWP.label ?_
            | with_reducible refine AWP.goto ?_
            | ((with_reducible refine AWP.condT ?_ ?_); focus (simp only [ev, lk_cons, ↓reduceIte, Nat.reduceEqDiff]; done))
            | ((with_reducible refine AWP.condF ?_ ?_); focus (simp only [ev, lk_cons, ↓reduceIte, Nat.reduceEqDiff]; done))
            | simp only [go_sem, ↓reduceIte, Nat.reduceEqDiff, reduceCtorEq, Nat.reduceAdd, Int.reduceEq, Int.reduceBNe, Int.reduceBEq, Int.reduceToNat, Int.reduceLT, Int.reduceLE, Int.reduceGT, Int.reduceGE, Nat.reduceSub, Nat.reduceBEq, Nat.reduceBNe, Int.reduceAdd, Int.reduceSub, Int.reduceMul, Int.reduceNeg, Nat.reduceMul, Nat.reduceLeDiff, Nat.reduceLT, hc52, hfl2, hput2, he20, he21, hb0, hba', hwb, hi1, hi2, List.drop_zero, exists_eq_left]
            | simp (disch := omega) only [wi64, wu8, wu16, wu32, wu64, Int.tdiv_eq_ediv_of_nonneg, Int.tmod_eq_emod_of_nonneg]
            | with_reducible_and_instances exact finR
            | ((with_reducible refine finR' ?_ ?_) <;> rfl)
            | ((with_reducible refine finD hsc (NRel.of_plain ?_)); exact rfl)
          refine use_read _ hf4 fun cs3 H5 hf5 hc53 hfl3 hput3 => ?_
          rw [hR4]
          repeat first
            | with_reducible refine AWP.seq ?_
            | ((with_reducible refine AWP.region ?_ ?_); exact rfl)
            | with_reducible refine AWP.block ?_
            | with_reducible refine AWP.skip ?_
            | with_reducible refine AWP.exit ?_
            | with_reducible refine AWP.ret ?_
            | with_reducible refine AWP.label ?_
            | with_reducible refine AWP.goto ?_
            | ((with_reducible refine AWP.condT ?_ ?_); focus (simp only [ev, lk_cons, ↓reduceIte, Nat.reduceEqDiff]; done))
            | ((with_reducible refine AWP.condF ?_ ?_); focus (simp only [ev, lk_cons, ↓reduceIte, Nat.reduceEqDiff]; done))
            | simp only [go_sem, ↓reduceIte, Nat.reduceEqDiff, reduceCtorEq, Nat.reduceAdd, Int.reduceEq, Int.reduceBNe, Int.reduceBEq, Int.reduceToNat, Int.reduceLT, Int.reduceLE, Int.reduceGT, Int.reduceGE, Nat.reduceSub, Nat.reduceBEq, Nat.reduceBNe, Int.reduceAdd, Int.reduceSub, Int.reduceMul, Int.reduceNeg, Nat.reduceMul, Nat.reduceLeDiff, Nat.reduceLT, hc53, hfl3, hput3, hwb, exists_eq_left]
            | simp (disch := omega) only [wi64, wu8, wu16, wu32, wu64, Int.tdiv_eq_ediv_of_nonneg, Int.tmod_eq_emod_of_nonneg]
            | with_reducible_and_instances exact finR
            | ((with_reducible refine finR' ?_ ?_) <;> rfl)
            | ((with_reducible refine finD hsc (NRel.of_plain ?_)); exact rfl)
          refine AC.mono (hAw _ hf5) ?_
          rintro res H1 ⟨rfl, hf1⟩
          repeat first
            | with_reducible refine AWP.seq ?_
            | ((with_reducible refine AWP.region ?_ ?_); exact rfl)
            | with_reducible refine AWP.block ?_
            | with_reducible refine AWP.skip ?_
            | with_reducible refine AWP.exit ?_
            | with_reducible refine AWP.ret ?_
            | with_reducible refine AWP.label ?_
            | with_reducible refine AWP.goto ?_
            | ((with_reducible refine AWP.condT ?_ ?_); focus (simp only [ev, lk_cons, ↓reduceIte, Nat.reduceEqDiff]; done))
            | ((with_reducible refine AWP.condF ?_ ?_); focus (simp only [ev, lk_cons, ↓reduceIte, Nat.reduceEqDiff]; done))
            | simp only [go_sem, ↓reduceIte, Nat.reduceEqDiff, reduceCtorEq, Nat.reduceAdd, Int.reduceEq, Int.reduceBNe, Int.reduceBEq, Int.reduceToNat, Int.reduceLT, Int.reduceLE, Int.reduceGT, Int.reduceGE, Nat.reduceSub, Nat.reduceBEq, Nat.reduceBNe, Int.reduceAdd, Int.reduceSub, Int.reduceMul, Int.reduceNeg, Nat.reduceMul, Nat.reduceLeDiff, Nat.reduceLT]
            | simp (disch := omega) only [wi64, wu8, wu16, wu32, wu64, Int.tdiv_eq_ediv_of_nonneg, Int.tmod_eq_emod_of_nonneg]
            | with_reducible_and_instances exact finR
            | ((with_reducible refine finR' ?_ ?_) <;> rfl)
            | ((with_reducible refine finD hsc (NRel.of_plain ?_)); exact rfl)
          exact ⟨_, _, .refl _ _ _, rfl⟩
        · have hba' : ¬ (b : Int) < (a : Int) := by omega
          repeat first
            | with_reducible refine AWP.seq ?_
            | ((with_reducible refine AWP.region ?_ ?_); exact rfl)
            | with_reducible refine AWP.block ?_
            | with_reducible refine AWP.skip ?_
            | with_reducible refine AWP.exit ?_
            | with_reducible refine AWP.ret ?_
            | with_reducible refine AWP.label ?_
            | with_reducible refine AWP.goto ?_
            | ((with_reducible refine AWP.condT ?_ ?_); focus (simp only [ev, lk_cons, ↓reduceIte, Nat.reduceEqDiff]; done))
            | ((with_reducible refine AWP.condF ?_ ?_); focus (simp only [ev, lk_cons, ↓reduceIte, Nat.reduceEqDiff]; done))
            | simp only [go_sem, ↓reduceIte, Nat.reduceEqDiff, reduceCtorEq, Nat.reduceAdd, Int.reduceEq, Int.reduceBNe, Int.reduceBEq, Int.reduceToNat, Int.reduceLT, Int.reduceLE, Int.reduceGT, Int.reduceGE, Nat.reduceSub, Nat.reduceBEq, Nat.reduceBNe, Int.reduceAdd, Int.reduceSub, Int.reduceMul, Int.reduceNeg, Nat.reduceMul, Nat.reduceLeDiff, Nat.reduceLT, hc52, hfl2, hput2, he20, he21, hb0, hba', exists_eq_left]
            | simp (disch := omega) only [wi64, wu8, wu16, wu32, wu64, Int.tdiv_eq_ediv_of_nonneg, Int.tmod_eq_emod_of_nonneg]
            | with_reducible_and_instances exact finR
            | ((with_reducible refine finR' ?_ ?_) <;> rfl)
            | ((with_reducible refine finD hsc (NRel.of_plain ?_)); exact rfl)
          refine AC.mono (hAw _ hf4) ?_
          rintro res H1 ⟨rfl, hf1⟩
          repeat first
            | with_reducible refine AWP.seq ?_
            | ((with_reducible refine AWP.region ?_ ?_); exact rfl)
            | with_reducible refine AWP.block ?_
            | with_reducible refine AWP.skip ?_
            | with_reducible refine AWP.exit ?_
            | with_reducible refine AWP.ret ?_
            | with_reducible refine AWP.label ?_
            | with_reducible refine AWP.goto ?_
            | ((with_reducible refine AWP.condT ?_ ?_); focus (simp only [ev, lk_cons, ↓reduceIte, Nat.reduceEqDiff]; done))
            | ((with_reducible refine AWP.condF ?_ ?_); focus (simp only [ev, lk_cons, ↓reduceIte, Nat.reduceEqDiff]; done))
            | simp only [go_sem, ↓reduceIte, Nat.reduceEqDiff, reduceCtorEq, Nat.reduceAdd, Int.reduceEq, Int.reduceBNe, Int.reduceBEq, Int.reduceToNat, Int.reduceLT, Int.reduceLE, Int.reduceGT, Int.reduceGE, Nat.reduceSub, Nat.reduceBEq, Nat.reduceBNe, Int.reduceAdd, Int.reduceSub, Int.reduceMul, Int.reduceNeg, Nat.reduceMul, Nat.reduceLeDiff, Nat.reduceLT]
            | simp (disch := omega) only [wi64, wu8, wu16, wu32, wu64, Int.tdiv_eq_ediv_of_nonneg, Int.tmod_eq_emod_of_nonneg]
            | with_reducible_and_instances exact finR
            | ((with_reducible refine finR' ?_ ?_) <;> rfl)
            | ((with_reducible refine finD hsc (NRel.of_plain ?_)); exact rfl)
          exact ⟨_, _, .refl _ _ _, rfl⟩
end Go.Proofs.YthcdjconlfdidaaDoor

