/-
  The walk of the program's Same.
-/
import Derived.Test.YthcdjconlfdidaaDoorEG
import Derived.Test.YthcdjconlfdidaaDoorAwC
set_option linter.unusedVariables false
set_option linter.unusedSimpArgs false
set_option maxRecDepth 20000
set_option maxHeartbeats 8000000
namespace Go.Proofs.YthcdjconlfdidaaDoor
open Go Go.Aw Go.Proofs
theorem EqualK (l m : List Tx) (hl : l.length ≤ 1099511627776) (v w : Value) (H : AHeap) (hv : RdK H 1 v (keyC l)) (hw : RdK H 1 w (keyC m)) : ARet Tryd.prog 37 [v, w] H (.bool (l == m)) H := by
  have hkl : (keyC l).length = l.length := by unfold keyC; simp
  have hkm : (keyC m).length = m.length := by unfold keyC; simp
  have q1 : ∀ H' K, lenW Tryd.prog 24 v H' K = K (.int .i64 (l.length : Nat)) H' := fun H' K => by rw [hv.lenT (by simp only [go_sem, sevalprocAttr, reduceCtorEq]), hkl]
  have q2 : ∀ H' K, lenW Tryd.prog 24 w H' K = K (.int .i64 (m.length : Nat)) H' := fun H' K => by rw [hw.lenT (by simp only [go_sem, sevalprocAttr, reduceCtorEq]), hkm]
  have nb : ∀ a b : Int, (a != b) = !(a == b) := fun a b => rfl
  have ns : ∀ a b : List UInt8, (a != b) = !(a == b) := fun a b => rfl
  by_cases e5 : l.length = m.length
  case neg =>
    have e1'' : ((l.length : Int) == (m.length : Int)) = false := by simp; omega
    have hno : (l == m) = false := by rw [beq_eq_false_iff_ne]; intro h; exact e5 (by rw [h])
    rw [hno]
    refine AC.enter Tryd.func37 rfl (by kernel_rfl) 26 rfl [.tmp 4] rfl (by simp) fun hsc B => ?_
    repeat first
      | with_reducible (first | refine AWP.seq ?_ | refine AWP.block ?_ | refine AWP.skip ?_ | refine AWP.exit ?_ | refine AWP.ret ?_ | refine AWP.label ?_ | refine AWP.goto ?_)
      | ((with_reducible (first | refine AWP.region ?_ ?_ | refine AWP.condT ?_ ?_)); exact rfl)
      | ((with_reducible refine AWP.condF ?_ ?_); exact rfl)
      | simp only [go_sem, sevalprocAttr, reduceCtorEq, q1, q2, nb, e1'', Bool.not_false]
      | simp (disch := omega) only [wi64, wu8, wu16, wu32, wu64, Int.tdiv_eq_ediv_of_nonneg, Int.tmod_eq_emod_of_nonneg]
      | with_reducible_and_instances exact finR
      | ((with_reducible refine finR' ?_ ?_) <;> rfl)
      | ((with_reducible refine finD hsc (NRel.of_plain ?_)); exact rfl)
  have e5' : ((l.length : Int) == (m.length : Int)) = true := by simp; omega
  refine AC.enter Tryd.func37 rfl (by kernel_rfl) 26 rfl [.tmp 4] rfl (by simp) fun hsc B => ?_
  repeat first
    | with_reducible (first | refine AWP.seq ?_ | refine AWP.block ?_ | refine AWP.skip ?_ | refine AWP.exit ?_ | refine AWP.ret ?_ | refine AWP.label ?_ | refine AWP.goto ?_)
    | ((with_reducible (first | refine AWP.region ?_ ?_ | refine AWP.condT ?_ ?_)); exact rfl)
    | ((with_reducible refine AWP.condF ?_ ?_); exact rfl)
    | simp only [go_sem, sevalprocAttr, reduceCtorEq, q1, q2, nb, e5', Bool.not_true]
    | simp (disch := omega) only [wi64, wu8, wu16, wu32, wu64, Int.tdiv_eq_ediv_of_nonneg, Int.tmod_eq_emod_of_nonneg]
    | with_reducible_and_instances exact finR
    | ((with_reducible refine finR' ?_ ?_) <;> rfl)
    | ((with_reducible refine finD hsc (NRel.of_plain ?_)); exact rfl)
  refine AWP.loopP (fun j : Nat => ⟨[(0, v), (1, w), (12, .int .i64 (l.length : Nat)), (13, .int .i64 (j : Nat))], [], H⟩)
    (fun j => j ≤ l.length ∧ l.take j = m.take j) (fun j => l.length - j) 0 ?_ ⟨Nat.zero_le _, rfl⟩ ?_
  · exact Weak.env (by simp [envIn, lk_cons, wth_some])
  rintro j ⟨hj, heq⟩
  dsimp only at hj heq ⊢
  by_cases hlj : j < l.length
  · have hlj' : (j : Int) < (l.length : Int) := by omega
    have hlj2 : j < m.length := by omega
    obtain ⟨bi, off, cap, cs', k', rfl, hcap, hbi, hown, hesz, hle, htk⟩ := hv.at_ (keyC_at hlj)
    obtain ⟨bj, offj, capj, csj, kj, rfl, hcapj, hbj, hownj, heszj, hlej, htkj⟩ := hw.at_ (keyC_at hlj2)
    have hx0 : (0 : Int) ≤ (j : Int) := Int.natCast_nonneg _
    have hx1 : (j : Int) < ((keyC l).length : Int) := by omega
    have hx2 : (j : Int) < ((keyC m).length : Int) := by omega
    have hwj : IntKind.i64.wrap ((j : Int) + 1) = ((j + 1 : Nat) : Int) := by rw [wi64 (by omega)]; omega
    have g1 : l[j]? = some l[j] := List.getElem?_eq_getElem hlj
    have g2 : m[j]? = some m[j] := List.getElem?_eq_getElem hlj2
    have ht1 : l.take (j + 1) = l.take j ++ [l[j]] := by rw [List.take_add_one, g1]; rfl
    have ht2 : m.take (j + 1) = m.take j ++ [m[j]] := by rw [List.take_add_one, g2]; rfl
    generalize l[j] = a at *
    generalize m[j] = b at *
    have hat1 : cs'[off + j]? = some (.string (bs a)) := by
      have h1 := congrArg (fun l => l[0]?) htk
      simpa using h1
    have hat2 : csj[offj + j]? = some (.string (bs b)) := by
      have h1 := congrArg (fun l => l[0]?) htkj
      simpa using h1
    by_cases hab : a = b
    · subst hab
      repeat first
        | with_reducible (first | refine AWP.seq ?_ | refine AWP.block ?_ | refine AWP.skip ?_ | refine AWP.exit ?_ | refine AWP.ret ?_ | refine AWP.label ?_ | refine AWP.goto ?_)
        | ((with_reducible (first | refine AWP.region ?_ ?_ | refine AWP.condT ?_ ?_)); exact rfl)
        | ((with_reducible refine AWP.condF ?_ ?_); exact rfl)
        | simp only [go_sem, sevalprocAttr, reduceCtorEq, hlj']
        | simp (disch := omega) only [wi64, wu8, wu16, wu32, wu64, Int.tdiv_eq_ediv_of_nonneg, Int.tmod_eq_emod_of_nonneg]
        | with_reducible_and_instances exact finR
        | ((with_reducible refine finR' ?_ ?_) <;> rfl)
        | ((with_reducible refine finD hsc (NRel.of_plain ?_)); exact rfl)
      refine AWP.regionK 8 (by kernel_rfl) (by decide) (by kernel_rfl) ?_
      repeat first
        | with_reducible (first | refine AWP.seq ?_ | refine AWP.block ?_ | refine AWP.skip ?_ | refine AWP.exit ?_ | refine AWP.ret ?_ | refine AWP.label ?_ | refine AWP.goto ?_)
        | ((with_reducible (first | refine AWP.region ?_ ?_ | refine AWP.condT ?_ ?_)); exact rfl)
        | ((with_reducible refine AWP.condF ?_ ?_); exact rfl)
        | simp only [go_sem, sevalprocAttr, reduceCtorEq, hx0, hx1, hx2, hbi, hbj, hat1, hat2, nb, ns, beq_self_eq_true, Bool.not_true, hwj]
        | simp (disch := omega) only [wi64, wu8, wu16, wu32, wu64, Int.tdiv_eq_ediv_of_nonneg, Int.tmod_eq_emod_of_nonneg]
        | with_reducible_and_instances exact finR
        | ((with_reducible refine finR' ?_ ?_) <;> rfl)
        | ((with_reducible refine finD hsc (NRel.of_plain ?_)); exact rfl)
      exact ⟨j + 1, Weak.env (by simp [envIn, lk_cons, wth_some]), hlj, by rw [ht1, ht2, heq], by omega⟩
    · have hab' : (a == b) = false := by simpa using hab
      have hno : (l == m) = false := by
        rw [beq_eq_false_iff_ne]
        intro h
        rw [h, g2] at g1
        cases g1
        exact hab rfl
      rw [hno]
      repeat first
        | with_reducible (first | refine AWP.seq ?_ | refine AWP.block ?_ | refine AWP.skip ?_ | refine AWP.exit ?_ | refine AWP.ret ?_ | refine AWP.label ?_ | refine AWP.goto ?_)
        | ((with_reducible (first | refine AWP.region ?_ ?_ | refine AWP.condT ?_ ?_)); exact rfl)
        | ((with_reducible refine AWP.condF ?_ ?_); exact rfl)
        | simp only [go_sem, sevalprocAttr, reduceCtorEq, hlj']
        | simp (disch := omega) only [wi64, wu8, wu16, wu32, wu64, Int.tdiv_eq_ediv_of_nonneg, Int.tmod_eq_emod_of_nonneg]
        | with_reducible_and_instances exact finR
        | ((with_reducible refine finR' ?_ ?_) <;> rfl)
        | ((with_reducible refine finD hsc (NRel.of_plain ?_)); exact rfl)
      refine AWP.regionK 8 (by kernel_rfl) (by decide) (by kernel_rfl) ?_
      repeat first
        | with_reducible (first | refine AWP.seq ?_ | refine AWP.block ?_ | refine AWP.skip ?_ | refine AWP.exit ?_ | refine AWP.ret ?_ | refine AWP.label ?_ | refine AWP.goto ?_)
        | ((with_reducible (first | refine AWP.region ?_ ?_ | refine AWP.condT ?_ ?_)); exact rfl)
        | ((with_reducible refine AWP.condF ?_ ?_); exact rfl)
        | simp only [go_sem, sevalprocAttr, reduceCtorEq, hx0, hx1, hx2, hbi, hbj, hat1, hat2, nb, ns, hab', Bool.not_false]
        | simp (disch := omega) only [wi64, wu8, wu16, wu32, wu64, Int.tdiv_eq_ediv_of_nonneg, Int.tmod_eq_emod_of_nonneg]
        | with_reducible_and_instances exact finR
        | ((with_reducible refine finR' ?_ ?_) <;> rfl)
        | ((with_reducible refine finD hsc (NRel.of_plain ?_)); exact rfl)
  · have hlj' : ¬ (j : Int) < (l.length : Int) := by omega
    have hkk : l = m := by
      have h1 : l.take j = l := List.take_of_length_le (by omega)
      have h2 : m.take j = m := List.take_of_length_le (by omega)
      rw [← h1, ← h2]; exact heq
    have hyes : (l == m) = true := by rw [hkk]; exact beq_self_eq_true _
    rw [hyes]
    repeat first
      | with_reducible (first | refine AWP.seq ?_ | refine AWP.block ?_ | refine AWP.skip ?_ | refine AWP.exit ?_ | refine AWP.ret ?_ | refine AWP.label ?_ | refine AWP.goto ?_)
      | ((with_reducible (first | refine AWP.region ?_ ?_ | refine AWP.condT ?_ ?_)); exact rfl)
      | ((with_reducible refine AWP.condF ?_ ?_); exact rfl)
      | simp only [go_sem, sevalprocAttr, reduceCtorEq, hlj']
      | simp (disch := omega) only [wi64, wu8, wu16, wu32, wu64, Int.tdiv_eq_ediv_of_nonneg, Int.tmod_eq_emod_of_nonneg]
      | with_reducible_and_instances exact finR
      | ((with_reducible refine finR' ?_ ?_) <;> rfl)
      | ((with_reducible refine finD hsc (NRel.of_plain ?_)); exact rfl)
/-- What Same does. -/
def SamQ (v : BV) : Prop := ∀ (w : BV) (H : AHeap) (cs cs2 : List Value), RdV H v cs → RdV H w cs2 → AC Tryd.prog 19 [.agg ⟨cs⟩, .agg ⟨cs2⟩] H (fun r H2 => r = .ret (.bool (sameB v w)) ∧ Frm [] H H2)
theorem EqualF (l m : List BV) (hl : l.length ≤ 1099511627776) (ih : ∀ c ∈ l, SamQ c) (v w : Value) (H : AHeap) (css css2 : List (List Value)) (h1 : RdK H 5 v css) (hL : RdL H l css) (p1 : RdK H 5 w css2) (pL : RdL H m css2) :
    AC Tryd.prog 38 [v, w, .func (.func 19) ⟨[]⟩ ⟨[]⟩] H (fun r H2 => r = .ret (.bool (sameL l m)) ∧ Frm [] H H2) := by
  have hcl := hL.len
  have hcl2 := pL.len
  have q1 : ∀ H' K, lenW Tryd.prog 23 v H' K = K (.int .i64 (l.length : Nat)) H' := fun H' K => by rw [h1.lenT (by simp only [go_sem, sevalprocAttr, reduceCtorEq]), hcl]
  have q3 : ∀ H' K, lenW Tryd.prog 23 w H' K = K (.int .i64 (m.length : Nat)) H' := fun H' K => by rw [p1.lenT (by simp only [go_sem, sevalprocAttr, reduceCtorEq]), hcl2]
  have nb : ∀ a b : Int, (a != b) = !(a == b) := fun a b => rfl
  by_cases e4 : l.length = m.length
  case neg =>
    have e1'' : ((l.length : Int) == (m.length : Int)) = false := by simp; omega
    have hno : sameL l m = false := by
      cases h : sameL l m with
      | false => rfl
      | true => exact absurd ((sameL_iff _ _).1 h).1 e4
    rw [hno]
    refine AC.enter Tryd.func38 rfl (by kernel_rfl) 32 rfl [.tmp 6] rfl (by simp) fun hsc B => ?_
    repeat first
      | with_reducible (first | refine AWP.seq ?_ | refine AWP.block ?_ | refine AWP.skip ?_ | refine AWP.exit ?_ | refine AWP.ret ?_ | refine AWP.label ?_ | refine AWP.goto ?_)
      | ((with_reducible (first | refine AWP.region ?_ ?_ | refine AWP.condT ?_ ?_)); exact rfl)
      | ((with_reducible refine AWP.condF ?_ ?_); exact rfl)
      | simp only [go_sem, sevalprocAttr, reduceCtorEq, q1, q3, nb, e1'', Bool.not_false]
      | simp (disch := omega) only [wi64, wu8, wu16, wu32, wu64, Int.tdiv_eq_ediv_of_nonneg, Int.tmod_eq_emod_of_nonneg]
      | with_reducible_and_instances exact finR
      | ((with_reducible refine finR' ?_ ?_) <;> rfl)
      | ((with_reducible refine finD hsc (NRel.of_plain ?_)); exact rfl)
    exact ⟨_, _, .refl _ _ _, rfl, Frm.refl _ _⟩
  have e4' : ((l.length : Int) == (m.length : Int)) = true := by simp; omega
  refine AC.enter Tryd.func38 rfl (by kernel_rfl) 32 rfl [.tmp 6] rfl (by simp) fun hsc B => ?_
  repeat first
    | with_reducible (first | refine AWP.seq ?_ | refine AWP.block ?_ | refine AWP.skip ?_ | refine AWP.exit ?_ | refine AWP.ret ?_ | refine AWP.label ?_ | refine AWP.goto ?_)
    | ((with_reducible (first | refine AWP.region ?_ ?_ | refine AWP.condT ?_ ?_)); exact rfl)
    | ((with_reducible refine AWP.condF ?_ ?_); exact rfl)
    | simp only [go_sem, sevalprocAttr, reduceCtorEq, q1, q3, nb, e4', Bool.not_true]
    | simp (disch := omega) only [wi64, wu8, wu16, wu32, wu64, Int.tdiv_eq_ediv_of_nonneg, Int.tmod_eq_emod_of_nonneg]
    | with_reducible_and_instances exact finR
    | ((with_reducible refine finR' ?_ ?_) <;> rfl)
    | ((with_reducible refine finD hsc (NRel.of_plain ?_)); exact rfl)
  refine AWP.loopP (fun p : Nat × AHeap => ⟨[(1, w), (2, .func (.func 19) ⟨[]⟩ ⟨[]⟩), (15, v), (16, .int .i64 (l.length : Nat)), (17, .int .i64 (p.1 : Nat))], [], p.2⟩)
    (fun p => p.1 ≤ l.length ∧ Frm [] H p.2 ∧ ∀ j x y, j < p.1 → l[j]? = some x → m[j]? = some y → sameB x y = true) (fun p => l.length - p.1) (0, H) ?_ ⟨Nat.zero_le _, Frm.refl _ _, fun j v w hj => absurd hj (Nat.not_lt_zero _)⟩ ?_
  · exact Weak.env (by simp [envIn, lk_cons, wth_some])
  rintro ⟨i, Hc⟩ ⟨hi, hf, hall⟩
  dsimp only at hi hf hall ⊢
  have hkc : Kept H Hc := Kept.frm hf (fun x hx => by cases hx)
  by_cases hlt : i < l.length
  · have hlt' : (i : Int) < (l.length : Int) := by omega
    have hltb : i < m.length := by omega
    obtain ⟨r5, hr5', hRv⟩ := (hL.kept hkc).at_ (List.getElem?_eq_getElem hlt)
    obtain ⟨bi, off, cap, cs', k', rfl, hcap, hbi, hown, hesz, hle, htk⟩ := (h1.kept hkc).at_ hr5'
    obtain ⟨r6, hr6', hRw⟩ := (pL.kept hkc).at_ (List.getElem?_eq_getElem hltb)
    obtain ⟨bj, offj, capj, csj, kj, rfl, hcapj, hbj, hownj, heszj, hlej, htkj⟩ := (p1.kept hkc).at_ hr6'
    have hlt2 : (i : Int) < (css.length : Int) := by omega
    have hlt3 : (i : Int) < (css2.length : Int) := by omega
    have hi0 : (0 : Int) ≤ (i : Int) := Int.natCast_nonneg _
    have hwi : IntKind.i64.wrap ((i : Int) + 1) = ((i + 1 : Nat) : Int) := by rw [wi64 (by omega)]; omega
    have g1 : l[i]? = some l[i] := List.getElem?_eq_getElem hlt
    have g2 : m[i]? = some m[i] := List.getElem?_eq_getElem hltb
    have hr55 := hRv.len
    have hr65 := hRw.len
    have hf5 := RdV_flat hRv
    have hf6 := RdV_flat hRw
    have htk5 : List.take 5 r5 = r5 := List.take_of_length_le (by omega)
    have htk6 : List.take 5 r6 = r6 := List.take_of_length_le (by omega)
    have hput5 : putCells [.int .i64 0, .int .i64 0, .string (bs []), .slice none 0 0, .slice none 0 0] 0 r5 = r5 := by
      match r5, hr55 with
      | [_, _, _, _, _], _ => rfl
    have hput6 : putCells [.int .i64 0, .int .i64 0, .string (bs []), .slice none 0 0, .slice none 0 0] 0 r6 = r6 := by
      match r6, hr65 with
      | [_, _, _, _, _], _ => rfl
    have hbj2 : (Hc ++ [AObj.cells r5 ⟨26, 0, true, 0, none⟩])[bj]? = some (.cells csj kj) := by rw [hgetl (lt_of_get hbj)]; exact hbj
    have hcall := ih l[i] (List.getElem_mem hlt) m[i] (Hc ++ [.cells r5 ⟨26, 0, true, 0, none⟩, .cells r6 ⟨26, 0, true, 0, none⟩]) r5 r6 (hRv.kept (.more _ _)) (hRw.kept (.more _ _))
    generalize l[i] = x at *
    generalize m[i] = y at *
    repeat first
      | with_reducible (first | refine AWP.seq ?_ | refine AWP.block ?_ | refine AWP.skip ?_ | refine AWP.exit ?_ | refine AWP.ret ?_ | refine AWP.label ?_ | refine AWP.goto ?_)
      | ((with_reducible (first | refine AWP.region ?_ ?_ | refine AWP.condT ?_ ?_)); exact rfl)
      | ((with_reducible refine AWP.condF ?_ ?_); exact rfl)
      | simp only [go_sem, sevalprocAttr, reduceCtorEq, hlt', hi0, hlt2, hlt3, hbi, hbj, hbj2, hle, hlej, htk, htkj, hr55, hr65, hf5, hf6, htk5, htk6, hput5, hput6]
      | simp (disch := omega) only [wi64, wu8, wu16, wu32, wu64, Int.tdiv_eq_ediv_of_nonneg, Int.tmod_eq_emod_of_nonneg]
      | with_reducible_and_instances exact finR
      | ((with_reducible refine finR' ?_ ?_) <;> rfl)
      | ((with_reducible refine finD hsc (NRel.of_plain ?_)); exact rfl)
    refine AC.mono hcall ?_
    rintro res H5 ⟨rfl, hf5⟩
    have hf15 : Frm [] H H5 := hf.more.trans hf5 (fun x hx => by cases hx)
    cases hsv : sameB x y with
    | false =>
      have hno : sameL l m = false := by
        cases h : sameL l m with
        | false => rfl
        | true => rw [((sameL_iff _ _).1 h).2 i x y g1 g2] at hsv; cases hsv
      rw [hno]
      repeat first
        | with_reducible (first | refine AWP.seq ?_ | refine AWP.block ?_ | refine AWP.skip ?_ | refine AWP.exit ?_ | refine AWP.ret ?_ | refine AWP.label ?_ | refine AWP.goto ?_)
        | ((with_reducible (first | refine AWP.region ?_ ?_ | refine AWP.condT ?_ ?_)); exact rfl)
        | ((with_reducible refine AWP.condF ?_ ?_); exact rfl)
        | simp only [go_sem, sevalprocAttr, reduceCtorEq]
        | simp (disch := omega) only [wi64, wu8, wu16, wu32, wu64, Int.tdiv_eq_ediv_of_nonneg, Int.tmod_eq_emod_of_nonneg]
        | with_reducible_and_instances exact finR
        | ((with_reducible refine finR' ?_ ?_) <;> rfl)
        | ((with_reducible refine finD hsc (NRel.of_plain ?_)); exact rfl)
      exact ⟨_, _, .refl _ _ _, rfl, hf15⟩
    | true =>
      repeat first
        | with_reducible (first | refine AWP.seq ?_ | refine AWP.block ?_ | refine AWP.skip ?_ | refine AWP.exit ?_ | refine AWP.ret ?_ | refine AWP.label ?_ | refine AWP.goto ?_)
        | ((with_reducible (first | refine AWP.region ?_ ?_ | refine AWP.condT ?_ ?_)); exact rfl)
        | ((with_reducible refine AWP.condF ?_ ?_); exact rfl)
        | simp only [go_sem, sevalprocAttr, reduceCtorEq, hwi]
        | simp (disch := omega) only [wi64, wu8, wu16, wu32, wu64, Int.tdiv_eq_ediv_of_nonneg, Int.tmod_eq_emod_of_nonneg]
        | with_reducible_and_instances exact finR
        | ((with_reducible refine finR' ?_ ?_) <;> rfl)
        | ((with_reducible refine finD hsc (NRel.of_plain ?_)); exact rfl)
      refine ⟨(i + 1, H5), Weak.env (by simp [envIn, lk_cons, wth_some]), hlt, hf15, fun j a b hj ha hb => ?_, by dsimp only; omega⟩
      rcases Nat.lt_or_ge j i with h | h
      · exact hall j a b h ha hb
      · obtain rfl : j = i := by dsimp only at hj; omega
        rw [g1] at ha
        rw [g2] at hb
        cases ha; cases hb
        exact hsv
  · have hlt' : ¬ (i : Int) < (l.length : Int) := by omega
    have hsl : sameL l m = true := (sameL_iff _ _).2 ⟨e4, fun j a b ha hb => hall j a b (by have := (List.getElem?_eq_some_iff.1 ha).1; omega) ha hb⟩
    rw [hsl]
    repeat first
      | with_reducible (first | refine AWP.seq ?_ | refine AWP.block ?_ | refine AWP.skip ?_ | refine AWP.exit ?_ | refine AWP.ret ?_ | refine AWP.label ?_ | refine AWP.goto ?_)
      | ((with_reducible (first | refine AWP.region ?_ ?_ | refine AWP.condT ?_ ?_)); exact rfl)
      | ((with_reducible refine AWP.condF ?_ ?_); exact rfl)
      | simp only [go_sem, sevalprocAttr, reduceCtorEq, hlt']
      | simp (disch := omega) only [wi64, wu8, wu16, wu32, wu64, Int.tdiv_eq_ediv_of_nonneg, Int.tmod_eq_emod_of_nonneg]
      | with_reducible_and_instances exact finR
      | ((with_reducible refine finR' ?_ ?_) <;> rfl)
      | ((with_reducible refine finD hsc (NRel.of_plain ?_)); exact rfl)
    exact ⟨_, _, .refl _ _ _, rfl, hf⟩
theorem sameP (v : BV) : szV v → SamQ v := by
  refine BV.ind (P := fun v => szV v → SamQ v) (fun k n s kids keys ih hsz => ?_) v
  intro w H cs cs2 hR hQ
  obtain ⟨k2, n2, s2, kids2, keys2⟩ := w
  unfold szV at hsz
  obtain ⟨hkd, hky, hszL⟩ := hsz
  have hfl := RdV_flat hR
  have hr5 := hR.len
  have hfl2 := RdV_flat hQ
  have hr52 := hQ.len
  unfold RdV at hR hQ
  obtain ⟨vk, vs, css, rfl, h1, hL, h3⟩ := hR
  obtain ⟨wk, ws, css2, rfl, p1, pL, p3⟩ := hQ
  obtain ⟨H1, hH1⟩ : ∃ H1 : AHeap, H1 = H ++ [.cells [.int .i64 k, .int .i64 n, .string (bs s), vk, vs] ⟨26, 0, true, 0, none⟩, .cells [.int .i64 k2, .int .i64 n2, .string (bs s2), wk, ws] ⟨26, 0, true, 0, none⟩] := ⟨_, rfl⟩
  have hb0 : H1[H.length]? = some (.cells [.int .i64 k, .int .i64 n, .string (bs s), vk, vs] ⟨26, 0, true, 0, none⟩) := by rw [hH1, hget0 rfl]; rfl
  have hb1 : H1[H.length + 1]? = some (.cells [.int .i64 k2, .int .i64 n2, .string (bs s2), wk, ws] ⟨26, 0, true, 0, none⟩) := by rw [hH1, hgetk rfl]; rfl
  have hf1 : Frm [] H H1 := by rw [hH1]; exact Frm.app
  have hk1 : Kept H H1 := by rw [hH1]; exact .more _ _
  have hE := EqualK keys keys2 (by omega) vs ws H1 (h3.kept hk1) (p3.kept hk1)
  have hF := AC.forget rfl (EqualF kids kids2 hkd (fun c hc => ih c hc (szL_iff.1 hszL c hc)) vk wk H1 css css2 (h1.kept hk1) (hL.kept hk1) (p1.kept hk1) (pL.kept hk1))
  have hsame : sameB (.mk k n s kids keys) (.mk k2 n2 s2 kids2 keys2) = ((k == k2) && (n == n2) && (s == s2) && (kids.length == kids2.length) && (keys.length == keys2.length) && sameL kids kids2 && (keys == keys2)) := by
    conv => lhs; unfold sameB
  have hsame2 : sameB (.mk k n s kids keys) (.mk k2 n2 s2 kids2 keys2) = ((k == k2) && (n == n2) && (s == s2) && (keys == keys2) && sameL kids kids2) := by
    rw [hsame, Bool.eq_iff_iff]
    simp only [Bool.and_eq_true, beq_iff_eq]
    constructor
    · rintro ⟨⟨⟨⟨⟨⟨a, b⟩, c⟩, d⟩, e⟩, f⟩, g⟩
      exact ⟨⟨⟨⟨a, b⟩, c⟩, g⟩, f⟩
    · rintro ⟨⟨⟨⟨a, b⟩, c⟩, g⟩, f⟩
      exact ⟨⟨⟨⟨⟨⟨a, b⟩, c⟩, ((sameL_iff _ _).1 f).1⟩, by rw [g]⟩, f⟩, g⟩
  rw [hsame2]
  clear hsame hsame2
  cases e1 : (k == k2) with
  | false =>
    refine AC.enter Tryd.func19 rfl (by kernel_rfl) 38 rfl [.tmp 4] rfl (by simp) fun hsc B => ?_
    repeat first
      | with_reducible (first | refine AWP.seq ?_ | refine AWP.block ?_ | refine AWP.skip ?_ | refine AWP.exit ?_ | refine AWP.ret ?_ | refine AWP.label ?_ | refine AWP.goto ?_)
      | ((with_reducible (first | refine AWP.region ?_ ?_ | refine AWP.condT ?_ ?_)); exact rfl)
      | ((with_reducible refine AWP.condF ?_ ?_); exact rfl)
      | simp only [go_sem, sevalprocAttr, reduceCtorEq, hfl, hr5, hfl2, hr52]
      | simp (disch := omega) only [wi64, wu8, wu16, wu32, wu64, Int.tdiv_eq_ediv_of_nonneg, Int.tmod_eq_emod_of_nonneg]
      | with_reducible_and_instances exact finR
      | ((with_reducible refine finR' ?_ ?_) <;> rfl)
      | ((with_reducible refine finD hsc (NRel.of_plain ?_)); exact rfl)
    rw [← hH1]
    repeat first
      | with_reducible (first | refine AWP.seq ?_ | refine AWP.block ?_ | refine AWP.skip ?_ | refine AWP.exit ?_ | refine AWP.ret ?_ | refine AWP.label ?_ | refine AWP.goto ?_)
      | ((with_reducible (first | refine AWP.region ?_ ?_ | refine AWP.condT ?_ ?_)); exact rfl)
      | ((with_reducible refine AWP.condF ?_ ?_); exact rfl)
      | simp only [go_sem, sevalprocAttr, reduceCtorEq, hb0, hb1, e1, exists_eq_left]
      | simp (disch := omega) only [wi64, wu8, wu16, wu32, wu64, Int.tdiv_eq_ediv_of_nonneg, Int.tmod_eq_emod_of_nonneg]
      | with_reducible_and_instances exact finR
      | ((with_reducible refine finR' ?_ ?_) <;> rfl)
      | ((with_reducible refine finD hsc (NRel.of_plain ?_)); exact rfl)
    exact ⟨_, _, .refl _ _ _, rfl, hf1⟩
  | true =>
    cases e2 : (n == n2) with
    | false =>
      refine AC.enter Tryd.func19 rfl (by kernel_rfl) 38 rfl [.tmp 4] rfl (by simp) fun hsc B => ?_
      repeat first
        | with_reducible (first | refine AWP.seq ?_ | refine AWP.block ?_ | refine AWP.skip ?_ | refine AWP.exit ?_ | refine AWP.ret ?_ | refine AWP.label ?_ | refine AWP.goto ?_)
        | ((with_reducible (first | refine AWP.region ?_ ?_ | refine AWP.condT ?_ ?_)); exact rfl)
        | ((with_reducible refine AWP.condF ?_ ?_); exact rfl)
        | simp only [go_sem, sevalprocAttr, reduceCtorEq, hfl, hr5, hfl2, hr52]
        | simp (disch := omega) only [wi64, wu8, wu16, wu32, wu64, Int.tdiv_eq_ediv_of_nonneg, Int.tmod_eq_emod_of_nonneg]
        | with_reducible_and_instances exact finR
        | ((with_reducible refine finR' ?_ ?_) <;> rfl)
        | ((with_reducible refine finD hsc (NRel.of_plain ?_)); exact rfl)
      rw [← hH1]
      repeat first
        | with_reducible (first | refine AWP.seq ?_ | refine AWP.block ?_ | refine AWP.skip ?_ | refine AWP.exit ?_ | refine AWP.ret ?_ | refine AWP.label ?_ | refine AWP.goto ?_)
        | ((with_reducible (first | refine AWP.region ?_ ?_ | refine AWP.condT ?_ ?_)); exact rfl)
        | ((with_reducible refine AWP.condF ?_ ?_); exact rfl)
        | simp only [go_sem, sevalprocAttr, reduceCtorEq, hb0, hb1, e1, e2, exists_eq_left]
        | simp (disch := omega) only [wi64, wu8, wu16, wu32, wu64, Int.tdiv_eq_ediv_of_nonneg, Int.tmod_eq_emod_of_nonneg]
        | with_reducible_and_instances exact finR
        | ((with_reducible refine finR' ?_ ?_) <;> rfl)
        | ((with_reducible refine finD hsc (NRel.of_plain ?_)); exact rfl)
      exact ⟨_, _, .refl _ _ _, rfl, hf1⟩
    | true =>
      cases e3 : (s == s2) with
      | false =>
        refine AC.enter Tryd.func19 rfl (by kernel_rfl) 38 rfl [.tmp 4] rfl (by simp) fun hsc B => ?_
        repeat first
          | with_reducible (first | refine AWP.seq ?_ | refine AWP.block ?_ | refine AWP.skip ?_ | refine AWP.exit ?_ | refine AWP.ret ?_ | refine AWP.label ?_ | refine AWP.goto ?_)
          | ((with_reducible (first | refine AWP.region ?_ ?_ | refine AWP.condT ?_ ?_)); exact rfl)
          | ((with_reducible refine AWP.condF ?_ ?_); exact rfl)
          | simp only [go_sem, sevalprocAttr, reduceCtorEq, hfl, hr5, hfl2, hr52]
          | simp (disch := omega) only [wi64, wu8, wu16, wu32, wu64, Int.tdiv_eq_ediv_of_nonneg, Int.tmod_eq_emod_of_nonneg]
          | with_reducible_and_instances exact finR
          | ((with_reducible refine finR' ?_ ?_) <;> rfl)
          | ((with_reducible refine finD hsc (NRel.of_plain ?_)); exact rfl)
        rw [← hH1]
        repeat first
          | with_reducible (first | refine AWP.seq ?_ | refine AWP.block ?_ | refine AWP.skip ?_ | refine AWP.exit ?_ | refine AWP.ret ?_ | refine AWP.label ?_ | refine AWP.goto ?_)
          | ((with_reducible (first | refine AWP.region ?_ ?_ | refine AWP.condT ?_ ?_)); exact rfl)
          | ((with_reducible refine AWP.condF ?_ ?_); exact rfl)
          | simp only [go_sem, sevalprocAttr, reduceCtorEq, hb0, hb1, e1, e2, e3, exists_eq_left]
          | simp (disch := omega) only [wi64, wu8, wu16, wu32, wu64, Int.tdiv_eq_ediv_of_nonneg, Int.tmod_eq_emod_of_nonneg]
          | with_reducible_and_instances exact finR
          | ((with_reducible refine finR' ?_ ?_) <;> rfl)
          | ((with_reducible refine finD hsc (NRel.of_plain ?_)); exact rfl)
        exact ⟨_, _, .refl _ _ _, rfl, hf1⟩
      | true =>
        cases e4 : (keys == keys2) with
        | false =>
          rw [e4] at hE
          refine AC.enter Tryd.func19 rfl (by kernel_rfl) 38 rfl [.tmp 4] rfl (by simp) fun hsc B => ?_
          repeat first
            | with_reducible (first | refine AWP.seq ?_ | refine AWP.block ?_ | refine AWP.skip ?_ | refine AWP.exit ?_ | refine AWP.ret ?_ | refine AWP.label ?_ | refine AWP.goto ?_)
            | ((with_reducible (first | refine AWP.region ?_ ?_ | refine AWP.condT ?_ ?_)); exact rfl)
            | ((with_reducible refine AWP.condF ?_ ?_); exact rfl)
            | simp only [go_sem, sevalprocAttr, reduceCtorEq, hfl, hr5, hfl2, hr52]
            | simp (disch := omega) only [wi64, wu8, wu16, wu32, wu64, Int.tdiv_eq_ediv_of_nonneg, Int.tmod_eq_emod_of_nonneg]
            | with_reducible_and_instances exact finR
            | ((with_reducible refine finR' ?_ ?_) <;> rfl)
            | ((with_reducible refine finD hsc (NRel.of_plain ?_)); exact rfl)
          rw [← hH1]
          repeat first
            | with_reducible (first | refine AWP.seq ?_ | refine AWP.block ?_ | refine AWP.skip ?_ | refine AWP.exit ?_ | refine AWP.ret ?_ | refine AWP.label ?_ | refine AWP.goto ?_)
            | ((with_reducible (first | refine AWP.region ?_ ?_ | refine AWP.condT ?_ ?_)); exact rfl)
            | ((with_reducible refine AWP.condF ?_ ?_); exact rfl)
            | with_reducible refine hE.use ?_
            | simp only [go_sem, sevalprocAttr, reduceCtorEq, hb0, hb1, e1, e2, e3, exists_eq_left]
            | simp (disch := omega) only [wi64, wu8, wu16, wu32, wu64, Int.tdiv_eq_ediv_of_nonneg, Int.tmod_eq_emod_of_nonneg]
            | with_reducible_and_instances exact finR
            | ((with_reducible refine finR' ?_ ?_) <;> rfl)
            | ((with_reducible refine finD hsc (NRel.of_plain ?_)); exact rfl)
          exact ⟨_, _, .refl _ _ _, rfl, hf1⟩
        | true =>
          rw [e4] at hE
          cases e5 : sameL kids kids2 with
          | false =>
            rw [e5] at hF
            refine AC.enter Tryd.func19 rfl (by kernel_rfl) 38 rfl [.tmp 4] rfl (by simp) fun hsc B => ?_
            repeat first
              | with_reducible (first | refine AWP.seq ?_ | refine AWP.block ?_ | refine AWP.skip ?_ | refine AWP.exit ?_ | refine AWP.ret ?_ | refine AWP.label ?_ | refine AWP.goto ?_)
              | ((with_reducible (first | refine AWP.region ?_ ?_ | refine AWP.condT ?_ ?_)); exact rfl)
              | ((with_reducible refine AWP.condF ?_ ?_); exact rfl)
              | simp only [go_sem, sevalprocAttr, reduceCtorEq, hfl, hr5, hfl2, hr52]
              | simp (disch := omega) only [wi64, wu8, wu16, wu32, wu64, Int.tdiv_eq_ediv_of_nonneg, Int.tmod_eq_emod_of_nonneg]
              | with_reducible_and_instances exact finR
              | ((with_reducible refine finR' ?_ ?_) <;> rfl)
              | ((with_reducible refine finD hsc (NRel.of_plain ?_)); exact rfl)
            rw [← hH1]
            repeat first
              | with_reducible (first | refine AWP.seq ?_ | refine AWP.block ?_ | refine AWP.skip ?_ | refine AWP.exit ?_ | refine AWP.ret ?_ | refine AWP.label ?_ | refine AWP.goto ?_)
              | ((with_reducible (first | refine AWP.region ?_ ?_ | refine AWP.condT ?_ ?_)); exact rfl)
              | ((with_reducible refine AWP.condF ?_ ?_); exact rfl)
              | with_reducible refine hE.use ?_
              | with_reducible refine hF.use ?_
              | simp only [go_sem, sevalprocAttr, reduceCtorEq, hb0, hb1, e1, e2, e3, exists_eq_left]
              | simp (disch := omega) only [wi64, wu8, wu16, wu32, wu64, Int.tdiv_eq_ediv_of_nonneg, Int.tmod_eq_emod_of_nonneg]
              | with_reducible_and_instances exact finR
              | ((with_reducible refine finR' ?_ ?_) <;> rfl)
              | ((with_reducible refine finD hsc (NRel.of_plain ?_)); exact rfl)
            exact ⟨_, _, .refl _ _ _, rfl, hf1⟩
          | true =>
            rw [e5] at hF
            refine AC.enter Tryd.func19 rfl (by kernel_rfl) 38 rfl [.tmp 4] rfl (by simp) fun hsc B => ?_
            repeat first
              | with_reducible (first | refine AWP.seq ?_ | refine AWP.block ?_ | refine AWP.skip ?_ | refine AWP.exit ?_ | refine AWP.ret ?_ | refine AWP.label ?_ | refine AWP.goto ?_)
              | ((with_reducible (first | refine AWP.region ?_ ?_ | refine AWP.condT ?_ ?_)); exact rfl)
              | ((with_reducible refine AWP.condF ?_ ?_); exact rfl)
              | simp only [go_sem, sevalprocAttr, reduceCtorEq, hfl, hr5, hfl2, hr52]
              | simp (disch := omega) only [wi64, wu8, wu16, wu32, wu64, Int.tdiv_eq_ediv_of_nonneg, Int.tmod_eq_emod_of_nonneg]
              | with_reducible_and_instances exact finR
              | ((with_reducible refine finR' ?_ ?_) <;> rfl)
              | ((with_reducible refine finD hsc (NRel.of_plain ?_)); exact rfl)
            rw [← hH1]
            repeat first
              | with_reducible (first | refine AWP.seq ?_ | refine AWP.block ?_ | refine AWP.skip ?_ | refine AWP.exit ?_ | refine AWP.ret ?_ | refine AWP.label ?_ | refine AWP.goto ?_)
              | ((with_reducible (first | refine AWP.region ?_ ?_ | refine AWP.condT ?_ ?_)); exact rfl)
              | ((with_reducible refine AWP.condF ?_ ?_); exact rfl)
              | with_reducible refine hE.use ?_
              | with_reducible refine hF.use ?_
              | simp only [go_sem, sevalprocAttr, reduceCtorEq, hb0, hb1, e1, e2, e3, exists_eq_left]
              | simp (disch := omega) only [wi64, wu8, wu16, wu32, wu64, Int.tdiv_eq_ediv_of_nonneg, Int.tmod_eq_emod_of_nonneg]
              | with_reducible_and_instances exact finR
              | ((with_reducible refine finR' ?_ ?_) <;> rfl)
              | ((with_reducible refine finD hsc (NRel.of_plain ?_)); exact rfl)
            exact ⟨_, _, .refl _ _ _, rfl, hf1⟩
end Go.Proofs.YthcdjconlfdidaaDoor

