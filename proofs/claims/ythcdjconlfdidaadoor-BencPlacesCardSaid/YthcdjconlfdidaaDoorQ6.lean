/-
  The law of places: Place is that of the reference, and the bytes there are the canonical form of what Get gives.
-/
import Derived.Test.YthcdjconlfdidaaDoorQ5
set_option linter.unusedVariables false
set_option linter.unusedSimpArgs false
set_option maxRecDepth 20000
set_option maxHeartbeats 4000000
namespace Go.Proofs.YthcdjconlfdidaaDoor
open Go Go.Aw Go.Proofs
/-- Whether a path is short. -/
def shortB (path : List Tx) : Bool := path.all (fun t => decide (t.length ≤ 300)) && decide (path.length ≤ 20)
theorem short (path : List Tx) (hpl : path.length < 140737488355328) (H : AHeap) (vp : Value) (hP : RdK H 1 vp (keyC path)) : ARet Tryd.prog 20 [vp] H (.bool (shortB path)) H := by
  have hkl : (keyC path).length = path.length := by unfold keyC; simp
  have q1 : ∀ H' K, lenW Tryd.prog 24 vp H' K = K (.int .i64 (path.length : Nat)) H' := fun H' K => by rw [hP.lenT (by simp only [go_sem, sevalprocAttr, reduceCtorEq]), hkl]
  refine AC.enter Tryd.func20 rfl (by kernel_rfl) 18 rfl [.tmp 2] rfl (by simp) fun hsc B => ?_
  repeat first | with_reducible refine AWP.ctl (by constructor) ?_ | ((with_reducible (first | refine AWP.region ?_ ?_ | refine AWP.condT ?_ ?_)); exact rfl) | ((with_reducible refine AWP.condF ?_ ?_); exact rfl) | simp only [go_sem, sevalprocAttr, reduceCtorEq, q1] | simp (disch := omega) only [wz] | with_reducible_and_instances exact finR | ((with_reducible refine finR' ?_ ?_) <;> rfl) | ((with_reducible refine finD hsc (NRel.of_plain ?_)); exact rfl)
  refine AWP.loopP (fun j : Nat => ⟨[(0, vp), (5, vp), (6, .int .i64 (path.length : Nat)), (7, .int .i64 (j : Nat))], [], H⟩)
    (fun j => j ≤ path.length ∧ (path.take j).all (fun t => decide (t.length ≤ 300)) = true) (fun j => path.length - j) 0 ?_ ⟨Nat.zero_le _, rfl⟩ ?_
  · exact Weak.env (by simp [envIn, lk_cons, wth_some])
  rintro j ⟨hj, hall⟩
  dsimp only at hj hall ⊢
  by_cases hlt : j < path.length
  · have hlt' : (j : Int) < (path.length : Int) := by omega
    obtain ⟨bi, off, cap, cs', k', rfl, hcap, hbi, hown, hesz, hle, htk⟩ := hP.at_ (keyC_at hlt)
    have hlt2 : (j : Int) < ((keyC path).length : Int) := by omega
    have hwj : IntKind.i64.wrap ((j : Int) + 1) = ((j + 1 : Nat) : Int) := by rw [wi64 (by omega)]; omega
    have hat2 : cs'[off + j]? = some (.string (bs path[j])) := by
      have h1 := congrArg (fun l => l[0]?) htk
      simpa using h1
    by_cases h3 : path[j].length ≤ 300
    · have h3' : ¬ (path[j].length : Int) > 300 := by omega
      repeat first | with_reducible refine AWP.ctl (by constructor) ?_ | ((with_reducible (first | refine AWP.region ?_ ?_ | refine AWP.condT ?_ ?_)); exact rfl) | ((with_reducible refine AWP.condF ?_ ?_); exact rfl) | simp only [go_sem, sevalprocAttr, reduceCtorEq, hlt', hlt2, hbi, hat2, h3', hwj] | simp (disch := omega) only [wz] | with_reducible_and_instances exact finR | ((with_reducible refine finR' ?_ ?_) <;> rfl) | ((with_reducible refine finD hsc (NRel.of_plain ?_)); exact rfl)
      refine ⟨j + 1, Weak.env (by simp [envIn, lk_cons, wth_some]), by omega, ?_, by omega⟩
      rw [List.take_add_one, List.getElem?_eq_getElem hlt, List.all_append, hall]
      simpa using h3
    · have h3' : (path[j].length : Int) > 300 := by omega
      have hF : shortB path = false := by
        unfold shortB
        rw [Bool.and_eq_false_iff]
        refine .inl (List.all_eq_false.2 ⟨path[j], List.getElem_mem hlt, by simpa using h3⟩)
      rw [hF]
      repeat first | with_reducible refine AWP.ctl (by constructor) ?_ | ((with_reducible (first | refine AWP.region ?_ ?_ | refine AWP.condT ?_ ?_)); exact rfl) | ((with_reducible refine AWP.condF ?_ ?_); exact rfl) | simp only [go_sem, sevalprocAttr, reduceCtorEq, hlt', hlt2, hbi, hat2, h3', hwj] | simp (disch := omega) only [wz] | with_reducible_and_instances exact finR | ((with_reducible refine finR' ?_ ?_) <;> rfl) | ((with_reducible refine finD hsc (NRel.of_plain ?_)); exact rfl)
  · have hlt' : ¬ (j : Int) < (path.length : Int) := by omega
    rw [List.take_of_length_le (by omega)] at hall
    have hF : shortB path = decide ((path.length : Int) ≤ 20) := by
      unfold shortB
      rw [hall, Bool.true_and]
      rw [Bool.eq_iff_iff, decide_eq_true_iff, decide_eq_true_iff]
      omega
    rw [hF]
    repeat first | with_reducible refine AWP.ctl (by constructor) ?_ | ((with_reducible (first | refine AWP.region ?_ ?_ | refine AWP.condT ?_ ?_)); exact rfl) | ((with_reducible refine AWP.condF ?_ ?_); exact rfl) | simp only [go_sem, sevalprocAttr, reduceCtorEq, hlt', q1] | simp (disch := omega) only [wz] | with_reducible_and_instances exact finR | ((with_reducible refine finR' ?_ ?_) <;> rfl) | ((with_reducible refine finD hsc (NRel.of_plain ?_)); exact rfl)
theorem depthL_mem : ∀ {l : List BV} {c : BV}, c ∈ l → c.depth ≤ BV.depthL l
  | v :: l, c, h => by
    rw [BV.depthL]
    rcases List.mem_cons.1 h with rfl | h
    · omega
    · have := depthL_mem h; omega
theorem OkV.of_valid {v : BV} (h : v.valid = true) (hn : v.nums) : OkV v := by
  unfold BV.valid at h
  simp only [Bool.and_eq_true, decide_eq_true_eq] at h
  exact ⟨h.1.1.1, hn, h.1.1.2, h.2⟩
theorem goR_ok : ∀ (p : List Tx) (v : BV), v.valid = true → v.nums → (goR v p).2 = 0 → (goR v p).1.valid = true ∧ (goR v p).1.nums
  | [], v, h, hn, _ => by rw [goR]; exact ⟨h, hn⟩
  | t :: p, v, h, hn, he => by
    rw [goR] at he ⊢
    have hok := OkV.of_valid h hn
    by_cases hs : (stepR v t).2 = 0
    · rw [if_pos hs] at he ⊢
      obtain ⟨i, hi, hie⟩ := stepR_ok hok.form hs
      rw [hie, Int.toNat_natCast, getD_mem hi] at he ⊢
      have hk := (hok.kid (stepR_kind hs) hi).1
      refine goR_ok p _ ?_ hk.nums he
      have h2 := h
      unfold BV.valid at h2 ⊢
      simp only [Bool.and_eq_true, decide_eq_true_eq] at h2 ⊢
      refine ⟨⟨⟨hk.form, hk.cnt⟩, ?_⟩, hk.len⟩
      obtain ⟨k, n, s, kids, keys⟩ := v
      have hd := h2.1.2
      rw [BV.depth] at hd
      have := depthL_mem (List.getElem_mem hi)
      show (kids[i]).depth ≤ 12
      have h3 : (kids[i]).depth ≤ BV.depthL kids := this
      omega
    · rw [if_neg hs] at he
      exact absurd he hs
theorem OkV.fine {v : BV} (h : OkV v) : Fine v := ⟨sz_of_form v h.form (by have := h.len; omega), h.nums, by have := h.len; omega⟩
theorem lawPlaces (s : List UInt8) (path : List Tx) (hs : s.length < 140737488355328) (hpl : path.length < 140737488355328) (H : AHeap) (hG : GlobB H) (vp : Value) (hP : RdK H 1 vp (keyC path)) :
    AC Tryd.prog 6 [.string (bs s), vp] H (fun r _ => r = .ret (.bool true)) := by
  have hAw : ∀ H1, Frm [] H H1 → ARet Tryd.prog 8 [] H1 (.bool true) H1 := fun H1 h => AC.forget rfl (awake H1 (hG.frm h))
  have hA := hAw H (Frm.refl _ _)
  by_cases hmid : 3000 < s.length ∧ s.length ≤ 65536
  · have b1 : (s.length : Int) > 3000 := by omega
    have b2 : (s.length : Int) ≤ 65536 := by omega
    refine AC.enter Tryd.func6 rfl (by kernel_rfl) 110 rfl [.tmp 4] rfl (by simp) fun hsc B => ?_
    repeat first | with_reducible refine AWP.ctl (by constructor) ?_ | ((with_reducible (first | refine AWP.region ?_ ?_ | refine AWP.condT ?_ ?_)); exact rfl) | ((with_reducible refine AWP.condF ?_ ?_); exact rfl) | with_reducible refine hA.use ?_ | simp only [go_sem, sevalprocAttr, reduceCtorEq, b1, b2] | simp (disch := omega) only [wz] | with_reducible_and_instances exact finR | ((with_reducible refine finR' ?_ ?_) <;> rfl) | ((with_reducible refine finD hsc (NRel.of_plain ?_)); exact rfl)
    exact ⟨_, _, .refl _ _ _, rfl⟩
  have hS := short path hpl H vp hP
  obtain ⟨sb, hB⟩ : ∃ sb, shortB path = sb := ⟨_, rfl⟩
  rw [hB] at hS
  refine AC.enter Tryd.func6 rfl (by kernel_rfl) 110 rfl [.tmp 4] rfl (by simp) fun hsc B => ?_
  repeat first | with_reducible refine AWP.seqE (x := .seq (.region 1 _ _) _) (J := fun st => sb = true ∧ st = ⟨[(0, .string (bs s)), (1, vp)], [], H⟩) ?_ ?_ | with_reducible refine AWP.ctl (by constructor) ?_ | ((with_reducible (first | refine AWP.region ?_ ?_ | refine AWP.condT ?_ ?_)); exact rfl) | ((with_reducible refine AWP.condF ?_ ?_); exact rfl) | simp only [go_sem, sevalprocAttr, reduceCtorEq] | simp (disch := omega) only [wz] | with_reducible_and_instances exact finR | ((with_reducible refine finR' ?_ ?_) <;> rfl) | ((with_reducible refine finD hsc (NRel.of_plain ?_)); exact rfl)
  · by_cases hl : s.length ≤ 3000
    · have b1 : ¬ (s.length : Int) > 3000 := by omega
      cases sb with
      | true =>
        repeat first | with_reducible refine AWP.ctl (by constructor) ?_ | ((with_reducible (first | refine AWP.region ?_ ?_ | refine AWP.condT ?_ ?_)); exact rfl) | ((with_reducible refine AWP.condF ?_ ?_); exact rfl) | with_reducible refine hS.use ?_ | simp only [go_sem, sevalprocAttr, reduceCtorEq, b1] | simp (disch := omega) only [wz] | with_reducible_and_instances exact finR | ((with_reducible refine finR' ?_ ?_) <;> rfl) | ((with_reducible refine finD hsc (NRel.of_plain ?_)); exact rfl)
        exact ⟨_, rfl, Weak.env (by simp [envIn, lk_cons, wth_some])⟩
      | false =>
        repeat first | with_reducible refine AWP.ctl (by constructor) ?_ | ((with_reducible (first | refine AWP.region ?_ ?_ | refine AWP.condT ?_ ?_)); exact rfl) | ((with_reducible refine AWP.condF ?_ ?_); exact rfl) | with_reducible refine hS.use ?_ | with_reducible refine hA.use ?_ | simp only [go_sem, sevalprocAttr, reduceCtorEq, b1] | simp (disch := omega) only [wz] | with_reducible_and_instances exact finR | ((with_reducible refine finR' ?_ ?_) <;> rfl) | ((with_reducible refine finD hsc (NRel.of_plain ?_)); exact rfl)
        exact ⟨_, _, .refl _ _ _, rfl⟩
    · have b1 : (s.length : Int) > 3000 := by omega
      have b2 : ¬ (s.length : Int) ≤ 65536 := by omega
      cases sb with
      | true =>
        repeat first | with_reducible refine AWP.ctl (by constructor) ?_ | ((with_reducible (first | refine AWP.region ?_ ?_ | refine AWP.condT ?_ ?_)); exact rfl) | ((with_reducible refine AWP.condF ?_ ?_); exact rfl) | with_reducible refine hS.use ?_ | simp only [go_sem, sevalprocAttr, reduceCtorEq, b1, b2] | simp (disch := omega) only [wz] | with_reducible_and_instances exact finR | ((with_reducible refine finR' ?_ ?_) <;> rfl) | ((with_reducible refine finD hsc (NRel.of_plain ?_)); exact rfl)
        exact ⟨_, rfl, Weak.env (by simp [envIn, lk_cons, wth_some])⟩
      | false =>
        repeat first | with_reducible refine AWP.ctl (by constructor) ?_ | ((with_reducible (first | refine AWP.region ?_ ?_ | refine AWP.condT ?_ ?_)); exact rfl) | ((with_reducible refine AWP.condF ?_ ?_); exact rfl) | with_reducible refine hS.use ?_ | with_reducible refine hA.use ?_ | simp only [go_sem, sevalprocAttr, reduceCtorEq, b1, b2] | simp (disch := omega) only [wz] | with_reducible_and_instances exact finR | ((with_reducible refine finR' ?_ ?_) <;> rfl) | ((with_reducible refine finD hsc (NRel.of_plain ?_)); exact rfl)
        exact ⟨_, _, .refl _ _ _, rfl⟩
  rintro st2 ⟨hBt, rfl⟩
  subst hBt
  unfold shortB at hB
  rw [Bool.and_eq_true, decide_eq_true_eq, List.all_eq_true] at hB
  have hp : ∀ t ∈ path, t.length ≤ 1099511627776 := fun t ht => by
    have := hB.1 t ht
    rw [decide_eq_true_eq] at this; omega
  have hpl2 : path.length ≤ 1099511627776 := by omega
  have hX := AC.forget (by rfl) (place s path hp hpl2 H hG vp hP)
  have hY := AC.forget (by rfl) (rPlace s path hp hpl2 H vp hP)
  have hpo := @parse_ok s
  have hlaw := placeR_law path (parseR s).1 0
  have hgo := goR_ok path (parseR s).1
  have hPar := parse s H
  unfold placeT at hX hY
  by_cases he : (parseR s).2 = 0
  · rw [if_neg (by rw [he]; decide)] at hX hY
    obtain ⟨hok, hval, hsw⟩ := hpo he
    obtain ⟨hl1, hl2⟩ := hlaw hok.form
    have hgR : getR (parseR s).1 path = goR (parseR s).1 path := by unfold getR; rw [if_pos hval]
    by_cases hg : (goR (parseR s).1 path).2 = 0
    · obtain ⟨A, C, hw, hpl3⟩ := hl1 hg
      obtain ⟨hvx, hnx⟩ := hgo hval hok.nums hg
      rw [hpl3] at hX hY
      simp only [Nat.zero_add] at hX hY
      generalize hv : (parseR s).1 = v at *
      generalize hx : (goR v path) = X at *
      obtain ⟨x, ex⟩ := X
      dsimp only at hg hw hX hY hvx hnx
      subst hg
      have hPP : parseR s = (v, 0) := by rw [← hv, ← he]
      rw [hPP] at hPar
      have hokx := OkV.of_valid hvx hnx
      have hlx := hokx.len
      have hlv := hok.len
      have hsl := congrArg List.length hw
      rw [List.length_append, List.length_append, ← hsw] at hsl
      rw [← hsw] at hlv
      repeat first | with_reducible refine AWP.ctl (by constructor) ?_ | ((with_reducible (first | refine AWP.region ?_ ?_ | refine AWP.condT ?_ ?_)); exact rfl) | ((with_reducible refine AWP.condF ?_ ?_); exact rfl) | with_reducible refine hX.use ?_ | with_reducible refine hY.use ?_ | simp only [go_sem, sevalprocAttr, reduceCtorEq] | simp (disch := omega) only [wz] | with_reducible_and_instances exact finR | ((with_reducible refine finR' ?_ ?_) <;> rfl) | ((with_reducible refine finD hsc (NRel.of_plain ?_)); exact rfl)
      refine AC.mono hPar ?_
      rintro res H1 ⟨cs, rfl, hf1, hR1⟩
      dsimp only at hR1 ⊢
      have hr5 := hR1.len
      have hfl := RdV_flat hR1
      have hput := box_put0 cs hr5
      have htk := take5 cs hr5
      have hbx : ∀ Y : AHeap, (H1 ++ .cells cs ⟨26, 0, true, 0, none⟩ :: Y)[H1.length]? = some (.cells cs ⟨26, 0, true, 0, none⟩) := fun Y => by rw [hget0 rfl]; rfl
      have hbx0 := hbx []
      have hfb : Frm [] H (H1 ++ [.cells cs ⟨26, 0, true, 0, none⟩]) := fr0 hf1 Frm.app
      have hGet := getW v path hok.fine hp hpl2 _ (hG.frm hfb) cs (hR1.kept (Kept.more _ _)) vp ((hP.kept (Kept.frm hf1 (fun x hx => by cases hx))).kept (Kept.more _ _))
      rw [hgR] at hGet
      repeat first | with_reducible refine AWP.ctl (by constructor) ?_ | ((with_reducible (first | refine AWP.region ?_ ?_ | refine AWP.condT ?_ ?_)); exact rfl) | ((with_reducible refine AWP.condF ?_ ?_); exact rfl) | simp only [go_sem, sevalprocAttr, reduceCtorEq, hput, hr5, hfl, hbx0, htk] | simp (disch := omega) only [wz] | with_reducible_and_instances exact finR | ((with_reducible refine finR' ?_ ?_) <;> rfl) | ((with_reducible refine finD hsc (NRel.of_plain ?_)); exact rfl)
      refine AC.mono hGet ?_
      rintro res H2 ⟨cs2, rfl, hf2, hR2⟩
      dsimp only at hR2 ⊢
      have hr52 := hR2.len
      have hfl2 := RdV_flat hR2
      have hput2 := box_put0 cs2 hr52
      have htk2 := take5 cs2 hr52
      have hf02 : Frm [] H H2 := fr0 hfb hf2
      have hfb2 : Frm [] H (H2 ++ [.cells cs2 ⟨26, 0, true, 0, none⟩]) := fr0 hf02 Frm.app
      have hFor := AC.forget (by rfl) (format_ x hokx.fine _ cs2 (hR2.kept (Kept.more _ [.cells cs2 ⟨26, 0, true, 0, none⟩])) (hG.frm hfb2).tab)
      have hfx : formatR x = (x.write, 0) := by unfold formatR; rw [if_pos hvx]
      rw [hfx] at hFor
      have hA2 := hAw _ hfb2
      have c1 : ¬ (A.length : Int) < 0 := by omega
      have c2 : ¬ ((A.length + x.write.length : Nat) : Int) > (s.length : Int) := by omega
      have c3 : ¬ (A.length : Int) > ((A.length + x.write.length : Nat) : Int) := by omega
      have c4 : (s.drop A.length).take (A.length + x.write.length - A.length) = x.write := by
        rw [hsw, hw, List.drop_left, Nat.add_sub_cancel_left, List.take_left]
      have c5 : (s.take (A.length + x.write.length)).drop A.length = x.write := by
        rw [List.drop_take, c4]
      repeat first | with_reducible refine AWP.ctl (by constructor) ?_ | ((with_reducible (first | refine AWP.region ?_ ?_ | refine AWP.condT ?_ ?_)); exact rfl) | ((with_reducible refine AWP.condF ?_ ?_); exact rfl) | with_reducible refine hFor.use ?_ | with_reducible refine hA2.use ?_ | simp only [go_sem, sevalprocAttr, reduceCtorEq, hput2, hr52, hfl2, htk2, c1, c2, c3, c4, c5] | simp (disch := omega) only [wz] | with_reducible_and_instances exact finR | ((with_reducible refine finR' ?_ ?_) <;> rfl) | ((with_reducible refine finD hsc (NRel.of_plain ?_)); exact rfl)
      refine ⟨by omega, by omega, ?_⟩
      repeat first | with_reducible refine AWP.ctl (by constructor) ?_ | ((with_reducible (first | refine AWP.region ?_ ?_ | refine AWP.condT ?_ ?_)); exact rfl) | ((with_reducible refine AWP.condF ?_ ?_); exact rfl) | with_reducible refine hA2.use ?_ | simp only [go_sem, sevalprocAttr, reduceCtorEq] | simp (disch := omega) only [wz] | with_reducible_and_instances exact finR | ((with_reducible refine finR' ?_ ?_) <;> rfl) | ((with_reducible refine finD hsc (NRel.of_plain ?_)); exact rfl)
      exact ⟨_, _, .refl _ _ _, rfl⟩
    · have hl3 := hl2 hg
      rw [hl3] at hX hY
      have hg' : ((goR (parseR s).1 path).2 == 0) = false := by simpa using hg
      repeat first | with_reducible refine AWP.ctl (by constructor) ?_ | ((with_reducible (first | refine AWP.region ?_ ?_ | refine AWP.condT ?_ ?_)); exact rfl) | ((with_reducible refine AWP.condF ?_ ?_); exact rfl) | with_reducible refine hX.use ?_ | with_reducible refine hY.use ?_ | with_reducible refine hA.use ?_ | simp only [go_sem, sevalprocAttr, reduceCtorEq, hg'] | simp (disch := omega) only [wz] | with_reducible_and_instances exact finR | ((with_reducible refine finR' ?_ ?_) <;> rfl) | ((with_reducible refine finD hsc (NRel.of_plain ?_)); exact rfl)
      exact ⟨_, _, .refl _ _ _, rfl⟩
  · rw [if_pos he] at hX hY
    have he' : ((parseR s).2 == 0) = false := by simpa using he
    repeat first | with_reducible refine AWP.ctl (by constructor) ?_ | ((with_reducible (first | refine AWP.region ?_ ?_ | refine AWP.condT ?_ ?_)); exact rfl) | ((with_reducible refine AWP.condF ?_ ?_); exact rfl) | with_reducible refine hX.use ?_ | with_reducible refine hY.use ?_ | with_reducible refine hA.use ?_ | simp only [go_sem, sevalprocAttr, reduceCtorEq, he'] | simp (disch := omega) only [wz] | with_reducible_and_instances exact finR | ((with_reducible refine finR' ?_ ?_) <;> rfl) | ((with_reducible refine finD hsc (NRel.of_plain ?_)); exact rfl)
    exact ⟨_, _, .refl _ _ _, rfl⟩
end Go.Proofs.YthcdjconlfdidaaDoor

