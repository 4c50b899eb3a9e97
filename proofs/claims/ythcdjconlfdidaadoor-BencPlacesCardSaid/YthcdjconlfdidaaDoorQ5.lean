/-
  The walk of Place.
-/
import Derived.Test.YthcdjconlfdidaaDoorQ4
set_option linter.unusedVariables false
set_option linter.unusedSimpArgs false
set_option maxRecDepth 20000
set_option maxHeartbeats 4000000
namespace Go.Proofs.YthcdjconlfdidaaDoor
open Go Go.Aw Go.Proofs
theorem leave_marks {P : Program} {rs : List ResultVar} {n0 : Nat} {K : ARes → AHeap → Prop} {env : List (Nat × Value)} {mo : AMode} {H : AHeap} : ∀ m : Nat, LeaveW P rs n0 K env (List.replicate m .mark) mo H = LeaveW P rs n0 K env [] mo H
  | 0 => rfl
  | m + 1 => by rw [List.replicate_succ, LeaveW]; exact leave_marks m
structure PJp where
  j : Nat
  w : BV
  csw : List Value
  a : Nat
  Hc : AHeap
def PJI (H : AHeap) (m : Nat) (path : List Tx) (R : Int × Int × Int) (p : PJp) : Prop :=
  p.j ≤ path.length ∧ p.Hc[m]? = some (plO p.csw) ∧ p.Hc[m + 1]? = some (inO p.a) ∧ Frm [] H p.Hc ∧ RdV p.Hc p.w p.csw ∧ OkV p.w ∧ p.a + p.w.write.length ≤ 65536 ∧ placeR p.w p.a (path.drop p.j) = R
theorem place (s : List UInt8) (path : List Tx) (hp : ∀ t ∈ path, t.length ≤ 1099511627776) (hpl : path.length ≤ 1099511627776) (H : AHeap) (hG : GlobB H) (vp : Value) (hP : RdK H 1 vp (keyC path)) :
    AC Tryd.prog 21 [.string (bs s), vp] H (fun r H2 => r = .ret (.tuple ⟨[.int .i64 (placeT s path).1, .int .i64 (placeT s path).2.1, .int .i64 (placeT s path).2.2]⟩) ∧ Frm [] H H2) := by
  have hkl : (keyC path).length = path.length := by unfold keyC; simp
  have hX := parse s H
  have q1 : ∀ H' K, lenW Tryd.prog 24 vp H' K = K (.int .i64 (path.length : Nat)) H' := fun H' K => by rw [hP.lenT (by simp only [go_sem, sevalprocAttr, reduceCtorEq]), hkl]
  unfold placeT
  have hpo := @parse_ok s
  generalize hPR : parseR s = PR at *
  obtain ⟨v, e⟩ := PR
  dsimp only at hpo ⊢
  refine AC.enter Tryd.func21 rfl (by kernel_rfl) 59 rfl [.tmp 4, .tmp 5, .tmp 6] rfl (by simp) fun hsc B => ?_
  repeat first | with_reducible refine AWP.ctl (by constructor) ?_ | ((with_reducible (first | refine AWP.region ?_ ?_ | refine AWP.condT ?_ ?_)); exact rfl) | ((with_reducible refine AWP.condF ?_ ?_); exact rfl) | simp only [go_sem, sevalprocAttr, reduceCtorEq, exists_eq_left] | simp (disch := omega) only [wz] | with_reducible_and_instances exact finR | ((with_reducible refine finR' ?_ ?_) <;> rfl) | ((with_reducible refine finD hsc (NRel.of_plain ?_)); exact rfl)
  refine AC.mono hX ?_
  rintro res H1 ⟨cs, rfl, hf1, hR1⟩
  dsimp only at hR1 ⊢
  have hr5 := hR1.len
  have hfl := RdV_flat hR1
  have hput := box_put0 cs hr5
  have hl1 := hf1.1
  by_cases he : e = 0
  · subst he
    obtain ⟨hok, hval, hsw⟩ := hpo rfl
    rw [if_neg (by decide)]
    have hl0 := hok.len
    repeat first | with_reducible refine AWP.ctl (by constructor) ?_ | ((with_reducible (first | refine AWP.region ?_ ?_ | refine AWP.condT ?_ ?_)); exact rfl) | ((with_reducible refine AWP.condF ?_ ?_); exact rfl) | simp only [go_sem, sevalprocAttr, reduceCtorEq, hput, hr5, hfl, q1] | simp (disch := omega) only [wz] | with_reducible_and_instances exact finR | ((with_reducible refine finR' ?_ ?_) <;> rfl) | ((with_reducible refine finD hsc (NRel.of_plain ?_)); exact rfl)
    refine AWP.loopP (fun p : PJp => ⟨[(4, .int .i64 0), (5, .int .i64 0), (6, .int .i64 0), (7, .pointer (some ⟨H1.length, 0, none⟩)), (8, .pointer (some ⟨H1.length + 1, 0, none⟩)), (23, vp), (24, .int .i64 (path.length : Nat)), (25, .int .i64 (p.j : Nat))], List.replicate p.j .mark, p.Hc⟩)
      (PJI H H1.length path (placeR v 0 path)) (fun p => path.length - p.j) ⟨0, v, cs, 0, H1 ++ [plO cs, inO 0]⟩ ?_ ⟨Nat.zero_le _, hget0 rfl, hgetk rfl, fr0 hf1 Frm.app, hR1.kept (Kept.more _ _), hok, by dsimp only; omega, rfl⟩ ?_
    · exact Weak.env (by simp [envIn, lk_cons, wth_some])
    rintro ⟨j, w, csw, a, Hc⟩ ⟨hj, hb, ha8, hf, hRw, hokw, ha, hgo⟩
    dsimp only at hj hb ha8 hf hRw hokw ha hgo ⊢
    rw [← hgo]
    unfold plO at hb
    unfold inO at ha8
    have hkc : Kept H Hc := Kept.frm hf (fun x hx => by cases hx)
    have hfw := RdV_flat hRw
    have hw5 := hRw.len
    have htw : List.take 5 csw = csw := List.take_of_length_le (by omega)
    have hbl := lt_of_get hb
    have hal := lt_of_get ha8
    have hlm := @leave_marks
    by_cases hlt : j < path.length
    · have hlt' : (j : Int) < (path.length : Int) := by omega
      obtain ⟨bi, off, cap, cs', k', rfl, hcap, hbi, hown, hesz, hle, htk⟩ := (hP.kept hkc).at_ (keyC_at hlt)
      have hlt2 : (j : Int) < ((keyC path).length : Int) := by omega
      have hdrop : path.drop j = path[j] :: path.drop (j + 1) := List.drop_eq_getElem_cons hlt
      have hpj := hp path[j] (List.getElem_mem hlt)
      have hwj : IntKind.i64.wrap ((j : Int) + 1) = ((j + 1 : Nat) : Int) := by rw [wi64 (by omega)]; omega
      rw [hdrop, placeR]
      generalize path[j] = t at *
      have hat2 : cs'[off + j]? = some (.string (bs t)) := by
        have h1 := congrArg (fun l => l[0]?) htk
        simpa using h1
      obtain ⟨k, n, sx, kids, keys⟩ := w
      have hkd := hokw.kids_le
      have hky := hokw.keys_le
      dsimp only [BV.kids, BV.keys] at hkd hky
      have hI := AC.forget rfl (index k n sx kids keys (by omega) (by omega) (fun h => (form_asc hokw.form h).1) t hpj Hc (hG.frm hf) csw hRw)
      repeat first | with_reducible refine AWP.ctl (by constructor) ?_ | ((with_reducible (first | refine AWP.region ?_ ?_ | refine AWP.condT ?_ ?_)); exact rfl) | ((with_reducible refine AWP.condF ?_ ?_); exact rfl) | with_reducible refine hI.use ?_ | simp only [go_sem, sevalprocAttr, reduceCtorEq, hlt', hlt2, hbi, hat2, hb, hw5, htw] | simp (disch := omega) only [wz] | with_reducible_and_instances exact finR | ((with_reducible refine finR' ?_ ?_) <;> rfl) | ((with_reducible refine finD hsc (NRel.of_plain ?_)); exact rfl)
      by_cases hse : (stepR (.mk k n sx kids keys) t).2 = 0
      · rw [if_pos hse, hse]
        obtain ⟨i, hi, hie⟩ := stepR_ok hokw.form hse
        rw [hie, Int.toNat_natCast]
        have hkind := stepR_kind hse
        dsimp only [BV.kids, BV.kind] at hi hkind ⊢
        rw [getD_mem hi]
        obtain ⟨hoki, hleni⟩ := hokw.kid hkind hi
        dsimp only [BV.kids] at hoki hleni
        have hWi := within csw (a : Nat) hw5 hfw (Hc ++ [inO i])
        unfold inO at hWi
        have g1 : ∀ X : AHeap, (Hc ++ X)[H1.length]? = Hc[H1.length]? := fun X => hgetl hbl
        have g2 : ∀ X : AHeap, (Hc ++ X)[H1.length + 1]? = Hc[H1.length + 1]? := fun X => hgetl hal
        have hsA : ∀ (o : AObj) (Y : AHeap), (Hc ++ Y).set (H1.length + 1) o = Hc.set (H1.length + 1) o ++ Y := fun o Y => hsetl hal
        repeat first | with_reducible refine AWP.ctl (by constructor) ?_ | ((with_reducible (first | refine AWP.region ?_ ?_ | refine AWP.condT ?_ ?_)); exact rfl) | ((with_reducible refine AWP.condF ?_ ?_); exact rfl) | with_reducible refine hWi.use ?_ | simp only [go_sem, sevalprocAttr, reduceCtorEq, g1, g2, hb, ha8, hw5, htw] | simp (disch := omega) only [wz] | with_reducible_and_instances exact finR | ((with_reducible refine finR' ?_ ?_) <;> rfl) | ((with_reducible refine finD hsc (NRel.of_plain ?_)); exact rfl)
        refine AWP.rangeL Tryd.func69 rfl (by simp; omega) (by simp only [go_sem, sevalprocAttr, reduceCtorEq]; rfl) (by kernel_rfl) (by kernel_rfl) fun L hL => ?_
        simp only [List.nil_append, List.cons_append, List.append_assoc, List.length_append, List.length_cons, List.length_nil, Nat.zero_add, Nat.add_assoc, Nat.reduceAdd]
        refine AC.mono (within1 (.mk k n sx kids keys) hokw hkind csw a ha (Hc.length + 2) (Hc.length + 1) (Hc.length + 3) (by omega) (Hc ++ (inO i :: plO csw :: inO a :: .loop L :: []))
          (fun q H' => q ≤ i ∧ ∃ R z, H' = Hc ++ (inO i :: plO csw :: inO z :: .loop L :: R))
          (fun H' => ∃ R z, H' = Hc.set (H1.length + 1) (inO (a + (preW (.mk k n sx kids keys) i + kW (.mk k n sx kids keys) i) : Nat)) ++ (inO i :: plO csw :: inO z :: .loop { L with state := .done, pending := some (.exit 2) } :: R))
          ⟨Nat.zero_le _, [], a, rfl⟩ (hgetk rfl) ?_ ?_ ?_ ?_ ?_ ?_) ?_
        · rintro q H' ⟨_, R, z, rfl⟩
          exact ⟨hgetk rfl, hRw.kept (Kept.more _ _), (hG.frm hf).tab.more _⟩
        · rintro q H' ⟨_, R, z, rfl⟩
          simp
        · rintro q H' ⟨_, R, z, rfl⟩
          have e : Hc ++ (inO i :: plO csw :: inO z :: .loop L :: R) = ((Hc ++ (inO i :: plO csw :: inO a :: .loop L :: [])).set (Hc.length + 2) (inO z)) ++ R := by rw [hsetk rfl]; simp
          rw [e]
          exact (Kept.set (hgetk rfl) rfl _).trans (Kept.more _ _)
        · rintro q H' X ⟨h, R, z, rfl⟩
          exact ⟨h, R ++ X, z, by simp⟩
        · rintro q H' z' ⟨h, R, z, rfl⟩
          refine ⟨h, R, z', ?_⟩
          rw [hsetk rfl]; rfl
        · rintro q H' hq ⟨hqi, R, z, rfl⟩ hat
          have hz : z = ((a + (preW (.mk k n sx kids keys) q + kW (.mk k n sx kids keys) q) : Nat) : Int) := by
            rw [hgetk rfl] at hat
            unfold inO at hat
            simpa using hat
          refine AY.of (L := L) (by simp only [go_sem, sevalprocAttr, reduceCtorEq]) (by rw [hL]) (by rw [hL]; rfl) (by rw [hL]; simp) fun hsc2 lr B2 => ?_
          have e0 := congrArg ALoop.state hL
          have e1 := congrArg ALoop.n hL
          have e2 := congrArg ALoop.params hL
          have e3 := congrArg ALoop.assign hL
          have e4 := congrArg ALoop.body hL
          have e5 := congrArg ALoop.env hL
          have eL : (⟨.ready, none, L.env, L.n, L.params, L.assign, L.body⟩ : ALoop) = L := by rw [hL]
          simp only at e0 e1 e2 e3 e4 e5
          rw [e3, e4]
          simp only [e2, e5, zipEnv]
          rw [e1]
          unfold inO plO
          by_cases hqe : q = i
          · have hqe' : ((q : Int) == (i : Int)) = true := by rw [hqe]; simp
            repeat first | with_reducible refine AWP.ctl (by constructor) ?_ | ((with_reducible (first | refine AWP.region ?_ ?_ | refine AWP.condT ?_ ?_)); exact rfl) | ((with_reducible refine AWP.condF ?_ ?_); exact rfl) | simp only [go_sem, sevalprocAttr, reduceCtorEq, e0, hqe', g2, ha8, hal, hsA] | simp (disch := omega) only [wz] | with_reducible_and_instances exact finR | ((with_reducible refine finR' ?_ ?_) <;> rfl) | ((with_reducible refine finD hsc (NRel.of_plain ?_)); exact rfl)
            refine ⟨_, .refl _ _ _, false, rfl, (fun e => by cases e), fun _ => ⟨R, z, ?_⟩⟩
            rw [hqe, hL]
          · have hqe' : ((q : Int) == (i : Int)) = false := beq_eq_false_iff_ne.2 (by omega)
            repeat first | with_reducible refine AWP.ctl (by constructor) ?_ | ((with_reducible (first | refine AWP.region ?_ ?_ | refine AWP.condT ?_ ?_)); exact rfl) | ((with_reducible refine AWP.condF ?_ ?_); exact rfl) | simp only [go_sem, sevalprocAttr, reduceCtorEq, e0, hqe'] | simp (disch := omega) only [wz] | with_reducible_and_instances exact finR | ((with_reducible refine finR' ?_ ?_) <;> rfl) | ((with_reducible refine finD hsc (NRel.of_plain ?_)); exact rfl)
            refine ⟨_, .refl _ _ _, true, rfl, fun _ => ⟨by omega, ⟨R, z, by rw [eL]⟩, ?_, ?_⟩, fun e => by cases e⟩
            · rw [hgetk rfl, hz]; rfl
            · intro j' o hj' ho
              rw [eL]; exact ho
        · rintro r H' ⟨rfl, hD⟩
          rcases hD with ⟨hbad, _⟩ | ⟨R, z, rfl⟩
          · dsimp only [BV.kids] at hbad; omega
          subst hL
          have hRw0 := hRw
          unfold RdV at hRw0
          obtain ⟨vk, vs, css, rfl, hk1, hkL, hk3⟩ := hRw0
          have hcl := hkL.len
          obtain ⟨bk, offk, capk, csk, kk, rfl, hcapk, hbk, hownk, heszk, hrow⟩ := RdK.row hk1 (by omega)
          obtain ⟨ri, hri, hRi⟩ := hkL.at_ (List.getElem?_eq_getElem hi)
          obtain ⟨hro, hrt⟩ := hrow i ri hri
          have hi2 : (i : Int) < (css.length : Int) := by omega
          have hri5 := hRi.len
          have hfli := RdV_flat hRi
          have hputi : putCells [.int .i64 k, .int .i64 n, .string (bs sx), .slice (some ⟨bk, offk, none⟩) css.length capk, vs] 0 ri = ri := by
            match ri, hri5 with
            | [_, _, _, _, _], _ => rfl
          have hbkl := lt_of_get hbk
          have hbne : H1.length + 1 ≠ bk := fun e => by
            rw [← e, ha8] at hbk
            cases hbk
            cases hownk
          have f1 : ∀ (o : AObj) (Y : AHeap), (Hc.set (H1.length + 1) o ++ Y)[bk]? = some (.cells csk kk) := fun o Y => by
            rw [hgetl (by rw [List.length_set]; exact hbkl), List.getElem?_set_ne hbne]; exact hbk
          have f2 : ∀ (o : AObj) (Y : AHeap), (Hc.set (H1.length + 1) o ++ Y)[H1.length]? = Hc[H1.length]? := fun o Y => by
            rw [hgetl (by rw [List.length_set]; exact hbl), List.getElem?_set_ne (by omega)]
          unfold inO plO
          repeat first | with_reducible refine AWP.ctl (by constructor) ?_ | ((with_reducible (first | refine AWP.region ?_ ?_ | refine AWP.condT ?_ ?_)); exact rfl) | ((with_reducible refine AWP.condF ?_ ?_); exact rfl) | simp only [go_sem, sevalprocAttr, reduceCtorEq, f1, f2, hb, hi2, hro, hrt, hri5, hfli, hputi, hwj] | simp (disch := omega) only [wz] | with_reducible_and_instances exact finR | ((with_reducible refine finR' ?_ ?_) <;> rfl) | ((with_reducible refine finD hsc (NRel.of_plain ?_)); exact rfl)
          refine ⟨⟨j + 1, kids[i], ri, a + (preW (.mk k n sx kids keys) i + kW (.mk k n sx kids keys) i), _⟩, Weak.env (by simp [envIn, lk_cons, wth_some]), ⟨by dsimp only; omega, ?_, ?_, ?_, ?_, hoki, by dsimp only; omega, rfl⟩, by dsimp only; omega⟩
          · exact List.getElem?_set_self (by simp; omega)
          · dsimp only
            rw [List.getElem?_set_ne (by omega), hgetl (by rw [List.length_set]; exact hal), List.getElem?_set_self hal]
            rfl
          · exact Frm.set (fr0 (Frm.set hf (.inr (by omega))) Frm.app) (.inr (by omega))
          · exact hRi.kept (((Kept.set ha8 rfl _).trans (Kept.more _ _)).trans (Kept.set (by rw [f2]; exact hb) rfl _))
      · rw [if_neg hse]
        have he' : ((stepR (.mk k n sx kids keys) t).2 != 0) = true := by simpa using hse
        repeat first | with_reducible refine AWP.ctl (by constructor) ?_ | ((with_reducible (first | refine AWP.region ?_ ?_ | refine AWP.condT ?_ ?_)); exact rfl) | ((with_reducible refine AWP.condF ?_ ?_); exact rfl) | simp only [go_sem, sevalprocAttr, reduceCtorEq, he', hlm] | simp (disch := omega) only [wz] | with_reducible_and_instances exact finR | ((with_reducible refine finR' ?_ ?_) <;> rfl) | ((with_reducible refine finD hsc (NRel.of_plain ?_)); exact rfl)
        exact ⟨_, _, .refl _ _ _, rfl, fr0 hf Frm.app⟩
    · have hlt' : ¬ (j : Int) < (path.length : Int) := by omega
      have hdrop : path.drop j = [] := List.drop_eq_nil_of_le (by omega)
      rw [hdrop, placeR]
      have hW := wri_ar hokw hRw (hG.frm hf).tab
      have hwl : IntKind.i64.wrap ((a : Int) + (w.write.length : Nat)) = ((a + w.write.length : Nat) : Int) := by rw [wi64 (by omega)]; omega
      repeat first | with_reducible refine AWP.ctl (by constructor) ?_ | ((with_reducible (first | refine AWP.region ?_ ?_ | refine AWP.condT ?_ ?_)); exact rfl) | ((with_reducible refine AWP.condF ?_ ?_); exact rfl) | simp only [go_sem, sevalprocAttr, reduceCtorEq, hlt'] | simp (disch := omega) only [wz] | with_reducible_and_instances exact finR | ((with_reducible refine finR' ?_ ?_) <;> rfl) | ((with_reducible refine finD hsc (NRel.of_plain ?_)); exact rfl)
      refine AWP.regionK 7 (by kernel_rfl) (by decide) (by kernel_rfl) ?_
      repeat first | with_reducible refine AWP.ctl (by constructor) ?_ | ((with_reducible (first | refine AWP.region ?_ ?_ | refine AWP.condT ?_ ?_)); exact rfl) | ((with_reducible refine AWP.condF ?_ ?_); exact rfl) | simp only [go_sem, sevalprocAttr, reduceCtorEq, hb, ha8, hw5, htw] | simp (disch := omega) only [wz] | with_reducible_and_instances exact finR | ((with_reducible refine finR' ?_ ?_) <;> rfl) | ((with_reducible refine finD hsc (NRel.of_plain ?_)); exact rfl)
      refine ARet.exq (hW) (by simp only [go_sem, sevalprocAttr, reduceCtorEq]) ?_
      repeat first | with_reducible refine AWP.ctl (by constructor) ?_ | ((with_reducible (first | refine AWP.region ?_ ?_ | refine AWP.condT ?_ ?_)); exact rfl) | ((with_reducible refine AWP.condF ?_ ?_); exact rfl) | simp only [go_sem, sevalprocAttr, reduceCtorEq, hwl, hlm] | simp (disch := omega) only [wz] | with_reducible_and_instances exact finR | ((with_reducible refine finR' ?_ ?_) <;> rfl) | ((with_reducible refine finD hsc (NRel.of_plain ?_)); exact rfl)
      exact ⟨_, _, .refl _ _ _, rfl, hf⟩
  · rw [if_pos he]
    have he' : (e != 0) = true := by simpa using he
    repeat first | with_reducible refine AWP.ctl (by constructor) ?_ | ((with_reducible (first | refine AWP.region ?_ ?_ | refine AWP.condT ?_ ?_)); exact rfl) | ((with_reducible refine AWP.condF ?_ ?_); exact rfl) | simp only [go_sem, sevalprocAttr, reduceCtorEq, hput, hr5, hfl, he'] | simp (disch := omega) only [wz] | with_reducible_and_instances exact finR | ((with_reducible refine finR' ?_ ?_) <;> rfl) | ((with_reducible refine finD hsc (NRel.of_plain ?_)); exact rfl)
    exact ⟨_, _, .refl _ _ _, rfl, fr0 hf1 Frm.app⟩
end Go.Proofs.YthcdjconlfdidaaDoor

