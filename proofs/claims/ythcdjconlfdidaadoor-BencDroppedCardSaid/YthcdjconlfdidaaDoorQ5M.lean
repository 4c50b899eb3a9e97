/-
  A part of the proof of a statement of this seat.
-/
import Derived.Test.YthcdjconlfdidaaDoorEYM
import Derived.Test.YthcdjconlfdidaaDoorEHM
import Derived.Test.YthcdjconlfdidaaDoorCEM
set_option linter.unusedVariables false
set_option linter.unusedSimpArgs false
set_option maxRecDepth 20000
set_option maxHeartbeats 4000000
namespace Go.Proofs.YthcdjconlfdidaaDoor
open Go Go.Aw Go.Proofs
theorem leave_marks {P : Program} {rs : List ResultVar} {n0 : Nat} {K : ARes → AHeap → Prop} {env : List (Nat × Value)} {mo : AMode} {H : AHeap} : ∀ m : Nat, LeaveW P rs n0 K env (List.replicate m .mark) mo H = LeaveW P rs n0 K env [] mo H
 | 0 => rfl
 | m + 1 => by rw [List.replicate_succ, LeaveW]; exact leave_marks m
structure PJp where
 j : Nat
 w : BV
 csw : List Value
 a : Nat
 Hc : AHeap
def PJI (H : AHeap) (m : Nat) (path : List Tx) (R : Int × Int × Int) (p : PJp) : Prop :=
 p.j ≤ path.length ∧ p.Hc[m]? = some (plO p.csw) ∧ p.Hc[m + 1]? = some (inO p.a) ∧ Frm [] H p.Hc ∧ RdV p.Hc p.w p.csw ∧ OkV p.w ∧ p.a + p.w.write.length ≤ 65536 ∧ placeR p.w p.a (path.drop p.j) = R
theorem place (s : List UInt8) (path : List Tx) (hp : ∀ t ∈ path, t.length ≤ 1099511627776) (hpl : path.length ≤ 1099511627776) (H : AHeap) (hG : GlobB H) (vp : Value) (hP : RdK H 1 vp (keyC path)) :
  AC Tryd.prog 21 [.string (bs s), vp] H (fun r H2 => r = .ret (.tuple ⟨[.int .i64 (placeT s path).1, .int .i64 (placeT s path).2.1, .int .i64 (placeT s path).2.2]⟩) ∧ Frm [] H H2) := by
 have hkl : (keyC path).length = path.length := by unfold keyC; simp
 have hX := parse s H
 have q1 : ∀ H' K, lenW Tryd.prog 24 vp H' K = K (.int .i64 (path.length : Nat)) H' := fun H' K => by rw [hP.lenT (by simp only [go_sem, sevalprocAttr, reduceCtorEq]), hkl]
 unfold placeT
 have hpo := @parse_ok s
 generalize hPR : parseR s = PR at *
 obtain ⟨v, e⟩ := PR
 dsimp only at hpo ⊢
 refine AC.enter Tryd.func21 rfl (by kernel_rfl) 59 rfl [.tmp 4, .tmp 5, .tmp 6] rfl (by simp) fun hsc B => ?_
 repeat first | with_reducible refine AWP.ctl (by constructor) ?_ | ((with_reducible (first | refine AWP.region ?_ ?_ | refine AWP.condT ?_ ?_)); exact rfl) | ((with_reducible refine AWP.condF ?_ ?_); exact rfl) | simp only [go_sem, sevalprocAttr, reduceCtorEq, exists_eq_left] | simp (disch := omega) only [wz]
 refine AC.mono hX ?_
 rintro res H1 ⟨cs, rfl, hf1, hR1⟩
 dsimp only at hR1 ⊢
 have hr5 := hR1.len
 have hfl := RdV_flat hR1
 have hput := box_put0 cs hr5
 have hl1 := hf1.1
 by_cases he : e = 0
 ·subst he
  obtain ⟨hok, hval, hsw⟩ := hpo rfl
  rw [if_neg (by decide)]
  have hl0 := hok.len
  repeat first | with_reducible refine AWP.ctl (by constructor) ?_ | ((with_reducible (first | refine AWP.region ?_ ?_ | refine AWP.condT ?_ ?_)); exact rfl) | ((with_reducible refine AWP.condF ?_ ?_); exact rfl) | simp only [go_sem, sevalprocAttr, reduceCtorEq, hput, hr5, hfl, q1] | simp (disch := omega) only [wz]
  refine AWP.loopP (fun p : PJp => ⟨[(4, .int .i64 0), (5, .int .i64 0), (6, .int .i64 0), (7, .pointer (some ⟨H1.length, 0, none⟩)), (8, .pointer (some ⟨H1.length + 1, 0, none⟩)), (23, vp), (24, .int .i64 (path.length : Nat)), (25, .int .i64 (p.j : Nat))], List.replicate p.j .mark, p.Hc⟩)
   (PJI H H1.length path (placeR v 0 path)) (fun p => path.length - p.j) ⟨0, v, cs, 0, H1 ++ [plO cs, inO 0]⟩ ?_ ⟨Nat.zero_le _, hget0 rfl, hgetk rfl, fr0 hf1 Frm.app, hR1.kept (Kept.more _ _), hok, by dsimp only; omega, rfl⟩ ?_
  ·exact Weak.env (by simp [envIn, lk_cons, wth_some])
  rintro ⟨j, w, csw, a, Hc⟩ ⟨hj, hb, ha8, hf, hRw, hokw, ha, hgo⟩
  dsimp only at hj hb ha8 hf hRw hokw ha hgo ⊢
  rw [← hgo]
  unfold plO at hb
  unfold inO at ha8
  have hkc : Kept H Hc := Kept.frm hf (fun x hx => by cases hx)
  have hfw := RdV_flat hRw
  have hw5 := hRw.len
  have htw : List.take 5 csw = csw := List.take_of_length_le (by omega)
  have hbl := lt_of_get hb
  have hal := lt_of_get ha8
  have hlm := @leave_marks
  by_cases hlt : j < path.length
  ·have hlt' : (j : Int) < (path.length : Int) := by omega
   obtain ⟨bi, off, cap, cs', k', rfl, hcap, hbi, hown, hesz, hle, htk⟩ := (hP.kept hkc).at_ (keyC_at hlt)
   have hlt2 : (j : Int) < ((keyC path).length : Int) := by omega
   have hdrop : path.drop j = path[j] :: path.drop (j + 1) := List.drop_eq_getElem_cons hlt
   have hpj := hp path[j] (List.getElem_mem hlt)
   have hwj : IntKind.i64.wrap ((j : Int) + 1) = ((j + 1 : Nat) : Int) := by rw [wi64 (by omega)]; omega
   rw [hdrop, placeR]
   generalize path[j] = t at *
   have hat2 : cs'[off + j]? = some (.string (bs t)) := by
    have h1 := congrArg (fun l => l[0]?) htk
    simpa using h1
   obtain ⟨k, n, sx, kids, keys⟩ := w
   have hkd := hokw.kids_le
   have hky := hokw.keys_le
   dsimp only [BV.kids, BV.keys] at hkd hky
   have hI := AC.forget rfl (index k n sx kids keys (by omega) (by omega) (fun h => (form_asc hokw.form h).1) t hpj Hc (hG.frm hf) csw hRw)
   repeat first | with_reducible refine AWP.ctl (by constructor) ?_ | ((with_reducible (first | refine AWP.region ?_ ?_ | refine AWP.condT ?_ ?_)); exact rfl) | ((with_reducible refine AWP.condF ?_ ?_); exact rfl) | with_reducible refine hI.use ?_ | simp only [go_sem, sevalprocAttr, reduceCtorEq, hlt', hlt2, hbi, hat2, hb, hw5, htw] | simp (disch := omega) only [wz]
   by_cases hse : (stepR (.mk k n sx kids keys) t).2 = 0
   ·rw [if_pos hse, hse]
    obtain ⟨i, hi, hie⟩ := stepR_ok hokw.form hse
    rw [hie, Int.toNat_natCast]
    have hkind := stepR_kind hse
    dsimp only [BV.kids, BV.kind] at hi hkind ⊢
    rw [getD_mem hi]
    obtain ⟨hoki, hleni⟩ := hokw.kid hkind hi
    dsimp only [BV.kids] at hoki hleni
    have hWi := within csw (a : Nat) hw5 hfw (Hc ++ [inO i])
    unfold inO at hWi
    have g1 : ∀ X : AHeap, (Hc ++ X)[H1.length]? = Hc[H1.length]? := fun X => hgetl hbl
    have g2 : ∀ X : AHeap, (Hc ++ X)[H1.length + 1]? = Hc[H1.length + 1]? := fun X => hgetl hal
    have hsA : ∀ (o : AObj) (Y : AHeap), (Hc ++ Y).set (H1.length + 1) o = Hc.set (H1.length + 1) o ++ Y := fun o Y => hsetl hal
    repeat first | with_reducible refine AWP.ctl (by constructor) ?_ | ((with_reducible (first | refine AWP.region ?_ ?_ | refine AWP.condT ?_ ?_)); exact rfl) | ((with_reducible refine AWP.condF ?_ ?_); exact rfl) | with_reducible refine hWi.use ?_ | simp only [go_sem, sevalprocAttr, reduceCtorEq, g1, g2, hb, ha8, hw5, htw] | simp (disch := omega) only [wz]
    refine AWP.rangeL Tryd.func69 rfl (by simp; omega) (by simp only [go_sem, sevalprocAttr, reduceCtorEq]; rfl) (by kernel_rfl) (by kernel_rfl) fun L hL => ?_
    simp only [List.nil_append, List.cons_append, List.append_assoc, List.length_append, List.length_cons, List.length_nil, Nat.zero_add, Nat.add_assoc, Nat.reduceAdd]
    refine AC.mono (within1 (.mk k n sx kids keys) hokw hkind csw a ha (Hc.length + 2) (Hc.length + 1) (Hc.length + 3) (by omega) (Hc ++ (inO i :: plO csw :: inO a :: .loop L :: []))
     (fun q H' => q ≤ i ∧ ∃ R z, H' = Hc ++ (inO i :: plO csw :: inO z :: .loop L :: R))
     (fun H' => ∃ R z, H' = Hc.set (H1.length + 1) (inO (a + (preW (.mk k n sx kids keys) i + kW (.mk k n sx kids keys) i) : Nat)) ++ (inO i :: plO csw :: inO z :: .loop { L with state := .done, pending := some (.exit 2) } :: R))
     ⟨Nat.zero_le _, [], a, rfl⟩ (hgetk rfl) ?_ ?_ ?_ ?_ ?_ ?_) ?_
    ·rintro q H' ⟨_, R, z, rfl⟩
     exact ⟨hgetk rfl, hRw.kept (Kept.more _ _), (hG.frm hf).tab.more _⟩
    ·rintro q H' ⟨_, R, z, rfl⟩
     simp
    ·rintro q H' ⟨_, R, z, rfl⟩
     have e : Hc ++ (inO i :: plO csw :: inO z :: .loop L :: R) = ((Hc ++ (inO i :: plO csw :: inO a :: .loop L :: [])).set (Hc.length + 2) (inO z)) ++ R := by rw [hsetk rfl]; simp
     rw [e]
     exact (Kept.set (hgetk rfl) rfl _).trans (Kept.more _ _)
    ·rintro q H' X ⟨h, R, z, rfl⟩
     exact ⟨h, R ++ X, z, by simp⟩
    ·rintro q H' z' ⟨h, R, z, rfl⟩
     refine ⟨h, R, z', ?_⟩
     rw [hsetk rfl]; rfl
    ·rintro q H' hq ⟨hqi, R, z, rfl⟩ hat
     have hz : z = ((a + (preW (.mk k n sx kids keys) q + kW (.mk k n sx kids keys) q) : Nat) : Int) := by
      rw [hgetk rfl] at hat
      unfold inO at hat
      simpa using hat
     refine AY.of (L := L) (by simp only [go_sem, sevalprocAttr, reduceCtorEq]) (by rw [hL]) (by rw [hL]; rfl) (by rw [hL]; simp) fun hsc2 lr B2 => ?_
     have e0 := congrArg ALoop.state hL
     have e1 := congrArg ALoop.n hL
     have e2 := congrArg ALoop.params hL
     have e3 := congrArg ALoop.assign hL
     have e4 := congrArg ALoop.body hL
     have e5 := congrArg ALoop.env hL
     have eL : (⟨.ready, none, L.env, L.n, L.params, L.assign, L.body⟩ : ALoop) = L := by rw [hL]
     simp only at e0 e1 e2 e3 e4 e5
     rw [e3, e4]
     simp only [e2, e5, zipEnv]
     rw [e1]
     unfold inO plO
     by_cases hqe : q = i
     ·have hqe' : ((q : Int) == (i : Int)) = true := by rw [hqe]; simp
      repeat first | with_reducible refine AWP.ctl (by constructor) ?_ | ((with_reducible (first | refine AWP.region ?_ ?_ | refine AWP.condT ?_ ?_)); exact rfl) | ((with_reducible refine AWP.condF ?_ ?_); exact rfl) | simp only [go_sem, sevalprocAttr, reduceCtorEq, e0, hqe', g2, ha8, hal, hsA] | simp (disch := omega) only [wz]
      refine ⟨_, .refl _ _ _, false, rfl, (fun e => by cases e), fun _ => ⟨R, z, ?_⟩⟩
      rw [hqe, hL]
     ·have hqe' : ((q : Int) == (i : Int)) = false := beq_eq_false_iff_ne.2 (by omega)
      repeat first | with_reducible refine AWP.ctl (by constructor) ?_ | ((with_reducible (first | refine AWP.region ?_ ?_ | refine AWP.condT ?_ ?_)); exact rfl) | ((with_reducible refine AWP.condF ?_ ?_); exact rfl) | simp only [go_sem, sevalprocAttr, reduceCtorEq, e0, hqe'] | simp (disch := omega) only [wz]
      refine ⟨_, .refl _ _ _, true, rfl, fun _ => ⟨by omega, ⟨R, z, by rw [eL]⟩, ?_, ?_⟩, fun e => by cases e⟩
      ·rw [hgetk rfl, hz]; rfl
      ·intro j' o hj' ho
       rw [eL]; exact ho
    ·rintro r H' ⟨rfl, hD⟩
     rcases hD with ⟨hbad, _⟩ | ⟨R, z, rfl⟩
     ·dsimp only [BV.kids] at hbad; omega
     subst hL
     have hRw0 := hRw
     unfold RdV at hRw0
     obtain ⟨vk, vs, css, rfl, hk1, hkL, hk3⟩ := hRw0
     have hcl := hkL.len
     obtain ⟨bk, offk, capk, csk, kk, rfl, hcapk, hbk, hownk, heszk, hrow⟩ := RdK.row hk1 (by omega)
     obtain ⟨ri, hri, hRi⟩ := hkL.at_ (List.getElem?_eq_getElem hi)
     obtain ⟨hro, hrt⟩ := hrow i ri hri
     have hi2 : (i : Int) < (css.length : Int) := by omega
     have hri5 := hRi.len
     have hfli := RdV_flat hRi
     have hputi : putCells [.int .i64 k, .int .i64 n, .string (bs sx), .slice (some ⟨bk, offk, none⟩) css.length capk, vs] 0 ri = ri := by
      match ri, hri5 with
      | [_, _, _, _, _], _ => rfl
     have hbkl := lt_of_get hbk
     have hbne : H1.length + 1 ≠ bk := fun e => by
      rw [← e, ha8] at hbk
      cases hbk
      cases hownk
     have f1 : ∀ (o : AObj) (Y : AHeap), (Hc.set (H1.length + 1) o ++ Y)[bk]? = some (.cells csk kk) := fun o Y => by
      rw [hgetl (by rw [List.length_set]; exact hbkl), List.getElem?_set_ne hbne]; exact hbk
     have f2 : ∀ (o : AObj) (Y : AHeap), (Hc.set (H1.length + 1) o ++ Y)[H1.length]? = Hc[H1.length]? := fun o Y => by
      rw [hgetl (by rw [List.length_set]; exact hbl), List.getElem?_set_ne (by omega)]
     unfold inO plO
     repeat first | with_reducible refine AWP.ctl (by constructor) ?_ | ((with_reducible (first | refine AWP.region ?_ ?_ | refine AWP.condT ?_ ?_)); exact rfl) | ((with_reducible refine AWP.condF ?_ ?_); exact rfl) | simp only [go_sem, sevalprocAttr, reduceCtorEq, f1, f2, hb, hi2, hro, hrt, hri5, hfli, hputi, hwj] | simp (disch := omega) only [wz]
     refine ⟨⟨j + 1, kids[i], ri, a + (preW (.mk k n sx kids keys) i + kW (.mk k n sx kids keys) i), _⟩, Weak.env (by simp [envIn, lk_cons, wth_some]), ⟨by dsimp only; omega, ?_, ?_, ?_, ?_, hoki, by dsimp only; omega, rfl⟩, by dsimp only; omega⟩
     ·exact List.getElem?_set_self (by simp; omega)
     ·dsimp only
      rw [List.getElem?_set_ne (by omega), hgetl (by rw [List.length_set]; exact hal), List.getElem?_set_self hal]
      rfl
     ·exact Frm.set (fr0 (Frm.set hf (.inr (by omega))) Frm.app) (.inr (by omega))
     ·exact hRi.kept (((Kept.set ha8 rfl _).trans (Kept.more _ _)).trans (Kept.set (by rw [f2]; exact hb) rfl _))
   ·rw [if_neg hse]
    have he' : ((stepR (.mk k n sx kids keys) t).2 != 0) = true := by simpa using hse
    repeat first | with_reducible refine AWP.ctl (by constructor) ?_ | ((with_reducible (first | refine AWP.region ?_ ?_ | refine AWP.condT ?_ ?_)); exact rfl) | ((with_reducible refine AWP.condF ?_ ?_); exact rfl) | simp only [go_sem, sevalprocAttr, reduceCtorEq, he', hlm] | simp (disch := omega) only [wz]
    exact ⟨_, _, .refl _ _ _, rfl, fr0 hf Frm.app⟩
  ·have hlt' : ¬ (j : Int) < (path.length : Int) := by omega
   have hdrop : path.drop j = [] := List.drop_eq_nil_of_le (by omega)
   rw [hdrop, placeR]
   have hW := wri_ar hokw hRw (hG.frm hf).tab
   have hwl : IntKind.i64.wrap ((a : Int) + (w.write.length : Nat)) = ((a + w.write.length : Nat) : Int) := by rw [wi64 (by omega)]; omega
   repeat first | with_reducible refine AWP.ctl (by constructor) ?_ | ((with_reducible (first | refine AWP.region ?_ ?_ | refine AWP.condT ?_ ?_)); exact rfl) | ((with_reducible refine AWP.condF ?_ ?_); exact rfl) | simp only [go_sem, sevalprocAttr, reduceCtorEq, hlt'] | simp (disch := omega) only [wz]
   refine AWP.regionK 7 (by kernel_rfl) (by decide) (by kernel_rfl) ?_
   repeat first | with_reducible refine AWP.ctl (by constructor) ?_ | ((with_reducible (first | refine AWP.region ?_ ?_ | refine AWP.condT ?_ ?_)); exact rfl) | ((with_reducible refine AWP.condF ?_ ?_); exact rfl) | simp only [go_sem, sevalprocAttr, reduceCtorEq, hb, ha8, hw5, htw] | simp (disch := omega) only [wz]
   refine ARet.exq (hW) (by simp only [go_sem, sevalprocAttr, reduceCtorEq]) ?_
   repeat first | with_reducible refine AWP.ctl (by constructor) ?_ | ((with_reducible (first | refine AWP.region ?_ ?_ | refine AWP.condT ?_ ?_)); exact rfl) | ((with_reducible refine AWP.condF ?_ ?_); exact rfl) | simp only [go_sem, sevalprocAttr, reduceCtorEq, hwl, hlm] | simp (disch := omega) only [wz]
   exact ⟨_, _, .refl _ _ _, rfl, hf⟩
 ·rw [if_pos he]
  have he' : (e != 0) = true := by simpa using he
  repeat first | with_reducible refine AWP.ctl (by constructor) ?_ | ((with_reducible (first | refine AWP.region ?_ ?_ | refine AWP.condT ?_ ?_)); exact rfl) | ((with_reducible refine AWP.condF ?_ ?_); exact rfl) | simp only [go_sem, sevalprocAttr, reduceCtorEq, hput, hr5, hfl, he'] | simp (disch := omega) only [wz]
  exact ⟨_, _, .refl _ _ _, rfl, fr0 hf1 Frm.app⟩
end Go.Proofs.YthcdjconlfdidaaDoor


set_option linter.unusedVariables false
set_option linter.unusedSimpArgs false
set_option maxRecDepth 20000
set_option maxHeartbeats 4000000
namespace Go.Proofs.YthcdjconlfdidaaDoor
open Go Go.Aw Go.Proofs
/-- Whether a path is short. -/
def shortB (path : List Tx) : Bool := path.all (fun t => decide (t.length ≤ 300)) && decide (path.length ≤ 20)
theorem short (path : List Tx) (hpl : path.length < 140737488355328) (H : AHeap) (vp : Value) (hP : RdK H 1 vp (keyC path)) : ARet Tryd.prog 20 [vp] H (.bool (shortB path)) H := by
 have hkl : (keyC path).length = path.length := by unfold keyC; simp
 have q1 : ∀ H' K, lenW Tryd.prog 24 vp H' K = K (.int .i64 (path.length : Nat)) H' := fun H' K => by rw [hP.lenT (by simp only [go_sem, sevalprocAttr, reduceCtorEq]), hkl]
 refine AC.enter Tryd.func20 rfl (by kernel_rfl) 18 rfl [.tmp 2] rfl (by simp) fun hsc B => ?_
 repeat first | with_reducible refine AWP.ctl (by constructor) ?_ | ((with_reducible (first | refine AWP.region ?_ ?_ | refine AWP.condT ?_ ?_)); exact rfl) | ((with_reducible refine AWP.condF ?_ ?_); exact rfl) | simp only [go_sem, sevalprocAttr, reduceCtorEq, q1] | simp (disch := omega) only [wz] | with_reducible_and_instances exact finR | ((with_reducible refine finR' ?_ ?_) <;> rfl) | ((with_reducible refine finD hsc (NRel.of_plain ?_)); exact rfl)
 refine AWP.loopP (fun j : Nat => ⟨[(0, vp), (5, vp), (6, .int .i64 (path.length : Nat)), (7, .int .i64 (j : Nat))], [], H⟩)
  (fun j => j ≤ path.length ∧ (path.take j).all (fun t => decide (t.length ≤ 300)) = true) (fun j => path.length - j) 0 ?_ ⟨Nat.zero_le _, rfl⟩ ?_
 ·exact Weak.env (by simp [envIn, lk_cons, wth_some])
 rintro j ⟨hj, hall⟩
 dsimp only at hj hall ⊢
 by_cases hlt : j < path.length
 ·have hlt' : (j : Int) < (path.length : Int) := by omega
  obtain ⟨bi, off, cap, cs', k', rfl, hcap, hbi, hown, hesz, hle, htk⟩ := hP.at_ (keyC_at hlt)
  have hlt2 : (j : Int) < ((keyC path).length : Int) := by omega
  have hwj : IntKind.i64.wrap ((j : Int) + 1) = ((j + 1 : Nat) : Int) := by rw [wi64 (by omega)]; omega
  have hat2 : cs'[off + j]? = some (.string (bs path[j])) := by
   have h1 := congrArg (fun l => l[0]?) htk
   simpa using h1
  by_cases h3 : path[j].length ≤ 300
  ·have h3' : ¬ (path[j].length : Int) > 300 := by omega
   repeat first | with_reducible refine AWP.ctl (by constructor) ?_ | ((with_reducible (first | refine AWP.region ?_ ?_ | refine AWP.condT ?_ ?_)); exact rfl) | ((with_reducible refine AWP.condF ?_ ?_); exact rfl) | simp only [go_sem, sevalprocAttr, reduceCtorEq, hlt', hlt2, hbi, hat2, h3', hwj] | simp (disch := omega) only [wz] | with_reducible_and_instances exact finR | ((with_reducible refine finR' ?_ ?_) <;> rfl) | ((with_reducible refine finD hsc (NRel.of_plain ?_)); exact rfl)
   refine ⟨j + 1, Weak.env (by simp [envIn, lk_cons, wth_some]), by omega, ?_, by omega⟩
   rw [List.take_add_one, List.getElem?_eq_getElem hlt, List.all_append, hall]
   simpa using h3
  ·have h3' : (path[j].length : Int) > 300 := by omega
   have hF : shortB path = false := by
    unfold shortB
    rw [Bool.and_eq_false_iff]
    refine .inl (List.all_eq_false.2 ⟨path[j], List.getElem_mem hlt, by simpa using h3⟩)
   rw [hF]
   repeat first | with_reducible refine AWP.ctl (by constructor) ?_ | ((with_reducible (first | refine AWP.region ?_ ?_ | refine AWP.condT ?_ ?_)); exact rfl) | ((with_reducible refine AWP.condF ?_ ?_); exact rfl) | simp only [go_sem, sevalprocAttr, reduceCtorEq, hlt', hlt2, hbi, hat2, h3', hwj] | simp (disch := omega) only [wz] | with_reducible_and_instances exact finR | ((with_reducible refine finR' ?_ ?_) <;> rfl) | ((with_reducible refine finD hsc (NRel.of_plain ?_)); exact rfl)
 ·have hlt' : ¬ (j : Int) < (path.length : Int) := by omega
  rw [List.take_of_length_le (by omega)] at hall
  have hF : shortB path = decide ((path.length : Int) ≤ 20) := by
   unfold shortB
   rw [hall, Bool.true_and]
   rw [Bool.eq_iff_iff, decide_eq_true_iff, decide_eq_true_iff]
   omega
  rw [hF]
  repeat first | with_reducible refine AWP.ctl (by constructor) ?_ | ((with_reducible (first | refine AWP.region ?_ ?_ | refine AWP.condT ?_ ?_)); exact rfl) | ((with_reducible refine AWP.condF ?_ ?_); exact rfl) | simp only [go_sem, sevalprocAttr, reduceCtorEq, hlt', q1] | simp (disch := omega) only [wz] | with_reducible_and_instances exact finR | ((with_reducible refine finR' ?_ ?_) <;> rfl) | ((with_reducible refine finD hsc (NRel.of_plain ?_)); exact rfl)
theorem depthL_mem : ∀ {l : List BV} {c : BV}, c ∈ l → c.depth ≤ BV.depthL l
 | v :: l, c, h => by
  rw [BV.depthL]
  rcases List.mem_cons.1 h with rfl | h
  ·omega
  ·have := depthL_mem h; omega
theorem OkV.of_valid {v : BV} (h : v.valid = true) (hn : v.nums) : OkV v := by
 unfold BV.valid at h
 simp only [Bool.and_eq_true, decide_eq_true_eq] at h
 exact ⟨h.1.1.1, hn, h.1.1.2, h.2⟩
theorem goR_ok : ∀ (p : List Tx) (v : BV), v.valid = true → v.nums → (goR v p).2 = 0 → (goR v p).1.valid = true ∧ (goR v p).1.nums
 | [], v, h, hn, _ => by rw [goR]; exact ⟨h, hn⟩
 | t :: p, v, h, hn, he => by
  rw [goR] at he ⊢
  have hok := OkV.of_valid h hn
  by_cases hs : (stepR v t).2 = 0
  ·rw [if_pos hs] at he ⊢
   obtain ⟨i, hi, hie⟩ := stepR_ok hok.form hs
   rw [hie, Int.toNat_natCast, getD_mem hi] at he ⊢
   have hk := (hok.kid (stepR_kind hs) hi).1
   refine goR_ok p _ ?_ hk.nums he
   have h2 := h
   unfold BV.valid at h2 ⊢
   simp only [Bool.and_eq_true, decide_eq_true_eq] at h2 ⊢
   refine ⟨⟨⟨hk.form, hk.cnt⟩, ?_⟩, hk.len⟩
   obtain ⟨k, n, s, kids, keys⟩ := v
   have hd := h2.1.2
   rw [BV.depth] at hd
   have := depthL_mem (List.getElem_mem hi)
   show (kids[i]).depth ≤ 12
   have h3 : (kids[i]).depth ≤ BV.depthL kids := this
   omega
  ·rw [if_neg hs] at he
   exact absurd he hs
theorem OkV.fine {v : BV} (h : OkV v) : Fine v := ⟨sz_of_form v h.form (by have := h.len; omega), h.nums, by have := h.len; omega⟩
end Go.Proofs.YthcdjconlfdidaaDoor


set_option linter.unusedVariables false
set_option linter.unusedSimpArgs false
set_option maxRecDepth 20000
set_option maxHeartbeats 8000000
namespace Go.Proofs.YthcdjconlfdidaaDoor
open Go Go.Aw Go.Proofs
end Go.Proofs.YthcdjconlfdidaaDoor


set_option linter.unusedVariables false
set_option linter.unusedSimpArgs false
set_option maxRecDepth 20000
set_option maxHeartbeats 4000000
namespace Go.Proofs.YthcdjconlfdidaaDoor
open Go Go.Aw Go.Proofs
end Go.Proofs.YthcdjconlfdidaaDoor


set_option linter.unusedVariables false
namespace Go.Proofs.YthcdjconlfdidaaDoor
open Go Go.Aw Go.Proofs
mutual
/-- No text and no list is longer than memory. -/
def wideV : BV → Prop
 | .mk k n s kids keys => s.length < 140737488355328 ∧ kids.length < 140737488355328 ∧ keys.length < 140737488355328 ∧ wideL kids
def wideL : List BV → Prop
 | [] => True
 | v :: l => wideV v ∧ wideL l
end
theorem wideL_iff : ∀ {l : List BV}, wideL l ↔ ∀ c ∈ l, wideV c
 | [] => by simp [wideL]
 | v :: l => by simp [wideL, wideL_iff (l := l)]
end Go.Proofs.YthcdjconlfdidaaDoor

