/-
 The walk of Get.
-/
import Derived.Test.YthcdjconlfdidaaDoorE3
import Derived.Test.YthcdjconlfdidaaDoorE2
set_option linter.unusedVariables false
set_option linter.unusedSimpArgs false
set_option maxRecDepth 20000
set_option maxHeartbeats 4000000
namespace Go.Proofs.YthcdjconlfdidaaDoor
open Go Go.Aw Go.Proofs
def goR : BV → List Tx → BV × Int
 | v, [] => (v, 0)
 | v, t :: p => if (stepR v t).2 = 0 then goR (v.kids.getD (stepR v t).1.toNat .zero) p else (.zero, (stepR v t).2)
def getR (v : BV) (path : List Tx) : BV × Int := if v.valid = true then goR v path else (.zero, 1)
theorem form_asc {n : Int} {s : List UInt8} {kids : List BV} {keys : List Tx} {k : Int} (h : (BV.mk k n s kids keys).form = true) (hk : k = 4) : BV.asc keys = true ∧ keys.length = kids.length := by
 subst hk
 rw [form_shape, Bool.and_eq_true] at h
 have h1 := h.1
 unfold shapeB at h1
 dsimp only at h1
 rw [if_neg (by decide), if_neg (by decide), if_neg (by decide), if_pos rfl] at h1
 unfold dictB at h1
 simp only [Bool.and_eq_true, beq_iff_eq] at h1
 refine ⟨?_, h1.1.1.2⟩
 rw [asc_iff, h1.1.2, h1.2]
 simp
theorem stepR_ok {v : BV} {t : Tx} (hf : v.form = true) (h : (stepR v t).2 = 0) : ∃ i, i < v.kids.length ∧ (stepR v t).1 = (i : Int) := by
 obtain ⟨k, n, s, kids, keys⟩ := v
 unfold stepR at h ⊢
 by_cases h4 : k = 4
 ·have h4' : (BV.mk k n s kids keys).kind = 4 := h4
  rw [if_pos h4'] at h ⊢
  cases hk : kAt (BV.mk k n s kids keys).keys t with
  | none => rw [hk] at h; cases h
  | some i =>
   unfold kAt at hk
   rw [List.findIdx?_eq_some_iff_getElem] at hk
   obtain ⟨hi, _⟩ := hk
   have := (form_asc hf h4).2
   exact ⟨i, by show i < kids.length; rw [← this]; exact hi, rfl⟩
 ·have h4' : ¬ (BV.mk k n s kids keys).kind = 4 := h4
  rw [if_neg h4'] at h ⊢
  by_cases h3 : k = 3
  ·have h3' : (BV.mk k n s kids keys).kind = 3 := h3
   rw [if_pos h3'] at h ⊢
   cases hk : nAt (BV.mk k n s kids keys).kids.length t with
   | none => rw [hk] at h; cases h
   | some i =>
    unfold nAt at hk
    exact ⟨i, List.mem_range.1 (List.mem_of_find?_eq_some hk), rfl⟩
  ·have h3' : ¬ (BV.mk k n s kids keys).kind = 3 := h3
   rw [if_neg h3'] at h
   cases h
structure Good (v : BV) : Prop where
 sz : szV v
 form : v.form = true
theorem Good.kid {v c : BV} (h : Good v) (hc : c ∈ v.kids) : Good c := by
 obtain ⟨k, n, s, kids, keys⟩ := v
 obtain ⟨h1, h2⟩ := h
 unfold szV at h1
 rw [form_shape, Bool.and_eq_true] at h2
 exact ⟨szL_iff.1 h1.2.2 c hc, BV.formL_iff.1 h2.2 c hc⟩
structure GLp where
 j : Nat
 w : BV
 csw : List Value
 Hc : AHeap
def GLI (H : AHeap) (path : List Tx) (R : BV × Int) (p : GLp) : Prop :=
 p.j ≤ path.length ∧ p.Hc[H.length]? = some (.cells p.csw ⟨26, 0, true, 0, none⟩) ∧ p.Hc[H.length + 1]? = some (.cells [.int .i64 0, .int .i64 0, .string (bs []), .slice none 0 0, .slice none 0 0] ⟨26, 0, true, 0, none⟩) ∧
  Frm [] H p.Hc ∧ RdV p.Hc p.w p.csw ∧ Good p.w ∧ goR p.w (path.drop p.j) = R
theorem getW (v : BV) (path : List Tx) (hv : Fine v) (hp : ∀ t ∈ path, t.length ≤ 1099511627776) (hpl : path.length ≤ 1099511627776) (H : AHeap) (hG : GlobB H) (cs : List Value) (hR : RdV H v cs) (vp : Value) (hP : RdK H 1 vp (keyC path)) :
  AC Tryd.prog 23 [.agg ⟨cs⟩, vp] H (ParseP H (getR v path)) := by
 have hfl := RdV_flat hR
 have hr5 := hR.len
 have htk5 : List.take 5 cs = cs := List.take_of_length_le (by omega)
 have hkl : (keyC path).length = path.length := by unfold keyC; simp
 obtain ⟨H1, hH1⟩ : ∃ H1 : AHeap, H1 = H ++ [.cells cs ⟨26, 0, true, 0, none⟩, .cells [.int .i64 0, .int .i64 0, .string (bs []), .slice none 0 0, .slice none 0 0] ⟨26, 0, true, 0, none⟩] := ⟨_, rfl⟩
 have hb0 : H1[H.length]? = some (.cells cs ⟨26, 0, true, 0, none⟩) := by rw [hH1, hget0 rfl]; rfl
 have hb1 : H1[H.length + 1]? = some (.cells [.int .i64 0, .int .i64 0, .string (bs []), .slice none 0 0, .slice none 0 0] ⟨26, 0, true, 0, none⟩) := by rw [hH1, hgetk rfl]; rfl
 have hl1 : H1.length = H.length + 2 := by rw [hH1]; simp
 have hf1 : Frm [] H H1 := by rw [hH1]; exact Frm.app
 have hk1 : Kept H H1 := by rw [hH1]; exact .more _ _
 have hG1 : GlobB H1 := by rw [hH1]; exact hG.more _
 have hV := valid_ v hv H1 cs (hR.kept hk1) hG1.tab
 have hzl : ∀ cs' : List Value, cs'.length = 5 → putCells [.int .i64 0, .int .i64 0, .string (bs []), .slice none 0 0, .slice none 0 0] 0 cs' = cs' := fun cs' h => by
  match cs', h with
  | [_, _, _, _, _], _ => rfl
 have q1 : ∀ H' K, lenW Tryd.prog 24 vp H' K = K (.int .i64 (path.length : Nat)) H' := fun H' K => by rw [hP.lenT (by simp only [go_sem, sevalprocAttr, reduceCtorEq]), hkl]
 unfold getR
 refine AC.enter Tryd.func23 rfl (by kernel_rfl) 38 rfl [.cell 4 26, .tmp 5] rfl (by simp) fun hsc B => ?_
 repeat first | with_reducible refine AWP.ctl (by constructor) ?_ | ((with_reducible (first | refine AWP.region ?_ ?_ | refine AWP.condT ?_ ?_)); exact rfl) | ((with_reducible refine AWP.condF ?_ ?_); exact rfl) | simp only [go_sem, sevalprocAttr, reduceCtorEq, hfl, hr5] | simp (disch := omega) only [wz]
 rw [← hH1]
 repeat first | with_reducible refine AWP.ctl (by constructor) ?_ | ((with_reducible (first | refine AWP.region ?_ ?_ | refine AWP.condT ?_ ?_)); exact rfl) | ((with_reducible refine AWP.condF ?_ ?_); exact rfl) | simp only [go_sem, sevalprocAttr, reduceCtorEq, hb0, htk5, hr5] | simp (disch := omega) only [wz]
 refine AC.mono hV ?_
 rintro res H2 ⟨rfl, hf2⟩
 have hb02 := hf2.get hb0 (by simp)
 have hb12 := hf2.get hb1 (by simp)
 have hf12 : Frm [] H H2 := hf1.trans hf2 (fun x hx => by cases hx)
 have hl2 := hf2.1
 have hbl2 := lt_of_get hb12
 cases hval : v.valid with
 | false =>
  rw [if_neg (by decide)]
  have g2 : ∀ o : AObj, (H2.set (H.length + 1) o)[H.length + 1]? = some o := fun o => List.getElem?_set_self hbl2
  repeat first | with_reducible refine AWP.ctl (by constructor) ?_ | ((with_reducible (first | refine AWP.region ?_ ?_ | refine AWP.condT ?_ ?_)); exact rfl) | ((with_reducible refine AWP.condF ?_ ?_); exact rfl) | simp only [go_sem, sevalprocAttr, reduceCtorEq, hb12, hbl2, g2, putCells, List.set_cons_succ, List.set_cons_zero] | simp (disch := omega) only [wz]
  exact ⟨_, _, .refl _ _ _, _, rfl, Frm.set hf12 (.inr (by omega)), RdV_zero _⟩
 | true =>
  rw [if_pos rfl]
  have hform : v.form = true := by
   unfold BV.valid at hval
   simp only [Bool.and_eq_true] at hval
   exact hval.1.1.1
  repeat first | with_reducible refine AWP.ctl (by constructor) ?_ | ((with_reducible (first | refine AWP.region ?_ ?_ | refine AWP.condT ?_ ?_)); exact rfl) | ((with_reducible refine AWP.condF ?_ ?_); exact rfl) | simp only [go_sem, sevalprocAttr, reduceCtorEq, q1] | simp (disch := omega) only [wz]
  refine AWP.loopP (fun p : GLp => ⟨[(2, .pointer (some ⟨H.length, 0, none⟩)), (4, .pointer (some ⟨H.length + 1, 0, none⟩)), (14, vp), (15, .int .i64 (path.length : Nat)), (16, .int .i64 (p.j : Nat))], [], p.Hc⟩)
   (GLI H path (goR v path)) (fun p => path.length - p.j) ⟨0, v, cs, H2⟩ ?_ ⟨Nat.zero_le _, hb02, hb12, hf12, (hR.kept hk1).kept (Kept.frm hf2 (fun x hx => by cases hx)), ⟨hv.sz, hform⟩, rfl⟩ ?_
  ·exact Weak.env (by simp [envIn, lk_cons, wth_some])
  rintro ⟨j, w, csw, Hc⟩ ⟨hj, hb, hr, hf, hRw, hgood, hgo⟩
  dsimp only at hj hb hr hf hRw hgood hgo ⊢
  rw [← hgo]
  have hkc : Kept H Hc := Kept.frm hf (fun x hx => by cases hx)
  have hfw := RdV_flat hRw
  have hw5 := hRw.len
  have htw : List.take 5 csw = csw := List.take_of_length_le (by omega)
  have hbl := lt_of_get hb
  have hrl := lt_of_get hr
  have g2 : ∀ o : AObj, (Hc.set (H.length + 1) o)[H.length + 1]? = some o := fun o => List.getElem?_set_self hrl
  by_cases hlt : j < path.length
  ·have hlt' : (j : Int) < (path.length : Int) := by omega
   obtain ⟨bi, off, cap, cs', k', rfl, hcap, hbi, hown, hesz, hle, htk⟩ := (hP.kept hkc).at_ (keyC_at hlt)
   have hlt2 : (j : Int) < ((keyC path).length : Int) := by omega
   have hdrop : path.drop j = path[j] :: path.drop (j + 1) := List.drop_eq_getElem_cons hlt
   have hpj := hp path[j] (List.getElem_mem hlt)
   have hwj : IntKind.i64.wrap ((j : Int) + 1) = ((j + 1 : Nat) : Int) := by rw [wi64 (by omega)]; omega
   rw [hdrop]
   generalize path[j] = t at *
   have hat2 : cs'[off + j]? = some (.string (bs t)) := by
    have h1 := congrArg (fun l => l[0]?) htk
    simpa using h1
   obtain ⟨k, n, s, kids, keys⟩ := w
   have hsz := hgood.sz
   unfold szV at hsz
   have hI := index k n s kids keys hsz.1 (by omega) (fun h => (form_asc hgood.form h).1) t hpj Hc (hG.frm hf) csw hRw
   repeat first | with_reducible refine AWP.ctl (by constructor) ?_ | ((with_reducible (first | refine AWP.region ?_ ?_ | refine AWP.condT ?_ ?_)); exact rfl) | ((with_reducible refine AWP.condF ?_ ?_); exact rfl) | simp only [go_sem, sevalprocAttr, reduceCtorEq, hlt', hlt2, hbi, hat2, hb, hw5, htw] | simp (disch := omega) only [wz]
   refine AC.mono hI ?_
   rintro res H5 ⟨rfl, hf5⟩
   have hb5 := hf5.get hb (by simp)
   have hr5' := hf5.get hr (by simp)
   have hl5 := hf5.1
   have hrl5 := lt_of_get hr5'
   have hf05 : Frm [] H H5 := hf.trans hf5 (fun x hx => by cases hx)
   have hk5 : Kept Hc H5 := Kept.frm hf5 (fun x hx => by cases hx)
   by_cases he : (stepR (.mk k n s kids keys) t).2 = 0
   ·obtain ⟨i, hi, hie⟩ := stepR_ok hgood.form he
    have hgr : goR (.mk k n s kids keys) (t :: path.drop (j + 1)) = goR (kids.getD i .zero) (path.drop (j + 1)) := by
     rw [goR, if_pos he, hie]; rfl
    rw [hgr]
    rw [he, hie]
    dsimp only [BV.kids] at hi
    have hgk : kids.getD i .zero = kids[i] := by rw [List.getD_eq_getElem?_getD, List.getElem?_eq_getElem hi]; rfl
    rw [hgk]
    have hRw5 := hRw.kept hk5
    unfold RdV at hRw5
    obtain ⟨vk, vs, css, rfl, h1, hL, h3⟩ := hRw5
    obtain ⟨r6, hr6, hR6⟩ := hL.at_ (List.getElem?_eq_getElem hi)
    obtain ⟨bk, offk, capk, csk, kk, rfl, hcapk, hbk, hownk, heszk, hlek, htkk⟩ := h1.at_ hr6
    have hi2 : (i : Int) < (css.length : Int) := by have := hL.len; omega
    have hr65 := hR6.len
    have hfl6 := RdV_flat hR6
    have hput : putCells [.int .i64 k, .int .i64 n, .string (bs s), .slice (some ⟨bk, offk, none⟩) css.length capk, vs] 0 r6 = r6 := by
     match r6, hr65 with
     | [_, _, _, _, _], _ => rfl
    have hgood2 : Good kids[i] := hgood.kid (List.getElem_mem hi)
    have hbl5 := lt_of_get hb5
    generalize kids[i] = w2 at *
    repeat first | with_reducible refine AWP.ctl (by constructor) ?_ | ((with_reducible (first | refine AWP.region ?_ ?_ | refine AWP.condT ?_ ?_)); exact rfl) | ((with_reducible refine AWP.condF ?_ ?_); exact rfl) | simp only [go_sem, sevalprocAttr, reduceCtorEq, hb5, hi2, hbk, hlek, htkk, hr65, hfl6, hput, hbl5, hwj] | simp (disch := omega) only [wz]
    refine ⟨⟨j + 1, w2, r6, H5.set H.length (.cells r6 ⟨26, 0, true, 0, none⟩)⟩, Weak.env (by simp [envIn, lk_cons, wth_some]), ⟨hlt, ?_, ?_, ?_, ?_, hgood2, rfl⟩, by dsimp only; omega⟩
    ·exact List.getElem?_set_self hbl5
    ·rw [List.getElem?_set_ne (by omega)]; exact hr5'
    ·exact Frm.set hf05 (.inr (Nat.le_refl _))
    ·exact hR6.kept (Kept.set hb5 rfl _)
   ·have hgr : goR (.mk k n s kids keys) (t :: path.drop (j + 1)) = (.zero, (stepR (.mk k n s kids keys) t).2) := by
     rw [goR, if_neg he]
    rw [hgr]
    have g5 : ∀ o : AObj, (H5.set (H.length + 1) o)[H.length + 1]? = some o := fun o => List.getElem?_set_self hrl5
    obtain ⟨e, hee⟩ : ∃ e, e = (stepR (.mk k n s kids keys) t).2 := ⟨_, rfl⟩
    rw [← hee] at he ⊢
    have he' : (e != 0) = true := by simpa using he
    repeat first | with_reducible refine AWP.ctl (by constructor) ?_ | ((with_reducible (first | refine AWP.region ?_ ?_ | refine AWP.condT ?_ ?_)); exact rfl) | ((with_reducible refine AWP.condF ?_ ?_); exact rfl) | simp only [go_sem, sevalprocAttr, reduceCtorEq, he', Bool.not_false, Bool.not_true, hr5', hrl5, g5, putCells, List.set_cons_succ, List.set_cons_zero] | simp (disch := omega) only [wz]
    exact ⟨_, _, .refl _ _ _, _, rfl, Frm.set hf05 (.inr (by omega)), RdV_zero _⟩
  ·have hlt' : ¬ (j : Int) < (path.length : Int) := by omega
   have hdrop : path.drop j = [] := List.drop_eq_nil_of_le (by omega)
   rw [hdrop]
   have hgr : goR w [] = (w, 0) := by rw [goR]
   rw [hgr]
   have hC := copied w hgood.sz Hc csw hRw
   repeat first | with_reducible refine AWP.ctl (by constructor) ?_ | ((with_reducible (first | refine AWP.region ?_ ?_ | refine AWP.condT ?_ ?_)); exact rfl) | ((with_reducible refine AWP.condF ?_ ?_); exact rfl) | simp only [go_sem, sevalprocAttr, reduceCtorEq, hlt', hb, hw5, htw] | simp (disch := omega) only [wz]
   refine AC.mono hC ?_
   rintro res H5 ⟨r6, rfl, hf5, hR6⟩
   have hr5' := hf5.get hr (by simp)
   have hrl5 := lt_of_get hr5'
   have hr65 := hR6.len
   have hfl6 := RdV_flat hR6
   have htk6 : List.take 5 r6 = r6 := List.take_of_length_le (by omega)
   have hput := hzl r6 hr65
   have g5 : ∀ o : AObj, (H5.set (H.length + 1) o)[H.length + 1]? = some o := fun o => List.getElem?_set_self hrl5
   have hl5 := hf5.1
   repeat first | with_reducible refine AWP.ctl (by constructor) ?_ | ((with_reducible (first | refine AWP.region ?_ ?_ | refine AWP.condT ?_ ?_)); exact rfl) | ((with_reducible refine AWP.condF ?_ ?_); exact rfl) | simp only [go_sem, sevalprocAttr, reduceCtorEq, hr5', hrl5, hr65, hfl6, hput, g5, htk6] | simp (disch := omega) only [wz]
   exact ⟨_, _, .refl _ _ _, _, rfl, Frm.set (hf.trans hf5 (fun x hx => by cases hx)) (.inr (by omega)), hR6.kept (Kept.set hr5' rfl _)⟩
end Go.Proofs.YthcdjconlfdidaaDoor

