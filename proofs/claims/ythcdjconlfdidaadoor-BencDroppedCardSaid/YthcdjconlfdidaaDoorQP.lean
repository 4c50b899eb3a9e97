/-
 The law of BencDropped: Drop of a key that Set added is the value before; other keys stay.
-/
import Derived.Test.YthcdjconlfdidaaDoorQNM
import Derived.Test.YthcdjconlfdidaaDoorEG
set_option linter.unusedVariables false
set_option linter.unusedSimpArgs false
set_option maxRecDepth 20000
set_option maxHeartbeats 4000000
namespace Go.Proofs.YthcdjconlfdidaaDoor
open Go Go.Aw Go.Proofs
/-- The law's own variables behind its guard. -/
def DJ (ok : Prop) (H : AHeap) (vp : Value) (key : Tx) (H1 : AHeap) (st : ASt) : Prop :=
 ok ∧ st = ⟨[(1, vp), (2, .string (bs key)), (4, .pointer (some ⟨H.length, 0, none⟩)), (7, .pointer (some ⟨H.length + 1, 0, none⟩))], [], H1⟩
/-- Behind the longer path. -/
def DK (H : AHeap) (vp : Value) (key : Tx) (all : List Tx) (dq : Nat) (H2 : AHeap) (st : ASt) : Prop :=
 ∃ (va : Value) (H3 : AHeap), Frm [] H2 H3 ∧ RdK H3 1 va (keyC all) ∧ flat va = true ∧
  st = ⟨[(1, vp), (2, .string (bs key)), (4, .pointer (some ⟨H.length, 0, none⟩)), (7, .pointer (some ⟨H.length + 1, 0, none⟩)), (9, .pointer (some ⟨dq, 0, none⟩)), (11, va)], [], H3⟩
/-- Behind the reading of another key. -/
def DZ (l : List (Nat × Value)) (w : BV) (Hc : AHeap) (st : ASt) : Prop :=
 ∃ (q : Nat) (cz : List Value) (He : AHeap), Frm [] Hc He ∧ He[q]? = some (.cells cz ⟨26, 0, true, 0, none⟩) ∧ RdV He w cz ∧ st = ⟨(18, .pointer (some ⟨q, 0, none⟩)) :: (19, .int .i64 0) :: l, [], He⟩
theorem frozen_rd {H : AHeap} {q n : Nat} {p : List Tx} {z : Nat} (hn : n = p.length) (h : H[q]? = some (.cells (strsC p) ⟨9, z, true, 0, none⟩)) (hz : z = 1 ∨ z = 0) : RdK (H.set q (.cells (strsC p) ⟨9, z, false, 0, none⟩)) 1 (.slice (some ⟨q, 0, none⟩) n n) (keyC p) := by
 subst hn
 refine .inr ⟨q, 0, p.length, strsC p, ⟨9, z, false, 0, none⟩, by rw [keyC_len], by rw [keyC_len]; exact Nat.le_refl _, List.getElem?_set_self (lt_of_get h), rfl, hz, by rw [keyC_len, strsC_len]; omega, fun j r hj => ?_⟩
 have h1 : ∀ r ∈ keyC p, r.length = 1 := fun r hr => by
  unfold keyC at hr
  obtain ⟨x, _, rfl⟩ := List.mem_map.1 hr
  rfl
 rw [Nat.zero_add, ← strs_flat]
 exact flat_at h1 hj
theorem lawDropped (v to' : BV) (path : List Tx) (key : Tx) (hwv : wideV v) (hwt : wideV to') (nv : v.nums) (nt : to'.nums) (hpl : path.length < 140737488355328) (hkl : key.length < 140737488355328) (H : AHeap) (hG : GlobB H) (cs csx : List Value) (hR : RdV H v cs) (hRx : RdV H to' csx) (vp : Value) (hP : RdK H 1 vp (keyC path)) :
  AC Tryd.prog 7 [.agg ⟨cs⟩, vp, .string (bs key), .agg ⟨csx⟩] H (fun r _ => r = .ret (.bool true)) := by
 have hfl := RdV_flat hR
 have hr5 := hR.len
 have htk5 : List.take 5 cs = cs := List.take_of_length_le (by omega)
 have hflx := RdV_flat hRx
 have hr5x := hRx.len
 have htk5x : List.take 5 csx = csx := List.take_of_length_le (by omega)
 obtain ⟨H1, hH1⟩ : ∃ H1 : AHeap, H1 = H ++ [.cells cs ⟨26, 0, true, 0, none⟩, .cells csx ⟨26, 0, true, 0, none⟩] := ⟨_, rfl⟩
 have hb0 : H1[H.length]? = some (.cells cs ⟨26, 0, true, 0, none⟩) := by rw [hH1, hget0 rfl]; rfl
 have hb1 : H1[H.length + 1]? = some (.cells csx ⟨26, 0, true, 0, none⟩) := by rw [hH1, hgetk rfl]; rfl
 have hl1 : H1.length = H.length + 2 := by rw [hH1]; simp
 have hf1 : Frm [] H H1 := by rw [hH1]; exact Frm.app
 have hk1 : Kept H H1 := by rw [hH1]; exact .more _ _
 have hG1 : GlobB H1 := by rw [hH1]; exact hG.more _
 have hAw : ∀ H2, Frm [] H1 H2 → ARet Tryd.prog 8 [] H2 (.bool true) H2 := fun H2 h => AC.forget rfl (awake H2 (hG1.frm h))
 have hA := hAw H1 (Frm.refl _ _)
 have hLv : ARet Tryd.prog 15 [.agg ⟨cs⟩] H1 (.bool (lightB v)) H1 := AC.forget rfl (Light v hwv H1 cs (hR.kept hk1))
 have hLt : ARet Tryd.prog 15 [.agg ⟨csx⟩] H1 (.bool (lightB to')) H1 := AC.forget rfl (Light to' hwt H1 csx (hRx.kept hk1))
 have hS := short path hpl H1 vp (hP.kept hk1)
 refine AC.enter Tryd.func7 rfl (by kernel_rfl) 129 rfl [.tmp 8] rfl (by simp) fun hsc B => ?_
 repeat first | with_reducible refine AWP.seqE (x := .seq (.region 1 _ _) _) (DJ (lightB v = true ∧ lightB to' = true ∧ shortB path = true ∧ key.length ≤ 300) H vp key H1) ?_ ?_ | with_reducible refine AWP.ctl (by constructor) ?_ | ((with_reducible (first | refine AWP.region ?_ ?_ | refine AWP.condT ?_ ?_)); exact rfl) | ((with_reducible refine AWP.condF ?_ ?_); exact rfl) | simp only [go_sem, sevalprocAttr, reduceCtorEq, hfl, hr5, hflx, hr5x] | simp (disch := omega) only [wz]
 ·rw [← hH1]
  cases h1 : lightB v with
  | false =>
   rw [h1] at hLv
   repeat first | with_reducible refine AWP.ctl (by constructor) ?_ | ((with_reducible (first | refine AWP.region ?_ ?_ | refine AWP.condT ?_ ?_)); exact rfl) | ((with_reducible refine AWP.condF ?_ ?_); exact rfl) | with_reducible refine hLv.use ?_ | with_reducible refine hA.use ?_ | simp only [go_sem, sevalprocAttr, reduceCtorEq, hb0, htk5, hr5] | simp (disch := omega) only [wz]
   exact ⟨_, _, .refl _ _ _, rfl⟩
  | true =>
   rw [h1] at hLv
   cases h2 : lightB to' with
   | false =>
    rw [h2] at hLt
    repeat first | with_reducible refine AWP.ctl (by constructor) ?_ | ((with_reducible (first | refine AWP.region ?_ ?_ | refine AWP.condT ?_ ?_)); exact rfl) | ((with_reducible refine AWP.condF ?_ ?_); exact rfl) | with_reducible refine hLv.use ?_ | with_reducible refine hLt.use ?_ | with_reducible refine hA.use ?_ | simp only [go_sem, sevalprocAttr, reduceCtorEq, hb0, hb1, htk5, htk5x, hr5, hr5x] | simp (disch := omega) only [wz]
    exact ⟨_, _, .refl _ _ _, rfl⟩
   | true =>
    rw [h2] at hLt
    cases h3 : shortB path with
    | false =>
     rw [h3] at hS
     repeat first | with_reducible refine AWP.ctl (by constructor) ?_ | ((with_reducible (first | refine AWP.region ?_ ?_ | refine AWP.condT ?_ ?_)); exact rfl) | ((with_reducible refine AWP.condF ?_ ?_); exact rfl) | with_reducible refine hLv.use ?_ | with_reducible refine hLt.use ?_ | with_reducible refine hS.use ?_ | with_reducible refine hA.use ?_ | simp only [go_sem, sevalprocAttr, reduceCtorEq, hb0, hb1, htk5, htk5x, hr5, hr5x] | simp (disch := omega) only [wz]
     exact ⟨_, _, .refl _ _ _, rfl⟩
    | true =>
     rw [h3] at hS
     by_cases h4 : key.length ≤ 300
     ·have h4' : ¬ (key.length : Int) > 300 := by omega
      repeat first | with_reducible refine AWP.ctl (by constructor) ?_ | ((with_reducible (first | refine AWP.region ?_ ?_ | refine AWP.condT ?_ ?_)); exact rfl) | ((with_reducible refine AWP.condF ?_ ?_); exact rfl) | with_reducible refine hLv.use ?_ | with_reducible refine hLt.use ?_ | with_reducible refine hS.use ?_ | simp only [go_sem, sevalprocAttr, reduceCtorEq, hb0, hb1, htk5, htk5x, hr5, hr5x, h4'] | simp (disch := omega) only [wz]
      exact ⟨_, ⟨h4, rfl⟩, Weak.env (by simp [envIn, lk_cons, wth_some])⟩
     ·have h4' : (key.length : Int) > 300 := by omega
      repeat first | with_reducible refine AWP.ctl (by constructor) ?_ | ((with_reducible (first | refine AWP.region ?_ ?_ | refine AWP.condT ?_ ?_)); exact rfl) | ((with_reducible refine AWP.condF ?_ ?_); exact rfl) | with_reducible refine hLv.use ?_ | with_reducible refine hLt.use ?_ | with_reducible refine hS.use ?_ | with_reducible refine hA.use ?_ | simp only [go_sem, sevalprocAttr, reduceCtorEq, hb0, hb1, htk5, htk5x, hr5, hr5x, h4'] | simp (disch := omega) only [wz]
      exact ⟨_, _, .refl _ _ _, rfl⟩
 rintro st ⟨⟨l1, l2, l3, l4⟩, rfl⟩
 have hv := (light_fine v nv l1).1
 have hx := (light_fine to' nt l2).1
 have hkW := short_keysW l3
 have hsh := l3
 unfold shortB at hsh
 rw [Bool.and_eq_true, decide_eq_true_eq, List.all_eq_true] at hsh
 have hp : ∀ t ∈ path, t.length ≤ 1099511627776 := fun t ht => by
  have := hsh.1 t ht
  rw [decide_eq_true_eq] at this; omega
 have hpl2 : path.length ≤ 20 := hsh.2
 have hGet := getW v path hv hp (by omega) H1 hG1 cs (hR.kept hk1) vp (hP.kept hk1)
 obtain ⟨dd, hdd⟩ : ∃ dd, dd = getR v path := ⟨_, rfl⟩
 rw [← hdd] at hGet
 repeat first | with_reducible refine AWP.ctl (by constructor) ?_ | ((with_reducible (first | refine AWP.region ?_ ?_ | refine AWP.condT ?_ ?_)); exact rfl) | ((with_reducible refine AWP.condF ?_ ?_); exact rfl) | simp only [go_sem, sevalprocAttr, reduceCtorEq, hb0, htk5, hr5] | simp (disch := omega) only [wz]
 refine AC.mono hGet ?_
 rintro res H2 ⟨cd, rfl, hf2, hRd⟩
 have hb02 := hf2.get hb0 (by simp)
 have hb12 := hf2.get hb1 (by simp)
 have hd5 := hRd.len
 have hdf := RdV_flat hRd
 have htkd : List.take 5 cd = cd := List.take_of_length_le (by omega)
 have hputd : putCells [Value.int .i64 0, .int .i64 0, .string (bs []), .slice none 0 0, .slice none 0 0] 0 cd = cd := putCells_all (by rw [hd5]; rfl)
 have hcd0 : cd[0]? = some (.int .i64 dd.1.kind) := by
  obtain ⟨⟨k, n, s, kids, keys⟩, e⟩ := dd
  unfold RdV at hRd
  obtain ⟨_, _, _, rfl, _⟩ := hRd
  rfl
 obtain ⟨H3, hH3⟩ : ∃ H3 : AHeap, H3 = H2 ++ [.cells cd ⟨26, 0, true, 0, none⟩] := ⟨_, rfl⟩
 have hf3 : Frm [] H1 H3 := by rw [hH3]; exact hf2.more
 have hk3 : Kept H1 H3 := Kept.frm hf3 (fun x hx => by cases hx)
 have hA3 := hAw H3 hf3
 have hd3 : H3[H2.length]? = some (.cells cd ⟨26, 0, true, 0, none⟩) := by rw [hH3, hget0 rfl]; rfl
 have hRd3 : RdV H3 dd.1 cd := by rw [hH3]; exact hRd.kept (.more _ _)
 repeat first | with_reducible refine AWP.ctl (by constructor) ?_ | ((with_reducible (first | refine AWP.region ?_ ?_ | refine AWP.condT ?_ ?_)); exact rfl) | ((with_reducible refine AWP.condF ?_ ?_); exact rfl) | simp only [go_sem, sevalprocAttr, reduceCtorEq, hd5, hdf, htkd, hputd] | simp (disch := omega) only [wz]
 rw [← hH3]
 by_cases he : dd.2 = 0
 ·have he' : (dd.2 != 0) = false := by simpa using he
  by_cases hkd : dd.1.kind = 4
  ·have hkd' : (dd.1.kind != 4) = false := by simpa using hkd
   have hval : v.valid = true := by
    cases hc : v.valid with
    | true => rfl
    | false =>
     unfold getR at hdd
     rw [hc, if_neg (by decide)] at hdd
     rw [hdd] at he
     cases he
   have hgo : goR v path = (dd.1, 0) := by
    unfold getR at hdd
    rw [if_pos hval] at hdd
    rw [← hdd, ← he]
   repeat first | with_reducible refine AWP.seqE (x := .region 6 _ _) (DK H vp key (path ++ [key]) H2.length H3) ?_ ?_ | with_reducible refine AWP.ctl (by constructor) ?_ | ((with_reducible (first | refine AWP.region ?_ ?_ | refine AWP.condT ?_ ?_)); exact rfl) | ((with_reducible refine AWP.condF ?_ ?_); exact rfl) | with_reducible refine hA3.use ?_ | simp only [go_sem, sevalprocAttr, reduceCtorEq, he', hkd', hd3, hcd0] | simp (disch := omega) only [wz]
   ·have hrz : repZ 0 [Value.string (bs [])] = [] := rfl
    have hend : ∀ (H4 : AHeap) (va : Value), PartP H3.length H4 path va → Frm [] H3 H4 → ∀ K : Value → AHeap → Prop, (∀ (q : Nat) (H5 : AHeap), Frm [] H3 H5 → H5[q]? = some (.cells (strsC (path ++ [key])) ⟨9, 1, true, 0, none⟩) → H3.length ≤ q → K (.slice (some ⟨q, 0, none⟩) (path.length + 1) (path.length + 1)) H5) →
      appendTo Tryd.prog 9 1 16 va 1 [.string (bs key)] (H4 ++ [.cells [.string (bs key)] ⟨9, 0, true, 0, none⟩]) K := fun H4 va h1 h2 K hK => by
     have hpp : PartP H3.length (H4 ++ [.cells [.string (bs key)] ⟨9, 0, true, 0, none⟩]) path va := by
      obtain ⟨q, z, e, g1, g2⟩ := h1
      exact ⟨q, z, e, by rw [hgetl (lt_of_get g1)]; exact g1, g2⟩
     refine app_second hpp (by rw [List.length_append]; have := h2.1; omega) (by omega) (by omega) fun H5 h5 => ?_
     have hl5 : H5.length = (H4 ++ [AObj.cells [.string (bs key)] ⟨9, 0, true, 0, none⟩]).length := by
      rcases h5 with rfl | ⟨q, cs, _, _, rfl⟩
      ·rfl
      ·rw [List.length_set]
     have hf5 : Frm [] H3 H5 := by
      rcases h5 with rfl | ⟨q, cs, g1, g2, rfl⟩
      ·exact h2.more
      ·exact Frm.set h2.more (.inr g1)
     refine hK _ _ hf5.more (by rw [hget0 hl5]; rfl) ?_
     rw [List.length_append]
     have := h2.1
     omega
    have hfin : ∀ (q : Nat) (H5 : AHeap) (env : List (Nat × Value)), Frm [] H3 H5 → H5[q]? = some (.cells (strsC (path ++ [key])) ⟨9, 1, true, 0, none⟩) → H3.length ≤ q → envIn env (fun v u => u = v) [(1, vp), (2, .string (bs key)), (4, .pointer (some ⟨H.length, 0, none⟩)), (7, .pointer (some ⟨H.length + 1, 0, none⟩)), (9, .pointer (some ⟨H2.length, 0, none⟩)), (11, .slice (some ⟨q, 0, none⟩) (path.length + 1) (path.length + 1))] →
      ∃ st2, DK H vp key (path ++ [key]) H2.length H3 st2 ∧ Weak H.length ⟨env, [], H5⟩ st2 := fun q H5 env h1 h2 h3 h4 => by
     refine ⟨_, ⟨_, _, Frm.set h1 (.inr h3), frozen_rd (by simp) h2 (.inl rfl), rfl, rfl⟩, Weak.trans0 (Weak.env h4) (Weak.freeze h2)⟩
    have hap : ∀ (a b : AObj) (X : AHeap), H3 ++ a :: (X ++ [b]) = (H3 ++ [a] ++ X) ++ [b] := fun a b X => by simp
    have hPc := hP.kept (hk1.trans hk3)
    rcases hPc with ⟨rfl, hnil⟩ | ⟨i, off, cap, cs', k, hve, hcap, hi, hown, hesz, hle, hrow⟩
    ·have hp0 : path = [] := by
      have := congrArg List.length hnil
      rw [keyC_len] at this
      exact List.eq_nil_of_length_eq_zero this
     repeat first | with_reducible refine AWP.ctl (by constructor) ?_ | ((with_reducible (first | refine AWP.region ?_ ?_ | refine AWP.condT ?_ ?_)); exact rfl) | ((with_reducible refine AWP.condF ?_ ?_); exact rfl) | simp only [go_sem, sevalprocAttr, reduceCtorEq, hrz] | simp (disch := omega) only [wz]
     refine app_first (p := path) (lo := H3.length) (by rw [hget0 rfl]; rfl) (Nat.le_refl _) (by rw [List.length_append]; omega) (by rw [hp0]; rfl) (by rw [hp0]; rfl) (by omega) (by omega) fun va X h1 h2 => ?_
     repeat first | with_reducible refine AWP.ctl (by constructor) ?_ | ((with_reducible (first | refine AWP.region ?_ ?_ | refine AWP.condT ?_ ?_)); exact rfl) | ((with_reducible refine AWP.condF ?_ ?_); exact rfl) | simp only [go_sem, sevalprocAttr, reduceCtorEq, h2] | simp (disch := omega) only [wz]
     rw [hap]
     refine hend _ va h1 (by rw [List.append_assoc]; exact Frm.app) _ fun q H5 g1 g2 g3 => ?_
     repeat first | with_reducible refine AWP.ctl (by constructor) ?_ | ((with_reducible (first | refine AWP.region ?_ ?_ | refine AWP.condT ?_ ?_)); exact rfl) | ((with_reducible refine AWP.condF ?_ ?_); exact rfl) | simp only [go_sem, sevalprocAttr, reduceCtorEq] | simp (disch := omega) only [wz]
     exact hfin q H5 _ g1 g2 g3 (by simp [envIn, lk_cons, wth_some])
    ·rw [keyC_len] at hve
     subst hve
     have hi3 : H3[i]? = some (.cells cs' k) := hi
     have hgi : ∀ X : AHeap, (H3 ++ X)[i]? = some (.cells cs' k) := fun X => by rw [hgetl (lt_of_get hi3)]; exact hi3
     have hnews := keys_cells hle hrow
     rw [keyC_len] at hle hcap
     rw [Nat.mul_one] at hle hnews
     have hstf := strsC_flat path
     have hstl := strsC_len path
     repeat first | with_reducible refine AWP.ctl (by constructor) ?_ | ((with_reducible (first | refine AWP.region ?_ ?_ | refine AWP.condT ?_ ?_)); exact rfl) | ((with_reducible refine AWP.condF ?_ ?_); exact rfl) | simp only [go_sem, sevalprocAttr, reduceCtorEq, hrz, hi3, hgi, hle, hnews, hstf, hstl] | simp (disch := omega) only [wz]
     refine app_first (p := path) (lo := H3.length) (by rw [hget0 rfl]; rfl) (Nat.le_refl _) (by rw [List.length_append]; omega) rfl rfl (by omega) (by omega) fun va X h1 h2 => ?_
     repeat first | with_reducible refine AWP.ctl (by constructor) ?_ | ((with_reducible (first | refine AWP.region ?_ ?_ | refine AWP.condT ?_ ?_)); exact rfl) | ((with_reducible refine AWP.condF ?_ ?_); exact rfl) | simp only [go_sem, sevalprocAttr, reduceCtorEq, h2] | simp (disch := omega) only [wz]
     rw [hap]
     refine hend _ va h1 (by rw [List.append_assoc]; exact Frm.app) _ fun q H5 g1 g2 g3 => ?_
     repeat first | with_reducible refine AWP.ctl (by constructor) ?_ | ((with_reducible (first | refine AWP.region ?_ ?_ | refine AWP.condT ?_ ?_)); exact rfl) | ((with_reducible refine AWP.condF ?_ ?_); exact rfl) | simp only [go_sem, sevalprocAttr, reduceCtorEq] | simp (disch := omega) only [wz]
     exact hfin q H5 _ g1 g2 g3 (by simp [envIn, lk_cons, wth_some])
   ·rintro st ⟨va, H4, hf34, hPa, hfa, rfl⟩
    have hk34 : Kept H3 H4 := Kept.frm hf34 (fun x hx => by cases hx)
    have hf14 : Frm [] H1 H4 := hf3.trans hf34 (fun x hx => by cases hx)
    have hk14 : Kept H1 H4 := Kept.frm hf14 (fun x hx => by cases hx)
    have hb04 := hf14.get hb0 (by simp)
    have hb14 := hf14.get hb1 (by simp)
    have hd4 := hf34.get hd3 (by simp)
    have hpa : ∀ t ∈ path ++ [key], t.length ≤ 1099511627776 := fun t ht => by
     rcases List.mem_append.1 ht with h | h
     ·exact hp t h
     ·rw [List.mem_singleton.1 h]; omega
    have hpal : (path ++ [key]).length ≤ 21 := by simp; omega
    have hGet2 := getW v (path ++ [key]) hv hpa (by omega) H4 (hG1.frm hf14) cs ((hR.kept hk1).kept hk14) va hPa
    have hgR : getR v (path ++ [key]) = goR dd.1 [key] := by
     unfold getR
     rw [if_pos hval, goR_app path [key] v dd.1 hgo]
    rw [hgR] at hGet2
    have hst := stepR_dict hkd key
    cases hka : kAt dd.1.keys key with
    | some i =>
     rw [hka] at hst
     have hgk : goR dd.1 [key] = (dd.1.kids.getD i .zero, 0) := by
      rw [goR, hst]
      dsimp only
      rw [if_pos rfl, goR]
      rfl
     rw [hgk] at hGet2
     repeat first | with_reducible refine AWP.ctl (by constructor) ?_ | ((with_reducible (first | refine AWP.region ?_ ?_ | refine AWP.condT ?_ ?_)); exact rfl) | ((with_reducible refine AWP.condF ?_ ?_); exact rfl) | simp only [go_sem, sevalprocAttr, reduceCtorEq, hb04, htk5, hr5] | simp (disch := omega) only [wz]
     refine AC.mono hGet2 ?_
     rintro res H5 ⟨c5, rfl, hf5, hR5⟩
     have hA5 := hAw H5 (hf14.trans hf5 (fun x hx => by cases hx))
     have hA6 := hAw (H5 ++ [.cells c5 ⟨26, 0, true, 0, none⟩]) ((hf14.trans hf5 (fun x hx => by cases hx)).more)
     have hc5 := hR5.len
     have hcf := RdV_flat hR5
     have htkc : List.take 5 c5 = c5 := List.take_of_length_le (by omega)
     have hputc : putCells [Value.int .i64 0, .int .i64 0, .string (bs []), .slice none 0 0, .slice none 0 0] 0 c5 = c5 := putCells_all (by rw [hc5]; rfl)
     repeat first | with_reducible refine AWP.ctl (by constructor) ?_ | ((with_reducible (first | refine AWP.region ?_ ?_ | refine AWP.condT ?_ ?_)); exact rfl) | ((with_reducible refine AWP.condF ?_ ?_); exact rfl) | with_reducible refine hA6.use ?_ | simp only [go_sem, sevalprocAttr, reduceCtorEq, hc5, hcf, htkc, hputc] | simp (disch := omega) only [wz]
     exact ⟨_, _, .refl _ _ _, rfl⟩
    | none =>
     rw [hka] at hst
     have hgk : goR dd.1 [key] = (.zero, 8) := by
      rw [goR, hst]
      dsimp only
      rw [if_neg (by decide)]
     rw [hgk] at hGet2
     repeat first | with_reducible refine AWP.ctl (by constructor) ?_ | ((with_reducible (first | refine AWP.region ?_ ?_ | refine AWP.condT ?_ ?_)); exact rfl) | ((with_reducible refine AWP.condF ?_ ?_); exact rfl) | simp only [go_sem, sevalprocAttr, reduceCtorEq, hb04, htk5, hr5] | simp (disch := omega) only [wz]
     refine AC.mono hGet2 ?_
     rintro res H5 ⟨c5, rfl, hf5, hR5⟩
     have hc5 := hR5.len
     have hcf := RdV_flat hR5
     have htkc : List.take 5 c5 = c5 := List.take_of_length_le (by omega)
     have hputc : putCells [Value.int .i64 0, .int .i64 0, .string (bs []), .slice none 0 0, .slice none 0 0] 0 c5 = c5 := putCells_all (by rw [hc5]; rfl)
     obtain ⟨H6, hH6⟩ : ∃ H6 : AHeap, H6 = H5 ++ [.cells c5 ⟨26, 0, true, 0, none⟩] := ⟨_, rfl⟩
     have hf46 : Frm [] H4 H6 := by rw [hH6]; exact hf5.more
     have hf16 : Frm [] H1 H6 := hf14.trans hf46 (fun x hx => by cases hx)
     have hk46 : Kept H4 H6 := Kept.frm hf46 (fun x hx => by cases hx)
     have hk16 : Kept H1 H6 := Kept.frm hf16 (fun x hx => by cases hx)
     have hb06 := hf16.get hb0 (by simp)
     have hb16 := hf16.get hb1 (by simp)
     have hd6 := hf46.get hd4 (by simp)
     have hkA : keysW (path ++ [key]) ≤ 1000000 := by
      rw [keysW_app]
      have h1 : keysW [key] = (BV.wText key).length := by unfold keysW; rw [List.map_cons, List.map_nil, List.sum_cons, List.sum_nil]; omega
      have h2 := keysW_bound [key] (by
       rw [List.any_eq_false]
       intro t ht
       rw [List.mem_singleton.1 ht]
       simp; omega)
      simp only [List.length_cons, List.length_nil] at h2
      omega
     have hSet := setW v to' (path ++ [key]) hv hx (fun h1 h2 _ => put_fine h1 h2 nv nt hkA) hpa (by omega) H6 (hG1.frm hf16) cs csx ((hR.kept hk1).kept hk16) ((hRx.kept hk1).kept hk16) va (hPa.kept hk46)
     obtain ⟨sr, hsr⟩ : ∃ sr, sr = setR v (path ++ [key]) to' := ⟨_, rfl⟩
     rw [← hsr] at hSet
     repeat first | with_reducible refine AWP.ctl (by constructor) ?_ | ((with_reducible (first | refine AWP.region ?_ ?_ | refine AWP.condT ?_ ?_)); exact rfl) | ((with_reducible refine AWP.condF ?_ ?_); exact rfl) | simp only [go_sem, sevalprocAttr, reduceCtorEq, hc5, hcf, htkc, hputc] | simp (disch := omega) only [wz]
     rw [← hH6]
     repeat first | with_reducible refine AWP.ctl (by constructor) ?_ | ((with_reducible (first | refine AWP.region ?_ ?_ | refine AWP.condT ?_ ?_)); exact rfl) | ((with_reducible refine AWP.condF ?_ ?_); exact rfl) | simp only [go_sem, sevalprocAttr, reduceCtorEq, hb06, hb16, htk5, htk5x, hr5, hr5x] | simp (disch := omega) only [wz]
     refine AC.mono hSet ?_
     rintro res H7 ⟨cx, rfl, hf7, hRx7⟩
     have hx5 := hRx7.len
     have hxf := RdV_flat hRx7
     have htkx : List.take 5 cx = cx := List.take_of_length_le (by omega)
     have hputx : putCells [Value.int .i64 0, .int .i64 0, .string (bs []), .slice none 0 0, .slice none 0 0] 0 cx = cx := putCells_all (by rw [hx5]; rfl)
     obtain ⟨H8, hH8⟩ : ∃ H8 : AHeap, H8 = H7 ++ [.cells cx ⟨26, 0, true, 0, none⟩] := ⟨_, rfl⟩
     have hf68 : Frm [] H6 H8 := by rw [hH8]; exact hf7.more
     have hf18 : Frm [] H1 H8 := hf16.trans hf68 (fun x hx => by cases hx)
     have hk68 : Kept H6 H8 := Kept.frm hf68 (fun x hx => by cases hx)
     have hk18 : Kept H1 H8 := Kept.frm hf18 (fun x hx => by cases hx)
     have hA8 := hAw H8 hf18
     have hx8 : H8[H7.length]? = some (.cells cx ⟨26, 0, true, 0, none⟩) := by rw [hH8, hget0 rfl]; rfl
     have hRx8 : RdV H8 sr.1 cx := by rw [hH8]; exact hRx7.kept (.more _ _)
     repeat first | with_reducible refine AWP.ctl (by constructor) ?_ | ((with_reducible (first | refine AWP.region ?_ ?_ | refine AWP.condT ?_ ?_)); exact rfl) | ((with_reducible refine AWP.condF ?_ ?_); exact rfl) | simp only [go_sem, sevalprocAttr, reduceCtorEq, hx5, hxf, htkx, hputx] | simp (disch := omega) only [wz]
     rw [← hH8]
     by_cases hes : sr.2 = 0
     ·have hes' : (sr.2 != 0) = false := by simpa using hes
      have hall : path ++ [key] ≠ [] := by simp
      obtain ⟨hxv, hx1, hxval⟩ : to'.valid = true ∧ sr.1 = (chR (setL to') v (path ++ [key])).1 ∧ sr.1.valid = true := by
       unfold setR putR at hsr
       rw [if_neg hall] at hsr
       by_cases h1 : v.valid = true ∧ to'.valid = true
       ·rw [if_pos h1] at hsr
        by_cases h2 : (chR (setL to') v (path ++ [key])).2 = 0
        ·rw [if_pos h2] at hsr
         by_cases h3 : (chR (setL to') v (path ++ [key])).1.valid = true
         ·rw [if_pos h3] at hsr
          rw [hsr]
          exact ⟨h1.2, rfl, h3⟩
         ·rw [if_neg h3] at hsr
          rw [hsr] at hes; cases hes
        ·rw [if_neg h2] at hsr
         rw [hsr] at hes
         exact absurd hes h2
       ·rw [if_neg h1] at hsr
        rw [hsr] at hes; cases hes
      have hgv : Good v := ⟨hv.sz, valid_form hval⟩
      obtain ⟨p1, p2, d', p3, p4⟩ := put_drop to' key path v dd.1 hgv hgo hkd (kAt_none_iff.1 hka)
      rw [← hx1] at p2 p3
      have hxfine : Fine sr.1 := by
       have := put_fine (p := path ++ [key]) hval hxv nv nt hkA
       unfold putR at this
       rw [if_neg hall, ← hx1] at this
       exact this
      have hDr := dropW sr.1 (path ++ [key]) hxfine hpa (by omega) H8 (hG1.frm hf18) cx hRx8 va ((hPa.kept hk46).kept hk68)
      have hdr : dropR sr.1 (path ++ [key]) = (v, 0) := by
       unfold dropR
       rw [if_pos hxval, if_neg hall, p2, if_pos rfl]
      rw [hdr] at hDr
      repeat first | with_reducible refine AWP.ctl (by constructor) ?_ | ((with_reducible (first | refine AWP.region ?_ ?_ | refine AWP.condT ?_ ?_)); exact rfl) | ((with_reducible refine AWP.condF ?_ ?_); exact rfl) | simp only [go_sem, sevalprocAttr, reduceCtorEq, hes', hx8, htkx, hx5] | simp (disch := omega) only [wz]
      refine AC.mono hDr ?_
      rintro res H9 ⟨cy, rfl, hf9, hRy⟩
      have hy5 := hRy.len
      have hyf := RdV_flat hRy
      have htky : List.take 5 cy = cy := List.take_of_length_le (by omega)
      have hputy : putCells [Value.int .i64 0, .int .i64 0, .string (bs []), .slice none 0 0, .slice none 0 0] 0 cy = cy := putCells_all (by rw [hy5]; rfl)
      obtain ⟨Ha, hHa⟩ : ∃ Ha : AHeap, Ha = H9 ++ [.cells cy ⟨26, 0, true, 0, none⟩] := ⟨_, rfl⟩
      have hf8a : Frm [] H8 Ha := by rw [hHa]; exact hf9.more
      have hf1a : Frm [] H1 Ha := hf18.trans hf8a (fun x hx => by cases hx)
      have hk1a : Kept H1 Ha := Kept.frm hf1a (fun x hx => by cases hx)
      have hb0a := hf1a.get hb0 (by simp)
      have hya : Ha[H9.length]? = some (.cells cy ⟨26, 0, true, 0, none⟩) := by rw [hHa, hget0 rfl]; rfl
      have hRya : RdV Ha v cy := by rw [hHa]; exact hRy.kept (.more _ _)
      have hSm := same v hv.sz v Ha cy cs hRya ((hR.kept hk1).kept hk1a)
      rw [sameB_refl] at hSm
      have hne0 : ((v, (0 : Int)).2 != 0) = false := rfl
      repeat first | with_reducible refine AWP.ctl (by constructor) ?_ | ((with_reducible (first | refine AWP.region ?_ ?_ | refine AWP.condT ?_ ?_)); exact rfl) | ((with_reducible refine AWP.condF ?_ ?_); exact rfl) | simp only [go_sem, sevalprocAttr, reduceCtorEq, hy5, hyf, htky, hputy] | simp (disch := omega) only [wz]
      rw [← hHa]
      repeat first | with_reducible refine AWP.ctl (by constructor) ?_ | ((with_reducible (first | refine AWP.region ?_ ?_ | refine AWP.condT ?_ ?_)); exact rfl) | ((with_reducible refine AWP.condF ?_ ?_); exact rfl) | simp only [go_sem, sevalprocAttr, reduceCtorEq, hya, htky, hy5, hb0a, htk5, hr5] | simp (disch := omega) only [wz]
      refine AC.mono hSm ?_
      rintro res Hb ⟨rfl, hfab⟩
      have hf8b : Frm [] H8 Hb := hf8a.trans hfab (fun x hx => by cases hx)
      have hf3b : Frm [] H3 Hb := (hf34.trans (hf46.trans hf68 (fun x hx => by cases hx)) (fun x hx => by cases hx)).trans hf8b (fun x hx => by cases hx)
      have hf1b : Frm [] H1 Hb := hf3.trans hf3b (fun x hx => by cases hx)
      have hk8b : Kept H8 Hb := Kept.frm hf8b (fun x hx => by cases hx)
      have hk3b : Kept H3 Hb := Kept.frm hf3b (fun x hx => by cases hx)
      have hk1b : Kept H1 Hb := Kept.frm hf1b (fun x hx => by cases hx)
      have hdb := hf3b.get hd3 (by simp)
      have hxb := hf8b.get hx8 (by simp)
      have hRxb := hRx8.kept hk8b
      have hRdb := hRd3.kept hk3b
      have hgv2 := goR_ok path v hval nv (by rw [hgo])
      rw [hgo] at hgv2
      have hokd := OkV.of_valid hgv2.1 hgv2.2
      have hk1000 := hokd.keys_le
      have hkk := (form_asc' hokd.form hkd).2
      have hszd := hokd.fine.sz
      obtain ⟨d, de⟩ := dd
      dsimp only at he hkd hgo hka p4 hRdb hcd0 hokd hk1000 hkk hszd
      obtain ⟨dk, dn, ds, kids, keys⟩ := d
      have hk1000' : keys.length ≤ 1000 := hk1000
      have hkk' : keys.length = kids.length := hkk
      unfold RdV at hRdb
      obtain ⟨vk, vs, css, rfl, hK5, hL5, hK1⟩ := hRdb
      have hcs4 : ([Value.int .i64 dk, .int .i64 dn, .string (bs ds), vk, vs] : List Value)[4]? = some vs := rfl
      have q2 : ∀ H' K, lenW Tryd.prog 24 vs H' K = K (.int .i64 (keys.length : Nat)) H' := fun H' K => by rw [hK1.lenT (by simp only [go_sem, sevalprocAttr, reduceCtorEq]), keyC_len]
      repeat first | with_reducible refine AWP.ctl (by constructor) ?_ | ((with_reducible (first | refine AWP.region ?_ ?_ | refine AWP.condT ?_ ?_)); exact rfl) | ((with_reducible refine AWP.condF ?_ ?_); exact rfl) | simp only [go_sem, sevalprocAttr, reduceCtorEq, hdb, q2] | simp (disch := omega) only [wz]
      refine AWP.loopP (fun p : Nat × AHeap => ⟨[(1, vp), (9, .pointer (some ⟨H2.length, 0, none⟩)), (14, .pointer (some ⟨H7.length, 0, none⟩)), (97, vs), (98, .int .i64 (keys.length : Nat)), (99, .int .i64 (p.1 : Nat))], [], p.2⟩)
       (fun p => p.1 ≤ keys.length ∧ Frm [] Hb p.2) (fun p => keys.length - p.1) (0, Hb) ?_ ⟨Nat.zero_le _, Frm.refl _ _⟩ ?_
      ·exact Weak.env (by simp [envIn, lk_cons, wth_some])
      rintro ⟨j, Hc⟩ ⟨hj, hfc⟩
      dsimp only at hj hfc ⊢
      have hkc : Kept Hb Hc := Kept.frm hfc (fun x hx => by cases hx)
      have hdc := hfc.get hdb (by simp)
      have hxc := hfc.get hxb (by simp)
      have hf1c : Frm [] H1 Hc := hf1b.trans hfc (fun x hx => by cases hx)
      have hAc := hAw Hc hf1c
      by_cases hlt : j < keys.length
      ·have hlt' : (j : Int) < (keys.length : Int) := by omega
       have hlt2 : (j : Int) < ((keyC keys).length : Int) := by rw [keyC_len]; omega
       obtain ⟨bi, off, cap, cs', k', rfl, hcap, hbi, hown, hesz, hle, htk⟩ := (hK1.kept hkc).at_ (keyC_at hlt)
       have hat2 : cs'[off + j]? = some (.string (bs keys[j])) := by
        have h1 := congrArg (fun l => l[0]?) htk
        simpa using h1
       have hwj : IntKind.i64.wrap ((j : Int) + 1) = ((j + 1 : Nat) : Int) := by have := hd5; rw [wi64 (by omega)]; omega
       have hkj := p4 j keys[j] (List.getElem?_eq_getElem hlt)
       have hkkl : keys[j].length ≤ 1099511627776 := by
        have h1 := msr_write _ hokd.form
        have h2 := hokd.len
        rw [msr_mk] at h1
        have h3 := keysW_app (keys.take j) (keys.drop j)
        rw [List.take_append_drop, List.drop_eq_getElem_cons hlt] at h3
        have h4 : keysW (keys[j] :: keys.drop (j + 1)) = (BV.wText keys[j]).length + keysW (keys.drop (j + 1)) := by unfold keysW; rw [List.map_cons, List.sum_cons]
        rw [wText_len] at h4
        omega
       generalize keys[j] = kk at *
       have hjk : j < kids.length := by omega
       have hgd : kids.getD j .zero = kids[j] := getD_mem hjk
       have hw : goR d' [kk] = (kids[j], 0) := by rw [← hgd]; exact hkj
       obtain ⟨rj, hrj, hRj⟩ := (hL5.kept hkc).at_ (List.getElem?_eq_getElem hjk)
       unfold szV at hszd
       have hszj : szV kids[j] := szL_iff.1 hszd.2.2 _ (List.getElem_mem hjk)
       generalize kids[j] = w at *
       have hgx : getR sr.1 (path ++ [kk]) = (w, 0) := by
        unfold getR
        rw [if_pos hxval, goR_app path [kk] sr.1 d' p3, hw]
       repeat first | with_reducible refine AWP.seqE (x := .region 19 _ _) (DZ [(16, .int .i64 (j : Nat)), (1, vp), (9, .pointer (some ⟨H2.length, 0, none⟩)), (14, .pointer (some ⟨H7.length, 0, none⟩)), (97, .slice (some ⟨bi, off, none⟩) (keyC keys).length cap), (98, .int .i64 (keys.length : Nat)), (99, .int .i64 (j : Nat))] w Hc) ?_ ?_ | with_reducible refine AWP.ctl (by constructor) ?_ | ((with_reducible (first | refine AWP.region ?_ ?_ | refine AWP.condT ?_ ?_)); exact rfl) | ((with_reducible refine AWP.condF ?_ ?_); exact rfl) | simp only [go_sem, sevalprocAttr, reduceCtorEq, hlt', hlt2, hbi, hat2] | simp (disch := omega) only [wz]
       ·have hrz : repZ 0 [Value.string (bs [])] = [] := rfl
        have hPx := hP.kept (hk1.trans (Kept.frm hf1c (fun x hx => by cases hx)))
        have hpa2 : ∀ t ∈ path ++ [kk], t.length ≤ 1099511627776 := fun t ht => by
         rcases List.mem_append.1 ht with h | h
         ·exact hp t h
         ·rw [List.mem_singleton.1 h]; exact hkkl
        refine AWP.regionR spQ (BQ [(16, .int .i64 (j : Nat)), (17, .string (bs kk)), (1, vp), (9, .pointer (some ⟨H2.length, 0, none⟩)), (14, .pointer (some ⟨H7.length, 0, none⟩)), (97, .slice (some ⟨bi, off, none⟩) (keyC keys).length cap), (98, .int .i64 (keys.length : Nat)), (99, .int .i64 (j : Nat))] Hc) (RQ Hc.length vp path kk cx w 0) (by kernel_rfl) (by kernel_rfl) (by kernel_rfl) (BQ.of (by simp [envIn, lk_cons, wth_some]) (Frm.refl _ _)) ⟨?_, ?_, ?_, ?_, ?_, ?_, ?_, ?_, ?_, ?_, ?_, ?_, ?_, ?_, trivial⟩ ?_
        ·intro E HE hB hd
         have b14 : lk 14 E = some (.pointer (some ⟨H7.length, 0, none⟩)) := hB.1 _ _ (by simp)
         have hxe := hB.2.get hxc (by simp)
         simp only [go_sem, sevalprocAttr, reduceCtorEq, b14, hxe, htkx, hx5]
         exact RQ.post (j := 0) (by intro o h; cases h; decide) (by decide) (by decide) hB (by simp [tmQ]) (.inl (Frm.refl _ _)) lk_self
        ·intro E HE hB hd
         simp only [go_sem, sevalprocAttr, reduceCtorEq, hrz]
         exact RQ.post (j := 1) (by intro o h; cases h; decide) (by decide) (by decide) hB (by simp [tmQ]) (.inl Frm.app) ⟨HE.length, lk_self, by rw [hget0 rfl]; rfl, hB.2.1⟩
        ·intro E HE hB hd
         have b1 : lk 1 E = some vp := hB.1 _ _ (by simp)
         simp only [go_sem, sevalprocAttr, reduceCtorEq, b1]
         exact RQ.post (j := 2) (by intro o h; cases h; decide) (by decide) (by decide) hB (by simp [tmQ]) (.inl (Frm.refl _ _)) lk_self
        ·intro E HE hB hd
         obtain ⟨q, g1, g2, g3⟩ := hd 1 (by decide) (.inr rfl)
         have g4 : lk 107 E = some vp := hd 2 (by decide) (.inl rfl)
         have hPe := hPx.kept (Kept.frm hB.2 (fun x hx => by cases hx))
         have hlE := hB.2.1
         rcases hPe with ⟨hve, hnil⟩ | ⟨i3, off3, cap3, cs3, k3, hve, hcap3, hi3, hown3, hesz3, hle3, hrow3⟩
         ·have hp0 : path = [] := by
           have := congrArg List.length hnil
           rw [keyC_len] at this
           exact List.eq_nil_of_length_eq_zero this
          rw [hve] at g4
          simp only [go_sem, sevalprocAttr, reduceCtorEq, g1, g4]
          refine app_first (p := path) (lo := Hc.length) g2 g3 hlE (by rw [hp0]; rfl) (by rw [hp0]; rfl) (by omega) (by omega) fun va X h1 h2 => ?_
          exact RQ.post (j := 3) (by intro o h; cases h; decide) (by decide) (by decide) hB (by simp [tmQ]) (.inl Frm.app) ⟨va, lk_self, h1⟩
         ·rw [keyC_len] at hve
          have hnews := keys_cells hle3 hrow3
          rw [keyC_len] at hle3 hcap3
          rw [Nat.mul_one] at hle3 hnews
          have hstf := strsC_flat path
          have hstl := strsC_len path
          rw [hve] at g4
          simp only [go_sem, sevalprocAttr, reduceCtorEq, g1, g4, hi3, hle3, hnews, hstf, hstl]
          refine app_first (p := path) (lo := Hc.length) g2 g3 hlE rfl rfl (by omega) (by omega) fun va X h1 h2 => ?_
          exact RQ.post (j := 3) (by intro o h; cases h; decide) (by decide) (by decide) hB (by simp [tmQ]) (.inl Frm.app) ⟨va, lk_self, h1⟩
        ·intro E HE hB hd
         have b17 : lk 17 E = some (.string (bs kk)) := hB.1 _ _ (by simp)
         simp only [go_sem, sevalprocAttr, reduceCtorEq, b17]
         exact RQ.post (j := 4) (by intro o h; cases h; decide) (by decide) (by decide) hB (by simp [tmQ]) (.inl (Frm.refl _ _)) lk_self
        ·intro E HE hB hd
         have g4 : lk 109 E = some (.string (bs kk)) := hd 4 (by decide) (.inl rfl)
         simp only [go_sem, sevalprocAttr, reduceCtorEq, g4]
         exact RQ.post (j := 5) (by intro o h; cases h; decide) (by decide) (by decide) hB (by simp [tmQ]) (.inl Frm.app) ⟨HE.length, lk_self, by rw [hget0 rfl]; rfl, hB.2.1⟩
        ·intro E HE hB hd
         obtain ⟨va, g1, g2⟩ := hd 3 (by decide) (.inr rfl)
         obtain ⟨q, g3, g4, g5⟩ := hd 5 (by decide) (.inr rfl)
         have hlE := hB.2.1
         have hfa : flat va = true := by obtain ⟨_, _, rfl, _⟩ := g2; rfl
         simp only [go_sem, sevalprocAttr, reduceCtorEq, g1, g3, g4, hfa]
         refine app_second g2 hlE (by omega) (by omega) fun H2' h2 => ?_
         have hl2' : H2'.length = HE.length := by
          rcases h2 with rfl | ⟨_, _, _, _, rfl⟩
          ·rfl
          ·rw [List.length_set]
         have hob : ∀ (r : Nat) (c : List Value) (ck : CK), ¬ (ck.e = 9 ∧ ck.esz = 1 ∧ ck.own = true) → HE[r]? = some (.cells c ck) → (H2' ++ [.cells (strsC (path ++ [kk])) ⟨9, 1, true, 0, none⟩])[r]? = some (.cells c ck) := fun r c ck h hr => by
          rw [hgetl (by rw [hl2']; exact lt_of_get hr)]
          rcases h2 with rfl | ⟨q', cs', _, h5, rfl⟩
          ·exact hr
          ·rw [List.getElem?_set_ne]
           ·exact hr
           ·intro e
            subst e
            rw [h5] at hr
            injection hr with hr
            injection hr with _ hr
            rw [← hr] at h
            exact h ⟨rfl, rfl, rfl⟩
         have hfc2 : Frm [] Hc H2' := by
          rcases h2 with rfl | ⟨q', cs', h4, h5, rfl⟩
          ·exact hB.2
          ·exact Frm.set hB.2 (.inr h4)
         exact RQ.post (j := 6) (by intro o h; cases h; decide) (by decide) (by decide) hB (by simp [tmQ]) (.inr ⟨.inl rfl, hfc2.more, fun r c ck hr ho => hob r c ck (fun h => by rw [ho] at h; cases h.2.2) hr, fun r c hr => hob r c _ (fun h => by cases h.1) hr, fun r c hr => hob r c _ (fun h => by cases h.2.1) hr, fun h => by cases h⟩) ⟨HE.length, lk_self, by rw [hget0 hl2']; rfl, hlE⟩
        ·intro E HE hB hd
         have g1 : lk 105 E = some (.agg ⟨cx⟩) := hd 0 (by decide) (.inl rfl)
         obtain ⟨q, g2, g3, g4⟩ := hd 6 (by decide) (.inr rfl)
         have hf1e := hf1c.trans hB.2 (fun x hx => by cases hx)
         have hks := Kept.set (o := .cells (strsC (path ++ [kk])) ⟨9, 1, false, 0, none⟩) g3 rfl
         have hlp : (path ++ [kk]).length = path.length + 1 := by simp
         have hGt := getW sr.1 (path ++ [kk]) hxfine hpa2 (by omega) _ ((hG1.frm hf1e).kept hks) cx ((hRxb.kept (hkc.trans (Kept.frm hB.2 (fun x hx => by cases hx)))).kept hks) _ (frozen_rd hlp.symm g3 (.inl rfl))
         rw [hgx] at hGt
         simp only [go_sem, sevalprocAttr, reduceCtorEq, g1, g2]
         refine AC.mono (AC.freeze g3 hGt) ?_
         rintro res H2' ⟨cz, rfl, hf2', hRz⟩
         simp only [go_sem, sevalprocAttr, reduceCtorEq]
         have hob : ∀ (r : Nat) (c : List Value) (ck : CK), (ck.own = false ∨ c ≠ strsC (path ++ [kk]) ∨ ck.e ≠ 9 ∨ ck.esz ≠ 1) → HE[r]? = some (.cells c ck) → H2'[r]? = some (.cells c ck) := fun r c ck h hr => by
          refine hf2'.get ?_ (by simp)
          rw [List.getElem?_set_ne]
          ·exact hr
          ·intro e
           subst e
           rw [g3] at hr
           injection hr with hr
           injection hr with hr1 hr
           rcases h with h | h | h | h
           ·rw [← hr] at h; cases h
           ·exact h hr1.symm
           ·rw [← hr] at h; exact h rfl
           ·rw [← hr] at h; exact h rfl
         exact RQ.post (j := 7) (by intro o h; cases h; decide) (by decide) (by decide) hB (by simp [tmQ]) (.inr ⟨.inr rfl, (Frm.set hB.2 (.inr g4)).trans hf2' (fun x hx => by cases hx), fun r c ck hr ho => hob r c ck (.inl ho) hr, fun r c hr => hob r c _ (.inr (.inr (.inl (by dsimp only; decide)))) hr, fun r c hr => hob r c _ (.inr (.inr (.inr (by dsimp only; decide)))) hr, fun _ r z hr => hob r _ _ (.inr (.inl (fun e => by have := congrArg List.length e; rw [strsC_len, strsC_len, hlp] at this; omega))) hr⟩) ⟨cz, lk_self, hRz⟩
        ·intro E HE hB hd
         obtain ⟨cz, g1, g2⟩ := hd 7 (by decide) (.inl rfl)
         simp only [go_sem, sevalprocAttr, reduceCtorEq, g1]
         exact RQ.post (j := 8) (by intro o h; cases h; decide) (by decide) (by decide) hB (by simp [tmQ]) (.inl (Frm.refl _ _)) ⟨cz, lk_self, g2⟩
        ·intro E HE hB hd
         obtain ⟨cz, g1, g2⟩ := hd 8 (by decide) (.inl rfl)
         simp only [go_sem, sevalprocAttr, reduceCtorEq, g1]
         exact RQ.post (j := 9) (by intro o h; cases h; decide) (by decide) (by decide) hB (by simp [tmQ]) (.inl (Frm.refl _ _)) ⟨cz, lk_self, g2⟩
        ·intro E HE hB hd
         obtain ⟨cz, g1, g2⟩ := hd 8 (by decide) (.inl rfl)
         simp only [go_sem, sevalprocAttr, reduceCtorEq, g1]
         exact RQ.post (j := 10) (by intro o h; cases h; decide) (by decide) (by decide) hB (by simp [tmQ]) (.inl (Frm.refl _ _)) lk_self
        ·intro E HE hB hd
         simp only [go_sem, sevalprocAttr, reduceCtorEq]
         exact RQ.post (j := 11) (by intro o h; cases h; decide) (by decide) (by decide) hB (by simp [tmQ]) (.inl Frm.app) ⟨HE.length, _, lk_self, by rw [hget0 rfl]; rfl, rfl, hB.2.1⟩
        ·intro E HE hB hd
         obtain ⟨cz, g1, g2⟩ := hd 9 (by decide) (.inl rfl)
         obtain ⟨q, c0, g3, g4, g5, g6⟩ := hd 11 (by decide) (.inr rfl)
         have hz5 := g2.len
         have hzf := RdV_flat g2
         have htkz : List.take 5 cz = cz := List.take_of_length_le (by omega)
         have hputz : putCells c0 0 cz = cz := putCells_all (by omega)
         simp only [go_sem, sevalprocAttr, reduceCtorEq, g1, g3, g4, g5, hz5, hzf, htkz, hputz]
         exact RQ.post12 hB g4 g6 ⟨q, cz, g3, List.getElem?_set_self (lt_of_get g4), g2.kept (Kept.set g4 rfl _), g6⟩
        ·intro E HE hB hd
         have g1 : lk 114 E = some (.int .i64 0) := hd 10 (by decide) (.inl rfl)
         simp only [go_sem, sevalprocAttr, reduceCtorEq, g1]
         exact RQ.post (j := 13) (by intro o h; cases h; decide) (by decide) (by decide) hB (by simp [tmQ]) (.inl (Frm.refl _ _)) lk_self
        ·intro E HE hB hd
         obtain ⟨q, cz, g1, g2, g3, g4⟩ := hd 12 (by decide) rfl
         have g5 : lk 19 E = some (.int .i64 0) := hd 13 (by decide) rfl
         have b16 : lk 16 E = some (.int .i64 (j : Nat)) := hB.1 _ _ (by simp)
         have b1 : lk 1 E = some vp := hB.1 _ _ (by simp)
         have b9 : lk 9 E = some (.pointer (some ⟨H2.length, 0, none⟩)) := hB.1 _ _ (by simp)
         have b14 : lk 14 E = some (.pointer (some ⟨H7.length, 0, none⟩)) := hB.1 _ _ (by simp)
         have b97 : lk 97 E = some (.slice (some ⟨bi, off, none⟩) (keyC keys).length cap) := hB.1 _ _ (by simp)
         have b98 : lk 98 E = some (.int .i64 (keys.length : Nat)) := hB.1 _ _ (by simp)
         have b99 : lk 99 E = some (.int .i64 (j : Nat)) := hB.1 _ _ (by simp)
         exact ⟨_, ⟨q, cz, HE, hB.2, g2, g3, rfl⟩, Weak.env (by simp [envIn, wth_some, g1, g5, b16, b1, b9, b14, b97, b98, b99])⟩
       ·rintro st ⟨q, cz, He, hfe, hq, hRz, rfl⟩
        have hke : Kept Hc He := Kept.frm hfe (fun x hx => by cases hx)
        have hde := hfe.get hdc (by simp)
        have hz5 := hRz.len
        have htkz : List.take 5 cz = cz := List.take_of_length_le (by omega)
        have hSm2 := same w hszj w He cz rj hRz (hRj.kept hke)
        rw [sameB_refl] at hSm2
        obtain ⟨bk, offk, capk, csk, kk2, hvk, hcapk, hbk, hownk, heszk, hlek, htkk⟩ := (hK5.kept (hkc.trans hke)).at_ hrj
        subst hvk
        have hcs3 : ∀ x y z u : Value, ([x, y, z, .slice (some ⟨bk, offk, none⟩) css.length capk, u] : List Value)[3]? = some (.slice (some ⟨bk, offk, none⟩) css.length capk) := fun _ _ _ _ => rfl
        have hjc : (j : Int) < (css.length : Int) := by have := hL5.len; omega
        have hrj5 := (hRj.kept hke).len
        repeat first | with_reducible refine AWP.ctl (by constructor) ?_ | ((with_reducible (first | refine AWP.region ?_ ?_ | refine AWP.condT ?_ ?_)); exact rfl) | ((with_reducible refine AWP.condF ?_ ?_); exact rfl) | simp only [go_sem, sevalprocAttr, reduceCtorEq] | simp (disch := omega) only [wz]
        refine AWP.regionK 9 (by kernel_rfl) (by decide) (by kernel_rfl) ?_
        repeat first | with_reducible refine AWP.ctl (by constructor) ?_ | ((with_reducible (first | refine AWP.region ?_ ?_ | refine AWP.condT ?_ ?_)); exact rfl) | ((with_reducible refine AWP.condF ?_ ?_); exact rfl) | simp only [go_sem, sevalprocAttr, reduceCtorEq, hq, htkz, hz5, hde, hjc, hbk, hlek, htkk] | simp (disch := omega) only [wz]
        refine AC.mono hSm2 ?_
        rintro res Hf ⟨rfl, hff⟩
        repeat first | with_reducible refine AWP.ctl (by constructor) ?_ | ((with_reducible (first | refine AWP.region ?_ ?_ | refine AWP.condT ?_ ?_)); exact rfl) | ((with_reducible refine AWP.condF ?_ ?_); exact rfl) | simp only [go_sem, sevalprocAttr, reduceCtorEq, hwj] | simp (disch := omega) only [wz]
        exact ⟨(j + 1, Hf), Weak.env (by simp [envIn, lk_cons, wth_some]), hlt, (hfc.trans hfe (fun x hx => by cases hx)).trans hff (fun x hx => by cases hx), by dsimp only; omega⟩
      ·have hlt' : ¬ (j : Int) < (keys.length : Int) := by omega
       repeat first | with_reducible refine AWP.ctl (by constructor) ?_ | ((with_reducible (first | refine AWP.region ?_ ?_ | refine AWP.condT ?_ ?_)); exact rfl) | ((with_reducible refine AWP.condF ?_ ?_); exact rfl) | with_reducible refine hAc.use ?_ | simp only [go_sem, sevalprocAttr, reduceCtorEq, hlt'] | simp (disch := omega) only [wz]
       exact ⟨_, _, .refl _ _ _, rfl⟩
     ·have hes' : (sr.2 != 0) = true := by simpa using hes
      repeat first | with_reducible refine AWP.ctl (by constructor) ?_ | ((with_reducible (first | refine AWP.region ?_ ?_ | refine AWP.condT ?_ ?_)); exact rfl) | ((with_reducible refine AWP.condF ?_ ?_); exact rfl) | with_reducible refine hA8.use ?_ | simp only [go_sem, sevalprocAttr, reduceCtorEq, hes'] | simp (disch := omega) only [wz]
      exact ⟨_, _, .refl _ _ _, rfl⟩
  ·have hkd' : (dd.1.kind != 4) = true := by simpa using hkd
   repeat first | with_reducible refine AWP.ctl (by constructor) ?_ | ((with_reducible (first | refine AWP.region ?_ ?_ | refine AWP.condT ?_ ?_)); exact rfl) | ((with_reducible refine AWP.condF ?_ ?_); exact rfl) | with_reducible refine hA3.use ?_ | simp only [go_sem, sevalprocAttr, reduceCtorEq, he', hkd', hd3, hcd0] | simp (disch := omega) only [wz]
   exact ⟨_, _, .refl _ _ _, rfl⟩
 ·have he' : (dd.2 != 0) = true := by simpa using he
  repeat first | with_reducible refine AWP.ctl (by constructor) ?_ | ((with_reducible (first | refine AWP.region ?_ ?_ | refine AWP.condT ?_ ?_)); exact rfl) | ((with_reducible refine AWP.condF ?_ ?_); exact rfl) | with_reducible refine hA3.use ?_ | simp only [go_sem, sevalprocAttr, reduceCtorEq, he', hd3, hcd0] | simp (disch := omega) only [wz]
  exact ⟨_, _, .refl _ _ _, rfl⟩
end Go.Proofs.YthcdjconlfdidaaDoor

