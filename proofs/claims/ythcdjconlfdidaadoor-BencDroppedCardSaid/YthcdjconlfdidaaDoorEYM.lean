/-
  A part of the proof of a statement of this seat.
-/
import Derived.Test.YthcdjconlfdidaaDoorQ1M
import Derived.Test.YthcdjconlfdidaaDoorEHM
import Derived.Test.YthcdjconlfdidaaDoorEG
set_option linter.unusedVariables false
set_option linter.unusedSimpArgs false
set_option maxRecDepth 20000
set_option maxHeartbeats 8000000
namespace Go.Proofs.YthcdjconlfdidaaDoor
open Go Go.Aw Go.Proofs
theorem take5 (cs : List Value) (h : cs.length = 5) : List.take 5 cs = cs := List.take_of_length_le (by omega)
end Go.Proofs.YthcdjconlfdidaaDoor


set_option linter.unusedVariables false
set_option linter.unusedSimpArgs false
set_option maxRecDepth 20000
set_option maxHeartbeats 4000000
namespace Go.Proofs.YthcdjconlfdidaaDoor
open Go Go.Aw Go.Proofs
theorem RdK.row {H : AHeap} {m : Nat} {v : Value} {l : List (List Value)} (h : RdK H m v l) (hl : 0 < l.length) :
  ∃ i off cap cs k, v = .slice (some ⟨i, off, none⟩) l.length cap ∧ l.length ≤ cap ∧ H[i]? = some (.cells cs k) ∧ k.own = false ∧ (k.esz = m ∨ k.esz = 0) ∧ ∀ j r, l[j]? = some r → off + (j * m + m) ≤ cs.length ∧ (cs.drop (off + j * m)).take m = r := by
 rcases h with ⟨rfl, rfl⟩ | ⟨i, off, cap, cs, k, e, hc, hi, ho, hz, hl, hr⟩
 ·cases hl
 ·refine ⟨i, off, cap, cs, k, e, hc, hi, ho, hz, fun j r hj => ⟨?_, hr j r hj⟩⟩
  have hlt := (List.getElem?_eq_some_iff.1 hj).1
  have : (j + 1) * m ≤ l.length * m := Nat.mul_le_mul_right m hlt
  rw [Nat.add_mul] at this
  omega
/-- A value of a text's size. -/
structure OkV (v : BV) : Prop where
 form : v.form = true
 nums : v.nums
 cnt : v.count ≤ 1000
 len : v.write.length ≤ 65536
theorem countL_mem : ∀ {l : List BV} {c : BV}, c ∈ l → c.count ≤ BV.countL l
 | v :: l, c, h => by
  rw [BV.countL]
  rcases List.mem_cons.1 h with rfl | h
  ·omega
  ·have := countL_mem h; omega
theorem countL_ge : ∀ (l : List BV), l.length ≤ BV.countL l
 | [] => Nat.zero_le _
 | v :: l => by
  have := countL_ge l
  have h1 : 1 ≤ v.count := by cases v; rw [BV.count]; omega
  rw [BV.countL, List.length_cons]; omega
theorem OkV.kids_le {v : BV} (h : OkV v) : v.kids.length ≤ 1000 := by
 obtain ⟨k, n, s, kids, keys⟩ := v
 have := h.cnt
 rw [BV.count] at this
 have := countL_ge kids
 show kids.length ≤ 1000
 omega
theorem OkV.kid {v : BV} (h : OkV v) (hk : v.kind = 3 ∨ v.kind = 4) {i : Nat} (hi : i < v.kids.length) : OkV v.kids[i] ∧ preW v i + kW v i + (v.kids[i]).write.length ≤ v.write.length := by
 obtain ⟨A, B, hw, hA⟩ := kid_at h.form hk hi
 have hl := congrArg List.length hw
 rw [List.length_append, List.length_append] at hl
 have hlen := h.len
 refine ⟨⟨form_kid h.form (List.getElem_mem hi), ?_, ?_, by omega⟩, by omega⟩
 ·obtain ⟨k, n, s, kids, keys⟩ := v
  have := h.nums
  unfold BV.nums at this
  exact BV.numsL_iff.1 this.2 _ (List.getElem_mem hi)
 ·obtain ⟨k, n, s, kids, keys⟩ := v
  have := h.cnt
  rw [BV.count] at this
  have h2 := countL_mem (List.getElem_mem hi)
  show (kids[i]).count ≤ 1000
  have h3 : (kids[i]).count ≤ BV.countL kids := h2
  omega
theorem OkV.keys_le {v : BV} (h : OkV v) : v.keys.length ≤ 1000 := by
 have h2 := h.kids_le
 obtain ⟨k, n, s, kids, keys⟩ := v
 show keys.length ≤ 1000
 have hf := h.form
 rw [form_shape, Bool.and_eq_true] at hf
 have hf1 := hf.1
 unfold shapeB at hf1
 dsimp only at hf1
 by_cases h4 : k = 4
 ·have := (form_asc h.form h4).2
  have h3 : kids.length ≤ 1000 := h2
  omega
 ·by_cases k1 : k = 1
  ·rw [if_pos k1] at hf1; simp at hf1; simp [hf1]
  ·by_cases k2 : k = 2
   ·rw [if_neg k1, if_pos k2] at hf1; simp at hf1; simp [hf1]
   ·by_cases k3 : k = 3
    ·rw [if_neg k1, if_neg k2, if_pos k3] at hf1; simp at hf1; simp [hf1]
    ·rw [if_neg k1, if_neg k2, if_neg k3, if_neg h4] at hf1; simp at hf1
theorem parse_ok {s : List UInt8} (h : (parseR s).2 = 0) : OkV (parseR s).1 ∧ (parseR s).1.valid = true ∧ s = (parseR s).1.write := by
 have he : parseR s = ((parseR s).1, 0) := by rw [← h]
 obtain ⟨h1, h2, h3⟩ := parse_inv he
 refine ⟨?_, h1, h3⟩
 unfold BV.valid at h1
 simp only [Bool.and_eq_true, decide_eq_true_eq] at h1
 exact ⟨h1.1.1.1, h2, h1.1.1.2, h1.2⟩
theorem fr0 {A B C : AHeap} (h1 : Frm [] A B) (h2 : Frm [] B C) : Frm [] A C := h1.trans h2 (fun x hx => by cases hx)
def plO (cs : List Value) : AObj := .cells cs ⟨26, 0, true, 0, none⟩
end Go.Proofs.YthcdjconlfdidaaDoor


set_option linter.unusedVariables false
set_option linter.unusedSimpArgs false
set_option maxRecDepth 20000
set_option maxHeartbeats 4000000
namespace Go.Proofs.YthcdjconlfdidaaDoor
open Go Go.Aw Go.Proofs
def inO (z : Int) : AObj := .cells [.int .i64 z] ⟨3, 0, true, 0, none⟩
theorem within (cs : List Value) (a : Int) (hl : cs.length = 5) (hfl : cs.all Go.Aw.flat = true) (H : AHeap) : ARet Tryd.prog 40 [.agg ⟨cs⟩, .int .i64 a] H (.func (.func 69) ⟨[]⟩ ⟨[.pointer (some ⟨H.length + 1, 0, none⟩), .pointer (some ⟨H.length, 0, none⟩)]⟩) (H ++ [plO cs, inO a]) := by
 unfold plO inO
 refine AC.enter Tryd.func40 rfl (by kernel_rfl) 6 rfl [.tmp 4] rfl (by simp) fun hsc B => ?_
 repeat first | with_reducible refine AWP.ctl (by constructor) ?_ | ((with_reducible (first | refine AWP.region ?_ ?_ | refine AWP.condT ?_ ?_)); exact rfl) | ((with_reducible refine AWP.condF ?_ ?_); exact rfl) | simp only [go_sem, sevalprocAttr, reduceCtorEq, hl, hfl] | simp (disch := omega) only [wz] | with_reducible_and_instances exact finR | ((with_reducible refine finR' ?_ ?_) <;> rfl) | ((with_reducible refine finD hsc (NRel.of_plain ?_)); exact rfl)
theorem wri_ar {v : BV} (h : OkV v) {H : AHeap} {cs : List Value} (hR : RdV H v cs) (hT : TabH H) : ARet Tryd.prog 30 [.agg ⟨cs⟩] H (.string (bs v.write)) H :=
 AC.forget rfl (written v h.form h.nums (by have := h.len; omega) H cs hT hR)
structure WiOk (b bv : Nat) (w : BV) (csw : List Value) (H : AHeap) : Prop where
 v : H[bv]? = some (plO csw)
 rd : RdV H w csw
 tab : TabH H
theorem within1 (w : BV) (hok : OkV w) (hkind : w.kind = 3 ∨ w.kind = 4) (csw : List Value) (a : Nat) (ha : a + w.write.length ≤ 65536) (b bv y : Nat) (hbv : b ≠ bv) (H : AHeap) (I : Nat → AHeap → Prop) (D : AHeap → Prop) (h0 : I 0 H) (hb : H[b]? = some (inO a))
  (hI : ∀ n H1, I n H1 → WiOk b bv w csw H1) (hlen : ∀ n H1, I n H1 → H.length ≤ H1.length) (hrd : ∀ n H1, I n H1 → Kept H H1) (hx : ∀ n H1 X, I n H1 → I n (H1 ++ X)) (hs : ∀ n H1 z, I n H1 → I n (H1.set b (inO z)))
  (hy : ∀ n H1, n < w.kids.length → I n H1 → H1[b]? = some (inO (a + (preW w n + kW w n) : Nat)) → AY Tryd.prog y [.int .i64 (n : Nat), .int .i64 (a + (preW w n + kW w n) : Nat)] H1 (fun u H2 => ∃ r, u = .bool r ∧ (r = true → I (n + 1) H2 ∧ H2[b]? = some (inO (a + (preW w n + kW w n) : Nat)) ∧ ∀ j o, H.length ≤ j → H1[j]? = some o → H2[j]? = some o) ∧ (r = false → D H2))) :
  AC Tryd.prog 69 [.func (.yield y) ⟨[]⟩ ⟨[]⟩, .pointer (some ⟨b, 0, none⟩), .pointer (some ⟨bv, 0, none⟩)] H (fun r H2 => r = .ret noVal ∧ (I w.kids.length H2 ∨ D H2)) := by
 have hI0 := hI 0 H h0
 have hv0 := hI0.v
 unfold inO plO at *
 have hbl := lt_of_get hb
 have hw5 := hI0.rd.len
 have hw1 : IntKind.i64.wrap ((a : Int) + 1) = ((a + 1 : Nat) : Int) := by rw [wi64 (by omega)]; omega
 obtain ⟨k, n, sx, kids, keys⟩ := w
 have hkd := hok.kids_le
 dsimp only [BV.kids, BV.kind] at hkd hy hkind ⊢
 have hRw0 := hI0.rd
 unfold RdV at hRw0
 obtain ⟨vk, vs, css, rfl, hk1, hkL, hk3⟩ := hRw0
 have hcl := hkL.len
 have hset : ∀ o : AObj, (H.set b o)[bv]? = H[bv]? := fun o => List.getElem?_set_ne hbv
 have q1 : ∀ H' K, lenW Tryd.prog 23 vk H' K = K (.int .i64 (kids.length : Nat)) H' := fun H' K => by rw [hk1.lenT (by simp only [go_sem, sevalprocAttr, reduceCtorEq]), hcl]
 have hh0 : I 0 (H.set b (.cells [.int .i64 ((a + 1 : Nat) : Int)] ⟨3, 0, true, 0, none⟩)) := hs 0 H _ h0
 have hh1 : (H.set b (.cells [.int .i64 ((a + 1 : Nat) : Int)] ⟨3, 0, true, 0, none⟩))[b]? = some (.cells [.int .i64 ((a + 1 : Nat) : Int)] ⟨3, 0, true, 0, none⟩) := List.getElem?_set_self hbl
 have hsn : (H.set b (.cells [.int .i64 ((a + 1 : Nat) : Int)] ⟨3, 0, true, 0, none⟩))[bv]? = H[bv]? := List.getElem?_set_ne hbv
 refine AC.enter Tryd.func69 rfl (by kernel_rfl) 46 rfl [] rfl (by simp) fun hsc B => ?_
 repeat first | with_reducible refine AWP.ctl (by constructor) ?_ | ((with_reducible (first | refine AWP.region ?_ ?_ | refine AWP.condT ?_ ?_)); exact rfl) | ((with_reducible refine AWP.condF ?_ ?_); exact rfl) | simp only [go_sem, sevalprocAttr, reduceCtorEq, hb, hbl, hw1, hv0, hsn, q1] | simp (disch := omega) only [wz]
 refine AWP.loopP (fun st : Nat × AHeap => ⟨[(0, .func (.yield y) ⟨[]⟩ ⟨[]⟩), (1, .pointer (some ⟨b, 0, none⟩)), (2, .pointer (some ⟨bv, 0, none⟩)), (9, vk), (10, .int .i64 (kids.length : Nat)), (11, .int .i64 (st.1 : Nat))], [], st.2⟩)
  (fun st => st.1 ≤ kids.length ∧ I st.1 st.2 ∧ st.2[b]? = some (.cells [.int .i64 ((a + preW (.mk k n sx kids keys) st.1 : Nat) : Int)] ⟨3, 0, true, 0, none⟩)) (fun st => kids.length - st.1) (0, _) ?_ ⟨Nat.zero_le _, hh0, hh1⟩ ?_
 ·exact Weak.env (by simp [envIn, lk_cons, wth_some])
 rintro ⟨q, Hc⟩ ⟨hq, hIq, hbq⟩
 dsimp only at hq hIq hbq ⊢
 by_cases hlt : q < kids.length
 ·have hlt' : (q : Int) < (kids.length : Int) := by omega
  obtain ⟨hokq, hlenq⟩ := hok.kid hkind hlt
  dsimp only [BV.kids] at hokq hlenq
  have hIo := hI q Hc hIq
  have hvq := hIo.v
  unfold plO at hvq
  have hkd0 := hrd q Hc hIq
  have hk1q := hk1.kept hkd0
  have hk3q := hk3.kept hkd0
  obtain ⟨bk, offk, capk, csk, kk, rfl, hcapk, hbk, hownk, heszk, hrow⟩ := RdK.row hk1q (by omega)
  obtain ⟨rq, hrq, hRq⟩ := hkL.at_ (List.getElem?_eq_getElem hlt)
  obtain ⟨hro, hrt⟩ := hrow q rq hrq
  have hq2 : (q : Int) < (css.length : Int) := by omega
  have hrq5 := hRq.len
  have hflq := RdV_flat hRq
  have hputq := box_put0 rq hrq5
  have htq := take5 rq hrq5
  have hbl0 := lt_of_get hbq
  have hbvl := lt_of_get hvq
  have hlHc := hlen q Hc hIq
  have hwq : IntKind.i64.wrap ((q : Int) + 1) = ((q + 1 : Nat) : Int) := by rw [wi64 (by omega)]; omega
  obtain ⟨Hd, hHd⟩ : ∃ Hd : AHeap, Hd = Hc ++ [.cells rq ⟨26, 0, true, 0, none⟩] := ⟨_, rfl⟩
  have hId : I q Hd := by rw [hHd]; exact hx _ _ _ hIq
  have hbd : Hd[b]? = some (.cells [.int .i64 ((a + preW (.mk k n sx kids keys) q : Nat) : Int)] ⟨3, 0, true, 0, none⟩) := by rw [hHd, hgetl hbl0]; exact hbq
  have hvd : Hd[bv]? = Hc[bv]? := by rw [hHd, hgetl hbvl]
  rw [hvq] at hvd
  have hnd : Hd[Hc.length]? = some (.cells rq ⟨26, 0, true, 0, none⟩) := by rw [hHd, hget0 rfl]; rfl
  have hld : b < Hd.length := lt_of_get hbd
  have hyq := fun H1 h1 h2 => hy q H1 hlt h1 h2
  repeat first | with_reducible refine AWP.seqE (x := .seq (.region 4 _ _) _) (J := fun st => ∃ He, st = ⟨[(0, .func (.yield y) ⟨[]⟩ ⟨[]⟩), (1, .pointer (some ⟨b, 0, none⟩)), (2, .pointer (some ⟨bv, 0, none⟩)), (4, .int .i64 (q : Nat)), (5, .pointer (some ⟨Hc.length, 0, none⟩)), (9, .slice (some ⟨bk, offk, none⟩) css.length capk), (10, .int .i64 (kids.length : Nat)), (11, .int .i64 (q : Nat))], [], He⟩ ∧ I q He ∧ He[b]? = some (inO (a + (preW (.mk k n sx kids keys) q + kW (.mk k n sx kids keys) q) : Nat)) ∧ He[Hc.length]? = some (.cells rq ⟨26, 0, true, 0, none⟩)) ?_ ?_ | with_reducible refine AWP.ctl (by constructor) ?_ | ((with_reducible (first | refine AWP.region ?_ ?_ | refine AWP.condT ?_ ?_)); exact rfl) | ((with_reducible refine AWP.condF ?_ ?_); exact rfl) | simp only [go_sem, sevalprocAttr, reduceCtorEq, hlt', hq2, hbk, hro, hrt, hrq5, hflq, hputq] | simp (disch := omega) only [wz]
  ·rw [← hHd]
   rcases hkind with k3 | k4
   ·have e4 : (k == 4) = false := by rw [k3]; rfl
    have hkw : kW (.mk k n sx kids keys) q = 0 := by rw [k3]; exact kW3 q
    rw [hkw, Nat.add_zero]
    repeat first | with_reducible refine AWP.ctl (by constructor) ?_ | ((with_reducible (first | refine AWP.region ?_ ?_ | refine AWP.condT ?_ ?_)); exact rfl) | ((with_reducible refine AWP.condF ?_ ?_); exact rfl) | simp only [go_sem, sevalprocAttr, reduceCtorEq, hvd, e4] | simp (disch := omega) only [wz]
    exact ⟨_, ⟨_, rfl, hId, hbd, hnd⟩, Weak.env (by simp [envIn, lk_cons, wth_some])⟩
   ·have e4 : (k == 4) = true := by rw [k4]; rfl
    have hkeyl : keys.length = kids.length := (form_asc hok.form k4).2
    have hqy : q < keys.length := by omega
    have hkw : kW (.mk k n sx kids keys) q = (BV.wText keys[q]).length := by
     rw [k4, kW4, List.getD_eq_getElem?_getD, List.getElem?_eq_getElem hqy]; rfl
    have hwt : (BV.wText keys[q]).length = (Lib.itoa (keys[q].length : Nat)).length + 1 + keys[q].length := by unfold BV.wText; simp; omega
    rw [hkw] at hlenq ⊢
    obtain ⟨by_, offy, capy, csy, ky, hvs, hcapy, hby, howny, heszy, hrowy⟩ := RdK.row (hk3q.kept (Kept.more _ [.cells rq ⟨26, 0, true, 0, none⟩])) (by rw [keyC_len]; omega)
    rw [← hHd] at hby
    obtain ⟨hyo, hyt⟩ := hrowy q _ (keyC_at hqy)
    have hyat : csy[offy + q]? = some (.string (bs keys[q])) := by
     have h1 := congrArg (fun l => l[0]?) hyt
     simpa using h1
    have hq3 : (q : Int) < ((keyC keys).length : Int) := by rw [keyC_len]; omega
    have hTd : TabH Hd := by rw [hHd]; exact hIo.tab.more _
    have hDg := digits keys[q].length (by omega) Hd hTd
    have hsb : ∀ o : AObj, (Hd.set b o)[b]? = some o := fun o => List.getElem?_set_self hld
    have hsn2 : ∀ o : AObj, (Hd.set b o)[Hc.length]? = Hd[Hc.length]? := fun o => List.getElem?_set_ne (by omega)
    subst hvs
    repeat first | with_reducible refine AWP.ctl (by constructor) ?_ | ((with_reducible (first | refine AWP.region ?_ ?_ | refine AWP.condT ?_ ?_)); exact rfl) | ((with_reducible refine AWP.condF ?_ ?_); exact rfl) | simp only [go_sem, sevalprocAttr, reduceCtorEq, hvd, e4] | simp (disch := omega) only [wz]
    refine AWP.regionK 15 (by kernel_rfl) (by decide) (by kernel_rfl) ?_
    repeat first | with_reducible refine AWP.ctl (by constructor) ?_ | ((with_reducible (first | refine AWP.region ?_ ?_ | refine AWP.condT ?_ ?_)); exact rfl) | ((with_reducible refine AWP.condF ?_ ?_); exact rfl) | simp only [go_sem, sevalprocAttr, reduceCtorEq, hbd, hvd, hq3, hby, hyat, hld] | simp (disch := omega) only [wz]
    refine ARet.exq (hDg) (by simp only [go_sem, sevalprocAttr, reduceCtorEq]) ?_
    have hwd1 : IntKind.i64.wrap ((((Lib.itoa (keys[q].length : Nat)).length + 1 : Nat) : Int) + (keys[q].length : Nat)) = ((BV.wText keys[q]).length : Nat) := by rw [hwt, wi64 (by omega)]; omega
    have hwd2 : IntKind.i64.wrap (((a + preW (.mk k n sx kids keys) q : Nat) : Int) + ((BV.wText keys[q]).length : Nat)) = ((a + (preW (.mk k n sx kids keys) q + (BV.wText keys[q]).length) : Nat) : Int) := by rw [wi64 (by omega)]; omega
    simp only [binW_int, intW_add, hwd1, hwd2, exists_eq_left']
    repeat first | with_reducible refine AWP.ctl (by constructor) ?_ | ((with_reducible (first | refine AWP.region ?_ ?_ | refine AWP.condT ?_ ?_)); exact rfl) | ((with_reducible refine AWP.condF ?_ ?_); exact rfl) | simp only [go_sem, sevalprocAttr, reduceCtorEq, hwd1, hwd2] | simp (disch := omega) only [wz]
    refine ⟨_, ⟨_, rfl, hs _ _ _ hId, hsb _, by rw [hsn2]; exact hnd⟩, Weak.env (by simp [envIn, lk_cons, wth_some])⟩
  ·rintro st2 ⟨He, rfl, hIe, hbe, hne⟩
   unfold inO at hbe
   have hyv := hyq He hIe hbe
   repeat first | with_reducible refine AWP.ctl (by constructor) ?_ | ((with_reducible (first | refine AWP.region ?_ ?_ | refine AWP.condT ?_ ?_)); exact rfl) | ((with_reducible refine AWP.condF ?_ ?_); exact rfl) | simp only [go_sem, sevalprocAttr, reduceCtorEq, hbe] | simp (disch := omega) only [wz]
   refine AY.mono hyv ?_
   rintro v H3 ⟨r, rfl, hr1, hr2⟩
   cases r with
   | false =>
    repeat first | with_reducible refine AWP.ctl (by constructor) ?_ | ((with_reducible (first | refine AWP.region ?_ ?_ | refine AWP.condT ?_ ?_)); exact rfl) | ((with_reducible refine AWP.condF ?_ ?_); exact rfl) | simp only [go_sem, sevalprocAttr, reduceCtorEq] | simp (disch := omega) only [wz]
    exact ⟨_, _, .refl _ _ _, rfl, .inr (hr2 rfl)⟩
   | true =>
    obtain ⟨hI3, hb3, hk3⟩ := hr1 rfl
    have hn3 := hk3 _ _ hlHc hne
    have hbl3 := lt_of_get hb3
    have hI3o := hI _ _ hI3
    have hWq := wri_ar (v := kids[q]) hokq (H := H3) (cs := rq) (hRq.kept (hrd _ _ hI3)) hI3o.tab
    repeat first | with_reducible refine AWP.ctl (by constructor) ?_ | ((with_reducible (first | refine AWP.region ?_ ?_ | refine AWP.condT ?_ ?_)); exact rfl) | ((with_reducible refine AWP.condF ?_ ?_); exact rfl) | simp only [go_sem, sevalprocAttr, reduceCtorEq] | simp (disch := omega) only [wz]
    refine AWP.regionK 4 (by kernel_rfl) (by decide) (by kernel_rfl) ?_
    have hwe : IntKind.i64.wrap (((a + (preW (.mk k n sx kids keys) q + kW (.mk k n sx kids keys) q) : Nat) : Int) + ((kids[q]).write.length : Nat)) = ((a + preW (.mk k n sx kids keys) (q + 1) : Nat) : Int) := by
     rw [preW, kidW]
     simp only [BV.kids]
     rw [getD_mem hlt, wi64 (by omega)]; omega
    repeat first | with_reducible refine AWP.ctl (by constructor) ?_ | ((with_reducible (first | refine AWP.region ?_ ?_ | refine AWP.condT ?_ ?_)); exact rfl) | ((with_reducible refine AWP.condF ?_ ?_); exact rfl) | simp only [go_sem, sevalprocAttr, reduceCtorEq, hb3, hn3, hrq5, htq, hbl3] | simp (disch := omega) only [wz]
    refine ARet.exq (hWq) (by simp only [go_sem, sevalprocAttr, reduceCtorEq]) ?_
    repeat first | with_reducible refine AWP.ctl (by constructor) ?_ | ((with_reducible (first | refine AWP.region ?_ ?_ | refine AWP.condT ?_ ?_)); exact rfl) | ((with_reducible refine AWP.condF ?_ ?_); exact rfl) | simp only [go_sem, sevalprocAttr, reduceCtorEq, hwe, hwq] | simp (disch := omega) only [wz]
    refine ⟨(q + 1, _), Weak.env (by simp [envIn, lk_cons, wth_some]), by dsimp only; omega, hs _ _ _ hI3, ?_, by dsimp only; omega⟩
    exact List.getElem?_set_self hbl3
 ·have hlt' : ¬ (q : Int) < (kids.length : Int) := by omega
  have hqe : q = kids.length := by omega
  subst hqe
  repeat first | with_reducible refine AWP.ctl (by constructor) ?_ | ((with_reducible (first | refine AWP.region ?_ ?_ | refine AWP.condT ?_ ?_)); exact rfl) | ((with_reducible refine AWP.condF ?_ ?_); exact rfl) | simp only [go_sem, sevalprocAttr, reduceCtorEq, hlt'] | simp (disch := omega) only [wz]
  exact ⟨_, _, .refl _ _ _, rfl, .inl hIq⟩
end Go.Proofs.YthcdjconlfdidaaDoor

