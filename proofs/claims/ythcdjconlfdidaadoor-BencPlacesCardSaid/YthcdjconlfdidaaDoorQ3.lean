/-
  The walk of the specification's Place.
-/
import Derived.Test.YthcdjconlfdidaaDoorQ2
import Derived.Test.YthcdjconlfdidaaDoorEH
import Derived.Test.YthcdjconlfdidaaDoorEY
set_option linter.unusedVariables false
set_option linter.unusedSimpArgs false
set_option maxRecDepth 20000
set_option maxHeartbeats 4000000
namespace Go.Proofs.YthcdjconlfdidaaDoor
open Go Go.Aw Go.Proofs
theorem RdK.row {H : AHeap} {m : Nat} {v : Value} {l : List (List Value)} (h : RdK H m v l) (hl : 0 < l.length) :
    ∃ i off cap cs k, v = .slice (some ⟨i, off, none⟩) l.length cap ∧ l.length ≤ cap ∧ H[i]? = some (.cells cs k) ∧ k.own = false ∧ (k.esz = m ∨ k.esz = 0) ∧ ∀ j r, l[j]? = some r → off + (j * m + m) ≤ cs.length ∧ (cs.drop (off + j * m)).take m = r := by
  rcases h with ⟨rfl, rfl⟩ | ⟨i, off, cap, cs, k, e, hc, hi, ho, hz, hl, hr⟩
  · cases hl
  · refine ⟨i, off, cap, cs, k, e, hc, hi, ho, hz, fun j r hj => ⟨?_, hr j r hj⟩⟩
    have hlt := (List.getElem?_eq_some_iff.1 hj).1
    have : (j + 1) * m ≤ l.length * m := Nat.mul_le_mul_right m hlt
    rw [Nat.add_mul] at this
    omega
/-- A value of a text's size. -/
structure OkV (v : BV) : Prop where
  form : v.form = true
  nums : v.nums
  cnt : v.count ≤ 1000
  len : v.write.length ≤ 65536
theorem countL_mem : ∀ {l : List BV} {c : BV}, c ∈ l → c.count ≤ BV.countL l
  | v :: l, c, h => by
    rw [BV.countL]
    rcases List.mem_cons.1 h with rfl | h
    · omega
    · have := countL_mem h; omega
theorem countL_ge : ∀ (l : List BV), l.length ≤ BV.countL l
  | [] => Nat.zero_le _
  | v :: l => by
    have := countL_ge l
    have h1 : 1 ≤ v.count := by cases v; rw [BV.count]; omega
    rw [BV.countL, List.length_cons]; omega
theorem OkV.kids_le {v : BV} (h : OkV v) : v.kids.length ≤ 1000 := by
  obtain ⟨k, n, s, kids, keys⟩ := v
  have := h.cnt
  rw [BV.count] at this
  have := countL_ge kids
  show kids.length ≤ 1000
  omega
theorem OkV.kid {v : BV} (h : OkV v) (hk : v.kind = 3 ∨ v.kind = 4) {i : Nat} (hi : i < v.kids.length) : OkV v.kids[i] ∧ preW v i + kW v i + (v.kids[i]).write.length ≤ v.write.length := by
  obtain ⟨A, B, hw, hA⟩ := kid_at h.form hk hi
  have hl := congrArg List.length hw
  rw [List.length_append, List.length_append] at hl
  have hlen := h.len
  refine ⟨⟨form_kid h.form (List.getElem_mem hi), ?_, ?_, by omega⟩, by omega⟩
  · obtain ⟨k, n, s, kids, keys⟩ := v
    have := h.nums
    unfold BV.nums at this
    exact BV.numsL_iff.1 this.2 _ (List.getElem_mem hi)
  · obtain ⟨k, n, s, kids, keys⟩ := v
    have := h.cnt
    rw [BV.count] at this
    have h2 := countL_mem (List.getElem_mem hi)
    show (kids[i]).count ≤ 1000
    have h3 : (kids[i]).count ≤ BV.countL kids := h2
    omega
theorem OkV.keys_le {v : BV} (h : OkV v) : v.keys.length ≤ 1000 := by
  have h2 := h.kids_le
  obtain ⟨k, n, s, kids, keys⟩ := v
  show keys.length ≤ 1000
  have hf := h.form
  rw [form_shape, Bool.and_eq_true] at hf
  have hf1 := hf.1
  unfold shapeB at hf1
  dsimp only at hf1
  by_cases h4 : k = 4
  · have := (form_asc h.form h4).2
    have h3 : kids.length ≤ 1000 := h2
    omega
  · by_cases k1 : k = 1
    · rw [if_pos k1] at hf1; simp at hf1; simp [hf1]
    · by_cases k2 : k = 2
      · rw [if_neg k1, if_pos k2] at hf1; simp at hf1; simp [hf1]
      · by_cases k3 : k = 3
        · rw [if_neg k1, if_neg k2, if_pos k3] at hf1; simp at hf1; simp [hf1]
        · rw [if_neg k1, if_neg k2, if_neg k3, if_neg h4] at hf1; simp at hf1
theorem parse_ok {s : List UInt8} (h : (parseR s).2 = 0) : OkV (parseR s).1 ∧ (parseR s).1.valid = true ∧ s = (parseR s).1.write := by
  have he : parseR s = ((parseR s).1, 0) := by rw [← h]
  obtain ⟨h1, h2, h3⟩ := parse_inv he
  refine ⟨?_, h1, h3⟩
  unfold BV.valid at h1
  simp only [Bool.and_eq_true, decide_eq_true_eq] at h1
  exact ⟨h1.1.1.1, h2, h1.1.1.2, h1.2⟩
theorem wr_ar {v : BV} (h : OkV v) {H : AHeap} {cs : List Value} (hR : RdV H v cs) : ARet Tryd.prog 32 [.agg ⟨cs⟩] H (.string (bs v.write)) H :=
  AC.forget rfl (rWrite v h.form h.nums H cs hR (by have := h.len; omega))
theorem fr0 {A B C : AHeap} (h1 : Frm [] A B) (h2 : Frm [] B C) : Frm [] A C := h1.trans h2 (fun x hx => by cases hx)
structure PLp where
  j : Nat
  w : BV
  csw : List Value
  a : Nat
def PLI (H : AHeap) (path : List Tx) (R : Int × Int × Int) (p : PLp) : Prop :=
  p.j ≤ path.length ∧ RdV H p.w p.csw ∧ OkV p.w ∧ p.a + p.w.write.length ≤ 65536 ∧ placeR p.w p.a (path.drop p.j) = R
def plO (cs : List Value) : AObj := .cells cs ⟨26, 0, true, 0, none⟩
/-- Where the inner loop stands. -/
def inW (w : BV) (a i k : Nat) : Nat := if k ≤ i then a + preW w k else a + preW w i + kW w i
theorem rPlace (s : List UInt8) (path : List Tx) (hp : ∀ t ∈ path, t.length ≤ 1099511627776) (hpl : path.length ≤ 1099511627776) (H : AHeap) (vp : Value) (hP : RdK H 1 vp (keyC path)) :
    AC Tryd.prog 22 [.string (bs s), vp] H (fun r H2 => r = .ret (.tuple ⟨[.int .i64 (placeT s path).1, .int .i64 (placeT s path).2.1, .int .i64 (placeT s path).2.2]⟩) ∧ Frm [] H H2) := by
  have hkl : (keyC path).length = path.length := by unfold keyC; simp
  have hX := rParse s H
  have q1 : ∀ H' K, lenW Tryd.prog 24 vp H' K = K (.int .i64 (path.length : Nat)) H' := fun H' K => by rw [hP.lenT (by simp only [go_sem, sevalprocAttr, reduceCtorEq]), hkl]
  unfold placeT
  have hpo := @parse_ok s
  generalize hPR : parseR s = PR at *
  obtain ⟨v, e⟩ := PR
  dsimp only at hpo ⊢
  refine AC.enter Tryd.func22 rfl (by kernel_rfl) 80 rfl [.tmp 4, .tmp 5, .tmp 6] rfl (by simp) fun hsc B => ?_
  repeat first | with_reducible refine AWP.ctl (by constructor) ?_ | ((with_reducible (first | refine AWP.region ?_ ?_ | refine AWP.condT ?_ ?_)); exact rfl) | ((with_reducible refine AWP.condF ?_ ?_); exact rfl) | simp only [go_sem, sevalprocAttr, reduceCtorEq, exists_eq_left] | simp (disch := omega) only [wz] | with_reducible_and_instances exact finR | ((with_reducible refine finR' ?_ ?_) <;> rfl) | ((with_reducible refine finD hsc (NRel.of_plain ?_)); exact rfl)
  refine AC.mono hX ?_
  rintro res H1 ⟨cs, rfl, hf1, hR1⟩
  dsimp only at hR1 ⊢
  have hr5 := hR1.len
  have hfl := RdV_flat hR1
  have hput := box_put0 cs hr5
  by_cases he : e = 0
  · subst he
    obtain ⟨hok, hval, hsw⟩ := hpo rfl
    rw [if_neg (by decide)]
    have hl0 := hok.len
    have hP1 := hP.kept (Kept.frm hf1 (fun x hx => by cases hx))
    repeat first | with_reducible refine AWP.ctl (by constructor) ?_ | ((with_reducible (first | refine AWP.region ?_ ?_ | refine AWP.condT ?_ ?_)); exact rfl) | ((with_reducible refine AWP.condF ?_ ?_); exact rfl) | simp only [go_sem, sevalprocAttr, reduceCtorEq, hput, hr5, hfl, q1] | simp (disch := omega) only [wz] | with_reducible_and_instances exact finR | ((with_reducible refine finR' ?_ ?_) <;> rfl) | ((with_reducible refine finD hsc (NRel.of_plain ?_)); exact rfl)
    refine AWP.loopP (fun p : PLp => ⟨[(4, .int .i64 (p.a : Nat)), (5, .int .i64 0), (6, .int .i64 0), (7, .pointer (some ⟨H1.length, 0, none⟩)), (21, vp), (22, .int .i64 (path.length : Nat)), (23, .int .i64 (p.j : Nat))], [], H1 ++ [plO p.csw]⟩)
      (PLI H1 path (placeR v 0 path)) (fun p => path.length - p.j) ⟨0, v, cs, 0⟩ ?_ ⟨Nat.zero_le _, hR1, hok, by dsimp only; omega, rfl⟩ ?_
    · exact Weak.env (by simp [envIn, lk_cons, wth_some])
    rintro ⟨j, w, csw, a⟩ ⟨hj, hRw, hokw, ha, hgo⟩
    dsimp only at hj hRw hokw ha hgo ⊢
    rw [← hgo]
    have hfw := RdV_flat hRw
    have hw5 := hRw.len
    have htw : List.take 5 csw = csw := List.take_of_length_le (by omega)
    unfold plO
    by_cases hlt : j < path.length
    · have hlt' : (j : Int) < (path.length : Int) := by omega
      obtain ⟨bi, off, cap, cs', k', rfl, hcap, hbi, hown, hesz, hle, htk⟩ := hP1.at_ (keyC_at hlt)
      have hbil := lt_of_get hbi
      have hlt2 : (j : Int) < ((keyC path).length : Int) := by omega
      have hdrop : path.drop j = path[j] :: path.drop (j + 1) := List.drop_eq_getElem_cons hlt
      have hpj := hp path[j] (List.getElem_mem hlt)
      have hwj : IntKind.i64.wrap ((j : Int) + 1) = ((j + 1 : Nat) : Int) := by rw [wi64 (by omega)]; omega
      rw [hdrop, placeR]
      generalize path[j] = t at *
      have hat2 : cs'[off + j]? = some (.string (bs t)) := by
        have h1 := congrArg (fun l => l[0]?) htk
        simpa using h1
      obtain ⟨k, n, sx, kids, keys⟩ := w
      have hkd := hokw.kids_le
      have hky := hokw.keys_le
      dsimp only [BV.kids, BV.keys] at hkd hky
      have hHb : ∀ (X : AHeap) i, i < H1.length → (H1 ++ X)[i]? = H1[i]? := fun X i h => hgetl h
      have hbi2 : ∀ X : AHeap, (H1 ++ X)[bi]? = some (.cells cs' k') := fun X => by rw [hgetl hbil]; exact hbi
      obtain ⟨z, hS, hz⟩ := rStep k n sx kids keys hkd (by omega) t hpj (H1 ++ [.cells csw ⟨26, 0, true, 0, none⟩]) csw (hRw.kept (Kept.more _ _))
      unfold StepP at hz
      have hw1 : IntKind.i64.wrap ((a : Int) + 1) = ((a + 1 : Nat) : Int) := by rw [wi64 (by omega)]; omega
      repeat first | with_reducible refine AWP.ctl (by constructor) ?_ | ((with_reducible (first | refine AWP.region ?_ ?_ | refine AWP.condT ?_ ?_)); exact rfl) | ((with_reducible refine AWP.condF ?_ ?_); exact rfl) | with_reducible refine hS.use ?_ | simp only [go_sem, sevalprocAttr, reduceCtorEq, hlt', hlt2, hbi2, hat2, hw5, htw] | simp (disch := omega) only [wz] | with_reducible_and_instances exact finR | ((with_reducible refine finR' ?_ ?_) <;> rfl) | ((with_reducible refine finD hsc (NRel.of_plain ?_)); exact rfl)
      by_cases hse : (stepR (.mk k n sx kids keys) t).2 = 0
      · rw [if_pos hse, hse]
        obtain ⟨i, hi, hie⟩ := stepR_ok hokw.form hse
        rw [hie, Int.toNat_natCast]
        rw [hz hse, hie]
        have hkind := stepR_kind hse
        dsimp only [BV.kids, BV.kind] at hi hkind ⊢
        rw [getD_mem hi]
        have hwi : IntKind.i64.wrap ((i : Int) + 1) = ((i + 1 : Nat) : Int) := by rw [wi64 (by omega)]; omega
        have hkidk : ∀ k2 (h : k2 < kids.length), OkV kids[k2] ∧ preW (.mk k n sx kids keys) k2 + kW (.mk k n sx kids keys) k2 + (kids[k2]).write.length ≤ (BV.mk k n sx kids keys).write.length := fun k2 h => hokw.kid hkind h
        have hRw0 := hRw
        unfold RdV at hRw0
        obtain ⟨vk, vs, css, rfl, hk1, hkL, hk3⟩ := hRw0
        have hcl := hkL.len
        obtain ⟨bk, offk, capk, csk, kk, rfl, hcapk, hbk, hownk, heszk, hrow⟩ := RdK.row hk1 (by omega)
        have hbkl := lt_of_get hbk
        have hbk2 : ∀ X : AHeap, (H1 ++ X)[bk]? = some (.cells csk kk) := fun X => by rw [hgetl hbkl]; exact hbk
        have hlw := hokw.len
        generalize hW0 : (BV.mk k n sx kids keys).write.length = W0 at *
        repeat first | with_reducible refine AWP.ctl (by constructor) ?_ | ((with_reducible (first | refine AWP.region ?_ ?_ | refine AWP.condT ?_ ?_)); exact rfl) | ((with_reducible refine AWP.condF ?_ ?_); exact rfl) | simp only [go_sem, sevalprocAttr, reduceCtorEq, hwi, hw1] | simp (disch := omega) only [wz] | with_reducible_and_instances exact finR | ((with_reducible refine finR' ?_ ?_) <;> rfl) | ((with_reducible refine finD hsc (NRel.of_plain ?_)); exact rfl)
        have hbx : ∀ X : AHeap, (H1 ++ plO [.int .i64 k, .int .i64 n, .string (bs sx), .slice (some ⟨bk, offk, none⟩) css.length capk, vs] :: X)[H1.length]? = some (.cells [.int .i64 k, .int .i64 n, .string (bs sx), .slice (some ⟨bk, offk, none⟩) css.length capk, vs] ⟨26, 0, true, 0, none⟩) := fun X => by rw [hget0 rfl]; rfl
        have hbx0 := hbx []
        refine AWP.loopP (fun q : Nat => ⟨[(4, .int .i64 (inW (.mk k n sx kids keys) a i q : Nat)), (5, .int .i64 0), (6, .int .i64 0), (7, .pointer (some ⟨H1.length, 0, none⟩)), (10, .int .i64 (i : Nat)), (21, .slice (some ⟨bi, off, none⟩) (keyC path).length cap), (22, .int .i64 (path.length : Nat)), (23, .int .i64 (j : Nat)), (39, .int .i64 (i + 1 : Nat)), (40, .int .i64 (q : Nat))], [], H1 ++ [plO [.int .i64 k, .int .i64 n, .string (bs sx), .slice (some ⟨bk, offk, none⟩) css.length capk, vs]]⟩)
          (fun q => q ≤ i + 1) (fun q => i + 1 - q) 0 ?_ (Nat.zero_le _) ?_
        · rw [show inW (.mk k n sx kids keys) a i 0 = a + 1 by unfold inW; rw [if_pos (Nat.zero_le _)]; rfl]
          exact Weak.env (by simp [envIn, lk_cons, wth_some])
        rintro q hq
        dsimp only at hq ⊢
        by_cases hqi : q < i + 1
        · have hqi' : (q : Int) < ((i + 1 : Nat) : Int) := by omega
          have hin : inW (.mk k n sx kids keys) a i q = a + preW (.mk k n sx kids keys) q := by unfold inW; rw [if_pos (by omega)]
          have hqk : q < kids.length := by omega
          obtain ⟨hokq, hlenq⟩ := hkidk q hqk
          obtain ⟨rq, hrq, hRq⟩ := hkL.at_ (List.getElem?_eq_getElem hqk)
          obtain ⟨hro, hrt⟩ := hrow q rq hrq
          have hq2 : (q : Int) < (css.length : Int) := by omega
          have hrq5 := hRq.len
          have hflq := RdV_flat hRq
          have hWq := wr_ar hokq (hRq.kept (Kept.more _ [plO [.int .i64 k, .int .i64 n, .string (bs sx), .slice (some ⟨bk, offk, none⟩) css.length capk, vs]]))
          have hwq : IntKind.i64.wrap ((q : Int) + 1) = ((q + 1 : Nat) : Int) := by rw [wi64 (by omega)]; omega
          rw [hin]
          have hlq := hokq.len
          rcases hkind with k3 | k4
          · have e4 : (k == 4) = false := by rw [k3]; rfl
            have hkw : kW (.mk k n sx kids keys) q = 0 := by rw [k3]; exact kW3 q
            rw [hkw] at hlenq
            by_cases hqi2 : q < i
            · have hqi2' : (q : Int) < (i : Int) := by omega
              have hwa : IntKind.i64.wrap (((a + preW (.mk k n sx kids keys) q : Nat) : Int) + ((kids[q]).write.length : Nat)) = ((inW (.mk k n sx kids keys) a i (q + 1) : Nat) : Int) := by
                unfold inW
                rw [if_pos (by omega), preW, hkw, kidW]
                simp only [BV.kids]
                rw [getD_mem hqk, wi64 (by omega)]; omega
              repeat first | with_reducible refine AWP.ctl (by constructor) ?_ | ((with_reducible (first | refine AWP.region ?_ ?_ | refine AWP.condT ?_ ?_)); exact rfl) | ((with_reducible refine AWP.condF ?_ ?_); exact rfl) | with_reducible refine hWq.use ?_ | simp only [go_sem, sevalprocAttr, reduceCtorEq, hqi', hbx0, e4, hqi2', hq2, hbk2, hro, hrt, hrq5, hflq, hwa, hwq] | simp (disch := omega) only [wz] | with_reducible_and_instances exact finR | ((with_reducible refine finR' ?_ ?_) <;> rfl) | ((with_reducible refine finD hsc (NRel.of_plain ?_)); exact rfl)
              refine ⟨q + 1, ?_, by omega, by omega⟩
              exact Weak.env (by simp [envIn, lk_cons, wth_some])
            · have hqi2' : ¬ (q : Int) < (i : Int) := by omega
              have hqe : q = i := by omega
              have hin2 : inW (.mk k n sx kids keys) a i (q + 1) = a + preW (.mk k n sx kids keys) q := by
                unfold inW; rw [if_neg (by omega), ← hqe, hkw]; omega
              repeat first | with_reducible refine AWP.ctl (by constructor) ?_ | ((with_reducible (first | refine AWP.region ?_ ?_ | refine AWP.condT ?_ ?_)); exact rfl) | ((with_reducible refine AWP.condF ?_ ?_); exact rfl) | simp only [go_sem, sevalprocAttr, reduceCtorEq, hqi', hbx0, e4, hqi2', hwq] | simp (disch := omega) only [wz] | with_reducible_and_instances exact finR | ((with_reducible refine finR' ?_ ?_) <;> rfl) | ((with_reducible refine finD hsc (NRel.of_plain ?_)); exact rfl)
              refine ⟨q + 1, ?_, by omega, by omega⟩
              rw [hin2]
              exact Weak.env (by simp [envIn, lk_cons, wth_some])
          · have e4 : (k == 4) = true := by rw [k4]; rfl
            have hkeyl : keys.length = kids.length := (form_asc hokw.form k4).2
            have hqy : q < keys.length := by omega
            have hkw : kW (.mk k n sx kids keys) q = (BV.wText keys[q]).length := by
              rw [k4, kW4, List.getD_eq_getElem?_getD, List.getElem?_eq_getElem hqy]; rfl
            rw [hkw] at hlenq
            have hkq : keys[q].length ≤ 1099511627776 := by
              have : (BV.wText keys[q]).length = (Lib.itoa (keys[q].length : Nat)).length + (keys[q].length + 1) := by unfold BV.wText; simp
              omega
            obtain ⟨by_, offy, capy, csy, ky, hvs, hcapy, hby, howny, heszy, hrowy⟩ := RdK.row hk3 (by rw [keyC_len]; omega)
            obtain ⟨hyo, hyt⟩ := hrowy q _ (keyC_at hqy)
            have hyat : csy[offy + q]? = some (.string (bs keys[q])) := by
              have h1 := congrArg (fun l => l[0]?) hyt
              simpa using h1
            have hbyl := lt_of_get hby
            have hby2 : ∀ X : AHeap, (H1 ++ X)[by_]? = some (.cells csy ky) := fun X => by rw [hgetl hbyl]; exact hby
            have hq3 : (q : Int) < ((keyC keys).length : Int) := by rw [keyC_len]; omega
            have hTx := rText2 keys[q] hkq (H1 ++ [plO [.int .i64 k, .int .i64 n, .string (bs sx), .slice (some ⟨bk, offk, none⟩) css.length capk, vs]])
            have hwb : IntKind.i64.wrap (((a + preW (.mk k n sx kids keys) q : Nat) : Int) + ((BV.wText keys[q]).length : Nat)) = ((a + preW (.mk k n sx kids keys) q + (BV.wText keys[q]).length : Nat) : Int) := by rw [wi64 (by omega)]; omega
            by_cases hqi2 : q < i
            · have hqi2' : (q : Int) < (i : Int) := by omega
              have hin3 : inW (.mk k n sx kids keys) a i (q + 1) = a + (preW (.mk k n sx kids keys) q + (BV.wText keys[q]).length + (kids[q]).write.length) := by
                unfold inW
                rw [if_pos (by omega), preW, hkw, kidW]
                simp only [BV.kids]
                rw [getD_mem hqk]
              subst hvs
              repeat first | with_reducible refine AWP.ctl (by constructor) ?_ | ((with_reducible (first | refine AWP.region ?_ ?_ | refine AWP.condT ?_ ?_)); exact rfl) | ((with_reducible refine AWP.condF ?_ ?_); exact rfl) | with_reducible refine hTx.use ?_ | with_reducible refine hWq.use ?_ | simp only [go_sem, sevalprocAttr, reduceCtorEq, hqi', hbx0, e4, hqi2', hq2, hq3, hby2, hyat, hbk2, hro, hrt, hrq5, hflq, hwq] | simp (disch := omega) only [wz] | with_reducible_and_instances exact finR | ((with_reducible refine finR' ?_ ?_) <;> rfl) | ((with_reducible refine finD hsc (NRel.of_plain ?_)); exact rfl)
              refine ⟨q + 1, ?_, by omega, by omega⟩
              rw [hin3]
              exact Weak.env (by simp [envIn, lk_cons, wth_some]; omega)
            · have hqi2' : ¬ (q : Int) < (i : Int) := by omega
              have hqe : q = i := by omega
              have hin2 : inW (.mk k n sx kids keys) a i (q + 1) = a + preW (.mk k n sx kids keys) q + (BV.wText keys[q]).length := by
                unfold inW; rw [if_neg (by omega)]
                rw [← hkw]
                subst hqe
                rfl
              subst hvs
              repeat first | with_reducible refine AWP.ctl (by constructor) ?_ | ((with_reducible (first | refine AWP.region ?_ ?_ | refine AWP.condT ?_ ?_)); exact rfl) | ((with_reducible refine AWP.condF ?_ ?_); exact rfl) | with_reducible refine hTx.use ?_ | simp only [go_sem, sevalprocAttr, reduceCtorEq, hqi', hbx0, e4, hqi2', hq3, hby2, hyat, hwq] | simp (disch := omega) only [wz] | with_reducible_and_instances exact finR | ((with_reducible refine finR' ?_ ?_) <;> rfl) | ((with_reducible refine finD hsc (NRel.of_plain ?_)); exact rfl)
              refine ⟨q + 1, ?_, by omega, by omega⟩
              rw [hin2]
              exact Weak.env (by simp [envIn, lk_cons, wth_some])
        · have hqi' : ¬ (q : Int) < ((i + 1 : Nat) : Int) := by omega
          have hin : inW (.mk k n sx kids keys) a i q = a + (preW (.mk k n sx kids keys) i + kW (.mk k n sx kids keys) i) := by unfold inW; rw [if_neg (by omega)]; omega
          rw [hin]
          obtain ⟨hoki, hleni⟩ := hkidk i hi
          obtain ⟨ri, hri, hRi⟩ := hkL.at_ (List.getElem?_eq_getElem hi)
          obtain ⟨hro, hrt⟩ := hrow i ri hri
          have hi2 : (i : Int) < (css.length : Int) := by omega
          have hri5 := hRi.len
          have hfli := RdV_flat hRi
          have hputi : putCells [.int .i64 k, .int .i64 n, .string (bs sx), .slice (some ⟨bk, offk, none⟩) css.length capk, vs] 0 ri = ri := by
            match ri, hri5 with
            | [_, _, _, _, _], _ => rfl
          repeat first | with_reducible refine AWP.ctl (by constructor) ?_ | ((with_reducible (first | refine AWP.region ?_ ?_ | refine AWP.condT ?_ ?_)); exact rfl) | ((with_reducible refine AWP.condF ?_ ?_); exact rfl) | simp only [go_sem, sevalprocAttr, reduceCtorEq, hqi', hbx0, hi2, hbk2, hro, hrt, hri5, hfli, hputi, hwj] | simp (disch := omega) only [wz] | with_reducible_and_instances exact finR | ((with_reducible refine finR' ?_ ?_) <;> rfl) | ((with_reducible refine finD hsc (NRel.of_plain ?_)); exact rfl)
          refine ⟨⟨j + 1, kids[i], ri, a + (preW (.mk k n sx kids keys) i + kW (.mk k n sx kids keys) i)⟩, ?_, ⟨by dsimp only; omega, hRi, hoki, by dsimp only; omega, rfl⟩, by dsimp only; omega⟩
          exact Weak.env (by simp [envIn, lk_cons, wth_some])
      · rw [if_neg hse]
        have he' : ((stepR (.mk k n sx kids keys) t).2 != 0) = true := by simpa using hse
        repeat first | with_reducible refine AWP.ctl (by constructor) ?_ | ((with_reducible (first | refine AWP.region ?_ ?_ | refine AWP.condT ?_ ?_)); exact rfl) | ((with_reducible refine AWP.condF ?_ ?_); exact rfl) | simp only [go_sem, sevalprocAttr, reduceCtorEq, he'] | simp (disch := omega) only [wz] | with_reducible_and_instances exact finR | ((with_reducible refine finR' ?_ ?_) <;> rfl) | ((with_reducible refine finD hsc (NRel.of_plain ?_)); exact rfl)
        exact ⟨_, _, .refl _ _ _, rfl, fr0 hf1 Frm.app⟩
    · have hlt' : ¬ (j : Int) < (path.length : Int) := by omega
      have hdrop : path.drop j = [] := List.drop_eq_nil_of_le (by omega)
      rw [hdrop, placeR]
      have hW := wr_ar hokw (hRw.kept (Kept.more _ [.cells csw ⟨26, 0, true, 0, none⟩]))
      have hwl : IntKind.i64.wrap ((a : Int) + (w.write.length : Nat)) = ((a + w.write.length : Nat) : Int) := by rw [wi64 (by omega)]; omega
      repeat first | with_reducible refine AWP.ctl (by constructor) ?_ | ((with_reducible (first | refine AWP.region ?_ ?_ | refine AWP.condT ?_ ?_)); exact rfl) | ((with_reducible refine AWP.condF ?_ ?_); exact rfl) | with_reducible refine hW.use ?_ | simp only [go_sem, sevalprocAttr, reduceCtorEq, hlt', hw5, htw, hwl] | simp (disch := omega) only [wz] | with_reducible_and_instances exact finR | ((with_reducible refine finR' ?_ ?_) <;> rfl) | ((with_reducible refine finD hsc (NRel.of_plain ?_)); exact rfl)
      exact ⟨_, _, .refl _ _ _, rfl, fr0 hf1 Frm.app⟩
  · rw [if_pos he]
    have he' : (e != 0) = true := by simpa using he
    repeat first | with_reducible refine AWP.ctl (by constructor) ?_ | ((with_reducible (first | refine AWP.region ?_ ?_ | refine AWP.condT ?_ ?_)); exact rfl) | ((with_reducible refine AWP.condF ?_ ?_); exact rfl) | simp only [go_sem, sevalprocAttr, reduceCtorEq, hput, hr5, hfl, he'] | simp (disch := omega) only [wz] | with_reducible_and_instances exact finR | ((with_reducible refine finR' ?_ ?_) <;> rfl) | ((with_reducible refine finD hsc (NRel.of_plain ?_)); exact rfl)
    exact ⟨_, _, .refl _ _ _, rfl, fr0 hf1 Frm.app⟩
end Go.Proofs.YthcdjconlfdidaaDoor

