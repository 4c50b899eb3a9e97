/-
  The specification's reader of bencoded values: values without parts.
-/
import Derived.Test.YthcdjconlfdidaaDoorEC
set_option linter.unusedVariables false
set_option linter.unusedSimpArgs false
set_option maxRecDepth 20000
set_option maxHeartbeats 4000000
namespace Go.Proofs.YthcdjconlfdidaaDoor
open Go Go.Aw Go.Proofs
/-- What reading a value gives. -/
def ValQ (s : List UInt8) (r : Nat) (H : AHeap) : Rr BV → ARes → AHeap → Prop
  | .ok v j n, res, H1 => ∃ cs, res = .ret (.agg ⟨cs⟩) ∧ Frm [r] H H1 ∧ H1[r]? = some (rfO s j n 0 0) ∧ RdV H1 v cs
  | .bad a e, res, H1 => ∃ cs w i n, res = .ret (.agg ⟨cs⟩) ∧ Frm [r] H H1 ∧ H1[r]? = some (rfO s i n a e) ∧ RdV H1 w cs ∧ e ≠ 0
theorem RdV_zero0 (H : AHeap) : RdV H .zero [.int .i64 0, .int .i64 0, .string (bs []), .slice none 0 0, .slice none 0 0] := by
  unfold BV.zero RdV
  exact ⟨_, _, [], rfl, .inl ⟨rfl, rfl⟩, by unfold RdL; rfl, .inl ⟨rfl, rfl⟩⟩
theorem rBegins {c : UInt8} (h : begins c = true) (h2 : dig c = false) : c = 105 ∨ c ≠ 105 ∧ c = 108 ∨ c ≠ 105 ∧ c ≠ 108 ∧ c = 100 := by
  unfold begins at h
  rw [h2] at h
  simp at h
  by_cases h1 : c = 105
  · exact .inl h1
  · by_cases h3 : c = 108
    · exact .inr (.inl ⟨h1, h3⟩)
    · exact .inr (.inr ⟨h1, h3, by simpa [h1, h3] using h⟩)
theorem rValue0 (s : List UInt8) (hs : s.length ≤ 65536) (lv deep r i n : Nat) (hlv : lv + deep = 13) (hi : i ≤ s.length) (hn : n ≤ 1000) (H : AHeap) (hr : H[r]? = some (rfO s i n 0 0))
    (hk : ∀ c lv', lv = lv' + 1 → s[i]? = some c → begins c = true → n + 1 ≤ 1000 → dig c = false → c ≠ 105 → AC Tryd.prog 28 [.pointer (some ⟨r, 0, none⟩), .int .i64 (deep : Nat)] H (ValQ s r H (restR (valR s lv') s c i (n + 1)))) :
    AC Tryd.prog 28 [.pointer (some ⟨r, 0, none⟩), .int .i64 (deep : Nat)] H (ValQ s r H (valR s lv i n)) := by
  have hrl := lt_of_get hr
  obtain ⟨H1, hH1⟩ : ∃ H1 : AHeap, H1 = H ++ [.cells [.int .i64 0, .int .i64 0, .string (bs []), .slice none 0 0, .slice none 0 0] ⟨26, 0, true, 0, none⟩] := ⟨_, rfl⟩
  have hr1 : H1[r]? = some (rfO s i n 0 0) := by rw [hH1, hgetl hrl]; exact hr
  have hrl1 := lt_of_get hr1
  have hf1 : Frm [r] H H1 := by rw [hH1]; exact Frm.app
  have hb1 : H1[H.length]? = some (.cells [.int .i64 0, .int .i64 0, .string (bs []), .slice none 0 0, .slice none 0 0] ⟨26, 0, true, 0, none⟩) := by rw [hH1, hget0 rfl]; rfl
  have hbl1 := lt_of_get hb1
  have hnr : H.length ≠ r := by omega
  have hr10 := hr1
  unfold rfO at hr10
  -- behind a failure at i
  have hWx : ∀ (m : Nat) (e : Int), ARet Tryd.prog 60 [.pointer (some ⟨r, 0, none⟩), .int .i64 (i : Nat), .int .i64 e] (H1.set r (rfO s i m 0 0)) noVal (H1.set r (rfO s i m i e)) := fun m e => by
    have := rWrong s r i m i e (H1.set r (rfO s i m 0 0)) (List.getElem?_set_self hrl1)
    rw [List.set_set] at this
    exact this
  have hfin : ∀ (o : AObj) (v : Value), v = .agg ⟨[.int .i64 0, .int .i64 0, .string (bs []), .slice none 0 0, .slice none 0 0]⟩ → (H1.set r o)[H.length]? = some (.cells [.int .i64 0, .int .i64 0, .string (bs []), .slice none 0 0, .slice none 0 0] ⟨26, 0, true, 0, none⟩) := fun o v _ => by rw [List.getElem?_set_ne (Ne.symm hnr)]; exact hb1
  have hb2 : ∀ o : AObj, (H1.set r o)[H.length]? = some (.cells [.int .i64 0, .int .i64 0, .string (bs []), .slice none 0 0, .slice none 0 0] ⟨26, 0, true, 0, none⟩) := fun o => by rw [List.getElem?_set_ne (Ne.symm hnr)]; exact hb1
  have hb3 : ∀ o o' : AObj, ((H1.set r o).set H.length o')[H.length]? = some o' := fun o o' => List.getElem?_set_self (by rw [List.length_set]; exact hbl1)
  have hbl2 : ∀ o : AObj, H.length < (H1.set r o).length := fun o => by rw [List.length_set]; exact hbl1
  have hend : ∀ (x o' : AObj), Frm [r] H ((H1.set r x).set H.length o') := fun x o' => Frm.set (Frm.set hf1 (.inl (by simp))) (.inr (Nat.le_refl _))
  have hrd : ∀ (x o' : AObj), ((H1.set r x).set H.length o')[r]? = some x := fun x o' => by rw [List.getElem?_set_ne hnr]; exact List.getElem?_set_self hrl1
  have hself : H1.set r (rfO s i n 0 0) = H1 := set_same hr1
  cases hc : s[i]? with
  | none =>
    have hle : s.length ≤ i := by
      rcases Nat.lt_or_ge i s.length with h | h
      · rw [List.getElem?_eq_getElem h] at hc; cases hc
      · exact h
    have hN := rNextEnd s r i n 0 0 hs hle _ hr1
    have hT : valR s lv i n = .bad i 2 := by
      have : i = s.length := by omega
      cases lv <;> (unfold valR; rw [hc]; rw [this])
    have hW := hWx n 2
    rw [hself] at hW
    unfold rfO at hW
    rw [hT]
    refine AC.enter Tryd.func28 rfl (by kernel_rfl) 176 rfl [.cell 4 26] rfl (by simp) fun hsc B => ?_
    repeat first | with_reducible refine AWP.ctl (by constructor) ?_ | ((with_reducible (first | refine AWP.region ?_ ?_ | refine AWP.condT ?_ ?_)); exact rfl) | ((with_reducible refine AWP.condF ?_ ?_); exact rfl) | simp only [go_sem, sevalprocAttr, reduceCtorEq] | simp (disch := omega) only [wz] | with_reducible_and_instances exact finR | ((with_reducible refine finR' ?_ ?_) <;> rfl) | ((with_reducible refine finD hsc (NRel.of_plain ?_)); exact rfl)
    rw [← hH1]
    repeat first | with_reducible refine AWP.ctl (by constructor) ?_ | ((with_reducible (first | refine AWP.region ?_ ?_ | refine AWP.condT ?_ ?_)); exact rfl) | ((with_reducible refine AWP.condF ?_ ?_); exact rfl) | with_reducible refine hN.use ?_ | with_reducible refine hW.use ?_ | simp only [go_sem, sevalprocAttr, reduceCtorEq, hr10, hrl1, hb2, hb3, hbl2, hsets, putCells, List.set_cons_succ, List.set_cons_zero, exists_eq_left] | simp (disch := omega) only [wz] | with_reducible_and_instances exact finR | ((with_reducible refine finR' ?_ ?_) <;> rfl) | ((with_reducible refine finD hsc (NRel.of_plain ?_)); exact rfl)
    exact ⟨_, _, .refl _ _ _, _, .zero, i, n, rfl, hend _ _, hrd _ _, RdV_zero0 _, by decide⟩
  | some c =>
    have hlt := (List.getElem?_eq_some_iff.1 hc).1
    have hN := rNext s r i n 0 0 c hs hc _ hr1
    have hD := rDigit c
    have e105 : ((c.toNat : Int) != 105) = !(c == 105) := congrArg (!·) (u8b (n := 105) rfl)
    have e108 : ((c.toNat : Int) != 108) = !(c == 108) := congrArg (!·) (u8b (n := 108) rfl)
    have e100 : ((c.toNat : Int) != 100) = !(c == 100) := congrArg (!·) (u8b (n := 100) rfl)
    cases hb : begins c with
    | false =>
      have hT : valR s lv i n = .bad i 2 := by cases lv <;> (unfold valR; rw [hc]; simp only; rw [if_pos hb])
      unfold begins at hb
      simp only [Bool.or_eq_false_iff] at hb
      obtain ⟨⟨⟨b1, b2⟩, b3⟩, b4⟩ := hb
      rw [b1] at e105
      rw [b2] at e108
      rw [b3] at e100
      rw [b4] at hD
      have hW := hWx n 2
      rw [hself] at hW
      unfold rfO at hW
      rw [hT]
      refine AC.enter Tryd.func28 rfl (by kernel_rfl) 176 rfl [.cell 4 26] rfl (by simp) fun hsc B => ?_
      repeat first | with_reducible refine AWP.ctl (by constructor) ?_ | ((with_reducible (first | refine AWP.region ?_ ?_ | refine AWP.condT ?_ ?_)); exact rfl) | ((with_reducible refine AWP.condF ?_ ?_); exact rfl) | simp only [go_sem, sevalprocAttr, reduceCtorEq] | simp (disch := omega) only [wz] | with_reducible_and_instances exact finR | ((with_reducible refine finR' ?_ ?_) <;> rfl) | ((with_reducible refine finD hsc (NRel.of_plain ?_)); exact rfl)
      rw [← hH1]
      repeat first | with_reducible refine AWP.ctl (by constructor) ?_ | ((with_reducible (first | refine AWP.region ?_ ?_ | refine AWP.condT ?_ ?_)); exact rfl) | ((with_reducible refine AWP.condF ?_ ?_); exact rfl) | with_reducible refine hN.use ?_ | with_reducible refine (hD _).use ?_ | with_reducible refine hW.use ?_ | simp only [go_sem, sevalprocAttr, reduceCtorEq, e105, e108, e100, Bool.not_false, Bool.not_true, hr10, hrl1, hb2, hb3, hbl2, hsets, putCells, List.set_cons_succ, List.set_cons_zero, exists_eq_left] | simp (disch := omega) only [wz] | with_reducible_and_instances exact finR | ((with_reducible refine finR' ?_ ?_) <;> rfl) | ((with_reducible refine finD hsc (NRel.of_plain ?_)); exact rfl)
      exact ⟨_, _, .refl _ _ _, _, .zero, i, n, rfl, hend _ _, hrd _ _, RdV_zero0 _, by decide⟩
    | true =>
      have hwn : IntKind.i64.wrap ((n : Int) + 1) = ((n + 1 : Nat) : Int) := by rw [wi64 (by omega)]; omega
      by_cases hk0 : 1000 < n + 1 ∨ lv = 0 ∨ dig c = true ∨ c = 105
      ·
        refine AC.enter Tryd.func28 rfl (by kernel_rfl) 176 rfl [.cell 4 26] rfl (by simp) fun hsc B => ?_
        repeat first | with_reducible refine AWP.ctl (by constructor) ?_ | ((with_reducible (first | refine AWP.region ?_ ?_ | refine AWP.condT ?_ ?_)); exact rfl) | ((with_reducible refine AWP.condF ?_ ?_); exact rfl) | simp only [go_sem, sevalprocAttr, reduceCtorEq] | simp (disch := omega) only [wz] | with_reducible_and_instances exact finR | ((with_reducible refine finR' ?_ ?_) <;> rfl) | ((with_reducible refine finD hsc (NRel.of_plain ?_)); exact rfl)
        rw [← hH1]
        repeat first | with_reducible refine AWP.seqJ (x := .seq (.region 2 _ _) _) ⟨[(0, .pointer (some ⟨r, 0, none⟩)), (1, .int .i64 (deep : Nat)), (4, .pointer (some ⟨H.length, 0, none⟩)), (5, .int .u8 c.toNat)], [], H1⟩ ?_ ?_ | with_reducible refine AWP.ctl (by constructor) ?_ | ((with_reducible (first | refine AWP.region ?_ ?_ | refine AWP.condT ?_ ?_)); exact rfl) | ((with_reducible refine AWP.condF ?_ ?_); exact rfl) | with_reducible refine hN.use ?_ | simp only [go_sem, sevalprocAttr, reduceCtorEq] | simp (disch := omega) only [wz] | with_reducible_and_instances exact finR | ((with_reducible refine finR' ?_ ?_) <;> rfl) | ((with_reducible refine finD hsc (NRel.of_plain ?_)); exact rfl)
        · cases hdg : dig c with
          | true =>
            rw [hdg] at hD
            repeat first | with_reducible refine AWP.ctl (by constructor) ?_ | ((with_reducible (first | refine AWP.region ?_ ?_ | refine AWP.condT ?_ ?_)); exact rfl) | ((with_reducible refine AWP.condF ?_ ?_); exact rfl) | with_reducible refine (hD _).use ?_ | simp only [go_sem, sevalprocAttr, reduceCtorEq, exists_eq_left] | simp (disch := omega) only [wz] | with_reducible_and_instances exact finR | ((with_reducible refine finR' ?_ ?_) <;> rfl) | ((with_reducible refine finD hsc (NRel.of_plain ?_)); exact rfl)
            exact Weak.env (by simp [envIn, lk_cons, wth_some])
          | false =>
            rw [hdg] at hD
            rcases rBegins hb hdg with k1 | ⟨k1, k2⟩ | ⟨k1, k2, k3⟩
            · rw [show (c == 105) = true by rw [k1]; rfl] at e105
              repeat first | with_reducible refine AWP.ctl (by constructor) ?_ | ((with_reducible (first | refine AWP.region ?_ ?_ | refine AWP.condT ?_ ?_)); exact rfl) | ((with_reducible refine AWP.condF ?_ ?_); exact rfl) | with_reducible refine (hD _).use ?_ | simp only [go_sem, sevalprocAttr, reduceCtorEq, e105, Bool.not_false, Bool.not_true, exists_eq_left] | simp (disch := omega) only [wz] | with_reducible_and_instances exact finR | ((with_reducible refine finR' ?_ ?_) <;> rfl) | ((with_reducible refine finD hsc (NRel.of_plain ?_)); exact rfl)
              exact Weak.env (by simp [envIn, lk_cons, wth_some])
            · rw [show (c == 105) = false by simpa using k1] at e105
              rw [show (c == 108) = true by rw [k2]; rfl] at e108
              repeat first | with_reducible refine AWP.ctl (by constructor) ?_ | ((with_reducible (first | refine AWP.region ?_ ?_ | refine AWP.condT ?_ ?_)); exact rfl) | ((with_reducible refine AWP.condF ?_ ?_); exact rfl) | with_reducible refine (hD _).use ?_ | simp only [go_sem, sevalprocAttr, reduceCtorEq, e105, e108, Bool.not_false, Bool.not_true, exists_eq_left] | simp (disch := omega) only [wz] | with_reducible_and_instances exact finR | ((with_reducible refine finR' ?_ ?_) <;> rfl) | ((with_reducible refine finD hsc (NRel.of_plain ?_)); exact rfl)
              exact Weak.env (by simp [envIn, lk_cons, wth_some])
            · rw [show (c == 105) = false by simpa using k1] at e105
              rw [show (c == 108) = false by simpa using k2] at e108
              rw [show (c == 100) = true by rw [k3]; rfl] at e100
              repeat first | with_reducible refine AWP.ctl (by constructor) ?_ | ((with_reducible (first | refine AWP.region ?_ ?_ | refine AWP.condT ?_ ?_)); exact rfl) | ((with_reducible refine AWP.condF ?_ ?_); exact rfl) | with_reducible refine (hD _).use ?_ | simp only [go_sem, sevalprocAttr, reduceCtorEq, e105, e108, e100, Bool.not_false, Bool.not_true, exists_eq_left] | simp (disch := omega) only [wz] | with_reducible_and_instances exact finR | ((with_reducible refine finR' ?_ ?_) <;> rfl) | ((with_reducible refine finD hsc (NRel.of_plain ?_)); exact rfl)
              exact Weak.env (by simp [envIn, lk_cons, wth_some])
        by_cases hlim : 1000 < n + 1 ∨ lv = 0
        · have hT : valR s lv i n = .bad i 4 := by
            cases lv with
            | zero => unfold valR; rw [hc]; simp only; rw [if_neg (by rw [hb]; decide)]
            | succ lv => unfold valR; rw [hc]; simp only; rw [if_neg (by rw [hb]; decide), if_pos (by omega)]
          have hW := hWx (n + 1) 4
          unfold rfO at hW
          rw [hT]
          by_cases hl1 : lv = 0
          · have hl1' : (deep : Int) > 12 := by omega
            repeat first | with_reducible refine AWP.ctl (by constructor) ?_ | ((with_reducible (first | refine AWP.region ?_ ?_ | refine AWP.condT ?_ ?_)); exact rfl) | ((with_reducible refine AWP.condF ?_ ?_); exact rfl) | with_reducible refine hW.use ?_ | simp only [go_sem, sevalprocAttr, reduceCtorEq, hr10, hrl1, hwn, hl1', hb2, hb3, hbl2, hsets, putCells, List.length_set, List.set_cons_succ, List.set_cons_zero, exists_eq_left] | simp (disch := omega) only [wz] | with_reducible_and_instances exact finR | ((with_reducible refine finR' ?_ ?_) <;> rfl) | ((with_reducible refine finD hsc (NRel.of_plain ?_)); exact rfl)
            exact ⟨_, _, .refl _ _ _, _, .zero, i, n + 1, rfl, hend _ _, hrd _ _, RdV_zero0 _, by decide⟩
          · have hl1' : ¬ (deep : Int) > 12 := by omega
            have hl2' : ((n + 1 : Nat) : Int) > 1000 := by omega
            repeat first | with_reducible refine AWP.ctl (by constructor) ?_ | ((with_reducible (first | refine AWP.region ?_ ?_ | refine AWP.condT ?_ ?_)); exact rfl) | ((with_reducible refine AWP.condF ?_ ?_); exact rfl) | with_reducible refine hW.use ?_ | simp only [go_sem, sevalprocAttr, reduceCtorEq, hr10, hrl1, hwn, hl1', hl2', hb2, hb3, hbl2, hsets, putCells, List.length_set, List.set_cons_succ, List.set_cons_zero, exists_eq_left] | simp (disch := omega) only [wz] | with_reducible_and_instances exact finR | ((with_reducible refine finR' ?_ ?_) <;> rfl) | ((with_reducible refine finD hsc (NRel.of_plain ?_)); exact rfl)
            exact ⟨_, _, .refl _ _ _, _, .zero, i, n + 1, rfl, hend _ _, hrd _ _, RdV_zero0 _, by decide⟩
        · obtain ⟨lv', rfl⟩ : ∃ k, lv = k + 1 := ⟨lv - 1, by omega⟩
          have hT : valR s (lv' + 1) i n = restR (valR s lv') s c i (n + 1) := by
            conv => lhs; unfold valR
            rw [hc]; simp only; rw [if_neg (by rw [hb]; decide), if_neg (by omega)]
          have hl1' : ¬ (deep : Int) > 12 := by omega
          have hl2' : ¬ ((n + 1 : Nat) : Int) > 1000 := by omega
          rw [hT]
          cases hdg : dig c with
          | true =>
            have hX := rText s r i (n + 1) c hs hc hdg (H1.set r (rfO s i (n + 1) 0 0)) (hsets hrl1 _)
            have hR : restR (valR s lv') s c i (n + 1) = match textR s i with
                | .bad a e => .bad a e
                | .ok t j _ => .ok (.mk 2 0 t [] []) j (n + 1) := by unfold restR; rw [if_pos hdg]; rfl
            rw [hdg] at hD
            unfold rfO at hX
            rw [hR]
            repeat first | with_reducible refine AWP.ctl (by constructor) ?_ | ((with_reducible (first | refine AWP.region ?_ ?_ | refine AWP.condT ?_ ?_)); exact rfl) | ((with_reducible refine AWP.condF ?_ ?_); exact rfl) | with_reducible refine (hD _).use ?_ | simp only [go_sem, sevalprocAttr, reduceCtorEq, hr10, hrl1, hwn, hl1', hl2', hsets, List.length_set, List.set_cons_succ, List.set_cons_zero, exists_eq_left] | simp (disch := omega) only [wz] | with_reducible_and_instances exact finR | ((with_reducible refine finR' ?_ ?_) <;> rfl) | ((with_reducible refine finD hsc (NRel.of_plain ?_)); exact rfl)
            refine AC.mono hX ?_
            intro res H2 hP
            cases ht : textR s i with
            | bad a e =>
              have hte := (textR_bad hi ht).2.2
              rw [ht] at hP
              obtain ⟨rfl, q, rfl⟩ := hP
              rw [List.set_set]
              repeat first | with_reducible refine AWP.ctl (by constructor) ?_ | ((with_reducible (first | refine AWP.region ?_ ?_ | refine AWP.condT ?_ ?_)); exact rfl) | ((with_reducible refine AWP.condF ?_ ?_); exact rfl) | simp only [go_sem, sevalprocAttr, reduceCtorEq, hb2, hb3, hbl2, hsets, putCells, List.set_cons_succ, List.set_cons_zero] | simp (disch := omega) only [wz] | with_reducible_and_instances exact finR | ((with_reducible refine finR' ?_ ?_) <;> rfl) | ((with_reducible refine finD hsc (NRel.of_plain ?_)); exact rfl)
              exact ⟨_, _, .refl _ _ _, _, .mk 2 0 [] [] [], q, n + 1, rfl, hend _ _, hrd _ _, RdV.bare 2 0 [], by rw [hte]; decide⟩
            | ok t j x =>
              rw [ht] at hP
              obtain ⟨rfl, rfl⟩ := hP
              rw [List.set_set]
              repeat first | with_reducible refine AWP.ctl (by constructor) ?_ | ((with_reducible (first | refine AWP.region ?_ ?_ | refine AWP.condT ?_ ?_)); exact rfl) | ((with_reducible refine AWP.condF ?_ ?_); exact rfl) | simp only [go_sem, sevalprocAttr, reduceCtorEq, hb2, hb3, hbl2, hsets, putCells, List.set_cons_succ, List.set_cons_zero] | simp (disch := omega) only [wz] | with_reducible_and_instances exact finR | ((with_reducible refine finR' ?_ ?_) <;> rfl) | ((with_reducible refine finD hsc (NRel.of_plain ?_)); exact rfl)
              exact ⟨_, _, .refl _ _ _, _, rfl, hend _ _, hrd _ _, RdV.bare 2 0 t⟩
          | false =>
            have h105 : c = 105 := by
              rcases hk0 with h | h | h | h
              · omega
              · omega
              · rw [hdg] at h; cases h
              · exact h
            have e105' : ((c.toNat : Int) == 105) = true := by rw [h105]; rfl
            have hX := rNumber s r (i + 1) (n + 1) hs (by omega) (H1.set r (rfO s (i + 1) (n + 1) 0 0)) (hsets hrl1 _)
            have hwi : IntKind.i64.wrap ((i : Int) + 1) = ((i + 1 : Nat) : Int) := by rw [wi64 (by omega)]; omega
            have hR : restR (valR s lv') s c i (n + 1) = match numR s (i + 1) with
                | .bad a e => .bad a e
                | .ok z j _ => .ok (.mk 1 z [] [] []) j (n + 1) := by unfold restR; rw [if_neg (by rw [hdg]; decide), if_pos h105]; rfl
            rw [hdg] at hD
            unfold rfO at hX
            rw [hR]
            repeat first | with_reducible refine AWP.ctl (by constructor) ?_ | ((with_reducible (first | refine AWP.region ?_ ?_ | refine AWP.condT ?_ ?_)); exact rfl) | ((with_reducible refine AWP.condF ?_ ?_); exact rfl) | with_reducible refine (hD _).use ?_ | simp only [go_sem, sevalprocAttr, reduceCtorEq, hr10, hrl1, hwn, hl1', hl2', hwi, e105', hsets, List.length_set, List.set_set, List.set_cons_succ, List.set_cons_zero, exists_eq_left] | simp (disch := omega) only [wz] | with_reducible_and_instances exact finR | ((with_reducible refine finR' ?_ ?_) <;> rfl) | ((with_reducible refine finD hsc (NRel.of_plain ?_)); exact rfl)
            refine AC.mono hX ?_
            intro res H2 hP
            cases ht : numR s (i + 1) with
            | bad a e =>
              have hte := (numR_bad (by omega) ht).2.2
              rw [ht] at hP
              obtain ⟨rfl, q, rfl⟩ := hP
              rw [List.set_set]
              repeat first | with_reducible refine AWP.ctl (by constructor) ?_ | ((with_reducible (first | refine AWP.region ?_ ?_ | refine AWP.condT ?_ ?_)); exact rfl) | ((with_reducible refine AWP.condF ?_ ?_); exact rfl) | simp only [go_sem, sevalprocAttr, reduceCtorEq, hb2, hb3, hbl2, hsets, putCells, List.set_cons_succ, List.set_cons_zero] | simp (disch := omega) only [wz] | with_reducible_and_instances exact finR | ((with_reducible refine finR' ?_ ?_) <;> rfl) | ((with_reducible refine finD hsc (NRel.of_plain ?_)); exact rfl)
              exact ⟨_, _, .refl _ _ _, _, .mk 1 0 [] [] [], q, n + 1, rfl, hend _ _, hrd _ _, RdV.bare 1 0 [], by rw [hte]; decide⟩
            | ok t j x =>
              rw [ht] at hP
              obtain ⟨rfl, rfl⟩ := hP
              rw [List.set_set]
              repeat first | with_reducible refine AWP.ctl (by constructor) ?_ | ((with_reducible (first | refine AWP.region ?_ ?_ | refine AWP.condT ?_ ?_)); exact rfl) | ((with_reducible refine AWP.condF ?_ ?_); exact rfl) | simp only [go_sem, sevalprocAttr, reduceCtorEq, hb2, hb3, hbl2, hsets, putCells, List.set_cons_succ, List.set_cons_zero] | simp (disch := omega) only [wz] | with_reducible_and_instances exact finR | ((with_reducible refine finR' ?_ ?_) <;> rfl) | ((with_reducible refine finD hsc (NRel.of_plain ?_)); exact rfl)
              exact ⟨_, _, .refl _ _ _, _, rfl, hend _ _, hrd _ _, RdV.bare 1 t []⟩
      · obtain ⟨lv', rfl⟩ : ∃ k, lv = k + 1 := ⟨lv - 1, by omega⟩
        have hT : valR s (lv' + 1) i n = restR (valR s lv') s c i (n + 1) := by
          conv => lhs; unfold valR
          rw [hc]; simp only; rw [if_neg (by rw [hb]; decide), if_neg (by omega)]
        rw [hT]
        refine hk c lv' rfl hc hb (by omega) ?_ (fun h => hk0 (.inr (.inr (.inr h))))
        cases hdg : dig c with
        | false => rfl
        | true => exact absurd (.inr (.inr (.inl hdg))) hk0
end Go.Proofs.YthcdjconlfdidaaDoor

