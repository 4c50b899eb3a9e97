/-
  The specification's reader of bencoded values: Read, Parse.
-/
import Derived.Test.YthcdjconlfdidaaDoorEE
import Derived.Test.YthcdjconlfdidaaDoorDCM
set_option linter.unusedVariables false
set_option linter.unusedSimpArgs false
set_option maxRecDepth 20000
set_option maxHeartbeats 4000000
namespace Go.Proofs.YthcdjconlfdidaaDoor
open Go Go.Aw Go.Proofs
theorem rValue (s : List UInt8) (hs : s.length ≤ 65536) (lv : Nat) : ∀ (deep r i n : Nat) (H : AHeap), lv + deep = 13 → i ≤ s.length → n ≤ 1000 → H[r]? = some (rfO s i n 0 0) →
    AC Tryd.prog 28 [.pointer (some ⟨r, 0, none⟩), .int .i64 (deep : Nat)] H (ValQ s r H (valR s lv i n)) := by
  induction lv with
  | zero =>
    intro deep r i n H hlv hi hn hr
    exact rValue0 s hs 0 deep r i n hlv hi hn H hr (fun c lv' h => by cases h)
  | succ lv ih =>
    intro deep r i n H hlv hi hn hr
    refine rValue0 s hs (lv + 1) deep r i n hlv hi hn H hr (fun c lv' h hc hb hn1 hdg h105 => ?_)
    cases h
    exact rValueC s hs lv deep hlv (fun r i n H hi hn hr => ih (deep + 1) r i n H (by omega) hi hn hr) r i n hi H hr c hc hb hn1 hdg h105
theorem rRead (s : List UInt8) (H : AHeap) : AC Tryd.prog 10 [.string (bs s)] H (ReadP H (readR s)) := by
  unfold readR
  by_cases hbig : 65536 < s.length
  · have hb' : (s.length : Int) > 65536 := by omega
    rw [if_pos hbig]
    refine AC.enter Tryd.func10 rfl (by kernel_rfl) 33 rfl [.cell 2 26, .tmp 3, .tmp 4, .tmp 5] rfl (by simp) fun hsc B => ?_
    repeat first | with_reducible refine AWP.ctl (by constructor) ?_ | ((with_reducible (first | refine AWP.region ?_ ?_ | refine AWP.condT ?_ ?_)); exact rfl) | ((with_reducible refine AWP.condF ?_ ?_); exact rfl) | simp only [go_sem, sevalprocAttr, reduceCtorEq, hb'] | simp (disch := omega) only [wz] | with_reducible_and_instances exact finR | ((with_reducible refine finR' ?_ ?_) <;> rfl) | ((with_reducible refine finD hsc (NRel.of_plain ?_)); exact rfl)
    exact ⟨_, _, .refl _ _ _, _, rfl, Frm.app, RdV_zero _⟩
  · have hb' : ¬ (s.length : Int) > 65536 := by omega
    rw [if_neg hbig]
    obtain ⟨H1, hH1⟩ : ∃ H1 : AHeap, H1 = H ++ [.cells [.int .i64 0, .int .i64 0, .string (bs []), .slice none 0 0, .slice none 0 0] ⟨26, 0, true, 0, none⟩, .cells [.string (bs s), .int .i64 0, .int .i64 0, .int .i64 0, .int .i64 0] ⟨54, 0, true, 0, none⟩] := ⟨_, rfl⟩
    have hl1 : H1.length = H.length + 2 := by rw [hH1]; simp
    have hb0 : H1[H.length]? = some (.cells [.int .i64 0, .int .i64 0, .string (bs []), .slice none 0 0, .slice none 0 0] ⟨26, 0, true, 0, none⟩) := by rw [hH1, hget0 rfl]; rfl
    have hr1 : H1[H.length + 1]? = some (rfO s 0 0 0 0) := by rw [hH1, hgetk rfl]; rfl
    have hf1 : Frm [] H H1 := by rw [hH1]; exact Frm.app
    have hv := rValue s (by omega) 12 1 (H.length + 1) 0 0 H1 rfl (by omega) (by omega) hr1
    refine AC.enter Tryd.func10 rfl (by kernel_rfl) 33 rfl [.cell 2 26, .tmp 3, .tmp 4, .tmp 5] rfl (by simp) fun hsc B => ?_
    repeat first | with_reducible refine AWP.ctl (by constructor) ?_ | ((with_reducible (first | refine AWP.region ?_ ?_ | refine AWP.condT ?_ ?_)); exact rfl) | ((with_reducible refine AWP.condF ?_ ?_); exact rfl) | simp only [go_sem, sevalprocAttr, reduceCtorEq, hb'] | simp (disch := omega) only [wz] | with_reducible_and_instances exact finR | ((with_reducible refine finR' ?_ ?_) <;> rfl) | ((with_reducible refine finD hsc (NRel.of_plain ?_)); exact rfl)
    rw [← hH1]
    refine AC.mono hv ?_
    intro res H3 hP
    have hP2 : ∃ cs w i3 n3 a3 e3, res = .ret (.agg ⟨cs⟩) ∧ Frm [H.length + 1] H1 H3 ∧ H3[H.length + 1]? = some (rfO s i3 n3 a3 e3) ∧ RdV H3 w cs ∧ ((e3 = 0 ∧ valR s 12 0 0 = .ok w i3 n3) ∨ (e3 ≠ 0 ∧ ∃ a' : Nat, a3 = a' ∧ valR s 12 0 0 = .bad a' e3)) := by
      cases hvr : valR s 12 0 0 with
      | bad a e =>
        rw [hvr] at hP
        obtain ⟨cs, w, i3, n3, h1, h2, h3, h4, h5⟩ := hP
        exact ⟨cs, w, i3, n3, a, e, h1, h2, h3, h4, .inr ⟨h5, a, rfl, rfl⟩⟩
      | ok v i' n' =>
        rw [hvr] at hP
        obtain ⟨cs, h1, h2, h3, h4⟩ := hP
        exact ⟨cs, v, i', n', 0, 0, h1, h2, h3, h4, .inl ⟨rfl, rfl⟩⟩
    obtain ⟨cs, w, i3, n3, a3, e3, rfl, hf, hrd, hRd, hst⟩ := hP2
    have g0 := hf.get hb0 (by simp)
    have hl3 := hf.1
    have hf03 : Frm [] H H3 := hf1.trans hf (fun x hx => by rw [List.mem_singleton.1 hx]; exact .inr (by omega))
    have hc5 := hRd.len
    have hfl := RdV_flat hRd
    have hput : putCells [.int .i64 0, .int .i64 0, .string (bs []), .slice none 0 0, .slice none 0 0] 0 cs = cs := by
      match cs, hc5 with
      | [_, _, _, _, _], _ => rfl
    have htk : List.take 5 cs = cs := List.take_of_length_le (by omega)
    have hal : H.length < H3.length := by omega
    obtain ⟨H4, hH4⟩ : ∃ H4, H4 = H3.set H.length (.cells cs ⟨26, 0, true, 0, none⟩) := ⟨_, rfl⟩
    have f0 : H4[H.length]? = some (.cells cs ⟨26, 0, true, 0, none⟩) := by rw [hH4, List.getElem?_set_self hal]
    have f1 : H4[H.length + 1]? = some (rfO s i3 n3 a3 e3) := by rw [hH4, List.getElem?_set_ne (by omega)]; exact hrd
    have hl4 : H4.length = H3.length := by rw [hH4, List.length_set]
    have hf4 : Frm [] H H4 := by rw [hH4]; exact Frm.set hf03 (.inr (Nat.le_refl _))
    have hk4 : Kept H3 H4 := by rw [hH4]; exact Kept.set g0 rfl _
    have hF := rFine s (H.length + 1) i3 n3 a3 e3 H4 f1
    have hput2 : ∀ x : List Value, x.length = 5 → putCells cs 0 x = x := fun x hx => by
      match cs, hc5, x, hx with
      | [_, _, _, _, _], _, [_, _, _, _, _], _ => rfl
    have g2 : ∀ o : AObj, (H4.set H.length o)[H.length]? = some o := fun o => List.getElem?_set_self (by omega)
    have f10 := f1
    unfold rfO at f10
    have hal4 : H.length < H4.length := by omega
    repeat first | with_reducible refine AWP.ctl (by constructor) ?_ | ((with_reducible (first | refine AWP.region ?_ ?_ | refine AWP.condT ?_ ?_)); exact rfl) | ((with_reducible refine AWP.condF ?_ ?_); exact rfl) | simp only [go_sem, sevalprocAttr, reduceCtorEq, g0, hc5, hfl, hput, hal] | simp (disch := omega) only [wz] | with_reducible_and_instances exact finR | ((with_reducible refine finR' ?_ ?_) <;> rfl) | ((with_reducible refine finD hsc (NRel.of_plain ?_)); exact rfl)
    rw [← hH4]
    rcases hst with ⟨rfl, hvr⟩ | ⟨he, a', rfl, hvr⟩
    · rw [show ((0 : Int) == 0) = true from rfl] at hF
      rw [hvr]
      have hself : H4.set H.length (.cells cs ⟨26, 0, true, 0, none⟩) = H4 := set_same f0
      have hpc := hput2 cs hc5
      repeat first | with_reducible refine AWP.ctl (by constructor) ?_ | ((with_reducible (first | refine AWP.region ?_ ?_ | refine AWP.condT ?_ ?_)); exact rfl) | ((with_reducible refine AWP.condF ?_ ?_); exact rfl) | with_reducible refine hF.use ?_ | simp only [go_sem, sevalprocAttr, reduceCtorEq] | simp (disch := omega) only [wz] | with_reducible_and_instances exact finR | ((with_reducible refine finR' ?_ ?_) <;> rfl) | ((with_reducible refine finD hsc (NRel.of_plain ?_)); exact rfl)
      refine AWP.regionMP 6 [0, 4, 5] [] (.both (.step 0 (.both (.run [4, 5]) (.run [5, 4]))) (.run [4, 0, 5])) (by kernel_rfl) (by decide) (by kernel_rfl) (by kernel_rfl) (by kernel_rfl) ?_
      repeat' first | with_reducible refine canW_n ?_ | with_reducible refine canW_m (by decide) ?_ | ((with_reducible apply canW_p (by decide)); focus (intro H; (simp only [go_sem, sevalprocAttr, reduceCtorEq, f0, f10, hc5, hfl, htk, hpc, hself, hal4, List.map_cons, List.map_nil]); exact rfl)) | with_reducible refine memW_bP ?_ ?_ | with_reducible refine memW_sP rfl ?_ | with_reducible refine memW_rP rfl ?_ | with_reducible refine memW_eP ?_ | simp only [List.take_succ_cons, List.take_zero, List.drop_succ_cons, List.drop_zero] | omega | with_reducible refine And.intro ?_ ?_ | with_reducible refine AWP.ctl (by constructor) ?_ | ((with_reducible (first | refine AWP.region ?_ ?_ | refine AWP.condT ?_ ?_)); exact rfl) | ((with_reducible refine AWP.condF ?_ ?_); exact rfl) | simp only [go_sem, sevalprocAttr, reduceCtorEq, f0, f10, hc5, hfl, htk, hpc, hself, hal4, List.map_cons, List.map_nil] | simp (disch := omega) only [wz] | with_reducible_and_instances exact finR | ((with_reducible refine finR' ?_ ?_) <;> rfl) | ((with_reducible refine finD hsc (NRel.of_plain ?_)); exact rfl)
      all_goals
        repeat first | with_reducible refine AWP.ctl (by constructor) ?_ | ((with_reducible (first | refine AWP.region ?_ ?_ | refine AWP.condT ?_ ?_)); exact rfl) | ((with_reducible refine AWP.condF ?_ ?_); exact rfl) | simp only [go_sem, sevalprocAttr, reduceCtorEq, f0, htk, hc5] | simp (disch := omega) only [wz] | with_reducible_and_instances exact finR | ((with_reducible refine finR' ?_ ?_) <;> rfl) | ((with_reducible refine finD hsc (NRel.of_plain ?_)); exact rfl)
        exact ⟨_, _, .refl _ _ _, _, rfl, hf4, hRd.kept hk4⟩
    · rw [show (e3 == 0) = false by simpa using he] at hF
      rw [hvr]
      have hpc : ((((cs.set 0 (.int .i64 0)).set 1 (.int .i64 0)).set 2 (.string (bs []))).set 3 (.slice none 0 0)).set 4 (.slice none 0 0) = [.int .i64 0, .int .i64 0, .string (bs []), .slice none 0 0, .slice none 0 0] := hput2 [.int .i64 0, .int .i64 0, .string (bs []), .slice none 0 0, .slice none 0 0] rfl
      have gn : ∀ o : AObj, (H4.set H.length o)[H.length + 1]? = H4[H.length + 1]? := fun o => List.getElem?_set_ne (by omega)
      repeat first | with_reducible refine AWP.ctl (by constructor) ?_ | ((with_reducible (first | refine AWP.region ?_ ?_ | refine AWP.condT ?_ ?_)); exact rfl) | ((with_reducible refine AWP.condF ?_ ?_); exact rfl) | with_reducible refine hF.use ?_ | simp only [go_sem, sevalprocAttr, reduceCtorEq] | simp (disch := omega) only [wz] | with_reducible_and_instances exact finR | ((with_reducible refine finR' ?_ ?_) <;> rfl) | ((with_reducible refine finD hsc (NRel.of_plain ?_)); exact rfl)
      refine AWP.regionMP 12 [4, 8, 9] [(4, .int .i64 (a' : Nat)), (8, .int .i64 e3)] (.both (.step 4 (.both (.run [8, 9]) (.run [9, 8]))) (.both (.step 8 (.both (.run [4, 9]) (.run [9, 4]))) (.step 9 (.both (.run [4, 8]) (.run [8, 4]))))) (by kernel_rfl) (by decide) (by kernel_rfl) (by kernel_rfl) (by kernel_rfl) ?_
      repeat' first | with_reducible refine canW_n ?_ | with_reducible refine canW_m (by decide) ?_ | ((with_reducible apply canW_p (by decide)); focus (intro H; (simp only [go_sem, sevalprocAttr, reduceCtorEq, f0, f10, hc5, hpc, g2, gn, hal4, List.map_cons, List.map_nil]); exact rfl)) | with_reducible refine memW_bP ?_ ?_ | with_reducible refine memW_sP rfl ?_ | with_reducible refine memW_rP rfl ?_ | with_reducible refine memW_eP ?_ | simp only [List.take_succ_cons, List.take_zero, List.drop_succ_cons, List.drop_zero] | omega | with_reducible refine And.intro ?_ ?_ | with_reducible refine AWP.ctl (by constructor) ?_ | ((with_reducible (first | refine AWP.region ?_ ?_ | refine AWP.condT ?_ ?_)); exact rfl) | ((with_reducible refine AWP.condF ?_ ?_); exact rfl) | simp only [go_sem, sevalprocAttr, reduceCtorEq, f0, f10, hc5, hpc, g2, gn, hal4, List.map_cons, List.map_nil] | simp (disch := omega) only [wz] | with_reducible_and_instances exact finR | ((with_reducible refine finR' ?_ ?_) <;> rfl) | ((with_reducible refine finD hsc (NRel.of_plain ?_)); exact rfl)
      all_goals
        repeat first | with_reducible refine AWP.ctl (by constructor) ?_ | ((with_reducible (first | refine AWP.region ?_ ?_ | refine AWP.condT ?_ ?_)); exact rfl) | ((with_reducible refine AWP.condF ?_ ?_); exact rfl) | simp only [go_sem, sevalprocAttr, reduceCtorEq, g2] | simp (disch := omega) only [wz] | with_reducible_and_instances exact finR | ((with_reducible refine finR' ?_ ?_) <;> rfl) | ((with_reducible refine finD hsc (NRel.of_plain ?_)); exact rfl)
        exact ⟨_, _, .refl _ _ _, _, rfl, Frm.set hf4 (.inr (Nat.le_refl _)), RdV_zero _⟩
theorem rParse (s : List UInt8) (H : AHeap) : AC Tryd.prog 12 [.string (bs s)] H (ParseP H (parseR s)) := by
  have hR : parseR s = if (readR s).2.2.2 ≠ 0 then (.zero, (readR s).2.2.2) else if (readR s).2.1 < s.length then (.zero, 2) else ((readR s).1, 0) := rfl
  rw [hR]
  generalize hr : readR s = R
  obtain ⟨v, u, b, e⟩ := R
  dsimp only
  obtain ⟨H1, hH1⟩ : ∃ H1 : AHeap, H1 = H ++ [.cells [.int .i64 0, .int .i64 0, .string (bs []), .slice none 0 0, .slice none 0 0] ⟨26, 0, true, 0, none⟩] := ⟨_, rfl⟩
  have hf1 : Frm [] H H1 := by rw [hH1]; exact Frm.app
  have hl1 : H1.length = H.length + 1 := by rw [hH1]; simp
  have hb1 : H1[H.length]? = some (.cells [.int .i64 0, .int .i64 0, .string (bs []), .slice none 0 0, .slice none 0 0] ⟨26, 0, true, 0, none⟩) := by rw [hH1, hget0 rfl]; rfl
  have hX := rRead s H1
  rw [hr] at hX
  refine AC.enter Tryd.func12 rfl (by kernel_rfl) 27 rfl [.cell 2 26, .tmp 3] rfl (by simp) fun hsc B => ?_
  repeat first | with_reducible refine AWP.ctl (by constructor) ?_ | ((with_reducible (first | refine AWP.region ?_ ?_ | refine AWP.condT ?_ ?_)); exact rfl) | ((with_reducible refine AWP.condF ?_ ?_); exact rfl) | simp only [go_sem, sevalprocAttr, reduceCtorEq] | simp (disch := omega) only [wz] | with_reducible_and_instances exact finR | ((with_reducible refine finR' ?_ ?_) <;> rfl) | ((with_reducible refine finD hsc (NRel.of_plain ?_)); exact rfl)
  rw [← hH1]
  refine AC.mono hX ?_
  rintro res H2 ⟨cs, rfl, hf, hRd⟩
  dsimp only at hRd ⊢
  have hb2 := hf.get hb1 (by simp)
  have hf2 := hf1.trans hf (fun x hx => by cases hx)
  have hl2 := hf.1
  have hc5 := hRd.len
  have hfl := RdV_flat hRd
  have hput : putCells [.int .i64 0, .int .i64 0, .string (bs []), .slice none 0 0, .slice none 0 0] 0 cs = cs := by
    match cs, hc5 with
    | [_, _, _, _, _], _ => rfl
  have htk : List.take 5 cs = cs := List.take_of_length_le (by omega)
  have hgl : ∀ (l : AHeap), (H2 ++ l)[H.length]? = H2[H.length]? := fun l => hgetl (by omega)
  have hsl : ∀ (l : AHeap) (o : AObj), (H2 ++ l).set H.length o = H2.set H.length o ++ l := fun l o => List.set_append_left _ _ (by omega)
  have hgs : ∀ (l : AHeap) (o : AObj), (H2.set H.length o ++ l)[H.length]? = some o := fun l o => by rw [hgetl (by rw [List.length_set]; omega), List.getElem?_set_self (by omega)]
  have hal : H.length < H2.length := by omega
  by_cases he : e = 0
  · subst he
    rw [if_neg (by decide)]
    by_cases hu : u < s.length
    · rw [if_pos hu]
      repeat first | with_reducible refine AWP.ctl (by constructor) ?_ | ((with_reducible (first | refine AWP.region ?_ ?_ | refine AWP.condT ?_ ?_)); exact rfl) | ((with_reducible refine AWP.condF ?_ ?_); exact rfl) | simp only [go_sem, sevalprocAttr, reduceCtorEq, hc5, hfl, hput, htk, hu, hb2, hgl, hsl, hgs, hal] | simp (disch := omega) only [wz] | with_reducible_and_instances exact finR | ((with_reducible refine finR' ?_ ?_) <;> rfl) | ((with_reducible refine finD hsc (NRel.of_plain ?_)); exact rfl)
      exact ⟨_, _, .refl _ _ _, _, rfl, (Frm.set hf2 (.inr (Nat.le_refl _))).trans (Frm.app (S := [])) (fun x hx => by cases hx), RdV_zero _⟩
    · rw [if_neg hu]
      repeat first | with_reducible refine AWP.ctl (by constructor) ?_ | ((with_reducible (first | refine AWP.region ?_ ?_ | refine AWP.condT ?_ ?_)); exact rfl) | ((with_reducible refine AWP.condF ?_ ?_); exact rfl) | simp only [go_sem, sevalprocAttr, reduceCtorEq, hc5, hfl, hput, htk, hu, hb2, hgl, hsl, hgs, hal] | simp (disch := omega) only [wz] | with_reducible_and_instances exact finR | ((with_reducible refine finR' ?_ ?_) <;> rfl) | ((with_reducible refine finD hsc (NRel.of_plain ?_)); exact rfl)
      exact ⟨_, _, .refl _ _ _, _, rfl, (Frm.set hf2 (.inr (Nat.le_refl _))).trans (Frm.app (S := [])) (fun x hx => by cases hx), (hRd.kept (Kept.set hb2 rfl _)).kept (Kept.more _ _)⟩
  · rw [if_pos he]
    have e0 : (e == 0) = false := by simpa using he
    have e1 : (e != 0) = true := by simpa using he
    repeat first | with_reducible refine AWP.ctl (by constructor) ?_ | ((with_reducible (first | refine AWP.region ?_ ?_ | refine AWP.condT ?_ ?_)); exact rfl) | ((with_reducible refine AWP.condF ?_ ?_); exact rfl) | simp only [go_sem, sevalprocAttr, reduceCtorEq, hc5, hfl, hput, htk, e0, e1, hb2, hgl, hsl, hgs, hal] | simp (disch := omega) only [wz] | with_reducible_and_instances exact finR | ((with_reducible refine finR' ?_ ?_) <;> rfl) | ((with_reducible refine finD hsc (NRel.of_plain ?_)); exact rfl)
    exact ⟨_, _, .refl _ _ _, _, rfl, (Frm.set hf2 (.inr (Nat.le_refl _))).trans (Frm.app (S := [])) (fun x hx => by cases hx), RdV_zero _⟩
end Go.Proofs.YthcdjconlfdidaaDoor

