/-
  The walk of the writer of bencoded values, whole.
-/
import Derived.Test.YthcdjconlfdidaaDoorDJ
set_option linter.unusedVariables false
set_option linter.unusedSimpArgs false
set_option maxHeartbeats 8000000
set_option maxRecDepth 20000
namespace Go.Proofs.YthcdjconlfdidaaDoor
open Go Go.Aw Go.Proofs Go.Shelf
theorem form_kind {v : BV} (h : v.form = true) : v.kind = 1 ∨ v.kind = 2 ∨ v.kind = 3 ∨ v.kind = 4 := by
  cases v with
  | mk k n s kids keys =>
    unfold BV.form at h
    show k = 1 ∨ k = 2 ∨ k = 3 ∨ k = 4
    simp only [Bool.and_eq_true, decide_eq_true_eq] at h
    have h := h.1
    by_cases h1 : k = 1
    · exact .inl h1
    · by_cases h2 : k = 2
      · exact .inr (.inl h2)
      · by_cases h3 : k = 3
        · exact .inr (.inr (.inl h3))
        · by_cases h4 : k = 4
          · exact .inr (.inr (.inr h4))
          · rw [if_neg h1, if_neg h2, if_neg h3, if_neg h4] at h
            exact absurd h (by decide)
theorem wr (v : BV) : v.form = true → v.nums → WrP (wFn v.kind) v := by
  refine BV.ind (P := fun v => v.form = true → v.nums → WrP (wFn v.kind) v) (fun k n s kids keys ih hf hn => ?_) v
  have hkd := form_kind hf
  unfold BV.form at hf
  unfold BV.nums at hn
  simp only [Bool.and_eq_true, decide_eq_true_eq] at hf
  have ih' : ∀ c ∈ kids, WrP (wFn c.kind) c ∧ (c.kind = 1 ∨ c.kind = 2 ∨ c.kind = 3 ∨ c.kind = 4) := fun c hc => by
    have hfc := BV.formL_iff.1 hf.2 c hc
    exact ⟨ih c hc hfc (BV.numsL_iff.1 hn.2 c hc), form_kind hfc⟩
  dsimp only [BV.kind] at hkd ⊢
  rcases hkd with rfl | rfl | rfl | rfl
  · exact wr1 n s kids keys hn.1.1 hn.1.2
  · exact wr2 n s kids keys
  · exact wr3 n s kids keys ih'
  · refine wr4 n s kids keys ?_ ih'
    have := hf.1
    rw [if_neg (by decide), if_neg (by decide), if_neg (by decide), if_pos rfl] at this
    simp only [decide_eq_true_eq] at this
    exact this.2.2.1
theorem written (v : BV) (hf : v.form = true) (hn : v.nums) (hl : v.write.length ≤ 1099511627776) (H : AHeap) (cs : List Value) (hT : TabH H) (hR : RdV H v cs) :
    AC Tryd.prog 30 [.agg ⟨cs⟩] H (fun r H2 => r = .ret (.string (bs v.write)) ∧ Frm [] H H2) := by
  have hkd := form_kind hf
  have hwr := wr v hf hn
  have hne := write_ne v
  have hfl := RdV_flat hR
  have hr5 := hR.len
  obtain ⟨H1, hH1⟩ : ∃ H1 : AHeap, H1 = H ++ [.cells cs ⟨26, 0, true, 0, none⟩, .cells [.pointer none, .slice none 0 0] ⟨91, 0, true, 0, none⟩] := ⟨_, rfl⟩
  have hb0 : H1[H.length]? = some (.cells cs ⟨26, 0, true, 0, none⟩) := by rw [hH1, hget0 rfl]; rfl
  have hb1 : H1[H.length + 1]? = some (.cells [.pointer none, .slice none 0 0] ⟨91, 0, true, 0, none⟩) := by rw [hH1, hgetk rfl]; rfl
  have hB : BO H1 (H.length + 1) (H.length + 1) [] := ⟨⟨⟨_, by rw [List.length_nil, gS_zero]; exact hb1, .inl rfl⟩, fun h => absurd h (by decide)⟩, fun _ => rfl, by rw [hH1]; exact hT.more _⟩
  have hR1 : RdV H1 v cs := by rw [hH1]; exact hR.kept (.more _ _)
  have hcall := hwr _ _ _ H1 cs hB hR1 (by simpa using hl)
  have hf1 : Frm [] H H1 := by rw [hH1]; exact Frm.app
  have hF2 : ∀ H, ARet Tryd.prog 63 [] H (.agg ⟨[.nilFunc, .func (.func 81) ⟨[]⟩ ⟨[]⟩, .func (.func 83) ⟨[]⟩ ⟨[]⟩, .func (.func 85) ⟨[]⟩ ⟨[]⟩, .func (.func 87) ⟨[]⟩ ⟨[]⟩]⟩) H := fun H => writesF H
  have htk5 : List.take 5 cs = cs := List.take_of_length_le (by omega)
  generalize hw : v.write = w at *
  obtain ⟨k, n', s', kk, ky'⟩ := v
  unfold RdV at hR
  obtain ⟨vk', vs', css', rfl, -, -, -⟩ := hR
  refine AC.enter Tryd.func30 rfl (by kernel_rfl) 11 rfl [.tmp 2] rfl (by simp) fun hsc B => ?_
  repeat first
    | with_reducible (first | refine AWP.seq ?_ | refine AWP.block ?_ | refine AWP.skip ?_ | refine AWP.exit ?_ | refine AWP.ret ?_ | refine AWP.label ?_ | refine AWP.goto ?_)
    | ((with_reducible (first | refine AWP.region ?_ ?_ | refine AWP.condT ?_ ?_)); exact rfl)
    | ((with_reducible refine AWP.condF ?_ ?_); exact rfl)
    | simp only [go_sem, sevalprocAttr, reduceCtorEq, hfl, hr5]
    | simp (disch := omega) only [wi64, wu8, wu16, wu32, wu64]
    | with_reducible_and_instances exact finR
    | ((with_reducible refine finR' ?_ ?_) <;> rfl)
    | ((with_reducible refine finD hsc (NRel.of_plain ?_)); exact rfl)
  rw [← hH1]
  refine AWP.regionMP 5 [0, 2, 4] [(0, .agg ⟨[.nilFunc, .func (.func 81) ⟨[]⟩ ⟨[]⟩, .func (.func 83) ⟨[]⟩ ⟨[]⟩, .func (.func 85) ⟨[]⟩ ⟨[]⟩, .func (.func 87) ⟨[]⟩ ⟨[]⟩]⟩), (2, .int .i64 k)] (.both (.step 0 (.both (.run [2, 4]) (.run [4, 2]))) (.both (.step 2 (.both (.run [0, 4]) (.run [4, 0]))) (.step 4 (.both (.run [0, 2]) (.run [2, 0]))))) (by kernel_rfl) (by decide) (by kernel_rfl) (by kernel_rfl) (by kernel_rfl) ?_
  rcases hkd with hkd | hkd | hkd | hkd
  all_goals
    dsimp only [BV.kind] at hkd
    subst hkd
  all_goals
    repeat' first
      | with_reducible refine canW_n ?_
      | with_reducible refine canW_m (by decide) ?_
      | ((with_reducible apply canW_p (by decide)); focus (intro H; (simp only [go_sem, sevalprocAttr, reduceCtorEq, hb0, htk5, hr5, List.map_cons, List.map_nil]); exact rfl))
      | with_reducible refine memW_bP ?_ ?_
      | with_reducible refine memW_sP rfl ?_
      | with_reducible refine memW_rP rfl ?_
      | with_reducible refine memW_eP ?_
      | simp only [List.take_succ_cons, List.take_zero, List.drop_succ_cons, List.drop_zero]
      | omega
      | with_reducible refine And.intro ?_ ?_
      | with_reducible (first | refine AWP.seq ?_ | refine AWP.block ?_ | refine AWP.skip ?_ | refine AWP.exit ?_ | refine AWP.ret ?_ | refine AWP.label ?_ | refine AWP.goto ?_)
      | ((with_reducible (first | refine AWP.region ?_ ?_ | refine AWP.condT ?_ ?_)); exact rfl)
      | ((with_reducible refine AWP.condF ?_ ?_); exact rfl)
      | with_reducible refine (hF2 _).use ?_
      | simp only [go_sem, sevalprocAttr, reduceCtorEq, hb0, htk5, hr5, List.map_cons, List.map_nil]
      | simp (disch := omega) only [wi64, wu8, wu16, wu32, wu64]
      | with_reducible_and_instances exact finR
      | ((with_reducible refine finR' ?_ ?_) <;> rfl)
      | ((with_reducible refine finD hsc (NRel.of_plain ?_)); exact rfl)
    all_goals
      refine AC.mono hcall ?_
      rintro r4 H4 ⟨rfl, j4, hB4, hf4, hj4⟩
      have hS := BString _ _ ([] ++ w) (by rw [List.nil_append]; omega) (by rw [List.nil_append]; omega) H4 hB4
      rw [List.nil_append] at hS
      repeat first
        | with_reducible (first | refine AWP.seq ?_ | refine AWP.block ?_ | refine AWP.skip ?_ | refine AWP.exit ?_ | refine AWP.ret ?_ | refine AWP.label ?_ | refine AWP.goto ?_)
        | ((with_reducible (first | refine AWP.region ?_ ?_ | refine AWP.condT ?_ ?_)); exact rfl)
        | ((with_reducible refine AWP.condF ?_ ?_); exact rfl)
        | with_reducible refine hS.use ?_
        | simp only [go_sem, sevalprocAttr, reduceCtorEq]
        | simp (disch := omega) only [wi64, wu8, wu16, wu32, wu64]
        | with_reducible_and_instances exact finR
        | ((with_reducible refine finR' ?_ ?_) <;> rfl)
        | ((with_reducible refine finD hsc (NRel.of_plain ?_)); exact rfl)
      refine ⟨_, _, .refl _ _ _, rfl, ?_⟩
      have hl1 := hf1.1
      have hl4 := hf4.1
      have hl0 : H1.length = H.length + 2 := by rw [hH1]; simp
      exact Frm.set (hf1.trans hf4 (fun x hx => by simp only [List.mem_cons, List.not_mem_nil, or_false] at hx; right; omega)) (.inr (by omega))
end Go.Proofs.YthcdjconlfdidaaDoor

