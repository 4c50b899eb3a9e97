/-
  The walk of what fits: the beginning.
-/
import Derived.Test.YthcdjconlfdidaaDoorDRM
import Derived.Test.YthcdjconlfdidaaDoorDCM
set_option linter.unusedVariables false
set_option linter.unusedSimpArgs false
set_option maxRecDepth 20000
set_option maxHeartbeats 8000000
namespace Go.Proofs.YthcdjconlfdidaaDoor
open Go Go.Aw Go.Proofs
def szO (c b : Nat) : AObj := .cells [.int .i64 (c : Nat), .int .i64 (b : Nat)] ⟨59, 0, true, 0, none⟩
/-- What fits leaves. -/
def FitP (H : AHeap) (r : Nat) : Option (Nat × Nat) → ARes → AHeap → Prop
  | some (c, b), res, H2 => res = .ret (.bool true) ∧ H2[r]? = some (szO c b) ∧ Frm [r] H H2
  | none, res, H2 => res = .ret (.bool false) ∧ Frm [r] H H2
theorem fits0 (k n : Int) (s : List UInt8) (kids : List BV) (keys : List (List UInt8)) (hkd : kids.length ≤ 1099511627776) (hky : keys.length < 1099511627776) (lv c b r : Nat) (hlv : lv ≤ 12) (hc : c ≤ 1000) (H : AHeap) (hr : H[r]? = some (szO c b)) (cs : List Value) (hR : RdV H (.mk k n s kids keys) cs)
    (hbad : lv = 0 ∨ 1000 < c + 1 ∨ k < 1 ∨ k > 4) :
    AC Tryd.prog 33 [.pointer (some ⟨r, 0, none⟩), .agg ⟨cs⟩, .int .i64 (lv : Nat)] H (FitP H r none) := by
  have hfl := RdV_flat hR
  have hr5 := hR.len
  unfold RdV at hR
  obtain ⟨vk, vs, css, rfl, h1, hL, h3⟩ := hR
  unfold szO at hr
  have hrl := lt_of_get hr
  have hwc : IntKind.i64.wrap ((c : Int) + 1) = ((c + 1 : Nat) : Int) := by rw [wi64 (by omega)]; omega
  obtain ⟨H1, hH1⟩ : ∃ H1 : AHeap, H1 = H ++ [.cells [.int .i64 k, .int .i64 n, .string (bs s), vk, vs] ⟨26, 0, true, 0, none⟩] := ⟨_, rfl⟩
  have hr1 : H1[r]? = some (.cells [.int .i64 (c : Nat), .int .i64 (b : Nat)] ⟨59, 0, true, 0, none⟩) := by rw [hH1, hgetl hrl]; exact hr
  have hb1 : H1[H.length]? = some (.cells [.int .i64 k, .int .i64 n, .string (bs s), vk, vs] ⟨26, 0, true, 0, none⟩) := by rw [hH1, hget0 rfl]; rfl
  have hrl1 := lt_of_get hr1
  obtain ⟨H2, hH2⟩ : ∃ H2 : AHeap, H2 = H1.set r (.cells [.int .i64 ((c + 1 : Nat) : Int), .int .i64 (b : Nat)] ⟨59, 0, true, 0, none⟩) := ⟨_, rfl⟩
  have hr2 : H2[r]? = some (.cells [.int .i64 ((c + 1 : Nat) : Int), .int .i64 (b : Nat)] ⟨59, 0, true, 0, none⟩) := by rw [hH2, List.getElem?_set_self hrl1]
  have hb2 : H2[H.length]? = some (.cells [.int .i64 k, .int .i64 n, .string (bs s), vk, vs] ⟨26, 0, true, 0, none⟩) := by rw [hH2, List.getElem?_set_ne (by omega)]; exact hb1
  have hf2 : Frm [r] H H2 := by rw [hH2, hH1]; exact Frm.set (Frm.app (S := [r])) (.inl (by simp))
  refine AC.enter Tryd.func33 rfl (by kernel_rfl) 126 rfl [.tmp 6] rfl (by simp) fun hsc B => ?_
  repeat first | with_reducible refine AWP.ctl (by constructor) ?_ | ((with_reducible (first | refine AWP.region ?_ ?_ | refine AWP.condT ?_ ?_)); exact rfl) | ((with_reducible refine AWP.condF ?_ ?_); exact rfl) | simp only [go_sem, sevalprocAttr, reduceCtorEq, hfl, hr5] | simp (disch := omega) only [wz] | with_reducible_and_instances exact finR | ((with_reducible refine finR' ?_ ?_) <;> rfl) | ((with_reducible refine finD hsc (NRel.of_plain ?_)); exact rfl)
  rw [← hH1]
  repeat first | with_reducible refine AWP.ctl (by constructor) ?_ | ((with_reducible (first | refine AWP.region ?_ ?_ | refine AWP.condT ?_ ?_)); exact rfl) | ((with_reducible refine AWP.condF ?_ ?_); exact rfl) | simp only [go_sem, sevalprocAttr, reduceCtorEq, hr1, hwc, hrl1, List.set_cons_zero] | simp (disch := omega) only [wz] | with_reducible_and_instances exact finR | ((with_reducible refine finR' ?_ ?_) <;> rfl) | ((with_reducible refine finD hsc (NRel.of_plain ?_)); exact rfl)
  rw [← hH2]
  by_cases b1 : lv = 0
  · subst b1
    refine AWP.regionMP 25 [6, 11, 16, 20, 22, 24] [(6, noVal), (11, noVal), (16, noVal), (20, noVal), (22, noVal), (24, noVal)] (.step 6 (.step 11 (.step 16 (.both (.step 20 (.both (.run [22, 24]) (.run [24, 22]))) (.both (.step 22 (.both (.run [20, 24]) (.run [24, 20]))) (.step 24 (.both (.run [20, 22]) (.run [22, 20])))))))) (by kernel_rfl) (by decide) (by kernel_rfl) (by kernel_rfl) (by kernel_rfl) ?_
    repeat' first | with_reducible refine canW_n ?_ | with_reducible refine canW_m (by decide) ?_ | ((with_reducible apply canW_p (by decide)); focus (intro H; (simp only [go_sem, sevalprocAttr, reduceCtorEq, List.map_cons, List.map_nil]); exact rfl)) | with_reducible refine memW_bP ?_ ?_ | with_reducible refine memW_sP rfl ?_ | with_reducible refine memW_rP rfl ?_ | with_reducible refine memW_eP ?_ | simp only [List.take_succ_cons, List.take_zero, List.drop_succ_cons, List.drop_zero] | omega | with_reducible refine And.intro ?_ ?_ | with_reducible refine AWP.ctl (by constructor) ?_ | ((with_reducible (first | refine AWP.region ?_ ?_ | refine AWP.condT ?_ ?_)); exact rfl) | ((with_reducible refine AWP.condF ?_ ?_); exact rfl) | simp only [go_sem, sevalprocAttr, reduceCtorEq, List.map_cons, List.map_nil] | simp (disch := omega) only [wz] | with_reducible_and_instances exact finR | ((with_reducible refine finR' ?_ ?_) <;> rfl) | ((with_reducible refine finD hsc (NRel.of_plain ?_)); exact rfl)
    all_goals exact ⟨_, _, .refl _ _ _, rfl, hf2⟩
  have b1' : ¬ ((lv : Nat) : Int) < 1 := by omega
  by_cases b2 : 1000 < c + 1
  · have b2' : ((c + 1 : Nat) : Int) > 1000 := by omega
    refine AWP.regionMP 25 [6, 11, 16, 20, 22, 24] [(6, .int .i64 ((c + 1 : Nat) : Int)), (11, noVal), (16, noVal), (20, noVal), (22, noVal), (24, noVal)] (.step 6 (.step 11 (.step 16 (.both (.step 20 (.both (.run [22, 24]) (.run [24, 22]))) (.both (.step 22 (.both (.run [20, 24]) (.run [24, 20]))) (.step 24 (.both (.run [20, 22]) (.run [22, 20])))))))) (by kernel_rfl) (by decide) (by kernel_rfl) (by kernel_rfl) (by kernel_rfl) ?_
    repeat' first | with_reducible refine canW_n ?_ | with_reducible refine canW_m (by decide) ?_ | ((with_reducible apply canW_p (by decide)); focus (intro H; (simp only [go_sem, sevalprocAttr, reduceCtorEq, b1', b2', hr2, List.map_cons, List.map_nil]); exact rfl)) | with_reducible refine memW_bP ?_ ?_ | with_reducible refine memW_sP rfl ?_ | with_reducible refine memW_rP rfl ?_ | with_reducible refine memW_eP ?_ | simp only [List.take_succ_cons, List.take_zero, List.drop_succ_cons, List.drop_zero] | omega | with_reducible refine And.intro ?_ ?_ | with_reducible refine AWP.ctl (by constructor) ?_ | ((with_reducible (first | refine AWP.region ?_ ?_ | refine AWP.condT ?_ ?_)); exact rfl) | ((with_reducible refine AWP.condF ?_ ?_); exact rfl) | simp only [go_sem, sevalprocAttr, reduceCtorEq, b1', b2', hr2, List.map_cons, List.map_nil] | simp (disch := omega) only [wz] | with_reducible_and_instances exact finR | ((with_reducible refine finR' ?_ ?_) <;> rfl) | ((with_reducible refine finD hsc (NRel.of_plain ?_)); exact rfl)
    all_goals exact ⟨_, _, .refl _ _ _, rfl, hf2⟩
  have b2' : ¬ ((c + 1 : Nat) : Int) > 1000 := by omega
  by_cases b3 : k < 1
  · refine AWP.regionMP 25 [6, 11, 16, 20, 22, 24] [(6, .int .i64 ((c + 1 : Nat) : Int)), (11, .int .i64 k), (16, noVal), (20, noVal), (22, noVal), (24, noVal)] (.step 6 (.step 11 (.step 16 (.both (.step 20 (.both (.run [22, 24]) (.run [24, 22]))) (.both (.step 22 (.both (.run [20, 24]) (.run [24, 20]))) (.step 24 (.both (.run [20, 22]) (.run [22, 20])))))))) (by kernel_rfl) (by decide) (by kernel_rfl) (by kernel_rfl) (by kernel_rfl) ?_
    repeat' first | with_reducible refine canW_n ?_ | with_reducible refine canW_m (by decide) ?_ | ((with_reducible apply canW_p (by decide)); focus (intro H; (simp only [go_sem, sevalprocAttr, reduceCtorEq, b1', b2', b3, hr2, hb2, List.map_cons, List.map_nil]); exact rfl)) | with_reducible refine memW_bP ?_ ?_ | with_reducible refine memW_sP rfl ?_ | with_reducible refine memW_rP rfl ?_ | with_reducible refine memW_eP ?_ | simp only [List.take_succ_cons, List.take_zero, List.drop_succ_cons, List.drop_zero] | omega | with_reducible refine And.intro ?_ ?_ | with_reducible refine AWP.ctl (by constructor) ?_ | ((with_reducible (first | refine AWP.region ?_ ?_ | refine AWP.condT ?_ ?_)); exact rfl) | ((with_reducible refine AWP.condF ?_ ?_); exact rfl) | simp only [go_sem, sevalprocAttr, reduceCtorEq, b1', b2', b3, hr2, hb2, List.map_cons, List.map_nil] | simp (disch := omega) only [wz] | with_reducible_and_instances exact finR | ((with_reducible refine finR' ?_ ?_) <;> rfl) | ((with_reducible refine finD hsc (NRel.of_plain ?_)); exact rfl)
    all_goals exact ⟨_, _, .refl _ _ _, rfl, hf2⟩
  have b4 : k > 4 := by omega
  refine AWP.regionMP 25 [6, 11, 16, 20, 22, 24] [(6, .int .i64 ((c + 1 : Nat) : Int)), (11, .int .i64 k), (16, .int .i64 k), (20, noVal), (22, noVal), (24, noVal)] (.step 6 (.step 11 (.step 16 (.both (.step 20 (.both (.run [22, 24]) (.run [24, 22]))) (.both (.step 22 (.both (.run [20, 24]) (.run [24, 20]))) (.step 24 (.both (.run [20, 22]) (.run [22, 20])))))))) (by kernel_rfl) (by decide) (by kernel_rfl) (by kernel_rfl) (by kernel_rfl) ?_
  repeat' first | with_reducible refine canW_n ?_ | with_reducible refine canW_m (by decide) ?_ | ((with_reducible apply canW_p (by decide)); focus (intro H; (simp only [go_sem, sevalprocAttr, reduceCtorEq, b1', b2', b3, b4, hr2, hb2, List.map_cons, List.map_nil]); exact rfl)) | with_reducible refine memW_bP ?_ ?_ | with_reducible refine memW_sP rfl ?_ | with_reducible refine memW_rP rfl ?_ | with_reducible refine memW_eP ?_ | simp only [List.take_succ_cons, List.take_zero, List.drop_succ_cons, List.drop_zero] | omega | with_reducible refine And.intro ?_ ?_ | with_reducible refine AWP.ctl (by constructor) ?_ | ((with_reducible (first | refine AWP.region ?_ ?_ | refine AWP.condT ?_ ?_)); exact rfl) | ((with_reducible refine AWP.condF ?_ ?_); exact rfl) | simp only [go_sem, sevalprocAttr, reduceCtorEq, b1', b2', b3, b4, hr2, hb2, List.map_cons, List.map_nil] | simp (disch := omega) only [wz] | with_reducible_and_instances exact finR | ((with_reducible refine finR' ?_ ?_) <;> rfl) | ((with_reducible refine finD hsc (NRel.of_plain ?_)); exact rfl)
  all_goals exact ⟨_, _, .refl _ _ _, rfl, hf2⟩
end Go.Proofs.YthcdjconlfdidaaDoor

