/-
  The walk of Valid and Format, over what fits.
-/
import Derived.Test.YthcdjconlfdidaaDoorDU
import Derived.Test.YthcdjconlfdidaaDoorDK
set_option linter.unusedVariables false
set_option linter.unusedSimpArgs false
set_option maxRecDepth 20000
set_option maxHeartbeats 8000000
namespace Go.Proofs.YthcdjconlfdidaaDoor
open Go Go.Aw Go.Proofs
/-- What fits is told of this value. -/
def Fits0 (v : BV) : Prop := ∀ (r : Nat) (H : AHeap) (cs : List Value), H[r]? = some (szO 0 0) → RdV H v cs → TabH H → AC Tryd.prog 33 [.pointer (some ⟨r, 0, none⟩), .agg ⟨cs⟩, .int .i64 12] H (FitP H r (fitV 12 0 0 v))
theorem validW (v : BV) (hF : Fits0 v) (H : AHeap) (cs : List Value) (hR : RdV H v cs) (hT : TabH H) : AC Tryd.prog 17 [.agg ⟨cs⟩] H (fun r H2 => r = .ret (.bool v.valid) ∧ Frm [] H H2) := by
  have hfl := RdV_flat hR
  have hr5 := hR.len
  have htk5 : List.take 5 cs = cs := List.take_of_length_le (by omega)
  obtain ⟨H1, hH1⟩ : ∃ H1 : AHeap, H1 = H ++ [.cells cs ⟨26, 0, true, 0, none⟩, .cells [.int .i64 0, .int .i64 0] ⟨59, 0, true, 0, none⟩] := ⟨_, rfl⟩
  have hb0 : H1[H.length]? = some (.cells cs ⟨26, 0, true, 0, none⟩) := by rw [hH1, hget0 rfl]; rfl
  have hb1 : H1[H.length + 1]? = some (szO 0 0) := by rw [hH1, hgetk rfl]; rfl
  have hf1 : Frm [] H H1 := by rw [hH1]; exact Frm.app
  have hX := hF (H.length + 1) H1 cs hb1 (by rw [hH1]; exact hR.kept (.more _ _)) (by rw [hH1]; exact hT.more _)
  have hv := fit_valid v
  refine AC.enter Tryd.func17 rfl (by kernel_rfl) 6 rfl [.tmp 2] rfl (by simp) fun hsc B => ?_
  repeat first
    | with_reducible (first | refine AWP.seq ?_ | refine AWP.block ?_ | refine AWP.skip ?_ | refine AWP.exit ?_ | refine AWP.ret ?_ | refine AWP.label ?_ | refine AWP.goto ?_)
    | ((with_reducible (first | refine AWP.region ?_ ?_ | refine AWP.condT ?_ ?_)); exact rfl)
    | ((with_reducible refine AWP.condF ?_ ?_); exact rfl)
    | simp only [go_sem, sevalprocAttr, reduceCtorEq, hfl, hr5]
    | simp (disch := omega) only [wi64, wu8, wu16, wu32, wu64]
    | with_reducible_and_instances exact finR
    | ((with_reducible refine finR' ?_ ?_) <;> rfl)
    | ((with_reducible refine finD hsc (NRel.of_plain ?_)); exact rfl)
  rw [← hH1]
  repeat first
    | with_reducible (first | refine AWP.seq ?_ | refine AWP.block ?_ | refine AWP.skip ?_ | refine AWP.exit ?_ | refine AWP.ret ?_ | refine AWP.label ?_ | refine AWP.goto ?_)
    | ((with_reducible (first | refine AWP.region ?_ ?_ | refine AWP.condT ?_ ?_)); exact rfl)
    | ((with_reducible refine AWP.condF ?_ ?_); exact rfl)
    | simp only [go_sem, sevalprocAttr, reduceCtorEq, hb0, htk5, hr5]
    | simp (disch := omega) only [wi64, wu8, wu16, wu32, wu64]
    | with_reducible_and_instances exact finR
    | ((with_reducible refine finR' ?_ ?_) <;> rfl)
    | ((with_reducible refine finD hsc (NRel.of_plain ?_)); exact rfl)
  refine AC.mono hX ?_
  intro res H2 hP
  cases hfv : fitV 12 0 0 v with
  | none =>
    rw [hfv] at hP hv
    obtain ⟨rfl, hf2⟩ := hP
    rw [← hv]
    repeat first
      | with_reducible (first | refine AWP.seq ?_ | refine AWP.block ?_ | refine AWP.skip ?_ | refine AWP.exit ?_ | refine AWP.ret ?_ | refine AWP.label ?_ | refine AWP.goto ?_)
      | ((with_reducible (first | refine AWP.region ?_ ?_ | refine AWP.condT ?_ ?_)); exact rfl)
      | ((with_reducible refine AWP.condF ?_ ?_); exact rfl)
      | simp only [go_sem, sevalprocAttr, reduceCtorEq]
      | simp (disch := omega) only [wi64, wu8, wu16, wu32, wu64]
      | with_reducible_and_instances exact finR
      | ((with_reducible refine finR' ?_ ?_) <;> rfl)
      | ((with_reducible refine finD hsc (NRel.of_plain ?_)); exact rfl)
    exact ⟨_, _, .refl _ _ _, rfl, hf1.trans hf2 (fun x hx => by rw [List.mem_singleton.1 hx]; exact .inr (by omega))⟩
  | some cb =>
    obtain ⟨c, b⟩ := cb
    rw [hfv] at hP hv
    obtain ⟨rfl, -, hf2⟩ := hP
    rw [← hv]
    repeat first
      | with_reducible (first | refine AWP.seq ?_ | refine AWP.block ?_ | refine AWP.skip ?_ | refine AWP.exit ?_ | refine AWP.ret ?_ | refine AWP.label ?_ | refine AWP.goto ?_)
      | ((with_reducible (first | refine AWP.region ?_ ?_ | refine AWP.condT ?_ ?_)); exact rfl)
      | ((with_reducible refine AWP.condF ?_ ?_); exact rfl)
      | simp only [go_sem, sevalprocAttr, reduceCtorEq]
      | simp (disch := omega) only [wi64, wu8, wu16, wu32, wu64]
      | with_reducible_and_instances exact finR
      | ((with_reducible refine finR' ?_ ?_) <;> rfl)
      | ((with_reducible refine finD hsc (NRel.of_plain ?_)); exact rfl)
    exact ⟨_, _, .refl _ _ _, rfl, hf1.trans hf2 (fun x hx => by rw [List.mem_singleton.1 hx]; exact .inr (by omega))⟩
/-- What Format gives. -/
def formatR (v : BV) : List UInt8 × Int := if v.valid = true then (v.write, 0) else ([], 1)
theorem formatW (v : BV) (hF : Fits0 v) (hn : v.nums) (H : AHeap) (cs : List Value) (hR : RdV H v cs) (hT : TabH H) :
    AC Tryd.prog 14 [.agg ⟨cs⟩] H (fun r H2 => r = .ret (.tuple ⟨[.string (bs (formatR v).1), .int .i64 (formatR v).2]⟩) ∧ Frm [] H H2) := by
  have hfl := RdV_flat hR
  have hr5 := hR.len
  have htk5 : List.take 5 cs = cs := List.take_of_length_le (by omega)
  obtain ⟨H1, hH1⟩ : ∃ H1 : AHeap, H1 = H ++ [.cells cs ⟨26, 0, true, 0, none⟩] := ⟨_, rfl⟩
  have hb0 : H1[H.length]? = some (.cells cs ⟨26, 0, true, 0, none⟩) := by rw [hH1, hget0 rfl]; rfl
  have hf1 : Frm [] H H1 := by rw [hH1]; exact Frm.app
  have hR1 : RdV H1 v cs := by rw [hH1]; exact hR.kept (.more _ _)
  have hT1 : TabH H1 := by rw [hH1]; exact hT.more _
  have hV := validW v hF H1 cs hR1 hT1
  unfold formatR
  refine AC.enter Tryd.func14 rfl (by kernel_rfl) 9 rfl [.tmp 2, .tmp 3] rfl (by simp) fun hsc B => ?_
  repeat first
    | with_reducible (first | refine AWP.seq ?_ | refine AWP.block ?_ | refine AWP.skip ?_ | refine AWP.exit ?_ | refine AWP.ret ?_ | refine AWP.label ?_ | refine AWP.goto ?_)
    | ((with_reducible (first | refine AWP.region ?_ ?_ | refine AWP.condT ?_ ?_)); exact rfl)
    | ((with_reducible refine AWP.condF ?_ ?_); exact rfl)
    | simp only [go_sem, sevalprocAttr, reduceCtorEq, hfl, hr5]
    | simp (disch := omega) only [wi64, wu8, wu16, wu32, wu64]
    | with_reducible_and_instances exact finR
    | ((with_reducible refine finR' ?_ ?_) <;> rfl)
    | ((with_reducible refine finD hsc (NRel.of_plain ?_)); exact rfl)
  rw [← hH1]
  repeat first
    | with_reducible (first | refine AWP.seq ?_ | refine AWP.block ?_ | refine AWP.skip ?_ | refine AWP.exit ?_ | refine AWP.ret ?_ | refine AWP.label ?_ | refine AWP.goto ?_)
    | ((with_reducible (first | refine AWP.region ?_ ?_ | refine AWP.condT ?_ ?_)); exact rfl)
    | ((with_reducible refine AWP.condF ?_ ?_); exact rfl)
    | simp only [go_sem, sevalprocAttr, reduceCtorEq, hb0, htk5, hr5]
    | simp (disch := omega) only [wi64, wu8, wu16, wu32, wu64]
    | with_reducible_and_instances exact finR
    | ((with_reducible refine finR' ?_ ?_) <;> rfl)
    | ((with_reducible refine finD hsc (NRel.of_plain ?_)); exact rfl)
  refine AC.mono hV ?_
  rintro res H2 ⟨rfl, hf2⟩
  have hf12 : Frm [] H H2 := hf1.trans hf2 (fun x hx => by cases hx)
  cases hv : v.valid with
  | false =>
    repeat first
      | with_reducible (first | refine AWP.seq ?_ | refine AWP.block ?_ | refine AWP.skip ?_ | refine AWP.exit ?_ | refine AWP.ret ?_ | refine AWP.label ?_ | refine AWP.goto ?_)
      | ((with_reducible (first | refine AWP.region ?_ ?_ | refine AWP.condT ?_ ?_)); exact rfl)
      | ((with_reducible refine AWP.condF ?_ ?_); exact rfl)
      | simp only [go_sem, sevalprocAttr, reduceCtorEq]
      | simp (disch := omega) only [wi64, wu8, wu16, wu32, wu64]
      | with_reducible_and_instances exact finR
      | ((with_reducible refine finR' ?_ ?_) <;> rfl)
      | ((with_reducible refine finD hsc (NRel.of_plain ?_)); exact rfl)
    exact ⟨_, _, .refl _ _ _, rfl, hf12⟩
  | true =>
    have hv2 := hv
    unfold BV.valid at hv2
    simp only [Bool.and_eq_true, decide_eq_true_eq] at hv2
    have hb2 := hf2.get hb0 (by simp)
    have hR2 : RdV H2 v cs := hR1.kept (Kept.frm hf2 (fun x hx => by cases hx))
    have hW := written v hv2.1.1.1 hn (by omega) H2 cs (hT1.frm hf2 (by simp)) hR2
    repeat first
      | with_reducible (first | refine AWP.seq ?_ | refine AWP.block ?_ | refine AWP.skip ?_ | refine AWP.exit ?_ | refine AWP.ret ?_ | refine AWP.label ?_ | refine AWP.goto ?_)
      | ((with_reducible (first | refine AWP.region ?_ ?_ | refine AWP.condT ?_ ?_)); exact rfl)
      | ((with_reducible refine AWP.condF ?_ ?_); exact rfl)
      | simp only [go_sem, sevalprocAttr, reduceCtorEq, hb2, htk5, hr5]
      | simp (disch := omega) only [wi64, wu8, wu16, wu32, wu64]
      | with_reducible_and_instances exact finR
      | ((with_reducible refine finR' ?_ ?_) <;> rfl)
      | ((with_reducible refine finD hsc (NRel.of_plain ?_)); exact rfl)
    refine AC.mono hW ?_
    rintro res H3 ⟨rfl, hf3⟩
    repeat first
      | with_reducible (first | refine AWP.seq ?_ | refine AWP.block ?_ | refine AWP.skip ?_ | refine AWP.exit ?_ | refine AWP.ret ?_ | refine AWP.label ?_ | refine AWP.goto ?_)
      | ((with_reducible (first | refine AWP.region ?_ ?_ | refine AWP.condT ?_ ?_)); exact rfl)
      | ((with_reducible refine AWP.condF ?_ ?_); exact rfl)
      | simp only [go_sem, sevalprocAttr, reduceCtorEq]
      | simp (disch := omega) only [wi64, wu8, wu16, wu32, wu64]
      | with_reducible_and_instances exact finR
      | ((with_reducible refine finR' ?_ ?_) <;> rfl)
      | ((with_reducible refine finD hsc (NRel.of_plain ?_)); exact rfl)
    exact ⟨_, _, .refl _ _ _, rfl, hf12.trans hf3 (fun x hx => by cases hx)⟩
end Go.Proofs.YthcdjconlfdidaaDoor

