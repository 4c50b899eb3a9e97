/-
  The walk of the shapes of bencoded values.
-/
import Derived.Test.YthcdjconlfdidaaDoorDO
set_option linter.unusedVariables false
set_option linter.unusedSimpArgs false
set_option maxRecDepth 20000
set_option maxHeartbeats 4000000
namespace Go.Proofs.YthcdjconlfdidaaDoor
open Go Go.Aw Go.Proofs
theorem natEq0 (a : Nat) : ((a : Int) == 0) = (a == 0) := by
  by_cases h : a = 0
  · subst h; rfl
  · rw [beq_eq_false_iff_ne.2 h]; exact beq_eq_false_iff_ne.2 (by omega)
theorem sh1 (k n : Int) (s : List UInt8) (kids : List BV) (keys : List (List UInt8)) (hk : kids.length ≤ 1099511627776) (hx : keys.length ≤ 1099511627776) (H : AHeap) (cs : List Value) (hR : RdV H (.mk k n s kids keys) cs) :
    ARet Tryd.prog 88 [.agg ⟨cs⟩] H (.bool ((s == []) && (kids.length + keys.length == 0))) H := by
  have hfl := RdV_flat hR
  have hr5 := hR.len
  unfold RdV at hR
  obtain ⟨vk, vs, css, rfl, h1, hL, h3⟩ := hR
  have hkl : (keyC keys).length = keys.length := by unfold keyC; simp
  have hcl := hL.len
  have q1 : ∀ H' K, lenW Tryd.prog 23 vk H' K = K (.int .i64 (kids.length : Nat)) H' := fun H' K => by rw [h1.lenT (by simp only [go_sem, sevalprocAttr, reduceCtorEq]), hcl]
  have q2 : ∀ H' K, lenW Tryd.prog 24 vs H' K = K (.int .i64 (keys.length : Nat)) H' := fun H' K => by rw [h3.lenT (by simp only [go_sem, sevalprocAttr, reduceCtorEq]), hkl]
  have hw : IntKind.i64.wrap ((kids.length : Int) + (keys.length : Int)) = ((kids.length + keys.length : Nat) : Int) := by rw [wi64 (by omega)]; omega
  have he := natEq0 (kids.length + keys.length)
  refine AC.enter Tryd.func88 rfl (by kernel_rfl) 16 rfl [.tmp 2] rfl (by simp) fun hsc B => ?_
  cases hs : (s == [])
  · repeat first | with_reducible refine finD hsc (NRel.of_plain rfl) | with_reducible refine AWP.ctl (by constructor) ?_ | ((with_reducible (first | refine AWP.region ?_ ?_ | refine AWP.condT ?_ ?_)); exact rfl) | ((with_reducible refine AWP.condF ?_ ?_); exact rfl) | simp only [go_sem, sevalprocAttr, reduceCtorEq, hfl, hr5, hs, q1, q2, hw, he, Bool.false_and, Bool.true_and] | simp (disch := omega) only [wz] | with_reducible_and_instances exact finR | ((with_reducible refine finR' ?_ ?_) <;> rfl) | ((with_reducible refine finD hsc (NRel.of_plain ?_)); exact rfl)
    done
  · repeat first | with_reducible refine finD hsc (NRel.of_plain rfl) | with_reducible refine AWP.ctl (by constructor) ?_ | ((with_reducible (first | refine AWP.region ?_ ?_ | refine AWP.condT ?_ ?_)); exact rfl) | ((with_reducible refine AWP.condF ?_ ?_); exact rfl) | simp only [go_sem, sevalprocAttr, reduceCtorEq, hfl, hr5, hs, q1, q2, hw, he, Bool.false_and, Bool.true_and] | simp (disch := omega) only [wz] | with_reducible_and_instances exact finR | ((with_reducible refine finR' ?_ ?_) <;> rfl) | ((with_reducible refine finD hsc (NRel.of_plain ?_)); exact rfl)
    done
theorem sh2 (k n : Int) (s : List UInt8) (kids : List BV) (keys : List (List UInt8)) (hk : kids.length ≤ 1099511627776) (hx : keys.length ≤ 1099511627776) (H : AHeap) (cs : List Value) (hR : RdV H (.mk k n s kids keys) cs) :
    ARet Tryd.prog 89 [.agg ⟨cs⟩] H (.bool ((n == 0) && (kids.length + keys.length == 0))) H := by
  have hfl := RdV_flat hR
  have hr5 := hR.len
  unfold RdV at hR
  obtain ⟨vk, vs, css, rfl, h1, hL, h3⟩ := hR
  have hkl : (keyC keys).length = keys.length := by unfold keyC; simp
  have hcl := hL.len
  have q1 : ∀ H' K, lenW Tryd.prog 23 vk H' K = K (.int .i64 (kids.length : Nat)) H' := fun H' K => by rw [h1.lenT (by simp only [go_sem, sevalprocAttr, reduceCtorEq]), hcl]
  have q2 : ∀ H' K, lenW Tryd.prog 24 vs H' K = K (.int .i64 (keys.length : Nat)) H' := fun H' K => by rw [h3.lenT (by simp only [go_sem, sevalprocAttr, reduceCtorEq]), hkl]
  have hw : IntKind.i64.wrap ((kids.length : Int) + (keys.length : Int)) = ((kids.length + keys.length : Nat) : Int) := by rw [wi64 (by omega)]; omega
  have he := natEq0 (kids.length + keys.length)
  refine AC.enter Tryd.func89 rfl (by kernel_rfl) 16 rfl [.tmp 2] rfl (by simp) fun hsc B => ?_
  cases hs : (n == 0)
  · repeat first | with_reducible refine finD hsc (NRel.of_plain rfl) | with_reducible refine AWP.ctl (by constructor) ?_ | ((with_reducible (first | refine AWP.region ?_ ?_ | refine AWP.condT ?_ ?_)); exact rfl) | ((with_reducible refine AWP.condF ?_ ?_); exact rfl) | simp only [go_sem, sevalprocAttr, reduceCtorEq, hfl, hr5, hs, q1, q2, hw, he, Bool.false_and, Bool.true_and] | simp (disch := omega) only [wz] | with_reducible_and_instances exact finR | ((with_reducible refine finR' ?_ ?_) <;> rfl) | ((with_reducible refine finD hsc (NRel.of_plain ?_)); exact rfl)
    done
  · repeat first | with_reducible refine finD hsc (NRel.of_plain rfl) | with_reducible refine AWP.ctl (by constructor) ?_ | ((with_reducible (first | refine AWP.region ?_ ?_ | refine AWP.condT ?_ ?_)); exact rfl) | ((with_reducible refine AWP.condF ?_ ?_); exact rfl) | simp only [go_sem, sevalprocAttr, reduceCtorEq, hfl, hr5, hs, q1, q2, hw, he, Bool.false_and, Bool.true_and] | simp (disch := omega) only [wz] | with_reducible_and_instances exact finR | ((with_reducible refine finR' ?_ ?_) <;> rfl) | ((with_reducible refine finD hsc (NRel.of_plain ?_)); exact rfl)
    done
theorem sh3 (k n : Int) (s : List UInt8) (kids : List BV) (keys : List (List UInt8)) (H : AHeap) (cs : List Value) (hR : RdV H (.mk k n s kids keys) cs) :
    ARet Tryd.prog 90 [.agg ⟨cs⟩] H (.bool ((n == 0) && (s == []) && (keys.length == 0))) H := by
  have hfl := RdV_flat hR
  have hr5 := hR.len
  unfold RdV at hR
  obtain ⟨vk, vs, css, rfl, h1, hL, h3⟩ := hR
  have hkl : (keyC keys).length = keys.length := by unfold keyC; simp
  have q2 : ∀ H' K, lenW Tryd.prog 24 vs H' K = K (.int .i64 (keys.length : Nat)) H' := fun H' K => by rw [h3.lenT (by simp only [go_sem, sevalprocAttr, reduceCtorEq]), hkl]
  have he := natEq0 keys.length
  refine AC.enter Tryd.func90 rfl (by kernel_rfl) 17 rfl [.tmp 2] rfl (by simp) fun hsc B => ?_
  cases hs : (n == 0) <;> cases ht : (s == [])
  · repeat first | with_reducible refine finD hsc (NRel.of_plain rfl) | with_reducible refine AWP.ctl (by constructor) ?_ | ((with_reducible (first | refine AWP.region ?_ ?_ | refine AWP.condT ?_ ?_)); exact rfl) | ((with_reducible refine AWP.condF ?_ ?_); exact rfl) | simp only [go_sem, sevalprocAttr, reduceCtorEq, hfl, hr5, hs, ht, q2, he, Bool.false_and, Bool.true_and] | simp (disch := omega) only [wz] | with_reducible_and_instances exact finR | ((with_reducible refine finR' ?_ ?_) <;> rfl) | ((with_reducible refine finD hsc (NRel.of_plain ?_)); exact rfl)
    done
  · repeat first | with_reducible refine finD hsc (NRel.of_plain rfl) | with_reducible refine AWP.ctl (by constructor) ?_ | ((with_reducible (first | refine AWP.region ?_ ?_ | refine AWP.condT ?_ ?_)); exact rfl) | ((with_reducible refine AWP.condF ?_ ?_); exact rfl) | simp only [go_sem, sevalprocAttr, reduceCtorEq, hfl, hr5, hs, ht, q2, he, Bool.false_and, Bool.true_and] | simp (disch := omega) only [wz] | with_reducible_and_instances exact finR | ((with_reducible refine finR' ?_ ?_) <;> rfl) | ((with_reducible refine finD hsc (NRel.of_plain ?_)); exact rfl)
    done
  · repeat first | with_reducible refine finD hsc (NRel.of_plain rfl) | with_reducible refine AWP.ctl (by constructor) ?_ | ((with_reducible (first | refine AWP.region ?_ ?_ | refine AWP.condT ?_ ?_)); exact rfl) | ((with_reducible refine AWP.condF ?_ ?_); exact rfl) | simp only [go_sem, sevalprocAttr, reduceCtorEq, hfl, hr5, hs, ht, q2, he, Bool.false_and, Bool.true_and] | simp (disch := omega) only [wz] | with_reducible_and_instances exact finR | ((with_reducible refine finR' ?_ ?_) <;> rfl) | ((with_reducible refine finD hsc (NRel.of_plain ?_)); exact rfl)
    done
  · repeat first | with_reducible refine finD hsc (NRel.of_plain rfl) | with_reducible refine AWP.ctl (by constructor) ?_ | ((with_reducible (first | refine AWP.region ?_ ?_ | refine AWP.condT ?_ ?_)); exact rfl) | ((with_reducible refine AWP.condF ?_ ?_); exact rfl) | simp only [go_sem, sevalprocAttr, reduceCtorEq, hfl, hr5, hs, ht, q2, he, Bool.false_and, Bool.true_and] | simp (disch := omega) only [wz] | with_reducible_and_instances exact finR | ((with_reducible refine finR' ?_ ?_) <;> rfl) | ((with_reducible refine finD hsc (NRel.of_plain ?_)); exact rfl)
    done
theorem shF (H : AHeap) : ARet Tryd.prog 66 [] H (.agg ⟨[.nilFunc, .func (.func 88) ⟨[]⟩ ⟨[]⟩, .func (.func 89) ⟨[]⟩ ⟨[]⟩, .func (.func 90) ⟨[]⟩ ⟨[]⟩, .func (.func 91) ⟨[]⟩ ⟨[]⟩]⟩) H := by
  refine AC.enter Tryd.func66 rfl (by kernel_rfl) 2 rfl [.cell 0 96] rfl (by simp) fun hsc B => ?_
  repeat first | with_reducible refine AWP.ctl (by constructor) ?_ | ((with_reducible (first | refine AWP.region ?_ ?_ | refine AWP.condT ?_ ?_)); exact rfl) | ((with_reducible refine AWP.condF ?_ ?_); exact rfl) | simp only [go_sem, sevalprocAttr, reduceCtorEq] | simp (disch := omega) only [wz] | with_reducible_and_instances exact finR | ((with_reducible refine finR' ?_ ?_) <;> rfl) | ((with_reducible refine finD hsc (NRel.of_plain ?_)); exact rfl)
  exact finD hsc (by simp [nr_agg, nrs_cons, nrs_nil, nr_nilFunc, nr_func])
end Go.Proofs.YthcdjconlfdidaaDoor

