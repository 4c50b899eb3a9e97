/-
  FlowBytes for every record that a caller hands over.
-/
import Derived.Test.YtlclcdhbeeaikaaJB
import Derived.Test.YtlclcdhbeeaikaaAwC
set_option linter.unusedVariables false
set_option linter.unusedSimpArgs false
namespace Go.Proofs.Ytlclcdhbeeaikaa
open Go Go.Aw Go.Proofs
open Classical in
theorem FlowBytes {bnd : Nat} (hbnd : bnd < 140737488355328) (cs : List Value) (h : Fits bnd [.i .i64, .i .i64, .i .i64, .i .i64, .i .i64, .s, .s, .i .i64, .i .i64] cs) (i bit : Int) (H : AHeap) :
    ARet Try.prog 3 [.agg ⟨cs⟩, .int .i64 i, .int .i64 bit] H (.bool true) H := by
  obtain _ | ⟨⟨k, rfl, _⟩, h⟩ := h
  obtain _ | ⟨⟨cn, rfl, _⟩, h⟩ := h
  obtain _ | ⟨⟨sq, rfl, _⟩, h⟩ := h
  obtain _ | ⟨⟨ak, rfl, _⟩, h⟩ := h
  obtain _ | ⟨⟨wd, rfl, _⟩, h⟩ := h
  obtain _ | ⟨⟨m, rfl, hm⟩, h⟩ := h
  obtain _ | ⟨⟨b, rfl, hb⟩, h⟩ := h
  obtain _ | ⟨⟨tm, rfl, _⟩, h⟩ := h
  obtain _ | ⟨⟨lt, rfl, _⟩, h⟩ := h
  cases h
  by_cases hp : okP k cn sq ak wd m b tm lt
  · have h1 := hp
    unfold okP at h1
    have he : ∀ z : Int, 0 ≤ z → ((z.toNat : Nat) : Int) = z := fun z hz => Int.toNat_of_nonneg hz
    have hr : (Sg.mk k.toNat cn.toNat sq.toNat ak.toNat wd.toNat m b tm.toNat lt.toNat).right := by
      rw [← okP_iff]
      simp only [he k (by omega), he cn (by omega), he sq (by omega), he ak (by omega), he wd (by omega), he tm (by omega), he lt (by omega)]
      exact hp
    have h2 := bytesYes _ hr i bit H
    unfold sgV at h2
    simp only [he k (by omega), he cn (by omega), he sq (by omega), he ak (by omega), he wd (by omega), he tm (by omega), he lt (by omega)] at h2
    exact h2
  · exact bytesNo k cn sq ak wd m b tm lt i bit (by omega) (by omega) hp H
end Go.Proofs.Ytlclcdhbeeaikaa
