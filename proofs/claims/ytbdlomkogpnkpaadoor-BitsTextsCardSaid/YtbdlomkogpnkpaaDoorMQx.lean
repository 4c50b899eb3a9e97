/-
  Runs compared; the law BitsRuns.
-/
import Derived.Test.YtbdlomkogpnkpaaDoorMPx
set_option linter.unusedVariables false
set_option linter.unusedSimpArgs false
set_option maxRecDepth 20000
set_option maxHeartbeats 1000000
namespace Go.Proofs.YtbdlomkogpnkpaaDoor
open Go Go.Aw Go.Proofs Go.Shelf Go.RowKit Go.ChangeShapes
theorem RdN.runs {H : AHeap} {i n : Nat} {r : List (Nat × Nat)} (h : H[i]? = some (runsO r)) (hn : n = r.length) : RdN H 2 (gS i n) (recsC (castR r)) := by
  subst hn
  rcases Nat.eq_zero_or_pos r.length with h0 | h0
  · have : r = [] := List.length_eq_zero_iff.1 h0
    subst this
    exact .inl ⟨rfl, rfl⟩
  · rw [gS_pos h0]
    rw [runsO_pos h0] at h
    have hl : (recsC (castR r)).length = r.length := by simp [recsC, castR]
    refine .inr ⟨i, 0, r.length, _, _, by rw [hl], h, fun _ => by rw [hl, runsC_length]; omega, fun j q hq => ?_⟩
    unfold recsC castR at hq
    rw [List.map_map, List.getElem?_map] at hq
    cases hp : r[j]? with
    | none => rw [hp] at hq; cases hq
    | some p =>
      rw [hp] at hq
      cases hq
      obtain ⟨g1, g2⟩ := runsC_get r j p.1 p.2 hp
      rw [Nat.zero_add]
      exact take2_of_get g1 g2
end Go.Proofs.YtbdlomkogpnkpaaDoor
