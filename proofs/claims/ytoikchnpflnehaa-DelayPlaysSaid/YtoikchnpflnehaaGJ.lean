/-
  The law: a sample above the target never raises the limit, one below never lowers it; of losses within a round trip one halves.
-/
import Derived.Test.YtoikchnpflnehaaGI
set_option linter.unusedVariables false
set_option linter.unusedSimpArgs false
set_option maxRecDepth 20000
namespace Go.Proofs.Ytoikchnpflnehaa
open Go Go.Aw Go.Proofs
theorem putL_ne (m d : Int) (q : List (Int × Int)) : putL m d q ≠ [] := by
  unfold putL
  split
  · simp
  · rename_i l hl
    split
    · split
      · simp
      · intro e; rw [e] at hl; simp at hl
    · simp
structure Ctl.inv (C : Ctl) (target : Int) (n : Nat) : Prop where
  ok : C.ok
  halved : 0 ≤ C.halved ∧ C.halved ≤ C.now
  target : C.target = target
  past : C.past.length ≤ n
def Ctl.taken (C : Ctl) (now delay : Int) : Ctl := ((Ctl.mk now C.halved C.ever C.target C.limit C.last C.past).addL delay).noteL delay
theorem sampleL_eq (C : Ctl) (now bytes delay under : Int) (h : sampleD C now bytes delay under) : C.sampleL now bytes delay under = (C.taken now delay).changeL bytes under := if_pos h
theorem change_ok (C : Ctl) (bytes under : Int) : 1500 ≤ (C.changeL bytes under).limit ∧ (C.changeL bytes under).limit ≤ 1000000 := by
  simp only [Ctl.changeL]; omega
theorem sample_inv (C : Ctl) (target : Int) (n : Nat) (h : C.inv target n) (now bytes delay under : Int) : (C.sampleL now bytes delay under).inv target (n + 1) ∧ C.now ≤ (C.sampleL now bytes delay under).now := by
  by_cases hd : sampleD C now bytes delay under
  · rw [sampleL_eq _ _ _ _ _ hd]
    obtain ⟨_, _, _, ht⟩ := hd
    unfold tellD at ht
    obtain ⟨hok, hh, htar, hp⟩ := h
    refine ⟨⟨⟨⟨by show 0 ≤ now; have := hok.now; omega, ht.2⟩, hok.target, change_ok _ _ _, ?_⟩, ⟨hh.1, by show C.halved ≤ now; omega⟩, htar, ?_⟩, ht.1⟩
    · show ((C.last ++ [delay]).drop (C.last.length + 1 - 4)).length ≤ 4
      have := hok.last
      simp; omega
    · have := Ctl.noteL_len ((Ctl.mk now C.halved C.ever C.target C.limit C.last C.past).addL delay) delay
      show (((Ctl.mk now C.halved C.ever C.target C.limit C.last C.past).addL delay).noteL delay).past.length ≤ n + 1
      have h4 : ((Ctl.mk now C.halved C.ever C.target C.limit C.last C.past).addL delay).past.length = C.past.length := rfl
      omega
  · have : C.sampleL now bytes delay under = C := if_neg hd
    rw [this]
    exact ⟨⟨h.ok, h.halved, h.target, by have := h.past; omega⟩, Int.le_refl _⟩
theorem loss_inv (C : Ctl) (target : Int) (n : Nat) (h : C.inv target n) (now trip : Int) : (C.loss now trip).inv target n ∧ C.now ≤ (C.loss now trip).now := by
  unfold Ctl.loss
  split
  · rename_i hd
    obtain ⟨_, ht⟩ := hd
    unfold tellD at ht
    obtain ⟨hok, hh, htar, hp⟩ := h
    have h0 := hok.now
    have hlim := hok.limit
    unfold Ctl.lose
    split
    · exact ⟨⟨⟨⟨by show 0 ≤ now; omega, ht.2⟩, hok.target, hok.limit, hok.last⟩, ⟨hh.1, by show C.halved ≤ now; omega⟩, htar, hp⟩, ht.1⟩
    · exact ⟨⟨⟨⟨by show 0 ≤ now; omega, ht.2⟩, hok.target, by simp only [Ctl.at_]; omega, hok.last⟩, ⟨by show 0 ≤ now; omega, Int.le_refl _⟩, htar, hp⟩, ht.1⟩
  · exact ⟨h, Int.le_refl _⟩
theorem stepL_pos (C : Ctl) (ht : 1 ≤ C.target) (hl : 1 ≤ C.limit) (bytes under : Int) (hb : 0 ≤ bytes) (h : queueL C ≤ C.target) : 0 ≤ stepL C bytes under := by
  have ho : 0 ≤ offL C := by unfold offL; omega
  have hp : 0 ≤ 3000 * offL C * bytes := Int.mul_nonneg (by omega) hb
  unfold stepL
  split
  · exact Int.le_refl _
  · rw [Int.tdiv_eq_ediv_of_nonneg hp]
    exact Int.ediv_nonneg hp (Int.mul_nonneg (by omega) (by omega))
theorem stepL_neg (C : Ctl) (ht : 1 ≤ C.target) (hl : 1 ≤ C.limit) (bytes under : Int) (hb : 0 ≤ bytes) (h : C.target ≤ queueL C) : stepL C bytes under ≤ 0 := by
  have ho : offL C ≤ 0 := by unfold offL; omega
  have hp : 0 ≤ -(3000 * offL C * bytes) := by
    have : 0 ≤ (-(3000 * offL C)) * bytes := Int.mul_nonneg (by omega) hb
    rw [Int.neg_mul] at this; exact this
  unfold stepL
  split
  · exact Int.le_refl _
  · have e : (3000 * offL C * bytes).tdiv (C.target * C.limit) = -((-(3000 * offL C * bytes)).tdiv (C.target * C.limit)) := by rw [Int.neg_tdiv]; omega
    rw [e, Int.tdiv_eq_ediv_of_nonneg hp]
    have := Int.ediv_nonneg hp (Int.mul_nonneg (by omega) (by omega) : 0 ≤ C.target * C.limit)
    omega
/-- What the law asks of a sample. -/
theorem yields (C : Ctl) (hok : C.ok) (now bytes delay under : Int) (h : sampleD C now bytes delay under) :
    askE (C.sampleL now bytes delay under) = 0 ∧ queueR (C.sampleL now bytes delay under) = queueL (C.taken now delay) ∧
    (C.target ≤ queueL (C.taken now delay) → (C.sampleL now bytes delay under).limit ≤ C.limit) ∧ (queueL (C.taken now delay) ≤ C.target → C.limit ≤ (C.sampleL now bytes delay under).limit) := by
  have hne : (C.sampleL now bytes delay under).past ≠ [] := by
    rw [sampleL_eq _ _ _ _ _ h]; exact putL_ne _ _ _
  have hq : queueL (C.sampleL now bytes delay under) = queueL (C.taken now delay) := by rw [sampleL_eq _ _ _ _ _ h]; rfl
  have hl : (C.sampleL now bytes delay under).limit = min (max (C.limit + min (stepL (C.taken now delay) bytes under) bytes) 1500) 1000000 := by rw [sampleL_eq _ _ _ _ _ h]; rfl
  obtain ⟨hb, _⟩ := h
  have h1 := stepL_pos (C.taken now delay) hok.target.1 (by have := hok.limit; show 1 ≤ C.limit; omega) bytes under hb.1
  have h2 := stepL_neg (C.taken now delay) hok.target.1 (by have := hok.limit; show 1 ≤ C.limit; omega) bytes under hb.1
  have e : (C.taken now delay).target = C.target := rfl
  rw [e] at h1 h2
  have hlim := hok.limit
  refine ⟨if_neg hne, by unfold queueR; rw [if_neg hne, hq], fun h => ?_, fun h => ?_⟩
  · have := h2 h; rw [hl]; omega
  · have := h1 h; rw [hl]; omega
end Go.Proofs.Ytoikchnpflnehaa
