/-
  Lists of texts that a caller hands over.
-/
import Derived.Test.YtdeoaadkngiilaaDoorAw34
import Derived.SliceStrings
set_option linter.unusedVariables false
set_option linter.unusedSimpArgs false
namespace Go.Aw
open Go.RowKit Go.ChangeShapes Go.WideShapes Go.ChangeAt
def strsC (l : List (List UInt8)) : List Value := l.map fun s => .string (bs s)
theorem strsC_length (l : List (List UInt8)) : (strsC l).length = l.length := by simp [strsC]
theorem strsC_get {l : List (List UInt8)} {n : Nat} (h : n < l.length) : (strsC l)[n]? = some (.string (bs l[n])) := by
  simp [strsC, List.getElem?_eq_getElem h]
theorem strsC_scalar (l : List (List UInt8)) : (strsC l).all scalar = true := by simp [strsC, scalar]
theorem strsC_flat (l : List (List UInt8)) : (strsC l).all flat = true := by simp [strsC, flat]
theorem lend_strs {D : Type} {enc : TypeId × Value → D} {P : Program} {w : World} {t e : TypeId} {v : Value} {d : DataW D} {ps : List MemPlace} {b0 : Nat} (ht : P.underlying t = some (.slice e)) (he : P.underlying e = some .string) (hc : P.cellsOf e = 1)
    (hval : Value.okWide P w .any b0 t v) (h : DataW.Trod enc P w 0 (fun _ => true) true t v d ps) {c : Ctx} {H : AHeap} (hL : Lent c H w) :
    ∃ (l : List (List UInt8)) (c' : Ctx) (X : AHeap) (av : Value), (∀ s ∈ l, s.length ≤ 9223372036854775807) ∧ l.length ≤ 9223372036854775807 ∧ Lent c' (H ++ X) w ∧ c.le c' ∧ VRel c' av v ∧ Rd (H ++ X) av (strsC l) := by
  have hmx : maxLen = 9223372036854775807 := by decide
  obtain ⟨rs, c', X, av, hg, hL', hle, hva, hrd⟩ := lend_recs (m := 1) ht hc (by decide) (fun cs => ∃ s : ByteArray, cs = [.string s] ∧ s.size ≤ maxLen) (fun n cs y hh => by
    obtain ⟨s, e1, _, e2⟩ := DataW.trod_string he hh
    exact ⟨by rw [e1]; rfl, s, e1, e2⟩) hval h hL
  obtain ⟨l, hl⟩ : ∃ l : List (List UInt8), rs = l.map fun s => [.string (bs s)] := by
    clear hrd
    induction rs with
    | nil => exact ⟨[], rfl⟩
    | cons r rs ih =>
      obtain ⟨_, s, e1, _⟩ := hg r (List.mem_cons_self ..)
      obtain ⟨l, e2⟩ := ih (fun r hr => hg r (List.mem_cons_of_mem _ hr))
      exact ⟨s.data.toList :: l, by rw [e1, e2]; rfl⟩
  subst hl
  refine ⟨l, c', X, av, fun s hs => ?_, ?_, hL', hle, hva, ?_⟩
  · obtain ⟨_, s', e1, e2⟩ := hg [.string (bs s)] (List.mem_map.2 ⟨s, hs, rfl⟩)
    have : bs s = s' := by simpa using e1
    subst this
    rw [hmx] at e2
    exact e2
  · rcases hrd with ⟨_, e2⟩ | ⟨i, off, cap, cs, k, e1, _⟩
    · have : l = [] := by simpa using e2
      subst this; simp
    · subst e1
      have hb : ∀ a n cp, Value.okWide P w .any b0 t (.slice (some a) n cp) → n ≤ 9223372036854775807 := fun a n cp hv => by
        unfold Value.okWide at hv
        rw [ht] at hv
        simp only [Cell.okWide, ht, Cell.ok] at hv
        have := hv.1; have := hv.2.1
        have hm : IntKind.i64.max = 9223372036854775807 := by decide
        omega
      rw [List.length_map] at hva
      generalize l.length = n at hva ⊢
      cases hva with
      | slice hc => exact hb _ _ _ hval
      | sliceX hc _ => exact hb _ _ _ hval
      | sliceZ hc => exact Nat.zero_le _
  · rcases hrd with ⟨e1, e2⟩ | ⟨i, off, cap, cs, k, e1, e2, e3, e4⟩
    · have : l = [] := by simpa using e2
      subst this
      exact .inl ⟨e1, rfl⟩
    · rw [List.length_map] at e1
      refine .inr ⟨i, off, cap, cs, k, by rw [strsC_length]; exact e1, e2, fun j hj => ?_⟩
      rw [strsC_length] at hj
      have := e4 j [.string (bs l[j])] (by simp [List.getElem?_eq_getElem hj])
      rw [Nat.mul_one] at this
      rw [strsC_get hj]
      have h2 : ((cs.drop (off + j)).take 1)[0]? = some (.string (bs l[j])) := by rw [this]; rfl
      rw [List.getElem?_take_of_lt (by decide), List.getElem?_drop, Nat.add_zero] at h2
      exact h2
end Go.Aw
