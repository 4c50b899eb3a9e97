/-
  The walk of sorted nodes: the specification's list in its order.
-/
import Derived.Test.YtdbdnknnaekbhaaOR
set_option linter.unusedVariables false
set_option linter.unusedSimpArgs false
set_option maxRecDepth 20000
set_option maxHeartbeats 4000000
namespace Go.Proofs.Ytdbdnknnaekbhaa
open Go Go.Aw Go.Proofs
/-- The first n, each once. -/
def ddN (l : List Nd) : Nat → List Nd
  | 0 => []
  | n + 1 => ddN l n ++ (match l[n]? with
    | some x => if x ∈ l.take n then [] else [x]
    | none => [])
theorem ddN_mem (l : List Nd) : ∀ (n : Nat) (x : Nd), x ∈ ddN l n ↔ x ∈ l.take n
  | 0, x => by simp [ddN]
  | n + 1, x => by
    rw [ddN, List.mem_append, ddN_mem l n x, List.take_add_one, List.mem_append]
    cases hc : l[n]? with
    | none => simp
    | some y =>
      simp only [Option.toList_some, List.mem_singleton]
      by_cases h : y ∈ l.take n
      · rw [if_pos h]
        simp only [List.not_mem_nil, or_false]
        constructor
        · intro h1; exact .inl h1
        · rintro (h1 | h1)
          · exact h1
          · rw [h1]; exact h
      · rw [if_neg h, List.mem_singleton]
theorem ddN_nodup (l : List Nd) : ∀ n, (ddN l n).Nodup
  | 0 => by simp [ddN]
  | n + 1 => by
    rw [ddN]
    refine List.nodup_append.2 ⟨ddN_nodup l n, ?_, ?_⟩
    · cases l[n]? with
      | none => exact List.nodup_nil
      | some y =>
        simp only
        split
        · exact List.nodup_nil
        · exact List.pairwise_singleton _ _
    · intro a ha b hb
      cases hc : l[n]? with
      | none => rw [hc] at hb; simp at hb
      | some y =>
        rw [hc] at hb
        simp only at hb
        split at hb
        · simp at hb
        · rename_i h
          have : b = y := by simpa using hb
          subst this
          intro e
          subst e
          exact h ((ddN_mem l n a).1 ha)
theorem ddN_len (l : List Nd) : ∀ n, (ddN l n).length ≤ n
  | 0 => by simp [ddN]
  | n + 1 => by
    have := ddN_len l n
    rw [ddN, List.length_append]
    cases l[n]? with
    | none => simp; omega
    | some y =>
      simp only
      split <;> simp <;> omega
theorem nodup_get {α : Type} {l : List α} : l.Nodup ↔ ∀ (i j : Nat) (x y : α), i < j → l[i]? = some x → l[j]? = some y → x ≠ y := by
  unfold List.Nodup
  rw [List.pairwise_iff_getElem]
  constructor
  · intro h i j x y hij hx hy
    obtain ⟨h1, rfl⟩ := List.getElem?_eq_some_iff.1 hx
    obtain ⟨h2, rfl⟩ := List.getElem?_eq_some_iff.1 hy
    exact h i j h1 h2 hij
  · intro h i j hi hj hij
    exact h i j _ _ hij (List.getElem?_eq_getElem hi) (List.getElem?_eq_getElem hj)
theorem Pm.nodup {α : Type} {l l' : List α} {p : Nat → Nat} (h : Pm l l' p) (hp : ∀ q, q < l.length → p q < l.length) (hi : ∀ q q', q < l.length → q' < l.length → p q = p q' → q = q') (hn : l.Nodup) : l'.Nodup := by
  rw [nodup_get] at hn ⊢
  intro i j x y hij hx hy e
  subst e
  have hjl : j < l.length := by rw [← h.1]; exact (List.getElem?_eq_some_iff.1 hy).1
  rw [h.2 i (by omega)] at hx
  rw [h.2 j hjl] at hy
  have h1 := hp i (by omega)
  have h2 := hp j hjl
  rcases Nat.lt_trichotomy (p i) (p j) with c | c | c
  · exact hn _ _ _ _ c hx hy rfl
  · have := hi i j (by omega) hjl c; omega
  · exact hn _ _ _ _ c hy hx rfl
theorem nodes_of {t : List UInt8} (ht : t.length = 20) {l R : List Nd} (hok : ∀ x ∈ l, x.ok = true) (hm : ∀ x, x ∈ R ↔ x ∈ l) (hn : R.Nodup) (hlen : R.length ≤ l.length) (hs : Srt (leN t) R 0 R.length) : NodesOf t l R := by
  refine ⟨List.pairwise_iff_getElem.2 fun i j hi hj hij => ?_, hm, hlen⟩
  have h1 := hs i j R[i] R[j] (Nat.zero_le _) hij hj (List.getElem?_eq_getElem hi) (List.getElem?_eq_getElem hj)
  unfold leN at h1
  have hng := (cmpN_ok t).neg R[i] R[j]
  rcases (show cmpN t R[i] R[j] < 0 ∨ cmpN t R[i] R[j] = 0 by omega) with h | h
  · exact h
  · have he := cmpN_zero ht (hok _ ((hm _).1 (List.getElem_mem hi))) (hok _ ((hm _).1 (List.getElem_mem hj))) h
    exact absurd he (nodup_get.1 hn i j _ _ hij (List.getElem?_eq_getElem hi) (List.getElem?_eq_getElem hj))
/-- Two lists of the same nodes in their order are one. -/
theorem nodes_one {t : List UInt8} : ∀ {R R' : List Nd}, (R.Pairwise fun x y => cmpN t x y < 0) → (R'.Pairwise fun x y => cmpN t x y < 0) → (∀ x, x ∈ R ↔ x ∈ R') → R = R'
  | [], [], _, _, _ => rfl
  | [], y :: R', _, _, h => absurd ((h y).2 (List.mem_cons_self ..)) (by simp)
  | x :: R, [], _, _, h => absurd ((h x).1 (List.mem_cons_self ..)) (by simp)
  | x :: R, y :: R', hp, hp', h => by
    have p1 := List.pairwise_cons.1 hp
    have p2 := List.pairwise_cons.1 hp'
    have self := fun z => (cmpN_ok t).self z
    have hxy : x = y := by
      rcases List.mem_cons.1 ((h x).1 (List.mem_cons_self ..)) with e | e
      · exact e
      · rcases List.mem_cons.1 ((h y).2 (List.mem_cons_self ..)) with e' | e'
        · exact e'.symm
        · have := p1.1 y e'
          have := p2.1 x e
          have := (cmpN_ok t).neg x y
          omega
    subst hxy
    have : R = R' := nodes_one p1.2 p2.2 fun z => by
      constructor
      · intro hz
        rcases List.mem_cons.1 ((h z).1 (List.mem_cons_of_mem _ hz)) with e | e
        · subst e
          have := p1.1 z hz
          have := self z
          omega
        · exact e
      · intro hz
        rcases List.mem_cons.1 ((h z).2 (List.mem_cons_of_mem _ hz)) with e | e
        · subst e
          have := p2.1 z hz
          have := self z
          omega
        · exact e
    rw [this]
end Go.Proofs.Ytdbdnknnaekbhaa

