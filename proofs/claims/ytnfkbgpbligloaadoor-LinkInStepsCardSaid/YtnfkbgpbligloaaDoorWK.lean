/-
  Links: appending several rows; the law of taking in steps, its first loop.
-/
import Derived.Test.YtnfkbgpbligloaaDoorWJ
set_option linter.unusedVariables false
set_option linter.unusedSimpArgs false
set_option maxRecDepth 20000
set_option maxHeartbeats 4000000
namespace Go.Proofs.YtnfkbgpbligloaaDoor
open Go Go.Aw Go.Proofs Go.Shelf
theorem OwnL.appendM {P : Program} {S : List Nat} {H : AHeap} {e size y n m : Nat} {l : List Value} {v : Value} {news : List Value} {K : Value → AHeap → Prop} (h : OwnL H e size n l v S) (hs : size ≠ 0) (hm : news.length = m * size) (h1 : (n + m) * y ≤ 140737488355328) (h2 : n + m ≤ 4611686018427387904)
    (hk : ∀ v' H' S', OwnL H' e size (n + m) (l ++ news) v' S' → Frm S H H' → (∀ t ∈ S', t ∈ S ∨ H.length ≤ t) → K v' H') : appendTo P e size y v m news H K := by
  rcases Nat.eq_zero_or_pos m with h0 | h0
  · subst h0
    have hn : news = [] := List.eq_nil_of_length_eq_zero (by omega)
    subst hn
    have hK : K v H := hk v H S (by rw [List.append_nil]; exact h) (.refl _ _) fun t ht => .inl ht
    rcases h with ⟨rfl, rfl, rfl, rfl⟩ | ⟨i, off, cs, rfl, hi, hl, hd, rfl⟩
    · exact ⟨⟨rfl, rfl⟩, fun _ => hK, fun h => absurd rfl h⟩
    · unfold appendTo
      dsimp only
      rw [hi]
      exact ⟨fun _ => ⟨fun _ => hK, fun h => absurd rfl h⟩, fun h => absurd (Nat.le_refl _) h⟩
  · have hm0 : m ≠ 0 := by omega
    rcases h with ⟨rfl, rfl, rfl, rfl⟩ | ⟨i, off, cs, rfl, hi, hl, hd, rfl⟩
    · refine appendTo_nil hm0 (by simpa using h1) (by omega) ?_
      rw [Nat.zero_add, List.nil_append] at hk
      exact hk _ _ [H.length] (.inr ⟨H.length, 0, news, rfl, hget0 rfl, by rw [hm, Nat.zero_add], rfl, rfl⟩) Frm.app fun t ht => .inr (by rw [List.mem_singleton.1 ht]; exact Nat.le_refl _)
    · unfold appendTo
      dsimp only
      rw [hi]
      dsimp only
      refine ⟨fun h => by omega, fun _ => ⟨⟨by omega, h1, h2⟩, fun _ => ⟨⟨rfl, rfl, Nat.zero_le _, rfl⟩, ?_⟩, fun h => absurd ⟨hs, by rw [hl]⟩ h⟩⟩
      have hdl : (cs.drop off).length = n * size := by rw [List.length_drop, hl]; omega
      rw [List.take_of_length_le (by omega), hd, Nat.zero_sub]
      refine hk _ _ [H.length] (.inr ⟨H.length, 0, l ++ news, rfl, ?_, ?_, rfl, rfl⟩) (Frm.more (Frm.set (.refl _ _) (.inl (by simp)))) fun t ht => .inr (by rw [List.mem_singleton.1 ht]; exact Nat.le_refl _)
      · rw [List.getElem?_append_right (by rw [List.length_set]; exact Nat.le_refl _), List.length_set, Nat.sub_self]; rfl
      · rw [List.length_append, hm, ← hd, hdl, Nat.zero_add, Nat.add_mul]
theorem bef_total (a b : Cm) : ¬ bef a b ∨ ¬ bef b a := by unfold bef; omega
theorem sorted_exists (l : List Cm) : ∃ m : List Cm, m.Perm l ∧ m.Pairwise fun a b => ¬ bef b a := by
  induction l with
  | nil => exact ⟨[], .refl _, .nil⟩
  | cons x l ih =>
    obtain ⟨m, hp, hs⟩ := ih
    have hins : ∀ m : List Cm, m.Pairwise (fun a b => ¬ bef b a) → ∃ m' : List Cm, m'.Perm (x :: m) ∧ m'.Pairwise fun a b => ¬ bef b a := by
      intro m
      induction m with
      | nil => intro _; exact ⟨[x], .refl _, by simp⟩
      | cons y m ih =>
        intro h
        rw [List.pairwise_cons] at h
        by_cases hb : bef y x
        · obtain ⟨m', h1, h2⟩ := ih h.2
          refine ⟨y :: m', (h1.cons y).trans (List.Perm.swap x y m), List.pairwise_cons.2 ⟨fun z hz => ?_, h2⟩⟩
          rcases List.mem_cons.1 (h1.mem_iff.1 hz) with rfl | hz
          · unfold bef at hb ⊢; omega
          · exact h.1 z hz
        · refine ⟨x :: y :: m, .refl _, List.pairwise_cons.2 ⟨fun z hz => ?_, List.pairwise_cons.2 h⟩⟩
          rcases List.mem_cons.1 hz with rfl | hz
          · exact hb
          · have := h.1 z hz
            unfold bef at hb this ⊢; omega
    obtain ⟨m', h1, h2⟩ := hins m hs
    exact ⟨m', h1.trans (hp.cons x), h2⟩
theorem LkAt.kinds {H : AHeap} {i : Nat} {s : Lk} {S : List Nat} (h : LkAt H i s S) : ∀ t ∈ S, ∃ cs k, H[t]? = some (.cells cs k) ∧ (k.e = 52 ∨ k.e = 66) := by
  obtain ⟨vn, vw, vu, us, Su, hp, rfl⟩ := h
  intro t ht
  rcases List.mem_cons.1 ht with rfl | ht
  · exact ⟨_, _, hp.at_, .inl rfl⟩
  · rcases hp.own with ⟨_, _, _, rfl⟩ | ⟨j, o, cs, _, hj, _, _, rfl⟩
    · cases ht
    · rw [List.mem_singleton.1 ht]; exact ⟨_, _, hj, .inr rfl⟩
theorem OwnL.k44 {H : AHeap} {n : Nat} {l : List Value} {v : Value} {S : List Nat} (h : OwnL H 44 6 n l v S) : ∀ t ∈ S, ∃ cs, H[t]? = some (.cells cs ⟨44, 6, true, 0, none⟩) := by
  intro t ht
  rcases h with ⟨_, _, _, rfl⟩ | ⟨j, o, cs, _, hj, _, _, rfl⟩
  · cases ht
  · rw [List.mem_singleton.1 ht]; exact ⟨_, hj⟩
theorem LkAt.no44 {H : AHeap} {i : Nat} {s : Lk} {S X : List Nat} (h : LkAt H i s S) (hx : ∀ t ∈ X, ∃ cs, H[t]? = some (.cells cs ⟨44, 6, true, 0, none⟩)) : ∀ t ∈ S, t ∉ X := fun t ht hs => by
  obtain ⟨cs, k, e, he⟩ := h.kinds t ht
  obtain ⟨cs', e'⟩ := hx t hs
  rw [e] at e'; cases e'
  rcases he with he | he <;> cases he
/-- A list of packets beside the links changes. -/
theorem PS.side {H0 H H1 : AHeap} {i j : Nat} {s r : Lk} {X : List Nat} (h : PS H0 i j s r H) (hf : Frm X H H1) (h0 : ∀ t ∈ X, H0.length ≤ t) (hx : ∀ t ∈ X, ∃ cs, H[t]? = some (.cells cs ⟨44, 6, true, 0, none⟩)) : PS H0 i j s r H1 := by
  obtain ⟨S, T, h1, h2, hf0, hS, hT, hd⟩ := h
  have hm : Mut H X := fun t ht => by
    obtain ⟨cs, e⟩ := hx t ht
    exact ⟨_, _, e, rfl⟩
  exact ⟨S, T, h1.frm hf hm (h1.no44 hx), h2.frm hf hm (h2.no44 hx), hf0.trans hf fun t ht => .inr (h0 t ht), hS, hT, hd⟩
end Go.Proofs.YtnfkbgpbligloaaDoor
