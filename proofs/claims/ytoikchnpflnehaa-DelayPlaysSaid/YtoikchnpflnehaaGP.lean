/-
  The control by delays and that of the specification: the bases of the minutes are those of all samples.
-/
import Derived.Test.YtoikchnpflnehaaGJ
set_option linter.unusedVariables false
set_option linter.unusedSimpArgs false
namespace Go.Proofs.Ytoikchnpflnehaa
open Go Go.Aw Go.Proofs
def atMin (all : List (Int × Int)) (m : Int) : List Int := (all.filter fun s => decide (s.1 / 60000 = m)).map (·.2)
def lastMin (all : List (Int × Int)) : Int := match all.getLast? with
  | some s => s.1 / 60000
  | none => 0
def baseAt (all : List (Int × Int)) (m : Int) : Option (Int × Int) := if atMin all m = [] then none else some (m, leastL (atMin all m))
def basesP (all : List (Int × Int)) (last : Int) (k : Nat) : List (Int × Int) := (List.range k).filterMap fun j : Nat => baseAt all (last - 9 + (j : Int))
def pastP (all : List (Int × Int)) : List (Int × Int) := if all = [] then [] else basesP all (lastMin all) 10
abbrev Srt (l : List (Int × Int)) : Prop := l.Pairwise fun a b => a.1 < b.1
theorem srt_ext : ∀ {l l' : List (Int × Int)}, Srt l → Srt l' → (∀ p, p ∈ l ↔ p ∈ l') → l = l'
  | [], [], _, _, _ => rfl
  | [], b :: r, _, _, h => absurd ((h b).2 (List.mem_cons_self ..)) (by simp)
  | a :: r, [], _, _, h => absurd ((h a).1 (List.mem_cons_self ..)) (by simp)
  | a :: r, b :: r', h1, h2, h => by
    rw [Srt, List.pairwise_cons] at h1 h2
    have e : a = b := by
      have m1 := (h a).1 (List.mem_cons_self ..)
      have m2 := (h b).2 (List.mem_cons_self ..)
      rcases List.mem_cons.1 m1 with e | m1
      · exact e
      rcases List.mem_cons.1 m2 with e | m2
      · exact e.symm
      have := h1.1 _ m2
      have := h2.1 _ m1
      omega
    subst e
    congr 1
    refine srt_ext h1.2 h2.2 fun p => ⟨fun hp => ?_, fun hp => ?_⟩
    · rcases List.mem_cons.1 ((h p).1 (List.mem_cons_of_mem _ hp)) with e | m
      · have := h1.1 _ hp; rw [e] at this; omega
      · exact m
    · rcases List.mem_cons.1 ((h p).2 (List.mem_cons_of_mem _ hp)) with e | m
      · have := h2.1 _ hp; rw [e] at this; omega
      · exact m
theorem baseAt_some {all : List (Int × Int)} {m : Int} {p : Int × Int} : baseAt all m = some p ↔ p.1 = m ∧ atMin all m ≠ [] ∧ p.2 = leastL (atMin all m) := by
  unfold baseAt
  obtain ⟨a, b⟩ := p
  split
  · rename_i h; simp [h]
  · rename_i h
    simp only [Option.some.injEq, Prod.mk.injEq]
    constructor
    · rintro ⟨rfl, rfl⟩; exact ⟨rfl, h, rfl⟩
    · rintro ⟨rfl, _, rfl⟩; exact ⟨rfl, rfl⟩
theorem mem_basesP {all : List (Int × Int)} {last : Int} {k : Nat} {p : Int × Int} : p ∈ basesP all last k ↔ (last - 9 ≤ p.1 ∧ p.1 < last - 9 + k) ∧ atMin all p.1 ≠ [] ∧ p.2 = leastL (atMin all p.1) := by
  unfold basesP
  rw [List.mem_filterMap]
  constructor
  · rintro ⟨j, hj, h⟩
    rw [List.mem_range] at hj
    obtain ⟨h1, h2, h3⟩ := baseAt_some.1 h
    rw [h1]
    exact ⟨by omega, h2, h3⟩
  · rintro ⟨h1, h2, h3⟩
    refine ⟨(p.1 - (last - 9)).toNat, by rw [List.mem_range]; omega, ?_⟩
    have e : last - 9 + (((p.1 - (last - 9)).toNat : Nat) : Int) = p.1 := by omega
    rw [e]
    exact baseAt_some.2 ⟨rfl, h2, h3⟩
theorem srt_basesP (all : List (Int × Int)) (last : Int) (k : Nat) : Srt (basesP all last k) := by
  unfold basesP
  unfold Srt
  rw [List.pairwise_filterMap]
  refine List.Pairwise.imp ?_ (List.pairwise_lt_range (n := k))
  intro a b hab x hx y hy
  have h1 := (baseAt_some.1 hx).1
  have h2 := (baseAt_some.1 hy).1
  omega
theorem atMin_snoc (all : List (Int × Int)) (t d m : Int) : atMin (all ++ [(t, d)]) m = atMin all m ++ if t / 60000 = m then [d] else [] := by
  unfold atMin
  rw [List.filter_append, List.map_append]
  by_cases h : t / 60000 = m <;> simp [h]
theorem atMin_ne {all : List (Int × Int)} {m : Int} : atMin all m ≠ [] ↔ ∃ s ∈ all, s.1 / 60000 = m := by
  unfold atMin
  rw [ne_eq, List.map_eq_nil_iff, List.filter_eq_nil_iff]
  simp
theorem lastMin_snoc (all : List (Int × Int)) (t d : Int) : lastMin (all ++ [(t, d)]) = t / 60000 := by
  unfold lastMin
  rw [List.getLast?_append]
  simp
theorem lastMin_le {all : List (Int × Int)} {t : Int} (h : ∀ s ∈ all, s.1 ≤ t) (hne : all ≠ []) : lastMin all ≤ t / 60000 := by
  unfold lastMin
  obtain ⟨s, hs⟩ : ∃ s, all.getLast? = some s := by
    cases h : all.getLast? with
    | none => rw [List.getLast?_eq_none_iff] at h; exact absurd h hne
    | some s => exact ⟨s, rfl⟩
  rw [hs]
  have := h s (List.mem_of_getLast? hs)
  show s.1 / 60000 ≤ _
  omega
theorem le_lastMin {all : List (Int × Int)} (hp : all.Pairwise fun a b => a.1 ≤ b.1) {s : Int × Int} (hs : s ∈ all) : s.1 / 60000 ≤ lastMin all := by
  rcases List.eq_nil_or_concat all with rfl | ⟨r, x, rfl⟩
  · simp at hs
  · have e : r.concat x = r ++ [(x.1, x.2)] := by simp
    rw [e] at hs hp ⊢
    rw [lastMin_snoc]
    rcases List.mem_append.1 hs with h | h
    · have := (List.pairwise_append.1 hp).2.2 s h _ (List.mem_cons_self ..)
      simp only at this
      omega
    · simp at h; subst h; exact Int.le_refl _
theorem keptL_mem {m : Int} : ∀ {q : List (Int × Int)}, Srt q → ∀ {p : Int × Int}, p ∈ keptL m q ↔ p ∈ q ∧ m - 9 ≤ p.1
  | [], _, p => by simp [keptL]
  | x :: r, h, p => by
    rw [Srt, List.pairwise_cons] at h
    unfold keptL
    split
    · rename_i hx
      rw [keptL_mem h.2, List.mem_cons]
      constructor
      · rintro ⟨h1, h2⟩; exact ⟨.inr h1, h2⟩
      · rintro ⟨rfl | h1, h2⟩
        · omega
        · exact ⟨h1, h2⟩
    · rename_i hx
      constructor
      · intro hp
        refine ⟨hp, ?_⟩
        rcases List.mem_cons.1 hp with rfl | hp
        · omega
        · have := h.1 _ hp; omega
      · exact fun h => h.1
theorem keptL_srt {m : Int} : ∀ {q : List (Int × Int)}, Srt q → Srt (keptL m q)
  | [], _ => by simp [keptL]
  | x :: r, h => by
    have h' := h
    rw [Srt, List.pairwise_cons] at h
    unfold keptL
    split
    · exact keptL_srt h.2
    · exact h'
theorem putL_spec {m d : Int} {q : List (Int × Int)} (hq : Srt q) (hle : ∀ p ∈ q, p.1 ≤ m) : Srt (putL m d q) ∧ ∀ p, p ∈ putL m d q ↔ (p.1 < m ∧ p ∈ q) ∨ (p.1 = m ∧ ((∃ b, (m, b) ∈ q ∧ p.2 = if lessD d b then d else b) ∨ ((∀ b, (m, b) ∉ q) ∧ p.2 = d))) := by
  rcases List.eq_nil_or_concat q with rfl | ⟨r, x, rfl⟩
  · have e : putL m d [] = [(m, d)] := rfl
    rw [e]
    refine ⟨by simp, fun p => ?_⟩
    obtain ⟨p1, p2⟩ := p
    simp
  · have e0 : r.concat x = r ++ [x] := by simp
    rw [e0] at hq hle ⊢
    rw [Srt, List.pairwise_append] at hq
    obtain ⟨h1, -, h3⟩ := hq
    have hx := hle x (by simp)
    have hg : (r ++ [x]).getLast? = some x := by simp
    have hlt : ∀ p ∈ r, p.1 < x.1 := fun p hp => h3 p hp x (by simp)
    unfold putL
    rw [hg]
    simp only
    by_cases hm : x.1 = m
    · rw [if_pos hm]
      have key : ∀ y : Int, (y = if lessD d x.2 then d else x.2) → Srt (r ++ [(x.1, y)]) ∧ ∀ p : Int × Int, p ∈ r ++ [(x.1, y)] ↔ (p.1 < m ∧ p ∈ r ++ [x]) ∨ (p.1 = m ∧ ((∃ b, (m, b) ∈ r ++ [x] ∧ p.2 = if lessD d b then d else b) ∨ ((∀ b, (m, b) ∉ r ++ [x]) ∧ p.2 = d))) := by
        intro y hy
        refine ⟨?_, fun p => ?_⟩
        · rw [Srt, List.pairwise_append]
          exact ⟨h1, by simp, fun a ha b hb => by simp at hb; subst hb; exact hlt a ha⟩
        · obtain ⟨p1, p2⟩ := p
          simp only [List.mem_append, List.mem_singleton, Prod.mk.injEq]
          constructor
          · rintro (h | ⟨rfl, rfl⟩)
            · exact .inl ⟨by have := hlt _ h; simp only at this; omega, .inl h⟩
            · exact .inr ⟨hm, .inl ⟨x.2, .inr (by rw [← hm]), hy⟩⟩
          · rintro (⟨h, h2 | h2⟩ | ⟨h, h2⟩)
            · exact .inl h2
            · rw [← h2] at hm; simp only at hm; omega
            · right
              refine ⟨by omega, ?_⟩
              rcases h2 with ⟨b, hb | hb, h4⟩ | ⟨hb, -⟩
              · have := hlt _ hb; simp only at this; omega
              · rw [← hb] at hy; rw [h4, hy]
              · exact absurd (.inr (by rw [← hm])) (hb x.2)
      by_cases hl : lessD d x.2
      · rw [if_pos hl]
        have := key d (by rw [if_pos hl])
        rw [List.dropLast_concat]
        exact this
      · rw [if_neg hl]
        have := key x.2 (by rw [if_neg hl])
        exact this
    · rw [if_neg hm]
      have hxm : x.1 < m := by omega
      refine ⟨?_, fun p => ?_⟩
      · rw [Srt, List.pairwise_append]
        refine ⟨by rw [List.pairwise_append]; exact ⟨h1, by simp, h3⟩, by simp, fun a ha b hb => ?_⟩
        simp at hb; subst hb
        show a.1 < m
        rcases List.mem_append.1 ha with h | h
        · have := hlt a h; omega
        · simp at h; subst h; exact hxm
      · obtain ⟨p1, p2⟩ := p
        have hn : ∀ b, (m, b) ∉ r ++ [x] := by
          intro b hb
          rcases List.mem_append.1 hb with h | h
          · have := hlt _ h; simp only at this; omega
          · simp at h; rw [← h] at hm; exact hm rfl
        have hall : ∀ p ∈ r ++ [x], p.1 < m := by
          intro p hp
          rcases List.mem_append.1 hp with h | h
          · have := hlt p h; omega
          · simp at h; subst h; exact hxm
        rw [List.mem_append, List.mem_singleton, Prod.mk.injEq]
        constructor
        · rintro (h | ⟨rfl, rfl⟩)
          · exact .inl ⟨hall _ h, h⟩
          · exact .inr ⟨rfl, .inr ⟨hn, rfl⟩⟩
        · rintro (⟨_, h⟩ | ⟨h, ⟨b, hb, _⟩ | ⟨_, h2⟩⟩)
          · exact .inl h
          · exact absurd hb (hn b)
          · exact .inr ⟨h, h2⟩
theorem pastP_step (all : List (Int × Int)) (t d : Int) (hp : all.Pairwise fun a b => a.1 ≤ b.1) (hle : ∀ s ∈ all, s.1 ≤ t) : pastP (all ++ [(t, d)]) = putL (t / 60000) d (keptL (t / 60000) (pastP all)) := by
  have hs0 : Srt (pastP all) := by
    unfold pastP; split
    · simp
    · exact srt_basesP _ _ _
  have hm0 : ∀ p, p ∈ pastP all ↔ (lastMin all - 9 ≤ p.1) ∧ atMin all p.1 ≠ [] ∧ p.2 = leastL (atMin all p.1) := by
    intro p
    unfold pastP
    split
    · rename_i h; subst h; simp [atMin]
    · rw [mem_basesP]
      constructor
      · rintro ⟨h1, h2⟩; exact ⟨h1.1, h2⟩
      · rintro ⟨h1, h2⟩
        refine ⟨⟨h1, ?_⟩, h2⟩
        obtain ⟨s, hs, e⟩ := atMin_ne.1 h2.1
        have := le_lastMin hp hs
        omega
  have hle2 : ∀ m, atMin all m ≠ [] → m ≤ t / 60000 := by
    intro m hm
    obtain ⟨s, hs, e⟩ := atMin_ne.1 hm
    have := hle s hs
    omega
  have hk := keptL_srt (m := t / 60000) hs0
  have hkm := fun p => keptL_mem (m := t / 60000) hs0 (p := p)
  obtain ⟨hps, hpm⟩ := putL_spec (m := t / 60000) (d := d) hk (fun p hp => hle2 _ ((hm0 p).1 ((hkm p).1 hp).1).2.1)
  have e : pastP (all ++ [(t, d)]) = basesP (all ++ [(t, d)]) (t / 60000) 10 := by
    unfold pastP; rw [if_neg (by simp), lastMin_snoc]
  rw [e]
  refine srt_ext (srt_basesP _ _ _) hps fun p => ?_
  have hlm : all ≠ [] → lastMin all ≤ t / 60000 := lastMin_le hle
  have hnil : ∀ m, all = [] → atMin all m = [] := fun m h => by rw [h]; rfl
  rw [mem_basesP, hpm p, atMin_snoc, hkm, hm0]
  by_cases hpt : p.1 = t / 60000
  · rw [if_pos hpt.symm]
    have hq : ∀ b, (t / 60000, b) ∈ keptL (t / 60000) (pastP all) ↔ atMin all p.1 ≠ [] ∧ b = leastL (atMin all p.1) := by
      intro b
      rw [hkm, hm0, hpt]
      constructor
      · rintro ⟨⟨_, h2, h3⟩, _⟩; exact ⟨h2, h3⟩
      · rintro ⟨h2, h3⟩
        exact ⟨⟨by show lastMin all - 9 ≤ t / 60000; have := hlm (fun e => h2 (hnil _ e)); omega, h2, h3⟩, by show t / 60000 - 9 ≤ t / 60000; omega⟩
    simp only [hq]
    constructor
    · rintro ⟨_, _, h⟩
      refine .inr ⟨hpt, ?_⟩
      rw [leastL_snoc] at h
      by_cases hn : atMin all p.1 = []
      · rw [if_pos hn] at h
        exact .inr ⟨fun b hb => hb.1 hn, h⟩
      · rw [if_neg hn] at h
        exact .inl ⟨_, ⟨hn, rfl⟩, h⟩
    · rintro (⟨h, _⟩ | ⟨_, h⟩)
      · omega
      · refine ⟨by omega, by simp, ?_⟩
        rw [leastL_snoc]
        rcases h with ⟨b, ⟨h1, h2⟩, h3⟩ | ⟨h1, h2⟩
        · rw [if_neg h1, h3, h2]
        · by_cases hn : atMin all p.1 = []
          · rw [if_pos hn, h2]
          · exact absurd ⟨hn, rfl⟩ (h1 _)
  · have hne : ¬ t / 60000 = p.1 := fun e => hpt e.symm
    rw [if_neg hne, List.append_nil]
    constructor
    · rintro ⟨h1, h2, h3⟩
      have := hle2 _ h2
      have h4 := hlm (fun e => h2 (hnil _ e))
      exact .inl ⟨by omega, ⟨by omega, h2, h3⟩, by omega⟩
    · rintro (⟨h1, ⟨_, h2, h3⟩, h4⟩ | ⟨h1, _⟩)
      · exact ⟨by omega, h2, h3⟩
      · exact absurd h1 hpt
end Go.Proofs.Ytoikchnpflnehaa
