/-
  Plain law: reading the beginning of a text.
-/
import Derived.Test.YthcdjconlfdidaaDoorCD
set_option linter.unusedVariables false
set_option linter.unusedSimpArgs false
namespace Go.Aw
open Go.Lib BV
/-- Of the text's beginnings those that have the first d bytes are read alike, the others end too early. -/
structure Cut {α : Type} (s : List UInt8) (i : Nat) (f : List UInt8 → Rr α) (d : Nat) : Prop where
  cut : ∀ m, i ≤ m → m ≤ s.length → f (s.take m) = if d ≤ m then f s else .bad m 2
  ok : ∀ v j n, f s = .ok v j n → d = j
  bad : ∀ a e, f s = .bad a e → a + 1 ≤ d
theorem lenGo_cut {z : Bool} : ∀ (l : List UInt8) (k n m : Nat), m ≤ l.length →
    (∀ k', lenGo z k n l = .inl k' → lenGo z k n (l.take m) = if k' + 1 ≤ k + m then .inl k' else .inl (k + m)) ∧
    (∀ n' k', lenGo z k n l = .inr (n', k') → lenGo z k n (l.take m) = if k' + 1 ≤ k + m then .inr (n', k') else .inl (k + m))
  | l, k, n, 0, hm => by
    rw [List.take_zero]
    refine ⟨fun k' h => ?_, fun n' k' h => ?_⟩
    · have := (lenGo_k _ _ _ _ h).1
      rw [if_neg (by omega), lenGo]; rfl
    · have := (lenGo_r _ _ _ _ _ h).1
      rw [if_neg (by omega), lenGo]; rfl
  | [], k, n, m + 1, hm => by simp at hm
  | c :: l, k, n, m + 1, hm => by
    rw [List.take_succ_cons, lenGo, lenGo]
    split
    · refine ⟨fun k' h => (by cases h), fun n' k' h => ?_⟩
      cases h
      rw [if_pos (by omega)]
    · split
      · refine ⟨fun k' h => ?_, fun n' k' h => (by cases h)⟩
        cases h
        rw [if_pos (by omega)]
      · have ih := lenGo_cut (z := z) l (k + 1) (10 * n + (c.toNat - 48)) m (by simpa using hm)
        rw [show k + 1 + m = k + (m + 1) by omega] at ih
        exact ih
theorem numGo_cut {mi : Bool} : ∀ (l : List UInt8) (k : Nat) (n : Int) (m : Nat), m ≤ l.length →
    (∀ k', numGo mi k n l = .inl k' → numGo mi k n (l.take m) = if k' + 1 ≤ k + m then .inl k' else .inl (k + m)) ∧
    (∀ n' k', numGo mi k n l = .inr (n', k') → numGo mi k n (l.take m) = if k' + 1 ≤ k + m then .inr (n', k') else .inl (k + m))
  | l, k, n, 0, hm => by
    rw [List.take_zero]
    refine ⟨fun k' h => ?_, fun n' k' h => ?_⟩
    · have := (numGo_k _ _ _ _ h).1
      rw [if_neg (by omega), numGo]; rfl
    · have := (numGo_r _ _ _ _ _ h).1
      rw [if_neg (by omega), numGo]; rfl
  | [], k, n, m + 1, hm => by simp at hm
  | c :: l, k, n, m + 1, hm => by
    rw [List.take_succ_cons, numGo, numGo]
    split
    · refine ⟨fun k' h => (by cases h), fun n' k' h => ?_⟩
      cases h
      rw [if_pos (by omega)]
    · split
      · refine ⟨fun k' h => ?_, fun n' k' h => (by cases h)⟩
        cases h
        rw [if_pos (by omega)]
      · split
        · refine ⟨fun k' h => ?_, fun n' k' h => (by cases h)⟩
          cases h
          rw [if_pos (by omega)]
        · have ih := numGo_cut (mi := mi) l (k + 1) (10 * n - ((c.toNat : Int) - 48)) m (by simpa using hm)
          rw [show k + 1 + m = k + (m + 1) by omega] at ih
          exact ih
theorem take_get {s : List UInt8} {i m : Nat} (h : i < m) : (s.take m)[i]? = s[i]? := by rw [List.getElem?_take, if_pos h]
theorem take_len {s : List UInt8} {m : Nat} (h : m ≤ s.length) : (s.take m).length = m := by rw [List.length_take]; omega
theorem drop_take' (s : List UInt8) (i m : Nat) : (s.take m).drop i = (s.drop i).take (m - i) := by rw [List.drop_take]
theorem text_cut (s : List UInt8) (i : Nat) (hi : i ≤ s.length) : ∃ d, Cut s i (fun t => textR t i) d := by
  have lz : ∀ m, i ≤ m → m ≤ s.length → lenGo ((s.take m)[i]? == some 48) 0 0 ((s.take m).drop i) = lenGo (s[i]? == some 48) 0 0 ((s.drop i).take (m - i)) := fun m h1 h2 => by
    rw [drop_take']
    rcases Nat.lt_or_ge i m with h | h
    · rw [take_get h]
    · rw [show m - i = 0 by omega, List.take_zero]; rfl
  cases hl : lenGo (s[i]? == some 48) 0 0 (s.drop i) with
  | inl k =>
    have hR : textR s i = .bad (i + k) 2 := by unfold textR; rw [hl]
    refine ⟨i + k + 1, fun m h1 h2 => ?_, fun v j n h => ?_, fun a e h => ?_⟩
    · have h3 := (lenGo_cut (z := s[i]? == some 48) (s.drop i) 0 0 (m - i) (by rw [List.length_drop]; omega)).1 k hl
      show textR (s.take m) i = if _ then textR s i else _
      rw [hR]
      unfold textR
      rw [lz m h1 h2, h3]
      by_cases h4 : i + k + 1 ≤ m
      · rw [if_pos h4, if_pos (by omega)]
      · rw [if_neg h4, if_neg (by omega)]
        simp only
        congr 1; omega
    · simp only [hR] at h; cases h
    · simp only [hR] at h; cases h; omega
  | inr p =>
    obtain ⟨n', k⟩ := p
    have hb := lenGo_r _ _ _ _ _ hl
    have h3 := fun m (h : m ≤ s.length) => (lenGo_cut (z := s[i]? == some 48) (s.drop i) 0 0 (m - i) (by rw [List.length_drop]; omega)).2 n' k hl
    by_cases hn : s.length - (i + k + 1) < n'
    · have hR : textR s i = .bad s.length 2 := by unfold textR; rw [hl]; simp only; rw [if_pos hn]
      refine ⟨s.length + 1, fun m h1 h2 => ?_, fun v j n h => ?_, fun a e h => ?_⟩
      · show textR (s.take m) i = if _ then textR s i else _
        rw [if_neg (by omega)]
        unfold textR
        rw [lz m h1 h2, h3 m h2]
        by_cases h4 : k + 1 ≤ 0 + (m - i)
        · rw [if_pos h4]
          simp only
          rw [take_len h2, if_pos (by omega)]
        · rw [if_neg h4]
          simp only
          congr 1; omega
      · simp only [hR] at h; cases h
      · simp only [hR] at h; cases h; omega
    · have hR : textR s i = .ok ((s.drop (i + k + 1)).take n') (i + k + 1 + n') 0 := by unfold textR; rw [hl]; simp only; rw [if_neg hn]
      refine ⟨i + k + 1 + n', fun m h1 h2 => ?_, fun v j n h => ?_, fun a e h => ?_⟩
      · show textR (s.take m) i = if _ then textR s i else _
        rw [hR]
        unfold textR
        rw [lz m h1 h2, h3 m h2]
        by_cases h4 : k + 1 ≤ 0 + (m - i)
        · rw [if_pos h4]
          simp only
          rw [take_len h2]
          by_cases h5 : i + k + 1 + n' ≤ m
          · rw [if_pos h5, if_neg (by omega), drop_take', List.take_take, Nat.min_eq_left (by omega)]
          · rw [if_neg h5, if_pos (by omega)]
        · rw [if_neg h4, if_neg (by omega)]
          simp only
          congr 1; omega
      · simp only [hR] at h; cases h; rfl
      · simp only [hR] at h; cases h
theorem num_cut (s : List UInt8) (i : Nat) (hi : i ≤ s.length) : ∃ d, Cut s i (fun t => numR t i) d := by
  let mi := s[i]? == some 45
  let j := if mi then i + 1 else i
  have hj : j ≤ s.length := by
    show (if mi then i + 1 else i) ≤ _
    cases hm : mi with
    | true =>
      have : s[i]? = some 45 := by simpa [mi] using hm
      have := (List.getElem?_eq_some_iff.1 this).1
      simp; omega
    | false => simpa using hi
  have hij : i ≤ j ∧ j ≤ i + 1 := by
    show i ≤ (if mi then i + 1 else i) ∧ (if mi then i + 1 else i) ≤ i + 1
    split <;> omega
  have e0 : numR s i = match numGo mi 0 0 (s.drop j) with
      | .inl k => .bad (j + k) 2
      | .inr (n, k) => .ok (if mi then n else -n) (j + k + 1) 0 := rfl
  have eT : ∀ m, i < m → m ≤ s.length → numR (s.take m) i = match numGo mi 0 0 ((s.drop j).take (m - j)) with
      | .inl k => .bad (j + k) 2
      | .inr (n, k) => .ok (if mi then n else -n) (j + k + 1) 0 := fun m h1 h2 => by
    unfold numR
    simp only
    rw [take_get h1, drop_take']
    rfl
  have eN : numR (s.take i) i = .bad i 2 := by
    unfold numR
    have : (s.take i)[i]? = none := List.getElem?_eq_none (by rw [take_len hi]; exact Nat.le_refl _)
    rw [this]
    simp only
    rw [show ((none : Option UInt8) == some 45) = false from rfl]
    simp only [Bool.false_eq_true, if_false]
    rw [List.drop_eq_nil_of_le (by rw [take_len hi]; exact Nat.le_refl _), numGo]
    rfl
  cases hl : numGo mi 0 0 (s.drop j) with
  | inl k =>
    have hR : numR s i = .bad (j + k) 2 := by rw [e0, hl]
    refine ⟨j + k + 1, fun m h1 h2 => ?_, fun v j n h => ?_, fun a e h => ?_⟩
    · show numR (s.take m) i = if _ then numR s i else _
      rcases Nat.lt_or_ge i m with hm | hm
      · have h3 := (numGo_cut (mi := mi) (s.drop j) 0 0 (m - j) (by rw [List.length_drop]; omega)).1 k hl
        rw [hR, eT m hm h2, h3]
        by_cases h4 : j + k + 1 ≤ m
        · rw [if_pos h4, if_pos (by omega)]
        · rw [if_neg h4, if_neg (by omega)]
          simp only
          congr 1; omega
      · have : m = i := by omega
        subst this
        rw [eN, if_neg (by omega)]
    · simp only [hR] at h; cases h
    · simp only [hR] at h; cases h; omega
  | inr p =>
    obtain ⟨n', k⟩ := p
    have hR : numR s i = .ok (if mi then n' else -n') (j + k + 1) 0 := by rw [e0, hl]
    refine ⟨j + k + 1, fun m h1 h2 => ?_, fun v j n h => ?_, fun a e h => ?_⟩
    · show numR (s.take m) i = if _ then numR s i else _
      rcases Nat.lt_or_ge i m with hm | hm
      · have h3 := (numGo_cut (mi := mi) (s.drop j) 0 0 (m - j) (by rw [List.length_drop]; omega)).2 n' k hl
        rw [hR, eT m hm h2, h3]
        by_cases h4 : j + k + 1 ≤ m
        · rw [if_pos h4, if_pos (by omega)]
        · rw [if_neg h4, if_neg (by omega)]
          simp only
          congr 1; omega
      · have : m = i := by omega
        subst this
        rw [eN, if_neg (by omega)]
    · simp only [hR] at h; cases h; rfl
    · simp only [hR] at h; cases h
theorem kidsR_fuel {s : List UInt8} {f : Nat → Nat → Rr BV} (hf : Goes s f) (d : Bool) : ∀ (fuel fuel' i n : Nat) (kids : List BV) (keys : List (List UInt8)), i ≤ s.length → s.length - i < fuel → s.length - i < fuel' →
    kidsR f s d fuel i n kids keys = kidsR f s d fuel' i n kids keys
  | 0, _, i, n, kids, keys, hi, h1, h2 => by omega
  | _, 0, i, n, kids, keys, hi, h1, h2 => by omega
  | fuel + 1, fuel' + 1, i, n, kids, keys, hi, h1, h2 => by
    unfold kidsR
    cases hc : s[i]? with
    | none => rfl
    | some c =>
      simp only
      split
      · rfl
      · split
        · split
          · rfl
          · cases ht : textR s i with
            | bad a e => rfl
            | ok k j m =>
              have t1 := textR_ok hi ht
              simp only
              split
              · rfl
              · cases hv : f j n with
                | bad a e => rfl
                | ok v i' n' =>
                  have t2 := hf.ok _ _ _ _ _ t1.2.1 hv
                  exact kidsR_fuel hf d fuel fuel' i' n' _ _ t2.2.1 (by omega) (by omega)
        · cases hv : f i n with
          | bad a e => rfl
          | ok v i' n' =>
            have t2 := hf.ok _ _ _ _ _ hi hv
            exact kidsR_fuel hf d fuel fuel' i' n' _ _ t2.2.1 (by omega) (by omega)
theorem Cut.end_ {α : Type} {s : List UInt8} {i : Nat} {f : List UInt8 → Rr α} (hn : s[i]? = none) (hi : i ≤ s.length) (h : ∀ t : List UInt8, t[i]? = none → f t = .bad t.length 2) : ∃ d, Cut s i f d := by
  have hl : s.length = i := by
    rcases Nat.lt_or_ge i s.length with h' | h'
    · rw [List.getElem?_eq_getElem h'] at hn; cases hn
    · omega
  refine ⟨s.length + 1, fun m h1 h2 => ?_, fun v j n h' => ?_, fun a e h' => ?_⟩
  · rw [if_neg (by omega), h _ (by rw [List.getElem?_eq_none]; rw [take_len h2]; omega), take_len h2]
  · rw [h s hn] at h'; cases h'
  · rw [h s hn] at h'; cases h'; omega
/-- Where the next byte decides. -/
theorem Cut.now {α : Type} {s : List UInt8} {i : Nat} {f : List UInt8 → Rr α} {c : UInt8} {R : Rr α} (hc : s[i]? = some c) (h0 : ∀ t : List UInt8, t[i]? = none → f t = .bad t.length 2) (h : ∀ t : List UInt8, t[i]? = some c → f t = R)
    (hok : ∀ v j n, R = .ok v j n → i + 1 = j) (hbad : ∀ a e, R = .bad a e → a = i) : ∃ d, Cut s i f d := by
  refine ⟨i + 1, fun m h1 h2 => ?_, fun v j n h' => hok v j n (by rw [← h s hc]; exact h'), fun a e h' => ?_⟩
  · rcases Nat.lt_or_ge i m with hm | hm
    · rw [if_pos (by omega), h s hc, h _ (by rw [take_get hm, hc])]
    · rw [if_neg (by omega), h0 _ (by rw [List.getElem?_eq_none]; rw [take_len h2]; omega), take_len h2]
  · have := hbad a e (by rw [← h s hc]; exact h')
    omega
/-- One thing behind another. -/
theorem Cut.seq {α β : Type} {s : List UInt8} {i d : Nat} {f : List UInt8 → Rr α} {g : List UInt8 → Rr β} {v : α} {j n : Nat} (hf : Cut s i f d) (he : f s = .ok v j n) (hij : i ≤ j) {h : List UInt8 → Rr β}
    (hb : ∀ t m, f t = .bad m 2 → h t = .bad m 2) (hh : ∀ t, f t = .ok v j n → h t = g t) (hg : ∃ d, Cut s j g d) (hgok : ∀ w j' n', g s = .ok w j' n' → j ≤ j') (hgbad : ∀ a e, g s = .bad a e → j ≤ a + 1) : ∃ d, Cut s i h d := by
  obtain ⟨d2, hg⟩ := hg
  have hd := hf.ok _ _ _ he
  have hd2 : j ≤ d2 := by
    cases hgs : g s with
    | ok w j' n' => rw [hg.ok _ _ _ hgs]; exact hgok _ _ _ hgs
    | bad a e =>
      have := hg.bad _ _ hgs
      have := hgbad _ _ hgs
      omega
  refine ⟨d2, fun m h1 h2 => ?_, fun w j' n' h' => hg.ok w j' n' (by rw [← hh s he]; exact h'), fun a e h' => hg.bad a e (by rw [← hh s he]; exact h')⟩
  have hc := hf.cut m h1 h2
  by_cases hm : d ≤ m
  · rw [if_pos hm] at hc
    rw [hh _ (hc.trans he), hh s he]
    exact hg.cut m (by omega) h2
  · rw [if_neg hm] at hc
    rw [hb _ _ hc, if_neg (by omega)]
/-- The first thing fails. -/
theorem Cut.fail {α β : Type} {s : List UInt8} {i d : Nat} {f : List UInt8 → Rr α} {a : Nat} {e : Int} (hf : Cut s i f d) (he : f s = .bad a e) {h : List UInt8 → Rr β} (hb : ∀ t m e, f t = .bad m e → h t = .bad m e) : ∃ d, Cut s i h d :=
  ⟨d, fun m h1 h2 => by
    have hc := hf.cut m h1 h2
    rw [hb s a e he]
    by_cases hm : d ≤ m
    · rw [if_pos hm] at hc ⊢; exact hb _ _ _ (hc.trans he)
    · rw [if_neg hm] at hc ⊢; exact hb _ _ _ hc, (fun v j n h' => by rw [hb s a e he] at h'; cases h'), (fun a' e' h' => by rw [hb s a e he] at h'; cases h'; exact hf.bad _ _ he)⟩
/-- Readers whose texts are cut. -/
def Cuts (s : List UInt8) (F : List UInt8 → Nat → Nat → Rr BV) : Prop := ∀ i n, i ≤ s.length → ∃ d, Cut s i (fun t => F t i n) d
theorem kids_cut {s : List UInt8} {F : List UInt8 → Nat → Nat → Rr BV} (hg : ∀ t, Goes t (F t)) (hF : Cuts s F) (b : Bool) : ∀ (fuel i n : Nat) (kids : List BV) (keys : List (List UInt8)), i ≤ s.length → n ≤ 1000 → s.length - i < fuel →
    ∃ d, Cut s i (fun t => kidsR (F t) t b fuel i n kids keys) d
  | 0, i, n, kids, keys, hi, hn, hfu => by omega
  | fuel + 1, i, n, kids, keys, hi, hn, hfu => by
    have h0 : ∀ t : List UInt8, t[i]? = none → kidsR (F t) t b (fuel + 1) i n kids keys = .bad t.length 2 := fun t h => by unfold kidsR; rw [h]
    cases hc : s[i]? with
    | none => exact Cut.end_ hc hi h0
    | some c =>
      have hlt := (List.getElem?_eq_some_iff.1 hc).1
      by_cases h1 : c = 101
      · refine Cut.now (R := .ok (kids, keys) (i + 1) n) hc h0 (fun t h => by unfold kidsR; rw [h]; simp only; rw [if_pos h1]) (fun v j n h => by cases h; rfl) (fun a e h => by cases h)
      · cases b with
        | true =>
          by_cases h2 : dig c = false
          · refine Cut.now (R := .bad i 2) hc h0 (fun t h => by unfold kidsR; rw [h]; simp only; rw [if_neg h1]; simp only [if_true]; rw [if_pos h2]) (fun v j n h => by cases h) (fun a e h => by cases h; rfl)
          · obtain ⟨dt, ht⟩ := text_cut s i hi
            -- a text: its bytes begin at i
            have hk : ∀ t : List UInt8, kidsR (F t) t true (fuel + 1) i n kids keys = match t[i]? with
                | none => .bad t.length 2
                | some c' => if c' = 101 then .ok (kids, keys) (i + 1) n else if dig c' = false then .bad i 2 else match textR t i with
                  | .bad a e => .bad a e
                  | .ok k j _ => if behind keys k = false then .bad i 2 else match F t j n with
                    | .bad a e => .bad a e
                    | .ok v i' n' => kidsR (F t) t true fuel i' n' (kids ++ [v]) (keys ++ [k]) := fun t => by
              conv => lhs; unfold kidsR
              rfl
            have hz : ∀ t : List UInt8, t[i]? = none → textR t i = .bad (i + 0) 2 := fun t h => by
              unfold textR
              rw [List.drop_eq_nil_of_le (by rcases Nat.lt_or_ge i t.length with h' | h'; (rw [List.getElem?_eq_getElem h'] at h; cases h); exact h'), lenGo]
            -- the form of a beginning
            have hm : ∀ m, i ≤ m → m ≤ s.length → kidsR (F (s.take m)) (s.take m) true (fuel + 1) i n kids keys = match textR (s.take m) i with
                  | .bad a e => .bad a e
                  | .ok k j _ => if behind keys k = false then .bad i 2 else match F (s.take m) j n with
                    | .bad a e => .bad a e
                    | .ok v i' n' => kidsR (F (s.take m)) (s.take m) true fuel i' n' (kids ++ [v]) (keys ++ [k]) := fun m k1 k2 => by
              rw [hk]
              rcases Nat.lt_or_ge i m with h3 | h3
              · rw [take_get h3, hc]
                simp only
                rw [if_neg h1, if_neg h2]
              · have : m = i := by omega
                subst this
                have hn' : (s.take m)[m]? = none := List.getElem?_eq_none (by rw [take_len hi]; exact Nat.le_refl _)
                rw [hn', hz _ hn', take_len hi]
                simp
            have hs0 := hm s.length hi (Nat.le_refl _)
            rw [List.take_length] at hs0
            cases htx : textR s i with
            | bad a e =>
              refine ⟨dt, fun m k1 k2 => ?_, fun v j n h => ?_, fun a' e' h => ?_⟩
              · have hcut := ht.cut m k1 k2
                try simp only at hcut ⊢
                rw [hm m k1 k2, hs0, htx]
                by_cases hd : dt ≤ m
                · rw [if_pos hd] at hcut ⊢; rw [hcut, htx]
                · rw [if_neg hd] at hcut ⊢; rw [hcut]
              · simp only [hs0, htx] at h; cases h
              · simp only [hs0, htx] at h; cases h; exact ht.bad _ _ htx
            | ok k j m0 =>
              have tk := textR_ok hi htx
              have hdt := ht.ok _ _ _ htx
              by_cases h4 : behind keys k = false
              · refine ⟨dt, fun m k1 k2 => ?_, fun v j n h => ?_, fun a' e' h => ?_⟩
                · have hcut := ht.cut m k1 k2
                  try simp only at hcut ⊢
                  rw [hm m k1 k2, hs0, htx]
                  by_cases hd : dt ≤ m
                  · rw [if_pos hd] at hcut ⊢; rw [hcut, htx]; simp only; rw [if_pos h4, if_pos h4]
                  · rw [if_neg hd] at hcut ⊢; rw [hcut]
                · simp only [hs0, htx] at h; rw [if_pos h4] at h; cases h
                · simp only [hs0, htx] at h; rw [if_pos h4] at h; cases h; omega
              · have hs1 : kidsR (F s) s true (fuel + 1) i n kids keys = match F s j n with
                    | .bad a e => .bad a e
                    | .ok v i' n' => kidsR (F s) s true fuel i' n' (kids ++ [v]) (keys ++ [k]) := by rw [hs0, htx]; simp only; rw [if_neg h4]
                have hm1 : ∀ m, i ≤ m → m ≤ s.length → kidsR (F (s.take m)) (s.take m) true (fuel + 1) i n kids keys = if j ≤ m then (match F (s.take m) j n with
                    | .bad a e => .bad a e
                    | .ok v i' n' => kidsR (F (s.take m)) (s.take m) true fuel i' n' (kids ++ [v]) (keys ++ [k])) else .bad m 2 := fun m k1 k2 => by
                  have hcut := ht.cut m k1 k2
                  try simp only at hcut
                  rw [hm m k1 k2]
                  by_cases hd : j ≤ m
                  · rw [if_pos (by omega)] at hcut; rw [if_pos hd, hcut, htx]; simp only; rw [if_neg h4]
                  · rw [if_neg (by omega)] at hcut; rw [if_neg hd, hcut]
                have hgj := hg s
                obtain ⟨d2, h5⟩ : ∃ d, Cut s j (fun t => match F t j n with
                    | .bad a e => .bad a e
                    | .ok v i' n' => kidsR (F t) t true fuel i' n' (kids ++ [v]) (keys ++ [k])) d := by
                  obtain ⟨dv, hv⟩ := hF j n tk.2.1
                  cases hvs : F s j n with
                  | bad a e => exact Cut.fail hv hvs (fun t m e h => by simp only [h])
                  | ok v i' n' =>
                    have tv := hgj.ok _ _ _ _ _ tk.2.1 hvs
                    refine Cut.seq (g := fun t => kidsR (F t) t true fuel i' n' (kids ++ [v]) (keys ++ [k])) hv hvs (by omega) (fun t m h => by simp only [h]) (fun t h => by simp only [h]) (kids_cut hg hF true fuel i' n' _ _ tv.2.1 tv.2.2.2 (by omega)) ?_ ?_
                    · intro w j' n'' h
                      have := (kidsR_goes hgj true fuel i' n' _ _ tv.2.1 (by omega) tv.2.2.2).1 _ _ _ h
                      omega
                    · intro a e h
                      have := (kidsR_goes hgj true fuel i' n' _ _ tv.2.1 (by omega) tv.2.2.2).2 _ _ h
                      omega
                have hgo := kidsR_goes hgj true (fuel + 1) i n kids keys hi hfu hn
                have hjd : j ≤ d2 := by
                  cases hvs : F s j n with
                  | bad a e =>
                    have := h5.bad a e (by simp only [hvs])
                    have := hgj.bad _ _ _ _ tk.2.1 hvs
                    omega
                  | ok v i' n' =>
                    have tv := hgj.ok _ _ _ _ _ tk.2.1 hvs
                    cases hks : kidsR (F s) s true fuel i' n' (kids ++ [v]) (keys ++ [k]) with
                    | ok w j' n'' =>
                      have := h5.ok w j' n'' (by simp only [hvs, hks])
                      have := (kidsR_goes hgj true fuel i' n' _ _ tv.2.1 (by omega) tv.2.2.2).1 _ _ _ hks
                      omega
                    | bad a e =>
                      have := h5.bad a e (by simp only [hvs, hks])
                      have := (kidsR_goes hgj true fuel i' n' _ _ tv.2.1 (by omega) tv.2.2.2).2 _ _ hks
                      omega
                refine ⟨d2, fun m k1 k2 => ?_, fun v j' n' h => h5.ok v j' n' (by rw [← hs1]; exact h), fun a e h => h5.bad a e (by rw [← hs1]; exact h)⟩
                try simp only
                rw [hm1 m k1 k2, hs1]
                by_cases hd : j ≤ m
                · rw [if_pos hd]
                  exact h5.cut m hd k2
                · rw [if_neg hd, if_neg (by omega)]
        | false =>
          have hk : ∀ t : List UInt8, kidsR (F t) t false (fuel + 1) i n kids keys = match t[i]? with
              | none => .bad t.length 2
              | some c' => if c' = 101 then .ok (kids, keys) (i + 1) n else match F t i n with
                  | .bad a e => .bad a e
                  | .ok v i' n' => kidsR (F t) t false fuel i' n' (kids ++ [v]) keys := fun t => by
            conv => lhs; unfold kidsR
            rfl
          have hgj := hg s
          obtain ⟨d2, h5⟩ : ∃ d, Cut s i (fun t => match F t i n with
              | .bad a e => .bad a e
              | .ok v i' n' => kidsR (F t) t false fuel i' n' (kids ++ [v]) keys) d := by
            obtain ⟨dv, hv⟩ := hF i n hi
            cases hvs : F s i n with
            | bad a e => exact Cut.fail hv hvs (fun t m e h => by simp only [h])
            | ok v i' n' =>
              have tv := hgj.ok _ _ _ _ _ hi hvs
              refine Cut.seq (g := fun t => kidsR (F t) t false fuel i' n' (kids ++ [v]) keys) hv hvs (by omega) (fun t m h => by simp only [h]) (fun t h => by simp only [h]) (kids_cut hg hF false fuel i' n' _ _ tv.2.1 tv.2.2.2 (by omega)) ?_ ?_
              · intro w j' n'' h
                have := (kidsR_goes hgj false fuel i' n' _ _ tv.2.1 (by omega) tv.2.2.2).1 _ _ _ h
                omega
              · intro a e h
                have := (kidsR_goes hgj false fuel i' n' _ _ tv.2.1 (by omega) tv.2.2.2).2 _ _ h
                omega
          have hs1 : kidsR (F s) s false (fuel + 1) i n kids keys = match F s i n with
              | .bad a e => .bad a e
              | .ok v i' n' => kidsR (F s) s false fuel i' n' (kids ++ [v]) keys := by rw [hk, hc]; simp only; rw [if_neg h1]
          have hid : i + 1 ≤ d2 := by
            cases hvs : F s i n with
            | bad a e =>
              have := h5.bad a e (by simp only [hvs])
              have := hgj.bad _ _ _ _ hi hvs
              omega
            | ok v i' n' =>
              have tv := hgj.ok _ _ _ _ _ hi hvs
              cases hks : kidsR (F s) s false fuel i' n' (kids ++ [v]) keys with
              | ok w j' n'' =>
                have := h5.ok w j' n'' (by simp only [hvs, hks])
                have := (kidsR_goes hgj false fuel i' n' _ _ tv.2.1 (by omega) tv.2.2.2).1 _ _ _ hks
                omega
              | bad a e =>
                have := h5.bad a e (by simp only [hvs, hks])
                have := (kidsR_goes hgj false fuel i' n' _ _ tv.2.1 (by omega) tv.2.2.2).2 _ _ hks
                omega
          refine ⟨d2, fun m k1 k2 => ?_, fun v j' n' h => h5.ok v j' n' (by rw [← hs1]; exact h), fun a e h => h5.bad a e (by rw [← hs1]; exact h)⟩
          try simp only
          rw [hs1]
          rcases Nat.lt_or_ge i m with h3 | h3
          · rw [hk, take_get h3, hc]
            simp only
            rw [if_neg h1]
            exact h5.cut m k1 k2
          · rw [if_neg (by omega), h0 _ (List.getElem?_eq_none (by rw [take_len k2]; omega)), take_len k2]
theorem val_cut (s : List UInt8) : ∀ lv, Cuts s (fun t => valR t lv)
  | 0, i, n, hi => by
    have h0 : ∀ t : List UInt8, t[i]? = none → valR t 0 i n = .bad t.length 2 := fun t h => by unfold valR; rw [h]
    cases hc : s[i]? with
    | none => exact Cut.end_ hc hi h0
    | some c =>
      refine Cut.now (R := if begins c = false then .bad i 2 else .bad i 4) hc h0 (fun t h => by show valR t 0 i n = _; unfold valR; rw [h]) (fun v j n h => ?_) (fun a e h => ?_)
      · split at h <;> cases h
      · split at h <;> cases h <;> rfl
  | lv + 1, i, n, hi => by
    have h0 : ∀ t : List UInt8, t[i]? = none → valR t (lv + 1) i n = .bad t.length 2 := fun t h => by unfold valR; rw [h]
    cases hc : s[i]? with
    | none => exact Cut.end_ hc hi h0
    | some c =>
      have hlt := (List.getElem?_eq_some_iff.1 hc).1
      by_cases h1 : begins c = false
      · exact Cut.now (R := .bad i 2) hc h0 (fun t h => by show valR t (lv + 1) i n = _; unfold valR; rw [h]; simp only; rw [if_pos h1]) (fun v j n h => by cases h) (fun a e h => by cases h; rfl)
      · by_cases h2 : 1000 < n + 1
        · exact Cut.now (R := .bad i 4) hc h0 (fun t h => by show valR t (lv + 1) i n = _; unfold valR; rw [h]; simp only; rw [if_neg h1, if_pos h2]) (fun v j n h => by cases h) (fun a e h => by cases h; rfl)
        · have hv : ∀ t : List UInt8, t[i]? = some c → valR t (lv + 1) i n = restR (valR t lv) t c i (n + 1) := fun t h => by
            conv => lhs; unfold valR
            rw [h]; simp only; rw [if_neg h1, if_neg h2]
          have hgo := restR_goes (valR_goes s lv) c i (n + 1) hlt (by omega)
          -- what comes behind the first byte, of the beginnings that have it
          suffices hr : ∃ d, i + 1 ≤ d ∧ (∀ m, i < m → m ≤ s.length → restR (valR (s.take m) lv) (s.take m) c i (n + 1) = if d ≤ m then restR (valR s lv) s c i (n + 1) else .bad m 2) ∧
              (∀ v j n', restR (valR s lv) s c i (n + 1) = .ok v j n' → d = j) ∧ (∀ a e, restR (valR s lv) s c i (n + 1) = .bad a e → a + 1 ≤ d) by
            obtain ⟨d, r0, r1, r2, r3⟩ := hr
            refine ⟨d, fun m k1 k2 => ?_, fun v j n' h => r2 v j n' (by rw [← hv s hc]; exact h), fun a e h => r3 a e (by rw [← hv s hc]; exact h)⟩
            try simp only
            rw [hv s hc]
            rcases Nat.lt_or_ge i m with h3 | h3
            · rw [hv _ (by rw [take_get h3, hc])]
              exact r1 m h3 k2
            · rw [if_neg (by omega), h0 _ (List.getElem?_eq_none (by rw [take_len k2]; omega)), take_len k2]
          unfold restR
          by_cases h3 : dig c = true
          · simp only [h3, if_true]
            obtain ⟨d, ht⟩ := text_cut s i hi
            refine ⟨d, ?_, fun m k1 k2 => ?_, fun v j n' h => ?_, fun a e h => ?_⟩
            · cases htx : textR s i with
              | bad a e => have := ht.bad _ _ htx; have := textR_bad hi htx; omega
              | ok k j m => have := ht.ok _ _ _ htx; have := textR_ok hi htx; omega
            · have hcut := ht.cut m (by omega) k2
              try simp only at hcut
              rw [hcut]
              by_cases hd : d ≤ m
              · rw [if_pos hd, if_pos hd]
              · rw [if_neg hd, if_neg hd]
            · cases htx : textR s i with
              | bad a e => rw [htx] at h; cases h
              | ok k j m => rw [htx] at h; cases h; exact ht.ok _ _ _ htx
            · cases htx : textR s i with
              | bad a e => rw [htx] at h; cases h; exact ht.bad _ _ htx
              | ok k j m => rw [htx] at h; cases h
          · simp only [h3, if_false, Bool.false_eq_true]
            by_cases h4 : c = 105
            · simp only [h4, if_true]
              obtain ⟨d, ht⟩ := num_cut s (i + 1) (by omega)
              refine ⟨d, ?_, fun m k1 k2 => ?_, fun v j n' h => ?_, fun a e h => ?_⟩
              · cases htx : numR s (i + 1) with
                | bad a e => have := ht.bad _ _ htx; have := numR_bad (by omega) htx; omega
                | ok k j m => have := ht.ok _ _ _ htx; have := numR_ok (by omega) htx; omega
              · have hcut := ht.cut m (by omega) k2
                try simp only at hcut
                rw [hcut]
                by_cases hd : d ≤ m
                · rw [if_pos hd, if_pos hd]
                · rw [if_neg hd, if_neg hd]
              · cases htx : numR s (i + 1) with
                | bad a e => rw [htx] at h; cases h
                | ok k j m => rw [htx] at h; cases h; exact ht.ok _ _ _ htx
              · cases htx : numR s (i + 1) with
                | bad a e => rw [htx] at h; cases h; exact ht.bad _ _ htx
                | ok k j m => rw [htx] at h; cases h
            · simp only [h4, if_false]
              obtain ⟨d, ht⟩ := kids_cut (s := s) (F := fun t => valR t lv) (fun t => valR_goes t lv) (val_cut s lv) (c == 100) (s.length + 1) (i + 1) (n + 1) [] [] (by omega) (by omega) (by omega)
              have hk := kidsR_goes (valR_goes s lv) (c == 100) (s.length + 1) (i + 1) (n + 1) [] [] (by omega) (by omega) (by omega)
              refine ⟨d, ?_, fun m k1 k2 => ?_, fun v j n' h => ?_, fun a e h => ?_⟩
              · cases htx : kidsR (valR s lv) s (c == 100) (s.length + 1) (i + 1) (n + 1) [] [] with
                | bad a e => have := ht.bad _ _ htx; have := hk.2 _ _ htx; omega
                | ok k j m => have := ht.ok _ _ _ htx; have := hk.1 _ _ _ htx; omega
              · have hcut := ht.cut m (by omega) k2
                try simp only at hcut
                rw [kidsR_fuel (valR_goes (s.take m) lv) (c == 100) ((s.take m).length + 1) (s.length + 1) (i + 1) (n + 1) [] [] (by rw [take_len k2]; omega) (by omega) (by rw [take_len k2]; omega), hcut]
                by_cases hd : d ≤ m
                · rw [if_pos hd, if_pos hd]
                · rw [if_neg hd, if_neg hd]
              · cases htx : kidsR (valR s lv) s (c == 100) (s.length + 1) (i + 1) (n + 1) [] [] with
                | bad a e => rw [htx] at h; cases h
                | ok k j m => rw [htx] at h; cases h; exact ht.ok _ _ _ htx
              · cases htx : kidsR (valR s lv) s (c == 100) (s.length + 1) (i + 1) (n + 1) [] [] with
                | bad a e => rw [htx] at h; cases h; exact ht.bad _ _ htx
                | ok k j m => rw [htx] at h; cases h
end Go.Aw

