/-
  Texts of runs, plain: numbers in decimal, texts cut apart.
-/
import Derived.Test.YtbdlomkogpnkpaaDoorBs
import Derived.Lib.AtoiAll
import Derived.Lib.ItoaNum
import Derived.Lib.SplitLaws
import Derived.Lib.IndexBytes
set_option linter.unusedVariables false
namespace Go.Aw
open Go.Lib
theorem dd_eq (v : Nat) (h : 10 ≤ v) : decDigits v = decDigits (v / 10) ++ [UInt8.ofNat (48 + v % 10)] := by rw [decDigits, dif_neg (by omega)]
theorem dd_lt (v : Nat) (h : v < 10) : decDigits v = [UInt8.ofNat (48 + v)] := by rw [decDigits, dif_pos h]
theorem dig_nat (d : Nat) (h : d < 10) : (UInt8.ofNat (48 + d)).toNat = 48 + d := by simp; omega
theorem dd_ne (v : Nat) : decDigits v ≠ [] := by
  rw [decDigits]; split <;> simp
theorem dd_digit : ∀ (v : Nat), ∀ c ∈ decDigits v, 48 ≤ c.toNat ∧ c.toNat ≤ 57 := by
  intro v
  induction v using Nat.strongRecOn with
  | _ v ih =>
    intro c hc
    rcases Nat.lt_or_ge v 10 with h | h
    · rw [dd_lt v h] at hc
      have : c = UInt8.ofNat (48 + v) := by simpa using hc
      subst this
      rw [dig_nat v h]; omega
    · rw [dd_eq v h] at hc
      rcases List.mem_append.1 hc with hc | hc
      · exact ih (v / 10) (by omega) c hc
      · have : c = UInt8.ofNat (48 + v % 10) := by simpa using hc
        subst this
        rw [dig_nat _ (by omega)]; omega
theorem parse_app : ∀ (l t : List UInt8) (acc u : Nat), parseUint10 acc l = .ok u → parseUint10 acc (l ++ t) = parseUint10 u t
  | [], t, acc, u, h => by
    simp only [parseUint10] at h
    injection h with h
    subst h; rfl
  | c :: r, t, acc, u, h => by
    rw [List.cons_append]
    simp only [parseUint10] at h ⊢
    split at h
    · rename_i h1
      rw [if_pos h1]
      split at h
      · cases h
      · rename_i h2
        rw [if_neg h2]
        split at h
        · cases h
        · rename_i h3
          rw [if_neg h3]
          exact parse_app r t _ u h
    · cases h
theorem dd_parse : ∀ (v : Nat), v < 18446744073709551616 → parseUint10 0 (decDigits v) = .ok v := by
  intro v
  induction v using Nat.strongRecOn with
  | _ v ih =>
    intro hv
    rcases Nat.lt_or_ge v 10 with h | h
    · rw [dd_lt v h]
      simp only [parseUint10]
      rw [dig_nat v h, if_pos (by omega), if_neg (by omega), if_neg (by omega)]
      congr 1; omega
    · rw [dd_eq v h, parse_app _ _ _ _ (ih (v / 10) (by omega) (by omega))]
      simp only [parseUint10]
      rw [dig_nat _ (by omega), if_pos (by omega), if_neg (by omega), if_neg (by omega)]
      congr 1; omega
theorem dd_inj {a b : Nat} (ha : a < 18446744073709551616) (hb : b < 18446744073709551616) (h : decDigits a = decDigits b) : a = b := by
  have h1 := dd_parse a ha
  rw [h, dd_parse b hb] at h1
  injection h1 with h1
  exact h1.symm
theorem dd_atoi (v : Nat) (h : v < 9223372036854775808) : atoiAll (decDigits v) = .ok v := by
  have hd := dd_digit v
  have hp := dd_parse v (by omega)
  have hne := dd_ne v
  cases hc : decDigits v with
  | nil => exact absurd hc hne
  | cons c r =>
    have h1 := hd c (by rw [hc]; simp)
    rw [hc] at hp
    have e : parseMag (c :: r) = .ok v := by unfold parseMag; rw [if_neg (by simp), hp]
    unfold atoiAll
    simp only
    rw [if_neg (by omega), e]
    simp only
    rw [if_neg (by omega), if_neg (by omega), if_neg (by omega)]
theorem dd_head : ∀ (v : Nat), (decDigits v)[0]? = some 48 → v = 0 := by
  intro v
  induction v using Nat.strongRecOn with
  | _ v ih =>
    intro h
    rcases Nat.lt_or_ge v 10 with h1 | h1
    · rw [dd_lt v h1] at h
      have h2 : UInt8.ofNat (48 + v) = 48 := by simpa using h
      have := congrArg UInt8.toNat h2
      rw [dig_nat v h1] at this
      have h3 : (48 : UInt8).toNat = 48 := rfl
      omega
    · rw [dd_eq v h1, List.getElem?_append_left (List.length_pos_iff.2 (dd_ne _))] at h
      have := ih (v / 10) (by omega) h
      omega
/-- The number that a text tells in decimal, if it is one that is small enough. -/
def numO (s : List UInt8) : Option Nat := (List.range 4097).find? fun v => decDigits v == s
theorem numO_iff {s : List UInt8} {v : Nat} : numO s = some v ↔ v ≤ 4096 ∧ s = decDigits v := by
  constructor
  · intro h
    have h1 := List.find?_some h
    have h2 := List.mem_of_find?_eq_some h
    rw [List.mem_range] at h2
    exact ⟨by omega, (beq_iff_eq.1 h1).symm⟩
  · rintro ⟨h, rfl⟩
    cases hf : numO (decDigits v) with
    | none =>
      have := List.find?_eq_none.1 hf v (List.mem_range.2 (by omega))
      simp at this
    | some u =>
      have h1 := List.find?_some hf
      have h2 := List.mem_of_find?_eq_some hf
      rw [List.mem_range] at h2
      rw [dd_inj (by omega) (by omega) (beq_iff_eq.1 h1)]
theorem numO_none {s : List UInt8} (h : ∀ v, v ≤ 4096 → s ≠ decDigits v) : numO s = none := by
  cases hf : numO s with
  | none => rfl
  | some u => obtain ⟨h1, h2⟩ := numO_iff.1 hf; exact absurd h2 (h u h1)
/-- The value of digits. -/
def hor (a : Nat) (s : List UInt8) : Nat := s.foldl (fun a c => a * 10 + (c.toNat - 48)) a
theorem hor_app (a : Nat) (s t : List UInt8) : hor a (s ++ t) = hor (hor a s) t := by unfold hor; rw [List.foldl_append]
theorem hor_ge : ∀ (s : List UInt8) (a : Nat), a ≤ hor a s
  | [], a => Nat.le_refl _
  | c :: s, a => Nat.le_trans (by omega : a ≤ a * 10 + (c.toNat - 48)) (hor_ge s _)
theorem hor_one (a : Nat) (c : UInt8) : hor a [c] = a * 10 + (c.toNat - 48) := rfl
theorem hor_dd : ∀ (v : Nat), hor 0 (decDigits v) = v := by
  intro v
  induction v using Nat.strongRecOn with
  | _ v ih =>
    rcases Nat.lt_or_ge v 10 with h | h
    · rw [dd_lt v h, hor_one, dig_nat v h]; omega
    · rw [dd_eq v h, hor_app, ih (v / 10) (by omega), hor_one, dig_nat _ (by omega)]; omega
theorem hor_take (s : List UInt8) (k : Nat) : hor 0 (s.take k) ≤ hor 0 s := by
  conv => rhs; rw [← List.take_append_drop k s, hor_app]
  exact hor_ge _ _
theorem hor_succ {s : List UInt8} {k : Nat} {c : UInt8} (h : s[k]? = some c) : hor 0 (s.take (k + 1)) = hor 0 (s.take k) * 10 + (c.toNat - 48) := by
  rw [List.take_add_one, h, Option.toList, hor_app, hor_one]
theorem dd_hor : ∀ (n : Nat) (s : List UInt8), s.length = n → s ≠ [] → (∀ c ∈ s, 48 ≤ c.toNat ∧ c.toNat ≤ 57) → (s[0]? = some 48 → s.length = 1) → decDigits (hor 0 s) = s := by
  intro n
  induction n with
  | zero => intro s hl hne; exact absurd (List.length_eq_zero_iff.1 hl) hne
  | succ n ih =>
    intro s hl hne hd hz
    obtain ⟨l, c, rfl⟩ : ∃ l c, s = l ++ [c] := ⟨s.dropLast, s.getLast hne, (List.dropLast_concat_getLast hne).symm⟩
    have hc := hd c (by simp)
    have back : UInt8.ofNat (48 + (c.toNat - 48)) = c := by
      apply UInt8.toNat_inj.1
      rw [dig_nat _ (by omega)]; omega
    cases hll : l with
    | nil =>
      rw [List.nil_append, hor_one, dd_lt _ (by omega)]
      simp only [Nat.zero_mul, Nat.zero_add]
      rw [back]
    | cons x r =>
      have hlen : l.length = n := by simpa using hl
      have hl0 : l ≠ [] := by rw [hll]; simp
      have hx : (l ++ [c])[0]? = l[0]? := List.getElem?_append_left (List.length_pos_iff.2 hl0)
      have hnz : l[0]? ≠ some 48 := fun e => by
        have := hz (by rw [hx]; exact e)
        rw [hll] at this; simp at this
      have hi := ih l hlen hl0 (fun c hc => hd c (by simp [hc])) (fun e => absurd e hnz)
      rw [← hll, hor_app, hor_one]
      have hpos : 1 ≤ hor 0 l := by
        rcases Nat.eq_zero_or_pos (hor 0 l) with h0 | h0
        · rw [h0, dd_lt 0 (by omega)] at hi
          exact absurd (by rw [← hi]; rfl) hnz
        · exact h0
      rw [dd_eq _ (by omega)]
      have e1 : (hor 0 l * 10 + (c.toNat - 48)) / 10 = hor 0 l := by omega
      have e2 : (hor 0 l * 10 + (c.toNat - 48)) % 10 = c.toNat - 48 := by omega
      rw [e1, e2, hi, back]
theorem numO_nil : numO [] = none := numO_none fun v _ e => dd_ne v e.symm
theorem numO_zero {s : List UInt8} (h : s[0]? = some 48) (hl : 1 < s.length) : numO s = none := numO_none fun v _ e => by
  subst e
  have := dd_head v h
  subst this
  rw [dd_lt 0 (by omega)] at hl
  simp at hl
theorem numO_bad {s : List UInt8} {c : UInt8} (h : c ∈ s) (hc : c.toNat < 48 ∨ 57 < c.toNat) : numO s = none := numO_none fun v _ e => by
  subst e
  have := dd_digit v c h
  omega
theorem numO_big {s : List UInt8} {k : Nat} (h : 4096 < hor 0 (s.take k)) : numO s = none := numO_none fun v hv e => by
  subst e
  have := hor_take (decDigits v) k
  rw [hor_dd] at this
  omega
theorem numO_hor {s : List UInt8} (hne : s ≠ []) (hd : ∀ c ∈ s, 48 ≤ c.toNat ∧ c.toNat ≤ 57) (hz : s[0]? = some 48 → s.length = 1) (h : hor 0 s ≤ 4096) : numO s = some (hor 0 s) :=
  numO_iff.2 ⟨h, (dd_hor s.length s rfl hne hd hz).symm⟩
/-- A text cut apart at a byte. -/
def cutsL (c : UInt8) : List UInt8 → List (List UInt8)
  | [] => [[]]
  | x :: r => if x = c then [] :: cutsL c r else match cutsL c r with
    | [] => [[x]]
    | p :: ps => (x :: p) :: ps
theorem cutsL_ne (c : UInt8) : ∀ s, cutsL c s ≠ []
  | [] => by simp [cutsL]
  | x :: r => by
    unfold cutsL
    split
    · simp
    · split <;> simp
theorem cutsL_eq (c : UInt8) (r : List UInt8) : cutsL c (c :: r) = [] :: cutsL c r := by rw [cutsL, if_pos rfl]
theorem cutsL_other {c x : UInt8} (h : x ≠ c) (r : List UInt8) {p : List UInt8} {ps : List (List UInt8)} (e : cutsL c r = p :: ps) : cutsL c (x :: r) = (x :: p) :: ps := by rw [cutsL, if_neg h, e]
theorem cutsL_none {c : UInt8} : ∀ {s : List UInt8}, c ∉ s → cutsL c s = [s]
  | [], _ => rfl
  | x :: r, h => by
    rw [cutsL_other (fun e => h (by simp [e])) r (cutsL_none (fun e => h (by simp [e])))]
theorem cutsL_app {c : UInt8} : ∀ {x : List UInt8} (r : List UInt8), c ∉ x → cutsL c (x ++ c :: r) = x :: cutsL c r
  | [], r, _ => cutsL_eq c r
  | y :: x, r, h => by
    rw [List.cons_append, cutsL_other (fun e => h (by simp [e])) _ (cutsL_app r (fun e => h (by simp [e])))]
theorem splitK_cuts (c : UInt8) : ∀ s : List UInt8, splitK [c] 0 (count s [c]) s = cutsL c s
  | [] => rfl
  | x :: r => by
    have ih := splitK_cuts c r
    by_cases hx : x = c
    · subst hx
      rw [count_cons_eq, Nat.add_comm, splitK, index_one, cutsL_eq, ← ih]
      simp [indexByte]
    · rw [count_cons_ne _ _ _ hx]
      have hix : index (x :: r) [c] = if indexByte r c == -1 then -1 else indexByte r c + 1 := by rw [index_one, indexByte]; simp [hx]
      cases hk : count r [c] with
      | zero =>
        rw [hk] at ih
        rw [cutsL_other hx r (p := r) (ps := []) ih.symm]
        rfl
      | succ k =>
        rw [hk] at ih
        have hne : ¬ indexByte r c = -1 := fun e => by
          have := count_miss (s := r) (sub := [c]) (by rw [index_one]; exact e)
          omega
        have hge := indexByte_ge r c
        obtain ⟨j, hj⟩ : ∃ j : Nat, indexByte r c = j := ⟨(indexByte r c).toNat, by omega⟩
        rw [splitK, index_one, hj] at ih
        have m1 : ¬ (((j : Nat) : Int) == -1) = true := fun e => by have := beq_iff_eq.1 e; omega
        have m2 : ¬ (((j + 1 : Nat) : Int) == -1) = true := fun e => by have := beq_iff_eq.1 e; omega
        rw [if_neg m1] at ih
        rw [hj, if_neg m1] at hix
        have hix' : index (x :: r) [c] = ((j + 1 : Nat) : Int) := by rw [hix]; omega
        rw [splitK, hix', if_neg m2, cutsL_other hx r ih.symm]
        have e1 : ((j + 1 : Nat) : Int).toNat = j + 1 := by omega
        have e2 : ((j : Nat) : Int).toNat = j := by omega
        rw [e1, e2]
        rfl
theorem cut_cuts (c : UInt8) : ∀ s : List UInt8, ((cut s [c]).2.2 = true ∧ cutsL c s = (cut s [c]).1 :: cutsL c (cut s [c]).2.1) ∨ ((cut s [c]).2.2 = false ∧ (cut s [c]).1 = s ∧ cutsL c s = [s])
  | [] => .inr ⟨rfl, rfl, rfl⟩
  | x :: r => by
    by_cases hx : x = c
    · subst hx
      refine .inl ?_
      unfold cut
      rw [index_one, indexByte]
      simp [cutsL_eq]
    · have hix : index (x :: r) [c] = if indexByte r c == -1 then -1 else indexByte r c + 1 := by rw [index_one, indexByte]; simp [hx]
      have hge := indexByte_ge r c
      rcases cut_cuts c r with ⟨h1, h2⟩ | ⟨h1, h2, h3⟩
      · refine .inl ?_
        unfold cut at h1 h2 ⊢
        rw [index_one] at h1 h2
        rw [hix]
        by_cases h0 : 0 ≤ indexByte r c
        · obtain ⟨j, hj⟩ : ∃ j : Nat, indexByte r c = j := ⟨(indexByte r c).toNat, by omega⟩
          rw [hj] at h2 ⊢
          have m1 : ¬ (((j : Nat) : Int) == -1) = true := fun e => by have := beq_iff_eq.1 e; omega
          rw [if_neg m1, if_pos (by omega)]
          rw [if_pos (by omega)] at h2
          refine ⟨rfl, ?_⟩
          rw [cutsL_other hx r h2]
          have e1 : (((j : Nat) : Int) + 1).toNat = j + 1 := by omega
          have e2 : ((j : Nat) : Int).toNat = j := by omega
          simp only [e1, e2]
          rfl
        · rw [if_neg h0] at h1; cases h1
      · refine .inr ?_
        have h0 : ¬ 0 ≤ indexByte r c := fun h0 => by
          unfold cut at h1
          rw [index_one, if_pos h0] at h1; cases h1
        have h4 : indexByte r c = -1 := by omega
        rw [h4] at hix
        unfold cut
        rw [hix]
        exact ⟨rfl, rfl, cutsL_other hx r h3⟩
theorem cut_len (c : UInt8) (s : List UInt8) : (cut s [c]).1.length ≤ s.length ∧ (cut s [c]).2.1.length ≤ s.length := by
  unfold cut
  split
  · simp only [List.length_take, List.length_drop]; omega
  · simp
/-- A pair of ends. -/
def pairR : Option Nat → Option Nat → Option (Nat × Nat)
  | some a, some b => if a ≤ b then some (a, b - a + 1) else none
  | _, _ => none
/-- What a part of a text tells. -/
def partR (p : List UInt8) : Option (Nat × Nat) :=
  if 2 < (cutsL 45 p).length then none else pairR (numO ((cutsL 45 p).headD [])) (numO ((cutsL 45 p).getLastD []))
theorem pairR_none (x : Option Nat) : pairR x none = none := by cases x <;> rfl
theorem partR_cut (p : List UInt8) : partR p = pairR (numO (cut p [45]).1) (numO (if (cut p [45]).2.2 then (cut p [45]).2.1 else (cut p [45]).1)) := by
  unfold partR
  rcases cut_cuts 45 p with ⟨h1, h2⟩ | ⟨h1, h2, h3⟩
  · rw [h1, if_pos rfl, h2]
    generalize (cut p [45]).1 = a
    generalize (cut p [45]).2.1 = b
    rcases cut_cuts 45 b with ⟨g1, g2⟩ | ⟨g1, g2, g3⟩
    · have hb : numO b = none := by
        refine numO_bad (c := 45) ?_ (.inl (by decide))
        refine Classical.byContradiction fun hn => ?_
        have := cutsL_none hn
        rw [g2] at this
        have h5 := congrArg List.length this
        have h6 := List.length_pos_iff.2 (cutsL_ne 45 (cut b [45]).2.1)
        simp at h5; exact cutsL_ne _ _ h5
      rw [hb, pairR_none, if_pos]
      have h6 := List.length_pos_iff.2 (cutsL_ne 45 (cut b [45]).2.1)
      rw [List.length_cons, g2, List.length_cons]; omega
    · rw [g3, if_neg (by simp)]; rfl
  · rw [h1, h3, if_neg (by simp), if_neg (by simp), h2]; rfl
theorem partR_some {p : List UInt8} {a b : Nat} (h : partR p = some (a, b)) : a + b ≤ 4097 ∧ 1 ≤ b := by
  unfold partR at h
  split at h
  · cases h
  · unfold pairR at h
    split at h
    · rename_i x y hx hy
      split at h
      · obtain ⟨h1, _⟩ := numO_iff.1 hy
        cases h; omega
      · cases h
    · cases h
end Go.Aw
