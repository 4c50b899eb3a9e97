/-
  The specification's reader of bencoded values: small functions, a text.
-/
import Derived.Test.YthcdjconlfdidaaDoorD3
set_option linter.unusedVariables false
set_option linter.unusedSimpArgs false
set_option maxRecDepth 20000
set_option maxHeartbeats 4000000
namespace Go.Proofs.YthcdjconlfdidaaDoor
open Go Go.Aw Go.Proofs
/-- The specification's reader: its text, where it stands, how many values it has begun, what was wrong. -/
def rfO (s : List UInt8) (i n : Nat) (a e : Int) : AObj := .cells [.string (bs s), .int .i64 (i : Nat), .int .i64 (n : Nat), .int .i64 a, .int .i64 e] ⟨54, 0, true, 0, none⟩
theorem rDigit (c : UInt8) (H : AHeap) : ARet Tryd.prog 59 [.int .u8 c.toNat] H (.bool (dig c)) H := by
  unfold dig
  by_cases h1 : 48 ≤ c.toNat
  · have h1' : (c.toNat : Int) ≥ 48 := by omega
    by_cases h2 : c.toNat ≤ 57
    · have h2' : (c.toNat : Int) ≤ 57 := by omega
      rw [decide_eq_true h1, decide_eq_true h2]
      refine AC.enter Tryd.func59 rfl (by kernel_rfl) 9 rfl [.tmp 2] rfl (by simp) fun hsc B => ?_
      repeat first | with_reducible refine AWP.ctl (by constructor) ?_ | ((with_reducible (first | refine AWP.region ?_ ?_ | refine AWP.condT ?_ ?_)); exact rfl) | ((with_reducible refine AWP.condF ?_ ?_); exact rfl) | simp only [go_sem, sevalprocAttr, reduceCtorEq, h1', h2'] | simp (disch := omega) only [wz] | with_reducible_and_instances exact finR | ((with_reducible refine finR' ?_ ?_) <;> rfl) | ((with_reducible refine finD hsc (NRel.of_plain ?_)); exact rfl)
    · have h2' : ¬ (c.toNat : Int) ≤ 57 := by omega
      rw [decide_eq_true h1, decide_eq_false h2]
      refine AC.enter Tryd.func59 rfl (by kernel_rfl) 9 rfl [.tmp 2] rfl (by simp) fun hsc B => ?_
      repeat first | with_reducible refine AWP.ctl (by constructor) ?_ | ((with_reducible (first | refine AWP.region ?_ ?_ | refine AWP.condT ?_ ?_)); exact rfl) | ((with_reducible refine AWP.condF ?_ ?_); exact rfl) | simp only [go_sem, sevalprocAttr, reduceCtorEq, h1', h2'] | simp (disch := omega) only [wz] | with_reducible_and_instances exact finR | ((with_reducible refine finR' ?_ ?_) <;> rfl) | ((with_reducible refine finD hsc (NRel.of_plain ?_)); exact rfl)
  · have h1' : ¬ (c.toNat : Int) ≥ 48 := by omega
    rw [decide_eq_false h1]
    refine AC.enter Tryd.func59 rfl (by kernel_rfl) 9 rfl [.tmp 2] rfl (by simp) fun hsc B => ?_
    repeat first | with_reducible refine AWP.ctl (by constructor) ?_ | ((with_reducible (first | refine AWP.region ?_ ?_ | refine AWP.condT ?_ ?_)); exact rfl) | ((with_reducible refine AWP.condF ?_ ?_); exact rfl) | simp only [go_sem, sevalprocAttr, reduceCtorEq, h1'] | simp (disch := omega) only [wz] | with_reducible_and_instances exact finR | ((with_reducible refine finR' ?_ ?_) <;> rfl) | ((with_reducible refine finD hsc (NRel.of_plain ?_)); exact rfl)
theorem rNext (s : List UInt8) (r i n : Nat) (a e : Int) (c : UInt8) (hs : s.length ≤ 65536) (hc : s[i]? = some c) (H : AHeap) (hr : H[r]? = some (rfO s i n a e)) : ARet Tryd.prog 58 [.pointer (some ⟨r, 0, none⟩)] H (.tuple ⟨[.int .u8 c.toNat, .bool true]⟩) H := by
  unfold rfO at hr
  have hrl := lt_of_get hr
  have hlt := (List.getElem?_eq_some_iff.1 hc).1
  have h1 : (i : Int) < (s.length : Int) := by omega
  refine AC.enter Tryd.func58 rfl (by kernel_rfl) 23 rfl [.tmp 2, .tmp 3] rfl (by simp) fun hsc B => ?_
  repeat first | with_reducible refine AWP.ctl (by constructor) ?_ | ((with_reducible (first | refine AWP.region ?_ ?_ | refine AWP.condT ?_ ?_)); exact rfl) | ((with_reducible refine AWP.condF ?_ ?_); exact rfl) | simp only [go_sem, sevalprocAttr, reduceCtorEq] | simp (disch := omega) only [wz] | with_reducible_and_instances exact finR | ((with_reducible refine finR' ?_ ?_) <;> rfl) | ((with_reducible refine finD hsc (NRel.of_plain ?_)); exact rfl)
  refine AWP.regionK 9 (by kernel_rfl) (by decide) (by kernel_rfl) ?_
  repeat first | with_reducible refine AWP.ctl (by constructor) ?_ | ((with_reducible (first | refine AWP.region ?_ ?_ | refine AWP.condT ?_ ?_)); exact rfl) | ((with_reducible refine AWP.condF ?_ ?_); exact rfl) | simp only [go_sem, sevalprocAttr, reduceCtorEq, hr, hrl, h1] | simp (disch := omega) only [wz] | with_reducible_and_instances exact finR | ((with_reducible refine finR' ?_ ?_) <;> rfl) | ((with_reducible refine finD hsc (NRel.of_plain ?_)); exact rfl)
  refine AWP.regionK 8 (by kernel_rfl) (by decide) (by kernel_rfl) ?_
  repeat first | with_reducible refine AWP.ctl (by constructor) ?_ | ((with_reducible (first | refine AWP.region ?_ ?_ | refine AWP.condT ?_ ?_)); exact rfl) | ((with_reducible refine AWP.condF ?_ ?_); exact rfl) | simp only [go_sem, sevalprocAttr, reduceCtorEq, hr, hrl, hc] | simp (disch := omega) only [wz] | with_reducible_and_instances exact finR | ((with_reducible refine finR' ?_ ?_) <;> rfl) | ((with_reducible refine finD hsc (NRel.of_plain ?_)); exact rfl)
theorem rNextEnd (s : List UInt8) (r i n : Nat) (a e : Int) (hs : s.length ≤ 65536) (hc : s.length ≤ i) (H : AHeap) (hr : H[r]? = some (rfO s i n a e)) : ARet Tryd.prog 58 [.pointer (some ⟨r, 0, none⟩)] H (.tuple ⟨[.int .u8 0, .bool false]⟩) H := by
  unfold rfO at hr
  have hrl := lt_of_get hr
  have h1 : ¬ (i : Int) < (s.length : Int) := by omega
  refine AC.enter Tryd.func58 rfl (by kernel_rfl) 23 rfl [.tmp 2, .tmp 3] rfl (by simp) fun hsc B => ?_
  repeat first | with_reducible refine AWP.ctl (by constructor) ?_ | ((with_reducible (first | refine AWP.region ?_ ?_ | refine AWP.condT ?_ ?_)); exact rfl) | ((with_reducible refine AWP.condF ?_ ?_); exact rfl) | simp only [go_sem, sevalprocAttr, reduceCtorEq] | simp (disch := omega) only [wz] | with_reducible_and_instances exact finR | ((with_reducible refine finR' ?_ ?_) <;> rfl) | ((with_reducible refine finD hsc (NRel.of_plain ?_)); exact rfl)
  refine AWP.regionK 9 (by kernel_rfl) (by decide) (by kernel_rfl) ?_
  repeat first | with_reducible refine AWP.ctl (by constructor) ?_ | ((with_reducible (first | refine AWP.region ?_ ?_ | refine AWP.condT ?_ ?_)); exact rfl) | ((with_reducible refine AWP.condF ?_ ?_); exact rfl) | simp only [go_sem, sevalprocAttr, reduceCtorEq, hr, hrl, h1] | simp (disch := omega) only [wz] | with_reducible_and_instances exact finR | ((with_reducible refine finR' ?_ ?_) <;> rfl) | ((with_reducible refine finD hsc (NRel.of_plain ?_)); exact rfl)
theorem rFine (s : List UInt8) (r i n : Nat) (a e : Int) (H : AHeap) (hr : H[r]? = some (rfO s i n a e)) : ARet Tryd.prog 29 [.pointer (some ⟨r, 0, none⟩)] H (.bool (e == 0)) H := by
  unfold rfO at hr
  have hrl := lt_of_get hr
  cases h : (e == 0) with
  | true =>
    refine AC.enter Tryd.func29 rfl (by kernel_rfl) 8 rfl [.tmp 2] rfl (by simp) fun hsc B => ?_
    repeat first | with_reducible refine AWP.ctl (by constructor) ?_ | ((with_reducible (first | refine AWP.region ?_ ?_ | refine AWP.condT ?_ ?_)); exact rfl) | ((with_reducible refine AWP.condF ?_ ?_); exact rfl) | simp only [go_sem, sevalprocAttr, reduceCtorEq, hr, hrl, h] | simp (disch := omega) only [wz] | with_reducible_and_instances exact finR | ((with_reducible refine finR' ?_ ?_) <;> rfl) | ((with_reducible refine finD hsc (NRel.of_plain ?_)); exact rfl)
  | false =>
    refine AC.enter Tryd.func29 rfl (by kernel_rfl) 8 rfl [.tmp 2] rfl (by simp) fun hsc B => ?_
    repeat first | with_reducible refine AWP.ctl (by constructor) ?_ | ((with_reducible (first | refine AWP.region ?_ ?_ | refine AWP.condT ?_ ?_)); exact rfl) | ((with_reducible refine AWP.condF ?_ ?_); exact rfl) | simp only [go_sem, sevalprocAttr, reduceCtorEq, hr, hrl, h] | simp (disch := omega) only [wz] | with_reducible_and_instances exact finR | ((with_reducible refine finR' ?_ ?_) <;> rfl) | ((with_reducible refine finD hsc (NRel.of_plain ?_)); exact rfl)
theorem rWrong (s : List UInt8) (r i n : Nat) (a e : Int) (H : AHeap) (hr : H[r]? = some (rfO s i n 0 0)) : ARet Tryd.prog 60 [.pointer (some ⟨r, 0, none⟩), .int .i64 a, .int .i64 e] H noVal (H.set r (rfO s i n a e)) := by
  have hF := rFine s r i n 0 0 H hr
  unfold rfO at hr
  have hrl := lt_of_get hr
  unfold rfO
  refine AC.enter Tryd.func60 rfl (by kernel_rfl) 16 rfl [] rfl (by simp) fun hsc B => ?_
  repeat first | with_reducible refine AWP.ctl (by constructor) ?_ | ((with_reducible (first | refine AWP.region ?_ ?_ | refine AWP.condT ?_ ?_)); exact rfl) | ((with_reducible refine AWP.condF ?_ ?_); exact rfl) | with_reducible refine hF.use ?_ | simp only [go_sem, sevalprocAttr, reduceCtorEq, hr, hrl, hsets, List.set_set, List.length_set, List.set_cons_succ, List.set_cons_zero] | simp (disch := omega) only [wz] | with_reducible_and_instances exact finR | ((with_reducible refine finR' ?_ ?_) <;> rfl) | ((with_reducible refine finD hsc (NRel.of_plain ?_)); exact rfl)
theorem rWrongNo (s : List UInt8) (r i n : Nat) (a a2 e e2 : Int) (he : e2 ≠ 0) (H : AHeap) (hr : H[r]? = some (rfO s i n a2 e2)) : ARet Tryd.prog 60 [.pointer (some ⟨r, 0, none⟩), .int .i64 a, .int .i64 e] H noVal H := by
  have hF := rFine s r i n a2 e2 H hr
  rw [show (e2 == 0) = false by simpa using he] at hF
  refine AC.enter Tryd.func60 rfl (by kernel_rfl) 16 rfl [] rfl (by simp) fun hsc B => ?_
  repeat first | with_reducible refine AWP.ctl (by constructor) ?_ | ((with_reducible (first | refine AWP.region ?_ ?_ | refine AWP.condT ?_ ?_)); exact rfl) | ((with_reducible refine AWP.condF ?_ ?_); exact rfl) | with_reducible refine hF.use ?_ | simp only [go_sem, sevalprocAttr, reduceCtorEq] | simp (disch := omega) only [wz] | with_reducible_and_instances exact finR | ((with_reducible refine finR' ?_ ?_) <;> rfl) | ((with_reducible refine finD hsc (NRel.of_plain ?_)); exact rfl)
/-- What reading a text gives. -/
def TextQ (s : List UInt8) (r n : Nat) (H : AHeap) : Rr (List UInt8) → ARes → AHeap → Prop
  | .ok t j _, res, H1 => res = .ret (.string (bs t)) ∧ H1 = H.set r (rfO s j n 0 0)
  | .bad a e, res, H1 => res = .ret (.string (bs [])) ∧ ∃ q, H1 = H.set r (rfO s q n a e)
theorem rText (s : List UInt8) (r i n : Nat) (c0 : UInt8) (hs : s.length ≤ 65536) (hc0 : s[i]? = some c0) (hd0 : dig c0 = true) (H : AHeap) (hr : H[r]? = some (rfO s i n 0 0)) :
    AC Tryd.prog 61 [.pointer (some ⟨r, 0, none⟩)] H (TextQ s r n H (textR s i)) := by
  have hrl := lt_of_get hr
  have hr0 := hr
  unfold rfO at hr0
  have hsame := set_same hr
  have hi := (List.getElem?_eq_some_iff.1 hc0).1
  have hi0 : (0 : Int) ≤ (i : Int) := Int.natCast_nonneg _
  have hi1 : (i : Int) < (s.length : Int) := by omega
  obtain ⟨R, hR⟩ : ∃ R, lenGo (s[i]? == some 48) 0 0 (s.drop i) = R := ⟨_, rfl⟩
  have hTi : ∀ k, R = .inl k → textR s i = .bad (i + k) 2 := fun k e => by unfold textR; rw [hR, e]
  have hTr : ∀ m k, R = .inr (m, k) → textR s i = if s.length - (i + k + 1) < m then .bad s.length 2 else .ok ((s.drop (i + k + 1)).take m) (i + k + 1 + m) 0 := fun m k e => by unfold textR; rw [hR, e]
  have h480 : ((c0.toNat : Int) == 48) = (c0 == 48) := u8b (n := 48) rfl
  have hwi1 : IntKind.i64.wrap ((i : Int) + 1) = ((i + 1 : Nat) : Int) := by rw [wi64 (by omega)]; omega
  refine AC.enter Tryd.func61 rfl (by kernel_rfl) 127 rfl [.tmp 2] rfl (by simp) fun hsc B => ?_
  repeat first | with_reducible refine AWP.ctl (by constructor) ?_ | ((with_reducible (first | refine AWP.region ?_ ?_ | refine AWP.condT ?_ ?_)); exact rfl) | ((with_reducible refine AWP.condF ?_ ?_); exact rfl) | simp only [go_sem, sevalprocAttr, reduceCtorEq, hr0, hrl] | simp (disch := omega) only [wz] | with_reducible_and_instances exact finR | ((with_reducible refine finR' ?_ ?_) <;> rfl) | ((with_reducible refine finD hsc (NRel.of_plain ?_)); exact rfl)
  refine AWP.loopP (fun st : Nat × Nat => ⟨[(0, .pointer (some ⟨r, 0, none⟩)), (3, .int .i64 (st.2 : Nat)), (4, .int .i64 (i : Nat))], [], H.set r (rfO s st.1 n 0 0)⟩)
    (fun st => i ≤ st.1 ∧ st.1 ≤ s.length ∧ st.2 ≤ 65536 ∧ lenGo (s[i]? == some 48) (st.1 - i) st.2 (s.drop st.1) = R) (fun st => s.length - st.1) (i, 0) ?_ ⟨Nat.le_refl _, by dsimp only; omega, Nat.zero_le _, by rw [Nat.sub_self]; exact hR⟩ ?_
  · simp only [hsame]
    exact Weak.env (by simp [envIn, lk_cons, wth_some])
  rintro ⟨p, m⟩ ⟨h0, h1, h2, h3⟩
  simp only at h0 h1 h2 h3 ⊢
  have hg : (H.set r (rfO s p n 0 0))[r]? = some (rfO s p n 0 0) := List.getElem?_set_self hrl
  have hg0 := hg
  unfold rfO at hg0
  have hW := rWrong s r p n p 2 _ hg
  rw [List.set_set] at hW
  unfold rfO
  cases hc : s[p]? with
  | none =>
    have hle : s.length ≤ p := by
      rcases Nat.lt_or_ge p s.length with h | h
      · rw [List.getElem?_eq_getElem h] at hc; cases hc
      · exact h
    have hN := rNextEnd s r p n 0 0 hs hle _ hg
    rw [List.drop_eq_nil_of_le hle, lenGo] at h3
    have hT := hTi (p - i) h3.symm
    have e : i + (p - i) = p := by omega
    rw [e] at hT
    unfold rfO at hN hW
    repeat first | with_reducible refine AWP.ctl (by constructor) ?_ | ((with_reducible (first | refine AWP.region ?_ ?_ | refine AWP.condT ?_ ?_)); exact rfl) | ((with_reducible refine AWP.condF ?_ ?_); exact rfl) | with_reducible refine hN.use ?_ | with_reducible refine hW.use ?_ | simp only [go_sem, sevalprocAttr, reduceCtorEq, hg0, hrl, exists_eq_left] | simp (disch := omega) only [wz] | with_reducible_and_instances exact finR | ((with_reducible refine finR' ?_ ?_) <;> rfl) | ((with_reducible refine finD hsc (NRel.of_plain ?_)); exact rfl)
    exact ⟨_, _, .refl _ _ _, by rw [hT]; exact ⟨rfl, _, rfl⟩⟩
  | some c =>
    have hlt := (List.getElem?_eq_some_iff.1 hc).1
    have hN := rNext s r p n 0 0 c hs hc _ hg
    have hD := rDigit c (H.set r (rfO s p n 0 0))
    have hd : s.drop p = c :: s.drop (p + 1) := by
      rw [List.drop_eq_getElem_cons hlt]
      rw [List.getElem?_eq_getElem hlt] at hc
      rw [Option.some.inj hc]
    rw [hd, lenGo] at h3
    have h58' : ((c.toNat : Int) == 58) = (c == 58) := u8b (n := 58) rfl
    have h58n : ((c.toNat : Int) != 58) = !(c == 58) := congrArg (!·) h58'
    unfold rfO at hN hD hW
    have hw1 : IntKind.i64.wrap ((p : Int) + 1) = ((p + 1 : Nat) : Int) := by rw [wi64 (by omega)]; omega
    have hip : i + (p - i) = p := by omega
    have hbadT : (¬ (c = 58 ∧ 0 < p - i)) → (dig c = false ∨ (p - i = 1 ∧ (s[i]? == some 48) = true) ∨ 65536 < 10 * m + (c.toNat - 48)) → textR s i = .bad p 2 := fun hE h => by
      rw [if_neg hE, if_pos h] at h3
      rw [hTi _ h3.symm, hip]
    cases hdig : dig c with
    | false =>
      rw [hdig] at hD
      by_cases c58 : c = 58
      · have hpi : 0 < p - i := by
          rcases Nat.lt_or_ge i p with h | h
          · omega
          · obtain rfl : p = i := by omega
            rw [hc] at hc0; cases hc0
            rw [hdig] at hd0; cases hd0
        rw [if_pos ⟨c58, hpi⟩] at h3
        have e58 : ((c.toNat : Int) == 58) = true := by rw [h58', c58]; rfl
        have e58n : ((c.toNat : Int) != 58) = false := by rw [h58n, c58]; rfl
        obtain ⟨q, hq⟩ : ∃ q, q = s.length - (p + 1) := ⟨_, rfl⟩
        have hw2 : IntKind.i64.wrap ((s.length : Int) - ((p + 1 : Nat) : Int)) = (q : Int) := by rw [wi64 (by omega)]; omega
        have hT := hTr m (p - i) h3.symm
        rw [hip, ← hq] at hT
        by_cases hL : q < m
        · have hL' : (m : Int) > (q : Int) := by omega
          have hg1 : (H.set r (rfO s (p + 1) n 0 0))[r]? = some (rfO s (p + 1) n 0 0) := List.getElem?_set_self hrl
          have hW2 := rWrong s r (p + 1) n s.length 2 _ hg1
          rw [List.set_set] at hW2
          unfold rfO at hW2
          rw [if_pos hL] at hT
          repeat first | with_reducible refine AWP.ctl (by constructor) ?_ | ((with_reducible (first | refine AWP.region ?_ ?_ | refine AWP.condT ?_ ?_)); exact rfl) | ((with_reducible refine AWP.condF ?_ ?_); exact rfl) | with_reducible refine hN.use ?_ | with_reducible refine hD.use ?_ | simp only [go_sem, sevalprocAttr, reduceCtorEq, hg0, hrl, e58, e58n, hw1, hsets, List.set_set, List.length_set, List.set_cons_succ, List.set_cons_zero, exists_eq_left] | simp (disch := omega) only [wz] | with_reducible_and_instances exact finR | ((with_reducible refine finR' ?_ ?_) <;> rfl) | ((with_reducible refine finD hsc (NRel.of_plain ?_)); exact rfl)
          refine AWP.regionK 11 (by kernel_rfl) (by decide) (by kernel_rfl) ?_
          repeat first | with_reducible refine AWP.ctl (by constructor) ?_ | ((with_reducible (first | refine AWP.region ?_ ?_ | refine AWP.condT ?_ ?_)); exact rfl) | ((with_reducible refine AWP.condF ?_ ?_); exact rfl) | with_reducible refine hW2.use ?_ | simp only [go_sem, sevalprocAttr, reduceCtorEq, hsets, hrl, hw2, hL', List.length_set] | simp (disch := omega) only [wz] | with_reducible_and_instances exact finR | ((with_reducible refine finR' ?_ ?_) <;> rfl) | ((with_reducible refine finD hsc (NRel.of_plain ?_)); exact rfl)
          exact ⟨_, _, .refl _ _ _, by rw [hT]; exact ⟨rfl, _, rfl⟩⟩
        · have hL' : ¬ (m : Int) > (q : Int) := by omega
          obtain ⟨j, hj⟩ : ∃ j, j = p + 1 + m := ⟨_, rfl⟩
          have hw3 : IntKind.i64.wrap (((p + 1 : Nat) : Int) + (m : Int)) = (j : Int) := by rw [wi64 (by omega)]; omega
          have hw4 : IntKind.i64.wrap ((j : Int) - (m : Int)) = ((p + 1 : Nat) : Int) := by rw [wi64 (by omega)]; omega
          rw [if_neg hL, ← hj] at hT
          repeat first | with_reducible refine AWP.ctl (by constructor) ?_ | ((with_reducible (first | refine AWP.region ?_ ?_ | refine AWP.condT ?_ ?_)); exact rfl) | ((with_reducible refine AWP.condF ?_ ?_); exact rfl) | with_reducible refine hN.use ?_ | with_reducible refine hD.use ?_ | simp only [go_sem, sevalprocAttr, reduceCtorEq, hg0, hrl, e58, e58n, hw1, hsets, List.set_set, List.length_set, List.set_cons_succ, List.set_cons_zero, exists_eq_left] | simp (disch := omega) only [wz] | with_reducible_and_instances exact finR | ((with_reducible refine finR' ?_ ?_) <;> rfl) | ((with_reducible refine finD hsc (NRel.of_plain ?_)); exact rfl)
          refine AWP.regionK 11 (by kernel_rfl) (by decide) (by kernel_rfl) ?_
          repeat first | with_reducible refine AWP.ctl (by constructor) ?_ | ((with_reducible (first | refine AWP.region ?_ ?_ | refine AWP.condT ?_ ?_)); exact rfl) | ((with_reducible refine AWP.condF ?_ ?_); exact rfl) | simp only [go_sem, sevalprocAttr, reduceCtorEq, hsets, hrl, hw2, hL', hw3, List.set_set, List.length_set, List.set_cons_succ, List.set_cons_zero] | simp (disch := omega) only [wz] | with_reducible_and_instances exact finR | ((with_reducible refine finR' ?_ ?_) <;> rfl) | ((with_reducible refine finD hsc (NRel.of_plain ?_)); exact rfl)
          refine AWP.regionK 14 (by kernel_rfl) (by decide) (by kernel_rfl) ?_
          repeat first | with_reducible refine AWP.ctl (by constructor) ?_ | ((with_reducible (first | refine AWP.region ?_ ?_ | refine AWP.condT ?_ ?_)); exact rfl) | ((with_reducible refine AWP.condF ?_ ?_); exact rfl) | simp only [go_sem, sevalprocAttr, reduceCtorEq, hsets, hrl, hw4, List.length_set] | simp (disch := omega) only [wz] | with_reducible_and_instances exact finR | ((with_reducible refine finR' ?_ ?_) <;> rfl) | ((with_reducible refine finD hsc (NRel.of_plain ?_)); exact rfl)
          refine ⟨by omega, by omega, ?_⟩
          repeat first | with_reducible refine AWP.ctl (by constructor) ?_ | ((with_reducible (first | refine AWP.region ?_ ?_ | refine AWP.condT ?_ ?_)); exact rfl) | ((with_reducible refine AWP.condF ?_ ?_); exact rfl) | simp only [go_sem, sevalprocAttr, reduceCtorEq] | simp (disch := omega) only [wz] | with_reducible_and_instances exact finR | ((with_reducible refine finR' ?_ ?_) <;> rfl) | ((with_reducible refine finD hsc (NRel.of_plain ?_)); exact rfl)
          exact ⟨_, _, .refl _ _ _, by rw [hT]; exact ⟨by rw [drop_take', show j - (p + 1) = m by omega], rfl⟩⟩
      · have e58 : ((c.toNat : Int) == 58) = false := by rw [h58']; simpa using c58
        have e58n : ((c.toNat : Int) != 58) = true := by rw [h58n]; simpa using c58
        have hT := hbadT (fun h => c58 h.1) (.inl hdig)
        repeat first | with_reducible refine AWP.ctl (by constructor) ?_ | ((with_reducible (first | refine AWP.region ?_ ?_ | refine AWP.condT ?_ ?_)); exact rfl) | ((with_reducible refine AWP.condF ?_ ?_); exact rfl) | with_reducible refine hN.use ?_ | with_reducible refine hD.use ?_ | with_reducible refine hW.use ?_ | simp only [go_sem, sevalprocAttr, reduceCtorEq, hg0, hrl, e58n, exists_eq_left] | simp (disch := omega) only [wz] | with_reducible_and_instances exact finR | ((with_reducible refine finR' ?_ ?_) <;> rfl) | ((with_reducible refine finD hsc (NRel.of_plain ?_)); exact rfl)
        exact ⟨_, _, .refl _ _ _, by rw [hT]; exact ⟨rfl, _, rfl⟩⟩
    | true =>
      rw [hdig] at hD
      have hdg := of_dig hdig
      have c58 : ¬ c = 58 := fun h => by rw [h] at hdig; cases hdig
      have e58 : ((c.toNat : Int) == 58) = false := by rw [h58']; simpa using c58
      have e58n : ((c.toNat : Int) != 58) = true := by rw [h58n]; simpa using c58
      obtain ⟨d, hdd⟩ : ∃ d, d = c.toNat - 48 := ⟨_, rfl⟩
      have hu8 : IntKind.u8.wrap ((c.toNat : Int) - 48) = (d : Int) := by rw [wu8 (by omega)]; omega
      have hd64 : IntKind.i64.wrap (d : Int) = (d : Int) := wi64 (by omega)
      obtain ⟨m', hm'⟩ : ∃ m', m' = 10 * m + d := ⟨_, rfl⟩
      obtain ⟨x, hx⟩ : ∃ x, x = 10 * m := ⟨_, rfl⟩
      have hm10 : IntKind.i64.wrap ((m : Int) * 10) = (x : Int) := by rw [wi64 (by omega)]; omega
      have hmd : IntKind.i64.wrap ((x : Int) + (d : Int)) = (m' : Int) := by rw [wi64 (by omega)]; omega
      by_cases hz : p = i + 1 ∧ c0 = 48
      · obtain ⟨hp1, hz0⟩ := hz
        have hp1' : ((p : Int) == ((i + 1 : Nat) : Int)) = true := by simp; omega
        have e48 : ((c0.toNat : Int) == 48) = true := by rw [h480, hz0]; rfl
        have hT := hbadT (fun h => c58 h.1) (.inr (.inl ⟨by omega, by rw [hc0, hz0]; rfl⟩))
        repeat first | with_reducible refine AWP.ctl (by constructor) ?_ | ((with_reducible (first | refine AWP.region ?_ ?_ | refine AWP.condT ?_ ?_)); exact rfl) | ((with_reducible refine AWP.condF ?_ ?_); exact rfl) | with_reducible refine hN.use ?_ | with_reducible refine hD.use ?_ | with_reducible refine hW.use ?_ | simp only [go_sem, sevalprocAttr, reduceCtorEq, hg0, hrl, e58n, hwi1, hp1', hc0, hi0, hi1, e48, exists_eq_left] | simp (disch := omega) only [wz] | with_reducible_and_instances exact finR | ((with_reducible refine finR' ?_ ?_) <;> rfl) | ((with_reducible refine finD hsc (NRel.of_plain ?_)); exact rfl)
        exact ⟨_, _, .refl _ _ _, by rw [hT]; exact ⟨rfl, _, rfl⟩⟩
      · have hnz : ¬ (p - i = 1 ∧ (s[i]? == some 48) = true) := fun h => hz ⟨by omega, by
          have := h.2
          rw [hc0] at this
          simpa using this⟩
        by_cases hbig : 65536 < m'
        · have hT := hbadT (fun h => c58 h.1) (.inr (.inr (by omega)))
          have hbig' : (m' : Int) > 65536 := by omega
          by_cases hp1 : p = i + 1
          · have hp1' : ((p : Int) == ((i + 1 : Nat) : Int)) = true := by simp; omega
            have e48 : ((c0.toNat : Int) == 48) = false := by rw [h480]; simpa using fun h => hz ⟨hp1, h⟩
            repeat first | with_reducible refine AWP.ctl (by constructor) ?_ | ((with_reducible (first | refine AWP.region ?_ ?_ | refine AWP.condT ?_ ?_)); exact rfl) | ((with_reducible refine AWP.condF ?_ ?_); exact rfl) | with_reducible refine hN.use ?_ | with_reducible refine hD.use ?_ | with_reducible refine hW.use ?_ | simp only [go_sem, sevalprocAttr, reduceCtorEq, hg0, hrl, e58, e58n, hwi1, hp1', hc0, hi0, hi1, e48, hm10, hu8, hd64, hmd, hbig', exists_eq_left] | simp (disch := omega) only [wz] | with_reducible_and_instances exact finR | ((with_reducible refine finR' ?_ ?_) <;> rfl) | ((with_reducible refine finD hsc (NRel.of_plain ?_)); exact rfl)
            exact ⟨_, _, .refl _ _ _, by rw [hT]; exact ⟨rfl, _, rfl⟩⟩
          · have hp1' : ((p : Int) == ((i + 1 : Nat) : Int)) = false := by simp; omega
            repeat first | with_reducible refine AWP.ctl (by constructor) ?_ | ((with_reducible (first | refine AWP.region ?_ ?_ | refine AWP.condT ?_ ?_)); exact rfl) | ((with_reducible refine AWP.condF ?_ ?_); exact rfl) | with_reducible refine hN.use ?_ | with_reducible refine hD.use ?_ | with_reducible refine hW.use ?_ | simp only [go_sem, sevalprocAttr, reduceCtorEq, hg0, hrl, e58, e58n, hwi1, hp1', hm10, hu8, hd64, hmd, hbig', exists_eq_left] | simp (disch := omega) only [wz] | with_reducible_and_instances exact finR | ((with_reducible refine finR' ?_ ?_) <;> rfl) | ((with_reducible refine finD hsc (NRel.of_plain ?_)); exact rfl)
            exact ⟨_, _, .refl _ _ _, by rw [hT]; exact ⟨rfl, _, rfl⟩⟩
        · have hbig' : ¬ (m' : Int) > 65536 := by omega
          rw [if_neg (fun h => c58 h.1), if_neg (by rintro (h | h | h); rw [hdig] at h; cases h; exact hnz h; omega), ← hdd, ← hm'] at h3
          have hn3 : lenGo (s[i]? == some 48) (p + 1 - i) m' (s.drop (p + 1)) = R := by rw [← h3]; congr 1; omega
          by_cases hp1 : p = i + 1
          · have hp1' : ((p : Int) == ((i + 1 : Nat) : Int)) = true := by simp; omega
            have e48 : ((c0.toNat : Int) == 48) = false := by rw [h480]; simpa using fun h => hz ⟨hp1, h⟩
            repeat first | with_reducible refine AWP.ctl (by constructor) ?_ | ((with_reducible (first | refine AWP.region ?_ ?_ | refine AWP.condT ?_ ?_)); exact rfl) | ((with_reducible refine AWP.condF ?_ ?_); exact rfl) | with_reducible refine hN.use ?_ | with_reducible refine hD.use ?_ | simp only [go_sem, sevalprocAttr, reduceCtorEq, hg0, hrl, e58, e58n, hwi1, hp1', hc0, hi0, hi1, e48, hm10, hu8, hd64, hmd, hbig', hw1, hsets, List.set_set, List.length_set, List.set_cons_succ, List.set_cons_zero, exists_eq_left] | simp (disch := omega) only [wz] | with_reducible_and_instances exact finR | ((with_reducible refine finR' ?_ ?_) <;> rfl) | ((with_reducible refine finD hsc (NRel.of_plain ?_)); exact rfl)
            exact ⟨(p + 1, m'), Weak.env (by simp [envIn, lk_cons, wth_some]), by dsimp only; omega, by dsimp only; omega, by dsimp only; omega, by dsimp only; rw [← hc0]; exact hn3, by dsimp only; omega⟩
          · have hp1' : ((p : Int) == ((i + 1 : Nat) : Int)) = false := by simp; omega
            repeat first | with_reducible refine AWP.ctl (by constructor) ?_ | ((with_reducible (first | refine AWP.region ?_ ?_ | refine AWP.condT ?_ ?_)); exact rfl) | ((with_reducible refine AWP.condF ?_ ?_); exact rfl) | with_reducible refine hN.use ?_ | with_reducible refine hD.use ?_ | simp only [go_sem, sevalprocAttr, reduceCtorEq, hg0, hrl, e58, e58n, hwi1, hp1', hm10, hu8, hd64, hmd, hbig', hw1, hsets, List.set_set, List.length_set, List.set_cons_succ, List.set_cons_zero, exists_eq_left] | simp (disch := omega) only [wz] | with_reducible_and_instances exact finR | ((with_reducible refine finR' ?_ ?_) <;> rfl) | ((with_reducible refine finD hsc (NRel.of_plain ?_)); exact rfl)
            exact ⟨(p + 1, m'), Weak.env (by simp [envIn, lk_cons, wth_some]), by dsimp only; omega, by dsimp only; omega, by dsimp only; omega, hn3, by dsimp only; omega⟩
end Go.Proofs.YthcdjconlfdidaaDoor

