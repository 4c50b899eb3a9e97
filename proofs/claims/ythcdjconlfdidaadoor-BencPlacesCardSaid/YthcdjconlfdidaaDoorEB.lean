/-
  The specification's reader of bencoded values: a number.
-/
import Derived.Test.YthcdjconlfdidaaDoorEA
set_option linter.unusedVariables false
set_option linter.unusedSimpArgs false
set_option maxRecDepth 20000
set_option maxHeartbeats 4000000
namespace Go.Proofs.YthcdjconlfdidaaDoor
open Go Go.Aw Go.Proofs
/-- What reading a number gives. -/
def NumQ (s : List UInt8) (r n : Nat) (H : AHeap) : Rr Int → ARes → AHeap → Prop
  | .ok z j _, res, H1 => res = .ret (.int .i64 z) ∧ H1 = H.set r (rfO s j n 0 0)
  | .bad a e, res, H1 => res = .ret (.int .i64 0) ∧ ∃ q, H1 = H.set r (rfO s q n a e)
structure NLq where
  p : Nat
  m : Int
  v : Int
  b : Bool
theorem rNumber (s : List UInt8) (r i n : Nat) (hs : s.length ≤ 65536) (hi : i ≤ s.length) (H : AHeap) (hr : H[r]? = some (rfO s i n 0 0)) :
    AC Tryd.prog 62 [.pointer (some ⟨r, 0, none⟩)] H (NumQ s r n H (numR s i)) := by
  have hrl := lt_of_get hr
  have hsame := set_same hr
  have hr0 := hr
  unfold rfO at hr0
  obtain ⟨mi, hmi⟩ : ∃ mi, (s[i]? == some (45 : UInt8)) = mi := ⟨_, rfl⟩
  obtain ⟨f, hf⟩ : ∃ f, f = if mi then i + 1 else i := ⟨_, rfl⟩
  have hfl : f ≤ s.length := by
    rw [hf]
    cases mi with
    | false => exact hi
    | true =>
      have h1 : s[i]? = some 45 := by simpa using hmi
      exact (List.getElem?_eq_some_iff.1 h1).1
  have hval : numR s i = match numGo mi 0 0 (s.drop f) with
    | .inl k => .bad (f + k) 2
    | .inr (z, k) => .ok (if mi then z else -z) (f + k + 1) 0 := by
    unfold numR
    simp only [hmi]
    rw [← hf]
    rfl
  obtain ⟨R, hR⟩ : ∃ R, numGo mi 0 0 (s.drop f) = R := ⟨_, rfl⟩
  have hTi : ∀ k, R = .inl k → numR s i = .bad (f + k) 2 := fun k e => by rw [hval, hR, e]
  have hTr : ∀ z k, R = .inr (z, k) → numR s i = .ok (if mi then z else -z) (f + k + 1) 0 := fun z k e => by rw [hval, hR, e]
  clear hval
  have hw0 : IntKind.i64.wrap ((i : Int) + 1) = ((i + 1 : Nat) : Int) := by rw [wi64 (by omega)]; omega
  refine AC.enter Tryd.func62 rfl (by kernel_rfl) 125 rfl [.tmp 2] rfl (by simp) fun hsc B => ?_
  repeat first | with_reducible refine AWP.seqJ (x := .seq (.region 2 _ _) _) ⟨[(0, .pointer (some ⟨r, 0, none⟩)), (3, .bool mi)], [], H.set r (rfO s f n 0 0)⟩ ?_ ?_ | with_reducible refine AWP.ctl (by constructor) ?_ | ((with_reducible (first | refine AWP.region ?_ ?_ | refine AWP.condT ?_ ?_)); exact rfl) | ((with_reducible refine AWP.condF ?_ ?_); exact rfl) | simp only [go_sem, sevalprocAttr, reduceCtorEq] | simp (disch := omega) only [wz] | with_reducible_and_instances exact finR | ((with_reducible refine finR' ?_ ?_) <;> rfl) | ((with_reducible refine finD hsc (NRel.of_plain ?_)); exact rfl)
  · cases hc0 : s[i]? with
    | none =>
      have hle : s.length ≤ i := by
        rcases Nat.lt_or_ge i s.length with h | h
        · rw [List.getElem?_eq_getElem h] at hc0; cases hc0
        · exact h
      have hN := rNextEnd s r i n 0 0 hs hle _ hr
      have hm : mi = false := by rw [← hmi, hc0]; rfl
      subst hm
      have hf' : f = i := hf
      subst hf'
      rw [hsame]
      repeat first | with_reducible refine AWP.ctl (by constructor) ?_ | ((with_reducible (first | refine AWP.region ?_ ?_ | refine AWP.condT ?_ ?_)); exact rfl) | ((with_reducible refine AWP.condF ?_ ?_); exact rfl) | with_reducible refine hN.use ?_ | simp only [go_sem, sevalprocAttr, reduceCtorEq, exists_eq_left] | simp (disch := omega) only [wz] | with_reducible_and_instances exact finR | ((with_reducible refine finR' ?_ ?_) <;> rfl) | ((with_reducible refine finD hsc (NRel.of_plain ?_)); exact rfl)
      exact Weak.env (by simp [envIn, lk_cons, wth_some])
    | some b0 =>
      have hN := rNext s r i n 0 0 b0 hs hc0 _ hr
      have h45' : ((b0.toNat : Int) == 45) = mi := by rw [← hmi, hc0]; exact u8b (n := 45) rfl
      cases mi with
      | true =>
        have hf' : f = i + 1 := hf
        subst hf'
        unfold rfO
        repeat first | with_reducible refine AWP.ctl (by constructor) ?_ | ((with_reducible (first | refine AWP.region ?_ ?_ | refine AWP.condT ?_ ?_)); exact rfl) | ((with_reducible refine AWP.condF ?_ ?_); exact rfl) | with_reducible refine hN.use ?_ | simp only [go_sem, sevalprocAttr, reduceCtorEq, h45', hr0, hrl, hw0, List.set_cons_succ, List.set_cons_zero, exists_eq_left] | simp (disch := omega) only [wz] | with_reducible_and_instances exact finR | ((with_reducible refine finR' ?_ ?_) <;> rfl) | ((with_reducible refine finD hsc (NRel.of_plain ?_)); exact rfl)
        exact Weak.env (by simp [envIn, lk_cons, wth_some])
      | false =>
        have hf' : f = i := hf
        subst hf'
        rw [hsame]
        repeat first | with_reducible refine AWP.ctl (by constructor) ?_ | ((with_reducible (first | refine AWP.region ?_ ?_ | refine AWP.condT ?_ ?_)); exact rfl) | ((with_reducible refine AWP.condF ?_ ?_); exact rfl) | with_reducible refine hN.use ?_ | simp only [go_sem, sevalprocAttr, reduceCtorEq, h45', exists_eq_left] | simp (disch := omega) only [wz] | with_reducible_and_instances exact finR | ((with_reducible refine finR' ?_ ?_) <;> rfl) | ((with_reducible refine finD hsc (NRel.of_plain ?_)); exact rfl)
        exact Weak.env (by simp [envIn, lk_cons, wth_some])
  repeat first | with_reducible refine AWP.ctl (by constructor) ?_ | ((with_reducible (first | refine AWP.region ?_ ?_ | refine AWP.condT ?_ ?_)); exact rfl) | ((with_reducible refine AWP.condF ?_ ?_); exact rfl) | simp only [go_sem, sevalprocAttr, reduceCtorEq] | simp (disch := omega) only [wz] | with_reducible_and_instances exact finR | ((with_reducible refine finR' ?_ ?_) <;> rfl) | ((with_reducible refine finD hsc (NRel.of_plain ?_)); exact rfl)
  refine AWP.loopP (fun st : NLq => ⟨[(0, .pointer (some ⟨r, 0, none⟩)), (3, .bool mi), (6, .int .i64 st.v), (7, .bool st.b)], [], H.set r (rfO s st.p n 0 0)⟩)
    (fun st => NumI s f mi R st.p st.m ∧ st.v = (if mi then st.m else -st.m) ∧ st.b = decide (st.p = f)) (fun st => s.length - st.p) ⟨f, 0, 0, true⟩ ?_ ⟨⟨Nat.le_refl _, hfl, ⟨by dsimp only; omega, by dsimp only; omega⟩, fun _ => by dsimp only; omega, fun _ => rfl, fun h => absurd h (Nat.lt_irrefl _), by rw [Nat.sub_self]; exact hR⟩, by cases mi <;> rfl, by dsimp only; rw [decide_eq_true rfl]⟩ ?_
  · exact Weak.env (by simp [envIn, lk_cons, wth_some])
  rintro ⟨p, m, v, b⟩ ⟨⟨h0, h1, ⟨h2, h3⟩, h4, h5, h6, h7⟩, hv, hb⟩
  dsimp only at h0 h1 h2 h3 h4 h5 h6 h7 hv hb ⊢
  have hg : (H.set r (rfO s p n 0 0))[r]? = some (rfO s p n 0 0) := List.getElem?_set_self hrl
  have hg0 := hg
  unfold rfO at hg0
  have hW := rWrong s r p n p 2 _ hg
  rw [List.set_set] at hW
  unfold rfO
  cases hc : s[p]? with
  | none =>
    have hle : s.length ≤ p := by
      rcases Nat.lt_or_ge p s.length with h | h
      · rw [List.getElem?_eq_getElem h] at hc; cases hc
      · exact h
    have hN := rNextEnd s r p n 0 0 hs hle _ hg
    rw [List.drop_eq_nil_of_le hle, numGo] at h7
    have hT := hTi (p - f) h7.symm
    have e : f + (p - f) = p := by omega
    rw [e] at hT
    unfold rfO at hN hW
    repeat first | with_reducible refine AWP.ctl (by constructor) ?_ | ((with_reducible (first | refine AWP.region ?_ ?_ | refine AWP.condT ?_ ?_)); exact rfl) | ((with_reducible refine AWP.condF ?_ ?_); exact rfl) | with_reducible refine hN.use ?_ | with_reducible refine hW.use ?_ | simp only [go_sem, sevalprocAttr, reduceCtorEq, hg0, hrl, exists_eq_left] | simp (disch := omega) only [wz] | with_reducible_and_instances exact finR | ((with_reducible refine finR' ?_ ?_) <;> rfl) | ((with_reducible refine finD hsc (NRel.of_plain ?_)); exact rfl)
    exact ⟨_, _, .refl _ _ _, by rw [hT]; exact ⟨rfl, _, rfl⟩⟩
  | some c =>
    have hlt := (List.getElem?_eq_some_iff.1 hc).1
    have hN := rNext s r p n 0 0 c hs hc _ hg
    have hD := rDigit c (H.set r (rfO s p n 0 0))
    have hd : s.drop p = c :: s.drop (p + 1) := by
      rw [List.drop_eq_getElem_cons hlt]
      rw [List.getElem?_eq_getElem hlt] at hc
      rw [Option.some.inj hc]
    rw [hd, numGo] at h7
    have h101' : ((c.toNat : Int) == 101) = (c == 101) := u8b (n := 101) rfl
    have h48' : ((c.toNat : Int) == 48) = (c == 48) := u8b (n := 48) rfl
    unfold rfO at hN hD hW
    have hw1 : IntKind.i64.wrap ((p : Int) + 1) = ((p + 1 : Nat) : Int) := by rw [wi64 (by omega)]; omega
    have hip : f + (p - f) = p := by omega
    have hbt : p = f → b = true := fun h => by rw [hb]; exact decide_eq_true h
    have hbf : p ≠ f → b = false := fun h => by rw [hb]; exact decide_eq_false h
    have hv0 : (v == 0) = decide (m = 0) := by
      rw [Bool.eq_iff_iff, hv]
      cases mi <;> simp
    by_cases hE : c = 101 ∧ 0 < p - f
    · rw [if_pos hE] at h7
      have e101 : ((c.toNat : Int) == 101) = true := by rw [h101', hE.1]; rfl
      have hT := hTr m (p - f) h7.symm
      rw [hip] at hT
      have hb1 := hbf (by omega)
      subst hb1
      rw [← hv] at hT
      repeat first | with_reducible refine AWP.ctl (by constructor) ?_ | ((with_reducible (first | refine AWP.region ?_ ?_ | refine AWP.condT ?_ ?_)); exact rfl) | ((with_reducible refine AWP.condF ?_ ?_); exact rfl) | with_reducible refine hN.use ?_ | simp only [go_sem, sevalprocAttr, reduceCtorEq, hg0, hrl, e101, hw1, hsets, List.set_set, List.length_set, List.set_cons_succ, List.set_cons_zero, exists_eq_left] | simp (disch := omega) only [wz] | with_reducible_and_instances exact finR | ((with_reducible refine finR' ?_ ?_) <;> rfl) | ((with_reducible refine finD hsc (NRel.of_plain ?_)); exact rfl)
      exact ⟨_, _, .refl _ _ _, by rw [hT]; exact ⟨rfl, rfl⟩⟩
    · rw [if_neg hE] at h7
      repeat first | with_reducible refine AWP.seqJ (x := .seq (.region 10 _ _) _) ⟨[(0, .pointer (some ⟨r, 0, none⟩)), (3, .bool mi), (6, .int .i64 v), (7, .bool b), (8, .int .u8 c.toNat), (9, .bool true)], [], H.set r (.cells [.string (bs s), .int .i64 (p : Nat), .int .i64 (n : Nat), .int .i64 0, .int .i64 0] ⟨54, 0, true, 0, none⟩)⟩ ?_ ?_ | with_reducible refine AWP.ctl (by constructor) ?_ | ((with_reducible (first | refine AWP.region ?_ ?_ | refine AWP.condT ?_ ?_)); exact rfl) | ((with_reducible refine AWP.condF ?_ ?_); exact rfl) | with_reducible refine hN.use ?_ | simp only [go_sem, sevalprocAttr, reduceCtorEq] | simp (disch := omega) only [wz] | with_reducible_and_instances exact finR | ((with_reducible refine finR' ?_ ?_) <;> rfl) | ((with_reducible refine finD hsc (NRel.of_plain ?_)); exact rfl)
      · by_cases c101 : c = 101
        · have e101 : ((c.toNat : Int) == 101) = true := by rw [h101', c101]; rfl
          have hb1 : b = true := hbt (by
            rcases Nat.lt_or_ge f p with h | h
            · exact absurd ⟨c101, by omega⟩ hE
            · omega)
          subst hb1
          repeat first | with_reducible refine AWP.ctl (by constructor) ?_ | ((with_reducible (first | refine AWP.region ?_ ?_ | refine AWP.condT ?_ ?_)); exact rfl) | ((with_reducible refine AWP.condF ?_ ?_); exact rfl) | simp only [go_sem, sevalprocAttr, reduceCtorEq, e101, exists_eq_left] | simp (disch := omega) only [wz] | with_reducible_and_instances exact finR | ((with_reducible refine finR' ?_ ?_) <;> rfl) | ((with_reducible refine finD hsc (NRel.of_plain ?_)); exact rfl)
          exact Weak.env (by simp [envIn, lk_cons, wth_some])
        · have e101 : ((c.toNat : Int) == 101) = false := by rw [h101']; simpa using c101
          repeat first | with_reducible refine AWP.ctl (by constructor) ?_ | ((with_reducible (first | refine AWP.region ?_ ?_ | refine AWP.condT ?_ ?_)); exact rfl) | ((with_reducible refine AWP.condF ?_ ?_); exact rfl) | simp only [go_sem, sevalprocAttr, reduceCtorEq, e101, exists_eq_left] | simp (disch := omega) only [wz] | with_reducible_and_instances exact finR | ((with_reducible refine finR' ?_ ?_) <;> rfl) | ((with_reducible refine finD hsc (NRel.of_plain ?_)); exact rfl)
          exact Weak.env (by simp [envIn, lk_cons, wth_some])
      by_cases hbad : dig c = false ∨ (0 < p - f ∧ m = 0) ∨ (p - f = 0 ∧ mi = true ∧ c = 48)
      · rw [if_pos hbad] at h7
        have hT := hTi _ h7.symm
        rw [hip] at hT
        cases hdig : dig c with
        | false =>
          rw [hdig] at hD
          repeat first | with_reducible refine AWP.ctl (by constructor) ?_ | ((with_reducible (first | refine AWP.region ?_ ?_ | refine AWP.condT ?_ ?_)); exact rfl) | ((with_reducible refine AWP.condF ?_ ?_); exact rfl) | with_reducible refine hD.use ?_ | with_reducible refine hW.use ?_ | simp only [go_sem, sevalprocAttr, reduceCtorEq, hg0, hrl, exists_eq_left] | simp (disch := omega) only [wz] | with_reducible_and_instances exact finR | ((with_reducible refine finR' ?_ ?_) <;> rfl) | ((with_reducible refine finD hsc (NRel.of_plain ?_)); exact rfl)
          exact ⟨_, _, .refl _ _ _, by rw [hT]; exact ⟨rfl, _, rfl⟩⟩
        | true =>
          rw [hdig] at hD
          rcases hbad with h | ⟨hk, hm⟩ | ⟨hk, hm, hc48⟩
          · rw [hdig] at h; cases h
          · have hb1 := hbf (by omega)
            subst hb1
            have hv1 : (v == 0) = true := by rw [hv0]; exact decide_eq_true hm
            repeat first | with_reducible refine AWP.ctl (by constructor) ?_ | ((with_reducible (first | refine AWP.region ?_ ?_ | refine AWP.condT ?_ ?_)); exact rfl) | ((with_reducible refine AWP.condF ?_ ?_); exact rfl) | with_reducible refine hD.use ?_ | with_reducible refine hW.use ?_ | simp only [go_sem, sevalprocAttr, reduceCtorEq, hg0, hrl, hv1, exists_eq_left] | simp (disch := omega) only [wz] | with_reducible_and_instances exact finR | ((with_reducible refine finR' ?_ ?_) <;> rfl) | ((with_reducible refine finD hsc (NRel.of_plain ?_)); exact rfl)
            exact ⟨_, _, .refl _ _ _, by rw [hT]; exact ⟨rfl, _, rfl⟩⟩
          · have hb1 := hbt (by omega)
            subst hb1
            have e48 : ((c.toNat : Int) == 48) = true := by rw [h48', hc48]; rfl
            repeat first | with_reducible refine AWP.ctl (by constructor) ?_ | ((with_reducible (first | refine AWP.region ?_ ?_ | refine AWP.condT ?_ ?_)); exact rfl) | ((with_reducible refine AWP.condF ?_ ?_); exact rfl) | with_reducible refine hD.use ?_ | with_reducible refine hW.use ?_ | simp only [go_sem, sevalprocAttr, reduceCtorEq, hg0, hrl, hm, e48, exists_eq_left] | simp (disch := omega) only [wz] | with_reducible_and_instances exact finR | ((with_reducible refine finR' ?_ ?_) <;> rfl) | ((with_reducible refine finD hsc (NRel.of_plain ?_)); exact rfl)
            exact ⟨_, _, .refl _ _ _, by rw [hT]; exact ⟨rfl, _, rfl⟩⟩
      rw [if_neg hbad] at h7
      have hdig : dig c = true := by
        cases h : dig c with
        | true => rfl
        | false => exact absurd (.inl h) hbad
      rw [hdig] at hD
      repeat first | with_reducible refine AWP.seqJ (x := .seq (.region 13 _ _) _) ⟨[(0, .pointer (some ⟨r, 0, none⟩)), (3, .bool mi), (6, .int .i64 v), (7, .bool b), (8, .int .u8 c.toNat), (9, .bool true)], [], H.set r (.cells [.string (bs s), .int .i64 (p : Nat), .int .i64 (n : Nat), .int .i64 0, .int .i64 0] ⟨54, 0, true, 0, none⟩)⟩ ?_ ?_ | with_reducible refine AWP.ctl (by constructor) ?_ | ((with_reducible (first | refine AWP.region ?_ ?_ | refine AWP.condT ?_ ?_)); exact rfl) | ((with_reducible refine AWP.condF ?_ ?_); exact rfl) | simp only [go_sem, sevalprocAttr, reduceCtorEq] | simp (disch := omega) only [wz] | with_reducible_and_instances exact finR | ((with_reducible refine finR' ?_ ?_) <;> rfl) | ((with_reducible refine finD hsc (NRel.of_plain ?_)); exact rfl)
      · by_cases hpf : p = f
        · have hb1 := hbt hpf
          subst hb1
          cases hm : mi with
          | true =>
            have e48 : ((c.toNat : Int) == 48) = false := by
              rw [h48']
              simpa using fun h => hbad (.inr (.inr ⟨by omega, hm, h⟩))
            repeat first | with_reducible refine AWP.ctl (by constructor) ?_ | ((with_reducible (first | refine AWP.region ?_ ?_ | refine AWP.condT ?_ ?_)); exact rfl) | ((with_reducible refine AWP.condF ?_ ?_); exact rfl) | with_reducible refine hD.use ?_ | simp only [go_sem, sevalprocAttr, reduceCtorEq, e48, exists_eq_left] | simp (disch := omega) only [wz] | with_reducible_and_instances exact finR | ((with_reducible refine finR' ?_ ?_) <;> rfl) | ((with_reducible refine finD hsc (NRel.of_plain ?_)); exact rfl)
            exact Weak.env (by simp [envIn, lk_cons, wth_some])
          | false =>
            repeat first | with_reducible refine AWP.ctl (by constructor) ?_ | ((with_reducible (first | refine AWP.region ?_ ?_ | refine AWP.condT ?_ ?_)); exact rfl) | ((with_reducible refine AWP.condF ?_ ?_); exact rfl) | with_reducible refine hD.use ?_ | simp only [go_sem, sevalprocAttr, reduceCtorEq, exists_eq_left] | simp (disch := omega) only [wz] | with_reducible_and_instances exact finR | ((with_reducible refine finR' ?_ ?_) <;> rfl) | ((with_reducible refine finD hsc (NRel.of_plain ?_)); exact rfl)
            exact Weak.env (by simp [envIn, lk_cons, wth_some])
        · have hb1 := hbf hpf
          subst hb1
          have hv1 : (v == 0) = false := by rw [hv0]; exact decide_eq_false fun h => hbad (.inr (.inl ⟨by omega, h⟩))
          repeat first | with_reducible refine AWP.ctl (by constructor) ?_ | ((with_reducible (first | refine AWP.region ?_ ?_ | refine AWP.condT ?_ ?_)); exact rfl) | ((with_reducible refine AWP.condF ?_ ?_); exact rfl) | with_reducible refine hD.use ?_ | simp only [go_sem, sevalprocAttr, reduceCtorEq, hv1, exists_eq_left] | simp (disch := omega) only [wz] | with_reducible_and_instances exact finR | ((with_reducible refine finR' ?_ ?_) <;> rfl) | ((with_reducible refine finD hsc (NRel.of_plain ?_)); exact rfl)
          exact Weak.env (by simp [envIn, lk_cons, wth_some])
      have hdg := of_dig hdig
      obtain ⟨d, hdd⟩ : ∃ d : Nat, d = c.toNat - 48 := ⟨_, rfl⟩
      have hcd : (c.toNat : Int) - 48 = (d : Int) := by omega
      have hu8 : IntKind.u8.wrap ((c.toNat : Int) - 48) = (d : Int) := by rw [wu8 (by omega)]; omega
      have hd64 : IntKind.i64.wrap (d : Int) = (d : Int) := wi64 (by omega)
      rw [hcd] at h7
      have hwd : IntKind.i64.wrap (-9223372036854775808 + (d : Int)) = -9223372036854775808 + (d : Int) := wi64 (by omega)
      have hwd2 : IntKind.i64.wrap (9223372036854775807 - (d : Int)) = 9223372036854775807 - (d : Int) := wi64 (by omega)
      obtain ⟨q, hq⟩ : ∃ q, Int.tdiv (-9223372036854775808 + (d : Int)) 10 = q := ⟨_, rfl⟩
      have hqb := tdiv_neg (a := -9223372036854775808 + (d : Int)) (by omega)
      rw [hq] at hqb
      obtain ⟨q2, hq2⟩ : ∃ q2, Int.tdiv (9223372036854775807 - (d : Int)) 10 = q2 := ⟨_, rfl⟩
      have hqb2 : 10 * q2 ≤ 9223372036854775807 - (d : Int) ∧ 9223372036854775807 - (d : Int) < 10 * q2 + 10 := by
        rw [← hq2, Int.tdiv_eq_ediv_of_nonneg (by omega)]; omega
      have hq2' : Int.ediv (9223372036854775807 - (d : Int)) 10 = q2 := by rw [← hq2, Int.tdiv_eq_ediv_of_nonneg (by omega)]; rfl
      have hq2'' : (9223372036854775807 - (d : Int)) / 10 = q2 := hq2'
      by_cases hov : 10 * m - (d : Int) < -9223372036854775808 ∨ (mi = false ∧ 10 * m - (d : Int) = -9223372036854775808)
      · rw [if_pos hov] at h7
        have hT := hTi _ h7.symm
        rw [hip] at hT
        cases hm : mi with
        | true =>
          rw [hm] at hv hov
          have hv' : v = m := hv
          subst hv'
          have hlt' : v < q := by
            rcases hov with h | ⟨h, _⟩
            · omega
            · cases h
          repeat first | with_reducible refine AWP.ctl (by constructor) ?_ | ((with_reducible (first | refine AWP.region ?_ ?_ | refine AWP.condT ?_ ?_)); exact rfl) | ((with_reducible refine AWP.condF ?_ ?_); exact rfl) | with_reducible refine hW.use ?_ | simp only [go_sem, sevalprocAttr, reduceCtorEq, hg0, hrl, hu8, hd64, hwd, hq, hlt', exists_eq_left] | simp (disch := omega) only [wz] | with_reducible_and_instances exact finR | ((with_reducible refine finR' ?_ ?_) <;> rfl) | ((with_reducible refine finD hsc (NRel.of_plain ?_)); exact rfl)
          exact ⟨_, _, .refl _ _ _, by rw [hT]; exact ⟨rfl, _, rfl⟩⟩
        | false =>
          rw [hm] at hv hov
          have hv' : v = -m := hv
          have hlt' : v > q2 := by
            rcases hov with h | ⟨_, h⟩
            · omega
            · omega
          repeat first | with_reducible refine AWP.ctl (by constructor) ?_ | ((with_reducible (first | refine AWP.region ?_ ?_ | refine AWP.condT ?_ ?_)); exact rfl) | ((with_reducible refine AWP.condF ?_ ?_); exact rfl) | with_reducible refine hW.use ?_ | simp only [go_sem, sevalprocAttr, reduceCtorEq, hg0, hrl, hu8, hd64, hwd2, hq2, hq2'', hlt', exists_eq_left] | simp (disch := omega) only [wz] | with_reducible_and_instances exact finR | ((with_reducible refine finR' ?_ ?_) <;> rfl) | ((with_reducible refine finD hsc (NRel.of_plain ?_)); exact rfl)
          exact ⟨_, _, .refl _ _ _, by rw [hT]; exact ⟨rfl, _, rfl⟩⟩
      · rw [if_neg hov] at h7
        obtain ⟨m2, hm2⟩ : ∃ m2, 10 * m - (d : Int) = m2 := ⟨_, rfl⟩
        rw [hm2] at h7 hov
        have hn4 : mi = false → -9223372036854775807 ≤ m2 := fun h => by
          have : m2 ≠ -9223372036854775808 := fun e => hov (.inr ⟨h, e⟩)
          omega
        have hge : -9223372036854775808 ≤ m2 := by omega
        have hn6 : f < p + 1 → (m2 = 0 ↔ p + 1 = f + 1 ∧ s[f]? = some 48) := fun _ => by
          by_cases hpf : p = f
          · have hm0 := h5 hpf
            subst hpf
            rw [hc]
            constructor
            · intro e
              have : c.toNat = 48 := by omega
              exact ⟨rfl, by rw [UInt8.toNat_inj.1 (show c.toNat = (48 : UInt8).toNat from this)]⟩
            · rintro ⟨_, e⟩
              have := Option.some.inj e
              subst this
              have h48 : (48 : UInt8).toNat = 48 := rfl
              omega
          · have hm0 : m ≠ 0 := fun e => hbad (.inr (.inl ⟨by omega, e⟩))
            constructor
            · intro e; omega
            · rintro ⟨e, _⟩; omega
        have hn7 : numGo mi (p + 1 - f) m2 (s.drop (p + 1)) = R := by rw [← h7]; congr 1; omega
        have hfin : (p + 1 = f) = False := by simp; omega
        cases hm : mi with
        | true =>
          rw [hm] at hv hov hn4 hn7
          have hv' : v = m := hv
          subst hv'
          have hlt' : ¬ v < q := by omega
          have hm10 : IntKind.i64.wrap (v * 10) = 10 * v := by rw [wi64 (by omega)]; omega
          have hmd : IntKind.i64.wrap (10 * v - (d : Int)) = m2 := by rw [wi64 (by omega)]; omega
          repeat first | with_reducible refine AWP.ctl (by constructor) ?_ | ((with_reducible (first | refine AWP.region ?_ ?_ | refine AWP.condT ?_ ?_)); exact rfl) | ((with_reducible refine AWP.condF ?_ ?_); exact rfl) | simp only [go_sem, sevalprocAttr, reduceCtorEq, hg0, hrl, hu8, hd64, hwd, hq, hlt', hm10, hmd, hw1, hsets, List.set_set, List.length_set, List.set_cons_succ, List.set_cons_zero, exists_eq_left] | simp (disch := omega) only [wz] | with_reducible_and_instances exact finR | ((with_reducible refine finR' ?_ ?_) <;> rfl) | ((with_reducible refine finD hsc (NRel.of_plain ?_)); exact rfl)
          exact ⟨⟨p + 1, m2, m2, false⟩, Weak.env (by simp [envIn, lk_cons, wth_some]), ⟨by dsimp only; omega, by dsimp only; omega, ⟨by dsimp only; omega, by dsimp only; omega⟩, hn4, fun h => by dsimp only at h; omega, hn6, hn7⟩, rfl, by dsimp only; simp; omega, by dsimp only; omega⟩
        | false =>
          rw [hm] at hv hov hn4 hn7
          have hv' : v = -m := hv
          have hn4' := hn4 rfl
          have hlt' : ¬ v > q2 := by omega
          have hm10 : IntKind.i64.wrap (v * 10) = 10 * v := by rw [wi64 (by omega)]; omega
          have hmd : IntKind.i64.wrap (10 * v + (d : Int)) = -m2 := by rw [wi64 (by omega)]; omega
          repeat first | with_reducible refine AWP.ctl (by constructor) ?_ | ((with_reducible (first | refine AWP.region ?_ ?_ | refine AWP.condT ?_ ?_)); exact rfl) | ((with_reducible refine AWP.condF ?_ ?_); exact rfl) | simp only [go_sem, sevalprocAttr, reduceCtorEq, hg0, hrl, hu8, hd64, hwd2, hq2, hq2'', hlt', hm10, hmd, hw1, hsets, List.set_set, List.length_set, List.set_cons_succ, List.set_cons_zero, exists_eq_left] | simp (disch := omega) only [wz] | with_reducible_and_instances exact finR | ((with_reducible refine finR' ?_ ?_) <;> rfl) | ((with_reducible refine finD hsc (NRel.of_plain ?_)); exact rfl)
          exact ⟨⟨p + 1, m2, -m2, false⟩, Weak.env (by simp [envIn, lk_cons, wth_some]), ⟨by dsimp only; omega, by dsimp only; omega, ⟨by dsimp only; omega, by dsimp only; omega⟩, hn4, fun h => by dsimp only at h; omega, hn6, hn7⟩, rfl, by dsimp only; simp; omega, by dsimp only; omega⟩
end Go.Proofs.YthcdjconlfdidaaDoor

