/-
  The walk of slices.BinarySearch over texts that ascend.
-/
import Derived.Test.YthcdjconlfdidaaDoorDRM
set_option linter.unusedVariables false
set_option linter.unusedSimpArgs false
set_option maxHeartbeats 4000000
set_option maxRecDepth 20000
namespace Go.Proofs.YthcdjconlfdidaaDoor
open Go Go.Aw Go.Proofs
theorem lt_trans : ∀ (x y z : Tx), Op.bytesLess x y = true → Op.bytesLess y z = true → Op.bytesLess x z = true
  | _, [], _, h, _ => by simp [Op.bytesLess] at h
  | _, _ :: _, [], _, h => by simp [Op.bytesLess] at h
  | [], _ :: _, _ :: _, _, _ => rfl
  | a :: x, b :: y, c :: z, h, h2 => by
    simp only [Op.bytesLess, Bool.or_eq_true, decide_eq_true_eq, Bool.and_eq_true, beq_iff_eq] at h h2 ⊢
    rcases h with h | ⟨rfl, h⟩
    · rcases h2 with h2 | ⟨rfl, h2⟩
      · exact .inl (UInt8.lt_trans h h2)
      · exact .inl h
    · rcases h2 with h2 | ⟨rfl, h2⟩
      · exact .inl h2
      · exact .inr ⟨rfl, lt_trans x y z h h2⟩
theorem asc_at {l : List Tx} (h : BV.asc l = true) : ∀ (i j : Nat) (x y : Tx), i < j → l[i]? = some x → l[j]? = some y → Op.bytesLess x y = true := by
  have h2 := ((ascF_iff l none).1 h).2
  intro i j
  induction j with
  | zero => intro x y hij; omega
  | succ j ih =>
    intro x y hij hx hy
    have hjl : j + 1 < l.length := (List.getElem?_eq_some_iff.1 hy).1
    have hz : l[j]? = some l[j] := List.getElem?_eq_getElem (by omega)
    have hzy := h2 j _ _ hz hy
    rcases Nat.lt_or_ge i j with h3 | h3
    · exact lt_trans _ _ _ (ih x _ h3 hx hz) hzy
    · obtain rfl : i = j := by omega
      rw [hx] at hz
      cases hz
      exact hzy
/-- Where a text stands or would stand. -/
structure Low (l : List Tx) (t : Tx) (i : Nat) : Prop where
  le : i ≤ l.length
  lo : ∀ j x, j < i → l[j]? = some x → Op.bytesLess x t = true
  hi : ∀ j x, i ≤ j → l[j]? = some x → Op.bytesLess x t = false
theorem Low.uniq {l : List Tx} {t : Tx} {i j : Nat} (h : Low l t i) (k : Low l t j) : i = j := by
  rcases Nat.lt_trichotomy i j with hlt | rfl | hlt
  · have hil : i < l.length := Nat.lt_of_lt_of_le hlt k.le
    have e := List.getElem?_eq_getElem hil
    have h1 := k.lo i _ hlt e
    rw [h.hi i _ (Nat.le_refl _) e] at h1
    cases h1
  · rfl
  · have hil : j < l.length := Nat.lt_of_lt_of_le hlt h.le
    have e := List.getElem?_eq_getElem hil
    have h1 := h.lo j _ hlt e
    rw [k.hi j _ (Nat.le_refl _) e] at h1
    cases h1
theorem low_ex (l : List Tx) (t : Tx) (hasc : BV.asc l = true) : ∃ i, Low l t i := by
  have key : ∀ k, k ≤ l.length → (∀ j x, j < k → l[j]? = some x → Op.bytesLess x t = true) ∨ ∃ i y, i < k ∧ (∀ j x, j < i → l[j]? = some x → Op.bytesLess x t = true) ∧ l[i]? = some y ∧ Op.bytesLess y t = false := by
    intro k
    induction k with
    | zero => intro _; exact .inl fun j x hj => absurd hj (Nat.not_lt_zero _)
    | succ k ih =>
      intro hk
      rcases ih (by omega) with h | ⟨i, y, h1, h2⟩
      · have e := List.getElem?_eq_getElem (show k < l.length by omega)
        cases hb : Op.bytesLess l[k] t with
        | true =>
          refine .inl fun j x hj hx => ?_
          rcases Nat.lt_or_ge j k with h3 | h3
          · exact h j x h3 hx
          · obtain rfl : j = k := by omega
            rw [e] at hx; cases hx; exact hb
        | false => exact .inr ⟨k, _, by omega, h, e, hb⟩
      · exact .inr ⟨i, y, by omega, h2⟩
  rcases key l.length (Nat.le_refl _) with h | ⟨i, y, h1, h2, h3, h4⟩
  · refine ⟨l.length, Nat.le_refl _, h, fun j x hj hx => ?_⟩
    have := (List.getElem?_eq_some_iff.1 hx).1
    omega
  · refine ⟨i, by omega, h2, fun j x hj hx => ?_⟩
    rcases Nat.lt_or_ge i j with h5 | h5
    · cases hb : Op.bytesLess x t with
      | false => rfl
      | true => rw [lt_trans _ _ _ (asc_at hasc i j _ _ h5 h3 hx) hb] at h4; cases h4
    · obtain rfl : j = i := by omega
      rw [h3] at hx; cases hx; exact h4
theorem half (n : Nat) (h : n < 9223372036854775808) : IntKind.i64.wrap (shrI .u64 ((n : Nat) : Int) 1) = ((n / 2 : Nat) : Int) := by
  have e : shrI .u64 ((n : Nat) : Int) 1 = ((n / 2 : Nat) : Int) := by
    exact shrI_n .u64 n 1 (by decide)
  rw [e, wi64 (by omega)]
theorem isNaN2 (a : List UInt8) (H : AHeap) : ARet Tryd.prog 75 [.string (bs a)] H (.bool false) H := by
  refine AC.enter Tryd.func75 rfl (by kernel_rfl) 6 rfl [.tmp 2] rfl (by simp) fun hsc B => ?_
  repeat first
    | with_reducible (first | refine AWP.seq ?_ | refine AWP.block ?_ | refine AWP.skip ?_ | refine AWP.exit ?_ | refine AWP.ret ?_ | refine AWP.label ?_ | refine AWP.goto ?_)
    | ((with_reducible (first | refine AWP.region ?_ ?_ | refine AWP.condT ?_ ?_)); exact rfl)
    | ((with_reducible refine AWP.condF ?_ ?_); exact rfl)
    | simp only [go_sem, sevalprocAttr, reduceCtorEq]
    | simp (disch := omega) only [wi64, wu8, wu16, wu32, wu64]
    | with_reducible_and_instances exact finR
    | ((with_reducible refine finR' ?_ ?_) <;> rfl)
    | ((with_reducible refine finD hsc (NRel.of_plain ?_)); exact rfl)
theorem BSearch (l : List Tx) (t : Tx) (hl : l.length ≤ 1099511627776) (hasc : BV.asc l = true) (v : Value) (H : AHeap) (hv : RdK H 1 v (keyC l)) :
    ∃ i, Low l t i ∧ ARet Tryd.prog 46 [v, .string (bs t)] H (.tuple ⟨[.int .i64 (i : Nat), .bool (decide (l[i]? = some t))]⟩) H := by
  obtain ⟨N, hN⟩ : ∃ N, N = l.length := ⟨_, rfl⟩
  have key : AC Tryd.prog 46 [v, .string (bs t)] H (fun r H1 => ∃ i, Low l t i ∧ r = .ret (.tuple ⟨[.int .i64 (i : Nat), .bool (decide (l[i]? = some t))]⟩) ∧ H1 = H) := by
    have hkl : (keyC l).length = l.length := by unfold keyC; simp
    have q1 : ∀ H' K, lenW Tryd.prog 24 v H' K = K (.int .i64 (N : Nat)) H' := fun H' K => by rw [hv.lenT (by simp only [go_sem, sevalprocAttr, reduceCtorEq]), hkl, hN]
    have hat : ∀ (j : Nat) (h : j < l.length), ∃ bi off cap cs k, v = .slice (some ⟨bi, off, none⟩) l.length cap ∧ H[bi]? = some (.cells cs k) ∧ cs[off + j]? = some (.string (bs l[j])) := fun j h => by
      obtain ⟨bi, off, cap, cs, k, e1, e2, e3, -, -, e4, e5⟩ := hv.at_ (keyC_at h)
      rw [hkl] at e1
      refine ⟨bi, off, cap, cs, k, e1, e3, ?_⟩
      have h1 := congrArg (fun l => l[0]?) e5
      simpa using h1
    refine AC.enter Tryd.func46 rfl (by kernel_rfl) 54 rfl [.tmp 4, .tmp 5] rfl (by simp) fun hsc B => ?_
    repeat first
      | with_reducible (first | refine AWP.seq ?_ | refine AWP.block ?_ | refine AWP.skip ?_ | refine AWP.exit ?_ | refine AWP.ret ?_ | refine AWP.label ?_ | refine AWP.goto ?_)
      | ((with_reducible (first | refine AWP.region ?_ ?_ | refine AWP.condT ?_ ?_)); exact rfl)
      | ((with_reducible refine AWP.condF ?_ ?_); exact rfl)
      | simp only [go_sem, sevalprocAttr, reduceCtorEq, q1]
      | simp (disch := omega) only [wi64, wu8, wu16, wu32, wu64]
      | with_reducible_and_instances exact finR
      | ((with_reducible refine finR' ?_ ?_) <;> rfl)
      | ((with_reducible refine finD hsc (NRel.of_plain ?_)); exact rfl)
    refine AWP.loopP (fun s : Nat × Nat => ⟨[(0, v), (1, .string (bs t)), (6, .int .i64 (N : Nat)), (7, .int .i64 (s.1 : Nat)), (8, .int .i64 (s.2 : Nat))], [], H⟩)
      (fun s => s.1 ≤ s.2 ∧ s.2 ≤ N ∧ (∀ j x, j < s.1 → l[j]? = some x → Op.bytesLess x t = true) ∧ (∀ j x, s.2 ≤ j → l[j]? = some x → Op.bytesLess x t = false)) (fun s => s.2 - s.1) (0, N) ?_ ⟨Nat.zero_le _, Nat.le_refl _, fun j x hj => absurd hj (Nat.not_lt_zero _), fun j x hj hx => ?_⟩ ?_
    · exact Weak.env (by simp [envIn, lk_cons, wth_some])
    · have := (List.getElem?_eq_some_iff.1 hx).1
      dsimp only at hj; omega
    rintro ⟨i, j⟩ ⟨g1, g2, g3, g4⟩
    simp only at g1 g2 g3 g4 ⊢
    by_cases hc : i < j
    · have hc' : (i : Int) < (j : Int) := by omega
      have hwij : IntKind.i64.wrap ((i : Int) + (j : Int)) = ((i + j : Nat) : Int) := by rw [wi64 (by omega)]; omega
      have hu : IntKind.u64.wrap ((i + j : Nat) : Int) = ((i + j : Nat) : Int) := wu64 (by omega)
      have hh := half (i + j) (by omega)
      obtain ⟨h, hhe⟩ : ∃ h, h = (i + j) / 2 := ⟨_, rfl⟩
      rw [← hhe] at hh
      have hhl : h < l.length := by omega
      obtain ⟨bi, off, cap, cs, k, rfl, hbi, hcs⟩ := hat h hhl
      have hx0 : (0 : Int) ≤ (h : Int) := Int.natCast_nonneg _
      have hx2 : (h : Int) < (l.length : Int) := by omega
      have hwh : IntKind.i64.wrap ((h : Int) + 1) = ((h + 1 : Nat) : Int) := by rw [wi64 (by omega)]; omega
      have el : l[h]? = some l[h] := List.getElem?_eq_getElem hhl
      have hL := Less l[h] t H
      cases hcmp : Op.bytesLess l[h] t with
      | true =>
        rw [hcmp] at hL
        have hnew : ∀ j' x, j' < h + 1 → l[j']? = some x → Op.bytesLess x t = true := fun j' x hj hx => by
          rcases Nat.lt_or_ge j' h with h3 | h3
          · exact lt_trans _ _ _ (asc_at hasc j' h _ _ h3 hx el) hcmp
          · obtain rfl : j' = h := by omega
            rw [el] at hx; cases hx; exact hcmp
        generalize l[h] = y at *
        repeat first
          | with_reducible (first | refine AWP.seq ?_ | refine AWP.block ?_ | refine AWP.skip ?_ | refine AWP.exit ?_ | refine AWP.ret ?_ | refine AWP.label ?_ | refine AWP.goto ?_)
          | ((with_reducible (first | refine AWP.region ?_ ?_ | refine AWP.condT ?_ ?_)); exact rfl)
          | ((with_reducible refine AWP.condF ?_ ?_); exact rfl)
          | with_reducible refine hL.use ?_
          | simp only [go_sem, sevalprocAttr, reduceCtorEq, hc', hwij, hu, hh, hbi, hcs, hx0, hx2, hwh]
          | simp (disch := omega) only [wi64, wu8, wu16, wu32, wu64]
          | with_reducible_and_instances exact finR
          | ((with_reducible refine finR' ?_ ?_) <;> rfl)
          | ((with_reducible refine finD hsc (NRel.of_plain ?_)); exact rfl)
        exact ⟨(h + 1, j), Weak.env (by simp [envIn, lk_cons, wth_some]), by dsimp only; omega, by dsimp only; omega, hnew, g4, by dsimp only; omega⟩
      | false =>
        rw [hcmp] at hL
        have hnew : ∀ j' x, h ≤ j' → l[j']? = some x → Op.bytesLess x t = false := fun j' x hj hx => by
          rcases Nat.lt_or_ge h j' with h3 | h3
          · cases hb : Op.bytesLess x t with
            | false => rfl
            | true => rw [lt_trans _ _ _ (asc_at hasc h j' _ _ h3 el hx) hb] at hcmp; cases hcmp
          · obtain rfl : j' = h := by omega
            rw [el] at hx; cases hx; exact hcmp
        generalize l[h] = y at *
        repeat first
          | with_reducible (first | refine AWP.seq ?_ | refine AWP.block ?_ | refine AWP.skip ?_ | refine AWP.exit ?_ | refine AWP.ret ?_ | refine AWP.label ?_ | refine AWP.goto ?_)
          | ((with_reducible (first | refine AWP.region ?_ ?_ | refine AWP.condT ?_ ?_)); exact rfl)
          | ((with_reducible refine AWP.condF ?_ ?_); exact rfl)
          | with_reducible refine hL.use ?_
          | simp only [go_sem, sevalprocAttr, reduceCtorEq, hc', hwij, hu, hh, hbi, hcs, hx0, hx2, hwh]
          | simp (disch := omega) only [wi64, wu8, wu16, wu32, wu64]
          | with_reducible_and_instances exact finR
          | ((with_reducible refine finR' ?_ ?_) <;> rfl)
          | ((with_reducible refine finD hsc (NRel.of_plain ?_)); exact rfl)
        exact ⟨(i, h), Weak.env (by simp [envIn, lk_cons, wth_some]), by dsimp only; omega, by dsimp only; omega, g3, hnew, by dsimp only; omega⟩
    · have hc' : ¬ (i : Int) < (j : Int) := by omega
      obtain rfl : i = j := by omega
      have hlow : Low l t i := ⟨by omega, g3, g4⟩
      by_cases hi : i < N
      · have hi' : (i : Int) < (N : Int) := by omega
        have hil : i < l.length := by omega
        obtain ⟨bi, off, cap, cs, k, rfl, hbi, hcs⟩ := hat i hil
        have hx0 : (0 : Int) ≤ (i : Int) := Int.natCast_nonneg _
        have hx2 : (i : Int) < (l.length : Int) := by omega
        have el : l[i]? = some l[i] := List.getElem?_eq_getElem hil
        have hn1 := isNaN2 l[i] H
        have hn2 := isNaN2 t H
        have hdec : decide (l[i]? = some t) = (l[i] == t) := by
          rw [el, Bool.eq_iff_iff]; simp
        rw [← hN] at *
        generalize l[i] = y at *
        cases he : (y == t) with
        | true =>
          rw [he] at hdec
          repeat first
            | with_reducible (first | refine AWP.seq ?_ | refine AWP.block ?_ | refine AWP.skip ?_ | refine AWP.exit ?_ | refine AWP.ret ?_ | refine AWP.label ?_ | refine AWP.goto ?_)
            | ((with_reducible (first | refine AWP.region ?_ ?_ | refine AWP.condT ?_ ?_)); exact rfl)
            | ((with_reducible refine AWP.condF ?_ ?_); exact rfl)
            | with_reducible refine hn1.use ?_
            | with_reducible refine hn2.use ?_
            | simp only [go_sem, sevalprocAttr, reduceCtorEq, hc', hi', hbi, hcs, hx0, hx2, he, exists_eq_left]
            | simp (disch := omega) only [wi64, wu8, wu16, wu32, wu64]
            | with_reducible_and_instances exact finR
            | ((with_reducible refine finR' ?_ ?_) <;> rfl)
            | ((with_reducible refine finD hsc (NRel.of_plain ?_)); exact rfl)
          exact ⟨_, _, .refl _ _ _, i, hlow, by rw [hdec], rfl⟩
        | false =>
          rw [he] at hdec
          repeat first
            | with_reducible (first | refine AWP.seq ?_ | refine AWP.block ?_ | refine AWP.skip ?_ | refine AWP.exit ?_ | refine AWP.ret ?_ | refine AWP.label ?_ | refine AWP.goto ?_)
            | ((with_reducible (first | refine AWP.region ?_ ?_ | refine AWP.condT ?_ ?_)); exact rfl)
            | ((with_reducible refine AWP.condF ?_ ?_); exact rfl)
            | with_reducible refine hn1.use ?_
            | with_reducible refine hn2.use ?_
            | simp only [go_sem, sevalprocAttr, reduceCtorEq, hc', hi', hbi, hcs, hx0, hx2, he, exists_eq_left]
            | simp (disch := omega) only [wi64, wu8, wu16, wu32, wu64]
            | with_reducible_and_instances exact finR
            | ((with_reducible refine finR' ?_ ?_) <;> rfl)
            | ((with_reducible refine finD hsc (NRel.of_plain ?_)); exact rfl)
          exact ⟨_, _, .refl _ _ _, i, hlow, by rw [hdec], rfl⟩
      · have hi' : ¬ (i : Int) < (N : Int) := by omega
        have hdec : decide (l[i]? = some t) = false := by
          rw [List.getElem?_eq_none (by omega)]; rfl
        repeat first
          | with_reducible (first | refine AWP.seq ?_ | refine AWP.block ?_ | refine AWP.skip ?_ | refine AWP.exit ?_ | refine AWP.ret ?_ | refine AWP.label ?_ | refine AWP.goto ?_)
          | ((with_reducible (first | refine AWP.region ?_ ?_ | refine AWP.condT ?_ ?_)); exact rfl)
          | ((with_reducible refine AWP.condF ?_ ?_); exact rfl)
          | simp only [go_sem, sevalprocAttr, reduceCtorEq, hc', hi', exists_eq_left]
          | simp (disch := omega) only [wi64, wu8, wu16, wu32, wu64]
          | with_reducible_and_instances exact finR
          | ((with_reducible refine finR' ?_ ?_) <;> rfl)
          | ((with_reducible refine finD hsc (NRel.of_plain ?_)); exact rfl)
        exact ⟨_, _, .refl _ _ _, i, hlow, by rw [hdec], rfl⟩
  obtain ⟨i, hi⟩ := low_ex l t hasc
  exact ⟨i, hi, key.mono fun r H1 ⟨i', h1, h2, h3⟩ => by rw [h1.uniq hi] at h2; exact ⟨h2, h3⟩⟩
end Go.Proofs.YthcdjconlfdidaaDoor

