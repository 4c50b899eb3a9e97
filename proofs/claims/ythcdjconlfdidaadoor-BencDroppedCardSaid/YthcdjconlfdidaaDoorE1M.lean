/-
  A part of the proof of a statement of this seat.
-/
import Derived.Test.YthcdjconlfdidaaDoorDRM
import Derived.Shelf.Strconv.AtoiAll
import Derived.Ground.NamesProg
import Derived.Test.YthcdjconlfdidaaDoorChecked
set_option linter.unusedVariables false
set_option linter.unusedSimpArgs false
set_option maxHeartbeats 4000000
set_option maxRecDepth 20000
namespace Go.Proofs.YthcdjconlfdidaaDoor
open Go Go.Aw Go.Proofs
theorem lt_trans : ∀ (x y z : Tx), Op.bytesLess x y = true → Op.bytesLess y z = true → Op.bytesLess x z = true
 | _, [], _, h, _ => by simp [Op.bytesLess] at h
 | _, _ :: _, [], _, h => by simp [Op.bytesLess] at h
 | [], _ :: _, _ :: _, _, _ => rfl
 | a :: x, b :: y, c :: z, h, h2 => by
  simp only [Op.bytesLess, Bool.or_eq_true, decide_eq_true_eq, Bool.and_eq_true, beq_iff_eq] at h h2 ⊢
  rcases h with h | ⟨rfl, h⟩
  ·rcases h2 with h2 | ⟨rfl, h2⟩
   ·exact .inl (UInt8.lt_trans h h2)
   ·exact .inl h
  ·rcases h2 with h2 | ⟨rfl, h2⟩
   ·exact .inl h2
   ·exact .inr ⟨rfl, lt_trans x y z h h2⟩
theorem asc_at {l : List Tx} (h : BV.asc l = true) : ∀ (i j : Nat) (x y : Tx), i < j → l[i]? = some x → l[j]? = some y → Op.bytesLess x y = true := by
 have h2 := ((ascF_iff l none).1 h).2
 intro i j
 induction j with
 | zero => intro x y hij; omega
 | succ j ih =>
  intro x y hij hx hy
  have hjl : j + 1 < l.length := (List.getElem?_eq_some_iff.1 hy).1
  have hz : l[j]? = some l[j] := List.getElem?_eq_getElem (by omega)
  have hzy := h2 j _ _ hz hy
  rcases Nat.lt_or_ge i j with h3 | h3
  ·exact lt_trans _ _ _ (ih x _ h3 hx hz) hzy
  ·obtain rfl : i = j := by omega
   rw [hx] at hz
   cases hz
   exact hzy
/-- Where a text stands or would stand. -/
structure Low (l : List Tx) (t : Tx) (i : Nat) : Prop where
 le : i ≤ l.length
 lo : ∀ j x, j < i → l[j]? = some x → Op.bytesLess x t = true
 hi : ∀ j x, i ≤ j → l[j]? = some x → Op.bytesLess x t = false
theorem Low.uniq {l : List Tx} {t : Tx} {i j : Nat} (h : Low l t i) (k : Low l t j) : i = j := by
 rcases Nat.lt_trichotomy i j with hlt | rfl | hlt
 ·have hil : i < l.length := Nat.lt_of_lt_of_le hlt k.le
  have e := List.getElem?_eq_getElem hil
  have h1 := k.lo i _ hlt e
  rw [h.hi i _ (Nat.le_refl _) e] at h1
  cases h1
 ·rfl
 ·have hil : j < l.length := Nat.lt_of_lt_of_le hlt h.le
  have e := List.getElem?_eq_getElem hil
  have h1 := h.lo j _ hlt e
  rw [k.hi j _ (Nat.le_refl _) e] at h1
  cases h1
theorem low_ex (l : List Tx) (t : Tx) (hasc : BV.asc l = true) : ∃ i, Low l t i := by
 have key : ∀ k, k ≤ l.length → (∀ j x, j < k → l[j]? = some x → Op.bytesLess x t = true) ∨ ∃ i y, i < k ∧ (∀ j x, j < i → l[j]? = some x → Op.bytesLess x t = true) ∧ l[i]? = some y ∧ Op.bytesLess y t = false := by
  intro k
  induction k with
  | zero => intro _; exact .inl fun j x hj => absurd hj (Nat.not_lt_zero _)
  | succ k ih =>
   intro hk
   rcases ih (by omega) with h | ⟨i, y, h1, h2⟩
   ·have e := List.getElem?_eq_getElem (show k < l.length by omega)
    cases hb : Op.bytesLess l[k] t with
    | true =>
     refine .inl fun j x hj hx => ?_
     rcases Nat.lt_or_ge j k with h3 | h3
     ·exact h j x h3 hx
     ·obtain rfl : j = k := by omega
      rw [e] at hx; cases hx; exact hb
    | false => exact .inr ⟨k, _, by omega, h, e, hb⟩
   ·exact .inr ⟨i, y, by omega, h2⟩
 rcases key l.length (Nat.le_refl _) with h | ⟨i, y, h1, h2, h3, h4⟩
 ·refine ⟨l.length, Nat.le_refl _, h, fun j x hj hx => ?_⟩
  have := (List.getElem?_eq_some_iff.1 hx).1
  omega
 ·refine ⟨i, by omega, h2, fun j x hj hx => ?_⟩
  rcases Nat.lt_or_ge i j with h5 | h5
  ·cases hb : Op.bytesLess x t with
   | false => rfl
   | true => rw [lt_trans _ _ _ (asc_at hasc i j _ _ h5 h3 hx) hb] at h4; cases h4
  ·obtain rfl : j = i := by omega
   rw [h3] at hx; cases hx; exact h4
theorem half (n : Nat) (h : n < 9223372036854775808) : IntKind.i64.wrap (shrI .u64 ((n : Nat) : Int) 1) = ((n / 2 : Nat) : Int) := by
 have e : shrI .u64 ((n : Nat) : Int) 1 = ((n / 2 : Nat) : Int) := by
  exact shrI_n .u64 n 1 (by decide)
 rw [e, wi64 (by omega)]
theorem isNaN2 (a : List UInt8) (H : AHeap) : ARet Tryd.prog 75 [.string (bs a)] H (.bool false) H := by
 refine AC.enter Tryd.func75 rfl (by kernel_rfl) 6 rfl [.tmp 2] rfl (by simp) fun hsc B => ?_
 repeat first | with_reducible refine AWP.ctl (by constructor) ?_ | ((with_reducible (first | refine AWP.region ?_ ?_ | refine AWP.condT ?_ ?_)); exact rfl) | ((with_reducible refine AWP.condF ?_ ?_); exact rfl) | simp only [go_sem, sevalprocAttr, reduceCtorEq] | simp (disch := omega) only [wz] | with_reducible_and_instances exact finR | ((with_reducible refine finR' ?_ ?_) <;> rfl) | ((with_reducible refine finD hsc (NRel.of_plain ?_)); exact rfl)
theorem BSearch (l : List Tx) (t : Tx) (hl : l.length ≤ 1099511627776) (hasc : BV.asc l = true) (v : Value) (H : AHeap) (hv : RdK H 1 v (keyC l)) :
  ∃ i, Low l t i ∧ ARet Tryd.prog 46 [v, .string (bs t)] H (.tuple ⟨[.int .i64 (i : Nat), .bool (decide (l[i]? = some t))]⟩) H := by
 obtain ⟨N, hN⟩ : ∃ N, N = l.length := ⟨_, rfl⟩
 have key : AC Tryd.prog 46 [v, .string (bs t)] H (fun r H1 => ∃ i, Low l t i ∧ r = .ret (.tuple ⟨[.int .i64 (i : Nat), .bool (decide (l[i]? = some t))]⟩) ∧ H1 = H) := by
  have hkl : (keyC l).length = l.length := by unfold keyC; simp
  have q1 : ∀ H' K, lenW Tryd.prog 24 v H' K = K (.int .i64 (N : Nat)) H' := fun H' K => by rw [hv.lenT (by simp only [go_sem, sevalprocAttr, reduceCtorEq]), hkl, hN]
  have hat : ∀ (j : Nat) (h : j < l.length), ∃ bi off cap cs k, v = .slice (some ⟨bi, off, none⟩) l.length cap ∧ H[bi]? = some (.cells cs k) ∧ cs[off + j]? = some (.string (bs l[j])) := fun j h => by
   obtain ⟨bi, off, cap, cs, k, e1, e2, e3, -, -, e4, e5⟩ := hv.at_ (keyC_at h)
   rw [hkl] at e1
   refine ⟨bi, off, cap, cs, k, e1, e3, ?_⟩
   have h1 := congrArg (fun l => l[0]?) e5
   simpa using h1
  refine AC.enter Tryd.func46 rfl (by kernel_rfl) 54 rfl [.tmp 4, .tmp 5] rfl (by simp) fun hsc B => ?_
  repeat first | with_reducible refine AWP.ctl (by constructor) ?_ | ((with_reducible (first | refine AWP.region ?_ ?_ | refine AWP.condT ?_ ?_)); exact rfl) | ((with_reducible refine AWP.condF ?_ ?_); exact rfl) | simp only [go_sem, sevalprocAttr, reduceCtorEq, q1] | simp (disch := omega) only [wz] | with_reducible_and_instances exact finR | ((with_reducible refine finR' ?_ ?_) <;> rfl) | ((with_reducible refine finD hsc (NRel.of_plain ?_)); exact rfl)
  refine AWP.loopP (fun s : Nat × Nat => ⟨[(0, v), (1, .string (bs t)), (6, .int .i64 (N : Nat)), (7, .int .i64 (s.1 : Nat)), (8, .int .i64 (s.2 : Nat))], [], H⟩)
   (fun s => s.1 ≤ s.2 ∧ s.2 ≤ N ∧ (∀ j x, j < s.1 → l[j]? = some x → Op.bytesLess x t = true) ∧ (∀ j x, s.2 ≤ j → l[j]? = some x → Op.bytesLess x t = false)) (fun s => s.2 - s.1) (0, N) ?_ ⟨Nat.zero_le _, Nat.le_refl _, fun j x hj => absurd hj (Nat.not_lt_zero _), fun j x hj hx => ?_⟩ ?_
  ·exact Weak.env (by simp [envIn, lk_cons, wth_some])
  ·have := (List.getElem?_eq_some_iff.1 hx).1
   dsimp only at hj; omega
  rintro ⟨i, j⟩ ⟨g1, g2, g3, g4⟩
  simp only at g1 g2 g3 g4 ⊢
  by_cases hc : i < j
  ·have hc' : (i : Int) < (j : Int) := by omega
   have hwij : IntKind.i64.wrap ((i : Int) + (j : Int)) = ((i + j : Nat) : Int) := by rw [wi64 (by omega)]; omega
   have hu : IntKind.u64.wrap ((i + j : Nat) : Int) = ((i + j : Nat) : Int) := wu64 (by omega)
   have hh := half (i + j) (by omega)
   obtain ⟨h, hhe⟩ : ∃ h, h = (i + j) / 2 := ⟨_, rfl⟩
   rw [← hhe] at hh
   have hhl : h < l.length := by omega
   obtain ⟨bi, off, cap, cs, k, rfl, hbi, hcs⟩ := hat h hhl
   have hx0 : (0 : Int) ≤ (h : Int) := Int.natCast_nonneg _
   have hx2 : (h : Int) < (l.length : Int) := by omega
   have hwh : IntKind.i64.wrap ((h : Int) + 1) = ((h + 1 : Nat) : Int) := by rw [wi64 (by omega)]; omega
   have el : l[h]? = some l[h] := List.getElem?_eq_getElem hhl
   have hL := Less l[h] t H
   cases hcmp : Op.bytesLess l[h] t with
   | true =>
    rw [hcmp] at hL
    have hnew : ∀ j' x, j' < h + 1 → l[j']? = some x → Op.bytesLess x t = true := fun j' x hj hx => by
     rcases Nat.lt_or_ge j' h with h3 | h3
     ·exact lt_trans _ _ _ (asc_at hasc j' h _ _ h3 hx el) hcmp
     ·obtain rfl : j' = h := by omega
      rw [el] at hx; cases hx; exact hcmp
    generalize l[h] = y at *
    repeat first | with_reducible refine AWP.ctl (by constructor) ?_ | ((with_reducible (first | refine AWP.region ?_ ?_ | refine AWP.condT ?_ ?_)); exact rfl) | ((with_reducible refine AWP.condF ?_ ?_); exact rfl) | with_reducible refine hL.use ?_ | simp only [go_sem, sevalprocAttr, reduceCtorEq, hc', hwij, hu, hh, hbi, hcs, hx0, hx2, hwh] | simp (disch := omega) only [wz] | with_reducible_and_instances exact finR | ((with_reducible refine finR' ?_ ?_) <;> rfl) | ((with_reducible refine finD hsc (NRel.of_plain ?_)); exact rfl)
    exact ⟨(h + 1, j), Weak.env (by simp [envIn, lk_cons, wth_some]), by dsimp only; omega, by dsimp only; omega, hnew, g4, by dsimp only; omega⟩
   | false =>
    rw [hcmp] at hL
    have hnew : ∀ j' x, h ≤ j' → l[j']? = some x → Op.bytesLess x t = false := fun j' x hj hx => by
     rcases Nat.lt_or_ge h j' with h3 | h3
     ·cases hb : Op.bytesLess x t with
      | false => rfl
      | true => rw [lt_trans _ _ _ (asc_at hasc h j' _ _ h3 el hx) hb] at hcmp; cases hcmp
     ·obtain rfl : j' = h := by omega
      rw [el] at hx; cases hx; exact hcmp
    generalize l[h] = y at *
    repeat first | with_reducible refine AWP.ctl (by constructor) ?_ | ((with_reducible (first | refine AWP.region ?_ ?_ | refine AWP.condT ?_ ?_)); exact rfl) | ((with_reducible refine AWP.condF ?_ ?_); exact rfl) | with_reducible refine hL.use ?_ | simp only [go_sem, sevalprocAttr, reduceCtorEq, hc', hwij, hu, hh, hbi, hcs, hx0, hx2, hwh] | simp (disch := omega) only [wz] | with_reducible_and_instances exact finR | ((with_reducible refine finR' ?_ ?_) <;> rfl) | ((with_reducible refine finD hsc (NRel.of_plain ?_)); exact rfl)
    exact ⟨(i, h), Weak.env (by simp [envIn, lk_cons, wth_some]), by dsimp only; omega, by dsimp only; omega, g3, hnew, by dsimp only; omega⟩
  ·have hc' : ¬ (i : Int) < (j : Int) := by omega
   obtain rfl : i = j := by omega
   have hlow : Low l t i := ⟨by omega, g3, g4⟩
   by_cases hi : i < N
   ·have hi' : (i : Int) < (N : Int) := by omega
    have hil : i < l.length := by omega
    obtain ⟨bi, off, cap, cs, k, rfl, hbi, hcs⟩ := hat i hil
    have hx0 : (0 : Int) ≤ (i : Int) := Int.natCast_nonneg _
    have hx2 : (i : Int) < (l.length : Int) := by omega
    have el : l[i]? = some l[i] := List.getElem?_eq_getElem hil
    have hn1 := isNaN2 l[i] H
    have hn2 := isNaN2 t H
    have hdec : decide (l[i]? = some t) = (l[i] == t) := by
     rw [el, Bool.eq_iff_iff]; simp
    rw [← hN] at *
    generalize l[i] = y at *
    cases he : (y == t) with
    | true =>
     rw [he] at hdec
     repeat first | with_reducible refine AWP.ctl (by constructor) ?_ | ((with_reducible (first | refine AWP.region ?_ ?_ | refine AWP.condT ?_ ?_)); exact rfl) | ((with_reducible refine AWP.condF ?_ ?_); exact rfl) | with_reducible refine hn1.use ?_ | with_reducible refine hn2.use ?_ | simp only [go_sem, sevalprocAttr, reduceCtorEq, hc', hi', hbi, hcs, hx0, hx2, he, exists_eq_left] | simp (disch := omega) only [wz] | with_reducible_and_instances exact finR | ((with_reducible refine finR' ?_ ?_) <;> rfl) | ((with_reducible refine finD hsc (NRel.of_plain ?_)); exact rfl)
     exact ⟨_, _, .refl _ _ _, i, hlow, by rw [hdec], rfl⟩
    | false =>
     rw [he] at hdec
     repeat first | with_reducible refine AWP.ctl (by constructor) ?_ | ((with_reducible (first | refine AWP.region ?_ ?_ | refine AWP.condT ?_ ?_)); exact rfl) | ((with_reducible refine AWP.condF ?_ ?_); exact rfl) | with_reducible refine hn1.use ?_ | with_reducible refine hn2.use ?_ | simp only [go_sem, sevalprocAttr, reduceCtorEq, hc', hi', hbi, hcs, hx0, hx2, he, exists_eq_left] | simp (disch := omega) only [wz] | with_reducible_and_instances exact finR | ((with_reducible refine finR' ?_ ?_) <;> rfl) | ((with_reducible refine finD hsc (NRel.of_plain ?_)); exact rfl)
     exact ⟨_, _, .refl _ _ _, i, hlow, by rw [hdec], rfl⟩
   ·have hi' : ¬ (i : Int) < (N : Int) := by omega
    have hdec : decide (l[i]? = some t) = false := by
     rw [List.getElem?_eq_none (by omega)]; rfl
    repeat first | with_reducible refine AWP.ctl (by constructor) ?_ | ((with_reducible (first | refine AWP.region ?_ ?_ | refine AWP.condT ?_ ?_)); exact rfl) | ((with_reducible refine AWP.condF ?_ ?_); exact rfl) | simp only [go_sem, sevalprocAttr, reduceCtorEq, hc', hi', exists_eq_left] | simp (disch := omega) only [wz] | with_reducible_and_instances exact finR | ((with_reducible refine finR' ?_ ?_) <;> rfl) | ((with_reducible refine finD hsc (NRel.of_plain ?_)); exact rfl)
    exact ⟨_, _, .refl _ _ _, i, hlow, by rw [hdec], rfl⟩
 obtain ⟨i, hi⟩ := low_ex l t hasc
 exact ⟨i, hi, key.mono fun r H1 ⟨i', h1, h2, h3⟩ => by rw [h1.uniq hi] at h2; exact ⟨h2, h3⟩⟩
end Go.Proofs.YthcdjconlfdidaaDoor


namespace Go.Proofs
open Go.Shelf
def Tryd.laysAtoi_ren : Go.Shelf.Ren := ⟨fun | 172 => 68 | 244 => 94 | 245 => 95 | 247 => 101 | 279 => 102 | 280 => 103 | 281 => 104 | 282 => 105 | 287 => 113 | 316 => 114 | 171 => 49 | 205 => 115 | 321 => 121 | 322 => 122 | 243 => 80 | 246 => 99 | 283 => 108 | 284 => 109 | 285 => 110 | 286 => 111 | 129 => 117 | 317 => 116 | 318 => 118 | 319 => 119 | 320 => 120 | 337 => 123 | 338 => 124 | n => n, fun | 9 => 9 | 3 => 3 | 75 => 100 | 76 => 101 | 4 => 4 | 5 => 5 | 167 => 116 | 37 => 89 | 0 => 0 | 85 => 117 | 2 => 2 | 168 => 119 | 53 => 125 | 175 => 132 | 46 => 107 | 210 => 135 | 127 => 113 | 145 => 146 | 143 => 144 | 21 => 21 | 171 => 124 | 173 => 128 | 212 => 138 | 51 => 139 | 20 => 20 | 213 => 140 | 232 => 148 | 233 => 149 | 80 => 84 | n => n, fun | 15 => 0 | 16 => 1 | 17 => 2 | 18 => 3 | 19 => 4 | n => n⟩
theorem Tryd.laysAtoi : Go.Proofs.LaysC.n172 Tryd.prog Tryd.laysAtoi_ren where
 mixed := by kernel_rfl
 f129 := Tryd.func117.trans (congrArg some (by kernel_rfl))
 f171 := Tryd.func49.trans (congrArg some (by kernel_rfl))
 f172 := Tryd.func68.trans (congrArg some (by kernel_rfl))
 f205 := Tryd.func115.trans (congrArg some (by kernel_rfl))
 f243 := Tryd.func80.trans (congrArg some (by kernel_rfl))
 f244 := Tryd.func94.trans (congrArg some (by kernel_rfl))
 f245 := Tryd.func95.trans (congrArg some (by kernel_rfl))
 f246 := Tryd.func99.trans (congrArg some (by kernel_rfl))
 f247 := Tryd.func101.trans (congrArg some (by kernel_rfl))
 f279 := Tryd.func102.trans (congrArg some (by kernel_rfl))
 f280 := Tryd.func103.trans (congrArg some (by kernel_rfl))
 f281 := Tryd.func104.trans (congrArg some (by kernel_rfl))
 f282 := Tryd.func105.trans (congrArg some (by kernel_rfl))
 f283 := Tryd.func108.trans (congrArg some (by kernel_rfl))
 f284 := Tryd.func109.trans (congrArg some (by kernel_rfl))
 f285 := Tryd.func110.trans (congrArg some (by kernel_rfl))
 f286 := Tryd.func111.trans (congrArg some (by kernel_rfl))
 f287 := Tryd.func113.trans (congrArg some (by kernel_rfl))
 f316 := Tryd.func114.trans (congrArg some (by kernel_rfl))
 f317 := Tryd.func116.trans (congrArg some (by kernel_rfl))
 f318 := Tryd.func118.trans (congrArg some (by kernel_rfl))
 f319 := Tryd.func119.trans (congrArg some (by kernel_rfl))
 f320 := Tryd.func120.trans (congrArg some (by kernel_rfl))
 f321 := Tryd.func121.trans (congrArg some (by kernel_rfl))
 f322 := Tryd.func122.trans (congrArg some (by kernel_rfl))
 f337 := Tryd.func123.trans (congrArg some (by kernel_rfl))
 f338 := Tryd.func124.trans (congrArg some (by kernel_rfl))
 t0 := Tryd.underlying0
 a0 := Tryd.isAgg0
 z0 := Tryd.sizeOf0
 v0 := Tryd.zeroValue0
 t2 := Tryd.underlying2
 a2 := Tryd.isAgg2
 z2 := Tryd.sizeOf2
 v2 := Tryd.zeroValue2
 t3 := Tryd.underlying3
 a3 := Tryd.isAgg3
 z3 := Tryd.sizeOf3
 v3 := Tryd.zeroValue3
 t4 := Tryd.underlying4
 a4 := Tryd.isAgg4
 z4 := Tryd.sizeOf4
 v4 := Tryd.zeroValue4
 t5 := Tryd.underlying5
 a5 := Tryd.isAgg5
 z5 := Tryd.sizeOf5
 v5 := Tryd.zeroValue5
 t9 := Tryd.underlying9
 a9 := Tryd.isAgg9
 z9 := Tryd.sizeOf9
 v9 := Tryd.zeroValue9
 t20 := Tryd.underlying20
 a20 := Tryd.isAgg20
 z20 := Tryd.sizeOf20
 v20 := Tryd.zeroValue20
 t21 := Tryd.underlying21
 a21 := Tryd.isAgg21
 z21 := Tryd.sizeOf21
 v21 := Tryd.zeroValue21
 t37 := Tryd.underlying89
 a37 := Tryd.isAgg89
 z37 := Tryd.sizeOf89
 v37 := Tryd.zeroValue89
 t46 := Tryd.underlying107
 a46 := Tryd.isAgg107
 z46 := Tryd.sizeOf107
 v46 := Tryd.zeroValue107
 t51 := Tryd.underlying139
 a51 := Tryd.isAgg139
 z51 := Tryd.sizeOf139
 v51 := Tryd.zeroValue139
 t53 := Tryd.underlying125
 a53 := Tryd.isAgg125
 z53 := Tryd.sizeOf125
 v53 := Tryd.zeroValue125
 t75 := Tryd.underlying100
 a75 := Tryd.isAgg100
 z75 := Tryd.sizeOf100
 v75 := Tryd.zeroValue100
 t76 := Tryd.underlying101
 a76 := Tryd.isAgg101
 z76 := Tryd.sizeOf101
 v76 := Tryd.zeroValue101
 t85 := Tryd.underlying117
 a85 := Tryd.isAgg117
 z85 := Tryd.sizeOf117
 v85 := Tryd.zeroValue117
 t127 := Tryd.underlying113
 a127 := Tryd.isAgg113
 z127 := Tryd.sizeOf113
 v127 := Tryd.zeroValue113
 t143 := Tryd.underlying144
 a143 := Tryd.isAgg144
 z143 := Tryd.sizeOf144
 v143 := Tryd.zeroValue144
 t145 := Tryd.underlying146
 a145 := Tryd.isAgg146
 z145 := Tryd.sizeOf146
 v145 := Tryd.zeroValue146
 t167 := Tryd.underlying116
 a167 := Tryd.isAgg116
 z167 := Tryd.sizeOf116
 v167 := Tryd.zeroValue116
 t168 := Tryd.underlying119
 a168 := Tryd.isAgg119
 z168 := Tryd.sizeOf119
 v168 := Tryd.zeroValue119
 t171 := Tryd.underlying124
 a171 := Tryd.isAgg124
 z171 := Tryd.sizeOf124
 v171 := Tryd.zeroValue124
 t173 := Tryd.underlying128
 a173 := Tryd.isAgg128
 z173 := Tryd.sizeOf128
 v173 := Tryd.zeroValue128
 t175 := Tryd.underlying132
 a175 := Tryd.isAgg132
 z175 := Tryd.sizeOf132
 v175 := Tryd.zeroValue132
 t210 := Tryd.underlying135
 a210 := Tryd.isAgg135
 z210 := Tryd.sizeOf135
 v210 := Tryd.zeroValue135
 t212 := Tryd.underlying138
 a212 := Tryd.isAgg138
 z212 := Tryd.sizeOf138
 v212 := Tryd.zeroValue138
 t213 := Tryd.underlying140
 a213 := Tryd.isAgg140
 z213 := Tryd.sizeOf140
 t232 := Tryd.underlying148
 a232 := Tryd.isAgg148
 z232 := Tryd.sizeOf148
 v232 := Tryd.zeroValue148
 t233 := Tryd.underlying149
 a233 := Tryd.isAgg149
 z233 := Tryd.sizeOf149
 v233 := Tryd.zeroValue149
 g15 := by kernel_rfl
 g16 := by kernel_rfl
 g17 := by kernel_rfl
 g18 := by kernel_rfl
 g19 := by kernel_rfl
 t80 := Tryd.underlying84
 a80 := Tryd.isAgg84
 z80 := Tryd.sizeOf84
 v80 := Tryd.zeroValue84
 i0 := by kernel_rfl
 i2 := by kernel_rfl
 i3 := by kernel_rfl
 i4 := by kernel_rfl
 i5 := by kernel_rfl
 i9 := by kernel_rfl
 i20 := by kernel_rfl
 i21 := by kernel_rfl
 i37 := by kernel_rfl
 i46 := by kernel_rfl
 i51 := by kernel_rfl
 i53 := by kernel_rfl
 i75 := by kernel_rfl
 i76 := by kernel_rfl
 i80 := by kernel_rfl
 i85 := by kernel_rfl
 i127 := by kernel_rfl
 i143 := by kernel_rfl
 i145 := by kernel_rfl
 i167 := by kernel_rfl
 i168 := by kernel_rfl
 i171 := by kernel_rfl
 i173 := by kernel_rfl
 i175 := by kernel_rfl
 i210 := by kernel_rfl
 i212 := by kernel_rfl
 i232 := by kernel_rfl
 i233 := by kernel_rfl
 m15 := by kernel_rfl
 m16 := by kernel_rfl
 m17 := by kernel_rfl
 m18 := by kernel_rfl
 m19 := by kernel_rfl
 c0 := by kernel_rfl
 c2 := by kernel_rfl
 c3 := by kernel_rfl
 c4 := by kernel_rfl
 c5 := by kernel_rfl
 c9 := by kernel_rfl
 c20 := by kernel_rfl
 c21 := by kernel_rfl
 c37 := by kernel_rfl
 c46 := by kernel_rfl
 c51 := by kernel_rfl
 c53 := by kernel_rfl
 c75 := by kernel_rfl
 c76 := by kernel_rfl
 c80 := by kernel_rfl
 c85 := by kernel_rfl
 c127 := by kernel_rfl
 c143 := by kernel_rfl
 c145 := by kernel_rfl
 c167 := by kernel_rfl
 c168 := by kernel_rfl
 c171 := by kernel_rfl
 c173 := by kernel_rfl
 c175 := by kernel_rfl
 c210 := by kernel_rfl
 c212 := by kernel_rfl
 c213 := by kernel_rfl
 c232 := by kernel_rfl
 c233 := by kernel_rfl
end Go.Proofs

