/-
  The walk of identifiers: the middle of two, both.
-/
import Derived.Test.YtmpkgdilmkeacaaDoorRG
set_option linter.unusedVariables false
set_option linter.unusedSimpArgs false
set_option maxRecDepth 20000
set_option maxHeartbeats 4000000
namespace Go.Proofs.YtmpkgdilmkeacaaDoor
open Go Go.Aw Go.Proofs Go.Shelf Go.RowKit Go.ChangeShapes
theorem bit_num (n k : Nat) : (n / 2 ^ k % 2 == 1) = n.testBit k := by
  rw [Nat.testBit_eq_decide_div_mod_eq]
  cases h : decide (n / 2 ^ k % 2 = 1) with
  | true => exact beq_iff_eq.2 (of_decide_eq_true h)
  | false => exact beq_eq_false_iff_ne.2 (of_decide_eq_false h)
def b2n (b : Bool) : Nat := if b then 1 else 0
theorem bit_val {l : List UInt8} (hl : l.length = 20) {i : Nat} (hi : i < 160) : b2n (bitAt l i) = valB l / 2 ^ (159 - i) % 2 := by
  rw [valB_bit hl hi, ← bit_num]
  unfold b2n
  have := Nat.mod_lt (valB l / 2 ^ (159 - i)) (show 0 < 2 by decide)
  split
  · rename_i h
    have := beq_iff_eq.1 h
    omega
  · rename_i h
    have : ¬ valB l / 2 ^ (159 - i) % 2 = 1 := fun e => h (beq_iff_eq.2 e)
    omega
def sumF (a b : List UInt8) (j m : Nat) : Bool := if j < m then (midT a b).testBit (160 - m) else false
def sumC (f : Nat → Bool) : List Value := boolsC ((List.range 161).map f)
theorem sumC_len (f : Nat → Bool) : (sumC f).length = 161 := by simp [sumC, boolsC]
theorem sumC_set {f g : Nat → Bool} {n : Nat} {v : Bool} (hn : n < 161) (hv : v = g n) (h : ∀ m, m < 161 → m ≠ n → f m = g m) : (sumC f).set n (.bool v) = sumC g := by
  unfold sumC
  rw [boolsC_set, range_set 161 n f g v hn hv h]
theorem sumC_congr {f g : Nat → Bool} (h : ∀ m, m < 161 → f m = g m) : sumC f = sumC g := by
  unfold sumC
  congr 1
  apply List.map_congr_left
  intro m hm
  exact h m (List.mem_range.1 hm)
theorem valB_lt : ∀ (l : List UInt8), valB l < 256 ^ l.length := by
  intro l
  generalize hn : l.length = n
  induction n generalizing l with
  | zero =>
    have : l = [] := List.eq_nil_of_length_eq_zero hn
    subst this
    decide
  | succ n ih =>
    have hne : l ≠ [] := List.ne_nil_of_length_pos (by omega)
    obtain ⟨r, b, rfl⟩ : ∃ r b, l = r ++ [b] := ⟨l.dropLast, l.getLast hne, (List.dropLast_concat_getLast hne).symm⟩
    have := ih r (by simpa using hn)
    have hb := b.toNat_lt
    rw [valB_snoc, Nat.pow_succ]
    omega
theorem carry_le (B x y k : Nat) (hB : 0 < B) : carryN B x y k ≤ 1 := by
  unfold carryN
  have hp : 0 < B ^ k := Nat.pow_pos hB
  have h1 := Nat.mod_lt x hp
  have h2 := Nat.mod_lt y hp
  have : (x % B ^ k + y % B ^ k) / B ^ k < 2 := by
    rw [Nat.div_lt_iff_lt_mul hp]; omega
  omega
theorem carry_top {a b : List UInt8} (ha : a.length = 20) (hb : b.length = 20) : carryN 2 (valB a) (valB b) 160 = midT a b / 2 ^ 160 := by
  have h1 := valB_lt a
  have h2 := valB_lt b
  rw [ha] at h1
  rw [hb] at h2
  have e : (256 : Nat) ^ 20 = 2 ^ 160 := by decide +kernel
  rw [e] at h1 h2
  unfold carryN midT
  rw [Nat.mod_eq_of_lt h1, Nat.mod_eq_of_lt h2]
theorem rMiddle (a b : List UInt8) (ha : a.length = 20) (hb : b.length = 20) (H : AHeap) : ARet Tryd.prog 33 [.string (bs a), .string (bs b)] H (.string (bs (midL a b))) H := by
  have hA := fun H => bitsF a ha H
  have hB := fun H => bitsF b hb H
  refine AC.enter Tryd.func33 rfl (by kernel_rfl) 49 rfl [.tmp 4] rfl (by simp) fun hsc B => ?_
  repeat first
    | with_reducible refine AWP.seq ?_
    | ((with_reducible refine AWP.region ?_ ?_); exact rfl)
    | with_reducible refine AWP.block ?_
    | with_reducible refine AWP.skip ?_
    | with_reducible refine AWP.exit ?_
    | with_reducible refine AWP.ret ?_
    | with_reducible refine AWP.label ?_
    | with_reducible refine AWP.goto ?_
    | ((with_reducible refine AWP.condT ?_ ?_); focus (simp only [ev, lk_cons, ↓reduceIte, Nat.reduceEqDiff]; done))
    | ((with_reducible refine AWP.condF ?_ ?_); focus (simp only [ev, lk_cons, ↓reduceIte, Nat.reduceEqDiff]; done))
    | with_reducible refine (hA _).use ?_
    | with_reducible refine (hB _).use ?_
    | simp only [go_sem, ↓reduceIte, Nat.reduceEqDiff, reduceCtorEq, Nat.reduceAdd, Int.reduceEq, Int.reduceBNe, Int.reduceBEq, Int.reduceToNat, Int.reduceLT, Int.reduceLE, Int.reduceGT, Int.reduceGE, Nat.reduceSub, Nat.reduceBEq, Nat.reduceBNe, Int.reduceAdd, Int.reduceSub, Int.reduceMul, Int.reduceNeg, Nat.reduceMul, Nat.reduceLeDiff, Nat.reduceLT, makeSliceW]
    | simp (disch := omega) only [wi64, wu8, wu16, wu32, wu64, Int.tdiv_eq_ediv_of_nonneg, Int.tmod_eq_emod_of_nonneg]
    | with_reducible_and_instances exact finR
    | ((with_reducible refine finR' ?_ ?_) <;> rfl)
    | ((with_reducible refine finD hsc (NRel.of_plain ?_)); exact rfl)
  refine AWP.loopP (fun j : Nat => ⟨[(5, .slice (some ⟨H.length, 0, none⟩) 160 160), (6, .slice (some ⟨H.length + 1, 0, none⟩) 160 160), (7, .slice (some ⟨H.length + 2, 0, none⟩) 161 161), (8, .int .i64 (carryN 2 (valB a) (valB b) (160 - j) : Nat)), (9, .int .i64 ((j : Int) - 1))], [],
      H ++ [.cells (boF (bitAt a)) ⟨4, 1, true, 0, none⟩, .cells (boF (bitAt b)) ⟨4, 1, true, 0, none⟩, .cells (sumC (sumF a b j)) ⟨4, 0, true, 0, none⟩]⟩) (fun j => j ≤ 160) (fun j => j) 160 ?_ (Nat.le_refl _) ?_
  · have e1 : repZ 161 [Value.bool false] = sumC (sumF a b 160) := by
      rw [repZ_one]
      have : sumC (sumF a b 160) = sumC (fun _ => false) := sumC_congr fun m hm => by unfold sumF; rw [if_neg (by omega)]
      rw [this]
      unfold sumC boolsC
      rw [List.map_map]
      exact (List.map_const' ..).symm ▸ by simp
    have e2 : carryN 2 (valB a) (valB b) (160 - 160) = 0 := carry0 ..
    rw [e1]
    exact Weak.env (by simp [envIn, lk_cons, wth_some, e2])
  intro j hj
  rcases Nat.eq_zero_or_pos j with rfl | hpos
  · have hc' : ¬ ((0 : Nat) : Int) - 1 ≥ 0 := by omega
    have hct := carry_top ha hb
    have hcl := carry_le 2 (valB a) (valB b) 160 (by decide)
    have hv : (((carryN 2 (valB a) (valB b) (160 - 0) : Nat) : Int) == 1) = (midT a b).testBit 160 := by
      rw [Nat.sub_zero, ← bit_num, ← hct]
      obtain h | h : carryN 2 (valB a) (valB b) 160 = 0 ∨ carryN 2 (valB a) (valB b) 160 = 1 := by omega
      · rw [h]; rfl
      · rw [h]; rfl
    have hst : (sumC (sumF a b 0)).set 0 (.bool ((midT a b).testBit 160)) = sumC (fun m => (midT a b).testBit (160 - m)) := by
      refine sumC_set (by omega) rfl fun m hm hne => ?_
      unfold sumF
      rw [if_pos (by omega)]
    have hl := sumC_len (sumF a b 0)
    have hF := from_ ((List.range 161).map fun m => (midT a b).testBit (160 - m)) (by simp) (midL a b) (midL_len a b) (fun m hm => by
      rw [midL_bit a b m hm, List.getD_eq_getElem?_getD, List.getElem?_map, List.getElem?_range (by omega)]
      show _ = (midT a b).testBit (160 - m)
      rw [Nat.testBit_div_two]
      congr 1
      omega) (H.length + 2) ⟨4, 0, true, 0, none⟩ 161 (H ++ [.cells (boF (bitAt a)) ⟨4, 1, true, 0, none⟩, .cells (boF (bitAt b)) ⟨4, 1, true, 0, none⟩, .cells (sumC (fun m => (midT a b).testBit (160 - m))) ⟨4, 0, true, 0, none⟩]) (hgetk rfl)
    generalize sumC (fun m => (midT a b).testBit (160 - m)) = c2 at *
    generalize sumC (sumF a b 0) = c1 at *
    generalize midL a b = ml at *
    repeat' first
      | omega
      | with_reducible refine And.intro ?_ ?_
      | with_reducible refine AWP.seq ?_
      | ((with_reducible refine AWP.region ?_ ?_); exact rfl)
      | with_reducible refine AWP.block ?_
      | with_reducible refine AWP.skip ?_
      | with_reducible refine AWP.exit ?_
      | with_reducible refine AWP.ret ?_
      | with_reducible refine AWP.label ?_
      | with_reducible refine AWP.goto ?_
      | ((with_reducible refine AWP.condT ?_ ?_); focus (simp only [ev, lk_cons, ↓reduceIte, Nat.reduceEqDiff]; done))
      | ((with_reducible refine AWP.condF ?_ ?_); focus (simp only [ev, lk_cons, ↓reduceIte, Nat.reduceEqDiff]; done))
      | with_reducible refine hF.use ?_
      | simp only [go_sem, ↓reduceIte, Nat.reduceEqDiff, reduceCtorEq, Nat.reduceAdd, Int.reduceEq, Int.reduceBNe, Int.reduceBEq, Int.reduceToNat, Int.reduceLT, Int.reduceLE, Int.reduceGT, Int.reduceGE, Nat.reduceSub, Nat.reduceBEq, Nat.reduceBNe, Int.reduceAdd, Int.reduceSub, Int.reduceMul, Int.reduceNeg, Nat.reduceMul, Nat.reduceLeDiff, Nat.reduceLT, hc', hv, hst, hl]
      | simp (disch := omega) only [wi64, wu8, wu16, wu32, wu64, Int.tdiv_eq_ediv_of_nonneg, Int.tmod_eq_emod_of_nonneg]
      | with_reducible_and_instances exact finR
      | ((with_reducible refine finR' ?_ ?_) <;> rfl)
      | ((with_reducible refine finD hsc (NRel.of_plain ?_)); exact rfl)
  · obtain ⟨i, rfl⟩ : ∃ i, j = i + 1 := ⟨j - 1, by omega⟩
    have hi : i < 160 := by omega
    have hc' : (i : Int) ≥ 0 := by omega
    have hc2 : (i : Int) < 160 := by omega
    have hij : ((i + 1 : Nat) : Int) - 1 = (i : Int) := by omega
    have hg1 : (boF (bitAt a))[i]? = some (.bool (bitAt a i)) := boF_at hi
    have hg2 : (boF (bitAt b))[i]? = some (.bool (bitAt b i)) := boF_at hi
    have hl := sumC_len (sumF a b (i + 1))
    have hk : 160 - (i + 1) = 159 - i := by omega
    have hk2 : 160 - i = (159 - i) + 1 := by omega
    have hcl := carry_le 2 (valB a) (valB b) (159 - i) (by decide)
    have hcS := carryS 2 (valB a) (valB b) (159 - i) (by decide)
    have hsA := sumAt 2 (valB a) (valB b) (159 - i) (by decide)
    rw [← hk2, ← bit_val ha hi, ← bit_val hb hi] at hcS
    rw [← bit_val ha hi, ← bit_val hb hi] at hsA
    have hT : ((midT a b) / 2 ^ (159 - i) % 2 == 1) = (midT a b).testBit (159 - i) := bit_num _ _
    have hsA2 : (valB a + valB b) / 2 ^ (159 - i) % 2 = midT a b / 2 ^ (159 - i) % 2 := rfl
    rw [hsA2] at hsA
    rw [← hsA] at hT
    have hst : (sumC (sumF a b (i + 1))).set (i + 1) (.bool ((midT a b).testBit (159 - i))) = sumC (sumF a b i) := by
      refine sumC_set (by omega) ?_ fun m hm hne => ?_
      · unfold sumF; rw [if_pos (by omega), show 160 - (i + 1) = 159 - i by omega]
      · unfold sumF
        by_cases h : i + 1 < m
        · rw [if_pos h, if_pos (by omega)]
        · rw [if_neg h, if_neg (by omega)]
    have ht : ((i : Int) + 1).toNat = i + 1 := by omega
    rw [hij, hk]
    generalize carryN 2 (valB a) (valB b) (159 - i) = c at *
    generalize (midT a b).testBit (159 - i) = tb at *
    generalize hs2 : sumC (sumF a b i) = c2 at *
    generalize sumC (sumF a b (i + 1)) = c1 at *
    cases hxa : bitAt a i <;> cases hxb : bitAt b i <;> rw [hxa] at hg1 hcS hT <;> rw [hxb] at hg2 hcS hT <;> simp only [b2n, if_true, if_false, Bool.false_eq_true] at hcS hT
    · have q1 : (((c : Nat) : Int) % 2 == 1) = tb := by rw [← hT]; simp only [Nat.zero_add]; exact (by rw [Bool.eq_iff_iff, beq_iff_eq, beq_iff_eq]; omega)
      have q2 : ((c : Nat) : Int) / 2 = (carryN 2 (valB a) (valB b) (160 - i) : Nat) := by omega
      repeat' first
        | omega
        | with_reducible refine And.intro ?_ ?_
        | with_reducible refine AWP.seq ?_
        | ((with_reducible refine AWP.region ?_ ?_); exact rfl)
        | with_reducible refine AWP.block ?_
        | with_reducible refine AWP.skip ?_
        | with_reducible refine AWP.exit ?_
        | with_reducible refine AWP.ret ?_
        | with_reducible refine AWP.label ?_
        | with_reducible refine AWP.goto ?_
        | ((with_reducible refine AWP.condT ?_ ?_); focus (simp only [ev, lk_cons, ↓reduceIte, Nat.reduceEqDiff]; done))
        | ((with_reducible refine AWP.condF ?_ ?_); focus (simp only [ev, lk_cons, ↓reduceIte, Nat.reduceEqDiff]; done))
        | simp only [go_sem, ↓reduceIte, Nat.reduceEqDiff, reduceCtorEq, Nat.reduceAdd, Int.reduceEq, Int.reduceBNe, Int.reduceBEq, Int.reduceToNat, Int.reduceLT, Int.reduceLE, Int.reduceGT, Int.reduceGE, Nat.reduceSub, Nat.reduceBEq, Nat.reduceBNe, Int.reduceAdd, Int.reduceSub, Int.reduceMul, Int.reduceNeg, Nat.reduceMul, Nat.reduceLeDiff, Nat.reduceLT, hc', hc2, hg1, hg2, hl, q1, q2, hst, ht]
        | simp (disch := omega) only [wi64, wu8, wu16, wu32, wu64, Int.tdiv_eq_ediv_of_nonneg, Int.tmod_eq_emod_of_nonneg]
        | with_reducible_and_instances exact finR
        | ((with_reducible refine finR' ?_ ?_) <;> rfl)
        | ((with_reducible refine finD hsc (NRel.of_plain ?_)); exact rfl)
      exact ⟨i, by rw [hs2]; exact Weak.env (by simp [envIn, lk_cons, wth_some]), by omega, by omega⟩
    · have q1 : ((((c : Nat) : Int) + 1) % 2 == 1) = tb := by rw [← hT]; exact (by rw [Bool.eq_iff_iff, beq_iff_eq, beq_iff_eq]; omega)
      have q2 : (((c : Nat) : Int) + 1) / 2 = (carryN 2 (valB a) (valB b) (160 - i) : Nat) := by omega
      repeat' first
        | omega
        | with_reducible refine And.intro ?_ ?_
        | with_reducible refine AWP.seq ?_
        | ((with_reducible refine AWP.region ?_ ?_); exact rfl)
        | with_reducible refine AWP.block ?_
        | with_reducible refine AWP.skip ?_
        | with_reducible refine AWP.exit ?_
        | with_reducible refine AWP.ret ?_
        | with_reducible refine AWP.label ?_
        | with_reducible refine AWP.goto ?_
        | ((with_reducible refine AWP.condT ?_ ?_); focus (simp only [ev, lk_cons, ↓reduceIte, Nat.reduceEqDiff]; done))
        | ((with_reducible refine AWP.condF ?_ ?_); focus (simp only [ev, lk_cons, ↓reduceIte, Nat.reduceEqDiff]; done))
        | simp only [go_sem, ↓reduceIte, Nat.reduceEqDiff, reduceCtorEq, Nat.reduceAdd, Int.reduceEq, Int.reduceBNe, Int.reduceBEq, Int.reduceToNat, Int.reduceLT, Int.reduceLE, Int.reduceGT, Int.reduceGE, Nat.reduceSub, Nat.reduceBEq, Nat.reduceBNe, Int.reduceAdd, Int.reduceSub, Int.reduceMul, Int.reduceNeg, Nat.reduceMul, Nat.reduceLeDiff, Nat.reduceLT, hc', hc2, hg1, hg2, hl, q1, q2, hst, ht]
        | simp (disch := omega) only [wi64, wu8, wu16, wu32, wu64, Int.tdiv_eq_ediv_of_nonneg, Int.tmod_eq_emod_of_nonneg]
        | with_reducible_and_instances exact finR
        | ((with_reducible refine finR' ?_ ?_) <;> rfl)
        | ((with_reducible refine finD hsc (NRel.of_plain ?_)); exact rfl)
      exact ⟨i, by rw [hs2]; exact Weak.env (by simp [envIn, lk_cons, wth_some]), by omega, by omega⟩
    · have q1 : ((((c : Nat) : Int) + 1) % 2 == 1) = tb := by rw [← hT]; exact (by rw [Bool.eq_iff_iff, beq_iff_eq, beq_iff_eq]; omega)
      have q2 : (((c : Nat) : Int) + 1) / 2 = (carryN 2 (valB a) (valB b) (160 - i) : Nat) := by omega
      repeat' first
        | omega
        | with_reducible refine And.intro ?_ ?_
        | with_reducible refine AWP.seq ?_
        | ((with_reducible refine AWP.region ?_ ?_); exact rfl)
        | with_reducible refine AWP.block ?_
        | with_reducible refine AWP.skip ?_
        | with_reducible refine AWP.exit ?_
        | with_reducible refine AWP.ret ?_
        | with_reducible refine AWP.label ?_
        | with_reducible refine AWP.goto ?_
        | ((with_reducible refine AWP.condT ?_ ?_); focus (simp only [ev, lk_cons, ↓reduceIte, Nat.reduceEqDiff]; done))
        | ((with_reducible refine AWP.condF ?_ ?_); focus (simp only [ev, lk_cons, ↓reduceIte, Nat.reduceEqDiff]; done))
        | simp only [go_sem, ↓reduceIte, Nat.reduceEqDiff, reduceCtorEq, Nat.reduceAdd, Int.reduceEq, Int.reduceBNe, Int.reduceBEq, Int.reduceToNat, Int.reduceLT, Int.reduceLE, Int.reduceGT, Int.reduceGE, Nat.reduceSub, Nat.reduceBEq, Nat.reduceBNe, Int.reduceAdd, Int.reduceSub, Int.reduceMul, Int.reduceNeg, Nat.reduceMul, Nat.reduceLeDiff, Nat.reduceLT, hc', hc2, hg1, hg2, hl, q1, q2, hst, ht]
        | simp (disch := omega) only [wi64, wu8, wu16, wu32, wu64, Int.tdiv_eq_ediv_of_nonneg, Int.tmod_eq_emod_of_nonneg]
        | with_reducible_and_instances exact finR
        | ((with_reducible refine finR' ?_ ?_) <;> rfl)
        | ((with_reducible refine finD hsc (NRel.of_plain ?_)); exact rfl)
      exact ⟨i, by rw [hs2]; exact Weak.env (by simp [envIn, lk_cons, wth_some]), by omega, by omega⟩
    · have q1 : ((((c : Nat) : Int) + 1 + 1) % 2 == 1) = tb := by rw [← hT]; exact (by rw [Bool.eq_iff_iff, beq_iff_eq, beq_iff_eq]; omega)
      have q2 : (((c : Nat) : Int) + 1 + 1) / 2 = (carryN 2 (valB a) (valB b) (160 - i) : Nat) := by omega
      repeat' first
        | omega
        | with_reducible refine And.intro ?_ ?_
        | with_reducible refine AWP.seq ?_
        | ((with_reducible refine AWP.region ?_ ?_); exact rfl)
        | with_reducible refine AWP.block ?_
        | with_reducible refine AWP.skip ?_
        | with_reducible refine AWP.exit ?_
        | with_reducible refine AWP.ret ?_
        | with_reducible refine AWP.label ?_
        | with_reducible refine AWP.goto ?_
        | ((with_reducible refine AWP.condT ?_ ?_); focus (simp only [ev, lk_cons, ↓reduceIte, Nat.reduceEqDiff]; done))
        | ((with_reducible refine AWP.condF ?_ ?_); focus (simp only [ev, lk_cons, ↓reduceIte, Nat.reduceEqDiff]; done))
        | simp only [go_sem, ↓reduceIte, Nat.reduceEqDiff, reduceCtorEq, Nat.reduceAdd, Int.reduceEq, Int.reduceBNe, Int.reduceBEq, Int.reduceToNat, Int.reduceLT, Int.reduceLE, Int.reduceGT, Int.reduceGE, Nat.reduceSub, Nat.reduceBEq, Nat.reduceBNe, Int.reduceAdd, Int.reduceSub, Int.reduceMul, Int.reduceNeg, Nat.reduceMul, Nat.reduceLeDiff, Nat.reduceLT, hc', hc2, hg1, hg2, hl, q1, q2, hst, ht]
        | simp (disch := omega) only [wi64, wu8, wu16, wu32, wu64, Int.tdiv_eq_ediv_of_nonneg, Int.tmod_eq_emod_of_nonneg]
        | with_reducible_and_instances exact finR
        | ((with_reducible refine finR' ?_ ?_) <;> rfl)
        | ((with_reducible refine finD hsc (NRel.of_plain ?_)); exact rfl)
      exact ⟨i, by rw [hs2]; exact Weak.env (by simp [envIn, lk_cons, wth_some]), by omega, by omega⟩
end Go.Proofs.YtmpkgdilmkeacaaDoor
