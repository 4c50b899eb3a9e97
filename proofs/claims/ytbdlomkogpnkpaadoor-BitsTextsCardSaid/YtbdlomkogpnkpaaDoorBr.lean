/-
  Fields of bits, plain: fields that are joined.
-/
import Derived.Test.YtbdlomkogpnkpaaDoorBq
set_option linter.unusedVariables false
namespace Go.Aw
/-- Two bytes joined; two truths joined: both, one, the first alone. -/
def bopN (w : Nat) (x y : UInt8) : UInt8 := UInt8.ofNat (match w with | 0 => x.toNat &&& y.toNat | 1 => x.toNat ||| y.toNat | _ => x.toNat &&& (255 - y.toNat))
def bopB (w : Nat) (x y : Bool) : Bool := match w with | 0 => x && y | 1 => x || y | _ => x && !y
theorem not_bit (y k : Nat) (hy : y < 256) (hk : k < 8) : (255 - y).testBit k = !y.testBit k := by
  have := Nat.testBit_two_pow_sub_succ (n := 8) (x := y) (by omega) k
  simpa [hk, show 2 ^ 8 - (y + 1) = 255 - y by omega] using this
theorem bopN_lt (w : Nat) (x y : UInt8) : (match w with | 0 => x.toNat &&& y.toNat | 1 => x.toNat ||| y.toNat | _ => x.toNat &&& (255 - y.toNat)) < 256 := by
  have hx := x.toNat_lt
  have hy := y.toNat_lt
  split
  · exact Nat.lt_of_le_of_lt Nat.and_le_left hx
  · exact Nat.or_lt_two_pow (n := 8) hx hy
  · exact Nat.lt_of_le_of_lt Nat.and_le_left hx
theorem bopN_bit (w : Nat) (x y : UInt8) (k : Nat) (hk : k < 8) : (bopN w x y).toNat.testBit k = bopB w (x.toNat.testBit k) (y.toNat.testBit k) := by
  unfold bopN bopB
  rw [toNat_ofNat8 (bopN_lt w x y)]
  split
  · rw [Nat.testBit_and]
  · rw [Nat.testBit_or]
  · rw [Nat.testBit_and, not_bit _ _ y.toNat_lt hk]
def joinBy (w L : Nat) (a b : List UInt8) : List UInt8 := (List.range L).map fun k => bopN w (a.getD k 0) (b.getD k 0)
theorem bopB_ff (w : Nat) : bopB w false false = false := by unfold bopB; split <;> rfl
theorem joinBy_bit (w L : Nat) (a b : List UInt8) (i : Nat) (hi : i < 8 * L) : bitAt (joinBy w L a b) i = bopB w (bitAt a i) (bitAt b i) := by
  unfold bitAt joinBy
  rw [List.getD_eq_getElem?_getD, List.getElem?_map, List.getElem?_range (by omega)]
  simp only [Option.map_some, Option.getD_some]
  exact bopN_bit w _ _ _ (by omega)
def joinF (w n : Nat) (a b : List UInt8) : List UInt8 := fieldL ((List.range n).map fun i => bopB w (bitAt a i) (bitAt b i))
theorem mapR_get (n : Nat) (f : Nat → Bool) (i : Nat) (h : i < n) : ((List.range n).map f).getD i false = f i := by
  rw [List.getD_eq_getElem?_getD, List.getElem?_map, List.getElem?_range h]; rfl
theorem fieldR_valid (n : Nat) (f : Nat → Bool) : validB n (fieldL ((List.range n).map f)) := by
  have := field_valid ((List.range n).map f)
  rwa [List.length_map, List.length_range] at this
theorem fieldR_bit (n : Nat) (f : Nat → Bool) (i : Nat) (h : i < n) : bitAt (fieldL ((List.range n).map f)) i = f i := by
  rw [bitAt_field, mapR_get n f i h]
theorem joinBy_field {n : Nat} {a b : List UInt8} (w : Nat) (ha : validB n a) (hb : validB n b) : joinBy w (lon n) a b = joinF w n a b := by
  have hl := lon_le n
  have hv : validB n (joinBy w (lon n) a b) := by
    refine ⟨by simp [joinBy], fun i hi => ?_⟩
    rcases Nat.lt_or_ge i (8 * lon n) with h1 | h1
    · rw [joinBy_bit _ _ _ _ _ h1, ha.2 i hi, hb.2 i hi, bopB_ff]
    · exact bitAt_out _ _ (by simp [joinBy]; omega)
  refine valid_ext hv (fieldR_valid n _) fun i hi => ?_
  rw [joinBy_bit _ _ _ _ _ (by omega)]
  unfold joinF
  rw [fieldR_bit n _ i hi]
theorem joinF_valid (w n : Nat) (a b : List UInt8) : validB n (joinF w n a b) := fieldR_valid n _
theorem joinF_bit (w n : Nat) (a b : List UInt8) (i : Nat) (h : i < n) : bitAt (joinF w n a b) i = bopB w (bitAt a i) (bitAt b i) := fieldR_bit n _ i h
def notF (n : Nat) (s : List UInt8) : List UInt8 := fieldL ((List.range n).map fun i => !bitAt s i)
theorem notF_valid (n : Nat) (s : List UInt8) : validB n (notF n s) := fieldR_valid n _
theorem notF_bit (n : Nat) (s : List UInt8) (i : Nat) (h : i < n) : bitAt (notF n s) i = !bitAt s i := fieldR_bit n _ i h
theorem full_bit (n i : Nat) (h : i < n) : bitAt (fieldL (fullL n)) i = true := by
  rw [bitAt_field]; unfold fullL; simp [h]
theorem not_full {n : Nat} (s : List UInt8) : joinF 2 n (fieldL (fullL n)) s = notF n s := by
  refine valid_ext (joinF_valid _ _ _ _) (notF_valid _ _) fun i hi => ?_
  rw [joinF_bit _ _ _ _ _ hi, notF_bit _ _ _ hi, full_bit _ _ hi]
  simp [bopB]
theorem and_not (n : Nat) (a b : List UInt8) : joinF 0 n a (notF n b) = joinF 2 n a b := by
  refine valid_ext (joinF_valid _ _ _ _) (joinF_valid _ _ _ _) fun i hi => ?_
  rw [joinF_bit _ _ _ _ _ hi, joinF_bit _ _ _ _ _ hi, notF_bit _ _ _ hi]; rfl
theorem or_parts {n : Nat} {a : List UInt8} (ha : validB n a) (b : List UInt8) : joinF 1 n (joinF 0 n a b) (joinF 2 n a b) = a := by
  refine valid_ext (joinF_valid _ _ _ _) ha fun i hi => ?_
  rw [joinF_bit _ _ _ _ _ hi, joinF_bit _ _ _ _ _ hi, joinF_bit _ _ _ _ _ hi]
  simp only [bopB]
  cases bitAt a i <;> cases bitAt b i <;> rfl
end Go.Aw
namespace Go.Aw
theorem range_getD (a : List UInt8) (L : Nat) (h : a.length = L) : (List.range L).map (fun k => a.getD k 0) = a := by
  apply List.ext_getElem (by simp [h])
  intro i h1 h2
  simp [List.getElem?_eq_getElem h2]
end Go.Aw
