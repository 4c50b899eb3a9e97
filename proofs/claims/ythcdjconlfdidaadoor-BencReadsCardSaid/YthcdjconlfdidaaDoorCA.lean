/-
  Plain law: bencoded values, how they are written, and how they are read.
-/
import Derived.WalkKit
import Derived.Lib.ItoaNum
set_option linter.unusedVariables false
set_option linter.unusedSimpArgs false
namespace Go.Aw
/-- A value: its kind, its number, its text, its kids, its keys. -/
inductive BV where
  | mk (k n : Int) (s : List UInt8) (kids : List BV) (keys : List (List UInt8))
namespace BV
def kind : BV → Int | mk k _ _ _ _ => k
def text : BV → List UInt8 | mk _ _ s _ _ => s
def kids : BV → List BV | mk _ _ _ l _ => l
def keys : BV → List (List UInt8) | mk _ _ _ _ l => l
def zero : BV := mk 0 0 [] [] []
mutual
theorem ind {P : BV → Prop} (h : ∀ k n s kids keys, (∀ c ∈ kids, P c) → P (mk k n s kids keys)) : ∀ v, P v
  | mk k n s kids keys => h k n s kids keys (indL h kids)
theorem indL {P : BV → Prop} (h : ∀ k n s kids keys, (∀ c ∈ kids, P c) → P (mk k n s kids keys)) : ∀ l : List BV, ∀ c ∈ l, P c
  | [], c, hc => absurd hc (by simp)
  | x :: l, c, hc => by
    rcases List.mem_cons.1 hc with e | hc
    · rw [e]; exact ind h x
    · exact indL h l c hc
end
/-! ### What is counted -/
mutual
def count : BV → Nat
  | mk _ _ _ kids _ => 1 + countL kids
def countL : List BV → Nat
  | [] => 0
  | v :: l => v.count + countL l
end
mutual
def depth : BV → Nat
  | mk _ _ _ kids _ => 1 + depthL kids
def depthL : List BV → Nat
  | [] => 0
  | v :: l => max v.depth (depthL l)
end
/-- A text as it is written. -/
def wText (s : List UInt8) : List UInt8 := Lib.itoa (s.length : Nat) ++ 58 :: s
mutual
def write : BV → List UInt8
  | mk k n s kids keys =>
    if k = 1 then 105 :: (Lib.itoa n ++ [101]) else if k = 2 then wText s else if k = 3 then 108 :: (writeL kids ++ [101]) else 100 :: (writeD keys kids ++ [101])
def writeL : List BV → List UInt8
  | [] => []
  | v :: l => v.write ++ writeL l
def writeD : List (List UInt8) → List BV → List UInt8
  | k :: ks, v :: l => wText k ++ v.write ++ writeD ks l
  | _, _ => []
end
/-- Texts ascend, behind one before them. -/
def ascF : Option (List UInt8) → List (List UInt8) → Bool
  | _, [] => true
  | o, k :: ks => (match o with | some b => Op.bytesLess b k | none => true) && ascF (some k) ks
def asc (l : List (List UInt8)) : Bool := ascF none l
mutual
def form : BV → Bool
  | mk k n s kids keys =>
    (if k = 1 then s = [] ∧ kids = [] ∧ keys = [] else if k = 2 then n = 0 ∧ kids = [] ∧ keys = [] else if k = 3 then n = 0 ∧ s = [] ∧ keys = [] else if k = 4 then n = 0 ∧ s = [] ∧ keys.length = kids.length ∧ asc keys = true else False) && formL kids
def formL : List BV → Bool
  | [] => true
  | v :: l => v.form && formL l
end
mutual
/-- All numbers are numbers of 64 bits. -/
def nums : BV → Prop
  | mk _ n _ kids _ => (-9223372036854775808 ≤ n ∧ n ≤ 9223372036854775807) ∧ numsL kids
def numsL : List BV → Prop
  | [] => True
  | v :: l => v.nums ∧ numsL l
end
theorem formL_iff : ∀ {l : List BV}, formL l = true ↔ ∀ c ∈ l, c.form = true
  | [] => by simp [formL]
  | v :: l => by simp [formL, formL_iff (l := l)]
theorem numsL_iff : ∀ {l : List BV}, numsL l ↔ ∀ c ∈ l, c.nums
  | [] => by simp [numsL]
  | v :: l => by simp [numsL, numsL_iff (l := l)]
end BV
end Go.Aw

