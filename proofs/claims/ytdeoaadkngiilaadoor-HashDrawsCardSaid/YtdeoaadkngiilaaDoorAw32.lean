/-
  The digest, as a plain function of bytes.
-/
import Derived.Test.YtdeoaadkngiilaaDoorAw31
import Derived.Test.YtdeoaadkngiilaaDoorAw24
set_option linter.unusedVariables false
namespace Go.Aw
def hP : UInt64 := 1099511628211
def hG : UInt64 := 11400714819323198485
def hB : UInt64 := 14695981039346656037
theorem hP_nat : hP.toNat = 1099511628211 := by decide
theorem hG_nat : hG.toNat = 11400714819323198485 := by decide
theorem hB_nat : hB.toNat = 14695981039346656037 := by decide
def hMix (h : UInt64) : UInt64 := h ^^^ h >>> 29
def hMix2 (h : UInt64) : UInt64 := h ^^^ h >>> 32
def hStep (h : UInt64) (b : UInt8) : UInt64 := hMix ((h ^^^ b.toUInt64) * hP)
def hEnd (n : Nat) (h : UInt64) : UInt64 := hMix2 ((h ^^^ UInt64.ofNat n) * hP) * hP
def hBeg (k : Nat) : UInt64 := hB + UInt64.ofNat k * hG
def lanes0 : List UInt64 := (List.range 4).map hBeg
def takeL (l : List UInt64) (b : UInt8) : List UInt64 := l.map fun h => hStep h b
def be8 (h : UInt64) : List UInt8 := (List.range 8).map fun j => (h >>> UInt64.ofNat (56 - 8 * j)).toUInt8
def endL (l : List UInt64) (n : Nat) : List UInt8 := l.flatMap fun h => be8 (hEnd n h)
def sumL (s : List UInt8) : List UInt8 := endL (s.foldl takeL lanes0) s.length
def u64C (l : List UInt64) : List Value := l.map fun x => .int .u64 x.toNat
theorem w64_mulP (a : UInt64) : IntKind.u64.wrap ((a.toNat : Int) * 1099511628211) = ((a * hP).toNat : Int) := by
  have := w64_mul a hP; rwa [hP_nat] at this
theorem w64_mulG (a : UInt64) : IntKind.u64.wrap ((a.toNat : Int) * 11400714819323198485) = ((a * hG).toNat : Int) := by
  have := w64_mul a hG; rwa [hG_nat] at this
theorem w64_addB (a : UInt64) : IntKind.u64.wrap (14695981039346656037 + (a.toNat : Int)) = ((hB + a).toNat : Int) := by
  have := w64_add hB a; rwa [hB_nat] at this
theorem w64_shr29 (a : UInt64) : shrI .u64 (a.toNat : Int) 29 = ((a >>> 29).toNat : Int) := w64_shr a 29 (by decide)
theorem w64_shr32 (a : UInt64) : shrI .u64 (a.toNat : Int) 32 = ((a >>> 32).toNat : Int) := w64_shr a 32 (by decide)
theorem w64_quo29 (a : UInt64) : (a.toNat : Int).tdiv 536870912 = ((a >>> 29).toNat : Int) := w64_quo a 29 (by decide)
theorem w64_quo32 (a : UInt64) : (a.toNat : Int).tdiv 4294967296 = ((a >>> 32).toNat : Int) := w64_quo a 32 (by decide)
theorem w64_quo8 (a : UInt64) : (a.toNat : Int).tdiv 256 = ((a >>> 8).toNat : Int) := w64_quo a 8 (by decide)
theorem w64_wn (a : UInt64) : IntKind.u64.wrap (a.toNat : Int) = (a.toNat : Int) := wu64 ⟨by omega, by have := a.toNat_lt; omega⟩
theorem w64_rem8 (a : UInt64) : IntKind.u8.wrap ((a.toNat : Int).tmod 256) = (a.toUInt8.toNat : Int) := by
  rw [← w64_u8, IntKind.wrap_u8, IntKind.wrap_u8, Int.tmod_eq_emod_of_nonneg (by omega)]; omega
theorem u64C_length (l : List UInt64) : (u64C l).length = l.length := by simp [u64C]
theorem u64C_get {l : List UInt64} {n : Nat} (h : n < l.length) : (u64C l)[n]? = some (.int .u64 (l[n].toNat : Int)) := by
  simp [u64C, List.getElem?_eq_getElem h]
theorem u64C_set (l : List UInt64) (n : Nat) (x : UInt64) : (u64C l).set n (.int .u64 (x.toNat : Int)) = u64C (l.set n x) := by simp [u64C]
theorem u64C_flat (l : List UInt64) : (u64C l).all flat = true := by simp [u64C, flat]
theorem u64C_scalar (l : List UInt64) : (u64C l).all scalar = true := by simp [u64C, scalar]
theorem takeL_len (l : List UInt64) (b : UInt8) : (takeL l b).length = l.length := by simp [takeL]
theorem foldl_len (s : List UInt8) : ∀ l : List UInt64, (s.foldl takeL l).length = l.length := by
  induction s with
  | nil => intro l; rfl
  | cons b s ih => intro l; rw [List.foldl_cons, ih, takeL_len]
theorem lanes0_len : lanes0.length = 4 := rfl
theorem be8_len (h : UInt64) : (be8 h).length = 8 := by simp [be8]
theorem endL_len (l : List UInt64) (n : Nat) : (endL l n).length = l.length * 8 := by
  induction l with
  | nil => simp [endL]
  | cons a l ih => simp only [endL, List.flatMap_cons, List.length_append, be8_len, List.length_cons] at *; omega
theorem sumL_len (s : List UInt8) : (sumL s).length = 32 := by
  unfold sumL; rw [endL_len, foldl_len, lanes0_len]
theorem foldl_map_lanes (s : List UInt8) : ∀ l : List UInt64, s.foldl takeL l = l.map fun h => s.foldl hStep h := by
  induction s with
  | nil => intro l; simp
  | cons b s ih => intro l; rw [List.foldl_cons, ih]; simp [takeL]
theorem sumL_eq (s : List UInt8) : sumL s = (List.range 4).flatMap fun k => be8 (hEnd s.length (s.foldl hStep (hBeg k))) := by
  unfold sumL endL lanes0
  rw [foldl_map_lanes, List.flatMap_map, List.flatMap_map]
/-! ### Lists that are filled, one by one -/
theorem fillS {α : Type} (f : Nat → α) (N n : Nat) (z : α) (h : n < N) : ((List.range n).map f ++ List.replicate (N - n) z).set n (f n) = (List.range (n + 1)).map f ++ List.replicate (N - (n + 1)) z := by
  have h1 : ((List.range n).map f).length = n := by simp
  have e : N - n = (N - (n + 1)) + 1 := by omega
  rw [List.set_append_right _ _ (by omega), h1, Nat.sub_self, e, List.replicate_succ, List.set_cons_zero, List.range_succ, List.map_append]
  simp
theorem turnS {α : Type} (f : α → α) (l : List α) (n : Nat) (h : n < l.length) : ((l.take n).map f ++ l.drop n).set n (f l[n]) = (l.take (n + 1)).map f ++ l.drop (n + 1) := by
  have h1 : ((l.take n).map f).length = n := by simp; omega
  rw [List.set_append_right _ _ (by omega), h1, Nat.sub_self, List.drop_eq_getElem_cons h, List.set_cons_zero, List.take_add_one, List.getElem?_eq_getElem h, List.map_append]
  simp
end Go.Aw
namespace Go.Aw
theorem appendTo_gs {P : Program} {e : TypeId} {y i n m : Nat} {l news : List Value} {H : AHeap} {K : Value → AHeap → Prop} (hi : H[i]? = some (gO l ⟨e, 1, true, 0, none⟩)) (hn : l.length = n) (hm : m ≠ 0) (h1 : (n + m) * y ≤ 140737488355328) (h2 : n + m ≤ 4611686018427387904)
    (hk : K (.slice (some ⟨H.length, 0, none⟩) (n + m) (n + m)) (H.set i .dead ++ [.cells (l ++ news) ⟨e, 1, true, 0, none⟩])) : appendTo P e 1 y (gS i n) m news H K := by
  subst hn
  rcases List.eq_nil_or_concat l with rfl | ⟨r, x, rfl⟩
  · rw [gO_nil] at hi
    rw [set_same hi] at hk
    exact appendTo_nil hm (by simpa using h1) (by simpa using h2) (by simpa using hk)
  · have hne : r.concat x ≠ [] := by simp
    rw [gO_ne hne] at hi
    rw [gS_pos (by simp)]
    exact appendTo_own hi (by decide) (by simp) hm h1 h2 hk
end Go.Aw
namespace Go.Aw
theorem flat8 {α : Type} (g : α → List UInt8) (hg : ∀ x, (g x).length = 8) : ∀ l : List α, (l.flatMap g).length = l.length * 8
  | [] => by simp
  | a :: l => by rw [List.flatMap_cons, List.length_append, hg, flat8 g hg l, List.length_cons]; omega
end Go.Aw
namespace Go.Aw
theorem putCells_eq : ∀ (l cs : List Value) (off : Nat), off + l.length ≤ cs.length → putCells cs off l = cs.take off ++ l ++ cs.drop (off + l.length)
  | [], cs, off, h => by simp [putCells]
  | v :: l, cs, off, h => by
    rw [List.length_cons] at h
    unfold putCells
    rw [putCells_eq l (cs.set off v) (off + 1) (by rw [List.length_set]; omega), List.take_add_one, List.getElem?_set_self (by omega), List.take_set_of_le (Nat.le_refl _), List.drop_set_of_lt (by omega), List.length_cons]
    simp [Nat.add_assoc, Nat.add_comm 1]
theorem putCells_all {l cs : List Value} (h : cs.length = l.length) : putCells cs 0 l = l := by
  rw [putCells_eq _ _ _ (by omega)]; simp [h]
end Go.Aw
