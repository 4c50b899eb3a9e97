/-
  Appending; forgetting, by forms that simp closes.
-/
import Derived.Test.YtdeoaadkngiilaaDoorAw19
set_option linter.unusedVariables false
set_option linter.unusedSimpArgs false
namespace Go.Aw
section
variable {m : Names}
theorem nr_bool {a b : Bool} : NRel m (.bool a) (.bool b) ↔ a = b := ⟨fun h => by cases h; rfl, fun h => h ▸ .bool _⟩
theorem nr_int {k : IntKind} {a b : Int} : NRel m (.int k a) (.int k b) ↔ a = b := ⟨fun h => by cases h; rfl, fun h => h ▸ .int _ _⟩
theorem nr_string {a b : ByteArray} : NRel m (.string a) (.string b) ↔ a = b := ⟨fun h => by cases h; rfl, fun h => h ▸ .string _⟩
theorem nr_slice {i j o o' n n' c c' : Nat} : NRel m (.slice (some ⟨i, o, none⟩) n c) (.slice (some ⟨j, o', none⟩) n' c') ↔ m i = some j ∧ o = o' ∧ n = n' ∧ c = c' :=
  ⟨fun h => by cases h; rename_i h; exact ⟨h, rfl, rfl, rfl⟩, fun ⟨h, h1, h2, h3⟩ => by subst h1; subst h2; subst h3; exact .slice h⟩
theorem nr_nilSlice {n n' c c' : Nat} : NRel m (.slice none n c) (.slice none n' c') ↔ n = n' ∧ c = c' := ⟨fun h => by cases h; exact ⟨rfl, rfl⟩, fun ⟨h1, h2⟩ => by subst h1; subst h2; exact .nilSlice _ _⟩
theorem nr_ptr {i j o o' : Nat} : NRel m (.pointer (some ⟨i, o, none⟩)) (.pointer (some ⟨j, o', none⟩)) ↔ m i = some j ∧ o = o' :=
  ⟨fun h => by cases h; rename_i h; exact ⟨h, rfl⟩, fun ⟨h, h1⟩ => by subst h1; exact .ptr h⟩
theorem nr_nilPtr : NRel m (.pointer none) (.pointer none) ↔ True := ⟨fun _ => trivial, fun _ => .nilPtr⟩
theorem nr_map {i j : Nat} : NRel m (.map (some i)) (.map (some j)) ↔ m i = some j := ⟨fun h => by cases h; assumption, fun h => .map h⟩
theorem nr_nilMap : NRel m (.map none) (.map none) ↔ True := ⟨fun _ => trivial, fun _ => .nilMap⟩
theorem nr_nilFunc : NRel m .nilFunc .nilFunc ↔ True := ⟨fun _ => trivial, fun _ => .nilFunc⟩
theorem nr_nilIface : NRel m .nilIface .nilIface ↔ True := ⟨fun _ => trivial, fun _ => .nilIface⟩
theorem nr_iface {t : TypeId} {v v' : Value} : NRel m (.iface t v) (.iface t v') ↔ NRel m v v' := ⟨fun h => by cases h; assumption, fun h => .iface h⟩
theorem nr_agg {l l' : List Value} : NRel m (.agg ⟨l⟩) (.agg ⟨l'⟩) ↔ NRels m l l' := ⟨fun h => by cases h; assumption, fun h => .agg h⟩
theorem nr_tuple {l l' : List Value} : NRel m (.tuple ⟨l⟩) (.tuple ⟨l'⟩) ↔ NRels m l l' := ⟨fun h => by cases h; assumption, fun h => .tuple h⟩
theorem nr_func {f : FuncId} {a b a' b' : List Value} : NRel m (.func (.func f) ⟨a⟩ ⟨b⟩) (.func (.func f) ⟨a'⟩ ⟨b'⟩) ↔ NRels m a a' ∧ NRels m b b' := ⟨fun h => by cases h; exact ⟨by assumption, by assumption⟩, fun h => .func h.1 h.2⟩
theorem nr_yield {i j : Nat} {a b a' b' : List Value} : NRel m (.func (.yield i) ⟨a⟩ ⟨b⟩) (.func (.yield j) ⟨a'⟩ ⟨b'⟩) ↔ m i = some j ∧ NRels m a a' ∧ NRels m b b' := ⟨fun h => by cases h; exact ⟨by assumption, by assumption, by assumption⟩, fun h => .yield h.1 h.2.1 h.2.2⟩
theorem nrs_nil : NRels m [] [] ↔ True := ⟨fun _ => trivial, fun _ => .nil⟩
theorem nrs_cons {v v' : Value} {l l' : List Value} : NRels m (v :: l) (v' :: l') ↔ NRel m v v' ∧ NRels m l l' := ⟨fun h => by cases h; exact ⟨by assumption, by assumption⟩, fun h => .cons h.1 h.2⟩
theorem selN_0 {n : Nat} {sel : List Nat} : selN n sel n = (sel[0]?).map (n + ·) := by simp [selN]
theorem selN_k {n k : Nat} {sel : List Nat} : selN n sel (n + k) = (sel[k]?).map (n + ·) := by unfold selN; rw [if_neg (by omega), Nat.add_sub_cancel_left]
theorem selN_lt {n i : Nat} {sel : List Nat} (h : i < n) : selN n sel i = some i := by simp [selN, h]
theorem upto_lt {n i : Nat} (h : i < n) : upto n i = some i := by simp [upto, h]
theorem envIn_nil {e : List (Nat × Value)} {f : Value → Value → Prop} : envIn e f [] ↔ True := Iff.rfl
theorem envIn_cons {e : List (Nat × Value)} {f : Value → Value → Prop} {t : Nat} {v : Value} {r : List (Nat × Value)} : envIn e f ((t, v) :: r) ↔ wth (lk t e) (f v) ∧ envIn e f r := Iff.rfl
end

/-- One part behind A is kept. -/
theorem Weak.keep1 {A l : AHeap} {e1 e2 : List (Nat × Value)} {n : Nat} (k : Nat) (o : AObj) (hn : A.length = n) (hs : Scoped A) (hl : l[k]? = some o) (ho : bare o) (he : envIn e1 (NRel (selN A.length [k])) e2) : Weak n ⟨e1, [], A ++ l⟩ ⟨e2, [], A ++ [o]⟩ := by
  refine Weak.sel [k] [o] hn hs rfl (by simp) (fun j s hj => ?_) he .nil
  cases j with
  | zero => simp at hj; subst hj; exact ⟨o, o, hl, rfl, .of_bare ho⟩
  | succ j => simp at hj
theorem Weak.dropE {A l : AHeap} {e1 e2 : List (Nat × Value)} {n : Nat} (hn : A.length = n) (hs : Scoped A) (he : envIn e1 (NRel (upto A.length)) e2) : Weak n ⟨e1, [], A ++ l⟩ ⟨e2, [], A⟩ := Weak.drop hn hs he .nil

theorem bare_cells {cs : List Value} {k : CK} : bare (.cells cs k) ↔ cs.all scalar = true := Iff.rfl

theorem w64 (n : Nat) : IntKind.u64.wrap (n : Int) = ((n % 18446744073709551616 : Nat) : Int) := by rw [IntKind.wrap_u64]; omega
theorem w64mul (a b : Nat) : IntKind.u64.wrap ((a : Int) * (b : Int)) = ((a * b % 18446744073709551616 : Nat) : Int) := by rw [← Int.natCast_mul, w64]
theorem w64add (a b : Nat) : IntKind.u64.wrap ((a : Int) + (b : Int)) = ((((a + b) % 18446744073709551616) : Nat) : Int) := by rw [← Int.natCast_add, w64]
theorem w8 (n : Nat) : IntKind.u8.wrap (n : Int) = ((n % 256 : Nat) : Int) := by rw [IntKind.wrap_u8]; omega
theorem w8c (n : Nat) : IntKind.u8.wrap (n : Int) = ((UInt8.ofNat n).toNat : Int) := by rw [w8]; simp

/-! ### Appending to what is one's own -/
theorem appendTo_nil {P : Program} {e : TypeId} {size y n : Nat} {news : List Value} {H : AHeap} {K : Value → AHeap → Prop} (hn : n ≠ 0) (h1 : n * y ≤ 140737488355328) (h2 : n ≤ 4611686018427387904)
    (hk : K (.slice (some ⟨H.length, 0, none⟩) n n) (H ++ [.cells news ⟨e, size, true, 0, none⟩])) : appendTo P e size y (.slice none 0 0) n news H K := by
  unfold appendTo
  exact ⟨⟨rfl, rfl⟩, fun h => absurd h hn, fun _ => ⟨⟨h1, h2⟩, hk⟩⟩
theorem appendTo_own {P : Program} {e : TypeId} {size y n i len : Nat} {cs news : List Value} {H : AHeap} {K : Value → AHeap → Prop} (hi : H[i]? = some (.cells cs ⟨e, size, true, 0, none⟩)) (hs : size ≠ 0) (hl : cs.length = len * size) (hn : n ≠ 0) (h1 : (len + n) * y ≤ 140737488355328) (h2 : len + n ≤ 4611686018427387904)
    (hk : K (.slice (some ⟨H.length, 0, none⟩) (len + n) (len + n)) (H.set i .dead ++ [.cells (cs ++ news) ⟨e, size, true, 0, none⟩])) : appendTo P e size y (.slice (some ⟨i, 0, none⟩) len len) n news H K := by
  unfold appendTo
  dsimp only
  rw [hi]
  dsimp only
  refine ⟨fun h => by omega, fun _ => ⟨⟨by omega, h1, h2⟩, fun _ => ⟨⟨rfl, rfl, Nat.zero_le _, rfl⟩, ?_⟩, fun h => absurd ⟨hs, by rw [hl, Nat.zero_add]⟩ h⟩⟩
  rw [List.drop_zero, List.take_of_length_le (by omega)]
  exact hk
theorem repZ1 (z : List Value) : repZ 1 z = z := by simp [repZ]
end Go.Aw
