/-
  The operations, said of abstract states: memory, values, arithmetic.
-/
import Derived.Test.YtdeoaadkngiilaaDoorAw3
set_option linter.unusedVariables false
namespace Go.Aw

/-- Something is known, and of it holds f. -/
def wth {α : Type} (x : Option α) (f : α → Prop) : Prop :=
  match x with
  | some a => f a
  | none => False
theorem wth_some {α : Type} (a : α) (f : α → Prop) : wth (some a) f = f a := rfl
theorem wth_none {α : Type} (f : α → Prop) : wth none f = False := rfl
theorem wth_elim {α : Type} {x : Option α} {f : α → Prop} (h : wth x f) : ∃ a, x = some a ∧ f a := by
  cases x with
  | none => exact h.elim
  | some a => exact ⟨a, rfl, h⟩

def cellsOf (v : Value) : List Value := v.cells.toList
theorem cellsOf_agg (l : List Value) : cellsOf (.agg ⟨l⟩) = l := rfl
theorem cellsOf_int (k : IntKind) (n : Int) : cellsOf (.int k n) = [.int k n] := rfl
theorem cellsOf_bool (b : Bool) : cellsOf (.bool b) = [.bool b] := rfl
theorem cellsOf_string (s : ByteArray) : cellsOf (.string s) = [.string s] := rfl
theorem cellsOf_pointer (a : Option Addr) : cellsOf (.pointer a) = [.pointer a] := rfl
theorem cellsOf_slice (a : Option Addr) (n m : Nat) : cellsOf (.slice a n m) = [.slice a n m] := rfl
theorem cellsOf_map (a : Option Nat) : cellsOf (.map a) = [.map a] := rfl
theorem cellsOf_func (f : Fn) (x y : Array Value) : cellsOf (.func f x y) = [.func f x y] := rfl
theorem cellsOf_nilFunc : cellsOf .nilFunc = [.nilFunc] := rfl
theorem cellsOf_iface (t : TypeId) (v : Value) : cellsOf (.iface t v) = [.iface t v] := rfl
theorem cellsOf_nilIface : cellsOf .nilIface = [.nilIface] := rfl
theorem cellsOf_tuple (vs : Array Value) : cellsOf (.tuple vs) = [.tuple vs] := rfl

theorem VRel.cells {c : Ctx} {v v' : Value} (h : VRel c v v') : VRels c (cellsOf v) (cellsOf v') := by
  cases h <;> first
    | (rename_i h; exact h)
    | exact .cons (by constructor <;> assumption) .nil
    | (rename_i a b; exact .cons (.sliceX a b) .nil)
    | (rename_i a; exact .cons (.sliceZ a) .nil)

/-! ### The types' table -/
def tS (P : Program) (t : TypeId) : Option Nat := (P.info? t).map (·.size)
def tB (P : Program) (t : TypeId) : Option Nat := (P.info? t).map (·.bytes)
def tZ (P : Program) (t : TypeId) : Option (List Value) := (P.info? t).bind fun i => i.zero.map cellsOf
def tA (P : Program) (t : TypeId) : Option Bool := (P.underlying t).map fun | .struct _ | .array _ _ => true | _ => false

theorem run_sizeOf {P : Program} {t : TypeId} {n : Nat} (h : tS P t = some n) (w : World) : (sizeOf t).run P w = .ok n w := by
  unfold tS at h
  cases hi : P.info? t with
  | none => rw [hi] at h; cases h
  | some i => rw [hi] at h; simp at h; subst h; simp [sizeOf, typeInfo, hi]
theorem run_isAgg {P : Program} {t : TypeId} {b : Bool} (h : tA P t = some b) (w : World) : (isAgg t).run P w = .ok b w := by
  unfold tA at h
  cases hu : P.underlying t with
  | none => rw [hu] at h; cases h
  | some d =>
    rw [hu] at h; simp only [Option.map_some, Option.some.injEq] at h
    simp only [isAgg, Sem.run_bind, run_underlying hu, Result.andThen_ok]
    cases d <;> (subst h; rfl)
theorem run_zeroValue {P : Program} {t : TypeId} {z : List Value} (h : tZ P t = some z) (w : World) : ∃ v, (zeroValue t).run P w = .ok v w ∧ cellsOf v = z := by
  unfold tZ at h
  cases hi : P.info? t with
  | none => rw [hi] at h; cases h
  | some i =>
    rw [hi] at h
    cases hz : i.zero with
    | none => simp [hz] at h
    | some v => simp [hz] at h; exact ⟨v, by simp [zeroValue, typeInfo, hi, hz], h⟩

/-- What an operation gives. -/
def Gives (P : Program) (s : Sem Value) (c : Ctx) (H : AHeap) (w : World) (K : Value → AHeap → Prop) : Prop :=
  ∃ v' w', s.run P w = .ok v' w' ∧ ∃ v H' c', K v H' ∧ VRel c' v v' ∧ c.le c' ∧ HRel c' H' w' ∧ ∀ n, Trans n c H w c' H' w'

theorem Gives.pure {P : Program} {s : Sem Value} {c : Ctx} {H : AHeap} {w : World} {K : Value → AHeap → Prop} (h : HRel c H w) {v v' : Value} (hr : s.run P w = .ok v' w) (hv : VRel c v v') (hk : K v H) :
    Gives P s c H w K := ⟨v', w, hr, v, H, c, hk, hv, Ctx.le_refl c, h, fun n => .refl n c H w⟩

abbrev ptrTo (i off : Nat) : Value := .pointer (some ⟨i, off, none⟩)

/-! ### Reading and writing -/
def allocW (P : Program) (e : TypeId) (H : AHeap) (K : Value → AHeap → Prop) : Prop :=
  wth (tZ P e) fun z => z.all scalar = true ∧ K (ptrTo H.length 0) (H ++ [.cells z ⟨e, 0, true, 0, none⟩])

theorem allocW_ok {P : Program} {e : TypeId} {c : Ctx} {H : AHeap} {w : World} {K : Value → AHeap → Prop} (h : HRel c H w) (hw : allocW P e H K) : Gives P (Instr.alloc e true (.tuple #[])) c H w K := by
  obtain ⟨z, hz, hs, hk⟩ := wth_elim hw
  obtain ⟨v, hv, hc⟩ := run_zeroValue hz w
  obtain ⟨h1, h2, h3⟩ := h.alloc (VRels.of_scalars hs) e 0 0
  refine ⟨.pointer (some ⟨w.heap.size, 0, none⟩), _, ?_, _, _, _, hk, ?_, h3, h1, fun n => (h.alloc (VRels.of_scalars hs) e 0 n).2.1⟩
  · simp only [Instr.alloc, Sem.run_bind, hv, Result.andThen_ok]
    simp only [newVar, newRow, Sem.run_bind, run_newObj, Result.andThen_ok, Sem.run_pure]
    rw [← hc]
    rfl
  · exact .ptr (p := ⟨w.heap.size, 0, z.length, 0, 0⟩) (by simp)

def boxW (e : TypeId) (v : Value) (H : AHeap) (K : Value → AHeap → Prop) : Prop := K (ptrTo H.length 0) (H ++ [.cells (cellsOf v) ⟨e, 0, true, 0, none⟩])

theorem boxW_ok {P : Program} {e : TypeId} {c : Ctx} {H : AHeap} {w : World} {K : Value → AHeap → Prop} (h : HRel c H w) {v v' : Value} (hv : VRel c v v') (hw : boxW e v H K) : Gives P (Instr.box e v') c H w K := by
  obtain ⟨h1, h2, h3⟩ := h.alloc hv.cells e 0 0
  refine ⟨.pointer (some ⟨w.heap.size, 0, none⟩), _, ?_, _, _, _, hw, ?_, h3, h1, fun n => (h.alloc hv.cells e 0 n).2.1⟩
  · simp only [Instr.box, newVar, newRow, Sem.run_bind, run_newObj, Result.andThen_ok, Sem.run_pure]
    rfl
  · exact .ptr (p := ⟨w.heap.size, 0, (cellsOf v).length, 0, 0⟩) (by simp)

/-- The cells from a place on, read one by one. -/
theorem run_cells {P : Program} {w : World} {b o : Nat} : ∀ {l l' : List Value} (acc : Array Value) (i : Nat), (∀ j v', l'[j]? = some v' → w.cell? ⟨b, o + i + j, none⟩ = some v') →
    (loadCellsFrom ⟨b, o, none⟩ i l'.length acc).run P w = .ok (acc ++ l'.toArray) w := by
  intro l l'
  induction l' with
  | nil => intro acc i _; simp [loadCellsFrom]
  | cons v l' ih =>
    intro acc i h
    have h0 := h 0 v rfl
    have ha : (⟨b, o, none⟩ : Addr).add i = ⟨b, o + i, none⟩ := by unfold Addr.add; split <;> simp_all
    simp only [List.length_cons, loadCellsFrom, Sem.run_bind, run_load, ha]
    rw [show o + i = o + i + 0 from rfl, h0]
    simp only [Result.andThen_ok]
    rw [ih (acc.push v) (i + 1) (fun j v' e => by have := h (j + 1) v' (by simpa using e); rwa [show o + i + (j + 1) = o + (i + 1) + j from by omega] at this)]
    simp

theorem HRel.cellsAt' {c : Ctx} {H : AHeap} {w : World} (h : HRel c H w) {i : Nat} {cs : List Value} {k : CK} (hi : H[i]? = some (.cells cs k)) {p : Place} (hc : c i = some p) (off n : Nat) (hn : off + n ≤ cs.length) :
    ∃ l', l'.length = n ∧ VRels c ((cs.drop off).take n) l' ∧ ∀ j v', l'[j]? = some v' → w.cell? ⟨p.block, p.base + off + j, none⟩ = some v' := by
  have hcell : ∀ j (hj : j < n), ∃ v', w.cell? ⟨p.block, p.base + (off + j), none⟩ = some v' ∧ VRel c (cs[off + j]'(by omega)) v' := fun j hj => h.cell hi hc (List.getElem?_eq_getElem (by omega))
  refine ⟨(List.finRange n).map fun j => Classical.choose (hcell j.1 j.2), by simp, ?_, ?_⟩
  · refine VRels.of_get (by simp; omega) (fun k v v' e e' => ?_)
    have hk : k < n := by have := (List.getElem?_eq_some_iff.1 e').1; simpa using this
    rw [List.getElem?_take_of_lt hk, List.getElem?_drop, List.getElem?_eq_getElem (by omega)] at e
    cases e
    simp [hk] at e'
    subst e'
    exact (Classical.choose_spec (hcell k hk)).2
  · intro j v' e
    have hj : j < n := by have := (List.getElem?_eq_some_iff.1 e).1; simpa using this
    simp [hj] at e
    subst e
    have := (Classical.choose_spec (hcell j hj)).1
    rwa [show p.base + off + j = p.base + (off + j) from by omega]

theorem HRel.cellsAt {c : Ctx} {H : AHeap} {w : World} (h : HRel c H w) {i : Nat} {cs : List Value} {k : CK} (hi : H[i]? = some (.cells cs k)) {p : Place} (hc : c i = some p) (off n : Nat) (hn : off + n ≤ cs.length) :
    ∃ l', l'.length = n ∧ VRels c ((cs.drop off).take n) l' ∧ ∀ (P : Program) (acc : Array Value), (loadCellsFrom ⟨p.block, p.base + off, none⟩ 0 n acc).run P w = .ok (acc ++ l'.toArray) w := by
  obtain ⟨l', hl, hv, hcell⟩ := h.cellsAt' hi hc off n hn
  refine ⟨l', hl, hv, fun P acc => ?_⟩
  rw [← hl]
  exact run_cells (l := []) acc 0 (fun j v' e => by simpa using hcell j v' e)

def loadW (P : Program) (t : TypeId) (a : Value) (H : AHeap) (K : Value → AHeap → Prop) : Prop :=
  match a with
  | .pointer (some ⟨i, off, none⟩) =>
    match H[i]? with
    | some (.cells cs _) => wth (tA P t) fun agg =>
        if agg = true then wth (tS P t) fun n => off + n ≤ cs.length ∧ K (.agg ⟨(cs.drop off).take n⟩) H
        else wth cs[off]? fun v => K v H
    | _ => False
  | _ => False

theorem loadW_ok {P : Program} {t : TypeId} {c : Ctx} {H : AHeap} {w : World} {K : Value → AHeap → Prop} (h : HRel c H w) {a a' : Value} (ha : VRel c a a') (hw : loadW P t a H K) : Gives P (Instr.loadAt t a') c H w K := by
  unfold loadW at hw
  split at hw
  · rename_i i off
    split at hw
    · rename_i cs k hi
      obtain ⟨agg, hagg, hw⟩ := wth_elim hw
      cases ha with
      | ptr hc =>
        rename_i p
        have hsure : ∀ w, (Instr.sureAddr (.pointer (some ⟨p.block, p.base + off, none⟩))).run P w = .ok ⟨p.block, p.base + off, none⟩ w := fun _ => rfl
        cases agg with
        | true =>
          simp only [if_true] at hw
          obtain ⟨n, hn, hle, hk⟩ := wth_elim hw
          obtain ⟨l', hl', hv, hrun⟩ := h.cellsAt hi hc off n hle
          refine .pure h (v' := .agg ⟨l'⟩) ?_ (.agg hv) hk
          simp only [Instr.loadAt, loadVar, Sem.run_bind, hsure, Result.andThen_ok, run_isAgg hagg, if_true, run_sizeOf hn, loadCells, hrun, Sem.run_pure]
          simp
        | false =>
          simp only [Bool.false_eq_true, if_false] at hw
          obtain ⟨v, hv, hk⟩ := wth_elim hw
          obtain ⟨v', hc1, hc2⟩ := h.cell hi hc hv
          refine .pure h (v' := v') ?_ hc2 hk
          simp only [Instr.loadAt, loadVar, Sem.run_bind, hsure, Result.andThen_ok, run_isAgg hagg, Bool.false_eq_true, if_false, run_load, hc1]
    · exact hw.elim
  · exact hw.elim

/-- The cells of l from a place on. -/
def putCells (cs : List Value) (off : Nat) : List Value → List Value
  | [] => cs
  | v :: r => putCells (cs.set off v) (off + 1) r

theorem putCells_length (l : List Value) : ∀ (cs : List Value) (off : Nat), (putCells cs off l).length = cs.length := by
  induction l with
  | nil => intro cs off; rfl
  | cons v r ih => intro cs off; simp [putCells, ih]

def ownW (k : CK) (off : Nat) : Prop := k.own = true ∧ k.fz ≤ off

theorem oneCell_of {c : Ctx} {v v' : Value} (h : VRel c v v') (hv : (∀ l, v ≠ .agg l) ∧ ∀ l, v ≠ .tuple l) : v'.oneCell' = true := by
  cases h <;> first
    | rfl
    | exact absurd rfl (hv.1 _)
    | exact absurd rfl (hv.2 _)

def flat : Value → Bool
  | .agg _ | .tuple _ => false
  | _ => true
theorem flat_ne {v : Value} (h : flat v = true) : (∀ l, v ≠ .agg l) ∧ ∀ l, v ≠ .tuple l := by
  constructor <;> (intro l e; subst e; cases h)

theorem run_storeCellsA {P : Program} {c : Ctx} {i : Nat} {k : CK} {p : Place} (hk : k.own = true) (hc : c i = some p) : ∀ {l l' : List Value}, VRels c l l' → l.all flat = true → ∀ (cs : List Value) (H : AHeap) (w : World) (off j : Nat), HRel c H w → H[i]? = some (.cells cs k) → off + j + l.length ≤ cs.length → k.fz ≤ off + j →
    ∃ w', (storeCells ⟨p.block, p.base + off, none⟩ l' j).run P w = .ok () w' ∧ HRel c (H.set i (.cells (putCells cs (off + j) l) k)) w' ∧ ∀ n, Trans n c H w c (H.set i (.cells (putCells cs (off + j) l) k)) w'
  | _, _, .nil, _, cs, H, w, off, j, h, hi, _, _ => by
    have hlt : i < H.length := (List.getElem?_eq_some_iff.1 hi).1
    have : H.set i (.cells cs k) = H := by
      apply List.ext_getElem?
      intro m
      by_cases hm : m = i
      · subst hm; rw [List.getElem?_set_self hlt, hi]
      · rw [List.getElem?_set_ne (Ne.symm hm)]
    simp only [putCells, this]
    exact ⟨w, rfl, h, fun n => .refl n c H w⟩
  | v :: l, v' :: l', .cons hv hvs, hfl, cs, H, w, off, j, h, hi, hle, hf => by
    simp only [List.all_cons, Bool.and_eq_true] at hfl
    simp only [List.length_cons] at hle
    have hlt : i < H.length := (List.getElem?_eq_some_iff.1 hi).1
    have ha : (⟨p.block, p.base + off, none⟩ : Addr).add j = ⟨p.block, p.base + (off + j), none⟩ := by unfold Addr.add; split <;> simp_all <;> omega
    obtain ⟨⟨u, hu⟩, hfr, h1, ht1⟩ := h.setCell hi hk hc (off := off + j) (by omega) hf hv 0
    have hone := oneCell_of hv (flat_ne hfl.1)
    obtain ⟨w', hr, h2, ht2⟩ := run_storeCellsA (P := P) hk hc hvs (by simpa using hfl.2) (cs.set (off + j) v) _ _ off (j + 1) h1 (List.getElem?_set_self hlt) (by simp; omega) (by omega)
    refine ⟨w', ?_, ?_, fun n => ?_⟩
    · simp only [storeCells, Sem.run_bind, ha]
      rw [run_store P w _ v' .plain hone, hu]
      simp only [hfr, Bool.false_eq_true, if_false, Result.andThen_ok]
      exact hr
    · simpa [List.set_set, putCells, Nat.add_assoc] using h2
    · have t1 := (h.setCell hi hk hc (off := off + j) (by omega) hf hv n).2.2.2
      have := t1.trans (ht2 n)
      simpa [List.set_set, putCells, Nat.add_assoc] using this

def storeW (P : Program) (t : TypeId) (a v : Value) (H : AHeap) (K : AHeap → Prop) : Prop :=
  match a with
  | .pointer (some ⟨i, off, none⟩) =>
    match H[i]? with
    | some (.cells cs k) => tS P t = some (cellsOf v).length ∧ (cellsOf v).all flat = true ∧ ownW k off ∧ off + (cellsOf v).length ≤ cs.length ∧ K (H.set i (.cells (putCells cs off (cellsOf v)) k))
    | _ => False
  | _ => False

theorem storeW_ok {P : Program} {t : TypeId} {c : Ctx} {H : AHeap} {w : World} {K : AHeap → Prop} (h : HRel c H w) {a a' v v' : Value} (ha : VRel c a a') (hv : VRel c v v') (hw : storeW P t a v H K) :
    ∃ w' H', (Instr.storeAt t a' v').run P w = .ok () w' ∧ K H' ∧ HRel c H' w' ∧ ∀ n, Trans n c H w c H' w' := by
  unfold storeW at hw
  split at hw
  · rename_i i off
    split at hw
    · rename_i cs k hi
      obtain ⟨hs, hfl, ⟨hk, hf⟩, hle, hkk⟩ := hw
      cases ha with
      | ptr hc =>
        rename_i p
        obtain ⟨w', hr, h1, ht⟩ := run_storeCellsA (P := P) hk hc hv.cells hfl cs H w off 0 h hi (by omega) (by omega)
        refine ⟨w', _, ?_, hkk, by simpa using h1, by simpa using ht⟩
        have hsure : ∀ w, (Instr.sureAddr (.pointer (some ⟨p.block, p.base + off, none⟩))).run P w = .ok ⟨p.block, p.base + off, none⟩ w := fun _ => rfl
        have hsz : v'.cells.size = (cellsOf v).length := by rw [hv.cells.length]; rfl
        simp only [Instr.storeAt, storeVar, Sem.run_bind, hsure, Result.andThen_ok, run_sizeOf hs, hsz, ne_eq, not_true_eq_false, if_false]
        exact hr
    · exact hw.elim
  · exact hw.elim
end Go.Aw
