/-
  The abstract memory: places, values that are related, a heap of objects that is related to a world.
-/
import Derived.WalkKit
import Derived.RangeFuncIn
import Derived.RangeFuncLeaves
import Derived.OrdersIn
import Derived.Defers
import Derived.Recover
import Derived.KernelRfl
set_option linter.unusedVariables false
namespace Go.Aw

/-- Where an abstract object lies: its block, the cell at which it begins, its cells, the cells of an element, the elements of room behind it. -/
structure Place where
  block : Nat
  base : Nat
  size : Nat
  esz : Nat
  extra : Nat

abbrev Ctx := Nat → Option Place

mutual
/-- An abstract value (its blocks are names of abstract objects) and the model's value. -/
inductive VRel (c : Ctx) : Value → Value → Prop
  | bool (b : Bool) : VRel c (.bool b) (.bool b)
  | int (k : IntKind) (n : Int) : VRel c (.int k n) (.int k n)
  | float (k : FloatKind) (n : Nat) : VRel c (.float k n) (.float k n)
  | string (s : ByteArray) : VRel c (.string s) (.string s)
  | nilPtr : VRel c (.pointer none) (.pointer none)
  | ptr {i off : Nat} {p : Place} : c i = some p → VRel c (.pointer (some ⟨i, off, none⟩)) (.pointer (some ⟨p.block, p.base + off, none⟩))
  | nilSlice (l n : Nat) : VRel c (.slice none l n) (.slice none l n)
  | slice {i off len cap : Nat} {p : Place} : c i = some p → VRel c (.slice (some ⟨i, off, none⟩) len cap) (.slice (some ⟨p.block, p.base + off, none⟩) len cap)
  | sliceX {i off len cap : Nat} {p : Place} : c i = some p → off + cap * p.esz = p.size →
      VRel c (.slice (some ⟨i, off, none⟩) len cap) (.slice (some ⟨p.block, p.base + off, none⟩) len (cap + p.extra))
  | sliceZ {i off b x : Nat} {p : Place} : c i = some p → VRel c (.slice (some ⟨i, off, none⟩) 0 0) (.slice (some ⟨b, x, none⟩) 0 0)
  | nilMap : VRel c (.map none) (.map none)
  | map {i : Nat} {p : Place} : c i = some p → VRel c (.map (some i)) (.map (some p.block))
  | func {f f' : Fn} {xs ys xs' ys' : List Value} : FRel c f f' → VRels c xs xs' → VRels c ys ys' → VRel c (.func f ⟨xs⟩ ⟨ys⟩) (.func f' ⟨xs'⟩ ⟨ys'⟩)
  | nilFunc : VRel c .nilFunc .nilFunc
  | iface {t : TypeId} {v v' : Value} : VRel c v v' → VRel c (.iface t v) (.iface t v')
  | nilIface : VRel c .nilIface .nilIface
  | agg {xs xs' : List Value} : VRels c xs xs' → VRel c (.agg ⟨xs⟩) (.agg ⟨xs'⟩)
  | tuple {xs xs' : List Value} : VRels c xs xs' → VRel c (.tuple ⟨xs⟩) (.tuple ⟨xs'⟩)
inductive VRels (c : Ctx) : List Value → List Value → Prop
  | nil : VRels c [] []
  | cons {v v' : Value} {xs xs' : List Value} : VRel c v v' → VRels c xs xs' → VRels c (v :: xs) (v' :: xs')
inductive FRel (c : Ctx) : Fn → Fn → Prop
  | func (f : FuncId) : FRel c (.func f) (.func f)
  | method (n : String) : FRel c (.method n) (.method n)
  | methodOf (t : TypeId) (n : String) : FRel c (.methodOf t n) (.methodOf t n)
  | yield {i : Nat} {p : Place} : c i = some p → FRel c (.yield i) (.yield p.block)
end

def Ctx.le (c c' : Ctx) : Prop := ∀ i p, c i = some p → c' i = some p
theorem Ctx.le_refl (c : Ctx) : c.le c := fun _ _ h => h
theorem Ctx.le_trans {a b c : Ctx} (h : a.le b) (k : b.le c) : a.le c := fun i p e => k i p (h i p e)

theorem FRel.mono {c c' : Ctx} (h : c.le c') {f f' : Fn} (r : FRel c f f') : FRel c' f f' := by
  cases r with
  | func f => exact .func f
  | method n => exact .method n
  | methodOf t n => exact .methodOf t n
  | yield e => exact .yield (h _ _ e)

mutual
theorem VRel.mono {c c' : Ctx} (h : c.le c') : ∀ {v v' : Value}, VRel c v v' → VRel c' v v'
  | _, _, .bool b => .bool b
  | _, _, .int k n => .int k n
  | _, _, .float k n => .float k n
  | _, _, .string s => .string s
  | _, _, .nilPtr => .nilPtr
  | _, _, .ptr e => .ptr (h _ _ e)
  | _, _, .nilSlice l n => .nilSlice l n
  | _, _, .slice e => .slice (h _ _ e)
  | _, _, .sliceX e x => .sliceX (h _ _ e) x
  | _, _, .sliceZ e => .sliceZ (h _ _ e)
  | _, _, .nilMap => .nilMap
  | _, _, .map e => .map (h _ _ e)
  | _, _, .func f a b => .func (f.mono h) (VRels.mono h a) (VRels.mono h b)
  | _, _, .nilFunc => .nilFunc
  | _, _, .iface a => .iface (VRel.mono h a)
  | _, _, .nilIface => .nilIface
  | _, _, .agg a => .agg (VRels.mono h a)
  | _, _, .tuple a => .tuple (VRels.mono h a)
theorem VRels.mono {c c' : Ctx} (h : c.le c') : ∀ {v v' : List Value}, VRels c v v' → VRels c' v v'
  | _, _, .nil => .nil
  | _, _, .cons a b => .cons (VRel.mono h a) (VRels.mono h b)
end

theorem VRels.length {c : Ctx} : ∀ {xs ys : List Value}, VRels c xs ys → xs.length = ys.length
  | _, _, .nil => rfl
  | _, _, .cons _ b => by simp [VRels.length b]

theorem VRels.get {c : Ctx} : ∀ {xs ys : List Value}, VRels c xs ys → ∀ {k : Nat} {v : Value}, xs[k]? = some v → ∃ v', ys[k]? = some v' ∧ VRel c v v'
  | _, _, .nil, k, v, h => by simp at h
  | _, _, .cons a b, 0, v, h => by simp at h; subst h; exact ⟨_, rfl, a⟩
  | _, _, .cons a b, k + 1, v, h => by simpa using VRels.get b (by simpa using h)

theorem VRels.of_get {c : Ctx} : ∀ {xs ys : List Value}, xs.length = ys.length → (∀ (k : Nat) (v v' : Value), xs[k]? = some v → ys[k]? = some v' → VRel c v v') → VRels c xs ys
  | [], [], _, _ => .nil
  | [], _ :: _, h, _ => by simp at h
  | _ :: _, [], h, _ => by simp at h
  | x :: xs, y :: ys, h, hh => .cons (hh 0 x y rfl rfl) (VRels.of_get (by simpa using h) (fun k v v' a b => hh (k + 1) v v' (by simpa using a) (by simpa using b)))

theorem VRels.append {c : Ctx} : ∀ {xs ys xs' ys' : List Value}, VRels c xs xs' → VRels c ys ys' → VRels c (xs ++ ys) (xs' ++ ys')
  | _, _, _, _, .nil, h => h
  | _, _, _, _, .cons a b, h => .cons a (VRels.append b h)

theorem VRels.take {c : Ctx} : ∀ {xs xs' : List Value} (n : Nat), VRels c xs xs' → VRels c (xs.take n) (xs'.take n)
  | _, _, 0, _ => by simpa using VRels.nil
  | _, _, n + 1, .nil => by simpa using VRels.nil
  | _, _, n + 1, .cons a b => by simpa using VRels.cons a (VRels.take n b)

theorem VRels.drop {c : Ctx} : ∀ {xs xs' : List Value} (n : Nat), VRels c xs xs' → VRels c (xs.drop n) (xs'.drop n)
  | _, _, 0, h => by simpa using h
  | _, _, n + 1, .nil => by simpa using VRels.nil
  | _, _, n + 1, .cons a b => by simpa using VRels.drop n b

/-- What an object of cells is: the type that the block bears, the cells of an element (0: there is no room behind it), whether the call may write to it, how many cells at its head a string shares. -/
structure CK where
  e : TypeId
  esz : Nat
  own : Bool
  fz : Nat
  glob : Option Nat := none

/-- What is known of a temporary. -/
def lk (t : Nat) : List (Nat × Value) → Option Value
  | [] => none
  | (k, v) :: r => if k = t then some v else lk t r

@[simp] theorem lk_nil (t : Nat) : lk t [] = none := rfl
theorem lk_cons (t k : Nat) (v : Value) (r : List (Nat × Value)) : lk t ((k, v) :: r) = if k = t then some v else lk t r := rfl

/-- The record of a range over a function. -/
structure ALoop where
  state : LoopState
  pending : Option Code
  env : List (Nat × Value)
  n : Nat
  params : List Tmp
  assign : Code
  body : Code

inductive AObj where
  | dead
  | cells (cs : List Value) (k : CK)
  | loop (L : ALoop)
  | amap (es : List (Value × Value × Nat)) (clock : Nat) (own : Bool)

def AObj.own : AObj → Bool
  | .dead => false
  | .cells _ k => k.own
  | .loop _ => true
  | .amap _ _ own => own

def AObj.live : AObj → Bool
  | .dead => false
  | _ => true

abbrev AHeap := List AObj

def CellsRel (c : Ctx) (cs : List Value) (arr : Array Value) (base : Nat) : Prop :=
  ∀ k v, cs[k]? = some v → ∃ v', arr[base + k]? = some v' ∧ VRel c v v'

/-- The entries of a map: key and value related, the stamps the same. -/
def MapRel (c : Ctx) (es : List (Value × Value × Nat)) (ms : List MapEntry) : Prop :=
  VRels c (es.map (·.1)) (ms.map (·.key)) ∧ VRels c (es.map (·.2.1)) (ms.map (·.val)) ∧ ms.map (·.born) = es.map (·.2.2)

def ORel (c : Ctx) (p : Place) (w : World) : AObj → Prop
  | .dead => True
  | .cells cs k => p.size = cs.length ∧ p.esz = k.esz ∧ (k.esz = 0 → p.extra = 0) ∧ (∀ n, k.glob = some n → p.block = n ∧ p.base = 0 ∧ ∀ arr r, w.heap[p.block]? = some (.cells arr k.e r) → arr.size = cs.length) ∧ ∃ arr lo hi, w.heap[p.block]? = some (.cells arr k.e (lo, hi)) ∧ CellsRel c cs arr p.base ∧
      p.base + p.size + p.extra * p.esz ≤ arr.size ∧ (k.own = true → ∀ off, p.base + k.fz ≤ off → off < p.base + p.size + p.extra * p.esz → ¬ (lo ≤ off ∧ off < hi))
  | .loop L => ∃ r : Loop, w.heap[p.block]? = some (.loop r) ∧ r.state = L.state ∧ r.pending = L.pending ∧ r.params = ⟨L.params⟩ ∧ r.assign = L.assign ∧ r.body = L.body ∧ r.tmps.size = L.n ∧ ∀ t v, lk t L.env = some v → ∃ v', r.tmps[t]? = some v' ∧ VRel c v v'
  | .amap es clock _ => ∃ ms, w.heap[p.block]? = some (.map ms clock) ∧ MapRel c es ms.toList

structure HRel (c : Ctx) (H : AHeap) (w : World) : Prop where
  obj : ∀ i o, H[i]? = some o → o.live = true → ∃ p, c i = some p ∧ ORel c p w o
  sep : ∀ i j oi oj pi pj, i ≠ j → H[i]? = some oi → H[j]? = some oj → c i = some pi → c j = some pj → oi.own = true → oj.live = true → pi.block ≠ pj.block
  fresh : ∀ i, H.length ≤ i → c i = none

/-- The call may write to this block. -/
def Owns (c : Ctx) (H : AHeap) (b : Nat) : Prop := ∃ i o p, H[i]? = some o ∧ c i = some p ∧ o.own = true ∧ p.block = b

/-- From one state to a later one: the first n names keep their places; what is not owned keeps what it holds; what is owned was so, or is new. -/
structure Trans (n : Nat) (c : Ctx) (H : AHeap) (w : World) (c' : Ctx) (H' : AHeap) (w' : World) : Prop where
  names : ∀ i p, i < n → c i = some p → c' i = some p
  tape : w'.tape = w.tape
  os : w'.os = w.os
  output : w'.output = w.output
  size : w.heap.size ≤ w'.heap.size
  frame : ∀ b, b < w.heap.size → ¬ Owns c H b → w'.heap[b]? = w.heap[b]?
  owned : ∀ b, Owns c' H' b → Owns c H b ∨ w.heap.size ≤ b

theorem Trans.refl (n : Nat) (c : Ctx) (H : AHeap) (w : World) : Trans n c H w c H w :=
  ⟨fun _ _ _ h => h, rfl, rfl, rfl, Nat.le_refl _, fun _ _ _ => rfl, fun _ h => .inl h⟩

theorem Trans.trans {n : Nat} {c c' c'' : Ctx} {H H' H'' : AHeap} {w w' w'' : World} (h : Trans n c H w c' H' w') (k : Trans n c' H' w' c'' H'' w'') : Trans n c H w c'' H'' w'' where
  names i p hi e := k.names i p hi (h.names i p hi e)
  tape := k.tape.trans h.tape
  os := k.os.trans h.os
  output := k.output.trans h.output
  size := Nat.le_trans h.size k.size
  frame b hb hn := by
    rw [k.frame b (Nat.lt_of_lt_of_le hb h.size) (fun ho => ?_), h.frame b hb hn]
    rcases h.owned b ho with h' | h'
    · exact hn h'
    · omega
  owned b ho := by
    rcases k.owned b ho with h' | h'
    · exact h.owned b h'
    · exact .inr (Nat.le_trans h.size h')

theorem Trans.mono {n m : Nat} {c c' : Ctx} {H H' : AHeap} {w w' : World} (h : Trans n c H w c' H' w') (hm : m ≤ n) : Trans m c H w c' H' w' :=
  { h with names := fun i p hi e => h.names i p (by omega) e }

theorem HRel.lt {c : Ctx} {H : AHeap} {w : World} (h : HRel c H w) {i : Nat} {p : Place} (e : c i = some p) : i < H.length := by
  rcases Nat.lt_or_ge i H.length with h' | h'
  · exact h'
  · rw [h.fresh i h'] at e; cases e

/-- All names keep their places where the first H.length do. -/
theorem Trans.le {c c' : Ctx} {H H' : AHeap} {w w' : World} (h : Trans H.length c H w c' H' w') (hr : HRel c H w) : c.le c' :=
  fun i p e => h.names i p (hr.lt e) e

theorem ORel.block_lt {c : Ctx} {p : Place} {w : World} {o : AObj} (hl : o.live = true) (h : ORel c p w o) : p.block < w.heap.size := by
  cases o with
  | dead => cases hl
  | cells cs k => obtain ⟨_, _, _, _, arr, lo, hi, hb, _⟩ := h; exact (Array.getElem?_eq_some_iff.1 hb).1
  | loop L => obtain ⟨r, hb, _⟩ := h; exact (Array.getElem?_eq_some_iff.1 hb).1
  | amap es ck own => obtain ⟨ms, hb, _⟩ := h; exact (Array.getElem?_eq_some_iff.1 hb).1

theorem CellsRel.mono {c c' : Ctx} (h : c.le c') {cs : List Value} {arr : Array Value} {base : Nat} (r : CellsRel c cs arr base) : CellsRel c' cs arr base :=
  fun k v e => let ⟨v', h1, h2⟩ := r k v e; ⟨v', h1, h2.mono h⟩

/-- An object stays related where the names keep their places and its block what it holds. -/
theorem ORel.keep {c c' : Ctx} (h : c.le c') {p : Place} {w w' : World} {o : AObj} (hl : o.live = true) (hw : w'.heap[p.block]? = w.heap[p.block]?) (r : ORel c p w o) : ORel c' p w' o := by
  cases o with
  | dead => trivial
  | cells cs k =>
    obtain ⟨h1, h2, hx, hg, arr, lo, hi, hb, hc, h3, h4⟩ := r
    exact ⟨h1, h2, hx, fun n e => ⟨(hg n e).1, (hg n e).2.1, fun a r hh => (hg n e).2.2 a r (hw.symm.trans hh)⟩, arr, lo, hi, hw.trans hb, hc.mono h, h3, h4⟩
  | loop L =>
    obtain ⟨r, hb, h1, h2, h3, h4, h5, h6, h7⟩ := r
    exact ⟨r, hw.trans hb, h1, h2, h3, h4, h5, h6, fun t v e => let ⟨v', k1, k2⟩ := h7 t v e; ⟨v', k1, k2.mono h⟩⟩
  | amap es ck own =>
    obtain ⟨ms, hb, h1, h2, h3⟩ := r
    exact ⟨ms, hw.trans hb, VRels.mono h h1, VRels.mono h h2, h3⟩

end Go.Aw
