/-
  The operations, said of abstract states: conversions, literals, make, append, copy, len, min, max.
-/
import Derived.Test.YtdeoaadkngiilaaDoorAw6
import Derived.Deep.AppendSrc
set_option linter.unusedVariables false
set_option linter.unusedSimpArgs false
namespace Go.Aw

/-! ### Bytes -/
def bytesC (l : List UInt8) : List Value := l.map fun b => .int .u8 b.toNat
theorem bytesC_length (l : List UInt8) : (bytesC l).length = l.length := by simp [bytesC]
theorem bytesC_scalar (l : List UInt8) : (bytesC l).all scalar = true := by simp [bytesC, scalar]
theorem bytesC_flat (l : List UInt8) : (bytesC l).all flat = true := by
  induction l with
  | nil => rfl
  | cons b l ih => simp only [bytesC, List.map_cons, List.all_cons, flat, Bool.true_and] at *; exact ih
def u8s : List Value → Option (List UInt8)
  | [] => some []
  | .int .u8 n :: r => (u8s r).map (UInt8.ofNat n.toNat :: ·)
  | _ => none
theorem u8s_bytesC (l : List UInt8) : u8s (bytesC l) = some l := by
  induction l with
  | nil => rfl
  | cons b l ih => simp only [bytesC, List.map_cons, u8s] at *; rw [ih]; simp
theorem u8s_ints {l : List Value} {r : List UInt8} (h : u8s l = some r) : ∃ ns : List Int, l = ns.map (Value.int .u8) ∧ r = ns.map fun n => UInt8.ofNat n.toNat := by
  induction l generalizing r with
  | nil => simp [u8s] at h; subst h; exact ⟨[], rfl, rfl⟩
  | cons v l ih =>
    cases v <;> try (simp [u8s] at h; done)
    rename_i k n
    cases k <;> try (simp [u8s] at h; done)
    simp only [u8s] at h
    cases hr : u8s l with
    | none => simp [hr] at h
    | some r' =>
      simp [hr] at h; subst h
      obtain ⟨ns, rfl, rfl⟩ := ih hr
      exact ⟨n :: ns, rfl, rfl⟩
theorem VRels.ints {c : Ctx} {ns : List Int} {l : List Value} (h : VRels c (ns.map (Value.int .u8)) l) : l = ns.map (Value.int .u8) := by
  induction ns generalizing l with
  | nil => cases h; rfl
  | cons n ns ih => cases h with | cons a b => cases a; rw [ih b]; rfl

/-! ### Conversions -/
def convW (P : Program) (src dst : TypeId) (x : Value) (H : AHeap) (K : Value → AHeap → Prop) : Prop :=
  match P.underlying src, P.underlying dst, x with
  | some _, some (.int k), .int _ n => K (.int k (k.wrap n)) H
  | some _, some .string, .int _ n => K (.string (Utf8.encode n)) H
  | some _, some .string, .string s => K (.string s) H
  | some .string, some (.slice e), .string s => P.underlying e = some (.int .u8) ∧ K (.slice (some ⟨H.length, 0, none⟩) s.data.toList.length s.data.toList.length) (H ++ [.cells (bytesC s.data.toList) ⟨e, 1, true, 0, none⟩])
  | some (.slice e), some .string, .slice none _ _ => P.underlying e = some (.int .u8) ∧ K (.string ByteArray.empty) H
  | some (.slice e), some .string, .slice (some ⟨i, off, none⟩) len _ => P.underlying e = some (.int .u8) ∧
    (match H[i]? with
    | some (.cells cs _) => off + len ≤ cs.length ∧ wth (u8s ((cs.drop off).take len)) fun l => K (.string (bs l)) H
    | _ => False)
  | _, _, _ => False

theorem foldl_push (ns : List Int) : ∀ (r : ByteArray), (ns.foldl (fun r n => r.push (UInt8.ofNat n.toNat)) r) = ⟨⟨r.data.toList ++ ns.map fun n => UInt8.ofNat n.toNat⟩⟩ := by
  induction ns with
  | nil => intro r; simp
  | cons n ns ih => intro r; simp only [List.foldl_cons, ih]; simp [ByteArray.push]

theorem convW_ok {P : Program} {src dst : TypeId} {c : Ctx} {H : AHeap} {w : World} {K : Value → AHeap → Prop} (h : HRel c H w) {x x' : Value} (hx : VRel c x x') (hw : convW P src dst x H K) : Gives P (convert src dst x') c H w K := by
  unfold convW at hw
  split at hw
  · rename_i hs hd; cases hx
    refine .pure h ?_ (.int _ _) hw
    simp only [convert, Sem.run_bind, run_underlying hs, run_underlying hd, Result.andThen_ok, Conv.intToInt]
    rfl
  · rename_i hs hd; cases hx
    refine .pure h ?_ (.string _) hw
    simp only [convert, Sem.run_bind, run_underlying hs, run_underlying hd, Result.andThen_ok, Conv.intToString]
    rfl
  · rename_i hs hd; cases hx
    refine .pure h ?_ (.string _) hw
    simp only [convert, Sem.run_bind, run_underlying hs, run_underlying hd, Result.andThen_ok]
    rfl
  · rename_i e s hs hd; cases hx
    obtain ⟨he, hk⟩ := hw
    -- the block that the model lays
    obtain ⟨cap, hcapd⟩ : ∃ cap, cap = grownCap w s.size 0 e := ⟨_, rfl⟩
    have hcap : s.size ≤ cap := by rw [hcapd]; exact grownCap_ge w s.size 0 e
    obtain ⟨arr, harrd⟩ : ∃ arr, arr = bytesRow s cap := ⟨_, rfl⟩
    have hsz : s.data.size = s.size := rfl
    have harr : arr.size = cap := by rw [harrd]; simp [bytesRow]; omega
    obtain ⟨w', hw'⟩ : ∃ w', w' = w.drew.alloc (.cells arr e (cap, cap + 1)) := ⟨_, rfl⟩
    have hlen : s.data.toList.length = s.size := by simp
    have hrun : (convert src dst (.string s)).run P w = .ok (.slice (some ⟨w.heap.size, 0, none⟩) s.size cap) w' := by
      rw [run_bytes_of_string w src dst e s hs hd he, ← hcapd, ← harrd, harr, hw']
    have hnew : w'.heap[w.heap.size]? = some (.cells arr e (cap, cap + 1)) := by rw [hw']; show (w.heap.push _)[w.heap.size]? = _; simp
    have hold : ∀ b, b < w.heap.size → w'.heap[b]? = w.heap[b]? := fun b hb => by rw [hw']; show (w.heap.push _)[b]? = _; rw [Array.getElem?_push, if_neg (by omega)]
    have hsame : WSame w w' := by rw [hw']; exact ⟨rfl, rfl, rfl⟩
    have hsize : w.heap.size ≤ w'.heap.size := by rw [hw']; simp
    clear hw'
    have horel : ORel (c.add H.length ⟨w.heap.size, 0, s.data.toList.length, 1, cap - s.size⟩) ⟨w.heap.size, 0, s.data.toList.length, 1, cap - s.size⟩ w' (.cells (bytesC s.data.toList) ⟨e, 1, true, 0, none⟩) := by
      refine ⟨by simp [bytesC], rfl, fun h => (by cases h), fun n h => (by cases h), arr, cap, cap + 1, hnew, ?_, by simp only [hlen, harr]; omega, fun _ off _ ho => by simp only [hlen] at ho; omega⟩
      intro k v e
      have hk : k < s.data.size := by have := (List.getElem?_eq_some_iff.1 e).1; simpa [bytesC] using this
      have hb : bytesC s.data.toList = (s.data.map fun b => Value.int .u8 b.toNat).toList := by simp [bytesC]
      rw [hb] at e
      refine ⟨v, ?_, ?_⟩
      · simp only [Nat.zero_add, harrd, bytesRow]
        rw [Array.getElem?_append_left (by simpa using hk)]
        simpa using e
      · simp at e; obtain ⟨b, _, rfl⟩ := e; exact .int _ _
    obtain ⟨h1, h2, h3⟩ := h.extend hsame hsize hold (Nat.le_refl _) horel 0
    refine ⟨_, w', hrun, _, _, _, hk, ?_, h3, h1, fun n => { h2 with names := fun i p _ e => h3 i p e }⟩
    have := VRel.sliceX (c := c.add H.length ⟨w.heap.size, 0, s.data.toList.length, 1, cap - s.size⟩) (i := H.length) (off := 0) (len := s.data.toList.length) (cap := s.data.toList.length) (Ctx.add_self _ _ _) (by simp)
    simp only [Nat.zero_add] at this
    rwa [hlen, show s.size + (cap - s.size) = cap from by omega] at this
  · rename_i e l n hs hd; cases hx
    obtain ⟨he, hk⟩ := hw
    refine .pure h ?_ (.string _) hk
    rw [run_convert_bytes_string w src dst e _ _ _ hs he hd]
    rfl
  · rename_i e i off len cap hs hd
    obtain ⟨he, hw⟩ := hw
    split at hw
    · rename_i cs k hi
      obtain ⟨hle, hw⟩ := hw
      obtain ⟨l, hl, hk⟩ := wth_elim hw
      obtain ⟨ns, e1, e2⟩ := u8s_ints hl
      have key : ∀ (p : Place) cap', c i = some p → Gives P (convert src dst (.slice (some ⟨p.block, p.base + off, none⟩) len cap')) c H w K := fun p cap' hc => by
        obtain ⟨l', hl', hv, hrun⟩ := h.cellsAt hi hc off len hle
        rw [e1] at hv
        have := hv.ints
        subst this
        refine .pure h ?_ (.string _) hk
        rw [run_convert_bytes_string w src dst e _ _ _ hs he hd, run_bytesToString w _ len cap' ns (by simpa [loadCells] using hrun P #[]), foldl_push, e2]
        rfl
      cases hx with
      | slice hc => exact key _ _ hc
      | sliceX hc _ => exact key _ _ hc
      | sliceZ hc =>
        have : ns = [] := by simpa using e1.symm
        subst this
        simp at e2
        subst e2
        refine .pure h ?_ (.string _) hk
        rw [run_convert_bytes_string w src dst e _ _ _ hs he hd]
        rfl
    · exact hw.elim
  · exact hw.elim
/-! ### Values -/
def ifaceW (P : Program) (t : TypeId) (v : Value) (H : AHeap) (K : Value → AHeap → Prop) : Prop := P.concrete t = true ∧ K (.iface t v) H
theorem ifaceW_ok {P : Program} {t : TypeId} {c : Ctx} {H : AHeap} {w : World} {K : Value → AHeap → Prop} (h : HRel c H w) {v v' : Value} (hv : VRel c v v') (hw : ifaceW P t v H K) : Gives P (Instr.makeInterface t v') c H w K :=
  .pure h (run_makeInterface w t v' hw.1) (.iface hv) hw.2

def extractW (v : Value) (ix : Nat) (H : AHeap) (K : Value → AHeap → Prop) : Prop :=
  match v with
  | .tuple ⟨l⟩ => wth l[ix]? fun u => K u H
  | _ => False
theorem extractW_ok {P : Program} {ix : Nat} {c : Ctx} {H : AHeap} {w : World} {K : Value → AHeap → Prop} (h : HRel c H w) {v v' : Value} (hv : VRel c v v') (hw : extractW v ix H K) : Gives P (Instr.extract v' ix) c H w K := by
  unfold extractW at hw
  split at hw
  · obtain ⟨u, hu, hk⟩ := wth_elim hw
    cases hv with
    | tuple hl =>
      obtain ⟨u', h1, h2⟩ := hl.get hu
      refine .pure h (v' := u') ?_ h2 hk
      simp [Instr.extract, h1]
  · exact hw.elim

/-- The zero value of a type, as a value. -/
def tV (P : Program) (t : TypeId) : Option Value := (P.info? t).bind (·.zero)
theorem run_zeroV {P : Program} {t : TypeId} {z : Value} (h : tV P t = some z) (w : World) : (zeroValue t).run P w = .ok z w := by
  unfold tV at h
  cases hi : P.info? t with
  | none => rw [hi] at h; cases h
  | some i => rw [hi] at h; simp at h; simp [zeroValue, typeInfo, hi, h]

def missing (P : Program) (want : Array (String × TypeId)) (t : TypeId) : Option Bool := (P.info? t).map fun i => (Instr.missingMethod want i.methods).isSome

def assertW (P : Program) (x : Value) (xt t : TypeId) (ok : Bool) (H : AHeap) (K : Value → AHeap → Prop) : Prop :=
  match P.underlying t, x with
  | some (.interface want), .iface u v => wth (missing P want u) fun m => if m = true then ok = true ∧ wth (tV P t) fun z => plain z = true ∧ K (.tuple ⟨[z, .bool false]⟩) H else K (if ok = true then .tuple ⟨[.iface u v, .bool true]⟩ else .iface u v) H
  | some (.interface _), .nilIface => ok = true ∧ wth (tV P t) fun z => plain z = true ∧ K (.tuple ⟨[z, .bool false]⟩) H
  | some _, .nilIface => ok = true ∧ wth (tV P t) fun z => plain z = true ∧ K (.tuple ⟨[z, .bool false]⟩) H
  | some _, .iface u v => if u = t then K (if ok = true then .tuple ⟨[v, .bool true]⟩ else v) H else ok = true ∧ wth (tV P t) fun z => plain z = true ∧ K (.tuple ⟨[z, .bool false]⟩) H
  | _, _ => False

theorem assertW_ok {P : Program} {t xt : TypeId} {ok : Bool} {c : Ctx} {H : AHeap} {w : World} {K : Value → AHeap → Prop} (h : HRel c H w) {x x' : Value} (hx : VRel c x x') (hw : assertW P x xt t ok H K) : Gives P (Instr.typeAssert x' xt t ok) c H w K := by
  unfold assertW at hw
  split at hw
  · rename_i want u v hu
    obtain ⟨m, hm, hw⟩ := wth_elim hw
    cases hx with
    | iface hv =>
      rename_i v'
      unfold missing at hm
      cases hi : P.info? u with
      | none => rw [hi] at hm; cases hm
      | some i =>
        rw [hi] at hm; simp only [Option.map_some, Option.some.injEq] at hm
        cases hmm : Instr.missingMethod want i.methods with
        | none =>
          rw [hmm] at hm; subst hm
          simp only [Option.isSome_none, Bool.false_eq_true, if_false] at hw
          refine .pure h (v' := if ok = true then .tuple ⟨[.iface u v', .bool true]⟩ else .iface u v') ?_ ?_ hw
          · simp only [Instr.typeAssert, Sem.run_bind, run_underlying hu, Result.andThen_ok, typeInfo, run_program, hi, Sem.run_pure, hmm]
          · cases ok
            · exact .iface hv
            · exact .tuple (.cons (.iface hv) (.cons (.bool _) .nil))
        | some s =>
          rw [hmm] at hm; subst hm
          simp only [Option.isSome_some, if_true] at hw
          obtain ⟨hok, hw⟩ := hw
          obtain ⟨z, hz, hp, hk⟩ := wth_elim hw
          refine .pure h (v' := .tuple ⟨[z, .bool false]⟩) ?_ (.tuple (.cons (.of_plain hp) (.cons (.bool _) .nil))) hk
          simp only [Instr.typeAssert, Sem.run_bind, run_underlying hu, Result.andThen_ok, typeInfo, run_program, hi, Sem.run_pure, hmm, hok, if_true, run_zeroV hz]
  · rename_i want hu
    obtain ⟨hok, hw⟩ := hw
    obtain ⟨z, hz, hp, hk⟩ := wth_elim hw
    cases hx
    refine .pure h (v' := .tuple ⟨[z, .bool false]⟩) ?_ (.tuple (.cons (.of_plain hp) (.cons (.bool _) .nil))) hk
    simp only [Instr.typeAssert, Sem.run_bind, run_underlying hu, Result.andThen_ok, Sem.run_pure, hok, if_true, run_zeroV hz]
  · rename_i d hni hu
    obtain ⟨hok, hw⟩ := hw
    obtain ⟨z, hz, hp, hk⟩ := wth_elim hw
    cases hx
    refine .pure h (v' := .tuple ⟨[z, .bool false]⟩) ?_ (.tuple (.cons (.of_plain hp) (.cons (.bool _) .nil))) hk
    cases d <;> first
      | (exact (hni _ rfl).elim)
      | (simp only [Instr.typeAssert, Sem.run_bind, run_underlying hu, Result.andThen_ok, Sem.run_pure, hok, if_true, run_zeroV hz])
  · rename_i d u v hni hu
    cases hx with
    | iface hv =>
      rename_i v'
      by_cases hut : u = t
      · rw [if_pos hut] at hw
        refine .pure h (v' := if ok = true then .tuple ⟨[v', .bool true]⟩ else v') ?_ ?_ hw
        · cases d <;> first
            | (exact (hni _ rfl).elim)
            | (simp only [Instr.typeAssert, Sem.run_bind, run_underlying hu, Result.andThen_ok, Sem.run_pure, hut, if_true])
        · cases ok
          · exact hv
          · exact .tuple (.cons hv (.cons (.bool _) .nil))
      · rw [if_neg hut] at hw
        obtain ⟨hok, hw⟩ := hw
        obtain ⟨z, hz, hp, hk⟩ := wth_elim hw
        refine .pure h (v' := .tuple ⟨[z, .bool false]⟩) ?_ (.tuple (.cons (.of_plain hp) (.cons (.bool _) .nil))) hk
        cases d <;> first
          | (exact (hni _ rfl).elim)
          | (simp only [Instr.typeAssert, Sem.run_bind, run_underlying hu, Result.andThen_ok, Sem.run_pure, hut, if_false, hok, if_true, run_zeroV hz])
  · exact hw.elim

/-! ### Literals -/
def fillL (place : Nat → Option (Nat × Nat)) (cells : List Value) : List (Nat × Value) → Option (List Value)
  | [] => some cells
  | (i, v) :: r => (place i).bind fun p => if (cellsOf v).length = p.2 ∧ p.1 + p.2 ≤ cells.length then fillL place (putCells cells p.1 (cellsOf v)) r else none

inductive PRels (c : Ctx) : List (Nat × Value) → List (Nat × Value) → Prop
  | nil : PRels c [] []
  | cons {i : Nat} {v v' : Value} {l l' : List (Nat × Value)} : VRel c v v' → PRels c l l' → PRels c ((i, v) :: l) ((i, v') :: l')

theorem VRels.set {c : Ctx} : ∀ {xs ys : List Value} (k : Nat) {v v' : Value}, VRels c xs ys → VRel c v v' → VRels c (xs.set k v) (ys.set k v')
  | _, _, _, _, _, .nil, _ => by simpa using VRels.nil
  | _, _, 0, _, _, .cons a b, hv => .cons hv b
  | _, _, k + 1, _, _, .cons a b, hv => .cons a (VRels.set k b hv)

theorem foldl_setIfInBounds : ∀ (l : List Value) (cs : List Value) (off j : Nat), (l.zipIdx j).foldl (fun (cs : Array Value) (p : Value × Nat) => cs.setIfInBounds (off + p.2) p.1) ⟨cs⟩ = ⟨putCells cs (off + j) l⟩
  | [], cs, off, j => rfl
  | v :: l, cs, off, j => by
    simp only [List.zipIdx_cons, List.foldl_cons, putCells]
    have : (⟨cs⟩ : Array Value).setIfInBounds (off + j) v = ⟨cs.set (off + j) v⟩ := by simp
    rw [this, foldl_setIfInBounds l _ off (j + 1)]
    rfl

theorem putCells_rel {c : Ctx} : ∀ {l l' : List Value}, VRels c l l' → ∀ {cs cs' : List Value} (off : Nat), VRels c cs cs' → VRels c (putCells cs off l) (putCells cs' off l')
  | _, _, .nil, _, _, off, h => h
  | _, _, .cons a b, _, _, off, h => putCells_rel b (off + 1) (VRels.set off h a)

theorem fill_rel {c : Ctx} {place : Nat → Option (Nat × Nat)} : ∀ {l l' : List (Nat × Value)}, PRels c l l' → ∀ {cs cs' r : List Value}, VRels c cs cs' → fillL place cs l = some r → ∃ r', Instr.fill place ⟨cs'⟩ l' = some ⟨r'⟩ ∧ VRels c r r'
  | _, _, .nil, cs, cs', r, h, e => by simp [fillL] at e; subst e; exact ⟨cs', rfl, h⟩
  | (i, v) :: l, (_, v') :: l', .cons hv hl, cs, cs', r, h, e => by
    simp only [fillL] at e
    cases hp : place i with
    | none => simp [hp] at e
    | some p =>
      simp only [hp, Option.bind_some] at e
      split at e
      · rename_i hc
        obtain ⟨r', h1, h2⟩ := fill_rel hl (putCells_rel hv.cells p.1 h) e
        refine ⟨r', ?_, h2⟩
        have e1 : v'.cells.size = (cellsOf v).length := by rw [hv.cells.length]; rfl
        have e2 : cs'.length = cs.length := h.length.symm
        simp only [Instr.fill, hp, e1, List.size_toArray, e2]
        rw [if_neg (by simp; omega)]
        have : v'.cells.zipIdx.foldl (fun (cs : Array Value) (p' : Value × Nat) => cs.setIfInBounds (p.1 + p'.2) p'.1) ⟨cs'⟩ = ⟨putCells cs' p.1 (cellsOf v')⟩ := by
          rw [← Array.foldl_toList, Array.toList_zipIdx]
          exact foldl_setIfInBounds (cellsOf v') cs' p.1 0
        rw [this]
        exact h1
      · cases e

/-- Where the parts of a struct lie, or of how many cells an array's element is. -/
def tP (P : Program) (t : TypeId) : Option (List (Nat × Nat) ⊕ Nat) :=
  match P.underlying t with
  | some (.struct fs) => (fs.toList.mapM fun f => (P.info? f.type).map fun i => (f.offset, i.size)).map .inl
  | some (.array _ e) => (tS P e).map .inr
  | _ => none
def placeOf : List (Nat × Nat) ⊕ Nat → Nat → Option (Nat × Nat)
  | .inl l, i => l[i]?
  | .inr s, i => some (i * s, s)

def buildW (P : Program) (t : TypeId) (parts : List (Nat × Value)) (H : AHeap) (K : Value → AHeap → Prop) : Prop :=
  wth (tZ P t) fun z => z.all scalar = true ∧ wth (tP P t) fun p => wth (fillL (placeOf p) z parts) fun cs => K (.agg ⟨cs⟩) H

theorem buildW_ok {P : Program} {t : TypeId} {c : Ctx} {H : AHeap} {w : World} {K : Value → AHeap → Prop} (h : HRel c H w) {parts parts' : List (Nat × Value)} (hp : PRels c parts parts') (hw : buildW P t parts H K) :
    Gives P (Instr.build t ⟨parts'⟩) c H w K := by
  obtain ⟨z, hz, hs, hw⟩ := wth_elim hw
  obtain ⟨pl, hpl, hw⟩ := wth_elim hw
  obtain ⟨cs, hcs, hk⟩ := wth_elim hw
  obtain ⟨r', h1, h2⟩ := fill_rel hp (VRels.of_scalars (c := c) hs) hcs
  refine .pure h (v' := .agg ⟨r'⟩) ?_ (.agg h2) hk
  refine run_build w t ⟨parts'⟩ ⟨r'⟩ ?_
  unfold tZ at hz
  unfold tP at hpl
  unfold Program.built
  cases hi : P.info? t with
  | none => rw [hi] at hz; cases hz
  | some i =>
    rw [hi] at hz; simp only [Option.bind_some] at hz
    cases hzz : i.zero with
    | none => rw [hzz] at hz; cases hz
    | some zv =>
      rw [hzz] at hz; simp only [Option.map_some, Option.some.injEq] at hz
      have hzc : zv.cells = ⟨z⟩ := by rw [← hz]; rfl
      cases hu : P.underlying t with
      | none => rw [hu] at hpl; cases hpl
      | some d =>
        rw [hu] at hpl
        cases d <;> try (cases hpl; done)
        case array n e =>
          simp only [Option.map_eq_some_iff] at hpl
          obtain ⟨s, hs2, rfl⟩ := hpl
          unfold tS at hs2
          cases hie : P.info? e with
          | none => rw [hie] at hs2; cases hs2
          | some ie =>
            rw [hie] at hs2; simp at hs2; subst hs2
            simp only [hzz, hie, hzc]
            exact h1
        case struct fs =>
          simp only [Option.map_eq_some_iff] at hpl
          obtain ⟨l, hl, rfl⟩ := hpl
          simp only [hzz, hl, hzc]
          have : (fun x => l.toArray[x]?) = placeOf (.inl l) := by funext x; simp [placeOf]
          rw [this]
          exact h1

def repZ (n : Nat) (z : List Value) : List Value := (List.replicate n z).flatten
theorem repZ_length (n : Nat) (z : List Value) : (repZ n z).length = n * z.length := by simp [repZ, List.length_flatten, List.map_replicate, List.sum_replicate_nat]
theorem repZ_scalar {n : Nat} {z : List Value} (h : z.all scalar = true) : (repZ n z).all scalar = true := by
  simp only [repZ, List.all_eq_true, List.mem_flatten, List.mem_replicate] at *
  rintro x ⟨l, ⟨_, rfl⟩, hx⟩
  exact h x hx
theorem repZ_get (n : Nat) (z : List Value) (k : Nat) (hk : k < n * z.length) : (repZ n z)[k]? = some (z[k % z.length]!) := by
  induction n generalizing k with
  | zero => simp at hk
  | succ n ih =>
    have hz : 0 < z.length := by rcases Nat.eq_zero_or_pos z.length with h | h; (rw [h] at hk; omega); exact h
    have e : repZ (n + 1) z = z ++ repZ n z := by simp [repZ, List.replicate_succ]
    rw [e]
    by_cases h : k < z.length
    · rw [List.getElem?_append_left h, Nat.mod_eq_of_lt h, List.getElem?_eq_getElem h]
      simp [h]
    · rw [List.getElem?_append_right (by omega), ih (k - z.length) (by rw [Nat.add_mul] at hk; omega)]
      congr 2
      rw [← Nat.mod_eq_sub_mod (by omega)]
theorem repZ_array (n : Nat) (z : List Value) : (Array.range (n * z.length)).map (z.toArray[· % z.toArray.size]!) = ⟨repZ n z⟩ := by
  apply Array.ext_getElem?
  intro k
  by_cases hk : k < n * z.length
  · have := repZ_get n z k hk
    simp only [List.getElem?_toArray, this]
    simp [hk]
  · simp [hk, repZ_length]

def buildSliceW (P : Program) (t : TypeId) (len : Nat) (parts : List (Nat × Value)) (H : AHeap) (K : Value → AHeap → Prop) : Prop :=
  match P.underlying t with
  | some (.slice e) => wth (tS P e) fun s => wth (tZ P e) fun z => z.all scalar = true ∧ z.length = s ∧ len * s ≤ 16777216 ∧ wth (fillL (placeOf (.inr s)) (repZ len z) parts) fun cs =>
      K (.slice (some ⟨H.length, 0, none⟩) len len) (H ++ [.cells cs ⟨e, 0, true, 0, none⟩])
  | _ => False

theorem buildSliceW_ok {P : Program} {t : TypeId} {len : Nat} {c : Ctx} {H : AHeap} {w : World} {K : Value → AHeap → Prop} (h : HRel c H w) {parts parts' : List (Nat × Value)} (hp : PRels c parts parts') (hw : buildSliceW P t len parts H K) :
    Gives P (Instr.buildSlice t len ⟨parts'⟩) c H w K := by
  unfold buildSliceW at hw
  split at hw
  · rename_i e hu
    obtain ⟨s, hs, hw⟩ := wth_elim hw
    obtain ⟨z, hz, hsc, hl, h24, hw⟩ := wth_elim hw
    obtain ⟨cs, hcs, hk⟩ := wth_elim hw
    obtain ⟨zv, hzv, hzc⟩ := run_zeroValue hz w
    obtain ⟨r', h1, h2⟩ := fill_rel hp (VRels.of_scalars (c := c) (repZ_scalar hsc)) hcs
    obtain ⟨g1, g2, g3⟩ := h.alloc h2 e 0 0
    refine ⟨.slice (some ⟨w.heap.size, 0, none⟩) len len, _, ?_, _, _, _, hk, ?_, g3, g1, fun n => (h.alloc h2 e 0 n).2.1⟩
    · have hcells : zv.cells = z.toArray := by rw [← hzc]; rfl
      have hfill : Instr.fill (fun i => some (i * s, s)) ⟨repZ len z⟩ parts' = some ⟨r'⟩ := h1
      have h24' : ¬ (len * s > 2 ^ 24) := by omega
      by_cases h0 : len * s = 0
      · have e0 : repZ len z = [] := List.eq_nil_of_length_eq_zero (by rw [repZ_length, hl]; exact h0)
        rw [e0] at hfill
        have harr : (Array.range (len * s)).map ((#[] : Array Value)[· % (#[] : Array Value).size]!) = (⟨[]⟩ : Array Value) := by rw [h0]; simp
        simp only [Instr.buildSlice, Sem.run_bind, run_underlying hu, Result.andThen_ok, run_sizeOf hs]
        rw [if_neg h24']
        simp only [if_pos h0, pure_bind, harr, hfill, newRow, run_newObj, Sem.run_pure, Sem.run_bind, Result.andThen_ok]
        rfl
      · have harr : (Array.range (len * s)).map (zv.cells[· % zv.cells.size]!) = (⟨repZ len z⟩ : Array Value) := by rw [hcells, ← hl]; exact repZ_array len z
        simp only [Instr.buildSlice, Sem.run_bind, run_underlying hu, Result.andThen_ok, run_sizeOf hs]
        rw [if_neg h24']
        simp only [if_neg h0, pure_bind, bind_assoc, Sem.run_bind, hzv, Result.andThen_ok, harr, hfill, newRow, run_newObj, Sem.run_pure]
        rfl
    · exact .slice (p := ⟨w.heap.size, 0, cs.length, 0, 0⟩) (Ctx.add_self _ _ _)
  · exact hw.elim
end Go.Aw
