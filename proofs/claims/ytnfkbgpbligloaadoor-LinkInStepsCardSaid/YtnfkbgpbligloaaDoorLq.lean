/-
  The library's calls that read package-level tables under whatever names they are lent: Itoa; the tables of Quote, and Quote.
-/
import Derived.Test.YtnfkbgpbligloaaDoorAwC
import Derived.Shelf.Strconv.Itoa4
import Derived.WalkSmall
import Derived.Lib.AppendIntMem
import Derived.Shelf.Strconv.Quote
set_option linter.unusedVariables false
set_option linter.unusedSimpArgs false
namespace Go.Aw
open Go.Proofs Go.Shelf Go.ChangeShapes Go.WideShapes Go.ChangeAt Go.RowKit
/-- What a package-level variable of several cells holds. -/
def globsO (e : TypeId) (g : Nat) (vs : List Value) : AObj := .cells vs ⟨e, 0, false, 0, some g⟩
theorem globs_cell {c : Ctx} {H : AHeap} {w : World} (h : HRel c H w) {i g : Nat} {e : TypeId} {vs : List Value} (hg : H[i]? = some (globsO e g vs)) {off : Nat} {v : Value} (hv : vs[off]? = some v) : ∃ v', w.cell? ⟨g, off, none⟩ = some v' ∧ VRel c v v' := by
  obtain ⟨p, hp, hr⟩ := h.obj i _ hg rfl
  obtain ⟨_, _, _, hgl, _⟩ := hr
  obtain ⟨q1, q2, _⟩ := hgl g rfl
  obtain ⟨v', h1, h2⟩ := h.cell hg hp (off := off) (v := v) hv
  rw [q1, q2, Nat.zero_add] at h1
  exact ⟨v', h1, h2⟩
/-- A package-level variable of several cells is lent. -/
theorem Lent.globs {c : Ctx} {H : AHeap} {w : World} (h : Lent c H w) {g : Nat} {e : TypeId} {fr : Nat × Nat} {arr : Array Value} {vs : List Value} (hb : w.heap[g]? = some (.cells arr e fr)) (hs : arr.size = vs.length) (hv : CellsRel c vs arr 0) :
    ∃ c' : Ctx, Lent c' (H ++ [globsO e g vs]) w ∧ c.le c' := by
  have hle : c.le (c.add H.length ⟨g, 0, vs.length, 0, 0⟩) := h.le _
  have hlast : ∀ (i : Nat) (o : AObj), (H ++ [globsO e g vs])[i]? = some o → ¬ i < H.length → i = H.length ∧ o = globsO e g vs := fun i o hi h1 => by
    have hlt := lt_of_get hi
    simp at hlt
    have : i = H.length := by omega
    subst this
    rw [hget0 rfl] at hi
    simp at hi
    exact ⟨rfl, hi.symm⟩
  refine ⟨c.add H.length ⟨g, 0, vs.length, 0, 0⟩, ⟨⟨fun i o hi hlv => ?_, fun i j oi oj pi pj hij hi hj _ _ ho _ => ?_, fun i hi => ?_⟩, fun i o hi => ?_⟩, hle⟩
  · by_cases h1 : i < H.length
    · rw [hgetl h1] at hi
      obtain ⟨p, hp', hr⟩ := h.rel.obj i o hi hlv
      exact ⟨p, hle _ _ hp', hr.keep hle hlv rfl⟩
    · obtain ⟨rfl, rfl⟩ := hlast i o hi h1
      refine ⟨⟨g, 0, vs.length, 0, 0⟩, by simp [Ctx.add], rfl, rfl, fun _ => ⟨rfl, fun o => (by cases o)⟩, fun n hn' => ⟨Option.some.inj hn', rfl, fun a r hh => ?_⟩, arr, fr.1, fr.2, hb, ?_, by simp [hs], fun hk => by cases hk⟩
      · rw [hb] at hh
        cases hh
        exact hs
      · intro j u hj
        obtain ⟨v', e1, e2⟩ := hv j u hj
        exact ⟨v', e1, e2.mono hle⟩
  · by_cases h1 : i < H.length
    · rw [hgetl h1] at hi
      rw [h.own i oi hi] at ho; cases ho
    · obtain ⟨rfl, rfl⟩ := hlast i oi hi h1
      cases ho
  · simp at hi
    rw [Ctx.add_other _ _ (by omega)]; exact h.rel.fresh i (by omega)
  · by_cases h1 : i < H.length
    · rw [hgetl h1] at hi; exact h.own i o hi
    · obtain ⟨rfl, rfl⟩ := hlast i o hi h1
      rfl
/-- Objects that nobody writes to stay. -/
def Lasts (H H2 : AHeap) : Prop := ∀ (j : Nat) (cs : List Value) (k : CK), H[j]? = some (.cells cs k) → k.own = false → H2[j]? = some (.cells cs k)
theorem Lasts.refl (H : AHeap) : Lasts H H := fun _ _ _ h _ => h
theorem Lasts.trans {H H1 H2 : AHeap} (h : Lasts H H1) (k : Lasts H1 H2) : Lasts H H2 := fun j cs kk a b => k j cs kk (h j cs kk a b) b
theorem Lasts.more (H X : AHeap) : Lasts H (H ++ X) := fun j cs k h _ => by rw [hgetl (lt_of_get h)]; exact h
/-- A table of numbers that a call may read. -/
def TabN (H : AHeap) (g : Nat) (vs : List Value) : Prop := ∃ (i : Nat) (e : TypeId), H[i]? = some (globsO e g vs)
theorem TabN.lasts {H H2 : AHeap} {g : Nat} {vs : List Value} (h : TabN H g vs) (hl : Lasts H H2) : TabN H2 g vs := by
  obtain ⟨i, e, h⟩ := h
  exact ⟨i, e, hl _ _ _ h rfl⟩
/-- A slice of numbers that a package-level variable holds. -/
def TabS (H : AHeap) (g : Nat) (k : IntKind) (l : List Nat) : Prop := ∃ (j : Nat) (e : TypeId) (cap : Nat), TabN H g [.slice (some ⟨j, 0, none⟩) l.length cap] ∧ H[j]? = some (.cells (l.map fun (x : Nat) => .int k (x : Int)) ⟨e, 0, false, 0, none⟩)
theorem TabS.lasts {H H2 : AHeap} {g : Nat} {k : IntKind} {l : List Nat} (h : TabS H g k l) (hl : Lasts H H2) : TabS H2 g k l := by
  obtain ⟨j, e, cap, h1, h2⟩ := h
  exact ⟨j, e, cap, h1.lasts hl, hl _ _ _ h2 rfl⟩
theorem TabS.at {c : Ctx} {H : AHeap} {w : World} (hh : HRel c H w) {g : Nat} {k : IntKind} {l : List Nat} (hl : 0 < l.length) (h : TabS H g k l) : Lib.TabSlice g k l w := by
  obtain ⟨j, e, cap, ⟨i, e', h1⟩, h2⟩ := h
  obtain ⟨v, hv, hr⟩ := globs_cell hh h1 (off := 0) rfl
  have key : ∀ (p : Place) (n : Nat), c j = some p → v = .slice (some ⟨p.block, p.base + 0, none⟩) l.length n → Lib.TabSlice g k l w := fun p n hp e => by
    refine ⟨p.block, p.base + 0, n, by rw [← e]; exact hv, fun q hq => ?_⟩
    obtain ⟨u, hu, hr⟩ := hh.cell h2 hp (off := q) (v := .int k (l.getD q 0 : Nat)) (by rw [List.getElem?_map, List.getElem?_eq_getElem hq]; simp [List.getD, List.getElem?_eq_getElem hq])
    rw [hr.scalar_eq rfl] at hu
    rw [Nat.add_zero]
    exact hu
  obtain ⟨n, hn⟩ : ∃ n, n = l.length := ⟨_, rfl⟩
  rw [← hn] at hr key hl
  cases hr with
  | slice hp => exact key _ _ hp rfl
  | sliceX hp _ => exact key _ _ hp rfl
  | sliceZ hp => omega
theorem Lent.tabS {c : Ctx} {H : AHeap} {w : World} (h : Lent c H w) {g : Nat} {k : IntKind} {l : List Nat} {e : TypeId} {fr : Nat × Nat} {arr : Array Value} (hl : 0 < l.length) (hb : w.heap[g]? = some (.cells arr e fr)) (hs : arr.size = 1) (ht : Lib.TabSlice g k l w) :
    ∃ (c' : Ctx) (X : AHeap), Lent c' (H ++ X) w ∧ c.le c' ∧ TabS (H ++ X) g k l := by
  obtain ⟨R, o, cap, h1, h2⟩ := ht
  obtain ⟨a, e', fr', hR, _⟩ : ∃ a e fr, w.heap[R]? = some (.cells a e fr) ∧ a[o + 0]? = some (.int k (l.getD 0 0 : Nat)) := by
    have := h2 0 hl
    unfold World.cell? at this
    split at this
    · rename_i c t r hb
      exact ⟨c, t, r, hb, by simpa using this⟩
    · cases this
  have hcell : ∀ q, q < l.length → a[o + q]? = some (.int k (l.getD q 0 : Nat)) := fun q hq => by
    have := h2 q hq
    simpa [World.cell?, hR] using this
  have hsz : o + l.length ≤ a.size := by
    have := hcell (l.length - 1) (by omega)
    have := (Array.getElem?_eq_some_iff.1 this).1
    omega
  have hg0 : arr[0]? = some (.slice (some ⟨R, o, none⟩) l.length cap) := by simpa [World.cell?, hb] using h1
  have hL1 := h.add hR (vs := l.map fun (x : Nat) => .int k (x : Int)) (off := o) (by rw [List.length_map]; exact hsz) (fun q v hq => by
    rw [List.getElem?_map] at hq
    obtain ⟨x, hx, rfl⟩ := Option.map_eq_some_iff.1 hq
    have hlt := lt_of_get hx
    refine ⟨_, hcell q hlt, ?_⟩
    have : l.getD q 0 = x := by simp [List.getD, hx]
    rw [this]
    exact .int _ _)
  have hp : (c.add H.length ⟨R, o, (l.map fun (x : Nat) => Value.int k (x : Int)).length, 0, 0⟩) H.length = some ⟨R, o, (l.map fun (x : Nat) => Value.int k (x : Int)).length, 0, 0⟩ := by simp [Ctx.add]
  obtain ⟨c2, hL2, le2⟩ := hL1.globs hb (vs := [.slice (some ⟨H.length, 0, none⟩) l.length cap]) hs (fun q v hq => by
    match q, hq with
    | 0, hq =>
      cases hq
      exact ⟨_, hg0, VRel.slice (off := 0) hp⟩)
  rw [List.append_assoc] at hL2
  exact ⟨c2, _, hL2, Ctx.le_trans (h.le _) le2, H.length, _, cap, ⟨H.length + 1, _, hgetk rfl⟩, hget0 rfl⟩
/-- The tables that Quote reads. -/
structure QuoteH (H : AHeap) (g3 g4 g20 g21 g22 g23 : Nat) (T : Lib.PrintTabs) : Prop where
  first : TabN H g3 ((List.range 256).map fun c => .int .u8 (Lib.firstT c))
  acc : TabN H g4 ((List.range 16).flatMap fun i => [.int .u8 (Lib.accLo i), .int .u8 (Lib.accHi i)])
  p16 : TabS H g20 .u16 T.p16
  n16 : TabS H g21 .u16 T.n16
  p32 : TabS H g22 .u32 T.p32
  n32 : TabS H g23 .u16 T.n32
theorem QuoteH.lasts {H H2 : AHeap} {g3 g4 g20 g21 g22 g23 : Nat} {T : Lib.PrintTabs} (h : QuoteH H g3 g4 g20 g21 g22 g23 T) (hl : Lasts H H2) : QuoteH H2 g3 g4 g20 g21 g22 g23 T :=
  ⟨h.first.lasts hl, h.acc.lasts hl, h.p16.lasts hl, h.n16.lasts hl, h.p32.lasts hl, h.n32.lasts hl⟩
def PrintOk (T : Lib.PrintTabs) : Prop :=
  (0 < T.p16.length ∧ 0 < T.n16.length ∧ 0 < T.p32.length ∧ 0 < T.n32.length) ∧ (T.p16.length % 2 = 0 ∧ T.p32.length % 2 = 0) ∧
  (T.p16.length ≤ 4611686018427387904 ∧ T.n16.length ≤ 4611686018427387904 ∧ T.p32.length ≤ 4611686018427387904 ∧ T.n32.length ≤ 4611686018427387904)
theorem QuoteH.print {c : Ctx} {H : AHeap} {w : World} (hh : HRel c H w) {g3 g4 g20 g21 g22 g23 : Nat} {T : Lib.PrintTabs} (hT : PrintOk T) (h : QuoteH H g3 g4 g20 g21 g22 g23 T) : Lib.PrintTabsAt g20 g21 g22 g23 T w :=
  ⟨h.p16.at hh hT.1.1, h.n16.at hh hT.1.2.1, h.p32.at hh hT.1.2.2.1, h.n32.at hh hT.1.2.2.2, hT⟩
theorem acc_get : ∀ i : Fin 16, ((List.range 16).flatMap fun i => [Value.int .u8 (Lib.accLo i), Value.int .u8 (Lib.accHi i)])[2 * i.1]? = some (.int .u8 (Lib.accLo i.1)) ∧ ((List.range 16).flatMap fun i => [Value.int .u8 (Lib.accLo i), Value.int .u8 (Lib.accHi i)])[2 * i.1 + 1]? = some (.int .u8 (Lib.accHi i.1)) := by
  intro ⟨i, hi⟩
  match i, hi with
  | 0, _ => exact ⟨rfl, rfl⟩
  | 1, _ => exact ⟨rfl, rfl⟩
  | 2, _ => exact ⟨rfl, rfl⟩
  | 3, _ => exact ⟨rfl, rfl⟩
  | 4, _ => exact ⟨rfl, rfl⟩
  | 5, _ => exact ⟨rfl, rfl⟩
  | 6, _ => exact ⟨rfl, rfl⟩
  | 7, _ => exact ⟨rfl, rfl⟩
  | 8, _ => exact ⟨rfl, rfl⟩
  | 9, _ => exact ⟨rfl, rfl⟩
  | 10, _ => exact ⟨rfl, rfl⟩
  | 11, _ => exact ⟨rfl, rfl⟩
  | 12, _ => exact ⟨rfl, rfl⟩
  | 13, _ => exact ⟨rfl, rfl⟩
  | 14, _ => exact ⟨rfl, rfl⟩
  | 15, _ => exact ⟨rfl, rfl⟩
  | (n + 16), h => exact absurd h (by omega)
theorem QuoteH.utf8 {c : Ctx} {H : AHeap} {w : World} (hh : HRel c H w) {g3 g4 g20 g21 g22 g23 : Nat} {T : Lib.PrintTabs} (h : QuoteH H g3 g4 g20 g21 g22 g23 T) : Lib.Utf8Tabs g3 g4 w := by
  obtain ⟨i, e, h1⟩ := h.first
  obtain ⟨j, e', h2⟩ := h.acc
  refine ⟨fun q hq => ?_, fun q hq => ⟨?_, ?_⟩⟩
  · obtain ⟨v', hv, hr⟩ := globs_cell hh h1 (off := q) (v := .int .u8 (Lib.firstT q)) (by rw [List.getElem?_map, List.getElem?_range hq]; rfl)
    rw [hr.scalar_eq rfl] at hv
    exact hv
  · obtain ⟨v', hv, hr⟩ := globs_cell hh h2 (acc_get ⟨q, hq⟩).1
    rw [hr.scalar_eq rfl] at hv
    exact hv
  · obtain ⟨v', hv, hr⟩ := globs_cell hh h2 (acc_get ⟨q, hq⟩).2
    rw [hr.scalar_eq rfl] at hv
    exact hv
/-- What Quote gives. -/
def quoteL (T : Lib.PrintTabs) (s : List UInt8) : List UInt8 := (strOfNums (Lib.quoteZ T (bs s))).data.toList
theorem quoteL_len (T : Lib.PrintTabs) (s : List UInt8) : (quoteL T s).length ≤ 10 * s.length + 2 := by
  have h1 : (quoteL T s).length = (strOfNums (Lib.quoteZ T (bs s))).size := rfl
  rw [h1, strOfNums_size]
  exact Lib.quoteZ_length_le T (bs s)
theorem ARet.quote {P : Program} {ρ : Ren} (L : Lays.n177 P ρ) (hbyte : (P.info? (ρ.t 5)).map (fun i => (i.zero, i.size, i.bytes)) = some (some (.int .u8 0), 1, 1)) {fn : Func} (hf : P.funcs[ρ.f 177]? = some fn) (hb : fn.body.isSome = true) (hn : (fn.name == "runtime.NumGoroutine") = false)
    {T : Lib.PrintTabs} (hT : PrintOk T) {s : List UInt8} (hs : 10 * s.length + 12 ≤ 140737488355328) {H : AHeap} (hq : QuoteH H (ρ.g 3) (ρ.g 4) (ρ.g 20) (ρ.g 21) (ρ.g 22) (ρ.g 23) T) :
    ARet P (ρ.f 177) [.string (bs s)] H (.string (bs (quoteL T s))) H :=
  ARet.ofCallsT hf hb hn rfl rfl H (fun w => Lib.PrintTabsAt (ρ.g 20) (ρ.g 21) (ρ.g 22) (ρ.g 23) T w ∧ Lib.Utf8Tabs (ρ.g 3) (ρ.g 4) w) (fun c w hh => ⟨hq.print hh hT, hq.utf8 hh⟩)
    fun w ht => Any.strconv_Quote L hbyte T (bs s) w hs ht.1 ht.2
theorem TabN.tabIs {P : Program} {c : Ctx} {H : AHeap} {w : World} (h : HRel c H w) {name : String} {g : Nat} {k : IntKind} {zs : List Int} (hn : P.globalNamed name = some g) (hg : TabN H g (zs.map (Value.int k))) : Lib.TabIs P w name k zs := by
  obtain ⟨i, e, hg⟩ := hg
  obtain ⟨p, hp, hr⟩ := h.obj i _ hg rfl
  obtain ⟨h1, h2, hx, hgl, arr, lo, hi, hb, hc, h3, _⟩ := hr
  obtain ⟨q1, q2, q3⟩ := hgl g rfl
  have hsz := q3 arr _ hb
  unfold Lib.TabIs World.var?
  rw [hn]
  show (match w.heap[g]? with | some (.cells cs _ _) => some cs | _ => none) = _
  rw [← q1, hb]
  have : arr = (zs.map (Value.int k)).toArray := by
    apply Array.ext'
    refine List.ext_getElem? fun i => ?_
    by_cases hi : i < (zs.map (Value.int k)).length
    · obtain ⟨v', e1, e2⟩ := hc i _ (List.getElem?_eq_getElem hi)
      rw [q2, Nat.zero_add] at e1
      have hs : scalar ((zs.map (Value.int k))[i]) = true := List.all_eq_true.1 (tab_scalar k zs) _ (List.getElem_mem _)
      have := e2.scalar_eq hs
      subst this
      rw [Array.getElem?_toList, e1, List.toList_toArray, List.getElem?_eq_getElem hi]
    · have h0 : arr.toList.length = (zs.map (Value.int k)).length := by simpa using hsz
      rw [List.getElem?_eq_none (by omega), List.getElem?_eq_none (by simpa using hi)]
  exact congrArg some this
theorem ARet.itoaN {P : Program} {ρ : Ren} (L : LaysM.n171 P ρ) {fn : Func} (hf : P.funcs[ρ.f 171]? = some fn) (hb : fn.body.isSome = true) (hn : (fn.name == "runtime.NumGoroutine") = false)
    {g : Nat} {H : AHeap} (hgn : P.globalNamed "internal/strconv.uint64pow10" = some g) (hg : TabN H g (Lib.pow10Tab.map (Value.int .u64))) {n : Int} (h0 : -9223372036854775808 ≤ n) (h1 : n ≤ 9223372036854775807) :
    ARet P (ρ.f 171) [.int .i64 n] H (.string (bs (Lib.itoa n))) H := by
  refine ARet.ofCallsT hf hb hn rfl rfl H _ (fun c w hh => TabN.tabIs hh hgn hg) fun w ht => ?_
  exact (Any.strconv_Itoa L n h0 h1 w ht).mono fun e w' ⟨he, k, os, hw⟩ => ⟨he, by subst hw; exact Lib.below_grow _ w (Nat.le_refl _) k os⟩
end Go.Aw
