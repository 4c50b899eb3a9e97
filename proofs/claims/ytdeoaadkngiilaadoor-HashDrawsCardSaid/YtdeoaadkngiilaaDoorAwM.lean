/-
  The operations on maps whose keys are numbers, texts or bools, said of abstract states.
-/
import Derived.Test.YtdeoaadkngiilaaDoorAw10
import Derived.MapKept
set_option linter.unusedVariables false
set_option linter.unusedSimpArgs false
namespace Go.Aw
abbrev MEs := List (Value × Value × Nat)
def keyB (d : Option TypeDesc) (k : Value) : Bool :=
  match d, k with
  | some .bool, .bool _ => true
  | some (.int a), .int b _ => decide (b = a)
  | some .string, .string _ => true
  | _, _ => false
def sameK : Value → Value → Bool
  | .bool a, .bool b => a == b
  | .int k a, .int j b => decide (k = j) && a == b
  | .string a, .string b => a == b
  | _, _ => false
def mIx (k : Value) (es : MEs) : Option Nat := es.findIdx? fun e => sameK k e.1
/-- What a map holds at a key. -/
def mGet (k : Value) (es : MEs) : Option Value := (mIx k es).bind fun j => (es[j]?).map (·.2.1)
def mPut (k v : Value) (ck : Nat) (es : MEs) : MEs := match mIx k es with
  | some j => es.modify j fun e => (k, v, e.2.2)
  | none => es ++ [(k, v, ck)]
def mCk (k : Value) (ck : Nat) (es : MEs) : Nat := if (mIx k es).isSome then ck else ck + 1
def mDel (k : Value) (es : MEs) : MEs := match mIx k es with
  | some j => es.eraseIdx j
  | none => es
/-- The keys are of this type. -/
def keysB (d : Option TypeDesc) (es : MEs) : Bool := es.all fun e => keyB d e.1

theorem keyB_isKey {d : Option TypeDesc} {k : Value} (h : keyB d k = true) : ∃ d0, d = some d0 ∧ MapKept.IsKey d0 k := by
  unfold keyB at h
  split at h
  · exact ⟨_, rfl, trivial⟩
  · exact ⟨_, rfl, by simpa [MapKept.IsKey] using h⟩
  · exact ⟨_, rfl, trivial⟩
  · cases h
theorem keyB_scalar {d : Option TypeDesc} {k : Value} (h : keyB d k = true) : scalar k = true := by
  unfold keyB at h
  split at h <;> first | rfl | cases h
theorem sameK_iff {d : Option TypeDesc} {a b : Value} (ha : keyB d a = true) (hb : keyB d b = true) : sameK a b = true ↔ a = b := by
  unfold keyB at ha hb
  split at ha
  · split at hb <;> first | (simp [sameK]; done) | (simp_all; done)
  · split at hb <;> first | (simp_all [sameK]; done) | (simp_all; done)
  · split at hb <;> first | (simp [sameK, MapKept.bytes_beq]; done) | (simp_all; done)
  · cases ha

/-- What the entries are in the model. -/
def ERel (c : Ctx) (es : MEs) (ms : List MapEntry) : Prop := MapRel c es ms
theorem MapRel.nil {c : Ctx} : MapRel c [] [] := ⟨.nil, .nil, rfl⟩
theorem MapRel.get {c : Ctx} {es : MEs} {ms : List MapEntry} (h : MapRel c es ms) {j : Nat} {e : Value × Value × Nat} (he : es[j]? = some e) : ∃ m, ms[j]? = some m ∧ VRel c e.1 m.key ∧ VRel c e.2.1 m.val ∧ m.born = e.2.2 := by
  obtain ⟨h1, h2, h3⟩ := h
  obtain ⟨k', a1, a2⟩ := h1.get (k := j) (v := e.1) (by rw [List.getElem?_map, he]; rfl)
  obtain ⟨v', b1, b2⟩ := h2.get (k := j) (v := e.2.1) (by rw [List.getElem?_map, he]; rfl)
  rw [List.getElem?_map, Option.map_eq_some_iff] at a1 b1
  obtain ⟨m, c1, c2⟩ := a1
  obtain ⟨m', d1, d2⟩ := b1
  rw [c1] at d1; cases d1
  subst c2; subst d2
  refine ⟨m, c1, a2, b2, ?_⟩
  have := congrArg (·[j]?) h3
  simp only [List.getElem?_map, he, c1, Option.map_some, Option.some.injEq] at this
  exact this
theorem MapRel.len {c : Ctx} {es : MEs} {ms : List MapEntry} (h : MapRel c es ms) : es.length = ms.length := by
  have := h.1.length; simpa using this
theorem MapRel.of_get {c : Ctx} {es : MEs} {ms : List MapEntry} (hl : es.length = ms.length) (h : ∀ (j : Nat) (e : Value × Value × Nat) (m : MapEntry), es[j]? = some e → ms[j]? = some m → VRel c e.1 m.key ∧ VRel c e.2.1 m.val ∧ m.born = e.2.2) : MapRel c es ms := by
  refine ⟨VRels.of_get (by simpa using hl) fun k v v' e1 e2 => ?_, VRels.of_get (by simpa using hl) fun k v v' e1 e2 => ?_, List.ext_getElem? fun j => ?_⟩
  · rw [List.getElem?_map, Option.map_eq_some_iff] at e1 e2
    obtain ⟨a, a1, rfl⟩ := e1
    obtain ⟨b, b1, rfl⟩ := e2
    exact (h k a b a1 b1).1
  · rw [List.getElem?_map, Option.map_eq_some_iff] at e1 e2
    obtain ⟨a, a1, rfl⟩ := e1
    obtain ⟨b, b1, rfl⟩ := e2
    exact (h k a b a1 b1).2.1
  · rw [List.getElem?_map, List.getElem?_map]
    by_cases hj : j < es.length
    · rw [List.getElem?_eq_getElem hj, List.getElem?_eq_getElem (by omega : j < ms.length)]
      simp only [Option.map_some, Option.some.injEq]
      exact (h j _ _ (List.getElem?_eq_getElem hj) (List.getElem?_eq_getElem (by omega))).2.2
    · rw [List.getElem?_eq_none (by omega), List.getElem?_eq_none (by omega)]; rfl
theorem MapRel.snoc {c : Ctx} {es : MEs} {ms : List MapEntry} (h : MapRel c es ms) {k v v' : Value} {b : Nat} (hk : scalar k = true) (hv : VRel c v v') : MapRel c (es ++ [(k, v, b)]) (ms ++ [{ key := k, val := v', born := b }]) := by
  obtain ⟨h1, h2, h3⟩ := h
  refine ⟨?_, ?_, ?_⟩
  · simpa using h1.append (.cons (.of_scalar hk) .nil)
  · simpa using h2.append (.cons hv .nil)
  · simp [h3]
theorem MapRel.modify {c : Ctx} {es : MEs} {ms : List MapEntry} (h : MapRel c es ms) (j : Nat) {f : Value × Value × Nat → Value × Value × Nat} {g : MapEntry → MapEntry}
    (hf : ∀ e m, es[j]? = some e → ms[j]? = some m → VRel c (f e).1 (g m).key ∧ VRel c (f e).2.1 (g m).val ∧ (g m).born = (f e).2.2) : MapRel c (es.modify j f) (ms.modify j g) := by
  refine .of_get (by simp [h.len]) fun i e m he hm => ?_
  rw [List.getElem?_modify] at he hm
  by_cases hij : j = i
  · subst hij
    simp only [if_true, Option.map_eq_map, Option.map_eq_some_iff] at he hm
    obtain ⟨e0, h1, rfl⟩ := he
    obtain ⟨m0, h2, rfl⟩ := hm
    exact hf e0 m0 h1 h2
  · simp only [if_neg hij, id_eq, Option.map_eq_map, Option.map_id_fun'] at he hm
    obtain ⟨m1, a1, a2, a3, a4⟩ := h.get he
    rw [hm] at a1; cases a1
    exact ⟨a2, a3, a4⟩
theorem MapRel.erase {c : Ctx} {es : MEs} {ms : List MapEntry} (h : MapRel c es ms) (j : Nat) : MapRel c (es.eraseIdx j) (ms.eraseIdx j) := by
  refine .of_get (by simp [List.length_eraseIdx, h.len]) fun i e m he hm => ?_
  rw [List.getElem?_eraseIdx] at he hm
  split at he
  · rename_i hij
    rw [if_pos hij] at hm
    obtain ⟨m1, a1, a2, a3, a4⟩ := h.get he
    rw [hm] at a1; cases a1
    exact ⟨a2, a3, a4⟩
  · rename_i hij
    rw [if_neg hij] at hm
    obtain ⟨m1, a1, a2, a3, a4⟩ := h.get he
    rw [hm] at a1; cases a1
    exact ⟨a2, a3, a4⟩

theorem sameNow_sameK {d0 : TypeDesc} {a b : Value} (ha : MapKept.IsKey d0 a) (hb : MapKept.IsKey d0 b) : Instr.sameNow d0 a b = some (sameK a b) := by
  cases d0 <;> cases a <;> cases b <;> simp_all [MapKept.IsKey, Instr.sameNow, sameK]
theorem find_ok {c : Ctx} {d : Option TypeDesc} {k : Value} (hk : keyB d k = true) {d0 : TypeDesc} (hd : d = some d0) : ∀ {es : MEs} {ms : List MapEntry} (i : Nat), keysB d es = true → MapRel c es ms →
    match mIx k es with
    | none => Instr.findNow d0 k ms i = some none
    | some j => ∃ m, ms[j]? = some m ∧ m.key = k ∧ Instr.findNow d0 k ms i = some (some (i + j, m.val))
  | [], [], i, _, _ => by simp [mIx, Instr.findNow]
  | [], _ :: _, i, _, h => by have := h.len; simp at this
  | _ :: _, [], i, _, h => by have := h.len; simp at this
  | e :: es, m :: ms, i, hb, h => by
    obtain ⟨h1, h2, h3⟩ := h
    simp only [List.map_cons] at h1 h2 h3
    cases h1 with
    | cons a1 a2 =>
    cases h2 with
    | cons b1 b2 =>
    simp only [List.cons.injEq] at h3
    simp only [keysB, List.all_cons, Bool.and_eq_true] at hb
    have hke := a1.scalar_eq (keyB_scalar hb.1)
    obtain ⟨d1, q1, q2⟩ := keyB_isKey hk
    obtain ⟨d2, q3, q4⟩ := keyB_isKey hb.1
    rw [hd] at q1 q3; cases q1; cases q3
    have ih := find_ok (c := c) hk hd (es := es) (ms := ms) (i + 1) hb.2 ⟨a2, b2, h3.2⟩
    have hs : Instr.sameNow d0 k m.key = some (sameK k e.1) := by rw [hke]; exact sameNow_sameK q2 q4
    unfold mIx at ih ⊢
    rw [List.findIdx?_cons]
    by_cases hc : sameK k e.1 = true
    · rw [if_pos hc]
      rw [hc] at hs
      refine ⟨m, rfl, ?_, by simp [Instr.findNow, hs]⟩
      rw [hke]; exact ((sameK_iff hk hb.1).1 hc).symm
    · rw [if_neg hc]
      rw [Bool.not_eq_true] at hc
      rw [hc] at hs
      cases hx : List.findIdx? (fun e => sameK k e.1) es with
      | none => rw [hx] at ih; simpa [Instr.findNow, hs] using ih
      | some j =>
        rw [hx] at ih
        obtain ⟨m1, r1, r2, r3⟩ := ih
        refine ⟨m1, by simpa using r1, r2, ?_⟩
        simp only [Instr.findNow, hs, r3]
        rw [show i + 1 + j = i + (j + 1) by omega]

theorem run_stays {P : Program} {w : World} {d : Option TypeDesc} {k : Value} (hk : keyB d k = true) : (Instr.keyThatStays k k).run P w = .ok k w := by
  have : Instr.sameBits 10000 k k = true := by
    unfold keyB at hk
    split at hk
    · simp [Instr.sameBits]
    · simp [Instr.sameBits]
    · simp [Instr.sameBits, MapKept.bytes_beq]
    · cases hk
  simp [Instr.keyThatStays, this]

def lkRes (ok : Bool) (r : Option Value) (z : Value) : Value := if ok then .tuple ⟨[r.getD z, .bool r.isSome]⟩ else r.getD z
def lookupW (P : Program) (t : TypeId) (m k : Value) (ok : Bool) (H : AHeap) (K : Value → AHeap → Prop) : Prop :=
  match P.underlying t with
  | some (.map kt et) => keyB (P.underlying kt) k = true ∧ wth (tV P et) fun z => plain z = true ∧ (match m with
    | .map none => K (lkRes ok none z) H
    | .map (some i) => (match H[i]? with
      | some (.amap es _ _) => keysB (P.underlying kt) es = true ∧ K (lkRes ok (mGet k es) z) H
      | _ => False)
    | _ => False)
  | _ => False

theorem lookupW_ok {P : Program} {t : TypeId} {ok : Bool} {c : Ctx} {H : AHeap} {w : World} {K : Value → AHeap → Prop} (h : HRel c H w) {m m' k k' : Value} (hm : VRel c m m') (hk : VRel c k k') (hw : lookupW P t m k ok H K) : Gives P (Instr.lookup t m' k' ok) c H w K := by
  unfold lookupW at hw
  split at hw
  · rename_i kt et hu
    obtain ⟨hkb, hw⟩ := hw
    obtain ⟨z, hz, hpl, hw⟩ := wth_elim hw
    have hke := hk.scalar_eq (keyB_scalar hkb)
    subst hke
    obtain ⟨d0, hd0, hik⟩ := keyB_isKey hkb
    have hzr := run_zeroV hz
    split at hw
    · cases hm
      refine .pure h (v' := lkRes ok none z) ?_ ?_ hw
      · have hf : (Instr.findKey kt k' []).run P w = .ok none w := MapKept.run_findKey hd0 rfl
        have hck := fun e => MapKept.run_checkKey (w := w) hd0 hik e 9999
        simp only [Instr.lookup, Sem.run_bind, run_underlying hu, Result.andThen_ok, Sem.run_pure]
        have h0 : (Instr.checkKey (#[] : Array MapEntry).isEmpty 10000 kt k').run P w = .ok () w := hck _
        rw [h0]
        simp only [Result.andThen_ok]
        rw [hf]
        simp only [Result.andThen_ok, Sem.run_bind, hzr, Sem.run_pure]
        cases ok <;> rfl
      · cases ok
        · exact .of_plain hpl
        · exact .tuple (.cons (.of_plain hpl) (.cons (.bool _) .nil))
    · rename_i i _
      cases hm with
      | map hc =>
      split at hw
      · rename_i es ck own hi
        obtain ⟨hes, hw⟩ := hw
        obtain ⟨q, hq, hr⟩ := h.obj i _ hi rfl
        rw [hc] at hq; cases hq
        obtain ⟨ms, hb, hmr⟩ := hr
        have hf := find_ok hkb hd0 0 hes hmr
        have hck : (Instr.checkKey ms.isEmpty 10000 kt k').run P w = .ok () w := MapKept.run_checkKey hd0 hik _ 9999
        have hgo := MapKept.run_getObj_map (P := P) hb
        cases hx : mIx k' es with
        | none =>
          rw [hx] at hf
          have hg : mGet k' es = none := by simp [mGet, hx]
          rw [hg] at hw
          refine .pure h (v' := lkRes ok none z) ?_ ?_ hw
          · simp only [Instr.lookup, Sem.run_bind, run_underlying hu, Result.andThen_ok, hgo, Sem.run_pure, hck, MapKept.run_findKey hd0 hf, hzr]
            cases ok <;> rfl
          · cases ok
            · exact .of_plain hpl
            · exact .tuple (.cons (.of_plain hpl) (.cons (.bool _) .nil))
        | some j =>
          rw [hx] at hf
          obtain ⟨m, r1, r2, r3⟩ := hf
          have hjl : j < es.length := by rw [hmr.len]; exact (List.getElem?_eq_some_iff.1 r1).1
          obtain ⟨m1, s1, s2, s3, s4⟩ := hmr.get (List.getElem?_eq_getElem hjl)
          rw [r1] at s1; cases s1
          have hg : mGet k' es = some es[j].2.1 := by simp [mGet, hx, List.getElem?_eq_getElem hjl]
          rw [hg] at hw
          refine .pure h (v' := lkRes ok (some m.val) z) ?_ ?_ hw
          · simp only [Instr.lookup, Sem.run_bind, run_underlying hu, Result.andThen_ok, hgo, Sem.run_pure, hck, MapKept.run_findKey hd0 r3]
            cases ok <;> rfl
          · cases ok
            · exact s3
            · exact .tuple (.cons s3 (.cons (.bool _) .nil))
      · exact hw.elim
    · exact hw.elim
  · exact hw.elim

def makeMapW (n : Option Value) (H : AHeap) (K : Value → AHeap → Prop) : Prop := n = none ∧ K (.map (some H.length)) (H ++ [.amap [] 0 true])
theorem makeMapW_ok {P : Program} {t : TypeId} {n n' : Option Value} {c : Ctx} {H : AHeap} {w : World} {K : Value → AHeap → Prop} (h : HRel c H w) (hn : n = none → n' = none) (hw : makeMapW n H K) : Gives P (Instr.makeMap t n') c H w K := by
  obtain ⟨h0, hk⟩ := hw
  rw [hn h0]
  have hext := fun n => h.extend (w' := w.alloc (.map #[] 0)) (p := ⟨w.heap.size, 0, 0, 0, 0⟩) ⟨rfl, rfl, rfl⟩ (by simp) (fun b hb => by simp only [World.alloc, Array.getElem?_push]; rw [if_neg (by omega)]) (Nat.le_refl _) (o := .amap [] 0 true) ⟨#[], by show (w.heap.push _)[w.heap.size]? = _; simp, MapRel.nil⟩ n
  refine ⟨.map (some w.heap.size), w.alloc (.map #[] 0), ?_, _, _, _, hk, .map (p := ⟨w.heap.size, 0, 0, 0, 0⟩) (by simp), (hext 0).2.2, (hext 0).1, fun n => (hext n).2.1⟩
  simp only [Instr.makeMap, Sem.run_bind, run_newObj, Result.andThen_ok, Sem.run_pure]
  rfl

theorem HRel.putMap {c : Ctx} {H : AHeap} {w : World} (h : HRel c H w) {i : Nat} {es : MEs} {ck : Nat} (hi : H[i]? = some (.amap es ck true)) {p : Place} (hc : c i = some p) {ms ms' : Array MapEntry} (hb : w.heap[p.block]? = some (.map ms ck)) {es' : MEs} {ck' : Nat} (hr : MapRel c es' ms'.toList) (n : Nat) :
    HRel c (H.set i (.amap es' ck' true)) { w with heap := w.heap.setIfInBounds p.block (.map ms' ck') } ∧ Trans n c H w c (H.set i (.amap es' ck' true)) { w with heap := w.heap.setIfInBounds p.block (.map ms' ck') } := by
  have hs := MapKept.heap_set (o' := .map ms' ck') hb
  exact h.change (w' := { w with heap := w.heap.setIfInBounds p.block (.map ms' ck') }) (o := .amap es ck true) (o' := .amap es' ck' true) ⟨rfl, rfl, rfl⟩ (by simp) hi rfl hc (fun b hbn => hs.2 b hbn) ⟨ms', hs.1, hr⟩ (fun _ => rfl) n

def mapUpdateW (P : Program) (t : TypeId) (m k v : Value) (H : AHeap) (K : AHeap → Prop) : Prop :=
  match P.underlying t, m with
  | some (.map kt _), .map (some i) => (match H[i]? with
    | some (.amap es ck own) => own = true ∧ keyB (P.underlying kt) k = true ∧ keysB (P.underlying kt) es = true ∧ K (H.set i (.amap (mPut k v ck es) (mCk k ck es) true))
    | _ => False)
  | _, _ => False
theorem mapUpdateW_ok {P : Program} {t : TypeId} {c : Ctx} {H : AHeap} {w : World} {K : AHeap → Prop} (h : HRel c H w) {m m' k k' v v' : Value} (hm : VRel c m m') (hk : VRel c k k') (hv : VRel c v v') (hw : mapUpdateW P t m k v H K) :
    ∃ w' H', (Instr.mapUpdate t m' k' v').run P w = .ok () w' ∧ K H' ∧ HRel c H' w' ∧ ∀ n, Trans n c H w c H' w' := by
  unfold mapUpdateW at hw
  split at hw
  · rename_i kt et i hu
    cases hm with
    | map hc =>
    split at hw
    · rename_i es ck own hi
      obtain ⟨ho, hkb, hes, hw⟩ := hw
      subst ho
      have hke := hk.scalar_eq (keyB_scalar hkb)
      subst hke
      obtain ⟨d0, hd0, hik⟩ := keyB_isKey hkb
      obtain ⟨q, hq, hr⟩ := h.obj i _ hi rfl
      rw [hc] at hq; cases hq
      obtain ⟨ms, hb, hmr⟩ := hr
      have hf := find_ok hkb hd0 0 hes hmr
      have hck : (Instr.checkKey false 10000 kt k').run P w = .ok () w := MapKept.run_checkKey hd0 hik _ 9999
      have hgo := MapKept.run_getObj_map (P := P) hb
      cases hx : mIx k' es with
      | none =>
        rw [hx] at hf
        have e1 : mPut k' v ck es = es ++ [(k', v, ck)] := by simp [mPut, hx]
        have e2 : mCk k' ck es = ck + 1 := by simp [mCk, hx]
        rw [e1, e2] at hw
        have hp := fun n => h.putMap hi hc hb (ms' := ms.push { key := k', val := v', born := ck }) (ck' := ck + 1) (by simpa using hmr.snoc (b := ck) (keyB_scalar hkb) hv) n
        refine ⟨_, _, ?_, hw, (hp 0).1, fun n => (hp n).2⟩
        simp only [Instr.mapUpdate, Sem.run_bind, run_underlying hu, Result.andThen_ok, hgo, hck, MapKept.run_findKey hd0 hf]
        exact MapKept.run_setObj_map _ hb
      | some j =>
        rw [hx] at hf
        obtain ⟨m, r1, r2, r3⟩ := hf
        have e1 : mPut k' v ck es = es.modify j fun e => (k', v, e.2.2) := by simp [mPut, hx]
        have e2 : mCk k' ck es = ck := by simp [mCk, hx]
        rw [e1, e2] at hw
        have r1' : ms[j]? = some m := by rw [← r1]; simp
        have hkey : ((ms[j]?).map (·.key)).getD k' = k' := by rw [r1']; exact r2
        have hp := fun n => h.putMap hi hc hb (ms' := ms.modify j fun e => { e with key := k', val := v' }) (ck' := ck) (es' := es.modify j fun e => (k', v, e.2.2)) (by
          rw [Array.toList_modify]
          refine hmr.modify j fun e m he hm => ⟨.of_scalar (keyB_scalar hkb), hv, ?_⟩
          obtain ⟨m1, a1, a2, a3, a4⟩ := hmr.get he
          rw [hm] at a1; cases a1
          exact a4) n
        refine ⟨_, _, ?_, hw, (hp 0).1, fun n => (hp n).2⟩
        simp only [Instr.mapUpdate, Sem.run_bind, run_underlying hu, Result.andThen_ok, hgo, hck, MapKept.run_findKey hd0 r3, Nat.zero_add, hkey, run_stays hkb]
        exact MapKept.run_setObj_map _ hb
    · exact hw.elim
  · exact hw.elim

def deleteW (P : Program) (t : TypeId) (m k : Value) (H : AHeap) (K : Value → AHeap → Prop) : Prop :=
  match P.underlying t, m with
  | some (.map kt _), .map (some i) => (match H[i]? with
    | some (.amap es ck own) => own = true ∧ keyB (P.underlying kt) k = true ∧ keysB (P.underlying kt) es = true ∧ K (.tuple ⟨[]⟩) (H.set i (.amap (mDel k es) ck true))
    | _ => False)
  | _, _ => False
theorem deleteW_ok {P : Program} {t ty : TypeId} {ts : Array TypeId} {c : Ctx} {H : AHeap} {w : World} {K : Value → AHeap → Prop} (hts : ts[0]? = some t) (h : HRel c H w) {m m' k k' : Value} (hm : VRel c m m') (hk : VRel c k k') (hw : deleteW P t m k H K) : Gives P (Builtin.delete_ ts ty #[m', k']) c H w K := by
  unfold deleteW at hw
  split at hw
  · rename_i kt et i hu
    cases hm with
    | map hc =>
    split at hw
    · rename_i es ck own hi
      obtain ⟨ho, hkb, hes, hw⟩ := hw
      subst ho
      have hke := hk.scalar_eq (keyB_scalar hkb)
      subst hke
      obtain ⟨d0, hd0, hik⟩ := keyB_isKey hkb
      obtain ⟨q, hq, hr⟩ := h.obj i _ hi rfl
      rw [hc] at hq; cases hq
      obtain ⟨ms, hb, hmr⟩ := hr
      have hf := find_ok hkb hd0 0 hes hmr
      have hck : (Instr.checkKey ms.isEmpty 10000 kt k').run P w = .ok () w := MapKept.run_checkKey hd0 hik _ 9999
      have hgo := MapKept.run_getObj_map (P := P) hb
      have e0 : (#[Value.map (some (by assumption : Place).block), k'] : Array Value).size = 2 := rfl
      cases hx : mIx k' es with
      | none =>
        rw [hx] at hf
        have e1 : mDel k' es = es := by simp [mDel, hx]
        rw [e1] at hw
        have hp := fun n => h.putMap hi hc hb (ms' := ms) (ck' := ck) hmr n
        refine ⟨.tuple ⟨[]⟩, _, ?_, _, _, c, hw, .tuple .nil, Ctx.le_refl c, (hp 0).1, fun n => (hp n).2⟩
        unfold Builtin.delete_
        simp only [hts, List.getElem?_toArray, List.getElem?_cons_zero, List.getElem?_cons_succ, Sem.run_bind, run_underlying hu, Result.andThen_ok, hgo, hck, MapKept.run_findKey hd0 hf, MapKept.run_setObj_map _ hb, Sem.run_pure]
      | some j =>
        rw [hx] at hf
        obtain ⟨m, r1, r2, r3⟩ := hf
        have e1 : mDel k' es = es.eraseIdx j := by simp [mDel, hx]
        rw [e1] at hw
        have hjl : j < ms.size := by have := (List.getElem?_eq_some_iff.1 r1).1; simpa using this
        have hp := fun n => h.putMap hi hc hb (ms' := ms.eraseIdxIfInBounds j) (ck' := ck) (es' := es.eraseIdx j) (by
          have : (ms.eraseIdxIfInBounds j).toList = ms.toList.eraseIdx j := by
            unfold Array.eraseIdxIfInBounds; rw [dif_pos hjl]; simp
          rw [this]
          exact hmr.erase j) n
        refine ⟨.tuple ⟨[]⟩, _, ?_, _, _, c, hw, .tuple .nil, Ctx.le_refl c, (hp 0).1, fun n => (hp n).2⟩
        unfold Builtin.delete_
        simp only [hts, List.getElem?_toArray, List.getElem?_cons_zero, List.getElem?_cons_succ, Sem.run_bind, run_underlying hu, Result.andThen_ok, hgo, hck, MapKept.run_findKey hd0 r3, Nat.zero_add, MapKept.run_setObj_map _ hb, Sem.run_pure]
    · exact hw.elim
  · exact hw.elim

/-- The entry of a key, made if there is none: what it holds, and its stamp. -/
def mStamp (k : Value) (ck : Nat) (es : MEs) : Nat := ((mIx k es).bind fun j => (es[j]?).map (·.2.2)).getD ck
def mEnt (k z : Value) (ck : Nat) (es : MEs) : MEs := match mIx k es with
  | some j => es.modify j fun e => (k, e.2.1, e.2.2)
  | none => es ++ [(k, z, ck)]
def mapEntryW (P : Program) (t : TypeId) (m k : Value) (H : AHeap) (K : Value → AHeap → Prop) : Prop :=
  match P.underlying t, m with
  | some (.map kt et), .map (some i) => (match H[i]? with
    | some (.amap es ck own) => own = true ∧ keyB (P.underlying kt) k = true ∧ keysB (P.underlying kt) es = true ∧ wth (tV P et) fun z => plain z = true ∧
        K (.tuple ⟨[(mGet k es).getD z, .int .i64 (mStamp k ck es : Nat)]⟩) (H.set i (.amap (mEnt k z ck es) (mCk k ck es) true))
    | _ => False)
  | _, _ => False
theorem mapEntryW_ok {P : Program} {t : TypeId} {c : Ctx} {H : AHeap} {w : World} {K : Value → AHeap → Prop} (h : HRel c H w) {m m' k k' : Value} (hm : VRel c m m') (hk : VRel c k k') (hw : mapEntryW P t m k H K) : Gives P (Instr.mapEntry t m' k') c H w K := by
  unfold mapEntryW at hw
  split at hw
  · rename_i kt et i hu
    cases hm with
    | map hc =>
    split at hw
    · rename_i es ck own hi
      obtain ⟨ho, hkb, hes, hw⟩ := hw
      obtain ⟨z, hz, hpl, hw⟩ := wth_elim hw
      subst ho
      have hzr := run_zeroV hz
      have hke := hk.scalar_eq (keyB_scalar hkb)
      subst hke
      obtain ⟨d0, hd0, hik⟩ := keyB_isKey hkb
      obtain ⟨q, hq, hr⟩ := h.obj i _ hi rfl
      rw [hc] at hq; cases hq
      obtain ⟨ms, hb, hmr⟩ := hr
      have hf := find_ok hkb hd0 0 hes hmr
      have hck : (Instr.checkKey false 10000 kt k').run P w = .ok () w := MapKept.run_checkKey hd0 hik _ 9999
      have hgo := MapKept.run_getObj_map (P := P) hb
      cases hx : mIx k' es with
      | none =>
        rw [hx] at hf
        have e1 : mEnt k' z ck es = es ++ [(k', z, ck)] := by simp [mEnt, hx]
        have e2 : mCk k' ck es = ck + 1 := by simp [mCk, hx]
        have e3 : mGet k' es = none := by simp [mGet, hx]
        have e4 : mStamp k' ck es = ck := by simp [mStamp, hx]
        rw [e1, e2, e3, e4] at hw
        have hp := fun n => h.putMap hi hc hb (ms' := ms.push { key := k', val := z, born := ck }) (ck' := ck + 1) (by simpa using hmr.snoc (b := ck) (keyB_scalar hkb) (.of_plain hpl)) n
        refine ⟨.tuple ⟨[z, .int .i64 (ck : Nat)]⟩, _, ?_, _, _, c, hw, .tuple (.cons (.of_plain hpl) (.cons (.int _ _) .nil)), Ctx.le_refl c, (hp 0).1, fun n => (hp n).2⟩
        simp only [Instr.mapEntry, Sem.run_bind, run_underlying hu, Result.andThen_ok, hgo, hck, MapKept.run_findKey hd0 hf, hzr, MapKept.run_setObj_map _ hb, Sem.run_pure]
        rfl
      | some j =>
        rw [hx] at hf
        obtain ⟨m, r1, r2, r3⟩ := hf
        have hjl : j < es.length := by rw [hmr.len]; exact (List.getElem?_eq_some_iff.1 r1).1
        obtain ⟨m1, s1, s2, s3, s4⟩ := hmr.get (List.getElem?_eq_getElem hjl)
        rw [r1] at s1; cases s1
        have r1' : ms[j]? = some m := by rw [← r1]; simp
        have hkey : ((ms[j]?).map (·.key)).getD k' = k' := by rw [r1']; exact r2
        have hborn : ((ms[j]?).map (fun x => (x.born : Int))).getD 0 = ((es[j].2.2 : Nat) : Int) := by rw [r1', ← s4]; rfl
        have e1 : mEnt k' z ck es = es.modify j fun e => (k', e.2.1, e.2.2) := by simp [mEnt, hx]
        have e2 : mCk k' ck es = ck := by simp [mCk, hx]
        have e3 : mGet k' es = some es[j].2.1 := by simp [mGet, hx, List.getElem?_eq_getElem hjl]
        have e4 : mStamp k' ck es = es[j].2.2 := by simp [mStamp, hx, List.getElem?_eq_getElem hjl]
        rw [e1, e2, e3, e4] at hw
        have hp := fun n => h.putMap hi hc hb (ms' := ms.modify j fun e => { e with key := k' }) (ck' := ck) (es' := es.modify j fun e => (k', e.2.1, e.2.2)) (by
          rw [Array.toList_modify]
          refine hmr.modify j fun e m he hm => ?_
          obtain ⟨m1, a1, a2, a3, a4⟩ := hmr.get he
          rw [hm] at a1; cases a1
          exact ⟨.of_scalar (keyB_scalar hkb), a3, a4⟩) n
        refine ⟨.tuple ⟨[m.val, .int .i64 (es[j].2.2 : Nat)]⟩, _, ?_, _, _, c, hw, .tuple (.cons s3 (.cons (.int _ _) .nil)), Ctx.le_refl c, (hp 0).1, fun n => (hp n).2⟩
        simp only [Instr.mapEntry, Sem.run_bind, run_underlying hu, Result.andThen_ok, hgo, hck, MapKept.run_findKey hd0 r3, Nat.zero_add, hkey, run_stays hkb, MapKept.run_setObj_map _ hb, Sem.run_pure, hborn]
        rfl
    · exact hw.elim
  · exact hw.elim

def mSto (n : Int) (v : Value) (es : MEs) : Option MEs := (es.findIdx? fun e => (e.2.2 : Int) == n).map fun j => es.modify j fun e => (e.1, v, e.2.2)
def entryStoreW (m s v : Value) (H : AHeap) (K : AHeap → Prop) : Prop :=
  match m, s with
  | .map (some i), .int .i64 n => (match H[i]? with
    | some (.amap es ck own) => own = true ∧ wth (mSto n v es) fun es' => K (H.set i (.amap es' ck true))
    | _ => False)
  | _, _ => False
theorem findIdx_map {α β : Type} (f : α → β) (p : β → Bool) : ∀ l : List α, (l.map f).findIdx? p = l.findIdx? fun a => p (f a)
  | [] => rfl
  | a :: l => by simp only [List.map_cons, List.findIdx?_cons, findIdx_map f p l]
theorem entryStoreW_ok {P : Program} {t : TypeId} {c : Ctx} {H : AHeap} {w : World} {K : AHeap → Prop} (h : HRel c H w) {m m' s s' v v' : Value} (hm : VRel c m m') (hs : VRel c s s') (hv : VRel c v v') (hw : entryStoreW m s v H K) :
    ∃ w' H', (Instr.entryStore t m' s' v').run P w = .ok () w' ∧ K H' ∧ HRel c H' w' ∧ ∀ n, Trans n c H w c H' w' := by
  unfold entryStoreW at hw
  split at hw
  · rename_i i n
    cases hm with
    | map hc =>
    cases hs
    split at hw
    · rename_i es ck own hi
      obtain ⟨ho, hw⟩ := hw
      subst ho
      obtain ⟨es', he, hw⟩ := wth_elim hw
      obtain ⟨q, hq, hr⟩ := h.obj i _ hi rfl
      rw [hc] at hq; cases hq
      obtain ⟨ms, hb, hmr⟩ := hr
      have hgo := MapKept.run_getObj_map (P := P) hb
      unfold mSto at he
      rw [Option.map_eq_some_iff] at he
      obtain ⟨j, hj, rfl⟩ := he
      have hfi : ms.findIdx? (fun e => (e.born : Int) == n) = some j := by
        have ht := List.findIdx?_toArray (fun e : MapEntry => (e.born : Int) == n) ms.toList
        rw [Array.toArray_toList] at ht
        rw [ht, ← hj, ← findIdx_map (fun e : MapEntry => e.born) (fun b => (b : Int) == n), hmr.2.2, findIdx_map]
      have hp := fun n => h.putMap hi hc hb (ms' := ms.modify j fun e => { e with val := v' }) (ck' := ck) (es' := es.modify j fun e => (e.1, v, e.2.2)) (by
        rw [Array.toList_modify]
        refine hmr.modify j fun e m he hm => ?_
        obtain ⟨m1, a1, a2, a3, a4⟩ := hmr.get he
        rw [hm] at a1; cases a1
        exact ⟨a2, hv, a4⟩) n
      refine ⟨_, _, ?_, hw, (hp 0).1, fun n => (hp n).2⟩
      simp only [Instr.entryStore, Sem.run_bind, hgo, Result.andThen_ok, asInt, asIntOf, Sem.run_pure, hfi]
      exact MapKept.run_setObj_map _ hb
    · exact hw.elim
  · exact hw.elim
end Go.Aw
