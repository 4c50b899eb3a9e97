/-
  Regions; what may be forgotten; loops; a function's contract out of its body.
-/
import Derived.Test.YtdeoaadkngiilaaDoorAw12
set_option linter.unusedVariables false
set_option linter.unusedSimpArgs false
namespace Go.Aw

/-! ### A region in the order of its text -/
def gd (ops : List Oper) (j : Nat) : Option Tmp := (ops[j]?).bind (·.dst)

def wantW (ops : List Oper) (o : Oper) (st : ASt) (run skip : Prop) : Prop :=
  match o.guard with
  | none => run
  | some (j, want) => wth (gd ops j) fun d => wth (lk d st.env) fun v => match v with
    | .bool b => (b = want → run) ∧ (b ≠ want → skip)
    | .tuple _ => skip
    | _ => False

def regionW (g : Cfg) (ops : List Oper) : List Oper → ASt → (ASt → Prop) → (Value → ASt → Prop) → Prop
  | [], st, K, _ => K st
  | o :: r, st, K, Kp => wantW ops o st (opW g o st (fun st' => regionW g ops r st' K Kp) Kp) (regionW g ops r (st.put o.dst noVal) K Kp)

def dstsOk (N : Nat) (l : List Oper) : Bool := l.all fun o => match o.dst with | some d => decide (d < N) | none => true

theorem wantW_elim {N : Fr} {c : Ctx} {ops : List Oper} {o : Oper} {st : ASt} {run skip : Prop} {w : World} {a : Act} (hs : SRel N c st w a) (h : wantW ops o st run skip) :
    (Region.wanted o (yielded ops.toArray a.tmps) = true ∧ run) ∨ (Region.wanted o (yielded ops.toArray a.tmps) = false ∧ skip) := by
  unfold wantW at h
  unfold Region.wanted
  split at h
  · rename_i hg; rw [hg]; exact .inl ⟨rfl, h⟩
  · rename_i j want hg
    rw [hg]
    obtain ⟨d, hd, h⟩ := wth_elim h
    obtain ⟨v, hv, h⟩ := wth_elim h
    obtain ⟨v', h1, h2⟩ := hs.tmps d v hv
    have hd' : ((ops.toArray[j]?).bind (·.dst)) = some d := by simpa [gd] using hd
    have hy : yielded ops.toArray a.tmps j = (match some v' with | some (.bool b) => some b | _ => none) := by
      unfold yielded
      rw [hd', Option.bind_some, ← h1]
      rfl
    split at h
    · rename_i b
      cases h2
      simp only at hy
      by_cases hb : b = want
      · exact .inl ⟨by simp only [hy, hb]; simp, h.1 hb⟩
      · exact .inr ⟨by simp only [hy]; simpa using hb, h.2 hb⟩
    · cases h2
      exact .inr ⟨by simp only [hy]; rfl, h⟩
    · exact h.elim

theorem region_ok {g : Cfg} {Q : AExit → ASt → Prop} (ops : List Oper) : ∀ (l : List Oper) (st : ASt), dstsOk g.N.n l = true → regionW g ops l st (fun st' => Q .normal st') (fun v st' => Q (.panic v) st') →
    ∀ c w a, SRel g.N c st w a → wpListIn (fenceOf g.lr) 0 g.P ops.toArray (APost g Q c st.H w) l a w
  | [], st, _, h, c, w, a, hs => ⟨.normal, st, c, h, .normal, hs, .refl _ _ _ _⟩
  | o :: l, st, hd, h, c, w, a, hs => by
    simp only [dstsOk, List.all_cons, Bool.and_eq_true] at hd
    have hd1 : ∀ d, o.dst = some d → d < g.N.n := fun d e => by rw [e] at hd; simpa using hd.1
    simp only [regionW] at h
    simp only [wpListIn]
    rcases wantW_elim hs h with ⟨hw, hr⟩ | ⟨hw, hr⟩
    · rw [if_pos hw]
      refine opW_ok hd1 hr c w a _ _ hs ?_ ?_
      · intro st' c' a' w' hK hs' ht _
        have := region_ok ops l st' (by simpa [dstsOk] using hd.2) hK c' w' a' hs'
        have hback : ∀ e a2 w2, APost g Q c' st'.H w' e a2 w2 → APost g Q c st.H w e a2 w2 := fun e a2 w2 hp => hp.back ht
        exact wpList_mono hback l this
      · intro v v' st' c' a' w' hKp hv hs' ht
        exact ⟨.panic v, st', c', hKp, .panic hv, hs', ht⟩
    · rw [if_neg (by rw [hw]; simp)]
      refine ⟨about_any g.lr, ?_⟩
      have hs' : SRel g.N c (st.put o.dst noVal) w (a.put o.dst undef) := hs.put hd1 (.tuple .nil)
      have := region_ok ops l (st.put o.dst noVal) (by simpa [dstsOk] using hd.2) hr c w _ hs'
      have hH : (st.put o.dst noVal).H = st.H := by cases o.dst <;> rfl
      rw [hH] at this
      exact this
where
  wpList_mono {F : Fence} {n : Nat} {P : Program} {ops : Array Oper} {Q Q' : Exit → Act → World → Prop} (hq : ∀ e a w, Q e a w → Q' e a w) : ∀ (l : List Oper) {a : Act} {w : World}, wpListIn F n P ops Q l a w → wpListIn F n P ops Q' l a w
    | [], a, w, h => hq _ _ _ h
    | o :: l, a, w, h => by
      simp only [wpListIn] at h ⊢
      split
      · rename_i hw
        rw [if_pos hw] at h
        refine ⟨h.1, ?_⟩
        have hh := h.2
        generalize (o.semAt F.round a.eval).run P w = r at *
        cases r with
        | ok x w' =>
          cases x <;> simp only [Oper.uponIn] at hh ⊢ <;>
            first
              | exact wpList_mono hq l hh
              | exact ⟨hh.1, CallsIn.mono hh.2 (fun e w'' he => by
                  cases e with
                  | returned v => exact wpList_mono hq l he
                  | panicked ch => exact hq _ _ _ he
                  | outgrown => obtain ⟨a0, w0, h0⟩ := he; exact ⟨a0, w0, hq _ _ _ h0⟩)⟩
              | exact ⟨hh.1, RowsIn.mono hh.2 (fun _ _ he => wpList_mono hq l he)⟩
              | exact ⟨hh.1, RoundIn.mono hh.2 (fun e w'' he => by
                  cases e with
                  | returned v => exact wpList_mono hq l he
                  | panicked ch => exact hq _ _ _ he
                  | outgrown => obtain ⟨a0, w0, h0⟩ := he; exact ⟨a0, w0, hq _ _ _ h0⟩)⟩
        | halt x w' => cases x <;> simp only [Oper.uponIn] at hh ⊢ <;> exact hq _ _ _ hh
      · rename_i hw
        rw [if_neg hw] at h
        exact ⟨h.1, wpList_mono hq l h.2⟩

theorem AWP.region {g : Cfg} {Q : AExit → ASt → Prop} {st : ASt} {id : Nat} {l : List Oper} (hd : dstsOk g.N.n l = true) (h : regionW g l l st (fun st' => Q .normal st') (fun v st' => Q (.panic v) st')) :
    AWP g (.region id l.toArray false) Q st :=
  fun c w a hs => wpIn_region_lit (region_ok l l st hd h c w a hs)

/-! ### What may be forgotten, and names that change -/
abbrev Names := Nat → Option Nat

mutual
/-- A value under new names. -/
inductive NRel (m : Names) : Value → Value → Prop
  | bool (b : Bool) : NRel m (.bool b) (.bool b)
  | int (k : IntKind) (n : Int) : NRel m (.int k n) (.int k n)
  | float (k : FloatKind) (n : Nat) : NRel m (.float k n) (.float k n)
  | string (s : ByteArray) : NRel m (.string s) (.string s)
  | nilPtr : NRel m (.pointer none) (.pointer none)
  | ptr {i j off : Nat} : m i = some j → NRel m (.pointer (some ⟨i, off, none⟩)) (.pointer (some ⟨j, off, none⟩))
  | nilSlice (l n : Nat) : NRel m (.slice none l n) (.slice none l n)
  | slice {i j off len cap : Nat} : m i = some j → NRel m (.slice (some ⟨i, off, none⟩) len cap) (.slice (some ⟨j, off, none⟩) len cap)
  | nilMap : NRel m (.map none) (.map none)
  | map {i j : Nat} : m i = some j → NRel m (.map (some i)) (.map (some j))
  | func {f : FuncId} {xs ys xs' ys' : List Value} : NRels m xs xs' → NRels m ys ys' → NRel m (.func (.func f) ⟨xs⟩ ⟨ys⟩) (.func (.func f) ⟨xs'⟩ ⟨ys'⟩)
  | method {f : String} {xs ys xs' ys' : List Value} : NRels m xs xs' → NRels m ys ys' → NRel m (.func (.method f) ⟨xs⟩ ⟨ys⟩) (.func (.method f) ⟨xs'⟩ ⟨ys'⟩)
  | methodOf {t : TypeId} {f : String} {xs ys xs' ys' : List Value} : NRels m xs xs' → NRels m ys ys' → NRel m (.func (.methodOf t f) ⟨xs⟩ ⟨ys⟩) (.func (.methodOf t f) ⟨xs'⟩ ⟨ys'⟩)
  | yield {i j : Nat} {xs ys xs' ys' : List Value} : m i = some j → NRels m xs xs' → NRels m ys ys' → NRel m (.func (.yield i) ⟨xs⟩ ⟨ys⟩) (.func (.yield j) ⟨xs'⟩ ⟨ys'⟩)
  | nilFunc : NRel m .nilFunc .nilFunc
  | iface {t : TypeId} {v v' : Value} : NRel m v v' → NRel m (.iface t v) (.iface t v')
  | nilIface : NRel m .nilIface .nilIface
  | agg {xs xs' : List Value} : NRels m xs xs' → NRel m (.agg ⟨xs⟩) (.agg ⟨xs'⟩)
  | tuple {xs xs' : List Value} : NRels m xs xs' → NRel m (.tuple ⟨xs⟩) (.tuple ⟨xs'⟩)
inductive NRels (m : Names) : List Value → List Value → Prop
  | nil : NRels m [] []
  | cons {v v' : Value} {xs xs' : List Value} : NRel m v v' → NRels m xs xs' → NRels m (v :: xs) (v' :: xs')
end

mutual
theorem NRel.comp {m : Names} {c e : Ctx} (h : ∀ i j, m i = some j → e i = c j) : ∀ {v v1 v' : Value}, NRel m v v1 → VRel c v1 v' → VRel e v v'
  | _, _, _, .bool b, k => by cases k; exact .bool b
  | _, _, _, .int k n, j => by cases j; exact .int k n
  | _, _, _, .float k n, j => by cases j; exact .float k n
  | _, _, _, .string s, k => by cases k; exact .string s
  | _, _, _, .nilPtr, k => by cases k; exact .nilPtr
  | _, _, _, .ptr hi, k => by cases k with | ptr hj => exact .ptr (by rw [h _ _ hi]; exact hj)
  | _, _, _, .nilSlice l n, k => by cases k; exact .nilSlice l n
  | _, _, _, .slice hi, k => by
    cases k with
    | slice hj => exact .slice (by rw [h _ _ hi]; exact hj)
    | sliceX hj hx => exact .sliceX (by rw [h _ _ hi]; exact hj) hx
    | sliceZ hj => exact .sliceZ (by rw [h _ _ hi]; exact hj)
  | _, _, _, .nilMap, k => by cases k; exact .nilMap
  | _, _, _, .map hi, k => by cases k with | map hj => exact .map (by rw [h _ _ hi]; exact hj)
  | _, _, _, .func a b, k => by cases k with | func f' a' b' => cases f'; exact .func (.func _) (NRels.comp h a a') (NRels.comp h b b')
  | _, _, _, .method a b, k => by cases k with | func f' a' b' => cases f'; exact .func (.method _) (NRels.comp h a a') (NRels.comp h b b')
  | _, _, _, .methodOf a b, k => by cases k with | func f' a' b' => cases f'; exact .func (.methodOf _ _) (NRels.comp h a a') (NRels.comp h b b')
  | _, _, _, .yield hi a b, k => by cases k with | func f' a' b' => cases f' with | yield hj => exact .func (.yield (by rw [h _ _ hi]; exact hj)) (NRels.comp h a a') (NRels.comp h b b')
  | _, _, _, .nilFunc, k => by cases k; exact .nilFunc
  | _, _, _, .iface a, k => by cases k with | iface b => exact .iface (NRel.comp h a b)
  | _, _, _, .nilIface, k => by cases k; exact .nilIface
  | _, _, _, .agg a, k => by cases k with | agg b => exact .agg (NRels.comp h a b)
  | _, _, _, .tuple a, k => by cases k with | tuple b => exact .tuple (NRels.comp h a b)
theorem NRels.comp {m : Names} {c e : Ctx} (h : ∀ i j, m i = some j → e i = c j) : ∀ {v v1 v' : List Value}, NRels m v v1 → VRels c v1 v' → VRels e v v'
  | _, _, _, .nil, k => by cases k; exact .nil
  | _, _, _, .cons a b, k => by cases k with | cons a' b' => exact .cons (NRel.comp h a a') (NRels.comp h b b')
end

/-- The names below n, each itself. -/
def upto (n : Nat) : Names := fun i => if i < n then some i else none

mutual
theorem VRel.inside {c : Ctx} {m : Names} (h : ∀ i p, c i = some p → m i = some i) : ∀ {v v' : Value}, VRel c v v' → NRel m v v
  | _, _, .bool b => .bool b
  | _, _, .int k n => .int k n
  | _, _, .float k n => .float k n
  | _, _, .string s => .string s
  | _, _, .nilPtr => .nilPtr
  | _, _, .ptr e => .ptr (h _ _ e)
  | _, _, .nilSlice l n => .nilSlice l n
  | _, _, .slice e => .slice (h _ _ e)
  | _, _, .sliceX e x => .slice (h _ _ e)
  | _, _, .sliceZ e => .slice (h _ _ e)
  | _, _, .nilMap => .nilMap
  | _, _, .map e => .map (h _ _ e)
  | _, _, .func f a b => by
    cases f with
    | func => exact .func (VRels.inside h a) (VRels.inside h b)
    | method => exact .method (VRels.inside h a) (VRels.inside h b)
    | methodOf => exact .methodOf (VRels.inside h a) (VRels.inside h b)
    | yield e => exact .yield (h _ _ e) (VRels.inside h a) (VRels.inside h b)
  | _, _, .nilFunc => .nilFunc
  | _, _, .iface a => .iface (VRel.inside h a)
  | _, _, .nilIface => .nilIface
  | _, _, .agg a => .agg (VRels.inside h a)
  | _, _, .tuple a => .tuple (VRels.inside h a)
theorem VRels.inside {c : Ctx} {m : Names} (h : ∀ i p, c i = some p → m i = some i) : ∀ {v v' : List Value}, VRels c v v' → NRels m v v
  | _, _, .nil => .nil
  | _, _, .cons a b => .cons (VRel.inside h a) (VRels.inside h b)
end

mutual
theorem NRel.mono {m m' : Names} (h : ∀ i j, m i = some j → m' i = some j) : ∀ {v v' : Value}, NRel m v v' → NRel m' v v'
  | _, _, .bool b => .bool b
  | _, _, .int k n => .int k n
  | _, _, .float k n => .float k n
  | _, _, .string s => .string s
  | _, _, .nilPtr => .nilPtr
  | _, _, .ptr e => .ptr (h _ _ e)
  | _, _, .nilSlice l n => .nilSlice l n
  | _, _, .slice e => .slice (h _ _ e)
  | _, _, .nilMap => .nilMap
  | _, _, .map e => .map (h _ _ e)
  | _, _, .func a b => .func (NRels.mono h a) (NRels.mono h b)
  | _, _, .method a b => .method (NRels.mono h a) (NRels.mono h b)
  | _, _, .methodOf a b => .methodOf (NRels.mono h a) (NRels.mono h b)
  | _, _, .yield e a b => .yield (h _ _ e) (NRels.mono h a) (NRels.mono h b)
  | _, _, .nilFunc => .nilFunc
  | _, _, .iface a => .iface (NRel.mono h a)
  | _, _, .nilIface => .nilIface
  | _, _, .agg a => .agg (NRels.mono h a)
  | _, _, .tuple a => .tuple (NRels.mono h a)
theorem NRels.mono {m m' : Names} (h : ∀ i j, m i = some j → m' i = some j) : ∀ {v v' : List Value}, NRels m v v' → NRels m' v v'
  | _, _, .nil => .nil
  | _, _, .cons a b => .cons (NRel.mono h a) (NRels.mono h b)
end

theorem NRel.of_scalar {m : Names} : ∀ {v : Value}, scalar v = true → NRel m v v
  | .bool b, _ => .bool b
  | .int k n, _ => .int k n
  | .float k n, _ => .float k n
  | .string s, _ => .string s
  | .pointer none, _ => .nilPtr
  | .slice none l n, _ => .nilSlice l n
  | .map none, _ => .nilMap
  | .nilFunc, _ => .nilFunc
  | .nilIface, _ => .nilIface
  | .pointer (some _), h | .slice (some _) _ _, h | .map (some _), h | .complex .., h | .chan _, h | .func .., h | .iface .., h | .agg _, h | .tuple _, h => by simp [scalar] at h
theorem NRels.of_scalars {m : Names} : ∀ {l : List Value}, l.all scalar = true → NRels m l l
  | [], _ => .nil
  | v :: l, h => by simp at h; exact .cons (.of_scalar h.1) (NRels.of_scalars (by simpa using h.2))
theorem NRel.of_plain {m : Names} {v : Value} (h : plain v = true) : NRel m v v := by
  cases v with
  | agg cs => obtain ⟨l⟩ := cs; exact .agg (NRels.of_scalars h)
  | tuple cs => obtain ⟨l⟩ := cs; exact .tuple (NRels.of_scalars h)
  | iface t v => exact .iface (.of_scalar h)
  | _ => exact .of_scalar h

theorem NRels.get {m : Names} : ∀ {xs ys : List Value}, NRels m xs ys → ∀ {k : Nat} {v : Value}, xs[k]? = some v → ∃ v', ys[k]? = some v' ∧ NRel m v v'
  | _, _, .nil, k, v, h => by simp at h
  | _, _, .cons a b, 0, v, h => by simp at h; subst h; exact ⟨_, rfl, a⟩
  | _, _, .cons a b, k + 1, v, h => by simpa using NRels.get b (by simpa using h)
theorem NRels.length {m : Names} : ∀ {xs ys : List Value}, NRels m xs ys → xs.length = ys.length
  | _, _, .nil => rfl
  | _, _, .cons a b => by simp [NRels.length b]

/-- An object under new names. -/
inductive OName (m : Names) : AObj → AObj → Prop
  | dead (o : AObj) : OName m .dead o
  | cells {cs cs' : List Value} (k : CK) : NRels m cs cs' → OName m (.cells cs k) (.cells cs' k)
  | loop {L L' : ALoop} : L'.state = L.state → L'.pending = L.pending → L'.n = L.n → L'.params = L.params → L'.assign = L.assign → L'.body = L.body → (∀ t v, lk t L.env = some v → ∃ v1, lk t L'.env = some v1 ∧ NRel m v v1) → OName m (.loop L) (.loop L')
  | amap {es es' : List (Value × Value × Nat)} (ck : Nat) (own : Bool) : NRels m (es.map (·.1)) (es'.map (·.1)) → NRels m (es.map (·.2.1)) (es'.map (·.2.1)) → es'.map (·.2.2) = es.map (·.2.2) → OName m (.amap es ck own) (.amap es' ck own)

/-- A heap under new names: each name of H2 is one of H1's, no two the same. -/
structure HName (n0 : Nat) (m : Names) (H1 H2 : AHeap) : Prop where
  keep : ∀ i, i < n0 → m i = some i
  out : ∀ i, H2.length ≤ i → m i = none
  inj : ∀ i j k, m i = some k → m j = some k → i = j
  obj : ∀ i o2, H2[i]? = some o2 → o2.live = true → ∃ j o1, m i = some j ∧ H1[j]? = some o1 ∧ OName m o2 o1

theorem HName.use {n0 : Nat} {m : Names} {H1 H2 : AHeap} (h : HName n0 m H1 H2) {c : Ctx} {w : World} (hr : HRel c H1 w) :
    ∃ c2 : Ctx, HRel c2 H2 w ∧ Trans n0 c H1 w c2 H2 w ∧ ∀ i j, m i = some j → c2 i = c j := by
  let c2 : Ctx := fun i => (m i).bind c
  have hc : ∀ i j, m i = some j → c2 i = c j := fun i j e => by simp only [c2, e, Option.bind_some]
  have lv : ∀ o : AObj, o.own = true → o.live = true := by intro o ho; cases o <;> first | rfl | cases ho
  have obj : ∀ i o2, H2[i]? = some o2 → o2.live = true → ∃ j o1 p, m i = some j ∧ H1[j]? = some o1 ∧ o1.live = true ∧ (o2.own = true → o1.own = true) ∧ c j = some p ∧ ORel c2 p w o2 := by
    intro i o2 e hl
    obtain ⟨j, o1, hm, h1, ho⟩ := h.obj i o2 e hl
    have hl1 : o1.live = true := by cases ho <;> first | rfl | cases hl
    obtain ⟨p, hp, hro⟩ := hr.obj j o1 h1 hl1
    refine ⟨j, o1, p, hm, h1, hl1, ?_, hp, ?_⟩
    · cases ho <;> first | exact id | (intro x; cases x)
    · cases ho with
      | dead => cases hl
      | cells k hcs =>
        obtain ⟨r1, r2, r3, r4, arr, lo, hi, r5, r6, r7⟩ := hro
        refine ⟨by rw [r1, hcs.length], r2, r3, fun n e => ⟨(r4 n e).1, (r4 n e).2.1, fun a r hh => by rw [(r4 n e).2.2 a r hh, hcs.length]⟩, arr, lo, hi, r5, fun k v e => ?_, r7⟩
        obtain ⟨v1, e1, hv⟩ := hcs.get e
        obtain ⟨v', e2, hv'⟩ := r6 k v1 e1
        exact ⟨v', e2, hv.comp hc hv'⟩
      | loop g1 g2 g3 g4 g5 g6 g7 =>
        obtain ⟨r, hb, k1, k2, k3, k4, k5, k6, k7⟩ := hro
        refine ⟨r, hb, k1.trans g1, k2.trans g2, k3.trans (by rw [g4]), k4.trans g5, k5.trans g6, k6.trans g3, fun t v e => ?_⟩
        obtain ⟨v1, e1, e2⟩ := g7 t v e
        obtain ⟨v', e3, e4⟩ := k7 t v1 e1
        exact ⟨v', e3, e2.comp hc e4⟩
      | amap ck own a b hst =>
        obtain ⟨ms, r1, r2, r3, r4⟩ := hro
        exact ⟨ms, r1, NRels.comp hc a r2, NRels.comp hc b r3, r4.trans hst⟩
  refine ⟨c2, ⟨?_, ?_, ?_⟩, ⟨?_, rfl, rfl, rfl, Nat.le_refl _, fun _ _ _ => rfl, ?_⟩, hc⟩
  · intro i o2 e hl
    obtain ⟨j, o1, p, hm, h1, _, _, hp, hro⟩ := obj i o2 e hl
    exact ⟨p, by rw [hc i j hm]; exact hp, hro⟩
  · intro i j oi oj pi pj hij ei ej ci cj hoi hlj
    obtain ⟨i1, o1, p1, m1, h1, _, ow1, q1, _⟩ := obj i oi ei (lv _ hoi)
    obtain ⟨j1, o2, p2, m2, h2, l2, _, q2, _⟩ := obj j oj ej hlj
    rw [hc i i1 m1] at ci
    rw [hc j j1 m2] at cj
    exact hr.sep i1 j1 o1 o2 pi pj (fun e => hij (h.inj i j i1 m1 (e ▸ m2))) h1 h2 ci cj (ow1 hoi) l2
  · intro i hi
    simp only [c2, h.out i hi, Option.bind_none]
  · intro i p hi e
    rw [hc i i (h.keep i hi)]; exact e
  · rintro b ⟨i, o, p, e, ci, ho, hb⟩
    obtain ⟨j, o1, q, hm, h1, _, ow, hq, _⟩ := obj i o e (lv _ ho)
    rw [hc i j hm] at ci
    exact .inl ⟨j, o1, p, h1, ci, ow ho, hb⟩
end Go.Aw
