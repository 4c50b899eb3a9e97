/-
  The operations, said of abstract states: make, len, min, max, append, copy.
-/
import Derived.Test.YtdeoaadkngiilaaDoorAw7
set_option linter.unusedVariables false
set_option linter.unusedSimpArgs false
namespace Go.Aw

def makeSliceW (P : Program) (t : TypeId) (a b : Value) (H : AHeap) (K : Value → AHeap → Prop) : Prop :=
  match P.underlying t, a, b with
  | some (.slice e), .int _ l, .int _ n => wth (tS P e) fun s => wth (tB P e) fun y => wth (tZ P e) fun z => z.all scalar = true ∧ z.length = s ∧ (0 ≤ l ∧ l ≤ n ∧ n ≤ 9223372036854775807 ∧ n * y ≤ 281474976710656) ∧
      K (.slice (some ⟨H.length, 0, none⟩) l.toNat n.toNat) (H ++ [.cells (repZ n.toNat z) ⟨e, 0, true, 0, none⟩])
  | _, _, _ => False

theorem wrap_i64 {n : Int} (h0 : 0 ≤ n) (h1 : n ≤ 9223372036854775807) : IntKind.i64.wrap n = n := IntWalk.i64_in (by omega) (by omega)

theorem makeSliceW_ok {P : Program} {t : TypeId} {c : Ctx} {H : AHeap} {w : World} {K : Value → AHeap → Prop} (h : HRel c H w) {a a' b b' : Value} (ha : VRel c a a') (hb : VRel c b b') (hw : makeSliceW P t a b H K) :
    Gives P (Instr.makeSlice t a' b') c H w K := by
  unfold makeSliceW at hw
  split at hw
  · rename_i e j l j' n hu
    obtain ⟨s, hs, hw⟩ := wth_elim hw
    obtain ⟨y, hy, hw⟩ := wth_elim hw
    obtain ⟨z, hz, hsc, hl, ⟨b0, b1, b2, b3⟩, hk⟩ := wth_elim hw
    cases ha; cases hb
    obtain ⟨zv, hzv, hzc⟩ := run_zeroValue hz w
    have hcells : zv.cells = z.toArray := by rw [← hzc]; rfl
    have hby : ∃ i, P.info? e = some i ∧ i.bytes = y := by
      unfold tB at hy
      cases hi : P.info? e with
      | none => rw [hi] at hy; cases hy
      | some i => rw [hi] at hy; simp at hy; exact ⟨i, rfl, hy⟩
    obtain ⟨i, hi, hiy⟩ := hby
    have hvr : VRels c (repZ n.toNat z) (repZ n.toNat z) := VRels.of_scalars (repZ_scalar hsc)
    obtain ⟨g1, g2, g3⟩ := h.alloc hvr e 0 0
    refine ⟨.slice (some ⟨w.heap.size, 0, none⟩) l.toNat n.toNat, w.alloc (.cells ⟨repZ n.toNat z⟩ e (0, 0)), ?_, _, _, _, hk, ?_, g3, g1, fun n' => (h.alloc hvr e 0 n').2.1⟩
    · have w1 := wrap_i64 b0 (by omega : l ≤ 9223372036854775807)
      have w2 := wrap_i64 (by omega : 0 ≤ n) b2
      have hyn : (y : Int) * n ≤ 281474976710656 := by rw [Int.mul_comm]; exact b3
      have t1 : (decide (n < 0) || decide ((y : Int) * n > 2 ^ 48)) = false := by simp; omega
      have hti : (typeInfo e).run P w = .ok i w := by simp [typeInfo, hi]
      simp only [Instr.makeSlice, asInt, asIntOf, pure_bind, Sem.run_bind, run_underlying hu, Result.andThen_ok, hti, hiy, w1, w2]
      have hcond : ((decide (n < 0) || decide ((y : Int) * n > 2 ^ 48)) || decide (l < 0) || decide (l > n)) = true ↔ False := by rw [t1]; simp; omega
      have hcond' : ¬ ((decide (n < 0) || decide ((y : Int) * n > 2 ^ 48) || decide (l < 0) || decide (l > n)) = true) := by rw [hcond]; exact id
      simp only [Sem.run_ite, hcond', if_false]
      by_cases h0 : n.toNat * s = 0
      · have e0 : repZ n.toNat z = [] := List.eq_nil_of_length_eq_zero (by rw [repZ_length, hl]; exact h0)
        have harr : (Array.range (n.toNat * s)).map ((#[] : Array Value)[· % (#[] : Array Value).size]!) = (⟨[]⟩ : Array Value) := by rw [h0]; simp
        simp only [Bool.false_eq_true, if_false, Sem.run_bind, run_askRoom, Result.andThen_ok, run_sizeOf hs, Sem.run_ite]
        rw [if_pos h0]
        simp only [harr, newRow, Sem.run_bind, run_newObj, Sem.run_pure, Result.andThen_ok, e0]
        rfl
      · have harr : (Array.range (n.toNat * s)).map (zv.cells[· % zv.cells.size]!) = (⟨repZ n.toNat z⟩ : Array Value) := by rw [hcells, ← hl]; exact repZ_array n.toNat z
        simp only [Bool.false_eq_true, if_false, Sem.run_bind, run_askRoom, Result.andThen_ok, run_sizeOf hs, Sem.run_ite]
        rw [if_neg h0]
        simp only [hzv, Result.andThen_ok, harr, newRow, Sem.run_bind, run_newObj, Sem.run_pure]
        rfl
    · exact .slice (p := ⟨w.heap.size, 0, (repZ n.toNat z).length, 0, 0⟩) (Ctx.add_self _ _ _)
  · exact hw.elim
/-! ### len, min, max -/
def lenW (P : Program) (t : TypeId) (x : Value) (H : AHeap) (K : Value → AHeap → Prop) : Prop :=
  match P.underlying t, x with
  | some .string, .string s => K (.int .i64 s.data.toList.length) H
  | some (.slice _), .slice _ n _ => K (.int .i64 n) H
  | some (.array n _), _ => K (.int .i64 n) H
  | some (.map _ _), .map none => K (.int .i64 (0 : Nat)) H
  | some (.map _ _), .map (some i) => (match H[i]? with
    | some (.amap es _ _) => K (.int .i64 es.length) H
    | _ => False)
  | _, _ => False

theorem lenW_ok {P : Program} {t ty : TypeId} {c : Ctx} {H : AHeap} {w : World} {K : Value → AHeap → Prop} (h : HRel c H w) {x x' : Value} (hx : VRel c x x') (hw : lenW P t x H K) : Gives P (Builtin.len_ #[t] ty #[x']) c H w K := by
  unfold lenW at hw
  split at hw
  · rename_i s hu; cases hx
    refine .pure h (v' := .int .i64 s.size) ?_ ?_ hw
    · simp [Builtin.len_, run_underlying hu, goInt]
    · have : s.data.toList.length = s.size := by simp
      rw [this]; exact .int _ _
  · rename_i hu
    cases hx with
    | nilSlice => exact .pure h (by simp [Builtin.len_, run_underlying hu, goInt]) (.int _ _) hw
    | slice => exact .pure h (by simp [Builtin.len_, run_underlying hu, goInt]) (.int _ _) hw
    | sliceX => exact .pure h (by simp [Builtin.len_, run_underlying hu, goInt]) (.int _ _) hw
    | sliceZ => exact .pure h (v' := .int .i64 (0 : Nat)) (by simp [Builtin.len_, run_underlying hu, goInt]) (.int _ _) hw
  · rename_i hu
    exact .pure h (by simp [Builtin.len_, run_underlying hu, goInt]) (.int _ _) hw
  · rename_i hu; cases hx
    exact .pure h (v' := .int .i64 (0 : Nat)) (by simp [Builtin.len_, run_underlying hu, goInt]) (.int _ _) hw
  · rename_i i hu
    cases hx with
    | map hc =>
      split at hw
      · rename_i es ck own hi
        obtain ⟨q, hq, hr⟩ := h.obj i _ hi rfl
        rw [hc] at hq; cases hq
        obtain ⟨ms, hb, hm, _⟩ := hr
        have hl : es.length = ms.size := by have := hm.length; simpa using this
        refine .pure h (v' := .int .i64 es.length) ?_ (.int _ _) hw
        simp [Builtin.len_, run_underlying hu, goInt, getObj, Sem.run, hb, hl]
      · exact hw.elim
  · exact hw.elim

theorem VRels.one {c : Ctx} {a : Value} {l' : List Value} (h : VRels c [a] l') : ∃ a', l' = [a'] ∧ VRel c a a' := by
  cases h with
  | cons h1 h2 => cases h2; exact ⟨_, rfl, h1⟩
theorem VRels.two {c : Ctx} {a b : Value} {l' : List Value} (h : VRels c [a, b] l') : ∃ a' b', l' = [a', b'] ∧ VRel c a a' ∧ VRel c b b' := by
  cases h with
  | cons h1 h2 => obtain ⟨b', rfl, hb⟩ := h2.one; exact ⟨_, _, rfl, h1, hb⟩
theorem VRels.three {c : Ctx} {a b d : Value} {l' : List Value} (h : VRels c [a, b, d] l') : ∃ a' b' d', l' = [a', b', d'] ∧ VRel c a a' ∧ VRel c b b' ∧ VRel c d d' := by
  cases h with
  | cons h1 h2 => obtain ⟨b', d', rfl, hb, hd⟩ := h2.two; exact ⟨_, _, _, rfl, h1, hb, hd⟩

/-- The least or the greatest of numbers. -/
def minMaxW (mx : Bool) (l : List Value) (H : AHeap) (K : Value → AHeap → Prop) : Prop :=
  match l with
  | [.int k a, .int _ b] => K (.int k (if mx = true then max a b else min a b)) H
  | [.int k a, .int _ b, .int _ d] => K (.int k (if mx = true then max (max a b) d else min (min a b) d)) H
  | _ => False

theorem minMaxW_ok {P : Program} {mx : Bool} {ts : Array TypeId} {t : TypeId} {c : Ctx} {H : AHeap} {w : World} {K : Value → AHeap → Prop} (h : HRel c H w) {l l' : List Value} (hx : VRels c l l') (hw : minMaxW mx l H K) :
    Gives P (if mx = true then Builtin.max_ ts t ⟨l'⟩ else Builtin.min_ ts t ⟨l'⟩) c H w K := by
  unfold minMaxW at hw
  split at hw
  · rename_i k a k2 b
    obtain ⟨a', b', rfl, h1, h2⟩ := hx.two
    cases h1; cases h2
    refine .pure h ?_ (.int _ _) hw
    cases mx
    · simp [Builtin.min_, Builtin.min2]; omega
    · simp [Builtin.max_, Builtin.max2]; omega
  · rename_i k a k2 b k3 d
    obtain ⟨a', b', d', rfl, h1, h2, h3⟩ := hx.three
    cases h1; cases h2; cases h3
    refine .pure h ?_ (.int _ _) hw
    cases mx
    · simp [Builtin.min_, Builtin.min2]; omega
    · simp [Builtin.max_, Builtin.max2]; omega
  · exact hw.elim
end Go.Aw
