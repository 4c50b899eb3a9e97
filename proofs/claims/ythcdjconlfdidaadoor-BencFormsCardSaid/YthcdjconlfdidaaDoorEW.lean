/-
  Values that a caller hands over.
-/
import Derived.Test.YthcdjconlfdidaaDoorTB
import Derived.Test.YthcdjconlfdidaaDoorEV
import Derived.Test.YthcdjconlfdidaaDoorEU
set_option linter.unusedVariables false
set_option linter.unusedSimpArgs false
set_option maxRecDepth 20000
namespace Go.Proofs.YthcdjconlfdidaaDoor
open Go Go.Aw Go.Proofs Go.RowKit Go.ChangeShapes Go.WideShapes Go.ChangeAt
/-- A field of a record type: its type and its place. -/
def fieldO (P : Program) (t i : Nat) : Option (Nat × Nat) :=
  match P.underlying t with
  | some (.struct fs) => fs[i]?.map fun f => (f.type, f.offset)
  | _ => none
theorem fieldO_some {P : Program} {t i a b : Nat} (h : fieldO P t i = some (a, b)) {fs : Array Field} (hu : P.underlying t = some (.struct fs)) : ∃ f, fs[i]? = some f ∧ f.type = a ∧ f.offset = b := by
  unfold fieldO at h
  rw [hu] at h
  simp only at h
  rw [Option.map_eq_some_iff] at h
  obtain ⟨f, e, h⟩ := h
  cases h
  exact ⟨f, e, rfl, rfl⟩
theorem RdL.of {H : AHeap} : ∀ {l : List BV} {css : List (List Value)}, css.length = l.length → (∀ (i : Nat) (v : BV) (a : List Value), l[i]? = some v → css[i]? = some a → RdV H v a) → RdL H l css
  | [], css, hl, h => by unfold RdL; exact List.length_eq_zero_iff.1 hl
  | v :: l, [], hl, h => by simp at hl
  | v :: l, a :: css, hl, h => by
    unfold RdL
    exact ⟨a, css, rfl, h 0 v a rfl rfl, RdL.of (by simpa using hl) fun i v' a' h1 h2 => h (i + 1) v' a' (by simpa using h1) (by simpa using h2)⟩
/-- What a caller's value is. -/
def RdW (H : AHeap) (v : BV) (cs : List Value) : Prop := RdV H v cs ∧ wideV v ∧ v.nums
theorem RdW.more (H X : AHeap) (v : BV) (a : List Value) (h : RdW H v a) : RdW (H ++ X) v a := ⟨h.1.kept (Kept.more H X), h.2⟩
/-- What a caller's key is. -/
def RdS (H : AHeap) (s : List UInt8) (cs : List Value) : Prop := cs = [.string (bs s)] ∧ s.length ≤ reachBytes
theorem keyC_of {keys : List (List UInt8)} {css : List (List Value)} (hl : css.length = keys.length) (h : ∀ (i : Nat) (v : List UInt8) (a : List Value), keys[i]? = some v → css[i]? = some a → a = [.string (bs v)]) : css = keyC keys := by
  refine List.ext_getElem? fun i => ?_
  rw [keyC, List.getElem?_map]
  rcases Nat.lt_or_ge i keys.length with hi | hi
  · rw [List.getElem?_eq_getElem hi, List.getElem?_eq_getElem (by omega)]
    exact congrArg some (h i _ _ (List.getElem?_eq_getElem hi) (List.getElem?_eq_getElem (by omega)))
  · rw [List.getElem?_eq_none hi, List.getElem?_eq_none (by omega)]; rfl
theorem lendV {D : Type} {enc : TypeId × Value → D} {W : World} {o1 : AObj} {cs0 : List Value} {k0 : CK} (ho1 : o1 = .cells cs0 k0) (hk1 : k0.own = false) (hk2 : k0.esz = 0) : ∀ (n : Nat), LendEl enc Tryd.prog W 26 5 reachBytes o1 BV RdW n := by
  intro n
  induction n using Nat.strongRecOn with
  | _ n ih =>
    intro cs y h hw c H hL h1
    obtain ⟨fs, hu⟩ : ∃ fs, Tryd.prog.underlying 26 = some (.struct fs) := ⟨_, Tryd.underlying26⟩
    obtain ⟨xs, n1, rfl, hy, hlen, hxl, hall⟩ := DataW.trod_struct hu h
    have hlen5 : cs.length = 5 := hlen.trans (by kernel_rfl)
    have hwe : ∀ (i : Nat) (f : Field) (x : DataW D × List MemPlace), fs[i]? = some f → xs[i]? = some x → (x.1.weights Tryd.prog f.type).all (· ≤ reachBytes) = true := fun i f x hf hx => by
      refine List.all_eq_true.2 fun q hq => List.all_eq_true.1 hw q ?_
      rw [hy]
      simp only [DataW.weights, hu]
      refine DataW.weights_mem_each (j := i) (t := f.type) (d := x.1) ?_ ?_ q hq
      · rw [List.getElem?_map, Array.getElem?_toList, hf]; rfl
      · rw [List.getElem?_map, hx]; rfl
    have fld : ∀ (i a b m : Nat), fieldO Tryd.prog 26 i = some (a, b) → Tryd.prog.cellsOf a = m → ∃ x, DataW.trod enc Tryd.prog W 0 (fun _ => true) true n1 a ((cs.drop b).take m) = some x ∧ (x.1.weights Tryd.prog a).all (· ≤ reachBytes) = true := by
      intro i a b m hf hm
      obtain ⟨f, e, rfl, rfl⟩ := fieldO_some hf hu
      have hix : i < xs.length := by rw [hxl]; exact (Array.getElem?_eq_some_iff.1 e).1
      have h3 := hall i f e
      rw [List.getElem?_eq_getElem hix, hm] at h3
      exact ⟨_, h3, hwe i f _ e (List.getElem?_eq_getElem hix)⟩
    obtain ⟨x0, f0, -⟩ := fld 0 3 0 1 (by kernel_rfl) (by kernel_rfl)
    obtain ⟨x1, f1, -⟩ := fld 1 3 1 1 (by kernel_rfl) (by kernel_rfl)
    obtain ⟨x2, f2, g2⟩ := fld 2 9 2 1 (by kernel_rfl) (by kernel_rfl)
    obtain ⟨x3, f3, g3⟩ := fld 3 23 3 1 (by kernel_rfl) (by kernel_rfl)
    obtain ⟨x4, f4, g4⟩ := fld 4 24 4 1 (by kernel_rfl) (by kernel_rfl)
    match cs, hlen5 with
    | [q0, q1, q2, q3, q4], _ =>
      obtain ⟨z0, e0, -, -⟩ := DataW.trod_int Tryd.underlying3 f0
      obtain ⟨z1, e1, -, w1⟩ := DataW.trod_int Tryd.underlying3 f1
      obtain ⟨s, e2, hx2, -⟩ := DataW.trod_string Tryd.underlying9 f2
      rw [hx2] at g2
      have hs : s.data.toList.length ≤ reachBytes := by simpa [DataW.weights] using g2
      obtain ⟨kids, c1, X1, a3, v3, css, e3, hL1, le1, va3, rd3, len3, r3, b3⟩ := lend_slice ho1 hk1 hk2 Tryd.underlying23 (by kernel_rfl : Tryd.prog.cellsOf 26 = 5) (by decide) (by decide +kernel) f3 g3 RdW.more (fun n' hn => ih n' (by omega)) hL h1
      obtain ⟨keys, c2, X2, a4, v4, css4, e4, hL2, le2, va4, rd4, len4, r4, b4⟩ := lend_slice (m := 1) (R := RdS) ho1 hk1 hk2 Tryd.underlying24 (by kernel_rfl : Tryd.prog.cellsOf 9 = 1) (by decide) (by decide +kernel) f4 g4 (fun H X v a h => h) (fun n' hn cs' y' h' hw' c H hL' h1' => by
          obtain ⟨s', e', hx', -⟩ := DataW.trod_string Tryd.underlying9 h'
          rw [hx'] at hw'
          refine ⟨s'.data.toList, c, [], cs', by rw [List.append_nil]; exact hL', Ctx.le_refl _, by rw [e']; exact .cons (.string _) .nil, by rw [e']; rfl, by rw [e']; exact ⟨rfl, by simpa [DataW.weights] using hw'⟩⟩) hL1 (by rw [hgetl (lt_of_get h1)]; exact h1)
      simp only [List.drop_zero, List.drop_succ_cons, List.take_succ_cons, List.take_zero, List.cons.injEq, and_true] at e0 e1 e2 e3 e4
      subst e0 e1 e2 e3 e4
      have hrk := reach_lt
      have hkc : css4 = keyC keys := keyC_of len4 fun i v a h1 h2 => (r4 i v a h1 h2).1
      subst hkc
      refine ⟨.mk z0 z1 s.data.toList kids keys, c2, X1 ++ X2, [.int .i64 z0, .int .i64 z1, .string s, a3, a4], by rw [← List.append_assoc]; exact hL2, fun i p e => le2 _ _ (le1 _ _ e), .cons (.int _ _) (.cons (.int _ _) (.cons (.string _) (.cons (va3.mono le2) (.cons va4 .nil)))), rfl, ?_, ?_, ?_⟩
      · unfold RdV
        refine ⟨a3, a4, css, rfl, ?_, ?_, ?_⟩
        · rw [← List.append_assoc]; exact rd3.kept (Kept.more _ _)
        · rw [← List.append_assoc]; exact RdL.kept (Kept.more _ _) (RdL.of len3 fun i v a h1 h2 => (r3 i v a h1 h2).1)
        · rw [← List.append_assoc]; exact rd4
      · unfold wideV
        refine ⟨by omega, by omega, by omega, wideL_iff.2 fun k hk => ?_⟩
        obtain ⟨i, hi, rfl⟩ := List.getElem_of_mem hk
        exact (r3 i _ _ (List.getElem?_eq_getElem hi) (List.getElem?_eq_getElem (by omega))).2.1
      · unfold BV.nums
        refine ⟨?_, BV.numsL_iff.2 fun k hk => ?_⟩
        · exact wf_i64 w1
        · obtain ⟨i, hi, rfl⟩ := List.getElem_of_mem hk
          exact (r3 i _ _ (List.getElem?_eq_getElem hi) (List.getElem?_eq_getElem (by omega))).2.2
/-- A value that is handed over. -/
theorem open_val {D : Type} {enc : TypeId × Value → D} {W : World} {o1 : AObj} {cs0 : List Value} {k0 : CK} (ho1 : o1 = .cells cs0 k0) (hk1 : k0.own = false) (hk2 : k0.esz = 0) {v : Value} {d : DataW D} {ps : List MemPlace} {b0 : Nat}
    (hval : Value.okWide Tryd.prog W .any b0 26 v) (h : DataW.Trod enc Tryd.prog W 0 (fun _ => true) true 26 v d ps) (hw : (d.weights Tryd.prog 26).all (· ≤ reachBytes) = true) {c : Ctx} {H : AHeap} (hL : Lent c H W) (h1 : H[1]? = some o1) :
    ∃ (x : BV) (c' : Ctx) (X : AHeap) (cs acs : List Value), v = .agg ⟨cs⟩ ∧ Lent c' (H ++ X) W ∧ c.le c' ∧ VRel c' (.agg ⟨acs⟩) v ∧ RdW (H ++ X) x acs := by
  obtain ⟨fs, hu⟩ : ∃ fs, Tryd.prog.underlying 26 = some (.struct fs) := ⟨_, Tryd.underlying26⟩
  have : ∃ cs, v = .agg cs := by
    unfold Value.okWide at hval
    rw [hu] at hval
    obtain ⟨cs, rfl, _⟩ := hval
    exact ⟨cs, rfl⟩
  obtain ⟨⟨cs⟩, rfl⟩ := this
  obtain ⟨fuel, hf⟩ := h
  obtain ⟨x, c', X, acs, k1, k2, k3, k4, k5⟩ := lendV ho1 hk1 hk2 fuel cs _ hf hw c H hL h1
  exact ⟨x, c', X, cs, acs, rfl, k1, k2, .agg k3, k5⟩
end Go.Proofs.YthcdjconlfdidaaDoor

