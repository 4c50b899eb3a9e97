/-
  What the row lists is lent.
-/
import Derived.Test.YtnfkbgpbligloaaDoorWN1
set_option linter.unusedVariables false
set_option maxRecDepth 100000
namespace Go.Proofs.YtnfkbgpbligloaaDoor
open Go Go.Aw Go.Proofs
open Go.ChangeShapes Go.WideShapes Go.ChangeAt Go.RowKit Go.ChangeMaps
theorem blkOf {W : World} {n : String} {g : Nat} {cs : Array Value} (hn : Tryd.prog.globalNamed n = some g) (h : W.var? Tryd.prog n = some cs) : ∃ (e : TypeId) (fr : Nat × Nat), W.heap[g]? = some (.cells cs e fr) := by
  unfold World.var? at h
  rw [hn] at h
  have h' : (match W.heap[g]? with | some (.cells cs _ _) => some cs | _ => none) = some cs := h
  split at h'
  · rename_i c e fr hb
    cases h'
    exact ⟨e, fr, hb⟩
  · cases h'
theorem size1 {W : World} {n : String} {g : Nat} {t e : TypeId} {k : IntKind} {l : List Nat} (hn : Tryd.prog.globalNamed n = some g) (hy : (Tryd.prog.globals[g]?).map (·.type) = some t) (ht : Tryd.prog.underlying t = some (.slice e)) (hl : 0 < l.length) (h : Lib.VarReads Tryd.prog W n (Lib.sliceData k l)) :
    ∃ (arr : Array Value) (e : TypeId) (fr : Nat × Nat), W.heap[g]? = some (.cells arr e fr) ∧ arr.size = 1 := by
  obtain ⟨g', t', cs, fuel, p, hg, hty, hvar, hd⟩ := h
  obtain rfl := Option.some.inj (hn.symm.trans hg)
  obtain rfl := Option.some.inj (hy.symm.trans hty)
  obtain ⟨e', fr, hb⟩ := blkOf hn hvar
  rcases DataW.trod_slice ht hd with ⟨_, hx⟩ | ⟨a, len, cap, el, rs, m, rfl, hcs, hx, _⟩
  · cases hx
  · refine ⟨cs, e', fr, hb, ?_⟩
    have := congrArg List.length hcs
    simpa using this
theorem lentAll {W : World} (hlaid : laidMet Tryd.prog Rows.linkInStepsRow.laid W) (ht0 : Lib.TabIs Tryd.prog W "internal/strconv.uint64pow10" .u64 Lib.pow10Tab) (hfst : ∃ (arr : Array Value) (e : TypeId) (fr : Nat × Nat), W.heap[1]? = some (.cells arr e fr) ∧ arr.size = 256) (hacc : ∃ (arr : Array Value) (e : TypeId) (fr : Nat × Nat), W.heap[2]? = some (.cells arr e fr) ∧ arr.size = 32) :
    ∃ (c : Ctx) (H : AHeap), Lent c H W ∧ LibH H := by
  have r0 := Lib.laidMet.reads hlaid (n := "unicode/utf8.acceptRanges") (d := Lib.acceptData) (.tail _ (.tail _ (.tail _ (.head _))))
  have r2 := Lib.laidMet.reads hlaid (n := "strconv.isNotPrint16") (d := Lib.sliceData .u16 Lib.goPrintTabs.n16) (.tail _ (.tail _ (.tail _ (.tail _ (.tail _ (.head _))))))
  have r3 := Lib.laidMet.reads hlaid (n := "strconv.isNotPrint32") (d := Lib.sliceData .u16 Lib.goPrintTabs.n32) (.tail _ (.tail _ (.tail _ (.tail _ (.tail _ (.tail _ (.head _)))))))
  have r4 := Lib.laidMet.reads hlaid (n := "strconv.isPrint16") (d := Lib.sliceData .u16 Lib.goPrintTabs.p16) (.tail _ (.tail _ (.tail _ (.tail _ (.tail _ (.tail _ (.tail _ (.head _))))))))
  have r5 := Lib.laidMet.reads hlaid (n := "strconv.isPrint32") (d := Lib.sliceData .u32 Lib.goPrintTabs.p32) (.tail _ (.tail _ (.tail _ (.tail _ (.tail _ (.tail _ (.tail _ (.tail _ (.head _)))))))))
  have r6 := Lib.laidMet.reads hlaid (n := "unicode/utf8.first") (d := Lib.firstData) (.tail _ (.tail _ (.tail _ (.tail _ (.tail _ (.tail _ (.tail _ (.tail _ (.tail _ (.head _))))))))))
  have hU : Lib.Utf8Tabs 1 2 W := utf8Tabs_of_reads (ρ := Tryd.laysQuote_ren) { Tryd.laysQuote with } ⟨by kernel_rfl, by kernel_rfl, by kernel_rfl, by kernel_rfl, by kernel_rfl, by kernel_rfl, by kernel_rfl⟩ r6 r0
  have hP : Lib.PrintTabsAt 3 4 5 6 Lib.goPrintTabs W := printTabs_of_reads (ρ := Tryd.laysQuote_ren) { Tryd.laysQuote with } ⟨by kernel_rfl, by kernel_rfl, by kernel_rfl, by kernel_rfl, by kernel_rfl, by kernel_rfl, by kernel_rfl, by kernel_rfl, by kernel_rfl, by kernel_rfl⟩ r4 r2 r5 r3
  obtain ⟨af, ef, ff, hbf, hsf⟩ := hfst
  obtain ⟨aa, ea, fa, hba, hsa⟩ := hacc
  obtain ⟨e0, f0, hb0⟩ := blkOf (by kernel_rfl : Tryd.prog.globalNamed "internal/strconv.uint64pow10" = some 0) ht0
  obtain ⟨c1, l1, -⟩ := (Lent.nil W).globs hb0 (vs := Lib.pow10Tab.map (Value.int .u64)) rfl (fun k v h => ⟨v, by rw [Nat.zero_add, List.getElem?_toArray]; exact h, .of_scalar (List.all_eq_true.1 (tab_scalar .u64 _) _ (List.mem_of_getElem? h))⟩)
  obtain ⟨c2, l2, -⟩ := l1.globs hbf (vs := (List.range 256).map fun c => .int .u8 (Lib.firstT c)) (by rw [hsf]; simp) (fun k v h => by
    rw [List.getElem?_map] at h
    obtain ⟨q, hq, rfl⟩ := Option.map_eq_some_iff.1 h
    obtain ⟨h1, h2⟩ := List.getElem?_eq_some_iff.1 hq
    simp at h1 h2
    subst h2
    have := hU.1 k h1
    refine ⟨_, ?_, .int _ _⟩
    simpa [World.cell?, hbf] using this)
  obtain ⟨c3, l3, -⟩ := l2.globs hba (vs := (List.range 16).flatMap fun i => [.int .u8 (Lib.accLo i), .int .u8 (Lib.accHi i)]) (by rw [hsa]; rfl) (fun k v h => by
    have hk : k < 32 := lt_of_get h
    have h2 := acc_get ⟨k / 2, by omega⟩
    have h3 := hU.2 (k / 2) (by omega)
    rcases Nat.mod_two_eq_zero_or_one k with e | e
    · have e1 : 2 * (k / 2) = k := by omega
      simp only [e1] at h2 h3
      rw [h2.1] at h; cases h
      exact ⟨_, by simpa [World.cell?, hba] using h3.1, .int _ _⟩
    · have e1 : 2 * (k / 2) + 1 = k := by omega
      simp only [e1] at h2 h3
      rw [h2.2] at h; cases h
      exact ⟨_, by simpa [World.cell?, hba] using h3.2, .int _ _⟩)
  obtain ⟨b3, _, _, g3, s3⟩ := size1 (g := 3) (t := 134) (e := 133) (by kernel_rfl) (by kernel_rfl) Tryd.underlying134 (by decide) r4
  obtain ⟨b4, _, _, g4, s4⟩ := size1 (g := 4) (t := 134) (e := 133) (by kernel_rfl) (by kernel_rfl) Tryd.underlying134 (by decide) r2
  obtain ⟨b5, _, _, g5, s5⟩ := size1 (g := 5) (t := 136) (e := 101) (by kernel_rfl) (by kernel_rfl) Tryd.underlying136 (by decide) r5
  obtain ⟨b6, _, _, g6, s6⟩ := size1 (g := 6) (t := 134) (e := 133) (by kernel_rfl) (by kernel_rfl) Tryd.underlying134 (by decide) r3
  obtain ⟨c4, X4, l4, -, t4⟩ := l3.tabS (by decide) g3 s3 hP.1
  obtain ⟨c5, X5, l5, -, t5⟩ := l4.tabS (by decide) g4 s4 hP.2.1
  obtain ⟨c6, X6, l6, -, t6⟩ := l5.tabS (by decide) g5 s5 hP.2.2.1
  obtain ⟨c7, X7, l7, -, t7⟩ := l6.tabS (by decide) g6 s6 hP.2.2.2.1
  have mr : ∀ A X : AHeap, Lasts A (A ++ X) := Lasts.more
  refine ⟨c7, _, l7, ⟨TabN.lasts (H := [] ++ [globsO e0 0 (Lib.pow10Tab.map (Value.int .u64))]) ⟨0, e0, rfl⟩ ((mr _ _).trans ((mr _ _).trans ((mr _ _).trans ((mr _ _).trans ((mr _ _).trans (mr _ _)))))),
    TabN.lasts (H := [] ++ [globsO e0 0 (Lib.pow10Tab.map (Value.int .u64))] ++ [globsO ef 1 _]) ⟨1, ef, rfl⟩ ((mr _ _).trans ((mr _ _).trans ((mr _ _).trans ((mr _ _).trans (mr _ _))))),
    TabN.lasts (H := [] ++ [globsO e0 0 (Lib.pow10Tab.map (Value.int .u64))] ++ [globsO ef 1 _] ++ [globsO ea 2 _]) ⟨2, ea, rfl⟩ ((mr _ _).trans ((mr _ _).trans ((mr _ _).trans (mr _ _)))),
    t4.lasts ((mr _ _).trans ((mr _ _).trans (mr _ _))), t5.lasts ((mr _ _).trans (mr _ _)), t6.lasts (mr _ _), t7⟩⟩
end Go.Proofs.YtnfkbgpbligloaaDoor
