/-
  What a caller hands over, as an abstract heap that is lent; that it reads as before.
-/
import Derived.Test.YtdeoaadkngiilaaDoorAw24
import Derived.Carry
import Derived.ChangeMaps5
import Derived.ChangeSlices
set_option linter.unusedVariables false
set_option linter.unusedSimpArgs false
namespace Go.Aw
open Go.RowKit Go.ChangeShapes Go.WideShapes Go.ChangeAt
/-- All that is handed over reads behind the call as before. -/
theorem trodAll_below {H : Type} {enc : TypeId × Value → H} {P : Program} (hl : laidOutB P = true) {W W' : World} (hb : Below W.heap.size W W') {sp : Nat → Bool} : ∀ {ts : List TypeId} {vs : List Value} {ds : List (DataW H)} {ps : List MemPlace},
    (ts.all fun t => P.readableRec t && decide (t < P.types.size)) = true → DataW.TrodAll enc P W 0 (fun _ => true) true ts vs ds ps → (∀ x ∈ ps, x.block < W.heap.size) → (∀ x ∈ ps, sp x.block = true) → DataW.TrodAll enc P W' 0 sp true ts vs ds ps
  | [], vs, ds, ps, _, h, _, _ => by
    cases vs <;> cases ds <;> simp [DataW.TrodAll] at h ⊢
    exact h
  | t :: ts, vs, ds, ps, hr, h, hlt, hs => by
    obtain ⟨v, vs', d, ds', p, q, rfl, rfl, rfl, h1, h2⟩ := trodAll_cons h
    simp only [List.all_cons, Bool.and_eq_true, decide_eq_true_eq] at hr
    exact ⟨p, q, WideElems.Trod_stays hl hr.1.1 hr.1.2 h1 (fun x hx => hb.same (hlt x (List.mem_append.2 (.inl hx)))) (fun x hx => hs x (List.mem_append.2 (.inl hx))),
      trodAll_below hl hb (by simpa using hr.2) h2 (fun x hx => hlt x (List.mem_append.2 (.inr hx))) (fun x hx => hs x (List.mem_append.2 (.inr hx))), rfl⟩

/-- The state of what is lent: nothing of it is owned. -/
structure Lent (c : Ctx) (H : AHeap) (w : World) : Prop where
  rel : HRel c H w
  own : ∀ (i : Nat) (o : AObj), H[i]? = some o → o.own = false
theorem Lent.nil (w : World) : Lent (fun _ => none) [] w := ⟨HRel.empty w, fun i o e => by simp at e⟩
theorem Lent.add {c : Ctx} {H : AHeap} {w : World} (h : Lent c H w) {b off : Nat} {arr : Array Value} {e : TypeId} {fr : Nat × Nat} (hb : w.heap[b]? = some (.cells arr e fr)) {vs : List Value} (hl : off + vs.length ≤ arr.size) (hv : CellsRel c vs arr off) :
    Lent (c.add H.length ⟨b, off, vs.length, 0, 0⟩) (H ++ [.cells vs ⟨e, 0, false, 0, none⟩]) w := by
  refine ⟨h.rel.lend hb hl hv h.own, fun i o hi => ?_⟩
  by_cases h1 : i < H.length
  · rw [hgetl h1] at hi; exact h.own i o hi
  · have hlt := lt_of_get hi
    simp at hlt
    have : i = H.length := by omega
    subst this
    rw [hget0 rfl] at hi
    simp at hi; subst hi; rfl
theorem Lent.le {c : Ctx} {H : AHeap} {w : World} (h : Lent c H w) (p : Place) : c.le (c.add H.length p) := Ctx.le_add _ (h.rel.fresh _ (Nat.le_refl _))

/-- A slice of whole numbers that is lent. -/
theorem lend_ints {D : Type} {enc : TypeId × Value → D} {P : Program} {w : World} {t e : TypeId} {k : IntKind} {v : Value} {d : DataW D} {ps : List MemPlace} {b0 : Nat} (ht : P.underlying t = some (.slice e)) (he : P.underlying e = some (.int k)) (hc : P.cellsOf e = 1)
    (hval : Value.okWide P w .any b0 t v) (h : DataW.Trod enc P w 0 (fun _ => true) true t v d ps) {c : Ctx} {H : AHeap} (hL : Lent c H w) :
    ∃ (l : List Int) (c' : Ctx) (X : AHeap) (av : Value), (∀ n ∈ l, (Lit.int k n).wf = true) ∧ l.length ≤ maxLen ∧ Lent c' (H ++ X) w ∧ c.le c' ∧ VRel c' av v ∧ Rd (H ++ X) av (l.map (.int k)) := by
  have hna : ∀ q, v ≠ .agg q := fun q e => by
    subst e; simp [Value.okWide, ht, Cell.okWide, Cell.ok] at hval
  obtain ⟨fuel, hf⟩ := h
  rcases Go.ChangeShapes.open_ints ht he hc hf with ⟨hcs, hx⟩ | ⟨a, len, cap, zs, hcs, h0, h1, h2, h3, h4, h5, h6⟩
  · have hv : v = .slice none 0 0 := by
      cases v <;> simp [Value.cells] at hcs hna <;> simp [hcs]
    subst hv
    exact ⟨[], c, [], _, by simp, by simp, by rw [List.append_nil]; exact hL, Ctx.le_refl _, .nilSlice _ _, .nil⟩
  · have hv : v = .slice (some a) len cap := by
      cases v <;> simp [Value.cells] at hcs hna <;> simp [hcs]
    subst hv
    have hok : w.has P .any b0 a e cap := by
      unfold Value.okWide at hval
      rw [ht] at hval
      simp only [Cell.okWide, ht, Cell.ok] at hval
      exact hval.2.2
    obtain ⟨_, hsp, row, cells, hsh, _⟩ := hok
    obtain ⟨b, off, spot⟩ := a
    simp only at hsp hsh
    subst hsp
    obtain ⟨arr, fr, hb⟩ : ∃ arr fr, w.heap[b]? = some (.cells arr row fr) := by
      unfold World.shape? at hsh
      split at hsh
      · rename_i q1 q2 q3 hq
        simp only [Option.some.injEq, Prod.mk.injEq] at hsh
        exact ⟨_, _, by rw [hq, hsh.1]⟩
      · cases hsh
    have hzl : len ≤ zs.length := by simp at h3; omega
    have hcell : ∀ i, i < zs.length → arr[off + i]? = some (.int k (zs.getD i 0)) := fun i hi => by
      have := h5 i hi
      rw [addr_add] at this
      unfold World.cell? at this
      rw [hb] at this
      simpa using this
    rcases Nat.eq_zero_or_pos len with rfl | hpos
    · refine ⟨[], _, _, .slice (some ⟨H.length, off, none⟩) 0 cap, by simp, by simp, hL.add hb (off := 0) (vs := []) (by simp) (fun k v e => by simp at e), hL.le _, ?_, ?_⟩
      · have : VRel (c.add H.length ⟨b, 0, 0, 0, 0⟩) (.slice (some ⟨H.length, off, none⟩) 0 cap) (.slice (some ⟨b, 0 + off, none⟩) 0 cap) := .slice (p := ⟨b, 0, 0, 0, 0⟩) (by simp [Ctx.add])
        rw [Nat.zero_add] at this; exact this
      · exact .inr ⟨H.length, off, cap, [], ⟨row, 0, false, 0, none⟩, rfl, hget0 rfl, fun j hj => by simp at hj⟩
    · have hl0 : ((zs.take len).map (Value.int k)).length = len := by simp; omega
      refine ⟨zs.take len, _, _, .slice (some ⟨H.length, 0, none⟩) len cap, fun n hn => h6 n (List.mem_of_mem_take hn), by simp; omega, hL.add hb (off := off) (vs := (zs.take len).map (Value.int k)) ?_ ?_, hL.le _, ?_, ?_⟩
      · rw [hl0]
        have := (Array.getElem?_eq_some_iff.1 (hcell (len - 1) (by omega))).1
        omega
      · intro j v hj
        have hjl : j < len := by have := (List.getElem?_eq_some_iff.1 hj).1; omega
        have : v = .int k (zs.getD j 0) := by
          rw [List.getElem?_map, List.getElem?_take_of_lt hjl, List.getElem?_eq_getElem (by omega)] at hj
          rw [List.getD_eq_getElem?_getD, List.getElem?_eq_getElem (by omega)]
          simpa using hj.symm
        subst this
        exact ⟨_, hcell j (by omega), .int _ _⟩
      · have : VRel (c.add H.length ⟨b, off, ((zs.take len).map (Value.int k)).length, 0, 0⟩) (.slice (some ⟨H.length, 0, none⟩) len cap) (.slice (some ⟨b, off + 0, none⟩) len cap) := .slice (p := ⟨b, off, ((zs.take len).map (Value.int k)).length, 0, 0⟩) (by simp [Ctx.add])
        rw [Nat.add_zero] at this; exact this
      · exact .cells (k := ⟨row, 0, false, 0, none⟩) (hget0 rfl) hl0.symm
end Go.Aw
