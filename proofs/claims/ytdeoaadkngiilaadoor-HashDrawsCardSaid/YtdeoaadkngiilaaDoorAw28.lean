/-
  Lists of records that a caller hands over.
-/
import Derived.Test.YtdeoaadkngiilaaDoorAw27
set_option linter.unusedVariables false
set_option linter.unusedSimpArgs false
namespace Go.Aw
open Go.RowKit Go.ChangeShapes Go.WideShapes Go.ChangeAt
/-- In H the slice v, of elements of m cells, reads l. -/
def RdN (H : AHeap) (m : Nat) (v : Value) (l : List (List Value)) : Prop :=
  (v = .slice none 0 0 ∧ l = []) ∨ ∃ i off cap cs k, v = .slice (some ⟨i, off, none⟩) l.length cap ∧ H[i]? = some (.cells cs k) ∧ (l ≠ [] → off + l.length * m ≤ cs.length) ∧ ∀ j r, l[j]? = some r → (cs.drop (off + j * m)).take m = r
theorem RdN.lenT {P : Program} {t : TypeId} {H H' : AHeap} {m : Nat} {v : Value} {l : List (List Value)} {K : Value → AHeap → Prop} (h : RdN H m v l) (hu : tSl P t = true) : Go.Aw.lenW P t v H' K = K (.int .i64 l.length) H' := by
  rcases h with ⟨rfl, rfl⟩ | ⟨i, off, cap, cs, k, rfl, h2, h3⟩
  · rw [lenW_sl hu]; rfl
  · rw [lenW_sl hu]
theorem RdN.more {H : AHeap} {m : Nat} {v : Value} {l : List (List Value)} (h : RdN H m v l) (X : AHeap) : RdN (H ++ X) m v l := by
  rcases h with h | ⟨i, off, cap, cs, k, h1, h2, h3⟩
  · exact .inl h
  · exact .inr ⟨i, off, cap, cs, k, h1, by rw [hgetl (lt_of_get h2)]; exact h2, h3⟩
theorem RdN.frm {S : List Nat} {H H2 : AHeap} {m : Nat} {v : Value} {l : List (List Value)} (h : RdN H m v l) (hf : Frm S H H2) (hn : ∀ i o n c, v = .slice (some ⟨i, o, none⟩) n c → i ∉ S) : RdN H2 m v l := by
  rcases h with h | ⟨i, off, cap, cs, k, h1, h2, h3⟩
  · exact .inl h
  · exact .inr ⟨i, off, cap, cs, k, h1, hf.get h2 (hn _ _ _ _ h1), h3⟩
theorem cells_take {D : Type} {w : World} {base b off m : Nat} {arr : Array Value} {e : TypeId} {fr : Nat × Nat} {cs : List Value} (hb : w.heap[b]? = some (.cells arr e fr)) (h : w.cells? base ⟨b, off, none⟩ m = some cs) (hm : 0 < m) :
    cs.length = m ∧ off + m ≤ arr.size ∧ ∀ j, j < m → arr[off + j]? = cs[j]? := by
  obtain ⟨_, h2, h3⟩ := World.cells?_some h
  have hcell : ∀ j, j < m → arr[off + j]? = cs[j]? := fun j hj => by
    have := h3 j (by omega)
    rw [addr_add] at this
    unfold World.cell? at this
    rw [hb] at this
    simp only [Option.isSome_none, Bool.false_eq_true, if_false] at this
    exact this
  refine ⟨h2, ?_, hcell⟩
  have h4 := hcell (m - 1) (by omega)
  rw [List.getElem?_eq_getElem (by omega)] at h4
  have := (Array.getElem?_eq_some_iff.1 h4).1
  omega
theorem lend_recs {D : Type} {enc : TypeId × Value → D} {P : Program} {w : World} {t e : TypeId} {m : Nat} {v : Value} {d : DataW D} {ps : List MemPlace} {b0 : Nat} (ht : P.underlying t = some (.slice e)) (hc : P.cellsOf e = m) (hm : 0 < m) (good : List Value → Prop)
    (hgood : ∀ n cs y, DataW.trod enc P w 0 (fun _ => true) true n e cs = some y → cs.all scalar = true ∧ good cs)
    (hval : Value.okWide P w .any b0 t v) (h : DataW.Trod enc P w 0 (fun _ => true) true t v d ps) {c : Ctx} {H : AHeap} (hL : Lent c H w) :
    ∃ (l : List (List Value)) (c' : Ctx) (X : AHeap) (av : Value), (∀ r ∈ l, r.length = m ∧ good r) ∧ Lent c' (H ++ X) w ∧ c.le c' ∧ VRel c' av v ∧ RdN (H ++ X) m av l := by
  have hna : ∀ q, v ≠ .agg q := fun q e => by
    subst e; simp [Value.okWide, ht, Cell.okWide, Cell.ok] at hval
  obtain ⟨fuel, hf⟩ := h
  rcases DataW.trod_slice ht hf with ⟨hcs, hx⟩ | ⟨a, len, cap, elems, rest, n, _, hcs, _, h0, h1, h2, h3, h4, _⟩
  · have hv : v = .slice none 0 0 := by
      cases v <;> simp [Value.cells] at hcs hna <;> simp [hcs]
    subst hv
    exact ⟨[], c, [], _, by simp, by rw [List.append_nil]; exact hL, Ctx.le_refl _, .nilSlice _ _, .inl ⟨rfl, rfl⟩⟩
  · have hv : v = .slice (some a) len cap := by
      cases v <;> simp [Value.cells] at hcs hna <;> simp [hcs]
    subst hv
    have hok : w.has P .any b0 a e cap := by
      unfold Value.okWide at hval
      rw [ht] at hval
      simp only [Cell.okWide, ht, Cell.ok] at hval
      exact hval.2.2
    obtain ⟨_, hsp, row, cells, hsh, _⟩ := hok
    obtain ⟨b, off, spot⟩ := a
    simp only at hsp hsh
    subst hsp
    obtain ⟨arr, fr, hb⟩ : ∃ arr fr, w.heap[b]? = some (.cells arr row fr) := by
      unfold World.shape? at hsh
      split at hsh
      · rename_i q1 q2 q3 hq
        simp only [Option.some.injEq, Prod.mk.injEq] at hsh
        exact ⟨_, _, by rw [hq, hsh.1]⟩
      · cases hsh
    have hel : ∀ i, i < len → ∃ cs y, w.cells? 0 ⟨b, off + i * m, none⟩ m = some cs ∧ DataW.trod enc P w 0 (fun _ => true) true n e cs = some y := fun i hi => by
      have := h4 i hi
      rw [hc, addr_add, List.getElem?_eq_getElem (by omega), Option.bind_eq_some_iff] at this
      obtain ⟨cs, h5, h6⟩ := this
      exact ⟨cs, _, h5, h6⟩
    let l : List (List Value) := (List.range len).map fun i => ((List.range m).map fun j => (arr[off + i * m + j]?).getD .nilIface)
    have hrow : ∀ i, i < len → ∃ cs, l[i]? = some cs ∧ cs.length = m ∧ cs.all scalar = true ∧ good cs ∧ off + i * m + m ≤ arr.size ∧ ∀ j, j < m → arr[off + i * m + j]? = cs[j]? := fun i hi => by
      obtain ⟨cs, y, h5, h6⟩ := hel i hi
      obtain ⟨e1, e2, e3⟩ := cells_take (D := Unit) hb h5 hm
      have hcs : ((List.range m).map fun j => (arr[off + i * m + j]?).getD .nilIface) = cs := by
        refine List.ext_getElem? fun j => ?_
        by_cases hj : j < m
        · rw [List.getElem?_map, List.getElem?_range hj, Option.map_some, e3 j hj, List.getElem?_eq_getElem (by omega)]; rfl
        · rw [List.getElem?_eq_none (by simp; omega), List.getElem?_eq_none (by omega)]
      refine ⟨cs, ?_, e1, (hgood _ _ _ h6).1, (hgood _ _ _ h6).2, e2, e3⟩
      show ((List.range len).map _)[i]? = _
      rw [List.getElem?_map, List.getElem?_range hi, Option.map_some, hcs]
    have hll : l.length = len := by simp [l]
    clear_value l
    let vs : List Value := (List.range (len * m)).map fun q => (arr[off + q]?).getD .nilIface
    have hvl : vs.length = len * m := by simp [vs]
    have hvg : ∀ q, q < len * m → ∃ x, arr[off + q]? = some x ∧ vs[q]? = some x ∧ scalar x = true := fun q hq => by
      have hq1 : q / m < len := by rw [Nat.div_lt_iff_lt_mul hm]; exact hq
      obtain ⟨cs, g1, g2, g3, g4, g5, g6⟩ := hrow (q / m) hq1
      have hq2 : q % m < m := Nat.mod_lt _ hm
      have := g6 (q % m) hq2
      have hqe : off + q / m * m + q % m = off + q := by have := Nat.div_add_mod q m; rw [Nat.mul_comm] at this; omega
      rw [hqe, List.getElem?_eq_getElem (by omega)] at this
      refine ⟨cs[q % m]'(by omega), this, ?_, ?_⟩
      · show ((List.range (len * m)).map _)[q]? = _
        rw [List.getElem?_map, List.getElem?_range hq, Option.map_some, this]; rfl
      · exact List.all_eq_true.1 g3 _ (List.getElem_mem _)
    clear_value vs
    have hsz : off + vs.length ≤ arr.size ∨ len = 0 := by
      rcases Nat.eq_zero_or_pos len with h | h
      · exact .inr h
      · left
        obtain ⟨cs, _, _, _, _, g5, _⟩ := hrow (len - 1) (by omega)
        have : (len - 1) * m + m = len * m := by
          have : len = (len - 1) + 1 := by omega
          conv => rhs; rw [this, Nat.add_mul, Nat.one_mul]
        rw [hvl]; omega
    have hmem : ∀ r ∈ l, r.length = m ∧ good r := fun r hr => by
      obtain ⟨i, hi⟩ := List.getElem?_of_mem hr
      obtain ⟨cs, g1, g2, g3, g4, _⟩ := hrow i (by have := (List.getElem?_eq_some_iff.1 hi).1; omega)
      rw [hi] at g1; cases g1
      exact ⟨g2, g4⟩
    rcases hsz with hsz | h00
    · refine ⟨l, _, _, .slice (some ⟨H.length, 0, none⟩) len cap, hmem, hL.add hb (off := off) (vs := vs) hsz ?_, hL.le _, ?_, ?_⟩
      · intro j x hj
        obtain ⟨y, e1, e2, e3⟩ := hvg j (by have := (List.getElem?_eq_some_iff.1 hj).1; omega)
        rw [hj] at e2; cases e2
        exact ⟨_, e1, .of_scalar e3⟩
      · have : VRel (c.add H.length ⟨b, off, vs.length, 0, 0⟩) (.slice (some ⟨H.length, 0, none⟩) len cap) (.slice (some ⟨b, off + 0, none⟩) len cap) := .slice (p := ⟨b, off, vs.length, 0, 0⟩) (by simp [Ctx.add])
        rw [Nat.add_zero] at this; exact this
      · refine .inr ⟨H.length, 0, cap, vs, ⟨row, 0, false, 0, none⟩, by rw [hll], hget0 rfl, fun _ => by rw [hll, hvl]; omega, fun j r hj => ?_⟩
        have hjl : j < len := by have := (List.getElem?_eq_some_iff.1 hj).1; omega
        obtain ⟨cs, g1, g2, g3, g4, g5, g6⟩ := hrow j hjl
        rw [hj] at g1; cases g1
        have hjm : j * m + m ≤ len * m := by
          have : (j + 1) * m ≤ len * m := Nat.mul_le_mul_right m (by omega)
          rw [Nat.add_mul, Nat.one_mul] at this; exact this
        refine List.ext_getElem? fun q => ?_
        by_cases hq : q < m
        · rw [List.getElem?_take_of_lt hq, List.getElem?_drop, Nat.zero_add]
          obtain ⟨x, e1, e2, _⟩ := hvg (j * m + q) (by omega)
          rw [e2, ← g6 q hq, ← e1]; congr 1; omega
        · rw [List.getElem?_eq_none (by rw [List.length_take]; omega), List.getElem?_eq_none (by omega)]
    · subst h00
      have hl0 : l = [] := List.eq_nil_of_length_eq_zero hll
      subst hl0
      refine ⟨[], _, _, .slice (some ⟨H.length, off, none⟩) 0 cap, by simp, hL.add hb (off := 0) (vs := []) (by simp) (fun k v e => by simp at e), hL.le _, ?_, .inr ⟨H.length, off, cap, [], ⟨row, 0, false, 0, none⟩, rfl, hget0 rfl, fun h => absurd rfl h, fun j r hj => by simp at hj⟩⟩
      · have : VRel (c.add H.length ⟨b, 0, 0, 0, 0⟩) (.slice (some ⟨H.length, off, none⟩) 0 cap) (.slice (some ⟨b, 0 + off, none⟩) 0 cap) := .slice (p := ⟨b, 0, 0, 0, 0⟩) (by simp [Ctx.add])
        rw [Nat.zero_add] at this; exact this
def isIntD (k : IntKind) : Option TypeDesc → Bool
  | some (.int j) => decide (j = k)
  | _ => false
theorem isIntD_eq {k : IntKind} : ∀ {x : Option TypeDesc}, isIntD k x = true → x = some (.int k) := by
  intro x h
  unfold isIntD at h
  split at h
  · simp only [decide_eq_true_eq] at h; rw [h]
  · cases h
def intOfV : Option Value → Int
  | some (.int _ z) => z
  | _ => 0
/-- A struct of whole numbers. -/
theorem trod_ints {D : Type} {enc : TypeId × Value → D} {P : Program} {w : World} {e : TypeId} {fs : Array Field} {m : Nat} {k : IntKind} (he : P.underlying e = some (.struct fs)) (hc : P.cellsOf e = m) (hf : (List.range m).all (fun i => match fs[i]? with | some f => f.offset == i && isIntD k (P.underlying f.type) && P.cellsOf f.type == 1 | none => false) = true)
    {n : Nat} {cs : List Value} {y : DataW D × List MemPlace} (h : DataW.trod enc P w 0 (fun _ => true) true n e cs = some y) : cs.length = m ∧ ∃ zs : List Int, cs = zs.map (.int k) ∧ ∀ z ∈ zs, (Lit.int k z).wf = true := by
  obtain ⟨xs, n', _, _, hlen, hxl, hall⟩ := DataW.trod_struct he h
  rw [hc] at hlen
  have hat : ∀ i, i < m → ∃ z, cs[i]? = some (.int k z) ∧ (Lit.int k z).wf = true := fun i hi => by
    have := List.all_eq_true.1 hf i (List.mem_range.2 hi)
    split at this
    · rename_i f hfi
      simp only [Bool.and_eq_true, beq_iff_eq] at this
      obtain ⟨⟨ho, ht0⟩, h1⟩ := this
      have ht := isIntD_eq ht0
      have h3 := hall i f hfi
      have hix : i < xs.length := by rw [hxl]; exact (Array.getElem?_eq_some_iff.1 hfi).1
      rw [h1, ho, List.getElem?_eq_getElem hix] at h3
      obtain ⟨z, hz, _, hw⟩ := DataW.trod_int ht h3
      refine ⟨z, ?_, hw⟩
      have : ((cs.drop i).take 1)[0]? = some (.int k z) := by rw [hz]; rfl
      rw [List.getElem?_take_of_lt (by omega), List.getElem?_drop] at this
      exact this
    · cases this
  refine ⟨hlen, (List.range m).map (fun i => intOfV cs[i]?), ?_, ?_⟩
  · refine List.ext_getElem? fun i => ?_
    by_cases hi : i < m
    · obtain ⟨z, hz, _⟩ := hat i hi
      rw [List.getElem?_map, List.getElem?_map, List.getElem?_range hi, hz]; simp [hz, intOfV]
    · rw [List.getElem?_eq_none (by omega), List.getElem?_eq_none (by simp; omega)]
  · intro z hz
    obtain ⟨i, hi, rfl⟩ := List.mem_map.1 hz
    obtain ⟨z, hz, hw⟩ := hat i (List.mem_range.1 hi)
    simp only [hz, intOfV]; exact hw
end Go.Aw
