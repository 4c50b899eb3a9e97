/-
  Lists that a caller hands over, with the bounds on what stands in them.
-/
import Derived.Test.YtdeoaadkngiilaaDoorAw36
import Derived.SizedLaws
set_option linter.unusedVariables false
set_option linter.unusedSimpArgs false
namespace Go.Aw
open Go.RowKit Go.ChangeShapes Go.WideShapes Go.ChangeAt
theorem weightsAll_mem {H : Type} {P : Program} {e : TypeId} {d : DataW H} {n : Nat} : ∀ {l : List (DataW H)}, d ∈ l → n ∈ d.weights P e → n ∈ DataW.weightsAll P e l
  | x :: l, h, hn => by
    rw [DataW.weightsAll, List.mem_append]
    rcases List.mem_cons.1 h with rfl | h
    · exact .inl hn
    · exact .inr (weightsAll_mem h hn)
theorem weightsAt {H : Type} {P : Program} {ts : List TypeId} {ds : List (DataW H)} {b : Nat} (h : (DataW.weightsEach P ts ds).all (· ≤ b) = true) {j : Nat} {t : TypeId} {d : DataW H} (ht : ts[j]? = some t) (hd : ds[j]? = some d) : (d.weights P t).all (· ≤ b) = true :=
  List.all_eq_true.2 fun n hn => List.all_eq_true.1 h n (DataW.weights_mem_each ht hd n hn)
theorem strAt {H : Type} {P : Program} {ts : List TypeId} {ds : List (DataW H)} (h : (DataW.weightsEach P ts ds).all (· ≤ reachBytes) = true) {j : Nat} {t : TypeId} {l : List UInt8} (ht : ts[j]? = some t) (hd : ds[j]? = some (.lit (.string l))) : l.length < 140737488355328 :=
  Nat.lt_of_le_of_lt (sized_string h ht hd) reachBytes_lt
theorem reach_lt : reachBytes < 140737488355328 := reachBytes_lt
theorem lend_recsW {D : Type} {enc : TypeId × Value → D} {P : Program} {w : World} {t e : TypeId} {m : Nat} {v : Value} {d : DataW D} {ps : List MemPlace} {b0 bnd : Nat} (ht : P.underlying t = some (.slice e)) (hc : P.cellsOf e = m) (hm : 0 < m) (good : List Value → Prop)
    (hgood : ∀ n cs y, DataW.trod enc P w 0 (fun _ => true) true n e cs = some y → (y.1.weights P e).all (· ≤ bnd) = true → cs.all scalar = true ∧ good cs) (hw : (d.weights P t).all (· ≤ bnd) = true)
    (hval : Value.okWide P w .any b0 t v) (h : DataW.Trod enc P w 0 (fun _ => true) true t v d ps) {c : Ctx} {H : AHeap} (hL : Lent c H w) :
    ∃ (l : List (List Value)) (c' : Ctx) (X : AHeap) (av : Value), (∀ r ∈ l, r.length = m ∧ good r) ∧ Lent c' (H ++ X) w ∧ c.le c' ∧ VRel c' av v ∧ RdN (H ++ X) m av l := by
  have hna : ∀ q, v ≠ .agg q := fun q e => by
    subst e; simp [Value.okWide, ht, Cell.okWide, Cell.ok] at hval
  obtain ⟨fuel, hf⟩ := h
  rcases DataW.trod_slice ht hf with ⟨hcs, hx⟩ | ⟨a, len, cap, elems, rest, n, _, hcs, hx, h0, h1, h2, h3, h4, _⟩
  · have hv : v = .slice none 0 0 := by
      cases v <;> simp [Value.cells] at hcs hna <;> simp [hcs]
    subst hv
    exact ⟨[], c, [], _, by simp, by rw [List.append_nil]; exact hL, Ctx.le_refl _, .nilSlice _ _, .inl ⟨rfl, rfl⟩⟩
  · have hv : v = .slice (some a) len cap := by
      cases v <;> simp [Value.cells] at hcs hna <;> simp [hcs]
    subst hv
    have hok : w.has P .any b0 a e cap := by
      unfold Value.okWide at hval
      rw [ht] at hval
      simp only [Cell.okWide, ht, Cell.ok] at hval
      exact hval.2.2
    obtain ⟨_, hsp, row, cells, hsh, _⟩ := hok
    obtain ⟨b, off, spot⟩ := a
    simp only at hsp hsh
    subst hsp
    obtain ⟨arr, fr, hb⟩ : ∃ arr fr, w.heap[b]? = some (.cells arr row fr) := by
      unfold World.shape? at hsh
      split at hsh
      · rename_i q1 q2 q3 hq
        simp only [Option.some.injEq, Prod.mk.injEq] at hsh
        exact ⟨_, _, by rw [hq, hsh.1]⟩
      · cases hsh
    have hel : ∀ i, i < len → ∃ cs y, w.cells? 0 ⟨b, off + i * m, none⟩ m = some cs ∧ DataW.trod enc P w 0 (fun _ => true) true n e cs = some y ∧ (y.1.weights P e).all (· ≤ bnd) = true := fun i hi => by
      have := h4 i hi
      rw [hc, addr_add, List.getElem?_eq_getElem (by omega), Option.bind_eq_some_iff] at this
      obtain ⟨cs, h5, h6⟩ := this
      refine ⟨cs, _, h5, h6, List.all_eq_true.2 fun q hq => ?_⟩
      have hd : d = .slice (elems.map (·.1)) (rest.map (·.1)) := congrArg Prod.fst hx
      refine List.all_eq_true.1 hw q ?_
      rw [hd, DataW.weights, ht]
      exact List.mem_cons_of_mem _ (List.mem_append_left _ (weightsAll_mem (List.mem_map.2 ⟨_, List.getElem_mem (by omega), rfl⟩) hq))
    let l : List (List Value) := (List.range len).map fun i => ((List.range m).map fun j => (arr[off + i * m + j]?).getD .nilIface)
    have hrow : ∀ i, i < len → ∃ cs, l[i]? = some cs ∧ cs.length = m ∧ cs.all scalar = true ∧ good cs ∧ off + i * m + m ≤ arr.size ∧ ∀ j, j < m → arr[off + i * m + j]? = cs[j]? := fun i hi => by
      obtain ⟨cs, y, h5, h6, h6w⟩ := hel i hi
      obtain ⟨e1, e2, e3⟩ := cells_take (D := Unit) hb h5 hm
      have hcs : ((List.range m).map fun j => (arr[off + i * m + j]?).getD .nilIface) = cs := by
        refine List.ext_getElem? fun j => ?_
        by_cases hj : j < m
        · rw [List.getElem?_map, List.getElem?_range hj, Option.map_some, e3 j hj, List.getElem?_eq_getElem (by omega)]; rfl
        · rw [List.getElem?_eq_none (by simp; omega), List.getElem?_eq_none (by omega)]
      refine ⟨cs, ?_, e1, (hgood _ _ _ h6 h6w).1, (hgood _ _ _ h6 h6w).2, e2, e3⟩
      show ((List.range len).map _)[i]? = _
      rw [List.getElem?_map, List.getElem?_range hi, Option.map_some, hcs]
    have hll : l.length = len := by simp [l]
    clear_value l
    let vs : List Value := (List.range (len * m)).map fun q => (arr[off + q]?).getD .nilIface
    have hvl : vs.length = len * m := by simp [vs]
    have hvg : ∀ q, q < len * m → ∃ x, arr[off + q]? = some x ∧ vs[q]? = some x ∧ scalar x = true := fun q hq => by
      have hq1 : q / m < len := by rw [Nat.div_lt_iff_lt_mul hm]; exact hq
      obtain ⟨cs, g1, g2, g3, g4, g5, g6⟩ := hrow (q / m) hq1
      have hq2 : q % m < m := Nat.mod_lt _ hm
      have := g6 (q % m) hq2
      have hqe : off + q / m * m + q % m = off + q := by have := Nat.div_add_mod q m; rw [Nat.mul_comm] at this; omega
      rw [hqe, List.getElem?_eq_getElem (by omega)] at this
      refine ⟨cs[q % m]'(by omega), this, ?_, ?_⟩
      · show ((List.range (len * m)).map _)[q]? = _
        rw [List.getElem?_map, List.getElem?_range hq, Option.map_some, this]; rfl
      · exact List.all_eq_true.1 g3 _ (List.getElem_mem _)
    clear_value vs
    have hsz : off + vs.length ≤ arr.size ∨ len = 0 := by
      rcases Nat.eq_zero_or_pos len with h | h
      · exact .inr h
      · left
        obtain ⟨cs, _, _, _, _, g5, _⟩ := hrow (len - 1) (by omega)
        have : (len - 1) * m + m = len * m := by
          have : len = (len - 1) + 1 := by omega
          conv => rhs; rw [this, Nat.add_mul, Nat.one_mul]
        rw [hvl]; omega
    have hmem : ∀ r ∈ l, r.length = m ∧ good r := fun r hr => by
      obtain ⟨i, hi⟩ := List.getElem?_of_mem hr
      obtain ⟨cs, g1, g2, g3, g4, _⟩ := hrow i (by have := (List.getElem?_eq_some_iff.1 hi).1; omega)
      rw [hi] at g1; cases g1
      exact ⟨g2, g4⟩
    rcases hsz with hsz | h00
    · refine ⟨l, _, _, .slice (some ⟨H.length, 0, none⟩) len cap, hmem, hL.add hb (off := off) (vs := vs) hsz ?_, hL.le _, ?_, ?_⟩
      · intro j x hj
        obtain ⟨y, e1, e2, e3⟩ := hvg j (by have := (List.getElem?_eq_some_iff.1 hj).1; omega)
        rw [hj] at e2; cases e2
        exact ⟨_, e1, .of_scalar e3⟩
      · have : VRel (c.add H.length ⟨b, off, vs.length, 0, 0⟩) (.slice (some ⟨H.length, 0, none⟩) len cap) (.slice (some ⟨b, off + 0, none⟩) len cap) := .slice (p := ⟨b, off, vs.length, 0, 0⟩) (by simp [Ctx.add])
        rw [Nat.add_zero] at this; exact this
      · refine .inr ⟨H.length, 0, cap, vs, ⟨row, 0, false, 0, none⟩, by rw [hll], hget0 rfl, fun _ => by rw [hll, hvl]; omega, fun j r hj => ?_⟩
        have hjl : j < len := by have := (List.getElem?_eq_some_iff.1 hj).1; omega
        obtain ⟨cs, g1, g2, g3, g4, g5, g6⟩ := hrow j hjl
        rw [hj] at g1; cases g1
        have hjm : j * m + m ≤ len * m := by
          have : (j + 1) * m ≤ len * m := Nat.mul_le_mul_right m (by omega)
          rw [Nat.add_mul, Nat.one_mul] at this; exact this
        refine List.ext_getElem? fun q => ?_
        by_cases hq : q < m
        · rw [List.getElem?_take_of_lt hq, List.getElem?_drop, Nat.zero_add]
          obtain ⟨x, e1, e2, _⟩ := hvg (j * m + q) (by omega)
          rw [e2, ← g6 q hq, ← e1]; congr 1; omega
        · rw [List.getElem?_eq_none (by rw [List.length_take]; omega), List.getElem?_eq_none (by omega)]
    · subst h00
      have hl0 : l = [] := List.eq_nil_of_length_eq_zero hll
      subst hl0
      refine ⟨[], _, _, .slice (some ⟨H.length, off, none⟩) 0 cap, by simp, hL.add hb (off := 0) (vs := []) (by simp) (fun k v e => by simp at e), hL.le _, ?_, .inr ⟨H.length, off, cap, [], ⟨row, 0, false, 0, none⟩, rfl, hget0 rfl, fun h => absurd rfl h, fun j r hj => by simp at hj⟩⟩
      · have : VRel (c.add H.length ⟨b, 0, 0, 0, 0⟩) (.slice (some ⟨H.length, off, none⟩) 0 cap) (.slice (some ⟨b, 0 + off, none⟩) 0 cap) := .slice (p := ⟨b, 0, 0, 0, 0⟩) (by simp [Ctx.add])
        rw [Nat.zero_add] at this; exact this
theorem lend_strsW {D : Type} {enc : TypeId × Value → D} {P : Program} {w : World} {t e : TypeId} {v : Value} {d : DataW D} {ps : List MemPlace} {b0 bnd : Nat} (ht : P.underlying t = some (.slice e)) (he : P.underlying e = some .string) (hc : P.cellsOf e = 1)
    (hw : (d.weights P t).all (· ≤ bnd) = true) (hval : Value.okWide P w .any b0 t v) (h : DataW.Trod enc P w 0 (fun _ => true) true t v d ps) {c : Ctx} {H : AHeap} (hL : Lent c H w) :
    ∃ (l : List (List UInt8)) (c' : Ctx) (X : AHeap) (av : Value), (∀ s ∈ l, s.length ≤ bnd) ∧ l.length ≤ 9223372036854775807 ∧ Lent c' (H ++ X) w ∧ c.le c' ∧ VRel c' av v ∧ Rd (H ++ X) av (strsC l) := by
  have hmx : maxLen = 9223372036854775807 := by decide
  obtain ⟨rs, c', X, av, hg, hL', hle, hva, hrd⟩ := lend_recsW (m := 1) (bnd := bnd) ht hc (by decide) (fun cs => ∃ s : ByteArray, cs = [.string s] ∧ s.size ≤ bnd) (fun n cs y hh hyw => by
    obtain ⟨s, e1, ey, e2⟩ := DataW.trod_string he hh
    exact ⟨by rw [e1]; rfl, s, e1, by rw [ey] at hyw; simpa [DataW.weights] using hyw⟩) hw hval h hL
  obtain ⟨l, hl⟩ : ∃ l : List (List UInt8), rs = l.map fun s => [.string (bs s)] := by
    clear hrd
    induction rs with
    | nil => exact ⟨[], rfl⟩
    | cons r rs ih =>
      obtain ⟨_, s, e1, _⟩ := hg r (List.mem_cons_self ..)
      obtain ⟨l, e2⟩ := ih (fun r hr => hg r (List.mem_cons_of_mem _ hr))
      exact ⟨s.data.toList :: l, by rw [e1, e2]; rfl⟩
  subst hl
  refine ⟨l, c', X, av, fun s hs => ?_, ?_, hL', hle, hva, ?_⟩
  · obtain ⟨_, s', e1, e2⟩ := hg [.string (bs s)] (List.mem_map.2 ⟨s, hs, rfl⟩)
    have : bs s = s' := by simpa using e1
    subst this
    exact e2
  · rcases hrd with ⟨_, e2⟩ | ⟨i, off, cap, cs, k, e1, _⟩
    · have : l = [] := by simpa using e2
      subst this; simp
    · subst e1
      have hb : ∀ a n cp, Value.okWide P w .any b0 t (.slice (some a) n cp) → n ≤ 9223372036854775807 := fun a n cp hv => by
        unfold Value.okWide at hv
        rw [ht] at hv
        simp only [Cell.okWide, ht, Cell.ok] at hv
        have := hv.1; have := hv.2.1
        have hm : IntKind.i64.max = 9223372036854775807 := by decide
        omega
      rw [List.length_map] at hva
      generalize l.length = n at hva ⊢
      cases hva with
      | slice hc => exact hb _ _ _ hval
      | sliceX hc _ => exact hb _ _ _ hval
      | sliceZ hc => exact Nat.zero_le _
  · rcases hrd with ⟨e1, e2⟩ | ⟨i, off, cap, cs, k, e1, e2, e3, e4⟩
    · have : l = [] := by simpa using e2
      subst this
      exact .inl ⟨e1, rfl⟩
    · rw [List.length_map] at e1
      refine .inr ⟨i, off, cap, cs, k, by rw [strsC_length]; exact e1, e2, fun j hj => ?_⟩
      rw [strsC_length] at hj
      have := e4 j [.string (bs l[j])] (by simp [List.getElem?_eq_getElem hj])
      rw [Nat.mul_one] at this
      rw [strsC_get hj]
      have h2 : ((cs.drop (off + j)).take 1)[0]? = some (.string (bs l[j])) := by rw [this]; rfl
      rw [List.getElem?_take_of_lt (by decide), List.getElem?_drop, Nat.add_zero] at h2
      exact h2
end Go.Aw
