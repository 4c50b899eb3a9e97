/-
  The operations, said of abstract states: append, copy.
-/
import Derived.Test.YtdeoaadkngiilaaDoorAw8
set_option linter.unusedVariables false
set_option linter.unusedSimpArgs false
namespace Go.Aw

/-- An object is let go. -/
theorem HRel.kill {c : Ctx} {H : AHeap} {w : World} (h : HRel c H w) (i : Nat) (n : Nat) : HRel c (H.set i .dead) w ∧ Trans n c H w c (H.set i .dead) w := by
  have back : ∀ j o, (H.set i .dead)[j]? = some o → o.live = true → H[j]? = some o ∧ j ≠ i := by
    intro j o e hl
    by_cases hj : j = i
    · subst hj
      have hlt : j < H.length := by have := (List.getElem?_eq_some_iff.1 e).1; simpa using this
      rw [List.getElem?_set_self hlt] at e; cases e; cases hl
    · rw [List.getElem?_set_ne (Ne.symm hj)] at e; exact ⟨e, hj⟩
  have lv : ∀ o : AObj, o.own = true → o.live = true := by intro o ho; cases o <;> first | rfl | cases ho
  refine ⟨⟨fun j o e hl => h.obj j o (back j o e hl).1 hl, ?_, fun j hj => h.fresh j (by simpa using hj)⟩, ⟨fun _ _ _ e => e, rfl, rfl, rfl, Nat.le_refl _, fun _ _ _ => rfl, ?_⟩⟩
  · intro a b oa ob pa pb hab ea eb ca cb hoa hlb
    exact h.sep a b oa ob pa pb hab (back a oa ea (lv oa hoa)).1 (back b ob eb hlb).1 ca cb hoa hlb
  · rintro b ⟨j, o, p, e, cj, ho, hb⟩
    exact .inl ⟨j, o, p, (back j o e (lv o ho)).1, cj, ho, hb⟩

theorem setCells_heap : ∀ (vs : List Value) (w : World) (b o : Nat) (arr : Array Value) (e : TypeId) (fr : Nat × Nat), w.heap[b]? = some (.cells arr e fr) → o + vs.length ≤ arr.size →
    ∃ arr' : Array Value, (w.setCells b o vs).heap[b]? = some (.cells arr' e fr) ∧ arr'.size = arr.size ∧ (∀ k v, vs[k]? = some v → arr'[o + k]? = some v) ∧ (∀ k, k < o → arr'[k]? = arr[k]?) ∧
      (∀ c, c ≠ b → (w.setCells b o vs).heap[c]? = w.heap[c]?) ∧ WSame w (w.setCells b o vs) ∧ (w.setCells b o vs).heap.size = w.heap.size
  | [], w, b, o, arr, e, fr, hb, _ => ⟨arr, hb, rfl, fun k v h => by simp at h, fun _ _ => rfl, fun _ _ => rfl, WSame.refl w, rfl⟩
  | v :: vs, w, b, o, arr, e, fr, hb, hl => by
    simp only [List.length_cons] at hl
    have h1 : (w.setCell ⟨b, o, none⟩ v).heap[b]? = some (.cells (arr.setIfInBounds o v) e fr) := by simp [World.setCell, Array.getElem?_modify, hb]
    obtain ⟨arr', g1, g2, g3, g4, g5, g6, g7⟩ := setCells_heap vs (w.setCell ⟨b, o, none⟩ v) b (o + 1) _ e fr h1 (by simp; omega)
    refine ⟨arr', g1, by simpa using g2, ?_, ?_, ?_, ⟨g6.tape, g6.os, g6.output⟩, by rw [World.setCells, g7]; simp⟩
    · intro k u hk
      cases k with
      | zero =>
        simp at hk; subst hk
        rw [Nat.add_zero, g4 o (by omega)]
        have : o < arr.size := by omega
        simp [this]
      | succ k => have := g3 k u (by simpa using hk); rwa [show o + 1 + k = o + (k + 1) from by omega] at this
    · intro k hk
      rw [g4 k (by omega), Array.getElem?_setIfInBounds_ne (by omega)]
    · intro d hd
      rw [World.setCells, g5 d hd]
      simp only [World.setCell, Array.getElem?_modify]
      rw [if_neg (Ne.symm hd)]

/-- What is appended. -/
def srcW (P : Program) (size : Nat) (tx : TypeId) (x : Value) (H : AHeap) (f : Nat → List Value → Prop) : Prop :=
  match P.underlying tx, x with
  | some (.slice _), .slice none n _ => n = 0 ∧ f 0 []
  | some (.slice _), .slice (some ⟨j, off, none⟩) n _ => (match H[j]? with
    | some (.cells cs _) => off + n * size ≤ cs.length ∧ f n ((cs.drop off).take (n * size))
    | _ => False)
  | some .string, .string s => size = 1 ∧ f s.data.toList.length (bytesC s.data.toList)
  | _, _ => False

theorem VRels.oneCells {c : Ctx} : ∀ {l l' : List Value}, VRels c l l' → l.all flat = true → ∀ u ∈ l', u.oneCell' = true
  | _, _, .nil, _, u, hu => by cases hu
  | v :: l, v' :: l', .cons a b, hf, u, hu => by
    simp only [List.all_cons, Bool.and_eq_true] at hf
    rcases List.mem_cons.1 hu with rfl | hu
    · exact oneCell_of a (flat_ne hf.1)
    · exact VRels.oneCells b (by simpa using hf.2) u hu

theorem srcW_ok {P : Program} {size : Nat} {tx : TypeId} {c : Ctx} {H : AHeap} {w : World} {f : Nat → List Value → Prop} (h : HRel c H w) {x x' : Value} (hx : VRel c x x') (hw : srcW P size tx x H f) :
    ∃ n news news', f n news ∧ VRels c news news' ∧ (news.all flat = true → Src P size tx x' n news' w) := by
  unfold srcW at hw
  split at hw
  · rename_i e n cp hu
    obtain ⟨rfl, hf⟩ := hw
    cases hx
    exact ⟨0, [], [], hf, .nil, fun _ => Src.ofNil w hu _⟩
  · rename_i e j off n cp hu
    split at hw
    · rename_i cs k hj
      obtain ⟨hle, hf⟩ := hw
      have key : ∀ (p : Place) cap', c j = some p → ∃ n1 news news', f n1 news ∧ VRels c news news' ∧ (news.all flat = true → Src P size tx (.slice (some ⟨p.block, p.base + off, none⟩) n cap') n1 news' w) := fun p cap' hc => by
        obtain ⟨l', hl', hv, hcell⟩ := h.cellsAt' hj hc off (n * size) hle
        refine ⟨n, _, l', hf, hv, fun hflat => ?_⟩
        refine ⟨.inl ⟨e, hu⟩, fun _ => rfl, ?_, ?_, hl', hv.oneCells hflat⟩
        · have := run_cells (P := P) (w := w) (b := p.block) (o := p.base + off) (l := []) (l' := l') #[] 0 (fun j v' e => by simpa using hcell j v' e)
          rw [hl'] at this
          simpa [Builtin.firstCells, loadCells] using this
        · have := run_cells (P := P) (w := w.drew) (b := p.block) (o := p.base + off) (l := []) (l' := l') #[] 0 (fun j v' e => by simpa using hcell j v' e)
          rw [hl'] at this
          simpa [Builtin.firstCells, loadCells] using this
      cases hx with
      | slice hc => exact key _ _ hc
      | sliceX hc _ => exact key _ _ hc
      | sliceZ hc =>
        refine ⟨0, _, [], hf, by simp; exact .nil, fun _ => ?_⟩
        exact ⟨.inl ⟨e, hu⟩, fun _ => rfl, by simp [Builtin.firstCells, loadCells, loadCellsFrom], by simp [Builtin.firstCells, loadCells, loadCellsFrom], by simp, fun _ h => by cases h⟩
    · exact hw.elim
  · rename_i s hu
    obtain ⟨rfl, hf⟩ := hw
    cases hx
    have hb : bytesC s.data.toList = byteCells s := rfl
    refine ⟨_, _, byteCells s, hf, by rw [← hb]; exact .of_scalars (bytesC_scalar _), fun _ => ?_⟩
    have := Src.ofString w hu s
    simpa using this
  · exact hw.elim
def appendTo (P : Program) (e : TypeId) (size y : Nat) (sv : Value) (n : Nat) (news : List Value) (H : AHeap) (K : Value → AHeap → Prop) : Prop :=
  match sv with
  | .slice none len cap => (len = 0 ∧ cap = 0) ∧ (n = 0 → K (.slice none 0 0) H) ∧ (n ≠ 0 → (n * y ≤ 140737488355328 ∧ n ≤ 4611686018427387904) ∧ K (.slice (some ⟨H.length, 0, none⟩) n n) (H ++ [.cells news ⟨e, size, true, 0, none⟩]))
  | .slice (some ⟨i, off, none⟩) len cap =>
    match H[i]? with
    | some (.cells cs k) =>
      (len + n ≤ cap → (n = 0 → K sv H) ∧ (n ≠ 0 → (ownW k (off + len * size) ∧ off + len * size + n * size ≤ cs.length) ∧ K (.slice (some ⟨i, off, none⟩) (len + n) cap) (H.set i (.cells (putCells cs (off + len * size) news) k)))) ∧
      (¬ len + n ≤ cap → (off + len * size ≤ cs.length ∧ (len + n) * y ≤ 140737488355328 ∧ len + n ≤ 4611686018427387904) ∧
        (k.esz ≠ 0 ∧ off + cap * k.esz = cs.length → (k.own = true ∧ k.esz = size ∧ k.fz ≤ off + len * size ∧ k.e = e) ∧
          K (.slice (some ⟨H.length, 0, none⟩) (len + n) (len + n)) (H.set i .dead ++ [.cells ((cs.drop off).take (len * size) ++ news) ⟨e, size, true, k.fz - off, none⟩])) ∧
        (¬ (k.esz ≠ 0 ∧ off + cap * k.esz = cs.length) →
          K (.slice (some ⟨H.length, 0, none⟩) (len + n) (len + n)) (H ++ [.cells ((cs.drop off).take (len * size) ++ news) ⟨e, size, true, 0, none⟩])))
    | _ => False
  | _ => False

def appendW (P : Program) (t tx : TypeId) (sv x : Value) (H : AHeap) (K : Value → AHeap → Prop) : Prop :=
  match P.underlying t with
  | some (.slice e) => wth (tS P e) fun size => wth (tB P e) fun y => wth (tZ P e) fun z => z.length = size ∧ 0 < size ∧
      srcW P size tx x H fun n news => news.all flat = true ∧ news.length = n * size ∧ appendTo P e size y sv n news H K
  | _ => False

/-- A new row behind a draw. -/
theorem HRel.grown {c : Ctx} {H : AHeap} {w : World} (h : HRel c H w) {l l' : List Value} (hv : VRels c l l') (e : TypeId) (size : Nat) {need cap : Nat} (hn : l.length = need * size) (hc : need ≤ cap) {rest : Array Value} (hr : rest.size = (cap - need) * size) (hs : 0 < size) (fz : Nat) :
    ∃ c', HRel c' (H ++ [.cells l ⟨e, size, true, fz, none⟩]) (w.drew.alloc (.cells (l'.toArray ++ rest) e (0, 0))) ∧ (∀ n, Trans n c H w c' (H ++ [.cells l ⟨e, size, true, fz, none⟩]) (w.drew.alloc (.cells (l'.toArray ++ rest) e (0, 0)))) ∧ c.le c' ∧
      VRel c' (.slice (some ⟨H.length, 0, none⟩) need need) (.slice (some ⟨w.heap.size, 0, none⟩) need cap) := by
  have key : ∀ n, _ := fun n => h.extend (w' := w.drew.alloc (.cells (l'.toArray ++ rest) e (0, 0))) (p := ⟨w.heap.size, 0, l.length, size, cap - need⟩) (o := .cells l ⟨e, size, true, fz, none⟩) ⟨rfl, rfl, rfl⟩ (by simp)
    (fun b hb => by show (w.heap.push _)[b]? = _; rw [Array.getElem?_push, if_neg (by omega)]) (Nat.le_refl _) (by
      refine ⟨rfl, rfl, fun h => (by simp at h; omega), fun n h => (by cases h), l'.toArray ++ rest, 0, 0, by show (w.heap.push _)[w.heap.size]? = _; simp, ?_, ?_, fun _ off _ ho => by omega⟩
      · intro k v ek
        obtain ⟨v', h1, h2⟩ := hv.get ek
        have hk : k < l'.length := (List.getElem?_eq_some_iff.1 h1).1
        refine ⟨v', ?_, h2.mono (Ctx.le_add _ (h.fresh _ (Nat.le_refl _)))⟩
        rw [Nat.zero_add, Array.getElem?_append_left (by simpa using hk)]
        simpa using h1
      · simp only [Array.size_append, List.size_toArray, hr, hv.length]; omega) n
  refine ⟨_, (key 0).1, fun n => (key n).2.1, (key 0).2.2, ?_⟩
  have := VRel.sliceX (c := c.add H.length ⟨w.heap.size, 0, l.length, size, cap - need⟩) (i := H.length) (off := 0) (len := need) (cap := need) (Ctx.add_self _ _ _) (by simp [hn])
  simp only [Nat.zero_add] at this
  rwa [show need + (cap - need) = cap from by omega] at this

/-- The room behind an object's end is written: the object goes on under a new name. -/
theorem HRel.regrown {c : Ctx} {H : AHeap} {w : World} (h : HRel c H w) {i : Nat} {cs : List Value} {k : CK} (hi : H[i]? = some (.cells cs k)) (hk : k.own = true) {p : Place} (hc : c i = some p) {news news' : List Value} (hv : VRels c news news')
    {off len n cap size : Nat} (hz : k.esz = size) (hs : 0 < size) (hn : news.length = n * size) (hcap : off + cap * size = cs.length) (hlen : len ≤ cap) (hroom : len + n ≤ cap + p.extra) (hfz : k.fz ≤ off + len * size) :
    (∀ j, j < news'.length → (w.cell? ⟨p.block, p.base + off + len * size + j, none⟩).isSome = true) ∧ (∀ j, j < news'.length → w.frozen? ⟨p.block, p.base + off + len * size + j, none⟩ = false) ∧
    ∃ c', HRel c' (H.set i .dead ++ [.cells ((cs.drop off).take (len * size) ++ news) ⟨k.e, size, true, k.fz - off, none⟩]) (w.setCells p.block (p.base + off + len * size) news') ∧
      (∀ m, Trans m c H w c' (H.set i .dead ++ [.cells ((cs.drop off).take (len * size) ++ news) ⟨k.e, size, true, k.fz - off, none⟩]) (w.setCells p.block (p.base + off + len * size) news')) ∧ c.le c' ∧
      VRel c' (.slice (some ⟨H.length, 0, none⟩) (len + n) (len + n)) (.slice (some ⟨p.block, p.base + off, none⟩) (len + n) (cap + p.extra)) := by
  obtain ⟨q, hq, hr⟩ := h.obj i _ hi rfl
  rw [hc] at hq; cases hq
  obtain ⟨r1, r2, r3, hgl, arr, lo, hi', hb, hcs, r4, r5⟩ := hr
  have hnl : news'.length = n * size := by rw [← hv.length, hn]
  rw [r2, hz] at r4 r5
  have hlt : i < H.length := (List.getElem?_eq_some_iff.1 hi).1
  have hcm : len * size ≤ cap * size := Nat.mul_le_mul_right _ hlen
  have hrm : (len + n) * size ≤ (cap + p.extra) * size := Nat.mul_le_mul_right _ hroom
  rw [Nat.add_mul, Nat.add_mul] at hrm
  have hin : p.base + off + len * size + news'.length ≤ arr.size := by omega
  refine ⟨fun j hj => ?_, fun j hj => ?_, ?_⟩
  · have : p.base + off + len * size + j < arr.size := by omega
    simp [World.cell?, hb, this]
  · have := r5 hk (p.base + off + len * size + j) (by omega) (by omega)
    simp only [World.frozen?, hb]
    simpa using this
  · obtain ⟨arr', g1, g2, g3, g4, g5, g6, g7⟩ := setCells_heap news' w p.block (p.base + off + len * size) arr k.e (lo, hi') hb hin
    generalize hw' : w.setCells p.block (p.base + off + len * size) news' = w' at *
    have hold : ∀ j v, ((cs.drop off).take (len * size))[j]? = some v → ∃ v', arr[p.base + off + j]? = some v' ∧ VRel c v v' := by
      intro j v e
      have hj : j < len * size := by have := (List.getElem?_eq_some_iff.1 e).1; simp at this; omega
      rw [List.getElem?_take_of_lt hj, List.getElem?_drop] at e
      obtain ⟨v', h1, h2⟩ := hcs (off + j) v e
      exact ⟨v', by rw [Nat.add_assoc]; exact h1, h2⟩
    -- the new name
    let np : Place := ⟨p.block, p.base + off, (len + n) * size, size, cap + p.extra - (len + n)⟩
    have hle : c.le (c.add H.length np) := Ctx.le_add np (h.fresh _ (Nat.le_refl _))
    have htl : ((cs.drop off).take (len * size)).length = len * size := by simp; omega
    have horel : ORel (c.add H.length np) np w' (.cells ((cs.drop off).take (len * size) ++ news) ⟨k.e, size, true, k.fz - off, none⟩) := by
      refine ⟨?_, rfl, fun h => (by simp at h; omega), fun n h => (by cases h), arr', lo, hi', g1, ?_, ?_, ?_⟩
      · simp only [np, List.length_append, htl, hn, Nat.add_mul]
      · intro j v e
        by_cases hj : j < len * size
        · rw [List.getElem?_append_left (by rw [htl]; exact hj)] at e
          obtain ⟨v', h1, h2⟩ := hold j v e
          exact ⟨v', by rw [g4 _ (by simp only [np]; omega)]; exact h1, h2.mono hle⟩
        · rw [List.getElem?_append_right (by rw [htl]; omega), htl] at e
          obtain ⟨v', h1, h2⟩ := hv.get e
          refine ⟨v', ?_, h2.mono hle⟩
          have := g3 _ _ h1
          rwa [show p.base + off + len * size + (j - len * size) = np.base + j from by simp only [np]; omega] at this
      · simp only [np, g2]
        have : (len + n) * size + (cap + p.extra - (len + n)) * size = (cap + p.extra) * size := by rw [← Nat.add_mul]; congr 1; omega
        rw [Nat.add_mul cap] at this
        omega
      · intro _ o ho1 ho2
        simp only [np] at ho1 ho2
        have : (len + n) * size + (cap + p.extra - (len + n)) * size = (cap + p.extra) * size := by rw [← Nat.add_mul]; congr 1; omega
        rw [Nat.add_mul cap] at this
        exact r5 hk o (by omega) (by omega)
    have hsep : ∀ j oj pj, j ≠ i → H[j]? = some oj → c j = some pj → oj.live = true → p.block ≠ pj.block := fun j oj pj hj ej cj hl => h.sep i j _ oj p pj (Ne.symm hj) hi ej hc cj hk hl
    have back : ∀ j o, (H.set i .dead ++ [.cells ((cs.drop off).take (len * size) ++ news) ⟨k.e, size, true, k.fz - off, none⟩])[j]? = some o → o.live = true → (j = H.length ∧ o = .cells ((cs.drop off).take (len * size) ++ news) ⟨k.e, size, true, k.fz - off, none⟩) ∨ (j ≠ i ∧ j ≠ H.length ∧ H[j]? = some o) := by
      intro j o e hl
      have hjl : j < (H.set i .dead ++ [AObj.cells ((cs.drop off).take (len * size) ++ news) ⟨k.e, size, true, k.fz - off, none⟩]).length := (List.getElem?_eq_some_iff.1 e).1
      simp at hjl
      by_cases hj : j = H.length
      · subst hj
        have : (H.set i .dead).length = H.length := by simp
        rw [List.getElem?_append_right (by simp), this, Nat.sub_self] at e
        simp at e
        exact .inl ⟨rfl, e.symm⟩
      · rw [List.getElem?_append_left (by simp; omega)] at e
        by_cases hji : j = i
        · subst hji; rw [List.getElem?_set_self hlt] at e; cases e; cases hl
        · rw [List.getElem?_set_ne (Ne.symm hji)] at e
          exact .inr ⟨hji, hj, e⟩
    have lv : ∀ o : AObj, o.own = true → o.live = true := by intro o ho; cases o <;> first | rfl | cases ho
    refine ⟨c.add H.length np, ⟨?_, ?_, ?_⟩, fun m => ⟨fun j q _ e => hle j q e, g6.tape, g6.os, g6.output, by omega, ?_, ?_⟩, hle, ?_⟩
    · intro j o e hl
      rcases back j o e hl with ⟨rfl, rfl⟩ | ⟨h1, h2, h3⟩
      · exact ⟨np, Ctx.add_self _ _ _, horel⟩
      · obtain ⟨q, hq, hrq⟩ := h.obj j o h3 hl
        refine ⟨q, by rw [Ctx.add_other _ _ h2]; exact hq, hrq.keep hle hl (g5 _ (Ne.symm (hsep j o q h1 h3 hq hl)))⟩
    · intro a b oa ob pa pb hab ea eb ca cb hoa hlb
      rcases back a oa ea (lv _ hoa) with ⟨rfl, rfl⟩ | ⟨a1, a2, a3⟩
      · rw [Ctx.add_self] at ca; cases ca
        rcases back b ob eb hlb with ⟨rfl, rfl⟩ | ⟨b1, b2, b3⟩
        · exact absurd rfl hab
        · rw [Ctx.add_other _ _ b2] at cb
          exact hsep b ob pb b1 b3 cb hlb
      · rw [Ctx.add_other _ _ a2] at ca
        rcases back b ob eb hlb with ⟨rfl, rfl⟩ | ⟨b1, b2, b3⟩
        · rw [Ctx.add_self] at cb; cases cb
          exact Ne.symm (hsep a oa pa a1 a3 ca (lv _ hoa))
        · rw [Ctx.add_other _ _ b2] at cb
          exact h.sep a b oa ob pa pb hab a3 b3 ca cb hoa hlb
    · intro j hj
      simp at hj
      rw [Ctx.add_other _ _ (by omega)]
      exact h.fresh j (by omega)
    · intro b hb hno
      refine g5 b (fun hbp => hno ⟨i, _, p, hi, hc, hk, hbp.symm⟩)
    · rintro b ⟨j, o, q, e, cj, ho, hbq⟩
      rcases back j o e (lv _ ho) with ⟨rfl, rfl⟩ | ⟨a1, a2, a3⟩
      · rw [Ctx.add_self] at cj; cases cj
        exact .inl ⟨i, _, p, hi, hc, hk, hbq⟩
      · rw [Ctx.add_other _ _ a2] at cj
        exact .inl ⟨j, o, q, a3, cj, ho, hbq⟩
    · have := VRel.sliceX (c := c.add H.length np) (i := H.length) (off := 0) (len := len + n) (cap := len + n) (Ctx.add_self _ _ _) (by simp [np])
      simp only [np, Nat.add_zero] at this
      rwa [show len + n + (cap + p.extra - (len + n)) = cap + p.extra from by omega] at this
end Go.Aw
