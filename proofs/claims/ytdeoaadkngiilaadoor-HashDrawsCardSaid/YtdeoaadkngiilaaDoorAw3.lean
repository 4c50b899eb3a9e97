/-
  Memory: new objects, reading, writing.
-/
import Derived.Test.YtdeoaadkngiilaaDoorAw2
set_option linter.unusedVariables false
namespace Go.Aw

/-- The name of a new object. -/
def Ctx.add (c : Ctx) (n : Nat) (p : Place) : Ctx := fun i => if i = n then some p else c i

theorem Ctx.le_add {c : Ctx} {n : Nat} (p : Place) (h : c n = none) : c.le (c.add n p) := by
  intro i q e
  unfold Ctx.add
  split
  · rename_i hi; subst hi; rw [h] at e; cases e
  · exact e

@[simp] theorem Ctx.add_self (c : Ctx) (n : Nat) (p : Place) : c.add n p n = some p := by simp [Ctx.add]
theorem Ctx.add_other (c : Ctx) {n i : Nat} (p : Place) (h : i ≠ n) : c.add n p i = c i := by simp [Ctx.add, h]

structure WSame (w w' : World) : Prop where
  tape : w'.tape = w.tape
  os : w'.os = w.os
  output : w'.output = w.output

theorem WSame.refl (w : World) : WSame w w := ⟨rfl, rfl, rfl⟩

/-- A new object. -/
theorem HRel.extend {c : Ctx} {H : AHeap} {w w' : World} (h : HRel c H w) (hs : WSame w w') (hsz : w.heap.size ≤ w'.heap.size) (hw : ∀ b, b < w.heap.size → w'.heap[b]? = w.heap[b]?)
    {p : Place} (hp : w.heap.size ≤ p.block) {o : AObj} (ho : ORel (c.add H.length p) p w' o) (n : Nat) :
    HRel (c.add H.length p) (H ++ [o]) w' ∧ Trans n c H w (c.add H.length p) (H ++ [o]) w' ∧ c.le (c.add H.length p) := by
  have hle : c.le (c.add H.length p) := Ctx.le_add p (h.fresh _ (Nat.le_refl _))
  have old : ∀ i o', (H ++ [o])[i]? = some o' → i ≠ H.length → H[i]? = some o' := by
    intro i o' e hi
    have hlt : i < (H ++ [o]).length := (List.getElem?_eq_some_iff.1 e).1
    rw [List.getElem?_append_left (by simp at hlt; omega)] at e
    exact e
  refine ⟨⟨?_, ?_, ?_⟩, ⟨?_, hs.tape, hs.os, hs.output, hsz, fun b hb _ => hw b hb, ?_⟩, hle⟩
  · intro i o' e hl
    by_cases hi : i = H.length
    · subst hi
      simp at e; subst e
      exact ⟨p, by simp, ho⟩
    · obtain ⟨q, hq, hr⟩ := h.obj i o' (old i o' e hi) hl
      exact ⟨q, by rw [Ctx.add_other _ _ hi]; exact hq, hr.keep hle hl (hw _ (hr.block_lt hl))⟩
  · intro i j oi oj pi pj hij ei ej ci cj hoi hlj
    have hli : oi.live = true := by cases oi <;> first | rfl | cases hoi
    have lt : ∀ k ok pk, k ≠ H.length → (H ++ [o])[k]? = some ok → c.add H.length p k = some pk → ok.live = true → pk.block < w.heap.size := by
      intro k ok pk hk ek ck hlk
      rw [Ctx.add_other _ _ hk] at ck
      obtain ⟨q, hq, hr⟩ := h.obj k ok (old k ok ek hk) hlk
      rw [ck] at hq; cases hq
      exact hr.block_lt hlk
    by_cases h1 : i = H.length
    · subst h1
      simp at ci; subst ci
      have := lt j oj pj (Ne.symm hij) ej cj hlj
      omega
    · by_cases h2 : j = H.length
      · subst h2
        simp at cj; subst cj
        have := lt i oi pi h1 ei ci hli
        omega
      · rw [Ctx.add_other _ _ h1] at ci
        rw [Ctx.add_other _ _ h2] at cj
        exact h.sep i j oi oj pi pj hij (old i oi ei h1) (old j oj ej h2) ci cj hoi hlj
  · intro i hi
    simp at hi
    rw [Ctx.add_other _ _ (by omega)]
    exact h.fresh i (by omega)
  · intro i q _ e; exact hle i q e
  · rintro b ⟨i, o', q, e, ci, ho', hb⟩
    by_cases hi : i = H.length
    · subst hi; simp at ci; subst ci; subst hb; exact .inr hp
    · rw [Ctx.add_other _ _ hi] at ci
      exact .inl ⟨i, o', q, old i o' e hi, ci, ho', hb⟩

/-- An owned object changes. -/
theorem HRel.change {c : Ctx} {H : AHeap} {w w' : World} (h : HRel c H w) (hs : WSame w w') (hsz : w'.heap.size = w.heap.size) {i : Nat} {o o' : AObj} {p : Place} (hi : H[i]? = some o) (ho : o.own = true)
    (hc : c i = some p) (hw : ∀ b, b ≠ p.block → w'.heap[b]? = w.heap[b]?) (hr : ORel c p w' o') (hn : o'.live = true → o'.own = true) (n : Nat) :
    HRel c (H.set i o') w' ∧ Trans n c H w c (H.set i o') w' := by
  have hlt : i < H.length := (List.getElem?_eq_some_iff.1 hi).1
  have hlo : o.live = true := by cases o <;> first | rfl | cases ho
  refine ⟨⟨?_, ?_, ?_⟩, ⟨fun _ _ _ e => e, hs.tape, hs.os, hs.output, by omega, ?_, ?_⟩⟩
  · intro j oj e hl
    by_cases hj : j = i
    · subst hj
      rw [List.getElem?_set_self hlt] at e; cases e
      exact ⟨p, hc, hr⟩
    · rw [List.getElem?_set_ne (Ne.symm hj)] at e
      obtain ⟨q, hq, hrq⟩ := h.obj j oj e hl
      have hne : p.block ≠ q.block := h.sep i j o oj p q (Ne.symm hj) hi e hc hq ho hl
      exact ⟨q, hq, hrq.keep (Ctx.le_refl c) hl (hw _ (Ne.symm hne))⟩
  · intro a b oa ob pa pb hab ea eb ca cb hoa hlb
    by_cases h1 : a = i
    · subst h1
      rw [List.getElem?_set_ne hab] at eb
      rw [hc] at ca; cases ca
      exact h.sep a b o ob p pb hab hi eb hc cb ho hlb
    · rw [List.getElem?_set_ne (Ne.symm h1)] at ea
      by_cases h2 : b = i
      · subst h2
        rw [hc] at cb; cases cb
        exact h.sep a b oa o pa p hab ea hi ca hc hoa hlo
      · rw [List.getElem?_set_ne (Ne.symm h2)] at eb
        exact h.sep a b oa ob pa pb hab ea eb ca cb hoa hlb
  · intro j hj; exact h.fresh j (by simpa using hj)
  · intro b hb hno
    refine hw b (fun hbp => hno ⟨i, o, p, hi, hc, ho, hbp.symm⟩)
  · rintro b ⟨j, oj, q, e, cj, hoj, hb⟩
    by_cases hj : j = i
    · subst hj; rw [hc] at cj; cases cj; exact .inl ⟨j, o, p, hi, hc, ho, hb⟩
    · rw [List.getElem?_set_ne (Ne.symm hj)] at e
      exact .inl ⟨j, oj, q, e, cj, hoj, hb⟩

/-- The world's count of draws moves. -/
theorem HRel.same {c : Ctx} {H : AHeap} {w w' : World} (h : HRel c H w) (hs : WSame w w') (hh : w'.heap = w.heap) (n : Nat) : HRel c H w' ∧ Trans n c H w c H w' := by
  refine ⟨⟨fun i o e hl => ?_, h.sep, h.fresh⟩, ⟨fun _ _ _ e => e, hs.tape, hs.os, hs.output, by rw [hh]; exact Nat.le_refl _, fun b _ _ => by rw [hh], fun b hb => .inl hb⟩⟩
  obtain ⟨p, hp, hr⟩ := h.obj i o e hl
  exact ⟨p, hp, hr.keep (Ctx.le_refl c) hl (by rw [hh])⟩

theorem HRel.drew {c : Ctx} {H : AHeap} {w : World} (h : HRel c H w) (n : Nat) : HRel c H w.drew ∧ Trans n c H w c H w.drew := h.same (w' := w.drew) ⟨rfl, rfl, rfl⟩ rfl n

/-- A cell. -/
theorem HRel.cell {c : Ctx} {H : AHeap} {w : World} (h : HRel c H w) {i : Nat} {cs : List Value} {k : CK} (hi : H[i]? = some (.cells cs k)) {p : Place} (hc : c i = some p) {off : Nat} {v : Value} (hv : cs[off]? = some v) :
    ∃ v', w.cell? ⟨p.block, p.base + off, none⟩ = some v' ∧ VRel c v v' := by
  obtain ⟨q, hq, hr⟩ := h.obj i _ hi rfl
  rw [hc] at hq; cases hq
  obtain ⟨_, _, _, _, arr, lo, hi', hb, hcs, _, _⟩ := hr
  obtain ⟨v', h1, h2⟩ := hcs off v hv
  exact ⟨v', by simp [World.cell?, hb, h1], h2⟩

theorem WSame.setCell (w : World) (a : Addr) (v : Value) : WSame w (w.setCell a v) := ⟨rfl, rfl, rfl⟩

/-- A cell of an owned object is written. -/
theorem HRel.setCell {c : Ctx} {H : AHeap} {w : World} (h : HRel c H w) {i : Nat} {cs : List Value} {k : CK} (hi : H[i]? = some (.cells cs k)) (hk : k.own = true) {p : Place} (hc : c i = some p)
    {off : Nat} (ho : off < cs.length) (hf : k.fz ≤ off) {v v' : Value} (hv : VRel c v v') (n : Nat) :
    (∃ u, w.cell? ⟨p.block, p.base + off, none⟩ = some u) ∧ w.frozen? ⟨p.block, p.base + off, none⟩ = false ∧
    HRel c (H.set i (.cells (cs.set off v) k)) (w.setCell ⟨p.block, p.base + off, none⟩ v') ∧
    Trans n c H w c (H.set i (.cells (cs.set off v) k)) (w.setCell ⟨p.block, p.base + off, none⟩ v') := by
  obtain ⟨q, hq, hr⟩ := h.obj i _ hi rfl
  rw [hc] at hq; cases hq
  obtain ⟨h1, h2, hx, hgl, arr, lo, hi', hb, hcs, h3, h4⟩ := hr
  have hlt : p.base + off < arr.size := by omega
  have hfr : ¬ (lo ≤ p.base + off ∧ p.base + off < hi') := h4 hk _ (by omega) (by omega)
  refine ⟨⟨arr[p.base + off], by simp [World.cell?, hb, hlt]⟩, by simp only [World.frozen?, hb]; simpa using hfr, ?_⟩
  refine h.change (o := .cells cs k) (o' := .cells (cs.set off v) k) (WSame.setCell _ _ _) (by simp [World.setCell]) hi hk hc (fun b hbn => by simp only [World.setCell, Array.getElem?_modify]; rw [if_neg (Ne.symm hbn)]) ?_ (fun _ => hk) n
  have hnew : (w.setCell ⟨p.block, p.base + off, none⟩ v').heap[p.block]? = some (.cells (arr.setIfInBounds (p.base + off) v') k.e (lo, hi')) := by simp [World.setCell, Array.getElem?_modify, hb]
  refine ⟨by simpa using h1, h2, hx, fun n e => ⟨(hgl n e).1, (hgl n e).2.1, fun a r hh => ?_⟩, arr.setIfInBounds (p.base + off) v', lo, hi', hnew, ?_, by simpa using h3, h4⟩
  · rw [hnew] at hh
    cases hh
    have := (hgl n e).2.2 arr _ hb
    simpa using this
  · intro j u e
    by_cases hj : j = off
    · subst hj
      rw [List.getElem?_set_self ho] at e; cases e
      exact ⟨v', by simp [hlt], hv⟩
    · rw [List.getElem?_set_ne (Ne.symm hj)] at e
      obtain ⟨u', e1, e2⟩ := hcs j u e
      exact ⟨u', by simp [e1, Array.getElem?_setIfInBounds]; omega, e2⟩

/-- A new block of cells. -/
theorem HRel.alloc {c : Ctx} {H : AHeap} {w : World} (h : HRel c H w) {cs cs' : List Value} (hv : VRels c cs cs') (e : TypeId) (esz : Nat) (n : Nat) :
    HRel (c.add H.length ⟨w.heap.size, 0, cs.length, esz, 0⟩) (H ++ [.cells cs ⟨e, esz, true, 0, none⟩]) (w.alloc (.cells ⟨cs'⟩ e (0, 0))) ∧
    Trans n c H w (c.add H.length ⟨w.heap.size, 0, cs.length, esz, 0⟩) (H ++ [.cells cs ⟨e, esz, true, 0, none⟩]) (w.alloc (.cells ⟨cs'⟩ e (0, 0))) ∧
    c.le (c.add H.length ⟨w.heap.size, 0, cs.length, esz, 0⟩) := by
  refine h.extend (w' := w.alloc (.cells ⟨cs'⟩ e (0, 0))) (p := ⟨w.heap.size, 0, cs.length, esz, 0⟩) ⟨rfl, rfl, rfl⟩ (by simp) (fun b hb => by simp only [World.alloc, Array.getElem?_push]; rw [if_neg (by omega)]) (Nat.le_refl _) ?_ n
  refine ⟨rfl, rfl, fun _ => rfl, fun n h => (by cases h), ⟨cs'⟩, 0, 0, by show (w.heap.push _)[w.heap.size]? = _; simp, ?_, ?_, ?_⟩
  · intro k v e
    obtain ⟨v', h1, h2⟩ := hv.get e
    exact ⟨v', by simpa using h1, h2.mono (Ctx.le_add _ (h.fresh _ (Nat.le_refl _)))⟩
  · simp [hv.length]
  · intro _ off _ _; omega
end Go.Aw
