/-
  Keeping parts of a heap by a condition that simp closes; slices that grow; slices that are read; calls over what the caller lent.
-/
import Derived.Test.YtdeoaadkngiilaaDoorAw22
set_option linter.unusedVariables false
set_option linter.unusedSimpArgs false
namespace Go.Aw
open Go.RowKit Go.ChangeShapes

/-! ### Which parts are kept -/
/-- o2 (new) is o1 (old) under new names. -/
def onm (m : Names) : AObj → AObj → Prop
  | .dead, _ => True
  | .cells cs k, .cells cs' k' => k = k' ∧ NRels m cs cs'
  | .amap es ck own, .amap es' ck' own' => (own = own' ∧ ck = ck' ∧ es'.map (·.2.2) = es.map (·.2.2)) ∧ NRels m (es.map (·.1)) (es'.map (·.1)) ∧ NRels m (es.map (·.2.1)) (es'.map (·.2.1))
  | .loop L, .loop L' => (L'.state = L.state ∧ L'.pending = L.pending ∧ L'.n = L.n ∧ L'.params = L.params ∧ L'.assign = L.assign ∧ L'.body = L.body) ∧ envIn L'.env (NRel m) L.env
  | _, _ => False

def selW (m : Names) (l : AHeap) : List Nat → AHeap → Prop
  | s :: sel, o :: objs => wth l[s]? (onm m o) ∧ selW m l sel objs
  | [], [] => True
  | _, _ => False

theorem selW_nil {m : Names} {l : AHeap} : selW m l [] [] ↔ True := Iff.rfl
theorem selW_cons {m : Names} {l : AHeap} {s : Nat} {sel : List Nat} {o : AObj} {objs : AHeap} : selW m l (s :: sel) (o :: objs) ↔ wth l[s]? (onm m o) ∧ selW m l sel objs := Iff.rfl
theorem onm_dead {m : Names} {o : AObj} : onm m .dead o ↔ True := Iff.rfl
theorem onm_cells {m : Names} {cs cs' : List Value} {k k' : CK} : onm m (.cells cs k) (.cells cs' k') ↔ k = k' ∧ NRels m cs cs' := Iff.rfl
theorem onm_amap {m : Names} {es es' : List (Value × Value × Nat)} {ck ck' : Nat} {w w' : Bool} : onm m (.amap es ck w) (.amap es' ck' w') ↔ (w = w' ∧ ck = ck' ∧ es'.map (·.2.2) = es.map (·.2.2)) ∧ NRels m (es.map (·.1)) (es'.map (·.1)) ∧ NRels m (es.map (·.2.1)) (es'.map (·.2.1)) := Iff.rfl
theorem onm_loop {m : Names} {L L' : ALoop} : onm m (.loop L) (.loop L') ↔ (L'.state = L.state ∧ L'.pending = L.pending ∧ L'.n = L.n ∧ L'.params = L.params ∧ L'.assign = L.assign ∧ L'.body = L.body) ∧ envIn L'.env (NRel m) L.env := Iff.rfl

theorem OName.of_onm {m : Names} : ∀ {o o' : AObj}, onm m o o' → OName m o o'
  | .dead, o', _ => .dead o'
  | .cells cs k, .cells cs' k', ⟨h1, h2⟩ => by subst h1; exact .cells k h2
  | .amap es ck w, .amap es' ck' w', ⟨⟨h1, h1', h1''⟩, h2, h3⟩ => by subst h1; subst h1'; exact .amap ck w h2 h3 h1''
  | .loop L, .loop L', ⟨⟨h1, h2, h3, h4, h5, h6⟩, h7⟩ => .loop h1 h2 h3 h4 h5 h6 fun t v e => h7.lk e
theorem selW.len {m : Names} {l : AHeap} : ∀ {sel : List Nat} {objs : AHeap}, selW m l sel objs → objs.length = sel.length
  | [], [], _ => rfl
  | s :: sel, o :: objs, h => by simp [selW.len h.2]
theorem selW.get {m : Names} {l : AHeap} : ∀ {sel : List Nat} {objs : AHeap}, selW m l sel objs → ∀ (k s : Nat), sel[k]? = some s → ∃ o1 o2, l[s]? = some o1 ∧ objs[k]? = some o2 ∧ OName m o2 o1
  | [], [], _, k, s, e => by simp at e
  | s :: sel, o :: objs, h, 0, s', e => by
    simp at e; subst e
    obtain ⟨o1, h1, h2⟩ := wth_elim h.1
    exact ⟨o1, o, h1, rfl, .of_onm h2⟩
  | s :: sel, o :: objs, h, k + 1, s', e => by
    simp at e
    obtain ⟨o1, o2, h1, h2, h3⟩ := selW.get h.2 k s' e
    exact ⟨o1, o2, h1, by simpa using h2, h3⟩

/-- Of what lies behind A these parts are kept, in this order. -/
theorem Weak.pick {A l objs : AHeap} {e1 e2 : List (Nat × Value)} {n : Nat} (sel : List Nat) (hn : A.length = n) (hs : Scoped A) (hnd : sel.Nodup)
    (ho : selW (selN A.length sel) l sel objs ∧ envIn e1 (NRel (selN A.length sel)) e2) : Weak n ⟨e1, [], A ++ l⟩ ⟨e2, [], A ++ objs⟩ :=
  Weak.sel sel objs hn hs ho.1.len hnd ho.1.get ho.2 .nil
theorem WeakV.pick {A l objs : AHeap} {v v2 : Value} {n : Nat} (sel : List Nat) (hn : A.length = n) (hs : Scoped A) (hnd : sel.Nodup)
    (ho : selW (selN A.length sel) l sel objs ∧ NRel (selN A.length sel) v2 v) : WeakV n (A ++ l) v (A ++ objs) v2 :=
  WeakV.sel sel objs hn hs ho.1.len hnd ho.1.get ho.2

theorem nrs_refl {m : Names} {l : List Value} (h : l.all scalar = true) : NRels m l l ↔ True := ⟨fun _ => trivial, fun _ => .of_scalars h⟩
theorem nr_refl {m : Names} {v : Value} (h : scalar v = true) : NRel m v v ↔ True := ⟨fun _ => trivial, fun _ => .of_scalar h⟩

/-! ### A slice that grows: nil while it is empty -/
def gS (i n : Nat) : Value := if n = 0 then .slice none 0 0 else .slice (some ⟨i, 0, none⟩) n n
def gO (l : List Value) (k : CK) : AObj := if l = [] then .dead else .cells l k
theorem gS_zero {i : Nat} : gS i 0 = .slice none 0 0 := rfl
theorem gS_succ {i n : Nat} : gS i (n + 1) = .slice (some ⟨i, 0, none⟩) (n + 1) (n + 1) := by simp [gS]
theorem gS_pos {i n : Nat} (h : 0 < n) : gS i n = .slice (some ⟨i, 0, none⟩) n n := by unfold gS; rw [if_neg (by omega)]
theorem gO_nil {k : CK} : gO [] k = .dead := rfl
theorem gO_snoc {l : List Value} {v : Value} {k : CK} : gO (l ++ [v]) k = .cells (l ++ [v]) k := by simp [gO]
theorem gO_cons {l : List Value} {v : Value} {k : CK} : gO (v :: l) k = .cells (v :: l) k := by simp [gO]
theorem gO_ne {l : List Value} {k : CK} (h : l ≠ []) : gO l k = .cells l k := by simp [gO, h]
theorem gO_pos {l : List Value} {k : CK} (h : 0 < l.length) : gO l k = .cells l k := gO_ne (by intro e; subst e; simp at h)
theorem appendTo_g {P : Program} {e : TypeId} {y i : Nat} {l : List Value} {v : Value} {H : AHeap} {K : Value → AHeap → Prop} (hi : H[i]? = some (gO l ⟨e, 1, true, 0, none⟩)) (h1 : (l.length + 1) * y ≤ 140737488355328) (h2 : l.length + 1 ≤ 4611686018427387904)
    (hk : K (.slice (some ⟨H.length, 0, none⟩) (l.length + 1) (l.length + 1)) (H.set i .dead ++ [.cells (l ++ [v]) ⟨e, 1, true, 0, none⟩])) : appendTo P e 1 y (gS i l.length) 1 [v] H K := by
  rcases List.eq_nil_or_concat l with rfl | ⟨r, x, rfl⟩
  · rw [gO_nil] at hi
    rw [set_same hi] at hk
    exact appendTo_nil (by decide) (by simpa using h1) (by decide) (by simpa using hk)
  · have hne : r.concat x ≠ [] := by simp
    rw [gO_ne hne] at hi
    rw [gS_pos (by simp)]
    exact appendTo_own hi (by decide) (by simp) (by decide) h1 h2 hk
theorem lenW_g {P : Program} {t e : TypeId} {i n : Nat} {H : AHeap} {K : Value → AHeap → Prop} (hu : P.underlying t = some (.slice e)) : lenW P t (gS i n) H K = K (.int .i64 n) H := by
  unfold gS; split
  · rename_i h; subst h; simp [lenW, hu]
  · simp [lenW, hu]
theorem nr_g {m : Names} {i j n n' : Nat} : NRel m (gS i n) (gS j n') ↔ n = n' ∧ (n = 0 ∨ m i = some j) := by
  unfold gS
  split <;> split
  · constructor
    · intro _; omega
    · intro _; exact .nilSlice _ _
  · constructor
    · intro h; cases h
    · intro h; omega
  · constructor
    · intro h; cases h
    · intro h; omega
  · constructor
    · intro h; cases h with | slice hm => exact ⟨rfl, .inr hm⟩
    · rintro ⟨rfl, h | h⟩
      · contradiction
      · exact .slice h
theorem nr_gs {m : Names} {i j n k c : Nat} : NRel m (gS i n) (.slice (some ⟨j, 0, none⟩) k c) ↔ n ≠ 0 ∧ n = k ∧ n = c ∧ m i = some j := by
  unfold gS
  split
  · constructor
    · intro h; cases h
    · intro h; omega
  · constructor
    · rename_i h1; intro h; cases h with | slice h => exact ⟨h1, rfl, rfl, h⟩
    · rintro ⟨_, rfl, rfl, h⟩; exact .slice h
theorem onm_g {m : Names} {l l' : List Value} {k k' : CK} (h : l = l') (hs : l.all scalar = true) (hk : k = k') : onm m (gO l k) (gO l' k') ↔ True := by
  subst h; subst hk
  refine ⟨fun _ => trivial, fun _ => ?_⟩
  unfold gO; split
  · trivial
  · exact ⟨rfl, .of_scalars hs⟩

/-! ### A slice that is read -/
/-- In H the slice v, of elements of one cell, reads l. -/
def Rd (H : AHeap) (v : Value) (l : List Value) : Prop :=
  (v = .slice none 0 0 ∧ l = []) ∨ ∃ i off cap cs k, v = .slice (some ⟨i, off, none⟩) l.length cap ∧ H[i]? = some (.cells cs k) ∧ ∀ j, j < l.length → cs[off + j]? = l[j]?
theorem Rd.nil {H : AHeap} : Rd H (.slice none 0 0) [] := .inl ⟨rfl, rfl⟩
theorem Rd.cells {H : AHeap} {i cap : Nat} {cs : List Value} {k : CK} {n : Nat} (h : H[i]? = some (.cells cs k)) (hn : n = cs.length) : Rd H (.slice (some ⟨i, 0, none⟩) n cap) cs := by
  subst hn; exact .inr ⟨i, 0, cap, cs, k, rfl, h, fun j hj => by rw [Nat.zero_add]⟩
theorem Rd.g {H : AHeap} {i : Nat} {l : List Value} {k : CK} {n : Nat} (h : H[i]? = some (gO l k)) (hn : n = l.length) : Rd H (gS i n) l := by
  subst hn
  rcases l with _ | ⟨a, l⟩
  · exact .nil
  · rw [gO_cons] at h
    exact .cells h rfl
theorem Rd.more {H : AHeap} {v : Value} {l : List Value} (h : Rd H v l) (X : AHeap) : Rd (H ++ X) v l := by
  rcases h with h | ⟨i, off, cap, cs, k, h1, h2, h3⟩
  · exact .inl h
  · exact .inr ⟨i, off, cap, cs, k, h1, by rw [hgetl (lt_of_get h2)]; exact h2, h3⟩
theorem Rd.lenW {P : Program} {t e : TypeId} {H H' : AHeap} {v : Value} {l : List Value} {K : Value → AHeap → Prop} (h : Rd H v l) (hu : P.underlying t = some (.slice e)) : Go.Aw.lenW P t v H' K = K (.int .i64 l.length) H' := by
  rcases h with ⟨rfl, rfl⟩ | ⟨i, off, cap, cs, k, rfl, h2, h3⟩
  · simp [Go.Aw.lenW, hu]
  · simp [Go.Aw.lenW, hu]

/-! ### What the caller lent -/
theorem HRel.lend {c : Ctx} {H : AHeap} {w : World} (h : HRel c H w) {b off : Nat} {arr : Array Value} {e : TypeId} {fr : Nat × Nat} (hb : w.heap[b]? = some (.cells arr e fr)) {vs : List Value} (hl : off + vs.length ≤ arr.size) (hv : CellsRel c vs arr off)
    (hown : ∀ (i : Nat) (o : AObj), H[i]? = some o → o.own = false) : HRel (c.add H.length ⟨b, off, vs.length, 0, 0⟩) (H ++ [.cells vs ⟨e, 0, false, 0, none⟩]) w := by
  have hle : c.le (c.add H.length ⟨b, off, vs.length, 0, 0⟩) := Ctx.le_add _ (h.fresh _ (Nat.le_refl _))
  refine ⟨fun i o hi hlv => ?_, fun i j oi oj pi pj hij hi hj _ _ ho _ => ?_, fun i hi => ?_⟩
  · by_cases h1 : i < H.length
    · rw [hgetl h1] at hi
      obtain ⟨p, hp, hr⟩ := h.obj i o hi hlv
      exact ⟨p, hle _ _ hp, hr.keep hle hlv rfl⟩
    · have hlt := lt_of_get hi
      simp at hlt
      have : i = H.length := by omega
      subst this
      rw [hget0 rfl] at hi
      simp at hi; subst hi
      exact ⟨⟨b, off, vs.length, 0, 0⟩, by simp [Ctx.add], rfl, rfl, fun _ => rfl, fun n hn => by simp at hn, arr, fr.1, fr.2, hb, hv.mono hle, by simpa using hl, fun hk => by simp at hk⟩
  · by_cases h1 : i < H.length
    · rw [hgetl h1] at hi
      rw [hown i oi hi] at ho; cases ho
    · have hlt := lt_of_get hi
      simp at hlt
      have : i = H.length := by omega
      subst this
      rw [hget0 rfl] at hi
      simp at hi; subst hi; cases ho
  · simp at hi
    rw [Ctx.add_other _ _ (by omega)]; exact h.fresh i (by omega)

/-- A call that writes to nothing of the caller's. -/
theorem AC.callsH {P : Program} {f : FuncId} {fn : Func} {args vargs : List Value} {v : Value} {c : Ctx} {H : AHeap} {w : World} (hf : P.funcs[f]? = some fn) (hb : fn.body.isSome = true) (hn : (fn.name == "runtime.NumGoroutine") = false)
    (hh : HRel c H w) (hown : ∀ (i : Nat) (o : AObj), H[i]? = some o → o.own = false) (ha : VRels c args vargs) (hv : scalar v = true)
    (h : AC P f args H (fun r _ => r = .ret v)) : Calls P f ⟨vargs⟩ w fun e w' => e = .returned v ∧ Below w.heap.size w w' := by
  have hc := h c w vargs hh ha
  unfold CallTo at hc
  have hbn : fn.body.isNone = false := by cases hfb : fn.body <;> simp_all
  have hr : (callFunc f ⟨vargs⟩).run P w = .ok (.enter f ⟨vargs⟩) w := by
    simp only [callFunc, Sem.run_bind, run_program, Result.andThen_ok, hf, hn, Bool.false_eq_true, if_false, hbn]
    rfl
  rw [hr] at hc
  refine hc.mono fun e w' ⟨r, c', H', he, hrel, hh, ht⟩ => ?_
  subst he
  cases hrel with
  | ret hv' =>
    rw [hv'.scalar_eq hv]
    refine ⟨rfl, ht.os, ht.tape, ht.output, ht.size, fun k hk => ht.frame k hk ?_⟩
    rintro ⟨i, o, p, e, _, e2, _⟩
    rw [hown i o e] at e2; cases e2
end Go.Aw
