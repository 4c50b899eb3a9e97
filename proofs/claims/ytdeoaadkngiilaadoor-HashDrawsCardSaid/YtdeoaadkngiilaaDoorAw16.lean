/-
  Names of heaps that are put together of parts; forgetting parts of them.
-/
import Derived.Test.YtdeoaadkngiilaaDoorAw15
set_option linter.unusedVariables false
set_option linter.unusedSimpArgs false
namespace Go.Aw

theorem packV1 (v : Value) : packV [v] = v := rfl
theorem packV0 : packV [] = .tuple ⟨[]⟩ := rfl
theorem packV2 (v w : Value) (r : List Value) : packV (v :: w :: r) = .tuple ⟨v :: w :: r⟩ := rfl
theorem bs_toList' (l : List UInt8) : (bs l).data.toList = l := rfl

/-- In a region that draws: what a call gives is known. -/
theorem ARet.exq {P : Program} {f : FuncId} {args : List Value} {H H' : AHeap} {v : Value} {K : Value → ARes → AHeap → Prop} {R : Value → Prop} (h : ARet P f args H v H') (hk : K v (.ret v) H') (hr : R v) : ∃ u, AC P f args H (K u) ∧ R u := ⟨v, h.use hk, hr⟩

/-! ### Names -/
theorem hget0 {A l : AHeap} {n : Nat} (h : A.length = n) : (A ++ l)[n]? = l[0]? := by
  subst h; rw [List.getElem?_append_right (Nat.le_refl _)]; simp
theorem hgetk {A l : AHeap} {n k : Nat} (h : A.length = n) : (A ++ l)[n + k]? = l[k]? := by
  subst h; rw [List.getElem?_append_right (by omega)]; simp
theorem hgetl {A l : AHeap} {i : Nat} (h : i < A.length) : (A ++ l)[i]? = A[i]? := List.getElem?_append_left h
theorem hset0 {A l : AHeap} {n : Nat} {o : AObj} (h : A.length = n) : (A ++ l).set n o = A ++ l.set 0 o := by
  subst h; rw [List.set_append_right _ _ (Nat.le_refl _)]; simp
theorem hsetk {A l : AHeap} {n k : Nat} {o : AObj} (h : A.length = n) : (A ++ l).set (n + k) o = A ++ l.set k o := by
  subst h; rw [List.set_append_right _ _ (by omega)]; simp
theorem hsetl {A l : AHeap} {i : Nat} {o : AObj} (h : i < A.length) : (A ++ l).set i o = A.set i o ++ l := List.set_append_left _ _ h
theorem lt_of_get {α : Type} {A : List α} {i : Nat} {o : α} (h : A[i]? = some o) : i < A.length := (List.getElem?_eq_some_iff.1 h).1

/-! ### Forgetting -/
def selN (n : Nat) (sel : List Nat) : Names := fun i => if i < n then some i else (sel[i - n]?).map (n + ·)

theorem upto_selN {n : Nat} {sel : List Nat} : ∀ i j, upto n i = some j → selN n sel i = some j := by
  intro i j h
  unfold upto at h
  unfold selN
  split at h
  · rename_i hlt; rw [if_pos hlt]; exact h
  · cases h

theorem OName.mono {m m' : Names} (h : ∀ i j, m i = some j → m' i = some j) {o o' : AObj} (r : OName m o o') : OName m' o o' := by
  cases r with
  | dead => exact .dead _
  | cells k a => exact .cells k (NRels.mono h a)
  | loop h1 h2 h3 h4 h5 h6 h7 => exact .loop h1 h2 h3 h4 h5 h6 fun t v e => let ⟨v1, k1, k2⟩ := h7 t v e; ⟨v1, k1, k2.mono h⟩
  | amap ck own a b hst => exact .amap ck own (NRels.mono h a) (NRels.mono h b) hst

/-- The parts that are kept, in the order of sel. -/
theorem HName.sel {A l objs : AHeap} {sel : List Nat} (hs : Scoped A) (hlen : objs.length = sel.length) (hnd : sel.Nodup)
    (ho : ∀ (k s : Nat), sel[k]? = some s → ∃ o1 o2, l[s]? = some o1 ∧ objs[k]? = some o2 ∧ OName (selN A.length sel) o2 o1) : HName A.length (selN A.length sel) (A ++ l) (A ++ objs) := by
  refine ⟨fun i hi => by unfold selN; rw [if_pos hi], fun i hi => ?_, fun i j k hi hj => ?_, fun i o2 hi _ => ?_⟩
  · unfold selN
    simp at hi
    rw [if_neg (by omega), List.getElem?_eq_none (by omega)]; rfl
  · unfold selN at hi hj
    by_cases h1 : i < A.length
    · rw [if_pos h1] at hi; cases hi
      by_cases h2 : j < A.length
      · rw [if_pos h2] at hj; cases hj; rfl
      · rw [if_neg h2] at hj
        cases hs : sel[j - A.length]? with
        | none => simp [hs] at hj
        | some s => simp [hs] at hj; omega
    · rw [if_neg h1] at hi
      cases hs : sel[i - A.length]? with
      | none => simp [hs] at hi
      | some s =>
        simp [hs] at hi
        by_cases h2 : j < A.length
        · rw [if_pos h2] at hj; cases hj; omega
        · rw [if_neg h2] at hj
          cases hs2 : sel[j - A.length]? with
          | none => simp [hs2] at hj
          | some s2 =>
            simp [hs2] at hj
            have : s = s2 := by omega
            subst this
            have hlt : i - A.length < sel.length := (List.getElem?_eq_some_iff.1 hs).1
            have := (List.getElem?_inj hlt hnd).1 (hs.trans hs2.symm)
            omega
  · by_cases h1 : i < A.length
    · rw [List.getElem?_append_left h1] at hi
      refine ⟨i, o2, by unfold selN; rw [if_pos h1], by rw [List.getElem?_append_left h1]; exact hi, (hs i o2 hi).mono upto_selN⟩
    · rw [List.getElem?_append_right (by omega)] at hi
      have hlt : i - A.length < sel.length := by rw [← hlen]; exact (List.getElem?_eq_some_iff.1 hi).1
      obtain ⟨o1, o2', h2, h3, h4⟩ := ho (i - A.length) _ (List.getElem?_eq_getElem hlt)
      rw [hi] at h3; cases h3
      refine ⟨A.length + sel[i - A.length], o1, ?_, ?_, h4⟩
      · unfold selN; rw [if_neg h1, List.getElem?_eq_getElem hlt]; rfl
      · rw [hgetk rfl]; exact h2

theorem HName.drop {A l : AHeap} (hs : Scoped A) : HName A.length (upto A.length) (A ++ l) A := by
  refine ⟨fun i hi => by unfold upto; rw [if_pos hi], fun i hi => by unfold upto; rw [if_neg (by omega)], fun i j k hi hj => ?_, fun i o2 hi _ => ?_⟩
  · unfold upto at hi hj
    split at hi <;> split at hj <;> simp_all
  · have h1 := lt_of_get hi
    exact ⟨i, o2, by unfold upto; rw [if_pos h1], by rw [List.getElem?_append_left h1]; exact hi, hs i o2 hi⟩

/-- All parts behind A are forgotten. -/
theorem WeakV.drop {A l : AHeap} {v : Value} {n : Nat} (hn : A.length = n) (hs : Scoped A) (hv : NRel (upto A.length) v v) : WeakV n (A ++ l) v A v := by
  subst hn; exact .names (HName.drop hs) hv
theorem WeakV.sel {A l : AHeap} {v v2 : Value} {n : Nat} (sel : List Nat) (objs : AHeap) (hn : A.length = n) (hs : Scoped A) (hlen : objs.length = sel.length) (hnd : sel.Nodup)
    (ho : ∀ (k s : Nat), sel[k]? = some s → ∃ o1 o2, l[s]? = some o1 ∧ objs[k]? = some o2 ∧ OName (selN A.length sel) o2 o1) (hv : NRel (selN A.length sel) v2 v) : WeakV n (A ++ l) v (A ++ objs) v2 := by
  subst hn; exact .names (HName.sel hs hlen hnd ho) hv
/-- But for one part all behind A is forgotten. -/
theorem WeakV.keep1 {A l : AHeap} {v v2 : Value} {n : Nat} (k : Nat) (o : AObj) (hn : A.length = n) (hs : Scoped A) (hl : l[k]? = some o) (ho : OName (selN A.length [k]) o o) (hv : NRel (selN A.length [k]) v2 v) : WeakV n (A ++ l) v (A ++ [o]) v2 := by
  refine WeakV.sel [k] [o] hn hs rfl (by simp) (fun j s hj => ?_) hv
  cases j with
  | zero => simp at hj; subst hj; exact ⟨o, o, hl, rfl, ho⟩
  | succ j => simp at hj

theorem Weak.drop {A l : AHeap} {e1 e2 : List (Nat × Value)} {d1 d2 : List ADef} {n : Nat} (hn : A.length = n) (hs : Scoped A) (he : envIn e1 (NRel (upto A.length)) e2) (hd : DName (upto A.length) d2 d1) : Weak n ⟨e1, d1, A ++ l⟩ ⟨e2, d2, A⟩ := by
  subst hn; exact .names (HName.drop hs) he hd
theorem Weak.sel {A l : AHeap} {e1 e2 : List (Nat × Value)} {d1 d2 : List ADef} {n : Nat} (sel : List Nat) (objs : AHeap) (hn : A.length = n) (hs : Scoped A) (hlen : objs.length = sel.length) (hnd : sel.Nodup)
    (ho : ∀ (k s : Nat), sel[k]? = some s → ∃ o1 o2, l[s]? = some o1 ∧ objs[k]? = some o2 ∧ OName (selN A.length sel) o2 o1) (he : envIn e1 (NRel (selN A.length sel)) e2) (hd : DName (selN A.length sel) d2 d1) : Weak n ⟨e1, d1, A ++ l⟩ ⟨e2, d2, A ++ objs⟩ := by
  subst hn; exact .names (HName.sel hs hlen hnd ho) he hd

/-- An object that names nothing. -/
def bare : AObj → Prop
  | .dead => True
  | .cells cs _ => cs.all scalar = true
  | .loop _ => False
  | .amap es _ _ => (es.map (·.1)).all scalar = true ∧ (es.map (·.2.1)).all scalar = true
theorem OName.of_bare {m : Names} {o : AObj} (h : bare o) : OName m o o := by
  cases o with
  | dead => exact .dead _
  | cells cs k => exact .cells k (NRels.of_scalars h)
  | loop L => exact h.elim
  | amap es ck own => exact .amap ck own (NRels.of_scalars h.1) (NRels.of_scalars h.2) rfl

theorem Scoped.nil : Scoped [] := fun i o h => by simp at h
theorem Scoped.append {A l : AHeap} (h : Scoped A) (hl : ∀ (i : Nat) (o : AObj), l[i]? = some o → OName (upto (A.length + l.length)) o o) : Scoped (A ++ l) := by
  intro i o e
  rw [List.length_append]
  by_cases h1 : i < A.length
  · rw [List.getElem?_append_left h1] at e
    refine (h i o e).mono fun i j hij => ?_
    unfold upto at hij ⊢
    split at hij
    · rw [if_pos (by omega)]; exact hij
    · cases hij
  · rw [List.getElem?_append_right (by omega)] at e
    exact hl _ _ e
theorem Scoped.bares {A l : AHeap} (h : Scoped A) (hl : ∀ o ∈ l, bare o) : Scoped (A ++ l) := Scoped.append h fun i o e => .of_bare (hl o (List.mem_iff_getElem?.2 ⟨i, e⟩))
theorem Scoped.set {A : AHeap} (h : Scoped A) {i : Nat} {o : AObj} (ho : OName (upto A.length) o o) : Scoped (A.set i o) := by
  intro j o' e
  rw [List.length_set]
  rw [List.getElem?_set] at e
  split at e
  · split at e
    · cases e; exact ho
    · cases e
  · exact h j o' e
theorem NRel.nat_upto {n i off : Nat} (h : i < n) : NRel (upto n) (.pointer (some ⟨i, off, none⟩)) (.pointer (some ⟨i, off, none⟩)) := .ptr (by unfold upto; rw [if_pos h])

end Go.Aw
