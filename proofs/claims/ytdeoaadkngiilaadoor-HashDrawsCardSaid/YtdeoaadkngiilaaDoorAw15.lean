/-
  A region that draws its order: what reads comes first, in whatever order; what writes comes behind it, in the order of the text.
-/
import Derived.Test.YtdeoaadkngiilaaDoorAw14
set_option linter.unusedVariables false
set_option linter.unusedSimpArgs false
namespace Go.Aw

@[congr] theorem AWP.cong {g : Cfg} {code : Code} {Q : AExit → ASt → Prop} {s1 s2 : ASt} (h : s1 = s2) : AWP g code Q s1 = AWP g code Q s2 := by rw [h]

def tmpOf : Operand → Option Nat
  | .tmp t => some t
  | _ => none
/-- Which temporaries an operation looks at. -/
def reads (ops : List Oper) (o : Oper) : List Nat :=
  (match o.guard with | none => [] | some (j, _) => (gd ops j).toList) ++ o.op.operands.toList.filterMap tmpOf

def restrict (e : List (Nat × Value)) : List Nat → List (Nat × Value)
  | [] => []
  | t :: r => match lk t e with
    | some v => (t, v) :: restrict e r
    | none => restrict e r

theorem lk_restrict {e : List (Nat × Value)} {t : Nat} {v : Value} : ∀ {ts : List Nat}, lk t (restrict e ts) = some v → t ∈ ts ∧ lk t e = some v
  | [], h => by cases h
  | s :: r, h => by
    simp only [restrict] at h
    split at h
    · rename_i u hu
      rw [lk_cons] at h
      split at h
      · rename_i hst
        cases h
        subst hst
        exact ⟨List.mem_cons_self, hu⟩
      · have := lk_restrict h
        exact ⟨List.mem_cons_of_mem _ this.1, this.2⟩
    · have := lk_restrict h
      exact ⟨List.mem_cons_of_mem _ this.1, this.2⟩

theorem restrict_congr {e1 e2 : List (Nat × Value)} : ∀ {ts : List Nat}, (∀ t ∈ ts, lk t e1 = lk t e2) → restrict e1 ts = restrict e2 ts
  | [], _ => rfl
  | t :: r, h => by
    simp only [restrict, h t (List.mem_cons_self), restrict_congr (ts := r) (fun u hu => h u (List.mem_cons_of_mem _ hu))]

def ASt.only (ops : List Oper) (o : Oper) (st : ASt) : ASt := ⟨restrict st.env (reads ops o), st.defs, st.H⟩

/-- The operation gives v and leaves memory alone. -/
def stepW (g : Cfg) (ops : List Oper) (o : Oper) (st : ASt) (v : Value) : Prop :=
  wantW ops o (st.only ops o) (opW g o (st.only ops o) (fun s => s.H = st.H ∧ s.defs = st.defs ∧ ∀ d, o.dst = some d → lk d s.env = some v) (fun _ _ => False)) (v = noVal)

def quietW (g : Cfg) (ops : List Oper) : List Oper → ASt → (ASt → Prop) → Prop
  | [], st, K => K st
  | o :: r, st, K => ∃ v, stepW g ops o st v ∧ quietW g ops r (st.put o.dst v) K

def puts : List Oper → List Value → ASt → ASt
  | o :: r, v :: vs, st => puts r vs (st.put o.dst v)
  | _, _, st => st

theorem put_H (st : ASt) (d : Option Tmp) (v : Value) : (st.put d v).H = st.H := by cases d <;> rfl
theorem put_defs (st : ASt) (d : Option Tmp) (v : Value) : (st.put d v).defs = st.defs := by cases d <;> rfl
theorem put_lk (st : ASt) (d : Option Tmp) (v : Value) (t : Nat) : lk t (st.put d v).env = if d = some t then some v else lk t st.env := by
  cases d with
  | none => simp [ASt.put]
  | some d => simp [ASt.put, lk_cons]

theorem puts_H : ∀ (l : List Oper) (vs : List Value) (st : ASt), (puts l vs st).H = st.H
  | [], _, _ => rfl
  | _ :: _, [], _ => rfl
  | o :: r, v :: vs, st => by simp only [puts, puts_H r vs, put_H]
theorem puts_defs : ∀ (l : List Oper) (vs : List Value) (st : ASt), (puts l vs st).defs = st.defs
  | [], _, _ => rfl
  | _ :: _, [], _ => rfl
  | o :: r, v :: vs, st => by simp only [puts, puts_defs r vs, put_defs]

theorem puts_lk_none : ∀ (l : List Oper) (vs : List Value) (st : ASt) (t : Nat), (∀ o ∈ l, o.dst ≠ some t) → lk t (puts l vs st).env = lk t st.env
  | [], _, _, _, _ => rfl
  | _ :: _, [], _, _, _ => rfl
  | o :: r, v :: vs, st, t, h => by
    simp only [puts]
    rw [puts_lk_none r vs _ t (fun o' ho => h o' (List.mem_cons_of_mem _ ho)), put_lk, if_neg (h o List.mem_cons_self)]

theorem puts_lk_some : ∀ (l : List Oper) (vs : List Value) (st : ASt) (t i : Nat) (o : Oper) (v : Value), l[i]? = some o → vs[i]? = some v → o.dst = some t → (∀ (j : Nat) o', l[j]? = some o' → o'.dst = some t → j = i) → lk t (puts l vs st).env = some v
  | [], _, _, _, _, _, _, h, _, _, _ => by simp at h
  | _ :: _, [], _, _, _, _, _, _, h, _, _ => by simp at h
  | o :: r, u :: vs, st, t, 0, o1, v, h1, h2, h3, h4 => by
    simp at h1 h2; subst h1; subst h2
    simp only [puts]
    rw [puts_lk_none r vs _ t, put_lk, if_pos h3]
    intro o' ho' he
    obtain ⟨j, hj⟩ := List.mem_iff_getElem?.1 ho'
    have := h4 (j + 1) o' (by simpa using hj) he
    omega
  | o :: r, u :: vs, st, t, i + 1, o1, v, h1, h2, h3, h4 => by
    simp only [puts]
    refine puts_lk_some r vs _ t i o1 v (by simpa using h1) (by simpa using h2) h3 (fun j o' hj he => ?_)
    have := h4 (j + 1) o' (by simpa using hj) he
    omega

theorem quietW_elim {g : Cfg} {ops : List Oper} {K : ASt → Prop} : ∀ {l : List Oper} {st : ASt}, quietW g ops l st K →
    ∃ vs : List Value, vs.length = l.length ∧ K (puts l vs st) ∧ ∀ (i : Nat) o v, l[i]? = some o → vs[i]? = some v → stepW g ops o (puts (l.take i) (vs.take i) st) v
  | [], st, h => ⟨[], rfl, h, fun i o v e => by simp at e⟩
  | o :: r, st, h => by
    obtain ⟨v, hs, h⟩ := h
    obtain ⟨vs, h1, h2, h3⟩ := quietW_elim h
    refine ⟨v :: vs, by simp [h1], h2, fun i o' v' e1 e2 => ?_⟩
    cases i with
    | zero => simp at e1 e2; subst e1; subst e2; exact hs
    | succ i => simpa [puts] using h3 i o' v' (by simpa using e1) (by simpa using e2)

/-! ### The check of a region -/
def addTo (xs ys : List Nat) : List Nat := xs.foldl (fun acc x => if acc.contains x = true then acc else x :: acc) ys
theorem mem_addTo {x : Nat} : ∀ {xs ys : List Nat}, x ∈ addTo xs ys → x ∈ xs ∨ x ∈ ys
  | [], ys, h => .inr h
  | a :: xs, ys, h => by
    simp only [addTo, List.foldl_cons] at h
    rcases mem_addTo (xs := xs) h with h' | h'
    · exact .inl (List.mem_cons_of_mem _ h')
    · split at h'
      · exact .inr h'
      · rcases List.mem_cons.1 h' with rfl | h''
        · exact .inl List.mem_cons_self
        · exact .inr h''

def binding (o : Oper) : List Nat := (o.after.toList.filter fun e => Region.binds .any e).map (·.on)
/-- What comes before each operation, by the edges. -/
def ancs : List Oper → List (List Nat) → List (List Nat)
  | [], acc => acc
  | o :: r, acc => ancs r (acc ++ [(binding o).foldl (fun m e => addTo (e :: acc.getD e []) m) []])

theorem mem_foldl {acc : List (List Nat)} {x : Nat} : ∀ {es m : List Nat}, x ∈ es.foldl (fun m e => addTo (e :: acc.getD e []) m) m → x ∈ m ∨ ∃ e ∈ es, x = e ∨ x ∈ acc.getD e []
  | [], m, h => .inl h
  | e :: es, m, h => by
    simp only [List.foldl_cons] at h
    rcases mem_foldl h with h' | ⟨e', he', h'⟩
    · rcases mem_addTo h' with h'' | h''
      · exact .inr ⟨e, List.mem_cons_self, List.mem_cons.1 h''⟩
      · exact .inl h''
    · exact .inr ⟨e', List.mem_cons_of_mem _ he', h'⟩

/-- What comes before an operation has been taken where what it waits for has. -/
theorem ancs_ok {ops : List Oper} {listed : Nat → Prop} (hcl : ∀ (j : Nat) o, ops[j]? = some o → listed j → ∀ e ∈ binding o, listed e) :
    ∀ {l : List Oper} {acc : List (List Nat)} (pre : List Oper), ops = pre ++ l → acc.length = pre.length → (∀ (j : Nat), (∀ o, ops[j]? = some o → ∀ e ∈ binding o, listed e) → j < pre.length → ∀ x ∈ acc.getD j [], listed x) →
      ∀ (j : Nat), (∀ o, ops[j]? = some o → ∀ e ∈ binding o, listed e) → j < ops.length → ∀ x ∈ (ancs l acc).getD j [], listed x
  | [], acc, pre, h, hl, hi, j, hj, hlt, x, hx => hi j hj (by simpa [h] using hlt) x hx
  | o :: r, acc, pre, h, hl, hi, j, hj, hlt, x, hx => by
    rw [ancs] at hx
    refine ancs_ok hcl (l := r) (pre ++ [o]) (by simp [h]) (by simp [hl]) ?_ j hj hlt x hx
    intro j hj hlt x hx
    by_cases hjl : j < pre.length
    · rw [List.getD_eq_getElem?_getD, List.getElem?_append_left (by omega), ← List.getD_eq_getElem?_getD] at hx
      exact hi j hj hjl x hx
    · have hje : j = pre.length := by simp at hlt; omega
      subst hje
      rw [List.getD_eq_getElem?_getD, List.getElem?_append_right (by omega)] at hx
      simp [hl] at hx
      have ho : ops[pre.length]? = some o := by rw [h]; simp
      rcases mem_foldl hx with h' | ⟨e, he, h'⟩
      · simp at h'
      · rcases h' with rfl | h'
        · exact hj o ho x he
        · have hel : listed e := hj o ho e he
          by_cases hep : e < pre.length
          · exact hi e (fun o' ho' e' he' => hcl e o' ho' hel e' he') hep x h'
          · rw [List.getD_eq_getElem?_getD, List.getElem?_eq_none (by omega)] at h'
            simp at h'

theorem ancs_length : ∀ (l : List Oper) (acc : List (List Nat)), (ancs l acc).length = acc.length + l.length
  | [], acc => by simp [ancs]
  | o :: r, acc => by rw [ancs, ancs_length r]; simp; omega

def allLt (n : Nat) (f : Nat → Bool) : Bool := (List.range n).all f
theorem allLt_spec {n : Nat} {f : Nat → Bool} (h : allLt n f = true) : ∀ i, i < n → f i = true := fun i hi => by
  unfold allLt at h
  rw [List.all_eq_true] at h
  exact h i (List.mem_range.2 hi)

def edgesOk (l : List Oper) : Bool := allLt l.length fun j => match l[j]? with
  | some o => (binding o).all fun e => decide (e < j)
  | none => true

def anyOk (n : Nat) (ops : List Oper) (k : Nat) : Bool :=
  let an := ancs ops []
  dstsOk n ops && edgesOk ops &&
  (allLt k fun i => match ops[i]? with
    | none => true
    | some o => allLt k fun j => match ops[j]? with
      | none => true
      | some p => match p.dst with
        | none => true
        | some d => (decide (i = j) || o.dst != some d) && (!(reads ops o).contains d || (an.getD i []).contains j)) &&
  (allLt ops.length fun j => decide (j < k) || allLt j fun i => (an.getD j []).contains i)

structure AnyOk (n : Nat) (ops : List Oper) (k : Nat) : Prop where
  dsts : dstsOk n ops = true
  edges : ∀ (j : Nat) o, ops[j]? = some o → ∀ e ∈ binding o, e < j
  apart : ∀ (i j : Nat) o p d, i < k → j < k → ops[i]? = some o → ops[j]? = some p → p.dst = some d → o.dst = some d → i = j
  reads : ∀ (i j : Nat) o p d, i < k → j < k → ops[i]? = some o → ops[j]? = some p → p.dst = some d → d ∈ reads ops o → j ∈ (ancs ops []).getD i []
  tail : ∀ i j, k ≤ j → j < ops.length → i < j → i ∈ (ancs ops []).getD j []

theorem AnyOk.of {n k : Nat} {ops : List Oper} (h : anyOk n ops k = true) : AnyOk n ops k := by
  unfold anyOk at h
  simp only [Bool.and_eq_true] at h
  obtain ⟨⟨⟨h1, h2⟩, h3⟩, h4⟩ := h
  refine ⟨h1, ?_, ?_, ?_, ?_⟩
  · intro j o ho e he
    have := allLt_spec h2 j (List.getElem?_eq_some_iff.1 ho).1
    rw [ho] at this
    simpa using List.all_eq_true.1 this e he
  · intro i j o p d hi hj ho hp hd he
    have := allLt_spec h3 i hi
    rw [ho] at this
    have := allLt_spec this j hj
    rw [hp] at this
    simp only [hd, Bool.and_eq_true, Bool.or_eq_true] at this
    rcases this.1 with h' | h'
    · simpa using h'
    · simp [he] at h'
  · intro i j o p d hi hj ho hp hd he
    have := allLt_spec h3 i hi
    rw [ho] at this
    have := allLt_spec this j hj
    rw [hp] at this
    simp only [hd, Bool.and_eq_true, Bool.or_eq_true] at this
    rcases this.2 with h' | h'
    · simp [he] at h'
    · simpa using h'
  · intro i j hj hlt hi
    have := allLt_spec h4 j hlt
    simp only [Bool.or_eq_true] at this
    rcases this with h' | h'
    · have := of_decide_eq_true h'; omega
    · simpa using allLt_spec h' i hi

theorem anc_lt {n k : Nat} {ops : List Oper} (hok : AnyOk n ops k) (i j : Nat) (h : j ∈ (ancs ops []).getD i []) : j < i := by
  have hi : i < ops.length ∨ ¬ i < ops.length := Classical.em _
  -- all that comes before i is below i: take 'listed' as 'below i'
  rcases hi with hi | hi
  · exact ancs_ok (ops := ops) (listed := fun x => x < i) (fun j' o ho hj' e he => Nat.lt_trans (hok.edges j' o ho e he) hj') [] rfl rfl (fun j' _ hlt => by simp at hlt) i (fun o ho e he => hok.edges i o ho e he) hi j h
  · rw [List.getD_eq_getElem?_getD, List.getElem?_eq_none (by rw [ancs_length]; simp; omega)] at h
    simp at h

def isOn (listed : Array Bool) (j : Nat) : Prop := listed.getD j false = true

theorem not_isOn_replicate (n i : Nat) : ¬ isOn (Array.replicate n false) i := by
  unfold isOn
  by_cases h : i < n
  · simp [h]
  · simp [Array.getElem?_eq_none (xs := Array.replicate n false) (i := i) (by simp; omega)]

theorem isOn_set {listed : Array Bool} {i j : Nat} (hi : i < listed.size) : isOn (listed.setIfInBounds i true) j ↔ i = j ∨ isOn listed j := by
  unfold isOn
  by_cases h : i = j
  · subst h; simp [hi]
  · rw [getD_set_ne false h]; simp [h]

theorem getD_size {listed : Array Bool} {j : Nat} (hj : j < listed.size) : listed.getD j true = false ↔ ¬ isOn listed j := by
  unfold isOn; simp [hj]

/-- How many have not been taken. -/
def left (listed : Array Bool) (n : Nat) : Nat := ((List.range n).filter fun i => !listed.getD i false).length

theorem left_set {listed : Array Bool} {i : Nat} (hi : i < listed.size) (hn : ¬ isOn listed i) : left (listed.setIfInBounds i true) listed.size + 1 = left listed listed.size := by
  unfold left
  have hset : ∀ j, (listed.setIfInBounds i true).getD j false = if i = j then true else listed.getD j false := by
    intro j
    by_cases h : i = j
    · subst h; simp [hi]
    · rw [getD_set_ne false h, if_neg h]
  have hf : listed.getD i false = false := by simpa [isOn] using hn
  have : ∀ n, ((List.range n).filter fun j => !(listed.setIfInBounds i true).getD j false).length + (if i < n then 1 else 0) = ((List.range n).filter fun j => !listed.getD j false).length := by
    intro n
    induction n with
    | zero => simp
    | succ n ih =>
      rw [List.range_succ, List.filter_append, List.filter_append, List.length_append, List.length_append, ← ih]
      simp only [List.filter_cons, List.filter_nil, hset]
      by_cases h : i = n
      · subst h
        simp [hf]
      · simp only [if_neg h]
        by_cases h2 : i < n
        · have h3 : i < n + 1 := by omega
          simp only [if_pos h2, if_pos h3]; omega
        · have h3 : ¬ i < n + 1 := by omega
          simp only [if_neg h2, if_neg h3]; omega
  have := this listed.size
  simpa [hi] using this

theorem left_eq {listed : Array Bool} {m n : Nat} (hmn : m ≤ n) (h : ∀ i, i < n → (isOn listed i ↔ i < m)) : left listed n = n - m := by
  unfold left
  induction n with
  | zero => simp
  | succ n ih =>
    rw [List.range_succ, List.filter_append, List.length_append]
    by_cases hm : m = n + 1
    · subst hm
      have : ∀ j, j < n + 1 → listed.getD j false = true := fun j hj => (h j hj).2 hj
      have e1 : (List.range n).filter (fun i => !listed.getD i false) = [] := by
        rw [List.filter_eq_nil_iff]
        intro j hj
        have := this j (by have := List.mem_range.1 hj; omega)
        simpa using this
      have e2 := this n (by omega)
      rw [e1]
      simp only [List.filter_cons, List.filter_nil, e2]
      simp
    · rw [ih (by omega) (fun i hi => h i (by omega))]
      have : listed.getD n false = false := by
        have : ¬ isOn listed n := fun h' => by have := (h n (by omega)).1 h'; omega
        simpa [isOn] using this
      simp only [List.filter_cons, List.filter_nil, this]
      simp; omega

theorem binding_mem {o : Oper} {e : Edge} (h : e ∈ o.after) (hb : Region.binds .any e = true) : e.on ∈ binding o :=
  List.mem_map.2 ⟨e, List.mem_filter.2 ⟨by simpa using h, hb⟩, rfl⟩
theorem mem_binding {o : Oper} {x : Nat} (h : x ∈ binding o) : ∃ e ∈ o.after, Region.binds .any e = true ∧ e.on = x := by
  obtain ⟨e, he, rfl⟩ := List.mem_map.1 h
  have := List.mem_filter.1 he
  exact ⟨e, by simpa using this.1, this.2, rfl⟩

structure Lst (ops : List Oper) (listed : Array Bool) : Prop where
  size : listed.size = ops.length
  closed : ∀ (j : Nat) o, ops[j]? = some o → isOn listed j → ∀ e ∈ binding o, isOn listed e

theorem Lst.ready {ops : List Oper} {listed : Array Bool} (h : Lst ops listed) {i : Nat} (hr : i ∈ Region.ready .any ops.toArray listed) :
    i < ops.length ∧ ¬ isOn listed i ∧ (∀ o, ops[i]? = some o → ∀ e ∈ binding o, isOn listed e) ∧ ∀ x ∈ (ancs ops []).getD i [], isOn listed x := by
  obtain ⟨h1, o, ho, h2⟩ := mem_ready.1 hr
  have ho' : ops[i]? = some o := by simpa using ho
  have hlt : i < ops.length := (List.getElem?_eq_some_iff.1 ho').1
  have h3 : ∀ o, ops[i]? = some o → ∀ e ∈ binding o, isOn listed e := by
    intro o' ho2 e he
    rw [ho'] at ho2; cases ho2
    obtain ⟨e', he', hb, rfl⟩ := mem_binding he
    exact h2 e' he' hb
  refine ⟨hlt, (getD_size (by rw [h.size]; exact hlt)).1 h1, h3, ?_⟩
  exact ancs_ok (listed := isOn listed) h.closed [] rfl rfl (fun j _ hlt => by simp at hlt) i h3 hlt

theorem Lst.set {ops : List Oper} {listed : Array Bool} (h : Lst ops listed) {i : Nat} (hr : i ∈ Region.ready .any ops.toArray listed) : Lst ops (listed.setIfInBounds i true) := by
  obtain ⟨hlt, hn, hb, _⟩ := h.ready hr
  have hi : i < listed.size := by rw [h.size]; exact hlt
  refine ⟨by simpa using h.size, fun j o ho hj e he => ?_⟩
  rw [isOn_set hi] at hj ⊢
  rcases hj with rfl | hj
  · exact .inr (hb o ho e he)
  · exact .inr (h.closed j o ho hj e he)

/-- Where not all is taken something can be. -/
theorem Lst.some_ready {n k : Nat} {ops : List Oper} {listed : Array Bool} (h : Lst ops listed) (hok : AnyOk n ops k) {j : Nat} (hj : j < ops.length) (hn : ¬ isOn listed j) : Region.ready .any ops.toArray listed ≠ [] := by
  obtain ⟨i, ⟨hi1, hi2⟩, hmin⟩ := least (p := fun i => i < ops.length ∧ ¬ isOn listed i) ⟨j, hj, hn⟩
  have : i ∈ Region.ready .any ops.toArray listed := by
    refine mem_ready.2 ⟨(getD_size (by rw [h.size]; exact hi1)).2 hi2, ops[i], by simp [hi1], fun e he hb => ?_⟩
    have hlt := hok.edges i ops[i] (List.getElem?_eq_getElem hi1) e.on (binding_mem he hb)
    rcases Classical.em (isOn listed e.on) with h' | h'
    · exact h'
    · have := hmin e.on ⟨by omega, h'⟩; omega
  intro he
  rw [he] at this; cases this


section
variable {g : Cfg} {Q : AExit → ASt → Prop} {n : Nat}

/-- What stands in memory and in the temporaries while the reading operations are taken. -/
structure Mid (g : Cfg) (l : List Oper) (E : ASt) (listed : Array Bool) (c : Ctx) (w : World) (a : Act) : Prop where
  heap : HRel c E.H w
  size : a.tmps.size = g.N.n
  tmps : ∀ t v, lk t E.env = some v → (∀ (i : Nat) o, l[i]? = some o → o.dst = some t → isOn listed i) → ∃ v', a.tmps[t]? = some v' ∧ VRel c v v'
  defs : DRel g.N.B c E.H w E.defs a.defers

theorem Mid.toS {l : List Oper} {E : ASt} {listed : Array Bool} {c : Ctx} {w : World} {a : Act} (h : Mid g l E listed c w a) (hall : ∀ i, i < l.length → isOn listed i) : SRel g.N c E w a :=
  ⟨h.heap, h.size, fun t v e => h.tmps t v e (fun i o ho _ => hall i (List.getElem?_eq_some_iff.1 ho).1), h.defs⟩

/-- The rest, in the order of the text. -/
theorem any_tail {k : Nat} {ops : List Oper} (hok : AnyOk g.N.n ops k) : ∀ (r pre : List Oper) (listed : Array Bool) (fuel : Nat) (st : ASt), ops = pre ++ r → k ≤ pre.length → Lst ops listed → (∀ i, i < ops.length → (isOn listed i ↔ i < pre.length)) → fuel = r.length →
    regionW g ops r st (fun st' => Q .normal st') (fun v st' => Q (.panic v) st') → ∀ c w a, SRel g.N c st w a → wpAnyIn (fenceOf g.lr) 0 g.P .any ops.toArray (APost g Q c st.H w) fuel listed a w
  | [], pre, listed, fuel, st, he, hk, hl, hon, hf, h, c, w, a, hs => by
    subst hf
    refine ⟨?_, .normal, st, c, h, .normal, hs, .refl _ _ _ _⟩
    apply List.eq_nil_iff_forall_not_mem.2
    intro i hi
    obtain ⟨h1, h2, _⟩ := hl.ready hi
    exact h2 ((hon i h1).2 (by simp [he] at h1; omega))
  | o :: r, pre, listed, fuel, st, he, hk, hl, hon, hf, h, c, w, a, hs => by
    subst hf
    have hlen : ops.length = pre.length + (r.length + 1) := by rw [he]; simp
    have hoat : ops[pre.length]? = some o := by rw [he]; simp
    refine ⟨fun hnil => ?_, fun i hi => ?_⟩
    · refine absurd hnil (hl.some_ready hok (j := pre.length) (by omega) ?_)
      rw [hon _ (by omega)]; omega
    · obtain ⟨h1, h2, _, h4⟩ := hl.ready hi
      have hge : ¬ i < pre.length := fun h' => h2 ((hon i h1).2 h')
      have hi2 : i = pre.length := by
        rcases Nat.lt_or_ge pre.length i with h' | h'
        · have := h4 _ (hok.tail pre.length i (by omega) h1 h')
          rw [hon _ (by omega)] at this; omega
        · omega
      subst hi2
      have hl' := hl.set hi
      have hon' : ∀ i, i < ops.length → (isOn (listed.setIfInBounds pre.length true) i ↔ i < (pre ++ [o]).length) := by
        intro i hil
        rw [isOn_set (by rw [hl.size]; omega), hon i hil]
        simp; omega
      have hd1 : ∀ d, o.dst = some d → d < g.N.n := fun d e => by
        have := hok.dsts
        unfold dstsOk at this
        rw [List.all_eq_true] at this
        have := this o (List.mem_iff_getElem?.2 ⟨_, hoat⟩)
        rw [e] at this
        simpa using this
      simp only [regionW] at h
      unfold wpOpIn
      have hoa : ops.toArray[pre.length]? = some o := by simpa using hoat
      simp only [hoa]
      rcases wantW_elim hs h with ⟨hw, hr⟩ | ⟨hw, hr⟩
      · rw [if_pos hw]
        refine opW_ok hd1 hr c w a _ _ hs ?_ ?_
        · intro st' c' a' w' hK hs' ht _
          have := any_tail hok r (pre ++ [o]) _ r.length st' (by simp [he]) (by simp; omega) hl' hon' rfl hK c' w' a' hs'
          exact wpAny_mono (fun e a2 w2 hp => hp.back ht) this
        · intro v v' st' c' a' w' hKp hv hs' ht
          exact ⟨.panic v, st', c', hKp, .panic hv, hs', ht⟩
      · rw [if_neg (by rw [hw]; simp)]
        refine ⟨about_any g.lr, ?_⟩
        have hs' : SRel g.N c (st.put o.dst noVal) w (a.put o.dst undef) := hs.put hd1 (.tuple .nil)
        have := any_tail hok r (pre ++ [o]) _ r.length (st.put o.dst noVal) (by simp [he]) (by simp; omega) hl' hon' rfl hr c w _ hs'
        rw [put_H] at this
        exact this
where
  wpAny_mono {F : Fence} {n : Nat} {P : Program} {md : Region.Mode} {ops : Array Oper} {Q Q' : Exit → Act → World → Prop} (hq : ∀ e a w, Q e a w → Q' e a w) : ∀ {fuel : Nat} {listed : Array Bool} {a : Act} {w : World}, wpAnyIn F n P md ops Q fuel listed a w → wpAnyIn F n P md ops Q' fuel listed a w
    | 0, _, _, _, h => ⟨h.1, hq _ _ _ h.2⟩
    | fuel + 1, listed, a, w, h => by
      refine ⟨fun e => hq _ _ _ (h.1 e), fun i hi => ?_⟩
      have h := h.2 i hi
      unfold wpOpIn at *
      split
      · rename_i hn; rw [hn] at h; exact wpAny_mono hq h
      · rename_i o ho
        simp only [ho] at h
        split
        · rename_i hw
          rw [if_pos hw] at h
          refine ⟨h.1, ?_⟩
          have hh := h.2
          generalize (o.semAt F.round a.eval).run P w = r at *
          cases r with
          | ok x w' =>
            cases x <;> simp only [Oper.uponIn] at hh ⊢ <;>
              first
                | exact wpAny_mono hq hh
                | exact ⟨hh.1, CallsIn.mono hh.2 (fun e w'' he => by
                    cases e with
                    | returned v => exact wpAny_mono hq he
                    | panicked ch => exact hq _ _ _ he
                    | outgrown => obtain ⟨a0, w0, h0⟩ := he; exact ⟨a0, w0, hq _ _ _ h0⟩)⟩
                | exact ⟨hh.1, RowsIn.mono hh.2 (fun _ _ he => wpAny_mono hq he)⟩
                | exact ⟨hh.1, RoundIn.mono hh.2 (fun e w'' he => by
                    cases e with
                    | returned v => exact wpAny_mono hq he
                    | panicked ch => exact hq _ _ _ he
                    | outgrown => obtain ⟨a0, w0, h0⟩ := he; exact ⟨a0, w0, hq _ _ _ h0⟩)⟩
          | halt x w' => cases x <;> simp only [Oper.uponIn] at hh ⊢ <;> exact hq _ _ _ hh
        · rename_i hw
          rw [if_neg hw] at h
          exact ⟨h.1, wpAny_mono hq h.2⟩

theorem any_front {ops l t : List Oper} (he : ops = l ++ t) (hok : AnyOk g.N.n ops l.length) {E : ASt}
    (hst : ∀ (i : Nat) o, l[i]? = some o → ∃ v, stepW g ops o E v ∧ ∀ d, o.dst = some d → lk d E.env = some v)
    (hK : regionW g ops t E (fun st' => Q .normal st') (fun v st' => Q (.panic v) st')) :
    ∀ (fuel : Nat) (listed : Array Bool) (c : Ctx) (w : World) (a : Act), Lst ops listed → fuel = left listed listed.size → (∀ i, l.length ≤ i → i < ops.length → ¬ isOn listed i) → Mid g l E listed c w a →
      wpAnyIn (fenceOf g.lr) 0 g.P .any ops.toArray (APost g Q c E.H w) fuel listed a w := by
  have hlen : ops.length = l.length + t.length := by rw [he]; simp
  have hdone : ∀ (listed : Array Bool) (c : Ctx) (w : World) (a : Act), Lst ops listed → (∀ i, l.length ≤ i → i < ops.length → ¬ isOn listed i) → Mid g l E listed c w a → (∀ i, i < l.length → isOn listed i) →
      wpAnyIn (fenceOf g.lr) 0 g.P .any ops.toArray (APost g Q c E.H w) (left listed listed.size) listed a w := by
    intro listed c w a hl hno hm hall
    have hon : ∀ i, i < ops.length → (isOn listed i ↔ i < l.length) := fun i hi => by
      rcases Nat.lt_or_ge i l.length with h' | h'
      · exact ⟨fun _ => h', fun _ => hall i h'⟩
      · exact ⟨fun h => absurd h (hno i h' hi), fun h => by omega⟩
    refine any_tail hok t l listed _ E he (Nat.le_refl _) hl hon ?_ hK c w a (hm.toS hall)
    rw [hl.size, left_eq (m := l.length) (by omega) hon]; omega
  intro fuel
  induction fuel with
  | zero =>
    intro listed c w a hl hf hno hm
    by_cases hall : ∀ i, i < l.length → isOn listed i
    · have := hdone listed c w a hl hno hm hall
      rwa [← hf] at this
    · exfalso
      apply hall
      intro i hi
      rcases Classical.em (isOn listed i) with h' | h'
      · exact h'
      · have := left_set (by rw [hl.size]; omega) h'
        omega
  | succ fuel ih =>
    intro listed c w a hl hf hno hm
    by_cases hall : ∀ i, i < l.length → isOn listed i
    · have := hdone listed c w a hl hno hm hall
      rwa [← hf] at this
    · refine ⟨fun hnil => ?_, fun i hi => ?_⟩
      · apply absurd hall
        intro hall
        apply hall
        intro i hi
        rcases Classical.em (isOn listed i) with h' | h'
        · exact h'
        · exact absurd hnil (hl.some_ready hok (by omega) h')
      · obtain ⟨h1, h2, _, h4⟩ := hl.ready hi
        have hil : i < l.length := by
          rcases Nat.lt_or_ge i l.length with h' | h'
          · exact h'
          · exact absurd (fun j hj => h4 j (hok.tail j i h' h1 (by omega))) hall
        have hoat : l[i]? = some l[i] := List.getElem?_eq_getElem hil
        generalize l[i] = o at hoat
        have hops : ops[i]? = some o := by rw [he, List.getElem?_append_left hil, hoat]
        obtain ⟨v, hs, hlk⟩ := hst i o hoat
        have hd1 : ∀ d, o.dst = some d → d < g.N.n := fun d e => by
          have := hok.dsts
          unfold dstsOk at this
          rw [List.all_eq_true] at this
          have := this o (List.mem_iff_getElem?.2 ⟨_, hops⟩)
          rw [e] at this
          simpa using this
        have hfuel : fuel = left (listed.setIfInBounds i true) (listed.setIfInBounds i true).size := by
          have := left_set (by rw [hl.size]; exact h1) h2
          simp; omega
        have hno' : ∀ j, l.length ≤ j → j < ops.length → ¬ isOn (listed.setIfInBounds i true) j := fun j hj hj2 => by
          rw [isOn_set (by rw [hl.size]; exact h1)]
          rintro (rfl | h')
          · omega
          · exact hno j hj hj2 h'
        -- the temporaries behind the operation
        have hmid : ∀ (c' : Ctx) (a' : Act) (w' : World) (u u' : Value), c.le c' → HRel c' E.H w' → DRel g.N.B c' E.H w' E.defs a'.defers → a'.tmps = (a.put o.dst u).tmps → (∀ d, o.dst = some d → u = u' ∧ VRel c' v u') → Mid g l E (listed.setIfInBounds i true) c' w' a' := by
          intro c' a' w' u u' hle hh hdf ht hu
          refine ⟨hh, ?_, ?_, hdf⟩
          · rw [ht, ← hm.size]; cases o.dst <;> simp [Act.put]
          · intro t x e hx
            by_cases hdt : o.dst = some t
            · have := hlk t hdt
              rw [e] at this; cases this
              obtain ⟨rfl, hv⟩ := hu t hdt
              refine ⟨u, ?_, hv⟩
              rw [ht, hdt]
              simp [Act.put, hm.size, hd1 t hdt]
            · obtain ⟨x', k1, k2⟩ := hm.tmps t x e (fun j o' ho' hd' => by
                have := hx j o' ho' hd'
                rw [isOn_set (by rw [hl.size]; exact h1)] at this
                rcases this with rfl | h'
                · rw [hoat] at ho'; cases ho'; exact absurd hd' hdt
                · exact h')
              refine ⟨x', ?_, k2.mono hle⟩
              rw [ht]
              cases hd : o.dst with
              | none => simpa [Act.put] using k1
              | some d =>
                have hne : d ≠ t := fun e => hdt (by rw [hd, e])
                simp [Act.put, hne, k1]
        have hs1 : SRel g.N c (E.only ops o) w a := by
          refine ⟨hm.heap, hm.size, fun t x e => ?_, hm.defs⟩
          obtain ⟨h5, h6⟩ := lk_restrict e
          refine hm.tmps t x h6 (fun j o' ho' hd' => ?_)
          have hjl := (List.getElem?_eq_some_iff.1 ho').1
          exact h4 j (hok.reads i j o o' t hil hjl hops (by rw [he, List.getElem?_append_left hjl, ho']) hd' h5)
        unfold wpOpIn
        have hoa : ops.toArray[i]? = some o := by simpa using hops
        simp only [hoa]
        rcases wantW_elim hs1 hs with ⟨hw, hr⟩ | ⟨hw, hr⟩
        · rw [if_pos hw]
          refine opW_ok hd1 hr c w a _ _ hs1 ?_ ?_
          · rintro st' c' a' w' ⟨hH, hdf, hl'⟩ hs' ht ⟨hle, u, hu⟩
            have hm' : Mid g l E (listed.setIfInBounds i true) c' w' a' := by
              have hh := hs'.heap
              rw [hH] at hh
              have hd' := hs'.defs
              rw [hdf, hH] at hd'
              refine hmid c' a' w' u u hle hh hd' hu (fun d hd => ⟨rfl, ?_⟩)
              obtain ⟨x, k1, k2⟩ := hs'.tmps d v (hl' d hd)
              rw [hu, hd] at k1
              simp [Act.put, hm.size, hd1 d hd] at k1
              rw [k1]; exact k2
            have := ih _ c' w' a' (hl.set hi) hfuel hno' hm'
            rw [hH] at ht
            exact any_tail.wpAny_mono (fun e a2 w2 hp => hp.back ht) this
          · intro v v' st' c' a' w' hKp
            exact hKp.elim
        · rw [if_neg (by rw [hw]; simp)]
          refine ⟨about_any g.lr, ?_⟩
          subst hr
          refine ih _ c w _ (hl.set hi) hfuel hno' (hmid c _ w undef undef (Ctx.le_refl c) hm.heap ?_ rfl (fun d hd => ⟨rfl, .tuple .nil⟩))
          have : (a.put o.dst undef).defers = a.defers := by cases o.dst <;> rfl
          rw [this]; exact hm.defs

theorem AWP.regionAny {st : ASt} {id : Nat} (l t : List Oper) (hm : g.P.follows .mixedOrders = true) (hok : anyOk g.N.n (l ++ t) l.length = true)
    (h : quietW g (l ++ t) l st (fun E => regionW g (l ++ t) t E (fun st' => Q .normal st') (fun v st' => Q (.panic v) st'))) : AWP g (.region id (l ++ t).toArray true) Q st := by
  intro c w a hs
  have hok := AnyOk.of hok
  obtain ⟨vs, hvl, hK, hst⟩ := quietW_elim h
  have hH : (puts l vs st).H = st.H := puts_H l vs st
  have hD : (puts l vs st).defs = st.defs := puts_defs l vs st
  refine wpIn_region_any hm ?_
  obtain ⟨hh, ht⟩ := hs.heap.drew g.n0
  have := any_front (g := g) (Q := Q) (ops := l ++ t) (l := l) (t := t) rfl hok (E := puts l vs st) ?_ hK (l ++ t).length (Array.replicate (l ++ t).length false) c w.drew a ?_ ?_ ?_ ?_
  · rw [hH] at this
    have := any_tail.wpAny_mono (fun e a2 w2 hp => hp.back ht) this
    simpa using this
  · intro i o ho
    have hil := (List.getElem?_eq_some_iff.1 ho).1
    have hops : (l ++ t)[i]? = some o := by rw [List.getElem?_append_left hil, ho]
    have hv : vs[i]? = some (vs[i]'(by omega)) := List.getElem?_eq_getElem (by omega)
    generalize vs[i]'(by omega) = v at hv
    refine ⟨v, ?_, fun d hd => ?_⟩
    · have hs1 := hst i o v ho hv
      have : (puts (l.take i) (vs.take i) st).only (l ++ t) o = (puts l vs st).only (l ++ t) o := by
        unfold ASt.only
        rw [puts_H, puts_H, puts_defs, puts_defs, restrict_congr (e1 := (puts (l.take i) (vs.take i) st).env) (e2 := (puts l vs st).env)]
        intro d hd
        -- who gives d
        by_cases hex : ∃ (j : Nat) (p : Oper), l[j]? = some p ∧ p.dst = some d
        · obtain ⟨j, p, hj, hp⟩ := hex
          have hjl := (List.getElem?_eq_some_iff.1 hj).1
          have hjops : (l ++ t)[j]? = some p := by rw [List.getElem?_append_left hjl, hj]
          have hja := hok.reads i j o p d hil hjl hops hjops hp hd
          have hji : j < i := anc_lt hok i j hja
          have hvj : vs[j]? = some (vs[j]'(by omega)) := List.getElem?_eq_getElem (by omega)
          have huniq : ∀ (m : Nat) o', l[m]? = some o' → o'.dst = some d → m = j := fun m o' hm' hd' => by
            have hml := (List.getElem?_eq_some_iff.1 hm').1
            exact hok.apart m j o' p d hml hjl (by rw [List.getElem?_append_left hml, hm']) hjops hp hd'
          rw [puts_lk_some l vs st d j p _ hj hvj hp huniq]
          refine puts_lk_some _ _ st d j p _ (by rw [List.getElem?_take_of_lt hji]; exact hj) (by rw [List.getElem?_take_of_lt hji]; exact hvj) hp (fun m o' hm' hd' => ?_)
          rw [List.getElem?_take] at hm'
          split at hm'
          · exact huniq m o' hm' hd'
          · cases hm'
        · rw [puts_lk_none l vs st d (fun o' ho' hd' => by
            obtain ⟨j, hj⟩ := List.mem_iff_getElem?.1 ho'
            exact hex ⟨j, o', hj, hd'⟩)]
          refine puts_lk_none _ _ st d (fun o' ho' hd' => ?_)
          obtain ⟨j, hj⟩ := List.mem_iff_getElem?.1 (List.mem_of_mem_take ho')
          exact hex ⟨j, o', hj, hd'⟩
      unfold stepW at hs1 ⊢
      rw [this, puts_H, puts_defs] at hs1
      rw [hH, hD]
      exact hs1
    · exact puts_lk_some l vs st d i o v ho hv hd (fun j o' hj hd' => by
        have hjl := (List.getElem?_eq_some_iff.1 hj).1
        exact hok.apart j i o' o d hjl hil (by rw [List.getElem?_append_left hjl, hj]) hops hd hd')
  · refine ⟨by simp, fun j o ho hj => ?_⟩
    exact absurd hj (not_isOn_replicate _ _)
  · have := left_eq (listed := Array.replicate (l ++ t).length false) (m := 0) (n := (l ++ t).length) (Nat.zero_le _) (fun i hi => ⟨fun h => absurd h (not_isOn_replicate _ _), fun h => by omega⟩)
    simpa using this.symm
  · intro i _ hi
    exact not_isOn_replicate _ _
  · refine ⟨by rw [hH]; exact hh, hs.size, fun t' x e hx => ?_, ?_⟩
    · have : lk t' st.env = some x := by
        rw [← e]
        refine (puts_lk_none l vs st t' (fun o' ho' hd' => ?_)).symm
        obtain ⟨j, hj⟩ := List.mem_iff_getElem?.1 ho'
        exact absurd (hx j o' hj hd') (not_isOn_replicate _ _)
      exact hs.tmps t' x this
    · rw [hH, hD]
      exact hs.defs.step (n := g.n0) (Ctx.le_refl c) ht

theorem AWP.regionK {st : ASt} {id : Nat} {ops : List Oper} (k : Nat) (hm : g.P.follows .mixedOrders = true) (hk : k ≤ ops.length) (hok : anyOk g.N.n ops k = true)
    (h : quietW g ops (ops.take k) st (fun E => regionW g ops (ops.drop k) E (fun st' => Q .normal st') (fun v st' => Q (.panic v) st'))) : AWP g (.region id ops.toArray true) Q st := by
  have e : ops.take k ++ ops.drop k = ops := List.take_append_drop k ops
  have := AWP.regionAny (g := g) (Q := Q) (st := st) (id := id) (ops.take k) (ops.drop k) hm (by rw [e]; simpa [Nat.min_eq_left hk] using hok) (by rw [e]; exact h)
  rwa [e] at this
end
end Go.Aw
