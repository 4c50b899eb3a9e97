/-
  The abstract memory and the walk of code over it, part 3.
-/
import Derived.Test.YthcdjconlfdidaaDoorAwB
import Derived.Lib.LaidTab
import Derived.Shelf.Strings.Repeat
import Derived.Shelf.Strings.OnBuilder
set_option linter.unusedVariables false
set_option linter.unusedSimpArgs false
namespace Go.Aw
/-- What is claimed of an operation's value. -/
def claimOk (cl : List (Nat × Value)) (j : Nat) (u : Value) : Prop := match lk j cl with | none => True | some v => u = v
def putE (d : Option Tmp) (v : Value) (e : List (Nat × Value)) : List (Nat × Value) := match d with | some d => (d, v) :: e | none => e
def putCl (d : Option Tmp) (v : Option Value) (e : List (Nat × Value)) : List (Nat × Value) := match v with | some v => putE d v e | none => e
/-- The operations in the text's order; of those in mem only what is claimed. -/
def canW (g : Cfg) (ops : List Oper) (mem : List Nat) (cl : List (Nat × Value)) (defs : List ADef) : Nat → List Oper → List (Nat × Value) → (List (Nat × Value) → Prop) → Prop
  | _, [], e, K => K e
  | i, o :: r, e, K => if mem.contains i = true then canW g ops mem cl defs (i + 1) r (putCl o.dst (lk i cl) e) K
      else ∃ v, (∀ H, stepW g ops o ⟨e, defs, H⟩ v) ∧ canW g ops mem cl defs (i + 1) r (putE o.dst v e) K
/-- What of mem may come next. -/
def enabledM (ops : List Oper) (mem L : List Nat) : List Nat := mem.filter fun i => !L.contains i && mem.all fun j => !((ancs ops []).getD i []).contains j || L.contains j
def okRunM (ops : List Oper) (mem : List Nat) : List Nat → List Nat → Bool
  | _, [] => true
  | L, j :: r => (enabledM ops mem L).contains j && ((enabledM ops mem (j :: L)).all fun i => (r.take 1).contains i) && okRunM ops mem (j :: L) r
def okM (ops : List Oper) (mem : List Nat) : List Nat → Tr → Bool
  | L, .run l => okRunM ops mem L l
  | L, .step j t => (enabledM ops mem L).contains j && ((enabledM ops mem (j :: L)).all fun i => t.firsts.contains i) && okM ops mem (j :: L) t
  | L, .both a b => okM ops mem L a && okM ops mem L b
def visOk (ops : List Oper) (k : Nat) (mem : List Nat) (cl : List (Nat × Value)) : Bool :=
  mem.all fun j => decide (j < k) && (match ops[j]? with
    | some p => (match p.dst with
      | some d => (lk j cl).isSome || allLt k fun i => mem.contains i || (match ops[i]? with | some o => !(reads ops o).contains d | none => true)
      | none => true)
    | none => true)
def treeOkM (ops : List Oper) (mem : List Nat) (t : Tr) : Bool := ((enabledM ops mem []).all fun i => t.firsts.contains i) && okM ops mem [] t
theorem lk_append {t : Nat} {a b : List (Nat × Value)} : lk t (a ++ b) = match lk t a with | some v => some v | none => lk t b := by
  induction a with
  | nil => rfl
  | cons e r ih =>
    obtain ⟨k, v⟩ := e
    simp only [List.cons_append, lk_cons]
    split
    · rfl
    · exact ih
theorem lk_putE {t : Nat} {d : Option Tmp} {v : Value} {e : List (Nat × Value)} : lk t (putE d v e) = if d = some t then some v else lk t e := by
  cases d with
  | none => simp [putE]
  | some d => simp [putE, lk_cons]
structure MidM (g : Cfg) (l : List Oper) (mem : List Nat) (cl E : List (Nat × Value)) (defs : List ADef) (me : List (Nat × Value)) (H : AHeap) (listed : Array Bool) (c : Ctx) (w : World) (a : Act) : Prop where
  heap : HRel c H w
  size : a.tmps.size = g.N.n
  tmps : ∀ t v, lk t (me ++ E) = some v → (∀ (i : Nat) o, l[i]? = some o → o.dst = some t → isOn listed i) → ∃ v', a.tmps[t]? = some v' ∧ VRel c v v'
  defs : DRel g.N.B c H w defs a.defers
  me : ∀ d v, lk d me = some v → ∃ j p, j ∈ mem ∧ l[j]? = some p ∧ p.dst = some d ∧ claimOk cl j v
section
variable {g : Cfg} {Q : AExit → ASt → Prop}
/-- What the pass in the text's order gives. -/
theorem canW_elim {ops : List Oper} {mem : List Nat} {cl : List (Nat × Value)} {defs : List ADef} {K : List (Nat × Value) → Prop} : ∀ (l pre : List Oper) (e : List (Nat × Value)), canW g ops mem cl defs pre.length l e K →
    (∀ (i j : Nat) o p d, i < (pre ++ l).length → j < (pre ++ l).length → (pre ++ l)[i]? = some o → (pre ++ l)[j]? = some p → o.dst = some d → p.dst = some d → i = j) →
    (∀ (i j : Nat) o p d, (pre ++ l)[i]? = some o → (pre ++ l)[j]? = some p → p.dst = some d → d ∈ reads ops o → j < i) →
    ∃ E, K E ∧ (∀ d, (∀ o ∈ l, o.dst ≠ some d) → lk d E = lk d e) ∧
      (∀ (i : Nat) o, ¬ (pre.length + i) ∈ mem → l[i]? = some o → ∃ v, (∀ H, stepW g ops o ⟨E, defs, H⟩ v) ∧ ∀ d, o.dst = some d → lk d E = some v) ∧
      (∀ (i : Nat) v o d, (pre.length + i) ∈ mem → lk (pre.length + i) cl = some v → l[i]? = some o → o.dst = some d → lk d E = some v)
  | [], pre, e, h, _, _ => ⟨e, h, fun _ _ => rfl, fun i o _ ho => by simp at ho, fun i v o d _ _ ho => by simp at ho⟩
  | o :: r, pre, e, h, hap, hrd => by
    have hcat : pre ++ o :: r = (pre ++ [o]) ++ r := by simp
    have hat : (pre ++ o :: r)[pre.length]? = some o := by simp
    have hap2 := hap
    have hrd2 := hrd
    rw [hcat] at hap2 hrd2
    have hpl : (pre ++ [o]).length = pre.length + 1 := by simp
    -- no later operation gives what this one gives
    have hlate : ∀ d, o.dst = some d → ∀ q ∈ r, q.dst ≠ some d := fun d hd q hq hqd => by
      obtain ⟨m, hm⟩ := List.mem_iff_getElem?.1 hq
      have hm2 : (pre ++ o :: r)[pre.length + 1 + m]? = some q := by
        rw [List.getElem?_append_right (by omega), show pre.length + 1 + m - pre.length = m + 1 by omega]; exact hm
      have := hap _ _ o q d (by simp) (List.getElem?_eq_some_iff.1 hm2).1 hat hm2 hd hqd
      omega
    unfold canW at h
    by_cases hmm : pre.length ∈ mem
    · rw [if_pos (by simpa using hmm)] at h
      rw [← hpl] at h
      obtain ⟨E, h1, h2, h3, h4⟩ := canW_elim r (pre ++ [o]) _ h hap2 hrd2
      refine ⟨E, h1, fun d hd => ?_, fun i p hi hp => ?_, fun i v p d hi hv hp hd => ?_⟩
      · rw [h2 d (fun q hq => hd q (List.mem_cons_of_mem _ hq))]
        unfold putCl
        cases lk pre.length cl with
        | none => rfl
        | some v =>
          simp only
          rw [lk_putE, if_neg (hd o (List.mem_cons_self ..))]
      · cases i with
        | zero => exact absurd hmm hi
        | succ i => exact h3 i p (by rw [hpl, show pre.length + 1 + i = pre.length + (i + 1) by omega]; exact hi) hp
      · cases i with
        | zero =>
          simp at hp
          subst hp
          rw [h2 d (hlate d hd)]
          unfold putCl
          rw [show lk pre.length cl = some v from hv]
          simp only
          rw [lk_putE, if_pos hd]
        | succ i => exact h4 i v p d (by rw [hpl, show pre.length + 1 + i = pre.length + (i + 1) by omega]; exact hi) (by rw [hpl, show pre.length + 1 + i = pre.length + (i + 1) by omega]; exact hv) hp hd
    · rw [if_neg (by simpa using hmm)] at h
      obtain ⟨v, hv, h⟩ := h
      rw [← hpl] at h
      obtain ⟨E, h1, h2, h3, h4⟩ := canW_elim r (pre ++ [o]) _ h hap2 hrd2
      refine ⟨E, h1, fun d hd => ?_, fun i p hi hp => ?_, fun i v p d hi hv hp hd => ?_⟩
      · rw [h2 d (fun q hq => hd q (List.mem_cons_of_mem _ hq)), lk_putE, if_neg (hd o (List.mem_cons_self ..))]
      · cases i with
        | zero =>
          simp at hp
          subst hp
          refine ⟨v, fun H => ?_, fun d hd => by rw [h2 d (hlate d hd), lk_putE, if_pos hd]⟩
          have hs := hv H
          have : ASt.only ops o ⟨e, defs, H⟩ = ASt.only ops o ⟨E, defs, H⟩ := by
            unfold ASt.only
            simp only
            congr 1
            refine restrict_congr fun d hd => ?_
            rw [h2 d (fun q hq hqd => ?_), lk_putE, if_neg (fun hod => ?_)]
            · have := hrd _ _ o o d hat hat hod hd
              omega
            · obtain ⟨m, hm⟩ := List.mem_iff_getElem?.1 hq
              have hm2 : (pre ++ o :: r)[pre.length + 1 + m]? = some q := by
                rw [List.getElem?_append_right (by omega), show pre.length + 1 + m - pre.length = m + 1 by omega]; exact hm
              have := hrd _ _ o q d hat hm2 hqd hd
              omega
          unfold stepW at hs ⊢
          rw [← this]
          exact hs
        | succ i => exact h3 i p (by rw [hpl, show pre.length + 1 + i = pre.length + (i + 1) by omega]; exact hi) hp
      · cases i with
        | zero => exact absurd hi hmm
        | succ i => exact h4 i v p d (by rw [hpl, show pre.length + 1 + i = pre.length + (i + 1) by omega]; exact hi) (by rw [hpl, show pre.length + 1 + i = pre.length + (i + 1) by omega]; exact hv) hp hd
theorem canW_cons {ops : List Oper} {mem : List Nat} {cl : List (Nat × Value)} {defs : List ADef} {i : Nat} {o : Oper} {r : List Oper} {e : List (Nat × Value)} {K : List (Nat × Value) → Prop} : canW g ops mem cl defs i (o :: r) e K = if mem.contains i = true then canW g ops mem cl defs (i + 1) r (putCl o.dst (lk i cl) e) K
      else ∃ v, (∀ H, stepW g ops o ⟨e, defs, H⟩ v) ∧ canW g ops mem cl defs (i + 1) r (putE o.dst v e) K := rfl
theorem putE_s {d : Nat} {v : Value} {e : List (Nat × Value)} : putE (some d) v e = (d, v) :: e := rfl
theorem putE_n {v : Value} {e : List (Nat × Value)} : putE none v e = e := rfl
theorem putCl_s {d : Option Tmp} {v : Value} {e : List (Nat × Value)} : putCl d (some v) e = putE d v e := rfl
theorem putCl_n {d : Option Tmp} {e : List (Nat × Value)} : putCl d none e = e := rfl
theorem claimOk_cons {k j : Nat} {v u : Value} {r : List (Nat × Value)} : claimOk ((k, v) :: r) j u = if k = j then u = v else claimOk r j u := by
  unfold claimOk
  rw [lk_cons]
  by_cases h : k = j
  · rw [if_pos h, if_pos h]
  · rw [if_neg h, if_neg h]
theorem claimOk_nil {j : Nat} {u : Value} : claimOk [] j u = True := rfl
theorem canW_n {ops : List Oper} {mem : List Nat} {cl : List (Nat × Value)} {defs : List ADef} {i : Nat} {e : List (Nat × Value)} {K : List (Nat × Value) → Prop} (h : K e) : canW g ops mem cl defs i [] e K := h
theorem canW_p {ops : List Oper} {mem : List Nat} {cl : List (Nat × Value)} {defs : List ADef} {i : Nat} {o : Oper} {r : List Oper} {e : List (Nat × Value)} {K : List (Nat × Value) → Prop} (hm : mem.contains i = false) {v : Value} (hv : ∀ H, stepW g ops o ⟨e, defs, H⟩ v) (h : canW g ops mem cl defs (i + 1) r (putE o.dst v e) K) : canW g ops mem cl defs i (o :: r) e K := by
  rw [canW_cons, if_neg (by rw [hm]; decide)]
  exact ⟨v, hv, h⟩
theorem canW_m {ops : List Oper} {mem : List Nat} {cl : List (Nat × Value)} {defs : List ADef} {i : Nat} {o : Oper} {r : List Oper} {e : List (Nat × Value)} {K : List (Nat × Value) → Prop} (hm : mem.contains i = true) (h : canW g ops mem cl defs (i + 1) r (putCl o.dst (lk i cl) e) K) : canW g ops mem cl defs i (o :: r) e K := by
  rw [canW_cons, if_pos hm]
  exact h
attribute [go_sem] putE_s putE_n putCl_s putCl_n claimOk_cons claimOk_nil dstV
end
end Go.Aw


set_option linter.unusedVariables false
set_option linter.unusedSimpArgs false
set_option maxHeartbeats 4000000
namespace Go.Aw
open Go
def memStepP (Kp : Value → ASt → Prop) (g : Cfg) (ops : List Oper) (cl : List (Nat × Value)) (E : List (Nat × Value)) (defs : List ADef) (j : Nat) (me : List (Nat × Value)) (H : AHeap) (K : List (Nat × Value) → AHeap → Prop) : Prop :=
  wth ops[j]? fun o => wantW ops o ⟨restrict (me ++ E) (reads ops o), defs, H⟩
    (opW g o ⟨restrict (me ++ E) (reads ops o), defs, H⟩ (fun s => s.defs = defs ∧ wth (dstV o s) fun u => claimOk cl j u ∧ K (putE o.dst u me) s.H) Kp)
    (claimOk cl j noVal ∧ K (putE o.dst noVal me) H)
def runMP (Kp : Value → ASt → Prop) (g : Cfg) (ops : List Oper) (cl : List (Nat × Value)) (E : List (Nat × Value)) (defs : List ADef) : List Nat → List (Nat × Value) → AHeap → (List (Nat × Value) → AHeap → Prop) → Prop
  | [], me, H, K => K me H
  | j :: r, me, H, K => memStepP Kp g ops cl E defs j me H fun me H => runMP Kp g ops cl E defs r me H K
def memWP (Kp : Value → ASt → Prop) (g : Cfg) (ops : List Oper) (cl : List (Nat × Value)) (E : List (Nat × Value)) (defs : List ADef) : Tr → List (Nat × Value) → AHeap → (List (Nat × Value) → AHeap → Prop) → Prop
  | .run l, me, H, K => runMP Kp g ops cl E defs l me H K
  | .step j t, me, H, K => memStepP Kp g ops cl E defs j me H fun me H => memWP Kp g ops cl E defs t me H K
  | .both a b, me, H, K => memWP Kp g ops cl E defs a me H K ∧ memWP Kp g ops cl E defs b me H K
variable {Kp : Value → ASt → Prop}
theorem pickMP {g : Cfg} {ops : List Oper} {mem : List Nat} {cl E : List (Nat × Value)} {defs : List ADef} {K : List (Nat × Value) → AHeap → Prop} {me : List (Nat × Value)} {H : AHeap} {L : List Nat} {j : Nat} : ∀ (t : Tr), okM ops mem L t = true → memWP Kp g ops cl E defs t me H K → j ∈ t.firsts →
    ∃ t', (∀ i ∈ enabledM ops mem (j :: L), i ∈ t'.firsts) ∧ okM ops mem (j :: L) t' = true ∧ memStepP Kp g ops cl E defs j me H fun me H => memWP Kp g ops cl E defs t' me H K
  | .run [], _, _, hj => by simp [Tr.firsts] at hj
  | .run (i :: r), hok, ht, hj => by
    simp [Tr.firsts] at hj
    subst hj
    simp only [okM, okRunM, Bool.and_eq_true] at hok
    refine ⟨.run r, fun i hi => ?_, hok.2, ht⟩
    have := List.all_eq_true.1 hok.1.2 i hi
    simpa [Tr.firsts] using this
  | .step i t, hok, ht, hj => by
    simp [Tr.firsts] at hj
    subst hj
    simp only [okM, Bool.and_eq_true] at hok
    refine ⟨t, fun i hi => ?_, hok.2, ht⟩
    have := List.all_eq_true.1 hok.1.2 i hi
    simpa using this
  | .both a b, hok, ht, hj => by
    simp only [okM, Bool.and_eq_true] at hok
    unfold memWP at ht
    simp only [Tr.firsts, List.mem_append] at hj
    rcases hj with hj | hj
    · exact pickMP a hok.1 ht.1 hj
    · exact pickMP b hok.2 ht.2 hj
theorem doneMP {g : Cfg} {ops : List Oper} {mem : List Nat} {cl E : List (Nat × Value)} {defs : List ADef} {K : List (Nat × Value) → AHeap → Prop} {me : List (Nat × Value)} {H : AHeap} {L : List Nat} (hL : enabledM ops mem L = []) : ∀ (t : Tr), okM ops mem L t = true → memWP Kp g ops cl E defs t me H K → K me H
  | .run [], _, ht => ht
  | .run (i :: r), hok, _ => by
    simp only [okM, okRunM, Bool.and_eq_true, hL] at hok
    simp at hok
  | .step i t, hok, _ => by
    simp only [okM, Bool.and_eq_true, hL] at hok
    simp at hok
  | .both a b, hok, ht => by
    simp only [okM, Bool.and_eq_true] at hok
    exact doneMP hL a hok.1 ht.1
section
variable {g : Cfg} {Q : AExit → ASt → Prop}
theorem any_frontMP {ops l t : List Oper} (he : ops = l ++ t) (hok : AnyOk g.N.n ops l.length) {mem : List Nat} {cl E : List (Nat × Value)} {defs : List ADef}
    (hpure : ∀ (i : Nat) o, ¬ i ∈ mem → l[i]? = some o → ∃ v, (∀ H, stepW g ops o ⟨E, defs, H⟩ v) ∧ ∀ d, o.dst = some d → lk d E = some v)
    (hcl : ∀ (j : Nat) v o d, j ∈ mem → lk j cl = some v → l[j]? = some o → o.dst = some d → lk d E = some v) (hmem : ∀ j ∈ mem, j < l.length)
    (hvis : ∀ (i j : Nat) o p d, ¬ i ∈ mem → j ∈ mem → l[i]? = some o → l[j]? = some p → p.dst = some d → d ∈ reads ops o → (lk j cl).isSome = true)
    {K : List (Nat × Value) → AHeap → Prop} (hPp : ∀ v st, Kp v st → Q (.panic v) st) (hK : ∀ me H, K me H → regionW g ops t ⟨me ++ E, defs, H⟩ (fun st' => Q .normal st') (fun v st' => Q (.panic v) st')) :
    ∀ (fuel : Nat) (tr : Tr) (done : List Nat) (me : List (Nat × Value)) (H : AHeap) (listed : Array Bool) (c : Ctx) (w : World) (a : Act), Lst ops listed → fuel = left listed listed.size → (∀ i, l.length ≤ i → i < ops.length → ¬ isOn listed i) →
      (∀ j ∈ mem, (isOn listed j ↔ j ∈ done)) → (∀ i ∈ enabledM ops mem done, i ∈ tr.firsts) → okM ops mem done tr = true → memWP Kp g ops cl E defs tr me H K → MidM g l mem cl E defs me H listed c w a →
      wpAnyIn (fenceOf g.lr) 0 g.P .any ops.toArray (APost g Q c H w) fuel listed a w := by
  have hlen : ops.length = l.length + t.length := by rw [he]; simp
  have hfin : ∀ (tr : Tr) (done : List Nat) (me : List (Nat × Value)) (H : AHeap) (listed : Array Bool) (c : Ctx) (w : World) (a : Act), Lst ops listed → (∀ i, l.length ≤ i → i < ops.length → ¬ isOn listed i) → (∀ j ∈ mem, (isOn listed j ↔ j ∈ done)) → okM ops mem done tr = true → memWP Kp g ops cl E defs tr me H K →
      MidM g l mem cl E defs me H listed c w a → (∀ i, i < l.length → isOn listed i) → wpAnyIn (fenceOf g.lr) 0 g.P .any ops.toArray (APost g Q c H w) (left listed listed.size) listed a w := by
    intro tr done me H listed c w a hl hno hdn hokM hw hm hall
    have hon : ∀ i, i < ops.length → (isOn listed i ↔ i < l.length) := fun i hi => by
      rcases Nat.lt_or_ge i l.length with h' | h'
      · exact ⟨fun _ => h', fun _ => hall i h'⟩
      · exact ⟨fun h => absurd h (hno i h' hi), fun h => by omega⟩
    have hnil : enabledM ops mem done = [] := by
      apply List.eq_nil_iff_forall_not_mem.2
      intro i hi
      obtain ⟨h1, h2⟩ := List.mem_filter.1 hi
      have h3 := (hdn i h1).1 (hall i (hmem i h1))
      simp [h3] at h2
    have hk := hK me H (doneMP hnil tr hokM hw)
    refine any_tail hok t l listed _ ⟨me ++ E, defs, H⟩ he (Nat.le_refl _) hl hon ?_ hk c w a ⟨hm.heap, hm.size, fun t v e => hm.tmps t v e (fun i o ho _ => hall i (List.getElem?_eq_some_iff.1 ho).1), hm.defs⟩
    rw [hl.size, left_eq (m := l.length) (by omega) hon]; omega
  intro fuel
  induction fuel with
  | zero =>
    intro tr done me H listed c w a hl hf hno hdn hfi hokM hw hm
    by_cases hall : ∀ i, i < l.length → isOn listed i
    · have := hfin tr done me H listed c w a hl hno hdn hokM hw hm hall
      rwa [← hf] at this
    · exfalso
      apply hall
      intro i hi
      rcases Classical.em (isOn listed i) with h' | h'
      · exact h'
      · have := left_set (by rw [hl.size]; omega) h'
        omega
  | succ fuel ih =>
    intro tr done me H listed c w a hl hf hno hdn hfi hokM hw hm
    by_cases hall : ∀ i, i < l.length → isOn listed i
    · have := hfin tr done me H listed c w a hl hno hdn hokM hw hm hall
      rwa [← hf] at this
    refine ⟨fun hnil => ?_, fun i hi => ?_⟩
    · apply absurd hall
      intro hall
      apply hall
      intro i hi
      rcases Classical.em (isOn listed i) with h' | h'
      · exact h'
      · exact absurd hnil (hl.some_ready hok (by omega) h')
    obtain ⟨h1, h2, _, h4⟩ := hl.ready hi
    have hil : i < l.length := by
      rcases Nat.lt_or_ge i l.length with h' | h'
      · exact h'
      · exact absurd (fun j hj => h4 j (hok.tail j i h' h1 (by omega))) hall
    have hoat : l[i]? = some l[i] := List.getElem?_eq_getElem hil
    generalize l[i] = o at hoat
    have hops : ops[i]? = some o := by rw [he, List.getElem?_append_left hil, hoat]
    have hd1 : ∀ d, o.dst = some d → d < g.N.n := fun d e => by
      have := hok.dsts
      unfold dstsOk at this
      rw [List.all_eq_true] at this
      have := this o (List.mem_iff_getElem?.2 ⟨_, hops⟩)
      rw [e] at this
      simpa using this
    have hfuel : fuel = left (listed.setIfInBounds i true) (listed.setIfInBounds i true).size := by
      have := left_set (by rw [hl.size]; exact h1) h2
      simp; omega
    have hno' : ∀ j, l.length ≤ j → j < ops.length → ¬ isOn (listed.setIfInBounds i true) j := fun j hj hj2 => by
      rw [isOn_set (by rw [hl.size]; exact h1)]
      rintro (rfl | h')
      · omega
      · exact hno j hj hj2 h'
    have hapart : ∀ (j k : Nat) (p q : Oper) (d : Nat), l[j]? = some p → l[k]? = some q → p.dst = some d → q.dst = some d → j = k := fun j k p q d hj hk hp hq => by
      have hjl := (List.getElem?_eq_some_iff.1 hj).1
      have hkl := (List.getElem?_eq_some_iff.1 hk).1
      exact hok.apart j k p q d hjl hkl (by rw [he, List.getElem?_append_left hjl, hj]) (by rw [he, List.getElem?_append_left hkl, hk]) hq hp
    have hread : ∀ (j : Nat) (p : Oper) (d : Nat), l[j]? = some p → p.dst = some d → d ∈ reads ops o → isOn listed j := fun j p d hj hp hd => by
      have hjl := (List.getElem?_eq_some_iff.1 hj).1
      exact h4 j (hok.reads i j o p d hil hjl hops (by rw [he, List.getElem?_append_left hjl, hj]) hp hd)
    have hs0 : ∀ e : List (Nat × Value), (∀ d ∈ reads ops o, lk d e = lk d (me ++ E)) → SRel g.N c ⟨restrict e (reads ops o), defs, H⟩ w a := fun e hee => by
      refine ⟨hm.heap, hm.size, fun t x e2 => ?_, hm.defs⟩
      obtain ⟨h5, h6⟩ := lk_restrict e2
      rw [hee t h5] at h6
      exact hm.tmps t x h6 (fun j p hj hp => hread j p t hj hp h5)
    have hoa : ops.toArray[i]? = some o := by simpa using hops
    have hon : ∀ j, isOn (listed.setIfInBounds i true) j ↔ i = j ∨ isOn listed j := fun j => isOn_set (by rw [hl.size]; exact h1)
    by_cases him : i ∈ mem
    · -- an operation of the tree
      have hie : i ∈ enabledM ops mem done := by
        refine List.mem_filter.2 ⟨him, ?_⟩
        have hnd : ¬ i ∈ done := fun h => h2 ((hdn i him).2 h)
        simp only [Bool.and_eq_true, Bool.not_eq_true', List.all_eq_true, Bool.or_eq_true]
        refine ⟨by simpa using hnd, fun j hj => ?_⟩
        rcases hc : ((ancs ops []).getD i []).contains j with _ | _
        · exact .inl rfl
        · refine .inr ?_
          have := h4 j (by simpa using hc)
          simpa using (hdn j hj).1 this
      obtain ⟨t', hfi', hok', hst⟩ := pickMP tr hokM hw (hfi i hie)
      unfold memStepP at hst
      rw [hops, wth_some] at hst
      have hs1 := hs0 (me ++ E) (fun d _ => rfl)
      have hdn' : ∀ j ∈ mem, (isOn (listed.setIfInBounds i true) j ↔ j ∈ i :: done) := fun j hj => by
        rw [hon, hdn j hj]; simp [eq_comm]
      have hmid : ∀ (c' : Ctx) (a' : Act) (w' : World) (H' : AHeap) (u u' : Value), c.le c' → HRel c' H' w' → DRel g.N.B c' H' w' defs a'.defers → a'.tmps = (a.put o.dst u').tmps → (∀ d, o.dst = some d → VRel c' u u') → claimOk cl i u →
          MidM g l mem cl E defs (putE o.dst u me) H' (listed.setIfInBounds i true) c' w' a' := by
        intro c' a' w' H' u u' hle hh hdf ht hu hc
        refine ⟨hh, ?_, ?_, hdf, ?_⟩
        · rw [ht, ← hm.size]; cases o.dst <;> simp [Act.put]
        · intro x v e hx
          rw [lk_append, lk_putE] at e
          by_cases hdt : o.dst = some x
          · rw [if_pos hdt] at e
            cases e
            refine ⟨u', ?_, hu x hdt⟩
            rw [ht, hdt]
            simp [Act.put, hm.size, hd1 x hdt]
          · rw [if_neg hdt, ← lk_append] at e
            obtain ⟨x', k1, k2⟩ := hm.tmps x v e (fun j p hj hp => by
              rcases (hon j).1 (hx j p hj hp) with rfl | h'
              · rw [hoat] at hj; cases hj; exact absurd hp hdt
              · exact h')
            refine ⟨x', ?_, k2.mono hle⟩
            rw [ht]
            cases hd : o.dst with
            | none => simpa [Act.put] using k1
            | some d =>
              have hne : d ≠ x := fun e => hdt (by rw [hd, e])
              simp [Act.put, hne, k1]
        · intro d v e
          rw [lk_putE] at e
          by_cases hdt : o.dst = some d
          · rw [if_pos hdt] at e
            cases e
            exact ⟨i, o, him, hoat, hdt, hc⟩
          · rw [if_neg hdt] at e
            exact hm.me d v e
      unfold wpOpIn
      simp only [hoa]
      rcases wantW_elim hs1 hst with ⟨hwn, hr⟩ | ⟨hwn, hr⟩
      · rw [if_pos hwn]
        refine opW_ok hd1 hr c w a _ _ hs1 ?_ ?_
        · rintro s c' a' w' ⟨hdf, hu⟩ hs' ht ⟨hle, x, hx⟩
          obtain ⟨u, hdu, hc, hw'⟩ := wth_elim hu
          have hm' : MidM g l mem cl E defs (putE o.dst u me) s.H (listed.setIfInBounds i true) c' w' a' := by
            refine hmid c' a' w' s.H u x hle hs'.heap (by have := hs'.defs; rwa [hdf] at this) hx (fun d hd => ?_) hc
            unfold dstV at hdu
            rw [hd] at hdu
            obtain ⟨y, k1, k2⟩ := hs'.tmps d u hdu
            rw [hx, hd] at k1
            simp [Act.put, hm.size, hd1 d hd] at k1
            rw [k1]; exact k2
          have := ih t' (i :: done) _ s.H _ c' w' a' (hl.set hi) hfuel hno' hdn' hfi' hok' hw' hm'
          exact any_tail.wpAny_mono (fun e a2 w2 hp => hp.back ht) this
        · intro v v' st' c' a' w' hKp hv hs' ht
          exact ⟨.panic v, st', c', hPp _ _ hKp, .panic hv, hs', ht⟩
      · rw [if_neg (by rw [hwn]; simp)]
        refine ⟨about_any g.lr, ?_⟩
        refine ih t' (i :: done) _ H _ c w _ (hl.set hi) hfuel hno' hdn' hfi' hok' hr.2 (hmid c _ w H noVal undef (Ctx.le_refl c) hm.heap ?_ rfl (fun d hd => .tuple .nil) hr.1)
        have : (a.put o.dst undef).defers = a.defers := by cases o.dst <;> rfl
        rw [this]; exact hm.defs
    · -- an operation that leaves memory alone
      obtain ⟨v, hs, hlk⟩ := hpure i o him hoat
      have hs := hs H
      have hee : ∀ d ∈ reads ops o, lk d E = lk d (me ++ E) := fun d hd => by
        rw [lk_append]
        cases hme : lk d me with
        | none => rfl
        | some u =>
          obtain ⟨j, p, hj, hp, hpd, hc⟩ := hm.me d u hme
          have hsome := hvis i j o p d him hj hoat hp hpd hd
          unfold claimOk at hc
          cases hlj : lk j cl with
          | none => rw [hlj] at hsome; cases hsome
          | some x =>
            rw [hlj] at hc
            simp only at hc
            rw [hcl j x p d hj hlj hp hpd, hc]
      have hs1 : SRel g.N c (ASt.only ops o ⟨E, defs, H⟩) w a := hs0 E hee
      have hdn' : ∀ j ∈ mem, (isOn (listed.setIfInBounds i true) j ↔ j ∈ done) := fun j hj => by
        rw [hon, hdn j hj]
        exact ⟨fun h => h.elim (fun e => absurd (e ▸ hj) him) id, .inr⟩
      have hmid : ∀ (c' : Ctx) (a' : Act) (w' : World) (u : Value), c.le c' → HRel c' H w' → DRel g.N.B c' H w' defs a'.defers → a'.tmps = (a.put o.dst u).tmps → (∀ d, o.dst = some d → VRel c' v u) → MidM g l mem cl E defs me H (listed.setIfInBounds i true) c' w' a' := by
        intro c' a' w' u hle hh hdf ht hu
        refine ⟨hh, ?_, ?_, hdf, hm.me⟩
        · rw [ht, ← hm.size]; cases o.dst <;> simp [Act.put]
        · intro x y e hx
          by_cases hdt : o.dst = some x
          · have e2 : lk x (me ++ E) = some v := by
              rw [lk_append]
              cases hme : lk x me with
              | none => exact hlk x hdt
              | some z =>
                obtain ⟨j, p, hj, hp, hpd, _⟩ := hm.me x z hme
                exact absurd (hapart j i p o x hp hoat hpd hdt ▸ hj) him
            rw [e2] at e; cases e
            refine ⟨u, ?_, hu x hdt⟩
            rw [ht, hdt]
            simp [Act.put, hm.size, hd1 x hdt]
          · obtain ⟨x', k1, k2⟩ := hm.tmps x y e (fun j p hj hp => by
              rcases (hon j).1 (hx j p hj hp) with rfl | h'
              · rw [hoat] at hj; cases hj; exact absurd hp hdt
              · exact h')
            refine ⟨x', ?_, k2.mono hle⟩
            rw [ht]
            cases hd : o.dst with
            | none => simpa [Act.put] using k1
            | some d =>
              have hne : d ≠ x := fun e => hdt (by rw [hd, e])
              simp [Act.put, hne, k1]
      unfold wpOpIn
      simp only [hoa]
      unfold stepW at hs
      rcases wantW_elim hs1 hs with ⟨hwn, hr⟩ | ⟨hwn, hr⟩
      · rw [if_pos hwn]
        refine opW_ok hd1 hr c w a _ _ hs1 ?_ ?_
        · rintro s c' a' w' ⟨hH, hdf, hl'⟩ hs' ht ⟨hle, x, hx⟩
          have hH : s.H = H := hH
          have hdf : s.defs = defs := hdf
          have hm' : MidM g l mem cl E defs me H (listed.setIfInBounds i true) c' w' a' := by
            have hh := hs'.heap
            rw [hH] at hh
            have hd' := hs'.defs
            rw [hdf, hH] at hd'
            refine hmid c' a' w' x hle hh hd' hx (fun d hd => ?_)
            obtain ⟨y, k1, k2⟩ := hs'.tmps d v (hl' d hd)
            rw [hx, hd] at k1
            simp [Act.put, hm.size, hd1 d hd] at k1
            rw [k1]; exact k2
          have := ih tr done me H _ c' w' a' (hl.set hi) hfuel hno' hdn' hfi hokM hw hm'
          rw [hH] at ht
          exact any_tail.wpAny_mono (fun e a2 w2 hp => hp.back ht) this
        · intro v v' st' c' a' w' hKp
          exact hKp.elim
      · rw [if_neg (by rw [hwn]; simp)]
        refine ⟨about_any g.lr, ?_⟩
        subst hr
        refine ih tr done me H _ c w _ (hl.set hi) hfuel hno' hdn' hfi hokM hw (hmid c _ w undef (Ctx.le_refl c) hm.heap ?_ rfl (fun d hd => .tuple .nil))
        have : (a.put o.dst undef).defers = a.defers := by cases o.dst <;> rfl
        rw [this]; exact hm.defs
/-- A drawing region whose first k operations are either of mem (then the tree looks at them), or leave memory alone. -/
theorem AWP.regionMP {env : List (Nat × Value)} {defs : List ADef} {H : AHeap} {id : Nat} {ops : List Oper} (k : Nat) (mem : List Nat) (cl : List (Nat × Value)) (tr : Tr) (hm : g.P.follows .mixedOrders = true) (hk : k ≤ ops.length) (hok : anyOk g.N.n ops k = true) (htr : treeOkM ops mem tr = true) (hv : visOk ops k mem cl = true)
    (h : canW g ops mem cl defs 0 (ops.take k) env (fun E => memWP (fun v st' => Q (.panic v) st') g ops cl E defs tr [] H fun me H => regionW g ops (ops.drop k) ⟨me ++ E, defs, H⟩ (fun st' => Q .normal st') (fun v st' => Q (.panic v) st'))) :
    AWP g (.region id ops.toArray true) Q ⟨env, defs, H⟩ := by
  intro c w a hs
  have hok := AnyOk.of hok
  have he : ops = ops.take k ++ ops.drop k := (List.take_append_drop k ops).symm
  have hlk : (ops.take k).length = k := by rw [List.length_take]; omega
  have hget : ∀ (i : Nat) o, (ops.take k)[i]? = some o → i < k ∧ ops[i]? = some o := fun i o ho => by
    have := (List.getElem?_eq_some_iff.1 ho).1
    rw [List.getElem?_take] at ho
    split at ho
    · exact ⟨by assumption, ho⟩
    · cases ho
  obtain ⟨E, hK, hE0, hpure, hcl⟩ := canW_elim (ops.take k) [] env h (fun i j o p d _ _ hi hj hd hd' => by
      rw [List.nil_append] at hi hj
      obtain ⟨i1, i2⟩ := hget i o hi
      obtain ⟨j1, j2⟩ := hget j p hj
      exact hok.apart i j o p d i1 j1 i2 j2 hd' hd) (fun i j o p d hi hj hd hr => by
      rw [List.nil_append] at hi hj
      obtain ⟨i1, i2⟩ := hget i o hi
      obtain ⟨j1, j2⟩ := hget j p hj
      exact anc_lt hok i j (hok.reads i j o p d i1 j1 i2 j2 hd hr))
  simp only [List.length_nil, Nat.zero_add] at hpure hcl
  simp only [treeOkM, Bool.and_eq_true] at htr
  have hvj : ∀ j ∈ mem, j < k ∧ ∀ (p : Oper) (d : Nat), ops[j]? = some p → p.dst = some d → (lk j cl).isSome = true ∨ ∀ (i : Nat) (o : Oper), i < k → ¬ i ∈ mem → ops[i]? = some o → ¬ d ∈ reads ops o := fun j hj => by
    have := List.all_eq_true.1 hv j hj
    simp only [Bool.and_eq_true, decide_eq_true_eq] at this
    refine ⟨this.1, fun p d hp hd => ?_⟩
    have h2 := this.2
    rw [hp] at h2
    simp only [hd, Bool.or_eq_true] at h2
    rcases h2 with h2 | h2
    · exact .inl h2
    · refine .inr fun i o hi him ho hdr => ?_
      have := allLt_spec h2 i hi
      rw [ho] at this
      simp only [Bool.or_eq_true, Bool.not_eq_true'] at this
      rcases this with h3 | h3
      · exact him (by simpa using h3)
      · simp [hdr] at h3
  refine wpIn_region_any hm ?_
  obtain ⟨hh, ht⟩ := hs.heap.drew g.n0
  have := any_frontMP (Kp := fun v st' => Q (.panic v) st') (g := g) (Q := Q) (ops := ops) (l := ops.take k) (t := ops.drop k) he (by rw [hlk]; exact hok) (mem := mem) (cl := cl) (E := E) (defs := defs) hpure (fun j v o d hj hv ho hd => hcl j v o d hj hv ho hd) (fun j hj => by rw [hlk]; exact (hvj j hj).1) (fun i j o p d hi hj ho hp hd hr => by
      obtain ⟨i1, i2⟩ := hget i o ho
      obtain ⟨j1, j2⟩ := hget j p hp
      rcases (hvj j hj).2 p d j2 hd with h | h
      · exact h
      · exact absurd hr (h i o i1 hi i2)) (fun v st h => h) (fun me H h => h) ops.length tr [] [] H (Array.replicate ops.length false) c w.drew a ?_ ?_ ?_ ?_ ?_ htr.2 hK ?_
  · have := any_tail.wpAny_mono (fun e a2 w2 hp => hp.back ht) this
    simpa using this
  · refine ⟨by simp, fun j o ho hj => ?_⟩
    exact absurd hj (not_isOn_replicate _ _)
  · have := left_eq (listed := Array.replicate ops.length false) (m := 0) (n := ops.length) (Nat.zero_le _) (fun i hi => ⟨fun h => absurd h (not_isOn_replicate _ _), fun h => by omega⟩)
    simpa using this.symm
  · intro i _ hi
    exact not_isOn_replicate _ _
  · intro j _
    exact ⟨fun h => absurd h (not_isOn_replicate _ _), fun h => by cases h⟩
  · intro i hi
    have := List.all_eq_true.1 htr.1 i hi
    simpa using this
  · refine ⟨hh, hs.size, fun x v e hx => ?_, hs.defs.step (n := g.n0) (Ctx.le_refl c) ht, fun d v e => by cases e⟩
    have e2 : lk x env = some v := by
      rw [← e]
      show lk x env = lk x E
      refine (hE0 x fun o ho hd => ?_).symm
      obtain ⟨j, hj⟩ := List.mem_iff_getElem?.1 ho
      exact absurd (hx j o hj hd) (not_isOn_replicate _ _)
    exact hs.tmps x v e2
theorem runM_consP {ops : List Oper} {cl E me : List (Nat × Value)} {defs : List ADef} {H : AHeap} {K : List (Nat × Value) → AHeap → Prop} {j : Nat} {r : List Nat} : runMP Kp g ops cl E defs (j :: r) me H K = memStepP Kp g ops cl E defs j me H fun me H => runMP Kp g ops cl E defs r me H K := rfl
theorem memW_runP {ops : List Oper} {cl E me : List (Nat × Value)} {defs : List ADef} {H : AHeap} {K : List (Nat × Value) → AHeap → Prop} {l : List Nat} : memWP Kp g ops cl E defs (.run l) me H K = runMP Kp g ops cl E defs l me H K := rfl
theorem memW_bP {ops : List Oper} {cl E me : List (Nat × Value)} {defs : List ADef} {H : AHeap} {K : List (Nat × Value) → AHeap → Prop} {a b : Tr} (h1 : memWP Kp g ops cl E defs a me H K) (h2 : memWP Kp g ops cl E defs b me H K) : memWP Kp g ops cl E defs (.both a b) me H K := ⟨h1, h2⟩
theorem memW_sP {ops : List Oper} {cl E me : List (Nat × Value)} {defs : List ADef} {H : AHeap} {K : List (Nat × Value) → AHeap → Prop} {j : Nat} {t : Tr} {o : Oper} (ho : ops[j]? = some o) (h : wantW ops o ⟨restrict (me ++ E) (reads ops o), defs, H⟩
    (opW g o ⟨restrict (me ++ E) (reads ops o), defs, H⟩ (fun s => s.defs = defs ∧ wth (dstV o s) fun u => claimOk cl j u ∧ memWP Kp g ops cl E defs t (putE o.dst u me) s.H K) Kp)
    (claimOk cl j noVal ∧ memWP Kp g ops cl E defs t (putE o.dst noVal me) H K)) : memWP Kp g ops cl E defs (.step j t) me H K := by
  show memStepP Kp g ops cl E defs j me H _
  unfold memStepP
  rw [ho]
  exact h
theorem memW_rP {ops : List Oper} {cl E me : List (Nat × Value)} {defs : List ADef} {H : AHeap} {K : List (Nat × Value) → AHeap → Prop} {j : Nat} {r : List Nat} {o : Oper} (ho : ops[j]? = some o) (h : wantW ops o ⟨restrict (me ++ E) (reads ops o), defs, H⟩
    (opW g o ⟨restrict (me ++ E) (reads ops o), defs, H⟩ (fun s => s.defs = defs ∧ wth (dstV o s) fun u => claimOk cl j u ∧ memWP Kp g ops cl E defs (.run r) (putE o.dst u me) s.H K) Kp)
    (claimOk cl j noVal ∧ memWP Kp g ops cl E defs (.run r) (putE o.dst noVal me) H K)) : memWP Kp g ops cl E defs (.run (j :: r)) me H K := by
  simp only [memW_runP] at h
  rw [memW_runP, runM_consP]
  unfold memStepP
  rw [ho]
  exact h
theorem memW_eP {ops : List Oper} {cl E me : List (Nat × Value)} {defs : List ADef} {H : AHeap} {K : List (Nat × Value) → AHeap → Prop} (h : K me H) : memWP Kp g ops cl E defs (.run []) me H K := h
end
end Go.Aw


set_option linter.unusedVariables false
set_option linter.unusedSimpArgs false
set_option maxHeartbeats 4000000
namespace Go.Aw
open Go
theorem VRel.if_plain {c : Ctx} {t : TypeId} {v : Value} (h : plain v = true) : VRel c (.iface t v) (.iface t v) := .iface (.of_plain h)
theorem VRel.if_plain_eq {c : Ctx} {t : TypeId} {v u : Value} (h : VRel c (.iface t v) u) (hp : plain v = true) : u = .iface t v := by
  cases h with
  | iface h => rw [h.plain_eq hp]
theorem AD.enterR2 {P : Program} {f : FuncId} {fn : Func} {id : Nat} {o1 o2 : Oper} {rest : Code} {args : List Value} {H : AHeap} {K : AMode → AHeap → Prop} {mo : AMode} {d x : Nat}
    (hf : P.funcs[f]? = some fn) (hb : fn.body = some (.seq (.region id #[o1, o2] false) rest)) (hname : (fn.name == "runtime.NumGoroutine") = false)
    (N : Nat) (hN : fn.ntmps = N) (hrs : fn.results = #[]) (hsz : args.length ≤ N)
    (h1 : o1.op = .call ⟨.builtin .recover, #[], #[]⟩) (h1d : o1.dst = some d) (h1g : o1.guard = none) (h2 : o2.op = .assign (.tmp d)) (h2d : o2.dst = some x) (h2g : o2.guard = none) (hd : d < N) (hx : x < N) (hmv : ∀ c : Ctx, VRel c mo.val mo.val) (hmp : ∀ (c : Ctx) v1, VRel c mo.val v1 → v1 = mo.val)
    (h : Scoped H → ∀ B, AWP ⟨P, none, ⟨N, B⟩, H.length⟩ rest (DPost H.length (K .ret)) ⟨(x, mo.val) :: (d, mo.val) :: argEnv 0 args, [], H⟩) : AD P f args H mo K := by
  refine ⟨⟨fn, hf, by rw [hb]; rfl, hname⟩, fun c w vargs u hh hv hm => ?_⟩
  refine callsDIn_of_wpSIn hf hb trivial fun c₀ cs hu => ?_
  refine wpSIn_seq (wpSIn_region ?_)
  have hs0 : SRel ⟨N, w.heap.size⟩ c ⟨argEnv 0 args, [], H⟩ w { tmps := (⟨vargs⟩ : Array Value) ++ Array.replicate (fn.ntmps - (⟨vargs⟩ : Array Value).size) undef, defers := [] } := by
    refine ⟨hh, ?_, ?_, .nil (Nat.le_refl _)⟩
    · have := hv.length
      simp; omega
    · intro t v e
      have := argEnv_lk (rest := Array.replicate (fn.ntmps - (⟨vargs⟩ : Array Value).size) undef) hv 0 [] rfl t v e
      simpa using this
  generalize ({ tmps := (⟨vargs⟩ : Array Value) ++ Array.replicate (fn.ntmps - (⟨vargs⟩ : Array Value).size) undef, defers := [] } : Act) = a0 at hs0
  have hvv : VRel c mo.val mo.val := hmv c
  have hs1 : SRel ⟨N, w.heap.size⟩ c ⟨(d, mo.val) :: argEnv 0 args, [], H⟩ w (a0.put (some d) mo.val) := hs0.put (dst := some d) (fun e he => by cases he; exact hd) hvv
  have hs2 : SRel ⟨N, w.heap.size⟩ c ⟨(x, mo.val) :: (d, mo.val) :: argEnv 0 args, [], H⟩ w ((a0.put (some d) mo.val).put (some x) mo.val) := hs1.put (dst := some x) (fun e he => by cases he; exact hx) hvv
  have hev : (a0.put (some d) mo.val).eval (.tmp d) = mo.val := by
    obtain ⟨v', e1, e2⟩ := hs1.tmps d mo.val (by simp [lk])
    have := hmp _ _ e2
    subst this
    simp only [Act.eval]
    rw [Array.getD_eq_getD_getElem?, e1]; rfl
  obtain ⟨u1, hu1, hset⟩ : ∃ u1, recoverD (c₀ :: cs) = (match mo with | .ret => none | .pan v => some (v, { c₀ with mode := u1 } :: cs)) ∧ (match mo with | .ret => u1 = c₀.mode ∧ settle u1 = .returning | .pan v => settle u1 = .returning) := by
    cases hm with
    | ret => exact ⟨c₀.mode, by simp [recoverD, hu], rfl, by rw [hu]; rfl⟩
    | pan hv =>
      have := hmp _ _ hv
      subst this
      exact ⟨_, by simp [recoverD, hu]; rfl, rfl⟩
  have hfin : ({ c₀ with mode := u1 } : Frame) = c₀ ∨ True := .inr trivial
  have key : ∀ (cs1 : List Frame), cs1 = { c₀ with mode := u1 } :: cs → Exit.thenS (rest.wpSIn Fence.wide 0 P (bodyPostS P fn c₀ cs fun e u' w' => ∃ v mo' c' H', e = .returned v ∧ K mo' H' ∧ MRel c' mo' (settle u') ∧ HRel c' H' w' ∧ Trans H.length c H w c' H' w'))
      (bodyPostS P fn c₀ cs fun e u' w' => ∃ v mo' c' H', e = .returned v ∧ K mo' H' ∧ MRel c' mo' (settle u') ∧ HRel c' H' w' ∧ Trans H.length c H w c' H' w') .normal ((a0.put (some d) mo.val).put (some x) mo.val) cs1 w := by
    intro cs1 hcs1
    subst hcs1
    simp only [Exit.thenS]
    refine wpSIn_of_wpIn rfl (wpIn_mono (h hh.inside w.heap.size c w _ hs2) ?_)
    rintro e a' w' ⟨x1, st', c', hq, hx1, hs', ht⟩
    have fin : st'.defs = [] → (∃ H2, WeakV H.length st'.H noVal H2 noVal ∧ K .ret H2) → a'.defers = [] ∧ ∃ u', ({ c₀ with mode := u1 } : Frame) :: cs = { c₀ with mode := u' } :: cs ∧ ∃ v, (results fn a'.tmps).run P w' = .ok v w' ∧ ∃ v_1 mo' c' H', Ending.returned v = .returned v_1 ∧ K mo' H' ∧ MRel c' mo' (settle u') ∧ HRel c' H' w' ∧ Trans H.length c H w c' H' w' := by
      rintro hde ⟨H2, hw2, hk⟩
      obtain ⟨st'e, st'd, st'h⟩ := st'
      simp only at hde
      subst hde
      have hdd := hs'.defs
      cases a'
      cases hdd
      obtain ⟨c2, g1, _, g3⟩ := hw2 c' w' noVal hs'.heap (.tuple .nil)
      refine ⟨rfl, u1, rfl, noVal, ?_, noVal, .ret, c2, H2, rfl, hk, ?_, g1, ht.trans g3⟩
      · rw [results_eq, hrs]
        simp [noVal]
      · have : settle u1 = .returning := by cases mo <;> first | exact hset | exact hset.2
        rw [this]; exact .ret
    cases hx1 with
    | normal => exact fin hq.1 hq.2
    | ret => exact fin hq.1 hq.2
    | panic hv2 => exact hq.elim
    | exit id => exact hq.elim
    | goto l => exact hq.elim
  have hw1 : ∀ a : Act, Region.wanted o1 (yielded #[o1, o2] a.tmps) = true := fun a => by simp [Region.wanted, h1g]
  have hw2 : ∀ a : Act, Region.wanted o2 (yielded #[o1, o2] a.tmps) = true := fun a => by simp [Region.wanted, h2g]
  have hr1 : (execOp a0.eval o1).run P w = .ok .recover w := by
    simp only [execOp, h1]
    rfl
  have hr2 : (execOp (a0.put (some d) mo.val).eval o2).run P w = .ok (.value mo.val) w := by
    simp only [execOp, h2]
    rw [hev]
    rfl
  show wpOpsSIn Fence.wide 0 P #[o1, o2] _ [0, 1] a0 (c₀ :: cs) w
  unfold wpOpsSIn
  simp only [List.getElem?_toArray, List.getElem?_cons_zero, hw1, if_true, hr1]
  refine ⟨fun _ _ => trivial, ?_⟩
  rw [hu1]
  cases mo with
  | ret =>
    simp only
    unfold wpOpsSIn
    simp only [List.getElem?_toArray, List.getElem?_cons_succ, List.getElem?_cons_zero, hw2, if_true]
    refine ⟨fun _ _ => trivial, ?_⟩
    rw [h1d]
    rw [show (Value.nilIface) = AMode.ret.val from rfl, hr2]
    simp only
    unfold wpOpsSIn
    rw [h2d]
    refine key _ ?_
    rw [hset.1]
  | pan v =>
    simp only
    unfold wpOpsSIn
    simp only [List.getElem?_toArray, List.getElem?_cons_succ, List.getElem?_cons_zero, hw2, if_true]
    refine ⟨fun _ _ => trivial, ?_⟩
    rw [h1d]
    have hr2' : (execOp (a0.put (some d) v).eval o2).run P w = .ok (.value v) w := hr2
    rw [hr2']
    simp only
    unfold wpOpsSIn
    rw [h2d]
    exact key _ rfl
theorem op_deferT {g : Cfg} {st : ASt} {K : ASt → Prop} {Kp : Value → ASt → Prop} {d : Option Tmp} {t : TypeId} {ps : String} {af : Array Edge} {gu : Option (Nat × Bool)} {x : Tmp} {xs : Array Operand} {ts : Array TypeId} :
    opW g ⟨d, .defer ⟨.value (.tmp x), xs, ts⟩, t, ps, af, gu⟩ st K Kp = (g.lr = none ∧ wth (evs st xs.toList) fun args => wth (lk x st.env) fun fv => match fv with
      | .func f ⟨first⟩ ⟨cap⟩ => K (ASt.put ⟨st.env, .call f cap (first ++ args) :: st.defs, st.H⟩ d noVal)
      | _ => False) := by
  simp only [opW, ev]
  rfl
attribute [go_sem ↓] op_deferT
end Go.Aw


set_option linter.unusedVariables false
set_option linter.unusedSimpArgs false
namespace Go.Aw
open Go.RowKit Go.ChangeShapes Go.WideShapes Go.ChangeAt
/-- A table of numbers that a package-level variable holds. -/
def tabO (e : TypeId) (g : Nat) (k : IntKind) (zs : List Int) : AObj := .cells (zs.map (Value.int k)) ⟨e, 0, false, 0, some g⟩
theorem tab_scalar (k : IntKind) : ∀ zs : List Int, (zs.map (Value.int k)).all scalar = true
  | [] => rfl
  | z :: zs => by rw [List.map_cons, List.all_cons, tab_scalar k zs]; rfl
theorem tabIs_of_rel {P : Program} {c : Ctx} {H : AHeap} {w : World} (h : HRel c H w) {name : String} {g : Nat} {e : TypeId} {k : IntKind} {zs : List Int} (hn : P.globalNamed name = some g) (hg : H[g]? = some (tabO e g k zs)) : Lib.TabIs P w name k zs := by
  obtain ⟨p, hp, hr⟩ := h.obj g _ hg rfl
  obtain ⟨h1, h2, hx, hgl, arr, lo, hi, hb, hc, h3, _⟩ := hr
  obtain ⟨q1, q2, q3⟩ := hgl g rfl
  have hsz := q3 arr _ hb
  unfold Lib.TabIs World.var?
  rw [hn]
  show (match w.heap[g]? with | some (.cells cs _ _) => some cs | _ => none) = _
  rw [← q1, hb]
  have : arr = (zs.map (Value.int k)).toArray := by
    apply Array.ext'
    refine List.ext_getElem? fun i => ?_
    by_cases hi : i < (zs.map (Value.int k)).length
    · obtain ⟨v', e1, e2⟩ := hc i _ (List.getElem?_eq_getElem hi)
      rw [q2, Nat.zero_add] at e1
      have hs : scalar ((zs.map (Value.int k))[i]) = true := List.all_eq_true.1 (tab_scalar k zs) _ (List.getElem_mem _)
      have := e2.scalar_eq hs
      subst this
      rw [Array.getElem?_toList, e1, List.toList_toArray, List.getElem?_eq_getElem hi]
    · have h0 : arr.toList.length = (zs.map (Value.int k)).length := by simpa using hsz
      rw [List.getElem?_eq_none (by omega), List.getElem?_eq_none (by simpa using hi)]
  exact congrArg some this
theorem ARet.ofCallsT {P : Program} {f : FuncId} {fn : Func} {args : List Value} {v : Value} (hf : P.funcs[f]? = some fn) (hb : fn.body.isSome = true) (hn : (fn.name == "runtime.NumGoroutine") = false) (ha : args.all scalar = true) (hv : scalar v = true)
    (H : AHeap) (R : World → Prop) (hR : ∀ c w, HRel c H w → R w) (h : ∀ w, R w → Calls P f ⟨args⟩ w fun e w' => e = .returned v ∧ Below w.heap.size w w') : ARet P f args H v H := by
  intro c w vargs hh hvs
  have e := hvs.scalars_eq ha
  subst e
  unfold CallTo
  have hbn : fn.body.isNone = false := by cases hfb : fn.body <;> simp_all
  have hr : (callFunc f ⟨args⟩).run P w = .ok (.enter f ⟨args⟩) w := by
    simp only [callFunc, Sem.run_bind, run_program, Result.andThen_ok, hf, hn, Bool.false_eq_true, if_false, hbn]
    rfl
  rw [hr]
  refine (h w (hR c w hh)).mono fun e w' ⟨he, hbl⟩ => ?_
  subst he
  exact ⟨.ret v, c, H, ⟨rfl, rfl⟩, .ret (.of_scalar hv), hh.below hbl, .below hbl⟩
theorem Lent.pad {c : Ctx} {H : AHeap} {w : World} (h : Lent c H w) (n : Nat) : Lent c (H ++ List.replicate n .dead) w := by
  have hd : ∀ (i : Nat) (o : AObj), (H ++ List.replicate n AObj.dead)[i]? = some o → o = .dead ∨ H[i]? = some o := fun i o e => by
    by_cases hi : i < H.length
    · right; rwa [hgetl hi] at e
    · left
      rw [List.getElem?_append_right (by omega)] at e
      exact List.eq_of_mem_replicate (List.mem_of_getElem? e)
  refine ⟨⟨fun i o e hl => ?_, fun i j oi oj pi pj hij hi hj ci cj ho hl => ?_, fun i hi => h.rel.fresh i (by simp at hi; omega)⟩, fun i o e => ?_⟩
  · rcases hd i o e with rfl | e
    · cases hl
    · exact h.rel.obj i o e hl
  · rcases hd i oi hi with rfl | e1
    · cases ho
    · rw [h.own i oi e1] at ho; cases ho
  · rcases hd i o e with rfl | e
    · rfl
    · exact h.own i o e
/-- A package-level table is lent under its own number. -/
theorem Lent.tab {P : Program} {c : Ctx} {H : AHeap} {w : World} (h : Lent c H w) {name : String} {g : Nat} {k : IntKind} {zs : List Int} (hn : P.globalNamed name = some g) (hl : H.length ≤ g) (ht : Lib.TabIs P w name k zs) :
    ∃ (c' : Ctx) (e : TypeId), Lent c' (H ++ (List.replicate (g - H.length) .dead ++ [tabO e g k zs])) w ∧ c.le c' := by
  unfold Lib.TabIs World.var? at ht
  rw [hn] at ht
  have ht' : (match w.heap[g]? with | some (.cells cs _ _) => some cs | _ => none) = some (zs.map fun z => Value.int k z).toArray := ht
  obtain ⟨e, fr, hb⟩ : ∃ e fr, w.heap[g]? = some (.cells (zs.map (Value.int k)).toArray e fr) := by
    split at ht'
    · rename_i cs e fr hb
      have e1 := Option.some.inj ht'
      subst e1
      exact ⟨e, fr, hb⟩
    · cases ht'
  have hp := h.pad (g - H.length)
  have hlen : (H ++ List.replicate (g - H.length) AObj.dead).length = g := by simp; omega
  simp only [← List.append_assoc]
  generalize H ++ List.replicate (g - H.length) AObj.dead = H1 at hp hlen ⊢
  have hle : c.le (c.add H1.length ⟨g, 0, zs.length, 0, 0⟩) := Ctx.le_add _ (hp.rel.fresh _ (Nat.le_refl _))
  have hlast : ∀ (i : Nat) (o : AObj), (H1 ++ [tabO e g k zs])[i]? = some o → ¬ i < H1.length → i = H1.length ∧ o = tabO e g k zs := fun i o hi h1 => by
    have hlt := lt_of_get hi
    simp at hlt
    have : i = H1.length := by omega
    subst this
    rw [hget0 rfl] at hi
    simp at hi
    exact ⟨rfl, hi.symm⟩
  refine ⟨c.add H1.length ⟨g, 0, zs.length, 0, 0⟩, e, ⟨⟨fun i o hi hlv => ?_, fun i j oi oj pi pj hij hi hj _ _ ho _ => ?_, fun i hi => ?_⟩, fun i o hi => ?_⟩, hle⟩
  · by_cases h1 : i < H1.length
    · rw [hgetl h1] at hi
      obtain ⟨p, hp', hr⟩ := hp.rel.obj i o hi hlv
      exact ⟨p, hle _ _ hp', hr.keep hle hlv rfl⟩
    · obtain ⟨rfl, rfl⟩ := hlast i o hi h1
      refine ⟨⟨g, 0, zs.length, 0, 0⟩, by simp [Ctx.add], by simp, rfl, fun _ => ⟨rfl, fun o => (by cases o)⟩, fun n hn' => ⟨Option.some.inj hn', rfl, fun a r hh => ?_⟩, (zs.map (Value.int k)).toArray, fr.1, fr.2, hb, ?_, by simp, fun hk => by cases hk⟩
      · rw [hb] at hh
        cases hh
        rfl
      · intro j v hj
        exact ⟨v, by rw [Nat.zero_add]; simpa using hj, .of_scalar (List.all_eq_true.1 (tab_scalar k zs) _ (List.mem_of_getElem? hj))⟩
  · by_cases h1 : i < H1.length
    · rw [hgetl h1] at hi
      rw [hp.own i oi hi] at ho; cases ho
    · obtain ⟨rfl, rfl⟩ := hlast i oi hi h1
      cases ho
  · simp at hi
    rw [Ctx.add_other _ _ (by omega)]; exact hp.rel.fresh i (by omega)
  · by_cases h1 : i < H1.length
    · rw [hgetl h1] at hi; exact hp.own i o hi
    · obtain ⟨rfl, rfl⟩ := hlast i o hi h1
      rfl
end Go.Aw


set_option linter.unusedVariables false
set_option linter.unusedSimpArgs false
namespace Go.Aw
open Go.Proofs Go.Shelf
theorem ARet.copyCheck {P : Program} {ρ : Ren} (L : Lays.n240 P ρ) (X : Builder.X72 P ρ) {i : Nat} {p sl : Value} {H : AHeap} (hb : ((P.funcs[ρ.f 240]?).bind (·.body)).isSome = true) (hnm : ((P.funcs[ρ.f 240]?).map fun f => f.name == "runtime.NumGoroutine") = some false)
    (hi : H[i]? = some (.cells [p, sl] ⟨ρ.t 72, 0, true, 0, none⟩)) (hp : p = .pointer none ∨ p = .pointer (some ⟨i, 0, none⟩)) :
    ARet P (ρ.f 240) [.pointer (some ⟨i, 0, none⟩)] H noVal (H.set i (.cells [.pointer (some ⟨i, 0, none⟩), sl] ⟨ρ.t 72, 0, true, 0, none⟩)) := by
  intro c w vargs hh hvs
  obtain ⟨v', rfl, hv⟩ := hvs.one
  cases hv with
  | ptr hc =>
  rename_i q
  obtain ⟨q', hq', hr⟩ := hh.obj i _ hi rfl
  rw [hc] at hq'; cases hq'
  obtain ⟨r1, r2, r3, r4, arr, lo, hi', r5, r6, r7, r8⟩ := hr
  obtain ⟨_, r3⟩ := r3 rfl
  obtain ⟨hbase, hsz⟩ := r3 rfl
  have hsz := hsz arr _ r5
  have hself : VRel c (.pointer (some ⟨i, 0, none⟩)) (.pointer (some ⟨q.block, q.base + 0, none⟩)) := .ptr hc
  obtain ⟨_, hfz, hS, hT⟩ := hh.setCell hi rfl hc (off := 0) (by simp) (Nat.zero_le _) hself H.length
  obtain ⟨u, hu, hvu⟩ := hh.cell hi hc (off := 0) (v := p) rfl
  rw [hbase] at hfz hS hT hu hself ⊢
  simp only [Nat.add_zero, List.set_cons_zero] at hfz hS hT hu hself ⊢
  have hsh : w.shape? q.block = some (ρ.t 72, 2) := by simp [World.shape?, r5, hsz]
  unfold CallTo
  cases hfn : P.funcs[ρ.f 240]? with
  | none => rw [hfn] at hb; cases hb
  | some fn =>
  rw [hfn] at hb hnm
  have hbn : fn.body.isNone = false := by cases hfb : fn.body <;> simp_all
  have hn : (fn.name == "runtime.NumGoroutine") = false := by simpa using hnm
  have hrun : (callFunc (ρ.f 240) ⟨[.pointer (some ⟨q.block, 0, none⟩)]⟩).run P w = .ok (.enter (ρ.f 240) ⟨[.pointer (some ⟨q.block, 0, none⟩)]⟩) w := by
    simp only [callFunc, Sem.run_bind, run_program, Result.andThen_ok, hfn, hn, Bool.false_eq_true, if_false, hbn]
    rfl
  rw [hrun]
  rcases hp with rfl | rfl
  · cases hvu
    refine (Any.Builder_copyCheck_fresh L X q.block w hu hsh hfz).mono fun e w' ⟨he, hw'⟩ => ?_
    subst he; subst hw'
    exact ⟨.ret noVal, c, _, ⟨rfl, rfl⟩, .ret (.tuple .nil), hS, hT⟩
  · cases hvu with
    | ptr hc2 =>
    rw [hc] at hc2; cases hc2
    rw [hbase] at hu
    refine (Any.Builder_copyCheck_used L X q.block w hu).mono fun e w' ⟨he, hw'⟩ => ?_
    subst he; subst hw'
    refine ⟨.ret noVal, c, H, ⟨rfl, (set_same hi).symm⟩, .ret (.tuple .nil), hh, .refl _ _ _ _⟩

end Go.Aw


set_option linter.unusedVariables false
namespace Go.Aw
end Go.Aw


set_option linter.unusedVariables false
namespace Go.Aw
def hP : UInt64 := 1099511628211
def hG : UInt64 := 11400714819323198485
def hB : UInt64 := 14695981039346656037
/-! ### Lists that are filled, one by one -/
end Go.Aw
namespace Go.Aw
end Go.Aw
namespace Go.Aw
end Go.Aw
namespace Go.Aw
theorem putCells_eq : ∀ (l cs : List Value) (off : Nat), off + l.length ≤ cs.length → putCells cs off l = cs.take off ++ l ++ cs.drop (off + l.length)
  | [], cs, off, h => by simp [putCells]
  | v :: l, cs, off, h => by
    rw [List.length_cons] at h
    unfold putCells
    rw [putCells_eq l (cs.set off v) (off + 1) (by rw [List.length_set]; omega), List.take_add_one, List.getElem?_set_self (by omega), List.take_set_of_le (Nat.le_refl _), List.drop_set_of_lt (by omega), List.length_cons]
    simp [Nat.add_assoc, Nat.add_comm 1]
end Go.Aw


set_option linter.unusedVariables false
set_option linter.unusedSimpArgs false
namespace Go.Aw
open Go.Proofs Go.Shelf Go.ChangeShapes Go.WideShapes Go.ChangeAt Go.RowKit
end Go.Aw
namespace Go.Aw
end Go.Aw
namespace Go.Aw
theorem DName.one {m : Names} {f : FuncId} {i j : Nat} (h : m i = some i) : DName m [.call (.func f) [] [.pointer (some ⟨i, j, none⟩)]] [.call (.func f) [] [.pointer (some ⟨i, j, none⟩)]] :=
  .call .nil (.cons (.ptr h) .nil) .nil
end Go.Aw


set_option linter.unusedVariables false
namespace Go.Aw
theorem AC.forget {P : Program} {f : FuncId} {args : List Value} {H : AHeap} {v : Value} (hv : plain v = true) (h : AC P f args H (fun r H2 => r = .ret v ∧ Frm [] H H2)) : ARet P f args H v H :=
  fun c w vargs hh hvs => (h c w vargs hh hvs).mono fun e w' hp => by
    obtain ⟨r, c', H', ⟨rfl, hf⟩, h2, h3, h4⟩ := hp
    have hspl : ∃ Y, H' = H ++ Y := by
      have hf' : Frm [] (H ++ []) H' := by rw [List.append_nil]; exact hf
      exact Frm.split hf' (fun s hs => by cases hs)
    obtain ⟨Y, rfl⟩ := hspl
    cases h2 with
    | ret hr =>
      obtain ⟨c2, g1, g2, g3⟩ := WeakV.drop (l := Y) (n := H.length) rfl hh.inside (NRel.of_plain hv) c' w' _ h3 hr
      exact ⟨_, c2, H, ⟨rfl, rfl⟩, .ret g2, g1, Trans.trans h4 g3⟩
end Go.Aw


set_option linter.unusedVariables false
set_option linter.unusedSimpArgs false
namespace Go.Aw
open Go.RowKit Go.ChangeShapes Go.WideShapes Go.ChangeAt
inductive FK where
  | i (k : IntKind)
  | s
  | b
def FK.fits (bnd : Nat) : FK → Value → Prop
  | .i k, v => ∃ z, v = .int k z ∧ (Lit.int k z).wf = true
  | .s, v => ∃ s : List UInt8, v = .string (bs s) ∧ s.length ≤ bnd
  | .b, v => ∃ c : Bool, v = .bool c
inductive Fits (bnd : Nat) : List FK → List Value → Prop
  | nil : Fits bnd [] []
  | cons {k : FK} {v : Value} {ks : List FK} {vs : List Value} : k.fits bnd v → Fits bnd ks vs → Fits bnd (k :: ks) (v :: vs)
theorem Fits.append {bnd : Nat} : ∀ {ks : List FK} {vs : List Value} {ks' : List FK} {vs' : List Value}, Fits bnd ks vs → Fits bnd ks' vs' → Fits bnd (ks ++ ks') (vs ++ vs')
  | _, _, _, _, .nil, h => h
  | _, _, _, _, .cons a b, h => .cons a (Fits.append b h)
theorem Fits.len {bnd : Nat} : ∀ {ks : List FK} {vs : List Value}, Fits bnd ks vs → vs.length = ks.length
  | _, _, .nil => rfl
  | _, _, .cons a b => by simp [Fits.len b]
theorem FK.fits_scalar {bnd : Nat} {k : FK} {v : Value} (h : k.fits bnd v) : scalar v = true := by
  cases k <;> (unfold FK.fits at h; obtain ⟨_, h⟩ := h; first | (obtain ⟨rfl, _⟩ := h; rfl) | (subst h; rfl))
theorem Fits.scalar {bnd : Nat} : ∀ {ks : List FK} {vs : List Value}, Fits bnd ks vs → vs.all Go.Aw.scalar = true
  | _, _, .nil => rfl
  | _, _, .cons a b => by rw [List.all_cons, FK.fits_scalar a, Fits.scalar b]; rfl
end Go.Aw

