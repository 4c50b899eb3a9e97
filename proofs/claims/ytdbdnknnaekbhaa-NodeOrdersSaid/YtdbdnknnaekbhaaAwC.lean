/-
  The abstract memory and the walk of code over it, part 3.
-/
import Derived.Test.YtdbdnknnaekbhaaAwB
import Derived.SliceStrings
import Derived.SizedLaws
import Derived.Lib.LaidTab
import Derived.RecoverIn
import Derived.LoopNIn
set_option linter.unusedVariables false
set_option linter.unusedSimpArgs false
namespace Go.Aw
/-- What is claimed of an operation's value. -/
def claimOk (cl : List (Nat × Value)) (j : Nat) (u : Value) : Prop := match lk j cl with | none => True | some v => u = v
def putE (d : Option Tmp) (v : Value) (e : List (Nat × Value)) : List (Nat × Value) := match d with | some d => (d, v) :: e | none => e
def putCl (d : Option Tmp) (v : Option Value) (e : List (Nat × Value)) : List (Nat × Value) := match v with | some v => putE d v e | none => e
/-- The operations in the text's order; of those in mem only what is claimed. -/
def canW (g : Cfg) (ops : List Oper) (mem : List Nat) (cl : List (Nat × Value)) (defs : List ADef) : Nat → List Oper → List (Nat × Value) → (List (Nat × Value) → Prop) → Prop
  | _, [], e, K => K e
  | i, o :: r, e, K => if mem.contains i = true then canW g ops mem cl defs (i + 1) r (putCl o.dst (lk i cl) e) K
      else ∃ v, (∀ H, stepW g ops o ⟨e, defs, H⟩ v) ∧ canW g ops mem cl defs (i + 1) r (putE o.dst v e) K
def memStep (g : Cfg) (ops : List Oper) (cl : List (Nat × Value)) (E : List (Nat × Value)) (defs : List ADef) (j : Nat) (me : List (Nat × Value)) (H : AHeap) (K : List (Nat × Value) → AHeap → Prop) : Prop :=
  wth ops[j]? fun o => wantW ops o ⟨restrict (me ++ E) (reads ops o), defs, H⟩
    (opW g o ⟨restrict (me ++ E) (reads ops o), defs, H⟩ (fun s => s.defs = defs ∧ wth (dstV o s) fun u => claimOk cl j u ∧ K (putE o.dst u me) s.H) (fun _ _ => False))
    (claimOk cl j noVal ∧ K (putE o.dst noVal me) H)
def runM (g : Cfg) (ops : List Oper) (cl : List (Nat × Value)) (E : List (Nat × Value)) (defs : List ADef) : List Nat → List (Nat × Value) → AHeap → (List (Nat × Value) → AHeap → Prop) → Prop
  | [], me, H, K => K me H
  | j :: r, me, H, K => memStep g ops cl E defs j me H fun me H => runM g ops cl E defs r me H K
def memW (g : Cfg) (ops : List Oper) (cl : List (Nat × Value)) (E : List (Nat × Value)) (defs : List ADef) : Tr → List (Nat × Value) → AHeap → (List (Nat × Value) → AHeap → Prop) → Prop
  | .run l, me, H, K => runM g ops cl E defs l me H K
  | .step j t, me, H, K => memStep g ops cl E defs j me H fun me H => memW g ops cl E defs t me H K
  | .both a b, me, H, K => memW g ops cl E defs a me H K ∧ memW g ops cl E defs b me H K
/-- What of mem may come next. -/
def enabledM (ops : List Oper) (mem L : List Nat) : List Nat := mem.filter fun i => !L.contains i && mem.all fun j => !((ancs ops []).getD i []).contains j || L.contains j
def okRunM (ops : List Oper) (mem : List Nat) : List Nat → List Nat → Bool
  | _, [] => true
  | L, j :: r => (enabledM ops mem L).contains j && ((enabledM ops mem (j :: L)).all fun i => (r.take 1).contains i) && okRunM ops mem (j :: L) r
def okM (ops : List Oper) (mem : List Nat) : List Nat → Tr → Bool
  | L, .run l => okRunM ops mem L l
  | L, .step j t => (enabledM ops mem L).contains j && ((enabledM ops mem (j :: L)).all fun i => t.firsts.contains i) && okM ops mem (j :: L) t
  | L, .both a b => okM ops mem L a && okM ops mem L b
def visOk (ops : List Oper) (k : Nat) (mem : List Nat) (cl : List (Nat × Value)) : Bool :=
  mem.all fun j => decide (j < k) && (match ops[j]? with
    | some p => (match p.dst with
      | some d => (lk j cl).isSome || allLt k fun i => mem.contains i || (match ops[i]? with | some o => !(reads ops o).contains d | none => true)
      | none => true)
    | none => true)
def treeOkM (ops : List Oper) (mem : List Nat) (t : Tr) : Bool := ((enabledM ops mem []).all fun i => t.firsts.contains i) && okM ops mem [] t
theorem lk_append {t : Nat} {a b : List (Nat × Value)} : lk t (a ++ b) = match lk t a with | some v => some v | none => lk t b := by
  induction a with
  | nil => rfl
  | cons e r ih =>
    obtain ⟨k, v⟩ := e
    simp only [List.cons_append, lk_cons]
    split
    · rfl
    · exact ih
theorem lk_putE {t : Nat} {d : Option Tmp} {v : Value} {e : List (Nat × Value)} : lk t (putE d v e) = if d = some t then some v else lk t e := by
  cases d with
  | none => simp [putE]
  | some d => simp [putE, lk_cons]
theorem pickM {g : Cfg} {ops : List Oper} {mem : List Nat} {cl E : List (Nat × Value)} {defs : List ADef} {K : List (Nat × Value) → AHeap → Prop} {me : List (Nat × Value)} {H : AHeap} {L : List Nat} {j : Nat} : ∀ (t : Tr), okM ops mem L t = true → memW g ops cl E defs t me H K → j ∈ t.firsts →
    ∃ t', (∀ i ∈ enabledM ops mem (j :: L), i ∈ t'.firsts) ∧ okM ops mem (j :: L) t' = true ∧ memStep g ops cl E defs j me H fun me H => memW g ops cl E defs t' me H K
  | .run [], _, _, hj => by simp [Tr.firsts] at hj
  | .run (i :: r), hok, ht, hj => by
    simp [Tr.firsts] at hj
    subst hj
    simp only [okM, okRunM, Bool.and_eq_true] at hok
    refine ⟨.run r, fun i hi => ?_, hok.2, ht⟩
    have := List.all_eq_true.1 hok.1.2 i hi
    simpa [Tr.firsts] using this
  | .step i t, hok, ht, hj => by
    simp [Tr.firsts] at hj
    subst hj
    simp only [okM, Bool.and_eq_true] at hok
    refine ⟨t, fun i hi => ?_, hok.2, ht⟩
    have := List.all_eq_true.1 hok.1.2 i hi
    simpa using this
  | .both a b, hok, ht, hj => by
    simp only [okM, Bool.and_eq_true] at hok
    unfold memW at ht
    simp only [Tr.firsts, List.mem_append] at hj
    rcases hj with hj | hj
    · exact pickM a hok.1 ht.1 hj
    · exact pickM b hok.2 ht.2 hj
theorem doneM {g : Cfg} {ops : List Oper} {mem : List Nat} {cl E : List (Nat × Value)} {defs : List ADef} {K : List (Nat × Value) → AHeap → Prop} {me : List (Nat × Value)} {H : AHeap} {L : List Nat} (hL : enabledM ops mem L = []) : ∀ (t : Tr), okM ops mem L t = true → memW g ops cl E defs t me H K → K me H
  | .run [], _, ht => ht
  | .run (i :: r), hok, _ => by
    simp only [okM, okRunM, Bool.and_eq_true, hL] at hok
    simp at hok
  | .step i t, hok, _ => by
    simp only [okM, Bool.and_eq_true, hL] at hok
    simp at hok
  | .both a b, hok, ht => by
    simp only [okM, Bool.and_eq_true] at hok
    exact doneM hL a hok.1 ht.1
structure MidM (g : Cfg) (l : List Oper) (mem : List Nat) (cl E : List (Nat × Value)) (defs : List ADef) (me : List (Nat × Value)) (H : AHeap) (listed : Array Bool) (c : Ctx) (w : World) (a : Act) : Prop where
  heap : HRel c H w
  size : a.tmps.size = g.N.n
  tmps : ∀ t v, lk t (me ++ E) = some v → (∀ (i : Nat) o, l[i]? = some o → o.dst = some t → isOn listed i) → ∃ v', a.tmps[t]? = some v' ∧ VRel c v v'
  defs : DRel g.N.B c H w defs a.defers
  me : ∀ d v, lk d me = some v → ∃ j p, j ∈ mem ∧ l[j]? = some p ∧ p.dst = some d ∧ claimOk cl j v
section
variable {g : Cfg} {Q : AExit → ASt → Prop}
theorem any_frontM {ops l t : List Oper} (he : ops = l ++ t) (hok : AnyOk g.N.n ops l.length) {mem : List Nat} {cl E : List (Nat × Value)} {defs : List ADef}
    (hpure : ∀ (i : Nat) o, ¬ i ∈ mem → l[i]? = some o → ∃ v, (∀ H, stepW g ops o ⟨E, defs, H⟩ v) ∧ ∀ d, o.dst = some d → lk d E = some v)
    (hcl : ∀ (j : Nat) v o d, j ∈ mem → lk j cl = some v → l[j]? = some o → o.dst = some d → lk d E = some v) (hmem : ∀ j ∈ mem, j < l.length)
    (hvis : ∀ (i j : Nat) o p d, ¬ i ∈ mem → j ∈ mem → l[i]? = some o → l[j]? = some p → p.dst = some d → d ∈ reads ops o → (lk j cl).isSome = true)
    {K : List (Nat × Value) → AHeap → Prop} (hK : ∀ me H, K me H → regionW g ops t ⟨me ++ E, defs, H⟩ (fun st' => Q .normal st') (fun v st' => Q (.panic v) st')) :
    ∀ (fuel : Nat) (tr : Tr) (done : List Nat) (me : List (Nat × Value)) (H : AHeap) (listed : Array Bool) (c : Ctx) (w : World) (a : Act), Lst ops listed → fuel = left listed listed.size → (∀ i, l.length ≤ i → i < ops.length → ¬ isOn listed i) →
      (∀ j ∈ mem, (isOn listed j ↔ j ∈ done)) → (∀ i ∈ enabledM ops mem done, i ∈ tr.firsts) → okM ops mem done tr = true → memW g ops cl E defs tr me H K → MidM g l mem cl E defs me H listed c w a →
      wpAnyIn (fenceOf g.lr) 0 g.P .any ops.toArray (APost g Q c H w) fuel listed a w := by
  have hlen : ops.length = l.length + t.length := by rw [he]; simp
  have hfin : ∀ (tr : Tr) (done : List Nat) (me : List (Nat × Value)) (H : AHeap) (listed : Array Bool) (c : Ctx) (w : World) (a : Act), Lst ops listed → (∀ i, l.length ≤ i → i < ops.length → ¬ isOn listed i) → (∀ j ∈ mem, (isOn listed j ↔ j ∈ done)) → okM ops mem done tr = true → memW g ops cl E defs tr me H K →
      MidM g l mem cl E defs me H listed c w a → (∀ i, i < l.length → isOn listed i) → wpAnyIn (fenceOf g.lr) 0 g.P .any ops.toArray (APost g Q c H w) (left listed listed.size) listed a w := by
    intro tr done me H listed c w a hl hno hdn hokM hw hm hall
    have hon : ∀ i, i < ops.length → (isOn listed i ↔ i < l.length) := fun i hi => by
      rcases Nat.lt_or_ge i l.length with h' | h'
      · exact ⟨fun _ => h', fun _ => hall i h'⟩
      · exact ⟨fun h => absurd h (hno i h' hi), fun h => by omega⟩
    have hnil : enabledM ops mem done = [] := by
      apply List.eq_nil_iff_forall_not_mem.2
      intro i hi
      obtain ⟨h1, h2⟩ := List.mem_filter.1 hi
      have h3 := (hdn i h1).1 (hall i (hmem i h1))
      simp [h3] at h2
    have hk := hK me H (doneM hnil tr hokM hw)
    refine any_tail hok t l listed _ ⟨me ++ E, defs, H⟩ he (Nat.le_refl _) hl hon ?_ hk c w a ⟨hm.heap, hm.size, fun t v e => hm.tmps t v e (fun i o ho _ => hall i (List.getElem?_eq_some_iff.1 ho).1), hm.defs⟩
    rw [hl.size, left_eq (m := l.length) (by omega) hon]; omega
  intro fuel
  induction fuel with
  | zero =>
    intro tr done me H listed c w a hl hf hno hdn hfi hokM hw hm
    by_cases hall : ∀ i, i < l.length → isOn listed i
    · have := hfin tr done me H listed c w a hl hno hdn hokM hw hm hall
      rwa [← hf] at this
    · exfalso
      apply hall
      intro i hi
      rcases Classical.em (isOn listed i) with h' | h'
      · exact h'
      · have := left_set (by rw [hl.size]; omega) h'
        omega
  | succ fuel ih =>
    intro tr done me H listed c w a hl hf hno hdn hfi hokM hw hm
    by_cases hall : ∀ i, i < l.length → isOn listed i
    · have := hfin tr done me H listed c w a hl hno hdn hokM hw hm hall
      rwa [← hf] at this
    refine ⟨fun hnil => ?_, fun i hi => ?_⟩
    · apply absurd hall
      intro hall
      apply hall
      intro i hi
      rcases Classical.em (isOn listed i) with h' | h'
      · exact h'
      · exact absurd hnil (hl.some_ready hok (by omega) h')
    obtain ⟨h1, h2, _, h4⟩ := hl.ready hi
    have hil : i < l.length := by
      rcases Nat.lt_or_ge i l.length with h' | h'
      · exact h'
      · exact absurd (fun j hj => h4 j (hok.tail j i h' h1 (by omega))) hall
    have hoat : l[i]? = some l[i] := List.getElem?_eq_getElem hil
    generalize l[i] = o at hoat
    have hops : ops[i]? = some o := by rw [he, List.getElem?_append_left hil, hoat]
    have hd1 : ∀ d, o.dst = some d → d < g.N.n := fun d e => by
      have := hok.dsts
      unfold dstsOk at this
      rw [List.all_eq_true] at this
      have := this o (List.mem_iff_getElem?.2 ⟨_, hops⟩)
      rw [e] at this
      simpa using this
    have hfuel : fuel = left (listed.setIfInBounds i true) (listed.setIfInBounds i true).size := by
      have := left_set (by rw [hl.size]; exact h1) h2
      simp; omega
    have hno' : ∀ j, l.length ≤ j → j < ops.length → ¬ isOn (listed.setIfInBounds i true) j := fun j hj hj2 => by
      rw [isOn_set (by rw [hl.size]; exact h1)]
      rintro (rfl | h')
      · omega
      · exact hno j hj hj2 h'
    have hapart : ∀ (j k : Nat) (p q : Oper) (d : Nat), l[j]? = some p → l[k]? = some q → p.dst = some d → q.dst = some d → j = k := fun j k p q d hj hk hp hq => by
      have hjl := (List.getElem?_eq_some_iff.1 hj).1
      have hkl := (List.getElem?_eq_some_iff.1 hk).1
      exact hok.apart j k p q d hjl hkl (by rw [he, List.getElem?_append_left hjl, hj]) (by rw [he, List.getElem?_append_left hkl, hk]) hq hp
    have hread : ∀ (j : Nat) (p : Oper) (d : Nat), l[j]? = some p → p.dst = some d → d ∈ reads ops o → isOn listed j := fun j p d hj hp hd => by
      have hjl := (List.getElem?_eq_some_iff.1 hj).1
      exact h4 j (hok.reads i j o p d hil hjl hops (by rw [he, List.getElem?_append_left hjl, hj]) hp hd)
    have hs0 : ∀ e : List (Nat × Value), (∀ d ∈ reads ops o, lk d e = lk d (me ++ E)) → SRel g.N c ⟨restrict e (reads ops o), defs, H⟩ w a := fun e hee => by
      refine ⟨hm.heap, hm.size, fun t x e2 => ?_, hm.defs⟩
      obtain ⟨h5, h6⟩ := lk_restrict e2
      rw [hee t h5] at h6
      exact hm.tmps t x h6 (fun j p hj hp => hread j p t hj hp h5)
    have hoa : ops.toArray[i]? = some o := by simpa using hops
    have hon : ∀ j, isOn (listed.setIfInBounds i true) j ↔ i = j ∨ isOn listed j := fun j => isOn_set (by rw [hl.size]; exact h1)
    by_cases him : i ∈ mem
    · -- an operation of the tree
      have hie : i ∈ enabledM ops mem done := by
        refine List.mem_filter.2 ⟨him, ?_⟩
        have hnd : ¬ i ∈ done := fun h => h2 ((hdn i him).2 h)
        simp only [Bool.and_eq_true, Bool.not_eq_true', List.all_eq_true, Bool.or_eq_true]
        refine ⟨by simpa using hnd, fun j hj => ?_⟩
        rcases hc : ((ancs ops []).getD i []).contains j with _ | _
        · exact .inl rfl
        · refine .inr ?_
          have := h4 j (by simpa using hc)
          simpa using (hdn j hj).1 this
      obtain ⟨t', hfi', hok', hst⟩ := pickM tr hokM hw (hfi i hie)
      unfold memStep at hst
      rw [hops, wth_some] at hst
      have hs1 := hs0 (me ++ E) (fun d _ => rfl)
      have hdn' : ∀ j ∈ mem, (isOn (listed.setIfInBounds i true) j ↔ j ∈ i :: done) := fun j hj => by
        rw [hon, hdn j hj]; simp [eq_comm]
      have hmid : ∀ (c' : Ctx) (a' : Act) (w' : World) (H' : AHeap) (u u' : Value), c.le c' → HRel c' H' w' → DRel g.N.B c' H' w' defs a'.defers → a'.tmps = (a.put o.dst u').tmps → (∀ d, o.dst = some d → VRel c' u u') → claimOk cl i u →
          MidM g l mem cl E defs (putE o.dst u me) H' (listed.setIfInBounds i true) c' w' a' := by
        intro c' a' w' H' u u' hle hh hdf ht hu hc
        refine ⟨hh, ?_, ?_, hdf, ?_⟩
        · rw [ht, ← hm.size]; cases o.dst <;> simp [Act.put]
        · intro x v e hx
          rw [lk_append, lk_putE] at e
          by_cases hdt : o.dst = some x
          · rw [if_pos hdt] at e
            cases e
            refine ⟨u', ?_, hu x hdt⟩
            rw [ht, hdt]
            simp [Act.put, hm.size, hd1 x hdt]
          · rw [if_neg hdt, ← lk_append] at e
            obtain ⟨x', k1, k2⟩ := hm.tmps x v e (fun j p hj hp => by
              rcases (hon j).1 (hx j p hj hp) with rfl | h'
              · rw [hoat] at hj; cases hj; exact absurd hp hdt
              · exact h')
            refine ⟨x', ?_, k2.mono hle⟩
            rw [ht]
            cases hd : o.dst with
            | none => simpa [Act.put] using k1
            | some d =>
              have hne : d ≠ x := fun e => hdt (by rw [hd, e])
              simp [Act.put, hne, k1]
        · intro d v e
          rw [lk_putE] at e
          by_cases hdt : o.dst = some d
          · rw [if_pos hdt] at e
            cases e
            exact ⟨i, o, him, hoat, hdt, hc⟩
          · rw [if_neg hdt] at e
            exact hm.me d v e
      unfold wpOpIn
      simp only [hoa]
      rcases wantW_elim hs1 hst with ⟨hwn, hr⟩ | ⟨hwn, hr⟩
      · rw [if_pos hwn]
        refine opW_ok hd1 hr c w a _ _ hs1 ?_ ?_
        · rintro s c' a' w' ⟨hdf, hu⟩ hs' ht ⟨hle, x, hx⟩
          obtain ⟨u, hdu, hc, hw'⟩ := wth_elim hu
          have hm' : MidM g l mem cl E defs (putE o.dst u me) s.H (listed.setIfInBounds i true) c' w' a' := by
            refine hmid c' a' w' s.H u x hle hs'.heap (by have := hs'.defs; rwa [hdf] at this) hx (fun d hd => ?_) hc
            unfold dstV at hdu
            rw [hd] at hdu
            obtain ⟨y, k1, k2⟩ := hs'.tmps d u hdu
            rw [hx, hd] at k1
            simp [Act.put, hm.size, hd1 d hd] at k1
            rw [k1]; exact k2
          have := ih t' (i :: done) _ s.H _ c' w' a' (hl.set hi) hfuel hno' hdn' hfi' hok' hw' hm'
          exact any_tail.wpAny_mono (fun e a2 w2 hp => hp.back ht) this
        · intro v v' st' c' a' w' hKp
          exact hKp.elim
      · rw [if_neg (by rw [hwn]; simp)]
        refine ⟨about_any g.lr, ?_⟩
        refine ih t' (i :: done) _ H _ c w _ (hl.set hi) hfuel hno' hdn' hfi' hok' hr.2 (hmid c _ w H noVal undef (Ctx.le_refl c) hm.heap ?_ rfl (fun d hd => .tuple .nil) hr.1)
        have : (a.put o.dst undef).defers = a.defers := by cases o.dst <;> rfl
        rw [this]; exact hm.defs
    · -- an operation that leaves memory alone
      obtain ⟨v, hs, hlk⟩ := hpure i o him hoat
      have hs := hs H
      have hee : ∀ d ∈ reads ops o, lk d E = lk d (me ++ E) := fun d hd => by
        rw [lk_append]
        cases hme : lk d me with
        | none => rfl
        | some u =>
          obtain ⟨j, p, hj, hp, hpd, hc⟩ := hm.me d u hme
          have hsome := hvis i j o p d him hj hoat hp hpd hd
          unfold claimOk at hc
          cases hlj : lk j cl with
          | none => rw [hlj] at hsome; cases hsome
          | some x =>
            rw [hlj] at hc
            simp only at hc
            rw [hcl j x p d hj hlj hp hpd, hc]
      have hs1 : SRel g.N c (ASt.only ops o ⟨E, defs, H⟩) w a := hs0 E hee
      have hdn' : ∀ j ∈ mem, (isOn (listed.setIfInBounds i true) j ↔ j ∈ done) := fun j hj => by
        rw [hon, hdn j hj]
        exact ⟨fun h => h.elim (fun e => absurd (e ▸ hj) him) id, .inr⟩
      have hmid : ∀ (c' : Ctx) (a' : Act) (w' : World) (u : Value), c.le c' → HRel c' H w' → DRel g.N.B c' H w' defs a'.defers → a'.tmps = (a.put o.dst u).tmps → (∀ d, o.dst = some d → VRel c' v u) → MidM g l mem cl E defs me H (listed.setIfInBounds i true) c' w' a' := by
        intro c' a' w' u hle hh hdf ht hu
        refine ⟨hh, ?_, ?_, hdf, hm.me⟩
        · rw [ht, ← hm.size]; cases o.dst <;> simp [Act.put]
        · intro x y e hx
          by_cases hdt : o.dst = some x
          · have e2 : lk x (me ++ E) = some v := by
              rw [lk_append]
              cases hme : lk x me with
              | none => exact hlk x hdt
              | some z =>
                obtain ⟨j, p, hj, hp, hpd, _⟩ := hm.me x z hme
                exact absurd (hapart j i p o x hp hoat hpd hdt ▸ hj) him
            rw [e2] at e; cases e
            refine ⟨u, ?_, hu x hdt⟩
            rw [ht, hdt]
            simp [Act.put, hm.size, hd1 x hdt]
          · obtain ⟨x', k1, k2⟩ := hm.tmps x y e (fun j p hj hp => by
              rcases (hon j).1 (hx j p hj hp) with rfl | h'
              · rw [hoat] at hj; cases hj; exact absurd hp hdt
              · exact h')
            refine ⟨x', ?_, k2.mono hle⟩
            rw [ht]
            cases hd : o.dst with
            | none => simpa [Act.put] using k1
            | some d =>
              have hne : d ≠ x := fun e => hdt (by rw [hd, e])
              simp [Act.put, hne, k1]
      unfold wpOpIn
      simp only [hoa]
      unfold stepW at hs
      rcases wantW_elim hs1 hs with ⟨hwn, hr⟩ | ⟨hwn, hr⟩
      · rw [if_pos hwn]
        refine opW_ok hd1 hr c w a _ _ hs1 ?_ ?_
        · rintro s c' a' w' ⟨hH, hdf, hl'⟩ hs' ht ⟨hle, x, hx⟩
          have hH : s.H = H := hH
          have hdf : s.defs = defs := hdf
          have hm' : MidM g l mem cl E defs me H (listed.setIfInBounds i true) c' w' a' := by
            have hh := hs'.heap
            rw [hH] at hh
            have hd' := hs'.defs
            rw [hdf, hH] at hd'
            refine hmid c' a' w' x hle hh hd' hx (fun d hd => ?_)
            obtain ⟨y, k1, k2⟩ := hs'.tmps d v (hl' d hd)
            rw [hx, hd] at k1
            simp [Act.put, hm.size, hd1 d hd] at k1
            rw [k1]; exact k2
          have := ih tr done me H _ c' w' a' (hl.set hi) hfuel hno' hdn' hfi hokM hw hm'
          rw [hH] at ht
          exact any_tail.wpAny_mono (fun e a2 w2 hp => hp.back ht) this
        · intro v v' st' c' a' w' hKp
          exact hKp.elim
      · rw [if_neg (by rw [hwn]; simp)]
        refine ⟨about_any g.lr, ?_⟩
        subst hr
        refine ih tr done me H _ c w _ (hl.set hi) hfuel hno' hdn' hfi hokM hw (hmid c _ w undef (Ctx.le_refl c) hm.heap ?_ rfl (fun d hd => .tuple .nil))
        have : (a.put o.dst undef).defers = a.defers := by cases o.dst <;> rfl
        rw [this]; exact hm.defs
/-- What the pass in the text's order gives. -/
theorem canW_elim {ops : List Oper} {mem : List Nat} {cl : List (Nat × Value)} {defs : List ADef} {K : List (Nat × Value) → Prop} : ∀ (l pre : List Oper) (e : List (Nat × Value)), canW g ops mem cl defs pre.length l e K →
    (∀ (i j : Nat) o p d, i < (pre ++ l).length → j < (pre ++ l).length → (pre ++ l)[i]? = some o → (pre ++ l)[j]? = some p → o.dst = some d → p.dst = some d → i = j) →
    (∀ (i j : Nat) o p d, (pre ++ l)[i]? = some o → (pre ++ l)[j]? = some p → p.dst = some d → d ∈ reads ops o → j < i) →
    ∃ E, K E ∧ (∀ d, (∀ o ∈ l, o.dst ≠ some d) → lk d E = lk d e) ∧
      (∀ (i : Nat) o, ¬ (pre.length + i) ∈ mem → l[i]? = some o → ∃ v, (∀ H, stepW g ops o ⟨E, defs, H⟩ v) ∧ ∀ d, o.dst = some d → lk d E = some v) ∧
      (∀ (i : Nat) v o d, (pre.length + i) ∈ mem → lk (pre.length + i) cl = some v → l[i]? = some o → o.dst = some d → lk d E = some v)
  | [], pre, e, h, _, _ => ⟨e, h, fun _ _ => rfl, fun i o _ ho => by simp at ho, fun i v o d _ _ ho => by simp at ho⟩
  | o :: r, pre, e, h, hap, hrd => by
    have hcat : pre ++ o :: r = (pre ++ [o]) ++ r := by simp
    have hat : (pre ++ o :: r)[pre.length]? = some o := by simp
    have hap2 := hap
    have hrd2 := hrd
    rw [hcat] at hap2 hrd2
    have hpl : (pre ++ [o]).length = pre.length + 1 := by simp
    -- no later operation gives what this one gives
    have hlate : ∀ d, o.dst = some d → ∀ q ∈ r, q.dst ≠ some d := fun d hd q hq hqd => by
      obtain ⟨m, hm⟩ := List.mem_iff_getElem?.1 hq
      have hm2 : (pre ++ o :: r)[pre.length + 1 + m]? = some q := by
        rw [List.getElem?_append_right (by omega), show pre.length + 1 + m - pre.length = m + 1 by omega]; exact hm
      have := hap _ _ o q d (by simp) (List.getElem?_eq_some_iff.1 hm2).1 hat hm2 hd hqd
      omega
    unfold canW at h
    by_cases hmm : pre.length ∈ mem
    · rw [if_pos (by simpa using hmm)] at h
      rw [← hpl] at h
      obtain ⟨E, h1, h2, h3, h4⟩ := canW_elim r (pre ++ [o]) _ h hap2 hrd2
      refine ⟨E, h1, fun d hd => ?_, fun i p hi hp => ?_, fun i v p d hi hv hp hd => ?_⟩
      · rw [h2 d (fun q hq => hd q (List.mem_cons_of_mem _ hq))]
        unfold putCl
        cases lk pre.length cl with
        | none => rfl
        | some v =>
          simp only
          rw [lk_putE, if_neg (hd o (List.mem_cons_self ..))]
      · cases i with
        | zero => exact absurd hmm hi
        | succ i => exact h3 i p (by rw [hpl, show pre.length + 1 + i = pre.length + (i + 1) by omega]; exact hi) hp
      · cases i with
        | zero =>
          simp at hp
          subst hp
          rw [h2 d (hlate d hd)]
          unfold putCl
          rw [show lk pre.length cl = some v from hv]
          simp only
          rw [lk_putE, if_pos hd]
        | succ i => exact h4 i v p d (by rw [hpl, show pre.length + 1 + i = pre.length + (i + 1) by omega]; exact hi) (by rw [hpl, show pre.length + 1 + i = pre.length + (i + 1) by omega]; exact hv) hp hd
    · rw [if_neg (by simpa using hmm)] at h
      obtain ⟨v, hv, h⟩ := h
      rw [← hpl] at h
      obtain ⟨E, h1, h2, h3, h4⟩ := canW_elim r (pre ++ [o]) _ h hap2 hrd2
      refine ⟨E, h1, fun d hd => ?_, fun i p hi hp => ?_, fun i v p d hi hv hp hd => ?_⟩
      · rw [h2 d (fun q hq => hd q (List.mem_cons_of_mem _ hq)), lk_putE, if_neg (hd o (List.mem_cons_self ..))]
      · cases i with
        | zero =>
          simp at hp
          subst hp
          refine ⟨v, fun H => ?_, fun d hd => by rw [h2 d (hlate d hd), lk_putE, if_pos hd]⟩
          have hs := hv H
          have : ASt.only ops o ⟨e, defs, H⟩ = ASt.only ops o ⟨E, defs, H⟩ := by
            unfold ASt.only
            simp only
            congr 1
            refine restrict_congr fun d hd => ?_
            rw [h2 d (fun q hq hqd => ?_), lk_putE, if_neg (fun hod => ?_)]
            · have := hrd _ _ o o d hat hat hod hd
              omega
            · obtain ⟨m, hm⟩ := List.mem_iff_getElem?.1 hq
              have hm2 : (pre ++ o :: r)[pre.length + 1 + m]? = some q := by
                rw [List.getElem?_append_right (by omega), show pre.length + 1 + m - pre.length = m + 1 by omega]; exact hm
              have := hrd _ _ o q d hat hm2 hqd hd
              omega
          unfold stepW at hs ⊢
          rw [← this]
          exact hs
        | succ i => exact h3 i p (by rw [hpl, show pre.length + 1 + i = pre.length + (i + 1) by omega]; exact hi) hp
      · cases i with
        | zero => exact absurd hi hmm
        | succ i => exact h4 i v p d (by rw [hpl, show pre.length + 1 + i = pre.length + (i + 1) by omega]; exact hi) (by rw [hpl, show pre.length + 1 + i = pre.length + (i + 1) by omega]; exact hv) hp hd
/-- A drawing region whose first k operations are either of mem (then the tree looks at them), or leave memory alone. -/
theorem AWP.regionM {env : List (Nat × Value)} {defs : List ADef} {H : AHeap} {id : Nat} {ops : List Oper} (k : Nat) (mem : List Nat) (cl : List (Nat × Value)) (tr : Tr) (hm : g.P.follows .mixedOrders = true) (hk : k ≤ ops.length) (hok : anyOk g.N.n ops k = true) (htr : treeOkM ops mem tr = true) (hv : visOk ops k mem cl = true)
    (h : canW g ops mem cl defs 0 (ops.take k) env (fun E => memW g ops cl E defs tr [] H fun me H => regionW g ops (ops.drop k) ⟨me ++ E, defs, H⟩ (fun st' => Q .normal st') (fun v st' => Q (.panic v) st'))) :
    AWP g (.region id ops.toArray true) Q ⟨env, defs, H⟩ := by
  intro c w a hs
  have hok := AnyOk.of hok
  have he : ops = ops.take k ++ ops.drop k := (List.take_append_drop k ops).symm
  have hlk : (ops.take k).length = k := by rw [List.length_take]; omega
  have hget : ∀ (i : Nat) o, (ops.take k)[i]? = some o → i < k ∧ ops[i]? = some o := fun i o ho => by
    have := (List.getElem?_eq_some_iff.1 ho).1
    rw [List.getElem?_take] at ho
    split at ho
    · exact ⟨by assumption, ho⟩
    · cases ho
  obtain ⟨E, hK, hE0, hpure, hcl⟩ := canW_elim (ops.take k) [] env h (fun i j o p d _ _ hi hj hd hd' => by
      rw [List.nil_append] at hi hj
      obtain ⟨i1, i2⟩ := hget i o hi
      obtain ⟨j1, j2⟩ := hget j p hj
      exact hok.apart i j o p d i1 j1 i2 j2 hd' hd) (fun i j o p d hi hj hd hr => by
      rw [List.nil_append] at hi hj
      obtain ⟨i1, i2⟩ := hget i o hi
      obtain ⟨j1, j2⟩ := hget j p hj
      exact anc_lt hok i j (hok.reads i j o p d i1 j1 i2 j2 hd hr))
  simp only [List.length_nil, Nat.zero_add] at hpure hcl
  simp only [treeOkM, Bool.and_eq_true] at htr
  have hvj : ∀ j ∈ mem, j < k ∧ ∀ (p : Oper) (d : Nat), ops[j]? = some p → p.dst = some d → (lk j cl).isSome = true ∨ ∀ (i : Nat) (o : Oper), i < k → ¬ i ∈ mem → ops[i]? = some o → ¬ d ∈ reads ops o := fun j hj => by
    have := List.all_eq_true.1 hv j hj
    simp only [Bool.and_eq_true, decide_eq_true_eq] at this
    refine ⟨this.1, fun p d hp hd => ?_⟩
    have h2 := this.2
    rw [hp] at h2
    simp only [hd, Bool.or_eq_true] at h2
    rcases h2 with h2 | h2
    · exact .inl h2
    · refine .inr fun i o hi him ho hdr => ?_
      have := allLt_spec h2 i hi
      rw [ho] at this
      simp only [Bool.or_eq_true, Bool.not_eq_true'] at this
      rcases this with h3 | h3
      · exact him (by simpa using h3)
      · simp [hdr] at h3
  refine wpIn_region_any hm ?_
  obtain ⟨hh, ht⟩ := hs.heap.drew g.n0
  have := any_frontM (g := g) (Q := Q) (ops := ops) (l := ops.take k) (t := ops.drop k) he (by rw [hlk]; exact hok) (mem := mem) (cl := cl) (E := E) (defs := defs) hpure (fun j v o d hj hv ho hd => hcl j v o d hj hv ho hd) (fun j hj => by rw [hlk]; exact (hvj j hj).1) (fun i j o p d hi hj ho hp hd hr => by
      obtain ⟨i1, i2⟩ := hget i o ho
      obtain ⟨j1, j2⟩ := hget j p hp
      rcases (hvj j hj).2 p d j2 hd with h | h
      · exact h
      · exact absurd hr (h i o i1 hi i2)) (fun me H h => h) ops.length tr [] [] H (Array.replicate ops.length false) c w.drew a ?_ ?_ ?_ ?_ ?_ htr.2 hK ?_
  · have := any_tail.wpAny_mono (fun e a2 w2 hp => hp.back ht) this
    simpa using this
  · refine ⟨by simp, fun j o ho hj => ?_⟩
    exact absurd hj (not_isOn_replicate _ _)
  · have := left_eq (listed := Array.replicate ops.length false) (m := 0) (n := ops.length) (Nat.zero_le _) (fun i hi => ⟨fun h => absurd h (not_isOn_replicate _ _), fun h => by omega⟩)
    simpa using this.symm
  · intro i _ hi
    exact not_isOn_replicate _ _
  · intro j _
    exact ⟨fun h => absurd h (not_isOn_replicate _ _), fun h => by cases h⟩
  · intro i hi
    have := List.all_eq_true.1 htr.1 i hi
    simpa using this
  · refine ⟨hh, hs.size, fun x v e hx => ?_, hs.defs.step (n := g.n0) (Ctx.le_refl c) ht, fun d v e => by cases e⟩
    have e2 : lk x env = some v := by
      rw [← e]
      show lk x env = lk x E
      refine (hE0 x fun o ho hd => ?_).symm
      obtain ⟨j, hj⟩ := List.mem_iff_getElem?.1 ho
      exact absurd (hx j o hj hd) (not_isOn_replicate _ _)
    exact hs.tmps x v e2
theorem canW_cons {ops : List Oper} {mem : List Nat} {cl : List (Nat × Value)} {defs : List ADef} {i : Nat} {o : Oper} {r : List Oper} {e : List (Nat × Value)} {K : List (Nat × Value) → Prop} : canW g ops mem cl defs i (o :: r) e K = if mem.contains i = true then canW g ops mem cl defs (i + 1) r (putCl o.dst (lk i cl) e) K
      else ∃ v, (∀ H, stepW g ops o ⟨e, defs, H⟩ v) ∧ canW g ops mem cl defs (i + 1) r (putE o.dst v e) K := rfl
theorem runM_cons {ops : List Oper} {cl E me : List (Nat × Value)} {defs : List ADef} {H : AHeap} {K : List (Nat × Value) → AHeap → Prop} {j : Nat} {r : List Nat} : runM g ops cl E defs (j :: r) me H K = memStep g ops cl E defs j me H fun me H => runM g ops cl E defs r me H K := rfl
theorem memW_run {ops : List Oper} {cl E me : List (Nat × Value)} {defs : List ADef} {H : AHeap} {K : List (Nat × Value) → AHeap → Prop} {l : List Nat} : memW g ops cl E defs (.run l) me H K = runM g ops cl E defs l me H K := rfl
theorem putE_s {d : Nat} {v : Value} {e : List (Nat × Value)} : putE (some d) v e = (d, v) :: e := rfl
theorem putE_n {v : Value} {e : List (Nat × Value)} : putE none v e = e := rfl
theorem putCl_s {d : Option Tmp} {v : Value} {e : List (Nat × Value)} : putCl d (some v) e = putE d v e := rfl
theorem putCl_n {d : Option Tmp} {e : List (Nat × Value)} : putCl d none e = e := rfl
theorem claimOk_cons {k j : Nat} {v u : Value} {r : List (Nat × Value)} : claimOk ((k, v) :: r) j u = if k = j then u = v else claimOk r j u := by
  unfold claimOk
  rw [lk_cons]
  by_cases h : k = j
  · rw [if_pos h, if_pos h]
  · rw [if_neg h, if_neg h]
theorem claimOk_nil {j : Nat} {u : Value} : claimOk [] j u = True := rfl
theorem canW_n {ops : List Oper} {mem : List Nat} {cl : List (Nat × Value)} {defs : List ADef} {i : Nat} {e : List (Nat × Value)} {K : List (Nat × Value) → Prop} (h : K e) : canW g ops mem cl defs i [] e K := h
theorem canW_p {ops : List Oper} {mem : List Nat} {cl : List (Nat × Value)} {defs : List ADef} {i : Nat} {o : Oper} {r : List Oper} {e : List (Nat × Value)} {K : List (Nat × Value) → Prop} (hm : mem.contains i = false) {v : Value} (hv : ∀ H, stepW g ops o ⟨e, defs, H⟩ v) (h : canW g ops mem cl defs (i + 1) r (putE o.dst v e) K) : canW g ops mem cl defs i (o :: r) e K := by
  rw [canW_cons, if_neg (by rw [hm]; decide)]
  exact ⟨v, hv, h⟩
theorem canW_m {ops : List Oper} {mem : List Nat} {cl : List (Nat × Value)} {defs : List ADef} {i : Nat} {o : Oper} {r : List Oper} {e : List (Nat × Value)} {K : List (Nat × Value) → Prop} (hm : mem.contains i = true) (h : canW g ops mem cl defs (i + 1) r (putCl o.dst (lk i cl) e) K) : canW g ops mem cl defs i (o :: r) e K := by
  rw [canW_cons, if_pos hm]
  exact h
theorem memW_b {ops : List Oper} {cl E me : List (Nat × Value)} {defs : List ADef} {H : AHeap} {K : List (Nat × Value) → AHeap → Prop} {a b : Tr} (h1 : memW g ops cl E defs a me H K) (h2 : memW g ops cl E defs b me H K) : memW g ops cl E defs (.both a b) me H K := ⟨h1, h2⟩
theorem memW_s {ops : List Oper} {cl E me : List (Nat × Value)} {defs : List ADef} {H : AHeap} {K : List (Nat × Value) → AHeap → Prop} {j : Nat} {t : Tr} {o : Oper} (ho : ops[j]? = some o) (h : wantW ops o ⟨restrict (me ++ E) (reads ops o), defs, H⟩
    (opW g o ⟨restrict (me ++ E) (reads ops o), defs, H⟩ (fun s => s.defs = defs ∧ wth (dstV o s) fun u => claimOk cl j u ∧ memW g ops cl E defs t (putE o.dst u me) s.H K) (fun _ _ => False))
    (claimOk cl j noVal ∧ memW g ops cl E defs t (putE o.dst noVal me) H K)) : memW g ops cl E defs (.step j t) me H K := by
  show memStep g ops cl E defs j me H _
  unfold memStep
  rw [ho]
  exact h
theorem memW_r {ops : List Oper} {cl E me : List (Nat × Value)} {defs : List ADef} {H : AHeap} {K : List (Nat × Value) → AHeap → Prop} {j : Nat} {r : List Nat} {o : Oper} (ho : ops[j]? = some o) (h : wantW ops o ⟨restrict (me ++ E) (reads ops o), defs, H⟩
    (opW g o ⟨restrict (me ++ E) (reads ops o), defs, H⟩ (fun s => s.defs = defs ∧ wth (dstV o s) fun u => claimOk cl j u ∧ memW g ops cl E defs (.run r) (putE o.dst u me) s.H K) (fun _ _ => False))
    (claimOk cl j noVal ∧ memW g ops cl E defs (.run r) (putE o.dst noVal me) H K)) : memW g ops cl E defs (.run (j :: r)) me H K := by
  simp only [memW_run] at h
  rw [memW_run, runM_cons]
  unfold memStep
  rw [ho]
  exact h
theorem memW_e {ops : List Oper} {cl E me : List (Nat × Value)} {defs : List ADef} {H : AHeap} {K : List (Nat × Value) → AHeap → Prop} (h : K me H) : memW g ops cl E defs (.run []) me H K := h
attribute [go_sem] putE_s putE_n putCl_s putCl_n claimOk_cons claimOk_nil dstV
end
end Go.Aw


set_option linter.unusedVariables false
namespace Go.Aw
open Go.ChangeShapes Go.WideShapes Go.ChangeAt Go.RowKit
theorem VRels.scalars_eq {c : Ctx} : ∀ {l l' : List Value}, VRels c l l' → l.all scalar = true → l = l'
  | _, _, .nil, _ => rfl
  | v :: l, v' :: l', .cons a b, h => by
    simp only [List.all_cons, Bool.and_eq_true] at h
    rw [a.scalar_eq h.1, VRels.scalars_eq b (by simpa using h.2)]
theorem HRel.below {c : Ctx} {H : AHeap} {w w' : World} (h : HRel c H w) (hb : Below w.heap.size w w') : HRel c H w' := by
  refine ⟨fun i o hi hl => ?_, h.sep, h.fresh⟩
  obtain ⟨p, hp, hr⟩ := h.obj i o hi hl
  refine ⟨p, hp, hr.keep (Ctx.le_refl c) hl ?_⟩
  have : p.block < w.heap.size := by
    unfold ORel at hr
    split at hr
    · cases hl
    · obtain ⟨_, _, _, _, arr, lo, hi', hb, _⟩ := hr
      exact (Array.getElem?_eq_some_iff.1 hb).1
    · obtain ⟨r, hb, _⟩ := hr
      exact (Array.getElem?_eq_some_iff.1 hb).1
    · obtain ⟨ms, hb, _⟩ := hr
      exact (Array.getElem?_eq_some_iff.1 hb).1
  exact hb.block _ this
theorem Trans.below {n : Nat} {c : Ctx} {H : AHeap} {w w' : World} (hb : Below w.heap.size w w') : Trans n c H w c H w' :=
  ⟨fun _ _ _ h => h, hb.tape, hb.os, hb.output, hb.size, fun b h _ => hb.block b h, fun _ h => .inl h⟩
theorem ARet.ofCalls {P : Program} {f : FuncId} {fn : Func} {args : List Value} {v : Value} (hf : P.funcs[f]? = some fn) (hb : fn.body.isSome = true) (hn : (fn.name == "runtime.NumGoroutine") = false) (ha : args.all scalar = true) (hv : scalar v = true)
    (h : ∀ w, Calls P f ⟨args⟩ w fun e w' => e = .returned v ∧ Below w.heap.size w w') (H : AHeap) : ARet P f args H v H := by
  intro c w vargs hh hvs
  have e := hvs.scalars_eq ha
  subst e
  unfold CallTo
  have hbn : fn.body.isNone = false := by cases hfb : fn.body <;> simp_all
  have hr : (callFunc f ⟨args⟩).run P w = .ok (.enter f ⟨args⟩) w := by
    simp only [callFunc, Sem.run_bind, run_program, Result.andThen_ok, hf, hn, Bool.false_eq_true, if_false, hbn]
    rfl
  rw [hr]
  refine (h w).mono fun e w' ⟨he, hbl⟩ => ?_
  subst he
  exact ⟨.ret v, c, H, ⟨rfl, rfl⟩, .ret (.of_scalar hv), hh.below hbl, .below hbl⟩
end Go.Aw
namespace Go.Aw
end Go.Aw
namespace Go.Aw
/-- Appending to an empty slice that is not nil. -/
theorem appendTo_e {P : Program} {e e' : TypeId} {size y n i fz : Nat} {own : Bool} {news : List Value} {H : AHeap} {K : Value → AHeap → Prop} (hi : H[i]? = some (.cells [] ⟨e', 0, own, fz, none⟩)) (hn : n ≠ 0) (h1 : n * y ≤ 140737488355328) (h2 : n ≤ 4611686018427387904)
    (hk : K (.slice (some ⟨H.length, 0, none⟩) n n) (H ++ [.cells news ⟨e, size, true, 0, none⟩])) : appendTo P e size y (.slice (some ⟨i, 0, none⟩) 0 0) n news H K := by
  unfold appendTo
  dsimp only
  rw [hi]
  dsimp only
  refine ⟨fun h => by omega, fun _ => ⟨⟨by omega, by simpa using h1, by simpa using h2⟩, fun h => absurd rfl h.1, fun _ => ?_⟩⟩
  simpa using hk
theorem appendTo_e0 {P : Program} {e e' : TypeId} {size y i fz : Nat} {own : Bool} {news : List Value} {H : AHeap} {K : Value → AHeap → Prop} (hi : H[i]? = some (.cells [] ⟨e', 0, own, fz, none⟩))
    (hk : K (.slice (some ⟨i, 0, none⟩) 0 0) H) : appendTo P e size y (.slice (some ⟨i, 0, none⟩) 0 0) 0 news H K := by
  unfold appendTo
  dsimp only
  rw [hi]
  dsimp only
  exact ⟨fun _ => ⟨fun _ => hk, fun h => absurd rfl h⟩, fun h => by omega⟩
end Go.Aw
namespace Go.Aw
end Go.Aw


set_option linter.unusedVariables false
set_option linter.unusedSimpArgs false
namespace Go.Aw
open Go.RowKit Go.ChangeShapes Go.WideShapes Go.ChangeAt
end Go.Aw


set_option linter.unusedVariables false
set_option linter.unusedSimpArgs false
namespace Go.Aw
open Go.RowKit Go.ChangeShapes Go.WideShapes Go.ChangeAt
theorem weightsAll_mem {H : Type} {P : Program} {e : TypeId} {d : DataW H} {n : Nat} : ∀ {l : List (DataW H)}, d ∈ l → n ∈ d.weights P e → n ∈ DataW.weightsAll P e l
  | x :: l, h, hn => by
    rw [DataW.weightsAll, List.mem_append]
    rcases List.mem_cons.1 h with rfl | h
    · exact .inl hn
    · exact .inr (weightsAll_mem h hn)
theorem weightsAt {H : Type} {P : Program} {ts : List TypeId} {ds : List (DataW H)} {b : Nat} (h : (DataW.weightsEach P ts ds).all (· ≤ b) = true) {j : Nat} {t : TypeId} {d : DataW H} (ht : ts[j]? = some t) (hd : ds[j]? = some d) : (d.weights P t).all (· ≤ b) = true :=
  List.all_eq_true.2 fun n hn => List.all_eq_true.1 h n (DataW.weights_mem_each ht hd n hn)
theorem strAt {H : Type} {P : Program} {ts : List TypeId} {ds : List (DataW H)} (h : (DataW.weightsEach P ts ds).all (· ≤ reachBytes) = true) {j : Nat} {t : TypeId} {l : List UInt8} (ht : ts[j]? = some t) (hd : ds[j]? = some (.lit (.string l))) : l.length < 140737488355328 :=
  Nat.lt_of_le_of_lt (sized_string h ht hd) reachBytes_lt
end Go.Aw


set_option linter.unusedVariables false
set_option linter.unusedSimpArgs false
namespace Go.Aw
open Go.RowKit Go.ChangeShapes Go.WideShapes Go.ChangeAt
end Go.Aw


set_option linter.unusedVariables false
set_option linter.unusedSimpArgs false
namespace Go.Aw
theorem op_defer {g : Cfg} {st : ASt} {K : ASt → Prop} {Kp : Value → ASt → Prop} {d : Option Tmp} {t : TypeId} {ps : String} {af : Array Edge} {gu : Option (Nat × Bool)} {f : FuncId} {xs : Array Operand} {ts : Array TypeId} :
    opW g ⟨d, .defer ⟨.value (.func f), xs, ts⟩, t, ps, af, gu⟩ st K Kp = (g.lr = none ∧ wth (evs st xs.toList) fun args => K (ASt.put ⟨st.env, .call (.func f) [] args :: st.defs, st.H⟩ d noVal)) := by
  simp only [opW, ev, wth_some, List.nil_append]
def AMode.val : AMode → Value
  | .ret => .nilIface
  | .pan v => v
def AMode.plain : AMode → Bool
  | .ret => true
  | .pan v => Go.Aw.plain v
end Go.Aw
namespace Go.Aw
attribute [go_sem ↓] op_defer
def APan (P : Program) (f : FuncId) (args : List Value) (H : AHeap) (v : Value) (H' : AHeap) : Prop := AC P f args H fun r H1 => r = .pan v ∧ H1 = H'
theorem APan.use {P : Program} {f : FuncId} {args : List Value} {H H' : AHeap} {v : Value} {K : ARes → AHeap → Prop} (h : APan P f args H v H') (hk : K (.pan v) H') : AC P f args H K :=
  h.mono fun r H1 e => by rw [e.1, e.2]; exact hk
/-- So many rounds of a loop, one by one. -/
def roundsW (g : Cfg) (x : Code) (Q : AExit → ASt → Prop) : Nat → ASt → Prop
  | 0, _ => False
  | m + 1, st => AWP g x (next (roundsW g x Q m) Q) st
theorem roundsW_s {g : Cfg} {x : Code} {Q : AExit → ASt → Prop} {m : Nat} {st : ASt} : roundsW g x Q (m + 1) st = AWP g x (next (roundsW g x Q m) Q) st := propext Iff.rfl
theorem AWP.loopN {g : Cfg} {x : Code} {Q : AExit → ASt → Prop} {st : ASt} (m : Nat) (h : roundsW g x Q m st) : AWP g (.loop x) Q st := by
  have key : ∀ m st, roundsW g x Q m st → ∀ c0 H0 w0, ∀ c w a, SRel g.N c st w a → Trans g.n0 c0 H0 w0 c st.H w → Code.roundsIn (fenceOf g.lr) 0 g.P x (APost g Q c0 H0 w0) m a w := by
    intro m
    induction m with
    | zero => intro st h; exact h.elim
    | succ m ih =>
      intro st h c0 H0 w0 c w a hs ht
      refine wpIn_mono (h c w a hs) ?_
      rintro e a1 w1 ⟨x1, st1, c1, hq, hx, hs1, ht1⟩
      cases hx with
      | normal => exact ih st1 hq c0 H0 w0 c1 w1 a1 hs1 (ht.trans ht1)
      | exit id => exact ⟨_, st1, c1, hq, .exit id, hs1, ht.trans ht1⟩
      | goto l => exact ⟨_, st1, c1, hq, .goto l, hs1, ht.trans ht1⟩
      | ret => exact ⟨_, st1, c1, hq, .ret, hs1, ht.trans ht1⟩
      | panic hv => exact ⟨_, st1, c1, hq, .panic hv, hs1, ht.trans ht1⟩
  exact fun c w a hs => wpIn_loop_rounds m (key m st h c st.H w c w a hs (.refl _ _ _ _))
end Go.Aw
namespace Go.Aw
section
variable {P : Program} {t : TypeId} {x y : Operand} {K : Value → Prop}
theorem tIf_elim (h : tIf P t = true) : ∃ ms, P.underlying t = some (.interface ms) := by
  unfold tIf at h
  split at h
  · exact ⟨_, by assumption⟩
  · cases h
theorem binW_if_neq {a : TypeId} {v : Value} (h : tIf P t = true) : binW P .neq t x y (.iface a v) .nilIface K = K (.bool true) := by
  obtain ⟨ms, hm⟩ := tIf_elim h
  simp [binW, guardW, eqV, hm, wth]
theorem binW_if_eql {a : TypeId} {v : Value} (h : tIf P t = true) : binW P .eql t x y (.iface a v) .nilIface K = K (.bool false) := by
  obtain ⟨ms, hm⟩ := tIf_elim h
  simp [binW, guardW, eqV, hm, wth]
theorem binW_ni_neq (h : tIf P t = true) (hc : (isConst x || isConst y) = true) : binW P .neq t x y .nilIface .nilIface K = K (.bool false) := by
  obtain ⟨ms, hm⟩ := tIf_elim h
  simp only [binW, guardW, eqV, hm, wth, hc, true_and, Bool.not_true]
theorem binW_ni_eql (h : tIf P t = true) (hc : (isConst x || isConst y) = true) : binW P .eql t x y .nilIface .nilIface K = K (.bool true) := by
  obtain ⟨ms, hm⟩ := tIf_elim h
  simp only [binW, guardW, eqV, hm, wth, hc, true_and]
end
theorem isConst_c {v : Value} : isConst (.const v) = true := rfl
theorem isConst_t {t : Nat} : isConst (.tmp t) = false := rfl
attribute [go_sem] binW_if_neq binW_if_eql binW_ni_neq binW_ni_eql isConst_c isConst_t Bool.or_true Bool.true_or ifaceW AMode.val assertW
end Go.Aw
namespace Go.Aw
end Go.Aw
namespace Go.Aw
end Go.Aw
namespace Go.Aw
theorem cellsOf_gS {i n : Nat} : cellsOf (gS i n) = [gS i n] := by unfold gS; split <;> rfl
theorem flat_gS {i n : Nat} : flat (gS i n) = true := by unfold gS; split <;> rfl
attribute [go_sem] cellsOf_gS
attribute [go_sem ↓] flat_gS
end Go.Aw
namespace Go.Aw
end Go.Aw


set_option linter.unusedVariables false
namespace Go.Aw
end Go.Aw


set_option linter.unusedVariables false
namespace Go.Aw
def hP : UInt64 := 1099511628211
def hG : UInt64 := 11400714819323198485
def hB : UInt64 := 14695981039346656037
def hMix (h : UInt64) : UInt64 := h ^^^ h >>> 29
def hMix2 (h : UInt64) : UInt64 := h ^^^ h >>> 32
def hStep (h : UInt64) (b : UInt8) : UInt64 := hMix ((h ^^^ b.toUInt64) * hP)
def hEnd (n : Nat) (h : UInt64) : UInt64 := hMix2 ((h ^^^ UInt64.ofNat n) * hP) * hP
def hBeg (k : Nat) : UInt64 := hB + UInt64.ofNat k * hG
def lanes0 : List UInt64 := (List.range 4).map hBeg
def takeL (l : List UInt64) (b : UInt8) : List UInt64 := l.map fun h => hStep h b
def be8 (h : UInt64) : List UInt8 := (List.range 8).map fun j => (h >>> UInt64.ofNat (56 - 8 * j)).toUInt8
def endL (l : List UInt64) (n : Nat) : List UInt8 := l.flatMap fun h => be8 (hEnd n h)
def sumL (s : List UInt8) : List UInt8 := endL (s.foldl takeL lanes0) s.length
/-! ### Lists that are filled, one by one -/
end Go.Aw
namespace Go.Aw
end Go.Aw
namespace Go.Aw
end Go.Aw
namespace Go.Aw
theorem putCells_eq : ∀ (l cs : List Value) (off : Nat), off + l.length ≤ cs.length → putCells cs off l = cs.take off ++ l ++ cs.drop (off + l.length)
  | [], cs, off, h => by simp [putCells]
  | v :: l, cs, off, h => by
    rw [List.length_cons] at h
    unfold putCells
    rw [putCells_eq l (cs.set off v) (off + 1) (by rw [List.length_set]; omega), List.take_add_one, List.getElem?_set_self (by omega), List.take_set_of_le (Nat.le_refl _), List.drop_set_of_lt (by omega), List.length_cons]
    simp [Nat.add_assoc, Nat.add_comm 1]
end Go.Aw


set_option linter.unusedVariables false
set_option linter.unusedSimpArgs false
namespace Go.Aw
open Go.RowKit Go.ChangeShapes Go.WideShapes Go.ChangeAt
theorem rowAt_off {P : Program} {fits : TypeId → Bool} : ∀ {d : Nat} {e : TypeId} {count off n : Nat}, rowAt P fits d e count off n = true → off ≤ count * P.cellsOf e
  | 0, e, count, off, n, h => by simp [rowAt] at h
  | d + 1, e, count, off, n, h => by
    unfold rowAt at h
    simp only at h
    split at h
    · cases h
    rename_i hs
    have hs0 : 0 < P.cellsOf e := Nat.pos_of_ne_zero hs
    rw [Bool.or_eq_true] at h
    rcases h with h | h
    · simp only [Bool.and_eq_true, beq_iff_eq, decide_eq_true_eq] at h
      obtain ⟨⟨h1, h2⟩, _⟩ := h
      have e1 := Nat.div_add_mod off (P.cellsOf e)
      rw [h1, Nat.add_zero] at e1
      rw [← e1, Nat.mul_comm]
      exact Nat.mul_le_mul_right _ (by omega)
    · simp only [Bool.and_eq_true, decide_eq_true_eq] at h
      have h1 := h.1
      have := Nat.lt_mul_div_succ off hs0
      have h2 : P.cellsOf e * (off / P.cellsOf e + 1) ≤ P.cellsOf e * count := Nat.mul_le_mul_left _ (by omega)
      rw [Nat.mul_comm count]
      omega
theorem liesAt_le {P : Program} : ∀ {d : Nat} {e : TypeId} {count off : Nat} {u : TypeId} {n : Nat}, liesAt P d e count off u n = true → off ≤ count * P.cellsOf e
  | 0, e, count, off, u, n, h => by simp [liesAt] at h
  | d + 1, e, count, off, u, n, h => by
    unfold liesAt at h
    rw [Bool.or_eq_true] at h
    rcases h with h | h
    · exact rowAt_off h
    · split at h
      · exact liesAt_le h
      · cases h
def Rd0 (H : AHeap) (v : Value) (l : List Value) : Prop :=
  (v = .slice none 0 0 ∧ l = []) ∨ ∃ i cap k, v = .slice (some ⟨i, 0, none⟩) l.length cap ∧ l.length ≤ cap ∧ H[i]? = some (.cells l k) ∧ k.esz = 0 ∧ k.own = false
theorem Rd0.more {H : AHeap} {v : Value} {l : List Value} (h : Rd0 H v l) (X : AHeap) : Rd0 (H ++ X) v l := by
  rcases h with h | ⟨i, cap, k, e, hc, hi, hz⟩
  · exact .inl h
  · exact .inr ⟨i, cap, k, e, hc, (hgetl (lt_of_get hi)).trans hi, hz⟩
theorem Rd0.rd {H : AHeap} {v : Value} {l : List Value} (h : Rd0 H v l) : Rd H v l := by
  rcases h with ⟨h1, h2⟩ | ⟨i, cap, k, e, hc, hi, hz⟩
  · exact .inl ⟨h1, h2⟩
  · exact .inr ⟨i, 0, cap, l, k, e, hi, fun j hj => by rw [Nat.zero_add]⟩
end Go.Aw


set_option linter.unusedVariables false
set_option linter.unusedSimpArgs false
namespace Go.Aw
open Go.RowKit Go.ChangeShapes Go.WideShapes Go.ChangeAt
/-- What no call may write to stays. -/
def Kept (H H2 : AHeap) : Prop := ∀ (j : Nat) (cs : List Value) (k : CK), H[j]? = some (.cells cs k) → k.own = false → H2[j]? = some (.cells cs k)
theorem Kept.refl (H : AHeap) : Kept H H := fun _ _ _ h _ => h
theorem Kept.trans {H H1 H2 : AHeap} (h : Kept H H1) (k : Kept H1 H2) : Kept H H2 := fun j cs kk a b => k j cs kk (h j cs kk a b) b
theorem Kept.more (H X : AHeap) : Kept H (H ++ X) := fun j cs k h _ => by rw [hgetl (lt_of_get h)]; exact h
/-- What is changed is owned. -/
theorem Kept.frm {S : List Nat} {H H2 : AHeap} (hf : Frm S H H2) (hs : ∀ s ∈ S, ∃ cs k, H[s]? = some (.cells cs k) ∧ k.own = true) : Kept H H2 := fun j cs k h ho => hf.get h fun hm => by
  obtain ⟨cs', k', e, o⟩ := hs j hm
  rw [h] at e
  cases e
  rw [ho] at o
  cases o
theorem Kept.set {H : AHeap} {i : Nat} {cs : List Value} {k : CK} (hi : H[i]? = some (.cells cs k)) (ho : k.own = true) (o : AObj) : Kept H (H.set i o) := fun j cs' k' h ho' => by
  by_cases e : i = j
  · subst e; rw [hi] at h; cases h; rw [ho] at ho'; cases ho'
  · rw [List.getElem?_set_ne e]; exact h
/-- A slice of rows of m cells that last. -/
def RdK (H : AHeap) (m : Nat) (v : Value) (l : List (List Value)) : Prop :=
  (v = .slice none 0 0 ∧ l = []) ∨ ∃ i off cap cs k, v = .slice (some ⟨i, off, none⟩) l.length cap ∧ l.length ≤ cap ∧ H[i]? = some (.cells cs k) ∧ k.own = false ∧ (k.esz = m ∨ k.esz = 0) ∧ off + l.length * m ≤ cs.length ∧ ∀ j r, l[j]? = some r → (cs.drop (off + j * m)).take m = r
theorem RdK.kept {H H2 : AHeap} {m : Nat} {v : Value} {l : List (List Value)} (h : RdK H m v l) (hk : Kept H H2) : RdK H2 m v l := by
  rcases h with h | ⟨i, off, cap, cs, k, e, hc, hi, ho, hz, hl, hr⟩
  · exact .inl h
  · exact .inr ⟨i, off, cap, cs, k, e, hc, hk _ _ _ hi ho, ho, hz, hl, hr⟩
theorem RdK.lenT {P : Program} {t : TypeId} {H H' : AHeap} {m : Nat} {v : Value} {l : List (List Value)} {K : Value → AHeap → Prop} (h : RdK H m v l) (hu : tSl P t = true) : lenW P t v H' K = K (.int .i64 (l.length : Nat)) H' := by
  rcases h with ⟨rfl, rfl⟩ | ⟨i, off, cap, cs, k, rfl, h2, h3⟩
  · rw [lenW_sl hu]; rfl
  · rw [lenW_sl hu]
/-- At a place of such a slice. -/
theorem RdK.at_ {H : AHeap} {m : Nat} {v : Value} {l : List (List Value)} (h : RdK H m v l) {j : Nat} {r : List Value} (hj : l[j]? = some r) :
    ∃ i off cap cs k, v = .slice (some ⟨i, off, none⟩) l.length cap ∧ l.length ≤ cap ∧ H[i]? = some (.cells cs k) ∧ k.own = false ∧ (k.esz = m ∨ k.esz = 0) ∧ off + (j * m + m) ≤ cs.length ∧ (cs.drop (off + j * m)).take m = r := by
  rcases h with ⟨rfl, rfl⟩ | ⟨i, off, cap, cs, k, e, hc, hi, ho, hz, hl, hr⟩
  · simp at hj
  · have hlt := (List.getElem?_eq_some_iff.1 hj).1
    refine ⟨i, off, cap, cs, k, e, hc, hi, ho, hz, ?_, hr j r hj⟩
    have : (j + 1) * m ≤ l.length * m := Nat.mul_le_mul_right m hlt
    rw [Nat.add_mul] at this
    omega
theorem RdK.rdN {H : AHeap} {m : Nat} {v : Value} {l : List (List Value)} (h : RdK H m v l) : RdN H m v l := by
  rcases h with h | ⟨i, off, cap, cs, k, e, hc, hi, ho, hz, hl, hr⟩
  · exact .inl h
  · exact .inr ⟨i, off, cap, cs, k, e, hi, fun _ => hl, hr⟩
theorem lend_recsK {D : Type} {enc : TypeId × Value → D} {P : Program} {w : World} {t e : TypeId} {m : Nat} {v : Value} {d : DataW D} {ps : List MemPlace} {b0 bnd : Nat} (ht : P.underlying t = some (.slice e)) (hc : P.cellsOf e = m) (hm : 0 < m) (good : List Value → Prop)
    (hgood : ∀ n cs y, DataW.trod enc P w 0 (fun _ => true) true n e cs = some y → (y.1.weights P e).all (· ≤ bnd) = true → cs.all scalar = true ∧ good cs) (hw : (d.weights P t).all (· ≤ bnd) = true)
    (hval : Value.okWide P w .any b0 t v) (h : DataW.Trod enc P w 0 (fun _ => true) true t v d ps) {c : Ctx} {H : AHeap} (hL : Lent c H w) :
    ∃ (l : List (List Value)) (c' : Ctx) (X : AHeap) (av : Value), (∀ r ∈ l, r.length = m ∧ good r) ∧ Lent c' (H ++ X) w ∧ c.le c' ∧ VRel c' av v ∧ RdK (H ++ X) m av l := by
  have hna : ∀ q, v ≠ .agg q := fun q e => by
    subst e; simp [Value.okWide, ht, Cell.okWide, Cell.ok] at hval
  obtain ⟨fuel, hf⟩ := h
  rcases DataW.trod_slice ht hf with ⟨hcs, hx⟩ | ⟨a, len, cap, elems, rest, n, _, hcs, hx, h0, h1, h2, h3, h4, _⟩
  · have hv : v = .slice none 0 0 := by
      cases v <;> simp [Value.cells] at hcs hna <;> simp [hcs]
    subst hv
    exact ⟨[], c, [], _, by simp, by rw [List.append_nil]; exact hL, Ctx.le_refl _, .nilSlice _ _, .inl ⟨rfl, rfl⟩⟩
  · have hv : v = .slice (some a) len cap := by
      cases v <;> simp [Value.cells] at hcs hna <;> simp [hcs]
    subst hv
    have hok : w.has P .any b0 a e cap := by
      unfold Value.okWide at hval
      rw [ht] at hval
      simp only [Cell.okWide, ht, Cell.ok] at hval
      exact hval.2.2
    obtain ⟨_, hsp, row, cells, hsh, hlies⟩ := hok
    obtain ⟨b, off, spot⟩ := a
    simp only at hsp hsh
    subst hsp
    obtain ⟨arr, fr, hb⟩ : ∃ arr fr, w.heap[b]? = some (.cells arr row fr) := by
      unfold World.shape? at hsh
      split at hsh
      · rename_i q1 q2 q3 hq
        simp only [Option.some.injEq, Prod.mk.injEq] at hsh
        exact ⟨_, _, by rw [hq, hsh.1]⟩
      · cases hsh
    have hel : ∀ i, i < len → ∃ cs y, w.cells? 0 ⟨b, off + i * m, none⟩ m = some cs ∧ DataW.trod enc P w 0 (fun _ => true) true n e cs = some y ∧ (y.1.weights P e).all (· ≤ bnd) = true := fun i hi => by
      have := h4 i hi
      rw [hc, addr_add, List.getElem?_eq_getElem (by omega), Option.bind_eq_some_iff] at this
      obtain ⟨cs, h5, h6⟩ := this
      refine ⟨cs, _, h5, h6, List.all_eq_true.2 fun q hq => ?_⟩
      have hd : d = .slice (elems.map (·.1)) (rest.map (·.1)) := congrArg Prod.fst hx
      refine List.all_eq_true.1 hw q ?_
      rw [hd, DataW.weights, ht]
      exact List.mem_cons_of_mem _ (List.mem_append_left _ (weightsAll_mem (List.mem_map.2 ⟨_, List.getElem_mem (by omega), rfl⟩) hq))
    have hcap : len ≤ cap := by omega
    let l : List (List Value) := (List.range len).map fun i => ((List.range m).map fun j => (arr[off + i * m + j]?).getD .nilIface)
    have hrow : ∀ i, i < len → ∃ cs, l[i]? = some cs ∧ cs.length = m ∧ cs.all scalar = true ∧ good cs ∧ off + i * m + m ≤ arr.size ∧ ∀ j, j < m → arr[off + i * m + j]? = cs[j]? := fun i hi => by
      obtain ⟨cs, y, h5, h6, h6w⟩ := hel i hi
      obtain ⟨e1, e2, e3⟩ := cells_take (D := Unit) hb h5 hm
      have hcs : ((List.range m).map fun j => (arr[off + i * m + j]?).getD .nilIface) = cs := by
        refine List.ext_getElem? fun j => ?_
        by_cases hj : j < m
        · rw [List.getElem?_map, List.getElem?_range hj, Option.map_some, e3 j hj, List.getElem?_eq_getElem (by omega)]; rfl
        · rw [List.getElem?_eq_none (by simp; omega), List.getElem?_eq_none (by omega)]
      refine ⟨cs, ?_, e1, (hgood _ _ _ h6 h6w).1, (hgood _ _ _ h6 h6w).2, e2, e3⟩
      show ((List.range len).map _)[i]? = _
      rw [List.getElem?_map, List.getElem?_range hi, Option.map_some, hcs]
    have hll : l.length = len := by simp [l]
    clear_value l
    let vs : List Value := (List.range (len * m)).map fun q => (arr[off + q]?).getD .nilIface
    have hvl : vs.length = len * m := by simp [vs]
    have hvg : ∀ q, q < len * m → ∃ x, arr[off + q]? = some x ∧ vs[q]? = some x ∧ scalar x = true := fun q hq => by
      have hq1 : q / m < len := by rw [Nat.div_lt_iff_lt_mul hm]; exact hq
      obtain ⟨cs, g1, g2, g3, g4, g5, g6⟩ := hrow (q / m) hq1
      have hq2 : q % m < m := Nat.mod_lt _ hm
      have := g6 (q % m) hq2
      have hqe : off + q / m * m + q % m = off + q := by have := Nat.div_add_mod q m; rw [Nat.mul_comm] at this; omega
      rw [hqe, List.getElem?_eq_getElem (by omega)] at this
      refine ⟨cs[q % m]'(by omega), this, ?_, ?_⟩
      · show ((List.range (len * m)).map _)[q]? = _
        rw [List.getElem?_map, List.getElem?_range hq, Option.map_some, this]; rfl
      · exact List.all_eq_true.1 g3 _ (List.getElem_mem _)
    clear_value vs
    have hoff : off ≤ arr.size := by
      have h1 := liesAt_le hlies
      have h2 : cells = arr.size := by
        unfold World.shape? at hsh
        rw [hb] at hsh
        simp only [Option.some.injEq, Prod.mk.injEq] at hsh
        exact hsh.2.symm
      rw [h2] at h1
      exact Nat.le_trans h1 (Nat.div_mul_le_self _ _)
    have hsz : off + vs.length ≤ arr.size := by
      rcases Nat.eq_zero_or_pos len with h | h
      · rw [hvl, h]; omega
      · obtain ⟨cs, _, _, _, _, g5, _⟩ := hrow (len - 1) (by omega)
        have : (len - 1) * m + m = len * m := by
          have : len = (len - 1) + 1 := by omega
          conv => rhs; rw [this, Nat.add_mul, Nat.one_mul]
        rw [hvl]; omega
    have hmem : ∀ r ∈ l, r.length = m ∧ good r := fun r hr => by
      obtain ⟨i, hi⟩ := List.getElem?_of_mem hr
      obtain ⟨cs, g1, g2, g3, g4, _⟩ := hrow i (by have := (List.getElem?_eq_some_iff.1 hi).1; omega)
      rw [hi] at g1; cases g1
      exact ⟨g2, g4⟩
    rcases (show True ∨ False from .inl trivial) with _ | h00
    · refine ⟨l, _, _, .slice (some ⟨H.length, 0, none⟩) len cap, hmem, hL.add hb (off := off) (vs := vs) hsz ?_, hL.le _, ?_, ?_⟩
      · intro j x hj
        obtain ⟨y, e1, e2, e3⟩ := hvg j (by have := (List.getElem?_eq_some_iff.1 hj).1; omega)
        rw [hj] at e2; cases e2
        exact ⟨_, e1, .of_scalar e3⟩
      · have : VRel (c.add H.length ⟨b, off, vs.length, 0, 0⟩) (.slice (some ⟨H.length, 0, none⟩) len cap) (.slice (some ⟨b, off + 0, none⟩) len cap) := .slice (p := ⟨b, off, vs.length, 0, 0⟩) (by simp [Ctx.add])
        rw [Nat.add_zero] at this; exact this
      · refine .inr ⟨H.length, 0, cap, vs, ⟨row, 0, false, 0, none⟩, by rw [hll], by rw [hll]; exact hcap, hget0 rfl, rfl, .inr rfl, by rw [hll, hvl]; omega, fun j r hj => ?_⟩
        have hjl : j < len := by have := (List.getElem?_eq_some_iff.1 hj).1; omega
        obtain ⟨cs, g1, g2, g3, g4, g5, g6⟩ := hrow j hjl
        rw [hj] at g1; cases g1
        have hjm : j * m + m ≤ len * m := by
          have : (j + 1) * m ≤ len * m := Nat.mul_le_mul_right m (by omega)
          rw [Nat.add_mul, Nat.one_mul] at this; exact this
        refine List.ext_getElem? fun q => ?_
        by_cases hq : q < m
        · rw [List.getElem?_take_of_lt hq, List.getElem?_drop, Nat.zero_add]
          obtain ⟨x, e1, e2, _⟩ := hvg (j * m + q) (by omega)
          rw [e2, ← g6 q hq, ← e1]; congr 1; omega
        · rw [List.getElem?_eq_none (by rw [List.length_take]; omega), List.getElem?_eq_none (by omega)]
    · exact h00.elim
/-! ### Slices that grow -/
/-- The slice holds these rows, in what nobody else has. -/
def OwnR (H : AHeap) (e m : Nat) (l : List (List Value)) (v : Value) (j : Nat) : Prop :=
  (l = [] ∧ v = .slice none 0 0) ∨ (l ≠ [] ∧ v = .slice (some ⟨j, 0, none⟩) l.length l.length ∧ H[j]? = some (.cells l.flatten ⟨e, m, true, 0, none⟩))
theorem flat_len {m : Nat} : ∀ {l : List (List Value)}, (∀ r ∈ l, r.length = m) → l.flatten.length = l.length * m
  | [], _ => by simp
  | r :: l, h => by
    rw [List.flatten_cons, List.length_append, h r (List.mem_cons_self ..), flat_len (fun r hr => h r (List.mem_cons_of_mem _ hr)), List.length_cons, Nat.add_mul]
    omega
theorem OwnR.lenT {P : Program} {t : TypeId} {H H' : AHeap} {e m : Nat} {v : Value} {j : Nat} {l : List (List Value)} {K : Value → AHeap → Prop} (h : OwnR H e m l v j) (hu : tSl P t = true) : lenW P t v H' K = K (.int .i64 (l.length : Nat)) H' := by
  rcases h with ⟨rfl, rfl⟩ | ⟨_, rfl, _⟩
  · rw [lenW_sl hu]; rfl
  · rw [lenW_sl hu]
theorem OwnR.flat {H : AHeap} {e m : Nat} {v : Value} {j : Nat} {l : List (List Value)} (h : OwnR H e m l v j) : Go.Aw.flat v = true := by
  rcases h with ⟨_, rfl⟩ | ⟨_, rfl, _⟩ <;> rfl
/-- The state behind an append. -/
def grown (H : AHeap) (l : List (List Value)) (j : Nat) : AHeap := if l = [] then H else H.set j .dead
theorem grown_len {H : AHeap} {l : List (List Value)} {j : Nat} : (grown H l j).length = H.length := by unfold grown; split <;> simp
theorem Frm.grown {S : List Nat} {H H2 : AHeap} {l : List (List Value)} {j : Nat} (h : Frm S H H2) (hj : l ≠ [] → H.length ≤ j) (Y : AHeap) : Frm S H (grown H2 l j ++ Y) := by
  have h2 : Frm S H (Go.Aw.grown H2 l j) := by
    unfold Go.Aw.grown
    split
    · exact h
    · rename_i hne; exact Frm.set h (.inr (hj hne))
  exact ⟨by rw [List.length_append]; have := h2.1; omega, fun i hi hn => by rw [hgetl (by have := h2.1; omega)]; exact h2.2 i hi hn⟩
theorem OwnR.grew {H : AHeap} {e m j : Nat} {l : List (List Value)} {x : List Value} : OwnR (Go.Aw.grown H l j ++ [.cells (l ++ [x]).flatten ⟨e, m, true, 0, none⟩]) e m (l ++ [x]) (.slice (some ⟨H.length, 0, none⟩) (l.length + 1) (l.length + 1)) H.length :=
  .inr ⟨by simp, by simp, by rw [hget0 grown_len]; rfl⟩
theorem appendTo_R {P : Program} {e m y j : Nat} {l : List (List Value)} {x : List Value} {v : Value} {H : AHeap} {K : Value → AHeap → Prop} (h : OwnR H e m l v j) (hm0 : m ≠ 0) (hm : ∀ r ∈ l, r.length = m) (h1 : (l.length + 1) * y ≤ 140737488355328) (h2 : l.length + 1 ≤ 4611686018427387904)
    (hk : K (.slice (some ⟨H.length, 0, none⟩) (l.length + 1) (l.length + 1)) (grown H l j ++ [.cells (l ++ [x]).flatten ⟨e, m, true, 0, none⟩])) : appendTo P e m y v 1 x H K := by
  rcases h with ⟨rfl, rfl⟩ | ⟨hne, rfl, hi⟩
  · unfold grown at hk
    rw [if_pos rfl] at hk
    exact appendTo_nil (by decide) (by simpa using h1) (by decide) (by simpa using hk)
  · unfold grown at hk
    rw [if_neg hne] at hk
    refine appendTo_own hi hm0 (flat_len hm) (by decide) h1 h2 ?_
    simpa using hk
theorem OwnR.more {H : AHeap} {e m : Nat} {v : Value} {j : Nat} {l : List (List Value)} (h : OwnR H e m l v j) (X : AHeap) : OwnR (H ++ X) e m l v j := by
  rcases h with h | ⟨h1, h2, h3⟩
  · exact .inl h
  · exact .inr ⟨h1, h2, by rw [hgetl (lt_of_get h3)]; exact h3⟩
/-! ### Freezing -/
def frozen : AObj → AObj
  | .cells cs k => .cells cs { k with own := false }
  | o => o
theorem HRel.freeze {c : Ctx} {H : AHeap} {w : World} (h : HRel c H w) {j : Nat} {cs : List Value} {k : CK} (hj : H[j]? = some (.cells cs k)) : HRel c (H.set j (.cells cs { k with own := false })) w := by
  have hlt := lt_of_get hj
  refine ⟨fun i o hi hl => ?_, fun i i' oi oi' pi pi' hne hi hi' ci ci' ho hl => ?_, fun i hi => h.fresh i (by rw [List.length_set] at hi; exact hi)⟩
  · by_cases e : j = i
    · subst e
      rw [List.getElem?_set_self hlt] at hi
      cases hi
      obtain ⟨p, hp, hr⟩ := h.obj j _ hj rfl
      refine ⟨p, hp, ?_⟩
      obtain ⟨h1, h2, h3, h4, arr, lo, hh, h5, h6, h7, h8⟩ := hr
      exact ⟨h1, h2, fun hz => ⟨(h3 hz).1, fun hf => by cases hf⟩, h4, arr, lo, hh, h5, h6, h7, fun hf => by cases hf⟩
    · rw [List.getElem?_set_ne e] at hi
      exact h.obj i o hi hl
  · have get : ∀ (i : Nat) (o : AObj), (H.set j (.cells cs { k with own := false }))[i]? = some o → ∃ o' : AObj, H[i]? = some o' ∧ (o.own = true → o'.own = true) ∧ (o.live = true → o'.live = true) := fun i o hi => by
      by_cases e : j = i
      · subst e
        rw [List.getElem?_set_self hlt] at hi
        cases hi
        exact ⟨_, hj, (fun hf => by cases hf), fun _ => rfl⟩
      · rw [List.getElem?_set_ne e] at hi
        exact ⟨o, hi, id, id⟩
    obtain ⟨o1, a1, a2, a3⟩ := get i oi hi
    obtain ⟨o2, b1, b2, b3⟩ := get i' oi' hi'
    exact h.sep i i' o1 o2 pi pi' hne a1 b1 ci ci' (a2 ho) (b3 hl)
theorem Owns.freeze {c : Ctx} {H : AHeap} {j b : Nat} {cs : List Value} {k : CK} (hj : H[j]? = some (.cells cs k)) (h : Owns c (H.set j (.cells cs { k with own := false })) b) : Owns c H b := by
  obtain ⟨i, o, p, hi, hp, ho, hb⟩ := h
  by_cases e : j = i
  · subst e
    rw [List.getElem?_set_self (lt_of_get hj)] at hi
    cases hi
    cases ho
  · rw [List.getElem?_set_ne e] at hi
    exact ⟨i, o, p, hi, hp, ho, hb⟩
theorem DRel.fewer {B : Nat} {c : Ctx} {H H2 : AHeap} {w : World} (ho : ∀ b, Owns c H2 b → Owns c H b) {ds : List ADef} {ds' : List Deferred} (h : DRel B c H w ds ds') : DRel B c H2 w ds ds' := by
  induction h with
  | nil hz => exact .nil hz
  | mark hB hb hno hne _ ih => exact .mark hB hb (fun h' => hno (ho _ h')) hne ih
  | call hf h1 h2 _ ih => exact .call hf h1 h2 ih
theorem Weak.freeze {n0 : Nat} {env : List (Nat × Value)} {ds : List ADef} {H : AHeap} {j : Nat} {cs : List Value} {k : CK} (hj : H[j]? = some (.cells cs k)) : Weak n0 ⟨env, ds, H⟩ ⟨env, ds, H.set j (.cells cs { k with own := false })⟩ := fun N c w a hs =>
  ⟨c, ⟨hs.heap.freeze hj, hs.size, hs.tmps, hs.defs.fewer fun b h => h.freeze hj⟩, ⟨fun _ _ _ h => h, rfl, rfl, rfl, Nat.le_refl _, fun _ _ _ => rfl, fun b h => .inl (h.freeze hj)⟩⟩
theorem WeakV.freeze {n0 : Nat} {v : Value} {H : AHeap} {j : Nat} {cs : List Value} {k : CK} (hj : H[j]? = some (.cells cs k)) : WeakV n0 H v (H.set j (.cells cs { k with own := false })) v := fun c w v' hh hr =>
  ⟨c, hh.freeze hj, hr, ⟨fun _ _ _ h => h, rfl, rfl, rfl, Nat.le_refl _, fun _ _ _ => rfl, fun b h => .inl (h.freeze hj)⟩⟩
end Go.Aw


set_option linter.unusedVariables false
set_option linter.unusedSimpArgs false
namespace Go.Aw
open Go.RowKit Go.ChangeShapes Go.WideShapes Go.ChangeAt
inductive FK where
  | i (k : IntKind)
  | s
  | b
def FK.fits (bnd : Nat) : FK → Value → Prop
  | .i k, v => ∃ z, v = .int k z ∧ (Lit.int k z).wf = true
  | .s, v => ∃ s : List UInt8, v = .string (bs s) ∧ s.length ≤ bnd
  | .b, v => ∃ c : Bool, v = .bool c
inductive Fits (bnd : Nat) : List FK → List Value → Prop
  | nil : Fits bnd [] []
  | cons {k : FK} {v : Value} {ks : List FK} {vs : List Value} : k.fits bnd v → Fits bnd ks vs → Fits bnd (k :: ks) (v :: vs)
theorem Fits.append {bnd : Nat} : ∀ {ks : List FK} {vs : List Value} {ks' : List FK} {vs' : List Value}, Fits bnd ks vs → Fits bnd ks' vs' → Fits bnd (ks ++ ks') (vs ++ vs')
  | _, _, _, _, .nil, h => h
  | _, _, _, _, .cons a b, h => .cons a (Fits.append b h)
theorem Fits.len {bnd : Nat} : ∀ {ks : List FK} {vs : List Value}, Fits bnd ks vs → vs.length = ks.length
  | _, _, .nil => rfl
  | _, _, .cons a b => by simp [Fits.len b]
theorem FK.fits_scalar {bnd : Nat} {k : FK} {v : Value} (h : k.fits bnd v) : scalar v = true := by
  cases k <;> (unfold FK.fits at h; obtain ⟨_, h⟩ := h; first | (obtain ⟨rfl, _⟩ := h; rfl) | (subst h; rfl))
theorem Fits.scalar {bnd : Nat} : ∀ {ks : List FK} {vs : List Value}, Fits bnd ks vs → vs.all Go.Aw.scalar = true
  | _, _, .nil => rfl
  | _, _, .cons a b => by rw [List.all_cons, FK.fits_scalar a, Fits.scalar b]; rfl
/-- The cells of the fields from a place on. -/
def leafsF (f : TypeId → Option (List FK)) (P : Program) (tot : Nat) : List Field → Nat → Option (List FK)
  | [], o => if o = tot then some [] else none
  | fd :: r, o => if fd.offset = o then (f fd.type).bind fun l => if l.length = P.cellsOf fd.type then (leafsF f P tot r (o + l.length)).map (l ++ ·) else none else none
def leafs (P : Program) : Nat → TypeId → Option (List FK)
  | 0, _ => none
  | d + 1, t =>
    match P.underlying t with
    | some (.int k) => some [.i k]
    | some .string => some [.s]
    | some .bool => some [.b]
    | some (.struct fs) => leafsF (leafs P d) P (P.cellsOf t) fs.toList 0
    | _ => none
theorem trod_leafs {D : Type} {enc : TypeId × Value → D} {P : Program} {w : World} {bnd : Nat} : ∀ (d : Nat) {t : TypeId} {ks : List FK} {n : Nat} {cs : List Value} {y : DataW D × List MemPlace}, leafs P d t = some ks →
    DataW.trod enc P w 0 (fun _ => true) true n t cs = some y → (y.1.weights P t).all (· ≤ bnd) = true → Fits bnd ks cs
  | 0, _, _, _, _, _, h, _, _ => by simp [leafs] at h
  | d + 1, t, ks, n, cs, y, h, ht, hw => by
    unfold leafs at h
    split at h
    · rename_i k hu
      cases h
      obtain ⟨z, rfl, _, hz⟩ := DataW.trod_int hu ht
      exact .cons ⟨z, rfl, hz⟩ .nil
    · rename_i hu
      cases h
      obtain ⟨s, rfl, hy, _⟩ := DataW.trod_string hu ht
      rw [hy] at hw
      exact .cons ⟨s.data.toList, rfl, by simpa [DataW.weights] using hw⟩ .nil
    · rename_i hu
      cases h
      obtain ⟨c, rfl, _⟩ := DataW.trod_bool hu ht
      exact .cons ⟨c, rfl⟩ .nil
    · rename_i fs hu
      obtain ⟨xs, n', _, hy, hlen, hxl, hall⟩ := DataW.trod_struct hu ht
      have hwe : ∀ (i : Nat) (f : Field) (x : DataW D × List MemPlace), fs[i]? = some f → xs[i]? = some x → (x.1.weights P f.type).all (· ≤ bnd) = true := fun i f x hf hx => by
        refine List.all_eq_true.2 fun q hq => List.all_eq_true.1 hw q ?_
        rw [hy]
        simp only [DataW.weights, hu]
        refine DataW.weights_mem_each (j := i) (t := f.type) (d := x.1) ?_ ?_ q hq
        · rw [List.getElem?_map, Array.getElem?_toList, hf]; rfl
        · rw [List.getElem?_map, hx]; rfl
      have key : ∀ (l : List Field) (i o : Nat) (ks : List FK), fs.toList.drop i = l → leafsF (leafs P d) P (P.cellsOf t) l o = some ks → Fits bnd ks (cs.drop o) := by
        intro l
        induction l with
        | nil =>
          intro i o ks hi hl
          unfold leafsF at hl
          split at hl
          · rename_i ho
            cases hl
            rw [List.drop_eq_nil_of_le (by rw [hlen]; omega)]
            exact .nil
          · cases hl
        | cons fd r ih =>
          intro i o ks hi hl
          unfold leafsF at hl
          split at hl
          · rename_i ho
            rw [Option.bind_eq_some_iff] at hl
            obtain ⟨l1, h1, hl⟩ := hl
            split at hl
            · rename_i hll
              rw [Option.map_eq_some_iff] at hl
              obtain ⟨l2, h2, rfl⟩ := hl
              have hfi : fs[i]? = some fd := by
                have := congrArg (·[0]?) hi
                simp only [List.getElem?_drop, Nat.add_zero, List.getElem?_cons_zero] at this
                rw [← Array.getElem?_toList]; exact this
              have hix : i < xs.length := by rw [hxl]; exact (Array.getElem?_eq_some_iff.1 hfi).1
              have h3 := hall i fd hfi
              rw [List.getElem?_eq_getElem hix, ho, ← hll] at h3
              have hf1 := trod_leafs (bnd := bnd) d h1 h3 (hwe i fd _ hfi (List.getElem?_eq_getElem hix))
              have hr : fs.toList.drop (i + 1) = r := by
                rw [← List.drop_drop, hi]; rfl
              have hf2 := ih (i + 1) (o + l1.length) l2 hr h2
              have := hf1.append hf2
              rw [← List.drop_drop, List.take_append_drop] at this
              exact this
            · cases hl
          · cases hl
      have := key fs.toList 0 0 ks rfl h
      simpa using this
    · cases h
end Go.Aw

