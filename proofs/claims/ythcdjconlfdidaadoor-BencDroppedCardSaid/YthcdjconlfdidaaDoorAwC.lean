/-
  The abstract memory and the walk of code over it, part 3.
-/
import Derived.Test.YthcdjconlfdidaaDoorAwB
import Derived.Lib.LaidTab
import Derived.Shelf.Strings.Repeat
import Derived.Shelf.Strings.OnBuilder
set_option linter.unusedVariables false
set_option linter.unusedSimpArgs false
namespace Go.Aw
/-- What is claimed of an operation's value. -/
def claimOk (cl : List (Nat × Value)) (j : Nat) (u : Value) : Prop := match lk j cl with | none => True | some v => u = v
def putE (d : Option Tmp) (v : Value) (e : List (Nat × Value)) : List (Nat × Value) := match d with | some d => (d, v) :: e | none => e
def putCl (d : Option Tmp) (v : Option Value) (e : List (Nat × Value)) : List (Nat × Value) := match v with | some v => putE d v e | none => e
/-- The operations in the text's order; of those in mem only what is claimed. -/
def canW (g : Cfg) (ops : List Oper) (mem : List Nat) (cl : List (Nat × Value)) (defs : List ADef) : Nat → List Oper → List (Nat × Value) → (List (Nat × Value) → Prop) → Prop
 | _, [], e, K => K e
 | i, o :: r, e, K => if mem.contains i = true then canW g ops mem cl defs (i + 1) r (putCl o.dst (lk i cl) e) K
   else ∃ v, (∀ H, stepW g ops o ⟨e, defs, H⟩ v) ∧ canW g ops mem cl defs (i + 1) r (putE o.dst v e) K
def memStep (g : Cfg) (ops : List Oper) (cl : List (Nat × Value)) (E : List (Nat × Value)) (defs : List ADef) (j : Nat) (me : List (Nat × Value)) (H : AHeap) (K : List (Nat × Value) → AHeap → Prop) : Prop :=
 wth ops[j]? fun o => wantW ops o ⟨restrict (me ++ E) (reads ops o), defs, H⟩
  (opW g o ⟨restrict (me ++ E) (reads ops o), defs, H⟩ (fun s => s.defs = defs ∧ wth (dstV o s) fun u => claimOk cl j u ∧ K (putE o.dst u me) s.H) (fun _ _ => False))
  (claimOk cl j noVal ∧ K (putE o.dst noVal me) H)
def runM (g : Cfg) (ops : List Oper) (cl : List (Nat × Value)) (E : List (Nat × Value)) (defs : List ADef) : List Nat → List (Nat × Value) → AHeap → (List (Nat × Value) → AHeap → Prop) → Prop
 | [], me, H, K => K me H
 | j :: r, me, H, K => memStep g ops cl E defs j me H fun me H => runM g ops cl E defs r me H K
def memW (g : Cfg) (ops : List Oper) (cl : List (Nat × Value)) (E : List (Nat × Value)) (defs : List ADef) : Tr → List (Nat × Value) → AHeap → (List (Nat × Value) → AHeap → Prop) → Prop
 | .run l, me, H, K => runM g ops cl E defs l me H K
 | .step j t, me, H, K => memStep g ops cl E defs j me H fun me H => memW g ops cl E defs t me H K
 | .both a b, me, H, K => memW g ops cl E defs a me H K ∧ memW g ops cl E defs b me H K
/-- What of mem may come next. -/
def enabledM (ops : List Oper) (mem L : List Nat) : List Nat := mem.filter fun i => !L.contains i && mem.all fun j => !((ancs ops []).getD i []).contains j || L.contains j
def okRunM (ops : List Oper) (mem : List Nat) : List Nat → List Nat → Bool
 | _, [] => true
 | L, j :: r => (enabledM ops mem L).contains j && ((enabledM ops mem (j :: L)).all fun i => (r.take 1).contains i) && okRunM ops mem (j :: L) r
def okM (ops : List Oper) (mem : List Nat) : List Nat → Tr → Bool
 | L, .run l => okRunM ops mem L l
 | L, .step j t => (enabledM ops mem L).contains j && ((enabledM ops mem (j :: L)).all fun i => t.firsts.contains i) && okM ops mem (j :: L) t
 | L, .both a b => okM ops mem L a && okM ops mem L b
def visOk (ops : List Oper) (k : Nat) (mem : List Nat) (cl : List (Nat × Value)) : Bool :=
 mem.all fun j => decide (j < k) && (match ops[j]? with
  | some p => (match p.dst with
   | some d => (lk j cl).isSome || allLt k fun i => mem.contains i || (match ops[i]? with | some o => !(reads ops o).contains d | none => true)
   | none => true)
  | none => true)
def treeOkM (ops : List Oper) (mem : List Nat) (t : Tr) : Bool := ((enabledM ops mem []).all fun i => t.firsts.contains i) && okM ops mem [] t
theorem lk_append {t : Nat} {a b : List (Nat × Value)} : lk t (a ++ b) = match lk t a with | some v => some v | none => lk t b := by
 induction a with
 | nil => rfl
 | cons e r ih =>
  obtain ⟨k, v⟩ := e
  simp only [List.cons_append, lk_cons]
  split
  ·rfl
  ·exact ih
theorem lk_putE {t : Nat} {d : Option Tmp} {v : Value} {e : List (Nat × Value)} : lk t (putE d v e) = if d = some t then some v else lk t e := by
 cases d with
 | none => simp [putE]
 | some d => simp [putE, lk_cons]
theorem pickM {g : Cfg} {ops : List Oper} {mem : List Nat} {cl E : List (Nat × Value)} {defs : List ADef} {K : List (Nat × Value) → AHeap → Prop} {me : List (Nat × Value)} {H : AHeap} {L : List Nat} {j : Nat} : ∀ (t : Tr), okM ops mem L t = true → memW g ops cl E defs t me H K → j ∈ t.firsts →
  ∃ t', (∀ i ∈ enabledM ops mem (j :: L), i ∈ t'.firsts) ∧ okM ops mem (j :: L) t' = true ∧ memStep g ops cl E defs j me H fun me H => memW g ops cl E defs t' me H K
 | .run [], _, _, hj => by simp [Tr.firsts] at hj
 | .run (i :: r), hok, ht, hj => by
  simp [Tr.firsts] at hj
  subst hj
  simp only [okM, okRunM, Bool.and_eq_true] at hok
  refine ⟨.run r, fun i hi => ?_, hok.2, ht⟩
  have := List.all_eq_true.1 hok.1.2 i hi
  simpa [Tr.firsts] using this
 | .step i t, hok, ht, hj => by
  simp [Tr.firsts] at hj
  subst hj
  simp only [okM, Bool.and_eq_true] at hok
  refine ⟨t, fun i hi => ?_, hok.2, ht⟩
  have := List.all_eq_true.1 hok.1.2 i hi
  simpa using this
 | .both a b, hok, ht, hj => by
  simp only [okM, Bool.and_eq_true] at hok
  unfold memW at ht
  simp only [Tr.firsts, List.mem_append] at hj
  rcases hj with hj | hj
  ·exact pickM a hok.1 ht.1 hj
  ·exact pickM b hok.2 ht.2 hj
theorem doneM {g : Cfg} {ops : List Oper} {mem : List Nat} {cl E : List (Nat × Value)} {defs : List ADef} {K : List (Nat × Value) → AHeap → Prop} {me : List (Nat × Value)} {H : AHeap} {L : List Nat} (hL : enabledM ops mem L = []) : ∀ (t : Tr), okM ops mem L t = true → memW g ops cl E defs t me H K → K me H
 | .run [], _, ht => ht
 | .run (i :: r), hok, _ => by
  simp only [okM, okRunM, Bool.and_eq_true, hL] at hok
  simp at hok
 | .step i t, hok, _ => by
  simp only [okM, Bool.and_eq_true, hL] at hok
  simp at hok
 | .both a b, hok, ht => by
  simp only [okM, Bool.and_eq_true] at hok
  exact doneM hL a hok.1 ht.1
structure MidM (g : Cfg) (l : List Oper) (mem : List Nat) (cl E : List (Nat × Value)) (defs : List ADef) (me : List (Nat × Value)) (H : AHeap) (listed : Array Bool) (c : Ctx) (w : World) (a : Act) : Prop where
 heap : HRel c H w
 size : a.tmps.size = g.N.n
 tmps : ∀ t v, lk t (me ++ E) = some v → (∀ (i : Nat) o, l[i]? = some o → o.dst = some t → isOn listed i) → ∃ v', a.tmps[t]? = some v' ∧ VRel c v v'
 defs : DRel g.N.B c H w defs a.defers
 me : ∀ d v, lk d me = some v → ∃ j p, j ∈ mem ∧ l[j]? = some p ∧ p.dst = some d ∧ claimOk cl j v
section
variable {g : Cfg} {Q : AExit → ASt → Prop}
theorem any_frontM {ops l t : List Oper} (he : ops = l ++ t) (hok : AnyOk g.N.n ops l.length) {mem : List Nat} {cl E : List (Nat × Value)} {defs : List ADef}
  (hpure : ∀ (i : Nat) o, ¬ i ∈ mem → l[i]? = some o → ∃ v, (∀ H, stepW g ops o ⟨E, defs, H⟩ v) ∧ ∀ d, o.dst = some d → lk d E = some v)
  (hcl : ∀ (j : Nat) v o d, j ∈ mem → lk j cl = some v → l[j]? = some o → o.dst = some d → lk d E = some v) (hmem : ∀ j ∈ mem, j < l.length)
  (hvis : ∀ (i j : Nat) o p d, ¬ i ∈ mem → j ∈ mem → l[i]? = some o → l[j]? = some p → p.dst = some d → d ∈ reads ops o → (lk j cl).isSome = true)
  {K : List (Nat × Value) → AHeap → Prop} (hK : ∀ me H, K me H → regionW g ops t ⟨me ++ E, defs, H⟩ (fun st' => Q .normal st') (fun v st' => Q (.panic v) st')) :
  ∀ (fuel : Nat) (tr : Tr) (done : List Nat) (me : List (Nat × Value)) (H : AHeap) (listed : Array Bool) (c : Ctx) (w : World) (a : Act), Lst ops listed → fuel = left listed listed.size → (∀ i, l.length ≤ i → i < ops.length → ¬ isOn listed i) →
   (∀ j ∈ mem, (isOn listed j ↔ j ∈ done)) → (∀ i ∈ enabledM ops mem done, i ∈ tr.firsts) → okM ops mem done tr = true → memW g ops cl E defs tr me H K → MidM g l mem cl E defs me H listed c w a →
   wpAnyIn (fenceOf g.lr) 0 g.P .any ops.toArray (APost g Q c H w) fuel listed a w := by
 have hlen : ops.length = l.length + t.length := by rw [he]; simp
 have hfin : ∀ (tr : Tr) (done : List Nat) (me : List (Nat × Value)) (H : AHeap) (listed : Array Bool) (c : Ctx) (w : World) (a : Act), Lst ops listed → (∀ i, l.length ≤ i → i < ops.length → ¬ isOn listed i) → (∀ j ∈ mem, (isOn listed j ↔ j ∈ done)) → okM ops mem done tr = true → memW g ops cl E defs tr me H K →
   MidM g l mem cl E defs me H listed c w a → (∀ i, i < l.length → isOn listed i) → wpAnyIn (fenceOf g.lr) 0 g.P .any ops.toArray (APost g Q c H w) (left listed listed.size) listed a w := by
  intro tr done me H listed c w a hl hno hdn hokM hw hm hall
  have hon : ∀ i, i < ops.length → (isOn listed i ↔ i < l.length) := fun i hi => by
   rcases Nat.lt_or_ge i l.length with h' | h'
   ·exact ⟨fun _ => h', fun _ => hall i h'⟩
   ·exact ⟨fun h => absurd h (hno i h' hi), fun h => by omega⟩
  have hnil : enabledM ops mem done = [] := by
   apply List.eq_nil_iff_forall_not_mem.2
   intro i hi
   obtain ⟨h1, h2⟩ := List.mem_filter.1 hi
   have h3 := (hdn i h1).1 (hall i (hmem i h1))
   simp [h3] at h2
  have hk := hK me H (doneM hnil tr hokM hw)
  refine any_tail hok t l listed _ ⟨me ++ E, defs, H⟩ he (Nat.le_refl _) hl hon ?_ hk c w a ⟨hm.heap, hm.size, fun t v e => hm.tmps t v e (fun i o ho _ => hall i (List.getElem?_eq_some_iff.1 ho).1), hm.defs⟩
  rw [hl.size, left_eq (m := l.length) (by omega) hon]; omega
 intro fuel
 induction fuel with
 | zero =>
  intro tr done me H listed c w a hl hf hno hdn hfi hokM hw hm
  by_cases hall : ∀ i, i < l.length → isOn listed i
  ·have := hfin tr done me H listed c w a hl hno hdn hokM hw hm hall
   rwa [← hf] at this
  ·exfalso
   apply hall
   intro i hi
   rcases Classical.em (isOn listed i) with h' | h'
   ·exact h'
   ·have := left_set (by rw [hl.size]; omega) h'
    omega
 | succ fuel ih =>
  intro tr done me H listed c w a hl hf hno hdn hfi hokM hw hm
  by_cases hall : ∀ i, i < l.length → isOn listed i
  ·have := hfin tr done me H listed c w a hl hno hdn hokM hw hm hall
   rwa [← hf] at this
  refine ⟨fun hnil => ?_, fun i hi => ?_⟩
  ·apply absurd hall
   intro hall
   apply hall
   intro i hi
   rcases Classical.em (isOn listed i) with h' | h'
   ·exact h'
   ·exact absurd hnil (hl.some_ready hok (by omega) h')
  obtain ⟨h1, h2, _, h4⟩ := hl.ready hi
  have hil : i < l.length := by
   rcases Nat.lt_or_ge i l.length with h' | h'
   ·exact h'
   ·exact absurd (fun j hj => h4 j (hok.tail j i h' h1 (by omega))) hall
  have hoat : l[i]? = some l[i] := List.getElem?_eq_getElem hil
  generalize l[i] = o at hoat
  have hops : ops[i]? = some o := by rw [he, List.getElem?_append_left hil, hoat]
  have hd1 : ∀ d, o.dst = some d → d < g.N.n := fun d e => by
   have := hok.dsts
   unfold dstsOk at this
   rw [List.all_eq_true] at this
   have := this o (List.mem_iff_getElem?.2 ⟨_, hops⟩)
   rw [e] at this
   simpa using this
  have hfuel : fuel = left (listed.setIfInBounds i true) (listed.setIfInBounds i true).size := by
   have := left_set (by rw [hl.size]; exact h1) h2
   simp; omega
  have hno' : ∀ j, l.length ≤ j → j < ops.length → ¬ isOn (listed.setIfInBounds i true) j := fun j hj hj2 => by
   rw [isOn_set (by rw [hl.size]; exact h1)]
   rintro (rfl | h')
   ·omega
   ·exact hno j hj hj2 h'
  have hapart : ∀ (j k : Nat) (p q : Oper) (d : Nat), l[j]? = some p → l[k]? = some q → p.dst = some d → q.dst = some d → j = k := fun j k p q d hj hk hp hq => by
   have hjl := (List.getElem?_eq_some_iff.1 hj).1
   have hkl := (List.getElem?_eq_some_iff.1 hk).1
   exact hok.apart j k p q d hjl hkl (by rw [he, List.getElem?_append_left hjl, hj]) (by rw [he, List.getElem?_append_left hkl, hk]) hq hp
  have hread : ∀ (j : Nat) (p : Oper) (d : Nat), l[j]? = some p → p.dst = some d → d ∈ reads ops o → isOn listed j := fun j p d hj hp hd => by
   have hjl := (List.getElem?_eq_some_iff.1 hj).1
   exact h4 j (hok.reads i j o p d hil hjl hops (by rw [he, List.getElem?_append_left hjl, hj]) hp hd)
  have hs0 : ∀ e : List (Nat × Value), (∀ d ∈ reads ops o, lk d e = lk d (me ++ E)) → SRel g.N c ⟨restrict e (reads ops o), defs, H⟩ w a := fun e hee => by
   refine ⟨hm.heap, hm.size, fun t x e2 => ?_, hm.defs⟩
   obtain ⟨h5, h6⟩ := lk_restrict e2
   rw [hee t h5] at h6
   exact hm.tmps t x h6 (fun j p hj hp => hread j p t hj hp h5)
  have hoa : ops.toArray[i]? = some o := by simpa using hops
  have hon : ∀ j, isOn (listed.setIfInBounds i true) j ↔ i = j ∨ isOn listed j := fun j => isOn_set (by rw [hl.size]; exact h1)
  by_cases him : i ∈ mem
  ·-- an operation of the tree
   have hie : i ∈ enabledM ops mem done := by
    refine List.mem_filter.2 ⟨him, ?_⟩
    have hnd : ¬ i ∈ done := fun h => h2 ((hdn i him).2 h)
    simp only [Bool.and_eq_true, Bool.not_eq_true', List.all_eq_true, Bool.or_eq_true]
    refine ⟨by simpa using hnd, fun j hj => ?_⟩
    rcases hc : ((ancs ops []).getD i []).contains j with _ | _
    ·exact .inl rfl
    ·refine .inr ?_
     have := h4 j (by simpa using hc)
     simpa using (hdn j hj).1 this
   obtain ⟨t', hfi', hok', hst⟩ := pickM tr hokM hw (hfi i hie)
   unfold memStep at hst
   rw [hops, wth_some] at hst
   have hs1 := hs0 (me ++ E) (fun d _ => rfl)
   have hdn' : ∀ j ∈ mem, (isOn (listed.setIfInBounds i true) j ↔ j ∈ i :: done) := fun j hj => by
    rw [hon, hdn j hj]; simp [eq_comm]
   have hmid : ∀ (c' : Ctx) (a' : Act) (w' : World) (H' : AHeap) (u u' : Value), c.le c' → HRel c' H' w' → DRel g.N.B c' H' w' defs a'.defers → a'.tmps = (a.put o.dst u').tmps → (∀ d, o.dst = some d → VRel c' u u') → claimOk cl i u →
     MidM g l mem cl E defs (putE o.dst u me) H' (listed.setIfInBounds i true) c' w' a' := by
    intro c' a' w' H' u u' hle hh hdf ht hu hc
    refine ⟨hh, ?_, ?_, hdf, ?_⟩
    ·rw [ht, ← hm.size]; cases o.dst <;> simp [Act.put]
    ·intro x v e hx
     rw [lk_append, lk_putE] at e
     by_cases hdt : o.dst = some x
     ·rw [if_pos hdt] at e
      cases e
      refine ⟨u', ?_, hu x hdt⟩
      rw [ht, hdt]
      simp [Act.put, hm.size, hd1 x hdt]
     ·rw [if_neg hdt, ← lk_append] at e
      obtain ⟨x', k1, k2⟩ := hm.tmps x v e (fun j p hj hp => by
       rcases (hon j).1 (hx j p hj hp) with rfl | h'
       ·rw [hoat] at hj; cases hj; exact absurd hp hdt
       ·exact h')
      refine ⟨x', ?_, k2.mono hle⟩
      rw [ht]
      cases hd : o.dst with
      | none => simpa [Act.put] using k1
      | some d =>
       have hne : d ≠ x := fun e => hdt (by rw [hd, e])
       simp [Act.put, hne, k1]
    ·intro d v e
     rw [lk_putE] at e
     by_cases hdt : o.dst = some d
     ·rw [if_pos hdt] at e
      cases e
      exact ⟨i, o, him, hoat, hdt, hc⟩
     ·rw [if_neg hdt] at e
      exact hm.me d v e
   unfold wpOpIn
   simp only [hoa]
   rcases wantW_elim hs1 hst with ⟨hwn, hr⟩ | ⟨hwn, hr⟩
   ·rw [if_pos hwn]
    refine opW_ok hd1 hr c w a _ _ hs1 ?_ ?_
    ·rintro s c' a' w' ⟨hdf, hu⟩ hs' ht ⟨hle, x, hx⟩
     obtain ⟨u, hdu, hc, hw'⟩ := wth_elim hu
     have hm' : MidM g l mem cl E defs (putE o.dst u me) s.H (listed.setIfInBounds i true) c' w' a' := by
      refine hmid c' a' w' s.H u x hle hs'.heap (by have := hs'.defs; rwa [hdf] at this) hx (fun d hd => ?_) hc
      unfold dstV at hdu
      rw [hd] at hdu
      obtain ⟨y, k1, k2⟩ := hs'.tmps d u hdu
      rw [hx, hd] at k1
      simp [Act.put, hm.size, hd1 d hd] at k1
      rw [k1]; exact k2
     have := ih t' (i :: done) _ s.H _ c' w' a' (hl.set hi) hfuel hno' hdn' hfi' hok' hw' hm'
     exact any_tail.wpAny_mono (fun e a2 w2 hp => hp.back ht) this
    ·intro v v' st' c' a' w' hKp
     exact hKp.elim
   ·rw [if_neg (by rw [hwn]; simp)]
    refine ⟨about_any g.lr, ?_⟩
    refine ih t' (i :: done) _ H _ c w _ (hl.set hi) hfuel hno' hdn' hfi' hok' hr.2 (hmid c _ w H noVal undef (Ctx.le_refl c) hm.heap ?_ rfl (fun d hd => .tuple .nil) hr.1)
    have : (a.put o.dst undef).defers = a.defers := by cases o.dst <;> rfl
    rw [this]; exact hm.defs
  ·-- an operation that leaves memory alone
   obtain ⟨v, hs, hlk⟩ := hpure i o him hoat
   have hs := hs H
   have hee : ∀ d ∈ reads ops o, lk d E = lk d (me ++ E) := fun d hd => by
    rw [lk_append]
    cases hme : lk d me with
    | none => rfl
    | some u =>
     obtain ⟨j, p, hj, hp, hpd, hc⟩ := hm.me d u hme
     have hsome := hvis i j o p d him hj hoat hp hpd hd
     unfold claimOk at hc
     cases hlj : lk j cl with
     | none => rw [hlj] at hsome; cases hsome
     | some x =>
      rw [hlj] at hc
      simp only at hc
      rw [hcl j x p d hj hlj hp hpd, hc]
   have hs1 : SRel g.N c (ASt.only ops o ⟨E, defs, H⟩) w a := hs0 E hee
   have hdn' : ∀ j ∈ mem, (isOn (listed.setIfInBounds i true) j ↔ j ∈ done) := fun j hj => by
    rw [hon, hdn j hj]
    exact ⟨fun h => h.elim (fun e => absurd (e ▸ hj) him) id, .inr⟩
   have hmid : ∀ (c' : Ctx) (a' : Act) (w' : World) (u : Value), c.le c' → HRel c' H w' → DRel g.N.B c' H w' defs a'.defers → a'.tmps = (a.put o.dst u).tmps → (∀ d, o.dst = some d → VRel c' v u) → MidM g l mem cl E defs me H (listed.setIfInBounds i true) c' w' a' := by
    intro c' a' w' u hle hh hdf ht hu
    refine ⟨hh, ?_, ?_, hdf, hm.me⟩
    ·rw [ht, ← hm.size]; cases o.dst <;> simp [Act.put]
    ·intro x y e hx
     by_cases hdt : o.dst = some x
     ·have e2 : lk x (me ++ E) = some v := by
       rw [lk_append]
       cases hme : lk x me with
       | none => exact hlk x hdt
       | some z =>
        obtain ⟨j, p, hj, hp, hpd, _⟩ := hm.me x z hme
        exact absurd (hapart j i p o x hp hoat hpd hdt ▸ hj) him
      rw [e2] at e; cases e
      refine ⟨u, ?_, hu x hdt⟩
      rw [ht, hdt]
      simp [Act.put, hm.size, hd1 x hdt]
     ·obtain ⟨x', k1, k2⟩ := hm.tmps x y e (fun j p hj hp => by
       rcases (hon j).1 (hx j p hj hp) with rfl | h'
       ·rw [hoat] at hj; cases hj; exact absurd hp hdt
       ·exact h')
      refine ⟨x', ?_, k2.mono hle⟩
      rw [ht]
      cases hd : o.dst with
      | none => simpa [Act.put] using k1
      | some d =>
       have hne : d ≠ x := fun e => hdt (by rw [hd, e])
       simp [Act.put, hne, k1]
   unfold wpOpIn
   simp only [hoa]
   unfold stepW at hs
   rcases wantW_elim hs1 hs with ⟨hwn, hr⟩ | ⟨hwn, hr⟩
   ·rw [if_pos hwn]
    refine opW_ok hd1 hr c w a _ _ hs1 ?_ ?_
    ·rintro s c' a' w' ⟨hH, hdf, hl'⟩ hs' ht ⟨hle, x, hx⟩
     have hH : s.H = H := hH
     have hdf : s.defs = defs := hdf
     have hm' : MidM g l mem cl E defs me H (listed.setIfInBounds i true) c' w' a' := by
      have hh := hs'.heap
      rw [hH] at hh
      have hd' := hs'.defs
      rw [hdf, hH] at hd'
      refine hmid c' a' w' x hle hh hd' hx (fun d hd => ?_)
      obtain ⟨y, k1, k2⟩ := hs'.tmps d v (hl' d hd)
      rw [hx, hd] at k1
      simp [Act.put, hm.size, hd1 d hd] at k1
      rw [k1]; exact k2
     have := ih tr done me H _ c' w' a' (hl.set hi) hfuel hno' hdn' hfi hokM hw hm'
     rw [hH] at ht
     exact any_tail.wpAny_mono (fun e a2 w2 hp => hp.back ht) this
    ·intro v v' st' c' a' w' hKp
     exact hKp.elim
   ·rw [if_neg (by rw [hwn]; simp)]
    refine ⟨about_any g.lr, ?_⟩
    subst hr
    refine ih tr done me H _ c w _ (hl.set hi) hfuel hno' hdn' hfi hokM hw (hmid c _ w undef (Ctx.le_refl c) hm.heap ?_ rfl (fun d hd => .tuple .nil))
    have : (a.put o.dst undef).defers = a.defers := by cases o.dst <;> rfl
    rw [this]; exact hm.defs
/-- What the pass in the text's order gives. -/
theorem canW_elim {ops : List Oper} {mem : List Nat} {cl : List (Nat × Value)} {defs : List ADef} {K : List (Nat × Value) → Prop} : ∀ (l pre : List Oper) (e : List (Nat × Value)), canW g ops mem cl defs pre.length l e K →
  (∀ (i j : Nat) o p d, i < (pre ++ l).length → j < (pre ++ l).length → (pre ++ l)[i]? = some o → (pre ++ l)[j]? = some p → o.dst = some d → p.dst = some d → i = j) →
  (∀ (i j : Nat) o p d, (pre ++ l)[i]? = some o → (pre ++ l)[j]? = some p → p.dst = some d → d ∈ reads ops o → j < i) →
  ∃ E, K E ∧ (∀ d, (∀ o ∈ l, o.dst ≠ some d) → lk d E = lk d e) ∧
   (∀ (i : Nat) o, ¬ (pre.length + i) ∈ mem → l[i]? = some o → ∃ v, (∀ H, stepW g ops o ⟨E, defs, H⟩ v) ∧ ∀ d, o.dst = some d → lk d E = some v) ∧
   (∀ (i : Nat) v o d, (pre.length + i) ∈ mem → lk (pre.length + i) cl = some v → l[i]? = some o → o.dst = some d → lk d E = some v)
 | [], pre, e, h, _, _ => ⟨e, h, fun _ _ => rfl, fun i o _ ho => by simp at ho, fun i v o d _ _ ho => by simp at ho⟩
 | o :: r, pre, e, h, hap, hrd => by
  have hcat : pre ++ o :: r = (pre ++ [o]) ++ r := by simp
  have hat : (pre ++ o :: r)[pre.length]? = some o := by simp
  have hap2 := hap
  have hrd2 := hrd
  rw [hcat] at hap2 hrd2
  have hpl : (pre ++ [o]).length = pre.length + 1 := by simp
  -- no later operation gives what this one gives
  have hlate : ∀ d, o.dst = some d → ∀ q ∈ r, q.dst ≠ some d := fun d hd q hq hqd => by
   obtain ⟨m, hm⟩ := List.mem_iff_getElem?.1 hq
   have hm2 : (pre ++ o :: r)[pre.length + 1 + m]? = some q := by
    rw [List.getElem?_append_right (by omega), show pre.length + 1 + m - pre.length = m + 1 by omega]; exact hm
   have := hap _ _ o q d (by simp) (List.getElem?_eq_some_iff.1 hm2).1 hat hm2 hd hqd
   omega
  unfold canW at h
  by_cases hmm : pre.length ∈ mem
  ·rw [if_pos (by simpa using hmm)] at h
   rw [← hpl] at h
   obtain ⟨E, h1, h2, h3, h4⟩ := canW_elim r (pre ++ [o]) _ h hap2 hrd2
   refine ⟨E, h1, fun d hd => ?_, fun i p hi hp => ?_, fun i v p d hi hv hp hd => ?_⟩
   ·rw [h2 d (fun q hq => hd q (List.mem_cons_of_mem _ hq))]
    unfold putCl
    cases lk pre.length cl with
    | none => rfl
    | some v =>
     simp only
     rw [lk_putE, if_neg (hd o (List.mem_cons_self ..))]
   ·cases i with
    | zero => exact absurd hmm hi
    | succ i => exact h3 i p (by rw [hpl, show pre.length + 1 + i = pre.length + (i + 1) by omega]; exact hi) hp
   ·cases i with
    | zero =>
     simp at hp
     subst hp
     rw [h2 d (hlate d hd)]
     unfold putCl
     rw [show lk pre.length cl = some v from hv]
     simp only
     rw [lk_putE, if_pos hd]
    | succ i => exact h4 i v p d (by rw [hpl, show pre.length + 1 + i = pre.length + (i + 1) by omega]; exact hi) (by rw [hpl, show pre.length + 1 + i = pre.length + (i + 1) by omega]; exact hv) hp hd
  ·rw [if_neg (by simpa using hmm)] at h
   obtain ⟨v, hv, h⟩ := h
   rw [← hpl] at h
   obtain ⟨E, h1, h2, h3, h4⟩ := canW_elim r (pre ++ [o]) _ h hap2 hrd2
   refine ⟨E, h1, fun d hd => ?_, fun i p hi hp => ?_, fun i v p d hi hv hp hd => ?_⟩
   ·rw [h2 d (fun q hq => hd q (List.mem_cons_of_mem _ hq)), lk_putE, if_neg (hd o (List.mem_cons_self ..))]
   ·cases i with
    | zero =>
     simp at hp
     subst hp
     refine ⟨v, fun H => ?_, fun d hd => by rw [h2 d (hlate d hd), lk_putE, if_pos hd]⟩
     have hs := hv H
     have : ASt.only ops o ⟨e, defs, H⟩ = ASt.only ops o ⟨E, defs, H⟩ := by
      unfold ASt.only
      simp only
      congr 1
      refine restrict_congr fun d hd => ?_
      rw [h2 d (fun q hq hqd => ?_), lk_putE, if_neg (fun hod => ?_)]
      ·have := hrd _ _ o o d hat hat hod hd
       omega
      ·obtain ⟨m, hm⟩ := List.mem_iff_getElem?.1 hq
       have hm2 : (pre ++ o :: r)[pre.length + 1 + m]? = some q := by
        rw [List.getElem?_append_right (by omega), show pre.length + 1 + m - pre.length = m + 1 by omega]; exact hm
       have := hrd _ _ o q d hat hm2 hqd hd
       omega
     unfold stepW at hs ⊢
     rw [← this]
     exact hs
    | succ i => exact h3 i p (by rw [hpl, show pre.length + 1 + i = pre.length + (i + 1) by omega]; exact hi) hp
   ·cases i with
    | zero => exact absurd hi hmm
    | succ i => exact h4 i v p d (by rw [hpl, show pre.length + 1 + i = pre.length + (i + 1) by omega]; exact hi) (by rw [hpl, show pre.length + 1 + i = pre.length + (i + 1) by omega]; exact hv) hp hd
/-- A drawing region whose first k operations are either of mem (then the tree looks at them), or leave memory alone. -/
theorem AWP.regionM {env : List (Nat × Value)} {defs : List ADef} {H : AHeap} {id : Nat} {ops : List Oper} (k : Nat) (mem : List Nat) (cl : List (Nat × Value)) (tr : Tr) (hm : g.P.follows .mixedOrders = true) (hk : k ≤ ops.length) (hok : anyOk g.N.n ops k = true) (htr : treeOkM ops mem tr = true) (hv : visOk ops k mem cl = true)
  (h : canW g ops mem cl defs 0 (ops.take k) env (fun E => memW g ops cl E defs tr [] H fun me H => regionW g ops (ops.drop k) ⟨me ++ E, defs, H⟩ (fun st' => Q .normal st') (fun v st' => Q (.panic v) st'))) :
  AWP g (.region id ops.toArray true) Q ⟨env, defs, H⟩ := by
 intro c w a hs
 have hok := AnyOk.of hok
 have he : ops = ops.take k ++ ops.drop k := (List.take_append_drop k ops).symm
 have hlk : (ops.take k).length = k := by rw [List.length_take]; omega
 have hget : ∀ (i : Nat) o, (ops.take k)[i]? = some o → i < k ∧ ops[i]? = some o := fun i o ho => by
  have := (List.getElem?_eq_some_iff.1 ho).1
  rw [List.getElem?_take] at ho
  split at ho
  ·exact ⟨by assumption, ho⟩
  ·cases ho
 obtain ⟨E, hK, hE0, hpure, hcl⟩ := canW_elim (ops.take k) [] env h (fun i j o p d _ _ hi hj hd hd' => by
   rw [List.nil_append] at hi hj
   obtain ⟨i1, i2⟩ := hget i o hi
   obtain ⟨j1, j2⟩ := hget j p hj
   exact hok.apart i j o p d i1 j1 i2 j2 hd' hd) (fun i j o p d hi hj hd hr => by
   rw [List.nil_append] at hi hj
   obtain ⟨i1, i2⟩ := hget i o hi
   obtain ⟨j1, j2⟩ := hget j p hj
   exact anc_lt hok i j (hok.reads i j o p d i1 j1 i2 j2 hd hr))
 simp only [List.length_nil, Nat.zero_add] at hpure hcl
 simp only [treeOkM, Bool.and_eq_true] at htr
 have hvj : ∀ j ∈ mem, j < k ∧ ∀ (p : Oper) (d : Nat), ops[j]? = some p → p.dst = some d → (lk j cl).isSome = true ∨ ∀ (i : Nat) (o : Oper), i < k → ¬ i ∈ mem → ops[i]? = some o → ¬ d ∈ reads ops o := fun j hj => by
  have := List.all_eq_true.1 hv j hj
  simp only [Bool.and_eq_true, decide_eq_true_eq] at this
  refine ⟨this.1, fun p d hp hd => ?_⟩
  have h2 := this.2
  rw [hp] at h2
  simp only [hd, Bool.or_eq_true] at h2
  rcases h2 with h2 | h2
  ·exact .inl h2
  ·refine .inr fun i o hi him ho hdr => ?_
   have := allLt_spec h2 i hi
   rw [ho] at this
   simp only [Bool.or_eq_true, Bool.not_eq_true'] at this
   rcases this with h3 | h3
   ·exact him (by simpa using h3)
   ·simp [hdr] at h3
 refine wpIn_region_any hm ?_
 obtain ⟨hh, ht⟩ := hs.heap.drew g.n0
 have := any_frontM (g := g) (Q := Q) (ops := ops) (l := ops.take k) (t := ops.drop k) he (by rw [hlk]; exact hok) (mem := mem) (cl := cl) (E := E) (defs := defs) hpure (fun j v o d hj hv ho hd => hcl j v o d hj hv ho hd) (fun j hj => by rw [hlk]; exact (hvj j hj).1) (fun i j o p d hi hj ho hp hd hr => by
   obtain ⟨i1, i2⟩ := hget i o ho
   obtain ⟨j1, j2⟩ := hget j p hp
   rcases (hvj j hj).2 p d j2 hd with h | h
   ·exact h
   ·exact absurd hr (h i o i1 hi i2)) (fun me H h => h) ops.length tr [] [] H (Array.replicate ops.length false) c w.drew a ?_ ?_ ?_ ?_ ?_ htr.2 hK ?_
 ·have := any_tail.wpAny_mono (fun e a2 w2 hp => hp.back ht) this
  simpa using this
 ·refine ⟨by simp, fun j o ho hj => ?_⟩
  exact absurd hj (not_isOn_replicate _ _)
 ·have := left_eq (listed := Array.replicate ops.length false) (m := 0) (n := ops.length) (Nat.zero_le _) (fun i hi => ⟨fun h => absurd h (not_isOn_replicate _ _), fun h => by omega⟩)
  simpa using this.symm
 ·intro i _ hi
  exact not_isOn_replicate _ _
 ·intro j _
  exact ⟨fun h => absurd h (not_isOn_replicate _ _), fun h => by cases h⟩
 ·intro i hi
  have := List.all_eq_true.1 htr.1 i hi
  simpa using this
 ·refine ⟨hh, hs.size, fun x v e hx => ?_, hs.defs.step (n := g.n0) (Ctx.le_refl c) ht, fun d v e => by cases e⟩
  have e2 : lk x env = some v := by
   rw [← e]
   show lk x env = lk x E
   refine (hE0 x fun o ho hd => ?_).symm
   obtain ⟨j, hj⟩ := List.mem_iff_getElem?.1 ho
   exact absurd (hx j o hj hd) (not_isOn_replicate _ _)
  exact hs.tmps x v e2
theorem canW_cons {ops : List Oper} {mem : List Nat} {cl : List (Nat × Value)} {defs : List ADef} {i : Nat} {o : Oper} {r : List Oper} {e : List (Nat × Value)} {K : List (Nat × Value) → Prop} : canW g ops mem cl defs i (o :: r) e K = if mem.contains i = true then canW g ops mem cl defs (i + 1) r (putCl o.dst (lk i cl) e) K
   else ∃ v, (∀ H, stepW g ops o ⟨e, defs, H⟩ v) ∧ canW g ops mem cl defs (i + 1) r (putE o.dst v e) K := rfl
theorem runM_cons {ops : List Oper} {cl E me : List (Nat × Value)} {defs : List ADef} {H : AHeap} {K : List (Nat × Value) → AHeap → Prop} {j : Nat} {r : List Nat} : runM g ops cl E defs (j :: r) me H K = memStep g ops cl E defs j me H fun me H => runM g ops cl E defs r me H K := rfl
theorem memW_run {ops : List Oper} {cl E me : List (Nat × Value)} {defs : List ADef} {H : AHeap} {K : List (Nat × Value) → AHeap → Prop} {l : List Nat} : memW g ops cl E defs (.run l) me H K = runM g ops cl E defs l me H K := rfl
theorem putE_s {d : Nat} {v : Value} {e : List (Nat × Value)} : putE (some d) v e = (d, v) :: e := rfl
theorem putE_n {v : Value} {e : List (Nat × Value)} : putE none v e = e := rfl
theorem putCl_s {d : Option Tmp} {v : Value} {e : List (Nat × Value)} : putCl d (some v) e = putE d v e := rfl
theorem putCl_n {d : Option Tmp} {e : List (Nat × Value)} : putCl d none e = e := rfl
theorem claimOk_cons {k j : Nat} {v u : Value} {r : List (Nat × Value)} : claimOk ((k, v) :: r) j u = if k = j then u = v else claimOk r j u := by
 unfold claimOk
 rw [lk_cons]
 by_cases h : k = j
 ·rw [if_pos h, if_pos h]
 ·rw [if_neg h, if_neg h]
theorem claimOk_nil {j : Nat} {u : Value} : claimOk [] j u = True := rfl
theorem canW_n {ops : List Oper} {mem : List Nat} {cl : List (Nat × Value)} {defs : List ADef} {i : Nat} {e : List (Nat × Value)} {K : List (Nat × Value) → Prop} (h : K e) : canW g ops mem cl defs i [] e K := h
theorem canW_p {ops : List Oper} {mem : List Nat} {cl : List (Nat × Value)} {defs : List ADef} {i : Nat} {o : Oper} {r : List Oper} {e : List (Nat × Value)} {K : List (Nat × Value) → Prop} (hm : mem.contains i = false) {v : Value} (hv : ∀ H, stepW g ops o ⟨e, defs, H⟩ v) (h : canW g ops mem cl defs (i + 1) r (putE o.dst v e) K) : canW g ops mem cl defs i (o :: r) e K := by
 rw [canW_cons, if_neg (by rw [hm]; decide)]
 exact ⟨v, hv, h⟩
theorem canW_m {ops : List Oper} {mem : List Nat} {cl : List (Nat × Value)} {defs : List ADef} {i : Nat} {o : Oper} {r : List Oper} {e : List (Nat × Value)} {K : List (Nat × Value) → Prop} (hm : mem.contains i = true) (h : canW g ops mem cl defs (i + 1) r (putCl o.dst (lk i cl) e) K) : canW g ops mem cl defs i (o :: r) e K := by
 rw [canW_cons, if_pos hm]
 exact h
theorem memW_b {ops : List Oper} {cl E me : List (Nat × Value)} {defs : List ADef} {H : AHeap} {K : List (Nat × Value) → AHeap → Prop} {a b : Tr} (h1 : memW g ops cl E defs a me H K) (h2 : memW g ops cl E defs b me H K) : memW g ops cl E defs (.both a b) me H K := ⟨h1, h2⟩
theorem memW_s {ops : List Oper} {cl E me : List (Nat × Value)} {defs : List ADef} {H : AHeap} {K : List (Nat × Value) → AHeap → Prop} {j : Nat} {t : Tr} {o : Oper} (ho : ops[j]? = some o) (h : wantW ops o ⟨restrict (me ++ E) (reads ops o), defs, H⟩
  (opW g o ⟨restrict (me ++ E) (reads ops o), defs, H⟩ (fun s => s.defs = defs ∧ wth (dstV o s) fun u => claimOk cl j u ∧ memW g ops cl E defs t (putE o.dst u me) s.H K) (fun _ _ => False))
  (claimOk cl j noVal ∧ memW g ops cl E defs t (putE o.dst noVal me) H K)) : memW g ops cl E defs (.step j t) me H K := by
 show memStep g ops cl E defs j me H _
 unfold memStep
 rw [ho]
 exact h
theorem memW_r {ops : List Oper} {cl E me : List (Nat × Value)} {defs : List ADef} {H : AHeap} {K : List (Nat × Value) → AHeap → Prop} {j : Nat} {r : List Nat} {o : Oper} (ho : ops[j]? = some o) (h : wantW ops o ⟨restrict (me ++ E) (reads ops o), defs, H⟩
  (opW g o ⟨restrict (me ++ E) (reads ops o), defs, H⟩ (fun s => s.defs = defs ∧ wth (dstV o s) fun u => claimOk cl j u ∧ memW g ops cl E defs (.run r) (putE o.dst u me) s.H K) (fun _ _ => False))
  (claimOk cl j noVal ∧ memW g ops cl E defs (.run r) (putE o.dst noVal me) H K)) : memW g ops cl E defs (.run (j :: r)) me H K := by
 simp only [memW_run] at h
 rw [memW_run, runM_cons]
 unfold memStep
 rw [ho]
 exact h
theorem memW_e {ops : List Oper} {cl E me : List (Nat × Value)} {defs : List ADef} {H : AHeap} {K : List (Nat × Value) → AHeap → Prop} (h : K me H) : memW g ops cl E defs (.run []) me H K := h
attribute [go_sem] putE_s putE_n putCl_s putCl_n claimOk_cons claimOk_nil dstV
end
end Go.Aw


set_option linter.unusedVariables false
set_option linter.unusedSimpArgs false
set_option maxHeartbeats 4000000
namespace Go.Aw
open Go
def memStepP (Kp : Value → ASt → Prop) (g : Cfg) (ops : List Oper) (cl : List (Nat × Value)) (E : List (Nat × Value)) (defs : List ADef) (j : Nat) (me : List (Nat × Value)) (H : AHeap) (K : List (Nat × Value) → AHeap → Prop) : Prop :=
 wth ops[j]? fun o => wantW ops o ⟨restrict (me ++ E) (reads ops o), defs, H⟩
  (opW g o ⟨restrict (me ++ E) (reads ops o), defs, H⟩ (fun s => s.defs = defs ∧ wth (dstV o s) fun u => claimOk cl j u ∧ K (putE o.dst u me) s.H) Kp)
  (claimOk cl j noVal ∧ K (putE o.dst noVal me) H)
def runMP (Kp : Value → ASt → Prop) (g : Cfg) (ops : List Oper) (cl : List (Nat × Value)) (E : List (Nat × Value)) (defs : List ADef) : List Nat → List (Nat × Value) → AHeap → (List (Nat × Value) → AHeap → Prop) → Prop
 | [], me, H, K => K me H
 | j :: r, me, H, K => memStepP Kp g ops cl E defs j me H fun me H => runMP Kp g ops cl E defs r me H K
def memWP (Kp : Value → ASt → Prop) (g : Cfg) (ops : List Oper) (cl : List (Nat × Value)) (E : List (Nat × Value)) (defs : List ADef) : Tr → List (Nat × Value) → AHeap → (List (Nat × Value) → AHeap → Prop) → Prop
 | .run l, me, H, K => runMP Kp g ops cl E defs l me H K
 | .step j t, me, H, K => memStepP Kp g ops cl E defs j me H fun me H => memWP Kp g ops cl E defs t me H K
 | .both a b, me, H, K => memWP Kp g ops cl E defs a me H K ∧ memWP Kp g ops cl E defs b me H K
variable {Kp : Value → ASt → Prop}
theorem pickMP {g : Cfg} {ops : List Oper} {mem : List Nat} {cl E : List (Nat × Value)} {defs : List ADef} {K : List (Nat × Value) → AHeap → Prop} {me : List (Nat × Value)} {H : AHeap} {L : List Nat} {j : Nat} : ∀ (t : Tr), okM ops mem L t = true → memWP Kp g ops cl E defs t me H K → j ∈ t.firsts →
  ∃ t', (∀ i ∈ enabledM ops mem (j :: L), i ∈ t'.firsts) ∧ okM ops mem (j :: L) t' = true ∧ memStepP Kp g ops cl E defs j me H fun me H => memWP Kp g ops cl E defs t' me H K
 | .run [], _, _, hj => by simp [Tr.firsts] at hj
 | .run (i :: r), hok, ht, hj => by
  simp [Tr.firsts] at hj
  subst hj
  simp only [okM, okRunM, Bool.and_eq_true] at hok
  refine ⟨.run r, fun i hi => ?_, hok.2, ht⟩
  have := List.all_eq_true.1 hok.1.2 i hi
  simpa [Tr.firsts] using this
 | .step i t, hok, ht, hj => by
  simp [Tr.firsts] at hj
  subst hj
  simp only [okM, Bool.and_eq_true] at hok
  refine ⟨t, fun i hi => ?_, hok.2, ht⟩
  have := List.all_eq_true.1 hok.1.2 i hi
  simpa using this
 | .both a b, hok, ht, hj => by
  simp only [okM, Bool.and_eq_true] at hok
  unfold memWP at ht
  simp only [Tr.firsts, List.mem_append] at hj
  rcases hj with hj | hj
  ·exact pickMP a hok.1 ht.1 hj
  ·exact pickMP b hok.2 ht.2 hj
theorem doneMP {g : Cfg} {ops : List Oper} {mem : List Nat} {cl E : List (Nat × Value)} {defs : List ADef} {K : List (Nat × Value) → AHeap → Prop} {me : List (Nat × Value)} {H : AHeap} {L : List Nat} (hL : enabledM ops mem L = []) : ∀ (t : Tr), okM ops mem L t = true → memWP Kp g ops cl E defs t me H K → K me H
 | .run [], _, ht => ht
 | .run (i :: r), hok, _ => by
  simp only [okM, okRunM, Bool.and_eq_true, hL] at hok
  simp at hok
 | .step i t, hok, _ => by
  simp only [okM, Bool.and_eq_true, hL] at hok
  simp at hok
 | .both a b, hok, ht => by
  simp only [okM, Bool.and_eq_true] at hok
  exact doneMP hL a hok.1 ht.1
section
variable {g : Cfg} {Q : AExit → ASt → Prop}
theorem any_frontMP {ops l t : List Oper} (he : ops = l ++ t) (hok : AnyOk g.N.n ops l.length) {mem : List Nat} {cl E : List (Nat × Value)} {defs : List ADef}
  (hpure : ∀ (i : Nat) o, ¬ i ∈ mem → l[i]? = some o → ∃ v, (∀ H, stepW g ops o ⟨E, defs, H⟩ v) ∧ ∀ d, o.dst = some d → lk d E = some v)
  (hcl : ∀ (j : Nat) v o d, j ∈ mem → lk j cl = some v → l[j]? = some o → o.dst = some d → lk d E = some v) (hmem : ∀ j ∈ mem, j < l.length)
  (hvis : ∀ (i j : Nat) o p d, ¬ i ∈ mem → j ∈ mem → l[i]? = some o → l[j]? = some p → p.dst = some d → d ∈ reads ops o → (lk j cl).isSome = true)
  {K : List (Nat × Value) → AHeap → Prop} (hPp : ∀ v st, Kp v st → Q (.panic v) st) (hK : ∀ me H, K me H → regionW g ops t ⟨me ++ E, defs, H⟩ (fun st' => Q .normal st') (fun v st' => Q (.panic v) st')) :
  ∀ (fuel : Nat) (tr : Tr) (done : List Nat) (me : List (Nat × Value)) (H : AHeap) (listed : Array Bool) (c : Ctx) (w : World) (a : Act), Lst ops listed → fuel = left listed listed.size → (∀ i, l.length ≤ i → i < ops.length → ¬ isOn listed i) →
   (∀ j ∈ mem, (isOn listed j ↔ j ∈ done)) → (∀ i ∈ enabledM ops mem done, i ∈ tr.firsts) → okM ops mem done tr = true → memWP Kp g ops cl E defs tr me H K → MidM g l mem cl E defs me H listed c w a →
   wpAnyIn (fenceOf g.lr) 0 g.P .any ops.toArray (APost g Q c H w) fuel listed a w := by
 have hlen : ops.length = l.length + t.length := by rw [he]; simp
 have hfin : ∀ (tr : Tr) (done : List Nat) (me : List (Nat × Value)) (H : AHeap) (listed : Array Bool) (c : Ctx) (w : World) (a : Act), Lst ops listed → (∀ i, l.length ≤ i → i < ops.length → ¬ isOn listed i) → (∀ j ∈ mem, (isOn listed j ↔ j ∈ done)) → okM ops mem done tr = true → memWP Kp g ops cl E defs tr me H K →
   MidM g l mem cl E defs me H listed c w a → (∀ i, i < l.length → isOn listed i) → wpAnyIn (fenceOf g.lr) 0 g.P .any ops.toArray (APost g Q c H w) (left listed listed.size) listed a w := by
  intro tr done me H listed c w a hl hno hdn hokM hw hm hall
  have hon : ∀ i, i < ops.length → (isOn listed i ↔ i < l.length) := fun i hi => by
   rcases Nat.lt_or_ge i l.length with h' | h'
   ·exact ⟨fun _ => h', fun _ => hall i h'⟩
   ·exact ⟨fun h => absurd h (hno i h' hi), fun h => by omega⟩
  have hnil : enabledM ops mem done = [] := by
   apply List.eq_nil_iff_forall_not_mem.2
   intro i hi
   obtain ⟨h1, h2⟩ := List.mem_filter.1 hi
   have h3 := (hdn i h1).1 (hall i (hmem i h1))
   simp [h3] at h2
  have hk := hK me H (doneMP hnil tr hokM hw)
  refine any_tail hok t l listed _ ⟨me ++ E, defs, H⟩ he (Nat.le_refl _) hl hon ?_ hk c w a ⟨hm.heap, hm.size, fun t v e => hm.tmps t v e (fun i o ho _ => hall i (List.getElem?_eq_some_iff.1 ho).1), hm.defs⟩
  rw [hl.size, left_eq (m := l.length) (by omega) hon]; omega
 intro fuel
 induction fuel with
 | zero =>
  intro tr done me H listed c w a hl hf hno hdn hfi hokM hw hm
  by_cases hall : ∀ i, i < l.length → isOn listed i
  ·have := hfin tr done me H listed c w a hl hno hdn hokM hw hm hall
   rwa [← hf] at this
  ·exfalso
   apply hall
   intro i hi
   rcases Classical.em (isOn listed i) with h' | h'
   ·exact h'
   ·have := left_set (by rw [hl.size]; omega) h'
    omega
 | succ fuel ih =>
  intro tr done me H listed c w a hl hf hno hdn hfi hokM hw hm
  by_cases hall : ∀ i, i < l.length → isOn listed i
  ·have := hfin tr done me H listed c w a hl hno hdn hokM hw hm hall
   rwa [← hf] at this
  refine ⟨fun hnil => ?_, fun i hi => ?_⟩
  ·apply absurd hall
   intro hall
   apply hall
   intro i hi
   rcases Classical.em (isOn listed i) with h' | h'
   ·exact h'
   ·exact absurd hnil (hl.some_ready hok (by omega) h')
  obtain ⟨h1, h2, _, h4⟩ := hl.ready hi
  have hil : i < l.length := by
   rcases Nat.lt_or_ge i l.length with h' | h'
   ·exact h'
   ·exact absurd (fun j hj => h4 j (hok.tail j i h' h1 (by omega))) hall
  have hoat : l[i]? = some l[i] := List.getElem?_eq_getElem hil
  generalize l[i] = o at hoat
  have hops : ops[i]? = some o := by rw [he, List.getElem?_append_left hil, hoat]
  have hd1 : ∀ d, o.dst = some d → d < g.N.n := fun d e => by
   have := hok.dsts
   unfold dstsOk at this
   rw [List.all_eq_true] at this
   have := this o (List.mem_iff_getElem?.2 ⟨_, hops⟩)
   rw [e] at this
   simpa using this
  have hfuel : fuel = left (listed.setIfInBounds i true) (listed.setIfInBounds i true).size := by
   have := left_set (by rw [hl.size]; exact h1) h2
   simp; omega
  have hno' : ∀ j, l.length ≤ j → j < ops.length → ¬ isOn (listed.setIfInBounds i true) j := fun j hj hj2 => by
   rw [isOn_set (by rw [hl.size]; exact h1)]
   rintro (rfl | h')
   ·omega
   ·exact hno j hj hj2 h'
  have hapart : ∀ (j k : Nat) (p q : Oper) (d : Nat), l[j]? = some p → l[k]? = some q → p.dst = some d → q.dst = some d → j = k := fun j k p q d hj hk hp hq => by
   have hjl := (List.getElem?_eq_some_iff.1 hj).1
   have hkl := (List.getElem?_eq_some_iff.1 hk).1
   exact hok.apart j k p q d hjl hkl (by rw [he, List.getElem?_append_left hjl, hj]) (by rw [he, List.getElem?_append_left hkl, hk]) hq hp
  have hread : ∀ (j : Nat) (p : Oper) (d : Nat), l[j]? = some p → p.dst = some d → d ∈ reads ops o → isOn listed j := fun j p d hj hp hd => by
   have hjl := (List.getElem?_eq_some_iff.1 hj).1
   exact h4 j (hok.reads i j o p d hil hjl hops (by rw [he, List.getElem?_append_left hjl, hj]) hp hd)
  have hs0 : ∀ e : List (Nat × Value), (∀ d ∈ reads ops o, lk d e = lk d (me ++ E)) → SRel g.N c ⟨restrict e (reads ops o), defs, H⟩ w a := fun e hee => by
   refine ⟨hm.heap, hm.size, fun t x e2 => ?_, hm.defs⟩
   obtain ⟨h5, h6⟩ := lk_restrict e2
   rw [hee t h5] at h6
   exact hm.tmps t x h6 (fun j p hj hp => hread j p t hj hp h5)
  have hoa : ops.toArray[i]? = some o := by simpa using hops
  have hon : ∀ j, isOn (listed.setIfInBounds i true) j ↔ i = j ∨ isOn listed j := fun j => isOn_set (by rw [hl.size]; exact h1)
  by_cases him : i ∈ mem
  ·-- an operation of the tree
   have hie : i ∈ enabledM ops mem done := by
    refine List.mem_filter.2 ⟨him, ?_⟩
    have hnd : ¬ i ∈ done := fun h => h2 ((hdn i him).2 h)
    simp only [Bool.and_eq_true, Bool.not_eq_true', List.all_eq_true, Bool.or_eq_true]
    refine ⟨by simpa using hnd, fun j hj => ?_⟩
    rcases hc : ((ancs ops []).getD i []).contains j with _ | _
    ·exact .inl rfl
    ·refine .inr ?_
     have := h4 j (by simpa using hc)
     simpa using (hdn j hj).1 this
   obtain ⟨t', hfi', hok', hst⟩ := pickMP tr hokM hw (hfi i hie)
   unfold memStepP at hst
   rw [hops, wth_some] at hst
   have hs1 := hs0 (me ++ E) (fun d _ => rfl)
   have hdn' : ∀ j ∈ mem, (isOn (listed.setIfInBounds i true) j ↔ j ∈ i :: done) := fun j hj => by
    rw [hon, hdn j hj]; simp [eq_comm]
   have hmid : ∀ (c' : Ctx) (a' : Act) (w' : World) (H' : AHeap) (u u' : Value), c.le c' → HRel c' H' w' → DRel g.N.B c' H' w' defs a'.defers → a'.tmps = (a.put o.dst u').tmps → (∀ d, o.dst = some d → VRel c' u u') → claimOk cl i u →
     MidM g l mem cl E defs (putE o.dst u me) H' (listed.setIfInBounds i true) c' w' a' := by
    intro c' a' w' H' u u' hle hh hdf ht hu hc
    refine ⟨hh, ?_, ?_, hdf, ?_⟩
    ·rw [ht, ← hm.size]; cases o.dst <;> simp [Act.put]
    ·intro x v e hx
     rw [lk_append, lk_putE] at e
     by_cases hdt : o.dst = some x
     ·rw [if_pos hdt] at e
      cases e
      refine ⟨u', ?_, hu x hdt⟩
      rw [ht, hdt]
      simp [Act.put, hm.size, hd1 x hdt]
     ·rw [if_neg hdt, ← lk_append] at e
      obtain ⟨x', k1, k2⟩ := hm.tmps x v e (fun j p hj hp => by
       rcases (hon j).1 (hx j p hj hp) with rfl | h'
       ·rw [hoat] at hj; cases hj; exact absurd hp hdt
       ·exact h')
      refine ⟨x', ?_, k2.mono hle⟩
      rw [ht]
      cases hd : o.dst with
      | none => simpa [Act.put] using k1
      | some d =>
       have hne : d ≠ x := fun e => hdt (by rw [hd, e])
       simp [Act.put, hne, k1]
    ·intro d v e
     rw [lk_putE] at e
     by_cases hdt : o.dst = some d
     ·rw [if_pos hdt] at e
      cases e
      exact ⟨i, o, him, hoat, hdt, hc⟩
     ·rw [if_neg hdt] at e
      exact hm.me d v e
   unfold wpOpIn
   simp only [hoa]
   rcases wantW_elim hs1 hst with ⟨hwn, hr⟩ | ⟨hwn, hr⟩
   ·rw [if_pos hwn]
    refine opW_ok hd1 hr c w a _ _ hs1 ?_ ?_
    ·rintro s c' a' w' ⟨hdf, hu⟩ hs' ht ⟨hle, x, hx⟩
     obtain ⟨u, hdu, hc, hw'⟩ := wth_elim hu
     have hm' : MidM g l mem cl E defs (putE o.dst u me) s.H (listed.setIfInBounds i true) c' w' a' := by
      refine hmid c' a' w' s.H u x hle hs'.heap (by have := hs'.defs; rwa [hdf] at this) hx (fun d hd => ?_) hc
      unfold dstV at hdu
      rw [hd] at hdu
      obtain ⟨y, k1, k2⟩ := hs'.tmps d u hdu
      rw [hx, hd] at k1
      simp [Act.put, hm.size, hd1 d hd] at k1
      rw [k1]; exact k2
     have := ih t' (i :: done) _ s.H _ c' w' a' (hl.set hi) hfuel hno' hdn' hfi' hok' hw' hm'
     exact any_tail.wpAny_mono (fun e a2 w2 hp => hp.back ht) this
    ·intro v v' st' c' a' w' hKp hv hs' ht
     exact ⟨.panic v, st', c', hPp _ _ hKp, .panic hv, hs', ht⟩
   ·rw [if_neg (by rw [hwn]; simp)]
    refine ⟨about_any g.lr, ?_⟩
    refine ih t' (i :: done) _ H _ c w _ (hl.set hi) hfuel hno' hdn' hfi' hok' hr.2 (hmid c _ w H noVal undef (Ctx.le_refl c) hm.heap ?_ rfl (fun d hd => .tuple .nil) hr.1)
    have : (a.put o.dst undef).defers = a.defers := by cases o.dst <;> rfl
    rw [this]; exact hm.defs
  ·-- an operation that leaves memory alone
   obtain ⟨v, hs, hlk⟩ := hpure i o him hoat
   have hs := hs H
   have hee : ∀ d ∈ reads ops o, lk d E = lk d (me ++ E) := fun d hd => by
    rw [lk_append]
    cases hme : lk d me with
    | none => rfl
    | some u =>
     obtain ⟨j, p, hj, hp, hpd, hc⟩ := hm.me d u hme
     have hsome := hvis i j o p d him hj hoat hp hpd hd
     unfold claimOk at hc
     cases hlj : lk j cl with
     | none => rw [hlj] at hsome; cases hsome
     | some x =>
      rw [hlj] at hc
      simp only at hc
      rw [hcl j x p d hj hlj hp hpd, hc]
   have hs1 : SRel g.N c (ASt.only ops o ⟨E, defs, H⟩) w a := hs0 E hee
   have hdn' : ∀ j ∈ mem, (isOn (listed.setIfInBounds i true) j ↔ j ∈ done) := fun j hj => by
    rw [hon, hdn j hj]
    exact ⟨fun h => h.elim (fun e => absurd (e ▸ hj) him) id, .inr⟩
   have hmid : ∀ (c' : Ctx) (a' : Act) (w' : World) (u : Value), c.le c' → HRel c' H w' → DRel g.N.B c' H w' defs a'.defers → a'.tmps = (a.put o.dst u).tmps → (∀ d, o.dst = some d → VRel c' v u) → MidM g l mem cl E defs me H (listed.setIfInBounds i true) c' w' a' := by
    intro c' a' w' u hle hh hdf ht hu
    refine ⟨hh, ?_, ?_, hdf, hm.me⟩
    ·rw [ht, ← hm.size]; cases o.dst <;> simp [Act.put]
    ·intro x y e hx
     by_cases hdt : o.dst = some x
     ·have e2 : lk x (me ++ E) = some v := by
       rw [lk_append]
       cases hme : lk x me with
       | none => exact hlk x hdt
       | some z =>
        obtain ⟨j, p, hj, hp, hpd, _⟩ := hm.me x z hme
        exact absurd (hapart j i p o x hp hoat hpd hdt ▸ hj) him
      rw [e2] at e; cases e
      refine ⟨u, ?_, hu x hdt⟩
      rw [ht, hdt]
      simp [Act.put, hm.size, hd1 x hdt]
     ·obtain ⟨x', k1, k2⟩ := hm.tmps x y e (fun j p hj hp => by
       rcases (hon j).1 (hx j p hj hp) with rfl | h'
       ·rw [hoat] at hj; cases hj; exact absurd hp hdt
       ·exact h')
      refine ⟨x', ?_, k2.mono hle⟩
      rw [ht]
      cases hd : o.dst with
      | none => simpa [Act.put] using k1
      | some d =>
       have hne : d ≠ x := fun e => hdt (by rw [hd, e])
       simp [Act.put, hne, k1]
   unfold wpOpIn
   simp only [hoa]
   unfold stepW at hs
   rcases wantW_elim hs1 hs with ⟨hwn, hr⟩ | ⟨hwn, hr⟩
   ·rw [if_pos hwn]
    refine opW_ok hd1 hr c w a _ _ hs1 ?_ ?_
    ·rintro s c' a' w' ⟨hH, hdf, hl'⟩ hs' ht ⟨hle, x, hx⟩
     have hH : s.H = H := hH
     have hdf : s.defs = defs := hdf
     have hm' : MidM g l mem cl E defs me H (listed.setIfInBounds i true) c' w' a' := by
      have hh := hs'.heap
      rw [hH] at hh
      have hd' := hs'.defs
      rw [hdf, hH] at hd'
      refine hmid c' a' w' x hle hh hd' hx (fun d hd => ?_)
      obtain ⟨y, k1, k2⟩ := hs'.tmps d v (hl' d hd)
      rw [hx, hd] at k1
      simp [Act.put, hm.size, hd1 d hd] at k1
      rw [k1]; exact k2
     have := ih tr done me H _ c' w' a' (hl.set hi) hfuel hno' hdn' hfi hokM hw hm'
     rw [hH] at ht
     exact any_tail.wpAny_mono (fun e a2 w2 hp => hp.back ht) this
    ·intro v v' st' c' a' w' hKp
     exact hKp.elim
   ·rw [if_neg (by rw [hwn]; simp)]
    refine ⟨about_any g.lr, ?_⟩
    subst hr
    refine ih tr done me H _ c w _ (hl.set hi) hfuel hno' hdn' hfi hokM hw (hmid c _ w undef (Ctx.le_refl c) hm.heap ?_ rfl (fun d hd => .tuple .nil))
    have : (a.put o.dst undef).defers = a.defers := by cases o.dst <;> rfl
    rw [this]; exact hm.defs
/-- A drawing region whose first k operations are either of mem (then the tree looks at them), or leave memory alone. -/
theorem AWP.regionMP {env : List (Nat × Value)} {defs : List ADef} {H : AHeap} {id : Nat} {ops : List Oper} (k : Nat) (mem : List Nat) (cl : List (Nat × Value)) (tr : Tr) (hm : g.P.follows .mixedOrders = true) (hk : k ≤ ops.length) (hok : anyOk g.N.n ops k = true) (htr : treeOkM ops mem tr = true) (hv : visOk ops k mem cl = true)
  (h : canW g ops mem cl defs 0 (ops.take k) env (fun E => memWP (fun v st' => Q (.panic v) st') g ops cl E defs tr [] H fun me H => regionW g ops (ops.drop k) ⟨me ++ E, defs, H⟩ (fun st' => Q .normal st') (fun v st' => Q (.panic v) st'))) :
  AWP g (.region id ops.toArray true) Q ⟨env, defs, H⟩ := by
 intro c w a hs
 have hok := AnyOk.of hok
 have he : ops = ops.take k ++ ops.drop k := (List.take_append_drop k ops).symm
 have hlk : (ops.take k).length = k := by rw [List.length_take]; omega
 have hget : ∀ (i : Nat) o, (ops.take k)[i]? = some o → i < k ∧ ops[i]? = some o := fun i o ho => by
  have := (List.getElem?_eq_some_iff.1 ho).1
  rw [List.getElem?_take] at ho
  split at ho
  ·exact ⟨by assumption, ho⟩
  ·cases ho
 obtain ⟨E, hK, hE0, hpure, hcl⟩ := canW_elim (ops.take k) [] env h (fun i j o p d _ _ hi hj hd hd' => by
   rw [List.nil_append] at hi hj
   obtain ⟨i1, i2⟩ := hget i o hi
   obtain ⟨j1, j2⟩ := hget j p hj
   exact hok.apart i j o p d i1 j1 i2 j2 hd' hd) (fun i j o p d hi hj hd hr => by
   rw [List.nil_append] at hi hj
   obtain ⟨i1, i2⟩ := hget i o hi
   obtain ⟨j1, j2⟩ := hget j p hj
   exact anc_lt hok i j (hok.reads i j o p d i1 j1 i2 j2 hd hr))
 simp only [List.length_nil, Nat.zero_add] at hpure hcl
 simp only [treeOkM, Bool.and_eq_true] at htr
 have hvj : ∀ j ∈ mem, j < k ∧ ∀ (p : Oper) (d : Nat), ops[j]? = some p → p.dst = some d → (lk j cl).isSome = true ∨ ∀ (i : Nat) (o : Oper), i < k → ¬ i ∈ mem → ops[i]? = some o → ¬ d ∈ reads ops o := fun j hj => by
  have := List.all_eq_true.1 hv j hj
  simp only [Bool.and_eq_true, decide_eq_true_eq] at this
  refine ⟨this.1, fun p d hp hd => ?_⟩
  have h2 := this.2
  rw [hp] at h2
  simp only [hd, Bool.or_eq_true] at h2
  rcases h2 with h2 | h2
  ·exact .inl h2
  ·refine .inr fun i o hi him ho hdr => ?_
   have := allLt_spec h2 i hi
   rw [ho] at this
   simp only [Bool.or_eq_true, Bool.not_eq_true'] at this
   rcases this with h3 | h3
   ·exact him (by simpa using h3)
   ·simp [hdr] at h3
 refine wpIn_region_any hm ?_
 obtain ⟨hh, ht⟩ := hs.heap.drew g.n0
 have := any_frontMP (Kp := fun v st' => Q (.panic v) st') (g := g) (Q := Q) (ops := ops) (l := ops.take k) (t := ops.drop k) he (by rw [hlk]; exact hok) (mem := mem) (cl := cl) (E := E) (defs := defs) hpure (fun j v o d hj hv ho hd => hcl j v o d hj hv ho hd) (fun j hj => by rw [hlk]; exact (hvj j hj).1) (fun i j o p d hi hj ho hp hd hr => by
   obtain ⟨i1, i2⟩ := hget i o ho
   obtain ⟨j1, j2⟩ := hget j p hp
   rcases (hvj j hj).2 p d j2 hd with h | h
   ·exact h
   ·exact absurd hr (h i o i1 hi i2)) (fun v st h => h) (fun me H h => h) ops.length tr [] [] H (Array.replicate ops.length false) c w.drew a ?_ ?_ ?_ ?_ ?_ htr.2 hK ?_
 ·have := any_tail.wpAny_mono (fun e a2 w2 hp => hp.back ht) this
  simpa using this
 ·refine ⟨by simp, fun j o ho hj => ?_⟩
  exact absurd hj (not_isOn_replicate _ _)
 ·have := left_eq (listed := Array.replicate ops.length false) (m := 0) (n := ops.length) (Nat.zero_le _) (fun i hi => ⟨fun h => absurd h (not_isOn_replicate _ _), fun h => by omega⟩)
  simpa using this.symm
 ·intro i _ hi
  exact not_isOn_replicate _ _
 ·intro j _
  exact ⟨fun h => absurd h (not_isOn_replicate _ _), fun h => by cases h⟩
 ·intro i hi
  have := List.all_eq_true.1 htr.1 i hi
  simpa using this
 ·refine ⟨hh, hs.size, fun x v e hx => ?_, hs.defs.step (n := g.n0) (Ctx.le_refl c) ht, fun d v e => by cases e⟩
  have e2 : lk x env = some v := by
   rw [← e]
   show lk x env = lk x E
   refine (hE0 x fun o ho hd => ?_).symm
   obtain ⟨j, hj⟩ := List.mem_iff_getElem?.1 ho
   exact absurd (hx j o hj hd) (not_isOn_replicate _ _)
  exact hs.tmps x v e2
theorem runM_consP {ops : List Oper} {cl E me : List (Nat × Value)} {defs : List ADef} {H : AHeap} {K : List (Nat × Value) → AHeap → Prop} {j : Nat} {r : List Nat} : runMP Kp g ops cl E defs (j :: r) me H K = memStepP Kp g ops cl E defs j me H fun me H => runMP Kp g ops cl E defs r me H K := rfl
theorem memW_runP {ops : List Oper} {cl E me : List (Nat × Value)} {defs : List ADef} {H : AHeap} {K : List (Nat × Value) → AHeap → Prop} {l : List Nat} : memWP Kp g ops cl E defs (.run l) me H K = runMP Kp g ops cl E defs l me H K := rfl
theorem memW_bP {ops : List Oper} {cl E me : List (Nat × Value)} {defs : List ADef} {H : AHeap} {K : List (Nat × Value) → AHeap → Prop} {a b : Tr} (h1 : memWP Kp g ops cl E defs a me H K) (h2 : memWP Kp g ops cl E defs b me H K) : memWP Kp g ops cl E defs (.both a b) me H K := ⟨h1, h2⟩
theorem memW_sP {ops : List Oper} {cl E me : List (Nat × Value)} {defs : List ADef} {H : AHeap} {K : List (Nat × Value) → AHeap → Prop} {j : Nat} {t : Tr} {o : Oper} (ho : ops[j]? = some o) (h : wantW ops o ⟨restrict (me ++ E) (reads ops o), defs, H⟩
  (opW g o ⟨restrict (me ++ E) (reads ops o), defs, H⟩ (fun s => s.defs = defs ∧ wth (dstV o s) fun u => claimOk cl j u ∧ memWP Kp g ops cl E defs t (putE o.dst u me) s.H K) Kp)
  (claimOk cl j noVal ∧ memWP Kp g ops cl E defs t (putE o.dst noVal me) H K)) : memWP Kp g ops cl E defs (.step j t) me H K := by
 show memStepP Kp g ops cl E defs j me H _
 unfold memStepP
 rw [ho]
 exact h
theorem memW_rP {ops : List Oper} {cl E me : List (Nat × Value)} {defs : List ADef} {H : AHeap} {K : List (Nat × Value) → AHeap → Prop} {j : Nat} {r : List Nat} {o : Oper} (ho : ops[j]? = some o) (h : wantW ops o ⟨restrict (me ++ E) (reads ops o), defs, H⟩
  (opW g o ⟨restrict (me ++ E) (reads ops o), defs, H⟩ (fun s => s.defs = defs ∧ wth (dstV o s) fun u => claimOk cl j u ∧ memWP Kp g ops cl E defs (.run r) (putE o.dst u me) s.H K) Kp)
  (claimOk cl j noVal ∧ memWP Kp g ops cl E defs (.run r) (putE o.dst noVal me) H K)) : memWP Kp g ops cl E defs (.run (j :: r)) me H K := by
 simp only [memW_runP] at h
 rw [memW_runP, runM_consP]
 unfold memStepP
 rw [ho]
 exact h
theorem memW_eP {ops : List Oper} {cl E me : List (Nat × Value)} {defs : List ADef} {H : AHeap} {K : List (Nat × Value) → AHeap → Prop} (h : K me H) : memWP Kp g ops cl E defs (.run []) me H K := h
end
end Go.Aw


set_option linter.unusedVariables false
set_option linter.unusedSimpArgs false
set_option maxHeartbeats 4000000
namespace Go.Aw
open Go
theorem VRel.if_plain {c : Ctx} {t : TypeId} {v : Value} (h : plain v = true) : VRel c (.iface t v) (.iface t v) := .iface (.of_plain h)
theorem VRel.if_plain_eq {c : Ctx} {t : TypeId} {v u : Value} (h : VRel c (.iface t v) u) (hp : plain v = true) : u = .iface t v := by
 cases h with
 | iface h => rw [h.plain_eq hp]
theorem AD.enterR2 {P : Program} {f : FuncId} {fn : Func} {id : Nat} {o1 o2 : Oper} {rest : Code} {args : List Value} {H : AHeap} {K : AMode → AHeap → Prop} {mo : AMode} {d x : Nat}
  (hf : P.funcs[f]? = some fn) (hb : fn.body = some (.seq (.region id #[o1, o2] false) rest)) (hname : (fn.name == "runtime.NumGoroutine") = false)
  (N : Nat) (hN : fn.ntmps = N) (hrs : fn.results = #[]) (hsz : args.length ≤ N)
  (h1 : o1.op = .call ⟨.builtin .recover, #[], #[]⟩) (h1d : o1.dst = some d) (h1g : o1.guard = none) (h2 : o2.op = .assign (.tmp d)) (h2d : o2.dst = some x) (h2g : o2.guard = none) (hd : d < N) (hx : x < N) (hmv : ∀ c : Ctx, VRel c mo.val mo.val) (hmp : ∀ (c : Ctx) v1, VRel c mo.val v1 → v1 = mo.val)
  (h : Scoped H → ∀ B, AWP ⟨P, none, ⟨N, B⟩, H.length⟩ rest (DPost H.length (K .ret)) ⟨(x, mo.val) :: (d, mo.val) :: argEnv 0 args, [], H⟩) : AD P f args H mo K := by
 refine ⟨⟨fn, hf, by rw [hb]; rfl, hname⟩, fun c w vargs u hh hv hm => ?_⟩
 refine callsDIn_of_wpSIn hf hb trivial fun c₀ cs hu => ?_
 refine wpSIn_seq (wpSIn_region ?_)
 have hs0 : SRel ⟨N, w.heap.size⟩ c ⟨argEnv 0 args, [], H⟩ w { tmps := (⟨vargs⟩ : Array Value) ++ Array.replicate (fn.ntmps - (⟨vargs⟩ : Array Value).size) undef, defers := [] } := by
  refine ⟨hh, ?_, ?_, .nil (Nat.le_refl _)⟩
  ·have := hv.length
   simp; omega
  ·intro t v e
   have := argEnv_lk (rest := Array.replicate (fn.ntmps - (⟨vargs⟩ : Array Value).size) undef) hv 0 [] rfl t v e
   simpa using this
 generalize ({ tmps := (⟨vargs⟩ : Array Value) ++ Array.replicate (fn.ntmps - (⟨vargs⟩ : Array Value).size) undef, defers := [] } : Act) = a0 at hs0
 have hvv : VRel c mo.val mo.val := hmv c
 have hs1 : SRel ⟨N, w.heap.size⟩ c ⟨(d, mo.val) :: argEnv 0 args, [], H⟩ w (a0.put (some d) mo.val) := hs0.put (dst := some d) (fun e he => by cases he; exact hd) hvv
 have hs2 : SRel ⟨N, w.heap.size⟩ c ⟨(x, mo.val) :: (d, mo.val) :: argEnv 0 args, [], H⟩ w ((a0.put (some d) mo.val).put (some x) mo.val) := hs1.put (dst := some x) (fun e he => by cases he; exact hx) hvv
 have hev : (a0.put (some d) mo.val).eval (.tmp d) = mo.val := by
  obtain ⟨v', e1, e2⟩ := hs1.tmps d mo.val (by simp [lk])
  have := hmp _ _ e2
  subst this
  simp only [Act.eval]
  rw [Array.getD_eq_getD_getElem?, e1]; rfl
 obtain ⟨u1, hu1, hset⟩ : ∃ u1, recoverD (c₀ :: cs) = (match mo with | .ret => none | .pan v => some (v, { c₀ with mode := u1 } :: cs)) ∧ (match mo with | .ret => u1 = c₀.mode ∧ settle u1 = .returning | .pan v => settle u1 = .returning) := by
  cases hm with
  | ret => exact ⟨c₀.mode, by simp [recoverD, hu], rfl, by rw [hu]; rfl⟩
  | pan hv =>
   have := hmp _ _ hv
   subst this
   exact ⟨_, by simp [recoverD, hu]; rfl, rfl⟩
 have hfin : ({ c₀ with mode := u1 } : Frame) = c₀ ∨ True := .inr trivial
 have key : ∀ (cs1 : List Frame), cs1 = { c₀ with mode := u1 } :: cs → Exit.thenS (rest.wpSIn Fence.wide 0 P (bodyPostS P fn c₀ cs fun e u' w' => ∃ v mo' c' H', e = .returned v ∧ K mo' H' ∧ MRel c' mo' (settle u') ∧ HRel c' H' w' ∧ Trans H.length c H w c' H' w'))
   (bodyPostS P fn c₀ cs fun e u' w' => ∃ v mo' c' H', e = .returned v ∧ K mo' H' ∧ MRel c' mo' (settle u') ∧ HRel c' H' w' ∧ Trans H.length c H w c' H' w') .normal ((a0.put (some d) mo.val).put (some x) mo.val) cs1 w := by
  intro cs1 hcs1
  subst hcs1
  simp only [Exit.thenS]
  refine wpSIn_of_wpIn rfl (wpIn_mono (h hh.inside w.heap.size c w _ hs2) ?_)
  rintro e a' w' ⟨x1, st', c', hq, hx1, hs', ht⟩
  have fin : st'.defs = [] → (∃ H2, WeakV H.length st'.H noVal H2 noVal ∧ K .ret H2) → a'.defers = [] ∧ ∃ u', ({ c₀ with mode := u1 } : Frame) :: cs = { c₀ with mode := u' } :: cs ∧ ∃ v, (results fn a'.tmps).run P w' = .ok v w' ∧ ∃ v_1 mo' c' H', Ending.returned v = .returned v_1 ∧ K mo' H' ∧ MRel c' mo' (settle u') ∧ HRel c' H' w' ∧ Trans H.length c H w c' H' w' := by
   rintro hde ⟨H2, hw2, hk⟩
   obtain ⟨st'e, st'd, st'h⟩ := st'
   simp only at hde
   subst hde
   have hdd := hs'.defs
   cases a'
   cases hdd
   obtain ⟨c2, g1, _, g3⟩ := hw2 c' w' noVal hs'.heap (.tuple .nil)
   refine ⟨rfl, u1, rfl, noVal, ?_, noVal, .ret, c2, H2, rfl, hk, ?_, g1, ht.trans g3⟩
   ·rw [results_eq, hrs]
    simp [noVal]
   ·have : settle u1 = .returning := by cases mo <;> first | exact hset | exact hset.2
    rw [this]; exact .ret
  cases hx1 with
  | normal => exact fin hq.1 hq.2
  | ret => exact fin hq.1 hq.2
  | panic hv2 => exact hq.elim
  | exit id => exact hq.elim
  | goto l => exact hq.elim
 have hw1 : ∀ a : Act, Region.wanted o1 (yielded #[o1, o2] a.tmps) = true := fun a => by simp [Region.wanted, h1g]
 have hw2 : ∀ a : Act, Region.wanted o2 (yielded #[o1, o2] a.tmps) = true := fun a => by simp [Region.wanted, h2g]
 have hr1 : (execOp a0.eval o1).run P w = .ok .recover w := by
  simp only [execOp, h1]
  rfl
 have hr2 : (execOp (a0.put (some d) mo.val).eval o2).run P w = .ok (.value mo.val) w := by
  simp only [execOp, h2]
  rw [hev]
  rfl
 show wpOpsSIn Fence.wide 0 P #[o1, o2] _ [0, 1] a0 (c₀ :: cs) w
 unfold wpOpsSIn
 simp only [List.getElem?_toArray, List.getElem?_cons_zero, hw1, if_true, hr1]
 refine ⟨fun _ _ => trivial, ?_⟩
 rw [hu1]
 cases mo with
 | ret =>
  simp only
  unfold wpOpsSIn
  simp only [List.getElem?_toArray, List.getElem?_cons_succ, List.getElem?_cons_zero, hw2, if_true]
  refine ⟨fun _ _ => trivial, ?_⟩
  rw [h1d]
  rw [show (Value.nilIface) = AMode.ret.val from rfl, hr2]
  simp only
  unfold wpOpsSIn
  rw [h2d]
  refine key _ ?_
  rw [hset.1]
 | pan v =>
  simp only
  unfold wpOpsSIn
  simp only [List.getElem?_toArray, List.getElem?_cons_succ, List.getElem?_cons_zero, hw2, if_true]
  refine ⟨fun _ _ => trivial, ?_⟩
  rw [h1d]
  have hr2' : (execOp (a0.put (some d) v).eval o2).run P w = .ok (.value v) w := hr2
  rw [hr2']
  simp only
  unfold wpOpsSIn
  rw [h2d]
  exact key _ rfl
theorem op_deferT {g : Cfg} {st : ASt} {K : ASt → Prop} {Kp : Value → ASt → Prop} {d : Option Tmp} {t : TypeId} {ps : String} {af : Array Edge} {gu : Option (Nat × Bool)} {x : Tmp} {xs : Array Operand} {ts : Array TypeId} :
  opW g ⟨d, .defer ⟨.value (.tmp x), xs, ts⟩, t, ps, af, gu⟩ st K Kp = (g.lr = none ∧ wth (evs st xs.toList) fun args => wth (lk x st.env) fun fv => match fv with
   | .func f ⟨first⟩ ⟨cap⟩ => K (ASt.put ⟨st.env, .call f cap (first ++ args) :: st.defs, st.H⟩ d noVal)
   | _ => False) := by
 simp only [opW, ev]
 rfl
attribute [go_sem ↓] op_deferT
end Go.Aw


set_option linter.unusedVariables false
set_option linter.unusedSimpArgs false
namespace Go.Aw
open Go.RowKit Go.ChangeShapes Go.WideShapes Go.ChangeAt
/-- A table of numbers that a package-level variable holds. -/
def tabO (e : TypeId) (g : Nat) (k : IntKind) (zs : List Int) : AObj := .cells (zs.map (Value.int k)) ⟨e, 0, false, 0, some g⟩
theorem tab_scalar (k : IntKind) : ∀ zs : List Int, (zs.map (Value.int k)).all scalar = true
 | [] => rfl
 | z :: zs => by rw [List.map_cons, List.all_cons, tab_scalar k zs]; rfl
theorem tabIs_of_rel {P : Program} {c : Ctx} {H : AHeap} {w : World} (h : HRel c H w) {name : String} {g : Nat} {e : TypeId} {k : IntKind} {zs : List Int} (hn : P.globalNamed name = some g) (hg : H[g]? = some (tabO e g k zs)) : Lib.TabIs P w name k zs := by
 obtain ⟨p, hp, hr⟩ := h.obj g _ hg rfl
 obtain ⟨h1, h2, hx, hgl, arr, lo, hi, hb, hc, h3, _⟩ := hr
 obtain ⟨q1, q2, q3⟩ := hgl g rfl
 have hsz := q3 arr _ hb
 unfold Lib.TabIs World.var?
 rw [hn]
 show (match w.heap[g]? with | some (.cells cs _ _) => some cs | _ => none) = _
 rw [← q1, hb]
 have : arr = (zs.map (Value.int k)).toArray := by
  apply Array.ext'
  refine List.ext_getElem? fun i => ?_
  by_cases hi : i < (zs.map (Value.int k)).length
  ·obtain ⟨v', e1, e2⟩ := hc i _ (List.getElem?_eq_getElem hi)
   rw [q2, Nat.zero_add] at e1
   have hs : scalar ((zs.map (Value.int k))[i]) = true := List.all_eq_true.1 (tab_scalar k zs) _ (List.getElem_mem _)
   have := e2.scalar_eq hs
   subst this
   rw [Array.getElem?_toList, e1, List.toList_toArray, List.getElem?_eq_getElem hi]
  ·have h0 : arr.toList.length = (zs.map (Value.int k)).length := by simpa using hsz
   rw [List.getElem?_eq_none (by omega), List.getElem?_eq_none (by simpa using hi)]
 exact congrArg some this
theorem ARet.ofCallsT {P : Program} {f : FuncId} {fn : Func} {args : List Value} {v : Value} (hf : P.funcs[f]? = some fn) (hb : fn.body.isSome = true) (hn : (fn.name == "runtime.NumGoroutine") = false) (ha : args.all scalar = true) (hv : scalar v = true)
  (H : AHeap) (R : World → Prop) (hR : ∀ c w, HRel c H w → R w) (h : ∀ w, R w → Calls P f ⟨args⟩ w fun e w' => e = .returned v ∧ Below w.heap.size w w') : ARet P f args H v H := by
 intro c w vargs hh hvs
 have e := hvs.scalars_eq ha
 subst e
 unfold CallTo
 have hbn : fn.body.isNone = false := by cases hfb : fn.body <;> simp_all
 have hr : (callFunc f ⟨args⟩).run P w = .ok (.enter f ⟨args⟩) w := by
  simp only [callFunc, Sem.run_bind, run_program, Result.andThen_ok, hf, hn, Bool.false_eq_true, if_false, hbn]
  rfl
 rw [hr]
 refine (h w (hR c w hh)).mono fun e w' ⟨he, hbl⟩ => ?_
 subst he
 exact ⟨.ret v, c, H, ⟨rfl, rfl⟩, .ret (.of_scalar hv), hh.below hbl, .below hbl⟩
theorem Lent.pad {c : Ctx} {H : AHeap} {w : World} (h : Lent c H w) (n : Nat) : Lent c (H ++ List.replicate n .dead) w := by
 have hd : ∀ (i : Nat) (o : AObj), (H ++ List.replicate n AObj.dead)[i]? = some o → o = .dead ∨ H[i]? = some o := fun i o e => by
  by_cases hi : i < H.length
  ·right; rwa [hgetl hi] at e
  ·left
   rw [List.getElem?_append_right (by omega)] at e
   exact List.eq_of_mem_replicate (List.mem_of_getElem? e)
 refine ⟨⟨fun i o e hl => ?_, fun i j oi oj pi pj hij hi hj ci cj ho hl => ?_, fun i hi => h.rel.fresh i (by simp at hi; omega)⟩, fun i o e => ?_⟩
 ·rcases hd i o e with rfl | e
  ·cases hl
  ·exact h.rel.obj i o e hl
 ·rcases hd i oi hi with rfl | e1
  ·cases ho
  ·rw [h.own i oi e1] at ho; cases ho
 ·rcases hd i o e with rfl | e
  ·rfl
  ·exact h.own i o e
/-- A package-level table is lent under its own number. -/
theorem Lent.tab {P : Program} {c : Ctx} {H : AHeap} {w : World} (h : Lent c H w) {name : String} {g : Nat} {k : IntKind} {zs : List Int} (hn : P.globalNamed name = some g) (hl : H.length ≤ g) (ht : Lib.TabIs P w name k zs) :
  ∃ (c' : Ctx) (e : TypeId), Lent c' (H ++ (List.replicate (g - H.length) .dead ++ [tabO e g k zs])) w ∧ c.le c' := by
 unfold Lib.TabIs World.var? at ht
 rw [hn] at ht
 have ht' : (match w.heap[g]? with | some (.cells cs _ _) => some cs | _ => none) = some (zs.map fun z => Value.int k z).toArray := ht
 obtain ⟨e, fr, hb⟩ : ∃ e fr, w.heap[g]? = some (.cells (zs.map (Value.int k)).toArray e fr) := by
  split at ht'
  ·rename_i cs e fr hb
   have e1 := Option.some.inj ht'
   subst e1
   exact ⟨e, fr, hb⟩
  ·cases ht'
 have hp := h.pad (g - H.length)
 have hlen : (H ++ List.replicate (g - H.length) AObj.dead).length = g := by simp; omega
 simp only [← List.append_assoc]
 generalize H ++ List.replicate (g - H.length) AObj.dead = H1 at hp hlen ⊢
 have hle : c.le (c.add H1.length ⟨g, 0, zs.length, 0, 0⟩) := Ctx.le_add _ (hp.rel.fresh _ (Nat.le_refl _))
 have hlast : ∀ (i : Nat) (o : AObj), (H1 ++ [tabO e g k zs])[i]? = some o → ¬ i < H1.length → i = H1.length ∧ o = tabO e g k zs := fun i o hi h1 => by
  have hlt := lt_of_get hi
  simp at hlt
  have : i = H1.length := by omega
  subst this
  rw [hget0 rfl] at hi
  simp at hi
  exact ⟨rfl, hi.symm⟩
 refine ⟨c.add H1.length ⟨g, 0, zs.length, 0, 0⟩, e, ⟨⟨fun i o hi hlv => ?_, fun i j oi oj pi pj hij hi hj _ _ ho _ => ?_, fun i hi => ?_⟩, fun i o hi => ?_⟩, hle⟩
 ·by_cases h1 : i < H1.length
  ·rw [hgetl h1] at hi
   obtain ⟨p, hp', hr⟩ := hp.rel.obj i o hi hlv
   exact ⟨p, hle _ _ hp', hr.keep hle hlv rfl⟩
  ·obtain ⟨rfl, rfl⟩ := hlast i o hi h1
   refine ⟨⟨g, 0, zs.length, 0, 0⟩, by simp [Ctx.add], by simp, rfl, fun _ => ⟨rfl, fun o => (by cases o)⟩, fun n hn' => ⟨Option.some.inj hn', rfl, fun a r hh => ?_⟩, (zs.map (Value.int k)).toArray, fr.1, fr.2, hb, ?_, by simp, fun hk => by cases hk⟩
   ·rw [hb] at hh
    cases hh
    rfl
   ·intro j v hj
    exact ⟨v, by rw [Nat.zero_add]; simpa using hj, .of_scalar (List.all_eq_true.1 (tab_scalar k zs) _ (List.mem_of_getElem? hj))⟩
 ·by_cases h1 : i < H1.length
  ·rw [hgetl h1] at hi
   rw [hp.own i oi hi] at ho; cases ho
  ·obtain ⟨rfl, rfl⟩ := hlast i oi hi h1
   cases ho
 ·simp at hi
  rw [Ctx.add_other _ _ (by omega)]; exact hp.rel.fresh i (by omega)
 ·by_cases h1 : i < H1.length
  ·rw [hgetl h1] at hi; exact hp.own i o hi
  ·obtain ⟨rfl, rfl⟩ := hlast i o hi h1
   rfl
end Go.Aw


set_option linter.unusedVariables false
set_option linter.unusedSimpArgs false
namespace Go.Aw
open Go.Proofs Go.Shelf
theorem ARet.copyCheck {P : Program} {ρ : Ren} (L : Lays.n240 P ρ) (X : Builder.X72 P ρ) {i : Nat} {p sl : Value} {H : AHeap} (hb : ((P.funcs[ρ.f 240]?).bind (·.body)).isSome = true) (hnm : ((P.funcs[ρ.f 240]?).map fun f => f.name == "runtime.NumGoroutine") = some false)
  (hi : H[i]? = some (.cells [p, sl] ⟨ρ.t 72, 0, true, 0, none⟩)) (hp : p = .pointer none ∨ p = .pointer (some ⟨i, 0, none⟩)) :
  ARet P (ρ.f 240) [.pointer (some ⟨i, 0, none⟩)] H noVal (H.set i (.cells [.pointer (some ⟨i, 0, none⟩), sl] ⟨ρ.t 72, 0, true, 0, none⟩)) := by
 intro c w vargs hh hvs
 obtain ⟨v', rfl, hv⟩ := hvs.one
 cases hv with
 | ptr hc =>
 rename_i q
 obtain ⟨q', hq', hr⟩ := hh.obj i _ hi rfl
 rw [hc] at hq'; cases hq'
 obtain ⟨r1, r2, r3, r4, arr, lo, hi', r5, r6, r7, r8⟩ := hr
 obtain ⟨_, r3⟩ := r3 rfl
 obtain ⟨hbase, hsz⟩ := r3 rfl
 have hsz := hsz arr _ r5
 have hself : VRel c (.pointer (some ⟨i, 0, none⟩)) (.pointer (some ⟨q.block, q.base + 0, none⟩)) := .ptr hc
 obtain ⟨_, hfz, hS, hT⟩ := hh.setCell hi rfl hc (off := 0) (by simp) (Nat.zero_le _) hself H.length
 obtain ⟨u, hu, hvu⟩ := hh.cell hi hc (off := 0) (v := p) rfl
 rw [hbase] at hfz hS hT hu hself ⊢
 simp only [Nat.add_zero, List.set_cons_zero] at hfz hS hT hu hself ⊢
 have hsh : w.shape? q.block = some (ρ.t 72, 2) := by simp [World.shape?, r5, hsz]
 unfold CallTo
 cases hfn : P.funcs[ρ.f 240]? with
 | none => rw [hfn] at hb; cases hb
 | some fn =>
 rw [hfn] at hb hnm
 have hbn : fn.body.isNone = false := by cases hfb : fn.body <;> simp_all
 have hn : (fn.name == "runtime.NumGoroutine") = false := by simpa using hnm
 have hrun : (callFunc (ρ.f 240) ⟨[.pointer (some ⟨q.block, 0, none⟩)]⟩).run P w = .ok (.enter (ρ.f 240) ⟨[.pointer (some ⟨q.block, 0, none⟩)]⟩) w := by
  simp only [callFunc, Sem.run_bind, run_program, Result.andThen_ok, hfn, hn, Bool.false_eq_true, if_false, hbn]
  rfl
 rw [hrun]
 rcases hp with rfl | rfl
 ·cases hvu
  refine (Any.Builder_copyCheck_fresh L X q.block w hu hsh hfz).mono fun e w' ⟨he, hw'⟩ => ?_
  subst he; subst hw'
  exact ⟨.ret noVal, c, _, ⟨rfl, rfl⟩, .ret (.tuple .nil), hS, hT⟩
 ·cases hvu with
  | ptr hc2 =>
  rw [hc] at hc2; cases hc2
  rw [hbase] at hu
  refine (Any.Builder_copyCheck_used L X q.block w hu).mono fun e w' ⟨he, hw'⟩ => ?_
  subst he; subst hw'
  refine ⟨.ret noVal, c, H, ⟨rfl, (set_same hi).symm⟩, .ret (.tuple .nil), hh, .refl _ _ _ _⟩

end Go.Aw


set_option linter.unusedVariables false
namespace Go.Aw
end Go.Aw


set_option linter.unusedVariables false
namespace Go.Aw
def hP : UInt64 := 1099511628211
def hG : UInt64 := 11400714819323198485
def hB : UInt64 := 14695981039346656037
/-! ### Lists that are filled, one by one -/
end Go.Aw
namespace Go.Aw
end Go.Aw
namespace Go.Aw
end Go.Aw
namespace Go.Aw
theorem putCells_eq : ∀ (l cs : List Value) (off : Nat), off + l.length ≤ cs.length → putCells cs off l = cs.take off ++ l ++ cs.drop (off + l.length)
 | [], cs, off, h => by simp [putCells]
 | v :: l, cs, off, h => by
  rw [List.length_cons] at h
  unfold putCells
  rw [putCells_eq l (cs.set off v) (off + 1) (by rw [List.length_set]; omega), List.take_add_one, List.getElem?_set_self (by omega), List.take_set_of_le (Nat.le_refl _), List.drop_set_of_lt (by omega), List.length_cons]
  simp [Nat.add_assoc, Nat.add_comm 1]
theorem putCells_all {l cs : List Value} (h : cs.length = l.length) : putCells cs 0 l = l := by
 rw [putCells_eq _ _ _ (by omega)]; simp [h]
end Go.Aw


set_option linter.unusedVariables false
set_option linter.unusedSimpArgs false
namespace Go.Aw
/-! ### Freezing -/
def fzO : AObj → AObj
 | .cells cs k => .cells cs { k with own := false }
 | o => o
/-- These objects are not owned any more. -/
def fz : AHeap → List Nat → AHeap
 | H, [] => H
 | H, j :: S => fz (H.modify j fzO) S
theorem fz_length : ∀ (S : List Nat) (H : AHeap), (fz H S).length = H.length
 | [], H => rfl
 | j :: S, H => by rw [fz, fz_length S, List.length_modify]
theorem fzO_idem (o : AObj) : fzO (fzO o) = fzO o := by cases o <;> rfl
theorem fz_get : ∀ (S : List Nat) (H : AHeap) (i : Nat), (fz H S)[i]? = if i ∈ S then H[i]?.map fzO else H[i]?
 | [], H, i => by simp [fz]
 | j :: S, H, i => by
  rw [fz, fz_get S, List.getElem?_modify]
  by_cases hj : j = i
  ·subst hj
   simp only [List.mem_cons, true_or, if_true]
   split
   ·cases h : H[j]? with
    | none => rfl
    | some o => simp [fzO_idem]
   ·simp
  ·have hji : ¬ i = j := fun e => hj e.symm
   simp only [List.mem_cons, hji, false_or]
   simp [hj]
theorem fz_cells {S : List Nat} {H : AHeap} {i : Nat} {cs : List Value} {k : CK} (h : H[i]? = some (.cells cs k)) : ∃ k2 : CK, (fz H S)[i]? = some (.cells cs k2) ∧ k2.e = k.e ∧ k2.esz = k.esz ∧ (i ∈ S → k2.own = false) ∧ (k.own = false → k2.own = false) := by
 rw [fz_get, h]
 by_cases hs : i ∈ S
 ·rw [if_pos hs]
  exact ⟨_, rfl, rfl, rfl, fun _ => rfl, fun _ => rfl⟩
 ·rw [if_neg hs]
  exact ⟨k, rfl, rfl, rfl, fun h => absurd h hs, id⟩
theorem fz_kept (S : List Nat) (H : AHeap) : Kept H (fz H S) := fun j cs k h ho => by
 rw [fz_get, h]
 by_cases hs : j ∈ S
 ·rw [if_pos hs]
  obtain ⟨a, b, c, d, e⟩ := k
  dsimp only at ho
  subst ho
  rfl
 ·rw [if_neg hs]
theorem modify_fz {H : AHeap} {j : Nat} : (∃ cs k, H[j]? = some (.cells cs k) ∧ H.modify j fzO = H.set j (.cells cs { k with own := false })) ∨ H.modify j fzO = H := by
 cases h : H[j]? with
 | none =>
  refine .inr ?_
  apply List.ext_getElem?
  intro i
  rw [List.getElem?_modify]
  by_cases e : j = i
  ·subst e; rw [h]; simp
  ·simp [e]
 | some o =>
  cases o with
  | cells cs k =>
   refine .inl ⟨cs, k, rfl, ?_⟩
   apply List.ext_getElem?
   intro i
   rw [List.getElem?_modify]
   by_cases e : j = i
   ·subst e; rw [h, List.getElem?_set_self (lt_of_get h)]; simp [fzO]
   ·rw [List.getElem?_set_ne e]; simp [e]
  | _ =>
   refine .inr ?_
   apply List.ext_getElem?
   intro i
   rw [List.getElem?_modify]
   by_cases e : j = i
   ·subst e; rw [h]; simp [fzO]
   ·simp [e]
theorem Weak.trans0 {n0 : Nat} {a b d : ASt} (h : Weak n0 a b) (k : Weak n0 b d) : Weak n0 a d := fun N c w x hs =>
 let ⟨c1, h1, t1⟩ := h N c w x hs
 let ⟨c2, h2, t2⟩ := k N c1 w x h1
 ⟨c2, h2, t1.trans t2⟩
theorem Weak.fz {n0 : Nat} {env : List (Nat × Value)} {ds : List ADef} : ∀ (S : List Nat) (H : AHeap), Weak n0 ⟨env, ds, H⟩ ⟨env, ds, fz H S⟩
 | [], H => fun N c w a hs => ⟨c, hs, .refl _ _ _ _⟩
 | j :: S, H => by
  rw [Go.Aw.fz]
  rcases modify_fz (H := H) (j := j) with ⟨cs, k, h1, h2⟩ | h2
  ·rw [h2]
   exact (Weak.freeze h1).trans0 (Weak.fz S _)
  ·rw [h2]; exact Weak.fz S H
theorem WeakV.trans0 {n0 : Nat} {H1 H2 H3 : AHeap} {v1 v2 v3 : Value} (h : WeakV n0 H1 v1 H2 v2) (k : WeakV n0 H2 v2 H3 v3) : WeakV n0 H1 v1 H3 v3 := fun c w v' hh hr =>
 let ⟨c1, h1, r1, t1⟩ := h c w v' hh hr
 let ⟨c2, h2, r2, t2⟩ := k c1 w v' h1 r1
 ⟨c2, h2, r2, t1.trans t2⟩
theorem WeakV.fz {n0 : Nat} {v : Value} : ∀ (S : List Nat) (H : AHeap), WeakV n0 H v (fz H S) v
 | [], H => .refl _ _ _
 | j :: S, H => by
  rw [Go.Aw.fz]
  rcases modify_fz (H := H) (j := j) with ⟨cs, k, h1, h2⟩ | h2
  ·rw [h2]
   exact (WeakV.freeze h1).trans0 (WeakV.fz S _)
  ·rw [h2]; exact WeakV.fz S H
/-- What a call that only reads finds frozen is as it was behind it. -/
theorem ARet.thaw {P : Program} {f : FuncId} {args : List Value} {H : AHeap} {v : Value} {j : Nat} {cs : List Value} {k : CK} (hj : H[j]? = some (.cells cs k)) (h : ARet P f args (H.set j (.cells cs { k with own := false })) v (H.set j (.cells cs { k with own := false }))) : ARet P f args H v H :=
 fun c w vargs hh hv => (h c w vargs (hh.freeze hj) hv).mono fun e w' hp => by
  obtain ⟨r, c', H', ⟨rfl, rfl⟩, h2, h3, h4⟩ := hp
  have hlt := lt_of_get hj
  have hnm : ∀ (i : Nat) (o : AObj), H[i]? = some o → o.live = true → ∀ p, c' i = some p → c i = some p := fun i o hi hl p hp => by
   obtain ⟨q, hq, _⟩ := hh.obj i o hi hl
   have := h4.names i q (by simpa using lt_of_get hi) hq
   rw [hp] at this; cases this; exact hq
  have hle : c.le c' := fun i p e => h4.names i p (by simpa using hh.lt e) e
  have lv : ∀ o : AObj, o.own = true → o.live = true := by intro o ho; cases o <;> first | rfl | cases ho
  obtain ⟨q, hq, hr⟩ := hh.obj j _ hj rfl
  have hno : ¬ Owns c (H.set j (.cells cs { k with own := false })) q.block := by
   rintro ⟨i, o, p, hi, hp, ho, hb⟩
   by_cases e : j = i
   ·subst e
    rw [List.getElem?_set_self hlt] at hi
    cases hi; cases ho
   ·rw [List.getElem?_set_ne e] at hi
    exact hh.sep i j o _ p q (fun h => e h.symm) hi hj hp hq ho rfl hb
  have hblk := h4.frame q.block (hr.block_lt rfl) hno
  refine ⟨.ret v, c', H, ⟨rfl, rfl⟩, h2, ⟨?_, ?_, ?_⟩, ⟨fun i p hi e => h4.names i p (by simpa using hi) e, h4.tape, h4.os, h4.output, h4.size, ?_, ?_⟩⟩
  ·intro i o hi hl
   by_cases e : j = i
   ·subst e
    rw [hj] at hi; cases hi
    exact ⟨q, hle _ _ hq, hr.keep hle rfl hblk⟩
   ·exact h3.obj i o (by rw [List.getElem?_set_ne e]; exact hi) hl
  ·intro i i' oi oi' pi pi' hne hi hi' ci ci' ho hl
   exact hh.sep i i' oi oi' pi pi' hne hi hi' (hnm i oi hi (lv oi ho) pi ci) (hnm i' oi' hi' hl pi' ci') ho hl
  ·intro i hi
   exact h3.fresh i (by simpa using hi)
  ·intro b hb hn
   exact h4.frame b hb fun ho => hn (ho.freeze hj)
  ·rintro b ⟨i, o, p, hi, hp, ho, hb⟩
   exact .inl ⟨i, o, p, hi, hnm i o hi (lv o ho) p hp, ho, hb⟩
theorem ARet.thawS {P : Program} {f : FuncId} {args : List Value} {v : Value} : ∀ (S : List Nat) (H : AHeap), ARet P f args (fz H S) v (fz H S) → ARet P f args H v H
 | [], H, h => h
 | j :: S, H, h => by
  rw [fz] at h
  have h1 := ARet.thawS S _ h
  rcases modify_fz (H := H) (j := j) with ⟨cs, k, e1, e2⟩ | e2
  ·rw [e2] at h1; exact h1.thaw e1
  ·rwa [e2] at h1
/-! ### A slice that is cut to just its cells -/
theorem HRel.alias {c : Ctx} {H : AHeap} {w : World} (h : HRel c H w) {i : Nat} {cs : List Value} {k : CK} {p : Place} (hi : H[i]? = some (.cells cs k)) (hp : c i = some p) (hko : k.own = false) {off m : Nat} (hoff : off + m ≤ cs.length) :
  HRel (c.add H.length ⟨p.block, p.base + off, m, 0, 0⟩) (H ++ [.cells ((cs.drop off).take m) ⟨k.e, 0, false, 0, none⟩]) w ∧ (∀ n, Trans n c H w (c.add H.length ⟨p.block, p.base + off, m, 0, 0⟩) (H ++ [.cells ((cs.drop off).take m) ⟨k.e, 0, false, 0, none⟩]) w) ∧ c.le (c.add H.length ⟨p.block, p.base + off, m, 0, 0⟩) := by
 have hle : c.le (c.add H.length ⟨p.block, p.base + off, m, 0, 0⟩) := Ctx.le_add _ (h.fresh _ (Nat.le_refl _))
 have old : ∀ (j : Nat) (o : AObj), (H ++ [AObj.cells ((cs.drop off).take m) ⟨k.e, 0, false, 0, none⟩])[j]? = some o → j ≠ H.length → H[j]? = some o := by
  intro j o e hj
  have hlt := (List.getElem?_eq_some_iff.1 e).1
  rw [List.getElem?_append_left (by simp at hlt; omega)] at e
  exact e
 obtain ⟨q, hq, r1, r2, r3, r4, arr, lo, hh, r5, r6, r7, r8⟩ := h.obj i _ hi rfl
 rw [hp] at hq; cases hq
 have hlen : ((cs.drop off).take m).length = m := by rw [List.length_take, List.length_drop]; omega
 refine ⟨⟨?_, ?_, ?_⟩, fun n => ⟨fun j q _ e => hle _ _ e, rfl, rfl, rfl, Nat.le_refl _, fun _ _ _ => rfl, ?_⟩, hle⟩
 ·intro j o e hl
  by_cases hj : j = H.length
  ·subst hj
   simp at e; subst e
   refine ⟨⟨p.block, p.base + off, m, 0, 0⟩, by simp [Ctx.add], ?_⟩
   refine ⟨hlen.symm, rfl, (fun _ => ⟨rfl, fun hf => (by cases hf)⟩), (fun n hf => (by cases hf)), arr, lo, hh, r5, ?_, ?_, fun hf => by cases hf⟩
   ·intro x v hv
    have hx : x < m := by have := (List.getElem?_eq_some_iff.1 hv).1; omega
    rw [List.getElem?_take_of_lt hx, List.getElem?_drop] at hv
    obtain ⟨v', e1, e2⟩ := r6 _ _ hv
    exact ⟨v', by rw [← e1, Nat.add_assoc], e2.mono hle⟩
   ·dsimp only
    omega
  ·obtain ⟨q, hq, hr⟩ := h.obj j o (old j o e hj) hl
   exact ⟨q, by rw [Ctx.add_other _ _ hj]; exact hq, hr.keep hle hl rfl⟩
 ·intro a b oa ob pa pb hab ea eb ca cb hoa hlb
  by_cases h1 : a = H.length
  ·subst h1
   simp at ea; subst ea; cases hoa
  ·rw [Ctx.add_other _ _ h1] at ca
   by_cases h2 : b = H.length
   ·subst h2
    simp [Ctx.add] at cb
    subst cb
    have hai : a ≠ i := fun e => by
     subst e
     rw [old a oa ea h1] at hi
     cases hi
     rw [show (AObj.cells cs k).own = k.own from rfl, hko] at hoa
     cases hoa
    exact h.sep a i oa _ pa p hai (old a oa ea h1) hi ca hp hoa rfl
   ·rw [Ctx.add_other _ _ h2] at cb
    exact h.sep a b oa ob pa pb hab (old a oa ea h1) (old b ob eb h2) ca cb hoa hlb
 ·intro j hj
  simp at hj
  rw [Ctx.add_other _ _ (by omega)]
  exact h.fresh j (by omega)
 ·rintro b ⟨j, o, q, e, cj, ho, hb⟩
  by_cases hj : j = H.length
  ·subst hj
   simp at e; subst e; cases ho
  ·rw [Ctx.add_other _ _ hj] at cj
   exact .inl ⟨j, o, q, old j o e hj, cj, ho, hb⟩
section
variable {g : Cfg} {o : Oper} {st : ASt} {K : ASt → Prop} {Kp : Value → ASt → Prop}
/-- What of a slice is cut to just its cells is a slice of its own. -/
theorem OpOk.clip (hd : ∀ d, o.dst = some d → d < g.N.n) {t e : TypeId} {x y z : Operand} (ho : o.op = .slice t x none (some y) (some z)) {i off n cap s : Nat} (hx : ev st x = some (.slice (some ⟨i, off, none⟩) n cap)) (hy : ev st y = some (.int .i64 (n : Nat))) (hz : ev st z = some (.int .i64 (n : Nat)))
  (hn : n ≤ cap) (hu : g.P.underlying t = some (.slice e)) (hs : tS g.P e = some s) {cs : List Value} {k : CK} (hi : st.H[i]? = some (.cells cs k)) (hl : off + n * s ≤ cs.length)
  (hK : K (ASt.put ⟨st.env, st.defs, fz st.H [i] ++ [.cells ((cs.drop off).take (n * s)) ⟨k.e, 0, false, 0, none⟩]⟩ o.dst (.slice (some ⟨st.H.length, 0, none⟩) n n))) : OpOk g o st K Kp := by
 refine .gives hd (fun c e => by rw [ho] at e; cases e) (fun a => Instr.sliceAt t (a.eval x) none (some (a.eval y)) (some (a.eval z))) (fun a => by simp only [execOp, ho]; rfl) fun c w a hsr => ?_
 have hxr := ev_rel hsr hx
 have hyr := ev_rel hsr hy
 have hzr := ev_rel hsr hz
 generalize a.eval x = x' at hxr
 generalize a.eval y = y' at hyr
 generalize a.eval z = z' at hzr
 cases hyr; cases hzr
 have hfz := hsr.heap.freeze hi
 have hH : fz st.H [i] = st.H.set i (.cells cs { k with own := false }) := by
  rw [fz, fz]
  rcases modify_fz (H := st.H) (j := i) with ⟨cs2, k2, e1, e2⟩ | e2
  ·rw [hi] at e1; cases e1; exact e2
  ·apply List.ext_getElem?
   intro j
   rw [List.getElem?_modify]
   by_cases e : i = j
   ·subst e; rw [hi, List.getElem?_set_self (lt_of_get hi)]; simp [fzO]
   ·rw [List.getElem?_set_ne e]; simp [e]
 obtain ⟨p, hp, _⟩ := hsr.heap.obj i _ hi rfl
 have hi2 : (st.H.set i (.cells cs { k with own := false }))[i]? = some (.cells cs { k with own := false }) := List.getElem?_set_self (lt_of_get hi)
 obtain ⟨a1, a2, a3⟩ := hfz.alias hi2 hp rfl (off := off) (m := n * s) hl
 rw [hH] at hK
 have hT : ∀ m, Trans m c st.H w c (st.H.set i (.cells cs { k with own := false })) w := fun m => ⟨fun _ _ _ h => h, rfl, rfl, rfl, Nat.le_refl _, fun _ _ _ => rfl, fun b h => .inl (h.freeze hi)⟩
 have hlen : (st.H.set i (.cells cs { k with own := false })).length = st.H.length := List.length_set
 rw [hlen] at a1 a2 a3
 have hb : ∀ cap', n ≤ cap' → (Instr.sliceBounds true n cap' none (some (.int .i64 (n : Nat))) (some (.int .i64 (n : Nat)))).run g.P w = .ok (0, n, n) w := fun cap' hc => by
  have := run_bounds (P := g.P) (b := true) (len := n) (cap := cap') (m := ((n : Nat) : Int)) (.none (c := c)) (.some (.int .i64 (n : Nat))) (.some (.int .i64 (n : Nat))) (l := 0) (h := ((n : Nat) : Int)) rfl rfl rfl ⟨by omega, by omega, by omega, by omega⟩ (fun _ => rfl) w
  simpa using this
 have fin : ∀ v', (Instr.sliceAt t x' none (some (.int .i64 (n : Nat))) (some (.int .i64 (n : Nat)))).run g.P w = .ok v' w → VRel (c.add st.H.length ⟨p.block, p.base + off, n * s, 0, 0⟩) (.slice (some ⟨st.H.length, 0, none⟩) n n) v' →
   Gives g.P (Instr.sliceAt t x' none (some (.int .i64 (n : Nat))) (some (.int .i64 (n : Nat)))) c st.H w (kv st o.dst K) := fun v' hr hv =>
  ⟨v', w, hr, _, _, _, hK, hv, a3, a1, fun m => (hT m).trans (a2 m)⟩
 have hnew : (c.add st.H.length ⟨p.block, p.base + off, n * s, 0, 0⟩) st.H.length = some ⟨p.block, p.base + off, n * s, 0, 0⟩ := by simp [Ctx.add]
 have key : ∀ cap', n ≤ cap' → x' = .slice (some ⟨p.block, p.base + off, none⟩) n cap' → Gives g.P (Instr.sliceAt t x' none (some (.int .i64 (n : Nat))) (some (.int .i64 (n : Nat)))) c st.H w (kv st o.dst K) := fun cap' hc ex => by
  refine fin (.slice (some ⟨p.block, p.base + off + 0, none⟩) n n) ?_ (.slice hnew)
  rw [ex]
  simp only [Instr.sliceAt, Instr.slice, Sem.run_bind, run_underlying hu, Result.andThen_ok, hb cap' hc, Sem.run_pure, run_sizeOf hs]
  by_cases h0 : n = 0
  ·simp [h0]
  ·simp [h0, addr_add]
 cases hxr with
 | slice hc => rw [hp] at hc; cases hc; exact key cap hn rfl
 | sliceX hc hsx => rw [hp] at hc; cases hc; exact key _ (by omega) rfl
 | @sliceZ _ _ ad p2 hc =>
  obtain ⟨b, u, sp⟩ := ad
  refine fin (.slice (some ⟨b, u, sp⟩) 0 0) ?_ (.sliceZ hnew)
  have := hb 0 (Nat.le_refl _)
  simp only [Instr.sliceAt, Instr.slice, Sem.run_bind, run_underlying hu, Result.andThen_ok, this, Sem.run_pure, run_sizeOf hs]
  simp
/-- The capacity of a slice behind which there is no room. -/
theorem OpOk.cap (hd : ∀ d, o.dst = some d → d < g.N.n) {t e : TypeId} {x : Operand} (ho : o.op = .call ⟨.builtin .cap, #[x], #[t]⟩) {i off n cap : Nat} (hx : ev st x = some (.slice (some ⟨i, off, none⟩) n cap))
  (hu : g.P.underlying t = some (.slice e)) {cs : List Value} {k : CK} (hi : st.H[i]? = some (.cells cs k)) (hz : k.esz = 0)
  (hK : K (ASt.put st o.dst (.int .i64 (cap : Nat)))) : OpOk g o st K Kp := by
 refine .still hd (fun c e => by rw [ho] at e; cases e) fun c w a hsr => ?_
 have hxr := ev_rel hsr hx
 obtain ⟨p, hp, hr⟩ := hsr.heap.obj i _ hi rfl
 have hex : p.extra = 0 := (hr.2.2.1 hz).1
 have hrun : ∀ ad c', a.eval x = .slice ad n c' → c' = cap → (execOp a.eval o).run g.P w = .ok (.value (.int .i64 (cap : Nat))) w := fun ad c' e1 e2 => by
  subst e2
  have : (Go.Builtin.cap_ #[t] o.type (#[x].map a.eval)).run g.P w = .ok (.int .i64 (c' : Nat)) w := by
   simp [Builtin.cap_, run_underlying hu, goInt, e1]
  simp only [execOp, ho, resolve, pure_bind, invoke, builtin]
  exact run_v this
 generalize hxe : a.eval x = x' at hxr
 cases hxr with
 | slice hc => exact ⟨_, _, hrun _ _ hxe rfl, .int _ _, hK⟩
 | sliceX hc hsx =>
  rw [hp] at hc; cases hc
  exact ⟨_, _, hrun _ _ hxe (by rw [hex]; rfl), .int _ _, hK⟩
 | sliceZ hc => exact ⟨_, _, hrun _ _ hxe rfl, .int _ _, hK⟩
end
/-! ### Regions of which one operation is shown by hand -/
theorem regionL_ok {g : Cfg} {Q : AExit → ASt → Prop} (ops post : List Oper) : ∀ (l : List Oper) (st : ASt), dstsOk g.N.n l = true → regionW g ops l st (fun st' => ∀ c w a, SRel g.N c st' w a → wpListIn (fenceOf g.lr) 0 g.P ops.toArray (APost g Q c st'.H w) post a w) (fun v st' => Q (.panic v) st') →
  ∀ c w a, SRel g.N c st w a → wpListIn (fenceOf g.lr) 0 g.P ops.toArray (APost g Q c st.H w) (l ++ post) a w
 | [], st, _, h, c, w, a, hs => h c w a hs
 | o :: l, st, hd, h, c, w, a, hs => by
  simp only [dstsOk, List.all_cons, Bool.and_eq_true] at hd
  have hd1 : ∀ d, o.dst = some d → d < g.N.n := fun d e => by rw [e] at hd; simpa using hd.1
  simp only [regionW] at h
  simp only [List.cons_append, wpListIn]
  rcases wantW_elim hs h with ⟨hw, hr⟩ | ⟨hw, hr⟩
  ·rw [if_pos hw]
   refine opW_ok hd1 hr c w a _ _ hs ?_ ?_
   ·intro st' c' a' w' hK hs' ht _
    have := regionL_ok ops post l st' (by simpa [dstsOk] using hd.2) hK c' w' a' hs'
    have hback : ∀ e a2 w2, APost g Q c' st'.H w' e a2 w2 → APost g Q c st.H w e a2 w2 := fun e a2 w2 hp => hp.back ht
    exact region_ok.wpList_mono hback _ this
   ·intro v v' st' c' a' w' hKp hv hs' ht
    exact ⟨.panic v, st', c', hKp, .panic hv, hs', ht⟩
  ·rw [if_neg (by rw [hw]; simp)]
   refine ⟨about_any g.lr, ?_⟩
   have hs' : SRel g.N c (st.put o.dst noVal) w (a.put o.dst undef) := hs.put hd1 (.tuple .nil)
   have := regionL_ok ops post l (st.put o.dst noVal) (by simpa [dstsOk] using hd.2) hr c w _ hs'
   have hH : (st.put o.dst noVal).H = st.H := by cases o.dst <;> rfl
   rw [hH] at this
   exact this
/-- The rest of a region. -/
def LOk (g : Cfg) (Q : AExit → ASt → Prop) (l post : List Oper) (st : ASt) : Prop := ∀ c w a, SRel g.N c st w a → wpListIn (fenceOf g.lr) 0 g.P l.toArray (APost g Q c st.H w) post a w
theorem LOk.step {g : Cfg} {Q : AExit → ASt → Prop} {l post : List Oper} {o : Oper} {st : ASt} (hg : o.guard = none) (hd : dstsOk g.N.n post = true)
  (h : OpOk g o st (fun st2 => regionW g l post st2 (fun st' => Q .normal st') (fun v st' => Q (.panic v) st')) (fun v st' => Q (.panic v) st')) : LOk g Q l (o :: post) st := by
 intro c1 w1 a1 hs1
 simp only [wpListIn]
 rw [if_pos (by simp [Region.wanted, hg])]
 refine h c1 w1 a1 _ _ hs1 ?_ ?_
 ·intro st' c' a' w' hK hs' ht _
  have := region_ok l post st' hd hK c' w' a' hs'
  have hback : ∀ e a2 w2, APost g Q c' st'.H w' e a2 w2 → APost g Q c1 st.H w1 e a2 w2 := fun e a2 w2 hp => hp.back ht
  exact region_ok.wpList_mono hback _ this
 ·intro v v' st' c' a' w' hKp hv hs' ht
  exact ⟨.panic v, st', c', hKp, .panic hv, hs', ht⟩
/-- A region, its first k operations by rule. -/
theorem AWP.regionO {g : Cfg} {Q : AExit → ASt → Prop} {st : ASt} {id : Nat} {l : List Oper} (k : Nat) (hd : dstsOk g.N.n (l.take k) = true)
  (h : regionW g l (l.take k) st (fun st1 => LOk g Q l (l.drop k) st1) (fun v st' => Q (.panic v) st')) :
  AWP g (.region id l.toArray false) Q st := fun c w a hs => wpIn_region_lit (by
 have := regionL_ok l (l.drop k) (l.take k) st hd (Q := Q) h c w a hs
 rw [List.take_append_drop] at this
 exact this)
end Go.Aw


set_option linter.unusedVariables false
set_option linter.unusedSimpArgs false
namespace Go.Aw
theorem run_append_grow_make {P : Program} (w : World) (t tx ty e : TypeId) (kk : IntKind) (i : TypeInfo) (z : Value) (ht : P.underlying t = some (.slice e)) (hk : P.underlying tx = some (.int kk)) (hi : P.info? e = some i) (hz : i.zero = some z) (base : Option Addr) (sLen sCap : Nat) (olds : List Value)
  (hold : (Builtin.firstCells i.size sLen (.slice base sLen sCap)).run P w.drew = .ok olds.toArray w.drew) (k2 : IntKind) (n : Nat) (hpos : 0 < n * i.size) (hnb : (n : Int) * i.bytes ≤ 281474976710656)
  (hg : sCap < sLen + n) (h63 : ((sLen + n : Nat) : Int) ≤ 9223372036854775807) (hfit : Builtin.nextslicecap (sLen + n) sCap * i.bytes ≤ 281474976710656) :
  (Builtin.append_ #[t, tx] ty #[.slice base sLen sCap, .int k2 (n : Nat)]).run P w =
   .ok (.slice (some ⟨w.heap.size, 0, none⟩) (sLen + n) (grownCap w (sLen + n) sCap e))
    (w.drew.alloc (.cells ((olds.toArray ++ Builtin.zeroCells z.cells n) ++ Builtin.zeroCells z.cells (grownCap w (sLen + n) sCap e - (sLen + n))) e)) := by
 have hn : ¬ (sLen + n ≤ sCap) := by omega
 have h63' : ¬ (9223372036854775807 < ((sLen : Int) + (n : Int))) := by omega
 have h48' : ¬ (281474976710656 < Builtin.nextslicecap (sLen + n) sCap * i.bytes) := by omega
 have hw : IntKind.i64.wrap (n : Int) = (n : Int) := wi64 (by omega)
 have hneg : ¬ (n : Int) < 0 := by omega
 have hbig : ¬ ((n : Int) * (i.bytes : Int) > 2 ^ 48) := by
  have : (2 : Int) ^ 48 = 281474976710656 := by decide
  omega
 have hbig2 : ¬ (281474976710656 < (n : Int) * (i.bytes : Int)) := by omega
 have hmax : max (n : Int) 0 = (n : Int) := by omega
 have hp0 : ¬ n * i.size = 0 := by omega
 simp [Builtin.append_, run_underlying ht, run_underlying hk, sizeOf, typeInfo, zeroValue, hi, hz, hn, h63', h48', Question.forced, hold, newRow, grownCap, asInt, asIntOf, hw, hneg, hbig, hbig2, hmax, hp0]
theorem OpOk.appendMake {g : Cfg} {o : Oper} {st : ASt} {K : ASt → Prop} {Kp : Value → ASt → Prop} (hd : ∀ d, o.dst = some d → d < g.N.n) {t tx e : TypeId} {sx xx : Operand} {kk k2 : IntKind} (ho : o.op = .call ⟨.builtin .append, #[sx, xx], #[t, tx]⟩) {b off len cap n size y : Nat} {z : List Value}
  (hx : ev st sx = some (.slice (some ⟨b, off, none⟩) len cap)) (hn : ev st xx = some (.int k2 (n : Nat))) (hut : g.P.underlying t = some (.slice e)) (huk : g.P.underlying tx = some (.int kk)) (hs : tS g.P e = some size) (hy : tB g.P e = some y) (hz : tZ g.P e = some z)
  (hzl : z.length = size) {cs : List Value} {k : CK} (hb : st.H[b]? = some (.cells cs k)) (hesz : k.esz = 0) (hcap : cap < len + n) (hle : off + len * size ≤ cs.length) (hzs : (repZ n z).all scalar = true)
  (hpos : 0 < size) (hn0 : 0 < n) (hby : (len + n) * y ≤ 140737488355328) (h63 : len + n ≤ 4611686018427387904)
  (hK : K (ASt.put ⟨st.env, st.defs, st.H ++ [.cells ((cs.drop off).take (len * size) ++ repZ n z) ⟨e, size, true, 0, none⟩]⟩ o.dst (.slice (some ⟨st.H.length, 0, none⟩) (len + n) (len + n)))) : OpOk g o st K Kp := by
 refine .value hd (fun c e => by rw [ho] at e; cases e) fun c w a hsr => ?_
 have hxr := ev_rel hsr hx
 have hnr := ev_rel hsr hn
 have h := hsr.heap
 obtain ⟨i, hi, his⟩ := tS_info hs
 have hiy : i.bytes = y := by unfold tB at hy; rw [hi] at hy; simpa using hy
 have hiz : ∃ zv, i.zero = some zv ∧ zv.cells.toList = z := by
  unfold tZ at hz; rw [hi] at hz; simp at hz
  obtain ⟨zv, h1, h2⟩ := hz
  exact ⟨zv, h1, h2⟩
 obtain ⟨zv, hzv, hzs2⟩ := hiz
 have hzc : zv.cells = z.toArray := by rw [← hzs2]
 have hzn : (Builtin.zeroCells zv.cells n).toList = repZ n z := by rw [hzc]; exact zeroCells_eq z n
 have hzsz : zv.cells.size = size := by rw [hzc]; simpa using hzl
 obtain ⟨p, hp, hro⟩ := h.obj b _ hb rfl
 have hex : p.extra = 0 := (hro.2.2.1 hesz).1
 obtain ⟨hdr, _⟩ := h.drew 0
 obtain ⟨l', hl', hv, hrun0⟩ := hdr.cellsAt hb hp off (len * size) hle
 have hol : ((cs.drop off).take (len * size)).length = len * size := by simp; omega
 have hrz : (repZ n z).length = n * size := by rw [repZ_length, hzl]
 have key : ∀ base cap', cap' < len + n → (Builtin.firstCells size len (.slice base len cap')).run g.P w.drew = .ok l'.toArray w.drew → a.eval sx = .slice base len cap' → a.eval xx = .int k2 (n : Nat) →
   ∃ v' w', (execOp a.eval o).run g.P w = .ok (.value v') w' ∧ ∃ v H' c', K (ASt.put ⟨st.env, st.defs, H'⟩ o.dst v) ∧ VRel c' v v' ∧ c.le c' ∧ HRel c' H' w' ∧ ∀ n, Trans n c st.H w c' H' w' := fun base cap' hg hold e1 e2 => by
  have hge := grownCap_ge w (len + n) cap' e
  have hle2 : n * y ≤ (len + n) * y := Nat.mul_le_mul_right y (by omega)
  have hny : ((n : Nat) : Int) * (i.bytes : Int) ≤ 281474976710656 := by
   rw [hiy]
   have h1 : ((n * y : Nat) : Int) ≤ 140737488355328 := by omega
   rw [Int.natCast_mul] at h1
   omega
  have hrun := run_append_grow_make (P := g.P) w t tx o.type e kk i zv hut huk hi hzv base len cap' l' (by rw [his]; exact hold) k2 n (by rw [his]; exact Nat.mul_pos hn0 hpos) hny hg (by omega) (growslice_fits hg (by rw [hiy]; exact hby))
  obtain ⟨c', g1, g2, g3, g4⟩ := h.grown (hv.append (VRels.of_scalars hzs)) e size (need := len + n) (cap := grownCap w (len + n) cap' e) (by rw [List.length_append, hol, hrz, Nat.add_mul]) hge (rest := Builtin.zeroCells zv.cells (grownCap w (len + n) cap' e - (len + n))) (by rw [size_zeroCells, hzsz]) hpos 0
  have harr : (l' ++ repZ n z).toArray ++ Builtin.zeroCells zv.cells (grownCap w (len + n) cap' e - (len + n)) = (l'.toArray ++ Builtin.zeroCells zv.cells n) ++ Builtin.zeroCells zv.cells (grownCap w (len + n) cap' e - (len + n)) := by
   congr 1
   apply Array.ext'
   simp [hzn]
  rw [harr] at g1 g2
  refine ⟨_, _, ?_, _, _, c', hK, g4, g3, g1, g2⟩
  have hr2 := hrun
  rw [← e1, ← e2, show #[a.eval sx, a.eval xx] = #[sx, xx].map a.eval by simp] at hr2
  simp only [execOp, ho, resolve, pure_bind, invoke, builtin]
  exact run_v hr2
 have holdp : ∀ cap', (Builtin.firstCells size len (.slice (some ⟨p.block, p.base + off, none⟩) len cap')).run g.P w.drew = .ok l'.toArray w.drew := fun cap' => by
  have := hrun0 g.P #[]
  simpa [Builtin.firstCells, loadCells] using this
 generalize hxe : a.eval sx = x' at hxr
 generalize hne : a.eval xx = n' at hnr
 cases hnr
 cases hxr with
 | slice hc => rw [hp] at hc; cases hc; exact key _ cap hcap (holdp _) hxe hne
 | sliceX hc hsx => rw [hp] at hc; cases hc; exact key _ _ (by omega) (holdp _) hxe hne
 | @sliceZ _ _ ad p2 hc =>
  have hl0 : l' = [] := List.eq_nil_of_length_eq_zero (by rw [hl']; simp)
  subst hl0
  exact key _ 0 hcap (by simp [Builtin.firstCells, loadCells, loadCellsFrom]) hxe hne
end Go.Aw


set_option linter.unusedVariables false
set_option linter.unusedSimpArgs false
namespace Go.Aw
open Go.Proofs Go.Shelf Go.ChangeShapes Go.WideShapes Go.ChangeAt Go.RowKit
end Go.Aw
namespace Go.Aw
end Go.Aw
namespace Go.Aw
theorem DName.one {m : Names} {f : FuncId} {i j : Nat} (h : m i = some i) : DName m [.call (.func f) [] [.pointer (some ⟨i, j, none⟩)]] [.call (.func f) [] [.pointer (some ⟨i, j, none⟩)]] :=
 .call .nil (.cons (.ptr h) .nil) .nil
end Go.Aw


set_option linter.unusedVariables false
namespace Go.Aw
theorem AC.forget {P : Program} {f : FuncId} {args : List Value} {H : AHeap} {v : Value} (hv : plain v = true) (h : AC P f args H (fun r H2 => r = .ret v ∧ Frm [] H H2)) : ARet P f args H v H :=
 fun c w vargs hh hvs => (h c w vargs hh hvs).mono fun e w' hp => by
  obtain ⟨r, c', H', ⟨rfl, hf⟩, h2, h3, h4⟩ := hp
  have hspl : ∃ Y, H' = H ++ Y := by
   have hf' : Frm [] (H ++ []) H' := by rw [List.append_nil]; exact hf
   exact Frm.split hf' (fun s hs => by cases hs)
  obtain ⟨Y, rfl⟩ := hspl
  cases h2 with
  | ret hr =>
   obtain ⟨c2, g1, g2, g3⟩ := WeakV.drop (l := Y) (n := H.length) rfl hh.inside (NRel.of_plain hv) c' w' _ h3 hr
   exact ⟨_, c2, H, ⟨rfl, rfl⟩, .ret g2, g1, Trans.trans h4 g3⟩
end Go.Aw


set_option linter.unusedVariables false
set_option linter.unusedSimpArgs false
namespace Go.Aw
theorem inv_run {g : Cfg} {Q : AExit → ASt → Prop} {ops : List Oper} (J : List Nat → ASt → Prop)
  (hstep : ∀ (L : List Nat) (st : ASt) (j : Nat) (o : Oper), j ∈ enabled ops L → ops[j]? = some o → J L st → wantW ops o st (∃ K : ASt → Prop, opW g o st K (fun v st' => Q (.panic v) st') ∧ ∀ st', K st' → J (j :: L) st') (J (j :: L) (st.put o.dst noVal)))
  (hdone : ∀ (L : List Nat) (st : ASt), enabled ops L = [] → J L st → Q .normal st) (hds : dstsOk g.N.n ops = true) (hed : edgesOk ops = true) : ∀ (fuel : Nat) (L : List Nat) (listed : Array Bool) (st : ASt), (∀ i, i < ops.length → (isOn listed i ↔ i ∈ L)) → Lst ops listed → fuel = left listed listed.size →
  J L st → ∀ c w a, SRel g.N c st w a → wpAnyIn (fenceOf g.lr) 0 g.P .any ops.toArray (APost g Q c st.H w) fuel listed a w := by
 have hen : ∀ (L : List Nat) (listed : Array Bool), (∀ i, i < ops.length → (isOn listed i ↔ i ∈ L)) → Lst ops listed → ∀ i ∈ Region.ready .any ops.toArray listed, i ∈ enabled ops L := fun L listed hon hl i hi => by
  obtain ⟨h1, h2, h3, _⟩ := hl.ready hi
  refine List.mem_filter.2 ⟨List.mem_range.2 h1, ?_⟩
  rw [List.getElem?_eq_getElem h1]
  simp only [Bool.and_eq_true, Bool.not_eq_true', List.all_eq_true]
  refine ⟨?_, fun e he => ?_⟩
  ·have : ¬ i ∈ L := fun h => h2 ((hon i h1).2 h)
   simpa using this
  ·have hoe := h3 _ (List.getElem?_eq_getElem h1) e he
   have hlt : e < i := by
    have := allLt_spec hed i h1
    rw [List.getElem?_eq_getElem h1] at this
    simpa using List.all_eq_true.1 this e he
   simpa using (hon e (by omega)).1 hoe
 intro fuel
 induction fuel with
 | zero =>
  intro L listed st hon hl hf hJ c w a hs
  have hall : ∀ i, i < ops.length → isOn listed i := fun i hi => by
   rcases Classical.em (isOn listed i) with h' | h'
   ·exact h'
   ·have := left_set (by rw [hl.size]; exact hi) h'
    omega
  have hnil : enabled ops L = [] := by
   apply List.eq_nil_iff_forall_not_mem.2
   intro i hi
   have h1 := enabled_lt hi
   have h2 := (List.mem_filter.1 hi).2
   have h3 := (hon i h1).1 (hall i h1)
   simp [h3] at h2
  refine ⟨?_, .normal, st, c, hdone L st hnil hJ, .normal, hs, .refl _ _ _ _⟩
  apply List.eq_nil_iff_forall_not_mem.2
  intro i hi
  obtain ⟨h1, h2, _⟩ := hl.ready hi
  exact h2 (hall i h1)
 | succ fuel ih =>
  intro L listed st hon hl hf hJ c w a hs
  refine ⟨fun hnil => ?_, fun i hi => ?_⟩
  ·exfalso
   have hall : ∀ i, i < ops.length → isOn listed i := fun i hi => by
    rcases Classical.em (isOn listed i) with h' | h'
    ·exact h'
    ·exact absurd hnil (hl.some_ready' hed hi h')
   have := left_eq (listed := listed) (m := ops.length) (n := ops.length) (Nat.le_refl _) (fun i hi => ⟨fun _ => hi, fun _ => hall i hi⟩)
   rw [hl.size] at hf
   omega
  ·have hie := hen L listed hon hl i hi
   obtain ⟨h1, h2, _, _⟩ := hl.ready hi
   have hoat : ops[i]? = some ops[i] := List.getElem?_eq_getElem h1
   generalize ops[i] = o at hoat
   have hw := hstep L st i o hie hoat hJ
   have hl' := hl.set hi
   have hon' : ∀ j, j < ops.length → (isOn (listed.setIfInBounds i true) j ↔ j ∈ i :: L) := fun j hj => by
    rw [isOn_set (by rw [hl.size]; exact h1), hon j hj]
    simp [eq_comm]
   have hfuel : fuel = left (listed.setIfInBounds i true) (listed.setIfInBounds i true).size := by
    have := left_set (by rw [hl.size]; exact h1) h2
    simp; omega
   have hd1 : ∀ d, o.dst = some d → d < g.N.n := fun d e => by
    unfold dstsOk at hds
    rw [List.all_eq_true] at hds
    have := hds o (List.mem_iff_getElem?.2 ⟨_, hoat⟩)
    rw [e] at this
    simpa using this
   unfold wpOpIn
   have hoa : ops.toArray[i]? = some o := by simpa using hoat
   simp only [hoa]
   rcases wantW_elim hs hw with ⟨hwn, hr⟩ | ⟨hwn, hr⟩
   ·rw [if_pos hwn]
    obtain ⟨K, hrK, hKJ⟩ := hr
    refine opW_ok hd1 hrK c w a _ _ hs ?_ ?_
    ·intro st' c' a' w' hK hs' ht _
     replace hK := hKJ st' hK
     have := ih (i :: L) _ st' hon' hl' hfuel hK c' w' a' hs'
     exact any_tail.wpAny_mono (fun e a2 w2 hp => hp.back ht) this
    ·intro v v' st' c' a' w' hKp hv hs' ht
     exact ⟨.panic v, st', c', hKp, .panic hv, hs', ht⟩
   ·rw [if_neg (by rw [hwn]; simp)]
    refine ⟨about_any g.lr, ?_⟩
    have hs' : SRel g.N c (st.put o.dst noVal) w (a.put o.dst undef) := hs.put hd1 (.tuple .nil)
    have := ih (i :: L) _ (st.put o.dst noVal) hon' hl' hfuel hr c w _ hs'
    rw [put_H] at this
    exact this
/-- A drawing region by an invariant over what was done. -/
theorem AWP.regionI {g : Cfg} {Q : AExit → ASt → Prop} {st : ASt} {id : Nat} {ops : List Oper} (J : List Nat → ASt → Prop) (hm : g.P.follows .mixedOrders = true) (hok : (dstsOk g.N.n ops && edgesOk ops) = true) (h0 : J [] st)
  (hstep : ∀ (L : List Nat) (st : ASt) (j : Nat) (o : Oper), j ∈ enabled ops L → ops[j]? = some o → J L st → wantW ops o st (∃ K : ASt → Prop, opW g o st K (fun v st' => Q (.panic v) st') ∧ ∀ st', K st' → J (j :: L) st') (J (j :: L) (st.put o.dst noVal)))
  (hdone : ∀ (L : List Nat) (st : ASt), enabled ops L = [] → J L st → Q .normal st) : AWP g (.region id ops.toArray true) Q st := by
 intro c w a hs
 rw [Bool.and_eq_true] at hok
 obtain ⟨hds, hed⟩ := hok
 refine wpIn_region_any hm ?_
 obtain ⟨hh, ht⟩ := hs.heap.drew g.n0
 have hs' : SRel g.N c st w.drew a := ⟨hh, hs.size, hs.tmps, hs.defs.step (n := g.n0) (Ctx.le_refl c) ht⟩
 have := inv_run J hstep hdone hds hed ops.length [] (Array.replicate ops.length false) st ?_ ?_ ?_ h0 c w.drew a hs'
 ·have := any_tail.wpAny_mono (fun e a2 w2 hp => hp.back ht) this
  simpa using this
 ·intro i hi
  exact ⟨fun h => absurd h (not_isOn_replicate _ _), fun h => by cases h⟩
 ·refine ⟨by simp, fun j o ho hj => ?_⟩
  exact absurd hj (not_isOn_replicate _ _)
 ·have := left_eq (listed := Array.replicate ops.length false) (m := 0) (n := ops.length) (Nat.zero_le _) (fun i hi => ⟨fun h => absurd h (not_isOn_replicate _ _), fun h => by omega⟩)
  simpa using this.symm
theorem enabled_spec {ops : List Oper} {L : List Nat} {j : Nat} {o : Oper} (h : j ∈ enabled ops L) (ho : ops[j]? = some o) : j ∉ L ∧ ∀ e ∈ binding o, e ∈ L := by
 have := (List.mem_filter.1 h).2
 rw [ho] at this
 simp only [Bool.and_eq_true, Bool.not_eq_true', List.all_eq_true] at this
 refine ⟨fun hm => ?_, fun e he => ?_⟩
 ·have h1 := this.1
  rw [List.contains_eq_mem, decide_eq_false_iff_not] at h1
  exact h1 hm
 ·have h1 := this.2 e he
  rw [List.contains_eq_mem, decide_eq_true_eq] at h1
  exact h1
theorem enabled_nil {ops : List Oper} (hed : edgesOk ops = true) {L : List Nat} (h : enabled ops L = []) : ∀ i, i < ops.length → i ∈ L := by
 intro i hi
 rcases Classical.em (i ∈ L) with h' | h'
 ·exact h'
 obtain ⟨k, ⟨hk1, hk2⟩, hmin⟩ := least (p := fun k => k < ops.length ∧ ¬ k ∈ L) ⟨i, hi, h'⟩
 have : k ∈ enabled ops L := by
  refine List.mem_filter.2 ⟨List.mem_range.2 hk1, ?_⟩
  rw [List.getElem?_eq_getElem hk1]
  simp only [Bool.and_eq_true, Bool.not_eq_true', List.all_eq_true]
  refine ⟨by rw [List.contains_eq_mem, decide_eq_false_iff_not]; exact hk2, fun e he => ?_⟩
  rw [List.contains_eq_mem, decide_eq_true_eq]
  have hlt : e < k := by
   have := allLt_spec hed k hk1
   rw [List.getElem?_eq_getElem hk1] at this
   simpa using List.all_eq_true.1 this e he
  rcases Classical.em (e ∈ L) with h3 | h3
  ·exact h3
  ·have := hmin e ⟨by omega, h3⟩
   omega
 rw [h] at this
 cases this
/-- The operations of a list, one by one. -/
def eachW (P : Nat → Oper → Prop) : Nat → List Oper → Prop
 | _, [] => True
 | k, o :: r => P k o ∧ eachW P (k + 1) r
theorem eachW_get {P : Nat → Oper → Prop} : ∀ (l : List Oper) (k : Nat), eachW P k l → ∀ (j : Nat) (o : Oper), l[j]? = some o → P (k + j) o
 | [], k, _, j, o, h => by simp at h
 | x :: l, k, h, 0, o, ho => by cases ho; exact h.1
 | x :: l, k, h, j + 1, o, ho => by
  have := eachW_get l (k + 1) h.2 j o (by simpa using ho)
  rwa [show k + 1 + j = k + (j + 1) by omega] at this
/-- What an operation of such a region leaves. -/
def RPost (ops : List Oper) (sp : Nat → Option Nat) (B : List (Nat × Value) → AHeap → Prop) (R : Nat → List (Nat × Value) → AHeap → Prop) (j : Nat) (E : List (Nat × Value)) (H : AHeap) (s : ASt) : Prop :=
 s.defs = [] ∧ B s.env s.H ∧ R j s.env s.H ∧ ∀ i oi, ops[i]? = some oi → i ≠ j → sp i ≠ some j → j ∉ binding oi → R i E H → R i s.env s.H
/-- A drawing region without guards: what each operation brings (R) lasts through the others, but where it is spent by one (sp); B is what lasts through all. -/
theorem AWP.regionR {g : Cfg} {Q : AExit → ASt → Prop} {env : List (Nat × Value)} {H : AHeap} {id : Nat} {ops : List Oper} (sp : Nat → Option Nat) (B : List (Nat × Value) → AHeap → Prop) (R : Nat → List (Nat × Value) → AHeap → Prop)
  (hm : g.P.follows .mixedOrders = true) (hok : (dstsOk g.N.n ops && edgesOk ops) = true) (hng : ops.all (fun o => o.guard.isNone) = true) (h0 : B env H)
  (hstep : eachW (fun j o => ∀ E H, B E H → (∀ e ∈ binding o, sp e = none ∨ sp e = some j → R e E H) → opW g o ⟨E, [], H⟩ (RPost ops sp B R j E H) (fun v s => Q (.panic v) s)) 0 ops)
  (hdone : ∀ E H, B E H → (∀ i, i < ops.length → sp i = none → R i E H) → Q .normal ⟨E, [], H⟩) : AWP g (.region id ops.toArray true) Q ⟨env, [], H⟩ := by
 refine AWP.regionI (fun L st => st.defs = [] ∧ B st.env st.H ∧ ∀ i ∈ L, (∃ oi, ops[i]? = some oi ∧ ∀ e ∈ binding oi, e ∈ L) ∧ ((∃ j ∈ L, sp i = some j) ∨ R i st.env st.H)) hm hok ⟨rfl, h0, fun i hi => by cases hi⟩ ?_ ?_
 ·rintro L ⟨E, ds, H1⟩ j o hj ho ⟨rfl, hB, hL⟩
  dsimp only at hB hL
  obtain ⟨hjL, hbd⟩ := enabled_spec hj ho
  have hjl := enabled_lt hj
  have hg : o.guard = none := by
   have := List.all_eq_true.1 hng o (List.mem_of_getElem? ho)
   simpa using this
  have hs := eachW_get ops 0 hstep j o ho
  rw [Nat.zero_add] at hs
  have hw := hs E H1 hB (fun e he hse => by
   have := hL e (hbd e he)
   rcases this.2 with ⟨j', hj', hsp⟩ | h
   ·rcases hse with h | h
    ·rw [h] at hsp; cases hsp
    ·rw [h] at hsp
     cases hsp
     exact absurd hj' hjL
   ·exact h)
  unfold wantW
  rw [hg]
  refine ⟨_, hw, ?_⟩
  rintro s ⟨h1, h2, h3, h4⟩
  refine ⟨h1, h2, fun i hi => ?_⟩
  rcases List.mem_cons.1 hi with rfl | hi
  ·exact ⟨⟨o, ho, fun e he => List.mem_cons_of_mem _ (hbd e he)⟩, .inr h3⟩
  ·have hiL := hL i hi
   obtain ⟨oi, hoi, hib⟩ := hiL.1
   refine ⟨⟨oi, hoi, fun e he => List.mem_cons_of_mem _ (hib e he)⟩, ?_⟩
   have hij : i ≠ j := fun e => hjL (e ▸ hi)
   by_cases hsp : sp i = some j
   ·exact .inl ⟨j, List.mem_cons_self .., hsp⟩
   ·rcases hiL.2 with ⟨j', hj', h⟩ | h
    ·exact .inl ⟨j', List.mem_cons_of_mem _ hj', h⟩
    ·exact .inr (h4 i oi hoi hij hsp (fun h => hjL (hib j h)) h)
 ·rintro L ⟨E, ds, H1⟩ hnil ⟨rfl, hB, hL⟩
  rw [Bool.and_eq_true] at hok
  refine hdone E H1 hB fun i hi hsp => ?_
  rcases (hL i (enabled_nil hok.2 hnil i hi)).2 with ⟨j', _, h⟩ | h
  ·rw [hsp] at h; cases h
  ·exact h
end Go.Aw


set_option linter.unusedVariables false
set_option linter.unusedSimpArgs false
namespace Go.Aw
open Go.RowKit Go.ChangeShapes Go.WideShapes Go.ChangeAt
inductive FK where
 | i (k : IntKind)
 | s
 | b
def FK.fits (bnd : Nat) : FK → Value → Prop
 | .i k, v => ∃ z, v = .int k z ∧ (Lit.int k z).wf = true
 | .s, v => ∃ s : List UInt8, v = .string (bs s) ∧ s.length ≤ bnd
 | .b, v => ∃ c : Bool, v = .bool c
inductive Fits (bnd : Nat) : List FK → List Value → Prop
 | nil : Fits bnd [] []
 | cons {k : FK} {v : Value} {ks : List FK} {vs : List Value} : k.fits bnd v → Fits bnd ks vs → Fits bnd (k :: ks) (v :: vs)
theorem Fits.append {bnd : Nat} : ∀ {ks : List FK} {vs : List Value} {ks' : List FK} {vs' : List Value}, Fits bnd ks vs → Fits bnd ks' vs' → Fits bnd (ks ++ ks') (vs ++ vs')
 | _, _, _, _, .nil, h => h
 | _, _, _, _, .cons a b, h => .cons a (Fits.append b h)
theorem Fits.len {bnd : Nat} : ∀ {ks : List FK} {vs : List Value}, Fits bnd ks vs → vs.length = ks.length
 | _, _, .nil => rfl
 | _, _, .cons a b => by simp [Fits.len b]
theorem FK.fits_scalar {bnd : Nat} {k : FK} {v : Value} (h : k.fits bnd v) : scalar v = true := by
 cases k <;> (unfold FK.fits at h; obtain ⟨_, h⟩ := h; first | (obtain ⟨rfl, _⟩ := h; rfl) | (subst h; rfl))
theorem Fits.scalar {bnd : Nat} : ∀ {ks : List FK} {vs : List Value}, Fits bnd ks vs → vs.all Go.Aw.scalar = true
 | _, _, .nil => rfl
 | _, _, .cons a b => by rw [List.all_cons, FK.fits_scalar a, Fits.scalar b]; rfl
end Go.Aw

