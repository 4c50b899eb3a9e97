/-
  The abstract memory and the walk of code over it, part 3.
-/
import Derived.Test.YtoikchnpflnehaaAwB
set_option linter.unusedVariables false
set_option linter.unusedSimpArgs false
namespace Go.Aw
section
variable {g : Cfg} {Q : AExit → ASt → Prop} {n : Nat}
theorem any_frontP {ops l t : List Oper} (he : ops = l ++ t) (hok : AnyOk g.N.n ops l.length) {E : ASt} (P : Nat → Prop)
    (hst : ∀ (i : Nat) o, P i → l[i]? = some o → ∃ v, stepW g ops o E v ∧ ∀ d, o.dst = some d → lk d E.env = some v)
    (hK : regionW g ops t E (fun st' => Q .normal st') (fun v st' => Q (.panic v) st')) :
    ∀ (fuel : Nat) (listed : Array Bool) (c : Ctx) (w : World) (a : Act), Lst ops listed → fuel = left listed listed.size → (∀ i, l.length ≤ i → i < ops.length → ¬ isOn listed i) → (∀ i, i < l.length → ¬ isOn listed i → P i) → Mid g l E listed c w a →
      wpAnyIn (fenceOf g.lr) 0 g.P .any ops.toArray (APost g Q c E.H w) fuel listed a w := by
  have hlen : ops.length = l.length + t.length := by rw [he]; simp
  have hdone : ∀ (listed : Array Bool) (c : Ctx) (w : World) (a : Act), Lst ops listed → (∀ i, l.length ≤ i → i < ops.length → ¬ isOn listed i) → Mid g l E listed c w a → (∀ i, i < l.length → isOn listed i) →
      wpAnyIn (fenceOf g.lr) 0 g.P .any ops.toArray (APost g Q c E.H w) (left listed listed.size) listed a w := by
    intro listed c w a hl hno hm hall
    have hon : ∀ i, i < ops.length → (isOn listed i ↔ i < l.length) := fun i hi => by
      rcases Nat.lt_or_ge i l.length with h' | h'
      · exact ⟨fun _ => h', fun _ => hall i h'⟩
      · exact ⟨fun h => absurd h (hno i h' hi), fun h => by omega⟩
    refine any_tail hok t l listed _ E he (Nat.le_refl _) hl hon ?_ hK c w a (hm.toS hall)
    rw [hl.size, left_eq (m := l.length) (by omega) hon]; omega
  intro fuel
  induction fuel with
  | zero =>
    intro listed c w a hl hf hno hP hm
    by_cases hall : ∀ i, i < l.length → isOn listed i
    · have := hdone listed c w a hl hno hm hall
      rwa [← hf] at this
    · exfalso
      apply hall
      intro i hi
      rcases Classical.em (isOn listed i) with h' | h'
      · exact h'
      · have := left_set (by rw [hl.size]; omega) h'
        omega
  | succ fuel ih =>
    intro listed c w a hl hf hno hP hm
    by_cases hall : ∀ i, i < l.length → isOn listed i
    · have := hdone listed c w a hl hno hm hall
      rwa [← hf] at this
    · refine ⟨fun hnil => ?_, fun i hi => ?_⟩
      · apply absurd hall
        intro hall
        apply hall
        intro i hi
        rcases Classical.em (isOn listed i) with h' | h'
        · exact h'
        · exact absurd hnil (hl.some_ready hok (by omega) h')
      · obtain ⟨h1, h2, _, h4⟩ := hl.ready hi
        have hil : i < l.length := by
          rcases Nat.lt_or_ge i l.length with h' | h'
          · exact h'
          · exact absurd (fun j hj => h4 j (hok.tail j i h' h1 (by omega))) hall
        have hoat : l[i]? = some l[i] := List.getElem?_eq_getElem hil
        generalize l[i] = o at hoat
        have hops : ops[i]? = some o := by rw [he, List.getElem?_append_left hil, hoat]
        obtain ⟨v, hs, hlk⟩ := hst i o (hP i hil h2) hoat
        have hd1 : ∀ d, o.dst = some d → d < g.N.n := fun d e => by
          have := hok.dsts
          unfold dstsOk at this
          rw [List.all_eq_true] at this
          have := this o (List.mem_iff_getElem?.2 ⟨_, hops⟩)
          rw [e] at this
          simpa using this
        have hfuel : fuel = left (listed.setIfInBounds i true) (listed.setIfInBounds i true).size := by
          have := left_set (by rw [hl.size]; exact h1) h2
          simp; omega
        have hno' : ∀ j, l.length ≤ j → j < ops.length → ¬ isOn (listed.setIfInBounds i true) j := fun j hj hj2 => by
          rw [isOn_set (by rw [hl.size]; exact h1)]
          rintro (rfl | h')
          · omega
          · exact hno j hj hj2 h'
        have hP' : ∀ j, j < l.length → ¬ isOn (listed.setIfInBounds i true) j → P j := fun j hj hn => hP j hj fun h' => hn ((isOn_set (by rw [hl.size]; exact h1)).2 (.inr h'))
        have hmid : ∀ (c' : Ctx) (a' : Act) (w' : World) (u u' : Value), c.le c' → HRel c' E.H w' → DRel g.N.B c' E.H w' E.defs a'.defers → a'.tmps = (a.put o.dst u).tmps → (∀ d, o.dst = some d → u = u' ∧ VRel c' v u') → Mid g l E (listed.setIfInBounds i true) c' w' a' := by
          intro c' a' w' u u' hle hh hdf ht hu
          refine ⟨hh, ?_, ?_, hdf⟩
          · rw [ht, ← hm.size]; cases o.dst <;> simp [Act.put]
          · intro t x e hx
            by_cases hdt : o.dst = some t
            · have := hlk t hdt
              rw [e] at this; cases this
              obtain ⟨rfl, hv⟩ := hu t hdt
              refine ⟨u, ?_, hv⟩
              rw [ht, hdt]
              simp [Act.put, hm.size, hd1 t hdt]
            · obtain ⟨x', k1, k2⟩ := hm.tmps t x e (fun j o' ho' hd' => by
                have := hx j o' ho' hd'
                rw [isOn_set (by rw [hl.size]; exact h1)] at this
                rcases this with rfl | h'
                · rw [hoat] at ho'; cases ho'; exact absurd hd' hdt
                · exact h')
              refine ⟨x', ?_, k2.mono hle⟩
              rw [ht]
              cases hd : o.dst with
              | none => simpa [Act.put] using k1
              | some d =>
                have hne : d ≠ t := fun e => hdt (by rw [hd, e])
                simp [Act.put, hne, k1]
        have hs1 : SRel g.N c (E.only ops o) w a := by
          refine ⟨hm.heap, hm.size, fun t x e => ?_, hm.defs⟩
          obtain ⟨h5, h6⟩ := lk_restrict e
          refine hm.tmps t x h6 (fun j o' ho' hd' => ?_)
          have hjl := (List.getElem?_eq_some_iff.1 ho').1
          exact h4 j (hok.reads i j o o' t hil hjl hops (by rw [he, List.getElem?_append_left hjl, ho']) hd' h5)
        unfold wpOpIn
        have hoa : ops.toArray[i]? = some o := by simpa using hops
        simp only [hoa]
        rcases wantW_elim hs1 hs with ⟨hw, hr⟩ | ⟨hw, hr⟩
        · rw [if_pos hw]
          refine opW_ok hd1 hr c w a _ _ hs1 ?_ ?_
          · rintro st' c' a' w' ⟨hH, hdf, hl'⟩ hs' ht ⟨hle, u, hu⟩
            have hm' : Mid g l E (listed.setIfInBounds i true) c' w' a' := by
              have hh := hs'.heap
              rw [hH] at hh
              have hd' := hs'.defs
              rw [hdf, hH] at hd'
              refine hmid c' a' w' u u hle hh hd' hu (fun d hd => ⟨rfl, ?_⟩)
              obtain ⟨x, k1, k2⟩ := hs'.tmps d v (hl' d hd)
              rw [hu, hd] at k1
              simp [Act.put, hm.size, hd1 d hd] at k1
              rw [k1]; exact k2
            have := ih _ c' w' a' (hl.set hi) hfuel hno' hP' hm'
            rw [hH] at ht
            exact any_tail.wpAny_mono (fun e a2 w2 hp => hp.back ht) this
          · intro v v' st' c' a' w' hKp
            exact hKp.elim
        · rw [if_neg (by rw [hw]; simp)]
          refine ⟨about_any g.lr, ?_⟩
          subst hr
          refine ih _ c w _ (hl.set hi) hfuel hno' hP' (hmid c _ w undef undef (Ctx.le_refl c) hm.heap ?_ rfl (fun d hd => ⟨rfl, .tuple .nil⟩))
          have : (a.put o.dst undef).defers = a.defers := by cases o.dst <;> rfl
          rw [this]; exact hm.defs

theorem any_frontE {ops l t : List Oper} (he : ops = l ++ t) (hok : AnyOk g.N.n ops l.length) {E : ASt} (e : Nat) (oe : Oper) (hoe : l[e]? = some oe) (hanc : ∀ i, i < e → i ∈ (ancs ops []).getD e [])
    (hst : ∀ (i : Nat) o, i ≠ e → l[i]? = some o → ∃ v, stepW g ops o E v ∧ ∀ d, o.dst = some d → lk d E.env = some v)
    (KE : ASt → Prop) (heff : oe.guard = none ∧ opW g oe (E.only ops oe) KE (fun _ _ => False))
    (hKE : ∀ s, KE s → s.defs = E.defs ∧ ∃ u, (∀ d, oe.dst = some d → lk d s.env = some u) ∧
      (∀ (i : Nat) o, e < i → l[i]? = some o → ∃ v, stepW g ops o ⟨(E.put oe.dst u).env, E.defs, s.H⟩ v ∧ ∀ d, o.dst = some d → lk d (E.put oe.dst u).env = some v) ∧
      regionW g ops t ⟨(E.put oe.dst u).env, E.defs, s.H⟩ (fun st' => Q .normal st') (fun v st' => Q (.panic v) st')) :
    ∀ (fuel : Nat) (listed : Array Bool) (c : Ctx) (w : World) (a : Act), Lst ops listed → fuel = left listed listed.size → (∀ i, l.length ≤ i → i < ops.length → ¬ isOn listed i) → ¬ isOn listed e → Mid g l E listed c w a →
      wpAnyIn (fenceOf g.lr) 0 g.P .any ops.toArray (APost g Q c E.H w) fuel listed a w := by
  have hlen : ops.length = l.length + t.length := by rw [he]; simp
  have hel := (List.getElem?_eq_some_iff.1 hoe).1
  intro fuel
  induction fuel with
  | zero =>
    intro listed c w a hl hf hno he' hm
    exfalso
    have := left_set (by rw [hl.size]; omega) he'
    omega
  | succ fuel ih =>
    intro listed c w a hl hf hno he' hm
    have hall : ¬ ∀ i, i < l.length → isOn listed i := fun h => he' (h e hel)
    refine ⟨fun hnil => ?_, fun i hi => ?_⟩
    · exact absurd hnil (hl.some_ready hok (j := e) (by omega) he')
    · obtain ⟨h1, h2, _, h4⟩ := hl.ready hi
      have hil : i < l.length := by
        rcases Nat.lt_or_ge i l.length with h' | h'
        · exact h'
        · exact absurd (fun j hj => h4 j (hok.tail j i h' h1 (by omega))) hall
      by_cases hie : i = e
      · subst hie
        have hops : ops[i]? = some oe := by rw [he, List.getElem?_append_left hil, hoe]
        have hd1 : ∀ d, oe.dst = some d → d < g.N.n := fun d e => by
          have := hok.dsts
          unfold dstsOk at this
          rw [List.all_eq_true] at this
          have := this oe (List.mem_iff_getElem?.2 ⟨_, hops⟩)
          rw [e] at this
          simpa using this
        have hfuel : fuel = left (listed.setIfInBounds i true) (listed.setIfInBounds i true).size := by
          have := left_set (by rw [hl.size]; exact h1) h2
          simp; omega
        have hno' : ∀ j, l.length ≤ j → j < ops.length → ¬ isOn (listed.setIfInBounds i true) j := fun j hj hj2 => by
          rw [isOn_set (by rw [hl.size]; exact h1)]
          rintro (rfl | h')
          · omega
          · exact hno j hj hj2 h'
        have hs1 : SRel g.N c (E.only ops oe) w a := by
          refine ⟨hm.heap, hm.size, fun t x e => ?_, hm.defs⟩
          obtain ⟨h5, h6⟩ := lk_restrict e
          refine hm.tmps t x h6 (fun j o' ho' hd' => ?_)
          have hjl := (List.getElem?_eq_some_iff.1 ho').1
          exact h4 j (hok.reads i j oe o' t hil hjl hops (by rw [he, List.getElem?_append_left hjl, ho']) hd' h5)
        unfold wpOpIn
        have hoa : ops.toArray[i]? = some oe := by simpa using hops
        simp only [hoa]
        have hr : wantW ops oe (E.only ops oe) (opW g oe (E.only ops oe) KE (fun _ _ => False)) False := by
          unfold wantW; rw [heff.1]; exact heff.2
        rcases wantW_elim hs1 hr with ⟨hw, hr⟩ | ⟨hw, hr⟩
        · rw [if_pos hw]
          refine opW_ok hd1 hr c w a _ _ hs1 ?_ ?_
          · rintro s c' a' w' hks hs' ht ⟨hle, x, hx⟩
            obtain ⟨hdf, u, hu, hq, hK⟩ := hKE s hks
            have hm' : Mid g l ⟨(E.put oe.dst u).env, E.defs, s.H⟩ (listed.setIfInBounds i true) c' w' a' := by
              refine ⟨hs'.heap, hs'.size, fun t v e hon => ?_, by have := hs'.defs; rwa [hdf] at this⟩
              by_cases hdt : oe.dst = some t
              · have e2 : lk t (E.put oe.dst u).env = some u := by rw [put_lk, if_pos hdt]
                rw [e2] at e; cases e
                obtain ⟨y, k1, k2⟩ := hs'.tmps t u (hu t hdt)
                exact ⟨y, k1, k2⟩
              · have e2 : lk t E.env = some v := by rw [put_lk, if_neg hdt] at e; exact e
                obtain ⟨y, k1, k2⟩ := hm.tmps t v e2 (fun j o' ho' hd' => by
                  have := hon j o' ho' hd'
                  rw [isOn_set (by rw [hl.size]; exact h1)] at this
                  rcases this with rfl | h'
                  · rw [hoe] at ho'; cases ho'; exact absurd hd' hdt
                  · exact h')
                refine ⟨y, ?_, k2.mono hle⟩
                rw [hx]
                cases hd : oe.dst with
                | none => simpa [Act.put] using k1
                | some d =>
                  have hne : d ≠ t := fun e => hdt (by rw [hd, e])
                  simp [Act.put, hne, k1]
            have := any_frontP (Q := Q) he hok (fun j => i < j) (fun j o hj ho => hq j o hj ho) hK fuel _ c' w' a' (hl.set hi) hfuel hno' (fun j hj hn => by
              rcases Nat.lt_trichotomy j i with h' | h' | h'
              · exact absurd ((isOn_set (by rw [hl.size]; exact h1)).2 (.inr (h4 j (hanc j h')))) hn
              · exact absurd ((isOn_set (by rw [hl.size]; exact h1)).2 (.inl h'.symm)) hn
              · exact h') hm'
            exact any_tail.wpAny_mono (fun e a2 w2 hp => hp.back ht) this
          · intro v v' st' c' a' w' hKp
            exact hKp.elim
        · exact hr.elim
      have hoat : l[i]? = some l[i] := List.getElem?_eq_getElem hil
      generalize l[i] = o at hoat
      have hops : ops[i]? = some o := by rw [he, List.getElem?_append_left hil, hoat]
      obtain ⟨v, hs, hlk⟩ := hst i o hie hoat
      have hd1 : ∀ d, o.dst = some d → d < g.N.n := fun d e => by
        have := hok.dsts
        unfold dstsOk at this
        rw [List.all_eq_true] at this
        have := this o (List.mem_iff_getElem?.2 ⟨_, hops⟩)
        rw [e] at this
        simpa using this
      have hfuel : fuel = left (listed.setIfInBounds i true) (listed.setIfInBounds i true).size := by
        have := left_set (by rw [hl.size]; exact h1) h2
        simp; omega
      have hno' : ∀ j, l.length ≤ j → j < ops.length → ¬ isOn (listed.setIfInBounds i true) j := fun j hj hj2 => by
        rw [isOn_set (by rw [hl.size]; exact h1)]
        rintro (rfl | h')
        · omega
        · exact hno j hj hj2 h'
      -- the temporaries behind the operation
      have hmid : ∀ (c' : Ctx) (a' : Act) (w' : World) (u u' : Value), c.le c' → HRel c' E.H w' → DRel g.N.B c' E.H w' E.defs a'.defers → a'.tmps = (a.put o.dst u).tmps → (∀ d, o.dst = some d → u = u' ∧ VRel c' v u') → Mid g l E (listed.setIfInBounds i true) c' w' a' := by
        intro c' a' w' u u' hle hh hdf ht hu
        refine ⟨hh, ?_, ?_, hdf⟩
        · rw [ht, ← hm.size]; cases o.dst <;> simp [Act.put]
        · intro t x e hx
          by_cases hdt : o.dst = some t
          · have := hlk t hdt
            rw [e] at this; cases this
            obtain ⟨rfl, hv⟩ := hu t hdt
            refine ⟨u, ?_, hv⟩
            rw [ht, hdt]
            simp [Act.put, hm.size, hd1 t hdt]
          · obtain ⟨x', k1, k2⟩ := hm.tmps t x e (fun j o' ho' hd' => by
              have := hx j o' ho' hd'
              rw [isOn_set (by rw [hl.size]; exact h1)] at this
              rcases this with rfl | h'
              · rw [hoat] at ho'; cases ho'; exact absurd hd' hdt
              · exact h')
            refine ⟨x', ?_, k2.mono hle⟩
            rw [ht]
            cases hd : o.dst with
            | none => simpa [Act.put] using k1
            | some d =>
              have hne : d ≠ t := fun e => hdt (by rw [hd, e])
              simp [Act.put, hne, k1]
      have hs1 : SRel g.N c (E.only ops o) w a := by
        refine ⟨hm.heap, hm.size, fun t x e => ?_, hm.defs⟩
        obtain ⟨h5, h6⟩ := lk_restrict e
        refine hm.tmps t x h6 (fun j o' ho' hd' => ?_)
        have hjl := (List.getElem?_eq_some_iff.1 ho').1
        exact h4 j (hok.reads i j o o' t hil hjl hops (by rw [he, List.getElem?_append_left hjl, ho']) hd' h5)
      unfold wpOpIn
      have hoa : ops.toArray[i]? = some o := by simpa using hops
      simp only [hoa]
      rcases wantW_elim hs1 hs with ⟨hw, hr⟩ | ⟨hw, hr⟩
      · rw [if_pos hw]
        refine opW_ok hd1 hr c w a _ _ hs1 ?_ ?_
        · rintro st' c' a' w' ⟨hH, hdf, hl'⟩ hs' ht ⟨hle, u, hu⟩
          have hm' : Mid g l E (listed.setIfInBounds i true) c' w' a' := by
            have hh := hs'.heap
            rw [hH] at hh
            have hd' := hs'.defs
            rw [hdf, hH] at hd'
            refine hmid c' a' w' u u hle hh hd' hu (fun d hd => ⟨rfl, ?_⟩)
            obtain ⟨x, k1, k2⟩ := hs'.tmps d v (hl' d hd)
            rw [hu, hd] at k1
            simp [Act.put, hm.size, hd1 d hd] at k1
            rw [k1]; exact k2
          have := ih _ c' w' a' (hl.set hi) hfuel hno' (fun h' => by rcases (isOn_set (by rw [hl.size]; exact h1)).1 h' with h' | h'; exact hie h'; exact he' h') hm'
          rw [hH] at ht
          exact any_tail.wpAny_mono (fun e a2 w2 hp => hp.back ht) this
        · intro v v' st' c' a' w' hKp
          exact hKp.elim
      · rw [if_neg (by rw [hw]; simp)]
        refine ⟨about_any g.lr, ?_⟩
        subst hr
        refine ih _ c w _ (hl.set hi) hfuel hno' (fun h' => by rcases (isOn_set (by rw [hl.size]; exact h1)).1 h' with h' | h'; exact hie h'; exact he' h') (hmid c _ w undef undef (Ctx.le_refl c) hm.heap ?_ rfl (fun d hd => ⟨rfl, .tuple .nil⟩))
        have : (a.put o.dst undef).defers = a.defers := by cases o.dst <;> rfl
        rw [this]; exact hm.defs


def dstV (o : Oper) (s : ASt) : Option Value := match o.dst with | none => some noVal | some d => lk d s.env
/-- What was read before the call would be read behind it. -/
def keepW (g : Cfg) (ops : List Oper) : List Oper → ASt → Prop
  | [], _ => True
  | o :: r, E => (match o.dst with | none => False | some d => wth (lk d E.env) fun v => stepW g ops o E v) ∧ keepW g ops r E
theorem keepW_elim {ops : List Oper} {E : ASt} : ∀ {l : List Oper}, keepW g ops l E → ∀ o ∈ l, ∃ d v, o.dst = some d ∧ lk d E.env = some v ∧ stepW g ops o E v
  | [], _, o, ho => by cases ho
  | p :: r, ⟨h1, h2⟩, o, ho => by
    rcases List.mem_cons.1 ho with rfl | ho
    · cases hd : o.dst with
      | none => rw [hd] at h1; exact h1.elim
      | some d =>
        rw [hd] at h1
        obtain ⟨v, k1, k2⟩ := wth_elim h1
        exact ⟨d, v, rfl, k1, k2⟩
    · exact keepW_elim h2 o ho
def effOk (ops : List Oper) (k e : Nat) : Bool :=
  decide (e < k) && (allLt e fun i => ((ancs ops []).getD e []).contains i) &&
  (match ops[e]? with
  | none => false
  | some oe => oe.guard.isNone && allLt k fun i => decide (i = e) || (match ops[i]?, oe.dst with
    | some o, some d => !(reads ops o).contains d
    | _, _ => true))

theorem AWP.regionE {st : ASt} {id : Nat} {ops : List Oper} (k e : Nat) {oe : Oper} (hm : g.P.follows .mixedOrders = true) (hk : k ≤ ops.length) (hok : anyOk g.N.n ops k = true) (hee : effOk ops k e = true) (hoe : ops[e]? = some oe)
    (h : quietW g ops (ops.take e ++ (ops.take k).drop (e + 1)) st (fun E => opW g oe (E.only ops oe) (fun s => s.defs = E.defs ∧ wth (dstV oe s) fun u =>
      keepW g ops ((ops.take k).drop (e + 1)) ⟨(E.put oe.dst u).env, E.defs, s.H⟩ ∧ regionW g ops (ops.drop k) ⟨(E.put oe.dst u).env, E.defs, s.H⟩ (fun st' => Q .normal st') (fun v st' => Q (.panic v) st')) (fun _ _ => False))) :
    AWP g (.region id ops.toArray true) Q st := by
  intro c w a hs
  have hok := AnyOk.of hok
  unfold effOk at hee
  simp only [Bool.and_eq_true, decide_eq_true_eq, hoe] at hee
  obtain ⟨⟨hek, hanc⟩, hgd, hrd⟩ := hee
  have hanc' : ∀ i, i < e → i ∈ (ancs ops []).getD e [] := fun i hi => by simpa using allLt_spec hanc i hi
  have hrd' : ∀ i o d, i < k → i ≠ e → ops[i]? = some o → oe.dst = some d → ¬ d ∈ reads ops o := fun i o d hi hie ho hd hmem => by
    have := allLt_spec hrd i hi
    rw [ho, hd] at this
    simp [hie, hmem] at this
  let l := ops.take k
  let t := ops.drop k
  have hlt : ops = l ++ t := (List.take_append_drop k ops).symm
  have hll : l.length = k := by simp [l]; omega
  have hlops : ∀ i o, l[i]? = some o → ops[i]? = some o ∧ i < k := fun i o ho => by
    have hi := (List.getElem?_eq_some_iff.1 ho).1
    rw [hlt, List.getElem?_append_left hi]; exact ⟨ho, by omega⟩
  have hopsl : ∀ i, i < k → l[i]? = ops[i]? := fun i hi => List.getElem?_take_of_lt hi
  let lq := ops.take e ++ l.drop (e + 1)
  have hle : (ops.take e).length = e := by simp; omega
  have hqlen : lq.length = k - 1 := by simp [lq]; omega
  let up : Nat → Nat := fun m => if m < e then m else m + 1
  have hup : ∀ m o, lq[m]? = some o → ops[up m]? = some o ∧ up m < k ∧ up m ≠ e := fun m o hmo => by
    have hml := (List.getElem?_eq_some_iff.1 hmo).1
    by_cases hme : m < e
    · have : up m = m := if_pos hme
      rw [this]
      simp only [lq] at hmo
      rw [List.getElem?_append_left (by omega), List.getElem?_take_of_lt hme] at hmo
      exact ⟨hmo, by omega, by omega⟩
    · have : up m = m + 1 := if_neg hme
      rw [this]
      simp only [lq] at hmo
      rw [List.getElem?_append_right (by omega), hle, List.getElem?_drop] at hmo
      have e2 : e + 1 + (m - e) = m + 1 := by omega
      rw [e2] at hmo
      exact ⟨(hlops _ _ hmo).1, by omega, by omega⟩
  have hdn : ∀ i o, i ≠ e → l[i]? = some o → ∃ m, lq[m]? = some o ∧ up m = i := fun i o hie ho => by
    have hi := (hlops i o ho)
    by_cases h' : i < e
    · refine ⟨i, ?_, if_pos h'⟩
      simp only [lq]
      rw [List.getElem?_append_left (by omega), List.getElem?_take_of_lt h']; exact hi.1
    · refine ⟨i - 1, ?_, ?_⟩
      · simp only [lq]
        rw [List.getElem?_append_right (by omega), hle, List.getElem?_drop]
        rw [show e + 1 + (i - 1 - e) = i by omega]; exact ho
      · show (if i - 1 < e then i - 1 else i - 1 + 1) = i
        rw [if_neg (by omega)]; omega
  have hupmono : ∀ m m', up m < up m' → m < m' := fun m m' h' => by
    simp only [up] at h'
    split at h' <;> split at h' <;> omega
  have hupinj : ∀ m m', up m = up m' → m = m' := fun m m' h' => by
    simp only [up] at h'
    split at h' <;> split at h' <;> omega
  obtain ⟨vs, hvl0, hK, hst⟩ := quietW_elim h
  have hvl : vs.length = lq.length := hvl0
  have hH : (puts lq vs st).H = st.H := puts_H lq vs st
  have hD : (puts lq vs st).defs = st.defs := puts_defs lq vs st
  have huniq : ∀ (m : Nat) (p : Oper) (d : Tmp), lq[m]? = some p → p.dst = some d → ∀ (m' : Nat) o', lq[m']? = some o' → o'.dst = some d → m' = m := fun m p d hm hp m' o' hm' hd' => by
    obtain ⟨a1, a2, _⟩ := hup m p hm
    obtain ⟨b1, b2, _⟩ := hup m' o' hm'
    exact hupinj _ _ (hok.apart _ _ o' p d b2 a2 b1 a1 hp hd')
  refine wpIn_region_any hm ?_
  obtain ⟨hh, ht⟩ := hs.heap.drew g.n0
  have := any_frontE (g := g) (Q := Q) (ops := ops) (l := l) (t := t) hlt (by rw [hll]; exact hok) (E := puts lq vs st) e oe (by rw [hopsl e hek]; exact hoe) hanc' ?_ _ ⟨by simpa using hgd, hK⟩ ?_ ops.length (Array.replicate ops.length false) c w.drew a ?_ ?_ ?_ ?_ ?_
  · rw [hH] at this
    have := any_tail.wpAny_mono (fun e a2 w2 hp => hp.back ht) this
    simpa using this
  · intro i o hie ho
    obtain ⟨m, hmo, hum⟩ := hdn i o hie ho
    have hml := (List.getElem?_eq_some_iff.1 hmo).1
    have hv : vs[m]? = some (vs[m]'(by omega)) := List.getElem?_eq_getElem (by omega)
    generalize vs[m]'(by omega) = v at hv
    obtain ⟨a1, a2, a3⟩ := hup m o hmo
    refine ⟨v, ?_, fun d hd => ?_⟩
    · have hs1 := hst m o v hmo hv
      have : (puts (lq.take m) (vs.take m) st).only ops o = (puts lq vs st).only ops o := by
        unfold ASt.only
        rw [puts_H, puts_H, puts_defs, puts_defs, restrict_congr (e1 := (puts (lq.take m) (vs.take m) st).env) (e2 := (puts lq vs st).env)]
        intro d hd
        by_cases hex : ∃ (j : Nat) (p : Oper), lq[j]? = some p ∧ p.dst = some d
        · obtain ⟨j, p, hj, hp⟩ := hex
          have hjl := (List.getElem?_eq_some_iff.1 hj).1
          obtain ⟨b1, b2, b3⟩ := hup j p hj
          have hja := hok.reads _ _ o p d a2 b2 a1 b1 hp hd
          have hji : j < m := hupmono _ _ (anc_lt hok _ _ hja)
          have hvj : vs[j]? = some (vs[j]'(by omega)) := List.getElem?_eq_getElem (by omega)
          have hun := huniq j p d hj hp
          rw [puts_lk_some lq vs st d j p _ hj hvj hp (fun m' o' h1 h2 => hun m' o' h1 h2)]
          refine puts_lk_some _ _ st d j p _ (by rw [List.getElem?_take_of_lt hji]; exact hj) (by rw [List.getElem?_take_of_lt hji]; exact hvj) hp (fun m' o' hm' hd' => ?_)
          rw [List.getElem?_take] at hm'
          split at hm'
          · exact hun m' o' hm' hd'
          · cases hm'
        · rw [puts_lk_none lq vs st d (fun o' ho' hd' => by
            obtain ⟨j, hj⟩ := List.mem_iff_getElem?.1 ho'
            exact hex ⟨j, o', hj, hd'⟩)]
          refine puts_lk_none _ _ st d (fun o' ho' hd' => ?_)
          obtain ⟨j, hj⟩ := List.mem_iff_getElem?.1 (List.mem_of_mem_take ho')
          exact hex ⟨j, o', hj, hd'⟩
      unfold stepW at hs1 ⊢
      rw [this, puts_H, puts_defs] at hs1
      rw [hH, hD]
      exact hs1
    · exact puts_lk_some lq vs st d m o v hmo hv hd (fun m' o' h1 h2 => huniq m o d hmo hd m' o' h1 h2)
  · rintro s ⟨hdf, hu⟩
    obtain ⟨u, hu1, hkp, hr⟩ := wth_elim hu
    refine ⟨hdf, u, fun d hd => by unfold dstV at hu1; rw [hd] at hu1; exact hu1, fun i o hei ho => ?_, hr⟩
    obtain ⟨d, v, k1, k2, k3⟩ := keepW_elim hkp o (by
      refine List.mem_iff_getElem?.2 ⟨i - (e + 1), ?_⟩
      rw [List.getElem?_drop, show e + 1 + (i - (e + 1)) = i by omega]; exact ho)
    exact ⟨v, k3, fun d' hd' => by rw [k1] at hd'; cases hd'; exact k2⟩
  · refine ⟨by simp, fun j o ho hj => ?_⟩
    exact absurd hj (not_isOn_replicate _ _)
  · have := left_eq (listed := Array.replicate ops.length false) (m := 0) (n := ops.length) (Nat.zero_le _) (fun i hi => ⟨fun h => absurd h (not_isOn_replicate _ _), fun h => by omega⟩)
    simpa using this.symm
  · intro i _ hi
    exact not_isOn_replicate _ _
  · exact not_isOn_replicate _ _
  · refine ⟨by rw [hH]; exact hh, hs.size, fun t' x e' hx => ?_, ?_⟩
    · have : lk t' st.env = some x := by
        rw [← e']
        refine (puts_lk_none lq vs st t' (fun o' ho' hd' => ?_)).symm
        obtain ⟨j, hj⟩ := List.mem_iff_getElem?.1 ho'
        obtain ⟨a1, a2, _⟩ := hup j o' hj
        exact absurd (hx (up j) o' (by rw [hopsl _ a2]; exact a1) hd') (not_isOn_replicate _ _)
      exact hs.tmps t' x this
    · rw [hH, hD]
      exact hs.defs.step (n := g.n0) (Ctx.le_refl c) ht
end
end Go.Aw
