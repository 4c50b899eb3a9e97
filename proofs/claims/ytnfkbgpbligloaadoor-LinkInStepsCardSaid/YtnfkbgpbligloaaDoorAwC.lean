/-
  The abstract memory and the walk of code over it, part 3.
-/
import Derived.Test.YtnfkbgpbligloaaDoorAwB
import Derived.RecoverIn
import Derived.LoopNIn
import Derived.SliceStrings
import Derived.SizedLaws
import Derived.Lib.LaidTab
import Derived.Shelf.Strings.Repeat
set_option linter.unusedVariables false
set_option linter.unusedSimpArgs false
namespace Go.Aw
section
variable {g : Cfg} {Q : AExit → ASt → Prop} {n : Nat}
theorem any_frontP {ops l t : List Oper} (he : ops = l ++ t) (hok : AnyOk g.N.n ops l.length) {E : ASt} (P : Nat → Prop)
    (hst : ∀ (i : Nat) o, P i → l[i]? = some o → ∃ v, stepW g ops o E v ∧ ∀ d, o.dst = some d → lk d E.env = some v)
    (hK : regionW g ops t E (fun st' => Q .normal st') (fun v st' => Q (.panic v) st')) :
    ∀ (fuel : Nat) (listed : Array Bool) (c : Ctx) (w : World) (a : Act), Lst ops listed → fuel = left listed listed.size → (∀ i, l.length ≤ i → i < ops.length → ¬ isOn listed i) → (∀ i, i < l.length → ¬ isOn listed i → P i) → Mid g l E listed c w a →
      wpAnyIn (fenceOf g.lr) 0 g.P .any ops.toArray (APost g Q c E.H w) fuel listed a w := by
  have hlen : ops.length = l.length + t.length := by rw [he]; simp
  have hdone : ∀ (listed : Array Bool) (c : Ctx) (w : World) (a : Act), Lst ops listed → (∀ i, l.length ≤ i → i < ops.length → ¬ isOn listed i) → Mid g l E listed c w a → (∀ i, i < l.length → isOn listed i) →
      wpAnyIn (fenceOf g.lr) 0 g.P .any ops.toArray (APost g Q c E.H w) (left listed listed.size) listed a w := by
    intro listed c w a hl hno hm hall
    have hon : ∀ i, i < ops.length → (isOn listed i ↔ i < l.length) := fun i hi => by
      rcases Nat.lt_or_ge i l.length with h' | h'
      · exact ⟨fun _ => h', fun _ => hall i h'⟩
      · exact ⟨fun h => absurd h (hno i h' hi), fun h => by omega⟩
    refine any_tail hok t l listed _ E he (Nat.le_refl _) hl hon ?_ hK c w a (hm.toS hall)
    rw [hl.size, left_eq (m := l.length) (by omega) hon]; omega
  intro fuel
  induction fuel with
  | zero =>
    intro listed c w a hl hf hno hP hm
    by_cases hall : ∀ i, i < l.length → isOn listed i
    · have := hdone listed c w a hl hno hm hall
      rwa [← hf] at this
    · exfalso
      apply hall
      intro i hi
      rcases Classical.em (isOn listed i) with h' | h'
      · exact h'
      · have := left_set (by rw [hl.size]; omega) h'
        omega
  | succ fuel ih =>
    intro listed c w a hl hf hno hP hm
    by_cases hall : ∀ i, i < l.length → isOn listed i
    · have := hdone listed c w a hl hno hm hall
      rwa [← hf] at this
    · refine ⟨fun hnil => ?_, fun i hi => ?_⟩
      · apply absurd hall
        intro hall
        apply hall
        intro i hi
        rcases Classical.em (isOn listed i) with h' | h'
        · exact h'
        · exact absurd hnil (hl.some_ready hok (by omega) h')
      · obtain ⟨h1, h2, _, h4⟩ := hl.ready hi
        have hil : i < l.length := by
          rcases Nat.lt_or_ge i l.length with h' | h'
          · exact h'
          · exact absurd (fun j hj => h4 j (hok.tail j i h' h1 (by omega))) hall
        have hoat : l[i]? = some l[i] := List.getElem?_eq_getElem hil
        generalize l[i] = o at hoat
        have hops : ops[i]? = some o := by rw [he, List.getElem?_append_left hil, hoat]
        obtain ⟨v, hs, hlk⟩ := hst i o (hP i hil h2) hoat
        have hd1 : ∀ d, o.dst = some d → d < g.N.n := fun d e => by
          have := hok.dsts
          unfold dstsOk at this
          rw [List.all_eq_true] at this
          have := this o (List.mem_iff_getElem?.2 ⟨_, hops⟩)
          rw [e] at this
          simpa using this
        have hfuel : fuel = left (listed.setIfInBounds i true) (listed.setIfInBounds i true).size := by
          have := left_set (by rw [hl.size]; exact h1) h2
          simp; omega
        have hno' : ∀ j, l.length ≤ j → j < ops.length → ¬ isOn (listed.setIfInBounds i true) j := fun j hj hj2 => by
          rw [isOn_set (by rw [hl.size]; exact h1)]
          rintro (rfl | h')
          · omega
          · exact hno j hj hj2 h'
        have hP' : ∀ j, j < l.length → ¬ isOn (listed.setIfInBounds i true) j → P j := fun j hj hn => hP j hj fun h' => hn ((isOn_set (by rw [hl.size]; exact h1)).2 (.inr h'))
        have hmid : ∀ (c' : Ctx) (a' : Act) (w' : World) (u u' : Value), c.le c' → HRel c' E.H w' → DRel g.N.B c' E.H w' E.defs a'.defers → a'.tmps = (a.put o.dst u).tmps → (∀ d, o.dst = some d → u = u' ∧ VRel c' v u') → Mid g l E (listed.setIfInBounds i true) c' w' a' := by
          intro c' a' w' u u' hle hh hdf ht hu
          refine ⟨hh, ?_, ?_, hdf⟩
          · rw [ht, ← hm.size]; cases o.dst <;> simp [Act.put]
          · intro t x e hx
            by_cases hdt : o.dst = some t
            · have := hlk t hdt
              rw [e] at this; cases this
              obtain ⟨rfl, hv⟩ := hu t hdt
              refine ⟨u, ?_, hv⟩
              rw [ht, hdt]
              simp [Act.put, hm.size, hd1 t hdt]
            · obtain ⟨x', k1, k2⟩ := hm.tmps t x e (fun j o' ho' hd' => by
                have := hx j o' ho' hd'
                rw [isOn_set (by rw [hl.size]; exact h1)] at this
                rcases this with rfl | h'
                · rw [hoat] at ho'; cases ho'; exact absurd hd' hdt
                · exact h')
              refine ⟨x', ?_, k2.mono hle⟩
              rw [ht]
              cases hd : o.dst with
              | none => simpa [Act.put] using k1
              | some d =>
                have hne : d ≠ t := fun e => hdt (by rw [hd, e])
                simp [Act.put, hne, k1]
        have hs1 : SRel g.N c (E.only ops o) w a := by
          refine ⟨hm.heap, hm.size, fun t x e => ?_, hm.defs⟩
          obtain ⟨h5, h6⟩ := lk_restrict e
          refine hm.tmps t x h6 (fun j o' ho' hd' => ?_)
          have hjl := (List.getElem?_eq_some_iff.1 ho').1
          exact h4 j (hok.reads i j o o' t hil hjl hops (by rw [he, List.getElem?_append_left hjl, ho']) hd' h5)
        unfold wpOpIn
        have hoa : ops.toArray[i]? = some o := by simpa using hops
        simp only [hoa]
        rcases wantW_elim hs1 hs with ⟨hw, hr⟩ | ⟨hw, hr⟩
        · rw [if_pos hw]
          refine opW_ok hd1 hr c w a _ _ hs1 ?_ ?_
          · rintro st' c' a' w' ⟨hH, hdf, hl'⟩ hs' ht ⟨hle, u, hu⟩
            have hm' : Mid g l E (listed.setIfInBounds i true) c' w' a' := by
              have hh := hs'.heap
              rw [hH] at hh
              have hd' := hs'.defs
              rw [hdf, hH] at hd'
              refine hmid c' a' w' u u hle hh hd' hu (fun d hd => ⟨rfl, ?_⟩)
              obtain ⟨x, k1, k2⟩ := hs'.tmps d v (hl' d hd)
              rw [hu, hd] at k1
              simp [Act.put, hm.size, hd1 d hd] at k1
              rw [k1]; exact k2
            have := ih _ c' w' a' (hl.set hi) hfuel hno' hP' hm'
            rw [hH] at ht
            exact any_tail.wpAny_mono (fun e a2 w2 hp => hp.back ht) this
          · intro v v' st' c' a' w' hKp
            exact hKp.elim
        · rw [if_neg (by rw [hw]; simp)]
          refine ⟨about_any g.lr, ?_⟩
          subst hr
          refine ih _ c w _ (hl.set hi) hfuel hno' hP' (hmid c _ w undef undef (Ctx.le_refl c) hm.heap ?_ rfl (fun d hd => ⟨rfl, .tuple .nil⟩))
          have : (a.put o.dst undef).defers = a.defers := by cases o.dst <;> rfl
          rw [this]; exact hm.defs

theorem any_frontE {ops l t : List Oper} (he : ops = l ++ t) (hok : AnyOk g.N.n ops l.length) {E : ASt} (e : Nat) (oe : Oper) (hoe : l[e]? = some oe) (hanc : ∀ i, i < e → i ∈ (ancs ops []).getD e [])
    (hst : ∀ (i : Nat) o, i ≠ e → l[i]? = some o → ∃ v, stepW g ops o E v ∧ ∀ d, o.dst = some d → lk d E.env = some v)
    (KE : ASt → Prop) (heff : oe.guard = none ∧ opW g oe (E.only ops oe) KE (fun _ _ => False))
    (hKE : ∀ s, KE s → s.defs = E.defs ∧ ∃ u, (∀ d, oe.dst = some d → lk d s.env = some u) ∧
      (∀ (i : Nat) o, e < i → l[i]? = some o → ∃ v, stepW g ops o ⟨(E.put oe.dst u).env, E.defs, s.H⟩ v ∧ ∀ d, o.dst = some d → lk d (E.put oe.dst u).env = some v) ∧
      regionW g ops t ⟨(E.put oe.dst u).env, E.defs, s.H⟩ (fun st' => Q .normal st') (fun v st' => Q (.panic v) st')) :
    ∀ (fuel : Nat) (listed : Array Bool) (c : Ctx) (w : World) (a : Act), Lst ops listed → fuel = left listed listed.size → (∀ i, l.length ≤ i → i < ops.length → ¬ isOn listed i) → ¬ isOn listed e → Mid g l E listed c w a →
      wpAnyIn (fenceOf g.lr) 0 g.P .any ops.toArray (APost g Q c E.H w) fuel listed a w := by
  have hlen : ops.length = l.length + t.length := by rw [he]; simp
  have hel := (List.getElem?_eq_some_iff.1 hoe).1
  intro fuel
  induction fuel with
  | zero =>
    intro listed c w a hl hf hno he' hm
    exfalso
    have := left_set (by rw [hl.size]; omega) he'
    omega
  | succ fuel ih =>
    intro listed c w a hl hf hno he' hm
    have hall : ¬ ∀ i, i < l.length → isOn listed i := fun h => he' (h e hel)
    refine ⟨fun hnil => ?_, fun i hi => ?_⟩
    · exact absurd hnil (hl.some_ready hok (j := e) (by omega) he')
    · obtain ⟨h1, h2, _, h4⟩ := hl.ready hi
      have hil : i < l.length := by
        rcases Nat.lt_or_ge i l.length with h' | h'
        · exact h'
        · exact absurd (fun j hj => h4 j (hok.tail j i h' h1 (by omega))) hall
      by_cases hie : i = e
      · subst hie
        have hops : ops[i]? = some oe := by rw [he, List.getElem?_append_left hil, hoe]
        have hd1 : ∀ d, oe.dst = some d → d < g.N.n := fun d e => by
          have := hok.dsts
          unfold dstsOk at this
          rw [List.all_eq_true] at this
          have := this oe (List.mem_iff_getElem?.2 ⟨_, hops⟩)
          rw [e] at this
          simpa using this
        have hfuel : fuel = left (listed.setIfInBounds i true) (listed.setIfInBounds i true).size := by
          have := left_set (by rw [hl.size]; exact h1) h2
          simp; omega
        have hno' : ∀ j, l.length ≤ j → j < ops.length → ¬ isOn (listed.setIfInBounds i true) j := fun j hj hj2 => by
          rw [isOn_set (by rw [hl.size]; exact h1)]
          rintro (rfl | h')
          · omega
          · exact hno j hj hj2 h'
        have hs1 : SRel g.N c (E.only ops oe) w a := by
          refine ⟨hm.heap, hm.size, fun t x e => ?_, hm.defs⟩
          obtain ⟨h5, h6⟩ := lk_restrict e
          refine hm.tmps t x h6 (fun j o' ho' hd' => ?_)
          have hjl := (List.getElem?_eq_some_iff.1 ho').1
          exact h4 j (hok.reads i j oe o' t hil hjl hops (by rw [he, List.getElem?_append_left hjl, ho']) hd' h5)
        unfold wpOpIn
        have hoa : ops.toArray[i]? = some oe := by simpa using hops
        simp only [hoa]
        have hr : wantW ops oe (E.only ops oe) (opW g oe (E.only ops oe) KE (fun _ _ => False)) False := by
          unfold wantW; rw [heff.1]; exact heff.2
        rcases wantW_elim hs1 hr with ⟨hw, hr⟩ | ⟨hw, hr⟩
        · rw [if_pos hw]
          refine opW_ok hd1 hr c w a _ _ hs1 ?_ ?_
          · rintro s c' a' w' hks hs' ht ⟨hle, x, hx⟩
            obtain ⟨hdf, u, hu, hq, hK⟩ := hKE s hks
            have hm' : Mid g l ⟨(E.put oe.dst u).env, E.defs, s.H⟩ (listed.setIfInBounds i true) c' w' a' := by
              refine ⟨hs'.heap, hs'.size, fun t v e hon => ?_, by have := hs'.defs; rwa [hdf] at this⟩
              by_cases hdt : oe.dst = some t
              · have e2 : lk t (E.put oe.dst u).env = some u := by rw [put_lk, if_pos hdt]
                rw [e2] at e; cases e
                obtain ⟨y, k1, k2⟩ := hs'.tmps t u (hu t hdt)
                exact ⟨y, k1, k2⟩
              · have e2 : lk t E.env = some v := by rw [put_lk, if_neg hdt] at e; exact e
                obtain ⟨y, k1, k2⟩ := hm.tmps t v e2 (fun j o' ho' hd' => by
                  have := hon j o' ho' hd'
                  rw [isOn_set (by rw [hl.size]; exact h1)] at this
                  rcases this with rfl | h'
                  · rw [hoe] at ho'; cases ho'; exact absurd hd' hdt
                  · exact h')
                refine ⟨y, ?_, k2.mono hle⟩
                rw [hx]
                cases hd : oe.dst with
                | none => simpa [Act.put] using k1
                | some d =>
                  have hne : d ≠ t := fun e => hdt (by rw [hd, e])
                  simp [Act.put, hne, k1]
            have := any_frontP (Q := Q) he hok (fun j => i < j) (fun j o hj ho => hq j o hj ho) hK fuel _ c' w' a' (hl.set hi) hfuel hno' (fun j hj hn => by
              rcases Nat.lt_trichotomy j i with h' | h' | h'
              · exact absurd ((isOn_set (by rw [hl.size]; exact h1)).2 (.inr (h4 j (hanc j h')))) hn
              · exact absurd ((isOn_set (by rw [hl.size]; exact h1)).2 (.inl h'.symm)) hn
              · exact h') hm'
            exact any_tail.wpAny_mono (fun e a2 w2 hp => hp.back ht) this
          · intro v v' st' c' a' w' hKp
            exact hKp.elim
        · exact hr.elim
      have hoat : l[i]? = some l[i] := List.getElem?_eq_getElem hil
      generalize l[i] = o at hoat
      have hops : ops[i]? = some o := by rw [he, List.getElem?_append_left hil, hoat]
      obtain ⟨v, hs, hlk⟩ := hst i o hie hoat
      have hd1 : ∀ d, o.dst = some d → d < g.N.n := fun d e => by
        have := hok.dsts
        unfold dstsOk at this
        rw [List.all_eq_true] at this
        have := this o (List.mem_iff_getElem?.2 ⟨_, hops⟩)
        rw [e] at this
        simpa using this
      have hfuel : fuel = left (listed.setIfInBounds i true) (listed.setIfInBounds i true).size := by
        have := left_set (by rw [hl.size]; exact h1) h2
        simp; omega
      have hno' : ∀ j, l.length ≤ j → j < ops.length → ¬ isOn (listed.setIfInBounds i true) j := fun j hj hj2 => by
        rw [isOn_set (by rw [hl.size]; exact h1)]
        rintro (rfl | h')
        · omega
        · exact hno j hj hj2 h'
      -- the temporaries behind the operation
      have hmid : ∀ (c' : Ctx) (a' : Act) (w' : World) (u u' : Value), c.le c' → HRel c' E.H w' → DRel g.N.B c' E.H w' E.defs a'.defers → a'.tmps = (a.put o.dst u).tmps → (∀ d, o.dst = some d → u = u' ∧ VRel c' v u') → Mid g l E (listed.setIfInBounds i true) c' w' a' := by
        intro c' a' w' u u' hle hh hdf ht hu
        refine ⟨hh, ?_, ?_, hdf⟩
        · rw [ht, ← hm.size]; cases o.dst <;> simp [Act.put]
        · intro t x e hx
          by_cases hdt : o.dst = some t
          · have := hlk t hdt
            rw [e] at this; cases this
            obtain ⟨rfl, hv⟩ := hu t hdt
            refine ⟨u, ?_, hv⟩
            rw [ht, hdt]
            simp [Act.put, hm.size, hd1 t hdt]
          · obtain ⟨x', k1, k2⟩ := hm.tmps t x e (fun j o' ho' hd' => by
              have := hx j o' ho' hd'
              rw [isOn_set (by rw [hl.size]; exact h1)] at this
              rcases this with rfl | h'
              · rw [hoat] at ho'; cases ho'; exact absurd hd' hdt
              · exact h')
            refine ⟨x', ?_, k2.mono hle⟩
            rw [ht]
            cases hd : o.dst with
            | none => simpa [Act.put] using k1
            | some d =>
              have hne : d ≠ t := fun e => hdt (by rw [hd, e])
              simp [Act.put, hne, k1]
      have hs1 : SRel g.N c (E.only ops o) w a := by
        refine ⟨hm.heap, hm.size, fun t x e => ?_, hm.defs⟩
        obtain ⟨h5, h6⟩ := lk_restrict e
        refine hm.tmps t x h6 (fun j o' ho' hd' => ?_)
        have hjl := (List.getElem?_eq_some_iff.1 ho').1
        exact h4 j (hok.reads i j o o' t hil hjl hops (by rw [he, List.getElem?_append_left hjl, ho']) hd' h5)
      unfold wpOpIn
      have hoa : ops.toArray[i]? = some o := by simpa using hops
      simp only [hoa]
      rcases wantW_elim hs1 hs with ⟨hw, hr⟩ | ⟨hw, hr⟩
      · rw [if_pos hw]
        refine opW_ok hd1 hr c w a _ _ hs1 ?_ ?_
        · rintro st' c' a' w' ⟨hH, hdf, hl'⟩ hs' ht ⟨hle, u, hu⟩
          have hm' : Mid g l E (listed.setIfInBounds i true) c' w' a' := by
            have hh := hs'.heap
            rw [hH] at hh
            have hd' := hs'.defs
            rw [hdf, hH] at hd'
            refine hmid c' a' w' u u hle hh hd' hu (fun d hd => ⟨rfl, ?_⟩)
            obtain ⟨x, k1, k2⟩ := hs'.tmps d v (hl' d hd)
            rw [hu, hd] at k1
            simp [Act.put, hm.size, hd1 d hd] at k1
            rw [k1]; exact k2
          have := ih _ c' w' a' (hl.set hi) hfuel hno' (fun h' => by rcases (isOn_set (by rw [hl.size]; exact h1)).1 h' with h' | h'; exact hie h'; exact he' h') hm'
          rw [hH] at ht
          exact any_tail.wpAny_mono (fun e a2 w2 hp => hp.back ht) this
        · intro v v' st' c' a' w' hKp
          exact hKp.elim
      · rw [if_neg (by rw [hw]; simp)]
        refine ⟨about_any g.lr, ?_⟩
        subst hr
        refine ih _ c w _ (hl.set hi) hfuel hno' (fun h' => by rcases (isOn_set (by rw [hl.size]; exact h1)).1 h' with h' | h'; exact hie h'; exact he' h') (hmid c _ w undef undef (Ctx.le_refl c) hm.heap ?_ rfl (fun d hd => ⟨rfl, .tuple .nil⟩))
        have : (a.put o.dst undef).defers = a.defers := by cases o.dst <;> rfl
        rw [this]; exact hm.defs


def dstV (o : Oper) (s : ASt) : Option Value := match o.dst with | none => some noVal | some d => lk d s.env
/-- What was read before the call would be read behind it. -/
def keepW (g : Cfg) (ops : List Oper) : List Oper → ASt → Prop
  | [], _ => True
  | o :: r, E => (match o.dst with | none => False | some d => wth (lk d E.env) fun v => stepW g ops o E v) ∧ keepW g ops r E
theorem keepW_elim {ops : List Oper} {E : ASt} : ∀ {l : List Oper}, keepW g ops l E → ∀ o ∈ l, ∃ d v, o.dst = some d ∧ lk d E.env = some v ∧ stepW g ops o E v
  | [], _, o, ho => by cases ho
  | p :: r, ⟨h1, h2⟩, o, ho => by
    rcases List.mem_cons.1 ho with rfl | ho
    · cases hd : o.dst with
      | none => rw [hd] at h1; exact h1.elim
      | some d =>
        rw [hd] at h1
        obtain ⟨v, k1, k2⟩ := wth_elim h1
        exact ⟨d, v, rfl, k1, k2⟩
    · exact keepW_elim h2 o ho
def effOk (ops : List Oper) (k e : Nat) : Bool :=
  decide (e < k) && (allLt e fun i => ((ancs ops []).getD e []).contains i) &&
  (match ops[e]? with
  | none => false
  | some oe => oe.guard.isNone && allLt k fun i => decide (i = e) || (match ops[i]?, oe.dst with
    | some o, some d => !(reads ops o).contains d
    | _, _ => true))

theorem AWP.regionE {st : ASt} {id : Nat} {ops : List Oper} (k e : Nat) {oe : Oper} (hm : g.P.follows .mixedOrders = true) (hk : k ≤ ops.length) (hok : anyOk g.N.n ops k = true) (hee : effOk ops k e = true) (hoe : ops[e]? = some oe)
    (h : quietW g ops (ops.take e ++ (ops.take k).drop (e + 1)) st (fun E => opW g oe (E.only ops oe) (fun s => s.defs = E.defs ∧ wth (dstV oe s) fun u =>
      keepW g ops ((ops.take k).drop (e + 1)) ⟨(E.put oe.dst u).env, E.defs, s.H⟩ ∧ regionW g ops (ops.drop k) ⟨(E.put oe.dst u).env, E.defs, s.H⟩ (fun st' => Q .normal st') (fun v st' => Q (.panic v) st')) (fun _ _ => False))) :
    AWP g (.region id ops.toArray true) Q st := by
  intro c w a hs
  have hok := AnyOk.of hok
  unfold effOk at hee
  simp only [Bool.and_eq_true, decide_eq_true_eq, hoe] at hee
  obtain ⟨⟨hek, hanc⟩, hgd, hrd⟩ := hee
  have hanc' : ∀ i, i < e → i ∈ (ancs ops []).getD e [] := fun i hi => by simpa using allLt_spec hanc i hi
  have hrd' : ∀ i o d, i < k → i ≠ e → ops[i]? = some o → oe.dst = some d → ¬ d ∈ reads ops o := fun i o d hi hie ho hd hmem => by
    have := allLt_spec hrd i hi
    rw [ho, hd] at this
    simp [hie, hmem] at this
  let l := ops.take k
  let t := ops.drop k
  have hlt : ops = l ++ t := (List.take_append_drop k ops).symm
  have hll : l.length = k := by simp [l]; omega
  have hlops : ∀ i o, l[i]? = some o → ops[i]? = some o ∧ i < k := fun i o ho => by
    have hi := (List.getElem?_eq_some_iff.1 ho).1
    rw [hlt, List.getElem?_append_left hi]; exact ⟨ho, by omega⟩
  have hopsl : ∀ i, i < k → l[i]? = ops[i]? := fun i hi => List.getElem?_take_of_lt hi
  let lq := ops.take e ++ l.drop (e + 1)
  have hle : (ops.take e).length = e := by simp; omega
  have hqlen : lq.length = k - 1 := by simp [lq]; omega
  let up : Nat → Nat := fun m => if m < e then m else m + 1
  have hup : ∀ m o, lq[m]? = some o → ops[up m]? = some o ∧ up m < k ∧ up m ≠ e := fun m o hmo => by
    have hml := (List.getElem?_eq_some_iff.1 hmo).1
    by_cases hme : m < e
    · have : up m = m := if_pos hme
      rw [this]
      simp only [lq] at hmo
      rw [List.getElem?_append_left (by omega), List.getElem?_take_of_lt hme] at hmo
      exact ⟨hmo, by omega, by omega⟩
    · have : up m = m + 1 := if_neg hme
      rw [this]
      simp only [lq] at hmo
      rw [List.getElem?_append_right (by omega), hle, List.getElem?_drop] at hmo
      have e2 : e + 1 + (m - e) = m + 1 := by omega
      rw [e2] at hmo
      exact ⟨(hlops _ _ hmo).1, by omega, by omega⟩
  have hdn : ∀ i o, i ≠ e → l[i]? = some o → ∃ m, lq[m]? = some o ∧ up m = i := fun i o hie ho => by
    have hi := (hlops i o ho)
    by_cases h' : i < e
    · refine ⟨i, ?_, if_pos h'⟩
      simp only [lq]
      rw [List.getElem?_append_left (by omega), List.getElem?_take_of_lt h']; exact hi.1
    · refine ⟨i - 1, ?_, ?_⟩
      · simp only [lq]
        rw [List.getElem?_append_right (by omega), hle, List.getElem?_drop]
        rw [show e + 1 + (i - 1 - e) = i by omega]; exact ho
      · show (if i - 1 < e then i - 1 else i - 1 + 1) = i
        rw [if_neg (by omega)]; omega
  have hupmono : ∀ m m', up m < up m' → m < m' := fun m m' h' => by
    simp only [up] at h'
    split at h' <;> split at h' <;> omega
  have hupinj : ∀ m m', up m = up m' → m = m' := fun m m' h' => by
    simp only [up] at h'
    split at h' <;> split at h' <;> omega
  obtain ⟨vs, hvl0, hK, hst⟩ := quietW_elim h
  have hvl : vs.length = lq.length := hvl0
  have hH : (puts lq vs st).H = st.H := puts_H lq vs st
  have hD : (puts lq vs st).defs = st.defs := puts_defs lq vs st
  have huniq : ∀ (m : Nat) (p : Oper) (d : Tmp), lq[m]? = some p → p.dst = some d → ∀ (m' : Nat) o', lq[m']? = some o' → o'.dst = some d → m' = m := fun m p d hm hp m' o' hm' hd' => by
    obtain ⟨a1, a2, _⟩ := hup m p hm
    obtain ⟨b1, b2, _⟩ := hup m' o' hm'
    exact hupinj _ _ (hok.apart _ _ o' p d b2 a2 b1 a1 hp hd')
  refine wpIn_region_any hm ?_
  obtain ⟨hh, ht⟩ := hs.heap.drew g.n0
  have := any_frontE (g := g) (Q := Q) (ops := ops) (l := l) (t := t) hlt (by rw [hll]; exact hok) (E := puts lq vs st) e oe (by rw [hopsl e hek]; exact hoe) hanc' ?_ _ ⟨by simpa using hgd, hK⟩ ?_ ops.length (Array.replicate ops.length false) c w.drew a ?_ ?_ ?_ ?_ ?_
  · rw [hH] at this
    have := any_tail.wpAny_mono (fun e a2 w2 hp => hp.back ht) this
    simpa using this
  · intro i o hie ho
    obtain ⟨m, hmo, hum⟩ := hdn i o hie ho
    have hml := (List.getElem?_eq_some_iff.1 hmo).1
    have hv : vs[m]? = some (vs[m]'(by omega)) := List.getElem?_eq_getElem (by omega)
    generalize vs[m]'(by omega) = v at hv
    obtain ⟨a1, a2, a3⟩ := hup m o hmo
    refine ⟨v, ?_, fun d hd => ?_⟩
    · have hs1 := hst m o v hmo hv
      have : (puts (lq.take m) (vs.take m) st).only ops o = (puts lq vs st).only ops o := by
        unfold ASt.only
        rw [puts_H, puts_H, puts_defs, puts_defs, restrict_congr (e1 := (puts (lq.take m) (vs.take m) st).env) (e2 := (puts lq vs st).env)]
        intro d hd
        by_cases hex : ∃ (j : Nat) (p : Oper), lq[j]? = some p ∧ p.dst = some d
        · obtain ⟨j, p, hj, hp⟩ := hex
          have hjl := (List.getElem?_eq_some_iff.1 hj).1
          obtain ⟨b1, b2, b3⟩ := hup j p hj
          have hja := hok.reads _ _ o p d a2 b2 a1 b1 hp hd
          have hji : j < m := hupmono _ _ (anc_lt hok _ _ hja)
          have hvj : vs[j]? = some (vs[j]'(by omega)) := List.getElem?_eq_getElem (by omega)
          have hun := huniq j p d hj hp
          rw [puts_lk_some lq vs st d j p _ hj hvj hp (fun m' o' h1 h2 => hun m' o' h1 h2)]
          refine puts_lk_some _ _ st d j p _ (by rw [List.getElem?_take_of_lt hji]; exact hj) (by rw [List.getElem?_take_of_lt hji]; exact hvj) hp (fun m' o' hm' hd' => ?_)
          rw [List.getElem?_take] at hm'
          split at hm'
          · exact hun m' o' hm' hd'
          · cases hm'
        · rw [puts_lk_none lq vs st d (fun o' ho' hd' => by
            obtain ⟨j, hj⟩ := List.mem_iff_getElem?.1 ho'
            exact hex ⟨j, o', hj, hd'⟩)]
          refine puts_lk_none _ _ st d (fun o' ho' hd' => ?_)
          obtain ⟨j, hj⟩ := List.mem_iff_getElem?.1 (List.mem_of_mem_take ho')
          exact hex ⟨j, o', hj, hd'⟩
      unfold stepW at hs1 ⊢
      rw [this, puts_H, puts_defs] at hs1
      rw [hH, hD]
      exact hs1
    · exact puts_lk_some lq vs st d m o v hmo hv hd (fun m' o' h1 h2 => huniq m o d hmo hd m' o' h1 h2)
  · rintro s ⟨hdf, hu⟩
    obtain ⟨u, hu1, hkp, hr⟩ := wth_elim hu
    refine ⟨hdf, u, fun d hd => by unfold dstV at hu1; rw [hd] at hu1; exact hu1, fun i o hei ho => ?_, hr⟩
    obtain ⟨d, v, k1, k2, k3⟩ := keepW_elim hkp o (by
      refine List.mem_iff_getElem?.2 ⟨i - (e + 1), ?_⟩
      rw [List.getElem?_drop, show e + 1 + (i - (e + 1)) = i by omega]; exact ho)
    exact ⟨v, k3, fun d' hd' => by rw [k1] at hd'; cases hd'; exact k2⟩
  · refine ⟨by simp, fun j o ho hj => ?_⟩
    exact absurd hj (not_isOn_replicate _ _)
  · have := left_eq (listed := Array.replicate ops.length false) (m := 0) (n := ops.length) (Nat.zero_le _) (fun i hi => ⟨fun h => absurd h (not_isOn_replicate _ _), fun h => by omega⟩)
    simpa using this.symm
  · intro i _ hi
    exact not_isOn_replicate _ _
  · exact not_isOn_replicate _ _
  · refine ⟨by rw [hH]; exact hh, hs.size, fun t' x e' hx => ?_, ?_⟩
    · have : lk t' st.env = some x := by
        rw [← e']
        refine (puts_lk_none lq vs st t' (fun o' ho' hd' => ?_)).symm
        obtain ⟨j, hj⟩ := List.mem_iff_getElem?.1 ho'
        obtain ⟨a1, a2, _⟩ := hup j o' hj
        exact absurd (hx (up j) o' (by rw [hopsl _ a2]; exact a1) hd') (not_isOn_replicate _ _)
      exact hs.tmps t' x this
    · rw [hH, hD]
      exact hs.defs.step (n := g.n0) (Ctx.le_refl c) ht
end
end Go.Aw

set_option linter.unusedVariables false
set_option linter.unusedSimpArgs false
namespace Go.Aw
/-- Orders: one path, one operation ahead of others, or either of two. -/
inductive Tr where
  | run (l : List Nat)
  | step (j : Nat) (t : Tr)
  | both (a b : Tr)
def Tr.firsts : Tr → List Nat
  | .run l => l.take 1
  | .step j _ => [j]
  | .both a b => a.firsts ++ b.firsts
def enabled (ops : List Oper) (L : List Nat) : List Nat := (List.range ops.length).filter fun i => !L.contains i && (match ops[i]? with | some o => (binding o).all fun e => L.contains e | none => false)
def okRun (ops : List Oper) : List Nat → List Nat → Bool
  | _, [] => true
  | L, j :: r => (enabled ops L).contains j && ((enabled ops (j :: L)).all fun i => (r.take 1).contains i) && okRun ops (j :: L) r
def okIn (ops : List Oper) : List Nat → Tr → Bool
  | L, .run l => okRun ops L l
  | L, .step j t => (enabled ops L).contains j && ((enabled ops (j :: L)).all fun i => t.firsts.contains i) && okIn ops (j :: L) t
  | L, .both a b => okIn ops L a && okIn ops L b
def treeOk (n : Nat) (ops : List Oper) (t : Tr) : Bool := dstsOk n ops && edgesOk ops && ((enabled ops []).all fun i => t.firsts.contains i) && okIn ops [] t
def pickO (ops : List Oper) : List Nat → List Oper
  | [] => []
  | j :: r => match ops[j]? with
    | some o => o :: pickO ops r
    | none => pickO ops r
def treeW (g : Cfg) (ops : List Oper) : Tr → ASt → (ASt → Prop) → (Value → ASt → Prop) → Prop
  | .run l, st, K, Kp => regionW g ops (pickO ops l) st K Kp
  | .step j t, st, K, Kp => wth ops[j]? fun o => wantW ops o st (opW g o st (fun st' => treeW g ops t st' K Kp) Kp) (treeW g ops t (st.put o.dst noVal) K Kp)
  | .both a b, st, K, Kp => treeW g ops a st K Kp ∧ treeW g ops b st K Kp
theorem enabled_lt {ops : List Oper} {L : List Nat} {i : Nat} (h : i ∈ enabled ops L) : i < ops.length := by
  have := List.mem_filter.1 h
  exact List.mem_range.1 this.1
theorem tree_pick {g : Cfg} {ops : List Oper} {K : ASt → Prop} {Kp : Value → ASt → Prop} {st : ASt} {L : List Nat} {j : Nat} {o : Oper} (ho : ops[j]? = some o) : ∀ (t : Tr), okIn ops L t = true → treeW g ops t st K Kp → j ∈ t.firsts →
    ∃ t', (∀ i ∈ enabled ops (j :: L), i ∈ t'.firsts) ∧ okIn ops (j :: L) t' = true ∧ wantW ops o st (opW g o st (fun st' => treeW g ops t' st' K Kp) Kp) (treeW g ops t' (st.put o.dst noVal) K Kp)
  | .run [], _, _, hj => by simp [Tr.firsts] at hj
  | .run (i :: r), hok, ht, hj => by
    simp [Tr.firsts] at hj
    subst hj
    simp only [okIn, okRun, Bool.and_eq_true] at hok
    refine ⟨.run r, fun i hi => ?_, hok.2, ?_⟩
    · have := List.all_eq_true.1 hok.1.2 i hi
      simpa [Tr.firsts] using this
    · unfold treeW pickO at ht
      rw [ho] at ht
      exact ht
  | .step i t, hok, ht, hj => by
    simp [Tr.firsts] at hj
    subst hj
    simp only [okIn, Bool.and_eq_true] at hok
    refine ⟨t, fun i hi => ?_, hok.2, ?_⟩
    · have := List.all_eq_true.1 hok.1.2 i hi
      simpa using this
    · unfold treeW at ht
      rw [ho, wth_some] at ht
      exact ht
  | .both a b, hok, ht, hj => by
    simp only [okIn, Bool.and_eq_true] at hok
    unfold treeW at ht
    simp only [Tr.firsts, List.mem_append] at hj
    rcases hj with hj | hj
    · exact tree_pick ho a hok.1 ht.1 hj
    · exact tree_pick ho b hok.2 ht.2 hj
theorem tree_done {g : Cfg} {ops : List Oper} {K : ASt → Prop} {Kp : Value → ASt → Prop} {st : ASt} {L : List Nat} (hL : enabled ops L = []) : ∀ (t : Tr), okIn ops L t = true → treeW g ops t st K Kp → K st
  | .run [], _, ht => ht
  | .run (i :: r), hok, _ => by
    simp only [okIn, okRun, Bool.and_eq_true, hL] at hok
    simp at hok
  | .step i t, hok, _ => by
    simp only [okIn, Bool.and_eq_true, hL] at hok
    simp at hok
  | .both a b, hok, ht => by
    simp only [okIn, Bool.and_eq_true] at hok
    exact tree_done hL a hok.1 ht.1
theorem Lst.some_ready' {ops : List Oper} {listed : Array Bool} (h : Lst ops listed) (hed : edgesOk ops = true) {j : Nat} (hj : j < ops.length) (hn : ¬ isOn listed j) : Region.ready .any ops.toArray listed ≠ [] := by
  obtain ⟨i, ⟨hi1, hi2⟩, hmin⟩ := least (p := fun i => i < ops.length ∧ ¬ isOn listed i) ⟨j, hj, hn⟩
  have : i ∈ Region.ready .any ops.toArray listed := by
    refine mem_ready.2 ⟨(getD_size (by rw [h.size]; exact hi1)).2 hi2, ops[i], by simp [hi1], fun e he hb => ?_⟩
    have hlt : e.on < i := by
      have := allLt_spec hed i hi1
      rw [List.getElem?_eq_getElem hi1] at this
      simpa using List.all_eq_true.1 this e.on (binding_mem he hb)
    rcases Classical.em (isOn listed e.on) with h' | h'
    · exact h'
    · have := hmin e.on ⟨by omega, h'⟩; omega
  intro he
  rw [he] at this; cases this
theorem tree_run {g : Cfg} {Q : AExit → ASt → Prop} {ops : List Oper} (hds : dstsOk g.N.n ops = true) (hed : edgesOk ops = true) : ∀ (fuel : Nat) (t : Tr) (L : List Nat) (listed : Array Bool) (st : ASt), (∀ i, i < ops.length → (isOn listed i ↔ i ∈ L)) → Lst ops listed → fuel = left listed listed.size →
    (∀ i ∈ enabled ops L, i ∈ t.firsts) → okIn ops L t = true → treeW g ops t st (fun st' => Q .normal st') (fun v st' => Q (.panic v) st') → ∀ c w a, SRel g.N c st w a → wpAnyIn (fenceOf g.lr) 0 g.P .any ops.toArray (APost g Q c st.H w) fuel listed a w := by
  have hen : ∀ (L : List Nat) (listed : Array Bool), (∀ i, i < ops.length → (isOn listed i ↔ i ∈ L)) → Lst ops listed → ∀ i ∈ Region.ready .any ops.toArray listed, i ∈ enabled ops L := fun L listed hon hl i hi => by
    obtain ⟨h1, h2, h3, _⟩ := hl.ready hi
    refine List.mem_filter.2 ⟨List.mem_range.2 h1, ?_⟩
    rw [List.getElem?_eq_getElem h1]
    simp only [Bool.and_eq_true, Bool.not_eq_true', List.all_eq_true]
    refine ⟨?_, fun e he => ?_⟩
    · have : ¬ i ∈ L := fun h => h2 ((hon i h1).2 h)
      simpa using this
    · have hoe := h3 _ (List.getElem?_eq_getElem h1) e he
      have hlt : e < i := by
        have := allLt_spec hed i h1
        rw [List.getElem?_eq_getElem h1] at this
        simpa using List.all_eq_true.1 this e he
      simpa using (hon e (by omega)).1 hoe
  intro fuel
  induction fuel with
  | zero =>
    intro t L listed st hon hl hf hfi hok ht c w a hs
    have hall : ∀ i, i < ops.length → isOn listed i := fun i hi => by
      rcases Classical.em (isOn listed i) with h' | h'
      · exact h'
      · have := left_set (by rw [hl.size]; exact hi) h'
        omega
    have hnil : enabled ops L = [] := by
      apply List.eq_nil_iff_forall_not_mem.2
      intro i hi
      have h1 := enabled_lt hi
      have h2 := (List.mem_filter.1 hi).2
      have h3 := (hon i h1).1 (hall i h1)
      simp [h3] at h2
    refine ⟨?_, .normal, st, c, tree_done hnil t hok ht, .normal, hs, .refl _ _ _ _⟩
    apply List.eq_nil_iff_forall_not_mem.2
    intro i hi
    obtain ⟨h1, h2, _⟩ := hl.ready hi
    exact h2 (hall i h1)
  | succ fuel ih =>
    intro t L listed st hon hl hf hfi hok ht c w a hs
    refine ⟨fun hnil => ?_, fun i hi => ?_⟩
    · exfalso
      have hall : ∀ i, i < ops.length → isOn listed i := fun i hi => by
        rcases Classical.em (isOn listed i) with h' | h'
        · exact h'
        · exact absurd hnil (hl.some_ready' hed hi h')
      have := left_eq (listed := listed) (m := ops.length) (n := ops.length) (Nat.le_refl _) (fun i hi => ⟨fun _ => hi, fun _ => hall i hi⟩)
      rw [hl.size] at hf
      omega
    · have hie := hen L listed hon hl i hi
      obtain ⟨h1, h2, _, _⟩ := hl.ready hi
      have hoat : ops[i]? = some ops[i] := List.getElem?_eq_getElem h1
      generalize ops[i] = o at hoat
      obtain ⟨t', hfi', hok', hw⟩ := tree_pick hoat t hok ht (hfi i hie)
      have hl' := hl.set hi
      have hon' : ∀ j, j < ops.length → (isOn (listed.setIfInBounds i true) j ↔ j ∈ i :: L) := fun j hj => by
        rw [isOn_set (by rw [hl.size]; exact h1), hon j hj]
        simp [eq_comm]
      have hfuel : fuel = left (listed.setIfInBounds i true) (listed.setIfInBounds i true).size := by
        have := left_set (by rw [hl.size]; exact h1) h2
        simp; omega
      have hd1 : ∀ d, o.dst = some d → d < g.N.n := fun d e => by
        unfold dstsOk at hds
        rw [List.all_eq_true] at hds
        have := hds o (List.mem_iff_getElem?.2 ⟨_, hoat⟩)
        rw [e] at this
        simpa using this
      unfold wpOpIn
      have hoa : ops.toArray[i]? = some o := by simpa using hoat
      simp only [hoa]
      rcases wantW_elim hs hw with ⟨hwn, hr⟩ | ⟨hwn, hr⟩
      · rw [if_pos hwn]
        refine opW_ok hd1 hr c w a _ _ hs ?_ ?_
        · intro st' c' a' w' hK hs' ht _
          have := ih t' (i :: L) _ st' hon' hl' hfuel hfi' hok' hK c' w' a' hs'
          exact any_tail.wpAny_mono (fun e a2 w2 hp => hp.back ht) this
        · intro v v' st' c' a' w' hKp hv hs' ht
          exact ⟨.panic v, st', c', hKp, .panic hv, hs', ht⟩
      · rw [if_neg (by rw [hwn]; simp)]
        refine ⟨about_any g.lr, ?_⟩
        have hs' : SRel g.N c (st.put o.dst noVal) w (a.put o.dst undef) := hs.put hd1 (.tuple .nil)
        have := ih t' (i :: L) _ (st.put o.dst noVal) hon' hl' hfuel hfi' hok' hr c w _ hs'
        rw [put_H] at this
        exact this
theorem AWP.regionT {g : Cfg} {Q : AExit → ASt → Prop} {st : ASt} {id : Nat} {ops : List Oper} (t : Tr) (hm : g.P.follows .mixedOrders = true) (hok : treeOk g.N.n ops t = true)
    (h : treeW g ops t st (fun st' => Q .normal st') (fun v st' => Q (.panic v) st')) : AWP g (.region id ops.toArray true) Q st := by
  intro c w a hs
  simp only [treeOk, Bool.and_eq_true] at hok
  obtain ⟨⟨⟨hds, hed⟩, hfi⟩, hin⟩ := hok
  refine wpIn_region_any hm ?_
  obtain ⟨hh, ht⟩ := hs.heap.drew g.n0
  have hs' : SRel g.N c st w.drew a := ⟨hh, hs.size, hs.tmps, hs.defs.step (n := g.n0) (Ctx.le_refl c) ht⟩
  have := tree_run hds hed ops.length t [] (Array.replicate ops.length false) st ?_ ?_ ?_ ?_ hin h c w.drew a hs'
  · have := any_tail.wpAny_mono (fun e a2 w2 hp => hp.back ht) this
    simpa using this
  · intro i hi
    exact ⟨fun h => absurd h (not_isOn_replicate _ _), fun h => by cases h⟩
  · refine ⟨by simp, fun j o ho hj => ?_⟩
    exact absurd hj (not_isOn_replicate _ _)
  · have := left_eq (listed := Array.replicate ops.length false) (m := 0) (n := ops.length) (Nat.zero_le _) (fun i hi => ⟨fun h => absurd h (not_isOn_replicate _ _), fun h => by omega⟩)
    simpa using this.symm
  · intro i hi
    have := List.all_eq_true.1 hfi i hi
    simpa using this
theorem treeW_run {g : Cfg} {ops : List Oper} {l : List Nat} {st : ASt} {K : ASt → Prop} {Kp : Value → ASt → Prop} : treeW g ops (.run l) st K Kp = regionW g ops (pickO ops l) st K Kp := rfl
theorem treeW_step {g : Cfg} {ops : List Oper} {j : Nat} {t : Tr} {st : ASt} {K : ASt → Prop} {Kp : Value → ASt → Prop} : treeW g ops (.step j t) st K Kp = wth ops[j]? fun o => wantW ops o st (opW g o st (fun st' => treeW g ops t st' K Kp) Kp) (treeW g ops t (st.put o.dst noVal) K Kp) := rfl
theorem treeW_both {g : Cfg} {ops : List Oper} {a b : Tr} {st : ASt} {K : ASt → Prop} {Kp : Value → ASt → Prop} : treeW g ops (.both a b) st K Kp = (treeW g ops a st K Kp ∧ treeW g ops b st K Kp) := rfl
theorem pickO_cons {ops : List Oper} {j : Nat} {r : List Nat} {o : Oper} (h : ops[j]? = some o) : pickO ops (j :: r) = o :: pickO ops r := by simp [pickO, h]
end Go.Aw

set_option linter.unusedVariables false
set_option linter.unusedSimpArgs false
namespace Go.Aw
theorem pickO_mem {ops : List Oper} {i : Nat} {o : Oper} (ho : ops[i]? = some o) : ∀ {l : List Nat}, i ∈ l → o ∈ pickO ops l := by
  intro l
  induction l with
  | nil => intro h; cases h
  | cons j r ih =>
    intro hi
    rcases List.mem_cons.1 hi with e | hi
    · subst e
      rw [pickO_cons ho]; exact List.mem_cons_self ..
    · have ih := ih hi
      unfold pickO
      split
      · exact List.mem_cons_of_mem _ ih
      · exact ih
section
variable {g : Cfg} {Q : AExit → ASt → Prop} {n : Nat}
theorem any_frontF {ops l t : List Oper} (he : ops = l ++ t) (hok : AnyOk g.N.n ops l.length) {E : ASt} (e : Nat) (oe : Oper) (hoe : l[e]? = some oe) (late : Nat → Prop) (hanc : ∀ i, i < l.length → i ≠ e → ¬ late i → i ∈ (ancs ops []).getD e [])
    (hst : ∀ (i : Nat) o, i ≠ e → l[i]? = some o → ∃ v, stepW g ops o E v ∧ ∀ d, o.dst = some d → lk d E.env = some v)
    (KE : ASt → Prop) (heff : oe.guard = none ∧ opW g oe (E.only ops oe) KE (fun _ _ => False))
    (hKE : ∀ s, KE s → s.defs = E.defs ∧ ∃ u, (∀ d, oe.dst = some d → lk d s.env = some u) ∧
      (∀ (i : Nat) o, i ≠ e → late i → l[i]? = some o → ∃ v, stepW g ops o ⟨(E.put oe.dst u).env, E.defs, s.H⟩ v ∧ ∀ d, o.dst = some d → lk d (E.put oe.dst u).env = some v) ∧
      regionW g ops t ⟨(E.put oe.dst u).env, E.defs, s.H⟩ (fun st' => Q .normal st') (fun v st' => Q (.panic v) st')) :
    ∀ (fuel : Nat) (listed : Array Bool) (c : Ctx) (w : World) (a : Act), Lst ops listed → fuel = left listed listed.size → (∀ i, l.length ≤ i → i < ops.length → ¬ isOn listed i) → ¬ isOn listed e → Mid g l E listed c w a →
      wpAnyIn (fenceOf g.lr) 0 g.P .any ops.toArray (APost g Q c E.H w) fuel listed a w := by
  have hlen : ops.length = l.length + t.length := by rw [he]; simp
  have hel := (List.getElem?_eq_some_iff.1 hoe).1
  intro fuel
  induction fuel with
  | zero =>
    intro listed c w a hl hf hno he' hm
    exfalso
    have := left_set (by rw [hl.size]; omega) he'
    omega
  | succ fuel ih =>
    intro listed c w a hl hf hno he' hm
    have hall : ¬ ∀ i, i < l.length → isOn listed i := fun h => he' (h e hel)
    refine ⟨fun hnil => ?_, fun i hi => ?_⟩
    · exact absurd hnil (hl.some_ready hok (j := e) (by omega) he')
    · obtain ⟨h1, h2, _, h4⟩ := hl.ready hi
      have hil : i < l.length := by
        rcases Nat.lt_or_ge i l.length with h' | h'
        · exact h'
        · exact absurd (fun j hj => h4 j (hok.tail j i h' h1 (by omega))) hall
      by_cases hie : i = e
      · subst hie
        have hops : ops[i]? = some oe := by rw [he, List.getElem?_append_left hil, hoe]
        have hd1 : ∀ d, oe.dst = some d → d < g.N.n := fun d e => by
          have := hok.dsts
          unfold dstsOk at this
          rw [List.all_eq_true] at this
          have := this oe (List.mem_iff_getElem?.2 ⟨_, hops⟩)
          rw [e] at this
          simpa using this
        have hfuel : fuel = left (listed.setIfInBounds i true) (listed.setIfInBounds i true).size := by
          have := left_set (by rw [hl.size]; exact h1) h2
          simp; omega
        have hno' : ∀ j, l.length ≤ j → j < ops.length → ¬ isOn (listed.setIfInBounds i true) j := fun j hj hj2 => by
          rw [isOn_set (by rw [hl.size]; exact h1)]
          rintro (rfl | h')
          · omega
          · exact hno j hj hj2 h'
        have hs1 : SRel g.N c (E.only ops oe) w a := by
          refine ⟨hm.heap, hm.size, fun t x e => ?_, hm.defs⟩
          obtain ⟨h5, h6⟩ := lk_restrict e
          refine hm.tmps t x h6 (fun j o' ho' hd' => ?_)
          have hjl := (List.getElem?_eq_some_iff.1 ho').1
          exact h4 j (hok.reads i j oe o' t hil hjl hops (by rw [he, List.getElem?_append_left hjl, ho']) hd' h5)
        unfold wpOpIn
        have hoa : ops.toArray[i]? = some oe := by simpa using hops
        simp only [hoa]
        have hr : wantW ops oe (E.only ops oe) (opW g oe (E.only ops oe) KE (fun _ _ => False)) False := by
          unfold wantW; rw [heff.1]; exact heff.2
        rcases wantW_elim hs1 hr with ⟨hw, hr⟩ | ⟨hw, hr⟩
        · rw [if_pos hw]
          refine opW_ok hd1 hr c w a _ _ hs1 ?_ ?_
          · rintro s c' a' w' hks hs' ht ⟨hle, x, hx⟩
            obtain ⟨hdf, u, hu, hq, hK⟩ := hKE s hks
            have hm' : Mid g l ⟨(E.put oe.dst u).env, E.defs, s.H⟩ (listed.setIfInBounds i true) c' w' a' := by
              refine ⟨hs'.heap, hs'.size, fun t v e hon => ?_, by have := hs'.defs; rwa [hdf] at this⟩
              by_cases hdt : oe.dst = some t
              · have e2 : lk t (E.put oe.dst u).env = some u := by rw [put_lk, if_pos hdt]
                rw [e2] at e; cases e
                obtain ⟨y, k1, k2⟩ := hs'.tmps t u (hu t hdt)
                exact ⟨y, k1, k2⟩
              · have e2 : lk t E.env = some v := by rw [put_lk, if_neg hdt] at e; exact e
                obtain ⟨y, k1, k2⟩ := hm.tmps t v e2 (fun j o' ho' hd' => by
                  have := hon j o' ho' hd'
                  rw [isOn_set (by rw [hl.size]; exact h1)] at this
                  rcases this with rfl | h'
                  · rw [hoe] at ho'; cases ho'; exact absurd hd' hdt
                  · exact h')
                refine ⟨y, ?_, k2.mono hle⟩
                rw [hx]
                cases hd : oe.dst with
                | none => simpa [Act.put] using k1
                | some d =>
                  have hne : d ≠ t := fun e => hdt (by rw [hd, e])
                  simp [Act.put, hne, k1]
            have := any_frontP (Q := Q) he hok (fun j => j ≠ i ∧ late j) (fun j o hj ho => hq j o hj.1 hj.2 ho) hK fuel _ c' w' a' (hl.set hi) hfuel hno' (fun j hj hn => by
              by_cases hji : j = i
              · exact absurd ((isOn_set (by rw [hl.size]; exact h1)).2 (.inl hji.symm)) hn
              · rcases Classical.em (late j) with h' | h'
                · exact ⟨hji, h'⟩
                · exact absurd ((isOn_set (by rw [hl.size]; exact h1)).2 (.inr (h4 j (hanc j hj hji h')))) hn) hm'
            exact any_tail.wpAny_mono (fun e a2 w2 hp => hp.back ht) this
          · intro v v' st' c' a' w' hKp
            exact hKp.elim
        · exact hr.elim
      have hoat : l[i]? = some l[i] := List.getElem?_eq_getElem hil
      generalize l[i] = o at hoat
      have hops : ops[i]? = some o := by rw [he, List.getElem?_append_left hil, hoat]
      obtain ⟨v, hs, hlk⟩ := hst i o hie hoat
      have hd1 : ∀ d, o.dst = some d → d < g.N.n := fun d e => by
        have := hok.dsts
        unfold dstsOk at this
        rw [List.all_eq_true] at this
        have := this o (List.mem_iff_getElem?.2 ⟨_, hops⟩)
        rw [e] at this
        simpa using this
      have hfuel : fuel = left (listed.setIfInBounds i true) (listed.setIfInBounds i true).size := by
        have := left_set (by rw [hl.size]; exact h1) h2
        simp; omega
      have hno' : ∀ j, l.length ≤ j → j < ops.length → ¬ isOn (listed.setIfInBounds i true) j := fun j hj hj2 => by
        rw [isOn_set (by rw [hl.size]; exact h1)]
        rintro (rfl | h')
        · omega
        · exact hno j hj hj2 h'
      -- the temporaries behind the operation
      have hmid : ∀ (c' : Ctx) (a' : Act) (w' : World) (u u' : Value), c.le c' → HRel c' E.H w' → DRel g.N.B c' E.H w' E.defs a'.defers → a'.tmps = (a.put o.dst u).tmps → (∀ d, o.dst = some d → u = u' ∧ VRel c' v u') → Mid g l E (listed.setIfInBounds i true) c' w' a' := by
        intro c' a' w' u u' hle hh hdf ht hu
        refine ⟨hh, ?_, ?_, hdf⟩
        · rw [ht, ← hm.size]; cases o.dst <;> simp [Act.put]
        · intro t x e hx
          by_cases hdt : o.dst = some t
          · have := hlk t hdt
            rw [e] at this; cases this
            obtain ⟨rfl, hv⟩ := hu t hdt
            refine ⟨u, ?_, hv⟩
            rw [ht, hdt]
            simp [Act.put, hm.size, hd1 t hdt]
          · obtain ⟨x', k1, k2⟩ := hm.tmps t x e (fun j o' ho' hd' => by
              have := hx j o' ho' hd'
              rw [isOn_set (by rw [hl.size]; exact h1)] at this
              rcases this with rfl | h'
              · rw [hoat] at ho'; cases ho'; exact absurd hd' hdt
              · exact h')
            refine ⟨x', ?_, k2.mono hle⟩
            rw [ht]
            cases hd : o.dst with
            | none => simpa [Act.put] using k1
            | some d =>
              have hne : d ≠ t := fun e => hdt (by rw [hd, e])
              simp [Act.put, hne, k1]
      have hs1 : SRel g.N c (E.only ops o) w a := by
        refine ⟨hm.heap, hm.size, fun t x e => ?_, hm.defs⟩
        obtain ⟨h5, h6⟩ := lk_restrict e
        refine hm.tmps t x h6 (fun j o' ho' hd' => ?_)
        have hjl := (List.getElem?_eq_some_iff.1 ho').1
        exact h4 j (hok.reads i j o o' t hil hjl hops (by rw [he, List.getElem?_append_left hjl, ho']) hd' h5)
      unfold wpOpIn
      have hoa : ops.toArray[i]? = some o := by simpa using hops
      simp only [hoa]
      rcases wantW_elim hs1 hs with ⟨hw, hr⟩ | ⟨hw, hr⟩
      · rw [if_pos hw]
        refine opW_ok hd1 hr c w a _ _ hs1 ?_ ?_
        · rintro st' c' a' w' ⟨hH, hdf, hl'⟩ hs' ht ⟨hle, u, hu⟩
          have hm' : Mid g l E (listed.setIfInBounds i true) c' w' a' := by
            have hh := hs'.heap
            rw [hH] at hh
            have hd' := hs'.defs
            rw [hdf, hH] at hd'
            refine hmid c' a' w' u u hle hh hd' hu (fun d hd => ⟨rfl, ?_⟩)
            obtain ⟨x, k1, k2⟩ := hs'.tmps d v (hl' d hd)
            rw [hu, hd] at k1
            simp [Act.put, hm.size, hd1 d hd] at k1
            rw [k1]; exact k2
          have := ih _ c' w' a' (hl.set hi) hfuel hno' (fun h' => by rcases (isOn_set (by rw [hl.size]; exact h1)).1 h' with h' | h'; exact hie h'; exact he' h') hm'
          rw [hH] at ht
          exact any_tail.wpAny_mono (fun e a2 w2 hp => hp.back ht) this
        · intro v v' st' c' a' w' hKp
          exact hKp.elim
      · rw [if_neg (by rw [hw]; simp)]
        refine ⟨about_any g.lr, ?_⟩
        subst hr
        refine ih _ c w _ (hl.set hi) hfuel hno' (fun h' => by rcases (isOn_set (by rw [hl.size]; exact h1)).1 h' with h' | h'; exact hie h'; exact he' h') (hmid c _ w undef undef (Ctx.le_refl c) hm.heap ?_ rfl (fun d hd => ⟨rfl, .tuple .nil⟩))
        have : (a.put o.dst undef).defers = a.defers := by cases o.dst <;> rfl
        rw [this]; exact hm.defs


def effOkF (ops : List Oper) (k e : Nat) (late : List Nat) : Bool :=
  decide (e < k) && (allLt k fun i => decide (i = e) || late.contains i || ((ancs ops []).getD e []).contains i) &&
  (match ops[e]? with
  | none => false
  | some oe => oe.guard.isNone && allLt k fun i => decide (i = e) || (match ops[i]?, oe.dst with
    | some o, some d => !(reads ops o).contains d
    | _, _ => true))

theorem AWP.regionF {st : ASt} {id : Nat} {ops : List Oper} (k e : Nat) (late : List Nat) {oe : Oper} (hm : g.P.follows .mixedOrders = true) (hk : k ≤ ops.length) (hok : anyOk g.N.n ops k = true) (hee : effOkF ops k e late = true) (hoe : ops[e]? = some oe)
    (h : quietW g ops (ops.take e ++ (ops.take k).drop (e + 1)) st (fun E => opW g oe (E.only ops oe) (fun s => s.defs = E.defs ∧ wth (dstV oe s) fun u =>
      keepW g ops (pickO ops late) ⟨(E.put oe.dst u).env, E.defs, s.H⟩ ∧ regionW g ops (ops.drop k) ⟨(E.put oe.dst u).env, E.defs, s.H⟩ (fun st' => Q .normal st') (fun v st' => Q (.panic v) st')) (fun _ _ => False))) :
    AWP g (.region id ops.toArray true) Q st := by
  intro c w a hs
  have hok := AnyOk.of hok
  unfold effOkF at hee
  simp only [Bool.and_eq_true, decide_eq_true_eq, hoe] at hee
  obtain ⟨⟨hek, hanc⟩, hgd, hrd⟩ := hee
  have hanc' : ∀ i, i < k → i ≠ e → ¬ i ∈ late → i ∈ (ancs ops []).getD e [] := fun i hi hie hil => by
    have := allLt_spec hanc i hi
    simpa [hie, hil] using this
  have hrd' : ∀ i o d, i < k → i ≠ e → ops[i]? = some o → oe.dst = some d → ¬ d ∈ reads ops o := fun i o d hi hie ho hd hmem => by
    have := allLt_spec hrd i hi
    rw [ho, hd] at this
    simp [hie, hmem] at this
  let l := ops.take k
  let t := ops.drop k
  have hlt : ops = l ++ t := (List.take_append_drop k ops).symm
  have hll : l.length = k := by simp [l]; omega
  have hlops : ∀ i o, l[i]? = some o → ops[i]? = some o ∧ i < k := fun i o ho => by
    have hi := (List.getElem?_eq_some_iff.1 ho).1
    rw [hlt, List.getElem?_append_left hi]; exact ⟨ho, by omega⟩
  have hopsl : ∀ i, i < k → l[i]? = ops[i]? := fun i hi => List.getElem?_take_of_lt hi
  let lq := ops.take e ++ l.drop (e + 1)
  have hle : (ops.take e).length = e := by simp; omega
  have hqlen : lq.length = k - 1 := by simp [lq]; omega
  let up : Nat → Nat := fun m => if m < e then m else m + 1
  have hup : ∀ m o, lq[m]? = some o → ops[up m]? = some o ∧ up m < k ∧ up m ≠ e := fun m o hmo => by
    have hml := (List.getElem?_eq_some_iff.1 hmo).1
    by_cases hme : m < e
    · have : up m = m := if_pos hme
      rw [this]
      simp only [lq] at hmo
      rw [List.getElem?_append_left (by omega), List.getElem?_take_of_lt hme] at hmo
      exact ⟨hmo, by omega, by omega⟩
    · have : up m = m + 1 := if_neg hme
      rw [this]
      simp only [lq] at hmo
      rw [List.getElem?_append_right (by omega), hle, List.getElem?_drop] at hmo
      have e2 : e + 1 + (m - e) = m + 1 := by omega
      rw [e2] at hmo
      exact ⟨(hlops _ _ hmo).1, by omega, by omega⟩
  have hdn : ∀ i o, i ≠ e → l[i]? = some o → ∃ m, lq[m]? = some o ∧ up m = i := fun i o hie ho => by
    have hi := (hlops i o ho)
    by_cases h' : i < e
    · refine ⟨i, ?_, if_pos h'⟩
      simp only [lq]
      rw [List.getElem?_append_left (by omega), List.getElem?_take_of_lt h']; exact hi.1
    · refine ⟨i - 1, ?_, ?_⟩
      · simp only [lq]
        rw [List.getElem?_append_right (by omega), hle, List.getElem?_drop]
        rw [show e + 1 + (i - 1 - e) = i by omega]; exact ho
      · show (if i - 1 < e then i - 1 else i - 1 + 1) = i
        rw [if_neg (by omega)]; omega
  have hupmono : ∀ m m', up m < up m' → m < m' := fun m m' h' => by
    simp only [up] at h'
    split at h' <;> split at h' <;> omega
  have hupinj : ∀ m m', up m = up m' → m = m' := fun m m' h' => by
    simp only [up] at h'
    split at h' <;> split at h' <;> omega
  obtain ⟨vs, hvl0, hK, hst⟩ := quietW_elim h
  have hvl : vs.length = lq.length := hvl0
  have hH : (puts lq vs st).H = st.H := puts_H lq vs st
  have hD : (puts lq vs st).defs = st.defs := puts_defs lq vs st
  have huniq : ∀ (m : Nat) (p : Oper) (d : Tmp), lq[m]? = some p → p.dst = some d → ∀ (m' : Nat) o', lq[m']? = some o' → o'.dst = some d → m' = m := fun m p d hm hp m' o' hm' hd' => by
    obtain ⟨a1, a2, _⟩ := hup m p hm
    obtain ⟨b1, b2, _⟩ := hup m' o' hm'
    exact hupinj _ _ (hok.apart _ _ o' p d b2 a2 b1 a1 hp hd')
  refine wpIn_region_any hm ?_
  obtain ⟨hh, ht⟩ := hs.heap.drew g.n0
  have := any_frontF (g := g) (Q := Q) (ops := ops) (l := l) (t := t) hlt (by rw [hll]; exact hok) (E := puts lq vs st) e oe (by rw [hopsl e hek]; exact hoe) (fun i => i ∈ late) (by rw [hll]; exact hanc') ?_ _ ⟨by simpa using hgd, hK⟩ ?_ ops.length (Array.replicate ops.length false) c w.drew a ?_ ?_ ?_ ?_ ?_
  · rw [hH] at this
    have := any_tail.wpAny_mono (fun e a2 w2 hp => hp.back ht) this
    simpa using this
  · intro i o hie ho
    obtain ⟨m, hmo, hum⟩ := hdn i o hie ho
    have hml := (List.getElem?_eq_some_iff.1 hmo).1
    have hv : vs[m]? = some (vs[m]'(by omega)) := List.getElem?_eq_getElem (by omega)
    generalize vs[m]'(by omega) = v at hv
    obtain ⟨a1, a2, a3⟩ := hup m o hmo
    refine ⟨v, ?_, fun d hd => ?_⟩
    · have hs1 := hst m o v hmo hv
      have : (puts (lq.take m) (vs.take m) st).only ops o = (puts lq vs st).only ops o := by
        unfold ASt.only
        rw [puts_H, puts_H, puts_defs, puts_defs, restrict_congr (e1 := (puts (lq.take m) (vs.take m) st).env) (e2 := (puts lq vs st).env)]
        intro d hd
        by_cases hex : ∃ (j : Nat) (p : Oper), lq[j]? = some p ∧ p.dst = some d
        · obtain ⟨j, p, hj, hp⟩ := hex
          have hjl := (List.getElem?_eq_some_iff.1 hj).1
          obtain ⟨b1, b2, b3⟩ := hup j p hj
          have hja := hok.reads _ _ o p d a2 b2 a1 b1 hp hd
          have hji : j < m := hupmono _ _ (anc_lt hok _ _ hja)
          have hvj : vs[j]? = some (vs[j]'(by omega)) := List.getElem?_eq_getElem (by omega)
          have hun := huniq j p d hj hp
          rw [puts_lk_some lq vs st d j p _ hj hvj hp (fun m' o' h1 h2 => hun m' o' h1 h2)]
          refine puts_lk_some _ _ st d j p _ (by rw [List.getElem?_take_of_lt hji]; exact hj) (by rw [List.getElem?_take_of_lt hji]; exact hvj) hp (fun m' o' hm' hd' => ?_)
          rw [List.getElem?_take] at hm'
          split at hm'
          · exact hun m' o' hm' hd'
          · cases hm'
        · rw [puts_lk_none lq vs st d (fun o' ho' hd' => by
            obtain ⟨j, hj⟩ := List.mem_iff_getElem?.1 ho'
            exact hex ⟨j, o', hj, hd'⟩)]
          refine puts_lk_none _ _ st d (fun o' ho' hd' => ?_)
          obtain ⟨j, hj⟩ := List.mem_iff_getElem?.1 (List.mem_of_mem_take ho')
          exact hex ⟨j, o', hj, hd'⟩
      unfold stepW at hs1 ⊢
      rw [this, puts_H, puts_defs] at hs1
      rw [hH, hD]
      exact hs1
    · exact puts_lk_some lq vs st d m o v hmo hv hd (fun m' o' h1 h2 => huniq m o d hmo hd m' o' h1 h2)
  · rintro s ⟨hdf, hu⟩
    obtain ⟨u, hu1, hkp, hr⟩ := wth_elim hu
    refine ⟨hdf, u, fun d hd => by unfold dstV at hu1; rw [hd] at hu1; exact hu1, fun i o hie hil ho => ?_, hr⟩
    obtain ⟨d, v, k1, k2, k3⟩ := keepW_elim hkp o (pickO_mem (hlops i o ho).1 hil)
    exact ⟨v, k3, fun d' hd' => by rw [k1] at hd'; cases hd'; exact k2⟩
  · refine ⟨by simp, fun j o ho hj => ?_⟩
    exact absurd hj (not_isOn_replicate _ _)
  · have := left_eq (listed := Array.replicate ops.length false) (m := 0) (n := ops.length) (Nat.zero_le _) (fun i hi => ⟨fun h => absurd h (not_isOn_replicate _ _), fun h => by omega⟩)
    simpa using this.symm
  · intro i _ hi
    exact not_isOn_replicate _ _
  · exact not_isOn_replicate _ _
  · refine ⟨by rw [hH]; exact hh, hs.size, fun t' x e' hx => ?_, ?_⟩
    · have : lk t' st.env = some x := by
        rw [← e']
        refine (puts_lk_none lq vs st t' (fun o' ho' hd' => ?_)).symm
        obtain ⟨j, hj⟩ := List.mem_iff_getElem?.1 ho'
        obtain ⟨a1, a2, _⟩ := hup j o' hj
        exact absurd (hx (up j) o' (by rw [hopsl _ a2]; exact a1) hd') (not_isOn_replicate _ _)
      exact hs.tmps t' x this
    · rw [hH, hD]
      exact hs.defs.step (n := g.n0) (Ctx.le_refl c) ht
end
end Go.Aw

set_option linter.unusedVariables false
set_option linter.unusedSimpArgs false
namespace Go.Aw
/-- What is claimed of an operation's value. -/
def claimOk (cl : List (Nat × Value)) (j : Nat) (u : Value) : Prop := match lk j cl with | none => True | some v => u = v
def putE (d : Option Tmp) (v : Value) (e : List (Nat × Value)) : List (Nat × Value) := match d with | some d => (d, v) :: e | none => e
def putCl (d : Option Tmp) (v : Option Value) (e : List (Nat × Value)) : List (Nat × Value) := match v with | some v => putE d v e | none => e
/-- The operations in the text's order; of those in mem only what is claimed. -/
def canW (g : Cfg) (ops : List Oper) (mem : List Nat) (cl : List (Nat × Value)) (defs : List ADef) : Nat → List Oper → List (Nat × Value) → (List (Nat × Value) → Prop) → Prop
  | _, [], e, K => K e
  | i, o :: r, e, K => if mem.contains i = true then canW g ops mem cl defs (i + 1) r (putCl o.dst (lk i cl) e) K
      else ∃ v, (∀ H, stepW g ops o ⟨e, defs, H⟩ v) ∧ canW g ops mem cl defs (i + 1) r (putE o.dst v e) K
def memStep (g : Cfg) (ops : List Oper) (cl : List (Nat × Value)) (E : List (Nat × Value)) (defs : List ADef) (j : Nat) (me : List (Nat × Value)) (H : AHeap) (K : List (Nat × Value) → AHeap → Prop) : Prop :=
  wth ops[j]? fun o => wantW ops o ⟨restrict (me ++ E) (reads ops o), defs, H⟩
    (opW g o ⟨restrict (me ++ E) (reads ops o), defs, H⟩ (fun s => s.defs = defs ∧ wth (dstV o s) fun u => claimOk cl j u ∧ K (putE o.dst u me) s.H) (fun _ _ => False))
    (claimOk cl j noVal ∧ K (putE o.dst noVal me) H)
def runM (g : Cfg) (ops : List Oper) (cl : List (Nat × Value)) (E : List (Nat × Value)) (defs : List ADef) : List Nat → List (Nat × Value) → AHeap → (List (Nat × Value) → AHeap → Prop) → Prop
  | [], me, H, K => K me H
  | j :: r, me, H, K => memStep g ops cl E defs j me H fun me H => runM g ops cl E defs r me H K
def memW (g : Cfg) (ops : List Oper) (cl : List (Nat × Value)) (E : List (Nat × Value)) (defs : List ADef) : Tr → List (Nat × Value) → AHeap → (List (Nat × Value) → AHeap → Prop) → Prop
  | .run l, me, H, K => runM g ops cl E defs l me H K
  | .step j t, me, H, K => memStep g ops cl E defs j me H fun me H => memW g ops cl E defs t me H K
  | .both a b, me, H, K => memW g ops cl E defs a me H K ∧ memW g ops cl E defs b me H K
/-- What of mem may come next. -/
def enabledM (ops : List Oper) (mem L : List Nat) : List Nat := mem.filter fun i => !L.contains i && mem.all fun j => !((ancs ops []).getD i []).contains j || L.contains j
def okRunM (ops : List Oper) (mem : List Nat) : List Nat → List Nat → Bool
  | _, [] => true
  | L, j :: r => (enabledM ops mem L).contains j && ((enabledM ops mem (j :: L)).all fun i => (r.take 1).contains i) && okRunM ops mem (j :: L) r
def okM (ops : List Oper) (mem : List Nat) : List Nat → Tr → Bool
  | L, .run l => okRunM ops mem L l
  | L, .step j t => (enabledM ops mem L).contains j && ((enabledM ops mem (j :: L)).all fun i => t.firsts.contains i) && okM ops mem (j :: L) t
  | L, .both a b => okM ops mem L a && okM ops mem L b
def visOk (ops : List Oper) (k : Nat) (mem : List Nat) (cl : List (Nat × Value)) : Bool :=
  mem.all fun j => decide (j < k) && (match ops[j]? with
    | some p => (match p.dst with
      | some d => (lk j cl).isSome || allLt k fun i => mem.contains i || (match ops[i]? with | some o => !(reads ops o).contains d | none => true)
      | none => true)
    | none => true)
def treeOkM (ops : List Oper) (mem : List Nat) (t : Tr) : Bool := ((enabledM ops mem []).all fun i => t.firsts.contains i) && okM ops mem [] t
theorem lk_append {t : Nat} {a b : List (Nat × Value)} : lk t (a ++ b) = match lk t a with | some v => some v | none => lk t b := by
  induction a with
  | nil => rfl
  | cons e r ih =>
    obtain ⟨k, v⟩ := e
    simp only [List.cons_append, lk_cons]
    split
    · rfl
    · exact ih
theorem lk_putE {t : Nat} {d : Option Tmp} {v : Value} {e : List (Nat × Value)} : lk t (putE d v e) = if d = some t then some v else lk t e := by
  cases d with
  | none => simp [putE]
  | some d => simp [putE, lk_cons]
theorem pickM {g : Cfg} {ops : List Oper} {mem : List Nat} {cl E : List (Nat × Value)} {defs : List ADef} {K : List (Nat × Value) → AHeap → Prop} {me : List (Nat × Value)} {H : AHeap} {L : List Nat} {j : Nat} : ∀ (t : Tr), okM ops mem L t = true → memW g ops cl E defs t me H K → j ∈ t.firsts →
    ∃ t', (∀ i ∈ enabledM ops mem (j :: L), i ∈ t'.firsts) ∧ okM ops mem (j :: L) t' = true ∧ memStep g ops cl E defs j me H fun me H => memW g ops cl E defs t' me H K
  | .run [], _, _, hj => by simp [Tr.firsts] at hj
  | .run (i :: r), hok, ht, hj => by
    simp [Tr.firsts] at hj
    subst hj
    simp only [okM, okRunM, Bool.and_eq_true] at hok
    refine ⟨.run r, fun i hi => ?_, hok.2, ht⟩
    have := List.all_eq_true.1 hok.1.2 i hi
    simpa [Tr.firsts] using this
  | .step i t, hok, ht, hj => by
    simp [Tr.firsts] at hj
    subst hj
    simp only [okM, Bool.and_eq_true] at hok
    refine ⟨t, fun i hi => ?_, hok.2, ht⟩
    have := List.all_eq_true.1 hok.1.2 i hi
    simpa using this
  | .both a b, hok, ht, hj => by
    simp only [okM, Bool.and_eq_true] at hok
    unfold memW at ht
    simp only [Tr.firsts, List.mem_append] at hj
    rcases hj with hj | hj
    · exact pickM a hok.1 ht.1 hj
    · exact pickM b hok.2 ht.2 hj
theorem doneM {g : Cfg} {ops : List Oper} {mem : List Nat} {cl E : List (Nat × Value)} {defs : List ADef} {K : List (Nat × Value) → AHeap → Prop} {me : List (Nat × Value)} {H : AHeap} {L : List Nat} (hL : enabledM ops mem L = []) : ∀ (t : Tr), okM ops mem L t = true → memW g ops cl E defs t me H K → K me H
  | .run [], _, ht => ht
  | .run (i :: r), hok, _ => by
    simp only [okM, okRunM, Bool.and_eq_true, hL] at hok
    simp at hok
  | .step i t, hok, _ => by
    simp only [okM, Bool.and_eq_true, hL] at hok
    simp at hok
  | .both a b, hok, ht => by
    simp only [okM, Bool.and_eq_true] at hok
    exact doneM hL a hok.1 ht.1
structure MidM (g : Cfg) (l : List Oper) (mem : List Nat) (cl E : List (Nat × Value)) (defs : List ADef) (me : List (Nat × Value)) (H : AHeap) (listed : Array Bool) (c : Ctx) (w : World) (a : Act) : Prop where
  heap : HRel c H w
  size : a.tmps.size = g.N.n
  tmps : ∀ t v, lk t (me ++ E) = some v → (∀ (i : Nat) o, l[i]? = some o → o.dst = some t → isOn listed i) → ∃ v', a.tmps[t]? = some v' ∧ VRel c v v'
  defs : DRel g.N.B c H w defs a.defers
  me : ∀ d v, lk d me = some v → ∃ j p, j ∈ mem ∧ l[j]? = some p ∧ p.dst = some d ∧ claimOk cl j v
section
variable {g : Cfg} {Q : AExit → ASt → Prop}
theorem any_frontM {ops l t : List Oper} (he : ops = l ++ t) (hok : AnyOk g.N.n ops l.length) {mem : List Nat} {cl E : List (Nat × Value)} {defs : List ADef}
    (hpure : ∀ (i : Nat) o, ¬ i ∈ mem → l[i]? = some o → ∃ v, (∀ H, stepW g ops o ⟨E, defs, H⟩ v) ∧ ∀ d, o.dst = some d → lk d E = some v)
    (hcl : ∀ (j : Nat) v o d, j ∈ mem → lk j cl = some v → l[j]? = some o → o.dst = some d → lk d E = some v) (hmem : ∀ j ∈ mem, j < l.length)
    (hvis : ∀ (i j : Nat) o p d, ¬ i ∈ mem → j ∈ mem → l[i]? = some o → l[j]? = some p → p.dst = some d → d ∈ reads ops o → (lk j cl).isSome = true)
    {K : List (Nat × Value) → AHeap → Prop} (hK : ∀ me H, K me H → regionW g ops t ⟨me ++ E, defs, H⟩ (fun st' => Q .normal st') (fun v st' => Q (.panic v) st')) :
    ∀ (fuel : Nat) (tr : Tr) (done : List Nat) (me : List (Nat × Value)) (H : AHeap) (listed : Array Bool) (c : Ctx) (w : World) (a : Act), Lst ops listed → fuel = left listed listed.size → (∀ i, l.length ≤ i → i < ops.length → ¬ isOn listed i) →
      (∀ j ∈ mem, (isOn listed j ↔ j ∈ done)) → (∀ i ∈ enabledM ops mem done, i ∈ tr.firsts) → okM ops mem done tr = true → memW g ops cl E defs tr me H K → MidM g l mem cl E defs me H listed c w a →
      wpAnyIn (fenceOf g.lr) 0 g.P .any ops.toArray (APost g Q c H w) fuel listed a w := by
  have hlen : ops.length = l.length + t.length := by rw [he]; simp
  have hfin : ∀ (tr : Tr) (done : List Nat) (me : List (Nat × Value)) (H : AHeap) (listed : Array Bool) (c : Ctx) (w : World) (a : Act), Lst ops listed → (∀ i, l.length ≤ i → i < ops.length → ¬ isOn listed i) → (∀ j ∈ mem, (isOn listed j ↔ j ∈ done)) → okM ops mem done tr = true → memW g ops cl E defs tr me H K →
      MidM g l mem cl E defs me H listed c w a → (∀ i, i < l.length → isOn listed i) → wpAnyIn (fenceOf g.lr) 0 g.P .any ops.toArray (APost g Q c H w) (left listed listed.size) listed a w := by
    intro tr done me H listed c w a hl hno hdn hokM hw hm hall
    have hon : ∀ i, i < ops.length → (isOn listed i ↔ i < l.length) := fun i hi => by
      rcases Nat.lt_or_ge i l.length with h' | h'
      · exact ⟨fun _ => h', fun _ => hall i h'⟩
      · exact ⟨fun h => absurd h (hno i h' hi), fun h => by omega⟩
    have hnil : enabledM ops mem done = [] := by
      apply List.eq_nil_iff_forall_not_mem.2
      intro i hi
      obtain ⟨h1, h2⟩ := List.mem_filter.1 hi
      have h3 := (hdn i h1).1 (hall i (hmem i h1))
      simp [h3] at h2
    have hk := hK me H (doneM hnil tr hokM hw)
    refine any_tail hok t l listed _ ⟨me ++ E, defs, H⟩ he (Nat.le_refl _) hl hon ?_ hk c w a ⟨hm.heap, hm.size, fun t v e => hm.tmps t v e (fun i o ho _ => hall i (List.getElem?_eq_some_iff.1 ho).1), hm.defs⟩
    rw [hl.size, left_eq (m := l.length) (by omega) hon]; omega
  intro fuel
  induction fuel with
  | zero =>
    intro tr done me H listed c w a hl hf hno hdn hfi hokM hw hm
    by_cases hall : ∀ i, i < l.length → isOn listed i
    · have := hfin tr done me H listed c w a hl hno hdn hokM hw hm hall
      rwa [← hf] at this
    · exfalso
      apply hall
      intro i hi
      rcases Classical.em (isOn listed i) with h' | h'
      · exact h'
      · have := left_set (by rw [hl.size]; omega) h'
        omega
  | succ fuel ih =>
    intro tr done me H listed c w a hl hf hno hdn hfi hokM hw hm
    by_cases hall : ∀ i, i < l.length → isOn listed i
    · have := hfin tr done me H listed c w a hl hno hdn hokM hw hm hall
      rwa [← hf] at this
    refine ⟨fun hnil => ?_, fun i hi => ?_⟩
    · apply absurd hall
      intro hall
      apply hall
      intro i hi
      rcases Classical.em (isOn listed i) with h' | h'
      · exact h'
      · exact absurd hnil (hl.some_ready hok (by omega) h')
    obtain ⟨h1, h2, _, h4⟩ := hl.ready hi
    have hil : i < l.length := by
      rcases Nat.lt_or_ge i l.length with h' | h'
      · exact h'
      · exact absurd (fun j hj => h4 j (hok.tail j i h' h1 (by omega))) hall
    have hoat : l[i]? = some l[i] := List.getElem?_eq_getElem hil
    generalize l[i] = o at hoat
    have hops : ops[i]? = some o := by rw [he, List.getElem?_append_left hil, hoat]
    have hd1 : ∀ d, o.dst = some d → d < g.N.n := fun d e => by
      have := hok.dsts
      unfold dstsOk at this
      rw [List.all_eq_true] at this
      have := this o (List.mem_iff_getElem?.2 ⟨_, hops⟩)
      rw [e] at this
      simpa using this
    have hfuel : fuel = left (listed.setIfInBounds i true) (listed.setIfInBounds i true).size := by
      have := left_set (by rw [hl.size]; exact h1) h2
      simp; omega
    have hno' : ∀ j, l.length ≤ j → j < ops.length → ¬ isOn (listed.setIfInBounds i true) j := fun j hj hj2 => by
      rw [isOn_set (by rw [hl.size]; exact h1)]
      rintro (rfl | h')
      · omega
      · exact hno j hj hj2 h'
    have hapart : ∀ (j k : Nat) (p q : Oper) (d : Nat), l[j]? = some p → l[k]? = some q → p.dst = some d → q.dst = some d → j = k := fun j k p q d hj hk hp hq => by
      have hjl := (List.getElem?_eq_some_iff.1 hj).1
      have hkl := (List.getElem?_eq_some_iff.1 hk).1
      exact hok.apart j k p q d hjl hkl (by rw [he, List.getElem?_append_left hjl, hj]) (by rw [he, List.getElem?_append_left hkl, hk]) hq hp
    have hread : ∀ (j : Nat) (p : Oper) (d : Nat), l[j]? = some p → p.dst = some d → d ∈ reads ops o → isOn listed j := fun j p d hj hp hd => by
      have hjl := (List.getElem?_eq_some_iff.1 hj).1
      exact h4 j (hok.reads i j o p d hil hjl hops (by rw [he, List.getElem?_append_left hjl, hj]) hp hd)
    have hs0 : ∀ e : List (Nat × Value), (∀ d ∈ reads ops o, lk d e = lk d (me ++ E)) → SRel g.N c ⟨restrict e (reads ops o), defs, H⟩ w a := fun e hee => by
      refine ⟨hm.heap, hm.size, fun t x e2 => ?_, hm.defs⟩
      obtain ⟨h5, h6⟩ := lk_restrict e2
      rw [hee t h5] at h6
      exact hm.tmps t x h6 (fun j p hj hp => hread j p t hj hp h5)
    have hoa : ops.toArray[i]? = some o := by simpa using hops
    have hon : ∀ j, isOn (listed.setIfInBounds i true) j ↔ i = j ∨ isOn listed j := fun j => isOn_set (by rw [hl.size]; exact h1)
    by_cases him : i ∈ mem
    · -- an operation of the tree
      have hie : i ∈ enabledM ops mem done := by
        refine List.mem_filter.2 ⟨him, ?_⟩
        have hnd : ¬ i ∈ done := fun h => h2 ((hdn i him).2 h)
        simp only [Bool.and_eq_true, Bool.not_eq_true', List.all_eq_true, Bool.or_eq_true]
        refine ⟨by simpa using hnd, fun j hj => ?_⟩
        rcases hc : ((ancs ops []).getD i []).contains j with _ | _
        · exact .inl rfl
        · refine .inr ?_
          have := h4 j (by simpa using hc)
          simpa using (hdn j hj).1 this
      obtain ⟨t', hfi', hok', hst⟩ := pickM tr hokM hw (hfi i hie)
      unfold memStep at hst
      rw [hops, wth_some] at hst
      have hs1 := hs0 (me ++ E) (fun d _ => rfl)
      have hdn' : ∀ j ∈ mem, (isOn (listed.setIfInBounds i true) j ↔ j ∈ i :: done) := fun j hj => by
        rw [hon, hdn j hj]; simp [eq_comm]
      have hmid : ∀ (c' : Ctx) (a' : Act) (w' : World) (H' : AHeap) (u u' : Value), c.le c' → HRel c' H' w' → DRel g.N.B c' H' w' defs a'.defers → a'.tmps = (a.put o.dst u').tmps → (∀ d, o.dst = some d → VRel c' u u') → claimOk cl i u →
          MidM g l mem cl E defs (putE o.dst u me) H' (listed.setIfInBounds i true) c' w' a' := by
        intro c' a' w' H' u u' hle hh hdf ht hu hc
        refine ⟨hh, ?_, ?_, hdf, ?_⟩
        · rw [ht, ← hm.size]; cases o.dst <;> simp [Act.put]
        · intro x v e hx
          rw [lk_append, lk_putE] at e
          by_cases hdt : o.dst = some x
          · rw [if_pos hdt] at e
            cases e
            refine ⟨u', ?_, hu x hdt⟩
            rw [ht, hdt]
            simp [Act.put, hm.size, hd1 x hdt]
          · rw [if_neg hdt, ← lk_append] at e
            obtain ⟨x', k1, k2⟩ := hm.tmps x v e (fun j p hj hp => by
              rcases (hon j).1 (hx j p hj hp) with rfl | h'
              · rw [hoat] at hj; cases hj; exact absurd hp hdt
              · exact h')
            refine ⟨x', ?_, k2.mono hle⟩
            rw [ht]
            cases hd : o.dst with
            | none => simpa [Act.put] using k1
            | some d =>
              have hne : d ≠ x := fun e => hdt (by rw [hd, e])
              simp [Act.put, hne, k1]
        · intro d v e
          rw [lk_putE] at e
          by_cases hdt : o.dst = some d
          · rw [if_pos hdt] at e
            cases e
            exact ⟨i, o, him, hoat, hdt, hc⟩
          · rw [if_neg hdt] at e
            exact hm.me d v e
      unfold wpOpIn
      simp only [hoa]
      rcases wantW_elim hs1 hst with ⟨hwn, hr⟩ | ⟨hwn, hr⟩
      · rw [if_pos hwn]
        refine opW_ok hd1 hr c w a _ _ hs1 ?_ ?_
        · rintro s c' a' w' ⟨hdf, hu⟩ hs' ht ⟨hle, x, hx⟩
          obtain ⟨u, hdu, hc, hw'⟩ := wth_elim hu
          have hm' : MidM g l mem cl E defs (putE o.dst u me) s.H (listed.setIfInBounds i true) c' w' a' := by
            refine hmid c' a' w' s.H u x hle hs'.heap (by have := hs'.defs; rwa [hdf] at this) hx (fun d hd => ?_) hc
            unfold dstV at hdu
            rw [hd] at hdu
            obtain ⟨y, k1, k2⟩ := hs'.tmps d u hdu
            rw [hx, hd] at k1
            simp [Act.put, hm.size, hd1 d hd] at k1
            rw [k1]; exact k2
          have := ih t' (i :: done) _ s.H _ c' w' a' (hl.set hi) hfuel hno' hdn' hfi' hok' hw' hm'
          exact any_tail.wpAny_mono (fun e a2 w2 hp => hp.back ht) this
        · intro v v' st' c' a' w' hKp
          exact hKp.elim
      · rw [if_neg (by rw [hwn]; simp)]
        refine ⟨about_any g.lr, ?_⟩
        refine ih t' (i :: done) _ H _ c w _ (hl.set hi) hfuel hno' hdn' hfi' hok' hr.2 (hmid c _ w H noVal undef (Ctx.le_refl c) hm.heap ?_ rfl (fun d hd => .tuple .nil) hr.1)
        have : (a.put o.dst undef).defers = a.defers := by cases o.dst <;> rfl
        rw [this]; exact hm.defs
    · -- an operation that leaves memory alone
      obtain ⟨v, hs, hlk⟩ := hpure i o him hoat
      have hs := hs H
      have hee : ∀ d ∈ reads ops o, lk d E = lk d (me ++ E) := fun d hd => by
        rw [lk_append]
        cases hme : lk d me with
        | none => rfl
        | some u =>
          obtain ⟨j, p, hj, hp, hpd, hc⟩ := hm.me d u hme
          have hsome := hvis i j o p d him hj hoat hp hpd hd
          unfold claimOk at hc
          cases hlj : lk j cl with
          | none => rw [hlj] at hsome; cases hsome
          | some x =>
            rw [hlj] at hc
            simp only at hc
            rw [hcl j x p d hj hlj hp hpd, hc]
      have hs1 : SRel g.N c (ASt.only ops o ⟨E, defs, H⟩) w a := hs0 E hee
      have hdn' : ∀ j ∈ mem, (isOn (listed.setIfInBounds i true) j ↔ j ∈ done) := fun j hj => by
        rw [hon, hdn j hj]
        exact ⟨fun h => h.elim (fun e => absurd (e ▸ hj) him) id, .inr⟩
      have hmid : ∀ (c' : Ctx) (a' : Act) (w' : World) (u : Value), c.le c' → HRel c' H w' → DRel g.N.B c' H w' defs a'.defers → a'.tmps = (a.put o.dst u).tmps → (∀ d, o.dst = some d → VRel c' v u) → MidM g l mem cl E defs me H (listed.setIfInBounds i true) c' w' a' := by
        intro c' a' w' u hle hh hdf ht hu
        refine ⟨hh, ?_, ?_, hdf, hm.me⟩
        · rw [ht, ← hm.size]; cases o.dst <;> simp [Act.put]
        · intro x y e hx
          by_cases hdt : o.dst = some x
          · have e2 : lk x (me ++ E) = some v := by
              rw [lk_append]
              cases hme : lk x me with
              | none => exact hlk x hdt
              | some z =>
                obtain ⟨j, p, hj, hp, hpd, _⟩ := hm.me x z hme
                exact absurd (hapart j i p o x hp hoat hpd hdt ▸ hj) him
            rw [e2] at e; cases e
            refine ⟨u, ?_, hu x hdt⟩
            rw [ht, hdt]
            simp [Act.put, hm.size, hd1 x hdt]
          · obtain ⟨x', k1, k2⟩ := hm.tmps x y e (fun j p hj hp => by
              rcases (hon j).1 (hx j p hj hp) with rfl | h'
              · rw [hoat] at hj; cases hj; exact absurd hp hdt
              · exact h')
            refine ⟨x', ?_, k2.mono hle⟩
            rw [ht]
            cases hd : o.dst with
            | none => simpa [Act.put] using k1
            | some d =>
              have hne : d ≠ x := fun e => hdt (by rw [hd, e])
              simp [Act.put, hne, k1]
      unfold wpOpIn
      simp only [hoa]
      unfold stepW at hs
      rcases wantW_elim hs1 hs with ⟨hwn, hr⟩ | ⟨hwn, hr⟩
      · rw [if_pos hwn]
        refine opW_ok hd1 hr c w a _ _ hs1 ?_ ?_
        · rintro s c' a' w' ⟨hH, hdf, hl'⟩ hs' ht ⟨hle, x, hx⟩
          have hH : s.H = H := hH
          have hdf : s.defs = defs := hdf
          have hm' : MidM g l mem cl E defs me H (listed.setIfInBounds i true) c' w' a' := by
            have hh := hs'.heap
            rw [hH] at hh
            have hd' := hs'.defs
            rw [hdf, hH] at hd'
            refine hmid c' a' w' x hle hh hd' hx (fun d hd => ?_)
            obtain ⟨y, k1, k2⟩ := hs'.tmps d v (hl' d hd)
            rw [hx, hd] at k1
            simp [Act.put, hm.size, hd1 d hd] at k1
            rw [k1]; exact k2
          have := ih tr done me H _ c' w' a' (hl.set hi) hfuel hno' hdn' hfi hokM hw hm'
          rw [hH] at ht
          exact any_tail.wpAny_mono (fun e a2 w2 hp => hp.back ht) this
        · intro v v' st' c' a' w' hKp
          exact hKp.elim
      · rw [if_neg (by rw [hwn]; simp)]
        refine ⟨about_any g.lr, ?_⟩
        subst hr
        refine ih tr done me H _ c w _ (hl.set hi) hfuel hno' hdn' hfi hokM hw (hmid c _ w undef (Ctx.le_refl c) hm.heap ?_ rfl (fun d hd => .tuple .nil))
        have : (a.put o.dst undef).defers = a.defers := by cases o.dst <;> rfl
        rw [this]; exact hm.defs
/-- What the pass in the text's order gives. -/
theorem canW_elim {ops : List Oper} {mem : List Nat} {cl : List (Nat × Value)} {defs : List ADef} {K : List (Nat × Value) → Prop} : ∀ (l pre : List Oper) (e : List (Nat × Value)), canW g ops mem cl defs pre.length l e K →
    (∀ (i j : Nat) o p d, i < (pre ++ l).length → j < (pre ++ l).length → (pre ++ l)[i]? = some o → (pre ++ l)[j]? = some p → o.dst = some d → p.dst = some d → i = j) →
    (∀ (i j : Nat) o p d, (pre ++ l)[i]? = some o → (pre ++ l)[j]? = some p → p.dst = some d → d ∈ reads ops o → j < i) →
    ∃ E, K E ∧ (∀ d, (∀ o ∈ l, o.dst ≠ some d) → lk d E = lk d e) ∧
      (∀ (i : Nat) o, ¬ (pre.length + i) ∈ mem → l[i]? = some o → ∃ v, (∀ H, stepW g ops o ⟨E, defs, H⟩ v) ∧ ∀ d, o.dst = some d → lk d E = some v) ∧
      (∀ (i : Nat) v o d, (pre.length + i) ∈ mem → lk (pre.length + i) cl = some v → l[i]? = some o → o.dst = some d → lk d E = some v)
  | [], pre, e, h, _, _ => ⟨e, h, fun _ _ => rfl, fun i o _ ho => by simp at ho, fun i v o d _ _ ho => by simp at ho⟩
  | o :: r, pre, e, h, hap, hrd => by
    have hcat : pre ++ o :: r = (pre ++ [o]) ++ r := by simp
    have hat : (pre ++ o :: r)[pre.length]? = some o := by simp
    have hap2 := hap
    have hrd2 := hrd
    rw [hcat] at hap2 hrd2
    have hpl : (pre ++ [o]).length = pre.length + 1 := by simp
    -- no later operation gives what this one gives
    have hlate : ∀ d, o.dst = some d → ∀ q ∈ r, q.dst ≠ some d := fun d hd q hq hqd => by
      obtain ⟨m, hm⟩ := List.mem_iff_getElem?.1 hq
      have hm2 : (pre ++ o :: r)[pre.length + 1 + m]? = some q := by
        rw [List.getElem?_append_right (by omega), show pre.length + 1 + m - pre.length = m + 1 by omega]; exact hm
      have := hap _ _ o q d (by simp) (List.getElem?_eq_some_iff.1 hm2).1 hat hm2 hd hqd
      omega
    unfold canW at h
    by_cases hmm : pre.length ∈ mem
    · rw [if_pos (by simpa using hmm)] at h
      rw [← hpl] at h
      obtain ⟨E, h1, h2, h3, h4⟩ := canW_elim r (pre ++ [o]) _ h hap2 hrd2
      refine ⟨E, h1, fun d hd => ?_, fun i p hi hp => ?_, fun i v p d hi hv hp hd => ?_⟩
      · rw [h2 d (fun q hq => hd q (List.mem_cons_of_mem _ hq))]
        unfold putCl
        cases lk pre.length cl with
        | none => rfl
        | some v =>
          simp only
          rw [lk_putE, if_neg (hd o (List.mem_cons_self ..))]
      · cases i with
        | zero => exact absurd hmm hi
        | succ i => exact h3 i p (by rw [hpl, show pre.length + 1 + i = pre.length + (i + 1) by omega]; exact hi) hp
      · cases i with
        | zero =>
          simp at hp
          subst hp
          rw [h2 d (hlate d hd)]
          unfold putCl
          rw [show lk pre.length cl = some v from hv]
          simp only
          rw [lk_putE, if_pos hd]
        | succ i => exact h4 i v p d (by rw [hpl, show pre.length + 1 + i = pre.length + (i + 1) by omega]; exact hi) (by rw [hpl, show pre.length + 1 + i = pre.length + (i + 1) by omega]; exact hv) hp hd
    · rw [if_neg (by simpa using hmm)] at h
      obtain ⟨v, hv, h⟩ := h
      rw [← hpl] at h
      obtain ⟨E, h1, h2, h3, h4⟩ := canW_elim r (pre ++ [o]) _ h hap2 hrd2
      refine ⟨E, h1, fun d hd => ?_, fun i p hi hp => ?_, fun i v p d hi hv hp hd => ?_⟩
      · rw [h2 d (fun q hq => hd q (List.mem_cons_of_mem _ hq)), lk_putE, if_neg (hd o (List.mem_cons_self ..))]
      · cases i with
        | zero =>
          simp at hp
          subst hp
          refine ⟨v, fun H => ?_, fun d hd => by rw [h2 d (hlate d hd), lk_putE, if_pos hd]⟩
          have hs := hv H
          have : ASt.only ops o ⟨e, defs, H⟩ = ASt.only ops o ⟨E, defs, H⟩ := by
            unfold ASt.only
            simp only
            congr 1
            refine restrict_congr fun d hd => ?_
            rw [h2 d (fun q hq hqd => ?_), lk_putE, if_neg (fun hod => ?_)]
            · have := hrd _ _ o o d hat hat hod hd
              omega
            · obtain ⟨m, hm⟩ := List.mem_iff_getElem?.1 hq
              have hm2 : (pre ++ o :: r)[pre.length + 1 + m]? = some q := by
                rw [List.getElem?_append_right (by omega), show pre.length + 1 + m - pre.length = m + 1 by omega]; exact hm
              have := hrd _ _ o q d hat hm2 hqd hd
              omega
          unfold stepW at hs ⊢
          rw [← this]
          exact hs
        | succ i => exact h3 i p (by rw [hpl, show pre.length + 1 + i = pre.length + (i + 1) by omega]; exact hi) hp
      · cases i with
        | zero => exact absurd hi hmm
        | succ i => exact h4 i v p d (by rw [hpl, show pre.length + 1 + i = pre.length + (i + 1) by omega]; exact hi) (by rw [hpl, show pre.length + 1 + i = pre.length + (i + 1) by omega]; exact hv) hp hd
/-- A drawing region whose first k operations are either of mem (then the tree looks at them), or leave memory alone. -/
theorem AWP.regionM {env : List (Nat × Value)} {defs : List ADef} {H : AHeap} {id : Nat} {ops : List Oper} (k : Nat) (mem : List Nat) (cl : List (Nat × Value)) (tr : Tr) (hm : g.P.follows .mixedOrders = true) (hk : k ≤ ops.length) (hok : anyOk g.N.n ops k = true) (htr : treeOkM ops mem tr = true) (hv : visOk ops k mem cl = true)
    (h : canW g ops mem cl defs 0 (ops.take k) env (fun E => memW g ops cl E defs tr [] H fun me H => regionW g ops (ops.drop k) ⟨me ++ E, defs, H⟩ (fun st' => Q .normal st') (fun v st' => Q (.panic v) st'))) :
    AWP g (.region id ops.toArray true) Q ⟨env, defs, H⟩ := by
  intro c w a hs
  have hok := AnyOk.of hok
  have he : ops = ops.take k ++ ops.drop k := (List.take_append_drop k ops).symm
  have hlk : (ops.take k).length = k := by rw [List.length_take]; omega
  have hget : ∀ (i : Nat) o, (ops.take k)[i]? = some o → i < k ∧ ops[i]? = some o := fun i o ho => by
    have := (List.getElem?_eq_some_iff.1 ho).1
    rw [List.getElem?_take] at ho
    split at ho
    · exact ⟨by assumption, ho⟩
    · cases ho
  obtain ⟨E, hK, hE0, hpure, hcl⟩ := canW_elim (ops.take k) [] env h (fun i j o p d _ _ hi hj hd hd' => by
      rw [List.nil_append] at hi hj
      obtain ⟨i1, i2⟩ := hget i o hi
      obtain ⟨j1, j2⟩ := hget j p hj
      exact hok.apart i j o p d i1 j1 i2 j2 hd' hd) (fun i j o p d hi hj hd hr => by
      rw [List.nil_append] at hi hj
      obtain ⟨i1, i2⟩ := hget i o hi
      obtain ⟨j1, j2⟩ := hget j p hj
      exact anc_lt hok i j (hok.reads i j o p d i1 j1 i2 j2 hd hr))
  simp only [List.length_nil, Nat.zero_add] at hpure hcl
  simp only [treeOkM, Bool.and_eq_true] at htr
  have hvj : ∀ j ∈ mem, j < k ∧ ∀ (p : Oper) (d : Nat), ops[j]? = some p → p.dst = some d → (lk j cl).isSome = true ∨ ∀ (i : Nat) (o : Oper), i < k → ¬ i ∈ mem → ops[i]? = some o → ¬ d ∈ reads ops o := fun j hj => by
    have := List.all_eq_true.1 hv j hj
    simp only [Bool.and_eq_true, decide_eq_true_eq] at this
    refine ⟨this.1, fun p d hp hd => ?_⟩
    have h2 := this.2
    rw [hp] at h2
    simp only [hd, Bool.or_eq_true] at h2
    rcases h2 with h2 | h2
    · exact .inl h2
    · refine .inr fun i o hi him ho hdr => ?_
      have := allLt_spec h2 i hi
      rw [ho] at this
      simp only [Bool.or_eq_true, Bool.not_eq_true'] at this
      rcases this with h3 | h3
      · exact him (by simpa using h3)
      · simp [hdr] at h3
  refine wpIn_region_any hm ?_
  obtain ⟨hh, ht⟩ := hs.heap.drew g.n0
  have := any_frontM (g := g) (Q := Q) (ops := ops) (l := ops.take k) (t := ops.drop k) he (by rw [hlk]; exact hok) (mem := mem) (cl := cl) (E := E) (defs := defs) hpure (fun j v o d hj hv ho hd => hcl j v o d hj hv ho hd) (fun j hj => by rw [hlk]; exact (hvj j hj).1) (fun i j o p d hi hj ho hp hd hr => by
      obtain ⟨i1, i2⟩ := hget i o ho
      obtain ⟨j1, j2⟩ := hget j p hp
      rcases (hvj j hj).2 p d j2 hd with h | h
      · exact h
      · exact absurd hr (h i o i1 hi i2)) (fun me H h => h) ops.length tr [] [] H (Array.replicate ops.length false) c w.drew a ?_ ?_ ?_ ?_ ?_ htr.2 hK ?_
  · have := any_tail.wpAny_mono (fun e a2 w2 hp => hp.back ht) this
    simpa using this
  · refine ⟨by simp, fun j o ho hj => ?_⟩
    exact absurd hj (not_isOn_replicate _ _)
  · have := left_eq (listed := Array.replicate ops.length false) (m := 0) (n := ops.length) (Nat.zero_le _) (fun i hi => ⟨fun h => absurd h (not_isOn_replicate _ _), fun h => by omega⟩)
    simpa using this.symm
  · intro i _ hi
    exact not_isOn_replicate _ _
  · intro j _
    exact ⟨fun h => absurd h (not_isOn_replicate _ _), fun h => by cases h⟩
  · intro i hi
    have := List.all_eq_true.1 htr.1 i hi
    simpa using this
  · refine ⟨hh, hs.size, fun x v e hx => ?_, hs.defs.step (n := g.n0) (Ctx.le_refl c) ht, fun d v e => by cases e⟩
    have e2 : lk x env = some v := by
      rw [← e]
      show lk x env = lk x E
      refine (hE0 x fun o ho hd => ?_).symm
      obtain ⟨j, hj⟩ := List.mem_iff_getElem?.1 ho
      exact absurd (hx j o hj hd) (not_isOn_replicate _ _)
    exact hs.tmps x v e2
theorem canW_nil {ops : List Oper} {mem : List Nat} {cl : List (Nat × Value)} {defs : List ADef} {i : Nat} {e : List (Nat × Value)} {K : List (Nat × Value) → Prop} : canW g ops mem cl defs i [] e K = K e := rfl
theorem canW_cons {ops : List Oper} {mem : List Nat} {cl : List (Nat × Value)} {defs : List ADef} {i : Nat} {o : Oper} {r : List Oper} {e : List (Nat × Value)} {K : List (Nat × Value) → Prop} : canW g ops mem cl defs i (o :: r) e K = if mem.contains i = true then canW g ops mem cl defs (i + 1) r (putCl o.dst (lk i cl) e) K
      else ∃ v, (∀ H, stepW g ops o ⟨e, defs, H⟩ v) ∧ canW g ops mem cl defs (i + 1) r (putE o.dst v e) K := rfl
theorem runM_nil {ops : List Oper} {cl E me : List (Nat × Value)} {defs : List ADef} {H : AHeap} {K : List (Nat × Value) → AHeap → Prop} : runM g ops cl E defs [] me H K = K me H := rfl
theorem runM_cons {ops : List Oper} {cl E me : List (Nat × Value)} {defs : List ADef} {H : AHeap} {K : List (Nat × Value) → AHeap → Prop} {j : Nat} {r : List Nat} : runM g ops cl E defs (j :: r) me H K = memStep g ops cl E defs j me H fun me H => runM g ops cl E defs r me H K := rfl
theorem memW_run {ops : List Oper} {cl E me : List (Nat × Value)} {defs : List ADef} {H : AHeap} {K : List (Nat × Value) → AHeap → Prop} {l : List Nat} : memW g ops cl E defs (.run l) me H K = runM g ops cl E defs l me H K := rfl
theorem memW_step {ops : List Oper} {cl E me : List (Nat × Value)} {defs : List ADef} {H : AHeap} {K : List (Nat × Value) → AHeap → Prop} {j : Nat} {t : Tr} : memW g ops cl E defs (.step j t) me H K = memStep g ops cl E defs j me H fun me H => memW g ops cl E defs t me H K := rfl
theorem memW_both {ops : List Oper} {cl E me : List (Nat × Value)} {defs : List ADef} {H : AHeap} {K : List (Nat × Value) → AHeap → Prop} {a b : Tr} : memW g ops cl E defs (.both a b) me H K = (memW g ops cl E defs a me H K ∧ memW g ops cl E defs b me H K) := rfl
theorem putE_s {d : Nat} {v : Value} {e : List (Nat × Value)} : putE (some d) v e = (d, v) :: e := rfl
theorem putE_n {v : Value} {e : List (Nat × Value)} : putE none v e = e := rfl
theorem putCl_s {d : Option Tmp} {v : Value} {e : List (Nat × Value)} : putCl d (some v) e = putE d v e := rfl
theorem putCl_n {d : Option Tmp} {e : List (Nat × Value)} : putCl d none e = e := rfl
theorem claimOk_cons {k j : Nat} {v u : Value} {r : List (Nat × Value)} : claimOk ((k, v) :: r) j u = if k = j then u = v else claimOk r j u := by
  unfold claimOk
  rw [lk_cons]
  by_cases h : k = j
  · rw [if_pos h, if_pos h]
  · rw [if_neg h, if_neg h]
theorem claimOk_nil {j : Nat} {u : Value} : claimOk [] j u = True := rfl
theorem canW_n {ops : List Oper} {mem : List Nat} {cl : List (Nat × Value)} {defs : List ADef} {i : Nat} {e : List (Nat × Value)} {K : List (Nat × Value) → Prop} (h : K e) : canW g ops mem cl defs i [] e K := h
theorem canW_p {ops : List Oper} {mem : List Nat} {cl : List (Nat × Value)} {defs : List ADef} {i : Nat} {o : Oper} {r : List Oper} {e : List (Nat × Value)} {K : List (Nat × Value) → Prop} (hm : mem.contains i = false) {v : Value} (hv : ∀ H, stepW g ops o ⟨e, defs, H⟩ v) (h : canW g ops mem cl defs (i + 1) r (putE o.dst v e) K) : canW g ops mem cl defs i (o :: r) e K := by
  rw [canW_cons, if_neg (by rw [hm]; decide)]
  exact ⟨v, hv, h⟩
theorem canW_m {ops : List Oper} {mem : List Nat} {cl : List (Nat × Value)} {defs : List ADef} {i : Nat} {o : Oper} {r : List Oper} {e : List (Nat × Value)} {K : List (Nat × Value) → Prop} (hm : mem.contains i = true) (h : canW g ops mem cl defs (i + 1) r (putCl o.dst (lk i cl) e) K) : canW g ops mem cl defs i (o :: r) e K := by
  rw [canW_cons, if_pos hm]
  exact h
theorem memW_b {ops : List Oper} {cl E me : List (Nat × Value)} {defs : List ADef} {H : AHeap} {K : List (Nat × Value) → AHeap → Prop} {a b : Tr} (h1 : memW g ops cl E defs a me H K) (h2 : memW g ops cl E defs b me H K) : memW g ops cl E defs (.both a b) me H K := ⟨h1, h2⟩
theorem memW_s {ops : List Oper} {cl E me : List (Nat × Value)} {defs : List ADef} {H : AHeap} {K : List (Nat × Value) → AHeap → Prop} {j : Nat} {t : Tr} {o : Oper} (ho : ops[j]? = some o) (h : wantW ops o ⟨restrict (me ++ E) (reads ops o), defs, H⟩
    (opW g o ⟨restrict (me ++ E) (reads ops o), defs, H⟩ (fun s => s.defs = defs ∧ wth (dstV o s) fun u => claimOk cl j u ∧ memW g ops cl E defs t (putE o.dst u me) s.H K) (fun _ _ => False))
    (claimOk cl j noVal ∧ memW g ops cl E defs t (putE o.dst noVal me) H K)) : memW g ops cl E defs (.step j t) me H K := by
  show memStep g ops cl E defs j me H _
  unfold memStep
  rw [ho]
  exact h
theorem memW_r {ops : List Oper} {cl E me : List (Nat × Value)} {defs : List ADef} {H : AHeap} {K : List (Nat × Value) → AHeap → Prop} {j : Nat} {r : List Nat} {o : Oper} (ho : ops[j]? = some o) (h : wantW ops o ⟨restrict (me ++ E) (reads ops o), defs, H⟩
    (opW g o ⟨restrict (me ++ E) (reads ops o), defs, H⟩ (fun s => s.defs = defs ∧ wth (dstV o s) fun u => claimOk cl j u ∧ memW g ops cl E defs (.run r) (putE o.dst u me) s.H K) (fun _ _ => False))
    (claimOk cl j noVal ∧ memW g ops cl E defs (.run r) (putE o.dst noVal me) H K)) : memW g ops cl E defs (.run (j :: r)) me H K := by
  simp only [memW_run] at h
  rw [memW_run, runM_cons]
  unfold memStep
  rw [ho]
  exact h
theorem memW_e {ops : List Oper} {cl E me : List (Nat × Value)} {defs : List ADef} {H : AHeap} {K : List (Nat × Value) → AHeap → Prop} (h : K me H) : memW g ops cl E defs (.run []) me H K := h
attribute [go_sem] putE_s putE_n putCl_s putCl_n claimOk_cons claimOk_nil dstV
end
end Go.Aw

set_option linter.unusedVariables false
set_option linter.unusedSimpArgs false
namespace Go.Aw
theorem op_defer {g : Cfg} {st : ASt} {K : ASt → Prop} {Kp : Value → ASt → Prop} {d : Option Tmp} {t : TypeId} {ps : String} {af : Array Edge} {gu : Option (Nat × Bool)} {f : FuncId} {xs : Array Operand} {ts : Array TypeId} :
    opW g ⟨d, .defer ⟨.value (.func f), xs, ts⟩, t, ps, af, gu⟩ st K Kp = (g.lr = none ∧ wth (evs st xs.toList) fun args => K (ASt.put ⟨st.env, .call (.func f) [] args :: st.defs, st.H⟩ d noVal)) := by
  simp only [opW, ev, wth_some, List.nil_append]
def AMode.val : AMode → Value
  | .ret => .nilIface
  | .pan v => v
def AMode.plain : AMode → Bool
  | .ret => true
  | .pan v => Go.Aw.plain v
theorem VRel.plain_eq {c : Ctx} {v v' : Value} (h : VRel c v v') (hs : plain v = true) : v' = v := by
  cases h <;> first | rfl | skip
  case ptr => simp [Go.Aw.plain, scalar] at hs
  case slice => simp [Go.Aw.plain, scalar] at hs
  case sliceX => simp [Go.Aw.plain, scalar] at hs
  case sliceZ => simp [Go.Aw.plain, scalar] at hs
  case map => simp [Go.Aw.plain, scalar] at hs
  case func => simp [Go.Aw.plain, scalar] at hs
  case iface hv => simp only [Go.Aw.plain] at hs; rw [hv.scalar_eq hs]
  case agg hv => 
    simp only [Go.Aw.plain] at hs
    have : ∀ {l l' : List Value}, VRels c l l' → l.all scalar = true → l' = l := by
      intro l
      induction l with
      | nil => intro l' h _; cases h; rfl
      | cons x l ih =>
        intro l' h hs
        cases h with
        | cons a b => simp only [List.all_cons, Bool.and_eq_true] at hs; rw [a.scalar_eq hs.1, ih b hs.2]
    rw [this hv hs]
  case tuple hv => 
    simp only [Go.Aw.plain] at hs
    have : ∀ {l l' : List Value}, VRels c l l' → l.all scalar = true → l' = l := by
      intro l
      induction l with
      | nil => intro l' h _; cases h; rfl
      | cons x l ih =>
        intro l' h hs
        cases h with
        | cons a b => simp only [List.all_cons, Bool.and_eq_true] at hs; rw [a.scalar_eq hs.1, ih b hs.2]
    rw [this hv hs]
/-- What a deferred function that recovered leaves behind. -/
def DPost (n0 : Nat) (K : AHeap → Prop) : AExit → ASt → Prop
  | .normal, st | .ret, st => st.defs = [] ∧ ∃ H2, WeakV n0 st.H noVal H2 noVal ∧ K H2
  | _, _ => False
/-- **A deferred function that begins with recover.** -/
theorem AD.enterR {P : Program} {f : FuncId} {fn : Func} {id : Nat} {o1 o2 : Oper} {rest : Code} {args : List Value} {H : AHeap} {K : AMode → AHeap → Prop} {mo : AMode} {d x : Nat}
    (hf : P.funcs[f]? = some fn) (hb : fn.body = some (.seq (.region id #[o1, o2] false) rest)) (hname : (fn.name == "runtime.NumGoroutine") = false)
    (N : Nat) (hN : fn.ntmps = N) (hrs : fn.results = #[]) (hsz : args.length ≤ N)
    (h1 : o1.op = .call ⟨.builtin .recover, #[], #[]⟩) (h1d : o1.dst = some d) (h1g : o1.guard = none) (h2 : o2.op = .assign (.tmp d)) (h2d : o2.dst = some x) (h2g : o2.guard = none) (hd : d < N) (hx : x < N) (hmo : mo.plain = true)
    (h : Scoped H → ∀ B, AWP ⟨P, none, ⟨N, B⟩, H.length⟩ rest (DPost H.length (K .ret)) ⟨(x, mo.val) :: (d, mo.val) :: argEnv 0 args, [], H⟩) : AD P f args H mo K := by
  refine ⟨⟨fn, hf, by rw [hb]; rfl, hname⟩, fun c w vargs u hh hv hm => ?_⟩
  refine callsDIn_of_wpSIn hf hb trivial fun c₀ cs hu => ?_
  refine wpSIn_seq (wpSIn_region ?_)
  have hs0 : SRel ⟨N, w.heap.size⟩ c ⟨argEnv 0 args, [], H⟩ w { tmps := (⟨vargs⟩ : Array Value) ++ Array.replicate (fn.ntmps - (⟨vargs⟩ : Array Value).size) undef, defers := [] } := by
    refine ⟨hh, ?_, ?_, .nil (Nat.le_refl _)⟩
    · have := hv.length
      simp; omega
    · intro t v e
      have := argEnv_lk (rest := Array.replicate (fn.ntmps - (⟨vargs⟩ : Array Value).size) undef) hv 0 [] rfl t v e
      simpa using this
  generalize ({ tmps := (⟨vargs⟩ : Array Value) ++ Array.replicate (fn.ntmps - (⟨vargs⟩ : Array Value).size) undef, defers := [] } : Act) = a0 at hs0
  have hvv : VRel c mo.val mo.val := VRel.of_plain (by cases mo <;> first | rfl | exact hmo)
  have hs1 : SRel ⟨N, w.heap.size⟩ c ⟨(d, mo.val) :: argEnv 0 args, [], H⟩ w (a0.put (some d) mo.val) := hs0.put (dst := some d) (fun e he => by cases he; exact hd) hvv
  have hs2 : SRel ⟨N, w.heap.size⟩ c ⟨(x, mo.val) :: (d, mo.val) :: argEnv 0 args, [], H⟩ w ((a0.put (some d) mo.val).put (some x) mo.val) := hs1.put (dst := some x) (fun e he => by cases he; exact hx) hvv
  have hev : (a0.put (some d) mo.val).eval (.tmp d) = mo.val := by
    obtain ⟨v', e1, e2⟩ := hs1.tmps d mo.val (by simp [lk])
    have := e2.plain_eq (by cases mo <;> first | rfl | exact hmo)
    subst this
    simp only [Act.eval]
    rw [Array.getD_eq_getD_getElem?, e1]; rfl
  obtain ⟨u1, hu1, hset⟩ : ∃ u1, recoverD (c₀ :: cs) = (match mo with | .ret => none | .pan v => some (v, { c₀ with mode := u1 } :: cs)) ∧ (match mo with | .ret => u1 = c₀.mode ∧ settle u1 = .returning | .pan v => settle u1 = .returning) := by
    cases hm with
    | ret => exact ⟨c₀.mode, by simp [recoverD, hu], rfl, by rw [hu]; rfl⟩
    | pan hv =>
      have := hv.plain_eq hmo
      subst this
      exact ⟨_, by simp [recoverD, hu]; rfl, rfl⟩
  have hfin : ({ c₀ with mode := u1 } : Frame) = c₀ ∨ True := .inr trivial
  have key : ∀ (cs1 : List Frame), cs1 = { c₀ with mode := u1 } :: cs → Exit.thenS (rest.wpSIn Fence.wide 0 P (bodyPostS P fn c₀ cs fun e u' w' => ∃ v mo' c' H', e = .returned v ∧ K mo' H' ∧ MRel c' mo' (settle u') ∧ HRel c' H' w' ∧ Trans H.length c H w c' H' w'))
      (bodyPostS P fn c₀ cs fun e u' w' => ∃ v mo' c' H', e = .returned v ∧ K mo' H' ∧ MRel c' mo' (settle u') ∧ HRel c' H' w' ∧ Trans H.length c H w c' H' w') .normal ((a0.put (some d) mo.val).put (some x) mo.val) cs1 w := by
    intro cs1 hcs1
    subst hcs1
    simp only [Exit.thenS]
    refine wpSIn_of_wpIn rfl (wpIn_mono (h hh.inside w.heap.size c w _ hs2) ?_)
    rintro e a' w' ⟨x1, st', c', hq, hx1, hs', ht⟩
    have fin : st'.defs = [] → (∃ H2, WeakV H.length st'.H noVal H2 noVal ∧ K .ret H2) → a'.defers = [] ∧ ∃ u', ({ c₀ with mode := u1 } : Frame) :: cs = { c₀ with mode := u' } :: cs ∧ ∃ v, (results fn a'.tmps).run P w' = .ok v w' ∧ ∃ v_1 mo' c' H', Ending.returned v = .returned v_1 ∧ K mo' H' ∧ MRel c' mo' (settle u') ∧ HRel c' H' w' ∧ Trans H.length c H w c' H' w' := by
      rintro hde ⟨H2, hw2, hk⟩
      obtain ⟨st'e, st'd, st'h⟩ := st'
      simp only at hde
      subst hde
      have hdd := hs'.defs
      cases a'
      cases hdd
      obtain ⟨c2, g1, _, g3⟩ := hw2 c' w' noVal hs'.heap (.tuple .nil)
      refine ⟨rfl, u1, rfl, noVal, ?_, noVal, .ret, c2, H2, rfl, hk, ?_, g1, ht.trans g3⟩
      · rw [results_eq, hrs]
        simp [noVal]
      · have : settle u1 = .returning := by cases mo <;> first | exact hset | exact hset.2
        rw [this]; exact .ret
    cases hx1 with
    | normal => exact fin hq.1 hq.2
    | ret => exact fin hq.1 hq.2
    | panic hv2 => exact hq.elim
    | exit id => exact hq.elim
    | goto l => exact hq.elim
  have hw1 : ∀ a : Act, Region.wanted o1 (yielded #[o1, o2] a.tmps) = true := fun a => by simp [Region.wanted, h1g]
  have hw2 : ∀ a : Act, Region.wanted o2 (yielded #[o1, o2] a.tmps) = true := fun a => by simp [Region.wanted, h2g]
  have hr1 : (execOp a0.eval o1).run P w = .ok .recover w := by
    simp only [execOp, h1]
    rfl
  have hr2 : (execOp (a0.put (some d) mo.val).eval o2).run P w = .ok (.value mo.val) w := by
    simp only [execOp, h2]
    rw [hev]
    rfl
  show wpOpsSIn Fence.wide 0 P #[o1, o2] _ [0, 1] a0 (c₀ :: cs) w
  unfold wpOpsSIn
  simp only [List.getElem?_toArray, List.getElem?_cons_zero, hw1, if_true, hr1]
  refine ⟨fun _ _ => trivial, ?_⟩
  rw [hu1]
  cases mo with
  | ret =>
    simp only
    unfold wpOpsSIn
    simp only [List.getElem?_toArray, List.getElem?_cons_succ, List.getElem?_cons_zero, hw2, if_true]
    refine ⟨fun _ _ => trivial, ?_⟩
    rw [h1d]
    rw [show (Value.nilIface) = AMode.ret.val from rfl, hr2]
    simp only
    unfold wpOpsSIn
    rw [h2d]
    refine key _ ?_
    rw [hset.1]
  | pan v =>
    simp only
    unfold wpOpsSIn
    simp only [List.getElem?_toArray, List.getElem?_cons_succ, List.getElem?_cons_zero, hw2, if_true]
    refine ⟨fun _ _ => trivial, ?_⟩
    rw [h1d]
    have hr2' : (execOp (a0.put (some d) v).eval o2).run P w = .ok (.value v) w := hr2
    rw [hr2']
    simp only
    unfold wpOpsSIn
    rw [h2d]
    exact key _ rfl
end Go.Aw
namespace Go.Aw
attribute [go_sem ↓] op_defer
def APan (P : Program) (f : FuncId) (args : List Value) (H : AHeap) (v : Value) (H' : AHeap) : Prop := AC P f args H fun r H1 => r = .pan v ∧ H1 = H'
theorem APan.use {P : Program} {f : FuncId} {args : List Value} {H H' : AHeap} {v : Value} {K : ARes → AHeap → Prop} (h : APan P f args H v H') (hk : K (.pan v) H') : AC P f args H K :=
  h.mono fun r H1 e => by rw [e.1, e.2]; exact hk
theorem finP {n0 : Nat} {H : AHeap} {v : Value} : ∃ v2 H2, WeakV n0 H v H2 v2 ∧ ARes.pan v2 = ARes.pan v ∧ H2 = H := ⟨v, H, .refl _ _ _, rfl, rfl⟩
theorem finPD {H l : AHeap} {v : Value} (hs : Scoped H) (hv : NRel (upto H.length) v v) : ∃ v2 H2, WeakV H.length (H ++ l) v H2 v2 ∧ ARes.pan v2 = ARes.pan v ∧ H2 = H := ⟨v, H, .drop rfl hs hv, rfl, rfl⟩
/-- So many rounds of a loop, one by one. -/
def roundsW (g : Cfg) (x : Code) (Q : AExit → ASt → Prop) : Nat → ASt → Prop
  | 0, _ => False
  | m + 1, st => AWP g x (next (roundsW g x Q m) Q) st
theorem roundsW_s {g : Cfg} {x : Code} {Q : AExit → ASt → Prop} {m : Nat} {st : ASt} : roundsW g x Q (m + 1) st = AWP g x (next (roundsW g x Q m) Q) st := propext Iff.rfl
theorem AWP.loopN {g : Cfg} {x : Code} {Q : AExit → ASt → Prop} {st : ASt} (m : Nat) (h : roundsW g x Q m st) : AWP g (.loop x) Q st := by
  have key : ∀ m st, roundsW g x Q m st → ∀ c0 H0 w0, ∀ c w a, SRel g.N c st w a → Trans g.n0 c0 H0 w0 c st.H w → Code.roundsIn (fenceOf g.lr) 0 g.P x (APost g Q c0 H0 w0) m a w := by
    intro m
    induction m with
    | zero => intro st h; exact h.elim
    | succ m ih =>
      intro st h c0 H0 w0 c w a hs ht
      refine wpIn_mono (h c w a hs) ?_
      rintro e a1 w1 ⟨x1, st1, c1, hq, hx, hs1, ht1⟩
      cases hx with
      | normal => exact ih st1 hq c0 H0 w0 c1 w1 a1 hs1 (ht.trans ht1)
      | exit id => exact ⟨_, st1, c1, hq, .exit id, hs1, ht.trans ht1⟩
      | goto l => exact ⟨_, st1, c1, hq, .goto l, hs1, ht.trans ht1⟩
      | ret => exact ⟨_, st1, c1, hq, .ret, hs1, ht.trans ht1⟩
      | panic hv => exact ⟨_, st1, c1, hq, .panic hv, hs1, ht.trans ht1⟩
  exact fun c w a hs => wpIn_loop_rounds m (key m st h c st.H w c w a hs (.refl _ _ _ _))
end Go.Aw
namespace Go.Aw
section
variable {P : Program} {t : TypeId} {x y : Operand} {K : Value → Prop}
theorem tIf_elim (h : tIf P t = true) : ∃ ms, P.underlying t = some (.interface ms) := by
  unfold tIf at h
  split at h
  · exact ⟨_, by assumption⟩
  · cases h
theorem binW_if_neq {a : TypeId} {v : Value} (h : tIf P t = true) : binW P .neq t x y (.iface a v) .nilIface K = K (.bool true) := by
  obtain ⟨ms, hm⟩ := tIf_elim h
  simp [binW, guardW, eqV, hm, wth]
theorem binW_if_eql {a : TypeId} {v : Value} (h : tIf P t = true) : binW P .eql t x y (.iface a v) .nilIface K = K (.bool false) := by
  obtain ⟨ms, hm⟩ := tIf_elim h
  simp [binW, guardW, eqV, hm, wth]
theorem binW_ni_neq (h : tIf P t = true) (hc : (isConst x || isConst y) = true) : binW P .neq t x y .nilIface .nilIface K = K (.bool false) := by
  obtain ⟨ms, hm⟩ := tIf_elim h
  simp only [binW, guardW, eqV, hm, wth, hc, true_and, Bool.not_true]
theorem binW_ni_eql (h : tIf P t = true) (hc : (isConst x || isConst y) = true) : binW P .eql t x y .nilIface .nilIface K = K (.bool true) := by
  obtain ⟨ms, hm⟩ := tIf_elim h
  simp only [binW, guardW, eqV, hm, wth, hc, true_and]
end
theorem isConst_c {v : Value} : isConst (.const v) = true := rfl
theorem isConst_t {t : Nat} : isConst (.tmp t) = false := rfl
attribute [go_sem] binW_if_neq binW_if_eql binW_ni_neq binW_ni_eql isConst_c isConst_t Bool.or_true Bool.true_or ifaceW AMode.val assertW
end Go.Aw
namespace Go.Aw
theorem finDS {H l : AHeap} {i : Nat} {o : AObj} {v : Value} (hs : Scoped H) (ho : bare o) (hv : NRel (upto H.length) v v) : ∃ v2 H2, WeakV H.length (H.set i o ++ l) v H2 v2 ∧ ARes.ret v2 = ARes.ret v ∧ H2 = H.set i o := by
  refine ⟨v, H.set i o, WeakV.drop (by simp) (hs.set (.of_bare ho)) ?_, rfl, rfl⟩
  simpa using hv
theorem bare_bytes (l : List UInt8) (k : CK) : bare (.cells (bytesC l) k) := bytesC_scalar l
end Go.Aw
namespace Go.Aw
theorem finK {A l objs : AHeap} {v v2 : Value} (sel : List Nat) (hs : Scoped A) (hnd : sel.Nodup) (ho : selW (selN A.length sel) l sel objs ∧ NRel (selN A.length sel) v2 v) : ∃ v2' H2, WeakV A.length (A ++ l) v H2 v2' ∧ ARes.ret v2' = ARes.ret v2 ∧ H2 = A ++ objs :=
  ⟨v2, _, WeakV.pick sel rfl hs hnd ho, rfl, rfl⟩
end Go.Aw
namespace Go.Aw
theorem cellsOf_gS {i n : Nat} : cellsOf (gS i n) = [gS i n] := by unfold gS; split <;> rfl
theorem flat_gS {i n : Nat} : flat (gS i n) = true := by unfold gS; split <;> rfl
attribute [go_sem] cellsOf_gS
attribute [go_sem ↓] flat_gS
end Go.Aw
namespace Go.Aw
/-- One element more, of several cells, behind a growing slice. -/
theorem appendTo_gm {P : Program} {e : TypeId} {size y i n : Nat} {l news : List Value} {H : AHeap} {K : Value → AHeap → Prop} (hi : H[i]? = some (gO l ⟨e, size, true, 0, none⟩)) (hs : size ≠ 0) (hn : l.length = n * size) (h1 : (n + 1) * y ≤ 140737488355328) (h2 : n + 1 ≤ 4611686018427387904)
    (hk : K (.slice (some ⟨H.length, 0, none⟩) (n + 1) (n + 1)) (H.set i .dead ++ [.cells (l ++ news) ⟨e, size, true, 0, none⟩])) : appendTo P e size y (gS i n) 1 news H K := by
  rcases Nat.eq_zero_or_pos n with rfl | h0
  · have : l = [] := List.length_eq_zero_iff.1 (by simpa using hn)
    subst this
    rw [gO_nil] at hi
    rw [set_same hi] at hk
    exact appendTo_nil (by decide) (by simpa using h1) (by decide) (by simpa using hk)
  · have hne : l ≠ [] := List.ne_nil_of_length_pos (by rw [hn]; exact Nat.mul_pos h0 (Nat.pos_of_ne_zero hs))
    rw [gO_ne hne] at hi
    rw [gS_pos h0]
    exact appendTo_own hi hs hn (by decide) h1 h2 hk
end Go.Aw

set_option linter.unusedVariables false
namespace Go.Aw
open Go.ChangeShapes Go.WideShapes Go.ChangeAt Go.RowKit
theorem VRels.scalars_eq {c : Ctx} : ∀ {l l' : List Value}, VRels c l l' → l.all scalar = true → l = l'
  | _, _, .nil, _ => rfl
  | v :: l, v' :: l', .cons a b, h => by
    simp only [List.all_cons, Bool.and_eq_true] at h
    rw [a.scalar_eq h.1, VRels.scalars_eq b (by simpa using h.2)]
theorem HRel.below {c : Ctx} {H : AHeap} {w w' : World} (h : HRel c H w) (hb : Below w.heap.size w w') : HRel c H w' := by
  refine ⟨fun i o hi hl => ?_, h.sep, h.fresh⟩
  obtain ⟨p, hp, hr⟩ := h.obj i o hi hl
  refine ⟨p, hp, hr.keep (Ctx.le_refl c) hl ?_⟩
  have : p.block < w.heap.size := by
    unfold ORel at hr
    split at hr
    · cases hl
    · obtain ⟨_, _, _, _, arr, lo, hi', hb, _⟩ := hr
      exact (Array.getElem?_eq_some_iff.1 hb).1
    · obtain ⟨r, hb, _⟩ := hr
      exact (Array.getElem?_eq_some_iff.1 hb).1
    · obtain ⟨ms, hb, _⟩ := hr
      exact (Array.getElem?_eq_some_iff.1 hb).1
  exact hb.block _ this
theorem Trans.below {n : Nat} {c : Ctx} {H : AHeap} {w w' : World} (hb : Below w.heap.size w w') : Trans n c H w c H w' :=
  ⟨fun _ _ _ h => h, hb.tape, hb.os, hb.output, hb.size, fun b h _ => hb.block b h, fun _ h => .inl h⟩
theorem ARet.ofCalls {P : Program} {f : FuncId} {fn : Func} {args : List Value} {v : Value} (hf : P.funcs[f]? = some fn) (hb : fn.body.isSome = true) (hn : (fn.name == "runtime.NumGoroutine") = false) (ha : args.all scalar = true) (hv : scalar v = true)
    (h : ∀ w, Calls P f ⟨args⟩ w fun e w' => e = .returned v ∧ Below w.heap.size w w') (H : AHeap) : ARet P f args H v H := by
  intro c w vargs hh hvs
  have e := hvs.scalars_eq ha
  subst e
  unfold CallTo
  have hbn : fn.body.isNone = false := by cases hfb : fn.body <;> simp_all
  have hr : (callFunc f ⟨args⟩).run P w = .ok (.enter f ⟨args⟩) w := by
    simp only [callFunc, Sem.run_bind, run_program, Result.andThen_ok, hf, hn, Bool.false_eq_true, if_false, hbn]
    rfl
  rw [hr]
  refine (h w).mono fun e w' ⟨he, hbl⟩ => ?_
  subst he
  exact ⟨.ret v, c, H, ⟨rfl, rfl⟩, .ret (.of_scalar hv), hh.below hbl, .below hbl⟩
end Go.Aw
namespace Go.Aw
theorem wf_i64 {n : Int} (h : (Lit.int .i64 n).wf = true) : -9223372036854775808 ≤ n ∧ n ≤ 9223372036854775807 := by
  unfold Lit.wf at h
  rw [Bool.and_eq_true, decide_eq_true_iff, decide_eq_true_iff] at h
  have h2 := h
  have e1 : IntKind.i64.min = -9223372036854775808 := by decide
  have e2 : IntKind.i64.max = 9223372036854775807 := by decide
  rw [e1, e2] at h2
  exact h2
theorem max_len {s : ByteArray} (h : s.size ≤ maxLen) : s.data.toList.length ≤ 9223372036854775807 := by
  have e : maxLen = 9223372036854775807 := by decide
  rw [e] at h
  exact h
end Go.Aw
namespace Go.Aw
/-- Appending to an empty slice that is not nil. -/
theorem appendTo_e {P : Program} {e e' : TypeId} {size y n i fz : Nat} {own : Bool} {news : List Value} {H : AHeap} {K : Value → AHeap → Prop} (hi : H[i]? = some (.cells [] ⟨e', 0, own, fz, none⟩)) (hn : n ≠ 0) (h1 : n * y ≤ 140737488355328) (h2 : n ≤ 4611686018427387904)
    (hk : K (.slice (some ⟨H.length, 0, none⟩) n n) (H ++ [.cells news ⟨e, size, true, 0, none⟩])) : appendTo P e size y (.slice (some ⟨i, 0, none⟩) 0 0) n news H K := by
  unfold appendTo
  dsimp only
  rw [hi]
  dsimp only
  refine ⟨fun h => by omega, fun _ => ⟨⟨by omega, by simpa using h1, by simpa using h2⟩, fun h => absurd rfl h.1, fun _ => ?_⟩⟩
  simpa using hk
theorem appendTo_e0 {P : Program} {e e' : TypeId} {size y i fz : Nat} {own : Bool} {news : List Value} {H : AHeap} {K : Value → AHeap → Prop} (hi : H[i]? = some (.cells [] ⟨e', 0, own, fz, none⟩))
    (hk : K (.slice (some ⟨i, 0, none⟩) 0 0) H) : appendTo P e size y (.slice (some ⟨i, 0, none⟩) 0 0) 0 news H K := by
  unfold appendTo
  dsimp only
  rw [hi]
  dsimp only
  exact ⟨fun _ => ⟨fun _ => hk, fun h => absurd rfl h⟩, fun h => by omega⟩
end Go.Aw
namespace Go.Aw
/-- Appending within the room that a slice has. -/
theorem appendTo_in {P : Program} {e : TypeId} {size y n i len cap off : Nat} {k : CK} {cs news : List Value} {H : AHeap} {K : Value → AHeap → Prop} (hi : H[i]? = some (.cells cs k)) (hn : n ≠ 0) (hc : len + n ≤ cap) (ho : k.own = true) (hf : k.fz ≤ off + len * size) (hl : off + len * size + n * size ≤ cs.length)
    (hk : K (.slice (some ⟨i, off, none⟩) (len + n) cap) (H.set i (.cells (putCells cs (off + len * size) news) k))) : appendTo P e size y (.slice (some ⟨i, off, none⟩) len cap) n news H K := by
  unfold appendTo
  dsimp only
  rw [hi]
  dsimp only
  exact ⟨fun _ => ⟨fun h => absurd h hn, fun _ => ⟨⟨⟨ho, hf⟩, hl⟩, hk⟩⟩, fun h => absurd hc h⟩
end Go.Aw

set_option linter.unusedVariables false
set_option linter.unusedSimpArgs false
namespace Go.Aw
open Go.RowKit Go.ChangeShapes Go.WideShapes Go.ChangeAt
def strsC (l : List (List UInt8)) : List Value := l.map fun s => .string (bs s)
theorem strsC_length (l : List (List UInt8)) : (strsC l).length = l.length := by simp [strsC]
theorem strsC_get {l : List (List UInt8)} {n : Nat} (h : n < l.length) : (strsC l)[n]? = some (.string (bs l[n])) := by
  simp [strsC, List.getElem?_eq_getElem h]
theorem strsC_scalar (l : List (List UInt8)) : (strsC l).all scalar = true := by simp [strsC, scalar]
theorem strsC_flat (l : List (List UInt8)) : (strsC l).all flat = true := by simp [strsC, flat]
theorem lend_strs {D : Type} {enc : TypeId × Value → D} {P : Program} {w : World} {t e : TypeId} {v : Value} {d : DataW D} {ps : List MemPlace} {b0 : Nat} (ht : P.underlying t = some (.slice e)) (he : P.underlying e = some .string) (hc : P.cellsOf e = 1)
    (hval : Value.okWide P w .any b0 t v) (h : DataW.Trod enc P w 0 (fun _ => true) true t v d ps) {c : Ctx} {H : AHeap} (hL : Lent c H w) :
    ∃ (l : List (List UInt8)) (c' : Ctx) (X : AHeap) (av : Value), (∀ s ∈ l, s.length ≤ 9223372036854775807) ∧ l.length ≤ 9223372036854775807 ∧ Lent c' (H ++ X) w ∧ c.le c' ∧ VRel c' av v ∧ Rd (H ++ X) av (strsC l) := by
  have hmx : maxLen = 9223372036854775807 := by decide
  obtain ⟨rs, c', X, av, hg, hL', hle, hva, hrd⟩ := lend_recs (m := 1) ht hc (by decide) (fun cs => ∃ s : ByteArray, cs = [.string s] ∧ s.size ≤ maxLen) (fun n cs y hh => by
    obtain ⟨s, e1, _, e2⟩ := DataW.trod_string he hh
    exact ⟨by rw [e1]; rfl, s, e1, e2⟩) hval h hL
  obtain ⟨l, hl⟩ : ∃ l : List (List UInt8), rs = l.map fun s => [.string (bs s)] := by
    clear hrd
    induction rs with
    | nil => exact ⟨[], rfl⟩
    | cons r rs ih =>
      obtain ⟨_, s, e1, _⟩ := hg r (List.mem_cons_self ..)
      obtain ⟨l, e2⟩ := ih (fun r hr => hg r (List.mem_cons_of_mem _ hr))
      exact ⟨s.data.toList :: l, by rw [e1, e2]; rfl⟩
  subst hl
  refine ⟨l, c', X, av, fun s hs => ?_, ?_, hL', hle, hva, ?_⟩
  · obtain ⟨_, s', e1, e2⟩ := hg [.string (bs s)] (List.mem_map.2 ⟨s, hs, rfl⟩)
    have : bs s = s' := by simpa using e1
    subst this
    rw [hmx] at e2
    exact e2
  · rcases hrd with ⟨_, e2⟩ | ⟨i, off, cap, cs, k, e1, _⟩
    · have : l = [] := by simpa using e2
      subst this; simp
    · subst e1
      have hb : ∀ a n cp, Value.okWide P w .any b0 t (.slice (some a) n cp) → n ≤ 9223372036854775807 := fun a n cp hv => by
        unfold Value.okWide at hv
        rw [ht] at hv
        simp only [Cell.okWide, ht, Cell.ok] at hv
        have := hv.1; have := hv.2.1
        have hm : IntKind.i64.max = 9223372036854775807 := by decide
        omega
      rw [List.length_map] at hva
      generalize l.length = n at hva ⊢
      cases hva with
      | slice hc => exact hb _ _ _ hval
      | sliceX hc _ => exact hb _ _ _ hval
      | sliceZ hc => exact Nat.zero_le _
  · rcases hrd with ⟨e1, e2⟩ | ⟨i, off, cap, cs, k, e1, e2, e3, e4⟩
    · have : l = [] := by simpa using e2
      subst this
      exact .inl ⟨e1, rfl⟩
    · rw [List.length_map] at e1
      refine .inr ⟨i, off, cap, cs, k, by rw [strsC_length]; exact e1, e2, fun j hj => ?_⟩
      rw [strsC_length] at hj
      have := e4 j [.string (bs l[j])] (by simp [List.getElem?_eq_getElem hj])
      rw [Nat.mul_one] at this
      rw [strsC_get hj]
      have h2 : ((cs.drop (off + j)).take 1)[0]? = some (.string (bs l[j])) := by rw [this]; rfl
      rw [List.getElem?_take_of_lt (by decide), List.getElem?_drop, Nat.add_zero] at h2
      exact h2
end Go.Aw

set_option linter.unusedVariables false
set_option linter.unusedSimpArgs false
namespace Go.Aw
open Go.RowKit Go.ChangeShapes Go.WideShapes Go.ChangeAt
theorem weightsAll_mem {H : Type} {P : Program} {e : TypeId} {d : DataW H} {n : Nat} : ∀ {l : List (DataW H)}, d ∈ l → n ∈ d.weights P e → n ∈ DataW.weightsAll P e l
  | x :: l, h, hn => by
    rw [DataW.weightsAll, List.mem_append]
    rcases List.mem_cons.1 h with rfl | h
    · exact .inl hn
    · exact .inr (weightsAll_mem h hn)
theorem weightsAt {H : Type} {P : Program} {ts : List TypeId} {ds : List (DataW H)} {b : Nat} (h : (DataW.weightsEach P ts ds).all (· ≤ b) = true) {j : Nat} {t : TypeId} {d : DataW H} (ht : ts[j]? = some t) (hd : ds[j]? = some d) : (d.weights P t).all (· ≤ b) = true :=
  List.all_eq_true.2 fun n hn => List.all_eq_true.1 h n (DataW.weights_mem_each ht hd n hn)
theorem strAt {H : Type} {P : Program} {ts : List TypeId} {ds : List (DataW H)} (h : (DataW.weightsEach P ts ds).all (· ≤ reachBytes) = true) {j : Nat} {t : TypeId} {l : List UInt8} (ht : ts[j]? = some t) (hd : ds[j]? = some (.lit (.string l))) : l.length < 140737488355328 :=
  Nat.lt_of_le_of_lt (sized_string h ht hd) reachBytes_lt
theorem reach_lt : reachBytes < 140737488355328 := reachBytes_lt
theorem lend_recsW {D : Type} {enc : TypeId × Value → D} {P : Program} {w : World} {t e : TypeId} {m : Nat} {v : Value} {d : DataW D} {ps : List MemPlace} {b0 bnd : Nat} (ht : P.underlying t = some (.slice e)) (hc : P.cellsOf e = m) (hm : 0 < m) (good : List Value → Prop)
    (hgood : ∀ n cs y, DataW.trod enc P w 0 (fun _ => true) true n e cs = some y → (y.1.weights P e).all (· ≤ bnd) = true → cs.all scalar = true ∧ good cs) (hw : (d.weights P t).all (· ≤ bnd) = true)
    (hval : Value.okWide P w .any b0 t v) (h : DataW.Trod enc P w 0 (fun _ => true) true t v d ps) {c : Ctx} {H : AHeap} (hL : Lent c H w) :
    ∃ (l : List (List Value)) (c' : Ctx) (X : AHeap) (av : Value), (∀ r ∈ l, r.length = m ∧ good r) ∧ Lent c' (H ++ X) w ∧ c.le c' ∧ VRel c' av v ∧ RdN (H ++ X) m av l := by
  have hna : ∀ q, v ≠ .agg q := fun q e => by
    subst e; simp [Value.okWide, ht, Cell.okWide, Cell.ok] at hval
  obtain ⟨fuel, hf⟩ := h
  rcases DataW.trod_slice ht hf with ⟨hcs, hx⟩ | ⟨a, len, cap, elems, rest, n, _, hcs, hx, h0, h1, h2, h3, h4, _⟩
  · have hv : v = .slice none 0 0 := by
      cases v <;> simp [Value.cells] at hcs hna <;> simp [hcs]
    subst hv
    exact ⟨[], c, [], _, by simp, by rw [List.append_nil]; exact hL, Ctx.le_refl _, .nilSlice _ _, .inl ⟨rfl, rfl⟩⟩
  · have hv : v = .slice (some a) len cap := by
      cases v <;> simp [Value.cells] at hcs hna <;> simp [hcs]
    subst hv
    have hok : w.has P .any b0 a e cap := by
      unfold Value.okWide at hval
      rw [ht] at hval
      simp only [Cell.okWide, ht, Cell.ok] at hval
      exact hval.2.2
    obtain ⟨_, hsp, row, cells, hsh, _⟩ := hok
    obtain ⟨b, off, spot⟩ := a
    simp only at hsp hsh
    subst hsp
    obtain ⟨arr, fr, hb⟩ : ∃ arr fr, w.heap[b]? = some (.cells arr row fr) := by
      unfold World.shape? at hsh
      split at hsh
      · rename_i q1 q2 q3 hq
        simp only [Option.some.injEq, Prod.mk.injEq] at hsh
        exact ⟨_, _, by rw [hq, hsh.1]⟩
      · cases hsh
    have hel : ∀ i, i < len → ∃ cs y, w.cells? 0 ⟨b, off + i * m, none⟩ m = some cs ∧ DataW.trod enc P w 0 (fun _ => true) true n e cs = some y ∧ (y.1.weights P e).all (· ≤ bnd) = true := fun i hi => by
      have := h4 i hi
      rw [hc, addr_add, List.getElem?_eq_getElem (by omega), Option.bind_eq_some_iff] at this
      obtain ⟨cs, h5, h6⟩ := this
      refine ⟨cs, _, h5, h6, List.all_eq_true.2 fun q hq => ?_⟩
      have hd : d = .slice (elems.map (·.1)) (rest.map (·.1)) := congrArg Prod.fst hx
      refine List.all_eq_true.1 hw q ?_
      rw [hd, DataW.weights, ht]
      exact List.mem_cons_of_mem _ (List.mem_append_left _ (weightsAll_mem (List.mem_map.2 ⟨_, List.getElem_mem (by omega), rfl⟩) hq))
    let l : List (List Value) := (List.range len).map fun i => ((List.range m).map fun j => (arr[off + i * m + j]?).getD .nilIface)
    have hrow : ∀ i, i < len → ∃ cs, l[i]? = some cs ∧ cs.length = m ∧ cs.all scalar = true ∧ good cs ∧ off + i * m + m ≤ arr.size ∧ ∀ j, j < m → arr[off + i * m + j]? = cs[j]? := fun i hi => by
      obtain ⟨cs, y, h5, h6, h6w⟩ := hel i hi
      obtain ⟨e1, e2, e3⟩ := cells_take (D := Unit) hb h5 hm
      have hcs : ((List.range m).map fun j => (arr[off + i * m + j]?).getD .nilIface) = cs := by
        refine List.ext_getElem? fun j => ?_
        by_cases hj : j < m
        · rw [List.getElem?_map, List.getElem?_range hj, Option.map_some, e3 j hj, List.getElem?_eq_getElem (by omega)]; rfl
        · rw [List.getElem?_eq_none (by simp; omega), List.getElem?_eq_none (by omega)]
      refine ⟨cs, ?_, e1, (hgood _ _ _ h6 h6w).1, (hgood _ _ _ h6 h6w).2, e2, e3⟩
      show ((List.range len).map _)[i]? = _
      rw [List.getElem?_map, List.getElem?_range hi, Option.map_some, hcs]
    have hll : l.length = len := by simp [l]
    clear_value l
    let vs : List Value := (List.range (len * m)).map fun q => (arr[off + q]?).getD .nilIface
    have hvl : vs.length = len * m := by simp [vs]
    have hvg : ∀ q, q < len * m → ∃ x, arr[off + q]? = some x ∧ vs[q]? = some x ∧ scalar x = true := fun q hq => by
      have hq1 : q / m < len := by rw [Nat.div_lt_iff_lt_mul hm]; exact hq
      obtain ⟨cs, g1, g2, g3, g4, g5, g6⟩ := hrow (q / m) hq1
      have hq2 : q % m < m := Nat.mod_lt _ hm
      have := g6 (q % m) hq2
      have hqe : off + q / m * m + q % m = off + q := by have := Nat.div_add_mod q m; rw [Nat.mul_comm] at this; omega
      rw [hqe, List.getElem?_eq_getElem (by omega)] at this
      refine ⟨cs[q % m]'(by omega), this, ?_, ?_⟩
      · show ((List.range (len * m)).map _)[q]? = _
        rw [List.getElem?_map, List.getElem?_range hq, Option.map_some, this]; rfl
      · exact List.all_eq_true.1 g3 _ (List.getElem_mem _)
    clear_value vs
    have hsz : off + vs.length ≤ arr.size ∨ len = 0 := by
      rcases Nat.eq_zero_or_pos len with h | h
      · exact .inr h
      · left
        obtain ⟨cs, _, _, _, _, g5, _⟩ := hrow (len - 1) (by omega)
        have : (len - 1) * m + m = len * m := by
          have : len = (len - 1) + 1 := by omega
          conv => rhs; rw [this, Nat.add_mul, Nat.one_mul]
        rw [hvl]; omega
    have hmem : ∀ r ∈ l, r.length = m ∧ good r := fun r hr => by
      obtain ⟨i, hi⟩ := List.getElem?_of_mem hr
      obtain ⟨cs, g1, g2, g3, g4, _⟩ := hrow i (by have := (List.getElem?_eq_some_iff.1 hi).1; omega)
      rw [hi] at g1; cases g1
      exact ⟨g2, g4⟩
    rcases hsz with hsz | h00
    · refine ⟨l, _, _, .slice (some ⟨H.length, 0, none⟩) len cap, hmem, hL.add hb (off := off) (vs := vs) hsz ?_, hL.le _, ?_, ?_⟩
      · intro j x hj
        obtain ⟨y, e1, e2, e3⟩ := hvg j (by have := (List.getElem?_eq_some_iff.1 hj).1; omega)
        rw [hj] at e2; cases e2
        exact ⟨_, e1, .of_scalar e3⟩
      · have : VRel (c.add H.length ⟨b, off, vs.length, 0, 0⟩) (.slice (some ⟨H.length, 0, none⟩) len cap) (.slice (some ⟨b, off + 0, none⟩) len cap) := .slice (p := ⟨b, off, vs.length, 0, 0⟩) (by simp [Ctx.add])
        rw [Nat.add_zero] at this; exact this
      · refine .inr ⟨H.length, 0, cap, vs, ⟨row, 0, false, 0, none⟩, by rw [hll], hget0 rfl, fun _ => by rw [hll, hvl]; omega, fun j r hj => ?_⟩
        have hjl : j < len := by have := (List.getElem?_eq_some_iff.1 hj).1; omega
        obtain ⟨cs, g1, g2, g3, g4, g5, g6⟩ := hrow j hjl
        rw [hj] at g1; cases g1
        have hjm : j * m + m ≤ len * m := by
          have : (j + 1) * m ≤ len * m := Nat.mul_le_mul_right m (by omega)
          rw [Nat.add_mul, Nat.one_mul] at this; exact this
        refine List.ext_getElem? fun q => ?_
        by_cases hq : q < m
        · rw [List.getElem?_take_of_lt hq, List.getElem?_drop, Nat.zero_add]
          obtain ⟨x, e1, e2, _⟩ := hvg (j * m + q) (by omega)
          rw [e2, ← g6 q hq, ← e1]; congr 1; omega
        · rw [List.getElem?_eq_none (by rw [List.length_take]; omega), List.getElem?_eq_none (by omega)]
    · subst h00
      have hl0 : l = [] := List.eq_nil_of_length_eq_zero hll
      subst hl0
      refine ⟨[], _, _, .slice (some ⟨H.length, off, none⟩) 0 cap, by simp, hL.add hb (off := 0) (vs := []) (by simp) (fun k v e => by simp at e), hL.le _, ?_, .inr ⟨H.length, off, cap, [], ⟨row, 0, false, 0, none⟩, rfl, hget0 rfl, fun h => absurd rfl h, fun j r hj => by simp at hj⟩⟩
      · have : VRel (c.add H.length ⟨b, 0, 0, 0, 0⟩) (.slice (some ⟨H.length, off, none⟩) 0 cap) (.slice (some ⟨b, 0 + off, none⟩) 0 cap) := .slice (p := ⟨b, 0, 0, 0, 0⟩) (by simp [Ctx.add])
        rw [Nat.zero_add] at this; exact this
theorem lend_strsW {D : Type} {enc : TypeId × Value → D} {P : Program} {w : World} {t e : TypeId} {v : Value} {d : DataW D} {ps : List MemPlace} {b0 bnd : Nat} (ht : P.underlying t = some (.slice e)) (he : P.underlying e = some .string) (hc : P.cellsOf e = 1)
    (hw : (d.weights P t).all (· ≤ bnd) = true) (hval : Value.okWide P w .any b0 t v) (h : DataW.Trod enc P w 0 (fun _ => true) true t v d ps) {c : Ctx} {H : AHeap} (hL : Lent c H w) :
    ∃ (l : List (List UInt8)) (c' : Ctx) (X : AHeap) (av : Value), (∀ s ∈ l, s.length ≤ bnd) ∧ l.length ≤ 9223372036854775807 ∧ Lent c' (H ++ X) w ∧ c.le c' ∧ VRel c' av v ∧ Rd (H ++ X) av (strsC l) := by
  have hmx : maxLen = 9223372036854775807 := by decide
  obtain ⟨rs, c', X, av, hg, hL', hle, hva, hrd⟩ := lend_recsW (m := 1) (bnd := bnd) ht hc (by decide) (fun cs => ∃ s : ByteArray, cs = [.string s] ∧ s.size ≤ bnd) (fun n cs y hh hyw => by
    obtain ⟨s, e1, ey, e2⟩ := DataW.trod_string he hh
    exact ⟨by rw [e1]; rfl, s, e1, by rw [ey] at hyw; simpa [DataW.weights] using hyw⟩) hw hval h hL
  obtain ⟨l, hl⟩ : ∃ l : List (List UInt8), rs = l.map fun s => [.string (bs s)] := by
    clear hrd
    induction rs with
    | nil => exact ⟨[], rfl⟩
    | cons r rs ih =>
      obtain ⟨_, s, e1, _⟩ := hg r (List.mem_cons_self ..)
      obtain ⟨l, e2⟩ := ih (fun r hr => hg r (List.mem_cons_of_mem _ hr))
      exact ⟨s.data.toList :: l, by rw [e1, e2]; rfl⟩
  subst hl
  refine ⟨l, c', X, av, fun s hs => ?_, ?_, hL', hle, hva, ?_⟩
  · obtain ⟨_, s', e1, e2⟩ := hg [.string (bs s)] (List.mem_map.2 ⟨s, hs, rfl⟩)
    have : bs s = s' := by simpa using e1
    subst this
    exact e2
  · rcases hrd with ⟨_, e2⟩ | ⟨i, off, cap, cs, k, e1, _⟩
    · have : l = [] := by simpa using e2
      subst this; simp
    · subst e1
      have hb : ∀ a n cp, Value.okWide P w .any b0 t (.slice (some a) n cp) → n ≤ 9223372036854775807 := fun a n cp hv => by
        unfold Value.okWide at hv
        rw [ht] at hv
        simp only [Cell.okWide, ht, Cell.ok] at hv
        have := hv.1; have := hv.2.1
        have hm : IntKind.i64.max = 9223372036854775807 := by decide
        omega
      rw [List.length_map] at hva
      generalize l.length = n at hva ⊢
      cases hva with
      | slice hc => exact hb _ _ _ hval
      | sliceX hc _ => exact hb _ _ _ hval
      | sliceZ hc => exact Nat.zero_le _
  · rcases hrd with ⟨e1, e2⟩ | ⟨i, off, cap, cs, k, e1, e2, e3, e4⟩
    · have : l = [] := by simpa using e2
      subst this
      exact .inl ⟨e1, rfl⟩
    · rw [List.length_map] at e1
      refine .inr ⟨i, off, cap, cs, k, by rw [strsC_length]; exact e1, e2, fun j hj => ?_⟩
      rw [strsC_length] at hj
      have := e4 j [.string (bs l[j])] (by simp [List.getElem?_eq_getElem hj])
      rw [Nat.mul_one] at this
      rw [strsC_get hj]
      have h2 : ((cs.drop (off + j)).take 1)[0]? = some (.string (bs l[j])) := by rw [this]; rfl
      rw [List.getElem?_take_of_lt (by decide), List.getElem?_drop, Nat.add_zero] at h2
      exact h2
end Go.Aw

set_option linter.unusedVariables false
namespace Go.Aw
theorem AWP.seqP {g : Cfg} {Q : AExit → ASt → Prop} {st : ASt} {x y : Code} {S : Type} (f : S → ASt) (ok : S → Prop) (h : AWP g x (next (fun s => ∃ p, Weak g.n0 s (f p) ∧ ok p) Q) st) (k : ∀ p, ok p → AWP g y Q (f p)) : AWP g (.seq x y) Q st := by
  refine AWP.seq (h.mono ?_)
  intro e s hq
  cases e with
  | normal => obtain ⟨p, h1, h2⟩ := hq; exact AWP.weak h1 (k p h2)
  | exit i => exact hq
  | goto i => exact hq
  | ret => exact hq
  | panic v => exact hq
end Go.Aw

set_option linter.unusedVariables false
namespace Go.Aw
theorem w64_xor (a b : UInt64) : xorI .u64 (a.toNat : Int) (b.toNat : Int) = ((a ^^^ b).toNat : Int) := by
  unfold xorI
  rw [wu64]
  · congr 1
    rw [BitVec.toNat_xor, UInt64.toNat_xor]
    congr 1
    · show (BitVec.ofInt 64 (a.toNat : Int)).toNat = _
      rw [BitVec.ofInt_natCast, BitVec.toNat_ofNat]
      exact Nat.mod_eq_of_lt a.toNat_lt
    · show (BitVec.ofInt 64 (b.toNat : Int)).toNat = _
      rw [BitVec.ofInt_natCast, BitVec.toNat_ofNat]
      exact Nat.mod_eq_of_lt b.toNat_lt
  · constructor
    · exact Int.natCast_nonneg _
    · have := (BitVec.ofInt IntKind.u64.bits (a.toNat : Int) ^^^ BitVec.ofInt IntKind.u64.bits (b.toNat : Int)).isLt
      have h : (2 : Nat) ^ IntKind.u64.bits = 18446744073709551616 := by decide
      rw [h] at this
      omega
theorem w64_of (x : Int) : IntKind.u64.wrap x = ((UInt64.ofNat (x % 18446744073709551616).toNat).toNat : Int) := by
  rw [IntKind.wrap_u64, UInt64.toNat_ofNat']
  have h1 : 0 ≤ x % 18446744073709551616 := Int.emod_nonneg _ (by decide)
  have h2 : x % 18446744073709551616 < 18446744073709551616 := Int.emod_lt_of_pos _ (by decide)
  rw [Nat.mod_eq_of_lt (by omega)]
  omega
theorem w64_mul (a b : UInt64) : IntKind.u64.wrap ((a.toNat : Int) * (b.toNat : Int)) = ((a * b).toNat : Int) := by
  rw [IntKind.wrap_u64, UInt64.toNat_mul, ← Int.natCast_mul, show (2 : Nat) ^ 64 = 18446744073709551616 by decide]
  omega
theorem w64_add (a b : UInt64) : IntKind.u64.wrap ((a.toNat : Int) + (b.toNat : Int)) = ((a + b).toNat : Int) := by
  rw [IntKind.wrap_u64, UInt64.toNat_add, show (2 : Nat) ^ 64 = 18446744073709551616 by decide]
  omega
theorem w64_shr (a : UInt64) (n : Nat) (h : n < 64) : shrI .u64 (a.toNat : Int) (n : Int) = ((a >>> UInt64.ofNat n).toNat : Int) := by
  rw [shrI_n _ _ _ (by show n ≤ 64; omega), UInt64.toNat_shiftRight, UInt64.toNat_ofNat', Nat.shiftRight_eq_div_pow]
  have h2 : n % 2 ^ 64 % 64 = n := by
    rw [Nat.mod_eq_of_lt (Nat.lt_of_lt_of_le h (by decide))]; exact Nat.mod_eq_of_lt h
  rw [h2]
theorem w64_u8 (a : UInt64) : IntKind.u8.wrap (a.toNat : Int) = (a.toUInt8.toNat : Int) := by
  rw [IntKind.wrap_u8, UInt64.toNat_toUInt8]; omega
theorem w8_u64 (b : UInt8) : IntKind.u64.wrap (b.toNat : Int) = (b.toUInt64.toNat : Int) := by
  rw [wu64 ⟨by omega, by have := b.toNat_lt; omega⟩, UInt8.toNat_toUInt64]
theorem wN_u64 (n : Nat) : IntKind.u64.wrap (n : Int) = ((UInt64.ofNat n).toNat : Int) := by
  rw [IntKind.wrap_u64, UInt64.toNat_ofNat', show (2 : Nat) ^ 64 = 18446744073709551616 by decide]; omega
theorem w64_quo (a : UInt64) (n : Nat) (h : n < 64) : (a.toNat : Int).tdiv ((2 ^ n : Nat) : Int) = ((a >>> UInt64.ofNat n).toNat : Int) := by
  rw [← w64_shr a n h, shrI_n _ _ _ (by show n ≤ 64; omega), Int.ofNat_tdiv]
end Go.Aw

set_option linter.unusedVariables false
namespace Go.Aw
def hP : UInt64 := 1099511628211
def hG : UInt64 := 11400714819323198485
def hB : UInt64 := 14695981039346656037
theorem hP_nat : hP.toNat = 1099511628211 := by decide
theorem hG_nat : hG.toNat = 11400714819323198485 := by decide
theorem hB_nat : hB.toNat = 14695981039346656037 := by decide
def hMix (h : UInt64) : UInt64 := h ^^^ h >>> 29
def hMix2 (h : UInt64) : UInt64 := h ^^^ h >>> 32
def hStep (h : UInt64) (b : UInt8) : UInt64 := hMix ((h ^^^ b.toUInt64) * hP)
def hEnd (n : Nat) (h : UInt64) : UInt64 := hMix2 ((h ^^^ UInt64.ofNat n) * hP) * hP
def hBeg (k : Nat) : UInt64 := hB + UInt64.ofNat k * hG
def lanes0 : List UInt64 := (List.range 4).map hBeg
def takeL (l : List UInt64) (b : UInt8) : List UInt64 := l.map fun h => hStep h b
def be8 (h : UInt64) : List UInt8 := (List.range 8).map fun j => (h >>> UInt64.ofNat (56 - 8 * j)).toUInt8
def endL (l : List UInt64) (n : Nat) : List UInt8 := l.flatMap fun h => be8 (hEnd n h)
def sumL (s : List UInt8) : List UInt8 := endL (s.foldl takeL lanes0) s.length
def u64C (l : List UInt64) : List Value := l.map fun x => .int .u64 x.toNat
theorem w64_mulP (a : UInt64) : IntKind.u64.wrap ((a.toNat : Int) * 1099511628211) = ((a * hP).toNat : Int) := by
  have := w64_mul a hP; rwa [hP_nat] at this
theorem w64_mulG (a : UInt64) : IntKind.u64.wrap ((a.toNat : Int) * 11400714819323198485) = ((a * hG).toNat : Int) := by
  have := w64_mul a hG; rwa [hG_nat] at this
theorem w64_addB (a : UInt64) : IntKind.u64.wrap (14695981039346656037 + (a.toNat : Int)) = ((hB + a).toNat : Int) := by
  have := w64_add hB a; rwa [hB_nat] at this
theorem w64_shr29 (a : UInt64) : shrI .u64 (a.toNat : Int) 29 = ((a >>> 29).toNat : Int) := w64_shr a 29 (by decide)
theorem w64_shr32 (a : UInt64) : shrI .u64 (a.toNat : Int) 32 = ((a >>> 32).toNat : Int) := w64_shr a 32 (by decide)
theorem w64_quo29 (a : UInt64) : (a.toNat : Int).tdiv 536870912 = ((a >>> 29).toNat : Int) := w64_quo a 29 (by decide)
theorem w64_quo32 (a : UInt64) : (a.toNat : Int).tdiv 4294967296 = ((a >>> 32).toNat : Int) := w64_quo a 32 (by decide)
theorem w64_quo8 (a : UInt64) : (a.toNat : Int).tdiv 256 = ((a >>> 8).toNat : Int) := w64_quo a 8 (by decide)
theorem w64_wn (a : UInt64) : IntKind.u64.wrap (a.toNat : Int) = (a.toNat : Int) := wu64 ⟨by omega, by have := a.toNat_lt; omega⟩
theorem w64_rem8 (a : UInt64) : IntKind.u8.wrap ((a.toNat : Int).tmod 256) = (a.toUInt8.toNat : Int) := by
  rw [← w64_u8, IntKind.wrap_u8, IntKind.wrap_u8, Int.tmod_eq_emod_of_nonneg (by omega)]; omega
theorem u64C_length (l : List UInt64) : (u64C l).length = l.length := by simp [u64C]
theorem u64C_get {l : List UInt64} {n : Nat} (h : n < l.length) : (u64C l)[n]? = some (.int .u64 (l[n].toNat : Int)) := by
  simp [u64C, List.getElem?_eq_getElem h]
theorem u64C_set (l : List UInt64) (n : Nat) (x : UInt64) : (u64C l).set n (.int .u64 (x.toNat : Int)) = u64C (l.set n x) := by simp [u64C]
theorem u64C_flat (l : List UInt64) : (u64C l).all flat = true := by simp [u64C, flat]
theorem u64C_scalar (l : List UInt64) : (u64C l).all scalar = true := by simp [u64C, scalar]
theorem takeL_len (l : List UInt64) (b : UInt8) : (takeL l b).length = l.length := by simp [takeL]
theorem foldl_len (s : List UInt8) : ∀ l : List UInt64, (s.foldl takeL l).length = l.length := by
  induction s with
  | nil => intro l; rfl
  | cons b s ih => intro l; rw [List.foldl_cons, ih, takeL_len]
theorem lanes0_len : lanes0.length = 4 := rfl
theorem be8_len (h : UInt64) : (be8 h).length = 8 := by simp [be8]
theorem endL_len (l : List UInt64) (n : Nat) : (endL l n).length = l.length * 8 := by
  induction l with
  | nil => simp [endL]
  | cons a l ih => simp only [endL, List.flatMap_cons, List.length_append, be8_len, List.length_cons] at *; omega
theorem sumL_len (s : List UInt8) : (sumL s).length = 32 := by
  unfold sumL; rw [endL_len, foldl_len, lanes0_len]
theorem foldl_map_lanes (s : List UInt8) : ∀ l : List UInt64, s.foldl takeL l = l.map fun h => s.foldl hStep h := by
  induction s with
  | nil => intro l; simp
  | cons b s ih => intro l; rw [List.foldl_cons, ih]; simp [takeL]
theorem sumL_eq (s : List UInt8) : sumL s = (List.range 4).flatMap fun k => be8 (hEnd s.length (s.foldl hStep (hBeg k))) := by
  unfold sumL endL lanes0
  rw [foldl_map_lanes, List.flatMap_map, List.flatMap_map]
/-! ### Lists that are filled, one by one -/
theorem fillS {α : Type} (f : Nat → α) (N n : Nat) (z : α) (h : n < N) : ((List.range n).map f ++ List.replicate (N - n) z).set n (f n) = (List.range (n + 1)).map f ++ List.replicate (N - (n + 1)) z := by
  have h1 : ((List.range n).map f).length = n := by simp
  have e : N - n = (N - (n + 1)) + 1 := by omega
  rw [List.set_append_right _ _ (by omega), h1, Nat.sub_self, e, List.replicate_succ, List.set_cons_zero, List.range_succ, List.map_append]
  simp
theorem turnS {α : Type} (f : α → α) (l : List α) (n : Nat) (h : n < l.length) : ((l.take n).map f ++ l.drop n).set n (f l[n]) = (l.take (n + 1)).map f ++ l.drop (n + 1) := by
  have h1 : ((l.take n).map f).length = n := by simp; omega
  rw [List.set_append_right _ _ (by omega), h1, Nat.sub_self, List.drop_eq_getElem_cons h, List.set_cons_zero, List.take_add_one, List.getElem?_eq_getElem h, List.map_append]
  simp
end Go.Aw
namespace Go.Aw
theorem appendTo_gs {P : Program} {e : TypeId} {y i n m : Nat} {l news : List Value} {H : AHeap} {K : Value → AHeap → Prop} (hi : H[i]? = some (gO l ⟨e, 1, true, 0, none⟩)) (hn : l.length = n) (hm : m ≠ 0) (h1 : (n + m) * y ≤ 140737488355328) (h2 : n + m ≤ 4611686018427387904)
    (hk : K (.slice (some ⟨H.length, 0, none⟩) (n + m) (n + m)) (H.set i .dead ++ [.cells (l ++ news) ⟨e, 1, true, 0, none⟩])) : appendTo P e 1 y (gS i n) m news H K := by
  subst hn
  rcases List.eq_nil_or_concat l with rfl | ⟨r, x, rfl⟩
  · rw [gO_nil] at hi
    rw [set_same hi] at hk
    exact appendTo_nil hm (by simpa using h1) (by simpa using h2) (by simpa using hk)
  · have hne : r.concat x ≠ [] := by simp
    rw [gO_ne hne] at hi
    rw [gS_pos (by simp)]
    exact appendTo_own hi (by decide) (by simp) hm h1 h2 hk
end Go.Aw
namespace Go.Aw
theorem flat8 {α : Type} (g : α → List UInt8) (hg : ∀ x, (g x).length = 8) : ∀ l : List α, (l.flatMap g).length = l.length * 8
  | [] => by simp
  | a :: l => by rw [List.flatMap_cons, List.length_append, hg, flat8 g hg l, List.length_cons]; omega
end Go.Aw
namespace Go.Aw
theorem putCells_eq : ∀ (l cs : List Value) (off : Nat), off + l.length ≤ cs.length → putCells cs off l = cs.take off ++ l ++ cs.drop (off + l.length)
  | [], cs, off, h => by simp [putCells]
  | v :: l, cs, off, h => by
    rw [List.length_cons] at h
    unfold putCells
    rw [putCells_eq l (cs.set off v) (off + 1) (by rw [List.length_set]; omega), List.take_add_one, List.getElem?_set_self (by omega), List.take_set_of_le (Nat.le_refl _), List.drop_set_of_lt (by omega), List.length_cons]
    simp [Nat.add_assoc, Nat.add_comm 1]
theorem putCells_all {l cs : List Value} (h : cs.length = l.length) : putCells cs 0 l = l := by
  rw [putCells_eq _ _ _ (by omega)]; simp [h]
end Go.Aw

set_option linter.unusedVariables false
set_option linter.unusedSimpArgs false
namespace Go.Aw
open Go.RowKit Go.ChangeShapes Go.WideShapes Go.ChangeAt
theorem rowAt_off {P : Program} {fits : TypeId → Bool} : ∀ {d : Nat} {e : TypeId} {count off n : Nat}, rowAt P fits d e count off n = true → off ≤ count * P.cellsOf e
  | 0, e, count, off, n, h => by simp [rowAt] at h
  | d + 1, e, count, off, n, h => by
    unfold rowAt at h
    simp only at h
    split at h
    · cases h
    rename_i hs
    have hs0 : 0 < P.cellsOf e := Nat.pos_of_ne_zero hs
    rw [Bool.or_eq_true] at h
    rcases h with h | h
    · simp only [Bool.and_eq_true, beq_iff_eq, decide_eq_true_eq] at h
      obtain ⟨⟨h1, h2⟩, _⟩ := h
      have e1 := Nat.div_add_mod off (P.cellsOf e)
      rw [h1, Nat.add_zero] at e1
      rw [← e1, Nat.mul_comm]
      exact Nat.mul_le_mul_right _ (by omega)
    · simp only [Bool.and_eq_true, decide_eq_true_eq] at h
      have h1 := h.1
      have := Nat.lt_mul_div_succ off hs0
      have h2 : P.cellsOf e * (off / P.cellsOf e + 1) ≤ P.cellsOf e * count := Nat.mul_le_mul_left _ (by omega)
      rw [Nat.mul_comm count]
      omega
theorem liesAt_le {P : Program} : ∀ {d : Nat} {e : TypeId} {count off : Nat} {u : TypeId} {n : Nat}, liesAt P d e count off u n = true → off ≤ count * P.cellsOf e
  | 0, e, count, off, u, n, h => by simp [liesAt] at h
  | d + 1, e, count, off, u, n, h => by
    unfold liesAt at h
    rw [Bool.or_eq_true] at h
    rcases h with h | h
    · exact rowAt_off h
    · split at h
      · exact liesAt_le h
      · cases h
def Rd0 (H : AHeap) (v : Value) (l : List Value) : Prop :=
  (v = .slice none 0 0 ∧ l = []) ∨ ∃ i cap k, v = .slice (some ⟨i, 0, none⟩) l.length cap ∧ l.length ≤ cap ∧ H[i]? = some (.cells l k) ∧ k.esz = 0 ∧ k.own = false
theorem Rd0.more {H : AHeap} {v : Value} {l : List Value} (h : Rd0 H v l) (X : AHeap) : Rd0 (H ++ X) v l := by
  rcases h with h | ⟨i, cap, k, e, hc, hi, hz⟩
  · exact .inl h
  · exact .inr ⟨i, cap, k, e, hc, (hgetl (lt_of_get hi)).trans hi, hz⟩
theorem Rd0.rd {H : AHeap} {v : Value} {l : List Value} (h : Rd0 H v l) : Rd H v l := by
  rcases h with ⟨h1, h2⟩ | ⟨i, cap, k, e, hc, hi, hz⟩
  · exact .inl ⟨h1, h2⟩
  · exact .inr ⟨i, 0, cap, l, k, e, hi, fun j hj => by rw [Nat.zero_add]⟩
/-- A slice of whole numbers that is lent. -/
theorem lend_ints0 {D : Type} {enc : TypeId × Value → D} {P : Program} {w : World} {t e : TypeId} {k : IntKind} {v : Value} {d : DataW D} {ps : List MemPlace} {b0 : Nat} (ht : P.underlying t = some (.slice e)) (he : P.underlying e = some (.int k)) (hc : P.cellsOf e = 1)
    (hval : Value.okWide P w .any b0 t v) (h : DataW.Trod enc P w 0 (fun _ => true) true t v d ps) {c : Ctx} {H : AHeap} (hL : Lent c H w) :
    ∃ (l : List Int) (c' : Ctx) (X : AHeap) (av : Value), (∀ n ∈ l, (Lit.int k n).wf = true) ∧ l.length ≤ maxLen ∧ Lent c' (H ++ X) w ∧ c.le c' ∧ VRel c' av v ∧ Rd0 (H ++ X) av (l.map (.int k)) := by
  have hna : ∀ q, v ≠ .agg q := fun q e => by
    subst e; simp [Value.okWide, ht, Cell.okWide, Cell.ok] at hval
  obtain ⟨fuel, hf⟩ := h
  rcases Go.ChangeShapes.open_ints ht he hc hf with ⟨hcs, hx⟩ | ⟨a, len, cap, zs, hcs, h0, h1, h2, h3, h4, h5, h6⟩
  · have hv : v = .slice none 0 0 := by
      cases v <;> simp [Value.cells] at hcs hna <;> simp [hcs]
    subst hv
    exact ⟨[], c, [], _, by simp, by simp, by rw [List.append_nil]; exact hL, Ctx.le_refl _, .nilSlice _ _, .inl ⟨rfl, rfl⟩⟩
  · have hv : v = .slice (some a) len cap := by
      cases v <;> simp [Value.cells] at hcs hna <;> simp [hcs]
    subst hv
    have hok : len ≤ cap ∧ w.has P .any b0 a e cap := by
      unfold Value.okWide at hval
      rw [ht] at hval
      simp only [Cell.okWide, ht, Cell.ok] at hval
      exact ⟨hval.1, hval.2.2⟩
    obtain ⟨hlc, _, hsp, row, cells, hsh, hla⟩ := hok
    obtain ⟨b, off, spot⟩ := a
    simp only at hsp hsh hla
    subst hsp
    obtain ⟨arr, fr, hb, hcl⟩ : ∃ arr fr, w.heap[b]? = some (.cells arr row fr) ∧ cells = arr.size := by
      unfold World.shape? at hsh
      split at hsh
      · rename_i q1 q2 q3 hq
        simp only [Option.some.injEq, Prod.mk.injEq] at hsh
        exact ⟨_, _, by rw [hq, hsh.1], hsh.2.symm⟩
      · cases hsh
    have hoff : off ≤ arr.size := by
      have h7 := liesAt_le hla
      have h8 := Nat.div_mul_le_self cells (P.cellsOf row)
      omega
    have hzl : len ≤ zs.length := by simp at h3; omega
    have hcell : ∀ i, i < zs.length → arr[off + i]? = some (.int k (zs.getD i 0)) := fun i hi => by
      have := h5 i hi
      rw [addr_add] at this
      unfold World.cell? at this
      rw [hb] at this
      simpa using this
    have hl0 : ((zs.take len).map (Value.int k)).length = len := by simp; omega
    refine ⟨zs.take len, _, _, .slice (some ⟨H.length, 0, none⟩) len cap, fun n hn => h6 n (List.mem_of_mem_take hn), by simp; omega, hL.add hb (off := off) (vs := (zs.take len).map (Value.int k)) ?_ ?_, hL.le _, ?_, ?_⟩
    · rw [hl0]
      rcases Nat.eq_zero_or_pos len with h00 | hpos
      · omega
      · have := (Array.getElem?_eq_some_iff.1 (hcell (len - 1) (by omega))).1
        omega
    · intro j v hj
      have hjl : j < len := by have := (List.getElem?_eq_some_iff.1 hj).1; omega
      have : v = .int k (zs.getD j 0) := by
        rw [List.getElem?_map, List.getElem?_take_of_lt hjl, List.getElem?_eq_getElem (by omega)] at hj
        rw [List.getD_eq_getElem?_getD, List.getElem?_eq_getElem (by omega)]
        simpa using hj.symm
      subst this
      exact ⟨_, hcell j (by omega), .int _ _⟩
    · have : VRel (c.add H.length ⟨b, off, ((zs.take len).map (Value.int k)).length, 0, 0⟩) (.slice (some ⟨H.length, 0, none⟩) len cap) (.slice (some ⟨b, off + 0, none⟩) len cap) := .slice (p := ⟨b, off, ((zs.take len).map (Value.int k)).length, 0, 0⟩) (by simp [Ctx.add])
      rw [Nat.add_zero] at this; exact this
    · exact .inr ⟨H.length, cap, ⟨row, 0, false, 0, none⟩, by rw [hl0], by rw [hl0]; exact hlc, hget0 rfl, rfl, rfl⟩
end Go.Aw

set_option linter.unusedVariables false
set_option linter.unusedSimpArgs false
namespace Go.Aw
open Go.RowKit Go.ChangeShapes Go.WideShapes Go.ChangeAt
/-- A table of numbers that a package-level variable holds. -/
def tabO (e : TypeId) (g : Nat) (k : IntKind) (zs : List Int) : AObj := .cells (zs.map (Value.int k)) ⟨e, 0, false, 0, some g⟩
theorem tab_scalar (k : IntKind) : ∀ zs : List Int, (zs.map (Value.int k)).all scalar = true
  | [] => rfl
  | z :: zs => by rw [List.map_cons, List.all_cons, tab_scalar k zs]; rfl
theorem tabIs_of_rel {P : Program} {c : Ctx} {H : AHeap} {w : World} (h : HRel c H w) {name : String} {g : Nat} {e : TypeId} {k : IntKind} {zs : List Int} (hn : P.globalNamed name = some g) (hg : H[g]? = some (tabO e g k zs)) : Lib.TabIs P w name k zs := by
  obtain ⟨p, hp, hr⟩ := h.obj g _ hg rfl
  obtain ⟨h1, h2, hx, hgl, arr, lo, hi, hb, hc, h3, _⟩ := hr
  obtain ⟨q1, q2, q3⟩ := hgl g rfl
  have hsz := q3 arr _ hb
  unfold Lib.TabIs World.var?
  rw [hn]
  show (match w.heap[g]? with | some (.cells cs _ _) => some cs | _ => none) = _
  rw [← q1, hb]
  have : arr = (zs.map (Value.int k)).toArray := by
    apply Array.ext'
    refine List.ext_getElem? fun i => ?_
    by_cases hi : i < (zs.map (Value.int k)).length
    · obtain ⟨v', e1, e2⟩ := hc i _ (List.getElem?_eq_getElem hi)
      rw [q2, Nat.zero_add] at e1
      have hs : scalar ((zs.map (Value.int k))[i]) = true := List.all_eq_true.1 (tab_scalar k zs) _ (List.getElem_mem _)
      have := e2.scalar_eq hs
      subst this
      rw [Array.getElem?_toList, e1, List.toList_toArray, List.getElem?_eq_getElem hi]
    · have h0 : arr.toList.length = (zs.map (Value.int k)).length := by simpa using hsz
      rw [List.getElem?_eq_none (by omega), List.getElem?_eq_none (by simpa using hi)]
  exact congrArg some this
theorem ARet.ofCallsT {P : Program} {f : FuncId} {fn : Func} {args : List Value} {v : Value} (hf : P.funcs[f]? = some fn) (hb : fn.body.isSome = true) (hn : (fn.name == "runtime.NumGoroutine") = false) (ha : args.all scalar = true) (hv : scalar v = true)
    (H : AHeap) (R : World → Prop) (hR : ∀ c w, HRel c H w → R w) (h : ∀ w, R w → Calls P f ⟨args⟩ w fun e w' => e = .returned v ∧ Below w.heap.size w w') : ARet P f args H v H := by
  intro c w vargs hh hvs
  have e := hvs.scalars_eq ha
  subst e
  unfold CallTo
  have hbn : fn.body.isNone = false := by cases hfb : fn.body <;> simp_all
  have hr : (callFunc f ⟨args⟩).run P w = .ok (.enter f ⟨args⟩) w := by
    simp only [callFunc, Sem.run_bind, run_program, Result.andThen_ok, hf, hn, Bool.false_eq_true, if_false, hbn]
    rfl
  rw [hr]
  refine (h w (hR c w hh)).mono fun e w' ⟨he, hbl⟩ => ?_
  subst he
  exact ⟨.ret v, c, H, ⟨rfl, rfl⟩, .ret (.of_scalar hv), hh.below hbl, .below hbl⟩
theorem Lent.pad {c : Ctx} {H : AHeap} {w : World} (h : Lent c H w) (n : Nat) : Lent c (H ++ List.replicate n .dead) w := by
  have hd : ∀ (i : Nat) (o : AObj), (H ++ List.replicate n AObj.dead)[i]? = some o → o = .dead ∨ H[i]? = some o := fun i o e => by
    by_cases hi : i < H.length
    · right; rwa [hgetl hi] at e
    · left
      rw [List.getElem?_append_right (by omega)] at e
      exact List.eq_of_mem_replicate (List.mem_of_getElem? e)
  refine ⟨⟨fun i o e hl => ?_, fun i j oi oj pi pj hij hi hj ci cj ho hl => ?_, fun i hi => h.rel.fresh i (by simp at hi; omega)⟩, fun i o e => ?_⟩
  · rcases hd i o e with rfl | e
    · cases hl
    · exact h.rel.obj i o e hl
  · rcases hd i oi hi with rfl | e1
    · cases ho
    · rw [h.own i oi e1] at ho; cases ho
  · rcases hd i o e with rfl | e
    · rfl
    · exact h.own i o e
/-- A package-level table is lent under its own number. -/
theorem Lent.tab {P : Program} {c : Ctx} {H : AHeap} {w : World} (h : Lent c H w) {name : String} {g : Nat} {k : IntKind} {zs : List Int} (hn : P.globalNamed name = some g) (hl : H.length ≤ g) (ht : Lib.TabIs P w name k zs) :
    ∃ (c' : Ctx) (e : TypeId), Lent c' (H ++ (List.replicate (g - H.length) .dead ++ [tabO e g k zs])) w ∧ c.le c' := by
  unfold Lib.TabIs World.var? at ht
  rw [hn] at ht
  have ht' : (match w.heap[g]? with | some (.cells cs _ _) => some cs | _ => none) = some (zs.map fun z => Value.int k z).toArray := ht
  obtain ⟨e, fr, hb⟩ : ∃ e fr, w.heap[g]? = some (.cells (zs.map (Value.int k)).toArray e fr) := by
    split at ht'
    · rename_i cs e fr hb
      have e1 := Option.some.inj ht'
      subst e1
      exact ⟨e, fr, hb⟩
    · cases ht'
  have hp := h.pad (g - H.length)
  have hlen : (H ++ List.replicate (g - H.length) AObj.dead).length = g := by simp; omega
  simp only [← List.append_assoc]
  generalize H ++ List.replicate (g - H.length) AObj.dead = H1 at hp hlen ⊢
  have hle : c.le (c.add H1.length ⟨g, 0, zs.length, 0, 0⟩) := Ctx.le_add _ (hp.rel.fresh _ (Nat.le_refl _))
  have hlast : ∀ (i : Nat) (o : AObj), (H1 ++ [tabO e g k zs])[i]? = some o → ¬ i < H1.length → i = H1.length ∧ o = tabO e g k zs := fun i o hi h1 => by
    have hlt := lt_of_get hi
    simp at hlt
    have : i = H1.length := by omega
    subst this
    rw [hget0 rfl] at hi
    simp at hi
    exact ⟨rfl, hi.symm⟩
  refine ⟨c.add H1.length ⟨g, 0, zs.length, 0, 0⟩, e, ⟨⟨fun i o hi hlv => ?_, fun i j oi oj pi pj hij hi hj _ _ ho _ => ?_, fun i hi => ?_⟩, fun i o hi => ?_⟩, hle⟩
  · by_cases h1 : i < H1.length
    · rw [hgetl h1] at hi
      obtain ⟨p, hp', hr⟩ := hp.rel.obj i o hi hlv
      exact ⟨p, hle _ _ hp', hr.keep hle hlv rfl⟩
    · obtain ⟨rfl, rfl⟩ := hlast i o hi h1
      refine ⟨⟨g, 0, zs.length, 0, 0⟩, by simp [Ctx.add], by simp, rfl, fun _ => ⟨rfl, fun o => (by cases o)⟩, fun n hn' => ⟨Option.some.inj hn', rfl, fun a r hh => ?_⟩, (zs.map (Value.int k)).toArray, fr.1, fr.2, hb, ?_, by simp, fun hk => by cases hk⟩
      · rw [hb] at hh
        cases hh
        rfl
      · intro j v hj
        exact ⟨v, by rw [Nat.zero_add]; simpa using hj, .of_scalar (List.all_eq_true.1 (tab_scalar k zs) _ (List.mem_of_getElem? hj))⟩
  · by_cases h1 : i < H1.length
    · rw [hgetl h1] at hi
      rw [hp.own i oi hi] at ho; cases ho
    · obtain ⟨rfl, rfl⟩ := hlast i oi hi h1
      cases ho
  · simp at hi
    rw [Ctx.add_other _ _ (by omega)]; exact hp.rel.fresh i (by omega)
  · by_cases h1 : i < H1.length
    · rw [hgetl h1] at hi; exact hp.own i o hi
    · obtain ⟨rfl, rfl⟩ := hlast i o hi h1
      rfl
end Go.Aw

set_option linter.unusedVariables false
set_option linter.unusedSimpArgs false
namespace Go.Aw
open Go.Proofs Go.Shelf
theorem ARet.copyCheck {P : Program} {ρ : Ren} (L : Lays.n240 P ρ) (X : Builder.X72 P ρ) {i : Nat} {p sl : Value} {H : AHeap} (hb : ((P.funcs[ρ.f 240]?).bind (·.body)).isSome = true) (hnm : ((P.funcs[ρ.f 240]?).map fun f => f.name == "runtime.NumGoroutine") = some false)
    (hi : H[i]? = some (.cells [p, sl] ⟨ρ.t 72, 0, true, 0, none⟩)) (hp : p = .pointer none ∨ p = .pointer (some ⟨i, 0, none⟩)) :
    ARet P (ρ.f 240) [.pointer (some ⟨i, 0, none⟩)] H noVal (H.set i (.cells [.pointer (some ⟨i, 0, none⟩), sl] ⟨ρ.t 72, 0, true, 0, none⟩)) := by
  intro c w vargs hh hvs
  obtain ⟨v', rfl, hv⟩ := hvs.one
  cases hv with
  | ptr hc =>
  rename_i q
  obtain ⟨q', hq', hr⟩ := hh.obj i _ hi rfl
  rw [hc] at hq'; cases hq'
  obtain ⟨r1, r2, r3, r4, arr, lo, hi', r5, r6, r7, r8⟩ := hr
  obtain ⟨_, r3⟩ := r3 rfl
  obtain ⟨hbase, hsz⟩ := r3 rfl
  have hsz := hsz arr _ r5
  have hself : VRel c (.pointer (some ⟨i, 0, none⟩)) (.pointer (some ⟨q.block, q.base + 0, none⟩)) := .ptr hc
  obtain ⟨_, hfz, hS, hT⟩ := hh.setCell hi rfl hc (off := 0) (by simp) (Nat.zero_le _) hself H.length
  obtain ⟨u, hu, hvu⟩ := hh.cell hi hc (off := 0) (v := p) rfl
  rw [hbase] at hfz hS hT hu hself ⊢
  simp only [Nat.add_zero, List.set_cons_zero] at hfz hS hT hu hself ⊢
  have hsh : w.shape? q.block = some (ρ.t 72, 2) := by simp [World.shape?, r5, hsz]
  unfold CallTo
  cases hfn : P.funcs[ρ.f 240]? with
  | none => rw [hfn] at hb; cases hb
  | some fn =>
  rw [hfn] at hb hnm
  have hbn : fn.body.isNone = false := by cases hfb : fn.body <;> simp_all
  have hn : (fn.name == "runtime.NumGoroutine") = false := by simpa using hnm
  have hrun : (callFunc (ρ.f 240) ⟨[.pointer (some ⟨q.block, 0, none⟩)]⟩).run P w = .ok (.enter (ρ.f 240) ⟨[.pointer (some ⟨q.block, 0, none⟩)]⟩) w := by
    simp only [callFunc, Sem.run_bind, run_program, Result.andThen_ok, hfn, hn, Bool.false_eq_true, if_false, hbn]
    rfl
  rw [hrun]
  rcases hp with rfl | rfl
  · cases hvu
    refine (Any.Builder_copyCheck_fresh L X q.block w hu hsh hfz).mono fun e w' ⟨he, hw'⟩ => ?_
    subst he; subst hw'
    exact ⟨.ret noVal, c, _, ⟨rfl, rfl⟩, .ret (.tuple .nil), hS, hT⟩
  · cases hvu with
    | ptr hc2 =>
    rw [hc] at hc2; cases hc2
    rw [hbase] at hu
    refine (Any.Builder_copyCheck_used L X q.block w hu).mono fun e w' ⟨he, hw'⟩ => ?_
    subst he; subst hw'
    refine ⟨.ret noVal, c, H, ⟨rfl, (set_same hi).symm⟩, .ret (.tuple .nil), hh, .refl _ _ _ _⟩

/-- The function value (f, cap) yields l 0, l 1, .. for as long as it is told to go on; I holds for so many steps only. -/
structure SeqI (P : Program) (f : FuncId) (cap : List Value) (l : Nat → List Value) (N : Nat) (Hok : AHeap → Prop) : Prop where
  body : ∃ fn, P.funcs[f]? = some fn ∧ fn.body.isSome = true ∧ (fn.name == "runtime.NumGoroutine") = false
  run : ∀ (i : Nat) (H : AHeap) (I : Nat → AHeap → Prop) (D : AHeap → Prop), I 0 H → (∀ n H1, I n H1 → n ≤ N ∧ Hok H1) → (∀ n H1 X, I n H1 → I n (H1 ++ X)) →
    (∀ n H1, I n H1 → AY P i (l n) H1 (fun u H2 => ∃ b, u = .bool b ∧ (b = true → I (n + 1) H2) ∧ (b = false → D H2))) →
    AC P f (.func (.yield i) ⟨[]⟩ ⟨[]⟩ :: cap) H (fun r H2 => r = .ret noVal ∧ D H2)
theorem AWP.rangeI {g : Cfg} {Q : AExit → ASt → Prop} {env : List (Nat × Value)} {ds : List ADef} {H : AHeap} {gop : Operand} {ps : List Tmp} {assign body : Code} {f : FuncId} {cap : List Value} {l : Nat → List Value} {N : Nat} {Hok : AHeap → Prop} (hs : SeqI g.P f cap l N Hok) (hlr : g.lr = none) (hn0 : g.n0 ≤ H.length) (hg : ev ⟨env, ds, H⟩ gop = some (.func (.func f) ⟨[]⟩ ⟨cap⟩))
    (h : ∀ L : ALoop, L = ⟨.ready, none, env, g.N.n, ps, assign, body⟩ → ∃ (I : Nat → AHeap → Prop) (D : AHeap → Prop), I 0 (H ++ [.loop L]) ∧ (∀ n H1, I n H1 → n ≤ N ∧ Hok H1) ∧ (∀ n H1 X, I n H1 → I n (H1 ++ X)) ∧
      (∀ n H1, I n H1 → AY g.P H.length (l n) H1 (fun u H2 => ∃ b, u = .bool b ∧ (b = true → I (n + 1) H2) ∧ (b = false → D H2))) ∧
      (∀ H2, D H2 → loopK g Q ⟨env, ds, H⟩ (.ret noVal) H2)) : AWP g (.rangeFunc gop ps.toArray assign body) Q ⟨env, ds, H⟩ := by
  obtain ⟨fn, h1, h2, h3⟩ := hs.body
  refine AWP.rangeL h1 hlr hn0 hg h2 h3 fun L hL => ?_
  obtain ⟨I, D, h0, hok, hx, hy, hk⟩ := h L hL
  refine (hs.run H.length _ I D h0 hok hx hy).mono ?_
  rintro r H2 ⟨rfl, h⟩
  exact hk H2 h
end Go.Aw

set_option linter.unusedVariables false
set_option linter.unusedSimpArgs false
namespace Go.Aw
open Go.RowKit Go.ChangeShapes Go.WideShapes Go.ChangeAt
inductive FK where
  | i (k : IntKind)
  | s
  | b
def FK.fits (bnd : Nat) : FK → Value → Prop
  | .i k, v => ∃ z, v = .int k z ∧ (Lit.int k z).wf = true
  | .s, v => ∃ s : List UInt8, v = .string (bs s) ∧ s.length ≤ bnd
  | .b, v => ∃ c : Bool, v = .bool c
inductive Fits (bnd : Nat) : List FK → List Value → Prop
  | nil : Fits bnd [] []
  | cons {k : FK} {v : Value} {ks : List FK} {vs : List Value} : k.fits bnd v → Fits bnd ks vs → Fits bnd (k :: ks) (v :: vs)
theorem Fits.append {bnd : Nat} : ∀ {ks : List FK} {vs : List Value} {ks' : List FK} {vs' : List Value}, Fits bnd ks vs → Fits bnd ks' vs' → Fits bnd (ks ++ ks') (vs ++ vs')
  | _, _, _, _, .nil, h => h
  | _, _, _, _, .cons a b, h => .cons a (Fits.append b h)
theorem Fits.len {bnd : Nat} : ∀ {ks : List FK} {vs : List Value}, Fits bnd ks vs → vs.length = ks.length
  | _, _, .nil => rfl
  | _, _, .cons a b => by simp [Fits.len b]
theorem FK.fits_scalar {bnd : Nat} {k : FK} {v : Value} (h : k.fits bnd v) : scalar v = true := by
  cases k <;> (unfold FK.fits at h; obtain ⟨_, h⟩ := h; first | (obtain ⟨rfl, _⟩ := h; rfl) | (subst h; rfl))
theorem Fits.scalar {bnd : Nat} : ∀ {ks : List FK} {vs : List Value}, Fits bnd ks vs → vs.all Go.Aw.scalar = true
  | _, _, .nil => rfl
  | _, _, .cons a b => by rw [List.all_cons, FK.fits_scalar a, Fits.scalar b]; rfl
/-- The cells of the fields from a place on. -/
def leafsF (f : TypeId → Option (List FK)) (P : Program) (tot : Nat) : List Field → Nat → Option (List FK)
  | [], o => if o = tot then some [] else none
  | fd :: r, o => if fd.offset = o then (f fd.type).bind fun l => if l.length = P.cellsOf fd.type then (leafsF f P tot r (o + l.length)).map (l ++ ·) else none else none
def leafs (P : Program) : Nat → TypeId → Option (List FK)
  | 0, _ => none
  | d + 1, t =>
    match P.underlying t with
    | some (.int k) => some [.i k]
    | some .string => some [.s]
    | some .bool => some [.b]
    | some (.struct fs) => leafsF (leafs P d) P (P.cellsOf t) fs.toList 0
    | _ => none
theorem trod_leafs {D : Type} {enc : TypeId × Value → D} {P : Program} {w : World} {bnd : Nat} : ∀ (d : Nat) {t : TypeId} {ks : List FK} {n : Nat} {cs : List Value} {y : DataW D × List MemPlace}, leafs P d t = some ks →
    DataW.trod enc P w 0 (fun _ => true) true n t cs = some y → (y.1.weights P t).all (· ≤ bnd) = true → Fits bnd ks cs
  | 0, _, _, _, _, _, h, _, _ => by simp [leafs] at h
  | d + 1, t, ks, n, cs, y, h, ht, hw => by
    unfold leafs at h
    split at h
    · rename_i k hu
      cases h
      obtain ⟨z, rfl, _, hz⟩ := DataW.trod_int hu ht
      exact .cons ⟨z, rfl, hz⟩ .nil
    · rename_i hu
      cases h
      obtain ⟨s, rfl, hy, _⟩ := DataW.trod_string hu ht
      rw [hy] at hw
      exact .cons ⟨s.data.toList, rfl, by simpa [DataW.weights] using hw⟩ .nil
    · rename_i hu
      cases h
      obtain ⟨c, rfl, _⟩ := DataW.trod_bool hu ht
      exact .cons ⟨c, rfl⟩ .nil
    · rename_i fs hu
      obtain ⟨xs, n', _, hy, hlen, hxl, hall⟩ := DataW.trod_struct hu ht
      have hwe : ∀ (i : Nat) (f : Field) (x : DataW D × List MemPlace), fs[i]? = some f → xs[i]? = some x → (x.1.weights P f.type).all (· ≤ bnd) = true := fun i f x hf hx => by
        refine List.all_eq_true.2 fun q hq => List.all_eq_true.1 hw q ?_
        rw [hy]
        simp only [DataW.weights, hu]
        refine DataW.weights_mem_each (j := i) (t := f.type) (d := x.1) ?_ ?_ q hq
        · rw [List.getElem?_map, Array.getElem?_toList, hf]; rfl
        · rw [List.getElem?_map, hx]; rfl
      have key : ∀ (l : List Field) (i o : Nat) (ks : List FK), fs.toList.drop i = l → leafsF (leafs P d) P (P.cellsOf t) l o = some ks → Fits bnd ks (cs.drop o) := by
        intro l
        induction l with
        | nil =>
          intro i o ks hi hl
          unfold leafsF at hl
          split at hl
          · rename_i ho
            cases hl
            rw [List.drop_eq_nil_of_le (by rw [hlen]; omega)]
            exact .nil
          · cases hl
        | cons fd r ih =>
          intro i o ks hi hl
          unfold leafsF at hl
          split at hl
          · rename_i ho
            rw [Option.bind_eq_some_iff] at hl
            obtain ⟨l1, h1, hl⟩ := hl
            split at hl
            · rename_i hll
              rw [Option.map_eq_some_iff] at hl
              obtain ⟨l2, h2, rfl⟩ := hl
              have hfi : fs[i]? = some fd := by
                have := congrArg (·[0]?) hi
                simp only [List.getElem?_drop, Nat.add_zero, List.getElem?_cons_zero] at this
                rw [← Array.getElem?_toList]; exact this
              have hix : i < xs.length := by rw [hxl]; exact (Array.getElem?_eq_some_iff.1 hfi).1
              have h3 := hall i fd hfi
              rw [List.getElem?_eq_getElem hix, ho, ← hll] at h3
              have hf1 := trod_leafs (bnd := bnd) d h1 h3 (hwe i fd _ hfi (List.getElem?_eq_getElem hix))
              have hr : fs.toList.drop (i + 1) = r := by
                rw [← List.drop_drop, hi]; rfl
              have hf2 := ih (i + 1) (o + l1.length) l2 hr h2
              have := hf1.append hf2
              rw [← List.drop_drop, List.take_append_drop] at this
              exact this
            · cases hl
          · cases hl
      have := key fs.toList 0 0 ks rfl h
      simpa using this
    · cases h
/-- A record that is handed over is its cells. -/
theorem open_rec {D : Type} {enc : TypeId × Value → D} {P : Program} {w : World} {t : TypeId} {v : Value} {d : DataW D} {ps : List MemPlace} {b0 bnd : Nat} {ks : List FK} (hag : (match P.underlying t with | some (.struct _) => true | _ => false) = true) (hl : leafs P 8 t = some ks)
    (hval : Value.okWide P w .any b0 t v) (h : DataW.Trod enc P w 0 (fun _ => true) true t v d ps) (hw : (d.weights P t).all (· ≤ bnd) = true) : ∃ cs, v = .agg ⟨cs⟩ ∧ Fits bnd ks cs := by
  obtain ⟨fuel, hf⟩ := h
  have hfit := trod_leafs 8 hl hf hw
  split at hag
  · rename_i fs hu
    have : ∃ cs, v = .agg cs := by
      unfold Value.okWide at hval
      rw [hu] at hval
      obtain ⟨cs, rfl, _⟩ := hval
      exact ⟨cs, rfl⟩
    obtain ⟨⟨cs⟩, rfl⟩ := this
    exact ⟨cs, rfl, hfit⟩
  · cases hag
end Go.Aw
