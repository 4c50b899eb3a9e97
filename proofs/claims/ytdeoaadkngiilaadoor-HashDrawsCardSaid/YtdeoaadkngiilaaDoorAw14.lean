/-
  What may be forgotten of a state; loops; a function's contract out of its body, deferred calls and all.
-/
import Derived.Test.YtdeoaadkngiilaaDoorAw13
set_option linter.unusedVariables false
set_option linter.unusedSimpArgs false
namespace Go.Aw

/-! ### Less is known -/
def Weak (n0 : Nat) (s1 s2 : ASt) : Prop := ∀ N c w a, SRel N c s1 w a → ∃ c2, SRel N c2 s2 w a ∧ Trans n0 c s1.H w c2 s2.H w

theorem Weak.refl (n0 : Nat) (s : ASt) : Weak n0 s s := fun N c w a h => ⟨c, h, .refl _ _ _ _⟩
theorem Weak.trans {n0 : Nat} {s1 s2 s3 : ASt} (h : Weak n0 s1 s2) (k : Weak n0 s2 s3) : Weak n0 s1 s3 := fun N c w a hs =>
  let ⟨c2, h2, t2⟩ := h N c w a hs
  let ⟨c3, h3, t3⟩ := k N c2 w a h2
  ⟨c3, h3, t2.trans t3⟩

/-- Each of these is known, as f asks. -/
def envIn (e1 : List (Nat × Value)) (f : Value → Value → Prop) : List (Nat × Value) → Prop
  | [] => True
  | (t, v) :: r => wth (lk t e1) (f v) ∧ envIn e1 f r

theorem envIn.lk {e1 : List (Nat × Value)} {f : Value → Value → Prop} : ∀ {e2 : List (Nat × Value)}, envIn e1 f e2 → ∀ {t : Nat} {v : Value}, lk t e2 = some v → ∃ u, lk t e1 = some u ∧ f v u
  | [], _, t, v, h => by cases h
  | (k, u) :: r, ⟨h1, h2⟩, t, v, h => by
    rw [lk_cons] at h
    split at h
    · rename_i hk
      subst hk
      cases h
      exact wth_elim h1
    · exact envIn.lk h2 h

theorem Weak.env {n0 : Nat} {e1 e2 : List (Nat × Value)} {ds : List ADef} {H : AHeap} (h : envIn e1 (fun v u => u = v) e2) : Weak n0 ⟨e1, ds, H⟩ ⟨e2, ds, H⟩ := fun N c w a hs =>
  ⟨c, ⟨hs.heap, hs.size, fun t v e => by
    obtain ⟨u, h1, h2⟩ := h.lk e
    subst h2
    exact hs.tmps t _ h1, hs.defs⟩, .refl _ _ _ _⟩

inductive DName (m : Names) : List ADef → List ADef → Prop
  | nil : DName m [] []
  | mark {ds ds' : List ADef} : DName m ds ds' → DName m (.mark :: ds) (.mark :: ds')
  | call {f : FuncId} {cap args cap' args' : List Value} {ds ds' : List ADef} : NRels m cap cap' → NRels m args args' → DName m ds ds' → DName m (.call (.func f) cap args :: ds) (.call (.func f) cap' args' :: ds')

theorem DName.use {m : Names} {c c2 : Ctx} {H1 H2 : AHeap} {w : World} {B : Nat} (hc : ∀ i j, m i = some j → c2 i = c j) (ho : ∀ b, Owns c2 H2 b → Owns c H1 b ∨ w.heap.size ≤ b) : ∀ {d2 d1 : List ADef} {d : List Deferred}, DName m d2 d1 → DRel B c H1 w d1 d → DRel B c2 H2 w d2 d
  | _, _, _, .nil, h => by cases h with | nil hz => exact .nil hz
  | _, _, _, .mark k, h => by
    cases h with
    | mark hB hb hno hne hr =>
      refine .mark hB hb (fun h' => ?_) hne (DName.use hc ho k hr)
      rcases ho _ h' with h'' | h''
      · exact hno h''
      · have := (Array.getElem?_eq_some_iff.1 hb).1
        omega
  | _, _, _, .call a b k, h => by
    cases h with
    | call hf h1 h2 hr => cases hf; exact .call (.func _) (NRels.comp hc a h1) (NRels.comp hc b h2) (DName.use hc ho k hr)

theorem Weak.names {n0 : Nat} {m : Names} {e1 e2 : List (Nat × Value)} {d1 d2 : List ADef} {H1 H2 : AHeap} (h : HName n0 m H1 H2) (he : envIn e1 (NRel m) e2) (hd : DName m d2 d1) : Weak n0 ⟨e1, d1, H1⟩ ⟨e2, d2, H2⟩ := fun N c w a hs => by
  obtain ⟨c2, h2, t2, hc⟩ := h.use hs.heap
  refine ⟨c2, ⟨h2, hs.size, fun t v e => ?_, hd.use hc t2.owned hs.defs⟩, t2⟩
  obtain ⟨u, k1, k2⟩ := he.lk e
  obtain ⟨v', k3, k4⟩ := hs.tmps t u k1
  exact ⟨v', k3, k2.comp hc k4⟩

theorem AWP.weak {g : Cfg} {code : Code} {Q : AExit → ASt → Prop} {s1 s2 : ASt} (h : Weak g.n0 s1 s2) (k : AWP g code Q s2) : AWP g code Q s1 := fun c w a hs =>
  let ⟨c2, h2, t2⟩ := h g.N c w a hs
  wpIn_mono (k c2 w a h2) (fun _ _ _ hp => hp.back t2)

open Classical in
/-- A loop: at each round's end what holds may be forgotten down to a state that I lets and that is lower. -/
theorem AWP.loopW {g : Cfg} {Q : AExit → ASt → Prop} {st : ASt} {x : Code} (I : ASt → Prop) (m : ASt → Nat) (h0 : I st)
    (hr : ∀ s, I s → AWP g x (next (fun s' => ∃ s2, Weak g.n0 s' s2 ∧ I s2 ∧ m s2 < m s) Q) s) : AWP g (.loop x) Q st := by
  intro c w a hs
  let fits : Nat → Act → World → Prop := fun k a' w' => ∃ s c', m s = k ∧ I s ∧ SRel g.N c' s w' a' ∧ Trans g.n0 c st.H w c' s.H w'
  let mu : Act → World → Nat := fun a' w' => if h : ∃ k, fits k a' w' then Classical.choose (least h) else 0
  refine wpIn_loop (fun a' w' => ∃ k, fits k a' w') mu ⟨m st, st, c, rfl, h0, hs, .refl _ _ _ _⟩ ?_
  intro a1 w1 hf
  have hmu : mu a1 w1 = Classical.choose (least hf) := by simp only [mu]; rw [dif_pos hf]
  obtain ⟨s, c1, hm, hI, hs1, ht1⟩ := (Classical.choose_spec (least hf)).1
  refine wpIn_mono (hr s hI c1 w1 a1 hs1) ?_
  rintro e a2 w2 ⟨x2, s2, c2, hq, hx, hs2, ht2⟩
  cases hx with
  | normal =>
    obtain ⟨s3, hw, hI3, hlt⟩ := hq
    obtain ⟨c3, hs3, ht3⟩ := hw g.N c2 w2 a2 hs2
    have hf2 : ∃ k, fits k a2 w2 := ⟨m s3, s3, c3, rfl, hI3, hs3, (ht1.trans ht2).trans ht3⟩
    refine ⟨hf2, ?_⟩
    have h2 : mu a2 w2 = Classical.choose (least hf2) := by simp only [mu]; rw [dif_pos hf2]
    rw [hmu, h2]
    exact Nat.lt_of_le_of_lt ((Classical.choose_spec (least hf2)).2 _ ⟨s3, c3, rfl, hI3, hs3, (ht1.trans ht2).trans ht3⟩) (by rw [← hm]; exact hlt)
  | exit id => exact ⟨_, s2, c2, hq, .exit id, hs2, ht1.trans ht2⟩
  | goto l => exact ⟨_, s2, c2, hq, .goto l, hs2, ht1.trans ht2⟩
  | ret => exact ⟨_, s2, c2, hq, .ret, hs2, ht1.trans ht2⟩
  | panic hv => exact ⟨_, s2, c2, hq, .panic hv, hs2, ht1.trans ht2⟩

/-- A loop whose states are told by a parameter. -/
theorem AWP.loopP {g : Cfg} {Q : AExit → ASt → Prop} {st : ASt} {x : Code} {S : Type} (f : S → ASt) (ok : S → Prop) (m : S → Nat) (s0 : S) (h0 : Weak g.n0 st (f s0)) (hok : ok s0)
    (hr : ∀ s, ok s → AWP g x (next (fun s' => ∃ s2, Weak g.n0 s' (f s2) ∧ ok s2 ∧ m s2 < m s) Q) (f s)) : AWP g (.loop x) Q st := by
  refine AWP.weak h0 ?_
  -- the measure of a state: the least of the parameters that tell it
  let fits : ASt → Nat → Prop := fun s k => ∃ p, f p = s ∧ ok p ∧ m p = k
  have : ∀ s, (∃ k, fits s k) → ∃ k, fits s k ∧ ∀ j, fits s j → k ≤ j := fun s h => least h
  classical
  let mm : ASt → Nat := fun s => if h : ∃ k, fits s k then Classical.choose (this s h) else 0
  refine AWP.loopW (fun s => ∃ p, f p = s ∧ ok p) mm ⟨s0, rfl, hok⟩ ?_
  rintro s ⟨p0, hp0, hok0⟩
  have hex : ∃ k, fits s k := ⟨m p0, p0, hp0, hok0, rfl⟩
  obtain ⟨⟨p, hp, hokp, hmp⟩, _⟩ := Classical.choose_spec (this s hex)
  have hms : mm s = m p := by simp only [mm]; rw [dif_pos hex, hmp]
  subst hp
  refine (hr p hokp).mono ?_
  intro y s' hq
  cases y with
  | normal =>
    obtain ⟨p2, hw, hok2, hlt⟩ := hq
    refine ⟨f p2, hw, ⟨p2, rfl, hok2⟩, ?_⟩
    have hex2 : ∃ k, fits (f p2) k := ⟨m p2, p2, rfl, hok2, rfl⟩
    have h2 : mm (f p2) ≤ m p2 := by
      simp only [mm]; rw [dif_pos hex2]
      exact (Classical.choose_spec (this (f p2) hex2)).2 _ ⟨p2, rfl, hok2, rfl⟩
    rw [hms]; omega
  | _ => exact hq

/-! ### Results -/
def resV (P : Program) (env : List (Nat × Value)) (H : AHeap) : List ResultVar → (List Value → Prop) → Prop
  | [], k => k []
  | .tmp t :: r, k => wth (lk t env) fun v => resV P env H r fun vs => k (v :: vs)
  | .cell t ty :: r, k => wth (lk t env) fun p => loadW P ty p H fun v _ => resV P env H r fun vs => k (v :: vs)

def packV : List Value → Value
  | [v] => v
  | vs => .tuple ⟨vs⟩

def resF (tmps : Array Value) : ResultVar → Sem Value
  | .tmp t => pure (tmps.getD t undef)
  | .cell a t => do loadVar t (← asAddr (tmps.getD a undef))
theorem results_eq (fn : Func) (tmps : Array Value) : results fn tmps = (do let vs ← fn.results.mapM (resF tmps); pure (if h : vs.size = 1 then vs[0] else .tuple vs)) := by
  unfold results
  congr 2

theorem resV_ok {P : Program} {N : Fr} {c : Ctx} {st : ASt} {w : World} {a : Act} (hs : SRel N c st w a) : ∀ {l : List ResultVar} {k : List Value → Prop}, resV P st.env st.H l k →
    ∃ vs vs', k vs ∧ VRels c vs vs' ∧ (l.mapM (resF a.tmps) : Sem (List Value)).run P w = .ok vs' w
  | [], k, h => ⟨[], [], h, .nil, rfl⟩
  | .tmp t :: r, k, h => by
    obtain ⟨v, hv, h⟩ := wth_elim h
    obtain ⟨v', h1, h2⟩ := hs.tmps t v hv
    obtain ⟨vs, vs', g1, g2, g3⟩ := resV_ok hs h
    refine ⟨v :: vs, v' :: vs', g1, .cons h2 g2, ?_⟩
    have : a.tmps.getD t undef = v' := by simp [Array.getD_eq_getD_getElem?, h1]
    simp only [List.mapM_cons, resF, Sem.run_bind, this, Sem.run_pure, Result.andThen_ok, g3]
  | .cell t ty :: r, k, h => by
    obtain ⟨p, hp, h⟩ := wth_elim h
    obtain ⟨p', h1, h2⟩ := hs.tmps t p hp
    obtain ⟨v', w', hr, v, H', c', hk, hv, hle, hh, ht⟩ := loadW_ok hs.heap h2 h
    have : a.tmps.getD t undef = p' := by simp [Array.getD_eq_getD_getElem?, h1]
    -- a load leaves the world alone: read it again
    unfold loadW at h
    split at h
    · rename_i i off
      cases h2 with
      | ptr hc =>
        rename_i pl
        split at h
        · rename_i cs ck hi
          have hload : ∃ v v', (loadVar ty ⟨pl.block, pl.base + off, none⟩).run P w = .ok v' w ∧ VRel c v v' ∧ resV P st.env st.H r fun vs => k (v :: vs) := by
            have := loadW_ok (P := P) (t := ty) (K := fun u H' => resV P st.env st.H r fun vs => k (u :: vs)) hs.heap (.ptr (off := off) hc) (by unfold loadW; simp only [hi]; exact h)
            obtain ⟨agg, hagg, h⟩ := wth_elim h
            cases agg with
            | true =>
              simp only [if_true] at h
              obtain ⟨n, hn, hle2, hk2⟩ := wth_elim h
              obtain ⟨l', hl', hv2, hrun⟩ := hs.heap.cellsAt hi hc off n hle2
              refine ⟨_, .agg ⟨l'⟩, ?_, .agg hv2, hk2⟩
              simp only [loadVar, Sem.run_bind, run_isAgg hagg, Result.andThen_ok, if_true, run_sizeOf hn, loadCells, hrun, Sem.run_pure]
              simp
            | false =>
              simp only [Bool.false_eq_true, if_false] at h
              obtain ⟨u, hu, hk2⟩ := wth_elim h
              obtain ⟨u', hc1, hc2⟩ := hs.heap.cell hi hc hu
              refine ⟨u, u', ?_, hc2, hk2⟩
              simp only [loadVar, Sem.run_bind, run_isAgg hagg, Result.andThen_ok, Bool.false_eq_true, if_false, run_load, hc1]
          obtain ⟨u, u', hl1, hl2, hl3⟩ := hload
          obtain ⟨vs, vs', g1, g2, g3⟩ := resV_ok hs hl3
          refine ⟨u :: vs, u' :: vs', g1, .cons hl2 g2, ?_⟩
          have hF : (resF a.tmps (.cell t ty)).run P w = .ok u' w := by simp only [resF, this, asAddr, pure_bind, hl1]
          simp only [List.mapM_cons, Sem.run_bind, hF, Sem.run_pure, Result.andThen_ok, g3]
        · exact h.elim
    · exact h.elim

/-- Of a result less is known. -/
def WeakV (n0 : Nat) (H : AHeap) (v : Value) (H2 : AHeap) (v2 : Value) : Prop := ∀ c w v', HRel c H w → VRel c v v' → ∃ c2, HRel c2 H2 w ∧ VRel c2 v2 v' ∧ Trans n0 c H w c2 H2 w
theorem WeakV.refl (n0 : Nat) (H : AHeap) (v : Value) : WeakV n0 H v H v := fun c w v' h hv => ⟨c, h, hv, .refl _ _ _ _⟩
theorem WeakV.names {n0 : Nat} {m : Names} {H1 H2 : AHeap} {v v2 : Value} (h : HName n0 m H1 H2) (hv : NRel m v2 v) : WeakV n0 H1 v H2 v2 := fun c w v' hh hr =>
  let ⟨c2, h2, t2, hc⟩ := h.use hh
  ⟨c2, h2, hv.comp hc hr, t2⟩

inductive AMode where
  | ret
  | pan (v : Value)

inductive MRel (c : Ctx) : AMode → FrameMode → Prop
  | ret : MRel c .ret .returning
  | pan {v v' : Value} : VRel c v v' → MRel c (.pan v) (.panicking [{ v := v', recovered := false }])

/-- A deferred call of function f in an activation that leaves as told: how the activation leaves behind it. -/
def AD (P : Program) (f : FuncId) (args : List Value) (H : AHeap) (mo : AMode) (K : AMode → AHeap → Prop) : Prop :=
  (∃ fn, P.funcs[f]? = some fn ∧ fn.body.isSome = true ∧ (fn.name == "runtime.NumGoroutine") = false) ∧
  ∀ c w vargs u, HRel c H w → VRels c args vargs → MRel c mo u → CallsDIn Fence.wide 0 P f ⟨vargs⟩ u w fun e u' w' => ∃ v mo' c' H', e = .returned v ∧ K mo' H' ∧ MRel c' mo' (settle u') ∧ HRel c' H' w' ∧ Trans H.length c H w c' H' w'

def LeaveW (P : Program) (rs : List ResultVar) (n0 : Nat) (K : ARes → AHeap → Prop) (env : List (Nat × Value)) : List ADef → AMode → AHeap → Prop
  | [], .ret, H => resV P env H rs fun vs => ∃ v2 H2, WeakV n0 H (packV vs) H2 v2 ∧ K (.ret v2) H2
  | [], .pan v, H => ∃ v2 H2, WeakV n0 H v H2 v2 ∧ K (.pan v2) H2
  | .mark :: ds, mo, H => LeaveW P rs n0 K env ds mo H
  | .call (.func f) cap args :: ds, mo, H => AD P f (args ++ cap) H mo fun mo' H' => LeaveW P rs n0 K env ds mo' H'
  | _, _, _ => False

def FPost (P : Program) (rs : List ResultVar) (n0 : Nat) (K : ARes → AHeap → Prop) : AExit → ASt → Prop
  | .normal, st | .ret, st => LeaveW P rs n0 K st.env st.defs .ret st.H
  | .panic v, st => LeaveW P rs n0 K st.env st.defs (.pan v) st.H
  | _, _ => False

theorem MRel.ne {c : Ctx} {mo : AMode} {u : FrameMode} (h : MRel c mo u) : u ≠ .run := by cases h <;> simp
theorem MRel.mono {c c' : Ctx} (hle : c.le c') {mo : AMode} {u : FrameMode} (h : MRel c mo u) : MRel c' mo u := by
  cases h with
  | ret => exact .ret
  | pan hv => exact .pan (hv.mono hle)

/-- The block of a mark is shut. -/
theorem HRel.shut {c : Ctx} {H : AHeap} {w : World} (h : HRel c H w) {D : Nat} (hb : w.heap[D]? = some (.deferred (some []))) (hno : ¬ Owns c H D) : HRel c H { w with heap := w.heap.setIfInBounds D (.deferred none) } := by
  refine ⟨fun i o e hl => ?_, h.sep, h.fresh⟩
  obtain ⟨p, hp, hr⟩ := h.obj i o e hl
  refine ⟨p, hp, hr.keep (Ctx.le_refl c) hl ?_⟩
  have hne : p.block ≠ D := by
    rintro rfl
    cases o with
    | dead => cases hl
    | cells cs k => obtain ⟨_, _, _, _, arr, lo, hi, hb2, _⟩ := hr; rw [hb] at hb2; cases hb2
    | loop L => exact hno ⟨i, _, p, e, hp, rfl, rfl⟩
    | amap es ck own => obtain ⟨ms, hb2, _⟩ := hr; rw [hb] at hb2; cases hb2
  show (w.heap.setIfInBounds D _)[p.block]? = _
  rw [Array.getElem?_setIfInBounds_ne (Ne.symm hne)]

theorem DRel.shut {B : Nat} {c : Ctx} {H : AHeap} {w : World} {D : Nat} : ∀ {ds : List ADef} {ds' : List Deferred}, DRel B c H w ds ds' → (∀ d ∈ ds', d.target ≠ .collected D) → DRel B c H { w with heap := w.heap.setIfInBounds D (.deferred none) } ds ds'
  | _, _, .nil hz, _ => .nil (by simpa using hz)
  | _, _, .mark hB hb hno hne hr, h => by
    rename_i D' ds ds'
    have hD : D' ≠ D := by rintro rfl; exact h _ (List.mem_cons_self) rfl
    refine .mark hB ?_ hno hne (DRel.shut hr (fun d hd => h d (List.mem_cons_of_mem _ hd)))
    show (w.heap.setIfInBounds D _)[D']? = _
    rw [Array.getElem?_setIfInBounds_ne (Ne.symm hD)]; exact hb
  | _, _, .call hf h1 h2 hr, h => .call hf h1 h2 (DRel.shut hr (fun d hd => h d (List.mem_cons_of_mem _ hd)))

theorem leave_ok {P : Program} {fn : Func} {rs : List ResultVar} (hrs : fn.results.toList = rs) {n0 : Nat} {K : ARes → AHeap → Prop} {N : Fr} {c0 : Ctx} {H0 : AHeap} {w0 : World} (hB : w0.heap.size ≤ N.B) (hn : n0 = H0.length) {env : List (Nat × Value)} :
    ∀ (ds : List ADef) (mo : AMode) (H : AHeap) (c : Ctx) (w : World) (a : Act) (u : FrameMode), LeaveW P rs n0 K env ds mo H → SRel N c ⟨env, ds, H⟩ w a → MRel c mo u → Trans n0 c0 H0 w0 c H w →
      LeavesInM Fence.wide 0 P fn a.tmps (CPost K c0 H0 w0) a.defers u w
  | [], mo, H, c, w, a, u, h, hs, hm, ht => by
    obtain ⟨tmps, defers⟩ := a
    have hd := hs.defs
    cases hd
    cases hm with
    | ret =>
      subst hrs
      obtain ⟨vs, vs', ⟨v2, H2, hw, hk⟩, hv, hrun⟩ := resV_ok hs h
      obtain ⟨vf, hrunf, hvf⟩ : ∃ vf, (results fn tmps).run P w = .ok vf w ∧ VRel c (packV vs) vf := by
        have e : (fn.results.mapM (resF tmps) : Sem (Array Value)).run P w = .ok ⟨vs'⟩ w := by
          rw [Array.mapM_eq_mapM_toList]
          simp only [Sem.run_map, hrun, Result.andThen_ok]
        rw [results_eq]
        simp only [Sem.run_bind, e, Result.andThen_ok, Sem.run_pure]
        refine ⟨_, rfl, ?_⟩
        cases hv with
        | nil => exact .tuple .nil
        | cons a b =>
          cases b with
          | nil => simpa [packV] using a
          | cons a2 b2 => simpa [packV] using VRel.tuple (.cons a (.cons a2 b2))
      obtain ⟨c2, g1, g2, g3⟩ := hw c w vf hs.heap hvf
      refine ⟨vf, hrunf, .ret v2, c2, H2, hk, .ret g2, g1, ?_⟩
      rw [← hn]; exact ht.trans g3
    | pan hv =>
      obtain ⟨v2, H2, hw, hk⟩ := h
      obtain ⟨c2, g1, g2, g3⟩ := hw c w _ hs.heap hv
      refine ⟨.pan v2, c2, H2, hk, .pan g2, g1, ?_⟩
      rw [← hn]; exact ht.trans g3
  | .mark :: ds, mo, H, c, w, a, u, h, hs, hm, ht => by
    obtain ⟨tmps, defers⟩ := a
    have hd := hs.defs
    cases hd with
    | mark hBD hb hno hne hr =>
      rename_i D ds'
      refine ⟨hm.ne, .inl ⟨D, { w with heap := w.heap.setIfInBounds D (.deferred none) }, rfl, ?_, ?_⟩⟩
      · simp [Instr.takeDeferred, getObj, setObj, Sem.run, hb]
      · have hsize := (Array.getElem?_eq_some_iff.1 hb).1
        refine leave_ok hrs hB hn ds mo H c { w with heap := w.heap.setIfInBounds D (.deferred none) } ⟨tmps, ds'⟩ u h ⟨hs.heap.shut hb hno, hs.size, hs.tmps, hr.shut hne⟩ hm ?_
        refine { ht with size := by show _ ≤ (w.heap.setIfInBounds D _).size; simpa using ht.size, frame := fun b hlt hno' => ?_, owned := ht.owned }
        show (w.heap.setIfInBounds D _)[b]? = _
        have : N.B ≤ D := hBD
        rw [Array.getElem?_setIfInBounds_ne (by omega)]
        exact ht.frame b hlt hno'
  | .call (.func f) cap args :: ds, mo, H, c, w, a, u, h, hs, hm, ht => by
    obtain ⟨tmps, defers⟩ := a
    have hd := hs.defs
    cases hd with
    | call hf hc ha hr =>
      cases hf
      rename_i cap' args' ds'
      obtain ⟨⟨fnd, hfd, hbd, hnd⟩, hcall⟩ := h
      refine ⟨hm.ne, .inr ⟨by simp [Fence.wide], .func f, ⟨cap'⟩, f, ⟨args' ++ cap'⟩, rfl, ?_, fun _ _ => trivial, ?_⟩⟩
      · have hbn : fnd.body.isNone = false := by cases hfb : fnd.body <;> simp_all
        simp only [invoke, callFunc, Sem.run_bind, run_program, Result.andThen_ok, hfd, hnd, Bool.false_eq_true, if_false, hbn]
        simp
      · have := hcall c w (args' ++ cap') u hs.heap (ha.append hc) hm
        refine ⟨trivial, fun c1 cs hc1 hroom => ?_⟩
        obtain ⟨e, u', w', fr, ⟨v, mo', c', H', rfl, hK, hm', hh', ht'⟩, hcomes, hk, hfn, hgo⟩ := this.2 c1 cs hc1 (room_wide _)
        refine ⟨.returned v, u', w', fr, ?_, hcomes, hk, hfn, hgo⟩
        have hle : c.le c' := ht'.le hs.heap
        have ht0 : Trans n0 c H w c' H' w' := { ht' with names := fun i p _ e => hle i p e }
        have hs' : SRel N c' ⟨env, ds, H'⟩ w' ⟨tmps, ds'⟩ := SRel.step (st := ⟨env, ds, H⟩) ⟨hs.heap, hs.size, hs.tmps, hr⟩ hle ht0 hh'
        exact leave_ok hrs hB hn ds mo' H' c' w' ⟨tmps, ds'⟩ (settle u') hK hs' hm' (ht.trans ht0)
  | .call (.method _) _ _ :: _, _, _, _, _, _, _, h, _, _, _ => h.elim
  | .call (.methodOf _ _) _ _ :: _, _, _, _, _, _, _, h, _, _, _ => h.elim
  | .call (.via _ _ _ _) _ _ :: _, _, _, _, _, _, _, h, _, _, _ => h.elim
  | .call (.yield _) _ _ :: _, _, _, _, _, _, _, h, _, _, _ => h.elim

def argEnv : Nat → List Value → List (Nat × Value)
  | _, [] => []
  | i, v :: r => (i, v) :: argEnv (i + 1) r

theorem argEnv_lk {c : Ctx} {rest : Array Value} : ∀ {vs vs' : List Value}, VRels c vs vs' → ∀ (i : Nat) (pre : List Value), pre.length = i → ∀ t v, lk t (argEnv i vs) = some v → ∃ v', ((pre ++ vs').toArray ++ rest)[t]? = some v' ∧ VRel c v v'
  | _, _, .nil, i, pre, hp, t, v, h => by cases h
  | _, _, .cons a b, i, pre, hp, t, v, h => by
    simp only [argEnv, lk_cons] at h
    split at h
    · rename_i hi
      cases h
      refine ⟨_, ?_, a⟩
      subst hi
      rw [Array.getElem?_append_left (by simp; omega)]
      simp [← hp]
    · obtain ⟨v', h1, h2⟩ := argEnv_lk (rest := rest) b (i + 1) (pre ++ [_]) (by simp [hp]) t v h
      exact ⟨v', by simpa using h1, h2⟩

/-- What the objects of a heap hold is named in it. -/
def Scoped (H : AHeap) : Prop := ∀ (i : Nat) (o : AObj), H[i]? = some o → OName (upto H.length) o o
theorem HRel.inside {c : Ctx} {H : AHeap} {w : World} (h : HRel c H w) : Scoped H := by
  intro i o e
  have hn : ∀ i p, c i = some p → upto H.length i = some i := fun i p hc => by unfold upto; rw [if_pos (h.lt hc)]
  cases o with
  | dead => exact .dead _
  | cells cs k =>
    obtain ⟨p, hp, hr⟩ := h.obj i _ e rfl
    obtain ⟨_, _, _, _, arr, lo, hi, _, hcs, _⟩ := hr
    refine .cells k ?_
    have : ∀ (l : List Value), (∀ v ∈ l, ∃ v', VRel c v v') → NRels (upto H.length) l l := by
      intro l
      induction l with
      | nil => intro _; exact .nil
      | cons v l ih =>
        intro hl
        obtain ⟨v', hv⟩ := hl v (List.mem_cons_self)
        exact .cons (hv.inside hn) (ih (fun u hu => hl u (List.mem_cons_of_mem _ hu)))
    refine this cs (fun v hv => ?_)
    obtain ⟨j, hj⟩ := List.mem_iff_getElem?.1 hv
    obtain ⟨v', _, h2⟩ := hcs j v hj
    exact ⟨v', h2⟩
  | loop L =>
    obtain ⟨p, hp, hr⟩ := h.obj i _ e rfl
    obtain ⟨r, hb, _, _, _, _, _, _, h7⟩ := hr
    exact .loop rfl rfl rfl rfl rfl rfl fun t v e => let ⟨v', _, k⟩ := h7 t v e; ⟨v, e, k.inside hn⟩
  | amap es ck own =>
    obtain ⟨p, hp, hr⟩ := h.obj i _ e rfl
    obtain ⟨ms, _, h1, h2, _⟩ := hr
    exact .amap ck own (VRels.inside hn h1) (VRels.inside hn h2) rfl

/-- **A function's contract out of its body.** -/
theorem AC.enter {P : Program} {f : FuncId} {fn : Func} {body : Code} {args : List Value} {H : AHeap} {K : ARes → AHeap → Prop} (hf : P.funcs[f]? = some fn) (hb : fn.body = some body) (hname : (fn.name == "runtime.NumGoroutine") = false)
    (N : Nat) (hN : fn.ntmps = N) (rs : List ResultVar) (hrs : fn.results.toList = rs) (hsz : args.length ≤ N) (h : Scoped H → ∀ B, AWP ⟨P, none, ⟨N, B⟩, H.length⟩ body (FPost P rs H.length K) ⟨argEnv 0 args, [], H⟩) : AC P f args H K := by
  intro c w vargs hh hv
  have hcall : Calls P f ⟨vargs⟩ w (CPost K c H w) := by
    refine (callsIn_wide (n := 0)).1 (callsIn_of_wp_marks hf hb trivial ?_)
    have hs : SRel ⟨N, w.heap.size⟩ c ⟨argEnv 0 args, [], H⟩ w { tmps := (⟨vargs⟩ : Array Value) ++ Array.replicate (fn.ntmps - (⟨vargs⟩ : Array Value).size) undef, defers := [] } := by
      refine ⟨hh, ?_, ?_, .nil (Nat.le_refl _)⟩
      · have := hv.length
        simp; omega
      · intro t v e
        have := argEnv_lk (rest := Array.replicate (fn.ntmps - (⟨vargs⟩ : Array Value).size) undef) hv 0 [] rfl t v e
        simpa using this
    refine wpIn_mono (h hh.inside w.heap.size c w _ hs) ?_
    rintro e a' w' ⟨x, st', c', hq, hx, hs', ht⟩
    cases hx with
    | normal => exact leave_ok hrs (Nat.le_refl _) rfl st'.defs .ret st'.H c' w' a' .returning hq hs' .ret ht
    | ret => exact leave_ok hrs (Nat.le_refl _) rfl st'.defs .ret st'.H c' w' a' .returning hq hs' .ret ht
    | panic hv2 => exact leave_ok hrs (Nat.le_refl _) rfl st'.defs _ st'.H c' w' a' _ hq hs' (.pan hv2) ht
    | exit id => exact hq.elim
    | goto l => exact hq.elim
  unfold CallTo
  have hbn : fn.body.isNone = false := by rw [hb]; rfl
  have : (callFunc f ⟨vargs⟩).run P w = .ok (.enter f ⟨vargs⟩) w := by
    simp only [callFunc, Sem.run_bind, run_program, Result.andThen_ok, hf, hname, Bool.false_eq_true, if_false, hbn]
    rfl
  rw [this]
  exact hcall
end Go.Aw
