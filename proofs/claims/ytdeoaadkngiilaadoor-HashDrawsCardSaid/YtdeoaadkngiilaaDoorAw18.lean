/-
  A range over a function.
-/
import Derived.Test.YtdeoaadkngiilaaDoorAw17
set_option linter.unusedVariables false
set_option linter.unusedSimpArgs false
namespace Go.Aw

def loopK (g : Cfg) (Q : AExit → ASt → Prop) (st : ASt) : ARes → AHeap → Prop
  | .ret _, H' => ∃ L, H'[st.H.length]? = some (.loop L) ∧ L.state ≠ .busy ∧
      (match L.pending with
      | none => Q .normal ⟨st.env, .mark :: st.defs, H'.set st.H.length .dead⟩
      | some x => AWP g x Q ⟨st.env, .mark :: st.defs, H'.set st.H.length .dead⟩)
  | .pan v, H' => Q (.panic v) ⟨st.env, .mark :: st.defs, H'⟩

theorem Owns.kept {c : Ctx} {H : AHeap} {w : World} (h : HRel c H w) {b : Nat} (ho : Owns c H b) : b < w.heap.size := by
  obtain ⟨i, o, p, hi, hc, hown, rfl⟩ := ho
  have hl : o.live = true := by cases o <;> first | rfl | cases hown
  obtain ⟨q, hq, hr⟩ := h.obj i o hi hl
  rw [hc] at hq; cases hq
  exact hr.block_lt hl

theorem AWP.rangeFunc {g : Cfg} {Q : AExit → ASt → Prop} {st : ASt} {gop : Operand} {ps : List Tmp} {assign body : Code} (hlr : g.lr = none) (hn0 : g.n0 ≤ st.H.length) {f : FuncId} {first cap : List Value} (hg : ev st gop = some (.func (.func f) ⟨first⟩ ⟨cap⟩))
    {fnd : Func} (hfd : g.P.funcs[f]? = some fnd) (hbd : fnd.body.isSome = true) (hnd : (fnd.name == "runtime.NumGoroutine") = false)
    (h : AC g.P f (first ++ [.func (.yield st.H.length) ⟨[]⟩ ⟨[]⟩] ++ cap) (st.H ++ [.loop ⟨.ready, none, st.env, g.N.n, ps, assign, body⟩]) (loopK g Q st)) : AWP g (.rangeFunc gop ps.toArray assign body) Q st := by
  intro c w a hs
  have hfv := ev_rel hs hg
  generalize hev : a.eval gop = fv' at hfv
  cases hfv with
  | func hf h1 h2 =>
    cases hf
    rename_i first' cap'
    have hF : fenceOf g.lr = Fence.wide := by rw [hlr]; rfl
    refine wpIn_rangeFunc fun fn hfn => ?_
    -- the block for deferred calls, the record
    let D := w.heap.size
    let rec0 : Loop := { state := .ready, pending := none, fn, tmps := a.tmps, params := ps.toArray, assign, body, defers := D }
    let w0 : World := w.alloc (.deferred (some []))
    let w1 : World := w0.alloc (.loop rec0)
    let l := D + 1
    let p : Place := ⟨l, 0, 0, 0, 0⟩
    have hw0 : w0.heap.size = l := by simp [w0, l, D, World.alloc, -World.alloc_eq]
    have hw1 : w1.heap[l]? = some (.loop rec0) := by
      show (w0.heap.push (.loop rec0))[l]? = _
      rw [← hw0, Array.getElem?_push, if_pos rfl]
    have hwD : w1.heap[D]? = some (.deferred (some [])) := by simp [w1, w0, D, World.alloc, -World.alloc_eq, Array.getElem?_push]
    have henter : (Instr.enterLoop fn a.tmps ps.toArray assign body (fenceOf g.lr).round).run g.P w = .ok (l, [{ target := .collected D, args := #[] }]) w1 := by
      rw [fenceOf_round, hlr]
      simp only [Instr.enterLoop, Sem.run_bind, run_newObj, Result.andThen_ok, Sem.run_pure]
      simp [w1, w0, l, D, rec0, World.alloc, -World.alloc_eq]
    obtain ⟨hh1, ht1, hle1⟩ := hs.heap.extend (w' := w1) (p := p) (o := .loop ⟨.ready, none, st.env, g.N.n, ps, assign, body⟩) ⟨rfl, rfl, rfl⟩ (by simp [w1, w0, World.alloc, -World.alloc_eq]; omega) (fun b hb => by
      simp only [w1, w0, World.alloc, Array.getElem?_push, Array.size_push]
      rw [if_neg (by omega), if_neg (by omega)]) (by simp [p, l, D]) ⟨rec0, hw1, rfl, rfl, rfl, rfl, rfl, hs.size, fun t v e => by
        obtain ⟨v', k1, k2⟩ := hs.tmps t v e
        exact ⟨v', k1, k2.mono (Ctx.le_add p (hs.heap.fresh _ (Nat.le_refl _)))⟩⟩ g.n0
    have hargs : VRels (c.add st.H.length p) (first ++ [.func (.yield st.H.length) ⟨[]⟩ ⟨[]⟩] ++ cap) (first' ++ [.func (.yield l) #[] #[]] ++ cap') :=
      ((VRels.mono hle1 h1).append (.cons (.func (.yield (p := p) (by simp)) .nil .nil) .nil)).append (VRels.mono hle1 h2)
    have hcall := h _ _ _ hh1 hargs
    unfold CallTo at hcall
    have hinv : (callFunc f ⟨first' ++ [.func (.yield l) #[] #[]] ++ cap'⟩).run g.P w1 = .ok (.enter f ⟨first' ++ [.func (.yield l) #[] #[]] ++ cap'⟩) w1 := by
      have hbn : fnd.body.isNone = false := by cases hfb : fnd.body <;> simp_all
      simp only [callFunc, Sem.run_bind, run_program, Result.andThen_ok, hfd, hnd, Bool.false_eq_true, if_false, hbn]
      rfl
    rw [hinv] at hcall
    simp only at hcall
    refine ⟨l, [{ target := .collected D, args := #[] }], w1, { target := .fn (.func f) ⟨cap'⟩, args := ⟨first' ++ [.func (.yield l) #[] #[]]⟩ }, w1, f, ⟨first' ++ [.func (.yield l) #[] #[]] ++ cap'⟩, w1, henter, ?_, ?_, ?_, fenceOf_depth g.lr, ?_⟩
    · simp only [resolve, hev, Deferred.ofValue, pure_bind]
      simp
      rfl
    · intro f' _; exact fenceOf_fn g.lr f'
    · simp only [invoke]
      rw [show (⟨first' ++ [.func (.yield l) #[] #[]]⟩ : Array Value) ++ (⟨cap'⟩ : Array Value) = ⟨first' ++ [.func (.yield l) #[] #[]] ++ cap'⟩ from by apply Array.ext'; simp]
      exact hinv
    · refine (callsIn_of hcall _).mono fun e w3 hpost => ?_
      obtain ⟨r, c', H', hK, hr, hh, ht⟩ := hpost
      have hle : c.le c' := Ctx.le_trans hle1 (ht.le hh1)
      have hci : c' st.H.length = some p := ht.le hh1 _ p (by simp)
      have htr : Trans g.n0 c st.H w c' H' w3 := ht1.trans (ht.mono (by simp; omega))
      have hnoD : ¬ Owns (c.add st.H.length p) (st.H ++ [.loop ⟨.ready, none, st.env, g.N.n, ps, assign, body⟩]) D := by
        intro ho
        rcases ht1.owned D ho with h' | h'
        · have := h'.kept hs.heap; simp [D] at this
        · obtain ⟨i, o, q, hi, hc, hown, hb⟩ := ho
          by_cases hil : i = st.H.length
          · subst hil
            simp at hc
            subst hc
            simp [p, l] at hb
          · have hlt : i < st.H.length := by have := lt_of_get hi; simp at this; omega
            rw [List.getElem?_append_left hlt] at hi
            rw [Ctx.add_other _ _ hil] at hc
            have : Owns c st.H D := ⟨i, o, q, hi, hc, hown, hb⟩
            have := this.kept hs.heap
            simp [D] at this
      have hD3 : w3.heap[D]? = some (.deferred (some [])) := (ht.frame D (Array.getElem?_eq_some_iff.1 hwD).1 hnoD).trans hwD
      have hnoD3 : ¬ Owns c' H' D := fun ho => by
        rcases ht.owned D ho with h' | h'
        · exact hnoD h'
        · simp [w1, w0, D, World.alloc, -World.alloc_eq] at h'; omega
      have hdefs : DRel g.N.B c' H' w3 (.mark :: st.defs) ({ target := .collected D, args := #[] } :: a.defers) :=
        .mark hs.defs.big hD3 hnoD3 (hs.defs.under (Nat.le_refl _)) (hs.defs.step hle htr)
      have hs3 : SRel g.N c' ⟨st.env, .mark :: st.defs, H'⟩ w3 { a with defers := [{ target := .collected D, args := #[] }] ++ a.defers } :=
        ⟨hh, hs.size, fun t v e => let ⟨v', k1, k2⟩ := hs.tmps t v e; ⟨v', k1, k2.mono hle⟩, hdefs⟩
      cases hr with
      | ret hv =>
        obtain ⟨L, hL, hstate, hk⟩ := hK
        obtain ⟨q, hq, r, hb, r1, r2, r3, r4, r5, r6, r7⟩ := hh.obj _ _ hL rfl
        rw [hci] at hq; cases hq
        have hlt := (Array.getElem?_eq_some_iff.1 hb).1
        let w4 : World := { w3 with heap := w3.heap.setIfInBounds l (.loop { r with state := .exhausted }) }
        have hend : (Instr.endLoop l).run g.P w3 = .ok L.pending w4 := by
          have hb' : w3.heap[l]? = some (.loop r) := hb
          have hne : (r.state == .busy) = false := by rw [r1]; simpa using hstate
          have hne' : ¬ r.state = .busy := by rw [r1]; exact hstate
          simp [Instr.endLoop, Instr.getLoop, getObj, setObj, Sem.run, hb', hne', r2, w4]
        obtain ⟨hh4, ht4⟩ := hh.change (w' := w4) (o' := .dead) ⟨rfl, rfl, rfl⟩ (by simp [w4]) hL rfl hci (fun b hb => by
          show (w3.heap.setIfInBounds l _)[b]? = _
          rw [Array.getElem?_setIfInBounds_ne (Ne.symm hb)]) trivial (fun h => by cases h) g.n0
        have hs4 : SRel g.N c' ⟨st.env, .mark :: st.defs, H'.set st.H.length .dead⟩ w4 { a with defers := [{ target := .collected D, args := #[] }] ++ a.defers } := hs3.step (Ctx.le_refl _) ht4 hh4
        refine ⟨L.pending, w4, hend, ?_⟩
        generalize L.pending = pend at hk ⊢
        cases pend with
        | none => exact ⟨.normal, _, c', hk, .normal, hs4, htr.trans ht4⟩
        | some x => exact wpIn_mono (hk c' w4 _ hs4) (fun _ _ _ hp => hp.back (htr.trans ht4))
      | pan hv => exact ⟨.panic _, _, c', hK, .panic hv, hs3, htr⟩

/-! ### A round -/
def zipEnv : List Tmp → List Value → List (Nat × Value) → List (Nat × Value)
  | t :: ts, v :: vs, e => zipEnv ts vs ((t, v) :: e)
  | _, _, e => e

def endR (i n0 : Nat) (K : Value → AHeap → Prop) (st : ASt) (b : Bool) (s : LoopState) (j : Option Code) : Prop :=
  ∃ L2, st.H[i]? = some (.loop L2) ∧ ∃ H2, WeakV n0 (st.H.set i (.loop { L2 with state := s, pending := j })) (.bool b) H2 (.bool b) ∧ K (.bool b) H2

/-- At a round's end. -/
def roundQ (i n0 : Nat) (K : Value → AHeap → Prop) : AExit → ASt → Prop
  | .normal, st => endR i n0 K st true .ready none
  | .ret, st => endR i n0 K st false .done (some .ret)
  | .exit id, st => endR i n0 K st false .done (some (.exit id))
  | .goto t, st => endR i n0 K st false .done (some (.goto t))
  | .panic _, _ => False

theorem zip_ok {c : Ctx} {n : Nat} : ∀ {ps : List Tmp} {vs vs' : List Value} {e : List (Nat × Value)} {tmps : Array Value}, VRels c vs vs' → (∀ t ∈ ps, t < n) → tmps.size = n → (∀ t v, lk t e = some v → ∃ v', tmps[t]? = some v' ∧ VRel c v v') →
    let r := (ps.zip vs').foldl (fun tmps (p : Tmp × Value) => tmps.setIfInBounds p.1 p.2) tmps
    r.size = n ∧ ∀ t v, lk t (zipEnv ps vs e) = some v → ∃ v', r[t]? = some v' ∧ VRel c v v'
  | [], _, _, e, tmps, _, _, hs, he => ⟨hs, he⟩
  | t :: ps, _, _, e, tmps, .nil, _, hs, he => ⟨hs, he⟩
  | t :: ps, _, _, e, tmps, .cons hv hvs, hp, hs, he => by
    refine zip_ok (ps := ps) hvs (fun u hu => hp u (List.mem_cons_of_mem _ hu)) (by simpa using hs) (fun u x e' => ?_)
    rw [lk_cons] at e'
    split at e'
    · rename_i h; subst h; cases e'
      exact ⟨_, by simp [hs, hp t List.mem_cons_self], hv⟩
    · rename_i h
      obtain ⟨x', k1, k2⟩ := he u x e'
      exact ⟨x', by simp [h, k1], k2⟩

theorem endR_ok {P : Program} {i n0 : Nat} {K : Value → AHeap → Prop} {N : Fr} {c0 c : Ctx} {H0 : AHeap} {st : ASt} {w0 w : World} {a : Act} {b : Bool} {s : LoopState} {j : Option Code} (hj : b = j.isNone) (hs' : s = if j.isNone then .ready else .done)
    (h : endR i n0 K st b s j) (hs : SRel N c st w a) {p : Place} (hc : c i = some p) (ht : Trans n0 c0 H0 w0 c st.H w) (hn : n0 = H0.length) :
    ∃ v w', (Instr.endRound p.block j).run P w = .ok v w' ∧ CPost (fun r H' => ∃ v, r = .ret v ∧ K v H') c0 H0 w0 (.returned v) w' := by
  obtain ⟨L2, hL, H2, hw, hK⟩ := h
  obtain ⟨q, hq, r, hb, r1, r2, r3, r4, r5, r6, r7⟩ := hs.heap.obj _ _ hL rfl
  rw [hc] at hq; cases hq
  have hlt := (Array.getElem?_eq_some_iff.1 hb).1
  have hrun : (Instr.endRound p.block j).run P w = .ok (.bool j.isNone) { w with heap := w.heap.setIfInBounds p.block (.loop { r with state := if j.isNone then .ready else .done, pending := j }) } := by
    simp [Instr.endRound, Instr.getLoop, getObj, setObj, Sem.run, hb]
  obtain ⟨hh4, ht4⟩ := hs.heap.change (w' := { w with heap := w.heap.setIfInBounds p.block (.loop { r with state := if j.isNone then .ready else .done, pending := j }) }) (o' := .loop { L2 with state := s, pending := j }) ⟨rfl, rfl, rfl⟩ (by simp) hL rfl hc (fun b hb => by
    show (w.heap.setIfInBounds p.block _)[b]? = _
    rw [Array.getElem?_setIfInBounds_ne (Ne.symm hb)]) ⟨{ r with state := if j.isNone then .ready else .done, pending := j }, by simp [hlt], hs'.symm, rfl, r3, r4, r5, r6, r7⟩ (fun _ => rfl) n0
  obtain ⟨c2, g1, g2, g3⟩ := hw c _ _ hh4 (.bool b)
  subst hn
  exact ⟨_, _, hrun, .ret (.bool b), c2, H2, ⟨_, rfl, hK⟩, by rw [← hj]; exact .ret g2, g1, (ht.trans ht4).trans g3⟩

theorem AY.of {P : Program} {i : Nat} {args : List Value} {H : AHeap} {K : Value → AHeap → Prop} {L : ALoop} (hi : H[i]? = some (.loop L)) (hst : L.state = .ready) (hsz : args.length = L.params.length) (hps : ∀ t ∈ L.params, t < L.n)
    (h : Scoped H → ∀ l B, AWP ⟨P, some l, ⟨L.n, B⟩, H.length⟩ L.assign (fun x st1 => x = .normal ∧ ∃ L1, st1.H[i]? = some (.loop L1) ∧ L1.state = .ready ∧ AWP ⟨P, some l, ⟨L.n, B⟩, H.length⟩ L.body (roundQ i H.length K) ⟨st1.env, st1.defs, st1.H.set i (.loop { L1 with state := .busy })⟩)
      ⟨zipEnv L.params args L.env, [], H⟩) : AY P i args H K := by
  intro c w vargs p hh hv hc
  obtain ⟨q, hq, r, hb, r1, r2, r3, r4, r5, r6, r7⟩ := hh.obj _ _ hi rfl
  rw [hc] at hq; cases hq
  have hilt : i < H.length := lt_of_get hi
  obtain ⟨z1, z2⟩ := zip_ok hv hps r6 r7
  have hy : (Instr.yield p.block ⟨vargs⟩).run P w = .ok (.round p.block r.fn ((L.params.zip vargs).foldl (fun tmps (p : Tmp × Value) => tmps.setIfInBounds p.1 p.2) r.tmps) r.assign r.body) w := by
    have hl : vargs.length = L.params.length := by rw [← hv.length, hsz]
    have hfold : ((r.params.zip (⟨vargs⟩ : Array Value)).foldl (fun tmps (x : Tmp × Value) => tmps.setIfInBounds x.1 x.2) r.tmps) = ((L.params.zip vargs).foldl (fun tmps (p : Tmp × Value) => tmps.setIfInBounds p.1 p.2) r.tmps) := by
      rw [r3]; simp
    have hsz' : (⟨vargs⟩ : Array Value).size = r.params.size := by rw [r3]; simpa using hl
    rw [← hfold]
    simp [Instr.yield, Instr.getLoop, getObj, Sem.run, hb, hsz']
  refine ⟨_, _, _, _, _, hy, roundIn_of_wpIn (F := Fence.wide) trivial ?_⟩
  have hs : SRel ⟨L.n, w.heap.size⟩ c ⟨zipEnv L.params args L.env, [], H⟩ w { tmps := (L.params.zip vargs).foldl (fun tmps (p : Tmp × Value) => tmps.setIfInBounds p.1 p.2) r.tmps, defers := [] } := ⟨hh, z1, z2, .nil (Nat.le_refl _)⟩
  rw [r4, r5]
  refine wpIn_mono (h hh.inside p.block w.heap.size c w _ hs) ?_
  rintro e a1 w1 ⟨x, st1, c1, ⟨rfl, L1, hL1, hL1s, hbody⟩, hx, hs1, ht1⟩
  cases hx
  have hc1 : c1 i = some p := ht1.names i p hilt hc
  obtain ⟨q, hq, r', hb', q1, q2, q3, q4, q5, q6, q7⟩ := hs1.heap.obj _ _ hL1 rfl
  rw [hc1] at hq; cases hq
  have hlt := (Array.getElem?_eq_some_iff.1 hb').1
  have hrun : (Instr.beginRound p.block).run P w1 = .ok () { w1 with heap := w1.heap.setIfInBounds p.block (.loop { r' with state := .busy }) } := by
    have : r'.state = .ready := by rw [q1, hL1s]
    simp [Instr.beginRound, Instr.getLoop, getObj, setObj, Sem.run, hb', this]
  refine ⟨_, hrun, ?_⟩
  obtain ⟨hh4, ht4⟩ := hs1.heap.change (w' := { w1 with heap := w1.heap.setIfInBounds p.block (.loop { r' with state := .busy }) }) (o' := .loop { L1 with state := .busy }) ⟨rfl, rfl, rfl⟩ (by simp) hL1 rfl hc1 (fun b hb => by
    show (w1.heap.setIfInBounds p.block _)[b]? = _
    rw [Array.getElem?_setIfInBounds_ne (Ne.symm hb)]) ⟨{ r' with state := .busy }, by simp [hlt], rfl, q2, q3, q4, q5, q6, q7⟩ (fun _ => rfl) H.length
  have hs4 := hs1.step (Ctx.le_refl _) ht4 hh4
  refine wpIn_mono (hbody c1 _ a1 hs4) ?_
  rintro e a2 w2 ⟨x, st2, c2, hq2, hx, hs2, ht2⟩
  have htt : Trans H.length c H w c2 st2.H w2 := (ht1.trans ht4).trans ht2
  have hc2 : c2 i = some p := htt.names i p hilt hc
  cases hx with
  | normal => exact endR_ok (j := none) rfl rfl hq2 hs2 hc2 htt rfl
  | ret => exact endR_ok (j := some .ret) rfl rfl hq2 hs2 hc2 htt rfl
  | exit id => exact endR_ok (j := some (.exit id)) rfl rfl hq2 hs2 hc2 htt rfl
  | goto t => exact endR_ok (j := some (.goto t)) rfl rfl hq2 hs2 hc2 htt rfl
  | panic hv => exact hq2.elim
end Go.Aw
