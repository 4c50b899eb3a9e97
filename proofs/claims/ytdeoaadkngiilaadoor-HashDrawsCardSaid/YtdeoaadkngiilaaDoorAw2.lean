/-
  The abstract state of an activation; what code must achieve, said of abstract states; the rules of control.
-/
import Derived.Test.YtdeoaadkngiilaaDoorAw1
set_option linter.unusedVariables false
namespace Go.Aw

inductive ADef where
  | mark
  | call (f : Fn) (cap args : List Value)

inductive DRel (B : Nat) (c : Ctx) (H : AHeap) (w : World) : List ADef → List Deferred → Prop
  | nil : B ≤ w.heap.size → DRel B c H w [] []
  | mark {D : Nat} {ds : List ADef} {ds' : List Deferred} : B ≤ D → w.heap[D]? = some (.deferred (some [])) → ¬ Owns c H D → (∀ d ∈ ds', d.target ≠ .collected D) →
      DRel B c H w ds ds' → DRel B c H w (.mark :: ds) ({ target := .collected D, args := #[] } :: ds')
  | call {f f' : Fn} {cap args cap' args' : List Value} {ds : List ADef} {ds' : List Deferred} : FRel c f f' → VRels c cap cap' → VRels c args args' →
      DRel B c H w ds ds' → DRel B c H w (.call f cap args :: ds) ({ target := .fn f' ⟨cap'⟩, args := ⟨args'⟩ } :: ds')

structure ASt where
  env : List (Nat × Value)
  defs : List ADef
  H : AHeap

/-- How many temporaries the activation has; from which block on its marks lie. -/
structure Fr where
  n : Nat
  B : Nat

theorem DRel.big {B : Nat} {c : Ctx} {H : AHeap} {w : World} {ds : List ADef} {ds' : List Deferred} (h : DRel B c H w ds ds') : B ≤ w.heap.size := by
  induction h with
  | nil hz => exact hz
  | mark _ _ _ _ _ ih => exact ih
  | call _ _ _ _ ih => exact ih

theorem DRel.under {B : Nat} {c : Ctx} {H : AHeap} {w : World} {ds : List ADef} {ds' : List Deferred} (h : DRel B c H w ds ds') {D : Nat} (hD : w.heap.size ≤ D) : ∀ d ∈ ds', d.target ≠ .collected D := by
  induction h with
  | nil => intro d hd; cases hd
  | mark hB hb hno hne _ ih =>
    intro d hd
    rcases List.mem_cons.1 hd with rfl | hd
    · intro e
      cases e
      have := (Array.getElem?_eq_some_iff.1 hb).1
      omega
    · exact ih d hd
  | call hf h1 h2 _ ih =>
    intro d hd
    rcases List.mem_cons.1 hd with rfl | hd
    · intro e; cases e
    · exact ih d hd

structure SRel (N : Fr) (c : Ctx) (st : ASt) (w : World) (a : Act) : Prop where
  heap : HRel c st.H w
  size : a.tmps.size = N.n
  tmps : ∀ t v, lk t st.env = some v → ∃ v', a.tmps[t]? = some v' ∧ VRel c v v'
  defs : DRel N.B c st.H w st.defs a.defers

theorem DRel.step {B n : Nat} {c c' : Ctx} {H H' : AHeap} {w w' : World} (hle : c.le c') (ht : Trans n c H w c' H' w') {ds : List ADef} {ds' : List Deferred} (h : DRel B c H w ds ds') : DRel B c' H' w' ds ds' := by
  induction h with
  | nil hz => exact .nil (Nat.le_trans hz ht.size)
  | mark hB hb ho hne _ ih =>
    have hlt : _ < w.heap.size := (Array.getElem?_eq_some_iff.1 hb).1
    refine .mark hB ((ht.frame _ hlt ho).trans hb) (fun ho' => ?_) hne ih
    rcases ht.owned _ ho' with h' | h'
    · exact ho h'
    · omega
  | call hf hc ha _ ih => exact .call (hf.mono hle) (VRels.mono hle hc) (VRels.mono hle ha) ih

theorem SRel.step {N : Fr} {n : Nat} {c c' : Ctx} {st : ASt} {H' : AHeap} {w w' : World} {a : Act} (h : SRel N c st w a) (hle : c.le c') (ht : Trans n c st.H w c' H' w') (hh : HRel c' H' w') :
    SRel N c' { st with H := H' } w' a where
  heap := hh
  size := h.size
  tmps t v e := let ⟨v', h1, h2⟩ := h.tmps t v e; ⟨v', h1, h2.mono hle⟩
  defs := h.defs.step hle ht

/-- What a temporary holds now. -/
def ASt.put (st : ASt) (dst : Option Tmp) (v : Value) : ASt :=
  match dst with
  | some d => { st with env := (d, v) :: st.env }
  | none => st

theorem SRel.put {N : Fr} {c : Ctx} {st : ASt} {w : World} {a : Act} (h : SRel N c st w a) {dst : Option Tmp} (hd : ∀ d, dst = some d → d < N.n) {v v' : Value} (hv : VRel c v v') :
    SRel N c (st.put dst v) w (a.put dst v') := by
  cases dst with
  | none => exact h
  | some d =>
    have hd' := hd d rfl
    refine ⟨h.heap, by simpa [Act.put] using h.size, fun t u e => ?_, h.defs⟩
    simp only [ASt.put, lk_cons] at e
    by_cases hdt : d = t
    · subst hdt
      simp at e
      subst e
      exact ⟨v', by simp [Act.put, h.size, hd'], hv⟩
    · rw [if_neg hdt] at e
      obtain ⟨u', h1, h2⟩ := h.tmps t u e
      exact ⟨u', by simp [Act.put, hdt, h1], h2⟩

inductive AExit where
  | normal
  | exit (id : Nat)
  | goto (l : Nat)
  | ret
  | panic (v : Value)

inductive XRel (c : Ctx) : AExit → Exit → Prop
  | normal : XRel c .normal .normal
  | exit (id : Nat) : XRel c (.exit id) (.exit id)
  | goto (l : Nat) : XRel c (.goto l) (.goto l)
  | ret : XRel c .ret .ret
  | panic {v v' : Value} : VRel c v v' → XRel c (.panic v) (.panic [{ v := v', recovered := false }])

theorem XRel.mono {c c' : Ctx} (h : c.le c') {x : AExit} {e : Exit} (r : XRel c x e) : XRel c' x e := by
  cases r with
  | normal => exact .normal
  | exit id => exact .exit id
  | goto l => exact .goto l
  | ret => exact .ret
  | panic hv => exact .panic (hv.mono h)

/-- The program; the round in which the frame is, if it is in one; how many temporaries it has; how many names it must keep. -/
structure Cfg where
  P : Program
  lr : Option Nat
  N : Fr
  n0 : Nat

def fenceOf : Option Nat → Fence
  | none => Fence.wide
  | some l => Fence.wide.inRound l

theorem fenceOf_fn (lr : Option Nat) (f : FuncId) : (fenceOf lr).fn f := by cases lr <;> trivial
theorem fenceOf_room (lr : Option Nat) (n : Nat) : (fenceOf lr).room n := by cases lr <;> (intro d h; simp [fenceOf, Fence.wide, Fence.inRound] at h)
theorem fenceOf_depth (lr : Option Nat) : (fenceOf lr).depth.isSome = true → 1 ≤ 0 := by cases lr <;> simp [fenceOf, Fence.wide, Fence.inRound]
theorem fenceOf_round (lr : Option Nat) : (fenceOf lr).round = lr := by cases lr <;> rfl

def APost (g : Cfg) (Q : AExit → ASt → Prop) (c : Ctx) (H : AHeap) (w : World) (e : Exit) (a' : Act) (w' : World) : Prop :=
  ∃ x st' c', Q x st' ∧ XRel c' x e ∧ SRel g.N c' st' w' a' ∧ Trans g.n0 c H w c' st'.H w'

def AWP (g : Cfg) (code : Code) (Q : AExit → ASt → Prop) (st : ASt) : Prop :=
  ∀ c w a, SRel g.N c st w a → code.wpIn (fenceOf g.lr) 0 g.P (APost g Q c st.H w) a w

theorem APost.back {g : Cfg} {Q : AExit → ASt → Prop} {c c1 : Ctx} {H H1 : AHeap} {w w1 : World} (ht : Trans g.n0 c H w c1 H1 w1) {e : Exit} {a : Act} {w' : World}
    (h : APost g Q c1 H1 w1 e a w') : APost g Q c H w e a w' :=
  let ⟨x, st', c', hq, hx, hs, ht'⟩ := h; ⟨x, st', c', hq, hx, hs, ht.trans ht'⟩

theorem APost.mono {g : Cfg} {Q Q' : AExit → ASt → Prop} (hq : ∀ x st, Q x st → Q' x st) {c : Ctx} {H : AHeap} {w : World} {e : Exit} {a : Act} {w' : World}
    (h : APost g Q c H w e a w') : APost g Q' c H w e a w' :=
  let ⟨x, st', c', h1, h2⟩ := h; ⟨x, st', c', hq _ _ h1, h2⟩

theorem AWP.mono {g : Cfg} {code : Code} {Q Q' : AExit → ASt → Prop} {st : ASt} (h : AWP g code Q st) (hq : ∀ x st, Q x st → Q' x st) : AWP g code Q' st :=
  fun c w a hs => wpIn_mono (h c w a hs) (fun _ _ _ hp => hp.mono hq)

section rules
variable {g : Cfg} {Q : AExit → ASt → Prop} {st : ASt}

def next (K : ASt → Prop) (Q : AExit → ASt → Prop) : AExit → ASt → Prop
  | .normal, st => K st
  | x, st => Q x st

def inBlock (id : Nat) (Q : AExit → ASt → Prop) : AExit → ASt → Prop
  | .exit j, st => if j = id then Q .normal st else Q (.exit j) st
  | x, st => Q x st

theorem AWP.skip (h : Q .normal st) : AWP g .skip Q st := fun c w _ hs => wpIn_skip ⟨.normal, st, c, h, .normal, hs, .refl _ _ _ _⟩
theorem AWP.label {l : Nat} (h : Q .normal st) : AWP g (.label l) Q st := fun c w _ hs => wpIn_label ⟨.normal, st, c, h, .normal, hs, .refl _ _ _ _⟩
theorem AWP.exit {id : Nat} (h : Q (.exit id) st) : AWP g (.exit id) Q st := fun c w _ hs => wpIn_exit ⟨.exit id, st, c, h, .exit id, hs, .refl _ _ _ _⟩
theorem AWP.goto {l : Nat} (h : Q (.goto l) st) : AWP g (.goto l) Q st := fun c w _ hs => wpIn_goto ⟨.goto l, st, c, h, .goto l, hs, .refl _ _ _ _⟩
theorem AWP.ret (h : Q .ret st) : AWP g .ret Q st := fun c w _ hs => wpIn_ret ⟨.ret, st, c, h, .ret, hs, .refl _ _ _ _⟩

theorem AWP.seq {x y : Code} (h : AWP g x (next (AWP g y Q) Q) st) : AWP g (.seq x y) Q st := by
  intro c w a hs
  refine wpIn_seq (wpIn_mono (h c w a hs) ?_)
  rintro e a1 w1 ⟨x1, st1, c1, hq, hx, hs1, ht⟩
  cases hx with
  | normal => exact wpIn_mono (hq c1 w1 a1 hs1) (fun _ _ _ hp => hp.back ht)
  | exit id => exact ⟨_, st1, c1, hq, .exit id, hs1, ht⟩
  | goto l => exact ⟨_, st1, c1, hq, .goto l, hs1, ht⟩
  | ret => exact ⟨_, st1, c1, hq, .ret, hs1, ht⟩
  | panic hv => exact ⟨_, st1, c1, hq, .panic hv, hs1, ht⟩

theorem AWP.block {id : Nat} {x : Code} (h : AWP g x (inBlock id Q) st) : AWP g (.block id x) Q st := by
  intro c w a hs
  refine wpIn_block (wpIn_mono (h c w a hs) ?_)
  rintro e a1 w1 ⟨x1, st1, c1, hq, hx, hs1, ht⟩
  cases hx with
  | normal => exact ⟨_, st1, c1, hq, .normal, hs1, ht⟩
  | exit j =>
    simp only [inBlock] at hq
    simp only [Exit.inBlock]
    by_cases hj : j = id
    · rw [if_pos hj] at hq ⊢; exact ⟨_, st1, c1, hq, .normal, hs1, ht⟩
    · rw [if_neg hj] at hq ⊢; exact ⟨_, st1, c1, hq, .exit j, hs1, ht⟩
  | goto l => exact ⟨_, st1, c1, hq, .goto l, hs1, ht⟩
  | ret => exact ⟨_, st1, c1, hq, .ret, hs1, ht⟩
  | panic hv => exact ⟨_, st1, c1, hq, .panic hv, hs1, ht⟩

/-- A value that names no object. -/
def scalar : Value → Bool
  | .bool _ | .int _ _ | .float _ _ | .string _ | .pointer none | .slice none _ _ | .map none | .nilFunc | .nilIface => true
  | _ => false
theorem VRel.of_scalar {c : Ctx} : ∀ {v : Value}, scalar v = true → VRel c v v
  | .bool b, _ => .bool b
  | .int k n, _ => .int k n
  | .float k n, _ => .float k n
  | .string s, _ => .string s
  | .pointer none, _ => .nilPtr
  | .slice none l n, _ => .nilSlice l n
  | .map none, _ => .nilMap
  | .nilFunc, _ => .nilFunc
  | .nilIface, _ => .nilIface
  | .pointer (some _), h | .slice (some _) _ _, h | .map (some _), h | .complex .., h | .chan _, h | .func .., h | .iface .., h | .agg _, h | .tuple _, h => by simp [scalar] at h
theorem VRels.of_scalars {c : Ctx} : ∀ {l : List Value}, l.all scalar = true → VRels c l l
  | [], _ => .nil
  | v :: l, h => by simp at h; exact .cons (.of_scalar h.1) (VRels.of_scalars (by simpa using h.2))
theorem VRel.scalar_eq {c : Ctx} {v v' : Value} (h : VRel c v v') (hs : scalar v = true) : v' = v := by
  cases h <;> first | rfl | (simp [scalar] at hs)

def plain : Value → Bool
  | .agg ⟨l⟩ | .tuple ⟨l⟩ => l.all scalar
  | .iface _ v => scalar v
  | v => scalar v
theorem VRel.of_plain {c : Ctx} {v : Value} (h : plain v = true) : VRel c v v := by
  cases v with
  | agg cs => obtain ⟨l⟩ := cs; exact .agg (VRels.of_scalars h)
  | tuple cs => obtain ⟨l⟩ := cs; exact .tuple (VRels.of_scalars h)
  | iface t v => exact .iface (.of_scalar h)
  | _ => exact .of_scalar h

/-- What is known of an operand. -/
def ev (st : ASt) : Operand → Option Value
  | .tmp t => lk t st.env
  | .const v => if plain v then some v else none
  | .global n => match st.H[n]? with
    | some (.cells _ k) => if k.glob = some n then some (.pointer (some ⟨n, 0, none⟩)) else none
    | _ => none
  | .func f => some (.func (.func f) ⟨[]⟩ ⟨[]⟩)

theorem ev_rel {N : Fr} {c : Ctx} {w : World} {a : Act} (h : SRel N c st w a) : ∀ {x : Operand} {v : Value}, ev st x = some v → VRel c v (a.eval x) := by
  intro x v e
  cases x with
  | tmp t =>
    obtain ⟨v', h1, h2⟩ := h.tmps t v e
    simpa [Act.eval, Array.getD_eq_getD_getElem?, h1] using h2
  | const u =>
    simp only [ev] at e
    split at e
    · rename_i hp; simp at e; subst e; exact .of_plain hp
    · cases e
  | global n =>
    simp only [ev] at e
    split at e
    · rename_i cs k ho
      split at e
      · rename_i hg
        simp at e; subst e
        obtain ⟨p, hp, ho'⟩ := h.heap.obj n _ ho rfl
        obtain ⟨_, _, _, hg', _⟩ := ho'
        obtain ⟨hb, hz, _⟩ := hg' n hg
        have := VRel.ptr (off := 0) hp
        rw [hb, hz] at this
        exact this
      · cases e
    · cases e
  | func f => simp [ev] at e; subst e; exact .func (.func f) .nil .nil

theorem AWP.cond {x : Operand} {y z : Code} {b : Bool} (hc : ev st x = some (.bool b)) (h1 : b = true → AWP g y Q st) (h2 : b = false → AWP g z Q st) :
    AWP g (.cond x y z) Q st := by
  intro c w a hs
  have hv := ev_rel hs hc
  generalize he : a.eval x = u at hv
  cases hv
  refine wpIn_cond_split he (fun h => h1 h c w a hs) (fun h => h2 h c w a hs)

theorem least {p : Nat → Prop} (h : ∃ k, p k) : ∃ k, p k ∧ ∀ j, p j → k ≤ j := by
  obtain ⟨n, hn⟩ := h
  induction n using Nat.strongRecOn with
  | _ n ih =>
    by_cases hm : ∃ m, m < n ∧ p m
    · obtain ⟨m, hm, hp⟩ := hm; exact ih m hm hp
    · exact ⟨n, hn, fun j hj => by
        rcases Nat.lt_or_ge j n with h' | h'
        · exact absurd ⟨j, h', hj⟩ hm
        · exact h'⟩

open Classical in
/-- A loop: states that I lets, a number that each round lowers. -/
theorem AWP.loop {x : Code} (I : ASt → Prop) (m : ASt → Nat) (h0 : I st) (hr : ∀ s, I s → AWP g x (next (fun s' => I s' ∧ m s' < m s) Q) s) : AWP g (.loop x) Q st := by
  intro c w a hs
  -- the least measure of the states that fit
  let fits : Nat → Act → World → Prop := fun k a' w' => ∃ s c', m s = k ∧ I s ∧ SRel g.N c' s w' a' ∧ Trans g.n0 c st.H w c' s.H w'
  let mu : Act → World → Nat := fun a' w' => if h : ∃ k, fits k a' w' then Classical.choose (least h) else 0
  refine wpIn_loop (fun a' w' => ∃ k, fits k a' w') mu ⟨m st, st, c, rfl, h0, hs, .refl _ _ _ _⟩ ?_
  intro a1 w1 hf
  have hmu : mu a1 w1 = Classical.choose (least hf) := by simp only [mu]; rw [dif_pos hf]
  obtain ⟨s, c1, hm, hI, hs1, ht1⟩ := (Classical.choose_spec (least hf)).1
  refine wpIn_mono (hr s hI c1 w1 a1 hs1) ?_
  rintro e a2 w2 ⟨x2, s2, c2, hq, hx, hs2, ht2⟩
  cases hx with
  | normal =>
    have hf2 : ∃ k, fits k a2 w2 := ⟨m s2, s2, c2, rfl, hq.1, hs2, ht1.trans ht2⟩
    refine ⟨hf2, ?_⟩
    have h2 : mu a2 w2 = Classical.choose (least hf2) := by simp only [mu]; rw [dif_pos hf2]
    rw [hmu, h2]
    exact Nat.lt_of_le_of_lt ((Classical.choose_spec (least hf2)).2 _ ⟨s2, c2, rfl, hq.1, hs2, ht1.trans ht2⟩) (by rw [← hm]; exact hq.2)
  | exit id => exact ⟨_, s2, c2, hq, .exit id, hs2, ht1.trans ht2⟩
  | goto l => exact ⟨_, s2, c2, hq, .goto l, hs2, ht1.trans ht2⟩
  | ret => exact ⟨_, s2, c2, hq, .ret, hs2, ht1.trans ht2⟩
  | panic hv => exact ⟨_, s2, c2, hq, .panic hv, hs2, ht1.trans ht2⟩
end rules
end Go.Aw
