/-
  Calls; one operation; a region whose order is the text's.
-/
import Derived.Test.YtdeoaadkngiilaaDoorAwM
set_option linter.unusedVariables false
set_option linter.unusedSimpArgs false
namespace Go.Aw

inductive ARes where
  | ret (v : Value)
  | pan (v : Value)

inductive RRel (c : Ctx) : ARes → Ending → Prop
  | ret {v v' : Value} : VRel c v v' → RRel c (.ret v) (.returned v')
  | pan {v v' : Value} : VRel c v v' → RRel c (.pan v) (.panicked [{ v := v', recovered := false }])

def CPost (K : ARes → AHeap → Prop) (c : Ctx) (H : AHeap) (w : World) (e : Ending) (w' : World) : Prop :=
  ∃ r c' H', K r H' ∧ RRel c' r e ∧ HRel c' H' w' ∧ Trans H.length c H w c' H' w'

/-- What a call of function f comes to, be it of a Go body or of the model's own. -/
def CallTo (P : Program) (f : FuncId) (args : Array Value) (w : World) (R : Ending → World → Prop) : Prop :=
  match (callFunc f args).run P w with
  | .ok (.enter f' args') w' => Calls P f' args' w' R
  | .ok (.value v) w' => R (.returned v) w'
  | .halt (.panic v) w' => R (.panicked [{ v, recovered := false }]) w'
  | _ => False

/-- A call, said of abstract states. -/
def AC (P : Program) (f : FuncId) (args : List Value) (H : AHeap) (K : ARes → AHeap → Prop) : Prop :=
  ∀ c w vargs, HRel c H w → VRels c args vargs → CallTo P f ⟨vargs⟩ w (CPost K c H w)

theorem CPost.mono {K K' : ARes → AHeap → Prop} (h : ∀ r H, K r H → K' r H) {c : Ctx} {H : AHeap} {w : World} {e : Ending} {w' : World} (hp : CPost K c H w e w') : CPost K' c H w e w' :=
  let ⟨r, c', H', h1, h2⟩ := hp; ⟨r, c', H', h _ _ h1, h2⟩

theorem CallTo.mono {P : Program} {f : FuncId} {args : Array Value} {w : World} {R R' : Ending → World → Prop} (h : CallTo P f args w R) (hr : ∀ e w', R e w' → R' e w') : CallTo P f args w R' := by
  unfold CallTo at *
  split <;> simp_all
  rename_i f' args' w' _
  exact h.mono hr

theorem AC.mono {P : Program} {f : FuncId} {args : List Value} {H : AHeap} {K K' : ARes → AHeap → Prop} (h : AC P f args H K) (hk : ∀ r H', K r H' → K' r H') : AC P f args H K' :=
  fun c w vargs hh hv => (h c w vargs hh hv).mono fun _ _ hp => hp.mono hk

/-- The call returns just this. -/
def ARet (P : Program) (f : FuncId) (args : List Value) (H : AHeap) (v : Value) (H' : AHeap) : Prop := AC P f args H fun r H1 => r = .ret v ∧ H1 = H'

theorem ARet.use {P : Program} {f : FuncId} {args : List Value} {H H' : AHeap} {v : Value} {K : ARes → AHeap → Prop} (h : ARet P f args H v H') (hk : K (.ret v) H') : AC P f args H K :=
  h.mono fun r H1 ⟨h1, h2⟩ => by subst h1; subst h2; exact hk

/-- A call of 'yield' of the loop whose record is object i. -/
def AY (P : Program) (i : Nat) (args : List Value) (H : AHeap) (K : Value → AHeap → Prop) : Prop :=
  ∀ c w vargs p, HRel c H w → VRels c args vargs → c i = some p → ∃ f tmps assign body w1, (Instr.yield p.block ⟨vargs⟩).run P w = .ok (.round p.block f tmps assign body) w1 ∧
    RoundIn Fence.wide 0 P p.block f tmps assign body w1 (CPost (fun r H' => ∃ v, r = .ret v ∧ K v H') c H w)

def resK (K : ASt → Prop) (Kp : Value → ASt → Prop) (st : ASt) (dst : Option Tmp) : ARes → AHeap → Prop
  | .ret v, H' => K (ASt.put ⟨st.env, st.defs, H'⟩ dst v)
  | .pan v, H' => Kp v ⟨st.env, st.defs, H'⟩

def callV (P : Program) (fv : Value) (args : List Value) (st : ASt) (dst : Option Tmp) (K : ASt → Prop) (Kp : Value → ASt → Prop) : Prop :=
  match fv with
  | .func (.func f) ⟨first⟩ ⟨cap⟩ => AC P f (first ++ args ++ cap) st.H (resK K Kp st dst)
  | .func (.yield i) ⟨[]⟩ ⟨[]⟩ => AY P i args st.H fun v H' => resK K Kp st dst (.ret v) H'
  | _ => False

/-- The method of a value behind an interface: of the type itself, the receiver as it stands. -/
def tM (P : Program) (t : TypeId) (name : String) : Option FuncId :=
  (P.info? t).bind fun i => (i.methods.find? (·.name == name)).bind fun m =>
    if m.path.isEmpty = true then
      m.func.bind fun p => match P.underlying t, p.2 with
        | some (.pointer _), true => some p.1
        | some (.pointer _), false => none
        | some _, false => some p.1
        | _, _ => none
    else none

def evs (st : ASt) : List Operand → Option (List Value)
  | [] => some []
  | x :: r => (ev st x).bind fun v => (evs st r).map (v :: ·)

def evP (st : ASt) : List (Nat × Operand) → Option (List (Nat × Value))
  | [] => some []
  | (i, x) :: r => (ev st x).bind fun v => (evP st r).map ((i, v) :: ·)

def evO (st : ASt) : Option Operand → Option (Option Value)
  | none => some none
  | some x => (ev st x).map some

def kv (st : ASt) (dst : Option Tmp) (K : ASt → Prop) : Value → AHeap → Prop := fun v H' => K (ASt.put ⟨st.env, st.defs, H'⟩ dst v)

def noVal : Value := .tuple ⟨[]⟩

def builtinW (P : Program) (b : Builtin) (ts : List TypeId) (args : List Value) (st : ASt) (dst : Option Tmp) (K : ASt → Prop) : Prop :=
  match b, ts, args with
  | .len, [t], [x] => lenW P t x st.H (kv st dst K)
  | .append, [t, tx], [s, x] => appendW P t tx s x st.H (kv st dst K)
  | .copy, [t, _], [d, x] => copyW P t d x st.H (kv st dst K)
  | .min, _, l => minMaxW false l st.H (kv st dst K)
  | .max, _, l => minMaxW true l st.H (kv st dst K)
  | .delete, t :: _, [m, k] => deleteW P t m k st.H (kv st dst K)
  | _, _, _ => False

def opW (g : Cfg) (o : Oper) (st : ASt) (K : ASt → Prop) (Kp : Value → ASt → Prop) : Prop :=
  match o.op with
  | .move x | .assign x => wth (ev st x) fun v => K (st.put o.dst v)
  | .pick c a b => wth (ev st c) fun u => match u with
    | .bool t => (t = true → wth (ev st a) fun v => K (st.put o.dst v)) ∧ (t = false → wth (ev st b) fun v => K (st.put o.dst v))
    | _ => False
  | .alloc e => allocW g.P e st.H (kv st o.dst K)
  | .box e x => wth (ev st x) fun v => boxW e v st.H (kv st o.dst K)
  | .build t ps => wth (evP st ps.toList) fun l => buildW g.P t l st.H (kv st o.dst K)
  | .buildSlice t n ps => wth (evP st ps.toList) fun l => buildSliceW g.P t n l st.H (kv st o.dst K)
  | .load t a => wth (ev st a) fun v => loadW g.P t v st.H (kv st o.dst K)
  | .store t a x => wth (ev st a) fun v => wth (ev st x) fun u => storeW g.P t v u st.H fun H' => K (ASt.put ⟨st.env, st.defs, H'⟩ o.dst noVal)
  | .nilCheck x => wth (ev st x) fun v => match v with
    | .pointer (some a) => K (st.put o.dst (.pointer (some a)))
    | .func (.func f) y z => K (st.put o.dst (.func (.func f) y z))
    | .iface t u => K (st.put o.dst (.iface t u))
    | _ => False
  | .binOp op t x y _ => wth (ev st x) fun a => wth (ev st y) fun b => binW g.P op t x y a b fun v => K (st.put o.dst v)
  | .unOp op _ x => wth (ev st x) fun a => unW op a fun v => K (st.put o.dst v)
  | .convert s d x => wth (ev st x) fun a => convW g.P s d a st.H (kv st o.dst K)
  | .makeInterface t x => wth (ev st x) fun a => ifaceW g.P t a st.H (kv st o.dst K)
  | .makeFunc f xs ys => (match f with | .func _ => True | _ => False) ∧ wth (evs st xs.toList) fun a => wth (evs st ys.toList) fun b => K (st.put o.dst (.func f ⟨a⟩ ⟨b⟩))
  | .makeSlice t l n => wth (ev st l) fun a => wth (ev st n) fun b => makeSliceW g.P t a b st.H (kv st o.dst K)
  | .slice t x lo hi mx => wth (ev st x) fun a => wth (evO st lo) fun l => wth (evO st hi) fun h => wth (evO st mx) fun m => sliceW g.P t a l h m st.H (kv st o.dst K)
  | .fieldAddr t x f => wth (ev st x) fun a => fieldAddrW g.P t a f st.H (kv st o.dst K)
  | .field t x f => wth (ev st x) fun a => fieldW g.P t a f st.H (kv st o.dst K)
  | .indexAddr t x i => wth (ev st x) fun a => wth (ev st i) fun b => indexAddrW g.P t a b st.H (kv st o.dst K)
  | .index t x i => wth (ev st x) fun a => wth (ev st i) fun b => indexW g.P t a b st.H (kv st o.dst K)
  | .typeAssert x xt t ok => wth (ev st x) fun a => assertW g.P a xt t ok st.H (kv st o.dst K)
  | .extract x i => wth (ev st x) fun a => extractW a i st.H (kv st o.dst K)
  | .call c => wth (evs st c.args.toList) fun args => (match c.callee with
    | .value x => wth (ev st x) fun fv => callV g.P fv args st o.dst K Kp
    | .builtin b => builtinW g.P b c.argTypes.toList args st o.dst K
    | .invoke x name => wth (ev st x) fun r => match r with
      | .iface t v => wth (tM g.P t name) fun f => AC g.P f (v :: args) st.H (resK K Kp st o.dst)
      | _ => False)
  | .defer c => g.lr = none ∧ wth (evs st c.args.toList) fun args => (match c.callee with
    | .value x => wth (ev st x) fun fv => match fv with
      | .func f ⟨first⟩ ⟨cap⟩ => K (ASt.put ⟨st.env, .call f cap (first ++ args) :: st.defs, st.H⟩ o.dst noVal)
      | _ => False
    | _ => False)
  | .panic x => wth (ev st x) fun v => match v with
    | .iface t u => Kp (.iface t u) st
    | _ => False
  | .makeMap _ r => makeMapW (r.map fun _ => noVal) st.H (kv st o.dst K)
  | .lookup t x i ok => wth (ev st x) fun a => wth (ev st i) fun b => lookupW g.P t a b ok st.H (kv st o.dst K)
  | .mapUpdate t m k x => wth (ev st m) fun a => wth (ev st k) fun b => wth (ev st x) fun u => mapUpdateW g.P t a b u st.H fun H' => K (ASt.put ⟨st.env, st.defs, H'⟩ o.dst noVal)
  | .insert t m k x => wth (ev st m) fun a => wth (ev st k) fun b => wth (ev st x) fun u => mapUpdateW g.P t a b u st.H fun H' => K (ASt.put ⟨st.env, st.defs, H'⟩ o.dst noVal)
  | .mapEntry t m k => wth (ev st m) fun a => wth (ev st k) fun b => mapEntryW g.P t a b st.H (kv st o.dst K)
  | .entryStore t m s x => wth (ev st m) fun a => wth (ev st s) fun b => wth (ev st x) fun u => entryStoreW a b u st.H fun H' => K (ASt.put ⟨st.env, st.defs, H'⟩ o.dst noVal)
  | _ => False

/-- But for the temporary dst all are as they were; the places stay. -/
def OnlyPut (o : Oper) (c c' : Ctx) (a a' : Act) : Prop := c.le c' ∧ ∃ u, a'.tmps = (a.put o.dst u).tmps

def OpOk (g : Cfg) (o : Oper) (st : ASt) (K : ASt → Prop) (Kp : Value → ASt → Prop) : Prop :=
  ∀ c w a (Q : Exit → Act → World → Prop) (next : Act → World → Prop), SRel g.N c st w a →
    (∀ st' c' a' w', K st' → SRel g.N c' st' w' a' → Trans g.n0 c st.H w c' st'.H w' → OnlyPut o c c' a a' → next a' w') →
    (∀ v v' st' c' a' w', Kp v st' → VRel c' v v' → SRel g.N c' st' w' a' → Trans g.n0 c st.H w c' st'.H w' → Q (.panic [{ v := v', recovered := false }]) a' w') →
    o.wpIn (fenceOf g.lr) 0 g.P a w next Q

section
variable {g : Cfg} {o : Oper} {st : ASt} {K : ASt → Prop} {Kp : Value → ASt → Prop}

theorem about_any (lr : Option Nat) {P : Program} {w : World} {ρ : Operand → Value} : ∀ f, o.about P w ρ = some f → (fenceOf lr).fn f := fun f _ => fenceOf_fn lr f

/-- An operation that gives a value. -/
theorem OpOk.value (hd : ∀ d, o.dst = some d → d < g.N.n) (hnd : ∀ c, o.op ≠ .defer c)
    (h : ∀ c w a, SRel g.N c st w a → ∃ v' w', (execOp a.eval o).run g.P w = .ok (.value v') w' ∧ ∃ v H' c', K (ASt.put ⟨st.env, st.defs, H'⟩ o.dst v) ∧ VRel c' v v' ∧ c.le c' ∧ HRel c' H' w' ∧ ∀ n, Trans n c st.H w c' H' w') : OpOk g o st K Kp := by
  intro c w a Q next hs hk _
  obtain ⟨v', w', hr, v, H', c', hK, hv, hle, hh, ht⟩ := h c w a hs
  refine ⟨about_any g.lr, ?_⟩
  rw [Oper.semAt_eq _ _ _ hnd, hr]
  have := (hs.step hle (ht g.n0) hh).put hd hv
  refine hk _ c' _ w' hK this ?_ ⟨hle, _, rfl⟩
  cases ho : o.dst <;> exact ht g.n0

theorem run_v {P : Program} {s : Sem Value} {v : Value} {w w' : World} (h : s.run P w = .ok v w') : (do pure (Next.value (← s)) : Sem Next).run P w = .ok (.value v) w' := by
  simp [h]

theorem OpOk.gives (hd : ∀ d, o.dst = some d → d < g.N.n) (hnd : ∀ c, o.op ≠ .defer c) (s : Act → Sem Value) (he : ∀ a : Act, execOp a.eval o = do pure (Next.value (← s a)))
    (h : ∀ c w a, SRel g.N c st w a → Gives g.P (s a) c st.H w (kv st o.dst K)) : OpOk g o st K Kp :=
  .value hd hnd fun c w a hs =>
    let ⟨v', w', hr, v, H', c', hk, hv, hle, hh, ht⟩ := h c w a hs
    ⟨v', w', by rw [he]; exact run_v hr, v, H', c', hk, hv, hle, hh, ht⟩

/-- An operation that gives a value and leaves memory alone. -/
theorem OpOk.still (hd : ∀ d, o.dst = some d → d < g.N.n) (hnd : ∀ c, o.op ≠ .defer c)
    (h : ∀ c w a, SRel g.N c st w a → ∃ v v', (execOp a.eval o).run g.P w = .ok (.value v') w ∧ VRel c v v' ∧ K (st.put o.dst v)) : OpOk g o st K Kp :=
  .value hd hnd fun c w a hs =>
    let ⟨v, v', hr, hv, hk⟩ := h c w a hs
    ⟨v', w, hr, v, st.H, c, hk, hv, Ctx.le_refl c, hs.heap, fun n => .refl n c st.H w⟩

theorem evs_rel {N : Fr} {c : Ctx} {w : World} {a : Act} (h : SRel N c st w a) : ∀ {xs : List Operand} {vs : List Value}, evs st xs = some vs → VRels c vs (xs.map a.eval)
  | [], vs, e => by simp [evs] at e; subst e; exact .nil
  | x :: xs, vs, e => by
    simp only [evs] at e
    cases hx : ev st x with
    | none => simp [hx] at e
    | some v =>
      cases hxs : evs st xs with
      | none => simp [hx, hxs] at e
      | some us => simp [hx, hxs] at e; subst e; exact .cons (ev_rel h hx) (evs_rel h hxs)

theorem evP_rel {N : Fr} {c : Ctx} {w : World} {a : Act} (h : SRel N c st w a) : ∀ {xs : List (Nat × Operand)} {vs : List (Nat × Value)}, evP st xs = some vs → PRels c vs (xs.map fun p => (p.1, a.eval p.2))
  | [], vs, e => by simp [evP] at e; subst e; exact .nil
  | (i, x) :: xs, vs, e => by
    simp only [evP] at e
    cases hx : ev st x with
    | none => simp [hx] at e
    | some v =>
      cases hxs : evP st xs with
      | none => simp [hx, hxs] at e
      | some us => simp [hx, hxs] at e; subst e; exact .cons (ev_rel h hx) (evP_rel h hxs)

theorem evO_rel {N : Fr} {c : Ctx} {w : World} {a : Act} (h : SRel N c st w a) {x : Option Operand} {v : Option Value} (e : evO st x = some v) : ORels c v (x.map a.eval) := by
  cases x with
  | none => simp [evO] at e; subst e; exact .none
  | some x =>
    simp only [evO] at e
    cases hx : ev st x with
    | none => simp [hx] at e
    | some u => simp [hx] at e; subst e; exact .some (ev_rel h hx)

theorem callsIn_of {lr : Option Nat} {P : Program} {f : FuncId} {args : Array Value} {w : World} {R : Ending → World → Prop} (h : Calls P f args w R) (n : Nat) : CallsIn (fenceOf lr) n P f args w R := by
  have h' : CallsIn Fence.wide n P f args w R := callsIn_wide.2 h
  cases lr with
  | none => exact h'
  | some l => exact h'

theorem roundIn_of {lr : Option Nat} {P : Program} {l : Nat} {f : FuncId} {tmps : Array Value} {assign body : Code} {w : World} {R : Ending → World → Prop} {n : Nat} (h : RoundIn Fence.wide n P l f tmps assign body w R) : RoundIn (fenceOf lr) n P l f tmps assign body w R := by
  cases lr with
  | none => exact h
  | some l => exact h

/-- After a call: the activation goes on. -/
theorem CPost.next {c : Ctx} {w : World} {a : Act} {Q : Exit → Act → World → Prop} {nx : Act → World → Prop} (hd : ∀ d, o.dst = some d → d < g.N.n) (hs : SRel g.N c st w a)
    (hk : ∀ st' c' a' w', K st' → SRel g.N c' st' w' a' → Trans g.n0 c st.H w c' st'.H w' → OnlyPut o c c' a a' → nx a' w')
    (hp : ∀ v v' st' c' a' w', Kp v st' → VRel c' v v' → SRel g.N c' st' w' a' → Trans g.n0 c st.H w c' st'.H w' → Q (.panic [{ v := v', recovered := false }]) a' w')
    {e : Ending} {w' : World} (h : CPost (resK K Kp st o.dst) c st.H w e w') :
    (match e, w' with
      | .returned v, w'' => nx (a.put o.dst v) w''
      | .panicked chain, w'' => Q (.panic chain) a w''
      | .outgrown, _ => LetsOut Q) := by
  obtain ⟨r, c', H', hK, hr, hh, ht⟩ := h
  have hle : c.le c' := ht.le hs.heap
  have ht0 : Trans g.n0 c st.H w c' H' w' := { ht with names := fun i p _ e => hle i p e }
  cases hr with
  | ret hv =>
    refine hk _ c' _ w' hK ((hs.step hle ht hh).put hd hv) ?_ ⟨hle, _, rfl⟩
    cases ho : o.dst <;> exact ht0
  | pan hv => exact hp _ _ _ c' _ w' hK hv (hs.step hle ht hh) ht0

theorem CallTo.wpIn {c : Ctx} {w : World} {a : Act} {Q : Exit → Act → World → Prop} {nx : Act → World → Prop} (hd : ∀ d, o.dst = some d → d < g.N.n) (hs : SRel g.N c st w a)
    (hk : ∀ st' c' a' w', K st' → SRel g.N c' st' w' a' → Trans g.n0 c st.H w c' st'.H w' → OnlyPut o c c' a a' → nx a' w')
    (hp : ∀ v v' st' c' a' w', Kp v st' → VRel c' v v' → SRel g.N c' st' w' a' → Trans g.n0 c st.H w c' st'.H w' → Q (.panic [{ v := v', recovered := false }]) a' w')
    {f : FuncId} {args : Array Value} (he : ∀ w, (execOp a.eval o).run g.P w = (callFunc f args).run g.P w) (hnd : ∀ c, o.op ≠ .defer c) (h : CallTo g.P f args w (CPost (resK K Kp st o.dst) c st.H w)) :
    o.wpIn (fenceOf g.lr) 0 g.P a w nx Q := by
  refine ⟨about_any g.lr, ?_⟩
  rw [Oper.semAt_eq _ _ _ hnd, he]
  unfold CallTo at h
  split at h
  · rename_i f' args' w' hr
    rw [hr]
    exact ⟨fenceOf_depth g.lr, (callsIn_of h _).mono fun e w'' hpost => by
      have := hpost.next hd hs hk hp
      cases e <;> exact this⟩
  · rename_i v w' hr
    rw [hr]
    exact h.next hd hs hk hp
  · rename_i v w' hr
    rw [hr]
    exact h.next hd hs hk hp
  · exact h.elim
end
end Go.Aw
