/-
  Each operation does what is said of it; a region in the order of its text.
-/
import Derived.Test.YtdeoaadkngiilaaDoorAw11
set_option linter.unusedVariables false
set_option linter.unusedSimpArgs false
namespace Go.Aw
section
variable {g : Cfg} {o : Oper} {st : ASt} {K : ASt → Prop} {Kp : Value → ASt → Prop}

theorem callV_ok {fv : Value} {args : List Value} (hd : ∀ d, o.dst = some d → d < g.N.n) (cl : Call) (ho : o.op = .call cl) (x : Operand) (hc : cl.callee = .value x) (hx : ev st x = some fv) (ha : evs st cl.args.toList = some args)
    (h : callV g.P fv args st o.dst K Kp) : OpOk g o st K Kp := by
  intro c w a Q next hs hk hp
  have hnd : ∀ c, o.op ≠ .defer c := fun c e => by rw [ho] at e; cases e
  have hfv := ev_rel hs hx
  have hargs := evs_rel hs ha
  have hargs' : cl.args.map a.eval = ⟨cl.args.toList.map a.eval⟩ := by apply Array.ext'; simp
  unfold callV at h
  split at h
  · rename_i f first cap
    generalize hev : a.eval x = fv' at hfv
    cases hfv with
    | func hf h1 h2 =>
      cases hf
      rename_i first' cap'
      refine CallTo.wpIn hd hs hk hp (f := f) (args := ⟨first' ++ cl.args.toList.map a.eval ++ cap'⟩) (fun w => ?_) hnd (h c w _ hs.heap ((h1.append hargs).append h2))
      simp only [execOp, ho, resolve, hc, hev, Deferred.ofValue, pure_bind, invoke, hargs']
      congr 2
      apply Array.ext'
      simp
  · rename_i i
    generalize hev : a.eval x = fv' at hfv
    cases hfv with
    | func hf h1 h2 =>
      cases hf with
      | yield hci =>
        rename_i p
        cases h1; cases h2
        obtain ⟨f, tmps, assign, body, w1, hy, hr⟩ := h c w _ p hs.heap hargs hci
        refine ⟨about_any g.lr, ?_⟩
        have he : (execOp a.eval o).run g.P w = .ok (.round p.block f tmps assign body) w1 := by
          simp only [execOp, ho, resolve, hc, hev, Deferred.ofValue, pure_bind, invoke, hargs']
          simpa using hy
        rw [Oper.semAt_eq _ _ _ hnd, he]
        exact ⟨fenceOf_depth g.lr, (roundIn_of hr).mono fun e w'' hpost => by
          have hpost' : CPost (resK K Kp st o.dst) c st.H w e w'' := hpost.mono fun r H' ⟨v, hr, hk⟩ => by subst hr; exact hk
          have := hpost'.next hd hs hk hp
          cases e <;> exact this⟩
  · exact h.elim

theorem invoke_ok {t : TypeId} {v : Value} {args : List Value} {f : FuncId} {name : String} (hd : ∀ d, o.dst = some d → d < g.N.n) (cl : Call) (ho : o.op = .call cl) (x : Operand) (hc : cl.callee = .invoke x name) (hx : ev st x = some (.iface t v))
    (ha : evs st cl.args.toList = some args) (hm : tM g.P t name = some f) (h : AC g.P f (v :: args) st.H (resK K Kp st o.dst)) : OpOk g o st K Kp := by
  intro c w a Q next hs hk hp
  have hnd : ∀ c, o.op ≠ .defer c := fun c e => by rw [ho] at e; cases e
  have hxv := ev_rel hs hx
  have hargs := evs_rel hs ha
  have hargs' : cl.args.map a.eval = ⟨cl.args.toList.map a.eval⟩ := by apply Array.ext'; simp
  generalize hev : a.eval x = xv at hxv
  cases hxv with
  | iface hv =>
    rename_i v'
    refine CallTo.wpIn hd hs hk hp (f := f) (args := ⟨v' :: cl.args.toList.map a.eval⟩) (fun w => ?_) hnd (h c w _ hs.heap (.cons hv hargs))
    have hmeth : ∀ w, (Go.method (g.P.types.size + Made.depth) t v' name).run g.P w = .ok (f, v') w := by
      intro w
      unfold tM at hm
      cases hi : g.P.info? t with
      | none => rw [hi] at hm; cases hm
      | some i =>
        rw [hi] at hm; simp only [Option.bind_some] at hm
        cases hf : i.methods.find? (·.name == name) with
        | none => rw [hf] at hm; cases hm
        | some m =>
          rw [hf] at hm; simp only [Option.bind_some] at hm
          split at hm
          · rename_i hp0
            have hp1 : m.path = #[] := by simpa using hp0
            cases hmf : m.func with
            | none => rw [hmf] at hm; cases hm
            | some q =>
              obtain ⟨f1, b⟩ := q
              rw [hmf] at hm; simp only [Option.bind_some] at hm
              have hti : (typeInfo t).run g.P w = .ok i w := by simp [typeInfo, hi]
              show (Go.method ((g.P.types.size + 99) + 1) t v' name).run g.P w = _
              unfold Go.method
              simp only [Sem.run_bind, hti, Result.andThen_ok, hf, hp1, Go.follow, Sem.run_pure, hmf]
              cases hu : g.P.underlying t with
              | none => rw [hu] at hm; cases b <;> cases hm
              | some d =>
                rw [hu] at hm
                cases d <;> cases b <;> first
                  | (cases hm; done)
                  | (simp only [Option.some.injEq] at hm; subst hm; simp only [Go.receiverAt, Sem.run_bind, run_underlying hu, Result.andThen_ok, Go.Place.get, Sem.run_pure])
          · cases hm
    simp only [execOp, ho, resolve, hc, hev, pure_bind, invoke, hargs']
    have e0 : (#[Value.iface t v'] ++ (⟨cl.args.toList.map a.eval⟩ : Array Value))[0]? = some (.iface t v') := by simp
    simp only [e0]
    have e1 : (#[Value.iface t v'] ++ (⟨cl.args.toList.map a.eval⟩ : Array Value)).extract 1 (#[Value.iface t v'] ++ (⟨cl.args.toList.map a.eval⟩ : Array Value)).size = ⟨cl.args.toList.map a.eval⟩ := by
      apply Array.ext'; simp [List.take_of_length_le]
    simp only [e1, callMethod, Sem.run_bind, run_program, Result.andThen_ok, hmeth]
    have e2 : #[v'] ++ (⟨cl.args.toList.map a.eval⟩ : Array Value) = ⟨v' :: cl.args.toList.map a.eval⟩ := by apply Array.ext'; simp
    rw [e2]

theorem builtin_ok {b : Builtin} {args : List Value} (hd : ∀ d, o.dst = some d → d < g.N.n) (cl : Call) (ho : o.op = .call cl) (hc : cl.callee = .builtin b) (ha : evs st cl.args.toList = some args)
    (h : builtinW g.P b cl.argTypes.toList args st o.dst K) : OpOk g o st K Kp := by
  have hnd : ∀ c, o.op ≠ .defer c := fun c e => by rw [ho] at e; cases e
  have he : ∀ (a : Act) (args' : List Value) (ts : List TypeId), cl.args.toList.map a.eval = args' → cl.argTypes.toList = ts → ∃ consts, execOp a.eval o = builtin b ⟨ts⟩ o.type consts ⟨args'⟩ := by
    intro a args' ts e1 e2
    have hargs' : cl.args.map a.eval = ⟨args'⟩ := by apply Array.ext'; simp [← e1]
    have hts : cl.argTypes = ⟨ts⟩ := by apply Array.ext'; simp [← e2]
    exact ⟨_, by simp only [execOp, ho, resolve, hc, pure_bind, invoke, hargs', hts]; rfl⟩
  unfold builtinW at h
  split at h
  all_goals try (exact h.elim)
  all_goals
    intro c w a Q next hs hk hp
    have hargs := evs_rel hs ha
    generalize hl : cl.args.toList.map a.eval = l' at hargs
  · rename_i t x hts
    obtain ⟨x', rfl, hx⟩ := hargs.one
    obtain ⟨consts, hex⟩ := he a _ _ hl hts
    obtain ⟨v', w', hr, v, H', c', hK, hv, hle, hh, ht⟩ := lenW_ok (ty := o.type) hs.heap hx h
    refine ⟨about_any g.lr, ?_⟩
    rw [Oper.semAt_eq _ _ _ hnd, hex]
    have : (builtin .len ⟨_⟩ o.type consts ⟨[x']⟩).run g.P w = .ok (.value v') w' := run_v hr
    rw [this]
    refine hk _ c' _ w' hK ((hs.step hle (ht g.n0) hh).put hd hv) ?_ ⟨hle, _, rfl⟩
    cases o.dst <;> exact ht g.n0
  · rename_i t tx s x hts
    obtain ⟨s', x', rfl, hsv, hx⟩ := hargs.two
    obtain ⟨consts, hex⟩ := he a _ _ hl hts
    obtain ⟨v', w', hr, v, H', c', hK, hv, hle, hh, ht⟩ := appendW_ok (ty := o.type) hs.heap hsv hx h
    refine ⟨about_any g.lr, ?_⟩
    rw [Oper.semAt_eq _ _ _ hnd, hex]
    have : (builtin .append ⟨_⟩ o.type consts ⟨[s', x']⟩).run g.P w = .ok (.value v') w' := run_v hr
    rw [this]
    refine hk _ c' _ w' hK ((hs.step hle (ht g.n0) hh).put hd hv) ?_ ⟨hle, _, rfl⟩
    cases o.dst <;> exact ht g.n0
  · rename_i t tx s x hts
    obtain ⟨s', x', rfl, hsv, hx⟩ := hargs.two
    obtain ⟨consts, hex⟩ := he a _ _ hl hts
    obtain ⟨v', w', hr, v, H', c', hK, hv, hle, hh, ht⟩ := copyW_ok (ty := o.type) hs.heap hsv hx h
    refine ⟨about_any g.lr, ?_⟩
    rw [Oper.semAt_eq _ _ _ hnd, hex]
    have : (builtin .copy ⟨_⟩ o.type consts ⟨[s', x']⟩).run g.P w = .ok (.value v') w' := run_v hr
    rw [this]
    refine hk _ c' _ w' hK ((hs.step hle (ht g.n0) hh).put hd hv) ?_ ⟨hle, _, rfl⟩
    cases o.dst <;> exact ht g.n0
  · obtain ⟨consts, hex⟩ := he a _ _ hl rfl
    obtain ⟨v', w', hr, v, H', c', hK, hv, hle, hh, ht⟩ := minMaxW_ok (P := g.P) (mx := false) (ts := ⟨cl.argTypes.toList⟩) (t := o.type) hs.heap hargs h
    refine ⟨about_any g.lr, ?_⟩
    rw [Oper.semAt_eq _ _ _ hnd, hex]
    have : (builtin .min ⟨cl.argTypes.toList⟩ o.type consts ⟨l'⟩).run g.P w = .ok (.value v') w' := run_v hr
    rw [this]
    refine hk _ c' _ w' hK ((hs.step hle (ht g.n0) hh).put hd hv) ?_ ⟨hle, _, rfl⟩
    cases o.dst <;> exact ht g.n0
  · obtain ⟨consts, hex⟩ := he a _ _ hl rfl
    obtain ⟨v', w', hr, v, H', c', hK, hv, hle, hh, ht⟩ := minMaxW_ok (P := g.P) (mx := true) (ts := ⟨cl.argTypes.toList⟩) (t := o.type) hs.heap hargs h
    refine ⟨about_any g.lr, ?_⟩
    rw [Oper.semAt_eq _ _ _ hnd, hex]
    have : (builtin .max ⟨cl.argTypes.toList⟩ o.type consts ⟨l'⟩).run g.P w = .ok (.value v') w' := run_v hr
    rw [this]
    refine hk _ c' _ w' hK ((hs.step hle (ht g.n0) hh).put hd hv) ?_ ⟨hle, _, rfl⟩
    cases o.dst <;> exact ht g.n0
  · rename_i t tr s x hts
    obtain ⟨s', x', rfl, hsv, hx⟩ := hargs.two
    obtain ⟨consts, hex⟩ := he a _ _ hl hts
    obtain ⟨v', w', hr, v, H', c', hK, hv, hle, hh, ht⟩ := deleteW_ok (ts := ⟨t :: tr⟩) (ty := o.type) rfl hs.heap hsv hx h
    refine ⟨about_any g.lr, ?_⟩
    rw [Oper.semAt_eq _ _ _ hnd, hex]
    have : (builtin .delete ⟨_⟩ o.type consts ⟨[s', x']⟩).run g.P w = .ok (.value v') w' := run_v hr
    rw [this]
    refine hk _ c' _ w' hK ((hs.step hle (ht g.n0) hh).put hd hv) ?_ ⟨hle, _, rfl⟩
    cases o.dst <;> exact ht g.n0

theorem opW_ok (hd : ∀ d, o.dst = some d → d < g.N.n) (h : opW g o st K Kp) : OpOk g o st K Kp := by
  cases ho : o.op <;> simp only [opW, ho] at h <;> try (exact h.elim)
  case move x =>
    obtain ⟨v, hv, hk⟩ := wth_elim h
    exact .still hd (fun c e => by rw [ho] at e; cases e) fun c w a hs => ⟨v, _, by simp only [execOp, ho]; rfl, ev_rel hs hv, hk⟩
  case assign x =>
    obtain ⟨v, hv, hk⟩ := wth_elim h
    exact .still hd (fun c e => by rw [ho] at e; cases e) fun c w a hs => ⟨v, _, by simp only [execOp, ho]; rfl, ev_rel hs hv, hk⟩
  case pick x y z =>
    obtain ⟨u, hu, hk⟩ := wth_elim h
    split at hk
    · rename_i t
      cases t with
      | true =>
        obtain ⟨v, hv, hk⟩ := wth_elim (hk.1 rfl)
        refine .still hd (fun c e => by rw [ho] at e; cases e) fun c w a hs => ⟨v, _, ?_, ev_rel hs hv, hk⟩
        have := ev_rel hs hu
        generalize hev : a.eval x = q at this
        cases this
        simp only [execOp, ho, hev, asBool]; rfl
      | false =>
        obtain ⟨v, hv, hk⟩ := wth_elim (hk.2 rfl)
        refine .still hd (fun c e => by rw [ho] at e; cases e) fun c w a hs => ⟨v, _, ?_, ev_rel hs hv, hk⟩
        have := ev_rel hs hu
        generalize hev : a.eval x = q at this
        cases this
        simp only [execOp, ho, hev, asBool]; rfl
    · exact hk.elim
  case alloc e =>
    exact .gives hd (fun c e => by rw [ho] at e; cases e) (fun _ => Instr.alloc e true (.tuple #[])) (fun a => by simp only [execOp, ho]) fun c w a hs => allocW_ok hs.heap h
  case box e x =>
    obtain ⟨v, hv, hk⟩ := wth_elim h
    exact .gives hd (fun c e => by rw [ho] at e; cases e) (fun a => Instr.box e (a.eval x)) (fun a => by simp only [execOp, ho]) fun c w a hs => boxW_ok hs.heap (ev_rel hs hv) hk
  case build t ps =>
    obtain ⟨l, hl, hk⟩ := wth_elim h
    refine .gives hd (fun c e => by rw [ho] at e; cases e) (fun a => Instr.build t ⟨ps.toList.map fun p => (p.1, a.eval p.2)⟩) (fun a => ?_) fun c w a hs => buildW_ok hs.heap (evP_rel hs hl) hk
    simp only [execOp, ho]
    have : ps.map (fun x => (x.1, a.eval x.2)) = ⟨ps.toList.map fun p => (p.1, a.eval p.2)⟩ := by apply Array.ext'; simp
    rw [← this]
  case buildSlice t n ps =>
    obtain ⟨l, hl, hk⟩ := wth_elim h
    refine .gives hd (fun c e => by rw [ho] at e; cases e) (fun a => Instr.buildSlice t n ⟨ps.toList.map fun p => (p.1, a.eval p.2)⟩) (fun a => ?_) fun c w a hs => buildSliceW_ok hs.heap (evP_rel hs hl) hk
    simp only [execOp, ho]
    have : ps.map (fun x => (x.1, a.eval x.2)) = ⟨ps.toList.map fun p => (p.1, a.eval p.2)⟩ := by apply Array.ext'; simp
    rw [← this]
  case load t x =>
    obtain ⟨v, hv, hk⟩ := wth_elim h
    exact .gives hd (fun c e => by rw [ho] at e; cases e) (fun a => Instr.loadAt t (a.eval x)) (fun a => by simp only [execOp, ho]) fun c w a hs => loadW_ok hs.heap (ev_rel hs hv) hk
  case store t x y =>
    obtain ⟨v, hv, hk⟩ := wth_elim h
    obtain ⟨u, hu, hk⟩ := wth_elim hk
    intro c w a Q next hs hk' _
    obtain ⟨w', H', hr, hK, hh, ht⟩ := storeW_ok hs.heap (ev_rel hs hv) (ev_rel hs hu) hk
    refine ⟨about_any g.lr, ?_⟩
    have : (execOp a.eval o).run g.P w = .ok .skip w' := by simp only [execOp, ho]; simp [hr]
    rw [Oper.semAt_eq _ _ _ (fun c e => by rw [ho] at e; cases e), this]
    refine hk' _ c _ w' hK ((hs.step (Ctx.le_refl c) (ht g.n0) hh).put hd (.tuple .nil)) ?_ ⟨Ctx.le_refl c, _, rfl⟩
    cases o.dst <;> exact ht g.n0
  case nilCheck x =>
    obtain ⟨v, hv, hk⟩ := wth_elim h
    refine .still hd (fun c e => by rw [ho] at e; cases e) fun c w a hs => ?_
    have hx := ev_rel hs hv
    split at hk
    · generalize hev : a.eval x = q at hx
      refine ⟨_, q, ?_, hx, hk⟩
      cases hx
      simp only [execOp, ho, hev]; rfl
    · generalize hev : a.eval x = q at hx
      refine ⟨_, q, ?_, hx, hk⟩
      cases hx with
      | func hf _ _ => cases hf; simp only [execOp, ho, hev]; rfl
    · generalize hev : a.eval x = q at hx
      refine ⟨_, q, ?_, hx, hk⟩
      cases hx
      simp only [execOp, ho, hev]; rfl
    · exact hk.elim
  case binOp op t x y t2 =>
    obtain ⟨u, hu, hk⟩ := wth_elim h
    obtain ⟨v, hv, hk⟩ := wth_elim hk
    refine .still hd (fun c e => by rw [ho] at e; cases e) fun c w a hs => ?_
    obtain ⟨r, hr, hsc, hK⟩ := binW_ok hk (ev_rel hs hu) (ev_rel hs hv) w
    exact ⟨r, r, by simp only [execOp, ho]; exact run_v hr, .of_scalar hsc, hK⟩
  case unOp op t x =>
    obtain ⟨u, hu, hk⟩ := wth_elim h
    refine .still hd (fun c e => by rw [ho] at e; cases e) fun c w a hs => ?_
    obtain ⟨r, hr, hsc, hK⟩ := unW_ok (P := g.P) hk (ev_rel hs hu) w
    exact ⟨r, r, by simp only [execOp, ho]; exact run_v hr, .of_scalar hsc, hK⟩
  case convert s d x =>
    obtain ⟨v, hv, hk⟩ := wth_elim h
    exact .gives hd (fun c e => by rw [ho] at e; cases e) (fun a => convert s d (a.eval x)) (fun a => by simp only [execOp, ho]) fun c w a hs => convW_ok hs.heap (ev_rel hs hv) hk
  case makeInterface t x =>
    obtain ⟨v, hv, hk⟩ := wth_elim h
    exact .gives hd (fun c e => by rw [ho] at e; cases e) (fun a => Instr.makeInterface t (a.eval x)) (fun a => by simp only [execOp, ho]) fun c w a hs => ifaceW_ok hs.heap (ev_rel hs hv) hk
  case makeFunc f xs ys =>
    obtain ⟨hf, h⟩ := h
    obtain ⟨u, hu, hk⟩ := wth_elim h
    obtain ⟨v, hv, hk⟩ := wth_elim hk
    refine .still hd (fun c e => by rw [ho] at e; cases e) fun c w a hs => ?_
    refine ⟨_, .func f ⟨xs.toList.map a.eval⟩ ⟨ys.toList.map a.eval⟩, ?_, .func ?_ (evs_rel hs hu) (evs_rel hs hv), hk⟩
    · have e1 : xs.map a.eval = ⟨xs.toList.map a.eval⟩ := by apply Array.ext'; simp
      have e2 : ys.map a.eval = ⟨ys.toList.map a.eval⟩ := by apply Array.ext'; simp
      simp only [execOp, ho, Instr.makeFunc, e1, e2]; rfl
    · cases f <;> first | exact .func _ | exact hf.elim
  case makeMap t r =>
    refine .gives hd (fun c e => by rw [ho] at e; cases e) (fun a => Instr.makeMap t (r.map a.eval)) (fun a => by simp only [execOp, ho]) fun c w a hs => makeMapW_ok hs.heap (fun e => ?_) h
    cases r <;> first | rfl | cases e
  case lookup t x i ok =>
    obtain ⟨u, hu, hk⟩ := wth_elim h
    obtain ⟨v, hv, hk⟩ := wth_elim hk
    exact .gives hd (fun c e => by rw [ho] at e; cases e) (fun a => Instr.lookup t (a.eval x) (a.eval i) ok) (fun a => by simp only [execOp, ho]) fun c w a hs => lookupW_ok hs.heap (ev_rel hs hu) (ev_rel hs hv) hk
  case mapEntry t x i =>
    obtain ⟨u, hu, hk⟩ := wth_elim h
    obtain ⟨v, hv, hk⟩ := wth_elim hk
    exact .gives hd (fun c e => by rw [ho] at e; cases e) (fun a => Instr.mapEntry t (a.eval x) (a.eval i)) (fun a => by simp only [execOp, ho]) fun c w a hs => mapEntryW_ok hs.heap (ev_rel hs hu) (ev_rel hs hv) hk
  case mapUpdate t m k x =>
    obtain ⟨v1, hv1, hk⟩ := wth_elim h
    obtain ⟨v2, hv2, hk⟩ := wth_elim hk
    obtain ⟨v3, hv3, hk⟩ := wth_elim hk
    intro c w a Q next hs hk' _
    obtain ⟨w', H', hr, hK, hh, ht⟩ := mapUpdateW_ok (t := t) hs.heap (ev_rel hs hv1) (ev_rel hs hv2) (ev_rel hs hv3) hk
    refine ⟨about_any g.lr, ?_⟩
    have : (execOp a.eval o).run g.P w = .ok .skip w' := by simp only [execOp, ho]; simp [hr]
    rw [Oper.semAt_eq _ _ _ (fun c e => by rw [ho] at e; cases e), this]
    refine hk' _ c _ w' hK ((hs.step (Ctx.le_refl c) (ht g.n0) hh).put hd (.tuple .nil)) ?_ ⟨Ctx.le_refl c, _, rfl⟩
    cases o.dst <;> exact ht g.n0
  case insert t m k x =>
    obtain ⟨v1, hv1, hk⟩ := wth_elim h
    obtain ⟨v2, hv2, hk⟩ := wth_elim hk
    obtain ⟨v3, hv3, hk⟩ := wth_elim hk
    intro c w a Q next hs hk' _
    obtain ⟨w', H', hr, hK, hh, ht⟩ := mapUpdateW_ok (t := t) hs.heap (ev_rel hs hv1) (ev_rel hs hv2) (ev_rel hs hv3) hk
    refine ⟨about_any g.lr, ?_⟩
    have : (execOp a.eval o).run g.P w = .ok .skip w' := by simp only [execOp, ho]; simp [hr]
    rw [Oper.semAt_eq _ _ _ (fun c e => by rw [ho] at e; cases e), this]
    refine hk' _ c _ w' hK ((hs.step (Ctx.le_refl c) (ht g.n0) hh).put hd (.tuple .nil)) ?_ ⟨Ctx.le_refl c, _, rfl⟩
    cases o.dst <;> exact ht g.n0
  case entryStore t m k x =>
    obtain ⟨v1, hv1, hk⟩ := wth_elim h
    obtain ⟨v2, hv2, hk⟩ := wth_elim hk
    obtain ⟨v3, hv3, hk⟩ := wth_elim hk
    intro c w a Q next hs hk' _
    obtain ⟨w', H', hr, hK, hh, ht⟩ := entryStoreW_ok (P := g.P) (t := t) hs.heap (ev_rel hs hv1) (ev_rel hs hv2) (ev_rel hs hv3) hk
    refine ⟨about_any g.lr, ?_⟩
    have : (execOp a.eval o).run g.P w = .ok .skip w' := by simp only [execOp, ho]; simp [hr]
    rw [Oper.semAt_eq _ _ _ (fun c e => by rw [ho] at e; cases e), this]
    refine hk' _ c _ w' hK ((hs.step (Ctx.le_refl c) (ht g.n0) hh).put hd (.tuple .nil)) ?_ ⟨Ctx.le_refl c, _, rfl⟩
    cases o.dst <;> exact ht g.n0
  case makeSlice t l n =>
    obtain ⟨u, hu, hk⟩ := wth_elim h
    obtain ⟨v, hv, hk⟩ := wth_elim hk
    exact .gives hd (fun c e => by rw [ho] at e; cases e) (fun a => Instr.makeSlice t (a.eval l) (a.eval n)) (fun a => by simp only [execOp, ho]) fun c w a hs => makeSliceW_ok hs.heap (ev_rel hs hu) (ev_rel hs hv) hk
  case slice t x lo hi mx =>
    obtain ⟨u, hu, hk⟩ := wth_elim h
    obtain ⟨l, hl, hk⟩ := wth_elim hk
    obtain ⟨m, hm, hk⟩ := wth_elim hk
    obtain ⟨n, hn, hk⟩ := wth_elim hk
    exact .gives hd (fun c e => by rw [ho] at e; cases e) (fun a => Instr.sliceAt t (a.eval x) (lo.map a.eval) (hi.map a.eval) (mx.map a.eval)) (fun a => by simp only [execOp, ho]) fun c w a hs => sliceW_ok hs.heap (ev_rel hs hu) (evO_rel hs hl) (evO_rel hs hm) (evO_rel hs hn) hk
  case fieldAddr t x f =>
    obtain ⟨v, hv, hk⟩ := wth_elim h
    exact .gives hd (fun c e => by rw [ho] at e; cases e) (fun a => Instr.fieldAt t (a.eval x) f) (fun a => by simp only [execOp, ho]) fun c w a hs => fieldAddrW_ok hs.heap (ev_rel hs hv) hk
  case field t x f =>
    obtain ⟨v, hv, hk⟩ := wth_elim h
    exact .gives hd (fun c e => by rw [ho] at e; cases e) (fun a => Instr.field t (a.eval x) f) (fun a => by simp only [execOp, ho]) fun c w a hs => fieldW_ok hs.heap (ev_rel hs hv) hk
  case indexAddr t x i =>
    obtain ⟨u, hu, hk⟩ := wth_elim h
    obtain ⟨v, hv, hk⟩ := wth_elim hk
    exact .gives hd (fun c e => by rw [ho] at e; cases e) (fun a => Instr.indexAt t (a.eval x) (a.eval i)) (fun a => by simp only [execOp, ho]) fun c w a hs => indexAddrW_ok hs.heap (ev_rel hs hu) (ev_rel hs hv) hk
  case index t x i =>
    obtain ⟨u, hu, hk⟩ := wth_elim h
    obtain ⟨v, hv, hk⟩ := wth_elim hk
    exact .gives hd (fun c e => by rw [ho] at e; cases e) (fun a => Instr.index t (a.eval x) (a.eval i)) (fun a => by simp only [execOp, ho]) fun c w a hs => indexW_ok hs.heap (ev_rel hs hu) (ev_rel hs hv) hk
  case typeAssert x xt t ok =>
    obtain ⟨v, hv, hk⟩ := wth_elim h
    exact .gives hd (fun c e => by rw [ho] at e; cases e) (fun a => Instr.typeAssert (a.eval x) xt t ok) (fun a => by simp only [execOp, ho]) fun c w a hs => assertW_ok hs.heap (ev_rel hs hv) hk
  case extract x i =>
    obtain ⟨v, hv, hk⟩ := wth_elim h
    exact .gives hd (fun c e => by rw [ho] at e; cases e) (fun a => Instr.extract (a.eval x) i) (fun a => by simp only [execOp, ho]) fun c w a hs => extractW_ok hs.heap (ev_rel hs hv) hk
  case call cl =>
    obtain ⟨args, ha, h⟩ := wth_elim h
    split at h
    · rename_i x hc
      obtain ⟨fv, hx, hk⟩ := wth_elim h
      exact callV_ok hd cl ho x hc hx ha hk
    · rename_i b hc
      exact builtin_ok hd cl ho hc ha h
    · rename_i x name hc
      obtain ⟨r, hr, hk⟩ := wth_elim h
      split at hk
      · obtain ⟨f, hf, hk⟩ := wth_elim hk
        exact invoke_ok hd cl ho x hc hr ha hf hk
      · exact hk.elim
  case defer cl =>
    obtain ⟨hlr, h⟩ := h
    obtain ⟨args, ha, h⟩ := wth_elim h
    split at h
    · rename_i x hc
      obtain ⟨fv, hx, hk⟩ := wth_elim h
      split at hk
      · rename_i f first cap
        intro c w a Q next hs hk' _
        have hfv := ev_rel hs hx
        have hargs := evs_rel hs ha
        have hargs' : cl.args.map a.eval = ⟨cl.args.toList.map a.eval⟩ := by apply Array.ext'; simp
        generalize hev : a.eval x = q at hfv
        cases hfv with
        | func hf h1 h2 =>
          rename_i f' first' cap'
          refine ⟨about_any g.lr, ?_⟩
          have : (Oper.semAt (fenceOf g.lr).round a.eval o).run g.P w = .ok (.defer { target := .fn f' ⟨cap'⟩, args := ⟨first' ++ cl.args.toList.map a.eval⟩ }) w := by
            rw [fenceOf_round, hlr, Oper.semAt_none]
            simp only [execOp, ho, resolve, hc, hev, Deferred.ofValue, pure_bind, hargs']
            simp
          rw [this]
          refine hk' _ c _ w hk ?_ ?_ ⟨Ctx.le_refl c, undef, by cases o.dst <;> rfl⟩
          · have hs1 : SRel g.N c ⟨st.env, .call f cap (first ++ args) :: st.defs, st.H⟩ w { a with defers := { target := .fn f' ⟨cap'⟩, args := ⟨first' ++ cl.args.toList.map a.eval⟩ } :: a.defers } :=
              ⟨hs.heap, hs.size, hs.tmps, .call hf h2 (h1.append hargs) hs.defs⟩
            exact hs1.put hd (.tuple .nil)
          · cases o.dst <;> exact .refl _ _ _ _
      · exact hk.elim
    · exact h.elim
  case panic x =>
    obtain ⟨v, hv, hk⟩ := wth_elim h
    split at hk
    · rename_i t1 u1
      intro c w a Q next hs _ hp
      have hx := ev_rel hs hv
      obtain ⟨v2, hev, hu⟩ : ∃ v2, a.eval x = .iface t1 v2 ∧ VRel c u1 v2 := by
        generalize a.eval x = q at hx
        cases hx with
        | iface hu => exact ⟨_, rfl, hu⟩
      refine ⟨about_any g.lr, ?_⟩
      have : (execOp a.eval o).run g.P w = .halt (.panic (.iface t1 v2)) w := by simp only [execOp, ho, hev, Instr.panic]; rfl
      rw [Oper.semAt_eq _ _ _ (fun c e => by rw [ho] at e; cases e), this]
      exact hp _ _ st c a w hk (.iface hu) hs (.refl _ _ _ _)
    · exact hk.elim
end
end Go.Aw
