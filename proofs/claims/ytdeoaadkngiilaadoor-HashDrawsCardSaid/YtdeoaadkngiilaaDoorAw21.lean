/-
  From a contract on abstract heaps to the calculus' own.
-/
import Derived.Test.YtdeoaadkngiilaaDoorAw20
import Derived.WalkKit
import Derived.ProofKit
import Derived.OpenShut
import Derived.JoinedCond
set_option linter.unusedVariables false
namespace Go.Aw
open Go.ChangeShapes Go.WideShapes Go.ChangeAt Go.RowKit
theorem HRel.empty (w : World) : HRel (fun _ => none) [] w := ⟨fun i o e => by simp at e, fun i j oi oj pi pj _ e => by simp at e, fun _ _ => rfl⟩

/-- A call that touches nothing of the caller's: its answer, and that all that was there is as it was. -/
theorem AC.calls {P : Program} {f : FuncId} {fn : Func} {args : List Value} {v : Value} (hf : P.funcs[f]? = some fn) (hb : fn.body.isSome = true) (hn : (fn.name == "runtime.NumGoroutine") = false) (ha : args.all scalar = true) (hv : scalar v = true)
    (h : AC P f args [] (fun r _ => r = .ret v)) (w : World) : Calls P f ⟨args⟩ w fun e w' => e = .returned v ∧ Below w.heap.size w w' := by
  have hc := h (fun _ => none) w args (HRel.empty w) (VRels.of_scalars ha)
  unfold CallTo at hc
  have hbn : fn.body.isNone = false := by cases hfb : fn.body <;> simp_all
  have hr : (callFunc f ⟨args⟩).run P w = .ok (.enter f ⟨args⟩) w := by
    simp only [callFunc, Sem.run_bind, run_program, Result.andThen_ok, hf, hn, Bool.false_eq_true, if_false, hbn]
    rfl
  rw [hr] at hc
  refine hc.mono fun e w' ⟨r, c', H', he, hrel, hh, ht⟩ => ?_
  subst he
  cases hrel with
  | ret hv' =>
    rw [hv'.scalar_eq hv]
    exact ⟨rfl, ht.os, ht.tape, ht.output, ht.size, fun k hk => ht.frame k hk (by rintro ⟨i, o, p, e, _⟩; simp at e)⟩

/-- 'post' where the answer names nothing and all that was there is as it was. -/
theorem post_of_below {H : Type} {enc : TypeId × Value → H} {P : Program} {f : Func} {s : ChangeSpec} {apart fresh handsOn again : Bool} {W W' : World} {args : Array Value} {v : Value} {ds gs : List (DataW H)} {before pa pv : List MemPlace}
    (hW : DataW.Whole enc P f.params.toList s.vars apart W args.toList ds gs before)
    (hres : ∀ (b : Nat) (sp : Nat → Bool) (hd : Bool), DataW.TrodAll enc P W' b sp hd f.resultTypes.toList (v.resultList f.resultTypes.size) (s.fn H (ds ++ gs)).results [])
    (hargs : ∀ sp : Nat → Bool, (∀ p ∈ before, sp p.block = true) → DataW.TrodAll enc P W' 0 sp true f.params.toList args.toList (s.fn H (ds ++ gs)).args pa)
    (hvars : ∀ sp : Nat → Bool, (∀ p ∈ before, sp p.block = true) → DataW.TrodVars enc P W' sp s.vars (s.fn H (ds ++ gs)).vars pv)
    (hps : before = pa ++ pv) (hb : Below W.heap.size W W')
    (hok : ∀ (j : Nat) (t : TypeId) (r : Value), f.resultTypes[j]? = some t → (v.resultList f.resultTypes.size)[j]? = some r → Value.okWide P W' .any 0 t r) :
    s.post enc P f apart fresh handsOn again W args v W' := by
  have hold : ∀ p ∈ before, (fun b => decide (b < W.heap.size)) p.block = true := fun p hp => by simpa using hW.lt p hp
  have hlt := hW.lt
  subst hps
  refine ⟨ds, gs, _, [], pa, pv, hW, hres _ _ _, hargs _ hold, hvars _ hold, hb.frame _, fun _ => ?_⟩
  obtain ⟨_, _, _, _, _, hz, hn⟩ := hW
  refine ⟨hok, _, _, ([] ++ pa) ++ pv, ⟨[] ++ pa, pv, trodAll_append (hargs _ (fun _ _ => rfl)) (hres _ _ _), hvars _ (fun _ _ => rfl), rfl, ?_, ?_⟩, ?_⟩
  · intro b off hp
    have hp' : MemPlace.cell b off ∈ pa ++ pv := by simpa using hp
    have := hlt _ hp'
    rw [hb.frozen (by exact this)]
    exact hz b off hp'
  · intro ha
    simpa using hn ha
  · intro p hp _
    simpa using hp
end Go.Aw
