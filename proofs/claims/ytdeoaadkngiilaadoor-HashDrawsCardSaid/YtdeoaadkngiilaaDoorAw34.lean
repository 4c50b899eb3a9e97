/-
  From a contract of the calculus to one on abstract heaps: calls whose arguments and answers name no memory.
-/
import Derived.Test.YtdeoaadkngiilaaDoorAw33
import Derived.Test.YtdeoaadkngiilaaDoorAw21
set_option linter.unusedVariables false
namespace Go.Aw
open Go.ChangeShapes Go.WideShapes Go.ChangeAt Go.RowKit
theorem VRels.scalars_eq {c : Ctx} : ∀ {l l' : List Value}, VRels c l l' → l.all scalar = true → l = l'
  | _, _, .nil, _ => rfl
  | v :: l, v' :: l', .cons a b, h => by
    simp only [List.all_cons, Bool.and_eq_true] at h
    rw [a.scalar_eq h.1, VRels.scalars_eq b (by simpa using h.2)]
theorem HRel.below {c : Ctx} {H : AHeap} {w w' : World} (h : HRel c H w) (hb : Below w.heap.size w w') : HRel c H w' := by
  refine ⟨fun i o hi hl => ?_, h.sep, h.fresh⟩
  obtain ⟨p, hp, hr⟩ := h.obj i o hi hl
  refine ⟨p, hp, hr.keep (Ctx.le_refl c) hl ?_⟩
  have : p.block < w.heap.size := by
    unfold ORel at hr
    split at hr
    · cases hl
    · obtain ⟨_, _, _, _, arr, lo, hi', hb, _⟩ := hr
      exact (Array.getElem?_eq_some_iff.1 hb).1
    · obtain ⟨r, hb, _⟩ := hr
      exact (Array.getElem?_eq_some_iff.1 hb).1
    · obtain ⟨ms, hb, _⟩ := hr
      exact (Array.getElem?_eq_some_iff.1 hb).1
  exact hb.block _ this
theorem Trans.below {n : Nat} {c : Ctx} {H : AHeap} {w w' : World} (hb : Below w.heap.size w w') : Trans n c H w c H w' :=
  ⟨fun _ _ _ h => h, hb.tape, hb.os, hb.output, hb.size, fun b h _ => hb.block b h, fun _ h => .inl h⟩
theorem ARet.ofCalls {P : Program} {f : FuncId} {fn : Func} {args : List Value} {v : Value} (hf : P.funcs[f]? = some fn) (hb : fn.body.isSome = true) (hn : (fn.name == "runtime.NumGoroutine") = false) (ha : args.all scalar = true) (hv : scalar v = true)
    (h : ∀ w, Calls P f ⟨args⟩ w fun e w' => e = .returned v ∧ Below w.heap.size w w') (H : AHeap) : ARet P f args H v H := by
  intro c w vargs hh hvs
  have e := hvs.scalars_eq ha
  subst e
  unfold CallTo
  have hbn : fn.body.isNone = false := by cases hfb : fn.body <;> simp_all
  have hr : (callFunc f ⟨args⟩).run P w = .ok (.enter f ⟨args⟩) w := by
    simp only [callFunc, Sem.run_bind, run_program, Result.andThen_ok, hf, hn, Bool.false_eq_true, if_false, hbn]
    rfl
  rw [hr]
  refine (h w).mono fun e w' ⟨he, hbl⟩ => ?_
  subst he
  exact ⟨.ret v, c, H, ⟨rfl, rfl⟩, .ret (.of_scalar hv), hh.below hbl, .below hbl⟩
end Go.Aw
namespace Go.Aw
theorem wf_i64 {n : Int} (h : (Lit.int .i64 n).wf = true) : -9223372036854775808 ≤ n ∧ n ≤ 9223372036854775807 := by
  unfold Lit.wf at h
  rw [Bool.and_eq_true, decide_eq_true_iff, decide_eq_true_iff] at h
  have h2 := h
  have e1 : IntKind.i64.min = -9223372036854775808 := by decide
  have e2 : IntKind.i64.max = 9223372036854775807 := by decide
  rw [e1, e2] at h2
  exact h2
theorem max_len {s : ByteArray} (h : s.size ≤ maxLen) : s.data.toList.length ≤ 9223372036854775807 := by
  have e : maxLen = 9223372036854775807 := by decide
  rw [e] at h
  exact h
end Go.Aw
namespace Go.Aw
/-- Appending to an empty slice that is not nil. -/
theorem appendTo_e {P : Program} {e e' : TypeId} {size y n i fz : Nat} {own : Bool} {news : List Value} {H : AHeap} {K : Value → AHeap → Prop} (hi : H[i]? = some (.cells [] ⟨e', 0, own, fz, none⟩)) (hn : n ≠ 0) (h1 : n * y ≤ 140737488355328) (h2 : n ≤ 4611686018427387904)
    (hk : K (.slice (some ⟨H.length, 0, none⟩) n n) (H ++ [.cells news ⟨e, size, true, 0, none⟩])) : appendTo P e size y (.slice (some ⟨i, 0, none⟩) 0 0) n news H K := by
  unfold appendTo
  dsimp only
  rw [hi]
  dsimp only
  refine ⟨fun h => by omega, fun _ => ⟨⟨by omega, by simpa using h1, by simpa using h2⟩, fun h => absurd rfl h.1, fun _ => ?_⟩⟩
  simpa using hk
theorem appendTo_e0 {P : Program} {e e' : TypeId} {size y i fz : Nat} {own : Bool} {news : List Value} {H : AHeap} {K : Value → AHeap → Prop} (hi : H[i]? = some (.cells [] ⟨e', 0, own, fz, none⟩))
    (hk : K (.slice (some ⟨i, 0, none⟩) 0 0) H) : appendTo P e size y (.slice (some ⟨i, 0, none⟩) 0 0) 0 news H K := by
  unfold appendTo
  dsimp only
  rw [hi]
  dsimp only
  exact ⟨fun _ => ⟨fun _ => hk, fun h => absurd rfl h⟩, fun h => by omega⟩
end Go.Aw
namespace Go.Aw
/-- Appending within the room that a slice has. -/
theorem appendTo_in {P : Program} {e : TypeId} {size y n i len cap off : Nat} {k : CK} {cs news : List Value} {H : AHeap} {K : Value → AHeap → Prop} (hi : H[i]? = some (.cells cs k)) (hn : n ≠ 0) (hc : len + n ≤ cap) (ho : k.own = true) (hf : k.fz ≤ off + len * size) (hl : off + len * size + n * size ≤ cs.length)
    (hk : K (.slice (some ⟨i, off, none⟩) (len + n) cap) (H.set i (.cells (putCells cs (off + len * size) news) k))) : appendTo P e size y (.slice (some ⟨i, off, none⟩) len cap) n news H K := by
  unfold appendTo
  dsimp only
  rw [hi]
  dsimp only
  exact ⟨fun _ => ⟨fun h => absurd h hn, fun _ => ⟨⟨⟨ho, hf⟩, hl⟩, hk⟩⟩, fun h => absurd hc h⟩
end Go.Aw
