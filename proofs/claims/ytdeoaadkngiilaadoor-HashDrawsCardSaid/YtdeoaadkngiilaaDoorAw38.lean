/-
  Package-level tables: lent under their own names; the library's calls that read them.
-/
import Derived.Test.YtdeoaadkngiilaaDoorAw37
import Derived.Lib.LaidTab
set_option linter.unusedVariables false
set_option linter.unusedSimpArgs false
namespace Go.Aw
open Go.RowKit Go.ChangeShapes Go.WideShapes Go.ChangeAt
/-- A table of numbers that a package-level variable holds. -/
def tabO (e : TypeId) (g : Nat) (k : IntKind) (zs : List Int) : AObj := .cells (zs.map (Value.int k)) ⟨e, 0, false, 0, some g⟩
theorem tab_scalar (k : IntKind) : ∀ zs : List Int, (zs.map (Value.int k)).all scalar = true
  | [] => rfl
  | z :: zs => by rw [List.map_cons, List.all_cons, tab_scalar k zs]; rfl
theorem tabIs_of_rel {P : Program} {c : Ctx} {H : AHeap} {w : World} (h : HRel c H w) {name : String} {g : Nat} {e : TypeId} {k : IntKind} {zs : List Int} (hn : P.globalNamed name = some g) (hg : H[g]? = some (tabO e g k zs)) : Lib.TabIs P w name k zs := by
  obtain ⟨p, hp, hr⟩ := h.obj g _ hg rfl
  obtain ⟨h1, h2, hx, hgl, arr, lo, hi, hb, hc, h3, _⟩ := hr
  obtain ⟨q1, q2, q3⟩ := hgl g rfl
  have hsz := q3 arr _ hb
  unfold Lib.TabIs World.var?
  rw [hn]
  show (match w.heap[g]? with | some (.cells cs _ _) => some cs | _ => none) = _
  rw [← q1, hb]
  have : arr = (zs.map (Value.int k)).toArray := by
    apply Array.ext'
    refine List.ext_getElem? fun i => ?_
    by_cases hi : i < (zs.map (Value.int k)).length
    · obtain ⟨v', e1, e2⟩ := hc i _ (List.getElem?_eq_getElem hi)
      rw [q2, Nat.zero_add] at e1
      have hs : scalar ((zs.map (Value.int k))[i]) = true := List.all_eq_true.1 (tab_scalar k zs) _ (List.getElem_mem _)
      have := e2.scalar_eq hs
      subst this
      rw [Array.getElem?_toList, e1, List.toList_toArray, List.getElem?_eq_getElem hi]
    · have h0 : arr.toList.length = (zs.map (Value.int k)).length := by simpa using hsz
      rw [List.getElem?_eq_none (by omega), List.getElem?_eq_none (by simpa using hi)]
  exact congrArg some this
theorem ARet.ofCallsT {P : Program} {f : FuncId} {fn : Func} {args : List Value} {v : Value} (hf : P.funcs[f]? = some fn) (hb : fn.body.isSome = true) (hn : (fn.name == "runtime.NumGoroutine") = false) (ha : args.all scalar = true) (hv : scalar v = true)
    (H : AHeap) (R : World → Prop) (hR : ∀ c w, HRel c H w → R w) (h : ∀ w, R w → Calls P f ⟨args⟩ w fun e w' => e = .returned v ∧ Below w.heap.size w w') : ARet P f args H v H := by
  intro c w vargs hh hvs
  have e := hvs.scalars_eq ha
  subst e
  unfold CallTo
  have hbn : fn.body.isNone = false := by cases hfb : fn.body <;> simp_all
  have hr : (callFunc f ⟨args⟩).run P w = .ok (.enter f ⟨args⟩) w := by
    simp only [callFunc, Sem.run_bind, run_program, Result.andThen_ok, hf, hn, Bool.false_eq_true, if_false, hbn]
    rfl
  rw [hr]
  refine (h w (hR c w hh)).mono fun e w' ⟨he, hbl⟩ => ?_
  subst he
  exact ⟨.ret v, c, H, ⟨rfl, rfl⟩, .ret (.of_scalar hv), hh.below hbl, .below hbl⟩
theorem Lent.pad {c : Ctx} {H : AHeap} {w : World} (h : Lent c H w) (n : Nat) : Lent c (H ++ List.replicate n .dead) w := by
  have hd : ∀ (i : Nat) (o : AObj), (H ++ List.replicate n AObj.dead)[i]? = some o → o = .dead ∨ H[i]? = some o := fun i o e => by
    by_cases hi : i < H.length
    · right; rwa [hgetl hi] at e
    · left
      rw [List.getElem?_append_right (by omega)] at e
      exact List.eq_of_mem_replicate (List.mem_of_getElem? e)
  refine ⟨⟨fun i o e hl => ?_, fun i j oi oj pi pj hij hi hj ci cj ho hl => ?_, fun i hi => h.rel.fresh i (by simp at hi; omega)⟩, fun i o e => ?_⟩
  · rcases hd i o e with rfl | e
    · cases hl
    · exact h.rel.obj i o e hl
  · rcases hd i oi hi with rfl | e1
    · cases ho
    · rw [h.own i oi e1] at ho; cases ho
  · rcases hd i o e with rfl | e
    · rfl
    · exact h.own i o e
/-- A package-level table is lent under its own number. -/
theorem Lent.tab {P : Program} {c : Ctx} {H : AHeap} {w : World} (h : Lent c H w) {name : String} {g : Nat} {k : IntKind} {zs : List Int} (hn : P.globalNamed name = some g) (hl : H.length ≤ g) (ht : Lib.TabIs P w name k zs) :
    ∃ (c' : Ctx) (e : TypeId), Lent c' (H ++ (List.replicate (g - H.length) .dead ++ [tabO e g k zs])) w ∧ c.le c' := by
  unfold Lib.TabIs World.var? at ht
  rw [hn] at ht
  have ht' : (match w.heap[g]? with | some (.cells cs _ _) => some cs | _ => none) = some (zs.map fun z => Value.int k z).toArray := ht
  obtain ⟨e, fr, hb⟩ : ∃ e fr, w.heap[g]? = some (.cells (zs.map (Value.int k)).toArray e fr) := by
    split at ht'
    · rename_i cs e fr hb
      have e1 := Option.some.inj ht'
      subst e1
      exact ⟨e, fr, hb⟩
    · cases ht'
  have hp := h.pad (g - H.length)
  have hlen : (H ++ List.replicate (g - H.length) AObj.dead).length = g := by simp; omega
  simp only [← List.append_assoc]
  generalize H ++ List.replicate (g - H.length) AObj.dead = H1 at hp hlen ⊢
  have hle : c.le (c.add H1.length ⟨g, 0, zs.length, 0, 0⟩) := Ctx.le_add _ (hp.rel.fresh _ (Nat.le_refl _))
  have hlast : ∀ (i : Nat) (o : AObj), (H1 ++ [tabO e g k zs])[i]? = some o → ¬ i < H1.length → i = H1.length ∧ o = tabO e g k zs := fun i o hi h1 => by
    have hlt := lt_of_get hi
    simp at hlt
    have : i = H1.length := by omega
    subst this
    rw [hget0 rfl] at hi
    simp at hi
    exact ⟨rfl, hi.symm⟩
  refine ⟨c.add H1.length ⟨g, 0, zs.length, 0, 0⟩, e, ⟨⟨fun i o hi hlv => ?_, fun i j oi oj pi pj hij hi hj _ _ ho _ => ?_, fun i hi => ?_⟩, fun i o hi => ?_⟩, hle⟩
  · by_cases h1 : i < H1.length
    · rw [hgetl h1] at hi
      obtain ⟨p, hp', hr⟩ := hp.rel.obj i o hi hlv
      exact ⟨p, hle _ _ hp', hr.keep hle hlv rfl⟩
    · obtain ⟨rfl, rfl⟩ := hlast i o hi h1
      refine ⟨⟨g, 0, zs.length, 0, 0⟩, by simp [Ctx.add], by simp, rfl, fun _ => rfl, fun n hn' => ⟨Option.some.inj hn', rfl, fun a r hh => ?_⟩, (zs.map (Value.int k)).toArray, fr.1, fr.2, hb, ?_, by simp, fun hk => by cases hk⟩
      · rw [hb] at hh
        cases hh
        rfl
      · intro j v hj
        exact ⟨v, by rw [Nat.zero_add]; simpa using hj, .of_scalar (List.all_eq_true.1 (tab_scalar k zs) _ (List.mem_of_getElem? hj))⟩
  · by_cases h1 : i < H1.length
    · rw [hgetl h1] at hi
      rw [hp.own i oi hi] at ho; cases ho
    · obtain ⟨rfl, rfl⟩ := hlast i oi hi h1
      cases ho
  · simp at hi
    rw [Ctx.add_other _ _ (by omega)]; exact hp.rel.fresh i (by omega)
  · by_cases h1 : i < H1.length
    · rw [hgetl h1] at hi; exact hp.own i o hi
    · obtain ⟨rfl, rfl⟩ := hlast i o hi h1
      rfl
end Go.Aw
