/-
  The ring of the last delays.
-/
import Derived.Test.YtoikchnpflnehaaG4
set_option linter.unusedVariables false
set_option linter.unusedSimpArgs false
set_option maxRecDepth 20000
namespace Go.Proofs.Ytoikchnpflnehaa
open Go Go.Aw Go.Proofs
def Ctl.addL (C : Ctl) (x : Int) : Ctl := { C with last := (C.last ++ [x]).drop (C.last.length + 1 - 4) }
theorem add (c : Nat) (C : Ctl) (lv pv : Value) (S1 S2 : List Nat) (x : Int) (h4 : C.last.length ≤ 4) (H : AHeap) (hC : CtlAt H c C lv pv S1 S2) :
    AC Try.prog 44 [.pointer (some ⟨c, 5, none⟩), .int .i64 x] H (fun r H2 => r = .ret noVal ∧ ∃ lv' S1', CtlAt H2 c (C.addL x) lv' pv S1' S2 ∧ Frm (c :: S1) H H2 ∧ ∀ s ∈ S1', H.length ≤ s) := by
  have hc := hC.at_
  have hcl := lt_of_get hc
  simp only [ctlC] at hc
  have hl := (hC.last.frm (T := []) (Frm.app (X := [.cells [.int .i64 x] ⟨3, 0, true, 0, none⟩])) (by simp))
  have hn1 := hC.n1
  refine AC.enter Try.func44 rfl (by kernel_rfl) 33 rfl [] rfl (by simp) fun hsc B => ?_
  repeat first
    | with_reducible refine AWP.seq ?_
    | ((with_reducible refine AWP.region ?_ ?_); exact rfl)
    | with_reducible refine AWP.block ?_
    | with_reducible refine AWP.skip ?_
    | with_reducible refine AWP.exit ?_
    | with_reducible refine AWP.ret ?_
    | with_reducible refine AWP.label ?_
    | with_reducible refine AWP.goto ?_
    | ((with_reducible refine AWP.condT ?_ ?_); focus (simp only [ev, lk_cons, ↓reduceIte, Nat.reduceEqDiff]; done))
    | ((with_reducible refine AWP.condF ?_ ?_); focus (simp only [ev, lk_cons, ↓reduceIte, Nat.reduceEqDiff]; done))
    | simp only [go_sem, ↓reduceIte, Nat.reduceEqDiff, reduceCtorEq, Nat.reduceAdd, Int.reduceEq, Int.reduceBNe, Int.reduceBEq, Int.reduceToNat, Int.reduceLT, Int.reduceLE, Int.reduceGT, Int.reduceGE, Nat.reduceSub, Nat.reduceBEq, Nat.reduceBNe, Int.reduceAdd, Int.reduceSub, Int.reduceMul, Int.reduceNeg, Nat.reduceMul, Nat.reduceLeDiff, Nat.reduceLT, hc, hcl, hgetl]
    | simp (disch := omega) only [wi64, wu8, wu16, wu32, wu64, Int.tdiv_eq_ediv_of_nonneg, Int.tmod_eq_emod_of_nonneg]
    | with_reducible_and_instances exact finR
    | ((with_reducible refine finR' ?_ ?_) <;> rfl)
    | ((with_reducible refine finD hsc (NRel.of_plain ?_)); exact rfl)
  refine hl.append (by decide) (by omega) (by omega) fun H' hlen hH' => ?_
  have hc' : H'[c]? = some (.cells [.int .i64 C.now, .int .i64 C.halved, .bool C.ever, .int .i64 C.target, .int .i64 C.limit, lv, .int .i64 4, pv] ⟨70, 0, true, 0, none⟩) := by
    rw [hH' c hn1, hgetl hcl]; exact hc
  have hcl' := lt_of_get hc'
  have hcl1 : c < H.length + 1 := by omega
  have hlen' : H'.length = H.length + 1 := by rw [hlen]; simp
  repeat first
    | with_reducible refine AWP.seq ?_
    | ((with_reducible refine AWP.region ?_ ?_); exact rfl)
    | with_reducible refine AWP.block ?_
    | with_reducible refine AWP.skip ?_
    | with_reducible refine AWP.exit ?_
    | with_reducible refine AWP.ret ?_
    | with_reducible refine AWP.label ?_
    | with_reducible refine AWP.goto ?_
    | ((with_reducible refine AWP.condT ?_ ?_); focus (simp only [ev, lk_cons, ↓reduceIte, Nat.reduceEqDiff]; done))
    | ((with_reducible refine AWP.condF ?_ ?_); focus (simp only [ev, lk_cons, ↓reduceIte, Nat.reduceEqDiff]; done))
    | simp only [go_sem, ↓reduceIte, Nat.reduceEqDiff, reduceCtorEq, Nat.reduceAdd, Int.reduceEq, Int.reduceBNe, Int.reduceBEq, Int.reduceToNat, Int.reduceLT, Int.reduceLE, Int.reduceGT, Int.reduceGE, Nat.reduceSub, Nat.reduceBEq, Nat.reduceBNe, Int.reduceAdd, Int.reduceSub, Int.reduceMul, Int.reduceNeg, Nat.reduceMul, Nat.reduceLeDiff, Nat.reduceLT, hc', hcl', hcl1, hgetl, hsetl]
    | simp (disch := omega) only [wi64, wu8, wu16, wu32, wu64, Int.tdiv_eq_ediv_of_nonneg, Int.tmod_eq_emod_of_nonneg]
    | with_reducible_and_instances exact finR
    | ((with_reducible refine finR' ?_ ?_) <;> rfl)
    | ((with_reducible refine finD hsc (NRel.of_plain ?_)); exact rfl)
  refine AWP.regionK 19 (by kernel_rfl) (by decide) (by kernel_rfl) ?_
  have hk1 : IntKind.i64.wrap (((C.last.length + 1 : Nat) : Int) - 4) = ((C.last.length + 1 : Nat) : Int) - 4 := IntWalk.i64_in _ (by omega)
  have hk2 : max (0 : Int) (((C.last.length + 1 : Nat) : Int) - 4) = ((C.last.length + 1 - 4 : Nat) : Int) := by omega
  have hk3 : ((C.last.length + 1 - 4 : Nat) : Int) ≤ ((C.last.length + 1 : Nat) : Int) := by omega
  repeat first
    | with_reducible refine AWP.seq ?_
    | ((with_reducible refine AWP.region ?_ ?_); exact rfl)
    | with_reducible refine AWP.block ?_
    | with_reducible refine AWP.skip ?_
    | with_reducible refine AWP.exit ?_
    | with_reducible refine AWP.ret ?_
    | with_reducible refine AWP.label ?_
    | with_reducible refine AWP.goto ?_
    | ((with_reducible refine AWP.condT ?_ ?_); focus (simp only [ev, lk_cons, ↓reduceIte, Nat.reduceEqDiff]; done))
    | ((with_reducible refine AWP.condF ?_ ?_); focus (simp only [ev, lk_cons, ↓reduceIte, Nat.reduceEqDiff]; done))
    | simp only [go_sem, ↓reduceIte, Nat.reduceEqDiff, reduceCtorEq, Nat.reduceAdd, Int.reduceEq, Int.reduceBNe, Int.reduceBEq, Int.reduceToNat, Int.reduceLT, Int.reduceLE, Int.reduceGT, Int.reduceGE, Nat.reduceSub, Nat.reduceBEq, Nat.reduceBNe, Int.reduceAdd, Int.reduceSub, Int.reduceMul, Int.reduceNeg, Nat.reduceMul, Nat.reduceLeDiff, Nat.reduceLT, hc', hcl', hcl1, hgetl, hsetl, minMaxW, hk1, hk2, hk3, hlen']
    | simp (disch := omega) only [wi64, wu8, wu16, wu32, wu64, Int.tdiv_eq_ediv_of_nonneg, Int.tmod_eq_emod_of_nonneg]
    | with_reducible_and_instances exact finR
    | ((with_reducible refine finR' ?_ ?_) <;> rfl)
    | ((with_reducible refine finD hsc (NRel.of_plain ?_)); exact rfl)
  have hf0 : Frm (c :: S1) H H' := ⟨by omega, fun j hj hn => by rw [hH' j (fun h => hn (List.mem_cons_of_mem _ h)), hgetl hj]⟩
  have hln : (C.addL x).last.length = C.last.length + 1 - (C.last.length + 1 - 4) := by simp [Ctl.addL]
  have hf2 := fun o X => (hf0.set (i := c) (o := o) (.inl (List.mem_cons_self ..))).more (X := X)
  refine ⟨Int.le_refl _, _, _, .refl _ _ _, rfl, .slice (some ⟨H.length + 1, C.last.length + 1 - 4, none⟩) (C.last.length + 1 - (C.last.length + 1 - 4)) (C.last.length + 1 - (C.last.length + 1 - 4)), [H.length + 1], ⟨?_, ?_, hC.past.frm (hf2 _ _) ?_, by simp; omega, hC.n2, ?_⟩, hf2 _ _, by simp⟩
  · rw [hgetl (by rw [List.length_set]; exact hcl'), hset_self hcl']; rfl
  · refine .inr ⟨H.length + 1, C.last.length + 1 - 4, intsC C.last ++ [.int .i64 x], by rw [hln], hget0 (by rw [List.length_set, hlen']), ?_, ?_, rfl⟩
    · rw [hln, List.length_append, intsC_length]; simp; omega
    · simp [Ctl.addL, intsC, List.map_drop]
  · intro s hs
    simp only [List.mem_cons, not_or]
    exact ⟨fun e => hC.n2 (e ▸ hs), fun h => hC.n3 s h hs⟩
  · intro s hs h2
    simp at hs
    have := hC.past.lt s h2
    omega
theorem Sample1 (c a b : Nat) (C : Ctl) (lv pv : Value) (S1 S2 : List Nat) (x : Int) (h4 : C.last.length ≤ 4) (H : AHeap) (ha : H[a]? = some (.cells [.pointer (some ⟨c, 0, none⟩)] ⟨41, 0, true, 0, none⟩)) (hb : H[b]? = some (.cells [.int .i64 x] ⟨3, 0, true, 0, none⟩)) (hC : CtlAt H c C lv pv S1 S2) :
    AC Try.prog 43 [.pointer (some ⟨a, 0, none⟩), .pointer (some ⟨b, 0, none⟩)] H (fun r H2 => r = .ret noVal ∧ ∃ lv' S1', CtlAt H2 c (C.addL x) lv' pv S1' S2 ∧ Frm (c :: S1) H H2 ∧ ∀ s ∈ S1', H.length ≤ s) := by
  refine AC.enter Try.func43 rfl (by kernel_rfl) 7 rfl [] rfl (by simp) fun hsc B => ?_
  repeat first
    | with_reducible refine AWP.seq ?_
    | ((with_reducible refine AWP.region ?_ ?_); exact rfl)
    | with_reducible refine AWP.block ?_
    | with_reducible refine AWP.skip ?_
    | with_reducible refine AWP.exit ?_
    | with_reducible refine AWP.ret ?_
    | with_reducible refine AWP.label ?_
    | with_reducible refine AWP.goto ?_
    | ((with_reducible refine AWP.condT ?_ ?_); focus (simp only [ev, lk_cons, ↓reduceIte, Nat.reduceEqDiff]; done))
    | ((with_reducible refine AWP.condF ?_ ?_); focus (simp only [ev, lk_cons, ↓reduceIte, Nat.reduceEqDiff]; done))
    | simp only [go_sem, ↓reduceIte, Nat.reduceEqDiff, reduceCtorEq, Nat.reduceAdd, Int.reduceEq, Int.reduceBNe, Int.reduceBEq, Int.reduceToNat, Int.reduceLT, Int.reduceLE, Int.reduceGT, Int.reduceGE, Nat.reduceSub, Nat.reduceBEq, Nat.reduceBNe, Int.reduceAdd, Int.reduceSub, Int.reduceMul, Int.reduceNeg, Nat.reduceMul, Nat.reduceLeDiff, Nat.reduceLT]
    | simp (disch := omega) only [wi64, wu8, wu16, wu32, wu64, Int.tdiv_eq_ediv_of_nonneg, Int.tmod_eq_emod_of_nonneg]
    | with_reducible_and_instances exact finR
    | ((with_reducible refine finR' ?_ ?_) <;> rfl)
    | ((with_reducible refine finD hsc (NRel.of_plain ?_)); exact rfl)
  refine AWP.regionK 4 (by kernel_rfl) (by decide) (by kernel_rfl) ?_
  repeat first
    | with_reducible refine AWP.seq ?_
    | ((with_reducible refine AWP.region ?_ ?_); exact rfl)
    | with_reducible refine AWP.block ?_
    | with_reducible refine AWP.skip ?_
    | with_reducible refine AWP.exit ?_
    | with_reducible refine AWP.ret ?_
    | with_reducible refine AWP.label ?_
    | with_reducible refine AWP.goto ?_
    | ((with_reducible refine AWP.condT ?_ ?_); focus (simp only [ev, lk_cons, ↓reduceIte, Nat.reduceEqDiff]; done))
    | ((with_reducible refine AWP.condF ?_ ?_); focus (simp only [ev, lk_cons, ↓reduceIte, Nat.reduceEqDiff]; done))
    | simp only [go_sem, ↓reduceIte, Nat.reduceEqDiff, reduceCtorEq, Nat.reduceAdd, Int.reduceEq, Int.reduceBNe, Int.reduceBEq, Int.reduceToNat, Int.reduceLT, Int.reduceLE, Int.reduceGT, Int.reduceGE, Nat.reduceSub, Nat.reduceBEq, Nat.reduceBNe, Int.reduceAdd, Int.reduceSub, Int.reduceMul, Int.reduceNeg, Nat.reduceMul, Nat.reduceLeDiff, Nat.reduceLT, ha, hb]
    | simp (disch := omega) only [wi64, wu8, wu16, wu32, wu64, Int.tdiv_eq_ediv_of_nonneg, Int.tmod_eq_emod_of_nonneg]
    | with_reducible_and_instances exact finR
    | ((with_reducible refine finR' ?_ ?_) <;> rfl)
    | ((with_reducible refine finD hsc (NRel.of_plain ?_)); exact rfl)
  refine (add c C lv pv S1 S2 x h4 H hC).mono ?_
  rintro r H2 ⟨rfl, h⟩
  repeat first
    | with_reducible refine AWP.seq ?_
    | ((with_reducible refine AWP.region ?_ ?_); exact rfl)
    | with_reducible refine AWP.block ?_
    | with_reducible refine AWP.skip ?_
    | with_reducible refine AWP.exit ?_
    | with_reducible refine AWP.ret ?_
    | with_reducible refine AWP.label ?_
    | with_reducible refine AWP.goto ?_
    | ((with_reducible refine AWP.condT ?_ ?_); focus (simp only [ev, lk_cons, ↓reduceIte, Nat.reduceEqDiff]; done))
    | ((with_reducible refine AWP.condF ?_ ?_); focus (simp only [ev, lk_cons, ↓reduceIte, Nat.reduceEqDiff]; done))
    | simp only [go_sem, ↓reduceIte, Nat.reduceEqDiff, reduceCtorEq, Nat.reduceAdd, Int.reduceEq, Int.reduceBNe, Int.reduceBEq, Int.reduceToNat, Int.reduceLT, Int.reduceLE, Int.reduceGT, Int.reduceGE, Nat.reduceSub, Nat.reduceBEq, Nat.reduceBNe, Int.reduceAdd, Int.reduceSub, Int.reduceMul, Int.reduceNeg, Nat.reduceMul, Nat.reduceLeDiff, Nat.reduceLT]
    | simp (disch := omega) only [wi64, wu8, wu16, wu32, wu64, Int.tdiv_eq_ediv_of_nonneg, Int.tmod_eq_emod_of_nonneg]
    | with_reducible_and_instances exact finR
    | ((with_reducible refine finR' ?_ ?_) <;> rfl)
    | ((with_reducible refine finD hsc (NRel.of_plain ?_)); exact rfl)
  exact ⟨_, _, .refl _ _ _, rfl, h⟩
end Go.Proofs.Ytoikchnpflnehaa
