/-
  The walk of nodes: reading nodes, the specification's; lists of nodes that are the same, that are right.
-/
import Derived.Test.YtdbdnknnaekbhaaNG
set_option linter.unusedVariables false
set_option linter.unusedSimpArgs false
set_option maxRecDepth 20000
set_option maxHeartbeats 4000000
namespace Go.Proofs.Ytdbdnknnaekbhaa
open Go Go.Aw Go.Proofs
instance : DecidableEq Ad := fun a b => match a, b with
  | ⟨f, i, p⟩, ⟨f', i', p'⟩ => decidable_of_iff (f = f' ∧ i = i' ∧ p = p') (by simp)
instance : DecidableEq Nd := fun a b => match a, b with
  | ⟨i, x⟩, ⟨i', x'⟩ => decidable_of_iff (i = i' ∧ x = x') (by simp)
theorem ndsN_len (l : List Nd) : (l.map ndC).length = l.length := List.length_map _
/-- A list of nodes at a place. -/
def NdAt (H : AHeap) (v : Value) (l : List Nd) : Prop := ∀ n, (h : n < l.length) → ∃ i o cap cs k, v = .slice (some ⟨i, o, none⟩) l.length cap ∧ H[i]? = some (.cells cs k) ∧ (cs.drop (o + n * 4)).take 4 = ndC l[n] ∧ o + (n * 4 + 4) ≤ cs.length
theorem ndAt_of {H : AHeap} {v : Value} {l : List Nd} (h : RdN H 4 v (l.map ndC)) : NdAt H v l := by
  intro n hn
  rcases h with ⟨rfl, e⟩ | ⟨i, o, cap, cs, k, rfl, hi, hle, hr⟩
  · have := congrArg List.length e
    rw [List.length_map] at this
    rw [this] at hn
    exact absurd hn (Nat.not_lt_zero _)
  · have h2 := hle (by intro e; have := congrArg List.length e; rw [List.length_map] at this; rw [this] at hn; exact absurd hn (Nat.not_lt_zero _))
    rw [List.length_map] at h2 ⊢
    exact ⟨i, o, cap, cs, k, rfl, hi, hr n _ (by rw [List.getElem?_map, List.getElem?_eq_getElem hn]; rfl), by omega⟩
theorem right (l : List Nd) (hl : l.length < 1099511627776) (v : Value) (H : AHeap) (hv : RdN H 4 v (l.map ndC)) : ARet Try.prog 19 [v] H (.bool (l.all Nd.ok)) H := by
  have q1 : ∀ H' K, lenW Try.prog 34 v H' K = K (.int .i64 (l.length : Nat)) H' := fun H' K => by rw [hv.lenT (by simp only [go_sem, ↓reduceIte, Nat.reduceEqDiff, reduceCtorEq, Nat.reduceAdd, Int.reduceEq, Int.reduceBNe, Int.reduceBEq, Int.reduceToNat, Int.reduceLT, Int.reduceLE, Int.reduceGT, Int.reduceGE, Nat.reduceSub, Nat.reduceBEq, Nat.reduceBNe, Int.reduceAdd, Int.reduceSub, Int.reduceMul, Int.reduceNeg, Nat.reduceMul, Nat.reduceLeDiff, Nat.reduceLT]), ndsN_len]
  have hat := ndAt_of hv
  refine AC.enter Try.func19 rfl (by kernel_rfl) 15 rfl [.tmp 2] rfl (by simp) fun hsc B => ?_
  repeat first
    | with_reducible refine AWP.seq ?_
    | ((with_reducible refine AWP.region ?_ ?_); exact rfl)
    | with_reducible refine AWP.block ?_
    | with_reducible refine AWP.skip ?_
    | with_reducible refine AWP.exit ?_
    | with_reducible refine AWP.ret ?_
    | with_reducible refine AWP.label ?_
    | with_reducible refine AWP.goto ?_
    | ((with_reducible refine AWP.condT ?_ ?_); focus (simp only [ev, lk_cons, ↓reduceIte, Nat.reduceEqDiff]; done))
    | ((with_reducible refine AWP.condF ?_ ?_); focus (simp only [ev, lk_cons, ↓reduceIte, Nat.reduceEqDiff]; done))
    | simp only [go_sem, ↓reduceIte, Nat.reduceEqDiff, reduceCtorEq, Nat.reduceAdd, Int.reduceEq, Int.reduceBNe, Int.reduceBEq, Int.reduceToNat, Int.reduceLT, Int.reduceLE, Int.reduceGT, Int.reduceGE, Nat.reduceSub, Nat.reduceBEq, Nat.reduceBNe, Int.reduceAdd, Int.reduceSub, Int.reduceMul, Int.reduceNeg, Nat.reduceMul, Nat.reduceLeDiff, Nat.reduceLT, q1]
    | simp (disch := omega) only [wi64, wu8, wu16, wu32, wu64, Int.tdiv_eq_ediv_of_nonneg, Int.tmod_eq_emod_of_nonneg]
    | with_reducible_and_instances exact finR
    | ((with_reducible refine finR' ?_ ?_) <;> rfl)
    | ((with_reducible refine finD hsc (NRel.of_plain ?_)); exact rfl)
  refine AWP.loopP (fun s : Nat × AHeap => ⟨[(5, v), (6, .int .i64 (l.length : Nat)), (7, .int .i64 (s.1 : Nat))], [], H ++ s.2⟩) (fun s => s.1 ≤ l.length ∧ (l.take s.1).all Nd.ok = true) (fun s => l.length - s.1) (0, []) ?_ ⟨Nat.zero_le _, rfl⟩ ?_
  · simp only [List.append_nil]
    exact Weak.env (by simp [envIn, lk_cons, wth_some])
  rintro ⟨n, X⟩ ⟨hn, hall⟩
  simp only at hn hall ⊢
  by_cases hc : n < l.length
  · have hc' : (n : Int) < (l.length : Int) := by omega
    obtain ⟨i, o, cap, cs, k, rfl, hi, hg, hg2⟩ := hat n hc
    have hil := lt_of_get hi
    have hV := rvalidNode l[n]
    have htk : (l.take (n + 1)).all Nd.ok = l[n].ok := by
      rw [List.take_add_one, List.getElem?_eq_getElem hc, List.all_append, hall]; simp
    have hwn : IntKind.i64.wrap ((n : Int) + 1) = ((n + 1 : Nat) : Int) := by rw [wi64 (by omega)]; omega
    have hmem : l[n] ∈ l := List.getElem_mem _
    generalize l[n] = x at *
    unfold Nd.v at hV
    unfold ndC at hg hV
    cases hk : x.ok with
    | true =>
      rw [hk] at hV htk
      repeat first
        | with_reducible refine AWP.seq ?_
        | ((with_reducible refine AWP.region ?_ ?_); exact rfl)
        | with_reducible refine AWP.block ?_
        | with_reducible refine AWP.skip ?_
        | with_reducible refine AWP.exit ?_
        | with_reducible refine AWP.ret ?_
        | with_reducible refine AWP.label ?_
        | with_reducible refine AWP.goto ?_
        | ((with_reducible refine AWP.condT ?_ ?_); focus (simp only [ev, lk_cons, ↓reduceIte, Nat.reduceEqDiff]; done))
        | ((with_reducible refine AWP.condF ?_ ?_); focus (simp only [ev, lk_cons, ↓reduceIte, Nat.reduceEqDiff]; done))
        | with_reducible refine (hV _).use ?_
        | simp only [go_sem, ↓reduceIte, Nat.reduceEqDiff, reduceCtorEq, Nat.reduceAdd, Int.reduceEq, Int.reduceBNe, Int.reduceBEq, Int.reduceToNat, Int.reduceLT, Int.reduceLE, Int.reduceGT, Int.reduceGE, Nat.reduceSub, Nat.reduceBEq, Nat.reduceBNe, Int.reduceAdd, Int.reduceSub, Int.reduceMul, Int.reduceNeg, Nat.reduceMul, Nat.reduceLeDiff, Nat.reduceLT, hc', hi, hil, hgetl, hg, hg2, hwn]
        | simp (disch := omega) only [wi64, wu8, wu16, wu32, wu64, Int.tdiv_eq_ediv_of_nonneg, Int.tmod_eq_emod_of_nonneg]
        | with_reducible_and_instances exact finR
        | ((with_reducible refine finR' ?_ ?_) <;> rfl)
        | ((with_reducible refine finD hsc (NRel.of_plain ?_)); exact rfl)
      exact ⟨(n + 1, X ++ [.cells (ndC x) ⟨46, 0, true, 0, none⟩]), Weak.env (by simp [envIn, lk_cons, wth_some, ndC]), by show n + 1 ≤ _; omega, htk, by show l.length - (n + 1) < _; omega⟩
    | false =>
      rw [hk] at hV
      have hf : l.all Nd.ok = false := by
        rw [Bool.eq_false_iff]
        intro h
        have := List.all_eq_true.1 h x hmem
        rw [hk] at this
        cases this
      rw [hf]
      repeat first
        | with_reducible refine AWP.seq ?_
        | ((with_reducible refine AWP.region ?_ ?_); exact rfl)
        | with_reducible refine AWP.block ?_
        | with_reducible refine AWP.skip ?_
        | with_reducible refine AWP.exit ?_
        | with_reducible refine AWP.ret ?_
        | with_reducible refine AWP.label ?_
        | with_reducible refine AWP.goto ?_
        | ((with_reducible refine AWP.condT ?_ ?_); focus (simp only [ev, lk_cons, ↓reduceIte, Nat.reduceEqDiff]; done))
        | ((with_reducible refine AWP.condF ?_ ?_); focus (simp only [ev, lk_cons, ↓reduceIte, Nat.reduceEqDiff]; done))
        | with_reducible refine (hV _).use ?_
        | simp only [go_sem, ↓reduceIte, Nat.reduceEqDiff, reduceCtorEq, Nat.reduceAdd, Int.reduceEq, Int.reduceBNe, Int.reduceBEq, Int.reduceToNat, Int.reduceLT, Int.reduceLE, Int.reduceGT, Int.reduceGE, Nat.reduceSub, Nat.reduceBEq, Nat.reduceBNe, Int.reduceAdd, Int.reduceSub, Int.reduceMul, Int.reduceNeg, Nat.reduceMul, Nat.reduceLeDiff, Nat.reduceLT, hc', hi, hil, hgetl, hg, hg2, hwn]
        | simp (disch := omega) only [wi64, wu8, wu16, wu32, wu64, Int.tdiv_eq_ediv_of_nonneg, Int.tmod_eq_emod_of_nonneg]
        | with_reducible_and_instances exact finR
        | ((with_reducible refine finR' ?_ ?_) <;> rfl)
        | ((with_reducible refine finD hsc (NRel.of_plain ?_)); exact rfl)
  · have : n = l.length := by omega
    subst this
    have hc' : ¬ (l.length : Int) < (l.length : Int) := by omega
    rw [List.take_length] at hall
    rw [hall]
    repeat first
      | with_reducible refine AWP.seq ?_
      | ((with_reducible refine AWP.region ?_ ?_); exact rfl)
      | with_reducible refine AWP.block ?_
      | with_reducible refine AWP.skip ?_
      | with_reducible refine AWP.exit ?_
      | with_reducible refine AWP.ret ?_
      | with_reducible refine AWP.label ?_
      | with_reducible refine AWP.goto ?_
      | ((with_reducible refine AWP.condT ?_ ?_); focus (simp only [ev, lk_cons, ↓reduceIte, Nat.reduceEqDiff]; done))
      | ((with_reducible refine AWP.condF ?_ ?_); focus (simp only [ev, lk_cons, ↓reduceIte, Nat.reduceEqDiff]; done))
      | simp only [go_sem, ↓reduceIte, Nat.reduceEqDiff, reduceCtorEq, Nat.reduceAdd, Int.reduceEq, Int.reduceBNe, Int.reduceBEq, Int.reduceToNat, Int.reduceLT, Int.reduceLE, Int.reduceGT, Int.reduceGE, Nat.reduceSub, Nat.reduceBEq, Nat.reduceBNe, Int.reduceAdd, Int.reduceSub, Int.reduceMul, Int.reduceNeg, Nat.reduceMul, Nat.reduceLeDiff, Nat.reduceLT, hc']
      | simp (disch := omega) only [wi64, wu8, wu16, wu32, wu64, Int.tdiv_eq_ediv_of_nonneg, Int.tmod_eq_emod_of_nonneg]
      | with_reducible_and_instances exact finR
      | ((with_reducible refine finR' ?_ ?_) <;> rfl)
      | ((with_reducible refine finD hsc (NRel.of_plain ?_)); exact rfl)
end Go.Proofs.Ytdbdnknnaekbhaa

