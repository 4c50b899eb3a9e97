/-
  The walk of nodes: whether one of a list is odd.
-/
import Derived.Test.YtdbdnknnaekbhaaNI
set_option linter.unusedVariables false
set_option linter.unusedSimpArgs false
set_option maxRecDepth 20000
set_option maxHeartbeats 4000000
namespace Go.Proofs.Ytdbdnknnaekbhaa
open Go Go.Aw Go.Proofs
theorem odd1 (x : Nd) (H : AHeap) : ARet Try.prog 53 [x.v] H (.bool (!x.ok)) H := by
  have hV := validNode x
  unfold Nd.v ndC at *
  refine AC.enter Try.func53 rfl (by kernel_rfl) 6 rfl [.tmp 2] rfl (by simp) fun hsc B => ?_
  repeat first
    | with_reducible refine AWP.seq ?_
    | ((with_reducible refine AWP.region ?_ ?_); exact rfl)
    | with_reducible refine AWP.block ?_
    | with_reducible refine AWP.skip ?_
    | with_reducible refine AWP.exit ?_
    | with_reducible refine AWP.ret ?_
    | with_reducible refine AWP.label ?_
    | with_reducible refine AWP.goto ?_
    | ((with_reducible refine AWP.condT ?_ ?_); focus (simp only [ev, lk_cons, ↓reduceIte, Nat.reduceEqDiff]; done))
    | ((with_reducible refine AWP.condF ?_ ?_); focus (simp only [ev, lk_cons, ↓reduceIte, Nat.reduceEqDiff]; done))
    | with_reducible refine (hV _).use ?_
    | simp only [go_sem, ↓reduceIte, Nat.reduceEqDiff, reduceCtorEq, Nat.reduceAdd, Int.reduceEq, Int.reduceBNe, Int.reduceBEq, Int.reduceToNat, Int.reduceLT, Int.reduceLE, Int.reduceGT, Int.reduceGE, Nat.reduceSub, Nat.reduceBEq, Nat.reduceBNe, Int.reduceAdd, Int.reduceSub, Int.reduceMul, Int.reduceNeg, Nat.reduceMul, Nat.reduceLeDiff, Nat.reduceLT]
    | simp (disch := omega) only [wi64, wu8, wu16, wu32, wu64, Int.tdiv_eq_ediv_of_nonneg, Int.tmod_eq_emod_of_nonneg]
    | with_reducible_and_instances exact finR
    | ((with_reducible refine finR' ?_ ?_) <;> rfl)
    | ((with_reducible refine finD hsc (NRel.of_plain ?_)); exact rfl)
def firstBad (l : List Nd) : Int := match l.findIdx? fun x => !x.ok with
  | some i => i
  | none => -1
theorem firstBad_ge (l : List Nd) : decide (firstBad l ≥ 0) = !(l.all Nd.ok) := by
  have h : (l.findIdx? fun x => !x.ok).isSome = !(l.all Nd.ok) := by
    rw [List.findIdx?_isSome, List.any_eq_not_all_not]
    simp
  unfold firstBad
  rw [← h]
  cases l.findIdx? fun x => !x.ok <;> simp
theorem IndexFunc (l : List Nd) (hl : l.length < 1099511627776) (v : Value) (H : AHeap) (hv : RdN H 4 v (l.map ndC)) : ARet Try.prog 69 [v, .func (.func 53) ⟨[]⟩ ⟨[]⟩] H (.int .i64 (firstBad l)) H := by
  have q1 : ∀ H' K, lenW Try.prog 34 v H' K = K (.int .i64 (l.length : Nat)) H' := fun H' K => by rw [hv.lenT (by simp only [go_sem, ↓reduceIte, Nat.reduceEqDiff, reduceCtorEq, Nat.reduceAdd, Int.reduceEq, Int.reduceBNe, Int.reduceBEq, Int.reduceToNat, Int.reduceLT, Int.reduceLE, Int.reduceGT, Int.reduceGE, Nat.reduceSub, Nat.reduceBEq, Nat.reduceBNe, Int.reduceAdd, Int.reduceSub, Int.reduceMul, Int.reduceNeg, Nat.reduceMul, Nat.reduceLeDiff, Nat.reduceLT]), ndsN_len]
  have hat := ndAt_of hv
  have hO := odd1
  refine AC.enter Try.func69 rfl (by kernel_rfl) 19 rfl [.tmp 4] rfl (by simp) fun hsc B => ?_
  repeat first
    | with_reducible refine AWP.seq ?_
    | ((with_reducible refine AWP.region ?_ ?_); exact rfl)
    | with_reducible refine AWP.block ?_
    | with_reducible refine AWP.skip ?_
    | with_reducible refine AWP.exit ?_
    | with_reducible refine AWP.ret ?_
    | with_reducible refine AWP.label ?_
    | with_reducible refine AWP.goto ?_
    | ((with_reducible refine AWP.condT ?_ ?_); focus (simp only [ev, lk_cons, ↓reduceIte, Nat.reduceEqDiff]; done))
    | ((with_reducible refine AWP.condF ?_ ?_); focus (simp only [ev, lk_cons, ↓reduceIte, Nat.reduceEqDiff]; done))
    | simp only [go_sem, ↓reduceIte, Nat.reduceEqDiff, reduceCtorEq, Nat.reduceAdd, Int.reduceEq, Int.reduceBNe, Int.reduceBEq, Int.reduceToNat, Int.reduceLT, Int.reduceLE, Int.reduceGT, Int.reduceGE, Nat.reduceSub, Nat.reduceBEq, Nat.reduceBNe, Int.reduceAdd, Int.reduceSub, Int.reduceMul, Int.reduceNeg, Nat.reduceMul, Nat.reduceLeDiff, Nat.reduceLT, q1]
    | simp (disch := omega) only [wi64, wu8, wu16, wu32, wu64, Int.tdiv_eq_ediv_of_nonneg, Int.tmod_eq_emod_of_nonneg]
    | with_reducible_and_instances exact finR
    | ((with_reducible refine finR' ?_ ?_) <;> rfl)
    | ((with_reducible refine finD hsc (NRel.of_plain ?_)); exact rfl)
  refine AWP.loopP (fun n : Nat => ⟨[(0, v), (1, .func (.func 53) ⟨[]⟩ ⟨[]⟩), (7, .int .i64 (l.length : Nat)), (8, .int .i64 (n : Nat))], [], H⟩) (fun n => n ≤ l.length ∧ ∀ j, (h : j < l.length) → j < n → l[j].ok = true) (fun n => l.length - n) 0 ?_ ⟨Nat.zero_le _, fun j h h' => absurd h' (Nat.not_lt_zero _)⟩ ?_
  · exact Weak.env (by simp [envIn, lk_cons, wth_some])
  rintro n ⟨hn, hall⟩
  simp only at hn hall ⊢
  by_cases hc : n < l.length
  · have hc' : (n : Int) < (l.length : Int) := by omega
    obtain ⟨i, o, cap, cs, k, rfl, hi, hg, hg2⟩ := hat n hc
    have hil := lt_of_get hi
    have hwn : IntKind.i64.wrap ((n : Int) + 1) = ((n + 1 : Nat) : Int) := by rw [wi64 (by omega)]; omega
    have hO1 := hO l[n]
    unfold Nd.v ndC at hO1
    unfold ndC at hg
    cases hk : l[n].ok with
    | true =>
      rw [hk] at hO1
      have hxe : l[n] = l[n] := rfl
      repeat first
        | with_reducible refine AWP.seq ?_
        | ((with_reducible refine AWP.region ?_ ?_); exact rfl)
        | with_reducible refine AWP.block ?_
        | with_reducible refine AWP.skip ?_
        | with_reducible refine AWP.exit ?_
        | with_reducible refine AWP.ret ?_
        | with_reducible refine AWP.label ?_
        | with_reducible refine AWP.goto ?_
        | ((with_reducible refine AWP.condT ?_ ?_); focus (simp only [ev, lk_cons, ↓reduceIte, Nat.reduceEqDiff]; done))
        | ((with_reducible refine AWP.condF ?_ ?_); focus (simp only [ev, lk_cons, ↓reduceIte, Nat.reduceEqDiff]; done))
        | with_reducible refine (hO1 _).use ?_
        | simp only [go_sem, ↓reduceIte, Nat.reduceEqDiff, reduceCtorEq, Nat.reduceAdd, Int.reduceEq, Int.reduceBNe, Int.reduceBEq, Int.reduceToNat, Int.reduceLT, Int.reduceLE, Int.reduceGT, Int.reduceGE, Nat.reduceSub, Nat.reduceBEq, Nat.reduceBNe, Int.reduceAdd, Int.reduceSub, Int.reduceMul, Int.reduceNeg, Nat.reduceMul, Nat.reduceLeDiff, Nat.reduceLT, hc', hi, hil, hg, hg2, hwn]
        | simp (disch := omega) only [wi64, wu8, wu16, wu32, wu64, Int.tdiv_eq_ediv_of_nonneg, Int.tmod_eq_emod_of_nonneg]
        | with_reducible_and_instances exact finR
        | ((with_reducible refine finR' ?_ ?_) <;> rfl)
        | ((with_reducible refine finD hsc (NRel.of_plain ?_)); exact rfl)
      refine ⟨n + 1, Weak.env (by simp [envIn, lk_cons, wth_some]), by omega, fun j h h' => ?_, by omega⟩
      rcases Nat.lt_or_ge j n with h2 | h2
      · exact hall j h h2
      · obtain rfl : j = n := by omega
        exact hk
    | false =>
      rw [hk] at hO1
      have hf : firstBad l = n := by
        unfold firstBad
        have : l.findIdx? (fun x => !x.ok) = some n := by
          rw [List.findIdx?_eq_some_iff_getElem]
          exact ⟨hc, by rw [hk]; rfl, fun j hj => by rw [hall j (by omega) hj]; simp⟩
        rw [this]
      rw [hf]
      generalize l[n] = x at *
      repeat first
        | with_reducible refine AWP.seq ?_
        | ((with_reducible refine AWP.region ?_ ?_); exact rfl)
        | with_reducible refine AWP.block ?_
        | with_reducible refine AWP.skip ?_
        | with_reducible refine AWP.exit ?_
        | with_reducible refine AWP.ret ?_
        | with_reducible refine AWP.label ?_
        | with_reducible refine AWP.goto ?_
        | ((with_reducible refine AWP.condT ?_ ?_); focus (simp only [ev, lk_cons, ↓reduceIte, Nat.reduceEqDiff]; done))
        | ((with_reducible refine AWP.condF ?_ ?_); focus (simp only [ev, lk_cons, ↓reduceIte, Nat.reduceEqDiff]; done))
        | with_reducible refine (hO1 _).use ?_
        | simp only [go_sem, ↓reduceIte, Nat.reduceEqDiff, reduceCtorEq, Nat.reduceAdd, Int.reduceEq, Int.reduceBNe, Int.reduceBEq, Int.reduceToNat, Int.reduceLT, Int.reduceLE, Int.reduceGT, Int.reduceGE, Nat.reduceSub, Nat.reduceBEq, Nat.reduceBNe, Int.reduceAdd, Int.reduceSub, Int.reduceMul, Int.reduceNeg, Nat.reduceMul, Nat.reduceLeDiff, Nat.reduceLT, hc', hi, hil, hg, hg2, hwn]
        | simp (disch := omega) only [wi64, wu8, wu16, wu32, wu64, Int.tdiv_eq_ediv_of_nonneg, Int.tmod_eq_emod_of_nonneg]
        | with_reducible_and_instances exact finR
        | ((with_reducible refine finR' ?_ ?_) <;> rfl)
        | ((with_reducible refine finD hsc (NRel.of_plain ?_)); exact rfl)
  · have : n = l.length := by omega
    subst this
    have hc' : ¬ (l.length : Int) < (l.length : Int) := by omega
    have hf : firstBad l = -1 := by
      unfold firstBad
      have : l.findIdx? (fun x => !x.ok) = none := by
        rw [List.findIdx?_eq_none_iff]
        intro x hx
        obtain ⟨j, hj, rfl⟩ := List.getElem_of_mem hx
        rw [hall j hj hj]; rfl
      rw [this]
    rw [hf]
    repeat first
      | with_reducible refine AWP.seq ?_
      | ((with_reducible refine AWP.region ?_ ?_); exact rfl)
      | with_reducible refine AWP.block ?_
      | with_reducible refine AWP.skip ?_
      | with_reducible refine AWP.exit ?_
      | with_reducible refine AWP.ret ?_
      | with_reducible refine AWP.label ?_
      | with_reducible refine AWP.goto ?_
      | ((with_reducible refine AWP.condT ?_ ?_); focus (simp only [ev, lk_cons, ↓reduceIte, Nat.reduceEqDiff]; done))
      | ((with_reducible refine AWP.condF ?_ ?_); focus (simp only [ev, lk_cons, ↓reduceIte, Nat.reduceEqDiff]; done))
      | simp only [go_sem, ↓reduceIte, Nat.reduceEqDiff, reduceCtorEq, Nat.reduceAdd, Int.reduceEq, Int.reduceBNe, Int.reduceBEq, Int.reduceToNat, Int.reduceLT, Int.reduceLE, Int.reduceGT, Int.reduceGE, Nat.reduceSub, Nat.reduceBEq, Nat.reduceBNe, Int.reduceAdd, Int.reduceSub, Int.reduceMul, Int.reduceNeg, Nat.reduceMul, Nat.reduceLeDiff, Nat.reduceLT, hc']
      | simp (disch := omega) only [wi64, wu8, wu16, wu32, wu64, Int.tdiv_eq_ediv_of_nonneg, Int.tmod_eq_emod_of_nonneg]
      | with_reducible_and_instances exact finR
      | ((with_reducible refine finR' ?_ ?_) <;> rfl)
      | ((with_reducible refine finD hsc (NRel.of_plain ?_)); exact rfl)
theorem ContainsFunc (l : List Nd) (hl : l.length < 1099511627776) (v : Value) (H : AHeap) (hv : RdN H 4 v (l.map ndC)) : ARet Try.prog 52 [v, .func (.func 53) ⟨[]⟩ ⟨[]⟩] H (.bool (!(l.all Nd.ok))) H := by
  have hI := IndexFunc l hl v H hv
  have hg := firstBad_ge l
  refine AC.enter Try.func52 rfl (by kernel_rfl) 9 rfl [.tmp 4] rfl (by simp) fun hsc B => ?_
  repeat first
    | with_reducible refine AWP.seq ?_
    | ((with_reducible refine AWP.region ?_ ?_); exact rfl)
    | with_reducible refine AWP.block ?_
    | with_reducible refine AWP.skip ?_
    | with_reducible refine AWP.exit ?_
    | with_reducible refine AWP.ret ?_
    | with_reducible refine AWP.label ?_
    | with_reducible refine AWP.goto ?_
    | ((with_reducible refine AWP.condT ?_ ?_); focus (simp only [ev, lk_cons, ↓reduceIte, Nat.reduceEqDiff]; done))
    | ((with_reducible refine AWP.condF ?_ ?_); focus (simp only [ev, lk_cons, ↓reduceIte, Nat.reduceEqDiff]; done))
    | with_reducible refine hI.use ?_
    | simp only [go_sem, ↓reduceIte, Nat.reduceEqDiff, reduceCtorEq, Nat.reduceAdd, Int.reduceEq, Int.reduceBNe, Int.reduceBEq, Int.reduceToNat, Int.reduceLT, Int.reduceLE, Int.reduceGT, Int.reduceGE, Nat.reduceSub, Nat.reduceBEq, Nat.reduceBNe, Int.reduceAdd, Int.reduceSub, Int.reduceMul, Int.reduceNeg, Nat.reduceMul, Nat.reduceLeDiff, Nat.reduceLT]
    | simp (disch := omega) only [wi64, wu8, wu16, wu32, wu64, Int.tdiv_eq_ediv_of_nonneg, Int.tmod_eq_emod_of_nonneg]
    | with_reducible_and_instances exact finR
    | ((with_reducible refine finR' ?_ ?_) <;> rfl)
    | ((with_reducible refine finD hsc (NRel.of_plain ?_)); exact rfl)
  exact ⟨_, _, .refl _ _ _, by rw [hg], rfl⟩
theorem odd (l : List Nd) (hl : l.length < 1099511627776) (v : Value) (H : AHeap) (hv : RdN H 4 v (l.map ndC)) : ARet Try.prog 37 [v] H (.bool (!(l.all Nd.ok))) H := by
  have hI := ContainsFunc l hl v H hv
  refine AC.enter Try.func37 rfl (by kernel_rfl) 5 rfl [.tmp 2] rfl (by simp) fun hsc B => ?_
  repeat first
    | with_reducible refine AWP.seq ?_
    | ((with_reducible refine AWP.region ?_ ?_); exact rfl)
    | with_reducible refine AWP.block ?_
    | with_reducible refine AWP.skip ?_
    | with_reducible refine AWP.exit ?_
    | with_reducible refine AWP.ret ?_
    | with_reducible refine AWP.label ?_
    | with_reducible refine AWP.goto ?_
    | ((with_reducible refine AWP.condT ?_ ?_); focus (simp only [ev, lk_cons, ↓reduceIte, Nat.reduceEqDiff]; done))
    | ((with_reducible refine AWP.condF ?_ ?_); focus (simp only [ev, lk_cons, ↓reduceIte, Nat.reduceEqDiff]; done))
    | with_reducible refine hI.use ?_
    | simp only [go_sem, ↓reduceIte, Nat.reduceEqDiff, reduceCtorEq, Nat.reduceAdd, Int.reduceEq, Int.reduceBNe, Int.reduceBEq, Int.reduceToNat, Int.reduceLT, Int.reduceLE, Int.reduceGT, Int.reduceGE, Nat.reduceSub, Nat.reduceBEq, Nat.reduceBNe, Int.reduceAdd, Int.reduceSub, Int.reduceMul, Int.reduceNeg, Nat.reduceMul, Nat.reduceLeDiff, Nat.reduceLT]
    | simp (disch := omega) only [wi64, wu8, wu16, wu32, wu64, Int.tdiv_eq_ediv_of_nonneg, Int.tmod_eq_emod_of_nonneg]
    | with_reducible_and_instances exact finR
    | ((with_reducible refine finR' ?_ ?_) <;> rfl)
    | ((with_reducible refine finD hsc (NRel.of_plain ?_)); exact rfl)
end Go.Proofs.Ytdbdnknnaekbhaa

