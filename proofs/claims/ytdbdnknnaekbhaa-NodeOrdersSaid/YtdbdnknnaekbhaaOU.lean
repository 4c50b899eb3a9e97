/-
  The statement NodeOrders: what its call does.
-/
import Derived.Test.YtdbdnknnaekbhaaOT
set_option linter.unusedVariables false
set_option linter.unusedSimpArgs false
set_option maxRecDepth 20000
set_option maxHeartbeats 8000000
namespace Go.Proofs.Ytdbdnknnaekbhaa
open Go Go.Aw Go.Proofs
theorem cmpN_bound (t : List UInt8) (x y : Nd) : -1 ≤ cmpN t x y ∧ cmpN t x y ≤ 1 := by
  have hS : ∀ a b : List UInt8, -1 ≤ cmpS a b ∧ cmpS a b ≤ 1 := fun a b => by
    have hs : cmpS a b = if Op.bytesLess a b then -1 else if a = b then 0 else 1 := cmpS_less
    rw [hs]
    (repeat' split) <;> omega
  have hI : ∀ a b : Int, -1 ≤ cmpI a b ∧ cmpI a b ≤ 1 := fun a b => by unfold cmpI; (repeat' split) <;> omega
  have h1 := hS (dist t x.id) (dist t y.id)
  have h2 := hI x.a.fam y.a.fam
  have h3 := hS x.a.ip y.a.ip
  have h4 := hI x.a.port y.a.port
  unfold cmpN ordA
  simp only [orL]
  (repeat' split) <;> omega
theorem Same (x y : Nd) (H : AHeap) : ARet Try.prog 27 [x.v, y.v] H (.bool (decide (x = y))) H := by
  have he := eqNd x y
  unfold Nd.v ndC
  refine AC.enter Try.func27 rfl (by kernel_rfl) 8 rfl [.tmp 4] rfl (by simp) fun hsc B => ?_
  repeat first
    | with_reducible refine AWP.seq ?_
    | ((with_reducible refine AWP.region ?_ ?_); exact rfl)
    | with_reducible refine AWP.block ?_
    | with_reducible refine AWP.skip ?_
    | with_reducible refine AWP.exit ?_
    | with_reducible refine AWP.ret ?_
    | with_reducible refine AWP.label ?_
    | with_reducible refine AWP.goto ?_
    | ((with_reducible refine AWP.condT ?_ ?_); focus (simp only [ev, lk_cons, ↓reduceIte, Nat.reduceEqDiff]; done))
    | ((with_reducible refine AWP.condF ?_ ?_); focus (simp only [ev, lk_cons, ↓reduceIte, Nat.reduceEqDiff]; done))
    | simp only [go_sem, ↓reduceIte, Nat.reduceEqDiff, reduceCtorEq, Nat.reduceAdd, Int.reduceEq, Int.reduceBNe, Int.reduceBEq, Int.reduceToNat, Int.reduceLT, Int.reduceLE, Int.reduceGT, Int.reduceGE, Nat.reduceSub, Nat.reduceBEq, Nat.reduceBNe, Int.reduceAdd, Int.reduceSub, Int.reduceMul, Int.reduceNeg, Nat.reduceMul, Nat.reduceLeDiff, Nat.reduceLT, he]
    | simp (disch := omega) only [wi64, wu8, wu16, wu32, wu64, Int.tdiv_eq_ediv_of_nonneg, Int.tmod_eq_emod_of_nonneg]
    | with_reducible_and_instances exact finR
    | ((with_reducible refine finR' ?_ ?_) <;> rfl)
    | ((with_reducible refine finD hsc (NRel.of_plain ?_)); exact rfl)
theorem OutN.frm {H H2 : AHeap} {R : List Nd} {v : Value} (h : OutN H R v) (hf : Frm [] H H2) : OutN H2 R v := by
  rcases h with h | ⟨b, cap, cs, k, e, hc, hb, hz, hl, ht⟩
  · exact .inl h
  · exact .inr ⟨b, cap, cs, k, e, hc, hf.get hb (by simp), hz, hl, ht⟩
theorem OutN.lenT {H H' : AHeap} {R : List Nd} {v : Value} (h : OutN H R v) {K : Value → AHeap → Prop} : lenW Try.prog 34 v H' K = K (.int .i64 (R.length : Nat)) H' := by
  rcases h with ⟨rfl, rfl⟩ | ⟨b, cap, cs, k, rfl, hc, hb, hz, hl, ht⟩
  · rw [lenW_sl (by simp only [go_sem, ↓reduceIte, Nat.reduceEqDiff, reduceCtorEq, Nat.reduceAdd, Int.reduceEq, Int.reduceBNe, Int.reduceBEq, Int.reduceToNat, Int.reduceLT, Int.reduceLE, Int.reduceGT, Int.reduceGE, Nat.reduceSub, Nat.reduceBEq, Nat.reduceBNe, Int.reduceAdd, Int.reduceSub, Int.reduceMul, Int.reduceNeg, Nat.reduceMul, Nat.reduceLeDiff, Nat.reduceLT])]; rfl
  · rw [lenW_sl (by simp only [go_sem, ↓reduceIte, Nat.reduceEqDiff, reduceCtorEq, Nat.reduceAdd, Int.reduceEq, Int.reduceBNe, Int.reduceBEq, Int.reduceToNat, Int.reduceLT, Int.reduceLE, Int.reduceGT, Int.reduceGE, Nat.reduceSub, Nat.reduceBEq, Nat.reduceBNe, Int.reduceAdd, Int.reduceSub, Int.reduceMul, Int.reduceNeg, Nat.reduceMul, Nat.reduceLeDiff, Nat.reduceLT])]
theorem lawBig (t : List UInt8) (l : List Nd) (n : Int) (hbig : 30 < l.length) (v : Value) (H : AHeap) (hv : RdK H 4 v (l.map ndC)) : AC Try.prog 5 [.string (bs t), v, .int .i64 n] H (fun r _ => r = .ret (.bool true)) := by
  have q1 : ∀ H' K, lenW Try.prog 34 v H' K = K (.int .i64 (l.length : Nat)) H' := fun H' K => by rw [hv.lenT (by simp only [go_sem, ↓reduceIte, Nat.reduceEqDiff, reduceCtorEq, Nat.reduceAdd, Int.reduceEq, Int.reduceBNe, Int.reduceBEq, Int.reduceToNat, Int.reduceLT, Int.reduceLE, Int.reduceGT, Int.reduceGE, Nat.reduceSub, Nat.reduceBEq, Nat.reduceBNe, Int.reduceAdd, Int.reduceSub, Int.reduceMul, Int.reduceNeg, Nat.reduceMul, Nat.reduceLeDiff, Nat.reduceLT]), ndsN_len]
  have hc : (l.length : Int) > 30 := by omega
  refine AC.enter Try.func5 rfl (by kernel_rfl) 159 rfl [.tmp 6] rfl (by simp) fun hsc B => ?_
  repeat first
    | with_reducible refine AWP.seq ?_
    | ((with_reducible refine AWP.region ?_ ?_); exact rfl)
    | with_reducible refine AWP.block ?_
    | with_reducible refine AWP.skip ?_
    | with_reducible refine AWP.exit ?_
    | with_reducible refine AWP.ret ?_
    | with_reducible refine AWP.label ?_
    | with_reducible refine AWP.goto ?_
    | ((with_reducible refine AWP.condT ?_ ?_); focus (simp only [ev, lk_cons, ↓reduceIte, Nat.reduceEqDiff]; done))
    | ((with_reducible refine AWP.condF ?_ ?_); focus (simp only [ev, lk_cons, ↓reduceIte, Nat.reduceEqDiff]; done))
    | with_reducible refine (awake _).use ?_
    | simp only [go_sem, ↓reduceIte, Nat.reduceEqDiff, reduceCtorEq, Nat.reduceAdd, Int.reduceEq, Int.reduceBNe, Int.reduceBEq, Int.reduceToNat, Int.reduceLT, Int.reduceLE, Int.reduceGT, Int.reduceGE, Nat.reduceSub, Nat.reduceBEq, Nat.reduceBNe, Int.reduceAdd, Int.reduceSub, Int.reduceMul, Int.reduceNeg, Nat.reduceMul, Nat.reduceLeDiff, Nat.reduceLT, q1, hc]
    | simp (disch := omega) only [wi64, wu8, wu16, wu32, wu64, Int.tdiv_eq_ediv_of_nonneg, Int.tmod_eq_emod_of_nonneg]
    | with_reducible_and_instances exact finR
    | ((with_reducible refine finR' ?_ ?_) <;> rfl)
    | ((with_reducible refine finD hsc (NRel.of_plain ?_)); exact rfl)
  exact ⟨_, _, .refl _ _ _, rfl⟩
theorem lawOdd (t : List UInt8) (l : List Nd) (n : Int) (hl : l.length ≤ 30) (hno : ¬ (t.length = 20 ∧ l.all Nd.ok = true)) (v : Value) (H : AHeap) (hv : RdK H 4 v (l.map ndC)) : AC Try.prog 5 [.string (bs t), v, .int .i64 n] H (fun r _ => r = .ret (.bool true)) := by
  have q1 : ∀ H' K, lenW Try.prog 34 v H' K = K (.int .i64 (l.length : Nat)) H' := fun H' K => by rw [hv.lenT (by simp only [go_sem, ↓reduceIte, Nat.reduceEqDiff, reduceCtorEq, Nat.reduceAdd, Int.reduceEq, Int.reduceBNe, Int.reduceBEq, Int.reduceToNat, Int.reduceLT, Int.reduceLE, Int.reduceGT, Int.reduceGE, Nat.reduceSub, Nat.reduceBEq, Nat.reduceBNe, Int.reduceAdd, Int.reduceSub, Int.reduceMul, Int.reduceNeg, Nat.reduceMul, Nat.reduceLeDiff, Nat.reduceLT]), ndsN_len]
  have hc : ¬ (l.length : Int) > 30 := by omega
  have hS := Sorted t l hl v H hv
  refine AC.enter Try.func5 rfl (by kernel_rfl) 159 rfl [.tmp 6] rfl (by simp) fun hsc B => ?_
  repeat first
    | with_reducible refine AWP.seq ?_
    | ((with_reducible refine AWP.region ?_ ?_); exact rfl)
    | with_reducible refine AWP.block ?_
    | with_reducible refine AWP.skip ?_
    | with_reducible refine AWP.exit ?_
    | with_reducible refine AWP.ret ?_
    | with_reducible refine AWP.label ?_
    | with_reducible refine AWP.goto ?_
    | ((with_reducible refine AWP.condT ?_ ?_); focus (simp only [ev, lk_cons, ↓reduceIte, Nat.reduceEqDiff]; done))
    | ((with_reducible refine AWP.condF ?_ ?_); focus (simp only [ev, lk_cons, ↓reduceIte, Nat.reduceEqDiff]; done))
    | simp only [go_sem, ↓reduceIte, Nat.reduceEqDiff, reduceCtorEq, Nat.reduceAdd, Int.reduceEq, Int.reduceBNe, Int.reduceBEq, Int.reduceToNat, Int.reduceLT, Int.reduceLE, Int.reduceGT, Int.reduceGE, Nat.reduceSub, Nat.reduceBEq, Nat.reduceBNe, Int.reduceAdd, Int.reduceSub, Int.reduceMul, Int.reduceNeg, Nat.reduceMul, Nat.reduceLeDiff, Nat.reduceLT, q1, hc]
    | simp (disch := omega) only [wi64, wu8, wu16, wu32, wu64, Int.tdiv_eq_ediv_of_nonneg, Int.tmod_eq_emod_of_nonneg]
    | with_reducible_and_instances exact finR
    | ((with_reducible refine finR' ?_ ?_) <;> rfl)
    | ((with_reducible refine finD hsc (NRel.of_plain ?_)); exact rfl)
  refine AC.mono hS ?_
  rintro r H1 ⟨hf1, h1⟩
  rw [if_neg hno] at h1
  subst h1
  have hN := Nearest t l n hl v H1 (hv.kept (Kept.frm hf1 (by simp)))
  repeat first
    | with_reducible refine AWP.seq ?_
    | ((with_reducible refine AWP.region ?_ ?_); exact rfl)
    | with_reducible refine AWP.block ?_
    | with_reducible refine AWP.skip ?_
    | with_reducible refine AWP.exit ?_
    | with_reducible refine AWP.ret ?_
    | with_reducible refine AWP.label ?_
    | with_reducible refine AWP.goto ?_
    | ((with_reducible refine AWP.condT ?_ ?_); focus (simp only [ev, lk_cons, ↓reduceIte, Nat.reduceEqDiff]; done))
    | ((with_reducible refine AWP.condF ?_ ?_); focus (simp only [ev, lk_cons, ↓reduceIte, Nat.reduceEqDiff]; done))
    | simp only [go_sem, ↓reduceIte, Nat.reduceEqDiff, reduceCtorEq, Nat.reduceAdd, Int.reduceEq, Int.reduceBNe, Int.reduceBEq, Int.reduceToNat, Int.reduceLT, Int.reduceLE, Int.reduceGT, Int.reduceGE, Nat.reduceSub, Nat.reduceBEq, Nat.reduceBNe, Int.reduceAdd, Int.reduceSub, Int.reduceMul, Int.reduceNeg, Nat.reduceMul, Nat.reduceLeDiff, Nat.reduceLT]
    | simp (disch := omega) only [wi64, wu8, wu16, wu32, wu64, Int.tdiv_eq_ediv_of_nonneg, Int.tmod_eq_emod_of_nonneg]
    | with_reducible_and_instances exact finR
    | ((with_reducible refine finR' ?_ ?_) <;> rfl)
    | ((with_reducible refine finD hsc (NRel.of_plain ?_)); exact rfl)
  refine AC.mono hN ?_
  rintro r H2 ⟨hf2, h2⟩
  rw [if_neg hno] at h2
  subst h2
  have hT := rvalid t
  have hv2 : RdK H2 4 v (l.map ndC) := (hv.kept (Kept.frm hf1 (by simp))).kept (Kept.frm hf2 (by simp))
  have hR := right l (by omega) v H2 hv2.rdN
  by_cases ht : t.length = 20
  · rw [decide_eq_true ht] at hT
    have hall : l.all Nd.ok = false := by
      cases h : l.all Nd.ok with
      | false => rfl
      | true => exact absurd ⟨ht, h⟩ hno
    rw [hall] at hR
    repeat first
      | with_reducible refine AWP.seq ?_
      | ((with_reducible refine AWP.region ?_ ?_); exact rfl)
      | with_reducible refine AWP.block ?_
      | with_reducible refine AWP.skip ?_
      | with_reducible refine AWP.exit ?_
      | with_reducible refine AWP.ret ?_
      | with_reducible refine AWP.label ?_
      | with_reducible refine AWP.goto ?_
      | ((with_reducible refine AWP.condT ?_ ?_); focus (simp only [ev, lk_cons, ↓reduceIte, Nat.reduceEqDiff]; done))
      | ((with_reducible refine AWP.condF ?_ ?_); focus (simp only [ev, lk_cons, ↓reduceIte, Nat.reduceEqDiff]; done))
      | with_reducible refine (hT _).use ?_
      | with_reducible refine hR.use ?_
      | with_reducible refine (awake _).use ?_
      | simp only [go_sem, ↓reduceIte, Nat.reduceEqDiff, reduceCtorEq, Nat.reduceAdd, Int.reduceEq, Int.reduceBNe, Int.reduceBEq, Int.reduceToNat, Int.reduceLT, Int.reduceLE, Int.reduceGT, Int.reduceGE, Nat.reduceSub, Nat.reduceBEq, Nat.reduceBNe, Int.reduceAdd, Int.reduceSub, Int.reduceMul, Int.reduceNeg, Nat.reduceMul, Nat.reduceLeDiff, Nat.reduceLT]
      | simp (disch := omega) only [wi64, wu8, wu16, wu32, wu64, Int.tdiv_eq_ediv_of_nonneg, Int.tmod_eq_emod_of_nonneg]
      | with_reducible_and_instances exact finR
      | ((with_reducible refine finR' ?_ ?_) <;> rfl)
      | ((with_reducible refine finD hsc (NRel.of_plain ?_)); exact rfl)
    exact ⟨_, _, .refl _ _ _, rfl⟩
  · rw [decide_eq_false ht] at hT
    repeat first
      | with_reducible refine AWP.seq ?_
      | ((with_reducible refine AWP.region ?_ ?_); exact rfl)
      | with_reducible refine AWP.block ?_
      | with_reducible refine AWP.skip ?_
      | with_reducible refine AWP.exit ?_
      | with_reducible refine AWP.ret ?_
      | with_reducible refine AWP.label ?_
      | with_reducible refine AWP.goto ?_
      | ((with_reducible refine AWP.condT ?_ ?_); focus (simp only [ev, lk_cons, ↓reduceIte, Nat.reduceEqDiff]; done))
      | ((with_reducible refine AWP.condF ?_ ?_); focus (simp only [ev, lk_cons, ↓reduceIte, Nat.reduceEqDiff]; done))
      | with_reducible refine (hT _).use ?_
      | with_reducible refine (awake _).use ?_
      | simp only [go_sem, ↓reduceIte, Nat.reduceEqDiff, reduceCtorEq, Nat.reduceAdd, Int.reduceEq, Int.reduceBNe, Int.reduceBEq, Int.reduceToNat, Int.reduceLT, Int.reduceLE, Int.reduceGT, Int.reduceGE, Nat.reduceSub, Nat.reduceBEq, Nat.reduceBNe, Int.reduceAdd, Int.reduceSub, Int.reduceMul, Int.reduceNeg, Nat.reduceMul, Nat.reduceLeDiff, Nat.reduceLT]
      | simp (disch := omega) only [wi64, wu8, wu16, wu32, wu64, Int.tdiv_eq_ediv_of_nonneg, Int.tmod_eq_emod_of_nonneg]
      | with_reducible_and_instances exact finR
      | ((with_reducible refine finR' ?_ ?_) <;> rfl)
      | ((with_reducible refine finD hsc (NRel.of_plain ?_)); exact rfl)
    exact ⟨_, _, .refl _ _ _, rfl⟩
theorem lawIn (t : List UInt8) (l : List Nd) (n : Int) (hl : l.length ≤ 30) (hyes : t.length = 20 ∧ l.all Nd.ok = true) (v : Value) (H : AHeap) (hv : RdK H 4 v (l.map ndC)) : AC Try.prog 5 [.string (bs t), v, .int .i64 n] H (fun r _ => r = .ret (.bool true)) := by
  have q1 : ∀ H' K, lenW Try.prog 34 v H' K = K (.int .i64 (l.length : Nat)) H' := fun H' K => by rw [hv.lenT (by simp only [go_sem, ↓reduceIte, Nat.reduceEqDiff, reduceCtorEq, Nat.reduceAdd, Int.reduceEq, Int.reduceBNe, Int.reduceBEq, Int.reduceToNat, Int.reduceLT, Int.reduceLE, Int.reduceGT, Int.reduceGE, Nat.reduceSub, Nat.reduceBEq, Nat.reduceBNe, Int.reduceAdd, Int.reduceSub, Int.reduceMul, Int.reduceNeg, Nat.reduceMul, Nat.reduceLeDiff, Nat.reduceLT]), ndsN_len]
  have hc : ¬ (l.length : Int) > 30 := by omega
  have hS := Sorted t l hl v H hv
  have hok := allok hyes.2
  refine AC.enter Try.func5 rfl (by kernel_rfl) 159 rfl [.tmp 6] rfl (by simp) fun hsc B => ?_
  repeat first
    | with_reducible refine AWP.seq ?_
    | ((with_reducible refine AWP.region ?_ ?_); exact rfl)
    | with_reducible refine AWP.block ?_
    | with_reducible refine AWP.skip ?_
    | with_reducible refine AWP.exit ?_
    | with_reducible refine AWP.ret ?_
    | with_reducible refine AWP.label ?_
    | with_reducible refine AWP.goto ?_
    | ((with_reducible refine AWP.condT ?_ ?_); focus (simp only [ev, lk_cons, ↓reduceIte, Nat.reduceEqDiff]; done))
    | ((with_reducible refine AWP.condF ?_ ?_); focus (simp only [ev, lk_cons, ↓reduceIte, Nat.reduceEqDiff]; done))
    | simp only [go_sem, ↓reduceIte, Nat.reduceEqDiff, reduceCtorEq, Nat.reduceAdd, Int.reduceEq, Int.reduceBNe, Int.reduceBEq, Int.reduceToNat, Int.reduceLT, Int.reduceLE, Int.reduceGT, Int.reduceGE, Nat.reduceSub, Nat.reduceBEq, Nat.reduceBNe, Int.reduceAdd, Int.reduceSub, Int.reduceMul, Int.reduceNeg, Nat.reduceMul, Nat.reduceLeDiff, Nat.reduceLT, q1, hc]
    | simp (disch := omega) only [wi64, wu8, wu16, wu32, wu64, Int.tdiv_eq_ediv_of_nonneg, Int.tmod_eq_emod_of_nonneg]
    | with_reducible_and_instances exact finR
    | ((with_reducible refine finR' ?_ ?_) <;> rfl)
    | ((with_reducible refine finD hsc (NRel.of_plain ?_)); exact rfl)
  refine AC.mono hS ?_
  rintro r H1 ⟨hf1, h1⟩
  rw [if_pos hyes] at h1
  obtain ⟨v1, R, rfl, hR1, ho1⟩ := h1
  have hv1 := hv.kept (Kept.frm hf1 (by simp))
  have hN := Nearest t l n hl v H1 hv1
  repeat first
    | with_reducible refine AWP.seq ?_
    | ((with_reducible refine AWP.region ?_ ?_); exact rfl)
    | with_reducible refine AWP.block ?_
    | with_reducible refine AWP.skip ?_
    | with_reducible refine AWP.exit ?_
    | with_reducible refine AWP.ret ?_
    | with_reducible refine AWP.label ?_
    | with_reducible refine AWP.goto ?_
    | ((with_reducible refine AWP.condT ?_ ?_); focus (simp only [ev, lk_cons, ↓reduceIte, Nat.reduceEqDiff]; done))
    | ((with_reducible refine AWP.condF ?_ ?_); focus (simp only [ev, lk_cons, ↓reduceIte, Nat.reduceEqDiff]; done))
    | simp only [go_sem, ↓reduceIte, Nat.reduceEqDiff, reduceCtorEq, Nat.reduceAdd, Int.reduceEq, Int.reduceBNe, Int.reduceBEq, Int.reduceToNat, Int.reduceLT, Int.reduceLE, Int.reduceGT, Int.reduceGE, Nat.reduceSub, Nat.reduceBEq, Nat.reduceBNe, Int.reduceAdd, Int.reduceSub, Int.reduceMul, Int.reduceNeg, Nat.reduceMul, Nat.reduceLeDiff, Nat.reduceLT]
    | simp (disch := omega) only [wi64, wu8, wu16, wu32, wu64, Int.tdiv_eq_ediv_of_nonneg, Int.tmod_eq_emod_of_nonneg]
    | with_reducible_and_instances exact finR
    | ((with_reducible refine finR' ?_ ?_) <;> rfl)
    | ((with_reducible refine finD hsc (NRel.of_plain ?_)); exact rfl)
  refine AC.mono hN ?_
  rintro r H2 ⟨hf2, h2⟩
  rw [if_pos hyes] at h2
  obtain ⟨vn, fn, rfl, hfn⟩ : ∃ vn fn, r = .ret (.tuple ⟨[vn, .int .i64 fn]⟩) ∧ ((n < 0 ∧ fn = 7) ∨ (¬ n < 0 ∧ fn = 0 ∧ OutN H2 (R.take (min n (R.length : Int)).toNat) vn)) := by
    by_cases hn : n < 0
    · rw [if_pos hn] at h2
      exact ⟨_, _, h2, .inl ⟨hn, rfl⟩⟩
    · rw [if_neg hn] at h2
      obtain ⟨v', R', e, hR', ho'⟩ := h2
      have : R' = R := nodes_one hR'.1 hR1.1 fun x => by rw [hR'.2.1, hR1.2.1]
      subst this
      exact ⟨_, _, e, .inr ⟨hn, rfl, ho'⟩⟩
  clear h2
  have hv2 := hv1.kept (Kept.frm hf2 (by simp))
  have hT := rvalid t
  have hRi := right l (by omega) v H2 hv2.rdN
  rw [hyes.2] at hRi
  rw [decide_eq_true hyes.1] at hT
  have hRS := rSorted t hyes.1 l hok hl v H2 hv2
  repeat first
    | with_reducible refine AWP.seq ?_
    | ((with_reducible refine AWP.region ?_ ?_); exact rfl)
    | with_reducible refine AWP.block ?_
    | with_reducible refine AWP.skip ?_
    | with_reducible refine AWP.exit ?_
    | with_reducible refine AWP.ret ?_
    | with_reducible refine AWP.label ?_
    | with_reducible refine AWP.goto ?_
    | ((with_reducible refine AWP.condT ?_ ?_); focus (simp only [ev, lk_cons, ↓reduceIte, Nat.reduceEqDiff]; done))
    | ((with_reducible refine AWP.condF ?_ ?_); focus (simp only [ev, lk_cons, ↓reduceIte, Nat.reduceEqDiff]; done))
    | with_reducible refine (hT _).use ?_
    | with_reducible refine hRi.use ?_
    | simp only [go_sem, ↓reduceIte, Nat.reduceEqDiff, reduceCtorEq, Nat.reduceAdd, Int.reduceEq, Int.reduceBNe, Int.reduceBEq, Int.reduceToNat, Int.reduceLT, Int.reduceLE, Int.reduceGT, Int.reduceGE, Nat.reduceSub, Nat.reduceBEq, Nat.reduceBNe, Int.reduceAdd, Int.reduceSub, Int.reduceMul, Int.reduceNeg, Nat.reduceMul, Nat.reduceLeDiff, Nat.reduceLT]
    | simp (disch := omega) only [wi64, wu8, wu16, wu32, wu64, Int.tdiv_eq_ediv_of_nonneg, Int.tmod_eq_emod_of_nonneg]
    | with_reducible_and_instances exact finR
    | ((with_reducible refine finR' ?_ ?_) <;> rfl)
    | ((with_reducible refine finD hsc (NRel.of_plain ?_)); exact rfl)
  refine AC.mono hRS ?_
  rintro r H3 ⟨v3, R3, rfl, hf3, hR3, ho3⟩
  have : R3 = R := nodes_one hR3.1 hR1.1 fun x => by rw [hR3.2.1, hR1.2.1]
  subst this
  have ho1' := (ho1.frm hf2).frm hf3
  have hRlen : R3.length ≤ 30 := Nat.le_trans hR3.2.2 hl
  have hSame := SameNodes R3 R3 (by omega) (by omega) v1 v3 H3 ho1'.rd ho3.rd
  rw [decide_eq_true rfl] at hSame
  have hv3 := hv2.kept (Kept.frm hf3 (by simp))
  have hmn : -9223372036854775808 ≤ n ∨ True := .inr trivial
  repeat first
    | with_reducible refine AWP.seq ?_
    | ((with_reducible refine AWP.region ?_ ?_); exact rfl)
    | with_reducible refine AWP.block ?_
    | with_reducible refine AWP.skip ?_
    | with_reducible refine AWP.exit ?_
    | with_reducible refine AWP.ret ?_
    | with_reducible refine AWP.label ?_
    | with_reducible refine AWP.goto ?_
    | ((with_reducible refine AWP.condT ?_ ?_); focus (simp only [ev, lk_cons, ↓reduceIte, Nat.reduceEqDiff]; done))
    | ((with_reducible refine AWP.condF ?_ ?_); focus (simp only [ev, lk_cons, ↓reduceIte, Nat.reduceEqDiff]; done))
    | with_reducible refine hSame.use ?_
    | simp only [go_sem, ↓reduceIte, Nat.reduceEqDiff, reduceCtorEq, Nat.reduceAdd, Int.reduceEq, Int.reduceBNe, Int.reduceBEq, Int.reduceToNat, Int.reduceLT, Int.reduceLE, Int.reduceGT, Int.reduceGE, Nat.reduceSub, Nat.reduceBEq, Nat.reduceBNe, Int.reduceAdd, Int.reduceSub, Int.reduceMul, Int.reduceNeg, Nat.reduceMul, Nat.reduceLeDiff, Nat.reduceLT, q1]
    | simp (disch := omega) only [wi64, wu8, wu16, wu32, wu64, Int.tdiv_eq_ediv_of_nonneg, Int.tmod_eq_emod_of_nonneg]
    | with_reducible_and_instances exact finR
    | ((with_reducible refine finR' ?_ ?_) <;> rfl)
    | ((with_reducible refine finD hsc (NRel.of_plain ?_)); exact rfl)
  refine AWP.loopP (fun s : Nat × AHeap => ⟨[(0, .string (bs t)), (1, v), (2, .int .i64 n), (9, vn), (10, .int .i64 fn), (11, v3), (75, v), (76, .int .i64 (l.length : Nat)), (77, .int .i64 (s.1 : Nat))], [], s.2⟩)
    (fun s => s.1 ≤ l.length ∧ Frm [] H3 s.2) (fun s => l.length - s.1) (0, H3) ?_ ⟨Nat.zero_le _, .refl _ _⟩ ?_
  · exact Weak.env (by simp [envIn, lk_cons, wth_some])
  rintro ⟨i, Hc⟩ ⟨hi, hfc⟩
  simp only at hi hfc ⊢
  have ho3c := ho3.frm hfc
  by_cases hci : i < l.length
  case neg =>
    have hci' : ¬ (i : Int) < (l.length : Int) := by omega
    rcases hfn with ⟨hn, rfl⟩ | ⟨hn, rfl, hon⟩
    · repeat first
        | with_reducible refine AWP.seq ?_
        | ((with_reducible refine AWP.region ?_ ?_); exact rfl)
        | with_reducible refine AWP.block ?_
        | with_reducible refine AWP.skip ?_
        | with_reducible refine AWP.exit ?_
        | with_reducible refine AWP.ret ?_
        | with_reducible refine AWP.label ?_
        | with_reducible refine AWP.goto ?_
        | ((with_reducible refine AWP.condT ?_ ?_); focus (simp only [ev, lk_cons, ↓reduceIte, Nat.reduceEqDiff]; done))
        | ((with_reducible refine AWP.condF ?_ ?_); focus (simp only [ev, lk_cons, ↓reduceIte, Nat.reduceEqDiff]; done))
        | with_reducible refine (awake _).use ?_
        | simp only [go_sem, ↓reduceIte, Nat.reduceEqDiff, reduceCtorEq, Nat.reduceAdd, Int.reduceEq, Int.reduceBNe, Int.reduceBEq, Int.reduceToNat, Int.reduceLT, Int.reduceLE, Int.reduceGT, Int.reduceGE, Nat.reduceSub, Nat.reduceBEq, Nat.reduceBNe, Int.reduceAdd, Int.reduceSub, Int.reduceMul, Int.reduceNeg, Nat.reduceMul, Nat.reduceLeDiff, Nat.reduceLT, hci', hn]
        | simp (disch := omega) only [wi64, wu8, wu16, wu32, wu64, Int.tdiv_eq_ediv_of_nonneg, Int.tmod_eq_emod_of_nonneg]
        | with_reducible_and_instances exact finR
        | ((with_reducible refine finR' ?_ ?_) <;> rfl)
        | ((with_reducible refine finD hsc (NRel.of_plain ?_)); exact rfl)
      exact ⟨_, _, .refl _ _ _, rfl⟩
    · have honc := (hon.frm hf3).frm hfc
      obtain ⟨mm, hmm⟩ : ∃ m : Nat, min n (R3.length : Int) = (m : Int) := ⟨(min n (R3.length : Int)).toNat, by omega⟩
      have hml : mm ≤ R3.length := by omega
      rw [hmm, Int.toNat_natCast] at honc
      have hlenW := fun (H' : AHeap) (K : Value → AHeap → Prop) => ho3c.lenT (H' := H') (K := K)
      rcases ho3c.take mm hml with ⟨e0, rfl⟩ | ⟨b, cap, rfl, hcap, ⟨cs, k, hb, hz⟩, hot⟩
      · subst e0
        have hm0 : mm = 0 := by simp at hml; exact hml
        subst hm0
        have hm' : min n 0 = 0 := by simpa using hmm
        have hSn := SameNodes [] [] (by simp) (by simp) vn (.slice none 0 0) Hc (by simpa using honc.rd) (.inl ⟨rfl, rfl⟩)
        rw [decide_eq_true rfl] at hSn
        have hn0 : max n 0 = n := by omega
        repeat first
          | with_reducible refine AWP.seq ?_
          | ((with_reducible refine AWP.region ?_ ?_); exact rfl)
          | with_reducible refine AWP.block ?_
          | with_reducible refine AWP.skip ?_
          | with_reducible refine AWP.exit ?_
          | with_reducible refine AWP.ret ?_
          | with_reducible refine AWP.label ?_
          | with_reducible refine AWP.goto ?_
          | ((with_reducible refine AWP.condT ?_ ?_); focus (simp only [ev, lk_cons, ↓reduceIte, Nat.reduceEqDiff]; done))
          | ((with_reducible refine AWP.condF ?_ ?_); focus (simp only [ev, lk_cons, ↓reduceIte, Nat.reduceEqDiff]; done))
          | simp only [go_sem, ↓reduceIte, Nat.reduceEqDiff, reduceCtorEq, Nat.reduceAdd, Int.reduceEq, Int.reduceBNe, Int.reduceBEq, Int.reduceToNat, Int.reduceLT, Int.reduceLE, Int.reduceGT, Int.reduceGE, Nat.reduceSub, Nat.reduceBEq, Nat.reduceBNe, Int.reduceAdd, Int.reduceSub, Int.reduceMul, Int.reduceNeg, Nat.reduceMul, Nat.reduceLeDiff, Nat.reduceLT, hci', hn, minMaxW, hm']
          | simp (disch := omega) only [wi64, wu8, wu16, wu32, wu64, Int.tdiv_eq_ediv_of_nonneg, Int.tmod_eq_emod_of_nonneg]
          | with_reducible_and_instances exact finR
          | ((with_reducible refine finR' ?_ ?_) <;> rfl)
          | ((with_reducible refine finD hsc (NRel.of_plain ?_)); exact rfl)
        refine ⟨fun h => rfl, rfl, ?_⟩
        repeat first
          | with_reducible refine AWP.seq ?_
          | ((with_reducible refine AWP.region ?_ ?_); exact rfl)
          | with_reducible refine AWP.block ?_
          | with_reducible refine AWP.skip ?_
          | with_reducible refine AWP.exit ?_
          | with_reducible refine AWP.ret ?_
          | with_reducible refine AWP.label ?_
          | with_reducible refine AWP.goto ?_
          | ((with_reducible refine AWP.condT ?_ ?_); focus (simp only [ev, lk_cons, ↓reduceIte, Nat.reduceEqDiff]; done))
          | ((with_reducible refine AWP.condF ?_ ?_); focus (simp only [ev, lk_cons, ↓reduceIte, Nat.reduceEqDiff]; done))
          | with_reducible refine hSn.use ?_
          | with_reducible refine (awake _).use ?_
          | simp only [go_sem, ↓reduceIte, Nat.reduceEqDiff, reduceCtorEq, Nat.reduceAdd, Int.reduceEq, Int.reduceBNe, Int.reduceBEq, Int.reduceToNat, Int.reduceLT, Int.reduceLE, Int.reduceGT, Int.reduceGE, Nat.reduceSub, Nat.reduceBEq, Nat.reduceBNe, Int.reduceAdd, Int.reduceSub, Int.reduceMul, Int.reduceNeg, Nat.reduceMul, Nat.reduceLeDiff, Nat.reduceLT]
          | simp (disch := omega) only [wi64, wu8, wu16, wu32, wu64, Int.tdiv_eq_ediv_of_nonneg, Int.tmod_eq_emod_of_nonneg]
          | with_reducible_and_instances exact finR
          | ((with_reducible refine finR' ?_ ?_) <;> rfl)
          | ((with_reducible refine finD hsc (NRel.of_plain ?_)); exact rfl)
        exact ⟨_, _, .refl _ _ _, rfl⟩
      · have hmc : (mm : Int) ≤ (cap : Int) := by omega
        have hSn := SameNodes (R3.take mm) (R3.take mm) (by rw [List.length_take]; omega) (by rw [List.length_take]; omega) vn _ Hc honc.rd hot.rd
        rw [decide_eq_true rfl] at hSn
        repeat first
          | with_reducible refine AWP.seq ?_
          | ((with_reducible refine AWP.region ?_ ?_); exact rfl)
          | with_reducible refine AWP.block ?_
          | with_reducible refine AWP.skip ?_
          | with_reducible refine AWP.exit ?_
          | with_reducible refine AWP.ret ?_
          | with_reducible refine AWP.label ?_
          | with_reducible refine AWP.goto ?_
          | ((with_reducible refine AWP.condT ?_ ?_); focus (simp only [ev, lk_cons, ↓reduceIte, Nat.reduceEqDiff]; done))
          | ((with_reducible refine AWP.condF ?_ ?_); focus (simp only [ev, lk_cons, ↓reduceIte, Nat.reduceEqDiff]; done))
          | with_reducible refine hSn.use ?_
          | with_reducible refine (awake _).use ?_
          | simp only [go_sem, ↓reduceIte, Nat.reduceEqDiff, reduceCtorEq, Nat.reduceAdd, Int.reduceEq, Int.reduceBNe, Int.reduceBEq, Int.reduceToNat, Int.reduceLT, Int.reduceLE, Int.reduceGT, Int.reduceGE, Nat.reduceSub, Nat.reduceBEq, Nat.reduceBNe, Int.reduceAdd, Int.reduceSub, Int.reduceMul, Int.reduceNeg, Nat.reduceMul, Nat.reduceLeDiff, Nat.reduceLT, hci', hn, hlenW, minMaxW, hmm, hb, hz, hmc]
          | simp (disch := omega) only [wi64, wu8, wu16, wu32, wu64, Int.tdiv_eq_ediv_of_nonneg, Int.tmod_eq_emod_of_nonneg]
          | with_reducible_and_instances exact finR
          | ((with_reducible refine finR' ?_ ?_) <;> rfl)
          | ((with_reducible refine finD hsc (NRel.of_plain ?_)); exact rfl)
        exact ⟨_, _, .refl _ _ _, rfl⟩
  have hci' : (i : Int) < (l.length : Int) := by omega
  have hvc : RdK Hc 4 v (l.map ndC) := hv3.kept (Kept.frm hfc (by simp))
  have hat := hvc.at_ (j := i) (r := ndC l[i]) (by rw [List.getElem?_map, List.getElem?_eq_getElem hci]; rfl)
  obtain ⟨ib, o, cap, cs, k, rfl, hcap, hib, how, hz, hle, hgn⟩ := hat
  rw [List.length_map] at *
  have hil := lt_of_get hib
  have hwi : IntKind.i64.wrap ((i : Int) + 1) = ((i + 1 : Nat) : Int) := by rw [wi64 (by omega)]; omega
  have hi0 : (0 : Int) ≤ (i : Int) := Int.natCast_nonneg _
  have hicap : (i : Int) ≤ (cap : Int) := by omega
  have hVa := validNode l[i]
  rw [hok _ (List.getElem_mem hci)] at hVa
  unfold Nd.v at hVa
  obtain ⟨bx, hbx⟩ : ∃ bx : AObj, bx = .cells (ndC l[i]) ⟨46, 0, true, 0, none⟩ := ⟨_, rfl⟩
  unfold ndC at hgn hVa hbx
  repeat first
    | with_reducible refine AWP.seq ?_
    | ((with_reducible refine AWP.region ?_ ?_); exact rfl)
    | with_reducible refine AWP.block ?_
    | with_reducible refine AWP.skip ?_
    | with_reducible refine AWP.exit ?_
    | with_reducible refine AWP.ret ?_
    | with_reducible refine AWP.label ?_
    | with_reducible refine AWP.goto ?_
    | ((with_reducible refine AWP.condT ?_ ?_); focus (simp only [ev, lk_cons, ↓reduceIte, Nat.reduceEqDiff]; done))
    | ((with_reducible refine AWP.condF ?_ ?_); focus (simp only [ev, lk_cons, ↓reduceIte, Nat.reduceEqDiff]; done))
    | with_reducible refine (hVa _).use ?_
    | simp only [go_sem, ↓reduceIte, Nat.reduceEqDiff, reduceCtorEq, Nat.reduceAdd, Int.reduceEq, Int.reduceBNe, Int.reduceBEq, Int.reduceToNat, Int.reduceLT, Int.reduceLE, Int.reduceGT, Int.reduceGE, Nat.reduceSub, Nat.reduceBEq, Nat.reduceBNe, Int.reduceAdd, Int.reduceSub, Int.reduceMul, Int.reduceNeg, Nat.reduceMul, Nat.reduceLeDiff, Nat.reduceLT, hci', hib, hil, hgn, hle, hi0, hicap, hz, hgetl]
    | simp (disch := omega) only [wi64, wu8, wu16, wu32, wu64, Int.tdiv_eq_ediv_of_nonneg, Int.tmod_eq_emod_of_nonneg]
    | with_reducible_and_instances exact finR
    | ((with_reducible refine finR' ?_ ?_) <;> rfl)
    | ((with_reducible refine finD hsc (NRel.of_plain ?_)); exact rfl)
  refine AWP.loopP (fun s : Nat × AHeap => ⟨[(0, .string (bs t)), (1, .slice (some ⟨ib, o, none⟩) l.length cap), (2, .int .i64 n), (9, vn), (10, .int .i64 fn), (11, v3), (13, .pointer (some ⟨Hc.length, 0, none⟩)), (75, .slice (some ⟨ib, o, none⟩) l.length cap), (76, .int .i64 (l.length : Nat)), (77, .int .i64 (i : Nat)), (87, .slice (some ⟨ib, o, none⟩) i cap), (88, .int .i64 (i : Nat)), (89, .int .i64 (s.1 : Nat))], [], Hc ++ (bx :: s.2)⟩)
    (fun s => s.1 ≤ i) (fun s => i - s.1) (0, []) ?_ (Nat.zero_le _) ?_
  · rw [hbx]
    exact Weak.env (by simp [envIn, lk_cons, wth_some])
  rintro ⟨m, X⟩ hm
  simp only at hm ⊢
  by_cases hc2 : m < i
  · have hc2' : (m : Int) < (i : Int) := by omega
    have hml : m < l.length := by omega
    have hm0 : (0 : Int) ≤ (m : Int) := Int.natCast_nonneg _
    have hwm : IntKind.i64.wrap ((m : Int) + 1) = ((m + 1 : Nat) : Int) := by rw [wi64 (by omega)]; omega
    have hat2 := hvc.at_ (j := m) (r := ndC l[m]) (by rw [List.getElem?_map, List.getElem?_eq_getElem hml]; rfl)
    obtain ⟨i2, o2, cap2, cs2, k2, e2, _, hi2, _, _, hle2, hgm⟩ := hat2
    rw [List.length_map] at e2
    cases e2
    rw [hib] at hi2
    cases hi2
    have hgX : (Hc ++ (bx :: X))[ib]? = some (.cells cs k) := by rw [hgetl hil]; exact hib
    unfold ndC at hgm
    have hnew : (Hc ++ (bx :: (X ++ [AObj.cells [.string (bs l[m].id), .int .i64 l[m].a.fam, .string (bs l[m].a.ip), .int .i64 l[m].a.port] ⟨46, 0, true, 0, none⟩])))[Hc.length + (X.length + 1)]? = some (.cells [.string (bs l[m].id), .int .i64 l[m].a.fam, .string (bs l[m].a.ip), .int .i64 l[m].a.port] ⟨46, 0, true, 0, none⟩) := by
      rw [hgetk rfl, List.getElem?_cons_succ, List.getElem?_append_right (Nat.le_refl _)]; simp
    have hold : (Hc ++ (bx :: (X ++ [AObj.cells [.string (bs l[m].id), .int .i64 l[m].a.fam, .string (bs l[m].a.ip), .int .i64 l[m].a.port] ⟨46, 0, true, 0, none⟩])))[Hc.length]? = some (.cells [.string (bs l[i].id), .int .i64 l[i].a.fam, .string (bs l[i].a.ip), .int .i64 l[i].a.port] ⟨46, 0, true, 0, none⟩) := by
      rw [hget0 rfl, hbx]; rfl
    have hxi := hok _ (List.getElem_mem hci)
    have hxm := hok _ (List.getElem_mem hml)
    have hC1 := Compare t l[i] l[m] hyes.1 hxi hxm
    have hC2 := Compare t l[m] l[i] hyes.1 hxm hxi
    have hC3 := rCompare t l[i] l[m] hyes.1 hxi hxm
    have hC4 := Same l[i] l[m]
    have hbd := cmpN_bound t l[m] l[i]
    have hng := (cmpN_ok t).neg l[m] l[i]
    have hzero : (cmpN t l[i] l[m] == 0) = decide (l[i] = l[m]) := by
      rw [Bool.eq_iff_iff]
      simp only [beq_iff_eq, decide_eq_true_eq]
      constructor
      · exact cmpN_zero hyes.1 hxi hxm
      · intro e; rw [e]; exact (cmpN_ok t).self _
    have hneg : IntKind.i64.wrap (0 - cmpN t l[m] l[i]) = cmpN t l[i] l[m] := by rw [wi64 (by omega)]; omega
    have hneg2 : (cmpN t l[i] l[m] != 0 - cmpN t l[m] l[i]) = false := by simp; omega
    unfold Nd.v ndC at hC1 hC2 hC3 hC4
    generalize cmpN t l[m] l[i] = c1 at *
    generalize cmpN t l[i] l[m] = c2 at *
    generalize decide (l[i] = l[m]) = q at *
    repeat first
      | with_reducible refine AWP.seq ?_
      | ((with_reducible refine AWP.region ?_ ?_); exact rfl)
      | with_reducible refine AWP.block ?_
      | with_reducible refine AWP.skip ?_
      | with_reducible refine AWP.exit ?_
      | with_reducible refine AWP.ret ?_
      | with_reducible refine AWP.label ?_
      | with_reducible refine AWP.goto ?_
      | ((with_reducible refine AWP.condT ?_ ?_); focus (simp only [ev, lk_cons, ↓reduceIte, Nat.reduceEqDiff]; done))
      | ((with_reducible refine AWP.condF ?_ ?_); focus (simp only [ev, lk_cons, ↓reduceIte, Nat.reduceEqDiff]; done))
      | with_reducible refine (hC1 _).use ?_
      | with_reducible refine (hC2 _).use ?_
      | with_reducible refine (hC3 _).use ?_
      | with_reducible refine (hC4 _).use ?_
      | simp only [go_sem, ↓reduceIte, Nat.reduceEqDiff, reduceCtorEq, Nat.reduceAdd, Int.reduceEq, Int.reduceBNe, Int.reduceBEq, Int.reduceToNat, Int.reduceLT, Int.reduceLE, Int.reduceGT, Int.reduceGE, Nat.reduceSub, Nat.reduceBEq, Nat.reduceBNe, Int.reduceAdd, Int.reduceSub, Int.reduceMul, Int.reduceNeg, Nat.reduceMul, Nat.reduceLeDiff, Nat.reduceLT, hc2', hm0, hgX, hgm, hle2, hwm, hnew, hold, hneg, hneg2, hzero, bne_self_eq_false]
      | simp (disch := omega) only [wi64, wu8, wu16, wu32, wu64, Int.tdiv_eq_ediv_of_nonneg, Int.tmod_eq_emod_of_nonneg]
      | with_reducible_and_instances exact finR
      | ((with_reducible refine finR' ?_ ?_) <;> rfl)
      | ((with_reducible refine finD hsc (NRel.of_plain ?_)); exact rfl)
    exact ⟨(m + 1, X ++ [AObj.cells [.string (bs l[m].id), .int .i64 l[m].a.fam, .string (bs l[m].a.ip), .int .i64 l[m].a.port] ⟨46, 0, true, 0, none⟩]), Weak.env (by simp [envIn, lk_cons, wth_some]), by dsimp only; omega, by dsimp only; omega⟩
  · have hc2' : ¬ (m : Int) < (i : Int) := by omega
    repeat first
      | with_reducible refine AWP.seq ?_
      | ((with_reducible refine AWP.region ?_ ?_); exact rfl)
      | with_reducible refine AWP.block ?_
      | with_reducible refine AWP.skip ?_
      | with_reducible refine AWP.exit ?_
      | with_reducible refine AWP.ret ?_
      | with_reducible refine AWP.label ?_
      | with_reducible refine AWP.goto ?_
      | ((with_reducible refine AWP.condT ?_ ?_); focus (simp only [ev, lk_cons, ↓reduceIte, Nat.reduceEqDiff]; done))
      | ((with_reducible refine AWP.condF ?_ ?_); focus (simp only [ev, lk_cons, ↓reduceIte, Nat.reduceEqDiff]; done))
      | simp only [go_sem, ↓reduceIte, Nat.reduceEqDiff, reduceCtorEq, Nat.reduceAdd, Int.reduceEq, Int.reduceBNe, Int.reduceBEq, Int.reduceToNat, Int.reduceLT, Int.reduceLE, Int.reduceGT, Int.reduceGE, Nat.reduceSub, Nat.reduceBEq, Nat.reduceBNe, Int.reduceAdd, Int.reduceSub, Int.reduceMul, Int.reduceNeg, Nat.reduceMul, Nat.reduceLeDiff, Nat.reduceLT, hc2', hwi]
      | simp (disch := omega) only [wi64, wu8, wu16, wu32, wu64, Int.tdiv_eq_ediv_of_nonneg, Int.tmod_eq_emod_of_nonneg]
      | with_reducible_and_instances exact finR
      | ((with_reducible refine finR' ?_ ?_) <;> rfl)
      | ((with_reducible refine finD hsc (NRel.of_plain ?_)); exact rfl)
    exact ⟨(i + 1, Hc ++ (bx :: X)), Weak.env (by simp [envIn, lk_cons, wth_some]), by dsimp only; omega, hfc.trans (Frm.app (S := [])) (by simp), by dsimp only; omega⟩
theorem law5 (t : List UInt8) (l : List Nd) (n : Int) (v : Value) (H : AHeap) (hv : RdK H 4 v (l.map ndC)) : AC Try.prog 5 [.string (bs t), v, .int .i64 n] H (fun r _ => r = .ret (.bool true)) := by
  rcases Nat.lt_or_ge 30 l.length with h | h
  · exact lawBig t l n h v H hv
  · by_cases hy : t.length = 20 ∧ l.all Nd.ok = true
    · exact lawIn t l n h hy v H hv
    · exact lawOdd t l n h hy v H hv
end Go.Proofs.Ytdbdnknnaekbhaa

