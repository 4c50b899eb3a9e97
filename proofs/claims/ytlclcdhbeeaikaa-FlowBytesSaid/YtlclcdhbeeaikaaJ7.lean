/-
  Decode of packets.
-/
import Derived.Test.YtlclcdhbeeaikaaJ6
import Derived.Test.YtlclcdhbeeaikaaAwC
set_option linter.unusedVariables false
set_option linter.unusedSimpArgs false
set_option maxRecDepth 20000
set_option maxHeartbeats 4000000
namespace Go.Proofs.Ytlclcdhbeeaikaa
open Go Go.Aw Go.Proofs
def zeroS : List Value := [.int .i64 0, .int .i64 0, .int .i64 0, .int .i64 0, .int .i64 0, .string (bs []), .string (bs []), .int .i64 0, .int .i64 0]
def badR (n : Int) : Value := .tuple ⟨[.agg ⟨zeroS⟩, .int .i64 n, .int .i64 12]⟩
theorem bad (n : Int) (H : AHeap) : ARet Try.prog 30 [.int .i64 n] H (badR n) H := by
  unfold badR zeroS
  refine AC.enter Try.func30 rfl (by kernel_rfl) 7 rfl [.cell 2 23, .tmp 3, .tmp 4] rfl (by simp) fun hsc B => ?_
  repeat first
    | with_reducible refine AWP.seq ?_
    | ((with_reducible refine AWP.region ?_ ?_); exact rfl)
    | with_reducible refine AWP.block ?_
    | with_reducible refine AWP.skip ?_
    | with_reducible refine AWP.exit ?_
    | with_reducible refine AWP.ret ?_
    | with_reducible refine AWP.label ?_
    | with_reducible refine AWP.goto ?_
    | ((with_reducible refine AWP.condT ?_ ?_); focus (simp only [ev, lk_cons, ↓reduceIte, Nat.reduceEqDiff]; done))
    | ((with_reducible refine AWP.condF ?_ ?_); focus (simp only [ev, lk_cons, ↓reduceIte, Nat.reduceEqDiff]; done))
    | simp only [go_sem, ↓reduceIte, Nat.reduceEqDiff, reduceCtorEq, Nat.reduceAdd, Int.reduceEq, Int.reduceBNe, Int.reduceBEq, Int.reduceToNat, Int.reduceLT, Int.reduceLE, Int.reduceGT, Int.reduceGE, Nat.reduceSub, Nat.reduceBEq, Nat.reduceBNe, Int.reduceAdd, Int.reduceSub, Int.reduceMul, Int.reduceNeg, Nat.reduceMul, Nat.reduceLeDiff, Nat.reduceLT]
    | simp (disch := omega) only [wi64, wu8, wu16, wu32, wu64]
    | with_reducible_and_instances exact finR
    | ((with_reducible refine finR' ?_ ?_) <;> rfl)
    | ((with_reducible refine finD hsc (NRel.of_plain ?_)); exact rfl)
  exact finD hsc (by simp only [nr_tuple, nrs_cons, nrs_nil, nr_agg, nr_int, nr_string, and_self])
def decR (s : List UInt8) : Value := match decB s with
  | some n => badR (n : Nat)
  | none => .tuple ⟨[.agg ⟨sgV (decP s)⟩, .int .i64 0, .int .i64 0]⟩
theorem decR_bad {s : List UInt8} {n : Nat} (h : decB s = some n) : decR s = badR (n : Nat) := by unfold decR; rw [h]
theorem decR_ok {s : List UInt8} (h : decB s = none) : decR s = .tuple ⟨[.agg ⟨sgV (decP s)⟩, .int .i64 0, .int .i64 0]⟩ := by unfold decR; rw [h]
theorem Decode (s : List UInt8) (hs : s.length ≤ 100000) (H : AHeap) : ARet Try.prog 12 [.string (bs s)] H (decR s) H := by
  have hB := fun n H => bad n H
  unfold badR zeroS at hB
  by_cases g1 : s.length < 24
  · rw [decR_bad (by unfold decB; rw [if_pos g1])]
    have g1' : (s.length : Int) < 24 := by omega
    unfold badR zeroS
    refine AC.enter Try.func12 rfl (by kernel_rfl) 163 rfl [.cell 2 23, .tmp 3, .tmp 4] rfl (by simp) fun hsc B => ?_
    repeat first
      | with_reducible refine AWP.seq ?_
      | ((with_reducible refine AWP.region ?_ ?_); exact rfl)
      | with_reducible refine AWP.block ?_
      | with_reducible refine AWP.skip ?_
      | with_reducible refine AWP.exit ?_
      | with_reducible refine AWP.ret ?_
      | with_reducible refine AWP.label ?_
      | with_reducible refine AWP.goto ?_
      | ((with_reducible refine AWP.condT ?_ ?_); focus (simp only [ev, lk_cons, ↓reduceIte, Nat.reduceEqDiff]; done))
      | ((with_reducible refine AWP.condF ?_ ?_); focus (simp only [ev, lk_cons, ↓reduceIte, Nat.reduceEqDiff]; done))
      | with_reducible refine (hB _ _).use ?_
      | simp only [go_sem, ↓reduceIte, Nat.reduceEqDiff, reduceCtorEq, Nat.reduceAdd, Int.reduceEq, Int.reduceBNe, Int.reduceBEq, Int.reduceToNat, Int.reduceLT, Int.reduceLE, Int.reduceGT, Int.reduceGE, Nat.reduceSub, Nat.reduceBEq, Nat.reduceBNe, Int.reduceAdd, Int.reduceSub, Int.reduceMul, Int.reduceNeg, Nat.reduceMul, Nat.reduceLeDiff, Nat.reduceLT, g1']
      | simp (disch := omega) only [wi64, wu8, wu16, wu32, wu64]
      | with_reducible_and_instances exact finR
      | ((with_reducible refine finR' ?_ ?_) <;> rfl)
      | ((with_reducible refine finD hsc (NRel.of_plain ?_)); exact rfl)
    exact finD hsc (by simp only [nr_tuple, nrs_cons, nrs_nil, nr_agg, nr_int, nr_string, and_self])
  have g1' : ¬ (s.length : Int) < 24 := by omega
  obtain ⟨b4, h4⟩ : ∃ b, s[4]? = some b := ⟨_, List.getElem?_eq_getElem (by omega)⟩
  obtain ⟨b5, h5⟩ : ∃ b, s[5]? = some b := ⟨_, List.getElem?_eq_getElem (by omega)⟩
  have hK : kindN s = b4.toNat := by unfold kindN; rw [List.getD_eq_getElem?_getD, h4]; rfl
  have hM : markN s = b5.toNat := by unfold markN; rw [List.getD_eq_getElem?_getD, h5]; rfl
  have hb4 := b4.toNat_lt
  have hb5 := b5.toNat_lt
  have w5 : IntKind.i64.wrap ((b5.toNat : Nat) : Int) = ((b5.toNat : Nat) : Int) := wi64 (by omega)
  have w4 : IntKind.i64.wrap ((b4.toNat : Nat) : Int) = ((b4.toNat : Nat) : Int) := wi64 (by omega)
  have main : ∀ R : Value, decR s = R → (markN s ≤ 4 → ¬ s.length < 24 + markN s) → ARet Try.prog 12 [.string (bs s)] H R H := by
    intro R hR g2
    have hS := Sum (s.drop 4) (by rw [List.length_drop]; omega)
    have hsl := sumL_len (s.drop 4)
    obtain ⟨u, hu, hu2⟩ : ∃ u : Bool, (if ((b5.toNat : Nat) : Int) ≤ 4 then decide ((s.length : Int) < 24 + ((b5.toNat : Nat) : Int)) else false) = u ∧ u = false := ⟨_, rfl, by
      split
      · have := g2 (by omega); rw [decide_eq_false_iff_not]; omega
      · rfl⟩
    have cut : ∀ x : Bool, decide (((b5.toNat : Nat) : Int) ≤ 4) = x → ARet Try.prog 12 [.string (bs s)] H R H := by
      intro x hx
      have hlt : x = true → ¬ (s.length : Int) < 24 + ((b5.toNat : Nat) : Int) := fun h => by
        rw [h] at hx
        have := g2 (by have := of_decide_eq_true hx; omega)
        omega
      cases x with
      | true =>
          have hlt' := hlt rfl
          have v1 : ∀ H, ARet Try.prog 31 [.string (bs (List.drop 6 (List.take 8 s)))] H (.int .i64 (valN (List.drop 6 (List.take 8 s)) : Nat)) H := value (List.drop 6 (List.take 8 s)) (by rw [List.length_drop, List.length_take]; omega)
          have v2 : ∀ H, ARet Try.prog 31 [.string (bs (List.drop 8 (List.take 10 s)))] H (.int .i64 (valN (List.drop 8 (List.take 10 s)) : Nat)) H := value (List.drop 8 (List.take 10 s)) (by rw [List.length_drop, List.length_take]; omega)
          have v3 : ∀ H, ARet Try.prog 31 [.string (bs (List.drop 10 (List.take 12 s)))] H (.int .i64 (valN (List.drop 10 (List.take 12 s)) : Nat)) H := value (List.drop 10 (List.take 12 s)) (by rw [List.length_drop, List.length_take]; omega)
          have v4 : ∀ H, ARet Try.prog 31 [.string (bs (List.drop 12 (List.take 16 s)))] H (.int .i64 (valN (List.drop 12 (List.take 16 s)) : Nat)) H := value (List.drop 12 (List.take 16 s)) (by rw [List.length_drop, List.length_take]; omega)
          have v5 : ∀ H, ARet Try.prog 31 [.string (bs (List.drop 16 (List.take 20 s)))] H (.int .i64 (valN (List.drop 16 (List.take 20 s)) : Nat)) H := value (List.drop 16 (List.take 20 s)) (by rw [List.length_drop, List.length_take]; omega)
          have v6 : ∀ H, ARet Try.prog 31 [.string (bs (List.drop 20 (List.take 24 s)))] H (.int .i64 (valN (List.drop 20 (List.take 24 s)) : Nat)) H := value (List.drop 20 (List.take 24 s)) (by rw [List.length_drop, List.length_take]; omega)
          have hM4' : ((b5.toNat : Nat) : Int) ≤ 4 := of_decide_eq_true hx
          have hgl : 24 + b5.toNat ≤ s.length := by have := hlt rfl; omega
          refine AC.enter Try.func12 rfl (by kernel_rfl) 163 rfl [.cell 2 23, .tmp 3, .tmp 4] rfl (by simp) fun hsc B => ?_
          repeat first
            | with_reducible refine AWP.seq ?_
            | ((with_reducible refine AWP.region ?_ ?_); exact rfl)
            | with_reducible refine AWP.block ?_
            | with_reducible refine AWP.skip ?_
            | with_reducible refine AWP.exit ?_
            | with_reducible refine AWP.ret ?_
            | with_reducible refine AWP.label ?_
            | with_reducible refine AWP.goto ?_
            | ((with_reducible refine AWP.condT ?_ ?_); focus (simp only [ev, lk_cons, ↓reduceIte, Nat.reduceEqDiff]; done))
            | ((with_reducible refine AWP.condF ?_ ?_); focus (simp only [ev, lk_cons, ↓reduceIte, Nat.reduceEqDiff]; done))
            | simp only [go_sem, ↓reduceIte, Nat.reduceEqDiff, reduceCtorEq, Nat.reduceAdd, Int.reduceEq, Int.reduceBNe, Int.reduceBEq, Int.reduceToNat, Int.reduceLT, Int.reduceLE, Int.reduceGT, Int.reduceGE, Nat.reduceSub, Nat.reduceBEq, Nat.reduceBNe, Int.reduceAdd, Int.reduceSub, Int.reduceMul, Int.reduceNeg, Nat.reduceMul, Nat.reduceLeDiff, Nat.reduceLT, g1', h5, w5, hx, hlt']
            | simp (disch := omega) only [wi64, wu8, wu16, wu32, wu64]
            | with_reducible_and_instances exact finR
            | ((with_reducible refine finR' ?_ ?_) <;> rfl)
            | ((with_reducible refine finD hsc (NRel.of_plain ?_)); exact rfl)
          refine AWP.regionK 7 (by kernel_rfl) (by decide) (by kernel_rfl) ?_
          repeat first
            | with_reducible refine AWP.seq ?_
            | ((with_reducible refine AWP.region ?_ ?_); exact rfl)
            | with_reducible refine AWP.block ?_
            | with_reducible refine AWP.skip ?_
            | with_reducible refine AWP.exit ?_
            | with_reducible refine AWP.ret ?_
            | with_reducible refine AWP.label ?_
            | with_reducible refine AWP.goto ?_
            | ((with_reducible refine AWP.condT ?_ ?_); focus (simp only [ev, lk_cons, ↓reduceIte, Nat.reduceEqDiff]; done))
            | ((with_reducible refine AWP.condF ?_ ?_); focus (simp only [ev, lk_cons, ↓reduceIte, Nat.reduceEqDiff]; done))
            | simp only [go_sem, ↓reduceIte, Nat.reduceEqDiff, reduceCtorEq, Nat.reduceAdd, Int.reduceEq, Int.reduceBNe, Int.reduceBEq, Int.reduceToNat, Int.reduceLT, Int.reduceLE, Int.reduceGT, Int.reduceGE, Nat.reduceSub, Nat.reduceBEq, Nat.reduceBNe, Int.reduceAdd, Int.reduceSub, Int.reduceMul, Int.reduceNeg, Nat.reduceMul, Nat.reduceLeDiff, Nat.reduceLT]
            | simp (disch := omega) only [wi64, wu8, wu16, wu32, wu64]
            | with_reducible_and_instances exact finR
            | ((with_reducible refine finR' ?_ ?_) <;> rfl)
            | ((with_reducible refine finD hsc (NRel.of_plain ?_)); exact rfl)
          refine ⟨by omega, by omega, ?_⟩
          rw [List.take_length]
          refine ARet.exq (hS _) (by simp only [go_sem, ↓reduceIte, Nat.reduceEqDiff, reduceCtorEq, Nat.reduceAdd, Int.reduceEq, Int.reduceBNe, Int.reduceBEq, Int.reduceToNat, Int.reduceLT, Int.reduceLE, Int.reduceGT, Int.reduceGE, Nat.reduceSub, Nat.reduceBEq, Nat.reduceBNe, Int.reduceAdd, Int.reduceSub, Int.reduceMul, Int.reduceNeg, Nat.reduceMul, Nat.reduceLeDiff, Nat.reduceLT]) ?_
          repeat first
            | with_reducible refine AWP.seq ?_
            | ((with_reducible refine AWP.region ?_ ?_); exact rfl)
            | with_reducible refine AWP.block ?_
            | with_reducible refine AWP.skip ?_
            | with_reducible refine AWP.exit ?_
            | with_reducible refine AWP.ret ?_
            | with_reducible refine AWP.label ?_
            | with_reducible refine AWP.goto ?_
            | ((with_reducible refine AWP.condT ?_ ?_); focus (simp only [ev, lk_cons, ↓reduceIte, Nat.reduceEqDiff]; done))
            | ((with_reducible refine AWP.condF ?_ ?_); focus (simp only [ev, lk_cons, ↓reduceIte, Nat.reduceEqDiff]; done))
            | simp only [go_sem, ↓reduceIte, Nat.reduceEqDiff, reduceCtorEq, Nat.reduceAdd, Int.reduceEq, Int.reduceBNe, Int.reduceBEq, Int.reduceToNat, Int.reduceLT, Int.reduceLE, Int.reduceGT, Int.reduceGE, Nat.reduceSub, Nat.reduceBEq, Nat.reduceBNe, Int.reduceAdd, Int.reduceSub, Int.reduceMul, Int.reduceNeg, Nat.reduceMul, Nat.reduceLeDiff, Nat.reduceLT, hsl]
            | simp (disch := omega) only [wi64, wu8, wu16, wu32, wu64]
            | with_reducible_and_instances exact finR
            | ((with_reducible refine finR' ?_ ?_) <;> rfl)
            | ((with_reducible refine finD hsc (NRel.of_plain ?_)); exact rfl)
          refine ⟨by omega, ?_⟩
          rcases Decidable.em ((sumL (s.drop 4)).take 4 = s.take 4) with g3 | g3
          rotate_left
          have g3e : ((sumL (s.drop 4)).take 4 == s.take 4) = false := beq_eq_false_iff_ne.2 g3
          · rw [← hR, decR_bad (by unfold decB; rw [if_neg g1, if_neg (fun h => g2 h.1 h.2), if_pos g3])]
            unfold badR zeroS
            repeat first
              | with_reducible refine AWP.seq ?_
              | ((with_reducible refine AWP.region ?_ ?_); exact rfl)
              | with_reducible refine AWP.block ?_
              | with_reducible refine AWP.skip ?_
              | with_reducible refine AWP.exit ?_
              | with_reducible refine AWP.ret ?_
              | with_reducible refine AWP.label ?_
              | with_reducible refine AWP.goto ?_
              | ((with_reducible refine AWP.condT ?_ ?_); focus (simp only [ev, lk_cons, ↓reduceIte, Nat.reduceEqDiff]; done))
              | ((with_reducible refine AWP.condF ?_ ?_); focus (simp only [ev, lk_cons, ↓reduceIte, Nat.reduceEqDiff]; done))
              | with_reducible refine (hB _ _).use ?_
              | simp only [go_sem, ↓reduceIte, Nat.reduceEqDiff, reduceCtorEq, Nat.reduceAdd, Int.reduceEq, Int.reduceBNe, Int.reduceBEq, Int.reduceToNat, Int.reduceLT, Int.reduceLE, Int.reduceGT, Int.reduceGE, Nat.reduceSub, Nat.reduceBEq, Nat.reduceBNe, Int.reduceAdd, Int.reduceSub, Int.reduceMul, Int.reduceNeg, Nat.reduceMul, Nat.reduceLeDiff, Nat.reduceLT, g3e]
              | simp (disch := omega) only [wi64, wu8, wu16, wu32, wu64]
              | with_reducible_and_instances exact finR
              | ((with_reducible refine finR' ?_ ?_) <;> rfl)
              | ((with_reducible refine finD hsc (NRel.of_plain ?_)); exact rfl)
            exact finD hsc (by simp only [nr_tuple, nrs_cons, nrs_nil, nr_agg, nr_int, nr_string, and_self])
          have g3e : ((sumL (s.drop 4)).take 4 == s.take 4) = true := by rw [g3]; exact beq_self_eq_true _
          rcases Decidable.em (((b4.toNat : Nat) : Int) < 1) with k1 | k1
          · rw [← hR, decR_bad (by unfold decB; rw [if_neg g1, if_neg (fun h => g2 h.1 h.2), if_neg (not_not_intro g3), hK, if_pos (by omega)])]
            unfold badR zeroS
            repeat first
              | with_reducible refine AWP.seq ?_
              | ((with_reducible refine AWP.region ?_ ?_); exact rfl)
              | with_reducible refine AWP.block ?_
              | with_reducible refine AWP.skip ?_
              | with_reducible refine AWP.exit ?_
              | with_reducible refine AWP.ret ?_
              | with_reducible refine AWP.label ?_
              | with_reducible refine AWP.goto ?_
              | ((with_reducible refine AWP.condT ?_ ?_); focus (simp only [ev, lk_cons, ↓reduceIte, Nat.reduceEqDiff]; done))
              | ((with_reducible refine AWP.condF ?_ ?_); focus (simp only [ev, lk_cons, ↓reduceIte, Nat.reduceEqDiff]; done))
              | with_reducible refine (hB _ _).use ?_
              | simp only [go_sem, ↓reduceIte, Nat.reduceEqDiff, reduceCtorEq, Nat.reduceAdd, Int.reduceEq, Int.reduceBNe, Int.reduceBEq, Int.reduceToNat, Int.reduceLT, Int.reduceLE, Int.reduceGT, Int.reduceGE, Nat.reduceSub, Nat.reduceBEq, Nat.reduceBNe, Int.reduceAdd, Int.reduceSub, Int.reduceMul, Int.reduceNeg, Nat.reduceMul, Nat.reduceLeDiff, Nat.reduceLT, g3e, h4, k1]
              | simp (disch := omega) only [wi64, wu8, wu16, wu32, wu64]
              | with_reducible_and_instances exact finR
              | ((with_reducible refine finR' ?_ ?_) <;> rfl)
              | ((with_reducible refine finD hsc (NRel.of_plain ?_)); exact rfl)
            exact finD hsc (by simp only [nr_tuple, nrs_cons, nrs_nil, nr_agg, nr_int, nr_string, and_self])
          rcases Decidable.em (((b4.toNat : Nat) : Int) > 5) with k2 | k2
          · rw [← hR, decR_bad (by unfold decB; rw [if_neg g1, if_neg (fun h => g2 h.1 h.2), if_neg (not_not_intro g3), hK, if_pos (by omega)])]
            unfold badR zeroS
            repeat first
              | with_reducible refine AWP.seq ?_
              | ((with_reducible refine AWP.region ?_ ?_); exact rfl)
              | with_reducible refine AWP.block ?_
              | with_reducible refine AWP.skip ?_
              | with_reducible refine AWP.exit ?_
              | with_reducible refine AWP.ret ?_
              | with_reducible refine AWP.label ?_
              | with_reducible refine AWP.goto ?_
              | ((with_reducible refine AWP.condT ?_ ?_); focus (simp only [ev, lk_cons, ↓reduceIte, Nat.reduceEqDiff]; done))
              | ((with_reducible refine AWP.condF ?_ ?_); focus (simp only [ev, lk_cons, ↓reduceIte, Nat.reduceEqDiff]; done))
              | with_reducible refine (hB _ _).use ?_
              | simp only [go_sem, ↓reduceIte, Nat.reduceEqDiff, reduceCtorEq, Nat.reduceAdd, Int.reduceEq, Int.reduceBNe, Int.reduceBEq, Int.reduceToNat, Int.reduceLT, Int.reduceLE, Int.reduceGT, Int.reduceGE, Nat.reduceSub, Nat.reduceBEq, Nat.reduceBNe, Int.reduceAdd, Int.reduceSub, Int.reduceMul, Int.reduceNeg, Nat.reduceMul, Nat.reduceLeDiff, Nat.reduceLT, g3e, h4, k1, k2]
              | simp (disch := omega) only [wi64, wu8, wu16, wu32, wu64]
              | with_reducible_and_instances exact finR
              | ((with_reducible refine finR' ?_ ?_) <;> rfl)
              | ((with_reducible refine finD hsc (NRel.of_plain ?_)); exact rfl)
            exact finD hsc (by simp only [nr_tuple, nrs_cons, nrs_nil, nr_agg, nr_int, nr_string, and_self])
          have hM4 : ¬ ((b5.toNat : Nat) : Int) > 4 := by have := of_decide_eq_true hx; omega
          repeat first
            | with_reducible refine AWP.seq ?_
            | ((with_reducible refine AWP.region ?_ ?_); exact rfl)
            | with_reducible refine AWP.block ?_
            | with_reducible refine AWP.skip ?_
            | with_reducible refine AWP.exit ?_
            | with_reducible refine AWP.ret ?_
            | with_reducible refine AWP.label ?_
            | with_reducible refine AWP.goto ?_
            | ((with_reducible refine AWP.condT ?_ ?_); focus (simp only [ev, lk_cons, ↓reduceIte, Nat.reduceEqDiff]; done))
            | ((with_reducible refine AWP.condF ?_ ?_); focus (simp only [ev, lk_cons, ↓reduceIte, Nat.reduceEqDiff]; done))
            | simp only [go_sem, ↓reduceIte, Nat.reduceEqDiff, reduceCtorEq, Nat.reduceAdd, Int.reduceEq, Int.reduceBNe, Int.reduceBEq, Int.reduceToNat, Int.reduceLT, Int.reduceLE, Int.reduceGT, Int.reduceGE, Nat.reduceSub, Nat.reduceBEq, Nat.reduceBNe, Int.reduceAdd, Int.reduceSub, Int.reduceMul, Int.reduceNeg, Nat.reduceMul, Nat.reduceLeDiff, Nat.reduceLT, g3e, h4, k1, k2, hM4]
            | simp (disch := omega) only [wi64, wu8, wu16, wu32, wu64]
            | with_reducible_and_instances exact finR
            | ((with_reducible refine finR' ?_ ?_) <;> rfl)
            | ((with_reducible refine finD hsc (NRel.of_plain ?_)); exact rfl)
          refine AWP.regionF 31 30 [0, 1, 2, 3, 4, 5, 6, 7, 8, 9, 10, 11, 12, 13, 14, 15, 16, 17, 18, 19, 20, 21, 22, 23, 24, 25, 26, 27, 28, 29] (by kernel_rfl) (by decide) (by kernel_rfl) (by kernel_rfl) rfl ?_
          repeat first
            | with_reducible refine AWP.seq ?_
            | ((with_reducible refine AWP.region ?_ ?_); exact rfl)
            | with_reducible refine AWP.block ?_
            | with_reducible refine AWP.skip ?_
            | with_reducible refine AWP.exit ?_
            | with_reducible refine AWP.ret ?_
            | with_reducible refine AWP.label ?_
            | with_reducible refine AWP.goto ?_
            | ((with_reducible refine AWP.condT ?_ ?_); focus (simp only [ev, lk_cons, ↓reduceIte, Nat.reduceEqDiff]; done))
            | ((with_reducible refine AWP.condF ?_ ?_); focus (simp only [ev, lk_cons, ↓reduceIte, Nat.reduceEqDiff]; done))
            | simp only [go_sem, ↓reduceIte, Nat.reduceEqDiff, reduceCtorEq, Nat.reduceAdd, Int.reduceEq, Int.reduceBNe, Int.reduceBEq, Int.reduceToNat, Int.reduceLT, Int.reduceLE, Int.reduceGT, Int.reduceGE, Nat.reduceSub, Nat.reduceBEq, Nat.reduceBNe, Int.reduceAdd, Int.reduceSub, Int.reduceMul, Int.reduceNeg, Nat.reduceMul, Nat.reduceLeDiff, Nat.reduceLT, h4, w4, keepW, dstV, exists_eq_left, pickO, List.map_cons, List.map_nil]
            | simp (disch := omega) only [wi64, wu8, wu16, wu32, wu64]
            | with_reducible_and_instances exact finR
            | ((with_reducible refine finR' ?_ ?_) <;> rfl)
            | ((with_reducible refine finD hsc (NRel.of_plain ?_)); exact rfl)
          refine ⟨by omega, ?_⟩
          refine ARet.exq (v1 _) (by simp only [go_sem, ↓reduceIte, Nat.reduceEqDiff, reduceCtorEq, Nat.reduceAdd, Int.reduceEq, Int.reduceBNe, Int.reduceBEq, Int.reduceToNat, Int.reduceLT, Int.reduceLE, Int.reduceGT, Int.reduceGE, Nat.reduceSub, Nat.reduceBEq, Nat.reduceBNe, Int.reduceAdd, Int.reduceSub, Int.reduceMul, Int.reduceNeg, Nat.reduceMul, Nat.reduceLeDiff, Nat.reduceLT]) ?_
          refine ⟨by omega, ?_⟩
          refine ARet.exq (v2 _) (by simp only [go_sem, ↓reduceIte, Nat.reduceEqDiff, reduceCtorEq, Nat.reduceAdd, Int.reduceEq, Int.reduceBNe, Int.reduceBEq, Int.reduceToNat, Int.reduceLT, Int.reduceLE, Int.reduceGT, Int.reduceGE, Nat.reduceSub, Nat.reduceBEq, Nat.reduceBNe, Int.reduceAdd, Int.reduceSub, Int.reduceMul, Int.reduceNeg, Nat.reduceMul, Nat.reduceLeDiff, Nat.reduceLT]) ?_
          refine ⟨by omega, ?_⟩
          refine ARet.exq (v3 _) (by simp only [go_sem, ↓reduceIte, Nat.reduceEqDiff, reduceCtorEq, Nat.reduceAdd, Int.reduceEq, Int.reduceBNe, Int.reduceBEq, Int.reduceToNat, Int.reduceLT, Int.reduceLE, Int.reduceGT, Int.reduceGE, Nat.reduceSub, Nat.reduceBEq, Nat.reduceBNe, Int.reduceAdd, Int.reduceSub, Int.reduceMul, Int.reduceNeg, Nat.reduceMul, Nat.reduceLeDiff, Nat.reduceLT]) ?_
          refine ⟨by omega, ?_⟩
          refine ARet.exq (v4 _) (by simp only [go_sem, ↓reduceIte, Nat.reduceEqDiff, reduceCtorEq, Nat.reduceAdd, Int.reduceEq, Int.reduceBNe, Int.reduceBEq, Int.reduceToNat, Int.reduceLT, Int.reduceLE, Int.reduceGT, Int.reduceGE, Nat.reduceSub, Nat.reduceBEq, Nat.reduceBNe, Int.reduceAdd, Int.reduceSub, Int.reduceMul, Int.reduceNeg, Nat.reduceMul, Nat.reduceLeDiff, Nat.reduceLT]) ?_
          refine ⟨by omega, ?_⟩
          refine ARet.exq (v5 _) (by simp only [go_sem, ↓reduceIte, Nat.reduceEqDiff, reduceCtorEq, Nat.reduceAdd, Int.reduceEq, Int.reduceBNe, Int.reduceBEq, Int.reduceToNat, Int.reduceLT, Int.reduceLE, Int.reduceGT, Int.reduceGE, Nat.reduceSub, Nat.reduceBEq, Nat.reduceBNe, Int.reduceAdd, Int.reduceSub, Int.reduceMul, Int.reduceNeg, Nat.reduceMul, Nat.reduceLeDiff, Nat.reduceLT]) ?_
          refine ⟨by omega, ?_⟩
          refine ARet.exq (v6 _) (by simp only [go_sem, ↓reduceIte, Nat.reduceEqDiff, reduceCtorEq, Nat.reduceAdd, Int.reduceEq, Int.reduceBNe, Int.reduceBEq, Int.reduceToNat, Int.reduceLT, Int.reduceLE, Int.reduceGT, Int.reduceGE, Nat.reduceSub, Nat.reduceBEq, Nat.reduceBNe, Int.reduceAdd, Int.reduceSub, Int.reduceMul, Int.reduceNeg, Nat.reduceMul, Nat.reduceLeDiff, Nat.reduceLT]) ?_
          repeat first
            | with_reducible refine AWP.seq ?_
            | ((with_reducible refine AWP.region ?_ ?_); exact rfl)
            | with_reducible refine AWP.block ?_
            | with_reducible refine AWP.skip ?_
            | with_reducible refine AWP.exit ?_
            | with_reducible refine AWP.ret ?_
            | with_reducible refine AWP.label ?_
            | with_reducible refine AWP.goto ?_
            | ((with_reducible refine AWP.condT ?_ ?_); focus (simp only [ev, lk_cons, ↓reduceIte, Nat.reduceEqDiff]; done))
            | ((with_reducible refine AWP.condF ?_ ?_); focus (simp only [ev, lk_cons, ↓reduceIte, Nat.reduceEqDiff]; done))
            | simp only [go_sem, ↓reduceIte, Nat.reduceEqDiff, reduceCtorEq, Nat.reduceAdd, Int.reduceEq, Int.reduceBNe, Int.reduceBEq, Int.reduceToNat, Int.reduceLT, Int.reduceLE, Int.reduceGT, Int.reduceGE, Nat.reduceSub, Nat.reduceBEq, Nat.reduceBNe, Int.reduceAdd, Int.reduceSub, Int.reduceMul, Int.reduceNeg, Nat.reduceMul, Nat.reduceLeDiff, Nat.reduceLT, h4, w4, hM4']
            | simp (disch := omega) only [wi64, wu8, wu16, wu32, wu64]
            | with_reducible_and_instances exact finR
            | ((with_reducible refine finR' ?_ ?_) <;> rfl)
            | ((with_reducible refine finD hsc (NRel.of_plain ?_)); exact rfl)
          repeat' first
            | omega
            | with_reducible refine And.intro ?_ ?_
            | with_reducible refine AWP.seq ?_
            | ((with_reducible refine AWP.region ?_ ?_); exact rfl)
            | with_reducible refine AWP.block ?_
            | with_reducible refine AWP.skip ?_
            | with_reducible refine AWP.exit ?_
            | with_reducible refine AWP.ret ?_
            | with_reducible refine AWP.label ?_
            | with_reducible refine AWP.goto ?_
            | ((with_reducible refine AWP.condT ?_ ?_); focus (simp only [ev, lk_cons, ↓reduceIte, Nat.reduceEqDiff]; done))
            | ((with_reducible refine AWP.condF ?_ ?_); focus (simp only [ev, lk_cons, ↓reduceIte, Nat.reduceEqDiff]; done))
            | with_reducible refine (v1 _).use ?_
            | with_reducible refine (v2 _).use ?_
            | with_reducible refine (v3 _).use ?_
            | with_reducible refine (v4 _).use ?_
            | with_reducible refine (v5 _).use ?_
            | with_reducible refine (v6 _).use ?_
            | simp only [go_sem, ↓reduceIte, Nat.reduceEqDiff, reduceCtorEq, Nat.reduceAdd, Int.reduceEq, Int.reduceBNe, Int.reduceBEq, Int.reduceToNat, Int.reduceLT, Int.reduceLE, Int.reduceGT, Int.reduceGE, Nat.reduceSub, Nat.reduceBEq, Nat.reduceBNe, Int.reduceAdd, Int.reduceSub, Int.reduceMul, Int.reduceNeg, Nat.reduceMul, Nat.reduceLeDiff, Nat.reduceLT, List.take_length]
            | simp (disch := omega) only [wi64, wu8, wu16, wu32, wu64]
            | with_reducible_and_instances exact finR
            | ((with_reducible refine finR' ?_ ?_) <;> rfl)
            | ((with_reducible refine finD hsc (NRel.of_plain ?_)); exact rfl)
          have ht : ((24 : Int) + ((b5.toNat : Nat) : Int)).toNat = 24 + b5.toNat := by omega
          have dw : (decP s).window = valN (List.drop 20 (List.take 24 s)) := rfl
          have db : (decP s).body = List.drop (24 + b5.toNat) s := by show List.drop (24 + markN s) s = _; rw [hM]
          have hsg : sgV (decP s) = [.int .i64 (b4.toNat : Nat), .int .i64 (valN (List.drop 6 (List.take 8 s)) : Nat), .int .i64 (valN (List.drop 8 (List.take 10 s)) : Nat), .int .i64 (valN (List.drop 10 (List.take 12 s)) : Nat), .int .i64 (valN (List.drop 20 (List.take 24 s)) : Nat), .string (bs (List.drop 24 (List.take (24 + b5.toNat) s))), .string (bs (List.drop (24 + b5.toNat) s)), .int .i64 (valN (List.drop 12 (List.take 16 s)) : Nat), .int .i64 (valN (List.drop 16 (List.take 20 s)) : Nat)] := by
            simp only [sgV, sgC, decP, sl, hK, hM]
          rw [ht]
          have eB := emptyB (b := List.drop (24 + b5.toNat) s)
          generalize List.drop (24 + b5.toNat) s = Bd at db hsg eB ⊢
          generalize valN (List.drop 20 (List.take 24 s)) = wd at dw hsg ⊢
          rcases Decidable.em ((wd : Int) > 1000000) with q1 | q1
          · skip
            rw [← hR, decR_bad (by unfold decB; rw [if_neg g1, if_neg (fun h => g2 h.1 h.2), if_neg (not_not_intro g3), hK, if_neg (by omega), hM, if_neg (by omega), dw, if_pos (by omega)])]
            unfold badR zeroS
            repeat first
              | with_reducible refine AWP.seq ?_
              | ((with_reducible refine AWP.region ?_ ?_); exact rfl)
              | with_reducible refine AWP.block ?_
              | with_reducible refine AWP.skip ?_
              | with_reducible refine AWP.exit ?_
              | with_reducible refine AWP.ret ?_
              | with_reducible refine AWP.label ?_
              | with_reducible refine AWP.goto ?_
              | ((with_reducible refine AWP.condT ?_ ?_); focus (simp only [ev, lk_cons, ↓reduceIte, Nat.reduceEqDiff]; done))
              | ((with_reducible refine AWP.condF ?_ ?_); focus (simp only [ev, lk_cons, ↓reduceIte, Nat.reduceEqDiff]; done))
              | with_reducible refine (hB _ _).use ?_
              | simp only [go_sem, ↓reduceIte, Nat.reduceEqDiff, reduceCtorEq, Nat.reduceAdd, Int.reduceEq, Int.reduceBNe, Int.reduceBEq, Int.reduceToNat, Int.reduceLT, Int.reduceLE, Int.reduceGT, Int.reduceGE, Nat.reduceSub, Nat.reduceBEq, Nat.reduceBNe, Int.reduceAdd, Int.reduceSub, Int.reduceMul, Int.reduceNeg, Nat.reduceMul, Nat.reduceLeDiff, Nat.reduceLT, q1]
              | simp (disch := omega) only [wi64, wu8, wu16, wu32, wu64]
              | with_reducible_and_instances exact finR
              | ((with_reducible refine finR' ?_ ?_) <;> rfl)
              | ((with_reducible refine finD hsc (NRel.of_plain ?_)); exact rfl)
            exact finD hsc (by simp only [nr_tuple, nrs_cons, nrs_nil, nr_agg, nr_int, nr_string, and_self])
          rcases Decidable.em (b4.toNat = 2) with q2 | q2
          · have e2 : (((b4.toNat : Nat) : Int) == 2) = true := by rw [q2]; rfl
            have n2 : (((b4.toNat : Nat) : Int) != 2) = false := by rw [q2]; rfl
            rcases Decidable.em (Bd.length = 0) with q3 | q3
            · have hnil : Bd = [] := List.eq_nil_of_length_eq_zero q3
              rw [← hR, decR_bad (by unfold decB; rw [if_neg g1, if_neg (fun h => g2 h.1 h.2), if_neg (not_not_intro g3), hK, if_neg (by omega), hM, if_neg (by omega), dw, if_neg (by omega), db, if_pos ⟨q2, hnil⟩])]
              unfold badR zeroS
              repeat first
                | with_reducible refine AWP.seq ?_
                | ((with_reducible refine AWP.region ?_ ?_); exact rfl)
                | with_reducible refine AWP.block ?_
                | with_reducible refine AWP.skip ?_
                | with_reducible refine AWP.exit ?_
                | with_reducible refine AWP.ret ?_
                | with_reducible refine AWP.label ?_
                | with_reducible refine AWP.goto ?_
                | ((with_reducible refine AWP.condT ?_ ?_); focus (simp only [ev, lk_cons, ↓reduceIte, Nat.reduceEqDiff]; done))
                | ((with_reducible refine AWP.condF ?_ ?_); focus (simp only [ev, lk_cons, ↓reduceIte, Nat.reduceEqDiff]; done))
                | with_reducible refine (hB _ _).use ?_
                | simp only [go_sem, ↓reduceIte, Nat.reduceEqDiff, reduceCtorEq, Nat.reduceAdd, Int.reduceEq, Int.reduceBNe, Int.reduceBEq, Int.reduceToNat, Int.reduceLT, Int.reduceLE, Int.reduceGT, Int.reduceGE, Nat.reduceSub, Nat.reduceBEq, Nat.reduceBNe, Int.reduceAdd, Int.reduceSub, Int.reduceMul, Int.reduceNeg, Nat.reduceMul, Nat.reduceLeDiff, Nat.reduceLT, q1, e2, n2, eB, q3]
                | simp (disch := omega) only [wi64, wu8, wu16, wu32, wu64]
                | with_reducible_and_instances exact finR
                | ((with_reducible refine finR' ?_ ?_) <;> rfl)
                | ((with_reducible refine finD hsc (NRel.of_plain ?_)); exact rfl)
              exact finD hsc (by simp only [nr_tuple, nrs_cons, nrs_nil, nr_agg, nr_int, nr_string, and_self])
            · have hnn : ¬ Bd = [] := fun h => q3 (by rw [h]; rfl)
              rcases Decidable.em ((Bd.length : Int) > 1400) with q4 | q4
              · skip
                rw [← hR, decR_bad (by unfold decB; rw [if_neg g1, if_neg (fun h => g2 h.1 h.2), if_neg (not_not_intro g3), hK, if_neg (by omega), hM, if_neg (by omega), dw, if_neg (by omega), db, if_neg (fun h => hnn h.2), if_pos ⟨q2, by omega⟩])]
                unfold badR zeroS
                repeat first
                  | with_reducible refine AWP.seq ?_
                  | ((with_reducible refine AWP.region ?_ ?_); exact rfl)
                  | with_reducible refine AWP.block ?_
                  | with_reducible refine AWP.skip ?_
                  | with_reducible refine AWP.exit ?_
                  | with_reducible refine AWP.ret ?_
                  | with_reducible refine AWP.label ?_
                  | with_reducible refine AWP.goto ?_
                  | ((with_reducible refine AWP.condT ?_ ?_); focus (simp only [ev, lk_cons, ↓reduceIte, Nat.reduceEqDiff]; done))
                  | ((with_reducible refine AWP.condF ?_ ?_); focus (simp only [ev, lk_cons, ↓reduceIte, Nat.reduceEqDiff]; done))
                  | with_reducible refine (hB _ _).use ?_
                  | simp only [go_sem, ↓reduceIte, Nat.reduceEqDiff, reduceCtorEq, Nat.reduceAdd, Int.reduceEq, Int.reduceBNe, Int.reduceBEq, Int.reduceToNat, Int.reduceLT, Int.reduceLE, Int.reduceGT, Int.reduceGE, Nat.reduceSub, Nat.reduceBEq, Nat.reduceBNe, Int.reduceAdd, Int.reduceSub, Int.reduceMul, Int.reduceNeg, Nat.reduceMul, Nat.reduceLeDiff, Nat.reduceLT, q1, e2, n2, eB, q3, q4, Int.natCast_add]
                  | simp (disch := omega) only [wi64, wu8, wu16, wu32, wu64]
                  | with_reducible_and_instances exact finR
                  | ((with_reducible refine finR' ?_ ?_) <;> rfl)
                  | ((with_reducible refine finD hsc (NRel.of_plain ?_)); exact rfl)
                exact finD hsc (by simp only [nr_tuple, nrs_cons, nrs_nil, nr_agg, nr_int, nr_string, and_self])
              · skip
                rw [← hR, decR_ok (by unfold decB; rw [if_neg g1, if_neg (fun h => g2 h.1 h.2), if_neg (not_not_intro g3), hK, if_neg (by omega), hM, if_neg (by omega), dw, if_neg (by omega), db, if_neg (fun h => hnn h.2), if_neg (fun h => by omega), if_neg (fun h => h.1 q2)]), hsg]
                repeat first
                  | with_reducible refine AWP.seq ?_
                  | ((with_reducible refine AWP.region ?_ ?_); exact rfl)
                  | with_reducible refine AWP.block ?_
                  | with_reducible refine AWP.skip ?_
                  | with_reducible refine AWP.exit ?_
                  | with_reducible refine AWP.ret ?_
                  | with_reducible refine AWP.label ?_
                  | with_reducible refine AWP.goto ?_
                  | ((with_reducible refine AWP.condT ?_ ?_); focus (simp only [ev, lk_cons, ↓reduceIte, Nat.reduceEqDiff]; done))
                  | ((with_reducible refine AWP.condF ?_ ?_); focus (simp only [ev, lk_cons, ↓reduceIte, Nat.reduceEqDiff]; done))
                  | simp only [go_sem, ↓reduceIte, Nat.reduceEqDiff, reduceCtorEq, Nat.reduceAdd, Int.reduceEq, Int.reduceBNe, Int.reduceBEq, Int.reduceToNat, Int.reduceLT, Int.reduceLE, Int.reduceGT, Int.reduceGE, Nat.reduceSub, Nat.reduceBEq, Nat.reduceBNe, Int.reduceAdd, Int.reduceSub, Int.reduceMul, Int.reduceNeg, Nat.reduceMul, Nat.reduceLeDiff, Nat.reduceLT, q1, e2, n2, eB, q3, q4]
                  | simp (disch := omega) only [wi64, wu8, wu16, wu32, wu64]
                  | with_reducible_and_instances exact finR
                  | ((with_reducible refine finR' ?_ ?_) <;> rfl)
                  | ((with_reducible refine finD hsc (NRel.of_plain ?_)); exact rfl)
                exact finD hsc (by simp only [nr_tuple, nrs_cons, nrs_nil, nr_agg, nr_int, nr_string, and_self])
          · have e2 : (((b4.toNat : Nat) : Int) == 2) = false := beq_eq_false_iff_ne.2 (by omega)
            have n2 : (((b4.toNat : Nat) : Int) != 2) = true := by rw [bne, e2]; rfl
            rcases Decidable.em (Bd.length = 0) with q3 | q3
            · have hnil : Bd = [] := List.eq_nil_of_length_eq_zero q3
              rw [← hR, decR_ok (by unfold decB; rw [if_neg g1, if_neg (fun h => g2 h.1 h.2), if_neg (not_not_intro g3), hK, if_neg (by omega), hM, if_neg (by omega), dw, if_neg (by omega), db, if_neg (fun h => q2 h.1), if_neg (fun h => q2 h.1), if_neg (fun h => h.2 hnil)]), hsg]
              repeat first
                | with_reducible refine AWP.seq ?_
                | ((with_reducible refine AWP.region ?_ ?_); exact rfl)
                | with_reducible refine AWP.block ?_
                | with_reducible refine AWP.skip ?_
                | with_reducible refine AWP.exit ?_
                | with_reducible refine AWP.ret ?_
                | with_reducible refine AWP.label ?_
                | with_reducible refine AWP.goto ?_
                | ((with_reducible refine AWP.condT ?_ ?_); focus (simp only [ev, lk_cons, ↓reduceIte, Nat.reduceEqDiff]; done))
                | ((with_reducible refine AWP.condF ?_ ?_); focus (simp only [ev, lk_cons, ↓reduceIte, Nat.reduceEqDiff]; done))
                | simp only [go_sem, ↓reduceIte, Nat.reduceEqDiff, reduceCtorEq, Nat.reduceAdd, Int.reduceEq, Int.reduceBNe, Int.reduceBEq, Int.reduceToNat, Int.reduceLT, Int.reduceLE, Int.reduceGT, Int.reduceGE, Nat.reduceSub, Nat.reduceBEq, Nat.reduceBNe, Int.reduceAdd, Int.reduceSub, Int.reduceMul, Int.reduceNeg, Nat.reduceMul, Nat.reduceLeDiff, Nat.reduceLT, q1, e2, n2, eB, q3]
                | simp (disch := omega) only [wi64, wu8, wu16, wu32, wu64]
                | with_reducible_and_instances exact finR
                | ((with_reducible refine finR' ?_ ?_) <;> rfl)
                | ((with_reducible refine finD hsc (NRel.of_plain ?_)); exact rfl)
              exact finD hsc (by simp only [nr_tuple, nrs_cons, nrs_nil, nr_agg, nr_int, nr_string, and_self])
            · have hnn : ¬ Bd = [] := fun h => q3 (by rw [h]; rfl)
              rw [← hR, decR_bad (by unfold decB; rw [if_neg g1, if_neg (fun h => g2 h.1 h.2), if_neg (not_not_intro g3), hK, if_neg (by omega), hM, if_neg (by omega), dw, if_neg (by omega), db, if_neg (fun h => q2 h.1), if_neg (fun h => q2 h.1), if_pos ⟨q2, hnn⟩])]
              unfold badR zeroS
              repeat first
                | with_reducible refine AWP.seq ?_
                | ((with_reducible refine AWP.region ?_ ?_); exact rfl)
                | with_reducible refine AWP.block ?_
                | with_reducible refine AWP.skip ?_
                | with_reducible refine AWP.exit ?_
                | with_reducible refine AWP.ret ?_
                | with_reducible refine AWP.label ?_
                | with_reducible refine AWP.goto ?_
                | ((with_reducible refine AWP.condT ?_ ?_); focus (simp only [ev, lk_cons, ↓reduceIte, Nat.reduceEqDiff]; done))
                | ((with_reducible refine AWP.condF ?_ ?_); focus (simp only [ev, lk_cons, ↓reduceIte, Nat.reduceEqDiff]; done))
                | with_reducible refine (hB _ _).use ?_
                | simp only [go_sem, ↓reduceIte, Nat.reduceEqDiff, reduceCtorEq, Nat.reduceAdd, Int.reduceEq, Int.reduceBNe, Int.reduceBEq, Int.reduceToNat, Int.reduceLT, Int.reduceLE, Int.reduceGT, Int.reduceGE, Nat.reduceSub, Nat.reduceBEq, Nat.reduceBNe, Int.reduceAdd, Int.reduceSub, Int.reduceMul, Int.reduceNeg, Nat.reduceMul, Nat.reduceLeDiff, Nat.reduceLT, q1, e2, n2, eB, q3, Int.natCast_add]
                | simp (disch := omega) only [wi64, wu8, wu16, wu32, wu64]
                | with_reducible_and_instances exact finR
                | ((with_reducible refine finR' ?_ ?_) <;> rfl)
                | ((with_reducible refine finD hsc (NRel.of_plain ?_)); exact rfl)
              exact finD hsc (by simp only [nr_tuple, nrs_cons, nrs_nil, nr_agg, nr_int, nr_string, and_self])
      | false =>
          refine AC.enter Try.func12 rfl (by kernel_rfl) 163 rfl [.cell 2 23, .tmp 3, .tmp 4] rfl (by simp) fun hsc B => ?_
          repeat first
            | with_reducible refine AWP.seq ?_
            | ((with_reducible refine AWP.region ?_ ?_); exact rfl)
            | with_reducible refine AWP.block ?_
            | with_reducible refine AWP.skip ?_
            | with_reducible refine AWP.exit ?_
            | with_reducible refine AWP.ret ?_
            | with_reducible refine AWP.label ?_
            | with_reducible refine AWP.goto ?_
            | ((with_reducible refine AWP.condT ?_ ?_); focus (simp only [ev, lk_cons, ↓reduceIte, Nat.reduceEqDiff]; done))
            | ((with_reducible refine AWP.condF ?_ ?_); focus (simp only [ev, lk_cons, ↓reduceIte, Nat.reduceEqDiff]; done))
            | simp only [go_sem, ↓reduceIte, Nat.reduceEqDiff, reduceCtorEq, Nat.reduceAdd, Int.reduceEq, Int.reduceBNe, Int.reduceBEq, Int.reduceToNat, Int.reduceLT, Int.reduceLE, Int.reduceGT, Int.reduceGE, Nat.reduceSub, Nat.reduceBEq, Nat.reduceBNe, Int.reduceAdd, Int.reduceSub, Int.reduceMul, Int.reduceNeg, Nat.reduceMul, Nat.reduceLeDiff, Nat.reduceLT, g1', h5, w5, hx]
            | simp (disch := omega) only [wi64, wu8, wu16, wu32, wu64]
            | with_reducible_and_instances exact finR
            | ((with_reducible refine finR' ?_ ?_) <;> rfl)
            | ((with_reducible refine finD hsc (NRel.of_plain ?_)); exact rfl)
          refine AWP.regionK 7 (by kernel_rfl) (by decide) (by kernel_rfl) ?_
          repeat first
            | with_reducible refine AWP.seq ?_
            | ((with_reducible refine AWP.region ?_ ?_); exact rfl)
            | with_reducible refine AWP.block ?_
            | with_reducible refine AWP.skip ?_
            | with_reducible refine AWP.exit ?_
            | with_reducible refine AWP.ret ?_
            | with_reducible refine AWP.label ?_
            | with_reducible refine AWP.goto ?_
            | ((with_reducible refine AWP.condT ?_ ?_); focus (simp only [ev, lk_cons, ↓reduceIte, Nat.reduceEqDiff]; done))
            | ((with_reducible refine AWP.condF ?_ ?_); focus (simp only [ev, lk_cons, ↓reduceIte, Nat.reduceEqDiff]; done))
            | simp only [go_sem, ↓reduceIte, Nat.reduceEqDiff, reduceCtorEq, Nat.reduceAdd, Int.reduceEq, Int.reduceBNe, Int.reduceBEq, Int.reduceToNat, Int.reduceLT, Int.reduceLE, Int.reduceGT, Int.reduceGE, Nat.reduceSub, Nat.reduceBEq, Nat.reduceBNe, Int.reduceAdd, Int.reduceSub, Int.reduceMul, Int.reduceNeg, Nat.reduceMul, Nat.reduceLeDiff, Nat.reduceLT]
            | simp (disch := omega) only [wi64, wu8, wu16, wu32, wu64]
            | with_reducible_and_instances exact finR
            | ((with_reducible refine finR' ?_ ?_) <;> rfl)
            | ((with_reducible refine finD hsc (NRel.of_plain ?_)); exact rfl)
          refine ⟨by omega, by omega, ?_⟩
          rw [List.take_length]
          refine ARet.exq (hS _) (by simp only [go_sem, ↓reduceIte, Nat.reduceEqDiff, reduceCtorEq, Nat.reduceAdd, Int.reduceEq, Int.reduceBNe, Int.reduceBEq, Int.reduceToNat, Int.reduceLT, Int.reduceLE, Int.reduceGT, Int.reduceGE, Nat.reduceSub, Nat.reduceBEq, Nat.reduceBNe, Int.reduceAdd, Int.reduceSub, Int.reduceMul, Int.reduceNeg, Nat.reduceMul, Nat.reduceLeDiff, Nat.reduceLT]) ?_
          repeat first
            | with_reducible refine AWP.seq ?_
            | ((with_reducible refine AWP.region ?_ ?_); exact rfl)
            | with_reducible refine AWP.block ?_
            | with_reducible refine AWP.skip ?_
            | with_reducible refine AWP.exit ?_
            | with_reducible refine AWP.ret ?_
            | with_reducible refine AWP.label ?_
            | with_reducible refine AWP.goto ?_
            | ((with_reducible refine AWP.condT ?_ ?_); focus (simp only [ev, lk_cons, ↓reduceIte, Nat.reduceEqDiff]; done))
            | ((with_reducible refine AWP.condF ?_ ?_); focus (simp only [ev, lk_cons, ↓reduceIte, Nat.reduceEqDiff]; done))
            | simp only [go_sem, ↓reduceIte, Nat.reduceEqDiff, reduceCtorEq, Nat.reduceAdd, Int.reduceEq, Int.reduceBNe, Int.reduceBEq, Int.reduceToNat, Int.reduceLT, Int.reduceLE, Int.reduceGT, Int.reduceGE, Nat.reduceSub, Nat.reduceBEq, Nat.reduceBNe, Int.reduceAdd, Int.reduceSub, Int.reduceMul, Int.reduceNeg, Nat.reduceMul, Nat.reduceLeDiff, Nat.reduceLT, hsl]
            | simp (disch := omega) only [wi64, wu8, wu16, wu32, wu64]
            | with_reducible_and_instances exact finR
            | ((with_reducible refine finR' ?_ ?_) <;> rfl)
            | ((with_reducible refine finD hsc (NRel.of_plain ?_)); exact rfl)
          refine ⟨by omega, ?_⟩
          rcases Decidable.em ((sumL (s.drop 4)).take 4 = s.take 4) with g3 | g3
          rotate_left
          have g3e : ((sumL (s.drop 4)).take 4 == s.take 4) = false := beq_eq_false_iff_ne.2 g3
          · rw [← hR, decR_bad (by unfold decB; rw [if_neg g1, if_neg (fun h => g2 h.1 h.2), if_pos g3])]
            unfold badR zeroS
            repeat first
              | with_reducible refine AWP.seq ?_
              | ((with_reducible refine AWP.region ?_ ?_); exact rfl)
              | with_reducible refine AWP.block ?_
              | with_reducible refine AWP.skip ?_
              | with_reducible refine AWP.exit ?_
              | with_reducible refine AWP.ret ?_
              | with_reducible refine AWP.label ?_
              | with_reducible refine AWP.goto ?_
              | ((with_reducible refine AWP.condT ?_ ?_); focus (simp only [ev, lk_cons, ↓reduceIte, Nat.reduceEqDiff]; done))
              | ((with_reducible refine AWP.condF ?_ ?_); focus (simp only [ev, lk_cons, ↓reduceIte, Nat.reduceEqDiff]; done))
              | with_reducible refine (hB _ _).use ?_
              | simp only [go_sem, ↓reduceIte, Nat.reduceEqDiff, reduceCtorEq, Nat.reduceAdd, Int.reduceEq, Int.reduceBNe, Int.reduceBEq, Int.reduceToNat, Int.reduceLT, Int.reduceLE, Int.reduceGT, Int.reduceGE, Nat.reduceSub, Nat.reduceBEq, Nat.reduceBNe, Int.reduceAdd, Int.reduceSub, Int.reduceMul, Int.reduceNeg, Nat.reduceMul, Nat.reduceLeDiff, Nat.reduceLT, g3e]
              | simp (disch := omega) only [wi64, wu8, wu16, wu32, wu64]
              | with_reducible_and_instances exact finR
              | ((with_reducible refine finR' ?_ ?_) <;> rfl)
              | ((with_reducible refine finD hsc (NRel.of_plain ?_)); exact rfl)
            exact finD hsc (by simp only [nr_tuple, nrs_cons, nrs_nil, nr_agg, nr_int, nr_string, and_self])
          have g3e : ((sumL (s.drop 4)).take 4 == s.take 4) = true := by rw [g3]; exact beq_self_eq_true _
          rcases Decidable.em (((b4.toNat : Nat) : Int) < 1) with k1 | k1
          · rw [← hR, decR_bad (by unfold decB; rw [if_neg g1, if_neg (fun h => g2 h.1 h.2), if_neg (not_not_intro g3), hK, if_pos (by omega)])]
            unfold badR zeroS
            repeat first
              | with_reducible refine AWP.seq ?_
              | ((with_reducible refine AWP.region ?_ ?_); exact rfl)
              | with_reducible refine AWP.block ?_
              | with_reducible refine AWP.skip ?_
              | with_reducible refine AWP.exit ?_
              | with_reducible refine AWP.ret ?_
              | with_reducible refine AWP.label ?_
              | with_reducible refine AWP.goto ?_
              | ((with_reducible refine AWP.condT ?_ ?_); focus (simp only [ev, lk_cons, ↓reduceIte, Nat.reduceEqDiff]; done))
              | ((with_reducible refine AWP.condF ?_ ?_); focus (simp only [ev, lk_cons, ↓reduceIte, Nat.reduceEqDiff]; done))
              | with_reducible refine (hB _ _).use ?_
              | simp only [go_sem, ↓reduceIte, Nat.reduceEqDiff, reduceCtorEq, Nat.reduceAdd, Int.reduceEq, Int.reduceBNe, Int.reduceBEq, Int.reduceToNat, Int.reduceLT, Int.reduceLE, Int.reduceGT, Int.reduceGE, Nat.reduceSub, Nat.reduceBEq, Nat.reduceBNe, Int.reduceAdd, Int.reduceSub, Int.reduceMul, Int.reduceNeg, Nat.reduceMul, Nat.reduceLeDiff, Nat.reduceLT, g3e, h4, k1]
              | simp (disch := omega) only [wi64, wu8, wu16, wu32, wu64]
              | with_reducible_and_instances exact finR
              | ((with_reducible refine finR' ?_ ?_) <;> rfl)
              | ((with_reducible refine finD hsc (NRel.of_plain ?_)); exact rfl)
            exact finD hsc (by simp only [nr_tuple, nrs_cons, nrs_nil, nr_agg, nr_int, nr_string, and_self])
          rcases Decidable.em (((b4.toNat : Nat) : Int) > 5) with k2 | k2
          · rw [← hR, decR_bad (by unfold decB; rw [if_neg g1, if_neg (fun h => g2 h.1 h.2), if_neg (not_not_intro g3), hK, if_pos (by omega)])]
            unfold badR zeroS
            repeat first
              | with_reducible refine AWP.seq ?_
              | ((with_reducible refine AWP.region ?_ ?_); exact rfl)
              | with_reducible refine AWP.block ?_
              | with_reducible refine AWP.skip ?_
              | with_reducible refine AWP.exit ?_
              | with_reducible refine AWP.ret ?_
              | with_reducible refine AWP.label ?_
              | with_reducible refine AWP.goto ?_
              | ((with_reducible refine AWP.condT ?_ ?_); focus (simp only [ev, lk_cons, ↓reduceIte, Nat.reduceEqDiff]; done))
              | ((with_reducible refine AWP.condF ?_ ?_); focus (simp only [ev, lk_cons, ↓reduceIte, Nat.reduceEqDiff]; done))
              | with_reducible refine (hB _ _).use ?_
              | simp only [go_sem, ↓reduceIte, Nat.reduceEqDiff, reduceCtorEq, Nat.reduceAdd, Int.reduceEq, Int.reduceBNe, Int.reduceBEq, Int.reduceToNat, Int.reduceLT, Int.reduceLE, Int.reduceGT, Int.reduceGE, Nat.reduceSub, Nat.reduceBEq, Nat.reduceBNe, Int.reduceAdd, Int.reduceSub, Int.reduceMul, Int.reduceNeg, Nat.reduceMul, Nat.reduceLeDiff, Nat.reduceLT, g3e, h4, k1, k2]
              | simp (disch := omega) only [wi64, wu8, wu16, wu32, wu64]
              | with_reducible_and_instances exact finR
              | ((with_reducible refine finR' ?_ ?_) <;> rfl)
              | ((with_reducible refine finD hsc (NRel.of_plain ?_)); exact rfl)
            exact finD hsc (by simp only [nr_tuple, nrs_cons, nrs_nil, nr_agg, nr_int, nr_string, and_self])
          have hM4 : ((b5.toNat : Nat) : Int) > 4 := by have := of_decide_eq_false hx; omega
          · rw [← hR, decR_bad (by unfold decB; rw [if_neg g1, if_neg (fun h => g2 h.1 h.2), if_neg (not_not_intro g3), hK, if_neg (by omega), hM, if_pos (by omega)])]
            unfold badR zeroS
            repeat first
              | with_reducible refine AWP.seq ?_
              | ((with_reducible refine AWP.region ?_ ?_); exact rfl)
              | with_reducible refine AWP.block ?_
              | with_reducible refine AWP.skip ?_
              | with_reducible refine AWP.exit ?_
              | with_reducible refine AWP.ret ?_
              | with_reducible refine AWP.label ?_
              | with_reducible refine AWP.goto ?_
              | ((with_reducible refine AWP.condT ?_ ?_); focus (simp only [ev, lk_cons, ↓reduceIte, Nat.reduceEqDiff]; done))
              | ((with_reducible refine AWP.condF ?_ ?_); focus (simp only [ev, lk_cons, ↓reduceIte, Nat.reduceEqDiff]; done))
              | with_reducible refine (hB _ _).use ?_
              | simp only [go_sem, ↓reduceIte, Nat.reduceEqDiff, reduceCtorEq, Nat.reduceAdd, Int.reduceEq, Int.reduceBNe, Int.reduceBEq, Int.reduceToNat, Int.reduceLT, Int.reduceLE, Int.reduceGT, Int.reduceGE, Nat.reduceSub, Nat.reduceBEq, Nat.reduceBNe, Int.reduceAdd, Int.reduceSub, Int.reduceMul, Int.reduceNeg, Nat.reduceMul, Nat.reduceLeDiff, Nat.reduceLT, g3e, h4, k1, k2, hM4]
              | simp (disch := omega) only [wi64, wu8, wu16, wu32, wu64]
              | with_reducible_and_instances exact finR
              | ((with_reducible refine finR' ?_ ?_) <;> rfl)
              | ((with_reducible refine finD hsc (NRel.of_plain ?_)); exact rfl)
            exact finD hsc (by simp only [nr_tuple, nrs_cons, nrs_nil, nr_agg, nr_int, nr_string, and_self])
    exact cut _ rfl
  by_cases g2 : markN s ≤ 4 ∧ s.length < 24 + markN s
  · rw [decR_bad (by unfold decB; rw [if_neg g1, if_pos g2])]
    rw [hM] at g2
    have a1 : ((b5.toNat : Nat) : Int) ≤ 4 := by omega
    have a2 : (s.length : Int) < 24 + ((b5.toNat : Nat) : Int) := by omega
    unfold badR zeroS
    refine AC.enter Try.func12 rfl (by kernel_rfl) 163 rfl [.cell 2 23, .tmp 3, .tmp 4] rfl (by simp) fun hsc B => ?_
    repeat first
      | with_reducible refine AWP.seq ?_
      | ((with_reducible refine AWP.region ?_ ?_); exact rfl)
      | with_reducible refine AWP.block ?_
      | with_reducible refine AWP.skip ?_
      | with_reducible refine AWP.exit ?_
      | with_reducible refine AWP.ret ?_
      | with_reducible refine AWP.label ?_
      | with_reducible refine AWP.goto ?_
      | ((with_reducible refine AWP.condT ?_ ?_); focus (simp only [ev, lk_cons, ↓reduceIte, Nat.reduceEqDiff]; done))
      | ((with_reducible refine AWP.condF ?_ ?_); focus (simp only [ev, lk_cons, ↓reduceIte, Nat.reduceEqDiff]; done))
      | with_reducible refine (hB _ _).use ?_
      | simp only [go_sem, ↓reduceIte, Nat.reduceEqDiff, reduceCtorEq, Nat.reduceAdd, Int.reduceEq, Int.reduceBNe, Int.reduceBEq, Int.reduceToNat, Int.reduceLT, Int.reduceLE, Int.reduceGT, Int.reduceGE, Nat.reduceSub, Nat.reduceBEq, Nat.reduceBNe, Int.reduceAdd, Int.reduceSub, Int.reduceMul, Int.reduceNeg, Nat.reduceMul, Nat.reduceLeDiff, Nat.reduceLT, g1', h5, w5, a1, a2]
      | simp (disch := omega) only [wi64, wu8, wu16, wu32, wu64]
      | with_reducible_and_instances exact finR
      | ((with_reducible refine finR' ?_ ?_) <;> rfl)
      | ((with_reducible refine finD hsc (NRel.of_plain ?_)); exact rfl)
    exact finD hsc (by simp only [nr_tuple, nrs_cons, nrs_nil, nr_agg, nr_int, nr_string, and_self])
  · exact main _ rfl (fun h => fun h' => g2 ⟨h, h'⟩)
end Go.Proofs.Ytlclcdhbeeaikaa
