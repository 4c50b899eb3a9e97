/-
  The walk of the laws on fields of bits: the page's example; what is light.
-/
import Derived.Test.YtbdlomkogpnkpaaDoorMF
import Derived.Test.YtbdlomkogpnkpaaDoorM6
set_option linter.unusedVariables false
set_option linter.unusedSimpArgs false
set_option maxRecDepth 20000
namespace Go.Proofs.YtbdlomkogpnkpaaDoor
open Go Go.Aw Go.Proofs Go.Shelf Go.RowKit Go.ChangeShapes
theorem dec_small (u : Nat) (h : u < 10) : Lib.decDigits u = [UInt8.ofNat (48 + u % 10)] := by rw [Lib.decDigits, dif_pos h, Nat.mod_eq_of_lt h]
theorem ex_valid : validB 10 [184, 0] := by
  refine ⟨rfl, fun i hi => ?_⟩
  rcases Nat.lt_or_ge i 16 with h | h
  · have : ∀ i, i < 16 → 10 ≤ i → bitAt [184, 0] i = false := by decide
    exact this i h hi
  · exact bitAt_out _ _ h
theorem ex_runs : runsL (allL [184, 0]) = [(0, 1), (2, 3)] := by decide
theorem ex_text : textL (runsL (allL [184, 0])) = [48, 44, 50, 45, 52] := by
  rw [ex_runs]
  have h1 : runT (0, 1) = [48] := by unfold runT; rw [dec_small 0 (by decide)]; rfl
  have h2 : runT (2, 3) = [50, 45, 52] := by unfold runT; simp only [show (2 : Nat) + 3 - 1 = 4 from rfl]; rw [dec_small 2 (by decide), dec_small 4 (by decide)]; rfl
  unfold textL
  simp only [List.map_cons, List.map_nil, h1, h2]
  decide
theorem awake (H : AHeap) : ARet Tryd.prog 11 [] H (.bool true) H := by
  have hO := fun v H hv => OfC 10 (by decide) [0, 2, 3, 4] (by decide) v H hv
  have hv : ofV 10 [0, 2, 3, 4] = ([184, 0], 0) := by decide
  have hT := fun H => TextC 10 (by decide) [184, 0] ex_valid H (fun p hp X m hm => ItoaS m (by
    rw [ex_runs] at hp
    simp only [List.mem_cons, List.not_mem_nil, or_false] at hp
    rcases hp with rfl | rfl <;> simp at hm <;> omega) _)
  rw [ex_text] at hT
  rw [hv] at hO
  have hO' : ∀ v H, Rd H v [.int .i64 0, .int .i64 2, .int .i64 3, .int .i64 4] → ARet Tryd.prog 32 [.int .i64 10, v] H (.tuple ⟨[.string (bs [184, 0]), .int .i64 0]⟩) H := hO
  have hT' : ∀ H, ARet Tryd.prog 47 [.int .i64 10, .string (bs [184, 0])] H (.tuple ⟨[.string (bs [48, 44, 50, 45, 52]), .int .i64 0]⟩) H := hT
  have e1 : (([184, 0] : List UInt8) == [184, 0]) = true := by decide
  have e2 : (([48, 44, 50, 45, 52] : List UInt8) == [48, 44, 50, 45, 52]) = true := by decide
  have m1 : ByteArray.mk #[184, 0] = bs [184, 0] := rfl
  have m2 : ByteArray.mk #[48, 44, 50, 45, 52] = bs [48, 44, 50, 45, 52] := rfl
  refine AC.enter Tryd.func11 rfl (by kernel_rfl) 29 rfl [.tmp 0] rfl (by simp) fun hsc B => ?_
  repeat first
    | with_reducible refine AWP.seq ?_
    | ((with_reducible refine AWP.region ?_ ?_); exact rfl)
    | with_reducible refine AWP.block ?_
    | with_reducible refine AWP.skip ?_
    | with_reducible refine AWP.exit ?_
    | with_reducible refine AWP.ret ?_
    | with_reducible refine AWP.label ?_
    | with_reducible refine AWP.goto ?_
    | ((with_reducible refine AWP.condT ?_ ?_); focus (simp only [ev, lk_cons, ↓reduceIte, Nat.reduceEqDiff]; done))
    | ((with_reducible refine AWP.condF ?_ ?_); focus (simp only [ev, lk_cons, ↓reduceIte, Nat.reduceEqDiff]; done))
    | with_reducible refine (hO' _ _ (.cells (by with_unfolding_all first | exact (hget0 rfl).trans rfl | exact (hgetk rfl).trans rfl) (by with_unfolding_all rfl))).use ?_
    | with_reducible refine (hT' _).use ?_
    | simp only [go_sem, ↓reduceIte, Nat.reduceEqDiff, reduceCtorEq, Nat.reduceAdd, Int.reduceEq, Int.reduceBNe, Int.reduceBEq, Int.reduceToNat, Int.reduceLT, Int.reduceLE, Int.reduceGT, Int.reduceGE, Nat.reduceSub, Nat.reduceBEq, Nat.reduceBNe, Int.reduceAdd, Int.reduceSub, Int.reduceMul, Int.reduceNeg, Nat.reduceMul, Nat.reduceLeDiff, Nat.reduceLT, e1, e2, m1, m2]
    | simp (disch := omega) only [wi64, wu8, wu16, wu32, wu64]
    | with_reducible_and_instances exact finR
    | ((with_reducible refine finR' ?_ ?_) <;> rfl)
    | ((with_reducible refine finD hsc (NRel.of_plain ?_)); exact rfl)
theorem Light (n : Int) (s : List UInt8) (H : AHeap) : ARet Tryd.prog 10 [.int .i64 n, .string (bs s)] H (.bool (decide (n < 5000 ∧ s.length < 700))) H := by
  by_cases h1 : n < 5000
  · by_cases h2 : s.length < 700
    · have h2' : (s.length : Int) < 700 := by omega
      rw [decide_eq_true ⟨h1, h2⟩]
      refine AC.enter Tryd.func10 rfl (by kernel_rfl) 12 rfl [.tmp 4] rfl (by simp) fun hsc B => ?_
      repeat first
        | with_reducible refine AWP.seq ?_
        | ((with_reducible refine AWP.region ?_ ?_); exact rfl)
        | with_reducible refine AWP.block ?_
        | with_reducible refine AWP.skip ?_
        | with_reducible refine AWP.exit ?_
        | with_reducible refine AWP.ret ?_
        | with_reducible refine AWP.label ?_
        | with_reducible refine AWP.goto ?_
        | ((with_reducible refine AWP.condT ?_ ?_); focus (simp only [ev, lk_cons, ↓reduceIte, Nat.reduceEqDiff]; done))
        | ((with_reducible refine AWP.condF ?_ ?_); focus (simp only [ev, lk_cons, ↓reduceIte, Nat.reduceEqDiff]; done))
        | simp only [go_sem, ↓reduceIte, Nat.reduceEqDiff, reduceCtorEq, Nat.reduceAdd, Int.reduceEq, Int.reduceBNe, Int.reduceBEq, Int.reduceToNat, Int.reduceLT, Int.reduceLE, Int.reduceGT, Int.reduceGE, Nat.reduceSub, Nat.reduceBEq, Nat.reduceBNe, Int.reduceAdd, Int.reduceSub, Int.reduceMul, Int.reduceNeg, Nat.reduceMul, Nat.reduceLeDiff, Nat.reduceLT, h1, h2']
        | simp (disch := omega) only [wi64, wu8, wu16, wu32, wu64]
        | with_reducible_and_instances exact finR
        | ((with_reducible refine finR' ?_ ?_) <;> rfl)
        | ((with_reducible refine finD hsc (NRel.of_plain ?_)); exact rfl)
    · have h2' : ¬ (s.length : Int) < 700 := by omega
      rw [decide_eq_false (fun h => h2 h.2)]
      refine AC.enter Tryd.func10 rfl (by kernel_rfl) 12 rfl [.tmp 4] rfl (by simp) fun hsc B => ?_
      repeat first
        | with_reducible refine AWP.seq ?_
        | ((with_reducible refine AWP.region ?_ ?_); exact rfl)
        | with_reducible refine AWP.block ?_
        | with_reducible refine AWP.skip ?_
        | with_reducible refine AWP.exit ?_
        | with_reducible refine AWP.ret ?_
        | with_reducible refine AWP.label ?_
        | with_reducible refine AWP.goto ?_
        | ((with_reducible refine AWP.condT ?_ ?_); focus (simp only [ev, lk_cons, ↓reduceIte, Nat.reduceEqDiff]; done))
        | ((with_reducible refine AWP.condF ?_ ?_); focus (simp only [ev, lk_cons, ↓reduceIte, Nat.reduceEqDiff]; done))
        | simp only [go_sem, ↓reduceIte, Nat.reduceEqDiff, reduceCtorEq, Nat.reduceAdd, Int.reduceEq, Int.reduceBNe, Int.reduceBEq, Int.reduceToNat, Int.reduceLT, Int.reduceLE, Int.reduceGT, Int.reduceGE, Nat.reduceSub, Nat.reduceBEq, Nat.reduceBNe, Int.reduceAdd, Int.reduceSub, Int.reduceMul, Int.reduceNeg, Nat.reduceMul, Nat.reduceLeDiff, Nat.reduceLT, h1, h2']
        | simp (disch := omega) only [wi64, wu8, wu16, wu32, wu64]
        | with_reducible_and_instances exact finR
        | ((with_reducible refine finR' ?_ ?_) <;> rfl)
        | ((with_reducible refine finD hsc (NRel.of_plain ?_)); exact rfl)
  · rw [decide_eq_false (fun h => h1 h.1)]
    refine AC.enter Tryd.func10 rfl (by kernel_rfl) 12 rfl [.tmp 4] rfl (by simp) fun hsc B => ?_
    repeat first
      | with_reducible refine AWP.seq ?_
      | ((with_reducible refine AWP.region ?_ ?_); exact rfl)
      | with_reducible refine AWP.block ?_
      | with_reducible refine AWP.skip ?_
      | with_reducible refine AWP.exit ?_
      | with_reducible refine AWP.ret ?_
      | with_reducible refine AWP.label ?_
      | with_reducible refine AWP.goto ?_
      | ((with_reducible refine AWP.condT ?_ ?_); focus (simp only [ev, lk_cons, ↓reduceIte, Nat.reduceEqDiff]; done))
      | ((with_reducible refine AWP.condF ?_ ?_); focus (simp only [ev, lk_cons, ↓reduceIte, Nat.reduceEqDiff]; done))
      | simp only [go_sem, ↓reduceIte, Nat.reduceEqDiff, reduceCtorEq, Nat.reduceAdd, Int.reduceEq, Int.reduceBNe, Int.reduceBEq, Int.reduceToNat, Int.reduceLT, Int.reduceLE, Int.reduceGT, Int.reduceGE, Nat.reduceSub, Nat.reduceBEq, Nat.reduceBNe, Int.reduceAdd, Int.reduceSub, Int.reduceMul, Int.reduceNeg, Nat.reduceMul, Nat.reduceLeDiff, Nat.reduceLT, h1]
      | simp (disch := omega) only [wi64, wu8, wu16, wu32, wu64]
      | with_reducible_and_instances exact finR
      | ((with_reducible refine finR' ?_ ?_) <;> rfl)
      | ((with_reducible refine finD hsc (NRel.of_plain ?_)); exact rfl)
theorem wrongR_bad {n : Nat} {s : List UInt8} (h : n ≤ 4096) (hv : ¬ validB n s) : ∃ e, wrongR n s = e ∧ e.2 ≠ 0 := ⟨_, rfl, fun e => hv ((wrongR_ok n s h).1 e)⟩
theorem lawWrong (n : Int) (s : List UInt8) (hs : s.length < 140737488355328) (H : AHeap) : ARet Tryd.prog 3 [.int .i64 n, .string (bs s)] H (.bool true) H := by
  have hLt := fun H => Light n s H
  by_cases hl : n < 5000 ∧ s.length < 700
  · simp only [decide_eq_true hl] at hLt
    have hW := fun H => Wrong n s hs H
    have hrW := fun H => rWrong n s hs H
    have hV := fun H => Valid n s hs H
    have hrV := fun H => rValid n s hs H
    have b1 : ∀ z : Int, (z != z) = false := fun z => by simp
    have b2 : ∀ l : List UInt8, (!(l == l)) = false := fun l => by simp
    have b3 : ∀ b : Bool, (b != b) = false := fun b => by simp
    by_cases hn : okN n
    · obtain ⟨N, rfl⟩ : ∃ N : Nat, n = N := ⟨n.toNat, by unfold okN at hn; omega⟩
      have hN : N ≤ 4096 := by unfold okN at hn; omega
      have hlo := lon_le N
      have hfv := field_valid (fullL N)
      rw [show (fullL N).length = N by simp [fullL]] at hfv
      have z1 : (zerosB N).length < 140737488355328 := by rw [(zerosB_valid N).1]; omega
      have z2 : (fieldL (fullL N)).length < 140737488355328 := by rw [hfv.1]; omega
      have v1 := fun H => Valid (N : Nat) (zerosB N) z1 H
      have v2 := fun H => Valid (N : Nat) (fieldL (fullL N)) z2 H
      have w1 : validR N (zerosB N) = true := by unfold validR; rw [wrongR_valid hN (zerosB_valid N)]; rfl
      have w2 : validR N (fieldL (fullL N)) = true := by unfold validR; rw [wrongR_valid hN hfv]; rfl
      rw [w1] at v1
      rw [w2] at v2
      refine AC.enter Tryd.func3 rfl (by kernel_rfl) 106 rfl [.tmp 4] rfl (by simp) fun hsc B => ?_
      repeat first
        | with_reducible refine AWP.seq ?_
        | ((with_reducible refine AWP.region ?_ ?_); exact rfl)
        | with_reducible refine AWP.block ?_
        | with_reducible refine AWP.skip ?_
        | with_reducible refine AWP.exit ?_
        | with_reducible refine AWP.ret ?_
        | with_reducible refine AWP.label ?_
        | with_reducible refine AWP.goto ?_
        | ((with_reducible refine AWP.condT ?_ ?_); focus (simp only [ev, lk_cons, ↓reduceIte, Nat.reduceEqDiff]; done))
        | ((with_reducible refine AWP.condF ?_ ?_); focus (simp only [ev, lk_cons, ↓reduceIte, Nat.reduceEqDiff]; done))
        | with_reducible refine (hLt _).use ?_
        | with_reducible refine (hW _).use ?_
        | with_reducible refine (hrW _).use ?_
        | with_reducible refine (NewC N hN _).use ?_
        | with_reducible refine (rNewC N hN _).use ?_
        | with_reducible refine (FullC N hN _).use ?_
        | with_reducible refine (rFullC N hN _).use ?_
        | with_reducible refine (hV _).use ?_
        | with_reducible refine (hrV _).use ?_
        | with_reducible refine (v1 _).use ?_
        | with_reducible refine (v2 _).use ?_
        | with_reducible refine (awake _).use ?_
        | simp only [go_sem, ↓reduceIte, Nat.reduceEqDiff, reduceCtorEq, Nat.reduceAdd, Int.reduceEq, Int.reduceBNe, Int.reduceBEq, Int.reduceToNat, Int.reduceLT, Int.reduceLE, Int.reduceGT, Int.reduceGE, Nat.reduceSub, Nat.reduceBEq, Nat.reduceBNe, Int.reduceAdd, Int.reduceSub, Int.reduceMul, Int.reduceNeg, Nat.reduceMul, Nat.reduceLeDiff, Nat.reduceLT, b1, b2, b3]
        | simp (disch := omega) only [wi64, wu8, wu16, wu32, wu64]
        | with_reducible_and_instances exact finR
        | ((with_reducible refine finR' ?_ ?_) <;> rfl)
        | ((with_reducible refine finD hsc (NRel.of_plain ?_)); exact rfl)
    · skip
      refine AC.enter Tryd.func3 rfl (by kernel_rfl) 106 rfl [.tmp 4] rfl (by simp) fun hsc B => ?_
      repeat first
        | with_reducible refine AWP.seq ?_
        | ((with_reducible refine AWP.region ?_ ?_); exact rfl)
        | with_reducible refine AWP.block ?_
        | with_reducible refine AWP.skip ?_
        | with_reducible refine AWP.exit ?_
        | with_reducible refine AWP.ret ?_
        | with_reducible refine AWP.label ?_
        | with_reducible refine AWP.goto ?_
        | ((with_reducible refine AWP.condT ?_ ?_); focus (simp only [ev, lk_cons, ↓reduceIte, Nat.reduceEqDiff]; done))
        | ((with_reducible refine AWP.condF ?_ ?_); focus (simp only [ev, lk_cons, ↓reduceIte, Nat.reduceEqDiff]; done))
        | with_reducible refine (hLt _).use ?_
        | with_reducible refine (hW _).use ?_
        | with_reducible refine (hrW _).use ?_
        | with_reducible refine (NewA n hn _).use ?_
        | with_reducible refine (rNewA n hn _).use ?_
        | with_reducible refine (FullA n hn _).use ?_
        | with_reducible refine (rFullA n hn _).use ?_
        | with_reducible refine (hV _).use ?_
        | with_reducible refine (hrV _).use ?_
        | with_reducible refine (awake _).use ?_
        | simp only [go_sem, ↓reduceIte, Nat.reduceEqDiff, reduceCtorEq, Nat.reduceAdd, Int.reduceEq, Int.reduceBNe, Int.reduceBEq, Int.reduceToNat, Int.reduceLT, Int.reduceLE, Int.reduceGT, Int.reduceGE, Nat.reduceSub, Nat.reduceBEq, Nat.reduceBNe, Int.reduceAdd, Int.reduceSub, Int.reduceMul, Int.reduceNeg, Nat.reduceMul, Nat.reduceLeDiff, Nat.reduceLT, b1, b2, b3]
        | simp (disch := omega) only [wi64, wu8, wu16, wu32, wu64]
        | with_reducible_and_instances exact finR
        | ((with_reducible refine finR' ?_ ?_) <;> rfl)
        | ((with_reducible refine finD hsc (NRel.of_plain ?_)); exact rfl)
  · simp only [decide_eq_false hl] at hLt
    refine AC.enter Tryd.func3 rfl (by kernel_rfl) 106 rfl [.tmp 4] rfl (by simp) fun hsc B => ?_
    repeat first
      | with_reducible refine AWP.seq ?_
      | ((with_reducible refine AWP.region ?_ ?_); exact rfl)
      | with_reducible refine AWP.block ?_
      | with_reducible refine AWP.skip ?_
      | with_reducible refine AWP.exit ?_
      | with_reducible refine AWP.ret ?_
      | with_reducible refine AWP.label ?_
      | with_reducible refine AWP.goto ?_
      | ((with_reducible refine AWP.condT ?_ ?_); focus (simp only [ev, lk_cons, ↓reduceIte, Nat.reduceEqDiff]; done))
      | ((with_reducible refine AWP.condF ?_ ?_); focus (simp only [ev, lk_cons, ↓reduceIte, Nat.reduceEqDiff]; done))
      | with_reducible refine (hLt _).use ?_
      | with_reducible refine (awake _).use ?_
      | simp only [go_sem, ↓reduceIte, Nat.reduceEqDiff, reduceCtorEq, Nat.reduceAdd, Int.reduceEq, Int.reduceBNe, Int.reduceBEq, Int.reduceToNat, Int.reduceLT, Int.reduceLE, Int.reduceGT, Int.reduceGE, Nat.reduceSub, Nat.reduceBEq, Nat.reduceBNe, Int.reduceAdd, Int.reduceSub, Int.reduceMul, Int.reduceNeg, Nat.reduceMul, Nat.reduceLeDiff, Nat.reduceLT]
      | simp (disch := omega) only [wi64, wu8, wu16, wu32, wu64]
      | with_reducible_and_instances exact finR
      | ((with_reducible refine finR' ?_ ?_) <;> rfl)
      | ((with_reducible refine finD hsc (NRel.of_plain ?_)); exact rfl)
end Go.Proofs.YtbdlomkogpnkpaaDoor
