/-
  The walk of HashStreams.
-/
import Derived.Test.YtdeoaadkngiilaaDoorI8
set_option linter.unusedVariables false
set_option linter.unusedSimpArgs false
set_option maxRecDepth 20000
namespace Go.Proofs.YtdeoaadkngiilaaDoor
open Go Go.Aw Go.Proofs
theorem strR_ok {key : List UInt8} {f c : Int} (h : okS f c) : strR key f c = .tuple ⟨[.string (bs (strm key f.toNat c.toNat)), .int .i64 0]⟩ := by unfold strR; rw [if_pos h]
theorem strR_no {key : List UInt8} {f c : Int} (h : ¬ okS f c) : strR key f c = .tuple ⟨[.string (bs []), .int .i64 7]⟩ := by unfold strR; rw [if_neg h]
theorem lawStreams (key : List UInt8) (f c u : Int) (hf0 : -9223372036854775808 ≤ f) (hf1 : f ≤ 9223372036854775807) (hc0 : -9223372036854775808 ≤ c) (hc1 : c ≤ 9223372036854775807) (H : AHeap) (hT : TabH H) :
    ARet Tryd.prog 4 [.string (bs key), .int .i64 f, .int .i64 c, .int .i64 u] H (.bool true) H := by
  by_cases g1 : (key.length : Int) > 300
  · skip
    refine AC.enter Tryd.func4 rfl (by kernel_rfl) 98 rfl [.tmp 8] rfl (by simp) fun hsc B => ?_
    repeat first
      | with_reducible refine AWP.seq ?_
      | ((with_reducible refine AWP.region ?_ ?_); exact rfl)
      | with_reducible refine AWP.block ?_
      | with_reducible refine AWP.skip ?_
      | with_reducible refine AWP.exit ?_
      | with_reducible refine AWP.ret ?_
      | with_reducible refine AWP.label ?_
      | with_reducible refine AWP.goto ?_
      | ((with_reducible refine AWP.condT ?_ ?_); focus (simp only [ev, lk_cons, ↓reduceIte, Nat.reduceEqDiff]; done))
      | ((with_reducible refine AWP.condF ?_ ?_); focus (simp only [ev, lk_cons, ↓reduceIte, Nat.reduceEqDiff]; done))
      | with_reducible refine (awake _).use ?_
      | simp only [go_sem, ↓reduceIte, Nat.reduceEqDiff, reduceCtorEq, Nat.reduceAdd, Int.reduceEq, Int.reduceBNe, Int.reduceBEq, Int.reduceToNat, Int.reduceLT, Int.reduceLE, Int.reduceGT, Int.reduceGE, Nat.reduceSub, Nat.reduceBEq, Nat.reduceBNe, Int.reduceAdd, Int.reduceSub, Int.reduceMul, Int.reduceNeg, Nat.reduceMul, Nat.reduceLeDiff, Nat.reduceLT, g1]
      | simp (disch := omega) only [wi64, wu8, wu16, wu32, wu64]
      | with_reducible_and_instances exact finR
      | ((with_reducible refine finR' ?_ ?_) <;> rfl)
      | ((with_reducible refine finD hsc (NRel.of_plain ?_)); exact rfl)
  by_cases g2 : c > 2000
  · by_cases g3 : f ≥ 0
    · by_cases g4 : c ≤ 65536
      · skip
        refine AC.enter Tryd.func4 rfl (by kernel_rfl) 98 rfl [.tmp 8] rfl (by simp) fun hsc B => ?_
        repeat first
          | with_reducible refine AWP.seq ?_
          | ((with_reducible refine AWP.region ?_ ?_); exact rfl)
          | with_reducible refine AWP.block ?_
          | with_reducible refine AWP.skip ?_
          | with_reducible refine AWP.exit ?_
          | with_reducible refine AWP.ret ?_
          | with_reducible refine AWP.label ?_
          | with_reducible refine AWP.goto ?_
          | ((with_reducible refine AWP.condT ?_ ?_); focus (simp only [ev, lk_cons, ↓reduceIte, Nat.reduceEqDiff]; done))
          | ((with_reducible refine AWP.condF ?_ ?_); focus (simp only [ev, lk_cons, ↓reduceIte, Nat.reduceEqDiff]; done))
          | with_reducible refine (awake _).use ?_
          | simp only [go_sem, ↓reduceIte, Nat.reduceEqDiff, reduceCtorEq, Nat.reduceAdd, Int.reduceEq, Int.reduceBNe, Int.reduceBEq, Int.reduceToNat, Int.reduceLT, Int.reduceLE, Int.reduceGT, Int.reduceGE, Nat.reduceSub, Nat.reduceBEq, Nat.reduceBNe, Int.reduceAdd, Int.reduceSub, Int.reduceMul, Int.reduceNeg, Nat.reduceMul, Nat.reduceLeDiff, Nat.reduceLT, g1, g2, g3, g4]
          | simp (disch := omega) only [wi64, wu8, wu16, wu32, wu64]
          | with_reducible_and_instances exact finR
          | ((with_reducible refine finR' ?_ ?_) <;> rfl)
          | ((with_reducible refine finD hsc (NRel.of_plain ?_)); exact rfl)
      · have hn : ¬ okS f c := by unfold okS; omega
        have h1 := Stream key f c (by omega) hf0 hf1 hc0 hc1 H hT
        have h2 := refStream key f c (by omega) hf0 hf1 hc0 hc1 H
        rw [strR_no hn] at h1 h2
        refine AC.enter Tryd.func4 rfl (by kernel_rfl) 98 rfl [.tmp 8] rfl (by simp) fun hsc B => ?_
        repeat first
          | with_reducible refine AWP.seq ?_
          | ((with_reducible refine AWP.region ?_ ?_); exact rfl)
          | with_reducible refine AWP.block ?_
          | with_reducible refine AWP.skip ?_
          | with_reducible refine AWP.exit ?_
          | with_reducible refine AWP.ret ?_
          | with_reducible refine AWP.label ?_
          | with_reducible refine AWP.goto ?_
          | ((with_reducible refine AWP.condT ?_ ?_); focus (simp only [ev, lk_cons, ↓reduceIte, Nat.reduceEqDiff]; done))
          | ((with_reducible refine AWP.condF ?_ ?_); focus (simp only [ev, lk_cons, ↓reduceIte, Nat.reduceEqDiff]; done))
          | with_reducible refine (awake _).use ?_
          | with_reducible refine h1.use ?_
          | with_reducible refine h2.use ?_
          | simp only [go_sem, ↓reduceIte, Nat.reduceEqDiff, reduceCtorEq, Nat.reduceAdd, Int.reduceEq, Int.reduceBNe, Int.reduceBEq, Int.reduceToNat, Int.reduceLT, Int.reduceLE, Int.reduceGT, Int.reduceGE, Nat.reduceSub, Nat.reduceBEq, Nat.reduceBNe, Int.reduceAdd, Int.reduceSub, Int.reduceMul, Int.reduceNeg, Nat.reduceMul, Nat.reduceLeDiff, Nat.reduceLT, g1, g2, g3, g4]
          | simp (disch := omega) only [wi64, wu8, wu16, wu32, wu64]
          | with_reducible_and_instances exact finR
          | ((with_reducible refine finR' ?_ ?_) <;> rfl)
          | ((with_reducible refine finD hsc (NRel.of_plain ?_)); exact rfl)
    · have hn : ¬ okS f c := by unfold okS; omega
      have h1 := Stream key f c (by omega) hf0 hf1 hc0 hc1 H hT
      have h2 := refStream key f c (by omega) hf0 hf1 hc0 hc1 H
      rw [strR_no hn] at h1 h2
      refine AC.enter Tryd.func4 rfl (by kernel_rfl) 98 rfl [.tmp 8] rfl (by simp) fun hsc B => ?_
      repeat first
        | with_reducible refine AWP.seq ?_
        | ((with_reducible refine AWP.region ?_ ?_); exact rfl)
        | with_reducible refine AWP.block ?_
        | with_reducible refine AWP.skip ?_
        | with_reducible refine AWP.exit ?_
        | with_reducible refine AWP.ret ?_
        | with_reducible refine AWP.label ?_
        | with_reducible refine AWP.goto ?_
        | ((with_reducible refine AWP.condT ?_ ?_); focus (simp only [ev, lk_cons, ↓reduceIte, Nat.reduceEqDiff]; done))
        | ((with_reducible refine AWP.condF ?_ ?_); focus (simp only [ev, lk_cons, ↓reduceIte, Nat.reduceEqDiff]; done))
        | with_reducible refine (awake _).use ?_
        | with_reducible refine h1.use ?_
        | with_reducible refine h2.use ?_
        | simp only [go_sem, ↓reduceIte, Nat.reduceEqDiff, reduceCtorEq, Nat.reduceAdd, Int.reduceEq, Int.reduceBNe, Int.reduceBEq, Int.reduceToNat, Int.reduceLT, Int.reduceLE, Int.reduceGT, Int.reduceGE, Nat.reduceSub, Nat.reduceBEq, Nat.reduceBNe, Int.reduceAdd, Int.reduceSub, Int.reduceMul, Int.reduceNeg, Nat.reduceMul, Nat.reduceLeDiff, Nat.reduceLT, g1, g2, g3]
        | simp (disch := omega) only [wi64, wu8, wu16, wu32, wu64]
        | with_reducible_and_instances exact finR
        | ((with_reducible refine finR' ?_ ?_) <;> rfl)
        | ((with_reducible refine finD hsc (NRel.of_plain ?_)); exact rfl)
  have h1 := Stream key f c (by omega) hf0 hf1 hc0 hc1 H hT
  have h2 := refStream key f c (by omega) hf0 hf1 hc0 hc1 H
  by_cases hn : okS f c
  · have ho := hn
    unfold okS at ho
    rw [strR_ok hn] at h1 h2
    by_cases g3 : u ≥ 0
    · by_cases g4 : u ≤ c
      · have o1 : okS f u := by unfold okS; omega
        have o2 : okS (f + u) (c - u) := by unfold okS; omega
        have h3 := Stream key f u (by omega) hf0 hf1 (by omega) (by omega) H hT
        have h4 := Stream key (f + u) (c - u) (by omega) (by omega) (by omega) (by omega) (by omega) H hT
        rw [strR_ok o1] at h3
        rw [strR_ok o2] at h4
        have hadd := strm_add key f.toNat u.toNat (c - u).toNat
        rw [show (f.toNat + u.toNat) = (f + u).toNat by omega, show u.toNat + (c - u).toNat = c.toNat by omega] at hadd
        have l1 := strm_len key f.toNat u.toNat
        have l2 := strm_len key (f + u).toNat (c - u).toNat
        refine AC.enter Tryd.func4 rfl (by kernel_rfl) 98 rfl [.tmp 8] rfl (by simp) fun hsc B => ?_
        repeat first
          | with_reducible refine AWP.seq ?_
          | ((with_reducible refine AWP.region ?_ ?_); exact rfl)
          | with_reducible refine AWP.block ?_
          | with_reducible refine AWP.skip ?_
          | with_reducible refine AWP.exit ?_
          | with_reducible refine AWP.ret ?_
          | with_reducible refine AWP.label ?_
          | with_reducible refine AWP.goto ?_
          | ((with_reducible refine AWP.condT ?_ ?_); focus (simp only [ev, lk_cons, ↓reduceIte, Nat.reduceEqDiff]; done))
          | ((with_reducible refine AWP.condF ?_ ?_); focus (simp only [ev, lk_cons, ↓reduceIte, Nat.reduceEqDiff]; done))
          | with_reducible refine (awake _).use ?_
          | with_reducible refine h1.use ?_
          | with_reducible refine h2.use ?_
          | with_reducible refine h3.use ?_
          | with_reducible refine h4.use ?_
          | simp only [go_sem, ↓reduceIte, Nat.reduceEqDiff, reduceCtorEq, Nat.reduceAdd, Int.reduceEq, Int.reduceBNe, Int.reduceBEq, Int.reduceToNat, Int.reduceLT, Int.reduceLE, Int.reduceGT, Int.reduceGE, Nat.reduceSub, Nat.reduceBEq, Nat.reduceBNe, Int.reduceAdd, Int.reduceSub, Int.reduceMul, Int.reduceNeg, Nat.reduceMul, Nat.reduceLeDiff, Nat.reduceLT, g1, g2, g3, g4]
          | simp (disch := omega) only [wi64, wu8, wu16, wu32, wu64]
          | with_reducible_and_instances exact finR
          | ((with_reducible refine finR' ?_ ?_) <;> rfl)
          | ((with_reducible refine finD hsc (NRel.of_plain ?_)); exact rfl)
        refine ⟨by omega, ?_⟩
        rw [hadd]
        repeat first
          | with_reducible refine AWP.seq ?_
          | ((with_reducible refine AWP.region ?_ ?_); exact rfl)
          | with_reducible refine AWP.block ?_
          | with_reducible refine AWP.skip ?_
          | with_reducible refine AWP.exit ?_
          | with_reducible refine AWP.ret ?_
          | with_reducible refine AWP.label ?_
          | with_reducible refine AWP.goto ?_
          | ((with_reducible refine AWP.condT ?_ ?_); focus (simp only [ev, lk_cons, ↓reduceIte, Nat.reduceEqDiff]; done))
          | ((with_reducible refine AWP.condF ?_ ?_); focus (simp only [ev, lk_cons, ↓reduceIte, Nat.reduceEqDiff]; done))
          | with_reducible refine (awake _).use ?_
          | simp only [go_sem, ↓reduceIte, Nat.reduceEqDiff, reduceCtorEq, Nat.reduceAdd, Int.reduceEq, Int.reduceBNe, Int.reduceBEq, Int.reduceToNat, Int.reduceLT, Int.reduceLE, Int.reduceGT, Int.reduceGE, Nat.reduceSub, Nat.reduceBEq, Nat.reduceBNe, Int.reduceAdd, Int.reduceSub, Int.reduceMul, Int.reduceNeg, Nat.reduceMul, Nat.reduceLeDiff, Nat.reduceLT]
          | simp (disch := omega) only [wi64, wu8, wu16, wu32, wu64]
          | with_reducible_and_instances exact finR
          | ((with_reducible refine finR' ?_ ?_) <;> rfl)
          | ((with_reducible refine finD hsc (NRel.of_plain ?_)); exact rfl)
      · skip
        refine AC.enter Tryd.func4 rfl (by kernel_rfl) 98 rfl [.tmp 8] rfl (by simp) fun hsc B => ?_
        repeat first
          | with_reducible refine AWP.seq ?_
          | ((with_reducible refine AWP.region ?_ ?_); exact rfl)
          | with_reducible refine AWP.block ?_
          | with_reducible refine AWP.skip ?_
          | with_reducible refine AWP.exit ?_
          | with_reducible refine AWP.ret ?_
          | with_reducible refine AWP.label ?_
          | with_reducible refine AWP.goto ?_
          | ((with_reducible refine AWP.condT ?_ ?_); focus (simp only [ev, lk_cons, ↓reduceIte, Nat.reduceEqDiff]; done))
          | ((with_reducible refine AWP.condF ?_ ?_); focus (simp only [ev, lk_cons, ↓reduceIte, Nat.reduceEqDiff]; done))
          | with_reducible refine (awake _).use ?_
          | with_reducible refine h1.use ?_
          | with_reducible refine h2.use ?_
          | simp only [go_sem, ↓reduceIte, Nat.reduceEqDiff, reduceCtorEq, Nat.reduceAdd, Int.reduceEq, Int.reduceBNe, Int.reduceBEq, Int.reduceToNat, Int.reduceLT, Int.reduceLE, Int.reduceGT, Int.reduceGE, Nat.reduceSub, Nat.reduceBEq, Nat.reduceBNe, Int.reduceAdd, Int.reduceSub, Int.reduceMul, Int.reduceNeg, Nat.reduceMul, Nat.reduceLeDiff, Nat.reduceLT, g1, g2, g3, g4]
          | simp (disch := omega) only [wi64, wu8, wu16, wu32, wu64]
          | with_reducible_and_instances exact finR
          | ((with_reducible refine finR' ?_ ?_) <;> rfl)
          | ((with_reducible refine finD hsc (NRel.of_plain ?_)); exact rfl)
    · skip
      refine AC.enter Tryd.func4 rfl (by kernel_rfl) 98 rfl [.tmp 8] rfl (by simp) fun hsc B => ?_
      repeat first
        | with_reducible refine AWP.seq ?_
        | ((with_reducible refine AWP.region ?_ ?_); exact rfl)
        | with_reducible refine AWP.block ?_
        | with_reducible refine AWP.skip ?_
        | with_reducible refine AWP.exit ?_
        | with_reducible refine AWP.ret ?_
        | with_reducible refine AWP.label ?_
        | with_reducible refine AWP.goto ?_
        | ((with_reducible refine AWP.condT ?_ ?_); focus (simp only [ev, lk_cons, ↓reduceIte, Nat.reduceEqDiff]; done))
        | ((with_reducible refine AWP.condF ?_ ?_); focus (simp only [ev, lk_cons, ↓reduceIte, Nat.reduceEqDiff]; done))
        | with_reducible refine (awake _).use ?_
        | with_reducible refine h1.use ?_
        | with_reducible refine h2.use ?_
        | simp only [go_sem, ↓reduceIte, Nat.reduceEqDiff, reduceCtorEq, Nat.reduceAdd, Int.reduceEq, Int.reduceBNe, Int.reduceBEq, Int.reduceToNat, Int.reduceLT, Int.reduceLE, Int.reduceGT, Int.reduceGE, Nat.reduceSub, Nat.reduceBEq, Nat.reduceBNe, Int.reduceAdd, Int.reduceSub, Int.reduceMul, Int.reduceNeg, Nat.reduceMul, Nat.reduceLeDiff, Nat.reduceLT, g1, g2, g3]
        | simp (disch := omega) only [wi64, wu8, wu16, wu32, wu64]
        | with_reducible_and_instances exact finR
        | ((with_reducible refine finR' ?_ ?_) <;> rfl)
        | ((with_reducible refine finD hsc (NRel.of_plain ?_)); exact rfl)
  · rw [strR_no hn] at h1 h2
    refine AC.enter Tryd.func4 rfl (by kernel_rfl) 98 rfl [.tmp 8] rfl (by simp) fun hsc B => ?_
    repeat first
      | with_reducible refine AWP.seq ?_
      | ((with_reducible refine AWP.region ?_ ?_); exact rfl)
      | with_reducible refine AWP.block ?_
      | with_reducible refine AWP.skip ?_
      | with_reducible refine AWP.exit ?_
      | with_reducible refine AWP.ret ?_
      | with_reducible refine AWP.label ?_
      | with_reducible refine AWP.goto ?_
      | ((with_reducible refine AWP.condT ?_ ?_); focus (simp only [ev, lk_cons, ↓reduceIte, Nat.reduceEqDiff]; done))
      | ((with_reducible refine AWP.condF ?_ ?_); focus (simp only [ev, lk_cons, ↓reduceIte, Nat.reduceEqDiff]; done))
      | with_reducible refine (awake _).use ?_
      | with_reducible refine h1.use ?_
      | with_reducible refine h2.use ?_
      | simp only [go_sem, ↓reduceIte, Nat.reduceEqDiff, reduceCtorEq, Nat.reduceAdd, Int.reduceEq, Int.reduceBNe, Int.reduceBEq, Int.reduceToNat, Int.reduceLT, Int.reduceLE, Int.reduceGT, Int.reduceGE, Nat.reduceSub, Nat.reduceBEq, Nat.reduceBNe, Int.reduceAdd, Int.reduceSub, Int.reduceMul, Int.reduceNeg, Nat.reduceMul, Nat.reduceLeDiff, Nat.reduceLT, g1, g2]
      | simp (disch := omega) only [wi64, wu8, wu16, wu32, wu64]
      | with_reducible_and_instances exact finR
      | ((with_reducible refine finR' ?_ ?_) <;> rfl)
      | ((with_reducible refine finD hsc (NRel.of_plain ?_)); exact rfl)
end Go.Proofs.YtdeoaadkngiilaaDoor
