/-
  Identifiers: the law on bits.
-/
import Derived.Test.YtmpkgdilmkeacaaDoorRI
set_option linter.unusedVariables false
set_option linter.unusedSimpArgs false
set_option maxRecDepth 20000
set_option maxHeartbeats 8000000
namespace Go.Proofs.YtmpkgdilmkeacaaDoor
open Go Go.Aw Go.Proofs Go.Shelf Go.RowKit Go.ChangeShapes
theorem askI_no {s : List UInt8} (h : ¬ s.length = 20) (n most : Int) : askI s n most = 1 := if_neg h
theorem askI_yes {s : List UInt8} (h : s.length = 20) {n most : Int} (h2 : ¬ (n < 0 ∨ most < n)) : askI s n most = 0 := by unfold askI; rw [if_pos h, if_neg h2]
theorem askI_far {s : List UInt8} (h : s.length = 20) {n most : Int} (h2 : n < 0 ∨ most < n) : askI s n most = 7 := by unfold askI; rw [if_pos h, if_pos h2]
theorem lawBits (id other seed : List UInt8) (i n k : Int) (hk : k ≤ 9223372036854775807) (H : AHeap) (hT : TabH H) : ARet Tryd.prog 7 [.string (bs id), .string (bs other), .string (bs seed), .int .i64 i, .int .i64 n, .int .i64 k] H (.bool true) H := by
  have c1 := fun H => Bit id i H
  have c2 := fun H => FlipA id i H
  have c3 := fun H => Prefix id n H
  have c4 := fun H => Within other id n H
  have c5 := fun H => Next id H
  have c6 := fun H => Middle id other H
  have c7 := In id n seed k hk H hT
  have c8 := Random seed k hk H hT
  have c9 := fun H => rvalid id H
  have c10 := fun H => rvalid other H
  have hA := fun H => awake12 H
  by_cases hid : id.length = 20
  · rw [if_pos hid] at c5
    rw [decide_eq_true hid] at c9
    have cN := fun H => rNext id hid H
    have cB := fun m (h : m < 160) H => bit id m h hid H
    have cF := fun m (h : m < 160) H => rFlip id hid m h H
    have cP := fun m (h : m ≤ 160) H => rPrefix id hid m h H
    obtain ⟨v1, hv1⟩ : ∃ v, v = (if askI id i 159 = 0 then bitAt id i.toNat else false) := ⟨_, rfl⟩
    obtain ⟨v2, hv2⟩ : ∃ v, v = (if askI id i 159 = 0 then flipL id i.toNat else []) := ⟨_, rfl⟩
    obtain ⟨e1, he1⟩ : ∃ v, v = askI id i 159 := ⟨_, rfl⟩
    rw [← hv1, ← he1] at c1
    rw [← hv2, ← he1] at c2
    rw [← he1] at hv1 hv2
    obtain ⟨v3, hv3⟩ : ∃ v, v = (if askI id n 160 = 0 then preL id n.toNat else []) := ⟨_, rfl⟩
    obtain ⟨e3, he3⟩ : ∃ v, v = askI id n 160 := ⟨_, rfl⟩
    rw [← hv3, ← he3] at c3
    rw [← he3] at hv3
    obtain ⟨v4, hv4⟩ : ∃ v, v = (if withinE other id n = 0 then within other id n else false) := ⟨_, rfl⟩
    obtain ⟨e4, he4⟩ : ∃ v, v = withinE other id n := ⟨_, rfl⟩
    rw [← hv4, ← he4] at c4
    rw [← he4] at hv4
    obtain ⟨v6, hv6⟩ : ∃ v, v = (if other.length = 20 then midL id other else []) := ⟨_, rfl⟩
    obtain ⟨e6, he6⟩ : ∃ v : Int, v = (if other.length = 20 then 0 else 1) := ⟨_, rfl⟩
    have c6' : ∀ H, ARet Tryd.prog 24 [.string (bs id), .string (bs other)] H (.tuple ⟨[.string (bs v6), .int .i64 e6]⟩) H := fun H => by
      have h := c6 H
      rw [hv6, he6]
      by_cases ho : other.length = 20
      · rw [if_pos ⟨hid, ho⟩] at h
        rw [if_pos ho, if_pos ho]; exact h
      · rw [if_neg (fun h => ho h.2)] at h
        rw [if_neg ho, if_neg ho]; exact h
    unfold inV at c7
    obtain ⟨v7, hv7⟩ : ∃ v, v = (if inE id n seed k = 0 then inL id n.toNat seed k else []) := ⟨_, rfl⟩
    obtain ⟨e7, he7⟩ : ∃ v, v = inE id n seed k := ⟨_, rfl⟩
    rw [← hv7, ← he7] at c7
    rw [← he7] at hv7
    unfold randV at c8
    obtain ⟨v8, hv8⟩ : ∃ v, v = (if randE seed k = 0 then randL seed k else []) := ⟨_, rfl⟩
    obtain ⟨e8, he8⟩ : ∃ v, v = randE seed k := ⟨_, rfl⟩
    rw [← hv8, ← he8] at c8
    rw [← he8] at hv8
    obtain ⟨bad, hbad⟩ : ∃ b : Bool, b = decide (n < 0 ∨ 160 < n) := ⟨_, rfl⟩
    clear c6
    refine AC.enter Tryd.func7 rfl (by kernel_rfl) 289 rfl [.tmp 12] rfl (by simp) fun hsc B => ?_
    repeat first
      | with_reducible refine AWP.seqJ (x := .seq (.region 13 _ _) _) ⟨[(0, .string (bs id)), (1, .string (bs other)), (2, .string (bs seed)), (4, .int .i64 n), (5, .int .i64 k), (17, .string (bs v3)), (18, .int .i64 e3), (19, .bool v4), (20, .int .i64 e4), (23, .string (bs v6)), (24, .int .i64 e6), (25, .string (bs v7)), (26, .int .i64 e7), (27, .string (bs v8)), (28, .int .i64 e8)], [], H⟩ ?_ ?_
      | with_reducible refine AWP.seq ?_
      | ((with_reducible refine AWP.region ?_ ?_); exact rfl)
      | with_reducible refine AWP.block ?_
      | with_reducible refine AWP.skip ?_
      | with_reducible refine AWP.exit ?_
      | with_reducible refine AWP.ret ?_
      | with_reducible refine AWP.label ?_
      | with_reducible refine AWP.goto ?_
      | ((with_reducible refine AWP.condT ?_ ?_); focus (simp only [ev, lk_cons, ↓reduceIte, Nat.reduceEqDiff]; done))
      | ((with_reducible refine AWP.condF ?_ ?_); focus (simp only [ev, lk_cons, ↓reduceIte, Nat.reduceEqDiff]; done))
      | with_reducible refine (c1 _).use ?_
      | with_reducible refine (c2 _).use ?_
      | with_reducible refine (c3 _).use ?_
      | with_reducible refine (c4 _).use ?_
      | with_reducible refine (c5 _).use ?_
      | with_reducible refine (c6' _).use ?_
      | with_reducible refine c7.use ?_
      | with_reducible refine c8.use ?_
      | with_reducible refine (c9 _).use ?_
      | with_reducible refine (cN _).use ?_
      | simp only [go_sem, ↓reduceIte, Nat.reduceEqDiff, reduceCtorEq, Nat.reduceAdd, Int.reduceEq, Int.reduceBNe, Int.reduceBEq, Int.reduceToNat, Int.reduceLT, Int.reduceLE, Int.reduceGT, Int.reduceGE, Nat.reduceSub, Nat.reduceBEq, Nat.reduceBNe, Int.reduceAdd, Int.reduceSub, Int.reduceMul, Int.reduceNeg, Nat.reduceMul, Nat.reduceLeDiff, Nat.reduceLT]
      | simp (disch := omega) only [wi64, wu8, wu16, wu32, wu64, Int.tdiv_eq_ediv_of_nonneg, Int.tmod_eq_emod_of_nonneg]
      | with_reducible_and_instances exact finR
      | ((with_reducible refine finR' ?_ ?_) <;> rfl)
      | ((with_reducible refine finD hsc (NRel.of_plain ?_)); exact rfl)
    · by_cases h1 : i < 0
      · rw [askI_far hid (.inl h1)] at he1
        repeat first
          | with_reducible refine AWP.seq ?_
          | ((with_reducible refine AWP.region ?_ ?_); exact rfl)
          | with_reducible refine AWP.block ?_
          | with_reducible refine AWP.skip ?_
          | with_reducible refine AWP.exit ?_
          | with_reducible refine AWP.ret ?_
          | with_reducible refine AWP.label ?_
          | with_reducible refine AWP.goto ?_
          | ((with_reducible refine AWP.condT ?_ ?_); focus (simp only [ev, lk_cons, ↓reduceIte, Nat.reduceEqDiff]; done))
          | ((with_reducible refine AWP.condF ?_ ?_); focus (simp only [ev, lk_cons, ↓reduceIte, Nat.reduceEqDiff]; done))
          | simp only [go_sem, ↓reduceIte, Nat.reduceEqDiff, reduceCtorEq, Nat.reduceAdd, Int.reduceEq, Int.reduceBNe, Int.reduceBEq, Int.reduceToNat, Int.reduceLT, Int.reduceLE, Int.reduceGT, Int.reduceGE, Nat.reduceSub, Nat.reduceBEq, Nat.reduceBNe, Int.reduceAdd, Int.reduceSub, Int.reduceMul, Int.reduceNeg, Nat.reduceMul, Nat.reduceLeDiff, Nat.reduceLT, h1, he1]
          | simp (disch := omega) only [wi64, wu8, wu16, wu32, wu64, Int.tdiv_eq_ediv_of_nonneg, Int.tmod_eq_emod_of_nonneg]
          | with_reducible_and_instances exact finR
          | ((with_reducible refine finR' ?_ ?_) <;> rfl)
          | ((with_reducible refine finD hsc (NRel.of_plain ?_)); exact rfl)
        exact Weak.env (by simp [envIn, lk_cons, wth_some])
      · by_cases h2 : i ≥ 160
        · rw [askI_far hid (.inr (by omega))] at he1
          repeat first
            | with_reducible refine AWP.seq ?_
            | ((with_reducible refine AWP.region ?_ ?_); exact rfl)
            | with_reducible refine AWP.block ?_
            | with_reducible refine AWP.skip ?_
            | with_reducible refine AWP.exit ?_
            | with_reducible refine AWP.ret ?_
            | with_reducible refine AWP.label ?_
            | with_reducible refine AWP.goto ?_
            | ((with_reducible refine AWP.condT ?_ ?_); focus (simp only [ev, lk_cons, ↓reduceIte, Nat.reduceEqDiff]; done))
            | ((with_reducible refine AWP.condF ?_ ?_); focus (simp only [ev, lk_cons, ↓reduceIte, Nat.reduceEqDiff]; done))
            | simp only [go_sem, ↓reduceIte, Nat.reduceEqDiff, reduceCtorEq, Nat.reduceAdd, Int.reduceEq, Int.reduceBNe, Int.reduceBEq, Int.reduceToNat, Int.reduceLT, Int.reduceLE, Int.reduceGT, Int.reduceGE, Nat.reduceSub, Nat.reduceBEq, Nat.reduceBNe, Int.reduceAdd, Int.reduceSub, Int.reduceMul, Int.reduceNeg, Nat.reduceMul, Nat.reduceLeDiff, Nat.reduceLT, h1, h2, he1]
            | simp (disch := omega) only [wi64, wu8, wu16, wu32, wu64, Int.tdiv_eq_ediv_of_nonneg, Int.tmod_eq_emod_of_nonneg]
            | with_reducible_and_instances exact finR
            | ((with_reducible refine finR' ?_ ?_) <;> rfl)
            | ((with_reducible refine finD hsc (NRel.of_plain ?_)); exact rfl)
          exact Weak.env (by simp [envIn, lk_cons, wth_some])
        · rw [askI_yes hid (by omega)] at he1
          rw [he1, if_pos rfl] at hv1 hv2
          obtain ⟨N, rfl⟩ : ∃ N : Nat, i = (N : Int) := ⟨i.toNat, by omega⟩
          rw [Int.toNat_natCast] at hv1 hv2
          have cB1 := cB N (by omega)
          have cF1 := cF N (by omega)
          rw [← hv1] at cB1
          rw [← hv2] at cF1
          have hbb : (!(v1 == v1)) = false := by simp
          repeat first
            | with_reducible refine AWP.seq ?_
            | ((with_reducible refine AWP.region ?_ ?_); exact rfl)
            | with_reducible refine AWP.block ?_
            | with_reducible refine AWP.skip ?_
            | with_reducible refine AWP.exit ?_
            | with_reducible refine AWP.ret ?_
            | with_reducible refine AWP.label ?_
            | with_reducible refine AWP.goto ?_
            | ((with_reducible refine AWP.condT ?_ ?_); focus (simp only [ev, lk_cons, ↓reduceIte, Nat.reduceEqDiff]; done))
            | ((with_reducible refine AWP.condF ?_ ?_); focus (simp only [ev, lk_cons, ↓reduceIte, Nat.reduceEqDiff]; done))
            | with_reducible refine (cB1 _).use ?_
            | with_reducible refine (cF1 _).use ?_
            | simp only [go_sem, ↓reduceIte, Nat.reduceEqDiff, reduceCtorEq, Nat.reduceAdd, Int.reduceEq, Int.reduceBNe, Int.reduceBEq, Int.reduceToNat, Int.reduceLT, Int.reduceLE, Int.reduceGT, Int.reduceGE, Nat.reduceSub, Nat.reduceBEq, Nat.reduceBNe, Int.reduceAdd, Int.reduceSub, Int.reduceMul, Int.reduceNeg, Nat.reduceMul, Nat.reduceLeDiff, Nat.reduceLT, h1, h2, he1, hbb]
            | simp (disch := omega) only [wi64, wu8, wu16, wu32, wu64, Int.tdiv_eq_ediv_of_nonneg, Int.tmod_eq_emod_of_nonneg]
            | with_reducible_and_instances exact finR
            | ((with_reducible refine finR' ?_ ?_) <;> rfl)
            | ((with_reducible refine finD hsc (NRel.of_plain ?_)); exact rfl)
          exact Weak.env (by simp [envIn, lk_cons, wth_some])
    repeat first
      | with_reducible refine AWP.seqJ (x := .region 18 _ _) ⟨[(0, .string (bs id)), (1, .string (bs other)), (2, .string (bs seed)), (4, .int .i64 n), (5, .int .i64 k), (17, .string (bs v3)), (18, .int .i64 e3), (19, .bool v4), (20, .int .i64 e4), (23, .string (bs v6)), (24, .int .i64 e6), (25, .string (bs v7)), (26, .int .i64 e7), (27, .string (bs v8)), (28, .int .i64 e8), (29, .bool bad)], [], H⟩ ?_ ?_
      | with_reducible refine AWP.seq ?_
      | ((with_reducible refine AWP.region ?_ ?_); exact rfl)
      | with_reducible refine AWP.block ?_
      | with_reducible refine AWP.skip ?_
      | with_reducible refine AWP.exit ?_
      | with_reducible refine AWP.ret ?_
      | with_reducible refine AWP.label ?_
      | with_reducible refine AWP.goto ?_
      | ((with_reducible refine AWP.condT ?_ ?_); focus (simp only [ev, lk_cons, ↓reduceIte, Nat.reduceEqDiff]; done))
      | ((with_reducible refine AWP.condF ?_ ?_); focus (simp only [ev, lk_cons, ↓reduceIte, Nat.reduceEqDiff]; done))
      | simp only [go_sem, ↓reduceIte, Nat.reduceEqDiff, reduceCtorEq, Nat.reduceAdd, Int.reduceEq, Int.reduceBNe, Int.reduceBEq, Int.reduceToNat, Int.reduceLT, Int.reduceLE, Int.reduceGT, Int.reduceGE, Nat.reduceSub, Nat.reduceBEq, Nat.reduceBNe, Int.reduceAdd, Int.reduceSub, Int.reduceMul, Int.reduceNeg, Nat.reduceMul, Nat.reduceLeDiff, Nat.reduceLT]
      | simp (disch := omega) only [wi64, wu8, wu16, wu32, wu64, Int.tdiv_eq_ediv_of_nonneg, Int.tmod_eq_emod_of_nonneg]
      | with_reducible_and_instances exact finR
      | ((with_reducible refine finR' ?_ ?_) <;> rfl)
      | ((with_reducible refine finD hsc (NRel.of_plain ?_)); exact rfl)
    · by_cases h : n < 0
      · have : bad = true := by rw [hbad]; exact decide_eq_true (.inl h)
        repeat first
          | with_reducible refine AWP.seq ?_
          | ((with_reducible refine AWP.region ?_ ?_); exact rfl)
          | with_reducible refine AWP.block ?_
          | with_reducible refine AWP.skip ?_
          | with_reducible refine AWP.exit ?_
          | with_reducible refine AWP.ret ?_
          | with_reducible refine AWP.label ?_
          | with_reducible refine AWP.goto ?_
          | ((with_reducible refine AWP.condT ?_ ?_); focus (simp only [ev, lk_cons, ↓reduceIte, Nat.reduceEqDiff]; done))
          | ((with_reducible refine AWP.condF ?_ ?_); focus (simp only [ev, lk_cons, ↓reduceIte, Nat.reduceEqDiff]; done))
          | simp only [go_sem, ↓reduceIte, Nat.reduceEqDiff, reduceCtorEq, Nat.reduceAdd, Int.reduceEq, Int.reduceBNe, Int.reduceBEq, Int.reduceToNat, Int.reduceLT, Int.reduceLE, Int.reduceGT, Int.reduceGE, Nat.reduceSub, Nat.reduceBEq, Nat.reduceBNe, Int.reduceAdd, Int.reduceSub, Int.reduceMul, Int.reduceNeg, Nat.reduceMul, Nat.reduceLeDiff, Nat.reduceLT, h]
          | simp (disch := omega) only [wi64, wu8, wu16, wu32, wu64, Int.tdiv_eq_ediv_of_nonneg, Int.tmod_eq_emod_of_nonneg]
          | with_reducible_and_instances exact finR
          | ((with_reducible refine finR' ?_ ?_) <;> rfl)
          | ((with_reducible refine finD hsc (NRel.of_plain ?_)); exact rfl)
        exact Weak.env (by simp [envIn, lk_cons, wth_some, this])
      · have : bad = decide (n > 160) := by rw [hbad]; simp only [h, false_or]
        repeat first
          | with_reducible refine AWP.seq ?_
          | ((with_reducible refine AWP.region ?_ ?_); exact rfl)
          | with_reducible refine AWP.block ?_
          | with_reducible refine AWP.skip ?_
          | with_reducible refine AWP.exit ?_
          | with_reducible refine AWP.ret ?_
          | with_reducible refine AWP.label ?_
          | with_reducible refine AWP.goto ?_
          | ((with_reducible refine AWP.condT ?_ ?_); focus (simp only [ev, lk_cons, ↓reduceIte, Nat.reduceEqDiff]; done))
          | ((with_reducible refine AWP.condF ?_ ?_); focus (simp only [ev, lk_cons, ↓reduceIte, Nat.reduceEqDiff]; done))
          | simp only [go_sem, ↓reduceIte, Nat.reduceEqDiff, reduceCtorEq, Nat.reduceAdd, Int.reduceEq, Int.reduceBNe, Int.reduceBEq, Int.reduceToNat, Int.reduceLT, Int.reduceLE, Int.reduceGT, Int.reduceGE, Nat.reduceSub, Nat.reduceBEq, Nat.reduceBNe, Int.reduceAdd, Int.reduceSub, Int.reduceMul, Int.reduceNeg, Nat.reduceMul, Nat.reduceLeDiff, Nat.reduceLT, h]
          | simp (disch := omega) only [wi64, wu8, wu16, wu32, wu64, Int.tdiv_eq_ediv_of_nonneg, Int.tmod_eq_emod_of_nonneg]
          | with_reducible_and_instances exact finR
          | ((with_reducible refine finR' ?_ ?_) <;> rfl)
          | ((with_reducible refine finD hsc (NRel.of_plain ?_)); exact rfl)
        exact Weak.env (by simp [envIn, lk_cons, wth_some, this])
    repeat first
      | with_reducible refine AWP.seqJ (x := .seq (.region 19 _ _) _) ⟨[(0, .string (bs id)), (1, .string (bs other)), (2, .string (bs seed)), (4, .int .i64 n), (5, .int .i64 k), (17, .string (bs v3)), (18, .int .i64 e3), (19, .bool v4), (20, .int .i64 e4), (23, .string (bs v6)), (24, .int .i64 e6), (25, .string (bs v7)), (26, .int .i64 e7), (27, .string (bs v8)), (28, .int .i64 e8), (29, .bool bad)], [], H⟩ ?_ ?_
      | with_reducible refine AWP.seq ?_
      | ((with_reducible refine AWP.region ?_ ?_); exact rfl)
      | with_reducible refine AWP.block ?_
      | with_reducible refine AWP.skip ?_
      | with_reducible refine AWP.exit ?_
      | with_reducible refine AWP.ret ?_
      | with_reducible refine AWP.label ?_
      | with_reducible refine AWP.goto ?_
      | ((with_reducible refine AWP.condT ?_ ?_); focus (simp only [ev, lk_cons, ↓reduceIte, Nat.reduceEqDiff]; done))
      | ((with_reducible refine AWP.condF ?_ ?_); focus (simp only [ev, lk_cons, ↓reduceIte, Nat.reduceEqDiff]; done))
      | simp only [go_sem, ↓reduceIte, Nat.reduceEqDiff, reduceCtorEq, Nat.reduceAdd, Int.reduceEq, Int.reduceBNe, Int.reduceBEq, Int.reduceToNat, Int.reduceLT, Int.reduceLE, Int.reduceGT, Int.reduceGE, Nat.reduceSub, Nat.reduceBEq, Nat.reduceBNe, Int.reduceAdd, Int.reduceSub, Int.reduceMul, Int.reduceNeg, Nat.reduceMul, Nat.reduceLeDiff, Nat.reduceLT]
      | simp (disch := omega) only [wi64, wu8, wu16, wu32, wu64, Int.tdiv_eq_ediv_of_nonneg, Int.tmod_eq_emod_of_nonneg]
      | with_reducible_and_instances exact finR
      | ((with_reducible refine finR' ?_ ?_) <;> rfl)
      | ((with_reducible refine finD hsc (NRel.of_plain ?_)); exact rfl)
    · cases hb : bad with
      | true =>
        rw [hb] at hbad
        rw [askI_far hid (of_decide_eq_true hbad.symm)] at he3
        repeat first
          | with_reducible refine AWP.seq ?_
          | ((with_reducible refine AWP.region ?_ ?_); exact rfl)
          | with_reducible refine AWP.block ?_
          | with_reducible refine AWP.skip ?_
          | with_reducible refine AWP.exit ?_
          | with_reducible refine AWP.ret ?_
          | with_reducible refine AWP.label ?_
          | with_reducible refine AWP.goto ?_
          | ((with_reducible refine AWP.condT ?_ ?_); focus (simp only [ev, lk_cons, ↓reduceIte, Nat.reduceEqDiff]; done))
          | ((with_reducible refine AWP.condF ?_ ?_); focus (simp only [ev, lk_cons, ↓reduceIte, Nat.reduceEqDiff]; done))
          | simp only [go_sem, ↓reduceIte, Nat.reduceEqDiff, reduceCtorEq, Nat.reduceAdd, Int.reduceEq, Int.reduceBNe, Int.reduceBEq, Int.reduceToNat, Int.reduceLT, Int.reduceLE, Int.reduceGT, Int.reduceGE, Nat.reduceSub, Nat.reduceBEq, Nat.reduceBNe, Int.reduceAdd, Int.reduceSub, Int.reduceMul, Int.reduceNeg, Nat.reduceMul, Nat.reduceLeDiff, Nat.reduceLT, he3]
          | simp (disch := omega) only [wi64, wu8, wu16, wu32, wu64, Int.tdiv_eq_ediv_of_nonneg, Int.tmod_eq_emod_of_nonneg]
          | with_reducible_and_instances exact finR
          | ((with_reducible refine finR' ?_ ?_) <;> rfl)
          | ((with_reducible refine finD hsc (NRel.of_plain ?_)); exact rfl)
        exact Weak.env (by simp [envIn, lk_cons, wth_some])
      | false =>
        rw [hb] at hbad
        have hnn := of_decide_eq_false hbad.symm
        rw [askI_yes hid hnn] at he3
        rw [he3, if_pos rfl] at hv3
        obtain ⟨N, rfl⟩ : ∃ N : Nat, n = (N : Int) := ⟨n.toNat, by omega⟩
        rw [Int.toNat_natCast] at hv3
        have cP1 := cP N (by omega)
        rw [← hv3] at cP1
        have hbb : (!(v3 == v3)) = false := by simp
        repeat first
          | with_reducible refine AWP.seq ?_
          | ((with_reducible refine AWP.region ?_ ?_); exact rfl)
          | with_reducible refine AWP.block ?_
          | with_reducible refine AWP.skip ?_
          | with_reducible refine AWP.exit ?_
          | with_reducible refine AWP.ret ?_
          | with_reducible refine AWP.label ?_
          | with_reducible refine AWP.goto ?_
          | ((with_reducible refine AWP.condT ?_ ?_); focus (simp only [ev, lk_cons, ↓reduceIte, Nat.reduceEqDiff]; done))
          | ((with_reducible refine AWP.condF ?_ ?_); focus (simp only [ev, lk_cons, ↓reduceIte, Nat.reduceEqDiff]; done))
          | with_reducible refine (cP1 _).use ?_
          | simp only [go_sem, ↓reduceIte, Nat.reduceEqDiff, reduceCtorEq, Nat.reduceAdd, Int.reduceEq, Int.reduceBNe, Int.reduceBEq, Int.reduceToNat, Int.reduceLT, Int.reduceLE, Int.reduceGT, Int.reduceGE, Nat.reduceSub, Nat.reduceBEq, Nat.reduceBNe, Int.reduceAdd, Int.reduceSub, Int.reduceMul, Int.reduceNeg, Nat.reduceMul, Nat.reduceLeDiff, Nat.reduceLT, he3, hbb]
          | simp (disch := omega) only [wi64, wu8, wu16, wu32, wu64, Int.tdiv_eq_ediv_of_nonneg, Int.tmod_eq_emod_of_nonneg]
          | with_reducible_and_instances exact finR
          | ((with_reducible refine finR' ?_ ?_) <;> rfl)
          | ((with_reducible refine finD hsc (NRel.of_plain ?_)); exact rfl)
        exact Weak.env (by simp [envIn, lk_cons, wth_some])
    repeat first
      | with_reducible refine AWP.seqJ (x := .seq (.region 21 _ _) _) ⟨[(0, .string (bs id)), (1, .string (bs other)), (2, .string (bs seed)), (4, .int .i64 n), (5, .int .i64 k), (17, .string (bs v3)), (18, .int .i64 e3), (19, .bool v4), (20, .int .i64 e4), (23, .string (bs v6)), (24, .int .i64 e6), (25, .string (bs v7)), (26, .int .i64 e7), (27, .string (bs v8)), (28, .int .i64 e8), (29, .bool bad)], [], H⟩ ?_ ?_
      | with_reducible refine AWP.seq ?_
      | ((with_reducible refine AWP.region ?_ ?_); exact rfl)
      | with_reducible refine AWP.block ?_
      | with_reducible refine AWP.skip ?_
      | with_reducible refine AWP.exit ?_
      | with_reducible refine AWP.ret ?_
      | with_reducible refine AWP.label ?_
      | with_reducible refine AWP.goto ?_
      | ((with_reducible refine AWP.condT ?_ ?_); focus (simp only [ev, lk_cons, ↓reduceIte, Nat.reduceEqDiff]; done))
      | ((with_reducible refine AWP.condF ?_ ?_); focus (simp only [ev, lk_cons, ↓reduceIte, Nat.reduceEqDiff]; done))
      | simp only [go_sem, ↓reduceIte, Nat.reduceEqDiff, reduceCtorEq, Nat.reduceAdd, Int.reduceEq, Int.reduceBNe, Int.reduceBEq, Int.reduceToNat, Int.reduceLT, Int.reduceLE, Int.reduceGT, Int.reduceGE, Nat.reduceSub, Nat.reduceBEq, Nat.reduceBNe, Int.reduceAdd, Int.reduceSub, Int.reduceMul, Int.reduceNeg, Nat.reduceMul, Nat.reduceLeDiff, Nat.reduceLT]
      | simp (disch := omega) only [wi64, wu8, wu16, wu32, wu64, Int.tdiv_eq_ediv_of_nonneg, Int.tmod_eq_emod_of_nonneg]
      | with_reducible_and_instances exact finR
      | ((with_reducible refine finR' ?_ ?_) <;> rfl)
      | ((with_reducible refine finD hsc (NRel.of_plain ?_)); exact rfl)
    · by_cases ho : other.length = 20
      · rw [decide_eq_true ho] at c10
        rw [if_pos ho] at hv6 he6
        have cM := fun H => rMiddle id other hid ho H
        rw [← hv6] at cM
        have cW := fun H => rWithin other id ho hid n H
        have ew : withinE other id n = if n < 0 ∨ 160 < n then 7 else 0 := by unfold withinE; rw [if_neg (fun h => h hid), if_pos ho]
        rw [ew] at he4
        have hbb : (!(v6 == v6)) = false := by simp
        cases hb : bad with
        | true =>
          rw [hb] at hbad
          rw [if_pos (of_decide_eq_true hbad.symm)] at he4
          repeat first
            | with_reducible refine AWP.seq ?_
            | ((with_reducible refine AWP.region ?_ ?_); exact rfl)
            | with_reducible refine AWP.block ?_
            | with_reducible refine AWP.skip ?_
            | with_reducible refine AWP.exit ?_
            | with_reducible refine AWP.ret ?_
            | with_reducible refine AWP.label ?_
            | with_reducible refine AWP.goto ?_
            | ((with_reducible refine AWP.condT ?_ ?_); focus (simp only [ev, lk_cons, ↓reduceIte, Nat.reduceEqDiff]; done))
            | ((with_reducible refine AWP.condF ?_ ?_); focus (simp only [ev, lk_cons, ↓reduceIte, Nat.reduceEqDiff]; done))
            | with_reducible refine (c10 _).use ?_
            | with_reducible refine (cM _).use ?_
            | simp only [go_sem, ↓reduceIte, Nat.reduceEqDiff, reduceCtorEq, Nat.reduceAdd, Int.reduceEq, Int.reduceBNe, Int.reduceBEq, Int.reduceToNat, Int.reduceLT, Int.reduceLE, Int.reduceGT, Int.reduceGE, Nat.reduceSub, Nat.reduceBEq, Nat.reduceBNe, Int.reduceAdd, Int.reduceSub, Int.reduceMul, Int.reduceNeg, Nat.reduceMul, Nat.reduceLeDiff, Nat.reduceLT, he4, he6, hbb]
            | simp (disch := omega) only [wi64, wu8, wu16, wu32, wu64, Int.tdiv_eq_ediv_of_nonneg, Int.tmod_eq_emod_of_nonneg]
            | with_reducible_and_instances exact finR
            | ((with_reducible refine finR' ?_ ?_) <;> rfl)
            | ((with_reducible refine finD hsc (NRel.of_plain ?_)); exact rfl)
          exact Weak.env (by simp [envIn, lk_cons, wth_some])
        | false =>
          rw [hb] at hbad
          rw [if_neg (of_decide_eq_false hbad.symm)] at he4
          rw [he4, if_pos rfl] at hv4
          rw [← hv4] at cW
          have hbb2 : (!(v4 == v4)) = false := by simp
          repeat first
            | with_reducible refine AWP.seq ?_
            | ((with_reducible refine AWP.region ?_ ?_); exact rfl)
            | with_reducible refine AWP.block ?_
            | with_reducible refine AWP.skip ?_
            | with_reducible refine AWP.exit ?_
            | with_reducible refine AWP.ret ?_
            | with_reducible refine AWP.label ?_
            | with_reducible refine AWP.goto ?_
            | ((with_reducible refine AWP.condT ?_ ?_); focus (simp only [ev, lk_cons, ↓reduceIte, Nat.reduceEqDiff]; done))
            | ((with_reducible refine AWP.condF ?_ ?_); focus (simp only [ev, lk_cons, ↓reduceIte, Nat.reduceEqDiff]; done))
            | with_reducible refine (c10 _).use ?_
            | with_reducible refine (cM _).use ?_
            | with_reducible refine (cW _).use ?_
            | simp only [go_sem, ↓reduceIte, Nat.reduceEqDiff, reduceCtorEq, Nat.reduceAdd, Int.reduceEq, Int.reduceBNe, Int.reduceBEq, Int.reduceToNat, Int.reduceLT, Int.reduceLE, Int.reduceGT, Int.reduceGE, Nat.reduceSub, Nat.reduceBEq, Nat.reduceBNe, Int.reduceAdd, Int.reduceSub, Int.reduceMul, Int.reduceNeg, Nat.reduceMul, Nat.reduceLeDiff, Nat.reduceLT, he4, he6, hbb, hbb2]
            | simp (disch := omega) only [wi64, wu8, wu16, wu32, wu64, Int.tdiv_eq_ediv_of_nonneg, Int.tmod_eq_emod_of_nonneg]
            | with_reducible_and_instances exact finR
            | ((with_reducible refine finR' ?_ ?_) <;> rfl)
            | ((with_reducible refine finD hsc (NRel.of_plain ?_)); exact rfl)
          exact Weak.env (by simp [envIn, lk_cons, wth_some])
      · rw [decide_eq_false ho] at c10
        rw [if_neg ho] at he6
        have ew : withinE other id n = 1 := by unfold withinE; rw [if_neg (fun h => h hid), if_neg ho]
        rw [ew] at he4
        repeat first
          | with_reducible refine AWP.seq ?_
          | ((with_reducible refine AWP.region ?_ ?_); exact rfl)
          | with_reducible refine AWP.block ?_
          | with_reducible refine AWP.skip ?_
          | with_reducible refine AWP.exit ?_
          | with_reducible refine AWP.ret ?_
          | with_reducible refine AWP.label ?_
          | with_reducible refine AWP.goto ?_
          | ((with_reducible refine AWP.condT ?_ ?_); focus (simp only [ev, lk_cons, ↓reduceIte, Nat.reduceEqDiff]; done))
          | ((with_reducible refine AWP.condF ?_ ?_); focus (simp only [ev, lk_cons, ↓reduceIte, Nat.reduceEqDiff]; done))
          | with_reducible refine (c10 _).use ?_
          | simp only [go_sem, ↓reduceIte, Nat.reduceEqDiff, reduceCtorEq, Nat.reduceAdd, Int.reduceEq, Int.reduceBNe, Int.reduceBEq, Int.reduceToNat, Int.reduceLT, Int.reduceLE, Int.reduceGT, Int.reduceGE, Nat.reduceSub, Nat.reduceBEq, Nat.reduceBNe, Int.reduceAdd, Int.reduceSub, Int.reduceMul, Int.reduceNeg, Nat.reduceMul, Nat.reduceLeDiff, Nat.reduceLT, he4, he6]
          | simp (disch := omega) only [wi64, wu8, wu16, wu32, wu64, Int.tdiv_eq_ediv_of_nonneg, Int.tmod_eq_emod_of_nonneg]
          | with_reducible_and_instances exact finR
          | ((with_reducible refine finR' ?_ ?_) <;> rfl)
          | ((with_reducible refine finD hsc (NRel.of_plain ?_)); exact rfl)
        exact Weak.env (by simp [envIn, lk_cons, wth_some])
    by_cases g1 : (seed.length : Int) > 100
    · have x7 : inE id n seed k = 1 := if_pos (.inr g1)
      have x8 : randE seed k = 1 := if_pos g1
      rw [x7] at he7
      rw [x8] at he8
      repeat first
        | with_reducible refine AWP.seq ?_
        | ((with_reducible refine AWP.region ?_ ?_); exact rfl)
        | with_reducible refine AWP.block ?_
        | with_reducible refine AWP.skip ?_
        | with_reducible refine AWP.exit ?_
        | with_reducible refine AWP.ret ?_
        | with_reducible refine AWP.label ?_
        | with_reducible refine AWP.goto ?_
        | ((with_reducible refine AWP.condT ?_ ?_); focus (simp only [ev, lk_cons, ↓reduceIte, Nat.reduceEqDiff]; done))
        | ((with_reducible refine AWP.condF ?_ ?_); focus (simp only [ev, lk_cons, ↓reduceIte, Nat.reduceEqDiff]; done))
        | with_reducible refine (hA _).use ?_
        | simp only [go_sem, ↓reduceIte, Nat.reduceEqDiff, reduceCtorEq, Nat.reduceAdd, Int.reduceEq, Int.reduceBNe, Int.reduceBEq, Int.reduceToNat, Int.reduceLT, Int.reduceLE, Int.reduceGT, Int.reduceGE, Nat.reduceSub, Nat.reduceBEq, Nat.reduceBNe, Int.reduceAdd, Int.reduceSub, Int.reduceMul, Int.reduceNeg, Nat.reduceMul, Nat.reduceLeDiff, Nat.reduceLT, g1, he7, he8]
        | simp (disch := omega) only [wi64, wu8, wu16, wu32, wu64, Int.tdiv_eq_ediv_of_nonneg, Int.tmod_eq_emod_of_nonneg]
        | with_reducible_and_instances exact finR
        | ((with_reducible refine finR' ?_ ?_) <;> rfl)
        | ((with_reducible refine finD hsc (NRel.of_plain ?_)); exact rfl)
    have x7 : inE id n seed k = if n < 0 ∨ n > 160 ∨ k < 0 then 7 else 0 := if_neg (fun h => h.elim (fun h => h hid) g1)
    by_cases g2 : k < 0
    · rw [x7, if_pos (.inr (.inr g2))] at he7
      have x8 : randE seed k = 7 := by unfold randE; rw [if_neg g1, if_pos g2]
      rw [x8] at he8
      repeat first
        | with_reducible refine AWP.seq ?_
        | ((with_reducible refine AWP.region ?_ ?_); exact rfl)
        | with_reducible refine AWP.block ?_
        | with_reducible refine AWP.skip ?_
        | with_reducible refine AWP.exit ?_
        | with_reducible refine AWP.ret ?_
        | with_reducible refine AWP.label ?_
        | with_reducible refine AWP.goto ?_
        | ((with_reducible refine AWP.condT ?_ ?_); focus (simp only [ev, lk_cons, ↓reduceIte, Nat.reduceEqDiff]; done))
        | ((with_reducible refine AWP.condF ?_ ?_); focus (simp only [ev, lk_cons, ↓reduceIte, Nat.reduceEqDiff]; done))
        | with_reducible refine (hA _).use ?_
        | simp only [go_sem, ↓reduceIte, Nat.reduceEqDiff, reduceCtorEq, Nat.reduceAdd, Int.reduceEq, Int.reduceBNe, Int.reduceBEq, Int.reduceToNat, Int.reduceLT, Int.reduceLE, Int.reduceGT, Int.reduceGE, Nat.reduceSub, Nat.reduceBEq, Nat.reduceBNe, Int.reduceAdd, Int.reduceSub, Int.reduceMul, Int.reduceNeg, Nat.reduceMul, Nat.reduceLeDiff, Nat.reduceLT, g1, g2, he7, he8]
        | simp (disch := omega) only [wi64, wu8, wu16, wu32, wu64, Int.tdiv_eq_ediv_of_nonneg, Int.tmod_eq_emod_of_nonneg]
        | with_reducible_and_instances exact finR
        | ((with_reducible refine finR' ?_ ?_) <;> rfl)
        | ((with_reducible refine finD hsc (NRel.of_plain ?_)); exact rfl)
    have x8 : randE seed k = 0 := by unfold randE; rw [if_neg g1, if_neg g2]
    rw [x8] at he8
    rw [he8, if_pos rfl] at hv8
    have cR := rRandom seed (by omega) k (by omega) hk H hT
    rw [← hv8] at cR
    have hbb : (!(v8 == v8)) = false := by simp
    cases hb : bad with
    | true =>
      rw [hb] at hbad
      have hn := of_decide_eq_true hbad.symm
      rw [x7, if_pos (hn.elim .inl fun h => .inr (.inl h))] at he7
      repeat first
        | with_reducible refine AWP.seq ?_
        | ((with_reducible refine AWP.region ?_ ?_); exact rfl)
        | with_reducible refine AWP.block ?_
        | with_reducible refine AWP.skip ?_
        | with_reducible refine AWP.exit ?_
        | with_reducible refine AWP.ret ?_
        | with_reducible refine AWP.label ?_
        | with_reducible refine AWP.goto ?_
        | ((with_reducible refine AWP.condT ?_ ?_); focus (simp only [ev, lk_cons, ↓reduceIte, Nat.reduceEqDiff]; done))
        | ((with_reducible refine AWP.condF ?_ ?_); focus (simp only [ev, lk_cons, ↓reduceIte, Nat.reduceEqDiff]; done))
        | with_reducible refine cR.use ?_
        | with_reducible refine (hA _).use ?_
        | simp only [go_sem, ↓reduceIte, Nat.reduceEqDiff, reduceCtorEq, Nat.reduceAdd, Int.reduceEq, Int.reduceBNe, Int.reduceBEq, Int.reduceToNat, Int.reduceLT, Int.reduceLE, Int.reduceGT, Int.reduceGE, Nat.reduceSub, Nat.reduceBEq, Nat.reduceBNe, Int.reduceAdd, Int.reduceSub, Int.reduceMul, Int.reduceNeg, Nat.reduceMul, Nat.reduceLeDiff, Nat.reduceLT, g1, g2, he7, he8, hbb]
        | simp (disch := omega) only [wi64, wu8, wu16, wu32, wu64, Int.tdiv_eq_ediv_of_nonneg, Int.tmod_eq_emod_of_nonneg]
        | with_reducible_and_instances exact finR
        | ((with_reducible refine finR' ?_ ?_) <;> rfl)
        | ((with_reducible refine finD hsc (NRel.of_plain ?_)); exact rfl)
    | false =>
      rw [hb] at hbad
      have hn := of_decide_eq_false hbad.symm
      rw [x7, if_neg (fun h => h.elim (fun h => hn (.inl h)) fun h => h.elim (fun h => hn (.inr h)) g2)] at he7
      rw [he7, if_pos rfl] at hv7
      obtain ⟨N, rfl⟩ : ∃ N : Nat, n = (N : Int) := ⟨n.toNat, by omega⟩
      rw [Int.toNat_natCast] at hv7
      have cI := rIn id hid N (by omega) seed (by omega) k (by omega) hk H hT
      have hil := inL_len id hid N seed k
      have hld := in_lead id hid N (by omega) seed k
      have cW := fun H => Within (inL id N seed k) id (N : Int) H
      have ew : withinE (inL id N seed k) id (N : Int) = 0 := by unfold withinE; rw [if_neg (fun h => h hid), if_pos hil, if_neg hn]
      have ew2 : within (inL id N seed k) id (N : Int) = true := by unfold within; exact decide_eq_true (by omega)
      simp only [ew, if_pos, ew2] at cW
      rw [← hv7] at cI cW
      repeat first
        | with_reducible refine AWP.seq ?_
        | ((with_reducible refine AWP.region ?_ ?_); exact rfl)
        | with_reducible refine AWP.block ?_
        | with_reducible refine AWP.skip ?_
        | with_reducible refine AWP.exit ?_
        | with_reducible refine AWP.ret ?_
        | with_reducible refine AWP.label ?_
        | with_reducible refine AWP.goto ?_
        | ((with_reducible refine AWP.condT ?_ ?_); focus (simp only [ev, lk_cons, ↓reduceIte, Nat.reduceEqDiff]; done))
        | ((with_reducible refine AWP.condF ?_ ?_); focus (simp only [ev, lk_cons, ↓reduceIte, Nat.reduceEqDiff]; done))
        | with_reducible refine cR.use ?_
        | with_reducible refine cI.use ?_
        | with_reducible refine (cW _).use ?_
        | with_reducible refine (hA _).use ?_
        | simp only [go_sem, ↓reduceIte, Nat.reduceEqDiff, reduceCtorEq, Nat.reduceAdd, Int.reduceEq, Int.reduceBNe, Int.reduceBEq, Int.reduceToNat, Int.reduceLT, Int.reduceLE, Int.reduceGT, Int.reduceGE, Nat.reduceSub, Nat.reduceBEq, Nat.reduceBNe, Int.reduceAdd, Int.reduceSub, Int.reduceMul, Int.reduceNeg, Nat.reduceMul, Nat.reduceLeDiff, Nat.reduceLT, g1, g2, he7, he8, hbb]
        | simp (disch := omega) only [wi64, wu8, wu16, wu32, wu64, Int.tdiv_eq_ediv_of_nonneg, Int.tmod_eq_emod_of_nonneg]
        | with_reducible_and_instances exact finR
        | ((with_reducible refine finR' ?_ ?_) <;> rfl)
        | ((with_reducible refine finD hsc (NRel.of_plain ?_)); exact rfl)
  · have e1 := askI_no hid i 159
    have e2 := askI_no hid n 160
    have e3 : withinE other id n = 1 := if_pos hid
    have e4 : inE id n seed k = 1 := if_pos (.inl hid)
    have ez : ¬ (1 : Int) = 0 := by decide
    simp only [e1, e2, e3, if_neg ez, if_neg hid, if_neg (fun h : id.length = 20 ∧ other.length = 20 => hid h.1)] at c1 c2 c3 c4 c5 c6
    unfold inV at c7
    rw [e4, if_neg ez] at c7
    unfold randV at c8
    rw [decide_eq_false hid] at c9
    generalize (if randE seed k = 0 then randL seed k else []) = rl at *
    generalize randE seed k = re at *
    refine AC.enter Tryd.func7 rfl (by kernel_rfl) 289 rfl [.tmp 12] rfl (by simp) fun hsc B => ?_
    repeat first
      | with_reducible refine AWP.seq ?_
      | ((with_reducible refine AWP.region ?_ ?_); exact rfl)
      | with_reducible refine AWP.block ?_
      | with_reducible refine AWP.skip ?_
      | with_reducible refine AWP.exit ?_
      | with_reducible refine AWP.ret ?_
      | with_reducible refine AWP.label ?_
      | with_reducible refine AWP.goto ?_
      | ((with_reducible refine AWP.condT ?_ ?_); focus (simp only [ev, lk_cons, ↓reduceIte, Nat.reduceEqDiff]; done))
      | ((with_reducible refine AWP.condF ?_ ?_); focus (simp only [ev, lk_cons, ↓reduceIte, Nat.reduceEqDiff]; done))
      | with_reducible refine (c1 _).use ?_
      | with_reducible refine (c2 _).use ?_
      | with_reducible refine (c3 _).use ?_
      | with_reducible refine (c4 _).use ?_
      | with_reducible refine (c5 _).use ?_
      | with_reducible refine (c6 _).use ?_
      | with_reducible refine c7.use ?_
      | with_reducible refine c8.use ?_
      | with_reducible refine (c9 _).use ?_
      | with_reducible refine (hA _).use ?_
      | simp only [go_sem, ↓reduceIte, Nat.reduceEqDiff, reduceCtorEq, Nat.reduceAdd, Int.reduceEq, Int.reduceBNe, Int.reduceBEq, Int.reduceToNat, Int.reduceLT, Int.reduceLE, Int.reduceGT, Int.reduceGE, Nat.reduceSub, Nat.reduceBEq, Nat.reduceBNe, Int.reduceAdd, Int.reduceSub, Int.reduceMul, Int.reduceNeg, Nat.reduceMul, Nat.reduceLeDiff, Nat.reduceLT]
      | simp (disch := omega) only [wi64, wu8, wu16, wu32, wu64, Int.tdiv_eq_ediv_of_nonneg, Int.tmod_eq_emod_of_nonneg]
      | with_reducible_and_instances exact finR
      | ((with_reducible refine finR' ?_ ?_) <;> rfl)
      | ((with_reducible refine finD hsc (NRel.of_plain ?_)); exact rfl)
end Go.Proofs.YtmpkgdilmkeacaaDoor
