/-
  The walk of identifiers: the middle of two, the program's.
-/
import Derived.Test.YtmpkgdilmkeacaaDoorRH
set_option linter.unusedVariables false
set_option linter.unusedSimpArgs false
set_option maxRecDepth 20000
set_option maxHeartbeats 4000000
namespace Go.Proofs.YtmpkgdilmkeacaaDoor
open Go Go.Aw Go.Proofs Go.Shelf Go.RowKit Go.ChangeShapes
def sumI (f : Nat → Nat) : List Value := (List.range 20).map fun m => .int .i64 (f m : Nat)
theorem sumI_len (f : Nat → Nat) : (sumI f).length = 20 := by simp [sumI]
theorem sumI_at {f : Nat → Nat} {n : Nat} (h : n < 20) : (sumI f)[n]? = some (.int .i64 (f n : Nat)) := by
  unfold sumI; rw [List.getElem?_map, List.getElem?_range h]; rfl
theorem sumI_set {f g : Nat → Nat} {n : Nat} {v : Int} (hn : n < 20) (hv : v = (g n : Nat)) (h : ∀ m, m < 20 → m ≠ n → f m = g m) : (sumI f).set n (.int .i64 v) = sumI g := by
  unfold sumI
  exact range_set 20 n _ _ _ hn (by rw [hv]) (fun m hm hne => by rw [h m hm hne])
theorem sumI_congr {f g : Nat → Nat} (h : ∀ m, m < 20 → f m = g m) : sumI f = sumI g := by
  unfold sumI
  apply List.map_congr_left
  intro m hm
  rw [h m (List.mem_range.1 hm)]
def outB (f : Nat → UInt8) : List Value := bytesC ((List.range 20).map f)
theorem outB_len (f : Nat → UInt8) : (outB f).length = 20 := by simp [outB, bytesC]
theorem outB_set {f g : Nat → UInt8} {n : Nat} {v : UInt8} (hn : n < 20) (hv : v = g n) (h : ∀ m, m < 20 → m ≠ n → f m = g m) : (outB f).set n (.int .u8 (v.toNat : Int)) = outB g := by
  unfold outB
  rw [bytesC_set, range_set 20 n f g v hn hv h]
theorem Middle (a b : List UInt8) (H : AHeap) : ARet Tryd.prog 24 [.string (bs a), .string (bs b)] H (if a.length = 20 ∧ b.length = 20 then .tuple ⟨[.string (bs (midL a b)), .int .i64 0]⟩ else .tuple ⟨[.string (bs []), .int .i64 1]⟩) H := by
  have hVa := fun H => valid a H
  have hVb := fun H => valid b H
  by_cases ha : a.length = 20
  · by_cases hb : b.length = 20
    · rw [if_pos ⟨ha, hb⟩]
      refine AC.enter Tryd.func24 rfl (by kernel_rfl) 67 rfl [.tmp 4, .tmp 5] rfl (by simp) fun hsc B => ?_
      repeat first
        | with_reducible refine AWP.seq ?_
        | ((with_reducible refine AWP.region ?_ ?_); exact rfl)
        | with_reducible refine AWP.block ?_
        | with_reducible refine AWP.skip ?_
        | with_reducible refine AWP.exit ?_
        | with_reducible refine AWP.ret ?_
        | with_reducible refine AWP.label ?_
        | with_reducible refine AWP.goto ?_
        | ((with_reducible refine AWP.condT ?_ ?_); focus (simp only [ev, lk_cons, ↓reduceIte, Nat.reduceEqDiff]; done))
        | ((with_reducible refine AWP.condF ?_ ?_); focus (simp only [ev, lk_cons, ↓reduceIte, Nat.reduceEqDiff]; done))
        | with_reducible refine (hVa _).use ?_
        | with_reducible refine (hVb _).use ?_
        | simp only [go_sem, ↓reduceIte, Nat.reduceEqDiff, reduceCtorEq, Nat.reduceAdd, Int.reduceEq, Int.reduceBNe, Int.reduceBEq, Int.reduceToNat, Int.reduceLT, Int.reduceLE, Int.reduceGT, Int.reduceGE, Nat.reduceSub, Nat.reduceBEq, Nat.reduceBNe, Int.reduceAdd, Int.reduceSub, Int.reduceMul, Int.reduceNeg, Nat.reduceMul, Nat.reduceLeDiff, Nat.reduceLT, ha, hb, makeSliceW]
        | simp (disch := omega) only [wi64, wu8, wu16, wu32, wu64, Int.tdiv_eq_ediv_of_nonneg, Int.tmod_eq_emod_of_nonneg]
        | with_reducible_and_instances exact finR
        | ((with_reducible refine finR' ?_ ?_) <;> rfl)
        | ((with_reducible refine finD hsc (NRel.of_plain ?_)); exact rfl)
      refine AWP.loopP (fun j : Nat => ⟨[(0, .string (bs a)), (1, .string (bs b)), (6, .slice (some ⟨H.length, 0, none⟩) 20 20), (7, .int .i64 (carryN 256 (valB a) (valB b) (20 - j) : Nat)), (8, .int .i64 ((j : Int) - 1))], [],
          H ++ [.cells (sumI (fun m => if j ≤ m then midT a b / 256 ^ (19 - m) % 256 else 0)) ⟨3, 0, true, 0, none⟩]⟩) (fun j => j ≤ 20) (fun j => j) 20 ?_ (Nat.le_refl _) ?_
      · have e1 : repZ 20 [Value.int .i64 0] = sumI (fun m => if 20 ≤ m then midT a b / 256 ^ (19 - m) % 256 else 0) := by
          rw [repZ_one, sumI_congr (g := fun _ => 0) (fun m hm => by rw [if_neg (by omega)])]
          rfl
        have e2 : carryN 256 (valB a) (valB b) (20 - 20) = 0 := carry0 ..
        rw [e1]
        exact Weak.env (by simp [envIn, lk_cons, wth_some, e2])
      intro j hj
      rcases Nat.eq_zero_or_pos j with rfl | hpos
      · have hc' : ¬ ((0 : Nat) : Int) - 1 ≥ 0 := by omega
        have hcl := carry_le 256 (valB a) (valB b) 20 (by decide)
        have hct : carryN 256 (valB a) (valB b) 20 = midT a b / 256 ^ 20 := by
          have h1 := valB_lt a
          have h2 := valB_lt b
          rw [ha] at h1
          rw [hb] at h2
          unfold carryN midT
          rw [Nat.mod_eq_of_lt h1, Nat.mod_eq_of_lt h2]
        have e0 : sumI (fun m => if 0 ≤ m then midT a b / 256 ^ (19 - m) % 256 else 0) = sumI (fun m => midT a b / 256 ^ (19 - m) % 256) := sumI_congr fun m hm => by rw [if_pos (Nat.zero_le _)]
        have hml : midL a b = (List.range 20).map fun m => UInt8.ofNat (midT a b / 2 / 256 ^ (19 - m)) := rfl
        rw [e0]
        simp only [Nat.sub_zero]
        rw [hct] at hcl ⊢
        generalize midT a b = T at *
        repeat first
          | with_reducible refine AWP.seq ?_
          | ((with_reducible refine AWP.region ?_ ?_); exact rfl)
          | with_reducible refine AWP.block ?_
          | with_reducible refine AWP.skip ?_
          | with_reducible refine AWP.exit ?_
          | with_reducible refine AWP.ret ?_
          | with_reducible refine AWP.label ?_
          | with_reducible refine AWP.goto ?_
          | ((with_reducible refine AWP.condT ?_ ?_); focus (simp only [ev, lk_cons, ↓reduceIte, Nat.reduceEqDiff]; done))
          | ((with_reducible refine AWP.condF ?_ ?_); focus (simp only [ev, lk_cons, ↓reduceIte, Nat.reduceEqDiff]; done))
          | simp only [go_sem, ↓reduceIte, Nat.reduceEqDiff, reduceCtorEq, Nat.reduceAdd, Int.reduceEq, Int.reduceBNe, Int.reduceBEq, Int.reduceToNat, Int.reduceLT, Int.reduceLE, Int.reduceGT, Int.reduceGE, Nat.reduceSub, Nat.reduceBEq, Nat.reduceBNe, Int.reduceAdd, Int.reduceSub, Int.reduceMul, Int.reduceNeg, Nat.reduceMul, Nat.reduceLeDiff, Nat.reduceLT, hc', makeSliceW]
          | simp (disch := omega) only [wi64, wu8, wu16, wu32, wu64, Int.tdiv_eq_ediv_of_nonneg, Int.tmod_eq_emod_of_nonneg]
          | with_reducible_and_instances exact finR
          | ((with_reducible refine finR' ?_ ?_) <;> rfl)
          | ((with_reducible refine finD hsc (NRel.of_plain ?_)); exact rfl)
        refine AWP.loopP (fun i : Nat => ⟨[(7, .int .i64 (T / 256 ^ (20 - i) % 2 : Nat)), (10, .slice (some ⟨H.length + 1, 0, none⟩) 20 20), (45, .slice (some ⟨H.length, 0, none⟩) 20 20), (46, .int .i64 20), (47, .int .i64 (i : Nat))], [],
            H ++ [.cells (sumI (fun m => T / 256 ^ (19 - m) % 256)) ⟨3, 0, true, 0, none⟩, .cells (outB (fun m => if m < i then UInt8.ofNat (T / 2 / 256 ^ (19 - m)) else 0)) ⟨5, 0, true, 0, none⟩]⟩) (fun i => i ≤ 20) (fun i => 20 - i) 0 ?_ (Nat.zero_le _) ?_
        · have e1 : repZ 20 [Value.int .u8 0] = outB (fun m => if m < 0 then UInt8.ofNat (T / 2 / 256 ^ (19 - m)) else 0) := by
            rw [repZ_one, bytesC_zeros]
            unfold outB
            congr 1
          have e2 : T / 256 ^ (20 - 0) % 2 = T / 256 ^ 20 := by rw [Nat.sub_zero]; exact Nat.mod_eq_of_lt (by omega)
          rw [e1]
          exact Weak.env (by simp only [envIn, lk_cons, wth_some, e2]; simp [envIn, lk_cons, wth_some])
        intro i hi
        by_cases hc : i < 20
        · have hc' : (i : Int) < 20 := by omega
          have hg := sumI_at (f := fun m => T / 256 ^ (19 - m) % 256) hc
          have hl := outB_len (fun m => if m < i then UInt8.ofNat (T / 2 / 256 ^ (19 - m)) else 0)
          have hdd : T / 256 ^ (20 - i) = T / 256 ^ (19 - i) / 256 := by rw [show 20 - i = (19 - i) + 1 by omega, Nat.pow_succ, Nat.div_div_eq_div_mul]
          have hd2 : T / 2 / 256 ^ (19 - i) = T / 256 ^ (19 - i) / 2 := by rw [Nat.div_div_eq_div_mul, Nat.div_div_eq_div_mul, Nat.mul_comm]
          have hst : (outB (fun m => if m < i then UInt8.ofNat (T / 2 / 256 ^ (19 - m)) else 0)).set i (.int .u8 ((UInt8.ofNat (T / 2 / 256 ^ (19 - i))).toNat : Int)) = outB (fun m => if m < i + 1 then UInt8.ofNat (T / 2 / 256 ^ (19 - m)) else 0) := by
            refine outB_set hc (by rw [if_pos (by omega)]) fun m hm hne => ?_
            by_cases h : m < i
            · rw [if_pos h, if_pos (by omega)]
            · rw [if_neg h, if_neg (by omega)]
          have hnx : T / 256 ^ (20 - (i + 1)) % 2 = T / 256 ^ (19 - i) % 2 := by rw [show 20 - (i + 1) = 19 - i by omega]
          rw [hd2] at hst
          rw [hdd]
          generalize hs2 : outB (fun m => if m < i + 1 then UInt8.ofNat (T / 2 / 256 ^ (19 - m)) else 0) = c2 at *
          generalize outB (fun m => if m < i then UInt8.ofNat (T / 2 / 256 ^ (19 - m)) else 0) = c1 at *
          generalize sumI (fun m => T / 256 ^ (19 - m) % 256) = sI at *
          generalize hq : T / 256 ^ (19 - i) = q at *
          have q1 : (((q % 256 : Nat) : Int) + 256 * ((q / 256 % 2 : Nat) : Int)) / 2 = (((q % 512) / 2 : Nat) : Int) := by omega
          have q2 : (((q % 256 : Nat) : Int) + 256 * ((q / 256 % 2 : Nat) : Int)) % 2 = ((q % 2 : Nat) : Int) := by omega
          have q3 : IntKind.u8.wrap (((q % 512) / 2 : Nat) : Int) = ((UInt8.ofNat (q / 2)).toNat : Int) := by
            rw [w8c]
            congr 1
            have h1 : (UInt8.ofNat (q % 512 / 2)).toNat = q % 512 / 2 % 256 := by simp
            have h2 : (UInt8.ofNat (q / 2)).toNat = q / 2 % 256 := by simp
            rw [h1, h2]; omega
          have q4 : 0 ≤ ((q % 256 : Nat) : Int) + 256 * ((q / 256 % 2 : Nat) : Int) := by omega
          have q5 : ((q % 256 : Nat) : Int) + 256 * ((q / 256 % 2 : Nat) : Int) < 1000 := by omega
          have q6 : IntKind.i64.wrap (256 * ((q / 256 % 2 : Nat) : Int)) = 256 * ((q / 256 % 2 : Nat) : Int) := wi64 (by omega)
          have q7 : IntKind.i64.wrap (((q % 256 : Nat) : Int) + 256 * ((q / 256 % 2 : Nat) : Int)) = ((q % 256 : Nat) : Int) + 256 * ((q / 256 % 2 : Nat) : Int) := wi64 (by omega)
          have t1 : (((q % 256 : Nat) : Int) + 256 * ((q / 256 % 2 : Nat) : Int)).tdiv 2 = (((q % 512) / 2 : Nat) : Int) := by rw [Int.tdiv_eq_ediv_of_nonneg q4, q1]
          have t2 : (((q % 256 : Nat) : Int) + 256 * ((q / 256 % 2 : Nat) : Int)).tmod 2 = ((q % 2 : Nat) : Int) := by rw [Int.tmod_eq_emod_of_nonneg q4, q2]
          have w1 : IntKind.i64.wrap (((q % 512) / 2 : Nat) : Int) = (((q % 512) / 2 : Nat) : Int) := wi64 (by omega)
          repeat' first
            | omega
            | with_reducible refine And.intro ?_ ?_
            | with_reducible refine AWP.seq ?_
            | ((with_reducible refine AWP.region ?_ ?_); exact rfl)
            | with_reducible refine AWP.block ?_
            | with_reducible refine AWP.skip ?_
            | with_reducible refine AWP.exit ?_
            | with_reducible refine AWP.ret ?_
            | with_reducible refine AWP.label ?_
            | with_reducible refine AWP.goto ?_
            | ((with_reducible refine AWP.condT ?_ ?_); focus (simp only [ev, lk_cons, ↓reduceIte, Nat.reduceEqDiff]; done))
            | ((with_reducible refine AWP.condF ?_ ?_); focus (simp only [ev, lk_cons, ↓reduceIte, Nat.reduceEqDiff]; done))
            | simp only [go_sem, ↓reduceIte, Nat.reduceEqDiff, reduceCtorEq, Nat.reduceAdd, Int.reduceEq, Int.reduceBNe, Int.reduceBEq, Int.reduceToNat, Int.reduceLT, Int.reduceLE, Int.reduceGT, Int.reduceGE, Nat.reduceSub, Nat.reduceBEq, Nat.reduceBNe, Int.reduceAdd, Int.reduceSub, Int.reduceMul, Int.reduceNeg, Nat.reduceMul, Nat.reduceLeDiff, Nat.reduceLT, hc', hg, hl, q6, q7, t1, t2, w1, q3, hst]
            | simp (disch := omega) only [wi64, wu8, wu16, wu32, wu64, Int.tdiv_eq_ediv_of_nonneg, Int.tmod_eq_emod_of_nonneg]
            | with_reducible_and_instances exact finR
            | ((with_reducible refine finR' ?_ ?_) <;> rfl)
            | ((with_reducible refine finD hsc (NRel.of_plain ?_)); exact rfl)
          exact ⟨i + 1, by rw [hs2, hnx]; exact Weak.env (by simp [envIn, lk_cons, wth_some]), by omega, by omega⟩
        · have : i = 20 := by omega
          subst this
          have e3 : outB (fun m => if m < 20 then UInt8.ofNat (T / 2 / 256 ^ (19 - m)) else 0) = bytesC ((List.range 20).map fun m => UInt8.ofNat (T / 2 / 256 ^ (19 - m))) := by
            unfold outB
            congr 1
          have hll := midL_len a b
          rw [← hml] at e3
          rw [e3]
          generalize midL a b = ll at *
          have htk : List.take 20 ll = ll := List.take_of_length_le (by omega)
          repeat' first
            | omega
            | with_reducible refine And.intro ?_ ?_
            | with_reducible refine AWP.seq ?_
            | ((with_reducible refine AWP.region ?_ ?_); exact rfl)
            | with_reducible refine AWP.block ?_
            | with_reducible refine AWP.skip ?_
            | with_reducible refine AWP.exit ?_
            | with_reducible refine AWP.ret ?_
            | with_reducible refine AWP.label ?_
            | with_reducible refine AWP.goto ?_
            | ((with_reducible refine AWP.condT ?_ ?_); focus (simp only [ev, lk_cons, ↓reduceIte, Nat.reduceEqDiff]; done))
            | ((with_reducible refine AWP.condF ?_ ?_); focus (simp only [ev, lk_cons, ↓reduceIte, Nat.reduceEqDiff]; done))
            | simp only [go_sem, ↓reduceIte, Nat.reduceEqDiff, reduceCtorEq, Nat.reduceAdd, Int.reduceEq, Int.reduceBNe, Int.reduceBEq, Int.reduceToNat, Int.reduceLT, Int.reduceLE, Int.reduceGT, Int.reduceGE, Nat.reduceSub, Nat.reduceBEq, Nat.reduceBNe, Int.reduceAdd, Int.reduceSub, Int.reduceMul, Int.reduceNeg, Nat.reduceMul, Nat.reduceLeDiff, Nat.reduceLT, hll, htk]
            | simp (disch := omega) only [wi64, wu8, wu16, wu32, wu64, Int.tdiv_eq_ediv_of_nonneg, Int.tmod_eq_emod_of_nonneg]
            | with_reducible_and_instances exact finR
            | ((with_reducible refine finR' ?_ ?_) <;> rfl)
            | ((with_reducible refine finD hsc (NRel.of_plain ?_)); exact rfl)
      · obtain ⟨i, rfl⟩ : ∃ i, j = i + 1 := ⟨j - 1, by omega⟩
        have hi : i < 20 := by omega
        have hc' : (i : Int) ≥ 0 := by omega
        have hc2 : (i : Int) < 20 := by omega
        have hij : ((i + 1 : Nat) : Int) - 1 = (i : Int) := by omega
        have hk : 20 - (i + 1) = 19 - i := by omega
        have hk2 : 20 - i = (19 - i) + 1 := by omega
        have hcl := carry_le 256 (valB a) (valB b) (19 - i) (by decide)
        have hcS := carryS 256 (valB a) (valB b) (19 - i) (by decide)
        have hsA := sumAt 256 (valB a) (valB b) (19 - i) (by decide)
        have ga : a[i]? = some (a[i]'(by omega)) := List.getElem?_eq_getElem _
        have gb : b[i]? = some (b[i]'(by omega)) := List.getElem?_eq_getElem _
        have va := valB_byte 20 a ha i (by omega)
        have vb := valB_byte 20 b hb i (by omega)
        simp only [ha, show 20 - 1 - i = 19 - i by omega] at va
        simp only [hb, show 20 - 1 - i = 19 - i by omega] at vb
        rw [va, vb] at hcS hsA
        rw [← hk2] at hcS
        have hsA2 : (valB a + valB b) / 256 ^ (19 - i) % 256 = midT a b / 256 ^ (19 - i) % 256 := rfl
        rw [hsA2] at hsA
        have hl := sumI_len (fun m => if i + 1 ≤ m then midT a b / 256 ^ (19 - m) % 256 else 0)
        generalize a[i]'(by omega) = x at *
        generalize b[i]'(by omega) = y at *
        have hx := x.toNat_lt
        have hy := y.toNat_lt
        have hst : (sumI (fun m => if i + 1 ≤ m then midT a b / 256 ^ (19 - m) % 256 else 0)).set i (.int .i64 (((x.toNat + y.toNat + carryN 256 (valB a) (valB b) (19 - i)) % 256 : Nat) : Int)) = sumI (fun m => if i ≤ m then midT a b / 256 ^ (19 - m) % 256 else 0) := by
          refine sumI_set hi (by rw [hsA, if_pos (Nat.le_refl _)]) fun m hm hne => ?_
          by_cases h : i + 1 ≤ m
          · rw [if_pos h, if_pos (by omega)]
          · rw [if_neg h, if_neg (by omega)]
        rw [hij, hk]
        generalize carryN 256 (valB a) (valB b) (19 - i) = c at *
        generalize hs2 : sumI (fun m => if i ≤ m then midT a b / 256 ^ (19 - m) % 256 else 0) = c2 at *
        generalize sumI (fun m => if i + 1 ≤ m then midT a b / 256 ^ (19 - m) % 256 else 0) = c1 at *
        have w1 : IntKind.i64.wrap ((x.toNat : Nat) : Int) = ((x.toNat : Nat) : Int) := wi64 (by omega)
        have w2 : IntKind.i64.wrap ((y.toNat : Nat) : Int) = ((y.toNat : Nat) : Int) := wi64 (by omega)
        have w3 : IntKind.i64.wrap (((x.toNat : Nat) : Int) + ((y.toNat : Nat) : Int)) = ((x.toNat + y.toNat : Nat) : Int) := by rw [wi64 (by omega)]; omega
        have w4 : IntKind.i64.wrap (((x.toNat + y.toNat : Nat) : Int) + (c : Nat)) = ((x.toNat + y.toNat + c : Nat) : Int) := by rw [wi64 (by omega)]; omega
        have t1 : ((x.toNat + y.toNat + c : Nat) : Int).tmod 256 = (((x.toNat + y.toNat + c) % 256 : Nat) : Int) := tmodN
        have t2 : ((x.toNat + y.toNat + c : Nat) : Int).tdiv 256 = ((carryN 256 (valB a) (valB b) (20 - i) : Nat) : Int) := by rw [hcS]; exact tdivN
        have w5 : IntKind.i64.wrap ((carryN 256 (valB a) (valB b) (20 - i) : Nat) : Int) = ((carryN 256 (valB a) (valB b) (20 - i) : Nat) : Int) := wi64 (by rw [hcS]; omega)
        generalize hcn : carryN 256 (valB a) (valB b) (20 - i) = cn at *
        generalize x.toNat + y.toNat + c = nn at *
        repeat first
          | with_reducible refine AWP.seq ?_
          | ((with_reducible refine AWP.region ?_ ?_); exact rfl)
          | with_reducible refine AWP.block ?_
          | with_reducible refine AWP.skip ?_
          | with_reducible refine AWP.exit ?_
          | with_reducible refine AWP.ret ?_
          | with_reducible refine AWP.label ?_
          | with_reducible refine AWP.goto ?_
          | ((with_reducible refine AWP.condT ?_ ?_); focus (simp only [ev, lk_cons, ↓reduceIte, Nat.reduceEqDiff]; done))
          | ((with_reducible refine AWP.condF ?_ ?_); focus (simp only [ev, lk_cons, ↓reduceIte, Nat.reduceEqDiff]; done))
          | simp only [go_sem, ↓reduceIte, Nat.reduceEqDiff, reduceCtorEq, Nat.reduceAdd, Int.reduceEq, Int.reduceBNe, Int.reduceBEq, Int.reduceToNat, Int.reduceLT, Int.reduceLE, Int.reduceGT, Int.reduceGE, Nat.reduceSub, Nat.reduceBEq, Nat.reduceBNe, Int.reduceAdd, Int.reduceSub, Int.reduceMul, Int.reduceNeg, Nat.reduceMul, Nat.reduceLeDiff, Nat.reduceLT, hc']
          | simp (disch := omega) only [wi64, wu8, wu16, wu32, wu64, Int.tdiv_eq_ediv_of_nonneg, Int.tmod_eq_emod_of_nonneg]
          | with_reducible_and_instances exact finR
          | ((with_reducible refine finR' ?_ ?_) <;> rfl)
          | ((with_reducible refine finD hsc (NRel.of_plain ?_)); exact rfl)
        refine AWP.regionK 12 (by kernel_rfl) (by decide) (by kernel_rfl) ?_
        repeat' first
          | omega
          | with_reducible refine And.intro ?_ ?_
          | with_reducible refine AWP.seq ?_
          | ((with_reducible refine AWP.region ?_ ?_); exact rfl)
          | with_reducible refine AWP.block ?_
          | with_reducible refine AWP.skip ?_
          | with_reducible refine AWP.exit ?_
          | with_reducible refine AWP.ret ?_
          | with_reducible refine AWP.label ?_
          | with_reducible refine AWP.goto ?_
          | ((with_reducible refine AWP.condT ?_ ?_); focus (simp only [ev, lk_cons, ↓reduceIte, Nat.reduceEqDiff]; done))
          | ((with_reducible refine AWP.condF ?_ ?_); focus (simp only [ev, lk_cons, ↓reduceIte, Nat.reduceEqDiff]; done))
          | simp only [go_sem, ↓reduceIte, Nat.reduceEqDiff, reduceCtorEq, Nat.reduceAdd, Int.reduceEq, Int.reduceBNe, Int.reduceBEq, Int.reduceToNat, Int.reduceLT, Int.reduceLE, Int.reduceGT, Int.reduceGE, Nat.reduceSub, Nat.reduceBEq, Nat.reduceBNe, Int.reduceAdd, Int.reduceSub, Int.reduceMul, Int.reduceNeg, Nat.reduceMul, Nat.reduceLeDiff, Nat.reduceLT, hc', hc2, ga, gb, w1, w2, w3, w4, t1, t2, w5, hl, hst]
          | simp (disch := omega) only [wi64, wu8, wu16, wu32, wu64, Int.tdiv_eq_ediv_of_nonneg, Int.tmod_eq_emod_of_nonneg]
          | with_reducible_and_instances exact finR
          | ((with_reducible refine finR' ?_ ?_) <;> rfl)
          | ((with_reducible refine finD hsc (NRel.of_plain ?_)); exact rfl)
        exact ⟨i, by rw [hs2, hcn]; exact Weak.env (by simp [envIn, lk_cons, wth_some]), by omega, by omega⟩
    · rw [if_neg (fun h => hb h.2)]
      refine AC.enter Tryd.func24 rfl (by kernel_rfl) 67 rfl [.tmp 4, .tmp 5] rfl (by simp) fun hsc B => ?_
      repeat first
        | with_reducible refine AWP.seq ?_
        | ((with_reducible refine AWP.region ?_ ?_); exact rfl)
        | with_reducible refine AWP.block ?_
        | with_reducible refine AWP.skip ?_
        | with_reducible refine AWP.exit ?_
        | with_reducible refine AWP.ret ?_
        | with_reducible refine AWP.label ?_
        | with_reducible refine AWP.goto ?_
        | ((with_reducible refine AWP.condT ?_ ?_); focus (simp only [ev, lk_cons, ↓reduceIte, Nat.reduceEqDiff]; done))
        | ((with_reducible refine AWP.condF ?_ ?_); focus (simp only [ev, lk_cons, ↓reduceIte, Nat.reduceEqDiff]; done))
        | with_reducible refine (hVa _).use ?_
        | with_reducible refine (hVb _).use ?_
        | simp only [go_sem, ↓reduceIte, Nat.reduceEqDiff, reduceCtorEq, Nat.reduceAdd, Int.reduceEq, Int.reduceBNe, Int.reduceBEq, Int.reduceToNat, Int.reduceLT, Int.reduceLE, Int.reduceGT, Int.reduceGE, Nat.reduceSub, Nat.reduceBEq, Nat.reduceBNe, Int.reduceAdd, Int.reduceSub, Int.reduceMul, Int.reduceNeg, Nat.reduceMul, Nat.reduceLeDiff, Nat.reduceLT, ha, hb]
        | simp (disch := omega) only [wi64, wu8, wu16, wu32, wu64, Int.tdiv_eq_ediv_of_nonneg, Int.tmod_eq_emod_of_nonneg]
        | with_reducible_and_instances exact finR
        | ((with_reducible refine finR' ?_ ?_) <;> rfl)
        | ((with_reducible refine finD hsc (NRel.of_plain ?_)); exact rfl)
  · rw [if_neg (fun h => ha h.1)]
    refine AC.enter Tryd.func24 rfl (by kernel_rfl) 67 rfl [.tmp 4, .tmp 5] rfl (by simp) fun hsc B => ?_
    repeat first
      | with_reducible refine AWP.seq ?_
      | ((with_reducible refine AWP.region ?_ ?_); exact rfl)
      | with_reducible refine AWP.block ?_
      | with_reducible refine AWP.skip ?_
      | with_reducible refine AWP.exit ?_
      | with_reducible refine AWP.ret ?_
      | with_reducible refine AWP.label ?_
      | with_reducible refine AWP.goto ?_
      | ((with_reducible refine AWP.condT ?_ ?_); focus (simp only [ev, lk_cons, ↓reduceIte, Nat.reduceEqDiff]; done))
      | ((with_reducible refine AWP.condF ?_ ?_); focus (simp only [ev, lk_cons, ↓reduceIte, Nat.reduceEqDiff]; done))
      | with_reducible refine (hVa _).use ?_
      | with_reducible refine (hVb _).use ?_
      | simp only [go_sem, ↓reduceIte, Nat.reduceEqDiff, reduceCtorEq, Nat.reduceAdd, Int.reduceEq, Int.reduceBNe, Int.reduceBEq, Int.reduceToNat, Int.reduceLT, Int.reduceLE, Int.reduceGT, Int.reduceGE, Nat.reduceSub, Nat.reduceBEq, Nat.reduceBNe, Int.reduceAdd, Int.reduceSub, Int.reduceMul, Int.reduceNeg, Nat.reduceMul, Nat.reduceLeDiff, Nat.reduceLT, ha]
      | simp (disch := omega) only [wi64, wu8, wu16, wu32, wu64, Int.tdiv_eq_ediv_of_nonneg, Int.tmod_eq_emod_of_nonneg]
      | with_reducible_and_instances exact finR
      | ((with_reducible refine finR' ?_ ?_) <;> rfl)
      | ((with_reducible refine finD hsc (NRel.of_plain ?_)); exact rfl)
end Go.Proofs.YtmpkgdilmkeacaaDoor
