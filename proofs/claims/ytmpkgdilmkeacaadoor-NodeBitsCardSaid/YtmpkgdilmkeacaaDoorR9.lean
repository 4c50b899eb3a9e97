/-
  The walk of identifiers: secure ones; the page's example.
-/
import Derived.Test.YtmpkgdilmkeacaaDoorR8
import Derived.Test.YtmpkgdilmkeacaaDoorAwC
set_option linter.unusedVariables false
set_option linter.unusedSimpArgs false
set_option maxRecDepth 20000
set_option maxHeartbeats 4000000
namespace Go.Proofs.YtmpkgdilmkeacaaDoor
open Go Go.Aw Go.Proofs Go.Shelf Go.RowKit Go.ChangeShapes
def byL (f : Int) : List UInt8 := if f = 6 then [1, 3, 7, 15, 31, 63, 127, 255] else [3, 15, 63, 255]
def maskL (a : Ad) : List UInt8 := List.zipWith andB a.ip (byL a.fam)
theorem mask (a : Ad) (h : a.ok = true) (H : AHeap) : ARet Tryd.prog 94 [a.v] H (.string (bs (maskL a))) H := by
  obtain ⟨f, ip, p⟩ := a
  obtain ⟨hf, -⟩ := ok_fam h
  unfold Ad.v maskL byL
  simp only at hf ⊢
  rcases hf with ⟨rfl, hl⟩ | ⟨rfl, hl⟩
  · rw [if_neg (by decide)]
    refine AC.enter Tryd.func94 rfl (by kernel_rfl) 31 rfl [.tmp 2] rfl (by simp) fun hsc B => ?_
    repeat first
      | with_reducible refine AWP.seq ?_
      | ((with_reducible refine AWP.region ?_ ?_); exact rfl)
      | with_reducible refine AWP.block ?_
      | with_reducible refine AWP.skip ?_
      | with_reducible refine AWP.exit ?_
      | with_reducible refine AWP.ret ?_
      | with_reducible refine AWP.label ?_
      | with_reducible refine AWP.goto ?_
      | ((with_reducible refine AWP.condT ?_ ?_); focus (simp only [ev, lk_cons, ↓reduceIte, Nat.reduceEqDiff]; done))
      | ((with_reducible refine AWP.condF ?_ ?_); focus (simp only [ev, lk_cons, ↓reduceIte, Nat.reduceEqDiff]; done))
      | simp only [go_sem, ↓reduceIte, Nat.reduceEqDiff, reduceCtorEq, Nat.reduceAdd, Int.reduceEq, Int.reduceBNe, Int.reduceBEq, Int.reduceToNat, Int.reduceLT, Int.reduceLE, Int.reduceGT, Int.reduceGE, Nat.reduceSub, Nat.reduceBEq, Nat.reduceBNe, Int.reduceAdd, Int.reduceSub, Int.reduceMul, Int.reduceNeg, Nat.reduceMul, Nat.reduceLeDiff, Nat.reduceLT, makeSliceW]
      | simp (disch := omega) only [wi64, wu8, wu16, wu32, wu64, Int.tdiv_eq_ediv_of_nonneg, Int.tmod_eq_emod_of_nonneg]
      | with_reducible_and_instances exact finR
      | ((with_reducible refine finR' ?_ ?_) <;> rfl)
      | ((with_reducible refine finD hsc (NRel.of_plain ?_)); exact rfl)
    refine AWP.loopP (fun n : Nat => ⟨[(1, .pointer (some ⟨H.length, 0, none⟩)), (3, .string (bs [3, 15, 63, 255])), (4, .slice (some ⟨H.length + 1, 0, none⟩) 4 4), (13, .int .i64 4), (14, .int .i64 (n : Nat))], [], H ++ [.cells [.int .i64 4, .string (bs ip), .int .i64 p] ⟨23, 0, true, 0, none⟩, .cells (bytesC (List.zipWith andB (ip.take n) (List.take n [3, 15, 63, 255]) ++ (List.replicate 4 0).drop n)) ⟨5, 0, true, 0, none⟩]⟩)
      (fun n => n ≤ 4) (fun n => 4 - n) 0 ?_ (Nat.zero_le _) ?_
    · exact Weak.env (by simp [envIn, lk_cons, wth_some, repZ_one, bytesC_zeros])
    intro n hn
    have hpl : (List.zipWith andB (ip.take n) (List.take n [3, 15, 63, 255])).length = n := by simp; omega
    by_cases hc : n < 4
    · have hc' : (n : Int) < 4 := by omega
      have g1 : ip[n]? = some (ip[n]'(by omega)) := List.getElem?_eq_getElem _
      have hBn : n < ([3, 15, 63, 255] : List UInt8).length := hc
      have g2 : ([3, 15, 63, 255] : List UInt8)[n]? = some (([3, 15, 63, 255] : List UInt8)[n]'hBn) := List.getElem?_eq_getElem _
      have hst := turn_set (p := List.zipWith andB (ip.take n) (List.take n [3, 15, 63, 255])) (a := List.replicate 4 (0 : UInt8)) (i := n) (andB (ip[n]'(by omega)) (([3, 15, 63, 255] : List UInt8)[n]'hBn)) hpl (by simpa using hc)
      rw [← zipWith_take_succ andB ip [3, 15, 63, 255] n (by omega) hBn] at hst
      have hst2 : (bytesC (List.zipWith andB (ip.take n) (List.take n [3, 15, 63, 255]) ++ (List.replicate 4 0).drop n)).set n (.int .u8 ((andB (ip[n]'(by omega)) (([3, 15, 63, 255] : List UInt8)[n]'hBn)).toNat : Int)) = bytesC (List.zipWith andB (ip.take (n + 1)) (List.take (n + 1) [3, 15, 63, 255]) ++ (List.replicate 4 0).drop (n + 1)) := by rw [bytesC_set, hst]
      have hcl : (bytesC (List.zipWith andB (ip.take n) (List.take n [3, 15, 63, 255]) ++ (List.replicate 4 0).drop n)).length = 4 := by rw [bytesC_length, List.length_append, hpl, List.length_drop, List.length_replicate]; omega
      generalize ([3, 15, 63, 255] : List UInt8)[n]'hBn = y at *
      generalize ip[n]'(by omega) = x at *
      generalize bytesC (List.zipWith andB (ip.take n) (List.take n [3, 15, 63, 255]) ++ (List.replicate 4 0).drop n) = cs at *
      repeat first
        | with_reducible refine AWP.seq ?_
        | ((with_reducible refine AWP.region ?_ ?_); exact rfl)
        | with_reducible refine AWP.block ?_
        | with_reducible refine AWP.skip ?_
        | with_reducible refine AWP.exit ?_
        | with_reducible refine AWP.ret ?_
        | with_reducible refine AWP.label ?_
        | with_reducible refine AWP.goto ?_
        | ((with_reducible refine AWP.condT ?_ ?_); focus (simp only [ev, lk_cons, ↓reduceIte, Nat.reduceEqDiff]; done))
        | ((with_reducible refine AWP.condF ?_ ?_); focus (simp only [ev, lk_cons, ↓reduceIte, Nat.reduceEqDiff]; done))
        | simp only [go_sem, ↓reduceIte, Nat.reduceEqDiff, reduceCtorEq, Nat.reduceAdd, Int.reduceEq, Int.reduceBNe, Int.reduceBEq, Int.reduceToNat, Int.reduceLT, Int.reduceLE, Int.reduceGT, Int.reduceGE, Nat.reduceSub, Nat.reduceBEq, Nat.reduceBNe, Int.reduceAdd, Int.reduceSub, Int.reduceMul, Int.reduceNeg, Nat.reduceMul, Nat.reduceLeDiff, Nat.reduceLT, hc']
        | simp (disch := omega) only [wi64, wu8, wu16, wu32, wu64, Int.tdiv_eq_ediv_of_nonneg, Int.tmod_eq_emod_of_nonneg]
        | with_reducible_and_instances exact finR
        | ((with_reducible refine finR' ?_ ?_) <;> rfl)
        | ((with_reducible refine finD hsc (NRel.of_plain ?_)); exact rfl)
      refine AWP.regionK 11 (by kernel_rfl) (by decide) (by kernel_rfl) ?_
      repeat first
        | with_reducible refine AWP.seq ?_
        | ((with_reducible refine AWP.region ?_ ?_); exact rfl)
        | with_reducible refine AWP.block ?_
        | with_reducible refine AWP.skip ?_
        | with_reducible refine AWP.exit ?_
        | with_reducible refine AWP.ret ?_
        | with_reducible refine AWP.label ?_
        | with_reducible refine AWP.goto ?_
        | ((with_reducible refine AWP.condT ?_ ?_); focus (simp only [ev, lk_cons, ↓reduceIte, Nat.reduceEqDiff]; done))
        | ((with_reducible refine AWP.condF ?_ ?_); focus (simp only [ev, lk_cons, ↓reduceIte, Nat.reduceEqDiff]; done))
        | simp only [go_sem, ↓reduceIte, Nat.reduceEqDiff, reduceCtorEq, Nat.reduceAdd, Int.reduceEq, Int.reduceBNe, Int.reduceBEq, Int.reduceToNat, Int.reduceLT, Int.reduceLE, Int.reduceGT, Int.reduceGE, Nat.reduceSub, Nat.reduceBEq, Nat.reduceBNe, Int.reduceAdd, Int.reduceSub, Int.reduceMul, Int.reduceNeg, Nat.reduceMul, Nat.reduceLeDiff, Nat.reduceLT, g1, g2, andI_8]
        | simp (disch := omega) only [wi64, wu8, wu16, wu32, wu64, Int.tdiv_eq_ediv_of_nonneg, Int.tmod_eq_emod_of_nonneg]
        | with_reducible_and_instances exact finR
        | ((with_reducible refine finR' ?_ ?_) <;> rfl)
        | ((with_reducible refine finD hsc (NRel.of_plain ?_)); exact rfl)
      refine ⟨by omega, by omega, ?_⟩
      repeat first
        | with_reducible refine AWP.seq ?_
        | ((with_reducible refine AWP.region ?_ ?_); exact rfl)
        | with_reducible refine AWP.block ?_
        | with_reducible refine AWP.skip ?_
        | with_reducible refine AWP.exit ?_
        | with_reducible refine AWP.ret ?_
        | with_reducible refine AWP.label ?_
        | with_reducible refine AWP.goto ?_
        | ((with_reducible refine AWP.condT ?_ ?_); focus (simp only [ev, lk_cons, ↓reduceIte, Nat.reduceEqDiff]; done))
        | ((with_reducible refine AWP.condF ?_ ?_); focus (simp only [ev, lk_cons, ↓reduceIte, Nat.reduceEqDiff]; done))
        | simp only [go_sem, ↓reduceIte, Nat.reduceEqDiff, reduceCtorEq, Nat.reduceAdd, Int.reduceEq, Int.reduceBNe, Int.reduceBEq, Int.reduceToNat, Int.reduceLT, Int.reduceLE, Int.reduceGT, Int.reduceGE, Nat.reduceSub, Nat.reduceBEq, Nat.reduceBNe, Int.reduceAdd, Int.reduceSub, Int.reduceMul, Int.reduceNeg, Nat.reduceMul, Nat.reduceLeDiff, Nat.reduceLT, hst2]
        | simp (disch := omega) only [wi64, wu8, wu16, wu32, wu64, Int.tdiv_eq_ediv_of_nonneg, Int.tmod_eq_emod_of_nonneg]
        | with_reducible_and_instances exact finR
        | ((with_reducible refine finR' ?_ ?_) <;> rfl)
        | ((with_reducible refine finD hsc (NRel.of_plain ?_)); exact rfl)
      exact ⟨n + 1, Weak.env (by simp [envIn, lk_cons, wth_some]), by omega, by omega⟩
    · have : n = 4 := by omega
      subst this
      have e1 : List.zipWith andB (ip.take 4) (List.take 4 [3, 15, 63, 255]) ++ (List.replicate 4 0).drop 4 = List.zipWith andB ip [3, 15, 63, 255] := by
        have h0 : List.take 4 ([3, 15, 63, 255] : List UInt8) = [3, 15, 63, 255] := rfl
        rw [show (List.replicate 4 (0 : UInt8)).drop 4 = [] from rfl, List.append_nil, h0]
        have h1 := zipWith_take_right (fun x y => andB y x) ([3, 15, 63, 255] : List UInt8) ip
        rw [List.zipWith_comm (f := andB), List.zipWith_comm (f := andB)]
        exact h1
      have hzl : (List.zipWith andB ip [3, 15, 63, 255]).length = 4 := by simp; omega
      rw [e1]
      repeat first
        | with_reducible refine AWP.seq ?_
        | ((with_reducible refine AWP.region ?_ ?_); exact rfl)
        | with_reducible refine AWP.block ?_
        | with_reducible refine AWP.skip ?_
        | with_reducible refine AWP.exit ?_
        | with_reducible refine AWP.ret ?_
        | with_reducible refine AWP.label ?_
        | with_reducible refine AWP.goto ?_
        | ((with_reducible refine AWP.condT ?_ ?_); focus (simp only [ev, lk_cons, ↓reduceIte, Nat.reduceEqDiff]; done))
        | ((with_reducible refine AWP.condF ?_ ?_); focus (simp only [ev, lk_cons, ↓reduceIte, Nat.reduceEqDiff]; done))
        | simp only [go_sem, ↓reduceIte, Nat.reduceEqDiff, reduceCtorEq, Nat.reduceAdd, Int.reduceEq, Int.reduceBNe, Int.reduceBEq, Int.reduceToNat, Int.reduceLT, Int.reduceLE, Int.reduceGT, Int.reduceGE, Nat.reduceSub, Nat.reduceBEq, Nat.reduceBNe, Int.reduceAdd, Int.reduceSub, Int.reduceMul, Int.reduceNeg, Nat.reduceMul, Nat.reduceLeDiff, Nat.reduceLT]
        | simp (disch := omega) only [wi64, wu8, wu16, wu32, wu64, Int.tdiv_eq_ediv_of_nonneg, Int.tmod_eq_emod_of_nonneg]
        | with_reducible_and_instances exact finR
        | ((with_reducible refine finR' ?_ ?_) <;> rfl)
        | ((with_reducible refine finD hsc (NRel.of_plain ?_)); exact rfl)
      refine ⟨by omega, ?_⟩
      rw [List.take_of_length_le (by omega)]
      repeat first
        | with_reducible refine AWP.seq ?_
        | ((with_reducible refine AWP.region ?_ ?_); exact rfl)
        | with_reducible refine AWP.block ?_
        | with_reducible refine AWP.skip ?_
        | with_reducible refine AWP.exit ?_
        | with_reducible refine AWP.ret ?_
        | with_reducible refine AWP.label ?_
        | with_reducible refine AWP.goto ?_
        | ((with_reducible refine AWP.condT ?_ ?_); focus (simp only [ev, lk_cons, ↓reduceIte, Nat.reduceEqDiff]; done))
        | ((with_reducible refine AWP.condF ?_ ?_); focus (simp only [ev, lk_cons, ↓reduceIte, Nat.reduceEqDiff]; done))
        | simp only [go_sem, ↓reduceIte, Nat.reduceEqDiff, reduceCtorEq, Nat.reduceAdd, Int.reduceEq, Int.reduceBNe, Int.reduceBEq, Int.reduceToNat, Int.reduceLT, Int.reduceLE, Int.reduceGT, Int.reduceGE, Nat.reduceSub, Nat.reduceBEq, Nat.reduceBNe, Int.reduceAdd, Int.reduceSub, Int.reduceMul, Int.reduceNeg, Nat.reduceMul, Nat.reduceLeDiff, Nat.reduceLT]
        | simp (disch := omega) only [wi64, wu8, wu16, wu32, wu64, Int.tdiv_eq_ediv_of_nonneg, Int.tmod_eq_emod_of_nonneg]
        | with_reducible_and_instances exact finR
        | ((with_reducible refine finR' ?_ ?_) <;> rfl)
        | ((with_reducible refine finD hsc (NRel.of_plain ?_)); exact rfl)
  · rw [if_pos rfl]
    refine AC.enter Tryd.func94 rfl (by kernel_rfl) 31 rfl [.tmp 2] rfl (by simp) fun hsc B => ?_
    repeat first
      | with_reducible refine AWP.seq ?_
      | ((with_reducible refine AWP.region ?_ ?_); exact rfl)
      | with_reducible refine AWP.block ?_
      | with_reducible refine AWP.skip ?_
      | with_reducible refine AWP.exit ?_
      | with_reducible refine AWP.ret ?_
      | with_reducible refine AWP.label ?_
      | with_reducible refine AWP.goto ?_
      | ((with_reducible refine AWP.condT ?_ ?_); focus (simp only [ev, lk_cons, ↓reduceIte, Nat.reduceEqDiff]; done))
      | ((with_reducible refine AWP.condF ?_ ?_); focus (simp only [ev, lk_cons, ↓reduceIte, Nat.reduceEqDiff]; done))
      | simp only [go_sem, ↓reduceIte, Nat.reduceEqDiff, reduceCtorEq, Nat.reduceAdd, Int.reduceEq, Int.reduceBNe, Int.reduceBEq, Int.reduceToNat, Int.reduceLT, Int.reduceLE, Int.reduceGT, Int.reduceGE, Nat.reduceSub, Nat.reduceBEq, Nat.reduceBNe, Int.reduceAdd, Int.reduceSub, Int.reduceMul, Int.reduceNeg, Nat.reduceMul, Nat.reduceLeDiff, Nat.reduceLT, makeSliceW]
      | simp (disch := omega) only [wi64, wu8, wu16, wu32, wu64, Int.tdiv_eq_ediv_of_nonneg, Int.tmod_eq_emod_of_nonneg]
      | with_reducible_and_instances exact finR
      | ((with_reducible refine finR' ?_ ?_) <;> rfl)
      | ((with_reducible refine finD hsc (NRel.of_plain ?_)); exact rfl)
    refine AWP.loopP (fun n : Nat => ⟨[(1, .pointer (some ⟨H.length, 0, none⟩)), (3, .string (bs [1, 3, 7, 15, 31, 63, 127, 255])), (4, .slice (some ⟨H.length + 1, 0, none⟩) 8 8), (13, .int .i64 8), (14, .int .i64 (n : Nat))], [], H ++ [.cells [.int .i64 6, .string (bs ip), .int .i64 p] ⟨23, 0, true, 0, none⟩, .cells (bytesC (List.zipWith andB (ip.take n) (List.take n [1, 3, 7, 15, 31, 63, 127, 255]) ++ (List.replicate 8 0).drop n)) ⟨5, 0, true, 0, none⟩]⟩)
      (fun n => n ≤ 8) (fun n => 8 - n) 0 ?_ (Nat.zero_le _) ?_
    · exact Weak.env (by simp [envIn, lk_cons, wth_some, repZ_one, bytesC_zeros])
    intro n hn
    have hpl : (List.zipWith andB (ip.take n) (List.take n [1, 3, 7, 15, 31, 63, 127, 255])).length = n := by simp; omega
    by_cases hc : n < 8
    · have hc' : (n : Int) < 8 := by omega
      have g1 : ip[n]? = some (ip[n]'(by omega)) := List.getElem?_eq_getElem _
      have hBn : n < ([1, 3, 7, 15, 31, 63, 127, 255] : List UInt8).length := hc
      have g2 : ([1, 3, 7, 15, 31, 63, 127, 255] : List UInt8)[n]? = some (([1, 3, 7, 15, 31, 63, 127, 255] : List UInt8)[n]'hBn) := List.getElem?_eq_getElem _
      have hst := turn_set (p := List.zipWith andB (ip.take n) (List.take n [1, 3, 7, 15, 31, 63, 127, 255])) (a := List.replicate 8 (0 : UInt8)) (i := n) (andB (ip[n]'(by omega)) (([1, 3, 7, 15, 31, 63, 127, 255] : List UInt8)[n]'hBn)) hpl (by simpa using hc)
      rw [← zipWith_take_succ andB ip [1, 3, 7, 15, 31, 63, 127, 255] n (by omega) hBn] at hst
      have hst2 : (bytesC (List.zipWith andB (ip.take n) (List.take n [1, 3, 7, 15, 31, 63, 127, 255]) ++ (List.replicate 8 0).drop n)).set n (.int .u8 ((andB (ip[n]'(by omega)) (([1, 3, 7, 15, 31, 63, 127, 255] : List UInt8)[n]'hBn)).toNat : Int)) = bytesC (List.zipWith andB (ip.take (n + 1)) (List.take (n + 1) [1, 3, 7, 15, 31, 63, 127, 255]) ++ (List.replicate 8 0).drop (n + 1)) := by rw [bytesC_set, hst]
      have hcl : (bytesC (List.zipWith andB (ip.take n) (List.take n [1, 3, 7, 15, 31, 63, 127, 255]) ++ (List.replicate 8 0).drop n)).length = 8 := by rw [bytesC_length, List.length_append, hpl, List.length_drop, List.length_replicate]; omega
      generalize ([1, 3, 7, 15, 31, 63, 127, 255] : List UInt8)[n]'hBn = y at *
      generalize ip[n]'(by omega) = x at *
      generalize bytesC (List.zipWith andB (ip.take n) (List.take n [1, 3, 7, 15, 31, 63, 127, 255]) ++ (List.replicate 8 0).drop n) = cs at *
      repeat first
        | with_reducible refine AWP.seq ?_
        | ((with_reducible refine AWP.region ?_ ?_); exact rfl)
        | with_reducible refine AWP.block ?_
        | with_reducible refine AWP.skip ?_
        | with_reducible refine AWP.exit ?_
        | with_reducible refine AWP.ret ?_
        | with_reducible refine AWP.label ?_
        | with_reducible refine AWP.goto ?_
        | ((with_reducible refine AWP.condT ?_ ?_); focus (simp only [ev, lk_cons, ↓reduceIte, Nat.reduceEqDiff]; done))
        | ((with_reducible refine AWP.condF ?_ ?_); focus (simp only [ev, lk_cons, ↓reduceIte, Nat.reduceEqDiff]; done))
        | simp only [go_sem, ↓reduceIte, Nat.reduceEqDiff, reduceCtorEq, Nat.reduceAdd, Int.reduceEq, Int.reduceBNe, Int.reduceBEq, Int.reduceToNat, Int.reduceLT, Int.reduceLE, Int.reduceGT, Int.reduceGE, Nat.reduceSub, Nat.reduceBEq, Nat.reduceBNe, Int.reduceAdd, Int.reduceSub, Int.reduceMul, Int.reduceNeg, Nat.reduceMul, Nat.reduceLeDiff, Nat.reduceLT, hc']
        | simp (disch := omega) only [wi64, wu8, wu16, wu32, wu64, Int.tdiv_eq_ediv_of_nonneg, Int.tmod_eq_emod_of_nonneg]
        | with_reducible_and_instances exact finR
        | ((with_reducible refine finR' ?_ ?_) <;> rfl)
        | ((with_reducible refine finD hsc (NRel.of_plain ?_)); exact rfl)
      refine AWP.regionK 11 (by kernel_rfl) (by decide) (by kernel_rfl) ?_
      repeat first
        | with_reducible refine AWP.seq ?_
        | ((with_reducible refine AWP.region ?_ ?_); exact rfl)
        | with_reducible refine AWP.block ?_
        | with_reducible refine AWP.skip ?_
        | with_reducible refine AWP.exit ?_
        | with_reducible refine AWP.ret ?_
        | with_reducible refine AWP.label ?_
        | with_reducible refine AWP.goto ?_
        | ((with_reducible refine AWP.condT ?_ ?_); focus (simp only [ev, lk_cons, ↓reduceIte, Nat.reduceEqDiff]; done))
        | ((with_reducible refine AWP.condF ?_ ?_); focus (simp only [ev, lk_cons, ↓reduceIte, Nat.reduceEqDiff]; done))
        | simp only [go_sem, ↓reduceIte, Nat.reduceEqDiff, reduceCtorEq, Nat.reduceAdd, Int.reduceEq, Int.reduceBNe, Int.reduceBEq, Int.reduceToNat, Int.reduceLT, Int.reduceLE, Int.reduceGT, Int.reduceGE, Nat.reduceSub, Nat.reduceBEq, Nat.reduceBNe, Int.reduceAdd, Int.reduceSub, Int.reduceMul, Int.reduceNeg, Nat.reduceMul, Nat.reduceLeDiff, Nat.reduceLT, g1, g2, andI_8]
        | simp (disch := omega) only [wi64, wu8, wu16, wu32, wu64, Int.tdiv_eq_ediv_of_nonneg, Int.tmod_eq_emod_of_nonneg]
        | with_reducible_and_instances exact finR
        | ((with_reducible refine finR' ?_ ?_) <;> rfl)
        | ((with_reducible refine finD hsc (NRel.of_plain ?_)); exact rfl)
      refine ⟨by omega, by omega, ?_⟩
      repeat first
        | with_reducible refine AWP.seq ?_
        | ((with_reducible refine AWP.region ?_ ?_); exact rfl)
        | with_reducible refine AWP.block ?_
        | with_reducible refine AWP.skip ?_
        | with_reducible refine AWP.exit ?_
        | with_reducible refine AWP.ret ?_
        | with_reducible refine AWP.label ?_
        | with_reducible refine AWP.goto ?_
        | ((with_reducible refine AWP.condT ?_ ?_); focus (simp only [ev, lk_cons, ↓reduceIte, Nat.reduceEqDiff]; done))
        | ((with_reducible refine AWP.condF ?_ ?_); focus (simp only [ev, lk_cons, ↓reduceIte, Nat.reduceEqDiff]; done))
        | simp only [go_sem, ↓reduceIte, Nat.reduceEqDiff, reduceCtorEq, Nat.reduceAdd, Int.reduceEq, Int.reduceBNe, Int.reduceBEq, Int.reduceToNat, Int.reduceLT, Int.reduceLE, Int.reduceGT, Int.reduceGE, Nat.reduceSub, Nat.reduceBEq, Nat.reduceBNe, Int.reduceAdd, Int.reduceSub, Int.reduceMul, Int.reduceNeg, Nat.reduceMul, Nat.reduceLeDiff, Nat.reduceLT, hst2]
        | simp (disch := omega) only [wi64, wu8, wu16, wu32, wu64, Int.tdiv_eq_ediv_of_nonneg, Int.tmod_eq_emod_of_nonneg]
        | with_reducible_and_instances exact finR
        | ((with_reducible refine finR' ?_ ?_) <;> rfl)
        | ((with_reducible refine finD hsc (NRel.of_plain ?_)); exact rfl)
      exact ⟨n + 1, Weak.env (by simp [envIn, lk_cons, wth_some]), by omega, by omega⟩
    · have : n = 8 := by omega
      subst this
      have e1 : List.zipWith andB (ip.take 8) (List.take 8 [1, 3, 7, 15, 31, 63, 127, 255]) ++ (List.replicate 8 0).drop 8 = List.zipWith andB ip [1, 3, 7, 15, 31, 63, 127, 255] := by
        have h0 : List.take 8 ([1, 3, 7, 15, 31, 63, 127, 255] : List UInt8) = [1, 3, 7, 15, 31, 63, 127, 255] := rfl
        rw [show (List.replicate 8 (0 : UInt8)).drop 8 = [] from rfl, List.append_nil, h0]
        have h1 := zipWith_take_right (fun x y => andB y x) ([1, 3, 7, 15, 31, 63, 127, 255] : List UInt8) ip
        rw [List.zipWith_comm (f := andB), List.zipWith_comm (f := andB)]
        exact h1
      have hzl : (List.zipWith andB ip [1, 3, 7, 15, 31, 63, 127, 255]).length = 8 := by simp; omega
      rw [e1]
      repeat first
        | with_reducible refine AWP.seq ?_
        | ((with_reducible refine AWP.region ?_ ?_); exact rfl)
        | with_reducible refine AWP.block ?_
        | with_reducible refine AWP.skip ?_
        | with_reducible refine AWP.exit ?_
        | with_reducible refine AWP.ret ?_
        | with_reducible refine AWP.label ?_
        | with_reducible refine AWP.goto ?_
        | ((with_reducible refine AWP.condT ?_ ?_); focus (simp only [ev, lk_cons, ↓reduceIte, Nat.reduceEqDiff]; done))
        | ((with_reducible refine AWP.condF ?_ ?_); focus (simp only [ev, lk_cons, ↓reduceIte, Nat.reduceEqDiff]; done))
        | simp only [go_sem, ↓reduceIte, Nat.reduceEqDiff, reduceCtorEq, Nat.reduceAdd, Int.reduceEq, Int.reduceBNe, Int.reduceBEq, Int.reduceToNat, Int.reduceLT, Int.reduceLE, Int.reduceGT, Int.reduceGE, Nat.reduceSub, Nat.reduceBEq, Nat.reduceBNe, Int.reduceAdd, Int.reduceSub, Int.reduceMul, Int.reduceNeg, Nat.reduceMul, Nat.reduceLeDiff, Nat.reduceLT]
        | simp (disch := omega) only [wi64, wu8, wu16, wu32, wu64, Int.tdiv_eq_ediv_of_nonneg, Int.tmod_eq_emod_of_nonneg]
        | with_reducible_and_instances exact finR
        | ((with_reducible refine finR' ?_ ?_) <;> rfl)
        | ((with_reducible refine finD hsc (NRel.of_plain ?_)); exact rfl)
      refine ⟨by omega, ?_⟩
      rw [List.take_of_length_le (by omega)]
      repeat first
        | with_reducible refine AWP.seq ?_
        | ((with_reducible refine AWP.region ?_ ?_); exact rfl)
        | with_reducible refine AWP.block ?_
        | with_reducible refine AWP.skip ?_
        | with_reducible refine AWP.exit ?_
        | with_reducible refine AWP.ret ?_
        | with_reducible refine AWP.label ?_
        | with_reducible refine AWP.goto ?_
        | ((with_reducible refine AWP.condT ?_ ?_); focus (simp only [ev, lk_cons, ↓reduceIte, Nat.reduceEqDiff]; done))
        | ((with_reducible refine AWP.condF ?_ ?_); focus (simp only [ev, lk_cons, ↓reduceIte, Nat.reduceEqDiff]; done))
        | simp only [go_sem, ↓reduceIte, Nat.reduceEqDiff, reduceCtorEq, Nat.reduceAdd, Int.reduceEq, Int.reduceBNe, Int.reduceBEq, Int.reduceToNat, Int.reduceLT, Int.reduceLE, Int.reduceGT, Int.reduceGE, Nat.reduceSub, Nat.reduceBEq, Nat.reduceBNe, Int.reduceAdd, Int.reduceSub, Int.reduceMul, Int.reduceNeg, Nat.reduceMul, Nat.reduceLeDiff, Nat.reduceLT]
        | simp (disch := omega) only [wi64, wu8, wu16, wu32, wu64, Int.tdiv_eq_ediv_of_nonneg, Int.tmod_eq_emod_of_nonneg]
        | with_reducible_and_instances exact finR
        | ((with_reducible refine finR' ?_ ?_) <;> rfl)
        | ((with_reducible refine finD hsc (NRel.of_plain ?_)); exact rfl)
theorem maskL_len (a : Ad) : (maskL a).length ≤ 8 := by unfold maskL byL; split <;> simp <;> omega
def beginsL (a : Ad) (r : Nat) : List UInt8 := (sumL (maskL a ++ [UInt8.ofNat (r % 8)])).take 3
theorem begins (a : Ad) (h : a.ok = true) (r : Nat) (hr : r ≤ 255) (H : AHeap) : ARet Tryd.prog 76 [a.v, .int .i64 (r : Nat)] H (.string (bs (beginsL a r))) H := by
  have hM := fun H => mask a h H
  have hml := maskL_len a
  have hS := fun H => refSum (maskL a ++ [UInt8.ofNat (r % 8)]) (by rw [List.length_append, List.length_singleton]; omega) H
  have hsl := sumL_len (maskL a ++ [UInt8.ofNat (r % 8)])
  have hm8 : (r : Int).tmod 8 = ((r % 8 : Nat) : Int) := tmod8 r
  have hw : IntKind.u8.wrap ((r % 8 : Nat) : Int) = ((r % 8 : Nat) : Int) := wu8 (by omega)
  have hu : u8s [Value.int .u8 ((r % 8 : Nat) : Int)] = some [UInt8.ofNat (r % 8)] := rfl
  unfold beginsL
  unfold Ad.v at hM ⊢
  have hms : (maskL a).length + 1 ≤ 9223372036854775807 := by omega
  generalize maskL a = mk at *
  generalize UInt8.ofNat (r % 8) = rb at *
  generalize sumL (mk ++ [rb]) = sm at *
  refine AC.enter Tryd.func76 rfl (by kernel_rfl) 15 rfl [.tmp 4] rfl (by simp) fun hsc B => ?_
  repeat first
    | with_reducible refine AWP.seq ?_
    | ((with_reducible refine AWP.region ?_ ?_); exact rfl)
    | with_reducible refine AWP.block ?_
    | with_reducible refine AWP.skip ?_
    | with_reducible refine AWP.exit ?_
    | with_reducible refine AWP.ret ?_
    | with_reducible refine AWP.label ?_
    | with_reducible refine AWP.goto ?_
    | ((with_reducible refine AWP.condT ?_ ?_); focus (simp only [ev, lk_cons, ↓reduceIte, Nat.reduceEqDiff]; done))
    | ((with_reducible refine AWP.condF ?_ ?_); focus (simp only [ev, lk_cons, ↓reduceIte, Nat.reduceEqDiff]; done))
    | simp only [go_sem, ↓reduceIte, Nat.reduceEqDiff, reduceCtorEq, Nat.reduceAdd, Int.reduceEq, Int.reduceBNe, Int.reduceBEq, Int.reduceToNat, Int.reduceLT, Int.reduceLE, Int.reduceGT, Int.reduceGE, Nat.reduceSub, Nat.reduceBEq, Nat.reduceBNe, Int.reduceAdd, Int.reduceSub, Int.reduceMul, Int.reduceNeg, Nat.reduceMul, Nat.reduceLeDiff, Nat.reduceLT]
    | simp (disch := omega) only [wi64, wu8, wu16, wu32, wu64, Int.tdiv_eq_ediv_of_nonneg, Int.tmod_eq_emod_of_nonneg]
    | with_reducible_and_instances exact finR
    | ((with_reducible refine finR' ?_ ?_) <;> rfl)
    | ((with_reducible refine finD hsc (NRel.of_plain ?_)); exact rfl)
  refine AWP.regionM 7 [0, 1, 5, 6] [(1, .string (bs mk)), (6, .string (bs [rb]))] (.both (.step 0 (.both (.run [1, 5, 6]) (.step 5 (.both (.run [1, 6]) (.run [6, 1]))))) (.step 5 (.both (.step 0 (.both (.run [1, 6]) (.run [6, 1]))) (.run [6, 0, 1])))) (by kernel_rfl) (by decide) (by kernel_rfl) (by kernel_rfl) (by kernel_rfl) ?_
  repeat' first
    | with_reducible refine canW_n ?_
    | with_reducible refine canW_m (by decide) ?_
    | ((with_reducible apply canW_p (by decide)); focus (intro H; (simp only [go_sem, ↓reduceIte, Nat.reduceEqDiff, reduceCtorEq, Nat.reduceAdd, Int.reduceEq, Int.reduceBNe, Int.reduceBEq, Int.reduceToNat, Int.reduceLT, Int.reduceLE, Int.reduceGT, Int.reduceGE, Nat.reduceSub, Nat.reduceBEq, Nat.reduceBNe, Int.reduceAdd, Int.reduceSub, Int.reduceMul, Int.reduceNeg, Nat.reduceMul, Nat.reduceLeDiff, Nat.reduceLT, hm8, hw, hu, hsl, hms, List.map_cons, List.map_nil]); exact rfl))
    | with_reducible refine memW_b ?_ ?_
    | with_reducible refine memW_s rfl ?_
    | with_reducible refine memW_r rfl ?_
    | with_reducible refine memW_e ?_
    | simp only [List.take_succ_cons, List.take_zero, List.drop_succ_cons, List.drop_zero]
    | omega
    | with_reducible refine And.intro ?_ ?_
    | with_reducible refine AWP.seq ?_
    | ((with_reducible refine AWP.region ?_ ?_); exact rfl)
    | with_reducible refine AWP.block ?_
    | with_reducible refine AWP.skip ?_
    | with_reducible refine AWP.exit ?_
    | with_reducible refine AWP.ret ?_
    | with_reducible refine AWP.label ?_
    | with_reducible refine AWP.goto ?_
    | ((with_reducible refine AWP.condT ?_ ?_); focus (simp only [ev, lk_cons, ↓reduceIte, Nat.reduceEqDiff]; done))
    | ((with_reducible refine AWP.condF ?_ ?_); focus (simp only [ev, lk_cons, ↓reduceIte, Nat.reduceEqDiff]; done))
    | with_reducible refine (hM _).use ?_
    | with_reducible refine (hS _).use ?_
    | simp only [go_sem, ↓reduceIte, Nat.reduceEqDiff, reduceCtorEq, Nat.reduceAdd, Int.reduceEq, Int.reduceBNe, Int.reduceBEq, Int.reduceToNat, Int.reduceLT, Int.reduceLE, Int.reduceGT, Int.reduceGE, Nat.reduceSub, Nat.reduceBEq, Nat.reduceBNe, Int.reduceAdd, Int.reduceSub, Int.reduceMul, Int.reduceNeg, Nat.reduceMul, Nat.reduceLeDiff, Nat.reduceLT, hm8, hw, hu, hsl, hms, List.map_cons, List.map_nil]
    | simp (disch := omega) only [wi64, wu8, wu16, wu32, wu64, Int.tdiv_eq_ediv_of_nonneg, Int.tmod_eq_emod_of_nonneg]
    | with_reducible_and_instances exact finR
    | ((with_reducible refine finR' ?_ ?_) <;> rfl)
    | ((with_reducible refine finD hsc (NRel.of_plain ?_)); exact rfl)
end Go.Proofs.YtmpkgdilmkeacaaDoor
