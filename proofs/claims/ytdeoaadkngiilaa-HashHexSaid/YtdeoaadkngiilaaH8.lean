/-
  Hex, by the program and by the reference.
-/
import Derived.Test.YtdeoaadkngiilaaH6
import Derived.Test.YtdeoaadkngiilaaAw35
set_option linter.unusedVariables false
set_option linter.unusedSimpArgs false
set_option maxRecDepth 20000
namespace Go.Proofs.Ytdeoaadkngiilaa
open Go Go.Aw Go.Proofs
def digs : List UInt8 := [48, 49, 50, 51, 52, 53, 54, 55, 56, 57, 97, 98, 99, 100, 101, 102]
def hexC (n : Nat) : UInt8 := digs.getD n 0
theorem digs_get {n : Nat} (h : n < 16) : digs[n]? = some (hexC n) := by
  unfold hexC; rw [List.getD_eq_getElem?_getD, List.getElem?_eq_getElem (show n < digs.length from h)]; rfl
def hexL : List UInt8 → List UInt8
  | [] => []
  | b :: r => hexC (b.toNat / 16) :: hexC (b.toNat % 16) :: hexL r
theorem hexL_len : ∀ s : List UInt8, (hexL s).length = 2 * s.length
  | [] => rfl
  | b :: r => by simp only [hexL, List.length_cons, hexL_len r]; omega
theorem hexL_get : ∀ (s : List UInt8) (n : Nat) (h : n < s.length), (hexL s)[2 * n]? = some (hexC (s[n].toNat / 16)) ∧ (hexL s)[2 * n + 1]? = some (hexC (s[n].toNat % 16))
  | [], n, h => by simp at h
  | b :: r, 0, _ => ⟨rfl, rfl⟩
  | b :: r, n + 1, h => by
    have ih := hexL_get r n (by simpa using h)
    rw [show 2 * (n + 1) = 2 * n + 1 + 1 by omega]
    simpa [hexL] using ih
theorem turn4 (m a : List UInt8) (n : Nat) (x y : UInt8) (hm : 2 * n + 1 < m.length) (hl : m.length = a.length) (hx : m[2 * n]? = some x) (hy : m[2 * n + 1]? = some y) : ((m.take (2 * n) ++ a.drop (2 * n)).set (2 * n) x).set (2 * n + 1) y = m.take (2 * n + 2) ++ a.drop (2 * n + 2) := by
  rw [turn2 m a (2 * n) x (by omega) hl hx, turn2 m a (2 * n + 1) y hm hl hy]
theorem Hex (s : List UInt8) (hs : s.length < 1099511627776) (H : AHeap) : ARet Try.prog 31 [.string (bs s)] H (.string (bs (hexL s))) H := by
  have hL := hexL_len s
  have h2l : (2 * (s.length : Int)).toNat = 2 * s.length := by omega
  have hz : (List.replicate (2 * s.length) (0 : UInt8)).length = 2 * s.length := List.length_replicate
  refine AC.enter Try.func31 rfl (by kernel_rfl) 30 rfl [.tmp 2] rfl (by simp) fun hsc B => ?_
  repeat first
    | with_reducible refine AWP.seq ?_
    | ((with_reducible refine AWP.region ?_ ?_); exact rfl)
    | with_reducible refine AWP.block ?_
    | with_reducible refine AWP.skip ?_
    | with_reducible refine AWP.exit ?_
    | with_reducible refine AWP.ret ?_
    | with_reducible refine AWP.label ?_
    | with_reducible refine AWP.goto ?_
    | ((with_reducible refine AWP.condT ?_ ?_); focus (simp only [ev, lk_cons, ↓reduceIte, Nat.reduceEqDiff]; done))
    | ((with_reducible refine AWP.condF ?_ ?_); focus (simp only [ev, lk_cons, ↓reduceIte, Nat.reduceEqDiff]; done))
    | simp only [go_sem, ↓reduceIte, Nat.reduceEqDiff, reduceCtorEq, Nat.reduceAdd, Int.reduceEq, Int.reduceBNe, Int.reduceBEq, Int.reduceToNat, Int.reduceLT, Int.reduceLE, Int.reduceGT, Int.reduceGE, Nat.reduceSub, Nat.reduceBEq, Nat.reduceBNe, Int.reduceAdd, Int.reduceSub, Int.reduceMul, Int.reduceNeg, Nat.reduceMul, Nat.reduceLeDiff, Nat.reduceLT, makeSliceW, repZ_one, bytesC_zeros, h2l]
    | simp (disch := omega) only [wi64, wu8, wu16, wu32, wu64]
    | with_reducible_and_instances exact finR
    | ((with_reducible refine finR' ?_ ?_) <;> rfl)
    | ((with_reducible refine finD hsc (NRel.of_plain ?_)); exact rfl)
  refine ⟨by omega, by omega, by omega, ?_⟩
  repeat first
    | with_reducible refine AWP.seq ?_
    | ((with_reducible refine AWP.region ?_ ?_); exact rfl)
    | with_reducible refine AWP.block ?_
    | with_reducible refine AWP.skip ?_
    | with_reducible refine AWP.exit ?_
    | with_reducible refine AWP.ret ?_
    | with_reducible refine AWP.label ?_
    | with_reducible refine AWP.goto ?_
    | ((with_reducible refine AWP.condT ?_ ?_); focus (simp only [ev, lk_cons, ↓reduceIte, Nat.reduceEqDiff]; done))
    | ((with_reducible refine AWP.condF ?_ ?_); focus (simp only [ev, lk_cons, ↓reduceIte, Nat.reduceEqDiff]; done))
    | simp only [go_sem, ↓reduceIte, Nat.reduceEqDiff, reduceCtorEq, Nat.reduceAdd, Int.reduceEq, Int.reduceBNe, Int.reduceBEq, Int.reduceToNat, Int.reduceLT, Int.reduceLE, Int.reduceGT, Int.reduceGE, Nat.reduceSub, Nat.reduceBEq, Nat.reduceBNe, Int.reduceAdd, Int.reduceSub, Int.reduceMul, Int.reduceNeg, Nat.reduceMul, Nat.reduceLeDiff, Nat.reduceLT]
    | simp (disch := omega) only [wi64, wu8, wu16, wu32, wu64]
    | with_reducible_and_instances exact finR
    | ((with_reducible refine finR' ?_ ?_) <;> rfl)
    | ((with_reducible refine finD hsc (NRel.of_plain ?_)); exact rfl)
  refine AWP.loopP (fun n : Nat => ⟨[(0, .string (bs s)), (3, .slice (some ⟨H.length, 0, none⟩) (2 * n) (2 * s.length)), (10, .int .i64 (s.length : Nat)), (11, .int .i64 (n : Nat))], [], H ++ [.cells (bytesC ((hexL s).take (2 * n) ++ (List.replicate (2 * s.length) 0).drop (2 * n))) ⟨5, 0, true, 0, none⟩]⟩)
    (fun n => n ≤ s.length) (fun n => s.length - n) 0 ?_ (Nat.zero_le _) ?_
  · exact Weak.env (by simp [envIn, lk_cons, wth_some])
  intro n hn
  by_cases hc : n < s.length
  · have hc' : (n : Int) < (s.length : Int) := by omega
    have hg : s[n]? = some s[n] := List.getElem?_eq_getElem hc
    obtain ⟨x1, x2⟩ := hexL_get s n hc
    have hb := s[n].toNat_lt
    generalize s[n] = b at hg x1 x2 hb
    have d1 := digs_get (n := b.toNat / 16) (by omega)
    have d2 := digs_get (n := b.toNat % 16) (by omega)
    unfold digs at d1 d2
    have hst := turn4 (hexL s) (List.replicate (2 * s.length) 0) n _ _ (by omega) (by omega) x1 x2
    have hle : ((hexL s).take (2 * n) ++ (List.replicate (2 * s.length) 0).drop (2 * n)).length = 2 * s.length := by simp; omega
    have s1 : shrI .u8 (b.toNat : Int) 4 = ((b.toNat / 16 : Nat) : Int) := shrI_n .u8 b.toNat 4 (by decide)
    have s2 : andI .u8 (b.toNat : Int) 15 = ((b.toNat % 16 : Nat) : Int) := by
      have h := andI_n8 b.toNat 15 hb (by decide)
      rw [Nat.and_two_pow_sub_one_eq_mod b.toNat 4] at h
      exact h
    repeat first
      | with_reducible refine AWP.seq ?_
      | ((with_reducible refine AWP.region ?_ ?_); exact rfl)
      | with_reducible refine AWP.block ?_
      | with_reducible refine AWP.skip ?_
      | with_reducible refine AWP.exit ?_
      | with_reducible refine AWP.ret ?_
      | with_reducible refine AWP.label ?_
      | with_reducible refine AWP.goto ?_
      | ((with_reducible refine AWP.condT ?_ ?_); focus (simp only [ev, lk_cons, ↓reduceIte, Nat.reduceEqDiff]; done))
      | ((with_reducible refine AWP.condF ?_ ?_); focus (simp only [ev, lk_cons, ↓reduceIte, Nat.reduceEqDiff]; done))
      | simp only [go_sem, ↓reduceIte, Nat.reduceEqDiff, reduceCtorEq, Nat.reduceAdd, Int.reduceEq, Int.reduceBNe, Int.reduceBEq, Int.reduceToNat, Int.reduceLT, Int.reduceLE, Int.reduceGT, Int.reduceGE, Nat.reduceSub, Nat.reduceBEq, Nat.reduceBNe, Int.reduceAdd, Int.reduceSub, Int.reduceMul, Int.reduceNeg, Nat.reduceMul, Nat.reduceLeDiff, Nat.reduceLT, hc']
      | simp (disch := omega) only [wi64, wu8, wu16, wu32, wu64]
      | with_reducible_and_instances exact finR
      | ((with_reducible refine finR' ?_ ?_) <;> rfl)
      | ((with_reducible refine finD hsc (NRel.of_plain ?_)); exact rfl)
    refine AWP.regionF 12 11 [0] (by kernel_rfl) (by decide) (by kernel_rfl) (by kernel_rfl) rfl ?_
    repeat first
      | with_reducible refine AWP.seq ?_
      | ((with_reducible refine AWP.region ?_ ?_); exact rfl)
      | with_reducible refine AWP.block ?_
      | with_reducible refine AWP.skip ?_
      | with_reducible refine AWP.exit ?_
      | with_reducible refine AWP.ret ?_
      | with_reducible refine AWP.label ?_
      | with_reducible refine AWP.goto ?_
      | ((with_reducible refine AWP.condT ?_ ?_); focus (simp only [ev, lk_cons, ↓reduceIte, Nat.reduceEqDiff]; done))
      | ((with_reducible refine AWP.condF ?_ ?_); focus (simp only [ev, lk_cons, ↓reduceIte, Nat.reduceEqDiff]; done))
      | simp only [go_sem, ↓reduceIte, Nat.reduceEqDiff, reduceCtorEq, Nat.reduceAdd, Int.reduceEq, Int.reduceBNe, Int.reduceBEq, Int.reduceToNat, Int.reduceLT, Int.reduceLE, Int.reduceGT, Int.reduceGE, Nat.reduceSub, Nat.reduceBEq, Nat.reduceBNe, Int.reduceAdd, Int.reduceSub, Int.reduceMul, Int.reduceNeg, Nat.reduceMul, Nat.reduceLeDiff, Nat.reduceLT, hg, d1, d2, s1, s2, keepW, dstV, exists_eq_left, pickO, List.map_cons, List.map_nil]
      | simp (disch := omega) only [wi64, wu8, wu16, wu32, wu64]
      | with_reducible_and_instances exact finR
      | ((with_reducible refine finR' ?_ ?_) <;> rfl)
      | ((with_reducible refine finD hsc (NRel.of_plain ?_)); exact rfl)
    have hcs : 0 + 2 * n * 1 + 2 * 1 ≤ (bytesC ((hexL s).take (2 * n) ++ (List.replicate (2 * s.length) 0).drop (2 * n))).length := by rw [bytesC_length, hle]; omega
    have e0 : 0 + 2 * n * 1 = 2 * n := by omega
    refine appendTo_in (k := ⟨5, 0, true, 0, none⟩) (cs := bytesC ((hexL s).take (2 * n) ++ (List.replicate (2 * s.length) 0).drop (2 * n))) (hget0 rfl) (by decide) (by omega) rfl (Nat.zero_le _) hcs ?_
    rw [e0]
    repeat first
      | with_reducible refine AWP.seq ?_
      | ((with_reducible refine AWP.region ?_ ?_); exact rfl)
      | with_reducible refine AWP.block ?_
      | with_reducible refine AWP.skip ?_
      | with_reducible refine AWP.exit ?_
      | with_reducible refine AWP.ret ?_
      | with_reducible refine AWP.label ?_
      | with_reducible refine AWP.goto ?_
      | ((with_reducible refine AWP.condT ?_ ?_); focus (simp only [ev, lk_cons, ↓reduceIte, Nat.reduceEqDiff]; done))
      | ((with_reducible refine AWP.condF ?_ ?_); focus (simp only [ev, lk_cons, ↓reduceIte, Nat.reduceEqDiff]; done))
      | simp only [go_sem, ↓reduceIte, Nat.reduceEqDiff, reduceCtorEq, Nat.reduceAdd, Int.reduceEq, Int.reduceBNe, Int.reduceBEq, Int.reduceToNat, Int.reduceLT, Int.reduceLE, Int.reduceGT, Int.reduceGE, Nat.reduceSub, Nat.reduceBEq, Nat.reduceBNe, Int.reduceAdd, Int.reduceSub, Int.reduceMul, Int.reduceNeg, Nat.reduceMul, Nat.reduceLeDiff, Nat.reduceLT, hst]
      | simp (disch := omega) only [wi64, wu8, wu16, wu32, wu64]
      | with_reducible_and_instances exact finR
      | ((with_reducible refine finR' ?_ ?_) <;> rfl)
      | ((with_reducible refine finD hsc (NRel.of_plain ?_)); exact rfl)
    refine ⟨n + 1, ?_, by omega, by omega⟩
    rw [show 2 * (n + 1) = 2 * n + 2 by omega]
    refine Weak.pick [0] rfl hsc (by simp) ⟨?_, ?_⟩
    · simp [selW_cons, selW_nil, wth_some, onm_cells, nrs_refl (bytesC_scalar _)]
    · simp only [Int.natCast_add, Int.natCast_zero, Int.natCast_one, Int.cast_ofNat_Int, envIn_nil, envIn_cons, lk_co, wth_so, nr_bool, nr_int, nr_string, nr_slice, nr_nilSlice, nr_ptr, nr_nilPtr, nr_map, nr_nilMap, nr_nilFunc, nr_nilIface, nr_iface, nr_agg, nr_tuple, nr_func, nr_yield, nrs_nil, nrs_cons, selN_0, selN_k, selN_lt, upto_lt, List.getElem?_cons_zero, List.getElem?_cons_succ, Option.map_some, Nat.add_zero, and_self, ↓reduceIte, Nat.reduceEqDiff, true_and, and_true]
  · have : n = s.length := by omega
    subst this
    have hc' : ¬ (s.length : Int) < (s.length : Int) := by omega
    have e : (hexL s).take (2 * s.length) ++ (List.replicate (2 * s.length) 0).drop (2 * s.length) = hexL s := by
      rw [List.take_of_length_le (by omega), List.drop_eq_nil_of_le (by omega), List.append_nil]
    have e2 : List.take (2 * s.length) (hexL s) = hexL s := List.take_of_length_le (by omega)
    rw [e]
    repeat first
      | with_reducible refine AWP.seq ?_
      | ((with_reducible refine AWP.region ?_ ?_); exact rfl)
      | with_reducible refine AWP.block ?_
      | with_reducible refine AWP.skip ?_
      | with_reducible refine AWP.exit ?_
      | with_reducible refine AWP.ret ?_
      | with_reducible refine AWP.label ?_
      | with_reducible refine AWP.goto ?_
      | ((with_reducible refine AWP.condT ?_ ?_); focus (simp only [ev, lk_cons, ↓reduceIte, Nat.reduceEqDiff]; done))
      | ((with_reducible refine AWP.condF ?_ ?_); focus (simp only [ev, lk_cons, ↓reduceIte, Nat.reduceEqDiff]; done))
      | simp only [go_sem, ↓reduceIte, Nat.reduceEqDiff, reduceCtorEq, Nat.reduceAdd, Int.reduceEq, Int.reduceBNe, Int.reduceBEq, Int.reduceToNat, Int.reduceLT, Int.reduceLE, Int.reduceGT, Int.reduceGE, Nat.reduceSub, Nat.reduceBEq, Nat.reduceBNe, Int.reduceAdd, Int.reduceSub, Int.reduceMul, Int.reduceNeg, Nat.reduceMul, Nat.reduceLeDiff, Nat.reduceLT, hc', hL, e2]
      | simp (disch := omega) only [wi64, wu8, wu16, wu32, wu64]
      | with_reducible_and_instances exact finR
      | ((with_reducible refine finR' ?_ ?_) <;> rfl)
      | ((with_reducible refine finD hsc (NRel.of_plain ?_)); exact rfl)
theorem refHex (s : List UInt8) (hs : s.length < 1099511627776) (H : AHeap) : ARet Try.prog 32 [.string (bs s)] H (.string (bs (hexL s))) H := by
  have hL := hexL_len s
  have h2l : (2 * (s.length : Int)).toNat = 2 * s.length := by omega
  have hz : (List.replicate (2 * s.length) (0 : UInt8)).length = 2 * s.length := List.length_replicate
  refine AC.enter Try.func32 rfl (by kernel_rfl) 30 rfl [.tmp 2] rfl (by simp) fun hsc B => ?_
  repeat first
    | with_reducible refine AWP.seq ?_
    | ((with_reducible refine AWP.region ?_ ?_); exact rfl)
    | with_reducible refine AWP.block ?_
    | with_reducible refine AWP.skip ?_
    | with_reducible refine AWP.exit ?_
    | with_reducible refine AWP.ret ?_
    | with_reducible refine AWP.label ?_
    | with_reducible refine AWP.goto ?_
    | ((with_reducible refine AWP.condT ?_ ?_); focus (simp only [ev, lk_cons, ↓reduceIte, Nat.reduceEqDiff]; done))
    | ((with_reducible refine AWP.condF ?_ ?_); focus (simp only [ev, lk_cons, ↓reduceIte, Nat.reduceEqDiff]; done))
    | simp only [go_sem, ↓reduceIte, Nat.reduceEqDiff, reduceCtorEq, Nat.reduceAdd, Int.reduceEq, Int.reduceBNe, Int.reduceBEq, Int.reduceToNat, Int.reduceLT, Int.reduceLE, Int.reduceGT, Int.reduceGE, Nat.reduceSub, Nat.reduceBEq, Nat.reduceBNe, Int.reduceAdd, Int.reduceSub, Int.reduceMul, Int.reduceNeg, Nat.reduceMul, Nat.reduceLeDiff, Nat.reduceLT, makeSliceW, repZ_one, bytesC_zeros, h2l]
    | simp (disch := omega) only [wi64, wu8, wu16, wu32, wu64]
    | with_reducible_and_instances exact finR
    | ((with_reducible refine finR' ?_ ?_) <;> rfl)
    | ((with_reducible refine finD hsc (NRel.of_plain ?_)); exact rfl)
  refine ⟨by omega, by omega, by omega, ?_⟩
  repeat first
    | with_reducible refine AWP.seq ?_
    | ((with_reducible refine AWP.region ?_ ?_); exact rfl)
    | with_reducible refine AWP.block ?_
    | with_reducible refine AWP.skip ?_
    | with_reducible refine AWP.exit ?_
    | with_reducible refine AWP.ret ?_
    | with_reducible refine AWP.label ?_
    | with_reducible refine AWP.goto ?_
    | ((with_reducible refine AWP.condT ?_ ?_); focus (simp only [ev, lk_cons, ↓reduceIte, Nat.reduceEqDiff]; done))
    | ((with_reducible refine AWP.condF ?_ ?_); focus (simp only [ev, lk_cons, ↓reduceIte, Nat.reduceEqDiff]; done))
    | simp only [go_sem, ↓reduceIte, Nat.reduceEqDiff, reduceCtorEq, Nat.reduceAdd, Int.reduceEq, Int.reduceBNe, Int.reduceBEq, Int.reduceToNat, Int.reduceLT, Int.reduceLE, Int.reduceGT, Int.reduceGE, Nat.reduceSub, Nat.reduceBEq, Nat.reduceBNe, Int.reduceAdd, Int.reduceSub, Int.reduceMul, Int.reduceNeg, Nat.reduceMul, Nat.reduceLeDiff, Nat.reduceLT]
    | simp (disch := omega) only [wi64, wu8, wu16, wu32, wu64]
    | with_reducible_and_instances exact finR
    | ((with_reducible refine finR' ?_ ?_) <;> rfl)
    | ((with_reducible refine finD hsc (NRel.of_plain ?_)); exact rfl)
  refine AWP.loopP (fun n : Nat => ⟨[(0, .string (bs s)), (3, .slice (some ⟨H.length, 0, none⟩) (2 * n) (2 * s.length)), (10, .int .i64 (s.length : Nat)), (11, .int .i64 (n : Nat))], [], H ++ [.cells (bytesC ((hexL s).take (2 * n) ++ (List.replicate (2 * s.length) 0).drop (2 * n))) ⟨5, 0, true, 0, none⟩]⟩)
    (fun n => n ≤ s.length) (fun n => s.length - n) 0 ?_ (Nat.zero_le _) ?_
  · exact Weak.env (by simp [envIn, lk_cons, wth_some])
  intro n hn
  by_cases hc : n < s.length
  · have hc' : (n : Int) < (s.length : Int) := by omega
    have hg : s[n]? = some s[n] := List.getElem?_eq_getElem hc
    obtain ⟨x1, x2⟩ := hexL_get s n hc
    have hb := s[n].toNat_lt
    generalize s[n] = b at hg x1 x2 hb
    have d1 := digs_get (n := b.toNat / 16) (by omega)
    have d2 := digs_get (n := b.toNat % 16) (by omega)
    unfold digs at d1 d2
    have hst := turn4 (hexL s) (List.replicate (2 * s.length) 0) n _ _ (by omega) (by omega) x1 x2
    have hle : ((hexL s).take (2 * n) ++ (List.replicate (2 * s.length) 0).drop (2 * n)).length = 2 * s.length := by simp; omega
    have s1 : (b.toNat : Int).tdiv 16 = ((b.toNat / 16 : Nat) : Int) := Int.ofNat_tdiv _ _
    have s2 : (b.toNat : Int).tmod 16 = ((b.toNat % 16 : Nat) : Int) := Int.ofNat_tmod _ _
    repeat first
      | with_reducible refine AWP.seq ?_
      | ((with_reducible refine AWP.region ?_ ?_); exact rfl)
      | with_reducible refine AWP.block ?_
      | with_reducible refine AWP.skip ?_
      | with_reducible refine AWP.exit ?_
      | with_reducible refine AWP.ret ?_
      | with_reducible refine AWP.label ?_
      | with_reducible refine AWP.goto ?_
      | ((with_reducible refine AWP.condT ?_ ?_); focus (simp only [ev, lk_cons, ↓reduceIte, Nat.reduceEqDiff]; done))
      | ((with_reducible refine AWP.condF ?_ ?_); focus (simp only [ev, lk_cons, ↓reduceIte, Nat.reduceEqDiff]; done))
      | simp only [go_sem, ↓reduceIte, Nat.reduceEqDiff, reduceCtorEq, Nat.reduceAdd, Int.reduceEq, Int.reduceBNe, Int.reduceBEq, Int.reduceToNat, Int.reduceLT, Int.reduceLE, Int.reduceGT, Int.reduceGE, Nat.reduceSub, Nat.reduceBEq, Nat.reduceBNe, Int.reduceAdd, Int.reduceSub, Int.reduceMul, Int.reduceNeg, Nat.reduceMul, Nat.reduceLeDiff, Nat.reduceLT, hc']
      | simp (disch := omega) only [wi64, wu8, wu16, wu32, wu64]
      | with_reducible_and_instances exact finR
      | ((with_reducible refine finR' ?_ ?_) <;> rfl)
      | ((with_reducible refine finD hsc (NRel.of_plain ?_)); exact rfl)
    refine AWP.regionF 12 11 [0] (by kernel_rfl) (by decide) (by kernel_rfl) (by kernel_rfl) rfl ?_
    repeat first
      | with_reducible refine AWP.seq ?_
      | ((with_reducible refine AWP.region ?_ ?_); exact rfl)
      | with_reducible refine AWP.block ?_
      | with_reducible refine AWP.skip ?_
      | with_reducible refine AWP.exit ?_
      | with_reducible refine AWP.ret ?_
      | with_reducible refine AWP.label ?_
      | with_reducible refine AWP.goto ?_
      | ((with_reducible refine AWP.condT ?_ ?_); focus (simp only [ev, lk_cons, ↓reduceIte, Nat.reduceEqDiff]; done))
      | ((with_reducible refine AWP.condF ?_ ?_); focus (simp only [ev, lk_cons, ↓reduceIte, Nat.reduceEqDiff]; done))
      | simp only [go_sem, ↓reduceIte, Nat.reduceEqDiff, reduceCtorEq, Nat.reduceAdd, Int.reduceEq, Int.reduceBNe, Int.reduceBEq, Int.reduceToNat, Int.reduceLT, Int.reduceLE, Int.reduceGT, Int.reduceGE, Nat.reduceSub, Nat.reduceBEq, Nat.reduceBNe, Int.reduceAdd, Int.reduceSub, Int.reduceMul, Int.reduceNeg, Nat.reduceMul, Nat.reduceLeDiff, Nat.reduceLT, hg, d1, d2, s1, s2, keepW, dstV, exists_eq_left, pickO, List.map_cons, List.map_nil]
      | simp (disch := omega) only [wi64, wu8, wu16, wu32, wu64]
      | with_reducible_and_instances exact finR
      | ((with_reducible refine finR' ?_ ?_) <;> rfl)
      | ((with_reducible refine finD hsc (NRel.of_plain ?_)); exact rfl)
    have hcs : 0 + 2 * n * 1 + 2 * 1 ≤ (bytesC ((hexL s).take (2 * n) ++ (List.replicate (2 * s.length) 0).drop (2 * n))).length := by rw [bytesC_length, hle]; omega
    have e0 : 0 + 2 * n * 1 = 2 * n := by omega
    refine appendTo_in (k := ⟨5, 0, true, 0, none⟩) (cs := bytesC ((hexL s).take (2 * n) ++ (List.replicate (2 * s.length) 0).drop (2 * n))) (hget0 rfl) (by decide) (by omega) rfl (Nat.zero_le _) hcs ?_
    rw [e0]
    repeat first
      | with_reducible refine AWP.seq ?_
      | ((with_reducible refine AWP.region ?_ ?_); exact rfl)
      | with_reducible refine AWP.block ?_
      | with_reducible refine AWP.skip ?_
      | with_reducible refine AWP.exit ?_
      | with_reducible refine AWP.ret ?_
      | with_reducible refine AWP.label ?_
      | with_reducible refine AWP.goto ?_
      | ((with_reducible refine AWP.condT ?_ ?_); focus (simp only [ev, lk_cons, ↓reduceIte, Nat.reduceEqDiff]; done))
      | ((with_reducible refine AWP.condF ?_ ?_); focus (simp only [ev, lk_cons, ↓reduceIte, Nat.reduceEqDiff]; done))
      | simp only [go_sem, ↓reduceIte, Nat.reduceEqDiff, reduceCtorEq, Nat.reduceAdd, Int.reduceEq, Int.reduceBNe, Int.reduceBEq, Int.reduceToNat, Int.reduceLT, Int.reduceLE, Int.reduceGT, Int.reduceGE, Nat.reduceSub, Nat.reduceBEq, Nat.reduceBNe, Int.reduceAdd, Int.reduceSub, Int.reduceMul, Int.reduceNeg, Nat.reduceMul, Nat.reduceLeDiff, Nat.reduceLT, hst]
      | simp (disch := omega) only [wi64, wu8, wu16, wu32, wu64]
      | with_reducible_and_instances exact finR
      | ((with_reducible refine finR' ?_ ?_) <;> rfl)
      | ((with_reducible refine finD hsc (NRel.of_plain ?_)); exact rfl)
    refine ⟨n + 1, ?_, by omega, by omega⟩
    rw [show 2 * (n + 1) = 2 * n + 2 by omega]
    refine Weak.pick [0] rfl hsc (by simp) ⟨?_, ?_⟩
    · simp [selW_cons, selW_nil, wth_some, onm_cells, nrs_refl (bytesC_scalar _)]
    · simp only [Int.natCast_add, Int.natCast_zero, Int.natCast_one, Int.cast_ofNat_Int, envIn_nil, envIn_cons, lk_co, wth_so, nr_bool, nr_int, nr_string, nr_slice, nr_nilSlice, nr_ptr, nr_nilPtr, nr_map, nr_nilMap, nr_nilFunc, nr_nilIface, nr_iface, nr_agg, nr_tuple, nr_func, nr_yield, nrs_nil, nrs_cons, selN_0, selN_k, selN_lt, upto_lt, List.getElem?_cons_zero, List.getElem?_cons_succ, Option.map_some, Nat.add_zero, and_self, ↓reduceIte, Nat.reduceEqDiff, true_and, and_true]
  · have : n = s.length := by omega
    subst this
    have hc' : ¬ (s.length : Int) < (s.length : Int) := by omega
    have e : (hexL s).take (2 * s.length) ++ (List.replicate (2 * s.length) 0).drop (2 * s.length) = hexL s := by
      rw [List.take_of_length_le (by omega), List.drop_eq_nil_of_le (by omega), List.append_nil]
    have e2 : List.take (2 * s.length) (hexL s) = hexL s := List.take_of_length_le (by omega)
    rw [e]
    repeat first
      | with_reducible refine AWP.seq ?_
      | ((with_reducible refine AWP.region ?_ ?_); exact rfl)
      | with_reducible refine AWP.block ?_
      | with_reducible refine AWP.skip ?_
      | with_reducible refine AWP.exit ?_
      | with_reducible refine AWP.ret ?_
      | with_reducible refine AWP.label ?_
      | with_reducible refine AWP.goto ?_
      | ((with_reducible refine AWP.condT ?_ ?_); focus (simp only [ev, lk_cons, ↓reduceIte, Nat.reduceEqDiff]; done))
      | ((with_reducible refine AWP.condF ?_ ?_); focus (simp only [ev, lk_cons, ↓reduceIte, Nat.reduceEqDiff]; done))
      | simp only [go_sem, ↓reduceIte, Nat.reduceEqDiff, reduceCtorEq, Nat.reduceAdd, Int.reduceEq, Int.reduceBNe, Int.reduceBEq, Int.reduceToNat, Int.reduceLT, Int.reduceLE, Int.reduceGT, Int.reduceGE, Nat.reduceSub, Nat.reduceBEq, Nat.reduceBNe, Int.reduceAdd, Int.reduceSub, Int.reduceMul, Int.reduceNeg, Nat.reduceMul, Nat.reduceLeDiff, Nat.reduceLT, hc', hL, e2]
      | simp (disch := omega) only [wi64, wu8, wu16, wu32, wu64]
      | with_reducible_and_instances exact finR
      | ((with_reducible refine finR' ?_ ?_) <;> rfl)
      | ((with_reducible refine finD hsc (NRel.of_plain ?_)); exact rfl)
end Go.Proofs.Ytdeoaadkngiilaa
