/-
  The bytes of a key's stream; the reference's Stream.
-/
import Derived.Test.YtdeoaadkngiilaaDoorI6
set_option linter.unusedVariables false
set_option linter.unusedSimpArgs false
set_option maxRecDepth 20000
namespace Go.Proofs.YtdeoaadkngiilaaDoor
open Go Go.Aw Go.Proofs
def dig (key : List UInt8) (k : Nat) : List UInt8 := sumL (key ++ 47 :: Lib.itoa (k : Int))
def dgs (key : List UInt8) (k0 n : Nat) : List UInt8 := (List.range n).flatMap fun j => dig key (k0 + j)
def sbyte (key : List UInt8) (pos : Nat) : UInt8 := (dig key (pos / 32)).getD (pos % 32) 0
def strm (key : List UInt8) (f c : Nat) : List UInt8 := (List.range c).map fun j => sbyte key (f + j)
theorem dig_len (key : List UInt8) (k : Nat) : (dig key k).length = 32 := sumL_len _
theorem dgs_succ (key : List UInt8) (k0 n : Nat) : dgs key k0 (n + 1) = dgs key k0 n ++ dig key (k0 + n) := by
  unfold dgs; rw [List.range_succ, List.flatMap_append]; simp
theorem dgs_len (key : List UInt8) (k0 : Nat) : ∀ n, (dgs key k0 n).length = 32 * n
  | 0 => rfl
  | n + 1 => by rw [dgs_succ, List.length_append, dgs_len key k0 n, dig_len]; omega
theorem dgs_get (key : List UInt8) (k0 : Nat) : ∀ n j, j < 32 * n → (dgs key k0 n)[j]? = some (sbyte key (32 * k0 + j))
  | 0, j, h => by omega
  | n + 1, j, h => by
    rw [dgs_succ]
    by_cases hj : j < 32 * n
    · rw [List.getElem?_append_left (by rw [dgs_len]; exact hj)]; exact dgs_get key k0 n j hj
    · rw [List.getElem?_append_right (by rw [dgs_len]; omega), dgs_len]
      unfold sbyte
      rw [show (32 * k0 + j) / 32 = k0 + n by omega, show (32 * k0 + j) % 32 = j - 32 * n by omega, List.getD_eq_getElem?_getD, List.getElem?_eq_getElem (by rw [dig_len]; omega), Option.getD_some]
theorem dgs_cut (key : List UInt8) (f c n : Nat) (h : f % 32 + c ≤ 32 * n) : ((dgs key (f / 32) n).take (f % 32 + c)).drop (f % 32) = strm key f c := by
  refine List.ext_getElem? fun i => ?_
  unfold strm
  by_cases hi : i < c
  · rw [List.getElem?_drop, List.getElem?_take_of_lt (by omega), dgs_get key _ n _ (by omega), List.getElem?_map, List.getElem?_range hi]
    simp only [Option.map_some]
    rw [show 32 * (f / 32) + (f % 32 + i) = f + i by omega]
  · rw [List.getElem?_eq_none (by simp [dgs_len]; omega), List.getElem?_eq_none (by simp; omega)]
theorem strm_len (key : List UInt8) (f c : Nat) : (strm key f c).length = c := by simp [strm]
theorem strm_add (key : List UInt8) (f a b : Nat) : strm key f a ++ strm key (f + a) b = strm key f (a + b) := by
  refine List.ext_getElem? fun i => ?_
  unfold strm
  by_cases h1 : i < a
  · rw [List.getElem?_append_left (by simpa using h1), List.getElem?_map, List.getElem?_map, List.getElem?_range h1, List.getElem?_range (by omega)]
  · rw [List.getElem?_append_right (by simp; omega), List.length_map, List.length_range, List.getElem?_map, List.getElem?_map]
    by_cases h2 : i < a + b
    · rw [List.getElem?_range (by omega), List.getElem?_range h2]
      simp only [Option.map_some]
      rw [show f + a + (i - a) = f + i by omega]
    · rw [List.getElem?_eq_none (by simp; omega), List.getElem?_eq_none (by simp; omega), Option.map_none, Option.map_none]
def okS (f c : Int) : Prop := 0 ≤ f ∧ 0 ≤ c ∧ f ≤ 65536 ∧ c ≤ 65536 - f
instance (f c : Int) : Decidable (okS f c) := by unfold okS; exact inferInstance
def strR (key : List UInt8) (f c : Int) : Value := if okS f c then .tuple ⟨[.string (bs (strm key f.toNat c.toNat)), .int .i64 0]⟩ else .tuple ⟨[.string (bs []), .int .i64 7]⟩
theorem refStream (key : List UInt8) (f c : Int) (hk : key.length ≤ 300) (hf0 : -9223372036854775808 ≤ f) (hf1 : f ≤ 9223372036854775807) (hc0 : -9223372036854775808 ≤ c) (hc1 : c ≤ 9223372036854775807) (H : AHeap) :
    ARet Tryd.prog 11 [.string (bs key), .int .i64 f, .int .i64 c] H (strR key f c) H := by
  unfold strR
  by_cases c1 : f < 0
  · rw [if_neg (by unfold okS; omega)]
    refine AC.enter Tryd.func11 rfl (by kernel_rfl) 55 rfl [.tmp 6, .tmp 7] rfl (by simp) fun hsc B => ?_
    repeat first
      | with_reducible refine AWP.seq ?_
      | ((with_reducible refine AWP.region ?_ ?_); exact rfl)
      | with_reducible refine AWP.block ?_
      | with_reducible refine AWP.skip ?_
      | with_reducible refine AWP.exit ?_
      | with_reducible refine AWP.ret ?_
      | with_reducible refine AWP.label ?_
      | with_reducible refine AWP.goto ?_
      | ((with_reducible refine AWP.condT ?_ ?_); focus (simp only [ev, lk_cons, ↓reduceIte, Nat.reduceEqDiff]; done))
      | ((with_reducible refine AWP.condF ?_ ?_); focus (simp only [ev, lk_cons, ↓reduceIte, Nat.reduceEqDiff]; done))
      | simp only [go_sem, ↓reduceIte, Nat.reduceEqDiff, reduceCtorEq, Nat.reduceAdd, Int.reduceEq, Int.reduceBNe, Int.reduceBEq, Int.reduceToNat, Int.reduceLT, Int.reduceLE, Int.reduceGT, Int.reduceGE, Nat.reduceSub, Nat.reduceBEq, Nat.reduceBNe, Int.reduceAdd, Int.reduceSub, Int.reduceMul, Int.reduceNeg, Nat.reduceMul, Nat.reduceLeDiff, Nat.reduceLT, c1]
      | simp (disch := omega) only [wi64, wu8, wu16, wu32, wu64, Int.tdiv_eq_ediv_of_nonneg, Int.tmod_eq_emod_of_nonneg]
      | with_reducible_and_instances exact finR
      | ((with_reducible refine finR' ?_ ?_) <;> rfl)
      | ((with_reducible refine finD hsc (NRel.of_plain ?_)); exact rfl)
  by_cases c2 : c < 0
  · rw [if_neg (by unfold okS; omega)]
    refine AC.enter Tryd.func11 rfl (by kernel_rfl) 55 rfl [.tmp 6, .tmp 7] rfl (by simp) fun hsc B => ?_
    repeat first
      | with_reducible refine AWP.seq ?_
      | ((with_reducible refine AWP.region ?_ ?_); exact rfl)
      | with_reducible refine AWP.block ?_
      | with_reducible refine AWP.skip ?_
      | with_reducible refine AWP.exit ?_
      | with_reducible refine AWP.ret ?_
      | with_reducible refine AWP.label ?_
      | with_reducible refine AWP.goto ?_
      | ((with_reducible refine AWP.condT ?_ ?_); focus (simp only [ev, lk_cons, ↓reduceIte, Nat.reduceEqDiff]; done))
      | ((with_reducible refine AWP.condF ?_ ?_); focus (simp only [ev, lk_cons, ↓reduceIte, Nat.reduceEqDiff]; done))
      | simp only [go_sem, ↓reduceIte, Nat.reduceEqDiff, reduceCtorEq, Nat.reduceAdd, Int.reduceEq, Int.reduceBNe, Int.reduceBEq, Int.reduceToNat, Int.reduceLT, Int.reduceLE, Int.reduceGT, Int.reduceGE, Nat.reduceSub, Nat.reduceBEq, Nat.reduceBNe, Int.reduceAdd, Int.reduceSub, Int.reduceMul, Int.reduceNeg, Nat.reduceMul, Nat.reduceLeDiff, Nat.reduceLT, c1, c2]
      | simp (disch := omega) only [wi64, wu8, wu16, wu32, wu64, Int.tdiv_eq_ediv_of_nonneg, Int.tmod_eq_emod_of_nonneg]
      | with_reducible_and_instances exact finR
      | ((with_reducible refine finR' ?_ ?_) <;> rfl)
      | ((with_reducible refine finD hsc (NRel.of_plain ?_)); exact rfl)
  by_cases c3 : f > 65536
  · rw [if_neg (by unfold okS; omega)]
    refine AC.enter Tryd.func11 rfl (by kernel_rfl) 55 rfl [.tmp 6, .tmp 7] rfl (by simp) fun hsc B => ?_
    repeat first
      | with_reducible refine AWP.seq ?_
      | ((with_reducible refine AWP.region ?_ ?_); exact rfl)
      | with_reducible refine AWP.block ?_
      | with_reducible refine AWP.skip ?_
      | with_reducible refine AWP.exit ?_
      | with_reducible refine AWP.ret ?_
      | with_reducible refine AWP.label ?_
      | with_reducible refine AWP.goto ?_
      | ((with_reducible refine AWP.condT ?_ ?_); focus (simp only [ev, lk_cons, ↓reduceIte, Nat.reduceEqDiff]; done))
      | ((with_reducible refine AWP.condF ?_ ?_); focus (simp only [ev, lk_cons, ↓reduceIte, Nat.reduceEqDiff]; done))
      | simp only [go_sem, ↓reduceIte, Nat.reduceEqDiff, reduceCtorEq, Nat.reduceAdd, Int.reduceEq, Int.reduceBNe, Int.reduceBEq, Int.reduceToNat, Int.reduceLT, Int.reduceLE, Int.reduceGT, Int.reduceGE, Nat.reduceSub, Nat.reduceBEq, Nat.reduceBNe, Int.reduceAdd, Int.reduceSub, Int.reduceMul, Int.reduceNeg, Nat.reduceMul, Nat.reduceLeDiff, Nat.reduceLT, c1, c2, c3]
      | simp (disch := omega) only [wi64, wu8, wu16, wu32, wu64, Int.tdiv_eq_ediv_of_nonneg, Int.tmod_eq_emod_of_nonneg]
      | with_reducible_and_instances exact finR
      | ((with_reducible refine finR' ?_ ?_) <;> rfl)
      | ((with_reducible refine finD hsc (NRel.of_plain ?_)); exact rfl)
  by_cases c4 : c > 65536 - f
  · rw [if_neg (by unfold okS; omega)]
    refine AC.enter Tryd.func11 rfl (by kernel_rfl) 55 rfl [.tmp 6, .tmp 7] rfl (by simp) fun hsc B => ?_
    repeat first
      | with_reducible refine AWP.seq ?_
      | ((with_reducible refine AWP.region ?_ ?_); exact rfl)
      | with_reducible refine AWP.block ?_
      | with_reducible refine AWP.skip ?_
      | with_reducible refine AWP.exit ?_
      | with_reducible refine AWP.ret ?_
      | with_reducible refine AWP.label ?_
      | with_reducible refine AWP.goto ?_
      | ((with_reducible refine AWP.condT ?_ ?_); focus (simp only [ev, lk_cons, ↓reduceIte, Nat.reduceEqDiff]; done))
      | ((with_reducible refine AWP.condF ?_ ?_); focus (simp only [ev, lk_cons, ↓reduceIte, Nat.reduceEqDiff]; done))
      | simp only [go_sem, ↓reduceIte, Nat.reduceEqDiff, reduceCtorEq, Nat.reduceAdd, Int.reduceEq, Int.reduceBNe, Int.reduceBEq, Int.reduceToNat, Int.reduceLT, Int.reduceLE, Int.reduceGT, Int.reduceGE, Nat.reduceSub, Nat.reduceBEq, Nat.reduceBNe, Int.reduceAdd, Int.reduceSub, Int.reduceMul, Int.reduceNeg, Nat.reduceMul, Nat.reduceLeDiff, Nat.reduceLT, c1, c2, c3, c4]
      | simp (disch := omega) only [wi64, wu8, wu16, wu32, wu64, Int.tdiv_eq_ediv_of_nonneg, Int.tmod_eq_emod_of_nonneg]
      | with_reducible_and_instances exact finR
      | ((with_reducible refine finR' ?_ ?_) <;> rfl)
      | ((with_reducible refine finD hsc (NRel.of_plain ?_)); exact rfl)
  rw [if_pos (by unfold okS; omega)]
  obtain ⟨F, rfl⟩ : ∃ F : Nat, f = F := ⟨f.toNat, by omega⟩
  obtain ⟨C, rfl⟩ : ∃ C : Nat, c = C := ⟨c.toNat, by omega⟩
  simp only [Int.toNat_natCast]
  have q1 : (F : Int).tdiv 32 = ((F / 32 : Nat) : Int) := Int.ofNat_tdiv _ _
  have q2 : ((F : Int) - ((F / 32 : Nat) : Int) * 32) = ((F % 32 : Nat) : Int) := by omega
  refine AC.enter Tryd.func11 rfl (by kernel_rfl) 55 rfl [.tmp 6, .tmp 7] rfl (by simp) fun hsc B => ?_
  repeat first
    | with_reducible refine AWP.seq ?_
    | ((with_reducible refine AWP.region ?_ ?_); exact rfl)
    | with_reducible refine AWP.block ?_
    | with_reducible refine AWP.skip ?_
    | with_reducible refine AWP.exit ?_
    | with_reducible refine AWP.ret ?_
    | with_reducible refine AWP.label ?_
    | with_reducible refine AWP.goto ?_
    | ((with_reducible refine AWP.condT ?_ ?_); focus (simp only [ev, lk_cons, ↓reduceIte, Nat.reduceEqDiff]; done))
    | ((with_reducible refine AWP.condF ?_ ?_); focus (simp only [ev, lk_cons, ↓reduceIte, Nat.reduceEqDiff]; done))
    | simp only [go_sem, ↓reduceIte, Nat.reduceEqDiff, reduceCtorEq, Nat.reduceAdd, Int.reduceEq, Int.reduceBNe, Int.reduceBEq, Int.reduceToNat, Int.reduceLT, Int.reduceLE, Int.reduceGT, Int.reduceGE, Nat.reduceSub, Nat.reduceBEq, Nat.reduceBNe, Int.reduceAdd, Int.reduceSub, Int.reduceMul, Int.reduceNeg, Nat.reduceMul, Nat.reduceLeDiff, Nat.reduceLT, c1, c2, c3, c4, q1, q2]
    | simp (disch := omega) only [wi64, wu8, wu16, wu32, wu64, Int.tdiv_eq_ediv_of_nonneg, Int.tmod_eq_emod_of_nonneg]
    | with_reducible_and_instances exact finR
    | ((with_reducible refine finR' ?_ ?_) <;> rfl)
    | ((with_reducible refine finD hsc (NRel.of_plain ?_)); exact rfl)
  refine AWP.loopP (fun n : Nat => ⟨[(0, .string (bs key)), (2, .int .i64 (C : Nat)), (8, .string (bs (dgs key (F / 32) n))), (9, .int .i64 ((F / 32 + n : Nat) : Int)), (10, .int .i64 ((F % 32 : Nat) : Int))], [], H⟩)
    (fun n => 32 * n < F % 32 + C + 32) (fun n => F % 32 + C + 32 - 32 * n) 0 ?_ (by omega) ?_
  · exact Weak.env (by simp [envIn, lk_cons, wth_some, dgs])
  intro n hn
  have hl := dgs_len key (F / 32) n
  by_cases hc : 32 * n < F % 32 + C
  · have hc' : ((32 * n : Nat) : Int) < ((F % 32 : Nat) : Int) + (C : Int) := by omega
    have hI := Decimal (F / 32 + n) (by omega) H
    have hi := dec_len (F / 32 + n)
    have hd : Lib.itoa ((F / 32 + n : Nat) : Int) = Lib.decDigits (F / 32 + n) := Lib.itoa_nonneg _
    have hS := refSum (key ++ 47 :: Lib.decDigits (F / 32 + n)) (by simp only [List.length_append, List.length_cons]; omega)
    have hsl := sumL_len (key ++ 47 :: Lib.decDigits (F / 32 + n))
    have hst : dgs key (F / 32) (n + 1) = dgs key (F / 32) n ++ sumL (key ++ 47 :: Lib.decDigits (F / 32 + n)) := by rw [dgs_succ]; unfold dig; rw [hd]
    repeat first
      | with_reducible refine AWP.seq ?_
      | ((with_reducible refine AWP.region ?_ ?_); exact rfl)
      | with_reducible refine AWP.block ?_
      | with_reducible refine AWP.skip ?_
      | with_reducible refine AWP.exit ?_
      | with_reducible refine AWP.ret ?_
      | with_reducible refine AWP.label ?_
      | with_reducible refine AWP.goto ?_
      | ((with_reducible refine AWP.condT ?_ ?_); focus (simp only [ev, lk_cons, ↓reduceIte, Nat.reduceEqDiff]; done))
      | ((with_reducible refine AWP.condF ?_ ?_); focus (simp only [ev, lk_cons, ↓reduceIte, Nat.reduceEqDiff]; done))
      | simp only [go_sem, ↓reduceIte, Nat.reduceEqDiff, reduceCtorEq, Nat.reduceAdd, Int.reduceEq, Int.reduceBNe, Int.reduceBEq, Int.reduceToNat, Int.reduceLT, Int.reduceLE, Int.reduceGT, Int.reduceGE, Nat.reduceSub, Nat.reduceBEq, Nat.reduceBNe, Int.reduceAdd, Int.reduceSub, Int.reduceMul, Int.reduceNeg, Nat.reduceMul, Nat.reduceLeDiff, Nat.reduceLT, hc', hl]
      | simp (disch := omega) only [wi64, wu8, wu16, wu32, wu64, Int.tdiv_eq_ediv_of_nonneg, Int.tmod_eq_emod_of_nonneg]
      | with_reducible_and_instances exact finR
      | ((with_reducible refine finR' ?_ ?_) <;> rfl)
      | ((with_reducible refine finD hsc (NRel.of_plain ?_)); exact rfl)
    refine ⟨by omega, ?_⟩
    repeat first
      | with_reducible refine AWP.seq ?_
      | ((with_reducible refine AWP.region ?_ ?_); exact rfl)
      | with_reducible refine AWP.block ?_
      | with_reducible refine AWP.skip ?_
      | with_reducible refine AWP.exit ?_
      | with_reducible refine AWP.ret ?_
      | with_reducible refine AWP.label ?_
      | with_reducible refine AWP.goto ?_
      | ((with_reducible refine AWP.condT ?_ ?_); focus (simp only [ev, lk_cons, ↓reduceIte, Nat.reduceEqDiff]; done))
      | ((with_reducible refine AWP.condF ?_ ?_); focus (simp only [ev, lk_cons, ↓reduceIte, Nat.reduceEqDiff]; done))
      | with_reducible refine hI.use ?_
      | simp only [go_sem, ↓reduceIte, Nat.reduceEqDiff, reduceCtorEq, Nat.reduceAdd, Int.reduceEq, Int.reduceBNe, Int.reduceBEq, Int.reduceToNat, Int.reduceLT, Int.reduceLE, Int.reduceGT, Int.reduceGE, Nat.reduceSub, Nat.reduceBEq, Nat.reduceBNe, Int.reduceAdd, Int.reduceSub, Int.reduceMul, Int.reduceNeg, Nat.reduceMul, Nat.reduceLeDiff, Nat.reduceLT]
      | simp (disch := omega) only [wi64, wu8, wu16, wu32, wu64, Int.tdiv_eq_ediv_of_nonneg, Int.tmod_eq_emod_of_nonneg]
      | with_reducible_and_instances exact finR
      | ((with_reducible refine finR' ?_ ?_) <;> rfl)
      | ((with_reducible refine finD hsc (NRel.of_plain ?_)); exact rfl)
    refine ⟨by omega, ?_⟩
    repeat first
      | with_reducible refine AWP.seq ?_
      | ((with_reducible refine AWP.region ?_ ?_); exact rfl)
      | with_reducible refine AWP.block ?_
      | with_reducible refine AWP.skip ?_
      | with_reducible refine AWP.exit ?_
      | with_reducible refine AWP.ret ?_
      | with_reducible refine AWP.label ?_
      | with_reducible refine AWP.goto ?_
      | ((with_reducible refine AWP.condT ?_ ?_); focus (simp only [ev, lk_cons, ↓reduceIte, Nat.reduceEqDiff]; done))
      | ((with_reducible refine AWP.condF ?_ ?_); focus (simp only [ev, lk_cons, ↓reduceIte, Nat.reduceEqDiff]; done))
      | with_reducible refine (hS _).use ?_
      | simp only [go_sem, ↓reduceIte, Nat.reduceEqDiff, reduceCtorEq, Nat.reduceAdd, Int.reduceEq, Int.reduceBNe, Int.reduceBEq, Int.reduceToNat, Int.reduceLT, Int.reduceLE, Int.reduceGT, Int.reduceGE, Nat.reduceSub, Nat.reduceBEq, Nat.reduceBNe, Int.reduceAdd, Int.reduceSub, Int.reduceMul, Int.reduceNeg, Nat.reduceMul, Nat.reduceLeDiff, Nat.reduceLT]
      | simp (disch := omega) only [wi64, wu8, wu16, wu32, wu64, Int.tdiv_eq_ediv_of_nonneg, Int.tmod_eq_emod_of_nonneg]
      | with_reducible_and_instances exact finR
      | ((with_reducible refine finR' ?_ ?_) <;> rfl)
      | ((with_reducible refine finD hsc (NRel.of_plain ?_)); exact rfl)
    refine ⟨by omega, ?_⟩
    rw [← hst]
    repeat first
      | with_reducible refine AWP.seq ?_
      | ((with_reducible refine AWP.region ?_ ?_); exact rfl)
      | with_reducible refine AWP.block ?_
      | with_reducible refine AWP.skip ?_
      | with_reducible refine AWP.exit ?_
      | with_reducible refine AWP.ret ?_
      | with_reducible refine AWP.label ?_
      | with_reducible refine AWP.goto ?_
      | ((with_reducible refine AWP.condT ?_ ?_); focus (simp only [ev, lk_cons, ↓reduceIte, Nat.reduceEqDiff]; done))
      | ((with_reducible refine AWP.condF ?_ ?_); focus (simp only [ev, lk_cons, ↓reduceIte, Nat.reduceEqDiff]; done))
      | simp only [go_sem, ↓reduceIte, Nat.reduceEqDiff, reduceCtorEq, Nat.reduceAdd, Int.reduceEq, Int.reduceBNe, Int.reduceBEq, Int.reduceToNat, Int.reduceLT, Int.reduceLE, Int.reduceGT, Int.reduceGE, Nat.reduceSub, Nat.reduceBEq, Nat.reduceBNe, Int.reduceAdd, Int.reduceSub, Int.reduceMul, Int.reduceNeg, Nat.reduceMul, Nat.reduceLeDiff, Nat.reduceLT]
      | simp (disch := omega) only [wi64, wu8, wu16, wu32, wu64, Int.tdiv_eq_ediv_of_nonneg, Int.tmod_eq_emod_of_nonneg]
      | with_reducible_and_instances exact finR
      | ((with_reducible refine finR' ?_ ?_) <;> rfl)
      | ((with_reducible refine finD hsc (NRel.of_plain ?_)); exact rfl)
    exact ⟨n + 1, Weak.env (by simp [envIn, lk_cons, wth_some, Int.add_assoc]), by omega, by omega⟩
  · have hc' : ¬ ((32 * n : Nat) : Int) < ((F % 32 : Nat) : Int) + (C : Int) := by omega
    have hcut := dgs_cut key F C n (by omega)
    have ht : (((F % 32 : Nat) : Int) + (C : Int)).toNat = F % 32 + C := by omega
    repeat first
      | with_reducible refine AWP.seq ?_
      | ((with_reducible refine AWP.region ?_ ?_); exact rfl)
      | with_reducible refine AWP.block ?_
      | with_reducible refine AWP.skip ?_
      | with_reducible refine AWP.exit ?_
      | with_reducible refine AWP.ret ?_
      | with_reducible refine AWP.label ?_
      | with_reducible refine AWP.goto ?_
      | ((with_reducible refine AWP.condT ?_ ?_); focus (simp only [ev, lk_cons, ↓reduceIte, Nat.reduceEqDiff]; done))
      | ((with_reducible refine AWP.condF ?_ ?_); focus (simp only [ev, lk_cons, ↓reduceIte, Nat.reduceEqDiff]; done))
      | simp only [go_sem, ↓reduceIte, Nat.reduceEqDiff, reduceCtorEq, Nat.reduceAdd, Int.reduceEq, Int.reduceBNe, Int.reduceBEq, Int.reduceToNat, Int.reduceLT, Int.reduceLE, Int.reduceGT, Int.reduceGE, Nat.reduceSub, Nat.reduceBEq, Nat.reduceBNe, Int.reduceAdd, Int.reduceSub, Int.reduceMul, Int.reduceNeg, Nat.reduceMul, Nat.reduceLeDiff, Nat.reduceLT, hc', hl]
      | simp (disch := omega) only [wi64, wu8, wu16, wu32, wu64, Int.tdiv_eq_ediv_of_nonneg, Int.tmod_eq_emod_of_nonneg]
      | with_reducible_and_instances exact finR
      | ((with_reducible refine finR' ?_ ?_) <;> rfl)
      | ((with_reducible refine finD hsc (NRel.of_plain ?_)); exact rfl)
    refine ⟨by omega, by omega, ?_⟩
    rw [ht, hcut]
    repeat first
      | with_reducible refine AWP.seq ?_
      | ((with_reducible refine AWP.region ?_ ?_); exact rfl)
      | with_reducible refine AWP.block ?_
      | with_reducible refine AWP.skip ?_
      | with_reducible refine AWP.exit ?_
      | with_reducible refine AWP.ret ?_
      | with_reducible refine AWP.label ?_
      | with_reducible refine AWP.goto ?_
      | ((with_reducible refine AWP.condT ?_ ?_); focus (simp only [ev, lk_cons, ↓reduceIte, Nat.reduceEqDiff]; done))
      | ((with_reducible refine AWP.condF ?_ ?_); focus (simp only [ev, lk_cons, ↓reduceIte, Nat.reduceEqDiff]; done))
      | simp only [go_sem, ↓reduceIte, Nat.reduceEqDiff, reduceCtorEq, Nat.reduceAdd, Int.reduceEq, Int.reduceBNe, Int.reduceBEq, Int.reduceToNat, Int.reduceLT, Int.reduceLE, Int.reduceGT, Int.reduceGE, Nat.reduceSub, Nat.reduceBEq, Nat.reduceBNe, Int.reduceAdd, Int.reduceSub, Int.reduceMul, Int.reduceNeg, Nat.reduceMul, Nat.reduceLeDiff, Nat.reduceLT]
      | simp (disch := omega) only [wi64, wu8, wu16, wu32, wu64, Int.tdiv_eq_ediv_of_nonneg, Int.tmod_eq_emod_of_nonneg]
      | with_reducible_and_instances exact finR
      | ((with_reducible refine finR' ?_ ?_) <;> rfl)
      | ((with_reducible refine finD hsc (NRel.of_plain ?_)); exact rfl)
end Go.Proofs.YtdeoaadkngiilaaDoor
