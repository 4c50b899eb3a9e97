/-
  Numbers on the circle, marks, Before; awake of the packets' laws.
-/
import Derived.Test.YtlclcdhbeeaikaaJ2
import Derived.Test.YtlclcdhbeeaikaaAwC

set_option linter.unusedVariables false
set_option linter.unusedSimpArgs false
set_option maxRecDepth 20000
namespace Go.Proofs.Ytlclcdhbeeaikaa
open Go Go.Aw Go.Proofs
theorem tmod_c (y : Int) : y.tmod 65536 = y % 65536 ∧ 0 ≤ y ∨ y.tmod 65536 = y % 65536 ∧ y % 65536 = 0 ∨ y < 0 ∧ y.tmod 65536 = y % 65536 - 65536 := by
  have h := Int.tmod_eq_emod (a := y) (b := 65536)
  split at h
  · rename_i h0
    rcases h0 with h0 | h0
    · left; exact ⟨by simpa using h, h0⟩
    · right; left; exact ⟨by simpa using h, Int.emod_eq_zero_of_dvd h0⟩
  · rename_i h0
    right; right
    refine ⟨by omega, by rw [h]; rfl⟩
theorem ahead_eq (x : Int) : (IntKind.i64.wrap ((IntKind.i64.wrap x).tmod 65536 + 65536)).tmod 65536 = x % 65536 := by
  have h2 : IntKind.i64.wrap x % 65536 = x % 65536 := by rw [IntKind.wrap_i64]; omega
  have h4 := tmod_c (IntKind.i64.wrap x)
  have h3 : IntKind.i64.wrap ((IntKind.i64.wrap x).tmod 65536 + 65536) = (IntKind.i64.wrap x).tmod 65536 + 65536 := IntWalk.i64_in _ (by omega)
  rw [h3]
  have h5 := tmod_c ((IntKind.i64.wrap x).tmod 65536 + 65536)
  omega
theorem round (n : Int) (H : AHeap) : ARet Try.prog 25 [.int .i64 n] H (.bool (decide (0 ≤ n ∧ n < 65536))) H := by
  refine AC.enter Try.func25 rfl (by kernel_rfl) 9 rfl [.tmp 2] rfl (by simp) fun hsc B => ?_
  by_cases h : 0 ≤ n
  · have h' : n ≥ 0 := h
    repeat first
      | with_reducible refine AWP.seq ?_
      | ((with_reducible refine AWP.region ?_ ?_); exact rfl)
      | with_reducible refine AWP.block ?_
      | with_reducible refine AWP.skip ?_
      | with_reducible refine AWP.exit ?_
      | with_reducible refine AWP.ret ?_
      | with_reducible refine AWP.label ?_
      | with_reducible refine AWP.goto ?_
      | ((with_reducible refine AWP.condT ?_ ?_); focus (simp only [ev, lk_cons, ↓reduceIte, Nat.reduceEqDiff]; done))
      | ((with_reducible refine AWP.condF ?_ ?_); focus (simp only [ev, lk_cons, ↓reduceIte, Nat.reduceEqDiff]; done))
      | simp only [go_sem, ↓reduceIte, Nat.reduceEqDiff, reduceCtorEq, Nat.reduceAdd, Int.reduceEq, Int.reduceBNe, Int.reduceBEq, Int.reduceToNat, Int.reduceLT, Int.reduceLE, Int.reduceGT, Int.reduceGE, Nat.reduceSub, Nat.reduceBEq, Nat.reduceBNe, Int.reduceAdd, Int.reduceSub, Int.reduceMul, Int.reduceNeg, Nat.reduceMul, Nat.reduceLeDiff, Nat.reduceLT, h']
      | simp (disch := omega) only [wi64, wu8, wu16, wu32, wu64]
      | with_reducible_and_instances exact finR
      | ((with_reducible refine finR' ?_ ?_) <;> rfl)
      | ((with_reducible refine finD hsc (NRel.of_plain ?_)); exact rfl)
  · have h' : ¬ n ≥ 0 := h
    repeat first
      | with_reducible refine AWP.seq ?_
      | ((with_reducible refine AWP.region ?_ ?_); exact rfl)
      | with_reducible refine AWP.block ?_
      | with_reducible refine AWP.skip ?_
      | with_reducible refine AWP.exit ?_
      | with_reducible refine AWP.ret ?_
      | with_reducible refine AWP.label ?_
      | with_reducible refine AWP.goto ?_
      | ((with_reducible refine AWP.condT ?_ ?_); focus (simp only [ev, lk_cons, ↓reduceIte, Nat.reduceEqDiff]; done))
      | ((with_reducible refine AWP.condF ?_ ?_); focus (simp only [ev, lk_cons, ↓reduceIte, Nat.reduceEqDiff]; done))
      | simp only [go_sem, ↓reduceIte, Nat.reduceEqDiff, reduceCtorEq, Nat.reduceAdd, Int.reduceEq, Int.reduceBNe, Int.reduceBEq, Int.reduceToNat, Int.reduceLT, Int.reduceLE, Int.reduceGT, Int.reduceGE, Nat.reduceSub, Nat.reduceBEq, Nat.reduceBNe, Int.reduceAdd, Int.reduceSub, Int.reduceMul, Int.reduceNeg, Nat.reduceMul, Nat.reduceLeDiff, Nat.reduceLT, h']
      | simp (disch := omega) only [wi64, wu8, wu16, wu32, wu64]
      | with_reducible_and_instances exact finR
      | ((with_reducible refine finR' ?_ ?_) <;> rfl)
      | ((with_reducible refine finD hsc (NRel.of_plain ?_)); exact rfl)
theorem ahead (a b : Int) (H : AHeap) : ARet Try.prog 42 [.int .i64 a, .int .i64 b] H (.int .i64 ((b - a) % 65536)) H := by
  refine AC.enter Try.func42 rfl (by kernel_rfl) 11 rfl [.tmp 4] rfl (by simp) fun hsc B => ?_
  repeat first
    | with_reducible refine AWP.seq ?_
    | ((with_reducible refine AWP.region ?_ ?_); exact rfl)
    | with_reducible refine AWP.block ?_
    | with_reducible refine AWP.skip ?_
    | with_reducible refine AWP.exit ?_
    | with_reducible refine AWP.ret ?_
    | with_reducible refine AWP.label ?_
    | with_reducible refine AWP.goto ?_
    | ((with_reducible refine AWP.condT ?_ ?_); focus (simp only [ev, lk_cons, ↓reduceIte, Nat.reduceEqDiff]; done))
    | ((with_reducible refine AWP.condF ?_ ?_); focus (simp only [ev, lk_cons, ↓reduceIte, Nat.reduceEqDiff]; done))
    | simp only [go_sem, ↓reduceIte, Nat.reduceEqDiff, reduceCtorEq, Nat.reduceAdd, Int.reduceEq, Int.reduceBNe, Int.reduceBEq, Int.reduceToNat, Int.reduceLT, Int.reduceLE, Int.reduceGT, Int.reduceGE, Nat.reduceSub, Nat.reduceBEq, Nat.reduceBNe, Int.reduceAdd, Int.reduceSub, Int.reduceMul, Int.reduceNeg, Nat.reduceMul, Nat.reduceLeDiff, Nat.reduceLT, ahead_eq]
    | simp (disch := omega) only [wi64, wu8, wu16, wu32, wu64]
    | with_reducible_and_instances exact finR
    | ((with_reducible refine finR' ?_ ?_) <;> rfl)
    | ((with_reducible refine finD hsc (NRel.of_plain ?_)); exact rfl)
theorem before (a b : Int) (H : AHeap) : ARet Try.prog 41 [.int .i64 a, .int .i64 b] H (.bool (decide (1 ≤ (b - a) % 65536 ∧ (b - a) % 65536 < 32768))) H := by
  refine AC.enter Try.func41 rfl (by kernel_rfl) 15 rfl [.tmp 4] rfl (by simp) fun hsc B => ?_
  by_cases h : 1 ≤ (b - a) % 65536
  · have h' : (b - a) % 65536 ≥ 1 := h
    repeat first
      | with_reducible refine AWP.seq ?_
      | ((with_reducible refine AWP.region ?_ ?_); exact rfl)
      | with_reducible refine AWP.block ?_
      | with_reducible refine AWP.skip ?_
      | with_reducible refine AWP.exit ?_
      | with_reducible refine AWP.ret ?_
      | with_reducible refine AWP.label ?_
      | with_reducible refine AWP.goto ?_
      | ((with_reducible refine AWP.condT ?_ ?_); focus (simp only [ev, lk_cons, ↓reduceIte, Nat.reduceEqDiff]; done))
      | ((with_reducible refine AWP.condF ?_ ?_); focus (simp only [ev, lk_cons, ↓reduceIte, Nat.reduceEqDiff]; done))
      | with_reducible refine (ahead a b _).use ?_
      | simp only [go_sem, ↓reduceIte, Nat.reduceEqDiff, reduceCtorEq, Nat.reduceAdd, Int.reduceEq, Int.reduceBNe, Int.reduceBEq, Int.reduceToNat, Int.reduceLT, Int.reduceLE, Int.reduceGT, Int.reduceGE, Nat.reduceSub, Nat.reduceBEq, Nat.reduceBNe, Int.reduceAdd, Int.reduceSub, Int.reduceMul, Int.reduceNeg, Nat.reduceMul, Nat.reduceLeDiff, Nat.reduceLT, h']
      | simp (disch := omega) only [wi64, wu8, wu16, wu32, wu64]
      | with_reducible_and_instances exact finR
      | ((with_reducible refine finR' ?_ ?_) <;> rfl)
      | ((with_reducible refine finD hsc (NRel.of_plain ?_)); exact rfl)
  · have h' : ¬ (b - a) % 65536 ≥ 1 := h
    repeat first
      | with_reducible refine AWP.seq ?_
      | ((with_reducible refine AWP.region ?_ ?_); exact rfl)
      | with_reducible refine AWP.block ?_
      | with_reducible refine AWP.skip ?_
      | with_reducible refine AWP.exit ?_
      | with_reducible refine AWP.ret ?_
      | with_reducible refine AWP.label ?_
      | with_reducible refine AWP.goto ?_
      | ((with_reducible refine AWP.condT ?_ ?_); focus (simp only [ev, lk_cons, ↓reduceIte, Nat.reduceEqDiff]; done))
      | ((with_reducible refine AWP.condF ?_ ?_); focus (simp only [ev, lk_cons, ↓reduceIte, Nat.reduceEqDiff]; done))
      | with_reducible refine (ahead a b _).use ?_
      | simp only [go_sem, ↓reduceIte, Nat.reduceEqDiff, reduceCtorEq, Nat.reduceAdd, Int.reduceEq, Int.reduceBNe, Int.reduceBEq, Int.reduceToNat, Int.reduceLT, Int.reduceLE, Int.reduceGT, Int.reduceGE, Nat.reduceSub, Nat.reduceBEq, Nat.reduceBNe, Int.reduceAdd, Int.reduceSub, Int.reduceMul, Int.reduceNeg, Nat.reduceMul, Nat.reduceLeDiff, Nat.reduceLT, h']
      | simp (disch := omega) only [wi64, wu8, wu16, wu32, wu64]
      | with_reducible_and_instances exact finR
      | ((with_reducible refine finR' ?_ ?_) <;> rfl)
      | ((with_reducible refine finD hsc (NRel.of_plain ?_)); exact rfl)
theorem within (n l m : Int) (H : AHeap) : ARet Try.prog 26 [.int .i64 n, .int .i64 l, .int .i64 m] H (.bool (decide (l ≤ n ∧ n ≤ m))) H := by
  refine AC.enter Try.func26 rfl (by kernel_rfl) 15 rfl [.tmp 6] rfl (by simp) fun hsc B => ?_
  by_cases h : l ≤ n
  · have h' : n ≥ l := h
    repeat first
      | with_reducible refine AWP.seq ?_
      | ((with_reducible refine AWP.region ?_ ?_); exact rfl)
      | with_reducible refine AWP.block ?_
      | with_reducible refine AWP.skip ?_
      | with_reducible refine AWP.exit ?_
      | with_reducible refine AWP.ret ?_
      | with_reducible refine AWP.label ?_
      | with_reducible refine AWP.goto ?_
      | ((with_reducible refine AWP.condT ?_ ?_); focus (simp only [ev, lk_cons, ↓reduceIte, Nat.reduceEqDiff]; done))
      | ((with_reducible refine AWP.condF ?_ ?_); focus (simp only [ev, lk_cons, ↓reduceIte, Nat.reduceEqDiff]; done))
      | simp only [go_sem, ↓reduceIte, Nat.reduceEqDiff, reduceCtorEq, Nat.reduceAdd, Int.reduceEq, Int.reduceBNe, Int.reduceBEq, Int.reduceToNat, Int.reduceLT, Int.reduceLE, Int.reduceGT, Int.reduceGE, Nat.reduceSub, Nat.reduceBEq, Nat.reduceBNe, Int.reduceAdd, Int.reduceSub, Int.reduceMul, Int.reduceNeg, Nat.reduceMul, Nat.reduceLeDiff, Nat.reduceLT, h']
      | simp (disch := omega) only [wi64, wu8, wu16, wu32, wu64]
      | with_reducible_and_instances exact finR
      | ((with_reducible refine finR' ?_ ?_) <;> rfl)
      | ((with_reducible refine finD hsc (NRel.of_plain ?_)); exact rfl)
  · have h' : ¬ n ≥ l := h
    repeat first
      | with_reducible refine AWP.seq ?_
      | ((with_reducible refine AWP.region ?_ ?_); exact rfl)
      | with_reducible refine AWP.block ?_
      | with_reducible refine AWP.skip ?_
      | with_reducible refine AWP.exit ?_
      | with_reducible refine AWP.ret ?_
      | with_reducible refine AWP.label ?_
      | with_reducible refine AWP.goto ?_
      | ((with_reducible refine AWP.condT ?_ ?_); focus (simp only [ev, lk_cons, ↓reduceIte, Nat.reduceEqDiff]; done))
      | ((with_reducible refine AWP.condF ?_ ?_); focus (simp only [ev, lk_cons, ↓reduceIte, Nat.reduceEqDiff]; done))
      | simp only [go_sem, ↓reduceIte, Nat.reduceEqDiff, reduceCtorEq, Nat.reduceAdd, Int.reduceEq, Int.reduceBNe, Int.reduceBEq, Int.reduceToNat, Int.reduceLT, Int.reduceLE, Int.reduceGT, Int.reduceGE, Nat.reduceSub, Nat.reduceBEq, Nat.reduceBNe, Int.reduceAdd, Int.reduceSub, Int.reduceMul, Int.reduceNeg, Nat.reduceMul, Nat.reduceLeDiff, Nat.reduceLT, h']
      | simp (disch := omega) only [wi64, wu8, wu16, wu32, wu64]
      | with_reducible_and_instances exact finR
      | ((with_reducible refine finR' ?_ ?_) <;> rfl)
      | ((with_reducible refine finD hsc (NRel.of_plain ?_)); exact rfl)
def intsC (l : List Int) : List Value := l.map (.int .i64)
theorem intsC_length (l : List Int) : (intsC l).length = l.length := by simp [intsC]
theorem intsC_scalar (l : List Int) : (intsC l).all scalar = true := by simp [intsC, scalar]
theorem intsC_get (l : List Int) {n : Nat} (h : n < l.length) : (intsC l)[n]? = some (.int .i64 l[n]) := by simp [intsC, h]
theorem intsC_nil {l : List Int} : intsC l = [] ↔ l = [] := by simp [intsC]
theorem intsC_snoc (l : List Int) (x : Int) : intsC l ++ [.int .i64 x] = intsC (l ++ [x]) := by simp [intsC]
def setB (c : List UInt8) (i : Nat) : List UInt8 := c.set (i / 8) (UInt8.ofNat ((c.getD (i / 8) 0).toNat ||| 2 ^ (i % 8)))
def bytes4 (far : List Nat) : List UInt8 := far.foldl setB [0, 0, 0, 0]
def trimN (c : List UInt8) : Nat → Nat
  | 0 => 0
  | n + 1 => if c.getD n 0 = 0 then trimN c n else n + 1
def markB (far : List Nat) : List UInt8 := (bytes4 far).take (trimN (bytes4 far) 4)
def farC (far : List Nat) : List Value := intsC (far.map fun (i : Nat) => (i : Int))
theorem setB_len (c : List UInt8) (i : Nat) : (setB c i).length = c.length := by simp [setB]
theorem foldl_lenB (far : List Nat) : ∀ c : List UInt8, (far.foldl setB c).length = c.length := by
  induction far with
  | nil => intro c; rfl
  | cons i r ih => intro c; rw [List.foldl_cons, ih, setB_len]
theorem bytes4_len (far : List Nat) : (bytes4 far).length = 4   := foldl_lenB far _
theorem trimN_le (c : List UInt8) : ∀ n, trimN c n ≤ n
  | 0 => Nat.le_refl _
  | n + 1 => by unfold trimN; split; have := trimN_le c n; omega; omega
theorem farC_len (far : List Nat) : (farC far).length = far.length := by simp [farC, intsC]
theorem marked (far : List Nat) (hf : ∀ i ∈ far, i < 32) (hfl : far.length < 1099511627776) (v : Value) (H : AHeap) (hv : Rd H v (farC far)) : ARet Try.prog 43 [v] H (.string (bs (markB far))) H := by
  have q1 : ∀ H' K, lenW Try.prog 53 v H' K = K (.int .i64 (far.length : Nat)) H' := fun H' K => by rw [hv.lenW Try.underlying53, farC_len]
  refine AC.enter Try.func43 rfl (by kernel_rfl) 43 rfl [.tmp 2] rfl (by simp) fun hsc B => ?_
  repeat first
    | with_reducible refine AWP.seq ?_
    | ((with_reducible refine AWP.region ?_ ?_); exact rfl)
    | with_reducible refine AWP.block ?_
    | with_reducible refine AWP.skip ?_
    | with_reducible refine AWP.exit ?_
    | with_reducible refine AWP.ret ?_
    | with_reducible refine AWP.label ?_
    | with_reducible refine AWP.goto ?_
    | ((with_reducible refine AWP.condT ?_ ?_); focus (simp only [ev, lk_cons, ↓reduceIte, Nat.reduceEqDiff]; done))
    | ((with_reducible refine AWP.condF ?_ ?_); focus (simp only [ev, lk_cons, ↓reduceIte, Nat.reduceEqDiff]; done))
    | simp only [go_sem, ↓reduceIte, Nat.reduceEqDiff, reduceCtorEq, Nat.reduceAdd, Int.reduceEq, Int.reduceBNe, Int.reduceBEq, Int.reduceToNat, Int.reduceLT, Int.reduceLE, Int.reduceGT, Int.reduceGE, Nat.reduceSub, Nat.reduceBEq, Nat.reduceBNe, Int.reduceAdd, Int.reduceSub, Int.reduceMul, Int.reduceNeg, Nat.reduceMul, Nat.reduceLeDiff, Nat.reduceLT, makeSliceW, q1]
    | simp (disch := omega) only [wi64, wu8, wu16, wu32, wu64]
    | with_reducible_and_instances exact finR
    | ((with_reducible refine finR' ?_ ?_) <;> rfl)
    | ((with_reducible refine finD hsc (NRel.of_plain ?_)); exact rfl)
  refine AWP.loopP (fun n : Nat => ⟨[(3, .slice (some ⟨H.length, 0, none⟩) 4 4), (8, v), (9, .int .i64 (far.length : Nat)), (10, .int .i64 (n : Nat))], [], H ++ [.cells (bytesC ((far.take n).foldl setB [0, 0, 0, 0])) ⟨5, 0, true, 0, none⟩]⟩) (fun n => n ≤ far.length) (fun n => far.length - n) 0 ?_ (Nat.zero_le _) ?_
  · simp only [repZ_one, bytesC_zeros]
    exact Weak.env (by simp [envIn, lk_cons, wth_some])
  intro n hn
  by_cases hc : n < far.length
  · have hc' : (n : Int) < (far.length : Int) := by omega
    have hlt := hf far[n] (List.getElem_mem _)
    have hlt' : ((far[n] : Nat) : Int) < 32 := by omega
    rcases hv with ⟨rfl, e1⟩ | ⟨i, o, cap, cs, k, rfl, hi, hg⟩
    · have : far.length = 0 := by rw [← farC_len far, e1]; rfl
      omega
    have hil := lt_of_get hi
    have g1 : cs[o + n]? = some (.int .i64 ((far[n] : Nat) : Int)) := by
      rw [hg n (by rw [farC_len]; exact hc), farC, intsC_get _ (by simpa using hc)]; simp
    let c := (far.take n).foldl setB [0, 0, 0, 0]
    have hcl : c.length = 4 := foldl_lenB _ _
    have hq : far[n] / 8 < 4 := by omega
    have hgc : (bytesC c)[far[n] / 8]? = some (.int .u8 (c.getD (far[n] / 8) 0).toNat) := by
      rw [bytesC_get, List.getD_eq_getElem?_getD, List.getElem?_eq_getElem (by omega)]; rfl
    have h2p : 2 ^ (far[n] % 8) < 256 := Nat.pow_lt_pow_right (n := 8) (by omega) (by omega)
    have hs : shlI .u8 1 ((far[n] % 8 : Nat) : Int) = ((2 ^ (far[n] % 8) : Nat) : Int) := shlI_n8 _ (by omega)
    have hor : orI .u8 ((c.getD (far[n] / 8) 0).toNat : Int) ((2 ^ (far[n] % 8) : Nat) : Int) = ((UInt8.ofNat ((c.getD (far[n] / 8) 0).toNat ||| 2 ^ (far[n] % 8))).toNat : Int) := by
      rw [orI_n8 _ _ (UInt8.toNat_lt _) h2p, toNat_ofNat8 (Nat.or_lt_two_pow (n := 8) (UInt8.toNat_lt _) h2p)]
    have hstep : c.set (far[n] / 8) (UInt8.ofNat ((c.getD (far[n] / 8) 0).toNat ||| 2 ^ (far[n] % 8))) = (far.take (n + 1)).foldl setB [0, 0, 0, 0] := by
      rw [List.take_add_one, List.getElem?_eq_getElem hc, List.foldl_append]; rfl
    have hcd : (far.take n).foldl setB [0, 0, 0, 0] = c := rfl
    rw [hcd]
    clear_value c
    have hz0 : (0 : Int) ≤ ((far[n] / 8 : Nat) : Int) := Int.natCast_nonneg _
    have hz4 : ((far[n] / 8 : Nat) : Int) < 4 := by omega
    repeat first
      | with_reducible refine AWP.seq ?_
      | ((with_reducible refine AWP.region ?_ ?_); exact rfl)
      | with_reducible refine AWP.block ?_
      | with_reducible refine AWP.skip ?_
      | with_reducible refine AWP.exit ?_
      | with_reducible refine AWP.ret ?_
      | with_reducible refine AWP.label ?_
      | with_reducible refine AWP.goto ?_
      | ((with_reducible refine AWP.condT ?_ ?_); focus (simp only [ev, lk_cons, ↓reduceIte, Nat.reduceEqDiff]; done))
      | ((with_reducible refine AWP.condF ?_ ?_); focus (simp only [ev, lk_cons, ↓reduceIte, Nat.reduceEqDiff]; done))
      | simp only [go_sem, ↓reduceIte, Nat.reduceEqDiff, reduceCtorEq, Nat.reduceAdd, Int.reduceEq, Int.reduceBNe, Int.reduceBEq, Int.reduceToNat, Int.reduceLT, Int.reduceLE, Int.reduceGT, Int.reduceGE, Nat.reduceSub, Nat.reduceBEq, Nat.reduceBNe, Int.reduceAdd, Int.reduceSub, Int.reduceMul, Int.reduceNeg, Nat.reduceMul, Nat.reduceLeDiff, Nat.reduceLT, hc', hi, hil, hgetl, g1, farC_len, hlt']
      | simp (disch := omega) only [wi64, wu8, wu16, wu32, wu64]
      | with_reducible_and_instances exact finR
      | ((with_reducible refine finR' ?_ ?_) <;> rfl)
      | ((with_reducible refine finD hsc (NRel.of_plain ?_)); exact rfl)
    refine AWP.regionK 10 (by kernel_rfl) (by decide) (by kernel_rfl) ?_
    repeat first
      | with_reducible refine AWP.seq ?_
      | ((with_reducible refine AWP.region ?_ ?_); exact rfl)
      | with_reducible refine AWP.block ?_
      | with_reducible refine AWP.skip ?_
      | with_reducible refine AWP.exit ?_
      | with_reducible refine AWP.ret ?_
      | with_reducible refine AWP.label ?_
      | with_reducible refine AWP.goto ?_
      | ((with_reducible refine AWP.condT ?_ ?_); focus (simp only [ev, lk_cons, ↓reduceIte, Nat.reduceEqDiff]; done))
      | ((with_reducible refine AWP.condF ?_ ?_); focus (simp only [ev, lk_cons, ↓reduceIte, Nat.reduceEqDiff]; done))
      | simp only [go_sem, ↓reduceIte, Nat.reduceEqDiff, reduceCtorEq, Nat.reduceAdd, Int.reduceEq, Int.reduceBNe, Int.reduceBEq, Int.reduceToNat, Int.reduceLT, Int.reduceLE, Int.reduceGT, Int.reduceGE, Nat.reduceSub, Nat.reduceBEq, Nat.reduceBNe, Int.reduceAdd, Int.reduceSub, Int.reduceMul, Int.reduceNeg, Nat.reduceMul, Nat.reduceLeDiff, Nat.reduceLT, tdiv8, tmod8, hgc, hs, hor, hz0, hz4]
      | simp (disch := omega) only [wi64, wu8, wu16, wu32, wu64]
      | with_reducible_and_instances exact finR
      | ((with_reducible refine finR' ?_ ?_) <;> rfl)
      | ((with_reducible refine finD hsc (NRel.of_plain ?_)); exact rfl)
    refine ⟨by omega, ?_⟩
    repeat first
      | with_reducible refine AWP.seq ?_
      | ((with_reducible refine AWP.region ?_ ?_); exact rfl)
      | with_reducible refine AWP.block ?_
      | with_reducible refine AWP.skip ?_
      | with_reducible refine AWP.exit ?_
      | with_reducible refine AWP.ret ?_
      | with_reducible refine AWP.label ?_
      | with_reducible refine AWP.goto ?_
      | ((with_reducible refine AWP.condT ?_ ?_); focus (simp only [ev, lk_cons, ↓reduceIte, Nat.reduceEqDiff]; done))
      | ((with_reducible refine AWP.condF ?_ ?_); focus (simp only [ev, lk_cons, ↓reduceIte, Nat.reduceEqDiff]; done))
      | simp only [go_sem, ↓reduceIte, Nat.reduceEqDiff, reduceCtorEq, Nat.reduceAdd, Int.reduceEq, Int.reduceBNe, Int.reduceBEq, Int.reduceToNat, Int.reduceLT, Int.reduceLE, Int.reduceGT, Int.reduceGE, Nat.reduceSub, Nat.reduceBEq, Nat.reduceBNe, Int.reduceAdd, Int.reduceSub, Int.reduceMul, Int.reduceNeg, Nat.reduceMul, Nat.reduceLeDiff, Nat.reduceLT]
      | simp (disch := omega) only [wi64, wu8, wu16, wu32, wu64]
      | with_reducible_and_instances exact finR
      | ((with_reducible refine finR' ?_ ?_) <;> rfl)
      | ((with_reducible refine finD hsc (NRel.of_plain ?_)); exact rfl)
    rw [hstep]
    exact ⟨n + 1, Weak.env (by simp [envIn, lk_cons, wth_some, farC_len]), by omega, by omega⟩
  · have : n = far.length := by omega
    subst this
    have hc' : ¬ (far.length : Int) < (far.length : Int) := by omega
    repeat first
      | with_reducible refine AWP.seq ?_
      | ((with_reducible refine AWP.region ?_ ?_); exact rfl)
      | with_reducible refine AWP.block ?_
      | with_reducible refine AWP.skip ?_
      | with_reducible refine AWP.exit ?_
      | with_reducible refine AWP.ret ?_
      | with_reducible refine AWP.label ?_
      | with_reducible refine AWP.goto ?_
      | ((with_reducible refine AWP.condT ?_ ?_); focus (simp only [ev, lk_cons, ↓reduceIte, Nat.reduceEqDiff]; done))
      | ((with_reducible refine AWP.condF ?_ ?_); focus (simp only [ev, lk_cons, ↓reduceIte, Nat.reduceEqDiff]; done))
      | simp only [go_sem, ↓reduceIte, Nat.reduceEqDiff, reduceCtorEq, Nat.reduceAdd, Int.reduceEq, Int.reduceBNe, Int.reduceBEq, Int.reduceToNat, Int.reduceLT, Int.reduceLE, Int.reduceGT, Int.reduceGE, Nat.reduceSub, Nat.reduceBEq, Nat.reduceBNe, Int.reduceAdd, Int.reduceSub, Int.reduceMul, Int.reduceNeg, Nat.reduceMul, Nat.reduceLeDiff, Nat.reduceLT, hc']
      | simp (disch := omega) only [wi64, wu8, wu16, wu32, wu64]
      | with_reducible_and_instances exact finR
      | ((with_reducible refine finR' ?_ ?_) <;> rfl)
      | ((with_reducible refine finD hsc (NRel.of_plain ?_)); exact rfl)
    rw [List.take_length]
    have hm : markB far = (bytes4 far).take (trimN (bytes4 far) 4) := rfl
    have hcl : (bytes4 far).length = 4 := bytes4_len _
    have hbd : far.foldl setB [0, 0, 0, 0] = bytes4 far := rfl
    rw [hbd, hm]
    obtain ⟨c, hc0⟩ : ∃ c, c = bytes4 far := ⟨_, rfl⟩
    rw [← hc0] at hcl ⊢
    clear hm hbd hc0
    refine AWP.loopP (fun n : Nat => ⟨[(3, .slice (some ⟨H.length, 0, none⟩) 4 4), (6, .int .i64 (n : Nat))], [], H ++ [.cells (bytesC c) ⟨5, 0, true, 0, none⟩]⟩) (fun n => n ≤ 4 ∧ trimN c n = trimN c 4) (fun n => n) 4 ?_ ⟨Nat.le_refl _, rfl⟩ ?_
    · exact Weak.env (by simp [envIn, lk_cons, wth_some])
    rintro n ⟨hn4, ht⟩
    rcases n with _ | n
    · have ht0 : trimN c 4 = 0 := ht.symm
      rw [ht0]
      repeat first
        | with_reducible refine AWP.seq ?_
        | ((with_reducible refine AWP.region ?_ ?_); exact rfl)
        | with_reducible refine AWP.block ?_
        | with_reducible refine AWP.skip ?_
        | with_reducible refine AWP.exit ?_
        | with_reducible refine AWP.ret ?_
        | with_reducible refine AWP.label ?_
        | with_reducible refine AWP.goto ?_
        | ((with_reducible refine AWP.condT ?_ ?_); focus (simp only [ev, lk_cons, ↓reduceIte, Nat.reduceEqDiff]; done))
        | ((with_reducible refine AWP.condF ?_ ?_); focus (simp only [ev, lk_cons, ↓reduceIte, Nat.reduceEqDiff]; done))
        | simp only [go_sem, ↓reduceIte, Nat.reduceEqDiff, reduceCtorEq, Nat.reduceAdd, Int.reduceEq, Int.reduceBNe, Int.reduceBEq, Int.reduceToNat, Int.reduceLT, Int.reduceLE, Int.reduceGT, Int.reduceGE, Nat.reduceSub, Nat.reduceBEq, Nat.reduceBNe, Int.reduceAdd, Int.reduceSub, Int.reduceMul, Int.reduceNeg, Nat.reduceMul, Nat.reduceLeDiff, Nat.reduceLT]
        | simp (disch := omega) only [wi64, wu8, wu16, wu32, wu64]
        | with_reducible_and_instances exact finR
        | ((with_reducible refine finR' ?_ ?_) <;> rfl)
        | ((with_reducible refine finD hsc (NRel.of_plain ?_)); exact rfl)
    · have h1 : ((n + 1 : Nat) : Int) > 0 := by omega
      have h2 : IntKind.i64.wrap (((n + 1 : Nat) : Int) - 1) = (n : Nat) := by rw [IntWalk.i64_in _ (by omega)]; omega
      have h3 : (n : Int) < 4 := by omega
      have hg : (bytesC c)[n]? = some (.int .u8 (c.getD n 0).toNat) := by
        rw [bytesC_get, List.getD_eq_getElem?_getD, List.getElem?_eq_getElem (by omega)]; rfl
      have hn0 : ((n + 1 : Nat) : Int) ≤ 4 := by omega
      have hn1 : n + 1 ≤ c.length := by omega
      by_cases hz : c.getD n 0 = 0
      · have hb0 : (((0 : UInt8).toNat : Int) == 0) = true := rfl
        rw [hz] at hg
        have ht' : trimN c n = trimN c 4 := by rw [← ht, trimN, if_pos hz]
        repeat first
          | with_reducible refine AWP.seq ?_
          | ((with_reducible refine AWP.region ?_ ?_); exact rfl)
          | with_reducible refine AWP.block ?_
          | with_reducible refine AWP.skip ?_
          | with_reducible refine AWP.exit ?_
          | with_reducible refine AWP.ret ?_
          | with_reducible refine AWP.label ?_
          | with_reducible refine AWP.goto ?_
          | ((with_reducible refine AWP.condT ?_ ?_); focus (simp only [ev, lk_cons, ↓reduceIte, Nat.reduceEqDiff]; done))
          | ((with_reducible refine AWP.condF ?_ ?_); focus (simp only [ev, lk_cons, ↓reduceIte, Nat.reduceEqDiff]; done))
          | simp only [go_sem, ↓reduceIte, Nat.reduceEqDiff, reduceCtorEq, Nat.reduceAdd, Int.reduceEq, Int.reduceBNe, Int.reduceBEq, Int.reduceToNat, Int.reduceLT, Int.reduceLE, Int.reduceGT, Int.reduceGE, Nat.reduceSub, Nat.reduceBEq, Nat.reduceBNe, Int.reduceAdd, Int.reduceSub, Int.reduceMul, Int.reduceNeg, Nat.reduceMul, Nat.reduceLeDiff, Nat.reduceLT, h1, h2, h3, hg, hb0]
          | simp (disch := omega) only [wi64, wu8, wu16, wu32, wu64]
          | with_reducible_and_instances exact finR
          | ((with_reducible refine finR' ?_ ?_) <;> rfl)
          | ((with_reducible refine finD hsc (NRel.of_plain ?_)); exact rfl)
        exact ⟨n, Weak.env (by simp [envIn, lk_cons, wth_some]), by omega, ht', by omega⟩
      · have ht' : trimN c 4 = n + 1 := by rw [← ht, trimN, if_neg hz]
        have hnz : (((c.getD n 0).toNat : Int) == 0) = false := by
          have : (c.getD n 0).toNat ≠ 0 := fun e => hz (UInt8.toNat_inj.1 (by simpa using e))
          simpa using this
        rw [ht']
        repeat first
          | with_reducible refine AWP.seq ?_
          | ((with_reducible refine AWP.region ?_ ?_); exact rfl)
          | with_reducible refine AWP.block ?_
          | with_reducible refine AWP.skip ?_
          | with_reducible refine AWP.exit ?_
          | with_reducible refine AWP.ret ?_
          | with_reducible refine AWP.label ?_
          | with_reducible refine AWP.goto ?_
          | ((with_reducible refine AWP.condT ?_ ?_); focus (simp only [ev, lk_cons, ↓reduceIte, Nat.reduceEqDiff]; done))
          | ((with_reducible refine AWP.condF ?_ ?_); focus (simp only [ev, lk_cons, ↓reduceIte, Nat.reduceEqDiff]; done))
          | simp only [go_sem, ↓reduceIte, Nat.reduceEqDiff, reduceCtorEq, Nat.reduceAdd, Int.reduceEq, Int.reduceBNe, Int.reduceBEq, Int.reduceToNat, Int.reduceLT, Int.reduceLE, Int.reduceGT, Int.reduceGE, Nat.reduceSub, Nat.reduceBEq, Nat.reduceBNe, Int.reduceAdd, Int.reduceSub, Int.reduceMul, Int.reduceNeg, Nat.reduceMul, Nat.reduceLeDiff, Nat.reduceLT, h1, h2, h3, hg, hnz, hn0, hn1]
          | simp (disch := omega) only [wi64, wu8, wu16, wu32, wu64]
          | with_reducible_and_instances exact finR
          | ((with_reducible refine finR' ?_ ?_) <;> rfl)
          | ((with_reducible refine finD hsc (NRel.of_plain ?_)); exact rfl)
def okM (ack n : Int) : Prop := (0 ≤ n ∧ n < 65536) ∧ 2 ≤ (n - ack) % 65536 ∧ (n - ack) % 65536 ≤ 33
instance (ack n : Int) : Decidable (okM ack n) := by unfold okM; infer_instance
def farL (ack : Int) (came : List Int) : List Nat := came.map fun n => ((n - ack) % 65536 - 2).toNat
def markedR (ack : Int) (came : List Int) : Value := if (∀ n ∈ came, okM ack n) ∧ 0 ≤ ack ∧ ack < 65536 then .tuple ⟨[.string (bs (markB (farL ack came))), .int .i64 0]⟩ else .tuple ⟨[.string (bs []), .int .i64 7]⟩
theorem Marked (ack : Int) (came : List Int) (hcl : came.length < 1099511627776) (v : Value) (H : AHeap) (hv : Rd H v (intsC came)) : ARet Try.prog 21 [.int .i64 ack, v] H (markedR ack came) H := by
  have q1 : ∀ H' K, lenW Try.prog 53 v H' K = K (.int .i64 (came.length : Nat)) H' := fun H' K => by rw [hv.lenW Try.underlying53, intsC_length]
  refine AC.enter Try.func21 rfl (by kernel_rfl) 41 rfl [.tmp 4, .tmp 5] rfl (by simp) fun hsc B => ?_
  repeat first
    | with_reducible refine AWP.seq ?_
    | ((with_reducible refine AWP.region ?_ ?_); exact rfl)
    | with_reducible refine AWP.block ?_
    | with_reducible refine AWP.skip ?_
    | with_reducible refine AWP.exit ?_
    | with_reducible refine AWP.ret ?_
    | with_reducible refine AWP.label ?_
    | with_reducible refine AWP.goto ?_
    | ((with_reducible refine AWP.condT ?_ ?_); focus (simp only [ev, lk_cons, ↓reduceIte, Nat.reduceEqDiff]; done))
    | ((with_reducible refine AWP.condF ?_ ?_); focus (simp only [ev, lk_cons, ↓reduceIte, Nat.reduceEqDiff]; done))
    | simp only [go_sem, ↓reduceIte, Nat.reduceEqDiff, reduceCtorEq, Nat.reduceAdd, Int.reduceEq, Int.reduceBNe, Int.reduceBEq, Int.reduceToNat, Int.reduceLT, Int.reduceLE, Int.reduceGT, Int.reduceGE, Nat.reduceSub, Nat.reduceBEq, Nat.reduceBNe, Int.reduceAdd, Int.reduceSub, Int.reduceMul, Int.reduceNeg, Nat.reduceMul, Nat.reduceLeDiff, Nat.reduceLT, q1]
    | simp (disch := omega) only [wi64, wu8, wu16, wu32, wu64]
    | with_reducible_and_instances exact finR
    | ((with_reducible refine finR' ?_ ?_) <;> rfl)
    | ((with_reducible refine finD hsc (NRel.of_plain ?_)); exact rfl)
  refine AWP.loopP (fun n : Nat => ⟨[(0, .int .i64 ack), (6, gS H.length n), (10, v), (11, .int .i64 (came.length : Nat)), (12, .int .i64 (n : Nat))], [], H ++ [gO (farC ((farL ack came).take n)) ⟨3, 1, true, 0, none⟩]⟩) (fun n => n ≤ came.length ∧ ∀ x ∈ came.take n, okM ack x) (fun n => came.length - n) 0 ?_ ⟨Nat.zero_le _, by simp⟩ ?_
  · have hz : gO (farC ((farL ack came).take 0)) ⟨3, 1, true, 0, none⟩ = .dead := rfl
    simp only [hz]
    exact Weak.pad1 (by simp [envIn, lk_cons, wth_some, gS_zero])
  rintro n ⟨hn, hok⟩
  by_cases hc : n < came.length
  · have hc' : (n : Int) < (came.length : Int) := by omega
    rcases hv with ⟨rfl, e1⟩ | ⟨i, o, cap, cs, k, rfl, hi, hg⟩
    · have : came.length = 0 := by rw [← intsC_length came, e1]; rfl
      omega
    have hil := lt_of_get hi
    have g1 : cs[o + n]? = some (.int .i64 came[n]) := by
      rw [hg n (by rw [intsC_length]; exact hc), intsC_get _ hc]
    by_cases hx : okM ack came[n]
    · obtain ⟨hr, h2, h3⟩ := hx
      have hrd : ∀ H, ARet Try.prog 25 [.int .i64 came[n]] H (.bool true) H := fun H => by
        have := round came[n] H
        rwa [decide_eq_true hr] at this
      have h2' : ¬ (came[n] - ack) % 65536 < 2 := by omega
      have h3' : ¬ (came[n] - ack) % 65536 > 33 := by omega
      repeat first
        | with_reducible refine AWP.seq ?_
        | ((with_reducible refine AWP.region ?_ ?_); exact rfl)
        | with_reducible refine AWP.block ?_
        | with_reducible refine AWP.skip ?_
        | with_reducible refine AWP.exit ?_
        | with_reducible refine AWP.ret ?_
        | with_reducible refine AWP.label ?_
        | with_reducible refine AWP.goto ?_
        | ((with_reducible refine AWP.condT ?_ ?_); focus (simp only [ev, lk_cons, ↓reduceIte, Nat.reduceEqDiff]; done))
        | ((with_reducible refine AWP.condF ?_ ?_); focus (simp only [ev, lk_cons, ↓reduceIte, Nat.reduceEqDiff]; done))
        | with_reducible refine (ahead _ _ _).use ?_
        | with_reducible refine (hrd _).use ?_
        | simp only [go_sem, ↓reduceIte, Nat.reduceEqDiff, reduceCtorEq, Nat.reduceAdd, Int.reduceEq, Int.reduceBNe, Int.reduceBEq, Int.reduceToNat, Int.reduceLT, Int.reduceLE, Int.reduceGT, Int.reduceGE, Nat.reduceSub, Nat.reduceBEq, Nat.reduceBNe, Int.reduceAdd, Int.reduceSub, Int.reduceMul, Int.reduceNeg, Nat.reduceMul, Nat.reduceLeDiff, Nat.reduceLT, hc', hi, hil, hgetl, g1, intsC_length, h2', h3']
        | simp (disch := omega) only [wi64, wu8, wu16, wu32, wu64]
        | with_reducible_and_instances exact finR
        | ((with_reducible refine finR' ?_ ?_) <;> rfl)
        | ((with_reducible refine finD hsc (NRel.of_plain ?_)); exact rfl)
      have hfl : (farL ack came).length = came.length := by simp [farL]
      have hln : (farC ((farL ack came).take n)).length = n := by rw [farC_len, List.length_take]; omega
      refine appendTo_gn (by simp only [go_sem, ↓reduceIte, Nat.reduceEqDiff, reduceCtorEq, Nat.reduceAdd, Int.reduceEq, Int.reduceBNe, Int.reduceBEq, Int.reduceToNat, Int.reduceLT, Int.reduceLE, Int.reduceGT, Int.reduceGE, Nat.reduceSub, Nat.reduceBEq, Nat.reduceBNe, Int.reduceAdd, Int.reduceSub, Int.reduceMul, Int.reduceNeg, Nat.reduceMul, Nat.reduceLeDiff, Nat.reduceLT]) hln (by omega) (by omega) ?_
      repeat first
        | with_reducible refine AWP.seq ?_
        | ((with_reducible refine AWP.region ?_ ?_); exact rfl)
        | with_reducible refine AWP.block ?_
        | with_reducible refine AWP.skip ?_
        | with_reducible refine AWP.exit ?_
        | with_reducible refine AWP.ret ?_
        | with_reducible refine AWP.label ?_
        | with_reducible refine AWP.goto ?_
        | ((with_reducible refine AWP.condT ?_ ?_); focus (simp only [ev, lk_cons, ↓reduceIte, Nat.reduceEqDiff]; done))
        | ((with_reducible refine AWP.condF ?_ ?_); focus (simp only [ev, lk_cons, ↓reduceIte, Nat.reduceEqDiff]; done))
        | simp only [go_sem, ↓reduceIte, Nat.reduceEqDiff, reduceCtorEq, Nat.reduceAdd, Int.reduceEq, Int.reduceBNe, Int.reduceBEq, Int.reduceToNat, Int.reduceLT, Int.reduceLE, Int.reduceGT, Int.reduceGE, Nat.reduceSub, Nat.reduceBEq, Nat.reduceBNe, Int.reduceAdd, Int.reduceSub, Int.reduceMul, Int.reduceNeg, Nat.reduceMul, Nat.reduceLeDiff, Nat.reduceLT]
        | simp (disch := omega) only [wi64, wu8, wu16, wu32, wu64]
        | with_reducible_and_instances exact finR
        | ((with_reducible refine finR' ?_ ?_) <;> rfl)
        | ((with_reducible refine finD hsc (NRel.of_plain ?_)); exact rfl)
      have hstep : farC ((farL ack came).take n) ++ [.int .i64 ((came[n] - ack) % 65536 - 2)] = farC ((farL ack came).take (n + 1)) := by
        rw [List.take_add_one, List.getElem?_eq_getElem (by omega)]
        simp only [farC, Option.toList, List.map_append, List.map_cons, List.map_nil, intsC_snoc]
        congr 2
        simp only [farL, List.getElem_map]
        congr 1
        omega
      rw [hstep]
      refine ⟨n + 1, ?_, by omega, fun x hx => ?_, by omega⟩
      · refine Weak.pick [2] rfl hsc (by simp) ⟨?_, ?_⟩
        · have hne : farC ((farL ack came).take (n + 1)) ≠ [] := List.ne_nil_of_length_pos (by rw [farC_len, List.length_take]; omega)
          rw [gO_ne hne]
          simp [selW_cons, selW_nil, wth_some, onm_cells, nrs_refl (l := farC ((farL ack came).take (n + 1))) (intsC_scalar _)]
        · simp [envIn, lk_cons, wth_some, nr_int, nr_gs, selN_0, selN_k, selN_lt hil, nr_slice, gS_succ]
      · rw [List.take_add_one, List.getElem?_eq_getElem hc] at hx
        rcases List.mem_append.1 hx with hx | hx
        · exact hok x hx
        · have : x = came[n] := by simpa using hx
          rw [this]; exact ⟨hr, h2, h3⟩
    · have hR : markedR ack came = .tuple ⟨[.string (bs []), .int .i64 7]⟩ := by
        unfold markedR; rw [if_neg]
        intro h; exact hx (h.1 _ (List.getElem_mem _))
      rw [hR]
      by_cases hr : 0 ≤ came[n] ∧ came[n] < 65536
      · have hrd : ∀ H, ARet Try.prog 25 [.int .i64 came[n]] H (.bool true) H := fun H => by
          have := round came[n] H
          rwa [decide_eq_true hr] at this
        by_cases h2 : (came[n] - ack) % 65536 < 2
        · repeat first
            | with_reducible refine AWP.seq ?_
            | ((with_reducible refine AWP.region ?_ ?_); exact rfl)
            | with_reducible refine AWP.block ?_
            | with_reducible refine AWP.skip ?_
            | with_reducible refine AWP.exit ?_
            | with_reducible refine AWP.ret ?_
            | with_reducible refine AWP.label ?_
            | with_reducible refine AWP.goto ?_
            | ((with_reducible refine AWP.condT ?_ ?_); focus (simp only [ev, lk_cons, ↓reduceIte, Nat.reduceEqDiff]; done))
            | ((with_reducible refine AWP.condF ?_ ?_); focus (simp only [ev, lk_cons, ↓reduceIte, Nat.reduceEqDiff]; done))
            | with_reducible refine (ahead _ _ _).use ?_
            | with_reducible refine (hrd _).use ?_
            | simp only [go_sem, ↓reduceIte, Nat.reduceEqDiff, reduceCtorEq, Nat.reduceAdd, Int.reduceEq, Int.reduceBNe, Int.reduceBEq, Int.reduceToNat, Int.reduceLT, Int.reduceLE, Int.reduceGT, Int.reduceGE, Nat.reduceSub, Nat.reduceBEq, Nat.reduceBNe, Int.reduceAdd, Int.reduceSub, Int.reduceMul, Int.reduceNeg, Nat.reduceMul, Nat.reduceLeDiff, Nat.reduceLT, hc', hi, hil, hgetl, g1, intsC_length, h2]
            | simp (disch := omega) only [wi64, wu8, wu16, wu32, wu64]
            | with_reducible_and_instances exact finR
            | ((with_reducible refine finR' ?_ ?_) <;> rfl)
            | ((with_reducible refine finD hsc (NRel.of_plain ?_)); exact rfl)
        · have h3 : (came[n] - ack) % 65536 > 33 := by
            unfold okM at hx
            omega
          repeat first
            | with_reducible refine AWP.seq ?_
            | ((with_reducible refine AWP.region ?_ ?_); exact rfl)
            | with_reducible refine AWP.block ?_
            | with_reducible refine AWP.skip ?_
            | with_reducible refine AWP.exit ?_
            | with_reducible refine AWP.ret ?_
            | with_reducible refine AWP.label ?_
            | with_reducible refine AWP.goto ?_
            | ((with_reducible refine AWP.condT ?_ ?_); focus (simp only [ev, lk_cons, ↓reduceIte, Nat.reduceEqDiff]; done))
            | ((with_reducible refine AWP.condF ?_ ?_); focus (simp only [ev, lk_cons, ↓reduceIte, Nat.reduceEqDiff]; done))
            | with_reducible refine (ahead _ _ _).use ?_
            | with_reducible refine (hrd _).use ?_
            | simp only [go_sem, ↓reduceIte, Nat.reduceEqDiff, reduceCtorEq, Nat.reduceAdd, Int.reduceEq, Int.reduceBNe, Int.reduceBEq, Int.reduceToNat, Int.reduceLT, Int.reduceLE, Int.reduceGT, Int.reduceGE, Nat.reduceSub, Nat.reduceBEq, Nat.reduceBNe, Int.reduceAdd, Int.reduceSub, Int.reduceMul, Int.reduceNeg, Nat.reduceMul, Nat.reduceLeDiff, Nat.reduceLT, hc', hi, hil, hgetl, g1, intsC_length, h2, h3]
            | simp (disch := omega) only [wi64, wu8, wu16, wu32, wu64]
            | with_reducible_and_instances exact finR
            | ((with_reducible refine finR' ?_ ?_) <;> rfl)
            | ((with_reducible refine finD hsc (NRel.of_plain ?_)); exact rfl)
      · have hrd : ∀ H, ARet Try.prog 25 [.int .i64 came[n]] H (.bool false) H := fun H => by
          have := round came[n] H
          rwa [decide_eq_false hr] at this
        repeat first
          | with_reducible refine AWP.seq ?_
          | ((with_reducible refine AWP.region ?_ ?_); exact rfl)
          | with_reducible refine AWP.block ?_
          | with_reducible refine AWP.skip ?_
          | with_reducible refine AWP.exit ?_
          | with_reducible refine AWP.ret ?_
          | with_reducible refine AWP.label ?_
          | with_reducible refine AWP.goto ?_
          | ((with_reducible refine AWP.condT ?_ ?_); focus (simp only [ev, lk_cons, ↓reduceIte, Nat.reduceEqDiff]; done))
          | ((with_reducible refine AWP.condF ?_ ?_); focus (simp only [ev, lk_cons, ↓reduceIte, Nat.reduceEqDiff]; done))
          | with_reducible refine (ahead _ _ _).use ?_
          | with_reducible refine (hrd _).use ?_
          | simp only [go_sem, ↓reduceIte, Nat.reduceEqDiff, reduceCtorEq, Nat.reduceAdd, Int.reduceEq, Int.reduceBNe, Int.reduceBEq, Int.reduceToNat, Int.reduceLT, Int.reduceLE, Int.reduceGT, Int.reduceGE, Nat.reduceSub, Nat.reduceBEq, Nat.reduceBNe, Int.reduceAdd, Int.reduceSub, Int.reduceMul, Int.reduceNeg, Nat.reduceMul, Nat.reduceLeDiff, Nat.reduceLT, hc', hi, hil, hgetl, g1, intsC_length]
          | simp (disch := omega) only [wi64, wu8, wu16, wu32, wu64]
          | with_reducible_and_instances exact finR
          | ((with_reducible refine finR' ?_ ?_) <;> rfl)
          | ((with_reducible refine finD hsc (NRel.of_plain ?_)); exact rfl)
  · have : n = came.length := by omega
    subst this
    have hc' : ¬ (came.length : Int) < (came.length : Int) := by omega
    rw [List.take_length] at hok
    have hfl : (farL ack came).length = came.length := by simp [farL]
    by_cases hr : 0 ≤ ack ∧ ack < 65536
    · have hrd : ∀ H, ARet Try.prog 25 [.int .i64 ack] H (.bool true) H := fun H => by
        have := round ack H
        rwa [decide_eq_true hr] at this
      have hR : markedR ack came = .tuple ⟨[.string (bs (markB (farL ack came))), .int .i64 0]⟩ := by
        unfold markedR; rw [if_pos ⟨hok, hr⟩]
      rw [hR]
      have hm := fun HX h => marked (farL ack came) (fun i hi => by
        simp only [farL, List.mem_map] at hi
        obtain ⟨x, hx, rfl⟩ := hi
        have := hok x hx
        unfold okM at this
        omega) (by omega) (gS H.length came.length) HX h
      have hm := hm (H ++ [gO (farC ((farL ack came).take came.length)) ⟨3, 1, true, 0, none⟩]) (Rd.g (i := H.length) (k := ⟨3, 1, true, 0, none⟩) (by rw [List.take_of_length_le (by omega)]; simp only [go_sem, ↓reduceIte, Nat.reduceEqDiff, reduceCtorEq, Nat.reduceAdd, Int.reduceEq, Int.reduceBNe, Int.reduceBEq, Int.reduceToNat, Int.reduceLT, Int.reduceLE, Int.reduceGT, Int.reduceGE, Nat.reduceSub, Nat.reduceBEq, Nat.reduceBNe, Int.reduceAdd, Int.reduceSub, Int.reduceMul, Int.reduceNeg, Nat.reduceMul, Nat.reduceLeDiff, Nat.reduceLT]) (by rw [farC_len, hfl]))
      repeat first
        | with_reducible refine AWP.seq ?_
        | ((with_reducible refine AWP.region ?_ ?_); exact rfl)
        | with_reducible refine AWP.block ?_
        | with_reducible refine AWP.skip ?_
        | with_reducible refine AWP.exit ?_
        | with_reducible refine AWP.ret ?_
        | with_reducible refine AWP.label ?_
        | with_reducible refine AWP.goto ?_
        | ((with_reducible refine AWP.condT ?_ ?_); focus (simp only [ev, lk_cons, ↓reduceIte, Nat.reduceEqDiff]; done))
        | ((with_reducible refine AWP.condF ?_ ?_); focus (simp only [ev, lk_cons, ↓reduceIte, Nat.reduceEqDiff]; done))
        | with_reducible refine (hrd _).use ?_
        | with_reducible refine hm.use ?_
        | simp only [go_sem, ↓reduceIte, Nat.reduceEqDiff, reduceCtorEq, Nat.reduceAdd, Int.reduceEq, Int.reduceBNe, Int.reduceBEq, Int.reduceToNat, Int.reduceLT, Int.reduceLE, Int.reduceGT, Int.reduceGE, Nat.reduceSub, Nat.reduceBEq, Nat.reduceBNe, Int.reduceAdd, Int.reduceSub, Int.reduceMul, Int.reduceNeg, Nat.reduceMul, Nat.reduceLeDiff, Nat.reduceLT, hc']
        | simp (disch := omega) only [wi64, wu8, wu16, wu32, wu64]
        | with_reducible_and_instances exact finR
        | ((with_reducible refine finR' ?_ ?_) <;> rfl)
        | ((with_reducible refine finD hsc (NRel.of_plain ?_)); exact rfl)
    · have hrd : ∀ H, ARet Try.prog 25 [.int .i64 ack] H (.bool false) H := fun H => by
        have := round ack H
        rwa [decide_eq_false hr] at this
      have hR : markedR ack came = .tuple ⟨[.string (bs []), .int .i64 7]⟩ := by
        unfold markedR; rw [if_neg]
        intro h; exact hr h.2
      rw [hR]
      repeat first
        | with_reducible refine AWP.seq ?_
        | ((with_reducible refine AWP.region ?_ ?_); exact rfl)
        | with_reducible refine AWP.block ?_
        | with_reducible refine AWP.skip ?_
        | with_reducible refine AWP.exit ?_
        | with_reducible refine AWP.ret ?_
        | with_reducible refine AWP.label ?_
        | with_reducible refine AWP.goto ?_
        | ((with_reducible refine AWP.condT ?_ ?_); focus (simp only [ev, lk_cons, ↓reduceIte, Nat.reduceEqDiff]; done))
        | ((with_reducible refine AWP.condF ?_ ?_); focus (simp only [ev, lk_cons, ↓reduceIte, Nat.reduceEqDiff]; done))
        | with_reducible refine (hrd _).use ?_
        | simp only [go_sem, ↓reduceIte, Nat.reduceEqDiff, reduceCtorEq, Nat.reduceAdd, Int.reduceEq, Int.reduceBNe, Int.reduceBEq, Int.reduceToNat, Int.reduceLT, Int.reduceLE, Int.reduceGT, Int.reduceGE, Nat.reduceSub, Nat.reduceBEq, Nat.reduceBNe, Int.reduceAdd, Int.reduceSub, Int.reduceMul, Int.reduceNeg, Nat.reduceMul, Nat.reduceLeDiff, Nat.reduceLT, hc']
        | simp (disch := omega) only [wi64, wu8, wu16, wu32, wu64]
        | with_reducible_and_instances exact finR
        | ((with_reducible refine finR' ?_ ?_) <;> rfl)
        | ((with_reducible refine finD hsc (NRel.of_plain ?_)); exact rfl)
def onC (a : Int) : Prop := 0 ≤ a ∧ a < 65536
instance (a : Int) : Decidable (onC a) := by unfold onC; infer_instance
theorem roundD (a : Int) (H : AHeap) : ARet Try.prog 25 [.int .i64 a] H (.bool (decide (onC a))) H := round a H
def beforeR (a b : Int) : Value := if onC a ∧ onC b then .tuple ⟨[.bool (decide (1 ≤ (b - a) % 65536 ∧ (b - a) % 65536 < 32768)), .int .i64 0]⟩ else .tuple ⟨[.bool false, .int .i64 7]⟩
theorem Before (a b : Int) (H : AHeap) : ARet Try.prog 20 [.int .i64 a, .int .i64 b] H (beforeR a b) H := by
  unfold beforeR
  by_cases ha : onC a
  · by_cases hb : onC b
    · rw [if_pos ⟨ha, hb⟩]
      refine AC.enter Try.func20 rfl (by kernel_rfl) 17 rfl [.tmp 4, .tmp 5] rfl (by simp) fun hsc B => ?_
      repeat first
        | with_reducible refine AWP.seq ?_
        | ((with_reducible refine AWP.region ?_ ?_); exact rfl)
        | with_reducible refine AWP.block ?_
        | with_reducible refine AWP.skip ?_
        | with_reducible refine AWP.exit ?_
        | with_reducible refine AWP.ret ?_
        | with_reducible refine AWP.label ?_
        | with_reducible refine AWP.goto ?_
        | ((with_reducible refine AWP.condT ?_ ?_); focus (simp only [ev, lk_cons, ↓reduceIte, Nat.reduceEqDiff]; done))
        | ((with_reducible refine AWP.condF ?_ ?_); focus (simp only [ev, lk_cons, ↓reduceIte, Nat.reduceEqDiff]; done))
        | with_reducible refine (roundD _ _).use ?_
        | with_reducible refine (before _ _ _).use ?_
        | simp only [go_sem, ↓reduceIte, Nat.reduceEqDiff, reduceCtorEq, Nat.reduceAdd, Int.reduceEq, Int.reduceBNe, Int.reduceBEq, Int.reduceToNat, Int.reduceLT, Int.reduceLE, Int.reduceGT, Int.reduceGE, Nat.reduceSub, Nat.reduceBEq, Nat.reduceBNe, Int.reduceAdd, Int.reduceSub, Int.reduceMul, Int.reduceNeg, Nat.reduceMul, Nat.reduceLeDiff, Nat.reduceLT, ha, hb]
        | simp (disch := omega) only [wi64, wu8, wu16, wu32, wu64]
        | with_reducible_and_instances exact finR
        | ((with_reducible refine finR' ?_ ?_) <;> rfl)
        | ((with_reducible refine finD hsc (NRel.of_plain ?_)); exact rfl)
    · rw [if_neg (fun h => hb h.2)]
      refine AC.enter Try.func20 rfl (by kernel_rfl) 17 rfl [.tmp 4, .tmp 5] rfl (by simp) fun hsc B => ?_
      repeat first
        | with_reducible refine AWP.seq ?_
        | ((with_reducible refine AWP.region ?_ ?_); exact rfl)
        | with_reducible refine AWP.block ?_
        | with_reducible refine AWP.skip ?_
        | with_reducible refine AWP.exit ?_
        | with_reducible refine AWP.ret ?_
        | with_reducible refine AWP.label ?_
        | with_reducible refine AWP.goto ?_
        | ((with_reducible refine AWP.condT ?_ ?_); focus (simp only [ev, lk_cons, ↓reduceIte, Nat.reduceEqDiff]; done))
        | ((with_reducible refine AWP.condF ?_ ?_); focus (simp only [ev, lk_cons, ↓reduceIte, Nat.reduceEqDiff]; done))
        | with_reducible refine (roundD _ _).use ?_
        | with_reducible refine (before _ _ _).use ?_
        | simp only [go_sem, ↓reduceIte, Nat.reduceEqDiff, reduceCtorEq, Nat.reduceAdd, Int.reduceEq, Int.reduceBNe, Int.reduceBEq, Int.reduceToNat, Int.reduceLT, Int.reduceLE, Int.reduceGT, Int.reduceGE, Nat.reduceSub, Nat.reduceBEq, Nat.reduceBNe, Int.reduceAdd, Int.reduceSub, Int.reduceMul, Int.reduceNeg, Nat.reduceMul, Nat.reduceLeDiff, Nat.reduceLT, ha, hb]
        | simp (disch := omega) only [wi64, wu8, wu16, wu32, wu64]
        | with_reducible_and_instances exact finR
        | ((with_reducible refine finR' ?_ ?_) <;> rfl)
        | ((with_reducible refine finD hsc (NRel.of_plain ?_)); exact rfl)
  · rw [if_neg (fun h => ha h.1)]
    refine AC.enter Try.func20 rfl (by kernel_rfl) 17 rfl [.tmp 4, .tmp 5] rfl (by simp) fun hsc B => ?_
    repeat first
      | with_reducible refine AWP.seq ?_
      | ((with_reducible refine AWP.region ?_ ?_); exact rfl)
      | with_reducible refine AWP.block ?_
      | with_reducible refine AWP.skip ?_
      | with_reducible refine AWP.exit ?_
      | with_reducible refine AWP.ret ?_
      | with_reducible refine AWP.label ?_
      | with_reducible refine AWP.goto ?_
      | ((with_reducible refine AWP.condT ?_ ?_); focus (simp only [ev, lk_cons, ↓reduceIte, Nat.reduceEqDiff]; done))
      | ((with_reducible refine AWP.condF ?_ ?_); focus (simp only [ev, lk_cons, ↓reduceIte, Nat.reduceEqDiff]; done))
      | with_reducible refine (roundD _ _).use ?_
      | with_reducible refine (before _ _ _).use ?_
      | simp only [go_sem, ↓reduceIte, Nat.reduceEqDiff, reduceCtorEq, Nat.reduceAdd, Int.reduceEq, Int.reduceBNe, Int.reduceBEq, Int.reduceToNat, Int.reduceLT, Int.reduceLE, Int.reduceGT, Int.reduceGE, Nat.reduceSub, Nat.reduceBEq, Nat.reduceBNe, Int.reduceAdd, Int.reduceSub, Int.reduceMul, Int.reduceNeg, Nat.reduceMul, Nat.reduceLeDiff, Nat.reduceLT, ha]
      | simp (disch := omega) only [wi64, wu8, wu16, wu32, wu64]
      | with_reducible_and_instances exact finR
      | ((with_reducible refine finR' ?_ ?_) <;> rfl)
      | ((with_reducible refine finD hsc (NRel.of_plain ?_)); exact rfl)
theorem awakeM : markedR 10 [12, 14] = .tuple ⟨[.string (bs [5]), .int .i64 0]⟩ := by
  have h : farL 10 [12, 14] = [0, 2] := by decide
  unfold markedR
  rw [if_pos (by decide), h]
  rfl
theorem awakeB : beforeR 65535 0 = .tuple ⟨[.bool true, .int .i64 0]⟩ := by
  unfold beforeR
  rw [if_pos (by decide)]
  rfl
theorem awake (H : AHeap) : ARet Try.prog 6 [] H (.bool true) H := by
  have hB := fun H => Before 65535 0 H
  simp only [awakeB] at hB
  have hM := fun H v h => Marked 10 [12, 14] (by decide) v H h
  simp only [awakeM] at hM
  have hM := hM (H ++ [.cells [.int .i64 12, .int .i64 14] ⟨3, 0, true, 0, none⟩]) (.slice (some ⟨H.length, 0, none⟩) 2 2) (Rd.cells (k := ⟨3, 0, true, 0, none⟩) (hget0 rfl) rfl)
  refine AC.enter Try.func6 rfl (by kernel_rfl) 27 rfl [.tmp 0] rfl (by simp) fun hsc B => ?_
  repeat first
    | with_reducible refine AWP.seq ?_
    | ((with_reducible refine AWP.region ?_ ?_); exact rfl)
    | with_reducible refine AWP.block ?_
    | with_reducible refine AWP.skip ?_
    | with_reducible refine AWP.exit ?_
    | with_reducible refine AWP.ret ?_
    | with_reducible refine AWP.label ?_
    | with_reducible refine AWP.goto ?_
    | ((with_reducible refine AWP.condT ?_ ?_); focus (simp only [ev, lk_cons, ↓reduceIte, Nat.reduceEqDiff]; done))
    | ((with_reducible refine AWP.condF ?_ ?_); focus (simp only [ev, lk_cons, ↓reduceIte, Nat.reduceEqDiff]; done))
    | with_reducible refine (hB _).use ?_
    | with_reducible refine hM.use ?_
    | simp only [go_sem, ↓reduceIte, Nat.reduceEqDiff, reduceCtorEq, Nat.reduceAdd, Int.reduceEq, Int.reduceBNe, Int.reduceBEq, Int.reduceToNat, Int.reduceLT, Int.reduceLE, Int.reduceGT, Int.reduceGE, Nat.reduceSub, Nat.reduceBEq, Nat.reduceBNe, Int.reduceAdd, Int.reduceSub, Int.reduceMul, Int.reduceNeg, Nat.reduceMul, Nat.reduceLeDiff, Nat.reduceLT]
    | simp (disch := omega) only [wi64, wu8, wu16, wu32, wu64]
    | with_reducible_and_instances exact finR
    | ((with_reducible refine finR' ?_ ?_) <;> rfl)
    | ((with_reducible refine finD hsc (NRel.of_plain ?_)); exact rfl)
end Go.Proofs.Ytlclcdhbeeaikaa
