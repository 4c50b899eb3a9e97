/-
  The walk of HashPieces.
-/
import Derived.Test.YtdeoaadkngiilaaHF
set_option linter.unusedVariables false
set_option linter.unusedSimpArgs false
set_option maxRecDepth 20000
namespace Go.Proofs.Ytdeoaadkngiilaa
open Go Go.Aw Go.Proofs
def catN (l : List (List UInt8)) (n : Nat) : List UInt8 := (l.take n).flatten
theorem catN_zero (l : List (List UInt8)) : catN l 0 = [] := rfl
theorem catN_succ (l : List (List UInt8)) (n : Nat) (h : n < l.length) : catN l (n + 1) = catN l n ++ l[n] := by
  unfold catN; rw [List.take_add_one, List.getElem?_eq_getElem h, List.flatten_append]; simp
theorem catN_le (l : List (List UInt8)) (b : Nat) (hs : ∀ s ∈ l, s.length ≤ b) : ∀ n, n ≤ l.length → (catN l n).length ≤ n * b
  | 0, _ => by simp [catN]
  | n + 1, h => by
    have ih := catN_le l b hs n (by omega)
    have := hs l[n] (List.getElem_mem _)
    rw [catN_succ l n (by omega), List.length_append, Nat.add_mul]; omega
theorem catN_mono (l : List (List UInt8)) : ∀ m n, n + m ≤ l.length → (catN l n).length ≤ (catN l (n + m)).length
  | 0, n, _ => Nat.le_refl _
  | m + 1, n, h => by
    have ih := catN_mono l m n (by omega)
    rw [← Nat.add_assoc, catN_succ l (n + m) (by omega), List.length_append]; omega
def more : List UInt8 := [109, 111, 114, 101]
def hW (s : List UInt8) : AObj := hObj (s.foldl takeL lanes0) [.int .i64 (s.length : Nat)]
theorem lawPieces (l : List (List UInt8)) (v : Value) (at_ : Int) (hs : ∀ s ∈ l, s.length ≤ 140737488355328) (hl : l.length ≤ 9223372036854775807) (H : AHeap) (hv : Rd H v (strsC l)) :
    ARet Try.prog 6 [v, .int .i64 at_] H (.bool true) H := by
  have q1 : ∀ H' K, lenW Try.prog 22 v H' K = K (.int .i64 (l.length : Nat)) H' := fun H' K => by rw [hv.lenT (by simp only [go_sem, ↓reduceIte, Nat.reduceEqDiff, reduceCtorEq, Nat.reduceAdd, Int.reduceEq, Int.reduceBNe, Int.reduceBEq, Int.reduceToNat, Int.reduceLT, Int.reduceLE, Int.reduceGT, Int.reduceGE, Nat.reduceSub, Nat.reduceBEq, Nat.reduceBNe, Int.reduceAdd, Int.reduceSub, Int.reduceMul, Int.reduceNeg, Nat.reduceMul, Nat.reduceLeDiff, Nat.reduceLT]), strsC_length]
  refine AC.enter Try.func6 rfl (by kernel_rfl) 113 rfl [.tmp 4] rfl (by simp) fun hsc B => ?_
  repeat first
    | with_reducible refine AWP.seq ?_
    | ((with_reducible refine AWP.region ?_ ?_); exact rfl)
    | with_reducible refine AWP.block ?_
    | with_reducible refine AWP.skip ?_
    | with_reducible refine AWP.exit ?_
    | with_reducible refine AWP.ret ?_
    | with_reducible refine AWP.label ?_
    | with_reducible refine AWP.goto ?_
    | ((with_reducible refine AWP.condT ?_ ?_); focus (simp only [ev, lk_cons, ↓reduceIte, Nat.reduceEqDiff]; done))
    | ((with_reducible refine AWP.condF ?_ ?_); focus (simp only [ev, lk_cons, ↓reduceIte, Nat.reduceEqDiff]; done))
    | simp only [go_sem, ↓reduceIte, Nat.reduceEqDiff, reduceCtorEq, Nat.reduceAdd, Int.reduceEq, Int.reduceBNe, Int.reduceBEq, Int.reduceToNat, Int.reduceLT, Int.reduceLE, Int.reduceGT, Int.reduceGE, Nat.reduceSub, Nat.reduceBEq, Nat.reduceBNe, Int.reduceAdd, Int.reduceSub, Int.reduceMul, Int.reduceNeg, Nat.reduceMul, Nat.reduceLeDiff, Nat.reduceLT, q1]
    | simp (disch := omega) only [wi64, wu8, wu16, wu32, wu64]
    | with_reducible_and_instances exact finR
    | ((with_reducible refine finR' ?_ ?_) <;> rfl)
    | ((with_reducible refine finD hsc (NRel.of_plain ?_)); exact rfl)
  refine AWP.loopP (fun s : Nat × Int => ⟨[(0, v), (1, .int .i64 at_), (5, .int .i64 s.2), (14, v), (15, .int .i64 (l.length : Nat)), (16, .int .i64 (s.1 : Nat))], [], H⟩)
    (fun s => s.1 ≤ l.length ∧ (l.length ≤ 50 → s.2 = ((catN l s.1).length : Nat))) (fun s => l.length - s.1) (0, 0) ?_ ⟨Nat.zero_le _, fun _ => rfl⟩ ?_
  · exact Weak.env (by simp [envIn, lk_cons, wth_some])
  rintro ⟨n, z⟩ ⟨hn, hz⟩
  simp only at hn hz
  by_cases hc : n < l.length
  · have hc' : (n : Int) < (l.length : Int) := by omega
    rcases hv with ⟨rfl, e1⟩ | ⟨i, o, cap, cs, k, rfl, hi, hle⟩
    · have := strsC_length l; rw [e1] at this; simp at this; omega
    have hil := lt_of_get hi
    have hg := hle n (by rw [strsC_length]; exact hc)
    rw [strsC_get hc] at hg
    repeat first
      | with_reducible refine AWP.seq ?_
      | ((with_reducible refine AWP.region ?_ ?_); exact rfl)
      | with_reducible refine AWP.block ?_
      | with_reducible refine AWP.skip ?_
      | with_reducible refine AWP.exit ?_
      | with_reducible refine AWP.ret ?_
      | with_reducible refine AWP.label ?_
      | with_reducible refine AWP.goto ?_
      | ((with_reducible refine AWP.condT ?_ ?_); focus (simp only [ev, lk_cons, ↓reduceIte, Nat.reduceEqDiff]; done))
      | ((with_reducible refine AWP.condF ?_ ?_); focus (simp only [ev, lk_cons, ↓reduceIte, Nat.reduceEqDiff]; done))
      | simp only [go_sem, ↓reduceIte, Nat.reduceEqDiff, reduceCtorEq, Nat.reduceAdd, Int.reduceEq, Int.reduceBNe, Int.reduceBEq, Int.reduceToNat, Int.reduceLT, Int.reduceLE, Int.reduceGT, Int.reduceGE, Nat.reduceSub, Nat.reduceBEq, Nat.reduceBNe, Int.reduceAdd, Int.reduceSub, Int.reduceMul, Int.reduceNeg, Nat.reduceMul, Nat.reduceLeDiff, Nat.reduceLT, hc', hi, hil, hgetl, hg, strsC_length]
      | simp (disch := omega) only [wi64, wu8, wu16, wu32, wu64]
      | with_reducible_and_instances exact finR
      | ((with_reducible refine finR' ?_ ?_) <;> rfl)
      | ((with_reducible refine finD hsc (NRel.of_plain ?_)); exact rfl)
    refine ⟨(n + 1, IntKind.i64.wrap (z + (l[n].length : Int))), Weak.env (by simp [envIn, lk_cons, wth_some]), by simp; omega, fun h => ?_, by simp; omega⟩
    have h1 := catN_le l _ hs (n + 1) (by omega)
    have h2 : (n + 1) * 140737488355328 ≤ 50 * 140737488355328 := Nat.mul_le_mul_right _ (by omega)
    rw [catN_succ l n hc, List.length_append] at h1
    rw [hz h, catN_succ l n hc, List.length_append, wi64 (by omega)]
    omega
  have : n = l.length := by omega
  subst this
  have hc' : ¬ (l.length : Int) < (l.length : Int) := by omega
  by_cases g1 : z > 3000
  · repeat first
      | with_reducible refine AWP.seq ?_
      | ((with_reducible refine AWP.region ?_ ?_); exact rfl)
      | with_reducible refine AWP.block ?_
      | with_reducible refine AWP.skip ?_
      | with_reducible refine AWP.exit ?_
      | with_reducible refine AWP.ret ?_
      | with_reducible refine AWP.label ?_
      | with_reducible refine AWP.goto ?_
      | ((with_reducible refine AWP.condT ?_ ?_); focus (simp only [ev, lk_cons, ↓reduceIte, Nat.reduceEqDiff]; done))
      | ((with_reducible refine AWP.condF ?_ ?_); focus (simp only [ev, lk_cons, ↓reduceIte, Nat.reduceEqDiff]; done))
      | with_reducible refine (awake _).use ?_
      | simp only [go_sem, ↓reduceIte, Nat.reduceEqDiff, reduceCtorEq, Nat.reduceAdd, Int.reduceEq, Int.reduceBNe, Int.reduceBEq, Int.reduceToNat, Int.reduceLT, Int.reduceLE, Int.reduceGT, Int.reduceGE, Nat.reduceSub, Nat.reduceBEq, Nat.reduceBNe, Int.reduceAdd, Int.reduceSub, Int.reduceMul, Int.reduceNeg, Nat.reduceMul, Nat.reduceLeDiff, Nat.reduceLT, hc', g1]
      | simp (disch := omega) only [wi64, wu8, wu16, wu32, wu64]
      | with_reducible_and_instances exact finR
      | ((with_reducible refine finR' ?_ ?_) <;> rfl)
      | ((with_reducible refine finD hsc (NRel.of_plain ?_)); exact rfl)
  by_cases g2 : (l.length : Int) > 50
  · repeat first
      | with_reducible refine AWP.seq ?_
      | ((with_reducible refine AWP.region ?_ ?_); exact rfl)
      | with_reducible refine AWP.block ?_
      | with_reducible refine AWP.skip ?_
      | with_reducible refine AWP.exit ?_
      | with_reducible refine AWP.ret ?_
      | with_reducible refine AWP.label ?_
      | with_reducible refine AWP.goto ?_
      | ((with_reducible refine AWP.condT ?_ ?_); focus (simp only [ev, lk_cons, ↓reduceIte, Nat.reduceEqDiff]; done))
      | ((with_reducible refine AWP.condF ?_ ?_); focus (simp only [ev, lk_cons, ↓reduceIte, Nat.reduceEqDiff]; done))
      | with_reducible refine (awake _).use ?_
      | simp only [go_sem, ↓reduceIte, Nat.reduceEqDiff, reduceCtorEq, Nat.reduceAdd, Int.reduceEq, Int.reduceBNe, Int.reduceBEq, Int.reduceToNat, Int.reduceLT, Int.reduceLE, Int.reduceGT, Int.reduceGE, Nat.reduceSub, Nat.reduceBEq, Nat.reduceBNe, Int.reduceAdd, Int.reduceSub, Int.reduceMul, Int.reduceNeg, Nat.reduceMul, Nat.reduceLeDiff, Nat.reduceLT, hc', g1, g2, q1]
      | simp (disch := omega) only [wi64, wu8, wu16, wu32, wu64]
      | with_reducible_and_instances exact finR
      | ((with_reducible refine finR' ?_ ?_) <;> rfl)
      | ((with_reducible refine finD hsc (NRel.of_plain ?_)); exact rfl)
  have hz' := hz (by omega)
  have hall : (catN l l.length).length ≤ 3000 := by omega
  have hle : ∀ n, n ≤ l.length → (catN l n).length ≤ 3000 := fun n hn => by
    have := catN_mono l (l.length - n) n (by omega)
    rw [show n + (l.length - n) = l.length by omega] at this; omega
  repeat first
    | with_reducible refine AWP.seq ?_
    | ((with_reducible refine AWP.region ?_ ?_); exact rfl)
    | with_reducible refine AWP.block ?_
    | with_reducible refine AWP.skip ?_
    | with_reducible refine AWP.exit ?_
    | with_reducible refine AWP.ret ?_
    | with_reducible refine AWP.label ?_
    | with_reducible refine AWP.goto ?_
    | ((with_reducible refine AWP.condT ?_ ?_); focus (simp only [ev, lk_cons, ↓reduceIte, Nat.reduceEqDiff]; done))
    | ((with_reducible refine AWP.condF ?_ ?_); focus (simp only [ev, lk_cons, ↓reduceIte, Nat.reduceEqDiff]; done))
    | with_reducible refine (New _).use ?_
    | with_reducible refine (CopyN _).use ?_
    | with_reducible refine (SumN _).use ?_
    | with_reducible refine (LenN _).use ?_
    | with_reducible refine (AddN [120] _).use ?_
    | simp only [go_sem, ↓reduceIte, Nat.reduceEqDiff, reduceCtorEq, Nat.reduceAdd, Int.reduceEq, Int.reduceBNe, Int.reduceBEq, Int.reduceToNat, Int.reduceLT, Int.reduceLE, Int.reduceGT, Int.reduceGE, Nat.reduceSub, Nat.reduceBEq, Nat.reduceBNe, Int.reduceAdd, Int.reduceSub, Int.reduceMul, Int.reduceNeg, Nat.reduceMul, Nat.reduceLeDiff, Nat.reduceLT, hc', g1, g2, q1]
    | simp (disch := omega) only [wi64, wu8, wu16, wu32, wu64]
    | with_reducible_and_instances exact finR
    | ((with_reducible refine finR' ?_ ?_) <;> rfl)
    | ((with_reducible refine finD hsc (NRel.of_plain ?_)); exact rfl)
  refine AWP.loopP (fun n : Nat => if 0 ≤ at_ ∧ at_ < n then ⟨[(1, .int .i64 at_), (8, .pointer (some ⟨H.length, 0, none⟩)), (9, .pointer (some ⟨H.length + 1, 0, none⟩)), (10, .string (bs (catN l n))), (11, .string (bs (catN l at_.toNat))), (49, v), (50, .int .i64 (l.length : Nat)), (51, .int .i64 (n : Nat))], [], H ++ [hW (catN l n), hW (catN l at_.toNat ++ more)]⟩
      else ⟨[(1, .int .i64 at_), (8, .pointer (some ⟨H.length, 0, none⟩)), (9, .pointer none), (10, .string (bs (catN l n))), (11, .string (bs [])), (49, v), (50, .int .i64 (l.length : Nat)), (51, .int .i64 (n : Nat))], [], H ++ [hW (catN l n)]⟩)
    (fun n => n ≤ l.length) (fun n => l.length - n) 0 ?_ (Nat.zero_le _) ?_
  · rw [if_neg (by omega), catN_zero]
    exact Weak.env (by simp [envIn, lk_cons, wth_some])
  intro n hn
  have hlen : ∀ s : List UInt8, (s.foldl takeL lanes0).length = 4 := fun s => by rw [foldl_len]; rfl
  by_cases hc : n < l.length
  · have hc' : (n : Int) < (l.length : Int) := by omega
    rcases hv with ⟨rfl, e1⟩ | ⟨i, o, cap, cs, k, rfl, hi, hle'⟩
    · have := strsC_length l; rw [e1] at this; simp at this; omega
    have hil := lt_of_get hi
    have hg := hle' n (by rw [strsC_length]; exact hc)
    rw [strsC_get hc] at hg
    have hw := catN_succ l n hc
    have hwl := hle (n + 1) hc
    have hwl0 := hle n hn
    have hwL := hwl
    rw [hw, List.length_append] at hwl
    by_cases ha : 0 ≤ at_ ∧ at_ < n
    · rw [if_pos ha]
      have hne : ((n : Int) == at_) = false := beq_eq_false_iff_ne.2 (by omega)
      have hA := Add H.length ((catN l n).foldl takeL lanes0) (hlen _) (catN l n).length l[n] (by omega) (H ++ [hW (catN l n), hW (catN l at_.toNat ++ more)]) (hget0 rfl)
      rw [← List.foldl_append, ← hw, ← List.length_append, ← hw] at hA
      have hS := SumM H.length _ (hlen (catN l (n + 1))) (catN l (n + 1)).length (H ++ [hW (catN l (n + 1)), hW (catN l at_.toNat ++ more)]) (hget0 rfl)
      have hN := LenM H.length _ (hlen (catN l (n + 1))) (catN l (n + 1)).length (H ++ [hW (catN l (n + 1)), hW (catN l at_.toNat ++ more)]) (hget0 rfl)
      have hR := refSum (catN l (n + 1)) (by omega)
      have hX : (H ++ [hW (catN l n), hW (catN l at_.toNat ++ more)]).set H.length (hObj ((catN l (n + 1)).foldl takeL lanes0) [.int .i64 ((catN l (n + 1)).length : Nat)]) = H ++ [hW (catN l (n + 1)), hW (catN l at_.toNat ++ more)] := by simp [hW]
      rw [hX] at hA
      repeat first
        | with_reducible refine AWP.seq ?_
        | ((with_reducible refine AWP.region ?_ ?_); exact rfl)
        | with_reducible refine AWP.block ?_
        | with_reducible refine AWP.skip ?_
        | with_reducible refine AWP.exit ?_
        | with_reducible refine AWP.ret ?_
        | with_reducible refine AWP.label ?_
        | with_reducible refine AWP.goto ?_
        | ((with_reducible refine AWP.condT ?_ ?_); focus (simp only [ev, lk_cons, ↓reduceIte, Nat.reduceEqDiff]; done))
        | ((with_reducible refine AWP.condF ?_ ?_); focus (simp only [ev, lk_cons, ↓reduceIte, Nat.reduceEqDiff]; done))
        | with_reducible refine hA.use ?_
        | with_reducible refine hS.use ?_
        | with_reducible refine hN.use ?_
        | with_reducible refine (hR _).use ?_
        | simp only [go_sem, ↓reduceIte, Nat.reduceEqDiff, reduceCtorEq, Nat.reduceAdd, Int.reduceEq, Int.reduceBNe, Int.reduceBEq, Int.reduceToNat, Int.reduceLT, Int.reduceLE, Int.reduceGT, Int.reduceGE, Nat.reduceSub, Nat.reduceBEq, Nat.reduceBNe, Int.reduceAdd, Int.reduceSub, Int.reduceMul, Int.reduceNeg, Nat.reduceMul, Nat.reduceLeDiff, Nat.reduceLT, hc', hi, hil, hgetl, hg, strsC_length, hne]
        | simp (disch := omega) only [wi64, wu8, wu16, wu32, wu64]
        | with_reducible_and_instances exact finR
        | ((with_reducible refine finR' ?_ ?_) <;> rfl)
        | ((with_reducible refine finD hsc (NRel.of_plain ?_)); exact rfl)
      refine ⟨by omega, ?_⟩
      rw [← hw]
      repeat first
        | with_reducible refine AWP.seq ?_
        | ((with_reducible refine AWP.region ?_ ?_); exact rfl)
        | with_reducible refine AWP.block ?_
        | with_reducible refine AWP.skip ?_
        | with_reducible refine AWP.exit ?_
        | with_reducible refine AWP.ret ?_
        | with_reducible refine AWP.label ?_
        | with_reducible refine AWP.goto ?_
        | ((with_reducible refine AWP.condT ?_ ?_); focus (simp only [ev, lk_cons, ↓reduceIte, Nat.reduceEqDiff]; done))
        | ((with_reducible refine AWP.condF ?_ ?_); focus (simp only [ev, lk_cons, ↓reduceIte, Nat.reduceEqDiff]; done))
        | with_reducible refine hA.use ?_
        | with_reducible refine hS.use ?_
        | with_reducible refine hN.use ?_
        | with_reducible refine (hR _).use ?_
        | simp only [go_sem, ↓reduceIte, Nat.reduceEqDiff, reduceCtorEq, Nat.reduceAdd, Int.reduceEq, Int.reduceBNe, Int.reduceBEq, Int.reduceToNat, Int.reduceLT, Int.reduceLE, Int.reduceGT, Int.reduceGE, Nat.reduceSub, Nat.reduceBEq, Nat.reduceBNe, Int.reduceAdd, Int.reduceSub, Int.reduceMul, Int.reduceNeg, Nat.reduceMul, Nat.reduceLeDiff, Nat.reduceLT, sumL]
        | simp (disch := omega) only [wi64, wu8, wu16, wu32, wu64]
        | with_reducible_and_instances exact finR
        | ((with_reducible refine finR' ?_ ?_) <;> rfl)
        | ((with_reducible refine finD hsc (NRel.of_plain ?_)); exact rfl)
      refine ⟨n + 1, ?_, by omega, by omega⟩
      rw [if_pos (by omega)]
      exact Weak.env (by simp [envIn, lk_cons, wth_some])
    · rw [if_neg ha]
      by_cases hne : (n : Int) = at_
      · subst hne
        have hC : ARet Try.prog 23 [.pointer (some ⟨H.length, 0, none⟩)] (H ++ [hW (catN l n)]) (.pointer (some ⟨H.length + 1, 0, none⟩)) (H ++ [hW (catN l n), hW (catN l n)]) := by
          have := Copy H.length _ (hlen (catN l n)) (catN l n).length (H ++ [hW (catN l n)]) (hget0 rfl)
          simpa [hW] using this
        have hM : ARet Try.prog 26 [.pointer (some ⟨H.length + 1, 0, none⟩), .string (bs [109, 111, 114, 101])] (H ++ [hW (catN l n), hW (catN l n)]) noVal (H ++ [hW (catN l n), hW (catN l n ++ more)]) := by
          have := Add (H.length + 1) ((catN l n).foldl takeL lanes0) (hlen _) (catN l n).length more (by have : more.length = 4 := rfl; omega) (H ++ [hW (catN l n), hW (catN l n)]) (hgetk rfl)
          rw [← List.foldl_append, ← List.length_append] at this
          simpa [hW, more] using this
        have hA := Add H.length ((catN l n).foldl takeL lanes0) (hlen _) (catN l n).length l[n] (by omega) (H ++ [hW (catN l n), hW (catN l n ++ more)]) (hget0 rfl)
        rw [← List.foldl_append, ← hw, ← List.length_append, ← hw] at hA
        have hS := SumM H.length _ (hlen (catN l (n + 1))) (catN l (n + 1)).length (H ++ [hW (catN l (n + 1)), hW (catN l n ++ more)]) (hget0 rfl)
        have hN := LenM H.length _ (hlen (catN l (n + 1))) (catN l (n + 1)).length (H ++ [hW (catN l (n + 1)), hW (catN l n ++ more)]) (hget0 rfl)
        have hR := refSum (catN l (n + 1)) (by omega)
        have hX : (H ++ [hW (catN l n), hW (catN l n ++ more)]).set H.length (hObj ((catN l (n + 1)).foldl takeL lanes0) [.int .i64 ((catN l (n + 1)).length : Nat)]) = H ++ [hW (catN l (n + 1)), hW (catN l n ++ more)] := by simp [hW]
        rw [hX] at hA
        repeat first
          | with_reducible refine AWP.seq ?_
          | ((with_reducible refine AWP.region ?_ ?_); exact rfl)
          | with_reducible refine AWP.block ?_
          | with_reducible refine AWP.skip ?_
          | with_reducible refine AWP.exit ?_
          | with_reducible refine AWP.ret ?_
          | with_reducible refine AWP.label ?_
          | with_reducible refine AWP.goto ?_
          | ((with_reducible refine AWP.condT ?_ ?_); focus (simp only [ev, lk_cons, ↓reduceIte, Nat.reduceEqDiff]; done))
          | ((with_reducible refine AWP.condF ?_ ?_); focus (simp only [ev, lk_cons, ↓reduceIte, Nat.reduceEqDiff]; done))
          | with_reducible refine hC.use ?_
          | with_reducible refine hM.use ?_
          | with_reducible refine hA.use ?_
          | with_reducible refine hS.use ?_
          | with_reducible refine hN.use ?_
          | with_reducible refine (hR _).use ?_
          | simp only [go_sem, ↓reduceIte, Nat.reduceEqDiff, reduceCtorEq, Nat.reduceAdd, Int.reduceEq, Int.reduceBNe, Int.reduceBEq, Int.reduceToNat, Int.reduceLT, Int.reduceLE, Int.reduceGT, Int.reduceGE, Nat.reduceSub, Nat.reduceBEq, Nat.reduceBNe, Int.reduceAdd, Int.reduceSub, Int.reduceMul, Int.reduceNeg, Nat.reduceMul, Nat.reduceLeDiff, Nat.reduceLT, hc', hi, hil, hgetl, hg, strsC_length]
          | simp (disch := omega) only [wi64, wu8, wu16, wu32, wu64]
          | with_reducible_and_instances exact finR
          | ((with_reducible refine finR' ?_ ?_) <;> rfl)
          | ((with_reducible refine finD hsc (NRel.of_plain ?_)); exact rfl)
        refine ⟨by omega, ?_⟩
        rw [← hw]
        repeat first
          | with_reducible refine AWP.seq ?_
          | ((with_reducible refine AWP.region ?_ ?_); exact rfl)
          | with_reducible refine AWP.block ?_
          | with_reducible refine AWP.skip ?_
          | with_reducible refine AWP.exit ?_
          | with_reducible refine AWP.ret ?_
          | with_reducible refine AWP.label ?_
          | with_reducible refine AWP.goto ?_
          | ((with_reducible refine AWP.condT ?_ ?_); focus (simp only [ev, lk_cons, ↓reduceIte, Nat.reduceEqDiff]; done))
          | ((with_reducible refine AWP.condF ?_ ?_); focus (simp only [ev, lk_cons, ↓reduceIte, Nat.reduceEqDiff]; done))
          | with_reducible refine hA.use ?_
          | with_reducible refine hS.use ?_
          | with_reducible refine hN.use ?_
          | with_reducible refine (hR _).use ?_
          | simp only [go_sem, ↓reduceIte, Nat.reduceEqDiff, reduceCtorEq, Nat.reduceAdd, Int.reduceEq, Int.reduceBNe, Int.reduceBEq, Int.reduceToNat, Int.reduceLT, Int.reduceLE, Int.reduceGT, Int.reduceGE, Nat.reduceSub, Nat.reduceBEq, Nat.reduceBNe, Int.reduceAdd, Int.reduceSub, Int.reduceMul, Int.reduceNeg, Nat.reduceMul, Nat.reduceLeDiff, Nat.reduceLT, sumL]
          | simp (disch := omega) only [wi64, wu8, wu16, wu32, wu64]
          | with_reducible_and_instances exact finR
          | ((with_reducible refine finR' ?_ ?_) <;> rfl)
          | ((with_reducible refine finD hsc (NRel.of_plain ?_)); exact rfl)
        refine ⟨n + 1, ?_, by omega, by omega⟩
        rw [if_pos (by omega)]
        exact Weak.env (by simp [envIn, lk_cons, wth_some])
      · have hne' : ((n : Int) == at_) = false := beq_eq_false_iff_ne.2 hne
        have hA := Add H.length ((catN l n).foldl takeL lanes0) (hlen _) (catN l n).length l[n] (by omega) (H ++ [hW (catN l n)]) (hget0 rfl)
        rw [← List.foldl_append, ← hw, ← List.length_append, ← hw] at hA
        have hS := SumM H.length _ (hlen (catN l (n + 1))) (catN l (n + 1)).length (H ++ [hW (catN l (n + 1))]) (hget0 rfl)
        have hN := LenM H.length _ (hlen (catN l (n + 1))) (catN l (n + 1)).length (H ++ [hW (catN l (n + 1))]) (hget0 rfl)
        have hR := refSum (catN l (n + 1)) (by omega)
        have hX : (H ++ [hW (catN l n)]).set H.length (hObj ((catN l (n + 1)).foldl takeL lanes0) [.int .i64 ((catN l (n + 1)).length : Nat)]) = H ++ [hW (catN l (n + 1))] := by simp [hW]
        rw [hX] at hA
        repeat first
          | with_reducible refine AWP.seq ?_
          | ((with_reducible refine AWP.region ?_ ?_); exact rfl)
          | with_reducible refine AWP.block ?_
          | with_reducible refine AWP.skip ?_
          | with_reducible refine AWP.exit ?_
          | with_reducible refine AWP.ret ?_
          | with_reducible refine AWP.label ?_
          | with_reducible refine AWP.goto ?_
          | ((with_reducible refine AWP.condT ?_ ?_); focus (simp only [ev, lk_cons, ↓reduceIte, Nat.reduceEqDiff]; done))
          | ((with_reducible refine AWP.condF ?_ ?_); focus (simp only [ev, lk_cons, ↓reduceIte, Nat.reduceEqDiff]; done))
          | with_reducible refine hA.use ?_
          | with_reducible refine hS.use ?_
          | with_reducible refine hN.use ?_
          | with_reducible refine (hR _).use ?_
          | simp only [go_sem, ↓reduceIte, Nat.reduceEqDiff, reduceCtorEq, Nat.reduceAdd, Int.reduceEq, Int.reduceBNe, Int.reduceBEq, Int.reduceToNat, Int.reduceLT, Int.reduceLE, Int.reduceGT, Int.reduceGE, Nat.reduceSub, Nat.reduceBEq, Nat.reduceBNe, Int.reduceAdd, Int.reduceSub, Int.reduceMul, Int.reduceNeg, Nat.reduceMul, Nat.reduceLeDiff, Nat.reduceLT, hc', hi, hil, hgetl, hg, strsC_length, hne']
          | simp (disch := omega) only [wi64, wu8, wu16, wu32, wu64]
          | with_reducible_and_instances exact finR
          | ((with_reducible refine finR' ?_ ?_) <;> rfl)
          | ((with_reducible refine finD hsc (NRel.of_plain ?_)); exact rfl)
        refine ⟨by omega, ?_⟩
        rw [← hw]
        repeat first
          | with_reducible refine AWP.seq ?_
          | ((with_reducible refine AWP.region ?_ ?_); exact rfl)
          | with_reducible refine AWP.block ?_
          | with_reducible refine AWP.skip ?_
          | with_reducible refine AWP.exit ?_
          | with_reducible refine AWP.ret ?_
          | with_reducible refine AWP.label ?_
          | with_reducible refine AWP.goto ?_
          | ((with_reducible refine AWP.condT ?_ ?_); focus (simp only [ev, lk_cons, ↓reduceIte, Nat.reduceEqDiff]; done))
          | ((with_reducible refine AWP.condF ?_ ?_); focus (simp only [ev, lk_cons, ↓reduceIte, Nat.reduceEqDiff]; done))
          | with_reducible refine hA.use ?_
          | with_reducible refine hS.use ?_
          | with_reducible refine hN.use ?_
          | with_reducible refine (hR _).use ?_
          | simp only [go_sem, ↓reduceIte, Nat.reduceEqDiff, reduceCtorEq, Nat.reduceAdd, Int.reduceEq, Int.reduceBNe, Int.reduceBEq, Int.reduceToNat, Int.reduceLT, Int.reduceLE, Int.reduceGT, Int.reduceGE, Nat.reduceSub, Nat.reduceBEq, Nat.reduceBNe, Int.reduceAdd, Int.reduceSub, Int.reduceMul, Int.reduceNeg, Nat.reduceMul, Nat.reduceLeDiff, Nat.reduceLT, sumL]
          | simp (disch := omega) only [wi64, wu8, wu16, wu32, wu64]
          | with_reducible_and_instances exact finR
          | ((with_reducible refine finR' ?_ ?_) <;> rfl)
          | ((with_reducible refine finD hsc (NRel.of_plain ?_)); exact rfl)
        refine ⟨n + 1, ?_, by omega, by omega⟩
        rw [if_neg (by omega)]
        exact Weak.env (by simp [envIn, lk_cons, wth_some])
  · have : n = l.length := by omega
    subst this
    by_cases ha : 0 ≤ at_ ∧ at_ < l.length
    · rw [if_pos ha]
      have e4 : (catN l at_.toNat ++ more).length = (catN l at_.toNat).length + 4 := by simp [more]
      have hl1 := hle at_.toNat (by omega)
      have hS := SumM (H.length + 1) _ (hlen (catN l at_.toNat ++ more)) (catN l at_.toNat ++ more).length (H ++ [hW (catN l l.length), hW (catN l at_.toNat ++ more)]) (hgetk rfl)
      have hN := LenM (H.length + 1) _ (hlen (catN l at_.toNat ++ more)) (catN l at_.toNat ++ more).length (H ++ [hW (catN l l.length), hW (catN l at_.toNat ++ more)]) (hgetk rfl)
      have hR := refSum (catN l at_.toNat ++ more) (by omega)
      rw [e4] at hN
      repeat first
        | with_reducible refine AWP.seq ?_
        | ((with_reducible refine AWP.region ?_ ?_); exact rfl)
        | with_reducible refine AWP.block ?_
        | with_reducible refine AWP.skip ?_
        | with_reducible refine AWP.exit ?_
        | with_reducible refine AWP.ret ?_
        | with_reducible refine AWP.label ?_
        | with_reducible refine AWP.goto ?_
        | ((with_reducible refine AWP.condT ?_ ?_); focus (simp only [ev, lk_cons, ↓reduceIte, Nat.reduceEqDiff]; done))
        | ((with_reducible refine AWP.condF ?_ ?_); focus (simp only [ev, lk_cons, ↓reduceIte, Nat.reduceEqDiff]; done))
        | with_reducible refine hS.use ?_
        | simp only [go_sem, ↓reduceIte, Nat.reduceEqDiff, reduceCtorEq, Nat.reduceAdd, Int.reduceEq, Int.reduceBNe, Int.reduceBEq, Int.reduceToNat, Int.reduceLT, Int.reduceLE, Int.reduceGT, Int.reduceGE, Nat.reduceSub, Nat.reduceBEq, Nat.reduceBNe, Int.reduceAdd, Int.reduceSub, Int.reduceMul, Int.reduceNeg, Nat.reduceMul, Nat.reduceLeDiff, Nat.reduceLT, hc']
        | simp (disch := omega) only [wi64, wu8, wu16, wu32, wu64]
        | with_reducible_and_instances exact finR
        | ((with_reducible refine finR' ?_ ?_) <;> rfl)
        | ((with_reducible refine finD hsc (NRel.of_plain ?_)); exact rfl)
      refine ⟨by omega, ?_⟩
      rw [show [109, 111, 114, 101] = more from rfl]
      repeat first
        | with_reducible refine AWP.seq ?_
        | ((with_reducible refine AWP.region ?_ ?_); exact rfl)
        | with_reducible refine AWP.block ?_
        | with_reducible refine AWP.skip ?_
        | with_reducible refine AWP.exit ?_
        | with_reducible refine AWP.ret ?_
        | with_reducible refine AWP.label ?_
        | with_reducible refine AWP.goto ?_
        | ((with_reducible refine AWP.condT ?_ ?_); focus (simp only [ev, lk_cons, ↓reduceIte, Nat.reduceEqDiff]; done))
        | ((with_reducible refine AWP.condF ?_ ?_); focus (simp only [ev, lk_cons, ↓reduceIte, Nat.reduceEqDiff]; done))
        | with_reducible refine hS.use ?_
        | with_reducible refine hN.use ?_
        | with_reducible refine (hR _).use ?_
        | with_reducible refine (awake _).use ?_
        | simp only [go_sem, ↓reduceIte, Nat.reduceEqDiff, reduceCtorEq, Nat.reduceAdd, Int.reduceEq, Int.reduceBNe, Int.reduceBEq, Int.reduceToNat, Int.reduceLT, Int.reduceLE, Int.reduceGT, Int.reduceGE, Nat.reduceSub, Nat.reduceBEq, Nat.reduceBNe, Int.reduceAdd, Int.reduceSub, Int.reduceMul, Int.reduceNeg, Nat.reduceMul, Nat.reduceLeDiff, Nat.reduceLT, sumL, Int.natCast_add]
        | simp (disch := omega) only [wi64, wu8, wu16, wu32, wu64]
        | with_reducible_and_instances exact finR
        | ((with_reducible refine finR' ?_ ?_) <;> rfl)
        | ((with_reducible refine finD hsc (NRel.of_plain ?_)); exact rfl)
    · rw [if_neg ha]
      repeat first
        | with_reducible refine AWP.seq ?_
        | ((with_reducible refine AWP.region ?_ ?_); exact rfl)
        | with_reducible refine AWP.block ?_
        | with_reducible refine AWP.skip ?_
        | with_reducible refine AWP.exit ?_
        | with_reducible refine AWP.ret ?_
        | with_reducible refine AWP.label ?_
        | with_reducible refine AWP.goto ?_
        | ((with_reducible refine AWP.condT ?_ ?_); focus (simp only [ev, lk_cons, ↓reduceIte, Nat.reduceEqDiff]; done))
        | ((with_reducible refine AWP.condF ?_ ?_); focus (simp only [ev, lk_cons, ↓reduceIte, Nat.reduceEqDiff]; done))
        | with_reducible refine (awake _).use ?_
        | simp only [go_sem, ↓reduceIte, Nat.reduceEqDiff, reduceCtorEq, Nat.reduceAdd, Int.reduceEq, Int.reduceBNe, Int.reduceBEq, Int.reduceToNat, Int.reduceLT, Int.reduceLE, Int.reduceGT, Int.reduceGE, Nat.reduceSub, Nat.reduceBEq, Nat.reduceBNe, Int.reduceAdd, Int.reduceSub, Int.reduceMul, Int.reduceNeg, Nat.reduceMul, Nat.reduceLeDiff, Nat.reduceLT, hc']
        | simp (disch := omega) only [wi64, wu8, wu16, wu32, wu64]
        | with_reducible_and_instances exact finR
        | ((with_reducible refine finR' ?_ ?_) <;> rfl)
        | ((with_reducible refine finD hsc (NRel.of_plain ?_)); exact rfl)
end Go.Proofs.Ytdeoaadkngiilaa
