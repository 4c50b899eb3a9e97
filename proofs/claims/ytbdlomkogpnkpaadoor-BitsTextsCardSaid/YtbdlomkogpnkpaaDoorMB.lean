/-
  The walk of fields of bits: full fields, fields of numbers.
-/
import Derived.Test.YtbdlomkogpnkpaaDoorM9
import Derived.Test.YtbdlomkogpnkpaaDoorMA
set_option linter.unusedVariables false
set_option linter.unusedSimpArgs false
set_option maxRecDepth 20000
namespace Go.Proofs.YtbdlomkogpnkpaaDoor
open Go Go.Aw Go.Proofs
theorem FullA (n : Int) (h : ¬ okN n) (H : AHeap) : ARet Tryd.prog 16 [.int .i64 n] H (.tuple ⟨[.string (bs []), .int .i64 7]⟩) H := by
  have hE := fun H => emptyA n h H
  refine AC.enter Tryd.func16 rfl (by kernel_rfl) 19 rfl [.tmp 2, .cell 3 24] rfl (by simp) fun hsc B => ?_
  repeat first
    | with_reducible refine caughtP (by with_unfolding_all first | exact (hget0 rfl).trans rfl | exact (hgetk rfl).trans rfl) ?_
    | with_reducible refine AWP.seq ?_
    | ((with_reducible refine AWP.region ?_ ?_); exact rfl)
    | with_reducible refine AWP.block ?_
    | with_reducible refine AWP.skip ?_
    | with_reducible refine AWP.exit ?_
    | with_reducible refine AWP.ret ?_
    | with_reducible refine AWP.label ?_
    | with_reducible refine AWP.goto ?_
    | ((with_reducible refine AWP.condT ?_ ?_); focus (simp only [ev, lk_cons, ↓reduceIte, Nat.reduceEqDiff]; done))
    | ((with_reducible refine AWP.condF ?_ ?_); focus (simp only [ev, lk_cons, ↓reduceIte, Nat.reduceEqDiff]; done))
    | with_reducible refine (hE _).use ?_
    | simp only [go_sem, ↓reduceIte, Nat.reduceEqDiff, reduceCtorEq, Nat.reduceAdd, Int.reduceEq, Int.reduceBNe, Int.reduceBEq, Int.reduceToNat, Int.reduceLT, Int.reduceLE, Int.reduceGT, Int.reduceGE, Nat.reduceSub, Nat.reduceBEq, Nat.reduceBNe, Int.reduceAdd, Int.reduceSub, Int.reduceMul, Int.reduceNeg, Nat.reduceMul, Nat.reduceLeDiff, Nat.reduceLT]
    | simp (disch := omega) only [wi64, wu8, wu16, wu32, wu64]
    | with_reducible_and_instances exact finR
    | ((with_reducible refine finR' ?_ ?_) <;> rfl)
    | ((with_reducible refine finD hsc (NRel.of_plain ?_)); exact rfl)
theorem FullC (n : Nat) (h : n ≤ 4096) (H : AHeap) : ARet Tryd.prog 16 [.int .i64 (n : Nat)] H (.tuple ⟨[.string (bs (fieldL (fullL n))), .int .i64 0]⟩) H := by
  have hE := fun H => empty n h H
  have hl := lon_le n
  refine AC.enter Tryd.func16 rfl (by kernel_rfl) 19 rfl [.tmp 2, .cell 3 24] rfl (by simp) fun hsc B => ?_
  repeat first
    | with_reducible refine AWP.seq ?_
    | ((with_reducible refine AWP.region ?_ ?_); exact rfl)
    | with_reducible refine AWP.block ?_
    | with_reducible refine AWP.skip ?_
    | with_reducible refine AWP.exit ?_
    | with_reducible refine AWP.ret ?_
    | with_reducible refine AWP.label ?_
    | with_reducible refine AWP.goto ?_
    | ((with_reducible refine AWP.condT ?_ ?_); focus (simp only [ev, lk_cons, ↓reduceIte, Nat.reduceEqDiff]; done))
    | ((with_reducible refine AWP.condF ?_ ?_); focus (simp only [ev, lk_cons, ↓reduceIte, Nat.reduceEqDiff]; done))
    | with_reducible refine (hE _).use ?_
    | simp only [go_sem, ↓reduceIte, Nat.reduceEqDiff, reduceCtorEq, Nat.reduceAdd, Int.reduceEq, Int.reduceBNe, Int.reduceBEq, Int.reduceToNat, Int.reduceLT, Int.reduceLE, Int.reduceGT, Int.reduceGE, Nat.reduceSub, Nat.reduceBEq, Nat.reduceBNe, Int.reduceAdd, Int.reduceSub, Int.reduceMul, Int.reduceNeg, Nat.reduceMul, Nat.reduceLeDiff, Nat.reduceLT]
    | simp (disch := omega) only [wi64, wu8, wu16, wu32, wu64]
    | with_reducible_and_instances exact finR
    | ((with_reducible refine finR' ?_ ?_) <;> rfl)
    | ((with_reducible refine finD hsc (NRel.of_plain ?_)); exact rfl)
  refine AWP.loopP (fun k : Nat => ⟨[(3, .pointer (some ⟨H.length, 0, none⟩)), (4, .pointer (some ⟨H.length + 2, 0, none⟩)), (8, .int .i64 (n : Nat)), (9, .int .i64 (k : Nat))], [.call (.func 55) [] [.pointer (some ⟨H.length, 0, none⟩)]],
      H ++ [.cells [.int .i64 0] ⟨24, 0, true, 0, none⟩, .cells (bytesC (fieldL (upF (fun _ => true) (fun _ => false) n k))) ⟨5, 0, true, 0, none⟩, .cells [.int .i64 (n : Nat), .slice (some ⟨H.length + 1, 0, none⟩) (lon n) (lon n)] ⟨53, 0, true, 0, none⟩]⟩)
      (fun k => k ≤ n) (fun k => n - k) 0 ?_ (Nat.zero_le _) ?_
  · rw [upF_zero, range_const, ← zerosB_field]
    exact Weak.env (by simp [envIn, lk_cons, wth_some])
  intro k hk
  have hlen := upF_len (fun _ => true) (fun _ => false) n k
  have hfl := fieldL_len (upF (fun _ => true) (fun _ => false) n k)
  rw [hlen] at hfl
  by_cases hc : k < n
  · have hc' : (k : Int) < (n : Int) := by omega
    have hs := setB_field (l := upF (fun _ => true) (fun _ => false) n k) (i := k) (by rw [hlen]; exact hc) true
    have hs2 := upF_set (fun _ => true) (fun _ => false) n k hc
    rw [hs2] at hs
    have hS := fun H2 hi => set (n : Nat) (fieldL (upF (fun _ => true) (fun _ => false) n k)) (H.length + 1) (lon n) k ⟨5, 0, true, 0, none⟩ true H2 hi ⟨rfl, rfl⟩ (by rw [hfl]; unfold lon; omega) (by omega)
    rw [hfl, hs] at hS
    repeat first
      | with_reducible refine AWP.seq ?_
      | ((with_reducible refine AWP.region ?_ ?_); exact rfl)
      | with_reducible refine AWP.block ?_
      | with_reducible refine AWP.skip ?_
      | with_reducible refine AWP.exit ?_
      | with_reducible refine AWP.ret ?_
      | with_reducible refine AWP.label ?_
      | with_reducible refine AWP.goto ?_
      | ((with_reducible refine AWP.condT ?_ ?_); focus (simp only [ev, lk_cons, ↓reduceIte, Nat.reduceEqDiff]; done))
      | ((with_reducible refine AWP.condF ?_ ?_); focus (simp only [ev, lk_cons, ↓reduceIte, Nat.reduceEqDiff]; done))
      | with_reducible refine (hS _ (by with_unfolding_all first | exact (hget0 rfl).trans rfl | exact (hgetk rfl).trans rfl)).use ?_
      | simp only [go_sem, ↓reduceIte, Nat.reduceEqDiff, reduceCtorEq, Nat.reduceAdd, Int.reduceEq, Int.reduceBNe, Int.reduceBEq, Int.reduceToNat, Int.reduceLT, Int.reduceLE, Int.reduceGT, Int.reduceGE, Nat.reduceSub, Nat.reduceBEq, Nat.reduceBNe, Int.reduceAdd, Int.reduceSub, Int.reduceMul, Int.reduceNeg, Nat.reduceMul, Nat.reduceLeDiff, Nat.reduceLT, hc']
      | simp (disch := omega) only [wi64, wu8, wu16, wu32, wu64]
      | with_reducible_and_instances exact finR
      | ((with_reducible refine finR' ?_ ?_) <;> rfl)
      | ((with_reducible refine finD hsc (NRel.of_plain ?_)); exact rfl)
    exact ⟨k + 1, Weak.env (by simp [envIn, lk_cons, wth_some]), by omega, by omega⟩
  · have : k = n := by omega
    subst this
    have hc' : ¬ (k : Int) < (k : Int) := by omega
    rw [upF_all, range_const] at *
    have hle : lon k ≤ (fieldL (fullL k)).length := by rw [← hfl]; exact Nat.le_refl _
    have ht : List.take (lon k) (fieldL (fullL k)) = fieldL (fullL k) := List.take_of_length_le (by unfold fullL; omega)
    have e : List.replicate k true = fullL k := rfl
    rw [e]
    repeat first
      | with_reducible refine caughtR ?_
      | with_reducible refine AWP.seq ?_
      | ((with_reducible refine AWP.region ?_ ?_); exact rfl)
      | with_reducible refine AWP.block ?_
      | with_reducible refine AWP.skip ?_
      | with_reducible refine AWP.exit ?_
      | with_reducible refine AWP.ret ?_
      | with_reducible refine AWP.label ?_
      | with_reducible refine AWP.goto ?_
      | ((with_reducible refine AWP.condT ?_ ?_); focus (simp only [ev, lk_cons, ↓reduceIte, Nat.reduceEqDiff]; done))
      | ((with_reducible refine AWP.condF ?_ ?_); focus (simp only [ev, lk_cons, ↓reduceIte, Nat.reduceEqDiff]; done))
      | simp only [go_sem, ↓reduceIte, Nat.reduceEqDiff, reduceCtorEq, Nat.reduceAdd, Int.reduceEq, Int.reduceBNe, Int.reduceBEq, Int.reduceToNat, Int.reduceLT, Int.reduceLE, Int.reduceGT, Int.reduceGE, Nat.reduceSub, Nat.reduceBEq, Nat.reduceBNe, Int.reduceAdd, Int.reduceSub, Int.reduceMul, Int.reduceNeg, Nat.reduceMul, Nat.reduceLeDiff, Nat.reduceLT, hc', hle, ht]
      | simp (disch := omega) only [wi64, wu8, wu16, wu32, wu64]
      | with_reducible_and_instances exact finR
      | ((with_reducible refine finR' ?_ ?_) <;> rfl)
      | ((with_reducible refine finD hsc (NRel.of_plain ?_)); exact rfl)
theorem ofR_step {n : Nat} {l : List Int} {k : Nat} (hk : k < l.length) (b : List Bool) : ofR n (l.drop k) b = if l[k] < 0 ∨ (n : Int) ≤ l[k] then (7, []) else if b.getD (l[k]).toNat false = true then (6, []) else ofR n (l.drop (k + 1)) (b.set (l[k]).toNat true) := by
  rw [List.drop_eq_getElem_cons hk]; rfl
theorem intsC_get' {l : List Int} {k : Nat} (h : k < l.length) : (l.map (Value.int .i64))[k]? = some (.int .i64 l[k]) := by
  rw [List.getElem?_map, List.getElem?_eq_getElem h]; rfl
theorem OfA (n : Int) (h : ¬ okN n) (v : Value) (H : AHeap) : ARet Tryd.prog 32 [.int .i64 n, v] H (.tuple ⟨[.string (bs []), .int .i64 7]⟩) H := by
  have hE := fun H => emptyA n h H
  refine AC.enter Tryd.func32 rfl (by kernel_rfl) 36 rfl [.tmp 4, .cell 5 24] rfl (by simp) fun hsc B => ?_
  repeat first
    | with_reducible refine caughtP (by with_unfolding_all first | exact (hget0 rfl).trans rfl | exact (hgetk rfl).trans rfl) ?_
    | with_reducible refine AWP.seq ?_
    | ((with_reducible refine AWP.region ?_ ?_); exact rfl)
    | with_reducible refine AWP.block ?_
    | with_reducible refine AWP.skip ?_
    | with_reducible refine AWP.exit ?_
    | with_reducible refine AWP.ret ?_
    | with_reducible refine AWP.label ?_
    | with_reducible refine AWP.goto ?_
    | ((with_reducible refine AWP.condT ?_ ?_); focus (simp only [ev, lk_cons, ↓reduceIte, Nat.reduceEqDiff]; done))
    | ((with_reducible refine AWP.condF ?_ ?_); focus (simp only [ev, lk_cons, ↓reduceIte, Nat.reduceEqDiff]; done))
    | with_reducible refine (hE _).use ?_
    | simp only [go_sem, ↓reduceIte, Nat.reduceEqDiff, reduceCtorEq, Nat.reduceAdd, Int.reduceEq, Int.reduceBNe, Int.reduceBEq, Int.reduceToNat, Int.reduceLT, Int.reduceLE, Int.reduceGT, Int.reduceGE, Nat.reduceSub, Nat.reduceBEq, Nat.reduceBNe, Int.reduceAdd, Int.reduceSub, Int.reduceMul, Int.reduceNeg, Nat.reduceMul, Nat.reduceLeDiff, Nat.reduceLT]
    | simp (disch := omega) only [wi64, wu8, wu16, wu32, wu64]
    | with_reducible_and_instances exact finR
    | ((with_reducible refine finR' ?_ ?_) <;> rfl)
    | ((with_reducible refine finD hsc (NRel.of_plain ?_)); exact rfl)
theorem OfC (n : Nat) (h : n ≤ 4096) (l : List Int) (hl : l.length < 1099511627776) (v : Value) (H : AHeap) (hv : Rd H v (l.map (Value.int .i64))) : ARet Tryd.prog 32 [.int .i64 (n : Nat), v] H (.tuple ⟨[.string (bs (ofV n l).1), .int .i64 (ofV n l).2]⟩) H := by
  have hE := fun H => empty n h H
  have hlo := lon_le n
  have q1 : ∀ H' K, lenW Tryd.prog 38 v H' K = K (.int .i64 (l.length : Nat)) H' := fun H' K => by rw [hv.lenW Tryd.underlying38, List.length_map]
  refine AC.enter Tryd.func32 rfl (by kernel_rfl) 36 rfl [.tmp 4, .cell 5 24] rfl (by simp) fun hsc B => ?_
  repeat first
    | with_reducible refine AWP.seq ?_
    | ((with_reducible refine AWP.region ?_ ?_); exact rfl)
    | with_reducible refine AWP.block ?_
    | with_reducible refine AWP.skip ?_
    | with_reducible refine AWP.exit ?_
    | with_reducible refine AWP.ret ?_
    | with_reducible refine AWP.label ?_
    | with_reducible refine AWP.goto ?_
    | ((with_reducible refine AWP.condT ?_ ?_); focus (simp only [ev, lk_cons, ↓reduceIte, Nat.reduceEqDiff]; done))
    | ((with_reducible refine AWP.condF ?_ ?_); focus (simp only [ev, lk_cons, ↓reduceIte, Nat.reduceEqDiff]; done))
    | with_reducible refine (hE _).use ?_
    | simp only [go_sem, ↓reduceIte, Nat.reduceEqDiff, reduceCtorEq, Nat.reduceAdd, Int.reduceEq, Int.reduceBNe, Int.reduceBEq, Int.reduceToNat, Int.reduceLT, Int.reduceLE, Int.reduceGT, Int.reduceGE, Nat.reduceSub, Nat.reduceBEq, Nat.reduceBNe, Int.reduceAdd, Int.reduceSub, Int.reduceMul, Int.reduceNeg, Nat.reduceMul, Nat.reduceLeDiff, Nat.reduceLT, q1]
    | simp (disch := omega) only [wi64, wu8, wu16, wu32, wu64]
    | with_reducible_and_instances exact finR
    | ((with_reducible refine finR' ?_ ?_) <;> rfl)
    | ((with_reducible refine finD hsc (NRel.of_plain ?_)); exact rfl)
  refine AWP.loopP (fun p : Nat × List Bool => ⟨[(0, .int .i64 (n : Nat)), (4, .string (bs [])), (5, .pointer (some ⟨H.length, 0, none⟩)), (6, .pointer (some ⟨H.length + 2, 0, none⟩)), (11, v), (12, .int .i64 (l.length : Nat)), (13, .int .i64 (p.1 : Nat))], [.call (.func 55) [] [.pointer (some ⟨H.length, 0, none⟩)]],
      H ++ [.cells [.int .i64 0] ⟨24, 0, true, 0, none⟩, .cells (bytesC (fieldL p.2)) ⟨5, 0, true, 0, none⟩, .cells [.int .i64 (n : Nat), .slice (some ⟨H.length + 1, 0, none⟩) (lon n) (lon n)] ⟨53, 0, true, 0, none⟩]⟩)
      (fun p => p.1 ≤ l.length ∧ p.2.length = n ∧ ofR n (l.drop p.1) p.2 = ofR n l (List.replicate n false)) (fun p => l.length - p.1) (0, List.replicate n false) ?_ ⟨Nat.zero_le _, by simp, rfl⟩ ?_
  · rw [← zerosB_field]
    exact Weak.env (by simp [envIn, lk_cons, wth_some])
  rintro ⟨k, b⟩ ⟨hk, hbl, hof⟩
  simp only at hk hbl hof
  have hfl := fieldL_len b
  rw [hbl] at hfl
  by_cases hc : k < l.length
  · have hc' : (k : Int) < (l.length : Int) := by omega
    rcases hv with ⟨rfl, e1⟩ | ⟨i, o, cap, cs, kk, rfl, hi, hg⟩
    · have : l.length = 0 := by rw [← List.length_map (f := Value.int .i64), e1]; rfl
      omega
    have hil := lt_of_get hi
    have g1 : cs[o + k]? = some (.int .i64 l[k]) := by
      rw [hg k (by rw [List.length_map]; exact hc), intsC_get' hc]
    rw [ofR_step hc] at hof
    by_cases hx : l[k] < 0 ∨ (n : Int) ≤ l[k]
    · rw [if_pos hx] at hof
      have hR : ofV n l = ([], 7) := by unfold ofV; rw [← hof]; rfl
      rw [hR]
      by_cases h1 : l[k] < 0
      · repeat first
          | with_reducible refine caughtP (by with_unfolding_all first | exact (hget0 rfl).trans rfl | exact (hgetk rfl).trans rfl) ?_
          | with_reducible refine AWP.seq ?_
          | ((with_reducible refine AWP.region ?_ ?_); exact rfl)
          | with_reducible refine AWP.block ?_
          | with_reducible refine AWP.skip ?_
          | with_reducible refine AWP.exit ?_
          | with_reducible refine AWP.ret ?_
          | with_reducible refine AWP.label ?_
          | with_reducible refine AWP.goto ?_
          | ((with_reducible refine AWP.condT ?_ ?_); focus (simp only [ev, lk_cons, ↓reduceIte, Nat.reduceEqDiff]; done))
          | ((with_reducible refine AWP.condF ?_ ?_); focus (simp only [ev, lk_cons, ↓reduceIte, Nat.reduceEqDiff]; done))
          | with_reducible refine (failT _ _).use ?_
          | simp only [go_sem, ↓reduceIte, Nat.reduceEqDiff, reduceCtorEq, Nat.reduceAdd, Int.reduceEq, Int.reduceBNe, Int.reduceBEq, Int.reduceToNat, Int.reduceLT, Int.reduceLE, Int.reduceGT, Int.reduceGE, Nat.reduceSub, Nat.reduceBEq, Nat.reduceBNe, Int.reduceAdd, Int.reduceSub, Int.reduceMul, Int.reduceNeg, Nat.reduceMul, Nat.reduceLeDiff, Nat.reduceLT, hc', hi, hil, hgetl, g1, List.length_map, h1]
          | simp (disch := omega) only [wi64, wu8, wu16, wu32, wu64]
          | with_reducible_and_instances exact finR
          | ((with_reducible refine finR' ?_ ?_) <;> rfl)
          | ((with_reducible refine finD hsc (NRel.of_plain ?_)); exact rfl)
      · have h2 : l[k] ≥ (n : Int) := by omega
        repeat first
          | with_reducible refine caughtP (by with_unfolding_all first | exact (hget0 rfl).trans rfl | exact (hgetk rfl).trans rfl) ?_
          | with_reducible refine AWP.seq ?_
          | ((with_reducible refine AWP.region ?_ ?_); exact rfl)
          | with_reducible refine AWP.block ?_
          | with_reducible refine AWP.skip ?_
          | with_reducible refine AWP.exit ?_
          | with_reducible refine AWP.ret ?_
          | with_reducible refine AWP.label ?_
          | with_reducible refine AWP.goto ?_
          | ((with_reducible refine AWP.condT ?_ ?_); focus (simp only [ev, lk_cons, ↓reduceIte, Nat.reduceEqDiff]; done))
          | ((with_reducible refine AWP.condF ?_ ?_); focus (simp only [ev, lk_cons, ↓reduceIte, Nat.reduceEqDiff]; done))
          | with_reducible refine (failT _ _).use ?_
          | simp only [go_sem, ↓reduceIte, Nat.reduceEqDiff, reduceCtorEq, Nat.reduceAdd, Int.reduceEq, Int.reduceBNe, Int.reduceBEq, Int.reduceToNat, Int.reduceLT, Int.reduceLE, Int.reduceGT, Int.reduceGE, Nat.reduceSub, Nat.reduceBEq, Nat.reduceBNe, Int.reduceAdd, Int.reduceSub, Int.reduceMul, Int.reduceNeg, Nat.reduceMul, Nat.reduceLeDiff, Nat.reduceLT, hc', hi, hil, hgetl, g1, List.length_map, h1, h2]
          | simp (disch := omega) only [wi64, wu8, wu16, wu32, wu64]
          | with_reducible_and_instances exact finR
          | ((with_reducible refine finR' ?_ ?_) <;> rfl)
          | ((with_reducible refine finD hsc (NRel.of_plain ?_)); exact rfl)
    · rw [if_neg hx] at hof
      have h1 : ¬ l[k] < 0 := by omega
      have h2 : ¬ l[k] ≥ (n : Int) := by omega
      obtain ⟨m, hm⟩ : ∃ m : Nat, l[k] = m := ⟨l[k].toNat, by omega⟩
      rw [hm] at g1 h1 h2 hof
      rw [Int.toNat_natCast] at hof
      have hm8 : m / 8 < (fieldL b).length := by rw [hfl]; unfold lon; omega
      have hB := bitAt_field b m
      have hH := fun H2 hi => has (n : Nat) (fieldL b) (H.length + 1) (lon n) m ⟨5, 0, true, 0, none⟩ H2 hi hm8 (by omega)
      rw [hB, hfl] at hH
      cases hb : b.getD m false
      · rw [hb, if_neg (by simp)] at hof
        rw [hb] at hH
        have hS := fun H2 hi => set (n : Nat) (fieldL b) (H.length + 1) (lon n) m ⟨5, 0, true, 0, none⟩ true H2 hi ⟨rfl, rfl⟩ hm8 (by omega)
        rw [hfl, setB_field (by omega)] at hS
        repeat first
          | with_reducible refine AWP.seq ?_
          | ((with_reducible refine AWP.region ?_ ?_); exact rfl)
          | with_reducible refine AWP.block ?_
          | with_reducible refine AWP.skip ?_
          | with_reducible refine AWP.exit ?_
          | with_reducible refine AWP.ret ?_
          | with_reducible refine AWP.label ?_
          | with_reducible refine AWP.goto ?_
          | ((with_reducible refine AWP.condT ?_ ?_); focus (simp only [ev, lk_cons, ↓reduceIte, Nat.reduceEqDiff]; done))
          | ((with_reducible refine AWP.condF ?_ ?_); focus (simp only [ev, lk_cons, ↓reduceIte, Nat.reduceEqDiff]; done))
          | with_reducible refine (failF _ _).use ?_
          | with_reducible refine (hH _ (by with_unfolding_all first | exact (hget0 rfl).trans rfl | exact (hgetk rfl).trans rfl)).use ?_
          | with_reducible refine (hS _ (by with_unfolding_all first | exact (hget0 rfl).trans rfl | exact (hgetk rfl).trans rfl)).use ?_
          | simp only [go_sem, ↓reduceIte, Nat.reduceEqDiff, reduceCtorEq, Nat.reduceAdd, Int.reduceEq, Int.reduceBNe, Int.reduceBEq, Int.reduceToNat, Int.reduceLT, Int.reduceLE, Int.reduceGT, Int.reduceGE, Nat.reduceSub, Nat.reduceBEq, Nat.reduceBNe, Int.reduceAdd, Int.reduceSub, Int.reduceMul, Int.reduceNeg, Nat.reduceMul, Nat.reduceLeDiff, Nat.reduceLT, hc', hi, hil, hgetl, g1, List.length_map, h1, h2]
          | simp (disch := omega) only [wi64, wu8, wu16, wu32, wu64]
          | with_reducible_and_instances exact finR
          | ((with_reducible refine finR' ?_ ?_) <;> rfl)
          | ((with_reducible refine finD hsc (NRel.of_plain ?_)); exact rfl)
        exact ⟨(k + 1, b.set m true), Weak.env (by simp [envIn, lk_cons, wth_some]), by omega, by simp [hbl], hof, by simp; omega⟩
      · rw [hb, if_pos rfl] at hof
        rw [hb] at hH
        have hR : ofV n l = ([], 6) := by unfold ofV; rw [← hof]; rfl
        rw [hR]
        repeat first
          | with_reducible refine caughtP (by with_unfolding_all first | exact (hget0 rfl).trans rfl | exact (hgetk rfl).trans rfl) ?_
          | with_reducible refine AWP.seq ?_
          | ((with_reducible refine AWP.region ?_ ?_); exact rfl)
          | with_reducible refine AWP.block ?_
          | with_reducible refine AWP.skip ?_
          | with_reducible refine AWP.exit ?_
          | with_reducible refine AWP.ret ?_
          | with_reducible refine AWP.label ?_
          | with_reducible refine AWP.goto ?_
          | ((with_reducible refine AWP.condT ?_ ?_); focus (simp only [ev, lk_cons, ↓reduceIte, Nat.reduceEqDiff]; done))
          | ((with_reducible refine AWP.condF ?_ ?_); focus (simp only [ev, lk_cons, ↓reduceIte, Nat.reduceEqDiff]; done))
          | with_reducible refine (failF _ _).use ?_
          | with_reducible refine (failT _ _).use ?_
          | with_reducible refine (hH _ (by with_unfolding_all first | exact (hget0 rfl).trans rfl | exact (hgetk rfl).trans rfl)).use ?_
          | simp only [go_sem, ↓reduceIte, Nat.reduceEqDiff, reduceCtorEq, Nat.reduceAdd, Int.reduceEq, Int.reduceBNe, Int.reduceBEq, Int.reduceToNat, Int.reduceLT, Int.reduceLE, Int.reduceGT, Int.reduceGE, Nat.reduceSub, Nat.reduceBEq, Nat.reduceBNe, Int.reduceAdd, Int.reduceSub, Int.reduceMul, Int.reduceNeg, Nat.reduceMul, Nat.reduceLeDiff, Nat.reduceLT, hc', hi, hil, hgetl, g1, List.length_map, h1, h2]
          | simp (disch := omega) only [wi64, wu8, wu16, wu32, wu64]
          | with_reducible_and_instances exact finR
          | ((with_reducible refine finR' ?_ ?_) <;> rfl)
          | ((with_reducible refine finD hsc (NRel.of_plain ?_)); exact rfl)
  · have : k = l.length := by omega
    subst this
    have hc' : ¬ (l.length : Int) < (l.length : Int) := by omega
    have hR : ofV n l = (fieldL b, 0) := by unfold ofV; rw [← hof, List.drop_length]; rfl
    rw [hR]
    have hle : lon n ≤ (fieldL b).length := by rw [hfl]; exact Nat.le_refl _
    have ht : List.take (lon n) (fieldL b) = fieldL b := List.take_of_length_le (by omega)
    repeat first
      | with_reducible refine caughtR ?_
      | with_reducible refine AWP.seq ?_
      | ((with_reducible refine AWP.region ?_ ?_); exact rfl)
      | with_reducible refine AWP.block ?_
      | with_reducible refine AWP.skip ?_
      | with_reducible refine AWP.exit ?_
      | with_reducible refine AWP.ret ?_
      | with_reducible refine AWP.label ?_
      | with_reducible refine AWP.goto ?_
      | ((with_reducible refine AWP.condT ?_ ?_); focus (simp only [ev, lk_cons, ↓reduceIte, Nat.reduceEqDiff]; done))
      | ((with_reducible refine AWP.condF ?_ ?_); focus (simp only [ev, lk_cons, ↓reduceIte, Nat.reduceEqDiff]; done))
      | simp only [go_sem, ↓reduceIte, Nat.reduceEqDiff, reduceCtorEq, Nat.reduceAdd, Int.reduceEq, Int.reduceBNe, Int.reduceBEq, Int.reduceToNat, Int.reduceLT, Int.reduceLE, Int.reduceGT, Int.reduceGE, Nat.reduceSub, Nat.reduceBEq, Nat.reduceBNe, Int.reduceAdd, Int.reduceSub, Int.reduceMul, Int.reduceNeg, Nat.reduceMul, Nat.reduceLeDiff, Nat.reduceLT, hc', hle, ht]
      | simp (disch := omega) only [wi64, wu8, wu16, wu32, wu64]
      | with_reducible_and_instances exact finR
      | ((with_reducible refine finR' ?_ ?_) <;> rfl)
      | ((with_reducible refine finD hsc (NRel.of_plain ?_)); exact rfl)
theorem rOfA (n : Int) (h : ¬ okN n) (v : Value) (H : AHeap) : ARet Tryd.prog 33 [.int .i64 n, v] H (.tuple ⟨[.string (bs []), .int .i64 7]⟩) H := by
  have hR := fun H => rright n H
  simp only [decide_eq_false h] at hR
  refine AC.enter Tryd.func33 rfl (by kernel_rfl) 37 rfl [.tmp 4, .tmp 5] rfl (by simp) fun hsc B => ?_
  repeat first
    | with_reducible refine AWP.seq ?_
    | ((with_reducible refine AWP.region ?_ ?_); exact rfl)
    | with_reducible refine AWP.block ?_
    | with_reducible refine AWP.skip ?_
    | with_reducible refine AWP.exit ?_
    | with_reducible refine AWP.ret ?_
    | with_reducible refine AWP.label ?_
    | with_reducible refine AWP.goto ?_
    | ((with_reducible refine AWP.condT ?_ ?_); focus (simp only [ev, lk_cons, ↓reduceIte, Nat.reduceEqDiff]; done))
    | ((with_reducible refine AWP.condF ?_ ?_); focus (simp only [ev, lk_cons, ↓reduceIte, Nat.reduceEqDiff]; done))
    | with_reducible refine (hR _).use ?_
    | simp only [go_sem, ↓reduceIte, Nat.reduceEqDiff, reduceCtorEq, Nat.reduceAdd, Int.reduceEq, Int.reduceBNe, Int.reduceBEq, Int.reduceToNat, Int.reduceLT, Int.reduceLE, Int.reduceGT, Int.reduceGE, Nat.reduceSub, Nat.reduceBEq, Nat.reduceBNe, Int.reduceAdd, Int.reduceSub, Int.reduceMul, Int.reduceNeg, Nat.reduceMul, Nat.reduceLeDiff, Nat.reduceLT]
    | simp (disch := omega) only [wi64, wu8, wu16, wu32, wu64]
    | with_reducible_and_instances exact finR
    | ((with_reducible refine finR' ?_ ?_) <;> rfl)
    | ((with_reducible refine finD hsc (NRel.of_plain ?_)); exact rfl)
theorem rOfC (n : Nat) (h : n ≤ 4096) (l : List Int) (hl : l.length < 1099511627776) (v : Value) (H : AHeap) (hv : Rd H v (l.map (Value.int .i64))) : ARet Tryd.prog 33 [.int .i64 (n : Nat), v] H (.tuple ⟨[.string (bs (ofV n l).1), .int .i64 (ofV n l).2]⟩) H := by
  have hR := fun H => rrightC n h H
  have q1 : ∀ H' K, lenW Tryd.prog 38 v H' K = K (.int .i64 (l.length : Nat)) H' := fun H' K => by rw [hv.lenW Tryd.underlying38, List.length_map]
  refine AC.enter Tryd.func33 rfl (by kernel_rfl) 37 rfl [.tmp 4, .tmp 5] rfl (by simp) fun hsc B => ?_
  repeat first
    | with_reducible refine AWP.seq ?_
    | ((with_reducible refine AWP.region ?_ ?_); exact rfl)
    | with_reducible refine AWP.block ?_
    | with_reducible refine AWP.skip ?_
    | with_reducible refine AWP.exit ?_
    | with_reducible refine AWP.ret ?_
    | with_reducible refine AWP.label ?_
    | with_reducible refine AWP.goto ?_
    | ((with_reducible refine AWP.condT ?_ ?_); focus (simp only [ev, lk_cons, ↓reduceIte, Nat.reduceEqDiff]; done))
    | ((with_reducible refine AWP.condF ?_ ?_); focus (simp only [ev, lk_cons, ↓reduceIte, Nat.reduceEqDiff]; done))
    | with_reducible refine (hR _).use ?_
    | simp only [go_sem, ↓reduceIte, Nat.reduceEqDiff, reduceCtorEq, Nat.reduceAdd, Int.reduceEq, Int.reduceBNe, Int.reduceBEq, Int.reduceToNat, Int.reduceLT, Int.reduceLE, Int.reduceGT, Int.reduceGE, Nat.reduceSub, Nat.reduceBEq, Nat.reduceBNe, Int.reduceAdd, Int.reduceSub, Int.reduceMul, Int.reduceNeg, Nat.reduceMul, Nat.reduceLeDiff, Nat.reduceLT, q1, makeSliceW, repZ_one, boolsC_falses]
    | simp (disch := omega) only [wi64, wu8, wu16, wu32, wu64]
    | with_reducible_and_instances exact finR
    | ((with_reducible refine finR' ?_ ?_) <;> rfl)
    | ((with_reducible refine finD hsc (NRel.of_plain ?_)); exact rfl)
  refine ⟨by omega, by omega, by omega, ?_⟩
  repeat first
    | with_reducible refine AWP.seq ?_
    | ((with_reducible refine AWP.region ?_ ?_); exact rfl)
    | with_reducible refine AWP.block ?_
    | with_reducible refine AWP.skip ?_
    | with_reducible refine AWP.exit ?_
    | with_reducible refine AWP.ret ?_
    | with_reducible refine AWP.label ?_
    | with_reducible refine AWP.goto ?_
    | ((with_reducible refine AWP.condT ?_ ?_); focus (simp only [ev, lk_cons, ↓reduceIte, Nat.reduceEqDiff]; done))
    | ((with_reducible refine AWP.condF ?_ ?_); focus (simp only [ev, lk_cons, ↓reduceIte, Nat.reduceEqDiff]; done))
    | simp only [go_sem, ↓reduceIte, Nat.reduceEqDiff, reduceCtorEq, Nat.reduceAdd, Int.reduceEq, Int.reduceBNe, Int.reduceBEq, Int.reduceToNat, Int.reduceLT, Int.reduceLE, Int.reduceGT, Int.reduceGE, Nat.reduceSub, Nat.reduceBEq, Nat.reduceBNe, Int.reduceAdd, Int.reduceSub, Int.reduceMul, Int.reduceNeg, Nat.reduceMul, Nat.reduceLeDiff, Nat.reduceLT, q1]
    | simp (disch := omega) only [wi64, wu8, wu16, wu32, wu64]
    | with_reducible_and_instances exact finR
    | ((with_reducible refine finR' ?_ ?_) <;> rfl)
    | ((with_reducible refine finD hsc (NRel.of_plain ?_)); exact rfl)
  refine AWP.loopP (fun p : Nat × List Bool => ⟨[(0, .int .i64 (n : Nat)), (4, .string (bs [])), (6, .slice (some ⟨H.length, 0, none⟩) n n), (14, v), (15, .int .i64 (l.length : Nat)), (16, .int .i64 (p.1 : Nat))], [],
      H ++ [.cells (boolsC p.2) ⟨4, 0, true, 0, none⟩]⟩)
      (fun p => p.1 ≤ l.length ∧ p.2.length = n ∧ ofR n (l.drop p.1) p.2 = ofR n l (List.replicate n false)) (fun p => l.length - p.1) (0, List.replicate n false) ?_ ⟨Nat.zero_le _, by simp, rfl⟩ ?_
  · exact Weak.env (by simp [envIn, lk_cons, wth_some])
  rintro ⟨k, b⟩ ⟨hk, hbl, hof⟩
  simp only at hk hbl hof
  by_cases hc : k < l.length
  · have hc' : (k : Int) < (l.length : Int) := by omega
    rcases hv with ⟨rfl, e1⟩ | ⟨i, o, cap, cs, kk, rfl, hi, hg⟩
    · have : l.length = 0 := by rw [← List.length_map (f := Value.int .i64), e1]; rfl
      omega
    have hil := lt_of_get hi
    have g1 : cs[o + k]? = some (.int .i64 l[k]) := by
      rw [hg k (by rw [List.length_map]; exact hc), intsC_get' hc]
    rw [ofR_step hc] at hof
    by_cases hx : l[k] < 0 ∨ (n : Int) ≤ l[k]
    · rw [if_pos hx] at hof
      have hR : ofV n l = ([], 7) := by unfold ofV; rw [← hof]; rfl
      rw [hR]
      by_cases h1 : l[k] < 0
      · repeat first
          | with_reducible refine AWP.seq ?_
          | ((with_reducible refine AWP.region ?_ ?_); exact rfl)
          | with_reducible refine AWP.block ?_
          | with_reducible refine AWP.skip ?_
          | with_reducible refine AWP.exit ?_
          | with_reducible refine AWP.ret ?_
          | with_reducible refine AWP.label ?_
          | with_reducible refine AWP.goto ?_
          | ((with_reducible refine AWP.condT ?_ ?_); focus (simp only [ev, lk_cons, ↓reduceIte, Nat.reduceEqDiff]; done))
          | ((with_reducible refine AWP.condF ?_ ?_); focus (simp only [ev, lk_cons, ↓reduceIte, Nat.reduceEqDiff]; done))
          | simp only [go_sem, ↓reduceIte, Nat.reduceEqDiff, reduceCtorEq, Nat.reduceAdd, Int.reduceEq, Int.reduceBNe, Int.reduceBEq, Int.reduceToNat, Int.reduceLT, Int.reduceLE, Int.reduceGT, Int.reduceGE, Nat.reduceSub, Nat.reduceBEq, Nat.reduceBNe, Int.reduceAdd, Int.reduceSub, Int.reduceMul, Int.reduceNeg, Nat.reduceMul, Nat.reduceLeDiff, Nat.reduceLT, hc', hi, hil, hgetl, g1, List.length_map, h1]
          | simp (disch := omega) only [wi64, wu8, wu16, wu32, wu64]
          | with_reducible_and_instances exact finR
          | ((with_reducible refine finR' ?_ ?_) <;> rfl)
          | ((with_reducible refine finD hsc (NRel.of_plain ?_)); exact rfl)
      · have h2 : l[k] ≥ (n : Int) := by omega
        repeat first
          | with_reducible refine AWP.seq ?_
          | ((with_reducible refine AWP.region ?_ ?_); exact rfl)
          | with_reducible refine AWP.block ?_
          | with_reducible refine AWP.skip ?_
          | with_reducible refine AWP.exit ?_
          | with_reducible refine AWP.ret ?_
          | with_reducible refine AWP.label ?_
          | with_reducible refine AWP.goto ?_
          | ((with_reducible refine AWP.condT ?_ ?_); focus (simp only [ev, lk_cons, ↓reduceIte, Nat.reduceEqDiff]; done))
          | ((with_reducible refine AWP.condF ?_ ?_); focus (simp only [ev, lk_cons, ↓reduceIte, Nat.reduceEqDiff]; done))
          | simp only [go_sem, ↓reduceIte, Nat.reduceEqDiff, reduceCtorEq, Nat.reduceAdd, Int.reduceEq, Int.reduceBNe, Int.reduceBEq, Int.reduceToNat, Int.reduceLT, Int.reduceLE, Int.reduceGT, Int.reduceGE, Nat.reduceSub, Nat.reduceBEq, Nat.reduceBNe, Int.reduceAdd, Int.reduceSub, Int.reduceMul, Int.reduceNeg, Nat.reduceMul, Nat.reduceLeDiff, Nat.reduceLT, hc', hi, hil, hgetl, g1, List.length_map, h1, h2]
          | simp (disch := omega) only [wi64, wu8, wu16, wu32, wu64]
          | with_reducible_and_instances exact finR
          | ((with_reducible refine finR' ?_ ?_) <;> rfl)
          | ((with_reducible refine finD hsc (NRel.of_plain ?_)); exact rfl)
    · rw [if_neg hx] at hof
      have h1 : ¬ l[k] < 0 := by omega
      have h2 : ¬ l[k] ≥ (n : Int) := by omega
      obtain ⟨m, hm⟩ : ∃ m : Nat, l[k] = m := ⟨l[k].toNat, by omega⟩
      rw [hm] at g1 h1 h2 hof
      rw [Int.toNat_natCast] at hof
      have h3 : (m : Int) < (n : Int) := by omega
      have h4 : m + 1 ≤ n := by omega
      have gb : b[m]? = some (b.getD m false) := by rw [List.getD_eq_getElem?_getD, List.getElem?_eq_getElem (by omega)]; rfl
      cases hb : b.getD m false
      · rw [hb, if_neg (by simp)] at hof
        rw [hb] at gb
        repeat first
          | with_reducible refine AWP.seq ?_
          | ((with_reducible refine AWP.region ?_ ?_); exact rfl)
          | with_reducible refine AWP.block ?_
          | with_reducible refine AWP.skip ?_
          | with_reducible refine AWP.exit ?_
          | with_reducible refine AWP.ret ?_
          | with_reducible refine AWP.label ?_
          | with_reducible refine AWP.goto ?_
          | ((with_reducible refine AWP.condT ?_ ?_); focus (simp only [ev, lk_cons, ↓reduceIte, Nat.reduceEqDiff]; done))
          | ((with_reducible refine AWP.condF ?_ ?_); focus (simp only [ev, lk_cons, ↓reduceIte, Nat.reduceEqDiff]; done))
          | simp only [go_sem, ↓reduceIte, Nat.reduceEqDiff, reduceCtorEq, Nat.reduceAdd, Int.reduceEq, Int.reduceBNe, Int.reduceBEq, Int.reduceToNat, Int.reduceLT, Int.reduceLE, Int.reduceGT, Int.reduceGE, Nat.reduceSub, Nat.reduceBEq, Nat.reduceBNe, Int.reduceAdd, Int.reduceSub, Int.reduceMul, Int.reduceNeg, Nat.reduceMul, Nat.reduceLeDiff, Nat.reduceLT, hc', hi, hil, hgetl, g1, List.length_map, h1, h2, h3, h4, gb, boolsC_get, boolsC_set, boolsC_length, hbl]
          | simp (disch := omega) only [wi64, wu8, wu16, wu32, wu64]
          | with_reducible_and_instances exact finR
          | ((with_reducible refine finR' ?_ ?_) <;> rfl)
          | ((with_reducible refine finD hsc (NRel.of_plain ?_)); exact rfl)
        exact ⟨(k + 1, b.set m true), Weak.env (by simp [envIn, lk_cons, wth_some]), by omega, by simp [hbl], hof, by simp; omega⟩
      · rw [hb, if_pos rfl] at hof
        rw [hb] at gb
        have hR : ofV n l = ([], 6) := by unfold ofV; rw [← hof]; rfl
        rw [hR]
        repeat first
          | with_reducible refine AWP.seq ?_
          | ((with_reducible refine AWP.region ?_ ?_); exact rfl)
          | with_reducible refine AWP.block ?_
          | with_reducible refine AWP.skip ?_
          | with_reducible refine AWP.exit ?_
          | with_reducible refine AWP.ret ?_
          | with_reducible refine AWP.label ?_
          | with_reducible refine AWP.goto ?_
          | ((with_reducible refine AWP.condT ?_ ?_); focus (simp only [ev, lk_cons, ↓reduceIte, Nat.reduceEqDiff]; done))
          | ((with_reducible refine AWP.condF ?_ ?_); focus (simp only [ev, lk_cons, ↓reduceIte, Nat.reduceEqDiff]; done))
          | simp only [go_sem, ↓reduceIte, Nat.reduceEqDiff, reduceCtorEq, Nat.reduceAdd, Int.reduceEq, Int.reduceBNe, Int.reduceBEq, Int.reduceToNat, Int.reduceLT, Int.reduceLE, Int.reduceGT, Int.reduceGE, Nat.reduceSub, Nat.reduceBEq, Nat.reduceBNe, Int.reduceAdd, Int.reduceSub, Int.reduceMul, Int.reduceNeg, Nat.reduceMul, Nat.reduceLeDiff, Nat.reduceLT, hc', hi, hil, hgetl, g1, List.length_map, h1, h2, h3, gb, boolsC_get]
          | simp (disch := omega) only [wi64, wu8, wu16, wu32, wu64]
          | with_reducible_and_instances exact finR
          | ((with_reducible refine finR' ?_ ?_) <;> rfl)
          | ((with_reducible refine finD hsc (NRel.of_plain ?_)); exact rfl)
  · have : k = l.length := by omega
    subst this
    have hc' : ¬ (l.length : Int) < (l.length : Int) := by omega
    have hR : ofV n l = (fieldL b, 0) := by unfold ofV; rw [← hof, List.drop_length]; rfl
    rw [hR]
    have hF := fun v H hh => rField b (by omega) v H hh
    repeat first
      | with_reducible refine AWP.seq ?_
      | ((with_reducible refine AWP.region ?_ ?_); exact rfl)
      | with_reducible refine AWP.block ?_
      | with_reducible refine AWP.skip ?_
      | with_reducible refine AWP.exit ?_
      | with_reducible refine AWP.ret ?_
      | with_reducible refine AWP.label ?_
      | with_reducible refine AWP.goto ?_
      | ((with_reducible refine AWP.condT ?_ ?_); focus (simp only [ev, lk_cons, ↓reduceIte, Nat.reduceEqDiff]; done))
      | ((with_reducible refine AWP.condF ?_ ?_); focus (simp only [ev, lk_cons, ↓reduceIte, Nat.reduceEqDiff]; done))
      | with_reducible refine (hF _ _ (.cells (by with_unfolding_all first | exact (hget0 rfl).trans rfl | exact (hgetk rfl).trans rfl) (by simp [boolsC_length, hbl]))).use ?_
      | simp only [go_sem, ↓reduceIte, Nat.reduceEqDiff, reduceCtorEq, Nat.reduceAdd, Int.reduceEq, Int.reduceBNe, Int.reduceBEq, Int.reduceToNat, Int.reduceLT, Int.reduceLE, Int.reduceGT, Int.reduceGE, Nat.reduceSub, Nat.reduceBEq, Nat.reduceBNe, Int.reduceAdd, Int.reduceSub, Int.reduceMul, Int.reduceNeg, Nat.reduceMul, Nat.reduceLeDiff, Nat.reduceLT, hc']
      | simp (disch := omega) only [wi64, wu8, wu16, wu32, wu64]
      | with_reducible_and_instances exact finR
      | ((with_reducible refine finR' ?_ ?_) <;> rfl)
      | ((with_reducible refine finD hsc (NRel.of_plain ?_)); exact rfl)
end Go.Proofs.YtbdlomkogpnkpaaDoor
