/-
  The walk of the specification's texts of runs: Digits, Text.
-/
import Derived.Test.YtbdlomkogpnkpaaDoorMT
set_option linter.unusedVariables false
set_option linter.unusedSimpArgs false
set_option maxRecDepth 20000
set_option maxHeartbeats 1000000
namespace Go.Proofs.YtbdlomkogpnkpaaDoor
open Go Go.Aw Go.Proofs Go.Shelf Go.RowKit Go.ChangeShapes
def digV (s : List UInt8) : Int := match numO s with
  | some v => (v : Nat)
  | none => -1
theorem digV_none {s : List UInt8} (h : numO s = none) : digV s = -1 := by unfold digV; rw [h]
theorem digV_some {s : List UInt8} {v : Nat} (h : numO s = some v) : digV s = (v : Nat) := by unfold digV; rw [h]
theorem rDigits (s : List UInt8) (hs : s.length ≤ 65536) (H : AHeap) : ARet Tryd.prog 73 [.string (bs s), .int .i64 4096] H (.int .i64 (digV s)) H := by
  cases s0 : s with
  | nil =>
    rw [digV_none numO_nil]
    refine AC.enter Tryd.func73 rfl (by kernel_rfl) 52 rfl [.tmp 4] rfl (by simp) fun hsc B => ?_
    repeat first
      | with_reducible refine AWP.seq ?_
      | ((with_reducible refine AWP.region ?_ ?_); exact rfl)
      | with_reducible refine AWP.block ?_
      | with_reducible refine AWP.skip ?_
      | with_reducible refine AWP.exit ?_
      | with_reducible refine AWP.ret ?_
      | with_reducible refine AWP.label ?_
      | with_reducible refine AWP.goto ?_
      | ((with_reducible refine AWP.condT ?_ ?_); focus (simp only [ev, lk_cons, ↓reduceIte, Nat.reduceEqDiff]; done))
      | ((with_reducible refine AWP.condF ?_ ?_); focus (simp only [ev, lk_cons, ↓reduceIte, Nat.reduceEqDiff]; done))
      | simp only [go_sem, ↓reduceIte, Nat.reduceEqDiff, reduceCtorEq, Nat.reduceAdd, Int.reduceEq, Int.reduceBNe, Int.reduceBEq, Int.reduceToNat, Int.reduceLT, Int.reduceLE, Int.reduceGT, Int.reduceGE, Nat.reduceSub, Nat.reduceBEq, Nat.reduceBNe, Int.reduceAdd, Int.reduceSub, Int.reduceMul, Int.reduceNeg, Nat.reduceMul, Nat.reduceLeDiff, Nat.reduceLT]
      | simp (disch := omega) only [wi64, wu8, wu16, wu32, wu64]
      | with_reducible_and_instances exact finR
      | ((with_reducible refine finR' ?_ ?_) <;> rfl)
      | ((with_reducible refine finD hsc (NRel.of_plain ?_)); exact rfl)
  | cons c0 r0 =>
    rw [← s0]
    have hl0 : 0 < s.length := by rw [s0]; simp
    have hg0 : s[0]? = some c0 := by rw [s0]; rfl
    have hne : (s == []) = false := by rw [s0]; rfl
    by_cases hz : c0 = 48 ∧ 1 < s.length
    · obtain ⟨hz1, hz2⟩ := hz
      have hz' : (((c0.toNat : Nat) : Int) == 48) = true := by rw [hz1]; rfl
      have hz2' : (s.length : Int) > 1 := by omega
      rw [digV_none (numO_zero (by rw [hg0, hz1]) hz2)]
      refine AC.enter Tryd.func73 rfl (by kernel_rfl) 52 rfl [.tmp 4] rfl (by simp) fun hsc B => ?_
      repeat first
        | with_reducible refine AWP.seq ?_
        | ((with_reducible refine AWP.region ?_ ?_); exact rfl)
        | with_reducible refine AWP.block ?_
        | with_reducible refine AWP.skip ?_
        | with_reducible refine AWP.exit ?_
        | with_reducible refine AWP.ret ?_
        | with_reducible refine AWP.label ?_
        | with_reducible refine AWP.goto ?_
        | ((with_reducible refine AWP.condT ?_ ?_); focus (simp only [ev, lk_cons, ↓reduceIte, Nat.reduceEqDiff]; done))
        | ((with_reducible refine AWP.condF ?_ ?_); focus (simp only [ev, lk_cons, ↓reduceIte, Nat.reduceEqDiff]; done))
        | simp only [go_sem, ↓reduceIte, Nat.reduceEqDiff, reduceCtorEq, Nat.reduceAdd, Int.reduceEq, Int.reduceBNe, Int.reduceBEq, Int.reduceToNat, Int.reduceLT, Int.reduceLE, Int.reduceGT, Int.reduceGE, Nat.reduceSub, Nat.reduceBEq, Nat.reduceBNe, Int.reduceAdd, Int.reduceSub, Int.reduceMul, Int.reduceNeg, Nat.reduceMul, Nat.reduceLeDiff, Nat.reduceLT, hne, hg0, hz', hz2']
        | simp (disch := omega) only [wi64, wu8, wu16, wu32, wu64]
        | with_reducible_and_instances exact finR
        | ((with_reducible refine finR' ?_ ?_) <;> rfl)
        | ((with_reducible refine finD hsc (NRel.of_plain ?_)); exact rfl)
    · have hzz : s[0]? = some 48 → s.length = 1 := fun e => by
        rw [hg0] at e
        have : c0 = 48 := Option.some.inj e
        have : ¬ 1 < s.length := fun h => hz ⟨this, h⟩
        omega
      by_cases hb0 : c0 = 48
      · have hb : (((c0.toNat : Nat) : Int) == 48) = true := by rw [hb0]; rfl
        have hb3 : ¬ (s.length : Int) > 1 := fun hl => hz ⟨hb0, by omega⟩
        refine AC.enter Tryd.func73 rfl (by kernel_rfl) 52 rfl [.tmp 4] rfl (by simp) fun hsc B => ?_
        repeat first
          | with_reducible refine AWP.seq ?_
          | ((with_reducible refine AWP.region ?_ ?_); exact rfl)
          | with_reducible refine AWP.block ?_
          | with_reducible refine AWP.skip ?_
          | with_reducible refine AWP.exit ?_
          | with_reducible refine AWP.ret ?_
          | with_reducible refine AWP.label ?_
          | with_reducible refine AWP.goto ?_
          | ((with_reducible refine AWP.condT ?_ ?_); focus (simp only [ev, lk_cons, ↓reduceIte, Nat.reduceEqDiff]; done))
          | ((with_reducible refine AWP.condF ?_ ?_); focus (simp only [ev, lk_cons, ↓reduceIte, Nat.reduceEqDiff]; done))
          | simp only [go_sem, ↓reduceIte, Nat.reduceEqDiff, reduceCtorEq, Nat.reduceAdd, Int.reduceEq, Int.reduceBNe, Int.reduceBEq, Int.reduceToNat, Int.reduceLT, Int.reduceLE, Int.reduceGT, Int.reduceGE, Nat.reduceSub, Nat.reduceBEq, Nat.reduceBNe, Int.reduceAdd, Int.reduceSub, Int.reduceMul, Int.reduceNeg, Nat.reduceMul, Nat.reduceLeDiff, Nat.reduceLT, hne, hg0, hb, hb3]
          | simp (disch := omega) only [wi64, wu8, wu16, wu32, wu64]
          | with_reducible_and_instances exact finR
          | ((with_reducible refine finR' ?_ ?_) <;> rfl)
          | ((with_reducible refine finD hsc (NRel.of_plain ?_)); exact rfl)
        refine AWP.loopP (fun k : Nat => ⟨[(0, .string (bs s)), (1, .int .i64 4096), (5, .int .i64 (hor 0 (s.take k) : Nat)), (21, .int .i64 (s.length : Nat)), (22, .int .i64 (k : Nat))], [], H⟩)
          (fun k => k ≤ s.length ∧ (∀ c ∈ s.take k, 48 ≤ c.toNat ∧ c.toNat ≤ 57) ∧ hor 0 (s.take k) ≤ 4096) (fun k => s.length - k) 0 ?_ ⟨Nat.zero_le _, by simp, by simp [hor]⟩ ?_
        · exact Weak.env (by simp [envIn, lk_cons, wth_some, hor])
        intro k hkk
        obtain ⟨hk, hd, hm⟩ := hkk
        by_cases hc : k < s.length
        · have hc' : (k : Int) < (s.length : Int) := by omega
          have hg : s[k]? = some s[k] := List.getElem?_eq_getElem hc
          have hsu := hor_succ hg
          have hmem : s[k] ∈ s := List.getElem_mem _
          generalize s[k] = c at *
          by_cases h1 : ((c.toNat : Nat) : Int) < 48
          · rw [digV_none (numO_bad hmem (.inl (by omega)))]
            repeat first
              | with_reducible refine AWP.seq ?_
              | ((with_reducible refine AWP.region ?_ ?_); exact rfl)
              | with_reducible refine AWP.block ?_
              | with_reducible refine AWP.skip ?_
              | with_reducible refine AWP.exit ?_
              | with_reducible refine AWP.ret ?_
              | with_reducible refine AWP.label ?_
              | with_reducible refine AWP.goto ?_
              | ((with_reducible refine AWP.condT ?_ ?_); focus (simp only [ev, lk_cons, ↓reduceIte, Nat.reduceEqDiff]; done))
              | ((with_reducible refine AWP.condF ?_ ?_); focus (simp only [ev, lk_cons, ↓reduceIte, Nat.reduceEqDiff]; done))
              | simp only [go_sem, ↓reduceIte, Nat.reduceEqDiff, reduceCtorEq, Nat.reduceAdd, Int.reduceEq, Int.reduceBNe, Int.reduceBEq, Int.reduceToNat, Int.reduceLT, Int.reduceLE, Int.reduceGT, Int.reduceGE, Nat.reduceSub, Nat.reduceBEq, Nat.reduceBNe, Int.reduceAdd, Int.reduceSub, Int.reduceMul, Int.reduceNeg, Nat.reduceMul, Nat.reduceLeDiff, Nat.reduceLT, hc', hg, h1]
              | simp (disch := omega) only [wi64, wu8, wu16, wu32, wu64]
              | with_reducible_and_instances exact finR
              | ((with_reducible refine finR' ?_ ?_) <;> rfl)
              | ((with_reducible refine finD hsc (NRel.of_plain ?_)); exact rfl)
          · by_cases h2 : ((c.toNat : Nat) : Int) > 57
            · rw [digV_none (numO_bad hmem (.inr (by omega)))]
              repeat first
                | with_reducible refine AWP.seq ?_
                | ((with_reducible refine AWP.region ?_ ?_); exact rfl)
                | with_reducible refine AWP.block ?_
                | with_reducible refine AWP.skip ?_
                | with_reducible refine AWP.exit ?_
                | with_reducible refine AWP.ret ?_
                | with_reducible refine AWP.label ?_
                | with_reducible refine AWP.goto ?_
                | ((with_reducible refine AWP.condT ?_ ?_); focus (simp only [ev, lk_cons, ↓reduceIte, Nat.reduceEqDiff]; done))
                | ((with_reducible refine AWP.condF ?_ ?_); focus (simp only [ev, lk_cons, ↓reduceIte, Nat.reduceEqDiff]; done))
                | simp only [go_sem, ↓reduceIte, Nat.reduceEqDiff, reduceCtorEq, Nat.reduceAdd, Int.reduceEq, Int.reduceBNe, Int.reduceBEq, Int.reduceToNat, Int.reduceLT, Int.reduceLE, Int.reduceGT, Int.reduceGE, Nat.reduceSub, Nat.reduceBEq, Nat.reduceBNe, Int.reduceAdd, Int.reduceSub, Int.reduceMul, Int.reduceNeg, Nat.reduceMul, Nat.reduceLeDiff, Nat.reduceLT, hc', hg, h1, h2]
                | simp (disch := omega) only [wi64, wu8, wu16, wu32, wu64]
                | with_reducible_and_instances exact finR
                | ((with_reducible refine finR' ?_ ?_) <;> rfl)
                | ((with_reducible refine finD hsc (NRel.of_plain ?_)); exact rfl)
            · have hq : ((4096 : Int) - (((c.toNat : Nat) : Int) - 48)).tdiv 10 = (((4096 - (c.toNat - 48)) / 10 : Nat) : Int) := by
                rw [show (4096 : Int) - (((c.toNat : Nat) : Int) - 48) = ((4096 - (c.toNat - 48) : Nat) : Int) by omega]
                exact Int.ofNat_tdiv _ _
              generalize hn : hor 0 (s.take k) = n at *
              by_cases h3 : ((n : Nat) : Int) > (((4096 - (c.toNat - 48)) / 10 : Nat) : Int)
              · rw [digV_none (numO_big (k := k + 1) (by rw [hsu]; omega))]
                repeat first
                  | with_reducible refine AWP.seq ?_
                  | ((with_reducible refine AWP.region ?_ ?_); exact rfl)
                  | with_reducible refine AWP.block ?_
                  | with_reducible refine AWP.skip ?_
                  | with_reducible refine AWP.exit ?_
                  | with_reducible refine AWP.ret ?_
                  | with_reducible refine AWP.label ?_
                  | with_reducible refine AWP.goto ?_
                  | ((with_reducible refine AWP.condT ?_ ?_); focus (simp only [ev, lk_cons, ↓reduceIte, Nat.reduceEqDiff]; done))
                  | ((with_reducible refine AWP.condF ?_ ?_); focus (simp only [ev, lk_cons, ↓reduceIte, Nat.reduceEqDiff]; done))
                  | simp only [go_sem, ↓reduceIte, Nat.reduceEqDiff, reduceCtorEq, Nat.reduceAdd, Int.reduceEq, Int.reduceBNe, Int.reduceBEq, Int.reduceToNat, Int.reduceLT, Int.reduceLE, Int.reduceGT, Int.reduceGE, Nat.reduceSub, Nat.reduceBEq, Nat.reduceBNe, Int.reduceAdd, Int.reduceSub, Int.reduceMul, Int.reduceNeg, Nat.reduceMul, Nat.reduceLeDiff, Nat.reduceLT, hc', hg, h1, h2, hq, h3]
                  | simp (disch := omega) only [wi64, wu8, wu16, wu32, wu64]
                  | with_reducible_and_instances exact finR
                  | ((with_reducible refine finR' ?_ ?_) <;> rfl)
                  | ((with_reducible refine finD hsc (NRel.of_plain ?_)); exact rfl)
              · have hv : (n : Int) * 10 + (((c.toNat : Nat) : Int) - 48) = ((hor 0 (s.take (k + 1)) : Nat) : Int) := by rw [hsu]; omega
                have hb9 : hor 0 (s.take (k + 1)) ≤ 4096 := by rw [hsu]; omega
                repeat first
                  | with_reducible refine AWP.seq ?_
                  | ((with_reducible refine AWP.region ?_ ?_); exact rfl)
                  | with_reducible refine AWP.block ?_
                  | with_reducible refine AWP.skip ?_
                  | with_reducible refine AWP.exit ?_
                  | with_reducible refine AWP.ret ?_
                  | with_reducible refine AWP.label ?_
                  | with_reducible refine AWP.goto ?_
                  | ((with_reducible refine AWP.condT ?_ ?_); focus (simp only [ev, lk_cons, ↓reduceIte, Nat.reduceEqDiff]; done))
                  | ((with_reducible refine AWP.condF ?_ ?_); focus (simp only [ev, lk_cons, ↓reduceIte, Nat.reduceEqDiff]; done))
                  | simp only [go_sem, ↓reduceIte, Nat.reduceEqDiff, reduceCtorEq, Nat.reduceAdd, Int.reduceEq, Int.reduceBNe, Int.reduceBEq, Int.reduceToNat, Int.reduceLT, Int.reduceLE, Int.reduceGT, Int.reduceGE, Nat.reduceSub, Nat.reduceBEq, Nat.reduceBNe, Int.reduceAdd, Int.reduceSub, Int.reduceMul, Int.reduceNeg, Nat.reduceMul, Nat.reduceLeDiff, Nat.reduceLT, hc', hg, h1, h2, hq, h3, hv]
                  | simp (disch := omega) only [wi64, wu8, wu16, wu32, wu64]
                  | with_reducible_and_instances exact finR
                  | ((with_reducible refine finR' ?_ ?_) <;> rfl)
                  | ((with_reducible refine finD hsc (NRel.of_plain ?_)); exact rfl)
                refine ⟨k + 1, Weak.env (by simp [envIn, lk_cons, wth_some]), hc, ?_, hb9, (show s.length - (k + 1) < s.length - k by omega)⟩
                intro x hx
                rw [List.take_add_one, hg, Option.toList] at hx
                rcases List.mem_append.1 hx with hx | hx
                · exact hd x hx
                · have := List.mem_singleton.1 hx
                  subst this
                  omega
        · have : k = s.length := by omega
          subst this
          have hc' : ¬ (s.length : Int) < (s.length : Int) := by omega
          rw [List.take_length] at hd hm
          have hnn : s ≠ [] := by rw [s0]; simp
          rw [List.take_length, digV_some (numO_hor hnn hd hzz hm)]
          repeat first
            | with_reducible refine AWP.seq ?_
            | ((with_reducible refine AWP.region ?_ ?_); exact rfl)
            | with_reducible refine AWP.block ?_
            | with_reducible refine AWP.skip ?_
            | with_reducible refine AWP.exit ?_
            | with_reducible refine AWP.ret ?_
            | with_reducible refine AWP.label ?_
            | with_reducible refine AWP.goto ?_
            | ((with_reducible refine AWP.condT ?_ ?_); focus (simp only [ev, lk_cons, ↓reduceIte, Nat.reduceEqDiff]; done))
            | ((with_reducible refine AWP.condF ?_ ?_); focus (simp only [ev, lk_cons, ↓reduceIte, Nat.reduceEqDiff]; done))
            | simp only [go_sem, ↓reduceIte, Nat.reduceEqDiff, reduceCtorEq, Nat.reduceAdd, Int.reduceEq, Int.reduceBNe, Int.reduceBEq, Int.reduceToNat, Int.reduceLT, Int.reduceLE, Int.reduceGT, Int.reduceGE, Nat.reduceSub, Nat.reduceBEq, Nat.reduceBNe, Int.reduceAdd, Int.reduceSub, Int.reduceMul, Int.reduceNeg, Nat.reduceMul, Nat.reduceLeDiff, Nat.reduceLT, hc']
            | simp (disch := omega) only [wi64, wu8, wu16, wu32, wu64]
            | with_reducible_and_instances exact finR
            | ((with_reducible refine finR' ?_ ?_) <;> rfl)
            | ((with_reducible refine finD hsc (NRel.of_plain ?_)); exact rfl)
      · have hb : (((c0.toNat : Nat) : Int) == 48) = false := by
          apply beq_eq_false_iff_ne.2
          intro e
          have : (48 : UInt8).toNat = 48 := rfl
          exact hb0 (UInt8.toNat_inj.1 (by omega))
        refine AC.enter Tryd.func73 rfl (by kernel_rfl) 52 rfl [.tmp 4] rfl (by simp) fun hsc B => ?_
        repeat first
          | with_reducible refine AWP.seq ?_
          | ((with_reducible refine AWP.region ?_ ?_); exact rfl)
          | with_reducible refine AWP.block ?_
          | with_reducible refine AWP.skip ?_
          | with_reducible refine AWP.exit ?_
          | with_reducible refine AWP.ret ?_
          | with_reducible refine AWP.label ?_
          | with_reducible refine AWP.goto ?_
          | ((with_reducible refine AWP.condT ?_ ?_); focus (simp only [ev, lk_cons, ↓reduceIte, Nat.reduceEqDiff]; done))
          | ((with_reducible refine AWP.condF ?_ ?_); focus (simp only [ev, lk_cons, ↓reduceIte, Nat.reduceEqDiff]; done))
          | simp only [go_sem, ↓reduceIte, Nat.reduceEqDiff, reduceCtorEq, Nat.reduceAdd, Int.reduceEq, Int.reduceBNe, Int.reduceBEq, Int.reduceToNat, Int.reduceLT, Int.reduceLE, Int.reduceGT, Int.reduceGE, Nat.reduceSub, Nat.reduceBEq, Nat.reduceBNe, Int.reduceAdd, Int.reduceSub, Int.reduceMul, Int.reduceNeg, Nat.reduceMul, Nat.reduceLeDiff, Nat.reduceLT, hne, hg0, hb]
          | simp (disch := omega) only [wi64, wu8, wu16, wu32, wu64]
          | with_reducible_and_instances exact finR
          | ((with_reducible refine finR' ?_ ?_) <;> rfl)
          | ((with_reducible refine finD hsc (NRel.of_plain ?_)); exact rfl)
        refine AWP.loopP (fun k : Nat => ⟨[(0, .string (bs s)), (1, .int .i64 4096), (5, .int .i64 (hor 0 (s.take k) : Nat)), (21, .int .i64 (s.length : Nat)), (22, .int .i64 (k : Nat))], [], H⟩)
          (fun k => k ≤ s.length ∧ (∀ c ∈ s.take k, 48 ≤ c.toNat ∧ c.toNat ≤ 57) ∧ hor 0 (s.take k) ≤ 4096) (fun k => s.length - k) 0 ?_ ⟨Nat.zero_le _, by simp, by simp [hor]⟩ ?_
        · exact Weak.env (by simp [envIn, lk_cons, wth_some, hor])
        intro k hkk
        obtain ⟨hk, hd, hm⟩ := hkk
        by_cases hc : k < s.length
        · have hc' : (k : Int) < (s.length : Int) := by omega
          have hg : s[k]? = some s[k] := List.getElem?_eq_getElem hc
          have hsu := hor_succ hg
          have hmem : s[k] ∈ s := List.getElem_mem _
          generalize s[k] = c at *
          by_cases h1 : ((c.toNat : Nat) : Int) < 48
          · rw [digV_none (numO_bad hmem (.inl (by omega)))]
            repeat first
              | with_reducible refine AWP.seq ?_
              | ((with_reducible refine AWP.region ?_ ?_); exact rfl)
              | with_reducible refine AWP.block ?_
              | with_reducible refine AWP.skip ?_
              | with_reducible refine AWP.exit ?_
              | with_reducible refine AWP.ret ?_
              | with_reducible refine AWP.label ?_
              | with_reducible refine AWP.goto ?_
              | ((with_reducible refine AWP.condT ?_ ?_); focus (simp only [ev, lk_cons, ↓reduceIte, Nat.reduceEqDiff]; done))
              | ((with_reducible refine AWP.condF ?_ ?_); focus (simp only [ev, lk_cons, ↓reduceIte, Nat.reduceEqDiff]; done))
              | simp only [go_sem, ↓reduceIte, Nat.reduceEqDiff, reduceCtorEq, Nat.reduceAdd, Int.reduceEq, Int.reduceBNe, Int.reduceBEq, Int.reduceToNat, Int.reduceLT, Int.reduceLE, Int.reduceGT, Int.reduceGE, Nat.reduceSub, Nat.reduceBEq, Nat.reduceBNe, Int.reduceAdd, Int.reduceSub, Int.reduceMul, Int.reduceNeg, Nat.reduceMul, Nat.reduceLeDiff, Nat.reduceLT, hc', hg, h1]
              | simp (disch := omega) only [wi64, wu8, wu16, wu32, wu64]
              | with_reducible_and_instances exact finR
              | ((with_reducible refine finR' ?_ ?_) <;> rfl)
              | ((with_reducible refine finD hsc (NRel.of_plain ?_)); exact rfl)
          · by_cases h2 : ((c.toNat : Nat) : Int) > 57
            · rw [digV_none (numO_bad hmem (.inr (by omega)))]
              repeat first
                | with_reducible refine AWP.seq ?_
                | ((with_reducible refine AWP.region ?_ ?_); exact rfl)
                | with_reducible refine AWP.block ?_
                | with_reducible refine AWP.skip ?_
                | with_reducible refine AWP.exit ?_
                | with_reducible refine AWP.ret ?_
                | with_reducible refine AWP.label ?_
                | with_reducible refine AWP.goto ?_
                | ((with_reducible refine AWP.condT ?_ ?_); focus (simp only [ev, lk_cons, ↓reduceIte, Nat.reduceEqDiff]; done))
                | ((with_reducible refine AWP.condF ?_ ?_); focus (simp only [ev, lk_cons, ↓reduceIte, Nat.reduceEqDiff]; done))
                | simp only [go_sem, ↓reduceIte, Nat.reduceEqDiff, reduceCtorEq, Nat.reduceAdd, Int.reduceEq, Int.reduceBNe, Int.reduceBEq, Int.reduceToNat, Int.reduceLT, Int.reduceLE, Int.reduceGT, Int.reduceGE, Nat.reduceSub, Nat.reduceBEq, Nat.reduceBNe, Int.reduceAdd, Int.reduceSub, Int.reduceMul, Int.reduceNeg, Nat.reduceMul, Nat.reduceLeDiff, Nat.reduceLT, hc', hg, h1, h2]
                | simp (disch := omega) only [wi64, wu8, wu16, wu32, wu64]
                | with_reducible_and_instances exact finR
                | ((with_reducible refine finR' ?_ ?_) <;> rfl)
                | ((with_reducible refine finD hsc (NRel.of_plain ?_)); exact rfl)
            · have hq : ((4096 : Int) - (((c.toNat : Nat) : Int) - 48)).tdiv 10 = (((4096 - (c.toNat - 48)) / 10 : Nat) : Int) := by
                rw [show (4096 : Int) - (((c.toNat : Nat) : Int) - 48) = ((4096 - (c.toNat - 48) : Nat) : Int) by omega]
                exact Int.ofNat_tdiv _ _
              generalize hn : hor 0 (s.take k) = n at *
              by_cases h3 : ((n : Nat) : Int) > (((4096 - (c.toNat - 48)) / 10 : Nat) : Int)
              · rw [digV_none (numO_big (k := k + 1) (by rw [hsu]; omega))]
                repeat first
                  | with_reducible refine AWP.seq ?_
                  | ((with_reducible refine AWP.region ?_ ?_); exact rfl)
                  | with_reducible refine AWP.block ?_
                  | with_reducible refine AWP.skip ?_
                  | with_reducible refine AWP.exit ?_
                  | with_reducible refine AWP.ret ?_
                  | with_reducible refine AWP.label ?_
                  | with_reducible refine AWP.goto ?_
                  | ((with_reducible refine AWP.condT ?_ ?_); focus (simp only [ev, lk_cons, ↓reduceIte, Nat.reduceEqDiff]; done))
                  | ((with_reducible refine AWP.condF ?_ ?_); focus (simp only [ev, lk_cons, ↓reduceIte, Nat.reduceEqDiff]; done))
                  | simp only [go_sem, ↓reduceIte, Nat.reduceEqDiff, reduceCtorEq, Nat.reduceAdd, Int.reduceEq, Int.reduceBNe, Int.reduceBEq, Int.reduceToNat, Int.reduceLT, Int.reduceLE, Int.reduceGT, Int.reduceGE, Nat.reduceSub, Nat.reduceBEq, Nat.reduceBNe, Int.reduceAdd, Int.reduceSub, Int.reduceMul, Int.reduceNeg, Nat.reduceMul, Nat.reduceLeDiff, Nat.reduceLT, hc', hg, h1, h2, hq, h3]
                  | simp (disch := omega) only [wi64, wu8, wu16, wu32, wu64]
                  | with_reducible_and_instances exact finR
                  | ((with_reducible refine finR' ?_ ?_) <;> rfl)
                  | ((with_reducible refine finD hsc (NRel.of_plain ?_)); exact rfl)
              · have hv : (n : Int) * 10 + (((c.toNat : Nat) : Int) - 48) = ((hor 0 (s.take (k + 1)) : Nat) : Int) := by rw [hsu]; omega
                have hb9 : hor 0 (s.take (k + 1)) ≤ 4096 := by rw [hsu]; omega
                repeat first
                  | with_reducible refine AWP.seq ?_
                  | ((with_reducible refine AWP.region ?_ ?_); exact rfl)
                  | with_reducible refine AWP.block ?_
                  | with_reducible refine AWP.skip ?_
                  | with_reducible refine AWP.exit ?_
                  | with_reducible refine AWP.ret ?_
                  | with_reducible refine AWP.label ?_
                  | with_reducible refine AWP.goto ?_
                  | ((with_reducible refine AWP.condT ?_ ?_); focus (simp only [ev, lk_cons, ↓reduceIte, Nat.reduceEqDiff]; done))
                  | ((with_reducible refine AWP.condF ?_ ?_); focus (simp only [ev, lk_cons, ↓reduceIte, Nat.reduceEqDiff]; done))
                  | simp only [go_sem, ↓reduceIte, Nat.reduceEqDiff, reduceCtorEq, Nat.reduceAdd, Int.reduceEq, Int.reduceBNe, Int.reduceBEq, Int.reduceToNat, Int.reduceLT, Int.reduceLE, Int.reduceGT, Int.reduceGE, Nat.reduceSub, Nat.reduceBEq, Nat.reduceBNe, Int.reduceAdd, Int.reduceSub, Int.reduceMul, Int.reduceNeg, Nat.reduceMul, Nat.reduceLeDiff, Nat.reduceLT, hc', hg, h1, h2, hq, h3, hv]
                  | simp (disch := omega) only [wi64, wu8, wu16, wu32, wu64]
                  | with_reducible_and_instances exact finR
                  | ((with_reducible refine finR' ?_ ?_) <;> rfl)
                  | ((with_reducible refine finD hsc (NRel.of_plain ?_)); exact rfl)
                refine ⟨k + 1, Weak.env (by simp [envIn, lk_cons, wth_some]), hc, ?_, hb9, (show s.length - (k + 1) < s.length - k by omega)⟩
                intro x hx
                rw [List.take_add_one, hg, Option.toList] at hx
                rcases List.mem_append.1 hx with hx | hx
                · exact hd x hx
                · have := List.mem_singleton.1 hx
                  subst this
                  omega
        · have : k = s.length := by omega
          subst this
          have hc' : ¬ (s.length : Int) < (s.length : Int) := by omega
          rw [List.take_length] at hd hm
          have hnn : s ≠ [] := by rw [s0]; simp
          rw [List.take_length, digV_some (numO_hor hnn hd hzz hm)]
          repeat first
            | with_reducible refine AWP.seq ?_
            | ((with_reducible refine AWP.region ?_ ?_); exact rfl)
            | with_reducible refine AWP.block ?_
            | with_reducible refine AWP.skip ?_
            | with_reducible refine AWP.exit ?_
            | with_reducible refine AWP.ret ?_
            | with_reducible refine AWP.label ?_
            | with_reducible refine AWP.goto ?_
            | ((with_reducible refine AWP.condT ?_ ?_); focus (simp only [ev, lk_cons, ↓reduceIte, Nat.reduceEqDiff]; done))
            | ((with_reducible refine AWP.condF ?_ ?_); focus (simp only [ev, lk_cons, ↓reduceIte, Nat.reduceEqDiff]; done))
            | simp only [go_sem, ↓reduceIte, Nat.reduceEqDiff, reduceCtorEq, Nat.reduceAdd, Int.reduceEq, Int.reduceBNe, Int.reduceBEq, Int.reduceToNat, Int.reduceLT, Int.reduceLE, Int.reduceGT, Int.reduceGE, Nat.reduceSub, Nat.reduceBEq, Nat.reduceBNe, Int.reduceAdd, Int.reduceSub, Int.reduceMul, Int.reduceNeg, Nat.reduceMul, Nat.reduceLeDiff, Nat.reduceLT, hc']
            | simp (disch := omega) only [wi64, wu8, wu16, wu32, wu64]
            | with_reducible_and_instances exact finR
            | ((with_reducible refine finR' ?_ ?_) <;> rfl)
            | ((with_reducible refine finD hsc (NRel.of_plain ?_)); exact rfl)
theorem rTextA (n : Int) (h : ¬ okN n) (s : List UInt8) (hs : s.length < 140737488355328) (H : AHeap) : ARet Tryd.prog 48 [.int .i64 n, .string (bs s)] H (.tuple ⟨[.string (bs []), .int .i64 7]⟩) H := by
  have hL := fun H => rRunsA n h s hs H
  refine AC.enter Tryd.func48 rfl (by kernel_rfl) 49 rfl [.tmp 4, .tmp 5] rfl (by simp) fun hsc B => ?_
  repeat first
    | with_reducible refine AWP.seq ?_
    | ((with_reducible refine AWP.region ?_ ?_); exact rfl)
    | with_reducible refine AWP.block ?_
    | with_reducible refine AWP.skip ?_
    | with_reducible refine AWP.exit ?_
    | with_reducible refine AWP.ret ?_
    | with_reducible refine AWP.label ?_
    | with_reducible refine AWP.goto ?_
    | ((with_reducible refine AWP.condT ?_ ?_); focus (simp only [ev, lk_cons, ↓reduceIte, Nat.reduceEqDiff]; done))
    | ((with_reducible refine AWP.condF ?_ ?_); focus (simp only [ev, lk_cons, ↓reduceIte, Nat.reduceEqDiff]; done))
    | with_reducible refine (hL _).use ?_
    | simp only [go_sem, ↓reduceIte, Nat.reduceEqDiff, reduceCtorEq, Nat.reduceAdd, Int.reduceEq, Int.reduceBNe, Int.reduceBEq, Int.reduceToNat, Int.reduceLT, Int.reduceLE, Int.reduceGT, Int.reduceGE, Nat.reduceSub, Nat.reduceBEq, Nat.reduceBNe, Int.reduceAdd, Int.reduceSub, Int.reduceMul, Int.reduceNeg, Nat.reduceMul, Nat.reduceLeDiff, Nat.reduceLT]
    | simp (disch := omega) only [wi64, wu8, wu16, wu32, wu64]
    | with_reducible_and_instances exact finR
    | ((with_reducible refine finR' ?_ ?_) <;> rfl)
    | ((with_reducible refine finD hsc (NRel.of_plain ?_)); exact rfl)
  refine AWP.loopN 1 ?_
  repeat first
    | with_reducible refine AWP.seq ?_
    | ((with_reducible refine AWP.region ?_ ?_); exact rfl)
    | with_reducible refine AWP.block ?_
    | with_reducible refine AWP.skip ?_
    | with_reducible refine AWP.exit ?_
    | with_reducible refine AWP.ret ?_
    | with_reducible refine AWP.label ?_
    | with_reducible refine AWP.goto ?_
    | ((with_reducible refine AWP.condT ?_ ?_); focus (simp only [ev, lk_cons, ↓reduceIte, Nat.reduceEqDiff]; done))
    | ((with_reducible refine AWP.condF ?_ ?_); focus (simp only [ev, lk_cons, ↓reduceIte, Nat.reduceEqDiff]; done))
    | simp only [go_sem, ↓reduceIte, Nat.reduceEqDiff, reduceCtorEq, Nat.reduceAdd, Int.reduceEq, Int.reduceBNe, Int.reduceBEq, Int.reduceToNat, Int.reduceLT, Int.reduceLE, Int.reduceGT, Int.reduceGE, Nat.reduceSub, Nat.reduceBEq, Nat.reduceBNe, Int.reduceAdd, Int.reduceSub, Int.reduceMul, Int.reduceNeg, Nat.reduceMul, Nat.reduceLeDiff, Nat.reduceLT, roundsW_s]
    | simp (disch := omega) only [wi64, wu8, wu16, wu32, wu64]
    | with_reducible_and_instances exact finR
    | ((with_reducible refine finR' ?_ ?_) <;> rfl)
    | ((with_reducible refine finD hsc (NRel.of_plain ?_)); exact rfl)
theorem rTextB (n : Nat) (h : n ≤ 4096) (s : List UInt8) (hs : s.length < 140737488355328) (hv : ¬ validB n s) (H : AHeap) : ARet Tryd.prog 48 [.int .i64 (n : Nat), .string (bs s)] H (.tuple ⟨[.string (bs []), .int .i64 1]⟩) H := by
  have hL := fun H => rRunsB n h s hs hv H
  refine AC.enter Tryd.func48 rfl (by kernel_rfl) 49 rfl [.tmp 4, .tmp 5] rfl (by simp) fun hsc B => ?_
  repeat first
    | with_reducible refine AWP.seq ?_
    | ((with_reducible refine AWP.region ?_ ?_); exact rfl)
    | with_reducible refine AWP.block ?_
    | with_reducible refine AWP.skip ?_
    | with_reducible refine AWP.exit ?_
    | with_reducible refine AWP.ret ?_
    | with_reducible refine AWP.label ?_
    | with_reducible refine AWP.goto ?_
    | ((with_reducible refine AWP.condT ?_ ?_); focus (simp only [ev, lk_cons, ↓reduceIte, Nat.reduceEqDiff]; done))
    | ((with_reducible refine AWP.condF ?_ ?_); focus (simp only [ev, lk_cons, ↓reduceIte, Nat.reduceEqDiff]; done))
    | with_reducible refine (hL _).use ?_
    | simp only [go_sem, ↓reduceIte, Nat.reduceEqDiff, reduceCtorEq, Nat.reduceAdd, Int.reduceEq, Int.reduceBNe, Int.reduceBEq, Int.reduceToNat, Int.reduceLT, Int.reduceLE, Int.reduceGT, Int.reduceGE, Nat.reduceSub, Nat.reduceBEq, Nat.reduceBNe, Int.reduceAdd, Int.reduceSub, Int.reduceMul, Int.reduceNeg, Nat.reduceMul, Nat.reduceLeDiff, Nat.reduceLT]
    | simp (disch := omega) only [wi64, wu8, wu16, wu32, wu64]
    | with_reducible_and_instances exact finR
    | ((with_reducible refine finR' ?_ ?_) <;> rfl)
    | ((with_reducible refine finD hsc (NRel.of_plain ?_)); exact rfl)
  refine AWP.loopN 1 ?_
  repeat first
    | with_reducible refine AWP.seq ?_
    | ((with_reducible refine AWP.region ?_ ?_); exact rfl)
    | with_reducible refine AWP.block ?_
    | with_reducible refine AWP.skip ?_
    | with_reducible refine AWP.exit ?_
    | with_reducible refine AWP.ret ?_
    | with_reducible refine AWP.label ?_
    | with_reducible refine AWP.goto ?_
    | ((with_reducible refine AWP.condT ?_ ?_); focus (simp only [ev, lk_cons, ↓reduceIte, Nat.reduceEqDiff]; done))
    | ((with_reducible refine AWP.condF ?_ ?_); focus (simp only [ev, lk_cons, ↓reduceIte, Nat.reduceEqDiff]; done))
    | simp only [go_sem, ↓reduceIte, Nat.reduceEqDiff, reduceCtorEq, Nat.reduceAdd, Int.reduceEq, Int.reduceBNe, Int.reduceBEq, Int.reduceToNat, Int.reduceLT, Int.reduceLE, Int.reduceGT, Int.reduceGE, Nat.reduceSub, Nat.reduceBEq, Nat.reduceBNe, Int.reduceAdd, Int.reduceSub, Int.reduceMul, Int.reduceNeg, Nat.reduceMul, Nat.reduceLeDiff, Nat.reduceLT, roundsW_s]
    | simp (disch := omega) only [wi64, wu8, wu16, wu32, wu64]
    | with_reducible_and_instances exact finR
    | ((with_reducible refine finR' ?_ ?_) <;> rfl)
    | ((with_reducible refine finD hsc (NRel.of_plain ?_)); exact rfl)
theorem join_snoc (xs : List (List UInt8)) (x : List UInt8) (h : xs ≠ []) : Lib.join (xs ++ [x]) [44] = Lib.join xs [44] ++ 44 :: x := by
  cases xs with
  | nil => exact absurd rfl h
  | cons y ys =>
    rw [List.cons_append, Lib.join_cons, Lib.join_cons]
    simp [Lib.joinTail]
theorem textL_snoc (r : List (Nat × Nat)) (p : Nat × Nat) (h : r ≠ []) : textL (r ++ [p]) = textL r ++ 44 :: runT p := by
  unfold textL
  rw [List.map_append, List.map_singleton, join_snoc _ _ (by simpa using h)]
theorem textL_one (p : Nat × Nat) : textL [p] = runT p := by unfold textL; simp [Lib.join_one]
theorem textL_le (B : Nat) (r : List (Nat × Nat)) (h : ∀ p ∈ r, (runT p).length ≤ B) : (textL r).length ≤ r.length * (B + 1) := by
  have := join_len [44] B (r.map runT) (fun x hx => by obtain ⟨p, hp, rfl⟩ := List.mem_map.1 hx; exact h p hp)
  simpa [textL] using this
theorem rTextC (n : Nat) (h : n ≤ 4096) (s : List UInt8) (hv : validB n s) (H : AHeap) :
    ARet Tryd.prog 48 [.int .i64 (n : Nat), .string (bs s)] H (.tuple ⟨[.string (bs (textL (runsL (allL s)))), .int .i64 0]⟩) H := by
  have hL := fun H => rRunsC n h s hv H
  have hlo := lon_le n
  have hsl := hv.1
  have hok := runsL_ok (allL s) (allL_lt s)
  have hrl : (runsL (allL s)).length ≤ 8 * s.length := Nat.le_trans (runsL_len _) (allL_len s)
  have hD := fun (u : Nat) (hu : u ≤ 9223372036854775807) H => rDecimal u hu H
  generalize runsL (allL s) = r at *
  rcases Nat.eq_zero_or_pos r.length with h0 | h0
  · have : r = [] := List.length_eq_zero_iff.1 h0
    subst this
    simp only [List.length_nil, gS_zero, runsO, gO_nil, runsC, List.flatMap_nil] at hL
    have ht : textL [] = [] := rfl
    rw [ht]
    refine AC.enter Tryd.func48 rfl (by kernel_rfl) 49 rfl [.tmp 4, .tmp 5] rfl (by simp) fun hsc B => ?_
    repeat first
      | with_reducible refine AWP.seq ?_
      | ((with_reducible refine AWP.region ?_ ?_); exact rfl)
      | with_reducible refine AWP.block ?_
      | with_reducible refine AWP.skip ?_
      | with_reducible refine AWP.exit ?_
      | with_reducible refine AWP.ret ?_
      | with_reducible refine AWP.label ?_
      | with_reducible refine AWP.goto ?_
      | ((with_reducible refine AWP.condT ?_ ?_); focus (simp only [ev, lk_cons, ↓reduceIte, Nat.reduceEqDiff]; done))
      | ((with_reducible refine AWP.condF ?_ ?_); focus (simp only [ev, lk_cons, ↓reduceIte, Nat.reduceEqDiff]; done))
      | with_reducible refine (hL _).use ?_
      | simp only [go_sem, ↓reduceIte, Nat.reduceEqDiff, reduceCtorEq, Nat.reduceAdd, Int.reduceEq, Int.reduceBNe, Int.reduceBEq, Int.reduceToNat, Int.reduceLT, Int.reduceLE, Int.reduceGT, Int.reduceGE, Nat.reduceSub, Nat.reduceBEq, Nat.reduceBNe, Int.reduceAdd, Int.reduceSub, Int.reduceMul, Int.reduceNeg, Nat.reduceMul, Nat.reduceLeDiff, Nat.reduceLT]
      | simp (disch := omega) only [wi64, wu8, wu16, wu32, wu64]
      | with_reducible_and_instances exact finR
      | ((with_reducible refine finR' ?_ ?_) <;> rfl)
      | ((with_reducible refine finD hsc (NRel.of_plain ?_)); exact rfl)
    refine AWP.loopN 1 ?_
    repeat first
      | with_reducible refine AWP.seq ?_
      | ((with_reducible refine AWP.region ?_ ?_); exact rfl)
      | with_reducible refine AWP.block ?_
      | with_reducible refine AWP.skip ?_
      | with_reducible refine AWP.exit ?_
      | with_reducible refine AWP.ret ?_
      | with_reducible refine AWP.label ?_
      | with_reducible refine AWP.goto ?_
      | ((with_reducible refine AWP.condT ?_ ?_); focus (simp only [ev, lk_cons, ↓reduceIte, Nat.reduceEqDiff]; done))
      | ((with_reducible refine AWP.condF ?_ ?_); focus (simp only [ev, lk_cons, ↓reduceIte, Nat.reduceEqDiff]; done))
      | simp only [go_sem, ↓reduceIte, Nat.reduceEqDiff, reduceCtorEq, Nat.reduceAdd, Int.reduceEq, Int.reduceBNe, Int.reduceBEq, Int.reduceToNat, Int.reduceLT, Int.reduceLE, Int.reduceGT, Int.reduceGE, Nat.reduceSub, Nat.reduceBEq, Nat.reduceBNe, Int.reduceAdd, Int.reduceSub, Int.reduceMul, Int.reduceNeg, Nat.reduceMul, Nat.reduceLeDiff, Nat.reduceLT, roundsW_s]
      | simp (disch := omega) only [wi64, wu8, wu16, wu32, wu64]
      | with_reducible_and_instances exact finR
      | ((with_reducible refine finR' ?_ ?_) <;> rfl)
      | ((with_reducible refine finD hsc (NRel.of_plain ?_)); exact rfl)
  · simp only [gS_pos h0, runsO, gO_ne (runsC_ne h0)] at hL
    refine AC.enter Tryd.func48 rfl (by kernel_rfl) 49 rfl [.tmp 4, .tmp 5] rfl (by simp) fun hsc B => ?_
    repeat first
      | with_reducible refine AWP.seq ?_
      | ((with_reducible refine AWP.region ?_ ?_); exact rfl)
      | with_reducible refine AWP.block ?_
      | with_reducible refine AWP.skip ?_
      | with_reducible refine AWP.exit ?_
      | with_reducible refine AWP.ret ?_
      | with_reducible refine AWP.label ?_
      | with_reducible refine AWP.goto ?_
      | ((with_reducible refine AWP.condT ?_ ?_); focus (simp only [ev, lk_cons, ↓reduceIte, Nat.reduceEqDiff]; done))
      | ((with_reducible refine AWP.condF ?_ ?_); focus (simp only [ev, lk_cons, ↓reduceIte, Nat.reduceEqDiff]; done))
      | with_reducible refine (hL _).use ?_
      | simp only [go_sem, ↓reduceIte, Nat.reduceEqDiff, reduceCtorEq, Nat.reduceAdd, Int.reduceEq, Int.reduceBNe, Int.reduceBEq, Int.reduceToNat, Int.reduceLT, Int.reduceLE, Int.reduceGT, Int.reduceGE, Nat.reduceSub, Nat.reduceBEq, Nat.reduceBNe, Int.reduceAdd, Int.reduceSub, Int.reduceMul, Int.reduceNeg, Nat.reduceMul, Nat.reduceLeDiff, Nat.reduceLT]
      | simp (disch := omega) only [wi64, wu8, wu16, wu32, wu64]
      | with_reducible_and_instances exact finR
      | ((with_reducible refine finR' ?_ ?_) <;> rfl)
      | ((with_reducible refine finD hsc (NRel.of_plain ?_)); exact rfl)
    refine AWP.loopP (fun k : Nat => ⟨[(7, .int .i64 0), (8, .string (bs (textL (r.take k)))), (17, .slice (some ⟨H.length, 0, none⟩) r.length r.length), (18, .int .i64 (r.length : Nat)), (19, .int .i64 (k : Nat))], [], H ++ [.cells (runsC r) ⟨74, 2, true, 0, none⟩]⟩)
      (fun k => k ≤ r.length) (fun k => r.length - k) 0 ?_ (Nat.zero_le _) ?_
    · exact Weak.env (by simp [envIn, lk_cons, wth_some, textL, Lib.join_nil])
    intro k hk
    by_cases hc : k < r.length
    · have hc' : (k : Int) < (r.length : Int) := by omega
      obtain ⟨⟨f, c⟩, hp⟩ : ∃ p, r[k]? = some p := ⟨_, List.getElem?_eq_getElem hc⟩
      obtain ⟨g1, g2⟩ := runsC_get r k f c hp
      have hfc := hok _ _ _ hp
      have hd1 := dec_len20 f (by omega)
      have hd2 := dec_len20 (f + c - 1) (by omega)
      have hrt := runT_len (f, c) (by simp only; omega)
      have hD1 := fun H => hD f (by omega) H
      have hD2 := fun H => hD (f + c - 1) (by omega) H
      have htk : List.take 2 (List.drop (k * 2) (runsC r)) = [.int .i64 (f : Nat), .int .i64 (c : Nat)] := take2_of_get g1 g2
      have hle : k * 2 + 2 ≤ (runsC r).length := by rw [runsC_length]; omega
      have htl := textL_le 41 (r.take k) (fun p hp => runT_len p (by
        obtain ⟨j, hj⟩ := List.mem_iff_getElem?.1 (List.mem_of_mem_take hp)
        have := hok j p.1 p.2 hj; omega))
      have htl2 : (r.take k).length ≤ k := by rw [List.length_take]; omega
      have hx : r.take (k + 1) = r.take k ++ [(f, c)] := by rw [List.take_add_one, hp]; rfl
      generalize hT : textL (r.take k) = T at *
      by_cases hk0 : k = 0
      · have hk1 : ¬ (k : Int) > 0 := by omega
        have hT0 : T = [] := by rw [← hT, hk0]; rfl
        subst hT0
        have hx' : textL (r.take (k + 1)) = runT (f, c) := by rw [hx, hk0]; exact textL_one _
        by_cases h1 : 1 < c
        · have h1' : (c : Int) > 1 := by omega
          have hw : ((f : Int) + (c : Int) - 1) = ((f + c - 1 : Nat) : Int) := by omega
          have hr : runT (f, c) = Lib.decDigits f ++ 45 :: Lib.decDigits (f + c - 1) := by unfold runT; simp [h1]
          rw [hr] at hx'
          repeat' first
            | omega
            | with_reducible refine And.intro ?_ ?_
            | with_reducible refine AWP.seq ?_
            | ((with_reducible refine AWP.region ?_ ?_); exact rfl)
            | with_reducible refine AWP.block ?_
            | with_reducible refine AWP.skip ?_
            | with_reducible refine AWP.exit ?_
            | with_reducible refine AWP.ret ?_
            | with_reducible refine AWP.label ?_
            | with_reducible refine AWP.goto ?_
            | ((with_reducible refine AWP.condT ?_ ?_); focus (simp only [ev, lk_cons, ↓reduceIte, Nat.reduceEqDiff]; done))
            | ((with_reducible refine AWP.condF ?_ ?_); focus (simp only [ev, lk_cons, ↓reduceIte, Nat.reduceEqDiff]; done))
            | with_reducible refine (hD1 _).use ?_
            | with_reducible refine (hD2 _).use ?_
            | simp only [go_sem, ↓reduceIte, Nat.reduceEqDiff, reduceCtorEq, Nat.reduceAdd, Int.reduceEq, Int.reduceBNe, Int.reduceBEq, Int.reduceToNat, Int.reduceLT, Int.reduceLE, Int.reduceGT, Int.reduceGE, Nat.reduceSub, Nat.reduceBEq, Nat.reduceBNe, Int.reduceAdd, Int.reduceSub, Int.reduceMul, Int.reduceNeg, Nat.reduceMul, Nat.reduceLeDiff, Nat.reduceLT, hc', htk, hle, h1', hw, hk1]
            | simp (disch := omega) only [wi64, wu8, wu16, wu32, wu64]
            | with_reducible_and_instances exact finR
            | ((with_reducible refine finR' ?_ ?_) <;> rfl)
            | ((with_reducible refine finD hsc (NRel.of_plain ?_)); exact rfl)
          refine ⟨k + 1, ?_, hc, (show r.length - (k + 1) < r.length - k by omega)⟩
          rw [hx']
          refine Weak.pick [0] rfl hsc (by simp) ⟨?_, ?_⟩
          · simp [selW_cons, selW_nil, wth_some, onm_cells, nrs_refl (runsC_scalar _)]
          · simp [envIn, lk_cons, wth_some, nr_int, nr_string, selN_0, selN_k, nr_slice]
        · have h1' : ¬ (c : Int) > 1 := by omega
          have hr : runT (f, c) = Lib.decDigits f := by unfold runT; simp [h1]
          rw [hr] at hx'
          repeat' first
            | omega
            | with_reducible refine And.intro ?_ ?_
            | with_reducible refine AWP.seq ?_
            | ((with_reducible refine AWP.region ?_ ?_); exact rfl)
            | with_reducible refine AWP.block ?_
            | with_reducible refine AWP.skip ?_
            | with_reducible refine AWP.exit ?_
            | with_reducible refine AWP.ret ?_
            | with_reducible refine AWP.label ?_
            | with_reducible refine AWP.goto ?_
            | ((with_reducible refine AWP.condT ?_ ?_); focus (simp only [ev, lk_cons, ↓reduceIte, Nat.reduceEqDiff]; done))
            | ((with_reducible refine AWP.condF ?_ ?_); focus (simp only [ev, lk_cons, ↓reduceIte, Nat.reduceEqDiff]; done))
            | with_reducible refine (hD1 _).use ?_
            | with_reducible refine (hD2 _).use ?_
            | simp only [go_sem, ↓reduceIte, Nat.reduceEqDiff, reduceCtorEq, Nat.reduceAdd, Int.reduceEq, Int.reduceBNe, Int.reduceBEq, Int.reduceToNat, Int.reduceLT, Int.reduceLE, Int.reduceGT, Int.reduceGE, Nat.reduceSub, Nat.reduceBEq, Nat.reduceBNe, Int.reduceAdd, Int.reduceSub, Int.reduceMul, Int.reduceNeg, Nat.reduceMul, Nat.reduceLeDiff, Nat.reduceLT, hc', htk, hle, h1', hk1]
            | simp (disch := omega) only [wi64, wu8, wu16, wu32, wu64]
            | with_reducible_and_instances exact finR
            | ((with_reducible refine finR' ?_ ?_) <;> rfl)
            | ((with_reducible refine finD hsc (NRel.of_plain ?_)); exact rfl)
          refine ⟨k + 1, ?_, hc, (show r.length - (k + 1) < r.length - k by omega)⟩
          rw [hx']
          refine Weak.pick [0] rfl hsc (by simp) ⟨?_, ?_⟩
          · simp [selW_cons, selW_nil, wth_some, onm_cells, nrs_refl (runsC_scalar _)]
          · simp [envIn, lk_cons, wth_some, nr_int, nr_string, selN_0, selN_k, nr_slice]
      · have hk1 : (k : Int) > 0 := by omega
        have hx' : textL (r.take (k + 1)) = T ++ 44 :: runT (f, c) := by
          rw [hx, textL_snoc _ _ (fun e => by have := congrArg List.length e; rw [List.length_take, List.length_nil] at this; omega), hT]
        by_cases h1 : 1 < c
        · have h1' : (c : Int) > 1 := by omega
          have hw : ((f : Int) + (c : Int) - 1) = ((f + c - 1 : Nat) : Int) := by omega
          have hr : runT (f, c) = Lib.decDigits f ++ 45 :: Lib.decDigits (f + c - 1) := by unfold runT; simp [h1]
          rw [hr] at hx'
          repeat' first
            | omega
            | with_reducible refine And.intro ?_ ?_
            | with_reducible refine AWP.seq ?_
            | ((with_reducible refine AWP.region ?_ ?_); exact rfl)
            | with_reducible refine AWP.block ?_
            | with_reducible refine AWP.skip ?_
            | with_reducible refine AWP.exit ?_
            | with_reducible refine AWP.ret ?_
            | with_reducible refine AWP.label ?_
            | with_reducible refine AWP.goto ?_
            | ((with_reducible refine AWP.condT ?_ ?_); focus (simp only [ev, lk_cons, ↓reduceIte, Nat.reduceEqDiff]; done))
            | ((with_reducible refine AWP.condF ?_ ?_); focus (simp only [ev, lk_cons, ↓reduceIte, Nat.reduceEqDiff]; done))
            | with_reducible refine (hD1 _).use ?_
            | with_reducible refine (hD2 _).use ?_
            | simp only [go_sem, ↓reduceIte, Nat.reduceEqDiff, reduceCtorEq, Nat.reduceAdd, Int.reduceEq, Int.reduceBNe, Int.reduceBEq, Int.reduceToNat, Int.reduceLT, Int.reduceLE, Int.reduceGT, Int.reduceGE, Nat.reduceSub, Nat.reduceBEq, Nat.reduceBNe, Int.reduceAdd, Int.reduceSub, Int.reduceMul, Int.reduceNeg, Nat.reduceMul, Nat.reduceLeDiff, Nat.reduceLT, hc', htk, hle, h1', hw, hk1]
            | simp (disch := omega) only [wi64, wu8, wu16, wu32, wu64]
            | with_reducible_and_instances exact finR
            | ((with_reducible refine finR' ?_ ?_) <;> rfl)
            | ((with_reducible refine finD hsc (NRel.of_plain ?_)); exact rfl)
          refine ⟨k + 1, ?_, hc, (show r.length - (k + 1) < r.length - k by omega)⟩
          rw [hx']
          refine Weak.pick [0] rfl hsc (by simp) ⟨?_, ?_⟩
          · simp [selW_cons, selW_nil, wth_some, onm_cells, nrs_refl (runsC_scalar _)]
          · simp [envIn, lk_cons, wth_some, nr_int, nr_string, selN_0, selN_k, nr_slice]
        · have h1' : ¬ (c : Int) > 1 := by omega
          have hr : runT (f, c) = Lib.decDigits f := by unfold runT; simp [h1]
          rw [hr] at hx'
          repeat' first
            | omega
            | with_reducible refine And.intro ?_ ?_
            | with_reducible refine AWP.seq ?_
            | ((with_reducible refine AWP.region ?_ ?_); exact rfl)
            | with_reducible refine AWP.block ?_
            | with_reducible refine AWP.skip ?_
            | with_reducible refine AWP.exit ?_
            | with_reducible refine AWP.ret ?_
            | with_reducible refine AWP.label ?_
            | with_reducible refine AWP.goto ?_
            | ((with_reducible refine AWP.condT ?_ ?_); focus (simp only [ev, lk_cons, ↓reduceIte, Nat.reduceEqDiff]; done))
            | ((with_reducible refine AWP.condF ?_ ?_); focus (simp only [ev, lk_cons, ↓reduceIte, Nat.reduceEqDiff]; done))
            | with_reducible refine (hD1 _).use ?_
            | with_reducible refine (hD2 _).use ?_
            | simp only [go_sem, ↓reduceIte, Nat.reduceEqDiff, reduceCtorEq, Nat.reduceAdd, Int.reduceEq, Int.reduceBNe, Int.reduceBEq, Int.reduceToNat, Int.reduceLT, Int.reduceLE, Int.reduceGT, Int.reduceGE, Nat.reduceSub, Nat.reduceBEq, Nat.reduceBNe, Int.reduceAdd, Int.reduceSub, Int.reduceMul, Int.reduceNeg, Nat.reduceMul, Nat.reduceLeDiff, Nat.reduceLT, hc', htk, hle, h1', hk1]
            | simp (disch := omega) only [wi64, wu8, wu16, wu32, wu64]
            | with_reducible_and_instances exact finR
            | ((with_reducible refine finR' ?_ ?_) <;> rfl)
            | ((with_reducible refine finD hsc (NRel.of_plain ?_)); exact rfl)
          refine ⟨k + 1, ?_, hc, (show r.length - (k + 1) < r.length - k by omega)⟩
          rw [hx']
          refine Weak.pick [0] rfl hsc (by simp) ⟨?_, ?_⟩
          · simp [selW_cons, selW_nil, wth_some, onm_cells, nrs_refl (runsC_scalar _)]
          · simp [envIn, lk_cons, wth_some, nr_int, nr_string, selN_0, selN_k, nr_slice]
    · have : k = r.length := by omega
      subst this
      have hc' : ¬ (r.length : Int) < (r.length : Int) := by omega
      rw [List.take_length]
      repeat first
        | with_reducible refine AWP.seq ?_
        | ((with_reducible refine AWP.region ?_ ?_); exact rfl)
        | with_reducible refine AWP.block ?_
        | with_reducible refine AWP.skip ?_
        | with_reducible refine AWP.exit ?_
        | with_reducible refine AWP.ret ?_
        | with_reducible refine AWP.label ?_
        | with_reducible refine AWP.goto ?_
        | ((with_reducible refine AWP.condT ?_ ?_); focus (simp only [ev, lk_cons, ↓reduceIte, Nat.reduceEqDiff]; done))
        | ((with_reducible refine AWP.condF ?_ ?_); focus (simp only [ev, lk_cons, ↓reduceIte, Nat.reduceEqDiff]; done))
        | simp only [go_sem, ↓reduceIte, Nat.reduceEqDiff, reduceCtorEq, Nat.reduceAdd, Int.reduceEq, Int.reduceBNe, Int.reduceBEq, Int.reduceToNat, Int.reduceLT, Int.reduceLE, Int.reduceGT, Int.reduceGE, Nat.reduceSub, Nat.reduceBEq, Nat.reduceBNe, Int.reduceAdd, Int.reduceSub, Int.reduceMul, Int.reduceNeg, Nat.reduceMul, Nat.reduceLeDiff, Nat.reduceLT, hc']
        | simp (disch := omega) only [wi64, wu8, wu16, wu32, wu64]
        | with_reducible_and_instances exact finR
        | ((with_reducible refine finR' ?_ ?_) <;> rfl)
        | ((with_reducible refine finD hsc (NRel.of_plain ?_)); exact rfl)
end Go.Proofs.YtbdlomkogpnkpaaDoor
