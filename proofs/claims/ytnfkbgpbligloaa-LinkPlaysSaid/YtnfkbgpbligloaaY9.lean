/-
  Links: whatever a link and its specification are asked, they tell the same.
-/
import Derived.Test.YtnfkbgpbligloaaY8
set_option linter.unusedVariables false
set_option linter.unusedSimpArgs false
set_option maxRecDepth 20000
set_option maxHeartbeats 4000000
namespace Go.Proofs.Ytnfkbgpbligloaa
open Go Go.Aw Go.Proofs
theorem do_ {H0 H : AHeap} {i j n : Nat} {s : Lk} {r : Rk} (h : PS H0 i j s r H) (hc : Cpl s r n) (hn : n < 500) (a : Ac) (hb : a.body.length ≤ 100) (hl1 : a.later ≤ 1000000) (hl0 : -9223372036854775808 ≤ a.later) :
    ARex Try.prog 18 [.pointer (some ⟨i, 0, none⟩), .pointer (some ⟨j, 0, none⟩), .agg ⟨acC a⟩] H (.bool true) (fun H1 => ∃ s' r', PS H0 i j s' r' H1 ∧ Cpl s' r' (n + 1)) := by
  let Ha : AHeap := H ++ [.cells (acC a) ⟨32, 0, true, 0, none⟩]
  have hHa : Ha = H ++ [.cells (acC a) ⟨32, 0, true, 0, none⟩] := rfl
  have hP := h.more [.cells (acC a) ⟨32, 0, true, 0, none⟩]
  rw [← hHa] at hP
  obtain ⟨S, T, hA, hR, hf0, hS, hT⟩ := hP
  have hab : Ha[H.length]? = some (.cells (acC a) ⟨32, 0, true, 0, none⟩) := hget0 rfl
  have habl := lt_of_get hab
  have hSl := hA.kn.lt
  have hTl := hR.kn.lt
  obtain ⟨S0, T0, hA0, hR0, -, -, -⟩ := h
  have hnS : H.length ∉ S := fun hm => by
    obtain ⟨cs, k, e, hk⟩ := hA.kn _ hm
    rw [hab] at e; cases e
    simp [kL] at hk
  have hRN := rNow hR
  rw [hc.now] at hRN
  have hnw := hc.nowb
  have hw : IntKind.i64.wrap (s.now + a.later) = s.now + a.later := wi64 (by omega)
  have p1 : ∀ z : Int, (z == z) = true := fun z => by simp
  have p2 : ∀ z : Bool, (z == z) = true := fun z => by simp
  have hfree := hc.freeb
  have hok := hc.okS (by omega)
  have hokR := hc.okR (by omega)
  have hacc : acC a = [.int .i64 a.kind, .int .i64 a.later, .int .i64 a.size, .string (bs a.body), .int .i64 a.pipe.delay, .int .i64 a.pipe.rate, .int .i64 a.pipe.room, .int .i64 a.pipe.loss, .int .i64 a.pipe.dbl, .int .i64 a.pipe.jit] := rfl
  rw [hacc] at hHa hab ⊢
  have hgo : ∀ (K : ASt → Prop), True := fun _ => trivial
  refine AC.enter Try.func18 rfl (by kernel_rfl) 146 rfl [.tmp 6] rfl (by simp) fun hsc B => ?_
  repeat first
    | with_reducible refine AWP.seqJ (x := .region 1 _ _) ⟨[(0, .pointer (some ⟨i, 0, none⟩)), (1, .pointer (some ⟨j, 0, none⟩)), (5, .pointer (some ⟨H.length, 0, none⟩)), (7, .int .i64 (s.now + a.later))], [], Ha⟩ ?_ ?_
    | with_reducible refine AWP.seq ?_
    | ((with_reducible refine AWP.region ?_ ?_); exact rfl)
    | with_reducible refine AWP.block ?_
    | with_reducible refine AWP.skip ?_
    | with_reducible refine AWP.exit ?_
    | with_reducible refine AWP.ret ?_
    | with_reducible refine AWP.label ?_
    | with_reducible refine AWP.goto ?_
    | ((with_reducible refine AWP.condT ?_ ?_); focus (simp only [ev, lk_cons, ↓reduceIte, Nat.reduceEqDiff]; done))
    | ((with_reducible refine AWP.condF ?_ ?_); focus (simp only [ev, lk_cons, ↓reduceIte, Nat.reduceEqDiff]; done))
    | simp only [go_sem, ↓reduceIte, Nat.reduceEqDiff, reduceCtorEq, Nat.reduceAdd, Int.reduceEq, Int.reduceBNe, Int.reduceBEq, Int.reduceToNat, Int.reduceLT, Int.reduceLE, Int.reduceGT, Int.reduceGE, Nat.reduceSub, Nat.reduceBEq, Nat.reduceBNe, Int.reduceAdd, Int.reduceSub, Int.reduceMul, Int.reduceNeg, Nat.reduceMul, Nat.reduceLeDiff, Nat.reduceLT]
    | simp (disch := omega) only [wi64, wu8, wu16, wu32, wu64, Int.tdiv_eq_ediv_of_nonneg, Int.tmod_eq_emod_of_nonneg]
    | with_reducible_and_instances exact finR
    | ((with_reducible refine finR' ?_ ?_) <;> rfl)
    | ((with_reducible refine finD hsc (NRel.of_plain ?_)); exact rfl)
  · rw [← hHa]
    refine AWP.regionK 4 (by kernel_rfl) (by decide) (by kernel_rfl) ?_
    repeat first
      | with_reducible refine AWP.seq ?_
      | ((with_reducible refine AWP.region ?_ ?_); exact rfl)
      | with_reducible refine AWP.block ?_
      | with_reducible refine AWP.skip ?_
      | with_reducible refine AWP.exit ?_
      | with_reducible refine AWP.ret ?_
      | with_reducible refine AWP.label ?_
      | with_reducible refine AWP.goto ?_
      | ((with_reducible refine AWP.condT ?_ ?_); focus (simp only [ev, lk_cons, ↓reduceIte, Nat.reduceEqDiff]; done))
      | ((with_reducible refine AWP.condF ?_ ?_); focus (simp only [ev, lk_cons, ↓reduceIte, Nat.reduceEqDiff]; done))
      | simp only [go_sem, ↓reduceIte, Nat.reduceEqDiff, reduceCtorEq, Nat.reduceAdd, Int.reduceEq, Int.reduceBNe, Int.reduceBEq, Int.reduceToNat, Int.reduceLT, Int.reduceLE, Int.reduceGT, Int.reduceGE, Nat.reduceSub, Nat.reduceBEq, Nat.reduceBNe, Int.reduceAdd, Int.reduceSub, Int.reduceMul, Int.reduceNeg, Nat.reduceMul, Nat.reduceLeDiff, Nat.reduceLT, List.map_cons, List.map_nil]
      | simp (disch := omega) only [wi64, wu8, wu16, wu32, wu64, Int.tdiv_eq_ediv_of_nonneg, Int.tmod_eq_emod_of_nonneg]
      | with_reducible_and_instances exact finR
      | ((with_reducible refine finR' ?_ ?_) <;> rfl)
      | ((with_reducible refine finD hsc (NRel.of_plain ?_)); exact rfl)
    refine ARet.exq (hRN) (by simp only [go_sem, ↓reduceIte, Nat.reduceEqDiff, reduceCtorEq, Nat.reduceAdd, Int.reduceEq, Int.reduceBNe, Int.reduceBEq, Int.reduceToNat, Int.reduceLT, Int.reduceLE, Int.reduceGT, Int.reduceGE, Nat.reduceSub, Nat.reduceBEq, Nat.reduceBNe, Int.reduceAdd, Int.reduceSub, Int.reduceMul, Int.reduceNeg, Nat.reduceMul, Nat.reduceLeDiff, Nat.reduceLT]) ?_
    repeat first
      | with_reducible refine AWP.seq ?_
      | ((with_reducible refine AWP.region ?_ ?_); exact rfl)
      | with_reducible refine AWP.block ?_
      | with_reducible refine AWP.skip ?_
      | with_reducible refine AWP.exit ?_
      | with_reducible refine AWP.ret ?_
      | with_reducible refine AWP.label ?_
      | with_reducible refine AWP.goto ?_
      | ((with_reducible refine AWP.condT ?_ ?_); focus (simp only [ev, lk_cons, ↓reduceIte, Nat.reduceEqDiff]; done))
      | ((with_reducible refine AWP.condF ?_ ?_); focus (simp only [ev, lk_cons, ↓reduceIte, Nat.reduceEqDiff]; done))
      | simp only [go_sem, ↓reduceIte, Nat.reduceEqDiff, reduceCtorEq, Nat.reduceAdd, Int.reduceEq, Int.reduceBNe, Int.reduceBEq, Int.reduceToNat, Int.reduceLT, Int.reduceLE, Int.reduceGT, Int.reduceGE, Nat.reduceSub, Nat.reduceBEq, Nat.reduceBNe, Int.reduceAdd, Int.reduceSub, Int.reduceMul, Int.reduceNeg, Nat.reduceMul, Nat.reduceLeDiff, Nat.reduceLT, hab, habl, hw, List.map_cons, List.map_nil]
      | simp (disch := omega) only [wi64, wu8, wu16, wu32, wu64, Int.tdiv_eq_ediv_of_nonneg, Int.tmod_eq_emod_of_nonneg]
      | with_reducible_and_instances exact finR
      | ((with_reducible refine finR' ?_ ?_) <;> rfl)
      | ((with_reducible refine finD hsc (NRel.of_plain ?_)); exact rfl)
    exact Weak.env (by simp [envIn, lk_cons, wth_some])
  generalize ht : s.now + a.later = t at *
  have hstep : ∀ s' r' (H1 : AHeap), PS H0 i j s' r' H1 → Cpl s' r' n → ∃ s' r', PS H0 i j s' r' H1 ∧ Cpl s' r' (n + 1) := fun s' r' H1 h1 h2 => ⟨s', r', h1, h2.mono⟩
  have hP0 : PS H0 i j s r Ha := ⟨S, T, hA, hR, hf0, hS, hT⟩
  have hbR : rBad r t = badT s t := hc.bad t
  by_cases hk1 : a.kind = 6 ∨ a.kind = 7
  · have hk6 : (a.kind = 6 ∧ (a.kind == 6) = true) ∨ ((a.kind == 6) = false ∧ (a.kind == 7) = true) := by
      rcases hk1 with h | h
      · exact .inl ⟨h, by rw [h]; rfl⟩
      · exact .inr ⟨by rw [h]; rfl, by rw [h]; rfl⟩
    repeat first
      | with_reducible refine AWP.seqJ (x := .seq (.region 3 _ _) _) ⟨[(0, .pointer (some ⟨i, 0, none⟩)), (1, .pointer (some ⟨j, 0, none⟩)), (7, .int .i64 t), (33, .bool true)], [], Ha⟩ ?_ ?_
      | with_reducible refine AWP.seq ?_
      | ((with_reducible refine AWP.region ?_ ?_); exact rfl)
      | with_reducible refine AWP.block ?_
      | with_reducible refine AWP.skip ?_
      | with_reducible refine AWP.exit ?_
      | with_reducible refine AWP.ret ?_
      | with_reducible refine AWP.label ?_
      | with_reducible refine AWP.goto ?_
      | ((with_reducible refine AWP.condT ?_ ?_); focus (simp only [ev, lk_cons, ↓reduceIte, Nat.reduceEqDiff]; done))
      | ((with_reducible refine AWP.condF ?_ ?_); focus (simp only [ev, lk_cons, ↓reduceIte, Nat.reduceEqDiff]; done))
      | simp only [go_sem, ↓reduceIte, Nat.reduceEqDiff, reduceCtorEq, Nat.reduceAdd, Int.reduceEq, Int.reduceBNe, Int.reduceBEq, Int.reduceToNat, Int.reduceLT, Int.reduceLE, Int.reduceGT, Int.reduceGE, Nat.reduceSub, Nat.reduceBEq, Nat.reduceBNe, Int.reduceAdd, Int.reduceSub, Int.reduceMul, Int.reduceNeg, Nat.reduceMul, Nat.reduceLeDiff, Nat.reduceLT, hab, habl]
      | simp (disch := omega) only [wi64, wu8, wu16, wu32, wu64, Int.tdiv_eq_ediv_of_nonneg, Int.tmod_eq_emod_of_nonneg]
      | with_reducible_and_instances exact finR
      | ((with_reducible refine finR' ?_ ?_) <;> rfl)
      | ((with_reducible refine finD hsc (NRel.of_plain ?_)); exact rfl)
    · rcases hk6 with ⟨_, h6⟩ | ⟨h6, h7⟩
      · repeat first
          | with_reducible refine AWP.seq ?_
          | ((with_reducible refine AWP.region ?_ ?_); exact rfl)
          | with_reducible refine AWP.block ?_
          | with_reducible refine AWP.skip ?_
          | with_reducible refine AWP.exit ?_
          | with_reducible refine AWP.ret ?_
          | with_reducible refine AWP.label ?_
          | with_reducible refine AWP.goto ?_
          | ((with_reducible refine AWP.condT ?_ ?_); focus (simp only [ev, lk_cons, ↓reduceIte, Nat.reduceEqDiff]; done))
          | ((with_reducible refine AWP.condF ?_ ?_); focus (simp only [ev, lk_cons, ↓reduceIte, Nat.reduceEqDiff]; done))
          | simp only [go_sem, ↓reduceIte, Nat.reduceEqDiff, reduceCtorEq, Nat.reduceAdd, Int.reduceEq, Int.reduceBNe, Int.reduceBEq, Int.reduceToNat, Int.reduceLT, Int.reduceLE, Int.reduceGT, Int.reduceGE, Nat.reduceSub, Nat.reduceBEq, Nat.reduceBNe, Int.reduceAdd, Int.reduceSub, Int.reduceMul, Int.reduceNeg, Nat.reduceMul, Nat.reduceLeDiff, Nat.reduceLT, h6]
          | simp (disch := omega) only [wi64, wu8, wu16, wu32, wu64, Int.tdiv_eq_ediv_of_nonneg, Int.tmod_eq_emod_of_nonneg]
          | with_reducible_and_instances exact finR
          | ((with_reducible refine finR' ?_ ?_) <;> rfl)
          | ((with_reducible refine finD hsc (NRel.of_plain ?_)); exact rfl)
        exact Weak.env (by simp [envIn, lk_cons, wth_some])
      · repeat first
          | with_reducible refine AWP.seq ?_
          | ((with_reducible refine AWP.region ?_ ?_); exact rfl)
          | with_reducible refine AWP.block ?_
          | with_reducible refine AWP.skip ?_
          | with_reducible refine AWP.exit ?_
          | with_reducible refine AWP.ret ?_
          | with_reducible refine AWP.label ?_
          | with_reducible refine AWP.goto ?_
          | ((with_reducible refine AWP.condT ?_ ?_); focus (simp only [ev, lk_cons, ↓reduceIte, Nat.reduceEqDiff]; done))
          | ((with_reducible refine AWP.condF ?_ ?_); focus (simp only [ev, lk_cons, ↓reduceIte, Nat.reduceEqDiff]; done))
          | simp only [go_sem, ↓reduceIte, Nat.reduceEqDiff, reduceCtorEq, Nat.reduceAdd, Int.reduceEq, Int.reduceBNe, Int.reduceBEq, Int.reduceToNat, Int.reduceLT, Int.reduceLE, Int.reduceGT, Int.reduceGE, Nat.reduceSub, Nat.reduceBEq, Nat.reduceBNe, Int.reduceAdd, Int.reduceSub, Int.reduceMul, Int.reduceNeg, Nat.reduceMul, Nat.reduceLeDiff, Nat.reduceLT, h6, h7]
          | simp (disch := omega) only [wi64, wu8, wu16, wu32, wu64, Int.tdiv_eq_ediv_of_nonneg, Int.tmod_eq_emod_of_nonneg]
          | with_reducible_and_instances exact finR
          | ((with_reducible refine finR' ?_ ?_) <;> rfl)
          | ((with_reducible refine finD hsc (NRel.of_plain ?_)); exact rfl)
        exact Weak.env (by simp [envIn, lk_cons, wth_some])
    cases hbd : badT s t with
    | true =>
      rw [hbd] at hbR
      have hT1 := TakeNo hA t hbd
      have hT2 := rTakeNo hR t hbR
      have hS1 := same (H := Ha) [] (.slice none 0 0) (.slice none 0 0) [] [] (by decide) (.inl ⟨rfl, rfl, rfl, rfl⟩) (.inl ⟨rfl, rfl, rfl, rfl⟩)
      repeat first
        | with_reducible refine AWP.seq ?_
        | ((with_reducible refine AWP.region ?_ ?_); exact rfl)
        | with_reducible refine AWP.block ?_
        | with_reducible refine AWP.skip ?_
        | with_reducible refine AWP.exit ?_
        | with_reducible refine AWP.ret ?_
        | with_reducible refine AWP.label ?_
        | with_reducible refine AWP.goto ?_
        | ((with_reducible refine AWP.condT ?_ ?_); focus (simp only [ev, lk_cons, ↓reduceIte, Nat.reduceEqDiff]; done))
        | ((with_reducible refine AWP.condF ?_ ?_); focus (simp only [ev, lk_cons, ↓reduceIte, Nat.reduceEqDiff]; done))
        | with_reducible refine hT1.use ?_
        | with_reducible refine hT2.use ?_
        | with_reducible refine hS1.use ?_
        | simp only [go_sem, ↓reduceIte, Nat.reduceEqDiff, reduceCtorEq, Nat.reduceAdd, Int.reduceEq, Int.reduceBNe, Int.reduceBEq, Int.reduceToNat, Int.reduceLT, Int.reduceLE, Int.reduceGT, Int.reduceGE, Nat.reduceSub, Nat.reduceBEq, Nat.reduceBNe, Int.reduceAdd, Int.reduceSub, Int.reduceMul, Int.reduceNeg, Nat.reduceMul, Nat.reduceLeDiff, Nat.reduceLT, p1]
        | simp (disch := omega) only [wi64, wu8, wu16, wu32, wu64, Int.tdiv_eq_ediv_of_nonneg, Int.tmod_eq_emod_of_nonneg]
        | with_reducible_and_instances exact finR
        | ((with_reducible refine finR' ?_ ?_) <;> rfl)
        | ((with_reducible refine finD hsc (NRel.of_plain ?_)); exact rfl)
      exact ⟨_, _, .refl _ _ _, rfl, hstep _ _ _ hP0 hc⟩
    | false =>
      rw [hbd] at hbR
      have hT1 := Take hA t hbd (hc.inB (by omega)) ⟨hok.arr.1, Int.lt_trans hok.arr.2 (by decide)⟩ (by have := hok.underL; omega)
      repeat first
        | with_reducible refine AWP.seq ?_
        | ((with_reducible refine AWP.region ?_ ?_); exact rfl)
        | with_reducible refine AWP.block ?_
        | with_reducible refine AWP.skip ?_
        | with_reducible refine AWP.exit ?_
        | with_reducible refine AWP.ret ?_
        | with_reducible refine AWP.label ?_
        | with_reducible refine AWP.goto ?_
        | ((with_reducible refine AWP.condT ?_ ?_); focus (simp only [ev, lk_cons, ↓reduceIte, Nat.reduceEqDiff]; done))
        | ((with_reducible refine AWP.condF ?_ ?_); focus (simp only [ev, lk_cons, ↓reduceIte, Nat.reduceEqDiff]; done))
        | simp only [go_sem, ↓reduceIte, Nat.reduceEqDiff, reduceCtorEq, Nat.reduceAdd, Int.reduceEq, Int.reduceBNe, Int.reduceBEq, Int.reduceToNat, Int.reduceLT, Int.reduceLE, Int.reduceGT, Int.reduceGE, Nat.reduceSub, Nat.reduceBEq, Nat.reduceBNe, Int.reduceAdd, Int.reduceSub, Int.reduceMul, Int.reduceNeg, Nat.reduceMul, Nat.reduceLeDiff, Nat.reduceLT]
        | simp (disch := omega) only [wi64, wu8, wu16, wu32, wu64, Int.tdiv_eq_ediv_of_nonneg, Int.tmod_eq_emod_of_nonneg]
        | with_reducible_and_instances exact finR
        | ((with_reducible refine finR' ?_ ?_) <;> rfl)
        | ((with_reducible refine finD hsc (NRel.of_plain ?_)); exact rfl)
      refine AC.mono hT1 ?_
      rintro v H1 ⟨l, vo, rfl, hperm, hsrt, ⟨So, hO, hSo⟩, hto⟩
      obtain ⟨S1, hA1, hR1, hf1, hfS, hS1⟩ := PS.goL' hA hR hf0 hS hto
      have hT2 := rTake hR1 t hbR hc.wfR hc.keyR ⟨hokR.arr.1, Int.lt_trans hokR.arr.2 (by decide)⟩ (by have := hokR.underL; omega) l (hperm.trans hc.und) hsrt
      repeat first
        | with_reducible refine AWP.seq ?_
        | ((with_reducible refine AWP.region ?_ ?_); exact rfl)
        | with_reducible refine AWP.block ?_
        | with_reducible refine AWP.skip ?_
        | with_reducible refine AWP.exit ?_
        | with_reducible refine AWP.ret ?_
        | with_reducible refine AWP.label ?_
        | with_reducible refine AWP.goto ?_
        | ((with_reducible refine AWP.condT ?_ ?_); focus (simp only [ev, lk_cons, ↓reduceIte, Nat.reduceEqDiff]; done))
        | ((with_reducible refine AWP.condF ?_ ?_); focus (simp only [ev, lk_cons, ↓reduceIte, Nat.reduceEqDiff]; done))
        | simp only [go_sem, ↓reduceIte, Nat.reduceEqDiff, reduceCtorEq, Nat.reduceAdd, Int.reduceEq, Int.reduceBNe, Int.reduceBEq, Int.reduceToNat, Int.reduceLT, Int.reduceLE, Int.reduceGT, Int.reduceGE, Nat.reduceSub, Nat.reduceBEq, Nat.reduceBNe, Int.reduceAdd, Int.reduceSub, Int.reduceMul, Int.reduceNeg, Nat.reduceMul, Nat.reduceLeDiff, Nat.reduceLT]
        | simp (disch := omega) only [wi64, wu8, wu16, wu32, wu64, Int.tdiv_eq_ediv_of_nonneg, Int.tmod_eq_emod_of_nonneg]
        | with_reducible_and_instances exact finR
        | ((with_reducible refine finR' ?_ ?_) <;> rfl)
        | ((with_reducible refine finD hsc (NRel.of_plain ?_)); exact rfl)
      refine AC.mono hT2 ?_
      rintro v H2 ⟨vo2, rfl, ⟨So2, hO2, hSo2⟩, u', hu', hto2⟩
      have hP2 := PS.goR hA1 hR1 hf1 hS1 hT hto2
      obtain ⟨T2, -, hfT, -⟩ := hto2
      have hO' := hO.frm hfT fun x hx hx2 => by have := hSo x hx; have := hTl x hx2; omega
      have hll := hperm.length_eq
      have hlt : (l.takeWhile fun x => decide (x.time ≤ t)).length ≤ l.length := (List.takeWhile_sublist _).length_le
      rw [← List.length_map (f := fun x : Cm => x.p)] at hO' hO2
      have hSm := same _ vo vo2 So So2 (by rw [List.length_map]; have := hok.underL; omega) hO' hO2
      repeat first
        | with_reducible refine AWP.seq ?_
        | ((with_reducible refine AWP.region ?_ ?_); exact rfl)
        | with_reducible refine AWP.block ?_
        | with_reducible refine AWP.skip ?_
        | with_reducible refine AWP.exit ?_
        | with_reducible refine AWP.ret ?_
        | with_reducible refine AWP.label ?_
        | with_reducible refine AWP.goto ?_
        | ((with_reducible refine AWP.condT ?_ ?_); focus (simp only [ev, lk_cons, ↓reduceIte, Nat.reduceEqDiff]; done))
        | ((with_reducible refine AWP.condF ?_ ?_); focus (simp only [ev, lk_cons, ↓reduceIte, Nat.reduceEqDiff]; done))
        | with_reducible refine hSm.use ?_
        | simp only [go_sem, ↓reduceIte, Nat.reduceEqDiff, reduceCtorEq, Nat.reduceAdd, Int.reduceEq, Int.reduceBNe, Int.reduceBEq, Int.reduceToNat, Int.reduceLT, Int.reduceLE, Int.reduceGT, Int.reduceGE, Nat.reduceSub, Nat.reduceBEq, Nat.reduceBNe, Int.reduceAdd, Int.reduceSub, Int.reduceMul, Int.reduceNeg, Nat.reduceMul, Nat.reduceLeDiff, Nat.reduceLT, p1]
        | simp (disch := omega) only [wi64, wu8, wu16, wu32, wu64, Int.tdiv_eq_ediv_of_nonneg, Int.tmod_eq_emod_of_nonneg]
        | with_reducible_and_instances exact finR
        | ((with_reducible refine finR' ?_ ?_) <;> rfl)
        | ((with_reducible refine finD hsc (NRel.of_plain ?_)); exact rfl)
      exact ⟨_, _, .refl _ _ _, rfl, hstep _ _ _ hP2 (hc.take hbd hperm hu')⟩
  have h6 : (a.kind == 6) = false := by rw [beq_eq_false_iff_ne]; exact fun e => hk1 (.inl e)
  have h7 : (a.kind == 7) = false := by rw [beq_eq_false_iff_ne]; exact fun e => hk1 (.inr e)
  by_cases hk8 : a.kind = 8
  · have h8 : (a.kind == 8) = true := by rw [hk8]; rfl
    cases hbd : badT s t with
    | true =>
      rw [hbd] at hbR
      have hQ1 := QueueNo hA t hbd
      have hQ2 := rQueueNo hR t hbR
      repeat first
        | with_reducible refine AWP.seq ?_
        | ((with_reducible refine AWP.region ?_ ?_); exact rfl)
        | with_reducible refine AWP.block ?_
        | with_reducible refine AWP.skip ?_
        | with_reducible refine AWP.exit ?_
        | with_reducible refine AWP.ret ?_
        | with_reducible refine AWP.label ?_
        | with_reducible refine AWP.goto ?_
        | ((with_reducible refine AWP.condT ?_ ?_); focus (simp only [ev, lk_cons, ↓reduceIte, Nat.reduceEqDiff]; done))
        | ((with_reducible refine AWP.condF ?_ ?_); focus (simp only [ev, lk_cons, ↓reduceIte, Nat.reduceEqDiff]; done))
        | with_reducible refine hQ1.use ?_
        | with_reducible refine hQ2.use ?_
        | simp only [go_sem, ↓reduceIte, Nat.reduceEqDiff, reduceCtorEq, Nat.reduceAdd, Int.reduceEq, Int.reduceBNe, Int.reduceBEq, Int.reduceToNat, Int.reduceLT, Int.reduceLE, Int.reduceGT, Int.reduceGE, Nat.reduceSub, Nat.reduceBEq, Nat.reduceBNe, Int.reduceAdd, Int.reduceSub, Int.reduceMul, Int.reduceNeg, Nat.reduceMul, Nat.reduceLeDiff, Nat.reduceLT, hab, habl, h6, h7, h8, p1]
        | simp (disch := omega) only [wi64, wu8, wu16, wu32, wu64, Int.tdiv_eq_ediv_of_nonneg, Int.tmod_eq_emod_of_nonneg]
        | with_reducible_and_instances exact finR
        | ((with_reducible refine finR' ?_ ?_) <;> rfl)
        | ((with_reducible refine finD hsc (NRel.of_plain ?_)); exact rfl)
      exact ⟨_, _, .refl _ _ _, rfl, hstep _ _ _ hP0 hc⟩
    | false =>
      rw [hbd] at hbR
      have hQ1 := Queue hA (by have := hok.waitL; omega) hok.wait t hbd
      repeat first
        | with_reducible refine AWP.seq ?_
        | ((with_reducible refine AWP.region ?_ ?_); exact rfl)
        | with_reducible refine AWP.block ?_
        | with_reducible refine AWP.skip ?_
        | with_reducible refine AWP.exit ?_
        | with_reducible refine AWP.ret ?_
        | with_reducible refine AWP.label ?_
        | with_reducible refine AWP.goto ?_
        | ((with_reducible refine AWP.condT ?_ ?_); focus (simp only [ev, lk_cons, ↓reduceIte, Nat.reduceEqDiff]; done))
        | ((with_reducible refine AWP.condF ?_ ?_); focus (simp only [ev, lk_cons, ↓reduceIte, Nat.reduceEqDiff]; done))
        | simp only [go_sem, ↓reduceIte, Nat.reduceEqDiff, reduceCtorEq, Nat.reduceAdd, Int.reduceEq, Int.reduceBNe, Int.reduceBEq, Int.reduceToNat, Int.reduceLT, Int.reduceLE, Int.reduceGT, Int.reduceGE, Nat.reduceSub, Nat.reduceBEq, Nat.reduceBNe, Int.reduceAdd, Int.reduceSub, Int.reduceMul, Int.reduceNeg, Nat.reduceMul, Nat.reduceLeDiff, Nat.reduceLT, hab, habl, h6, h7, h8]
        | simp (disch := omega) only [wi64, wu8, wu16, wu32, wu64, Int.tdiv_eq_ediv_of_nonneg, Int.tmod_eq_emod_of_nonneg]
        | with_reducible_and_instances exact finR
        | ((with_reducible refine finR' ?_ ?_) <;> rfl)
        | ((with_reducible refine finD hsc (NRel.of_plain ?_)); exact rfl)
      refine hQ1.use fun H1 hto => ?_
      obtain ⟨S1, hA1, hR1, hf1, hfS, hS1⟩ := PS.goL' hA hR hf0 hS hto
      have hQ2 := rQueue hR1 (by have := hokR.allL; omega) hokR.all t hbR
      have hwt : sumW (wq (allW r.all) t) = sumW (wq s.wait t) := (hc.wait t (by unfold badT at hbd; simp at hbd; omega)).symm
      rw [hwt] at hQ2
      repeat first
        | with_reducible refine AWP.seq ?_
        | ((with_reducible refine AWP.region ?_ ?_); exact rfl)
        | with_reducible refine AWP.block ?_
        | with_reducible refine AWP.skip ?_
        | with_reducible refine AWP.exit ?_
        | with_reducible refine AWP.ret ?_
        | with_reducible refine AWP.label ?_
        | with_reducible refine AWP.goto ?_
        | ((with_reducible refine AWP.condT ?_ ?_); focus (simp only [ev, lk_cons, ↓reduceIte, Nat.reduceEqDiff]; done))
        | ((with_reducible refine AWP.condF ?_ ?_); focus (simp only [ev, lk_cons, ↓reduceIte, Nat.reduceEqDiff]; done))
        | simp only [go_sem, ↓reduceIte, Nat.reduceEqDiff, reduceCtorEq, Nat.reduceAdd, Int.reduceEq, Int.reduceBNe, Int.reduceBEq, Int.reduceToNat, Int.reduceLT, Int.reduceLE, Int.reduceGT, Int.reduceGE, Nat.reduceSub, Nat.reduceBEq, Nat.reduceBNe, Int.reduceAdd, Int.reduceSub, Int.reduceMul, Int.reduceNeg, Nat.reduceMul, Nat.reduceLeDiff, Nat.reduceLT]
        | simp (disch := omega) only [wi64, wu8, wu16, wu32, wu64, Int.tdiv_eq_ediv_of_nonneg, Int.tmod_eq_emod_of_nonneg]
        | with_reducible_and_instances exact finR
        | ((with_reducible refine finR' ?_ ?_) <;> rfl)
        | ((with_reducible refine finD hsc (NRel.of_plain ?_)); exact rfl)
      refine hQ2.use fun H2 hto2 => ?_
      have hP2 := PS.goR hA1 hR1 hf1 hS1 hT hto2
      repeat first
        | with_reducible refine AWP.seq ?_
        | ((with_reducible refine AWP.region ?_ ?_); exact rfl)
        | with_reducible refine AWP.block ?_
        | with_reducible refine AWP.skip ?_
        | with_reducible refine AWP.exit ?_
        | with_reducible refine AWP.ret ?_
        | with_reducible refine AWP.label ?_
        | with_reducible refine AWP.goto ?_
        | ((with_reducible refine AWP.condT ?_ ?_); focus (simp only [ev, lk_cons, ↓reduceIte, Nat.reduceEqDiff]; done))
        | ((with_reducible refine AWP.condF ?_ ?_); focus (simp only [ev, lk_cons, ↓reduceIte, Nat.reduceEqDiff]; done))
        | simp only [go_sem, ↓reduceIte, Nat.reduceEqDiff, reduceCtorEq, Nat.reduceAdd, Int.reduceEq, Int.reduceBNe, Int.reduceBEq, Int.reduceToNat, Int.reduceLT, Int.reduceLE, Int.reduceGT, Int.reduceGE, Nat.reduceSub, Nat.reduceBEq, Nat.reduceBNe, Int.reduceAdd, Int.reduceSub, Int.reduceMul, Int.reduceNeg, Nat.reduceMul, Nat.reduceLeDiff, Nat.reduceLT, p1]
        | simp (disch := omega) only [wi64, wu8, wu16, wu32, wu64, Int.tdiv_eq_ediv_of_nonneg, Int.tmod_eq_emod_of_nonneg]
        | with_reducible_and_instances exact finR
        | ((with_reducible refine finR' ?_ ?_) <;> rfl)
        | ((with_reducible refine finD hsc (NRel.of_plain ?_)); exact rfl)
      exact ⟨_, _, .refl _ _ _, rfl, hstep _ _ _ hP2 (hc.tell hbd)⟩
  have h8 : (a.kind == 8) = false := by rw [beq_eq_false_iff_ne]; exact hk8
  by_cases hk9 : a.kind = 9
  · have h9 : (a.kind == 9) = true := by rw [hk9]; rfl
    cases hbd : badT s t with
    | true =>
      rw [hbd] at hbR
      have hQ1 := WaitNo hA t hbd
      have hQ2 := rWaitNo hR t hbR
      repeat first
        | with_reducible refine AWP.seq ?_
        | ((with_reducible refine AWP.region ?_ ?_); exact rfl)
        | with_reducible refine AWP.block ?_
        | with_reducible refine AWP.skip ?_
        | with_reducible refine AWP.exit ?_
        | with_reducible refine AWP.ret ?_
        | with_reducible refine AWP.label ?_
        | with_reducible refine AWP.goto ?_
        | ((with_reducible refine AWP.condT ?_ ?_); focus (simp only [ev, lk_cons, ↓reduceIte, Nat.reduceEqDiff]; done))
        | ((with_reducible refine AWP.condF ?_ ?_); focus (simp only [ev, lk_cons, ↓reduceIte, Nat.reduceEqDiff]; done))
        | with_reducible refine hQ1.use ?_
        | with_reducible refine hQ2.use ?_
        | simp only [go_sem, ↓reduceIte, Nat.reduceEqDiff, reduceCtorEq, Nat.reduceAdd, Int.reduceEq, Int.reduceBNe, Int.reduceBEq, Int.reduceToNat, Int.reduceLT, Int.reduceLE, Int.reduceGT, Int.reduceGE, Nat.reduceSub, Nat.reduceBEq, Nat.reduceBNe, Int.reduceAdd, Int.reduceSub, Int.reduceMul, Int.reduceNeg, Nat.reduceMul, Nat.reduceLeDiff, Nat.reduceLT, hab, habl, h6, h7, h8, h9, p1]
        | simp (disch := omega) only [wi64, wu8, wu16, wu32, wu64, Int.tdiv_eq_ediv_of_nonneg, Int.tmod_eq_emod_of_nonneg]
        | with_reducible_and_instances exact finR
        | ((with_reducible refine finR' ?_ ?_) <;> rfl)
        | ((with_reducible refine finD hsc (NRel.of_plain ?_)); exact rfl)
      exact ⟨_, _, .refl _ _ _, rfl, hstep _ _ _ hP0 hc⟩
    | false =>
      rw [hbd] at hbR
      have hQ1 := Wait hA ⟨hok.free.1, Int.lt_trans hok.free.2 (by decide)⟩ hok.now.1 t hbd
      repeat first
        | with_reducible refine AWP.seq ?_
        | ((with_reducible refine AWP.region ?_ ?_); exact rfl)
        | with_reducible refine AWP.block ?_
        | with_reducible refine AWP.skip ?_
        | with_reducible refine AWP.exit ?_
        | with_reducible refine AWP.ret ?_
        | with_reducible refine AWP.label ?_
        | with_reducible refine AWP.goto ?_
        | ((with_reducible refine AWP.condT ?_ ?_); focus (simp only [ev, lk_cons, ↓reduceIte, Nat.reduceEqDiff]; done))
        | ((with_reducible refine AWP.condF ?_ ?_); focus (simp only [ev, lk_cons, ↓reduceIte, Nat.reduceEqDiff]; done))
        | simp only [go_sem, ↓reduceIte, Nat.reduceEqDiff, reduceCtorEq, Nat.reduceAdd, Int.reduceEq, Int.reduceBNe, Int.reduceBEq, Int.reduceToNat, Int.reduceLT, Int.reduceLE, Int.reduceGT, Int.reduceGE, Nat.reduceSub, Nat.reduceBEq, Nat.reduceBNe, Int.reduceAdd, Int.reduceSub, Int.reduceMul, Int.reduceNeg, Nat.reduceMul, Nat.reduceLeDiff, Nat.reduceLT, hab, habl, h6, h7, h8, h9]
        | simp (disch := omega) only [wi64, wu8, wu16, wu32, wu64, Int.tdiv_eq_ediv_of_nonneg, Int.tmod_eq_emod_of_nonneg]
        | with_reducible_and_instances exact finR
        | ((with_reducible refine finR' ?_ ?_) <;> rfl)
        | ((with_reducible refine finD hsc (NRel.of_plain ?_)); exact rfl)
      refine hQ1.use fun H1 hto => ?_
      obtain ⟨S1, hA1, hR1, hf1, hfS, hS1⟩ := PS.goL' hA hR hf0 hS hto
      have hQ2 : ARex Try.prog 43 [.pointer (some ⟨j, 0, none⟩), .int .i64 t] H1 (.tuple ⟨[.int .i64 (max 0 (s.free - t)), .int .i64 0]⟩) (RkTo H1 j T { r with now := t }) := by
        rw [← hc.free]
        exact rWait hR1 ⟨hokR.free.1, Int.lt_trans hokR.free.2 (by decide)⟩ hokR.now.1 t hbR
      repeat first
        | with_reducible refine AWP.seq ?_
        | ((with_reducible refine AWP.region ?_ ?_); exact rfl)
        | with_reducible refine AWP.block ?_
        | with_reducible refine AWP.skip ?_
        | with_reducible refine AWP.exit ?_
        | with_reducible refine AWP.ret ?_
        | with_reducible refine AWP.label ?_
        | with_reducible refine AWP.goto ?_
        | ((with_reducible refine AWP.condT ?_ ?_); focus (simp only [ev, lk_cons, ↓reduceIte, Nat.reduceEqDiff]; done))
        | ((with_reducible refine AWP.condF ?_ ?_); focus (simp only [ev, lk_cons, ↓reduceIte, Nat.reduceEqDiff]; done))
        | simp only [go_sem, ↓reduceIte, Nat.reduceEqDiff, reduceCtorEq, Nat.reduceAdd, Int.reduceEq, Int.reduceBNe, Int.reduceBEq, Int.reduceToNat, Int.reduceLT, Int.reduceLE, Int.reduceGT, Int.reduceGE, Nat.reduceSub, Nat.reduceBEq, Nat.reduceBNe, Int.reduceAdd, Int.reduceSub, Int.reduceMul, Int.reduceNeg, Nat.reduceMul, Nat.reduceLeDiff, Nat.reduceLT]
        | simp (disch := omega) only [wi64, wu8, wu16, wu32, wu64, Int.tdiv_eq_ediv_of_nonneg, Int.tmod_eq_emod_of_nonneg]
        | with_reducible_and_instances exact finR
        | ((with_reducible refine finR' ?_ ?_) <;> rfl)
        | ((with_reducible refine finD hsc (NRel.of_plain ?_)); exact rfl)
      refine hQ2.use fun H2 hto2 => ?_
      have hP2 := PS.goR hA1 hR1 hf1 hS1 hT hto2
      repeat first
        | with_reducible refine AWP.seq ?_
        | ((with_reducible refine AWP.region ?_ ?_); exact rfl)
        | with_reducible refine AWP.block ?_
        | with_reducible refine AWP.skip ?_
        | with_reducible refine AWP.exit ?_
        | with_reducible refine AWP.ret ?_
        | with_reducible refine AWP.label ?_
        | with_reducible refine AWP.goto ?_
        | ((with_reducible refine AWP.condT ?_ ?_); focus (simp only [ev, lk_cons, ↓reduceIte, Nat.reduceEqDiff]; done))
        | ((with_reducible refine AWP.condF ?_ ?_); focus (simp only [ev, lk_cons, ↓reduceIte, Nat.reduceEqDiff]; done))
        | simp only [go_sem, ↓reduceIte, Nat.reduceEqDiff, reduceCtorEq, Nat.reduceAdd, Int.reduceEq, Int.reduceBNe, Int.reduceBEq, Int.reduceToNat, Int.reduceLT, Int.reduceLE, Int.reduceGT, Int.reduceGE, Nat.reduceSub, Nat.reduceBEq, Nat.reduceBNe, Int.reduceAdd, Int.reduceSub, Int.reduceMul, Int.reduceNeg, Nat.reduceMul, Nat.reduceLeDiff, Nat.reduceLT, p1]
        | simp (disch := omega) only [wi64, wu8, wu16, wu32, wu64, Int.tdiv_eq_ediv_of_nonneg, Int.tmod_eq_emod_of_nonneg]
        | with_reducible_and_instances exact finR
        | ((with_reducible refine finR' ?_ ?_) <;> rfl)
        | ((with_reducible refine finD hsc (NRel.of_plain ?_)); exact rfl)
      exact ⟨_, _, .refl _ _ _, rfl, hstep _ _ _ hP2 (hc.tell hbd)⟩
  have h9 : (a.kind == 9) = false := by rw [beq_eq_false_iff_ne]; exact hk9
  by_cases hk10 : a.kind = 10
  · have h10 : (a.kind == 10) = true := by rw [hk10]; rfl
    have hap : a.pipe.c = [.int .i64 a.pipe.delay, .int .i64 a.pipe.rate, .int .i64 a.pipe.room, .int .i64 a.pipe.loss, .int .i64 a.pipe.dbl, .int .i64 a.pipe.jit] := rfl
    have hSet : ∃ e s', ARex Try.prog 44 [.pointer (some ⟨i, 0, none⟩), .agg ⟨a.pipe.c⟩] Ha (.int .i64 e) (LkTo Ha i S s') ∧ ∃ r', (∀ H1, RkAt H1 j r T → ARex Try.prog 45 [.pointer (some ⟨j, 0, none⟩), .agg ⟨a.pipe.c⟩] H1 (.int .i64 e) (RkTo H1 j T r')) ∧ Cpl s' r' n := by
      cases hpo : a.pipe.ok with
      | true => exact ⟨0, _, Go.Proofs.Ytnfkbgpbligloaa.set hA a.pipe hpo, _, fun H1 h1 => rSet h1 a.pipe hpo, hc.set hpo⟩
      | false => exact ⟨1, _, setNo hA a.pipe hpo, _, fun H1 h1 => rSetNo h1 a.pipe hpo, hc⟩
    obtain ⟨e, s', hS1, r', hS2, hc'⟩ := hSet
    rw [hap] at hS1 hS2
    repeat first
      | with_reducible refine AWP.seq ?_
      | ((with_reducible refine AWP.region ?_ ?_); exact rfl)
      | with_reducible refine AWP.block ?_
      | with_reducible refine AWP.skip ?_
      | with_reducible refine AWP.exit ?_
      | with_reducible refine AWP.ret ?_
      | with_reducible refine AWP.label ?_
      | with_reducible refine AWP.goto ?_
      | ((with_reducible refine AWP.condT ?_ ?_); focus (simp only [ev, lk_cons, ↓reduceIte, Nat.reduceEqDiff]; done))
      | ((with_reducible refine AWP.condF ?_ ?_); focus (simp only [ev, lk_cons, ↓reduceIte, Nat.reduceEqDiff]; done))
      | simp only [go_sem, ↓reduceIte, Nat.reduceEqDiff, reduceCtorEq, Nat.reduceAdd, Int.reduceEq, Int.reduceBNe, Int.reduceBEq, Int.reduceToNat, Int.reduceLT, Int.reduceLE, Int.reduceGT, Int.reduceGE, Nat.reduceSub, Nat.reduceBEq, Nat.reduceBNe, Int.reduceAdd, Int.reduceSub, Int.reduceMul, Int.reduceNeg, Nat.reduceMul, Nat.reduceLeDiff, Nat.reduceLT, hab, habl, h6, h7, h8, h9, h10]
      | simp (disch := omega) only [wi64, wu8, wu16, wu32, wu64, Int.tdiv_eq_ediv_of_nonneg, Int.tmod_eq_emod_of_nonneg]
      | with_reducible_and_instances exact finR
      | ((with_reducible refine finR' ?_ ?_) <;> rfl)
      | ((with_reducible refine finD hsc (NRel.of_plain ?_)); exact rfl)
    refine AWP.regionM 7 [2, 3, 6] [] (.both (.step 2 (.both (.run [3, 6]) (.run [6, 3]))) (.run [6, 2, 3])) (by kernel_rfl) (by decide) (by kernel_rfl) (by kernel_rfl) (by kernel_rfl) ?_
    repeat' first
      | with_reducible refine canW_n ?_
      | with_reducible refine canW_m (by decide) ?_
      | ((with_reducible apply canW_p (by decide)); focus (intro H; (simp only [go_sem, ↓reduceIte, Nat.reduceEqDiff, reduceCtorEq, Nat.reduceAdd, Int.reduceEq, Int.reduceBNe, Int.reduceBEq, Int.reduceToNat, Int.reduceLT, Int.reduceLE, Int.reduceGT, Int.reduceGE, Nat.reduceSub, Nat.reduceBEq, Nat.reduceBNe, Int.reduceAdd, Int.reduceSub, Int.reduceMul, Int.reduceNeg, Nat.reduceMul, Nat.reduceLeDiff, Nat.reduceLT, hab, habl, List.map_cons, List.map_nil]); exact rfl))
      | with_reducible refine memW_b ?_ ?_
      | with_reducible refine memW_s rfl ?_
      | with_reducible refine memW_r rfl ?_
      | with_reducible refine memW_e ?_
      | simp only [List.take_succ_cons, List.take_zero, List.drop_succ_cons, List.drop_zero]
      | omega
      | with_reducible refine And.intro ?_ ?_
      | with_reducible refine hS1.use fun H1 hto => ?_
      | with_reducible refine AWP.seq ?_
      | ((with_reducible refine AWP.region ?_ ?_); exact rfl)
      | with_reducible refine AWP.block ?_
      | with_reducible refine AWP.skip ?_
      | with_reducible refine AWP.exit ?_
      | with_reducible refine AWP.ret ?_
      | with_reducible refine AWP.label ?_
      | with_reducible refine AWP.goto ?_
      | ((with_reducible refine AWP.condT ?_ ?_); focus (simp only [ev, lk_cons, ↓reduceIte, Nat.reduceEqDiff]; done))
      | ((with_reducible refine AWP.condF ?_ ?_); focus (simp only [ev, lk_cons, ↓reduceIte, Nat.reduceEqDiff]; done))
      | simp only [go_sem, ↓reduceIte, Nat.reduceEqDiff, reduceCtorEq, Nat.reduceAdd, Int.reduceEq, Int.reduceBNe, Int.reduceBEq, Int.reduceToNat, Int.reduceLT, Int.reduceLE, Int.reduceGT, Int.reduceGE, Nat.reduceSub, Nat.reduceBEq, Nat.reduceBNe, Int.reduceAdd, Int.reduceSub, Int.reduceMul, Int.reduceNeg, Nat.reduceMul, Nat.reduceLeDiff, Nat.reduceLT, hab, habl, List.map_cons, List.map_nil]
      | simp (disch := omega) only [wi64, wu8, wu16, wu32, wu64, Int.tdiv_eq_ediv_of_nonneg, Int.tmod_eq_emod_of_nonneg]
      | with_reducible_and_instances exact finR
      | ((with_reducible refine finR' ?_ ?_) <;> rfl)
      | ((with_reducible refine finD hsc (NRel.of_plain ?_)); exact rfl)
    all_goals
      obtain ⟨S1, hA1, hR1, hf1, hfS, hS1'⟩ := PS.goL' hA hR hf0 hS hto
      have hab1 := hfS.get hab hnS
      have habl1 := lt_of_get hab1
      repeat' first
        | with_reducible refine canW_n ?_
        | with_reducible refine canW_m (by decide) ?_
        | ((with_reducible apply canW_p (by decide)); focus (intro H; (simp only [go_sem, ↓reduceIte, Nat.reduceEqDiff, reduceCtorEq, Nat.reduceAdd, Int.reduceEq, Int.reduceBNe, Int.reduceBEq, Int.reduceToNat, Int.reduceLT, Int.reduceLE, Int.reduceGT, Int.reduceGE, Nat.reduceSub, Nat.reduceBEq, Nat.reduceBNe, Int.reduceAdd, Int.reduceSub, Int.reduceMul, Int.reduceNeg, Nat.reduceMul, Nat.reduceLeDiff, Nat.reduceLT, hab1, habl1, p1, List.map_cons, List.map_nil]); exact rfl))
        | with_reducible refine memW_b ?_ ?_
        | with_reducible refine memW_s rfl ?_
        | with_reducible refine memW_r rfl ?_
        | with_reducible refine memW_e ?_
        | simp only [List.take_succ_cons, List.take_zero, List.drop_succ_cons, List.drop_zero]
        | omega
        | with_reducible refine And.intro ?_ ?_
        | with_reducible refine (hS2 _ hR1).use fun H2 hto2 => ?_
        | with_reducible refine AWP.seq ?_
        | ((with_reducible refine AWP.region ?_ ?_); exact rfl)
        | with_reducible refine AWP.block ?_
        | with_reducible refine AWP.skip ?_
        | with_reducible refine AWP.exit ?_
        | with_reducible refine AWP.ret ?_
        | with_reducible refine AWP.label ?_
        | with_reducible refine AWP.goto ?_
        | ((with_reducible refine AWP.condT ?_ ?_); focus (simp only [ev, lk_cons, ↓reduceIte, Nat.reduceEqDiff]; done))
        | ((with_reducible refine AWP.condF ?_ ?_); focus (simp only [ev, lk_cons, ↓reduceIte, Nat.reduceEqDiff]; done))
        | simp only [go_sem, ↓reduceIte, Nat.reduceEqDiff, reduceCtorEq, Nat.reduceAdd, Int.reduceEq, Int.reduceBNe, Int.reduceBEq, Int.reduceToNat, Int.reduceLT, Int.reduceLE, Int.reduceGT, Int.reduceGE, Nat.reduceSub, Nat.reduceBEq, Nat.reduceBNe, Int.reduceAdd, Int.reduceSub, Int.reduceMul, Int.reduceNeg, Nat.reduceMul, Nat.reduceLeDiff, Nat.reduceLT, hab1, habl1, p1, List.map_cons, List.map_nil]
        | simp (disch := omega) only [wi64, wu8, wu16, wu32, wu64, Int.tdiv_eq_ediv_of_nonneg, Int.tmod_eq_emod_of_nonneg]
        | with_reducible_and_instances exact finR
        | ((with_reducible refine finR' ?_ ?_) <;> rfl)
        | ((with_reducible refine finD hsc (NRel.of_plain ?_)); exact rfl)
    all_goals
      have hP2 := PS.goR hA1 hR1 hf1 hS1' hT hto2
      repeat' first
        | with_reducible refine canW_n ?_
        | with_reducible refine canW_m (by decide) ?_
        | ((with_reducible apply canW_p (by decide)); focus (intro H; (simp only [go_sem, ↓reduceIte, Nat.reduceEqDiff, reduceCtorEq, Nat.reduceAdd, Int.reduceEq, Int.reduceBNe, Int.reduceBEq, Int.reduceToNat, Int.reduceLT, Int.reduceLE, Int.reduceGT, Int.reduceGE, Nat.reduceSub, Nat.reduceBEq, Nat.reduceBNe, Int.reduceAdd, Int.reduceSub, Int.reduceMul, Int.reduceNeg, Nat.reduceMul, Nat.reduceLeDiff, Nat.reduceLT, p1, List.map_cons, List.map_nil]); exact rfl))
        | with_reducible refine memW_b ?_ ?_
        | with_reducible refine memW_s rfl ?_
        | with_reducible refine memW_r rfl ?_
        | with_reducible refine memW_e ?_
        | simp only [List.take_succ_cons, List.take_zero, List.drop_succ_cons, List.drop_zero]
        | omega
        | with_reducible refine And.intro ?_ ?_
        | with_reducible refine AWP.seq ?_
        | ((with_reducible refine AWP.region ?_ ?_); exact rfl)
        | with_reducible refine AWP.block ?_
        | with_reducible refine AWP.skip ?_
        | with_reducible refine AWP.exit ?_
        | with_reducible refine AWP.ret ?_
        | with_reducible refine AWP.label ?_
        | with_reducible refine AWP.goto ?_
        | ((with_reducible refine AWP.condT ?_ ?_); focus (simp only [ev, lk_cons, ↓reduceIte, Nat.reduceEqDiff]; done))
        | ((with_reducible refine AWP.condF ?_ ?_); focus (simp only [ev, lk_cons, ↓reduceIte, Nat.reduceEqDiff]; done))
        | simp only [go_sem, ↓reduceIte, Nat.reduceEqDiff, reduceCtorEq, Nat.reduceAdd, Int.reduceEq, Int.reduceBNe, Int.reduceBEq, Int.reduceToNat, Int.reduceLT, Int.reduceLE, Int.reduceGT, Int.reduceGE, Nat.reduceSub, Nat.reduceBEq, Nat.reduceBNe, Int.reduceAdd, Int.reduceSub, Int.reduceMul, Int.reduceNeg, Nat.reduceMul, Nat.reduceLeDiff, Nat.reduceLT, p1, List.map_cons, List.map_nil]
        | simp (disch := omega) only [wi64, wu8, wu16, wu32, wu64, Int.tdiv_eq_ediv_of_nonneg, Int.tmod_eq_emod_of_nonneg]
        | with_reducible_and_instances exact finR
        | ((with_reducible refine finR' ?_ ?_) <;> rfl)
        | ((with_reducible refine finD hsc (NRel.of_plain ?_)); exact rfl)
    all_goals exact ⟨_, _, .refl _ _ _, rfl, hstep _ _ _ hP2 hc'⟩
  have h10 : (a.kind == 10) = false := by rw [beq_eq_false_iff_ne]; exact hk10
  have hbl : ¬ (a.body.length : Int) > 65536 := by omega
  have hul : ¬ (s.under.length : Int) ≥ 10000 := by have := hc.arrb; omega
  have hulR : ¬ (r.under.length : Int) ≥ 10000 := by have := hc.und.length_eq; omega
  have hbS := hc.badS t a.size
  have hPut : ∃ e d i0 s', ARex Try.prog 9 [.pointer (some ⟨i, 0, none⟩), .int .i64 t, .int .i64 a.size, .string (bs a.body)] Ha (.tuple ⟨[.int .i64 i0, .bool d, .int .i64 e]⟩) (LkTo Ha i S s') ∧ ∃ r', (∀ H1, RkAt H1 j r T → ARex Try.prog 46 [.pointer (some ⟨j, 0, none⟩), .int .i64 t, .int .i64 a.size, .string (bs a.body)] H1 (.tuple ⟨[.int .i64 i0, .bool d, .int .i64 e]⟩) (RkTo H1 j T r')) ∧ Cpl s' r' (n + 1) := by
    cases hbb : badS s t a.size with
    | true =>
      rw [hbb] at hbS
      exact ⟨7, false, 0, s, ARet.rex (putRange hA t a.size a.body hbl hbb) ⟨S, hA, .refl _ _, fun x hx => .inl hx⟩, r, fun H1 h1 => ARet.rex (rPutRange h1 t a.size a.body hbl hbS) ⟨T, h1, .refl _ _, fun x hx => .inl hx⟩, hc.mono⟩
    | false =>
      rw [hbb] at hbS
      have hdq := hc.dropQ hbb
      cases hd : s.dropQ t a.size with
      | true =>
        rw [hd] at hdq
        exact ⟨0, true, 0, _, putDrop hA hok t a.size a.body hbl hbb hul hd, _, fun H1 h1 => rPutDrop h1 hokR t a.size a.body hbl hbS hulR hdq, hc.dropped hbb⟩
      | false =>
        rw [hd] at hdq
        obtain ⟨ht1, ht2⟩ := hc.taken (by omega) a.body hbb
        exact ⟨0, false, s.id + 1, _, putOk hA hok t a.size a.body hbl hbb hul hd, _, fun H1 h1 => by rw [← ht2]; exact rPutOk h1 hokR t a.size a.body hbl hbS hulR hdq, ht1⟩
  obtain ⟨e, d, i0, s', hS1, r', hS2, hc'⟩ := hPut
  repeat first
    | with_reducible refine AWP.seq ?_
    | ((with_reducible refine AWP.region ?_ ?_); exact rfl)
    | with_reducible refine AWP.block ?_
    | with_reducible refine AWP.skip ?_
    | with_reducible refine AWP.exit ?_
    | with_reducible refine AWP.ret ?_
    | with_reducible refine AWP.label ?_
    | with_reducible refine AWP.goto ?_
    | ((with_reducible refine AWP.condT ?_ ?_); focus (simp only [ev, lk_cons, ↓reduceIte, Nat.reduceEqDiff]; done))
    | ((with_reducible refine AWP.condF ?_ ?_); focus (simp only [ev, lk_cons, ↓reduceIte, Nat.reduceEqDiff]; done))
    | simp only [go_sem, ↓reduceIte, Nat.reduceEqDiff, reduceCtorEq, Nat.reduceAdd, Int.reduceEq, Int.reduceBNe, Int.reduceBEq, Int.reduceToNat, Int.reduceLT, Int.reduceLE, Int.reduceGT, Int.reduceGE, Nat.reduceSub, Nat.reduceBEq, Nat.reduceBNe, Int.reduceAdd, Int.reduceSub, Int.reduceMul, Int.reduceNeg, Nat.reduceMul, Nat.reduceLeDiff, Nat.reduceLT, hab, habl, h6, h7, h8, h9, h10]
    | simp (disch := omega) only [wi64, wu8, wu16, wu32, wu64, Int.tdiv_eq_ediv_of_nonneg, Int.tmod_eq_emod_of_nonneg]
    | with_reducible_and_instances exact finR
    | ((with_reducible refine finR' ?_ ?_) <;> rfl)
    | ((with_reducible refine finD hsc (NRel.of_plain ?_)); exact rfl)
  refine hS1.use fun H1 hto => ?_
  obtain ⟨S1, hA1, hR1, hf1, hfS, hS1'⟩ := PS.goL' hA hR hf0 hS hto
  have hab1 := hfS.get hab hnS
  have habl1 := lt_of_get hab1
  repeat first
    | with_reducible refine AWP.seq ?_
    | ((with_reducible refine AWP.region ?_ ?_); exact rfl)
    | with_reducible refine AWP.block ?_
    | with_reducible refine AWP.skip ?_
    | with_reducible refine AWP.exit ?_
    | with_reducible refine AWP.ret ?_
    | with_reducible refine AWP.label ?_
    | with_reducible refine AWP.goto ?_
    | ((with_reducible refine AWP.condT ?_ ?_); focus (simp only [ev, lk_cons, ↓reduceIte, Nat.reduceEqDiff]; done))
    | ((with_reducible refine AWP.condF ?_ ?_); focus (simp only [ev, lk_cons, ↓reduceIte, Nat.reduceEqDiff]; done))
    | simp only [go_sem, ↓reduceIte, Nat.reduceEqDiff, reduceCtorEq, Nat.reduceAdd, Int.reduceEq, Int.reduceBNe, Int.reduceBEq, Int.reduceToNat, Int.reduceLT, Int.reduceLE, Int.reduceGT, Int.reduceGE, Nat.reduceSub, Nat.reduceBEq, Nat.reduceBNe, Int.reduceAdd, Int.reduceSub, Int.reduceMul, Int.reduceNeg, Nat.reduceMul, Nat.reduceLeDiff, Nat.reduceLT, hab1, habl1]
    | simp (disch := omega) only [wi64, wu8, wu16, wu32, wu64, Int.tdiv_eq_ediv_of_nonneg, Int.tmod_eq_emod_of_nonneg]
    | with_reducible_and_instances exact finR
    | ((with_reducible refine finR' ?_ ?_) <;> rfl)
    | ((with_reducible refine finD hsc (NRel.of_plain ?_)); exact rfl)
  refine (hS2 _ hR1).use fun H2 hto2 => ?_
  have hP2 := PS.goR hA1 hR1 hf1 hS1' hT hto2
  repeat first
    | with_reducible refine AWP.seq ?_
    | ((with_reducible refine AWP.region ?_ ?_); exact rfl)
    | with_reducible refine AWP.block ?_
    | with_reducible refine AWP.skip ?_
    | with_reducible refine AWP.exit ?_
    | with_reducible refine AWP.ret ?_
    | with_reducible refine AWP.label ?_
    | with_reducible refine AWP.goto ?_
    | ((with_reducible refine AWP.condT ?_ ?_); focus (simp only [ev, lk_cons, ↓reduceIte, Nat.reduceEqDiff]; done))
    | ((with_reducible refine AWP.condF ?_ ?_); focus (simp only [ev, lk_cons, ↓reduceIte, Nat.reduceEqDiff]; done))
    | simp only [go_sem, ↓reduceIte, Nat.reduceEqDiff, reduceCtorEq, Nat.reduceAdd, Int.reduceEq, Int.reduceBNe, Int.reduceBEq, Int.reduceToNat, Int.reduceLT, Int.reduceLE, Int.reduceGT, Int.reduceGE, Nat.reduceSub, Nat.reduceBEq, Nat.reduceBNe, Int.reduceAdd, Int.reduceSub, Int.reduceMul, Int.reduceNeg, Nat.reduceMul, Nat.reduceLeDiff, Nat.reduceLT, p1, p2]
    | simp (disch := omega) only [wi64, wu8, wu16, wu32, wu64, Int.tdiv_eq_ediv_of_nonneg, Int.tmod_eq_emod_of_nonneg]
    | with_reducible_and_instances exact finR
    | ((with_reducible refine finR' ?_ ?_) <;> rfl)
    | ((with_reducible refine finD hsc (NRel.of_plain ?_)); exact rfl)
  exact ⟨_, _, .refl _ _ _, rfl, s', r', hP2, hc'⟩
end Go.Proofs.Ytnfkbgpbligloaa
