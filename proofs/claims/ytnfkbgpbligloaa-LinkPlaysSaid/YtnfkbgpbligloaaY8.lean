/-
  Links: a link and its specification in one heap; what both are asked.
-/
import Derived.Test.YtnfkbgpbligloaaY7
set_option linter.unusedVariables false
set_option linter.unusedSimpArgs false
set_option maxRecDepth 20000
set_option maxHeartbeats 4000000
namespace Go.Proofs.Ytnfkbgpbligloaa
open Go Go.Aw Go.Proofs
theorem TakeNo {H : AHeap} {i : Nat} {s : Lk} {S : List Nat} (h : LkAt H i s S) (now : Int) (hb : badT s now = true) : ARet Try.prog 12 [.pointer (some ⟨i, 0, none⟩), .int .i64 now] H (.tuple ⟨[.slice none 0 0, .int .i64 7]⟩) H := by
  have ht := tellNo h now hb
  refine AC.enter Try.func12 rfl (by kernel_rfl) 63 rfl [.tmp 4, .tmp 5] rfl (by simp) fun hsc B => ?_
  repeat first
    | with_reducible refine AWP.seq ?_
    | ((with_reducible refine AWP.region ?_ ?_); exact rfl)
    | with_reducible refine AWP.block ?_
    | with_reducible refine AWP.skip ?_
    | with_reducible refine AWP.exit ?_
    | with_reducible refine AWP.ret ?_
    | with_reducible refine AWP.label ?_
    | with_reducible refine AWP.goto ?_
    | ((with_reducible refine AWP.condT ?_ ?_); focus (simp only [ev, lk_cons, ↓reduceIte, Nat.reduceEqDiff]; done))
    | ((with_reducible refine AWP.condF ?_ ?_); focus (simp only [ev, lk_cons, ↓reduceIte, Nat.reduceEqDiff]; done))
    | with_reducible refine ht.use ?_
    | simp only [go_sem, ↓reduceIte, Nat.reduceEqDiff, reduceCtorEq, Nat.reduceAdd, Int.reduceEq, Int.reduceBNe, Int.reduceBEq, Int.reduceToNat, Int.reduceLT, Int.reduceLE, Int.reduceGT, Int.reduceGE, Nat.reduceSub, Nat.reduceBEq, Nat.reduceBNe, Int.reduceAdd, Int.reduceSub, Int.reduceMul, Int.reduceNeg, Nat.reduceMul, Nat.reduceLeDiff, Nat.reduceLT]
    | simp (disch := omega) only [wi64, wu8, wu16, wu32, wu64, Int.tdiv_eq_ediv_of_nonneg, Int.tmod_eq_emod_of_nonneg]
    | with_reducible_and_instances exact finR
    | ((with_reducible refine finR' ?_ ?_) <;> rfl)
    | ((with_reducible refine finD hsc (NRel.of_plain ?_)); exact rfl)
theorem Kn.lt {H : AHeap} {S : List Nat} {f : CK → Bool} (h : Kn H S f) : ∀ t ∈ S, t < H.length := fun t ht => by
  obtain ⟨cs, k, e, -⟩ := h t ht
  exact lt_of_get e
theorem kLR (k : CK) (h1 : kL k = true) (h2 : kR k = true) : False := by
  simp only [kL, kR, Bool.or_eq_true, Bool.and_eq_true, beq_iff_eq] at h1 h2
  rcases h1 with h | ⟨h, h'⟩
  · rcases h2 with (h3 | ⟨h3, -⟩) | h3 <;> rw [h] at h3 <;> exact absurd h3 (by decide)
  · rcases h2 with (h3 | ⟨h3, -⟩) | h3 <;> rw [h] at h3 <;> exact absurd h3 (by decide)
/-- The link is i, its specification j; all else that was in H0 is as it was. -/
def PS (H0 : AHeap) (i j : Nat) (s : Lk) (r : Rk) (H : AHeap) : Prop := ∃ S T, LkAt H i s S ∧ RkAt H j r T ∧ Frm [] H0 H ∧ (∀ t ∈ S, H0.length ≤ t) ∧ ∀ t ∈ T, H0.length ≤ t
section
variable {H0 H H1 : AHeap} {i j : Nat} {s s' : Lk} {r r' : Rk} {S T : List Nat}
theorem PS.goL (h1 : LkAt H i s S) (h2 : RkAt H j r T) (hf : Frm [] H0 H) (hS : ∀ t ∈ S, H0.length ≤ t) (hT : ∀ t ∈ T, H0.length ≤ t) (ht : LkTo H i S s' H1) : PS H0 i j s' r H1 := by
  obtain ⟨S2, ha, hf2, hm⟩ := ht
  refine ⟨S2, T, ha, h2.frm hf2 h1.mut (Kn.apart h2.kn h1.kn fun k a b => kLR k b a), hf.trans hf2 fun t ht => .inr (hS t ht), fun t ht => ?_, hT⟩
  rcases hm t ht with h | h
  · exact hS t h
  · have := hf.1; omega
theorem PS.goL' (h1 : LkAt H i s S) (h2 : RkAt H j r T) (hf : Frm [] H0 H) (hS : ∀ t ∈ S, H0.length ≤ t) (ht : LkTo H i S s' H1) : ∃ S2, LkAt H1 i s' S2 ∧ RkAt H1 j r T ∧ Frm [] H0 H1 ∧ Frm S H H1 ∧ ∀ t ∈ S2, H0.length ≤ t := by
  obtain ⟨S2, ha, hf2, hm⟩ := ht
  refine ⟨S2, ha, h2.frm hf2 h1.mut (Kn.apart h2.kn h1.kn fun k a b => kLR k b a), hf.trans hf2 fun t ht => .inr (hS t ht), hf2, fun t ht => ?_⟩
  rcases hm t ht with h | h
  · exact hS t h
  · have := hf.1; omega
theorem PS.goR (h1 : LkAt H i s S) (h2 : RkAt H j r T) (hf : Frm [] H0 H) (hS : ∀ t ∈ S, H0.length ≤ t) (hT : ∀ t ∈ T, H0.length ≤ t) (ht : RkTo H j T r' H1) : PS H0 i j s r' H1 := by
  obtain ⟨T2, ha, hf2, hm⟩ := ht
  refine ⟨S, T2, h1.frm hf2 (h2.kn.mut kR_mut) (Kn.apart h1.kn h2.kn kLR), ha, hf.trans hf2 fun t ht => .inr (hT t ht), hS, fun t ht => ?_⟩
  rcases hm t ht with h | h
  · exact hT t h
  · have := hf.1; omega
theorem PS.grown (h : PS H0 i j s r H) (hf : Frm [] H H1) : PS H0 i j s r H1 := by
  obtain ⟨S, T, h1, h2, hf0, hS, hT⟩ := h
  exact ⟨S, T, h1.grown hf, h2.grown hf, hf0.trans hf (by simp), hS, hT⟩
theorem PS.more (h : PS H0 i j s r H) (X : AHeap) : PS H0 i j s r (H ++ X) := h.grown Frm.app
end
theorem alike {H0 H : AHeap} {i j n : Nat} {s : Lk} {r : Rk} (h : PS H0 i j s r H) (hc : Cpl s r n) (hn : n < 1000) : ARex Try.prog 19 [.pointer (some ⟨i, 0, none⟩), .pointer (some ⟨j, 0, none⟩)] H (.bool true) (fun H1 => Frm [] H H1) := by
  obtain ⟨S, T, hA, hR, -, -, -⟩ := h
  have hC := counts hA
  have hRC := rCounts hR
  rw [hc.put, hc.arr, hc.lost, hc.drop, hc.dbl] at hRC
  have hul := (hc.okS hn).underL
  have hlen := hc.und.length_eq
  have p1 : ∀ z : Int, (z == z) = true := fun z => by simp
  refine AC.enter Try.func19 rfl (by kernel_rfl) 92 rfl [.tmp 4] rfl (by simp) fun hsc B => ?_
  repeat first
    | with_reducible refine AWP.seq ?_
    | ((with_reducible refine AWP.region ?_ ?_); exact rfl)
    | with_reducible refine AWP.block ?_
    | with_reducible refine AWP.skip ?_
    | with_reducible refine AWP.exit ?_
    | with_reducible refine AWP.ret ?_
    | with_reducible refine AWP.label ?_
    | with_reducible refine AWP.goto ?_
    | ((with_reducible refine AWP.condT ?_ ?_); focus (simp only [ev, lk_cons, ↓reduceIte, Nat.reduceEqDiff]; done))
    | ((with_reducible refine AWP.condF ?_ ?_); focus (simp only [ev, lk_cons, ↓reduceIte, Nat.reduceEqDiff]; done))
    | with_reducible refine hC.use ?_
    | with_reducible refine hRC.use ?_
    | simp only [go_sem, ↓reduceIte, Nat.reduceEqDiff, reduceCtorEq, Nat.reduceAdd, Int.reduceEq, Int.reduceBNe, Int.reduceBEq, Int.reduceToNat, Int.reduceLT, Int.reduceLE, Int.reduceGT, Int.reduceGE, Nat.reduceSub, Nat.reduceBEq, Nat.reduceBNe, Int.reduceAdd, Int.reduceSub, Int.reduceMul, Int.reduceNeg, Nat.reduceMul, Nat.reduceLeDiff, Nat.reduceLT]
    | simp (disch := omega) only [wi64, wu8, wu16, wu32, wu64, Int.tdiv_eq_ediv_of_nonneg, Int.tmod_eq_emod_of_nonneg]
    | with_reducible_and_instances exact finR
    | ((with_reducible refine finR' ?_ ?_) <;> rfl)
    | ((with_reducible refine finD hsc (NRel.of_plain ?_)); exact rfl)
  by_cases h0 : s.under = []
  · have h0r : r.under = [] := by
      have := hc.und
      rw [h0] at this
      exact List.nil_perm.1 this
    have hN := NextNo hA h0
    have hRN := rNextNo hR h0r
    have hU := under hA
    have hRU := rUnder hR
    have hNw := now_ hA
    have hRNw := rNow hR
    rw [hc.now] at hRNw
    rw [h0] at hU
    rw [h0r] at hRU
    repeat first
      | with_reducible refine AWP.seq ?_
      | ((with_reducible refine AWP.region ?_ ?_); exact rfl)
      | with_reducible refine AWP.block ?_
      | with_reducible refine AWP.skip ?_
      | with_reducible refine AWP.exit ?_
      | with_reducible refine AWP.ret ?_
      | with_reducible refine AWP.label ?_
      | with_reducible refine AWP.goto ?_
      | ((with_reducible refine AWP.condT ?_ ?_); focus (simp only [ev, lk_cons, ↓reduceIte, Nat.reduceEqDiff]; done))
      | ((with_reducible refine AWP.condF ?_ ?_); focus (simp only [ev, lk_cons, ↓reduceIte, Nat.reduceEqDiff]; done))
      | with_reducible refine hN.use ?_
      | with_reducible refine hRN.use ?_
      | with_reducible refine hU.use ?_
      | with_reducible refine hRU.use ?_
      | with_reducible refine hNw.use ?_
      | with_reducible refine hRNw.use ?_
      | simp only [go_sem, ↓reduceIte, Nat.reduceEqDiff, reduceCtorEq, Nat.reduceAdd, Int.reduceEq, Int.reduceBNe, Int.reduceBEq, Int.reduceToNat, Int.reduceLT, Int.reduceLE, Int.reduceGT, Int.reduceGE, Nat.reduceSub, Nat.reduceBEq, Nat.reduceBNe, Int.reduceAdd, Int.reduceSub, Int.reduceMul, Int.reduceNeg, Nat.reduceMul, Nat.reduceLeDiff, Nat.reduceLT, p1]
      | simp (disch := omega) only [wi64, wu8, wu16, wu32, wu64, Int.tdiv_eq_ediv_of_nonneg, Int.tmod_eq_emod_of_nonneg]
      | with_reducible_and_instances exact finR
      | ((with_reducible refine finR' ?_ ?_) <;> rfl)
      | ((with_reducible refine finD hsc (NRel.of_plain ?_)); exact rfl)
    exact ⟨_, _, .refl _ _ _, rfl, .refl _ _⟩
  · have hpos : 0 < s.under.length := List.length_pos_iff.2 h0
    refine AC.mono (Next hA hpos (by omega) (fun x hx => (hc.inB hn x hx).1)) ?_
    rintro v H1 ⟨x, hx, hmin, rfl, hf1⟩
    have hA1 := hA.grown hf1
    have hR1 := hR.grown hf1
    repeat first
      | with_reducible refine AWP.seq ?_
      | ((with_reducible refine AWP.region ?_ ?_); exact rfl)
      | with_reducible refine AWP.block ?_
      | with_reducible refine AWP.skip ?_
      | with_reducible refine AWP.exit ?_
      | with_reducible refine AWP.ret ?_
      | with_reducible refine AWP.label ?_
      | with_reducible refine AWP.goto ?_
      | ((with_reducible refine AWP.condT ?_ ?_); focus (simp only [ev, lk_cons, ↓reduceIte, Nat.reduceEqDiff]; done))
      | ((with_reducible refine AWP.condF ?_ ?_); focus (simp only [ev, lk_cons, ↓reduceIte, Nat.reduceEqDiff]; done))
      | simp only [go_sem, ↓reduceIte, Nat.reduceEqDiff, reduceCtorEq, Nat.reduceAdd, Int.reduceEq, Int.reduceBNe, Int.reduceBEq, Int.reduceToNat, Int.reduceLT, Int.reduceLE, Int.reduceGT, Int.reduceGE, Nat.reduceSub, Nat.reduceBEq, Nat.reduceBNe, Int.reduceAdd, Int.reduceSub, Int.reduceMul, Int.reduceNeg, Nat.reduceMul, Nat.reduceLeDiff, Nat.reduceLT]
      | simp (disch := omega) only [wi64, wu8, wu16, wu32, wu64, Int.tdiv_eq_ediv_of_nonneg, Int.tmod_eq_emod_of_nonneg]
      | with_reducible_and_instances exact finR
      | ((with_reducible refine finR' ?_ ?_) <;> rfl)
      | ((with_reducible refine finD hsc (NRel.of_plain ?_)); exact rfl)
    refine AC.mono (rNext hR1 (by omega) (by omega) hc.wfR) ?_
    rintro v H2 ⟨y, hy, hmin2, rfl, rfl⟩
    have hxy : x.time = y.time := by
      have e1 := hmin y (hc.und.mem_iff.2 hy)
      have e2 := hmin2 x (hc.und.mem_iff.1 hx)
      omega
    have hU := under hA1
    have hRU := rUnder hR1
    have hNw := now_ hA1
    have hRNw := rNow hR1
    rw [hc.now] at hRNw
    rw [← hlen] at hRU
    rw [hxy]
    repeat first
      | with_reducible refine AWP.seq ?_
      | ((with_reducible refine AWP.region ?_ ?_); exact rfl)
      | with_reducible refine AWP.block ?_
      | with_reducible refine AWP.skip ?_
      | with_reducible refine AWP.exit ?_
      | with_reducible refine AWP.ret ?_
      | with_reducible refine AWP.label ?_
      | with_reducible refine AWP.goto ?_
      | ((with_reducible refine AWP.condT ?_ ?_); focus (simp only [ev, lk_cons, ↓reduceIte, Nat.reduceEqDiff]; done))
      | ((with_reducible refine AWP.condF ?_ ?_); focus (simp only [ev, lk_cons, ↓reduceIte, Nat.reduceEqDiff]; done))
      | with_reducible refine hU.use ?_
      | with_reducible refine hRU.use ?_
      | with_reducible refine hNw.use ?_
      | with_reducible refine hRNw.use ?_
      | simp only [go_sem, ↓reduceIte, Nat.reduceEqDiff, reduceCtorEq, Nat.reduceAdd, Int.reduceEq, Int.reduceBNe, Int.reduceBEq, Int.reduceToNat, Int.reduceLT, Int.reduceLE, Int.reduceGT, Int.reduceGE, Nat.reduceSub, Nat.reduceBEq, Nat.reduceBNe, Int.reduceAdd, Int.reduceSub, Int.reduceMul, Int.reduceNeg, Nat.reduceMul, Nat.reduceLeDiff, Nat.reduceLT, p1]
      | simp (disch := omega) only [wi64, wu8, wu16, wu32, wu64, Int.tdiv_eq_ediv_of_nonneg, Int.tmod_eq_emod_of_nonneg]
      | with_reducible_and_instances exact finR
      | ((with_reducible refine finR' ?_ ?_) <;> rfl)
      | ((with_reducible refine finD hsc (NRel.of_plain ?_)); exact rfl)
    exact ⟨_, _, .refl _ _ _, rfl, hf1⟩
end Go.Proofs.Ytnfkbgpbligloaa
