/-
  The specification's control: its base, its queueing delay, its samples.
-/
import Derived.Test.YtoikchnpflnehaaGS
set_option linter.unusedVariables false
set_option linter.unusedSimpArgs false
set_option maxRecDepth 20000
set_option maxHeartbeats 4000000
namespace Go.Proofs.Ytoikchnpflnehaa
open Go Go.Aw Go.Proofs
theorem pastP_ne {all : List (Int × Int)} (hp : all.Pairwise fun a b => a.1 ≤ b.1) (h : all ≠ []) : pastP all ≠ [] := by
  unfold pastP
  rw [if_neg h]
  obtain ⟨s, hs⟩ : ∃ s, all.getLast? = some s := by
    cases h' : all.getLast? with
    | none => rw [List.getLast?_eq_none_iff] at h'; exact absurd h' h
    | some s => exact ⟨s, rfl⟩
  have hm : s ∈ all := List.mem_of_getLast? hs
  have hl : lastMin all = s.1 / 60000 := by unfold lastMin; rw [hs]
  intro e
  have : (s.1 / 60000, leastL (atMin all (s.1 / 60000))) ∈ basesP all (lastMin all) 10 := mem_basesP.2 ⟨by rw [hl]; simp only; omega, atMin_ne.2 ⟨s, hm, rfl⟩, rfl⟩
  rw [e] at this
  simp at this
def rbaseL (R : RCtl) : Int := if R.all = [] then 0 else leastL (basesR R)
def raskE (R : RCtl) : Int := if R.all = [] then 8 else 0
theorem made_len (R : RCtl) : (basesR R).length ≤ 10 := by
  unfold basesR pastP
  rw [List.length_map]
  split
  · simp
  · exact basesP_len _ _ _
theorem rBase (c : Nat) (R : RCtl) (av : Value) (S : List Nat) (hal : R.all.length < 1099511627776) (hp : R.all.Pairwise fun a b => a.1 ≤ b.1) (hb : ∀ s ∈ R.all, 0 ≤ s.1 ∧ s.1 ≤ 1000000000) (H : AHeap) (hR : RAt H c R av S) :
    ARet Try.prog 57 [.pointer (some ⟨c, 0, none⟩)] H (.tuple ⟨[.int .i64 (rbaseL R), .int .i64 (raskE R)]⟩) H := by
  have hc := hR.at_
  simp only [rcO, rctlC] at hc
  have q1 : ∀ H' K, lenW Try.prog 81 av H' K = K (.int .i64 (R.all.length : Nat)) H' := fun H' K => by
    rcases hR.all with ⟨h1, _, h3, _⟩ | ⟨i2, o, cs, h1, _⟩
    · rw [h1, h3]; simp only [go_sem, ↓reduceIte, Nat.reduceEqDiff, reduceCtorEq, Nat.reduceAdd, Int.reduceEq, Int.reduceBNe, Int.reduceBEq, Int.reduceToNat, Int.reduceLT, Int.reduceLE, Int.reduceGT, Int.reduceGE, Nat.reduceSub, Nat.reduceBEq, Nat.reduceBNe, Int.reduceAdd, Int.reduceSub, Int.reduceMul, Int.reduceNeg, Nat.reduceMul, Nat.reduceLeDiff, Nat.reduceLT]
    · rw [h1]; simp only [go_sem, ↓reduceIte, Nat.reduceEqDiff, reduceCtorEq, Nat.reduceAdd, Int.reduceEq, Int.reduceBNe, Int.reduceBEq, Int.reduceToNat, Int.reduceLT, Int.reduceLE, Int.reduceGT, Int.reduceGE, Nat.reduceSub, Nat.reduceBEq, Nat.reduceBNe, Int.reduceAdd, Int.reduceSub, Int.reduceMul, Int.reduceNeg, Nat.reduceMul, Nat.reduceLeDiff, Nat.reduceLT]
  by_cases hz : R.all = []
  · have hz' : ((R.all.length : Int) == 0) = true := by rw [hz]; rfl
    have hB : rbaseL R = 0 := if_pos hz
    have hE : raskE R = 8 := if_pos hz
    rw [hB, hE]
    refine AC.enter Try.func57 rfl (by kernel_rfl) 17 rfl [.tmp 2, .tmp 3] rfl (by simp) fun hsc B => ?_
    repeat first
      | with_reducible refine AWP.seq ?_
      | ((with_reducible refine AWP.region ?_ ?_); exact rfl)
      | with_reducible refine AWP.block ?_
      | with_reducible refine AWP.skip ?_
      | with_reducible refine AWP.exit ?_
      | with_reducible refine AWP.ret ?_
      | with_reducible refine AWP.label ?_
      | with_reducible refine AWP.goto ?_
      | ((with_reducible refine AWP.condT ?_ ?_); focus (simp only [ev, lk_cons, ↓reduceIte, Nat.reduceEqDiff]; done))
      | ((with_reducible refine AWP.condF ?_ ?_); focus (simp only [ev, lk_cons, ↓reduceIte, Nat.reduceEqDiff]; done))
      | simp only [go_sem, ↓reduceIte, Nat.reduceEqDiff, reduceCtorEq, Nat.reduceAdd, Int.reduceEq, Int.reduceBNe, Int.reduceBEq, Int.reduceToNat, Int.reduceLT, Int.reduceLE, Int.reduceGT, Int.reduceGE, Nat.reduceSub, Nat.reduceBEq, Nat.reduceBNe, Int.reduceAdd, Int.reduceSub, Int.reduceMul, Int.reduceNeg, Nat.reduceMul, Nat.reduceLeDiff, Nat.reduceLT, hc, q1, hz']
      | simp (disch := omega) only [wi64, wu8, wu16, wu32, wu64, Int.tdiv_eq_ediv_of_nonneg, Int.tmod_eq_emod_of_nonneg]
      | with_reducible_and_instances exact finR
      | ((with_reducible refine finR' ?_ ?_) <;> rfl)
      | ((with_reducible refine finD hsc (NRel.of_plain ?_)); exact rfl)
  · have hpos : 0 < R.all.length := List.length_pos_iff.2 hz
    have hz' : ((R.all.length : Int) == 0) = false := by rw [beq_eq_false_iff_ne]; omega
    have hB : rbaseL R = leastL (basesR R) := if_neg hz
    have hE : raskE R = 0 := if_neg hz
    have hne : basesR R ≠ [] := by
      unfold basesR
      rw [ne_eq, List.map_eq_nil_iff]
      exact pastP_ne hp hz
    have hml := made_len R
    rw [hB, hE]
    refine AC.enter Try.func57 rfl (by kernel_rfl) 17 rfl [.tmp 2, .tmp 3] rfl (by simp) fun hsc B => ?_
    repeat first
      | with_reducible refine AWP.seq ?_
      | ((with_reducible refine AWP.region ?_ ?_); exact rfl)
      | with_reducible refine AWP.block ?_
      | with_reducible refine AWP.skip ?_
      | with_reducible refine AWP.exit ?_
      | with_reducible refine AWP.ret ?_
      | with_reducible refine AWP.label ?_
      | with_reducible refine AWP.goto ?_
      | ((with_reducible refine AWP.condT ?_ ?_); focus (simp only [ev, lk_cons, ↓reduceIte, Nat.reduceEqDiff]; done))
      | ((with_reducible refine AWP.condF ?_ ?_); focus (simp only [ev, lk_cons, ↓reduceIte, Nat.reduceEqDiff]; done))
      | simp only [go_sem, ↓reduceIte, Nat.reduceEqDiff, reduceCtorEq, Nat.reduceAdd, Int.reduceEq, Int.reduceBNe, Int.reduceBEq, Int.reduceToNat, Int.reduceLT, Int.reduceLE, Int.reduceGT, Int.reduceGE, Nat.reduceSub, Nat.reduceBEq, Nat.reduceBNe, Int.reduceAdd, Int.reduceSub, Int.reduceMul, Int.reduceNeg, Nat.reduceMul, Nat.reduceLeDiff, Nat.reduceLT, hc, q1, hz']
      | simp (disch := omega) only [wi64, wu8, wu16, wu32, wu64, Int.tdiv_eq_ediv_of_nonneg, Int.tmod_eq_emod_of_nonneg]
      | with_reducible_and_instances exact finR
      | ((with_reducible refine finR' ?_ ?_) <;> rfl)
      | ((with_reducible refine finD hsc (NRel.of_plain ?_)); exact rfl)
    refine (rBases c R av S hal hb H hR).mono ?_
    rintro r H2 ⟨v, S2, rfl, hO, hf, hS2⟩
    repeat first
      | with_reducible refine AWP.seq ?_
      | ((with_reducible refine AWP.region ?_ ?_); exact rfl)
      | with_reducible refine AWP.block ?_
      | with_reducible refine AWP.skip ?_
      | with_reducible refine AWP.exit ?_
      | with_reducible refine AWP.ret ?_
      | with_reducible refine AWP.label ?_
      | with_reducible refine AWP.goto ?_
      | ((with_reducible refine AWP.condT ?_ ?_); focus (simp only [ev, lk_cons, ↓reduceIte, Nat.reduceEqDiff]; done))
      | ((with_reducible refine AWP.condF ?_ ?_); focus (simp only [ev, lk_cons, ↓reduceIte, Nat.reduceEqDiff]; done))
      | with_reducible refine (smallest _ hne (by omega) _ _ _ hO).use ?_
      | simp only [go_sem, ↓reduceIte, Nat.reduceEqDiff, reduceCtorEq, Nat.reduceAdd, Int.reduceEq, Int.reduceBNe, Int.reduceBEq, Int.reduceToNat, Int.reduceLT, Int.reduceLE, Int.reduceGT, Int.reduceGE, Nat.reduceSub, Nat.reduceBEq, Nat.reduceBNe, Int.reduceAdd, Int.reduceSub, Int.reduceMul, Int.reduceNeg, Nat.reduceMul, Nat.reduceLeDiff, Nat.reduceLT]
      | simp (disch := omega) only [wi64, wu8, wu16, wu32, wu64, Int.tdiv_eq_ediv_of_nonneg, Int.tmod_eq_emod_of_nonneg]
      | with_reducible_and_instances exact finR
      | ((with_reducible refine finR' ?_ ?_) <;> rfl)
      | ((with_reducible refine finD hsc (NRel.of_plain ?_)); exact rfl)
    obtain ⟨Y, rfl⟩ := frm_split hf.1 (fun j hj => hf.2 j hj (by simp))
    exact finD hsc (NRel.of_plain rfl)
def last4 (R : RCtl) : List Int := (R.all.map (·.2)).drop (R.all.length - 4)
def rqueueL (R : RCtl) : Int := if R.all = [] then 0 else min ((leastL (last4 R) - leastL (basesR R)) % 4294967296) 10000
theorem rQueueing (c : Nat) (R : RCtl) (av : Value) (S : List Nat) (hal : R.all.length < 1099511627776) (hp : R.all.Pairwise fun a b => a.1 ≤ b.1) (hb : ∀ s ∈ R.all, (0 ≤ s.1 ∧ s.1 ≤ 1000000000)) (H : AHeap) (hR : RAt H c R av S) :
    ARet Try.prog 58 [.pointer (some ⟨c, 0, none⟩)] H (.tuple ⟨[.int .i64 (rqueueL R), .int .i64 (raskE R)]⟩) H := by
  have hB := rBase c R av S hal hp hb H hR
  have hc := hR.at_
  simp only [rcO, rctlC] at hc
  have q1 : ∀ H' K, lenW Try.prog 81 av H' K = K (.int .i64 (R.all.length : Nat)) H' := fun H' K => by
    rcases hR.all with ⟨h1, _, h3, _⟩ | ⟨i2, o, cs, h1, _⟩
    · rw [h1, h3]; simp only [go_sem, ↓reduceIte, Nat.reduceEqDiff, reduceCtorEq, Nat.reduceAdd, Int.reduceEq, Int.reduceBNe, Int.reduceBEq, Int.reduceToNat, Int.reduceLT, Int.reduceLE, Int.reduceGT, Int.reduceGE, Nat.reduceSub, Nat.reduceBEq, Nat.reduceBNe, Int.reduceAdd, Int.reduceSub, Int.reduceMul, Int.reduceNeg, Nat.reduceMul, Nat.reduceLeDiff, Nat.reduceLT]
    · rw [h1]; simp only [go_sem, ↓reduceIte, Nat.reduceEqDiff, reduceCtorEq, Nat.reduceAdd, Int.reduceEq, Int.reduceBNe, Int.reduceBEq, Int.reduceToNat, Int.reduceLT, Int.reduceLE, Int.reduceGT, Int.reduceGE, Nat.reduceSub, Nat.reduceBEq, Nat.reduceBNe, Int.reduceAdd, Int.reduceSub, Int.reduceMul, Int.reduceNeg, Nat.reduceMul, Nat.reduceLeDiff, Nat.reduceLT]
  by_cases hz : R.all = []
  · have hQ : rqueueL R = 0 := if_pos hz
    have hE : raskE R = 8 := if_pos hz
    rw [hE] at hB ⊢
    rw [hQ]
    refine AC.enter Try.func58 rfl (by kernel_rfl) 48 rfl [.tmp 2, .tmp 3] rfl (by simp) fun hsc B => ?_
    repeat first
      | with_reducible refine AWP.seq ?_
      | ((with_reducible refine AWP.region ?_ ?_); exact rfl)
      | with_reducible refine AWP.block ?_
      | with_reducible refine AWP.skip ?_
      | with_reducible refine AWP.exit ?_
      | with_reducible refine AWP.ret ?_
      | with_reducible refine AWP.label ?_
      | with_reducible refine AWP.goto ?_
      | ((with_reducible refine AWP.condT ?_ ?_); focus (simp only [ev, lk_cons, ↓reduceIte, Nat.reduceEqDiff]; done))
      | ((with_reducible refine AWP.condF ?_ ?_); focus (simp only [ev, lk_cons, ↓reduceIte, Nat.reduceEqDiff]; done))
      | with_reducible refine hB.use ?_
      | simp only [go_sem, ↓reduceIte, Nat.reduceEqDiff, reduceCtorEq, Nat.reduceAdd, Int.reduceEq, Int.reduceBNe, Int.reduceBEq, Int.reduceToNat, Int.reduceLT, Int.reduceLE, Int.reduceGT, Int.reduceGE, Nat.reduceSub, Nat.reduceBEq, Nat.reduceBNe, Int.reduceAdd, Int.reduceSub, Int.reduceMul, Int.reduceNeg, Nat.reduceMul, Nat.reduceLeDiff, Nat.reduceLT]
      | simp (disch := omega) only [wi64, wu8, wu16, wu32, wu64, Int.tdiv_eq_ediv_of_nonneg, Int.tmod_eq_emod_of_nonneg]
      | with_reducible_and_instances exact finR
      | ((with_reducible refine finR' ?_ ?_) <;> rfl)
      | ((with_reducible refine finD hsc (NRel.of_plain ?_)); exact rfl)
  · have hQ : rqueueL R = min ((leastL (last4 R) - leastL (basesR R)) % 4294967296) 10000 := if_neg hz
    have hE : raskE R = 0 := if_neg hz
    have hBl : rbaseL R = leastL (basesR R) := if_neg hz
    have hpos : 0 < R.all.length := List.length_pos_iff.2 hz
    rw [hE] at hB ⊢
    rw [hBl] at hB
    rw [hQ]
    rcases hR.all with ⟨h1, _⟩ | ⟨i, o, cs, rfl, hi, hcl, hdr, rfl⟩
    · omega
    have hil := lt_of_get hi
    have hw1 : IntKind.i64.wrap ((R.all.length : Nat) - 4 : Int) = ((R.all.length : Nat) : Int) - 4 := by rw [wi64 (by omega)]
    have hk2 : max (0 : Int) (((R.all.length : Nat) : Int) - 4) = ((R.all.length - 4 : Nat) : Int) := by omega
    have hk3 : ((R.all.length - 4 : Nat) : Int) ≤ ((R.all.length : Nat) : Int) := by omega
    refine AC.enter Try.func58 rfl (by kernel_rfl) 48 rfl [.tmp 2, .tmp 3] rfl (by simp) fun hsc B => ?_
    repeat first
      | with_reducible refine AWP.seq ?_
      | ((with_reducible refine AWP.region ?_ ?_); exact rfl)
      | with_reducible refine AWP.block ?_
      | with_reducible refine AWP.skip ?_
      | with_reducible refine AWP.exit ?_
      | with_reducible refine AWP.ret ?_
      | with_reducible refine AWP.label ?_
      | with_reducible refine AWP.goto ?_
      | ((with_reducible refine AWP.condT ?_ ?_); focus (simp only [ev, lk_cons, ↓reduceIte, Nat.reduceEqDiff]; done))
      | ((with_reducible refine AWP.condF ?_ ?_); focus (simp only [ev, lk_cons, ↓reduceIte, Nat.reduceEqDiff]; done))
      | with_reducible refine hB.use ?_
      | simp only [go_sem, ↓reduceIte, Nat.reduceEqDiff, reduceCtorEq, Nat.reduceAdd, Int.reduceEq, Int.reduceBNe, Int.reduceBEq, Int.reduceToNat, Int.reduceLT, Int.reduceLE, Int.reduceGT, Int.reduceGE, Nat.reduceSub, Nat.reduceBEq, Nat.reduceBNe, Int.reduceAdd, Int.reduceSub, Int.reduceMul, Int.reduceNeg, Nat.reduceMul, Nat.reduceLeDiff, Nat.reduceLT]
      | simp (disch := omega) only [wi64, wu8, wu16, wu32, wu64, Int.tdiv_eq_ediv_of_nonneg, Int.tmod_eq_emod_of_nonneg]
      | with_reducible_and_instances exact finR
      | ((with_reducible refine finR' ?_ ?_) <;> rfl)
      | ((with_reducible refine finD hsc (NRel.of_plain ?_)); exact rfl)
    refine AWP.regionK 14 (by kernel_rfl) (by decide) (by kernel_rfl) ?_
    repeat first
      | with_reducible refine AWP.seq ?_
      | ((with_reducible refine AWP.region ?_ ?_); exact rfl)
      | with_reducible refine AWP.block ?_
      | with_reducible refine AWP.skip ?_
      | with_reducible refine AWP.exit ?_
      | with_reducible refine AWP.ret ?_
      | with_reducible refine AWP.label ?_
      | with_reducible refine AWP.goto ?_
      | ((with_reducible refine AWP.condT ?_ ?_); focus (simp only [ev, lk_cons, ↓reduceIte, Nat.reduceEqDiff]; done))
      | ((with_reducible refine AWP.condF ?_ ?_); focus (simp only [ev, lk_cons, ↓reduceIte, Nat.reduceEqDiff]; done))
      | simp only [go_sem, ↓reduceIte, Nat.reduceEqDiff, reduceCtorEq, Nat.reduceAdd, Int.reduceEq, Int.reduceBNe, Int.reduceBEq, Int.reduceToNat, Int.reduceLT, Int.reduceLE, Int.reduceGT, Int.reduceGE, Nat.reduceSub, Nat.reduceBEq, Nat.reduceBNe, Int.reduceAdd, Int.reduceSub, Int.reduceMul, Int.reduceNeg, Nat.reduceMul, Nat.reduceLeDiff, Nat.reduceLT, hc, q1, minMaxW, hw1, hk2, hk3, hi, hil]
      | simp (disch := omega) only [wi64, wu8, wu16, wu32, wu64, Int.tdiv_eq_ediv_of_nonneg, Int.tmod_eq_emod_of_nonneg]
      | with_reducible_and_instances exact finR
      | ((with_reducible refine finR' ?_ ?_) <;> rfl)
      | ((with_reducible refine finD hsc (NRel.of_plain ?_)); exact rfl)
    refine ⟨Int.le_refl _, ?_⟩
    repeat first
      | with_reducible refine AWP.seq ?_
      | ((with_reducible refine AWP.region ?_ ?_); exact rfl)
      | with_reducible refine AWP.block ?_
      | with_reducible refine AWP.skip ?_
      | with_reducible refine AWP.exit ?_
      | with_reducible refine AWP.ret ?_
      | with_reducible refine AWP.label ?_
      | with_reducible refine AWP.goto ?_
      | ((with_reducible refine AWP.condT ?_ ?_); focus (simp only [ev, lk_cons, ↓reduceIte, Nat.reduceEqDiff]; done))
      | ((with_reducible refine AWP.condF ?_ ?_); focus (simp only [ev, lk_cons, ↓reduceIte, Nat.reduceEqDiff]; done))
      | simp only [go_sem, ↓reduceIte, Nat.reduceEqDiff, reduceCtorEq, Nat.reduceAdd, Int.reduceEq, Int.reduceBNe, Int.reduceBEq, Int.reduceToNat, Int.reduceLT, Int.reduceLE, Int.reduceGT, Int.reduceGE, Nat.reduceSub, Nat.reduceBEq, Nat.reduceBNe, Int.reduceAdd, Int.reduceSub, Int.reduceMul, Int.reduceNeg, Nat.reduceMul, Nat.reduceLeDiff, Nat.reduceLT]
      | simp (disch := omega) only [wi64, wu8, wu16, wu32, wu64, Int.tdiv_eq_ediv_of_nonneg, Int.tmod_eq_emod_of_nonneg]
      | with_reducible_and_instances exact finR
      | ((with_reducible refine finR' ?_ ?_) <;> rfl)
      | ((with_reducible refine finD hsc (NRel.of_plain ?_)); exact rfl)
    have hll : (last4 R).length = R.all.length - (R.all.length - 4) := by unfold last4; simp
    have hl4 : (last4 R).length ≤ 4 := by omega
    have hlp : 0 < (last4 R).length := by omega
    rw [← hll]
    have hget : ∀ n, (h : n < (last4 R).length) → ∃ x, (cs.drop (o + ((R.all.length - 4) * 2 + n * 2))).take 2 = [.int .i64 x, .int .i64 (last4 R)[n]] ∧ o + ((R.all.length - 4) * 2 + (n * 2 + 2)) ≤ cs.length := by
      intro n h
      have hn : R.all.length - 4 + n < R.all.length := by omega
      obtain ⟨i', o', cs', e1, hi', ht2, hle2, -, -, -⟩ := all_get hR.all hn
      cases e1
      rw [hi] at hi'
      cases hi'
      refine ⟨R.all[R.all.length - 4 + n].1, ?_, by omega⟩
      rw [show o + ((R.all.length - 4) * 2 + n * 2) = o + (R.all.length - 4 + n) * 2 by omega, ht2]
      have e : (last4 R)[n] = R.all[R.all.length - 4 + n].2 := by simp [last4]
      rw [e]
    generalize hl : last4 R = l at *
    refine AWP.loopP (fun s : Nat × Value × AHeap => ⟨[(4, .int .i64 (leastL (basesR R))), (6, s.2.1), (28, .slice (some ⟨i, o + (R.all.length - 4) * 2, none⟩) l.length l.length), (29, .int .i64 (l.length : Nat)), (30, .int .i64 (s.1 : Nat))], [], s.2.2⟩)
      (fun s => s.1 ≤ l.length ∧ ∃ S6, OwnL s.2.2 3 1 s.1 (intsC (l.take s.1)) s.2.1 S6 ∧ Frm [] H s.2.2 ∧ ∀ x ∈ S6, H.length ≤ x) (fun s => l.length - s.1) (0, .slice none 0 0, H) ?_ ⟨Nat.zero_le _, [], .inl ⟨rfl, rfl, rfl, rfl⟩, .refl _ _, by simp⟩ ?_
    · exact Weak.env (by simp [envIn, lk_cons, wth_some])
    rintro ⟨n, v6, H2⟩ ⟨hn, S6, hO6, hf2, hS6⟩
    simp only at hn hO6 hf2 hS6 ⊢
    by_cases hc2 : n < l.length
    · have hc2' : (n : Int) < (l.length : Int) := by omega
      have hi2 := hf2.get hi (by simp)
      have hil2 := lt_of_get hi2
      obtain ⟨x, ht2, hle2⟩ := hget n hc2
      have hwn : IntKind.i64.wrap ((n : Int) + 1) = ((n + 1 : Nat) : Int) := by rw [wi64 (by omega)]; omega
      have hst : l.take (n + 1) = l.take n ++ [l[n]] := by rw [List.take_add_one, List.getElem?_eq_getElem hc2]; rfl
      generalize l[n] = y at *
      repeat first
        | with_reducible refine AWP.seq ?_
        | ((with_reducible refine AWP.region ?_ ?_); exact rfl)
        | with_reducible refine AWP.block ?_
        | with_reducible refine AWP.skip ?_
        | with_reducible refine AWP.exit ?_
        | with_reducible refine AWP.ret ?_
        | with_reducible refine AWP.label ?_
        | with_reducible refine AWP.goto ?_
        | ((with_reducible refine AWP.condT ?_ ?_); focus (simp only [ev, lk_cons, ↓reduceIte, Nat.reduceEqDiff]; done))
        | ((with_reducible refine AWP.condF ?_ ?_); focus (simp only [ev, lk_cons, ↓reduceIte, Nat.reduceEqDiff]; done))
        | simp only [go_sem, ↓reduceIte, Nat.reduceEqDiff, reduceCtorEq, Nat.reduceAdd, Int.reduceEq, Int.reduceBNe, Int.reduceBEq, Int.reduceToNat, Int.reduceLT, Int.reduceLE, Int.reduceGT, Int.reduceGE, Nat.reduceSub, Nat.reduceBEq, Nat.reduceBNe, Int.reduceAdd, Int.reduceSub, Int.reduceMul, Int.reduceNeg, Nat.reduceMul, Nat.reduceLeDiff, Nat.reduceLT, hc2', hi2, hil2, hgetl, ht2, hle2]
        | simp (disch := omega) only [wi64, wu8, wu16, wu32, wu64, Int.tdiv_eq_ediv_of_nonneg, Int.tmod_eq_emod_of_nonneg]
        | with_reducible_and_instances exact finR
        | ((with_reducible refine finR' ?_ ?_) <;> rfl)
        | ((with_reducible refine finD hsc (NRel.of_plain ?_)); exact rfl)
      refine (hO6.frm (T := []) (Frm.app (X := [.cells [.int .i64 x, .int .i64 y] ⟨98, 0, true, 0, none⟩, .cells [.int .i64 y] ⟨3, 0, true, 0, none⟩])) (by simp)).append (by decide) (by omega) (by omega) fun H' hlen hH' => ?_
      have hf3 := frm_own (hf2.more (X := [.cells [.int .i64 x, .int .i64 y] ⟨98, 0, true, 0, none⟩, .cells [.int .i64 y] ⟨3, 0, true, 0, none⟩])) (frm_app' (X := [.cells (intsC (l.take n) ++ [.int .i64 y]) ⟨3, 1, true, 0, none⟩]) hlen hH') hS6
      have hlen2 : H'.length = H2.length + 2 := by rw [hlen]; simp
      clear hH' hlen
      repeat first
        | with_reducible refine AWP.seq ?_
        | ((with_reducible refine AWP.region ?_ ?_); exact rfl)
        | with_reducible refine AWP.block ?_
        | with_reducible refine AWP.skip ?_
        | with_reducible refine AWP.exit ?_
        | with_reducible refine AWP.ret ?_
        | with_reducible refine AWP.label ?_
        | with_reducible refine AWP.goto ?_
        | ((with_reducible refine AWP.condT ?_ ?_); focus (simp only [ev, lk_cons, ↓reduceIte, Nat.reduceEqDiff]; done))
        | ((with_reducible refine AWP.condF ?_ ?_); focus (simp only [ev, lk_cons, ↓reduceIte, Nat.reduceEqDiff]; done))
        | simp only [go_sem, ↓reduceIte, Nat.reduceEqDiff, reduceCtorEq, Nat.reduceAdd, Int.reduceEq, Int.reduceBNe, Int.reduceBEq, Int.reduceToNat, Int.reduceLT, Int.reduceLE, Int.reduceGT, Int.reduceGE, Nat.reduceSub, Nat.reduceBEq, Nat.reduceBNe, Int.reduceAdd, Int.reduceSub, Int.reduceMul, Int.reduceNeg, Nat.reduceMul, Nat.reduceLeDiff, Nat.reduceLT, hwn, hlen2]
        | simp (disch := omega) only [wi64, wu8, wu16, wu32, wu64, Int.tdiv_eq_ediv_of_nonneg, Int.tmod_eq_emod_of_nonneg]
        | with_reducible_and_instances exact finR
        | ((with_reducible refine finR' ?_ ?_) <;> rfl)
        | ((with_reducible refine finD hsc (NRel.of_plain ?_)); exact rfl)
      refine ⟨(n + 1, .slice (some ⟨H2.length + 2, 0, none⟩) (n + 1) (n + 1), H' ++ [.cells (intsC (l.take n) ++ [.int .i64 y]) ⟨3, 1, true, 0, none⟩]), Weak.env (by simp [envIn, lk_cons, wth_some]), by show n + 1 ≤ _; omega, ⟨[H2.length + 2], ?_, hf3, by have := hf2.1; simp; omega⟩, by show l.length - (n + 1) < _; omega⟩
      simp only
      rw [hst, intsC_snoc]
      exact ownL_int (by rw [List.length_append, List.length_take]; simp; omega) hlen2
    · have : n = l.length := by omega
      subst this
      have hc2' : ¬ (l.length : Int) < (l.length : Int) := by omega
      rw [List.take_length] at hO6
      obtain ⟨Y, rfl⟩ := frm_split hf2.1 (fun j hj => hf2.2 j hj (by simp))
      have hne : l ≠ [] := List.length_pos_iff.1 hlp
      repeat first
        | with_reducible refine AWP.seq ?_
        | ((with_reducible refine AWP.region ?_ ?_); exact rfl)
        | with_reducible refine AWP.block ?_
        | with_reducible refine AWP.skip ?_
        | with_reducible refine AWP.exit ?_
        | with_reducible refine AWP.ret ?_
        | with_reducible refine AWP.label ?_
        | with_reducible refine AWP.goto ?_
        | ((with_reducible refine AWP.condT ?_ ?_); focus (simp only [ev, lk_cons, ↓reduceIte, Nat.reduceEqDiff]; done))
        | ((with_reducible refine AWP.condF ?_ ?_); focus (simp only [ev, lk_cons, ↓reduceIte, Nat.reduceEqDiff]; done))
        | with_reducible refine (smallest _ hne (by omega) _ _ _ hO6).use ?_
        | simp only [go_sem, ↓reduceIte, Nat.reduceEqDiff, reduceCtorEq, Nat.reduceAdd, Int.reduceEq, Int.reduceBNe, Int.reduceBEq, Int.reduceToNat, Int.reduceLT, Int.reduceLE, Int.reduceGT, Int.reduceGE, Nat.reduceSub, Nat.reduceBEq, Nat.reduceBNe, Int.reduceAdd, Int.reduceSub, Int.reduceMul, Int.reduceNeg, Nat.reduceMul, Nat.reduceLeDiff, Nat.reduceLT, hc2', minMaxW, circle_eq]
        | simp (disch := omega) only [wi64, wu8, wu16, wu32, wu64, Int.tdiv_eq_ediv_of_nonneg, Int.tmod_eq_emod_of_nonneg]
        | with_reducible_and_instances exact finR
        | ((with_reducible refine finR' ?_ ?_) <;> rfl)
        | ((with_reducible refine finD hsc (NRel.of_plain ?_)); exact rfl)
end Go.Proofs.Ytoikchnpflnehaa
