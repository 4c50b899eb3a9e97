/-
  Links: sorting what is under way, whole; Take.
-/
import Derived.Test.YtnfkbgpbligloaaDoorW5
import Derived.Test.YtnfkbgpbligloaaDoorAwC
set_option linter.unusedVariables false
set_option linter.unusedSimpArgs false
set_option maxRecDepth 20000
set_option maxHeartbeats 4000000
namespace Go.Proofs.YtnfkbgpbligloaaDoor
open Go Go.Aw Go.Proofs
theorem sortU {H : AHeap} {us : List (Cm × Value)} {vu : Value} {Su : List Nat} (hO : OwnL H 66 4 us.length (cmsC us) vu Su) (hb : ∀ u ∈ us, u.1.inB) (hfl : ∀ u ∈ us, flat u.2 = true) (hsz : us.length < 1099511627776) :
    ARex Tryd.prog 24 [vu, .func (.func 25) ⟨[]⟩ ⟨[]⟩] H noVal (fun H1 => ∃ us' : List (Cm × Value), us'.Perm us ∧ us'.Pairwise (fun a b => ¬ bef b.1 a.1) ∧ OwnL H1 66 4 us'.length (cmsC us') vu Su ∧ Frm Su H H1) := by
  by_cases hz : us = []
  · subst hz
    exact ARet.rex (sortE (v := vu) fun H' K => by rw [OwnL.lenT hO (by simp only [go_sem, ↓reduceIte, Nat.reduceEqDiff, reduceCtorEq, Nat.reduceAdd, Int.reduceEq, Int.reduceBNe, Int.reduceBEq, Int.reduceToNat, Int.reduceLT, Int.reduceLE, Int.reduceGT, Int.reduceGE, Nat.reduceSub, Nat.reduceBEq, Nat.reduceBNe, Int.reduceAdd, Int.reduceSub, Int.reduceMul, Int.reduceNeg, Nat.reduceMul, Nat.reduceLeDiff, Nat.reduceLT])]; rfl) ⟨[], .refl _, .nil, hO, .refl _ _⟩
  have hpos : 0 < us.length := List.length_pos_iff.2 hz
  rcases hO with ⟨h1, _⟩ | ⟨i, o, cs, rfl, hi, hcl, hd, rfl⟩
  · omega
  obtain ⟨uk, rfl⟩ := toKy us hb
  rw [List.length_map] at *
  rw [cmsC_ky] at hd
  have hlen : o + uk.length * encK.k ≤ cs.length := by show o + uk.length * 4 ≤ _; omega
  have h := AC.sortFunc (P := Tryd.prog) (ρ := Tryd.sortC_ren) Tryd.sortC Tryd.func24 (by kernel_rfl) (by kernel_rfl) encK (Go.Aw.run_isAgg (t := 66) (by kernel_rfl)) (Go.Aw.run_sizeOf (t := 66) (by kernel_rfl)) cfK cfK_swo 25 (enters_of Tryd.func25 (by kernel_rfl) rfl)
    (fun x y v u W hv hu => by
      have h := cmpW x.1.time x.1.id x.1.copy y.1.time y.1.id y.1.copy v u hv hu W
      obtain ⟨⟨a1, a2⟩, ⟨a3, a4⟩, a5, a6⟩ := x.2
      obtain ⟨⟨b1, b2⟩, ⟨b3, b4⟩, b5, b6⟩ := y.2
      rw [wi64 (n := x.1.time - y.1.time) (by omega), wi64 (n := x.1.id - y.1.id) (by omega), wi64 (n := x.1.copy - y.1.copy) (by omega)] at h
      exact h)
    hi rfl (Nat.zero_le _) (us := uk) (fun u hu => hfl (u.1.1, u.2) (List.mem_map_of_mem hu)) hpos (by omega) hlen (by rw [List.take_of_length_le (by rw [List.length_drop]; show _ ≤ uk.length * 4; omega)]; exact hd)
  refine AC.mono h ?_
  rintro r H1 ⟨rfl, us', hp, hs, rfl⟩
  refine ⟨rfl, us'.map fun u => (u.1.1, u.2), hp.map _, ?_, ?_, Frm.set (.refl _ _) (.inl (by simp))⟩
  · rw [List.pairwise_map]
    refine hs.imp fun {a b} h => ?_
    rw [cfK_lt] at h
    exact h
  · have hl2 : us'.length = uk.length := hp.length_eq
    have hl3 : (us'.flatMap fun u => encK.en u.1 u.2).length = uk.length * 4 := by rw [← cmsC_ky, cmsC_len, List.length_map, hl2]
    refine .inr ⟨i, o, putCells cs o (us'.flatMap fun u => encK.en u.1 u.2), by rw [List.length_map, hl2], ?_, ?_, ?_, rfl⟩
    · exact hset_self (lt_of_get hi)
    · rw [putCells_length, List.length_map, hl2, hcl]
    · rw [cmsC_ky, putCells_eq _ _ _ (by rw [hl3, hcl]; exact Nat.le_refl _)]
      have e1 : (cs.take o).length = o := by rw [List.length_take]; omega
      rw [List.append_assoc, List.drop_append_of_le_length (by rw [e1]; exact Nat.le_refl _), List.drop_of_length_le (by rw [e1]; exact Nat.le_refl _), List.drop_of_length_le (l := cs) (by omega)]
      simp
theorem sortT {H : AHeap} {us : List (Cm × Value)} {vu : Value} {Su : List Nat} (hO : OwnL H 66 4 us.length (cmsC us) vu Su) (hb : ∀ u ∈ us, u.1.inB) (hfl : ∀ u ∈ us, flat u.2 = true) (hsz : us.length < 1099511627776) :
    ARex Tryd.prog 24 [vu, .func (.func 31) ⟨[]⟩ ⟨[]⟩] H noVal (fun H1 => ∃ us' : List (Cm × Value), us'.Perm us ∧ us'.Pairwise (fun a b => ¬ bef b.1 a.1) ∧ OwnL H1 66 4 us'.length (cmsC us') vu Su ∧ Frm Su H H1) := by
  by_cases hz : us = []
  · subst hz
    exact ARet.rex (sortE2 (v := vu) fun H' K => by rw [OwnL.lenT hO (by simp only [go_sem, ↓reduceIte, Nat.reduceEqDiff, reduceCtorEq, Nat.reduceAdd, Int.reduceEq, Int.reduceBNe, Int.reduceBEq, Int.reduceToNat, Int.reduceLT, Int.reduceLE, Int.reduceGT, Int.reduceGE, Nat.reduceSub, Nat.reduceBEq, Nat.reduceBNe, Int.reduceAdd, Int.reduceSub, Int.reduceMul, Int.reduceNeg, Nat.reduceMul, Nat.reduceLeDiff, Nat.reduceLT])]; rfl) ⟨[], .refl _, .nil, hO, .refl _ _⟩
  have hpos : 0 < us.length := List.length_pos_iff.2 hz
  rcases hO with ⟨h1, _⟩ | ⟨i, o, cs, rfl, hi, hcl, hd, rfl⟩
  · omega
  obtain ⟨uk, rfl⟩ := toKy us hb
  rw [List.length_map] at *
  rw [cmsC_ky] at hd
  have hlen : o + uk.length * encK.k ≤ cs.length := by show o + uk.length * 4 ≤ _; omega
  have h := AC.sortFunc (P := Tryd.prog) (ρ := Tryd.sortC_ren) Tryd.sortC Tryd.func24 (by kernel_rfl) (by kernel_rfl) encK (Go.Aw.run_isAgg (t := 66) (by kernel_rfl)) (Go.Aw.run_sizeOf (t := 66) (by kernel_rfl)) cfK cfK_swo 31 (enters_of Tryd.func31 (by kernel_rfl) rfl)
    (fun x y v u W hv hu => by
      have h := cmpT x.1.time x.1.id x.1.copy y.1.time y.1.id y.1.copy v u hv hu W
      obtain ⟨⟨a1, a2⟩, ⟨a3, a4⟩, a5, a6⟩ := x.2
      obtain ⟨⟨b1, b2⟩, ⟨b3, b4⟩, b5, b6⟩ := y.2
      rw [wi64 (n := x.1.time - y.1.time) (by omega), wi64 (n := x.1.id - y.1.id) (by omega), wi64 (n := x.1.copy - y.1.copy) (by omega)] at h
      exact h)
    hi rfl (Nat.zero_le _) (us := uk) (fun u hu => hfl (u.1.1, u.2) (List.mem_map_of_mem hu)) hpos (by omega) hlen (by rw [List.take_of_length_le (by rw [List.length_drop]; show _ ≤ uk.length * 4; omega)]; exact hd)
  refine AC.mono h ?_
  rintro r H1 ⟨rfl, us', hp, hs, rfl⟩
  refine ⟨rfl, us'.map fun u => (u.1.1, u.2), hp.map _, ?_, ?_, Frm.set (.refl _ _) (.inl (by simp))⟩
  · rw [List.pairwise_map]
    refine hs.imp fun {a b} h => ?_
    rw [cfK_lt] at h
    exact h
  · have hl2 : us'.length = uk.length := hp.length_eq
    have hl3 : (us'.flatMap fun u => encK.en u.1 u.2).length = uk.length * 4 := by rw [← cmsC_ky, cmsC_len, List.length_map, hl2]
    refine .inr ⟨i, o, putCells cs o (us'.flatMap fun u => encK.en u.1 u.2), by rw [List.length_map, hl2], ?_, ?_, ?_, rfl⟩
    · exact hset_self (lt_of_get hi)
    · rw [putCells_length, List.length_map, hl2, hcl]
    · rw [cmsC_ky, putCells_eq _ _ _ (by rw [hl3, hcl]; exact Nat.le_refl _)]
      have e1 : (cs.take o).length = o := by rw [List.length_take]; omega
      rw [List.append_assoc, List.drop_append_of_le_length (by rw [e1]; exact Nat.le_refl _), List.drop_of_length_le (by rw [e1]; exact Nat.le_refl _), List.drop_of_length_le (l := cs) (by omega)]
      simp
theorem Gv.flat {H : AHeap} {v : Value} {p : Pc} (h : Gv H v p) : flat v = true := by cases h <;> rfl
end Go.Proofs.YtnfkbgpbligloaaDoor
