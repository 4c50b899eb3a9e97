/-
  The walk of sorted nodes: merging where the second piece is of one thing.
-/
import Derived.Test.YtdbdnknnaekbhaaOG
set_option linter.unusedVariables false
set_option linter.unusedSimpArgs false
set_option maxRecDepth 20000
set_option maxHeartbeats 4000000
namespace Go.Proofs.Ytdbdnknnaekbhaa
open Go Go.Aw Go.Proofs
theorem symB (b p : Nat) (kp : CK) (t : List UInt8) (ht : t.length = 20) (l : List Nd) (N : Nat) (hN : N = l.length) (hok : ∀ x ∈ l, x.ok = true) (a m e : Nat) (ham : a + 1 < m) (hme : e = m + 1) (he : e ≤ N) (hl : N < 1099511627776) (hne : p ≠ b) (H : AHeap) (hb : b < H.length) (hp : H[p]? = some (.cells [.string (bs t)] kp)) (hs : Srt (leN t) l a m) :
    AC Try.prog 74 [.slice (some ⟨b, 0, none⟩) N N, .int .i64 a, .int .i64 m, .int .i64 e, cmpF p] (H.set b (lsO l)) (SymR t b H l a e) := by
  have hcm : IntKind.i64.wrap ((e : Int) - (m : Int)) = 1 := by rw [wi64 (by omega)]; omega
  have h11 : ((1 : Int) == 1) = true := rfl
  have hcm0 : (IntKind.i64.wrap ((m : Int) - (a : Int)) == 1) = false := by rw [wi64 (by omega)]; simp; omega
  have hbl : b < (H.set b (lsO l)).length := by rw [List.length_set]; exact hb
  have hC := cmpAt b p kp t ht l hok hne H hp
  have hg : (H.set b (lsO l))[b]? = some (.cells (ndsC l) ⟨46, 4, true, 0, none⟩) := List.getElem?_set_self hb
  have hcl := ndsC_len l
  have ha2 : (m : Int) < (N : Int) := by omega
  have ha0 : (0 : Int) ≤ (m : Int) := Int.natCast_nonneg _
  have hal : m < l.length := by omega
  have ay := ndsC_at l m hal
  have hby : m * 4 + 4 ≤ (ndsC l).length := by omega
  unfold cmpF
  refine AC.enter Try.func74 rfl (by kernel_rfl) 220 rfl [] rfl (by simp) fun hsc B => ?_
  repeat first
    | with_reducible refine AWP.seq ?_
    | ((with_reducible refine AWP.region ?_ ?_); exact rfl)
    | with_reducible refine AWP.block ?_
    | with_reducible refine AWP.skip ?_
    | with_reducible refine AWP.exit ?_
    | with_reducible refine AWP.ret ?_
    | with_reducible refine AWP.label ?_
    | with_reducible refine AWP.goto ?_
    | ((with_reducible refine AWP.condT ?_ ?_); focus (simp only [ev, lk_cons, ↓reduceIte, Nat.reduceEqDiff]; done))
    | ((with_reducible refine AWP.condF ?_ ?_); focus (simp only [ev, lk_cons, ↓reduceIte, Nat.reduceEqDiff]; done))
    | simp only [go_sem, ↓reduceIte, Nat.reduceEqDiff, reduceCtorEq, Nat.reduceAdd, Int.reduceEq, Int.reduceBNe, Int.reduceBEq, Int.reduceToNat, Int.reduceLT, Int.reduceLE, Int.reduceGT, Int.reduceGE, Nat.reduceSub, Nat.reduceBEq, Nat.reduceBNe, Int.reduceAdd, Int.reduceSub, Int.reduceMul, Int.reduceNeg, Nat.reduceMul, Nat.reduceLeDiff, Nat.reduceLT, hcm, h11, hcm0]
    | simp (disch := omega) only [wi64, wu8, wu16, wu32, wu64, Int.tdiv_eq_ediv_of_nonneg, Int.tmod_eq_emod_of_nonneg]
    | with_reducible_and_instances exact finR
    | ((with_reducible refine finR' ?_ ?_) <;> rfl)
    | ((with_reducible refine finD hsc (NRel.of_plain ?_)); exact rfl)
  refine AWP.loopP (fun s : Nat × Nat => ⟨[(0, .slice (some ⟨b, 0, none⟩) N N), (2, .int .i64 m), (4, .func (.func 42) ⟨[]⟩ ⟨[.pointer (some ⟨p, 0, none⟩)]⟩), (14, .int .i64 (s.1 : Nat)), (15, .int .i64 (s.2 : Nat))], [], H.set b (lsO l)⟩)
    (fun s => a ≤ s.1 ∧ s.1 ≤ s.2 ∧ s.2 ≤ m ∧ (s.1 = a ∨ ∀ x y, l[s.1 - 1]? = some x → l[m]? = some y → leN t x y) ∧ (s.2 = m ∨ ∀ x y, l[m]? = some x → l[s.2]? = some y → leN t x y)) (fun s => s.2 - s.1) (a, m) ?_ ⟨Nat.le_refl _, by dsimp only; omega, Nat.le_refl _, .inl rfl, .inl rfl⟩ ?_
  · exact Weak.env (by simp [envIn, lk_cons, wth_some])
  rintro ⟨i, j⟩ ⟨g1, g2, g3, g4, g5⟩
  simp only at g1 g2 g3 g4 g5 ⊢
  by_cases hc : i < j
  · have hc' : (i : Int) < (j : Int) := by omega
    have hwij : IntKind.i64.wrap ((i : Int) + (j : Int)) = ((i + j : Nat) : Int) := by rw [wi64 (by omega)]; omega
    have hu : IntKind.u64.wrap ((i + j : Nat) : Int) = ((i + j : Nat) : Int) := wu64 (by omega)
    have hh := half (i + j) (by omega)
    obtain ⟨h, hhe⟩ : ∃ h, h = (i + j) / 2 := ⟨_, rfl⟩
    rw [← hhe] at hh
    have hhl : h < l.length := by omega
    have ax := ndsC_at l h hhl
    have hbx : h * 4 + 4 ≤ (ndsC l).length := by omega
    have hx0 : (0 : Int) ≤ (h : Int) := Int.natCast_nonneg _
    have hx2 : (h : Int) < (N : Int) := by omega
    have hwh : IntKind.i64.wrap ((h : Int) + 1) = ((h + 1 : Nat) : Int) := by rw [wi64 (by omega)]; omega
    have hC1 := hC m h hal hhl
    have el : l[h]? = some l[h] := List.getElem?_eq_getElem hhl
    have ea : l[m]? = some l[m] := List.getElem?_eq_getElem hal
    by_cases hcm2 : cmpN t l[m] l[h] < 0
    · have hle := lt_leN hcm2
      generalize cmpN t l[m] l[h] = cv at *
      repeat first
        | with_reducible refine AWP.seq ?_
        | ((with_reducible refine AWP.region ?_ ?_); exact rfl)
        | with_reducible refine AWP.block ?_
        | with_reducible refine AWP.skip ?_
        | with_reducible refine AWP.exit ?_
        | with_reducible refine AWP.ret ?_
        | with_reducible refine AWP.label ?_
        | with_reducible refine AWP.goto ?_
        | ((with_reducible refine AWP.condT ?_ ?_); focus (simp only [ev, lk_cons, ↓reduceIte, Nat.reduceEqDiff]; done))
        | ((with_reducible refine AWP.condF ?_ ?_); focus (simp only [ev, lk_cons, ↓reduceIte, Nat.reduceEqDiff]; done))
        | simp only [go_sem, ↓reduceIte, Nat.reduceEqDiff, reduceCtorEq, Nat.reduceAdd, Int.reduceEq, Int.reduceBNe, Int.reduceBEq, Int.reduceToNat, Int.reduceLT, Int.reduceLE, Int.reduceGT, Int.reduceGE, Nat.reduceSub, Nat.reduceBEq, Nat.reduceBNe, Int.reduceAdd, Int.reduceSub, Int.reduceMul, Int.reduceNeg, Nat.reduceMul, Nat.reduceLeDiff, Nat.reduceLT, hc', hwij, hu]
        | simp (disch := omega) only [wi64, wu8, wu16, wu32, wu64, Int.tdiv_eq_ediv_of_nonneg, Int.tmod_eq_emod_of_nonneg]
        | with_reducible_and_instances exact finR
        | ((with_reducible refine finR' ?_ ?_) <;> rfl)
        | ((with_reducible refine finD hsc (NRel.of_plain ?_)); exact rfl)
      refine AWP.regionK 9 (by kernel_rfl) (by decide) (by kernel_rfl) ?_
      repeat first
        | with_reducible refine AWP.seq ?_
        | ((with_reducible refine AWP.region ?_ ?_); exact rfl)
        | with_reducible refine AWP.block ?_
        | with_reducible refine AWP.skip ?_
        | with_reducible refine AWP.exit ?_
        | with_reducible refine AWP.ret ?_
        | with_reducible refine AWP.label ?_
        | with_reducible refine AWP.goto ?_
        | ((with_reducible refine AWP.condT ?_ ?_); focus (simp only [ev, lk_cons, ↓reduceIte, Nat.reduceEqDiff]; done))
        | ((with_reducible refine AWP.condF ?_ ?_); focus (simp only [ev, lk_cons, ↓reduceIte, Nat.reduceEqDiff]; done))
        | with_reducible refine hC1.use ?_
        | simp only [go_sem, ↓reduceIte, Nat.reduceEqDiff, reduceCtorEq, Nat.reduceAdd, Int.reduceEq, Int.reduceBNe, Int.reduceBEq, Int.reduceToNat, Int.reduceLT, Int.reduceLE, Int.reduceGT, Int.reduceGE, Nat.reduceSub, Nat.reduceBEq, Nat.reduceBNe, Int.reduceAdd, Int.reduceSub, Int.reduceMul, Int.reduceNeg, Nat.reduceMul, Nat.reduceLeDiff, Nat.reduceLT, hh, hg, ax, ay, hbx, hby, hx0, hx2, ha0, ha2, Int.toNat_natCast, hcm2, hwh]
        | simp (disch := omega) only [wi64, wu8, wu16, wu32, wu64, Int.tdiv_eq_ediv_of_nonneg, Int.tmod_eq_emod_of_nonneg]
        | with_reducible_and_instances exact finR
        | ((with_reducible refine finR' ?_ ?_) <;> rfl)
        | ((with_reducible refine finD hsc (NRel.of_plain ?_)); exact rfl)
      refine ⟨(i, h), Weak.env (by simp [envIn, lk_cons, wth_some]), by dsimp only; omega, by dsimp only; omega, by dsimp only; omega, g4, .inr fun x y e1 e2 => ?_, by dsimp only; omega⟩
      rw [show (i, h).snd = h from rfl, el] at e2
      rw [ea] at e1
      cases e1; cases e2
      exact hle
    · have hle : leN t l[h] l[m] := hcm2
      generalize cmpN t l[m] l[h] = cv at *
      repeat first
        | with_reducible refine AWP.seq ?_
        | ((with_reducible refine AWP.region ?_ ?_); exact rfl)
        | with_reducible refine AWP.block ?_
        | with_reducible refine AWP.skip ?_
        | with_reducible refine AWP.exit ?_
        | with_reducible refine AWP.ret ?_
        | with_reducible refine AWP.label ?_
        | with_reducible refine AWP.goto ?_
        | ((with_reducible refine AWP.condT ?_ ?_); focus (simp only [ev, lk_cons, ↓reduceIte, Nat.reduceEqDiff]; done))
        | ((with_reducible refine AWP.condF ?_ ?_); focus (simp only [ev, lk_cons, ↓reduceIte, Nat.reduceEqDiff]; done))
        | simp only [go_sem, ↓reduceIte, Nat.reduceEqDiff, reduceCtorEq, Nat.reduceAdd, Int.reduceEq, Int.reduceBNe, Int.reduceBEq, Int.reduceToNat, Int.reduceLT, Int.reduceLE, Int.reduceGT, Int.reduceGE, Nat.reduceSub, Nat.reduceBEq, Nat.reduceBNe, Int.reduceAdd, Int.reduceSub, Int.reduceMul, Int.reduceNeg, Nat.reduceMul, Nat.reduceLeDiff, Nat.reduceLT, hc', hwij, hu]
        | simp (disch := omega) only [wi64, wu8, wu16, wu32, wu64, Int.tdiv_eq_ediv_of_nonneg, Int.tmod_eq_emod_of_nonneg]
        | with_reducible_and_instances exact finR
        | ((with_reducible refine finR' ?_ ?_) <;> rfl)
        | ((with_reducible refine finD hsc (NRel.of_plain ?_)); exact rfl)
      refine AWP.regionK 9 (by kernel_rfl) (by decide) (by kernel_rfl) ?_
      repeat first
        | with_reducible refine AWP.seq ?_
        | ((with_reducible refine AWP.region ?_ ?_); exact rfl)
        | with_reducible refine AWP.block ?_
        | with_reducible refine AWP.skip ?_
        | with_reducible refine AWP.exit ?_
        | with_reducible refine AWP.ret ?_
        | with_reducible refine AWP.label ?_
        | with_reducible refine AWP.goto ?_
        | ((with_reducible refine AWP.condT ?_ ?_); focus (simp only [ev, lk_cons, ↓reduceIte, Nat.reduceEqDiff]; done))
        | ((with_reducible refine AWP.condF ?_ ?_); focus (simp only [ev, lk_cons, ↓reduceIte, Nat.reduceEqDiff]; done))
        | with_reducible refine hC1.use ?_
        | simp only [go_sem, ↓reduceIte, Nat.reduceEqDiff, reduceCtorEq, Nat.reduceAdd, Int.reduceEq, Int.reduceBNe, Int.reduceBEq, Int.reduceToNat, Int.reduceLT, Int.reduceLE, Int.reduceGT, Int.reduceGE, Nat.reduceSub, Nat.reduceBEq, Nat.reduceBNe, Int.reduceAdd, Int.reduceSub, Int.reduceMul, Int.reduceNeg, Nat.reduceMul, Nat.reduceLeDiff, Nat.reduceLT, hh, hg, ax, ay, hbx, hby, hx0, hx2, ha0, ha2, Int.toNat_natCast, hcm2, hwh]
        | simp (disch := omega) only [wi64, wu8, wu16, wu32, wu64, Int.tdiv_eq_ediv_of_nonneg, Int.tmod_eq_emod_of_nonneg]
        | with_reducible_and_instances exact finR
        | ((with_reducible refine finR' ?_ ?_) <;> rfl)
        | ((with_reducible refine finD hsc (NRel.of_plain ?_)); exact rfl)
      refine ⟨(h + 1, j), Weak.env (by simp [envIn, lk_cons, wth_some]), by dsimp only; omega, by dsimp only; omega, by dsimp only; omega, .inr fun x y e1 e2 => ?_, g5, by dsimp only; omega⟩
      rw [show (h + 1, j).fst - 1 = h from rfl, el] at e1
      rw [ea] at e2
      cases e1; cases e2
      exact hle
  obtain rfl : i = j := by omega
  have hc' : ¬ (i : Int) < (i : Int) := by omega
  repeat first
    | with_reducible refine AWP.seq ?_
    | ((with_reducible refine AWP.region ?_ ?_); exact rfl)
    | with_reducible refine AWP.block ?_
    | with_reducible refine AWP.skip ?_
    | with_reducible refine AWP.exit ?_
    | with_reducible refine AWP.ret ?_
    | with_reducible refine AWP.label ?_
    | with_reducible refine AWP.goto ?_
    | ((with_reducible refine AWP.condT ?_ ?_); focus (simp only [ev, lk_cons, ↓reduceIte, Nat.reduceEqDiff]; done))
    | ((with_reducible refine AWP.condF ?_ ?_); focus (simp only [ev, lk_cons, ↓reduceIte, Nat.reduceEqDiff]; done))
    | simp only [go_sem, ↓reduceIte, Nat.reduceEqDiff, reduceCtorEq, Nat.reduceAdd, Int.reduceEq, Int.reduceBNe, Int.reduceBEq, Int.reduceToNat, Int.reduceLT, Int.reduceLE, Int.reduceGT, Int.reduceGE, Nat.reduceSub, Nat.reduceBEq, Nat.reduceBNe, Int.reduceAdd, Int.reduceSub, Int.reduceMul, Int.reduceNeg, Nat.reduceMul, Nat.reduceLeDiff, Nat.reduceLT, hc']
    | simp (disch := omega) only [wi64, wu8, wu16, wu32, wu64, Int.tdiv_eq_ediv_of_nonneg, Int.tmod_eq_emod_of_nonneg]
    | with_reducible_and_instances exact finR
    | ((with_reducible refine finR' ?_ ?_) <;> rfl)
    | ((with_reducible refine finD hsc (NRel.of_plain ?_)); exact rfl)
  refine AWP.loopP (fun s : Nat × List Nd => ⟨[(0, .slice (some ⟨b, 0, none⟩) N N), (14, .int .i64 (i : Nat)), (17, .int .i64 (s.1 : Nat))], [], H.set b (lsO s.2)⟩)
    (fun s => i ≤ s.1 ∧ s.1 ≤ m ∧ Pm l s.2 (rot s.1 m (m + 1))) (fun s => s.1) (m, l) ?_ ⟨g3, Nat.le_refl _, (Pm.refl l).of fun q _ => (rot_none m q).symm⟩ ?_
  · exact Weak.env (by simp [envIn, lk_cons, wth_some])
  rintro ⟨k, m'⟩ ⟨k1, k2, hp2⟩
  simp only at k1 k2 hp2 ⊢
  have hml := hp2.len
  by_cases hk : i < k
  · have hk' : (k : Int) > (i : Int) := by omega
    have hw1 : IntKind.i64.wrap ((k : Int) - 1) = ((k - 1 : Nat) : Int) := by rw [wi64 (by omega)]; omega
    have hx1 : k < m'.length := by omega
    have hy1 : k - 1 < m'.length := by omega
    have hx0 : (0 : Int) ≤ (k : Int) := Int.natCast_nonneg _
    have hy0 : (0 : Int) ≤ ((k - 1 : Nat) : Int) := Int.natCast_nonneg _
    have hx2 : (k : Int) < (N : Int) := by omega
    have hy2 : ((k - 1 : Nat) : Int) < (N : Int) := by omega
    have hg : (H.set b (lsO m'))[b]? = some (.cells (ndsC m') ⟨46, 4, true, 0, none⟩) := List.getElem?_set_self hb
    have hcl := ndsC_len m'
    have ax := ndsC_at m' k hx1
    have ay := ndsC_at m' (k - 1) hy1
    have hbx : k * 4 + 4 ≤ (ndsC m').length := by omega
    have hby : (k - 1) * 4 + 4 ≤ (ndsC m').length := by omega
    have px := put_nd m' k m'[k - 1] hx1
    have py := put_nd (m'.set k m'[k - 1]) (k - 1) m'[k] (by rw [List.length_set]; exact hy1)
    have hcx := ndsC_len (m'.set k m'[k - 1])
    rw [List.length_set] at hcx
    have hby2 : (k - 1) * 4 + 4 ≤ (ndsC (m'.set k m'[k - 1])).length := by omega
    have hps := hp2.trans (Pm.swap m' (i := k) (j := k - 1) (List.getElem?_eq_getElem hx1) (List.getElem?_eq_getElem hy1)) (fun q hq => by unfold swp; (repeat' split) <;> omega)
    repeat first
      | with_reducible refine AWP.seq ?_
      | ((with_reducible refine AWP.region ?_ ?_); exact rfl)
      | with_reducible refine AWP.block ?_
      | with_reducible refine AWP.skip ?_
      | with_reducible refine AWP.exit ?_
      | with_reducible refine AWP.ret ?_
      | with_reducible refine AWP.label ?_
      | with_reducible refine AWP.goto ?_
      | ((with_reducible refine AWP.condT ?_ ?_); focus (simp only [ev, lk_cons, ↓reduceIte, Nat.reduceEqDiff]; done))
      | ((with_reducible refine AWP.condF ?_ ?_); focus (simp only [ev, lk_cons, ↓reduceIte, Nat.reduceEqDiff]; done))
      | simp only [go_sem, ↓reduceIte, Nat.reduceEqDiff, reduceCtorEq, Nat.reduceAdd, Int.reduceEq, Int.reduceBNe, Int.reduceBEq, Int.reduceToNat, Int.reduceLT, Int.reduceLE, Int.reduceGT, Int.reduceGE, Nat.reduceSub, Nat.reduceBEq, Nat.reduceBNe, Int.reduceAdd, Int.reduceSub, Int.reduceMul, Int.reduceNeg, Nat.reduceMul, Nat.reduceLeDiff, Nat.reduceLT, hk']
      | simp (disch := omega) only [wi64, wu8, wu16, wu32, wu64, Int.tdiv_eq_ediv_of_nonneg, Int.tmod_eq_emod_of_nonneg]
      | with_reducible_and_instances exact finR
      | ((with_reducible refine finR' ?_ ?_) <;> rfl)
      | ((with_reducible refine finD hsc (NRel.of_plain ?_)); exact rfl)
    refine AWP.regionM 16 [9, 13, 15] [] (.both (.run [9, 13, 15]) (.run [13, 9, 15])) (by kernel_rfl) (by decide) (by kernel_rfl) (by kernel_rfl) (by kernel_rfl) ?_
    repeat' first
      | with_reducible refine canW_n ?_
      | with_reducible refine canW_m (by decide) ?_
      | ((with_reducible apply canW_p (by decide)); focus (intro H; (simp only [go_sem, ↓reduceIte, Nat.reduceEqDiff, reduceCtorEq, Nat.reduceAdd, Int.reduceEq, Int.reduceBNe, Int.reduceBEq, Int.reduceToNat, Int.reduceLT, Int.reduceLE, Int.reduceGT, Int.reduceGE, Nat.reduceSub, Nat.reduceBEq, Nat.reduceBNe, Int.reduceAdd, Int.reduceSub, Int.reduceMul, Int.reduceNeg, Nat.reduceMul, Nat.reduceLeDiff, Nat.reduceLT, hw1, hg, ax, ay, hbx, hby, hx0, hy0, hx2, hy2, Int.toNat_natCast, nd_len, nd_flat, px, py, hby2, hsets, hb, List.set_set, List.length_set, List.map_cons, List.map_nil]); exact rfl))
      | with_reducible refine memW_b ?_ ?_
      | with_reducible refine memW_s rfl ?_
      | with_reducible refine memW_r rfl ?_
      | with_reducible refine memW_e ?_
      | simp only [List.take_succ_cons, List.take_zero, List.drop_succ_cons, List.drop_zero]
      | omega
      | with_reducible refine And.intro ?_ ?_
      | with_reducible refine AWP.seq ?_
      | ((with_reducible refine AWP.region ?_ ?_); exact rfl)
      | with_reducible refine AWP.block ?_
      | with_reducible refine AWP.skip ?_
      | with_reducible refine AWP.exit ?_
      | with_reducible refine AWP.ret ?_
      | with_reducible refine AWP.label ?_
      | with_reducible refine AWP.goto ?_
      | ((with_reducible refine AWP.condT ?_ ?_); focus (simp only [ev, lk_cons, ↓reduceIte, Nat.reduceEqDiff]; done))
      | ((with_reducible refine AWP.condF ?_ ?_); focus (simp only [ev, lk_cons, ↓reduceIte, Nat.reduceEqDiff]; done))
      | simp only [go_sem, ↓reduceIte, Nat.reduceEqDiff, reduceCtorEq, Nat.reduceAdd, Int.reduceEq, Int.reduceBNe, Int.reduceBEq, Int.reduceToNat, Int.reduceLT, Int.reduceLE, Int.reduceGT, Int.reduceGE, Nat.reduceSub, Nat.reduceBEq, Nat.reduceBNe, Int.reduceAdd, Int.reduceSub, Int.reduceMul, Int.reduceNeg, Nat.reduceMul, Nat.reduceLeDiff, Nat.reduceLT, hw1, hg, ax, ay, hbx, hby, hx0, hy0, hx2, hy2, Int.toNat_natCast, nd_len, nd_flat, px, py, hby2, hsets, hb, List.set_set, List.length_set, List.map_cons, List.map_nil]
      | simp (disch := omega) only [wi64, wu8, wu16, wu32, wu64, Int.tdiv_eq_ediv_of_nonneg, Int.tmod_eq_emod_of_nonneg]
      | with_reducible_and_instances exact finR
      | ((with_reducible refine finR' ?_ ?_) <;> rfl)
      | ((with_reducible refine finD hsc (NRel.of_plain ?_)); exact rfl)
    all_goals exact ⟨(k - 1, _), Weak.env (by simp [envIn, lk_cons, wth_some]), by dsimp only; omega, by dsimp only; omega, hps.of (fun q hq => down_succ (by omega) (by omega) q), by dsimp only; omega⟩
  · have hk' : ¬ (k : Int) > (i : Int) := by omega
    obtain rfl : k = i := by omega
    repeat first
      | with_reducible refine AWP.seq ?_
      | ((with_reducible refine AWP.region ?_ ?_); exact rfl)
      | with_reducible refine AWP.block ?_
      | with_reducible refine AWP.skip ?_
      | with_reducible refine AWP.exit ?_
      | with_reducible refine AWP.ret ?_
      | with_reducible refine AWP.label ?_
      | with_reducible refine AWP.goto ?_
      | ((with_reducible refine AWP.condT ?_ ?_); focus (simp only [ev, lk_cons, ↓reduceIte, Nat.reduceEqDiff]; done))
      | ((with_reducible refine AWP.condF ?_ ?_); focus (simp only [ev, lk_cons, ↓reduceIte, Nat.reduceEqDiff]; done))
      | simp only [go_sem, ↓reduceIte, Nat.reduceEqDiff, reduceCtorEq, Nat.reduceAdd, Int.reduceEq, Int.reduceBNe, Int.reduceBEq, Int.reduceToNat, Int.reduceLT, Int.reduceLE, Int.reduceGT, Int.reduceGE, Nat.reduceSub, Nat.reduceBEq, Nat.reduceBNe, Int.reduceAdd, Int.reduceSub, Int.reduceMul, Int.reduceNeg, Nat.reduceMul, Nat.reduceLeDiff, Nat.reduceLT, hk']
      | simp (disch := omega) only [wi64, wu8, wu16, wu32, wu64, Int.tdiv_eq_ediv_of_nonneg, Int.tmod_eq_emod_of_nonneg]
      | with_reducible_and_instances exact finR
      | ((with_reducible refine finR' ?_ ?_) <;> rfl)
      | ((with_reducible refine finD hsc (NRel.of_plain ?_)); exact rfl)
    refine ⟨_, _, .refl _ _ _, rfl, _, ?_, rfl⟩
    subst hme
    exact ins_down (le := leN t) (fun x y z h1 h2 => leN_tr t h1 h2) (by omega) hs g1 g3 g4 g5 hp2
end Go.Proofs.Ytdbdnknnaekbhaa

