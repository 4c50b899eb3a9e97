/-
  The walk of tokens' specification: announces that are taken; seeds that are changed.
-/
import Derived.Test.YtmpkgdilmkeacaaDoorS4
set_option linter.unusedVariables false
set_option linter.unusedSimpArgs false
set_option maxRecDepth 20000
set_option maxHeartbeats 4000000
namespace Go.Proofs.YtmpkgdilmkeacaaDoor
open Go Go.Aw Go.Proofs Go.Shelf Go.RowKit Go.ChangeShapes
def rTakeE (R : Rk) (t : Int) (a : Ad) (tok : List UInt8) : Int := if rAskE R t a = 0 then (if rUntilL (R.tell t) a tok < 0 then 19 else if R.most > 0 ∧ (countL (R.tell t) a.ip : Int) ≥ R.most then 14 else 0) else rAskE R t a
def Rk.took (R : Rk) (ip : List UInt8) : Rk := { R with taken := R.taken ++ [(R.now / R.per, ip)] }
def Rk.take (R : Rk) (t : Int) (a : Ad) (tok : List UInt8) : Rk := if rTakeE R t a tok = 0 then (R.tell t).took a.ip else R
/-- Behind an announce that is taken. -/
theorem Rst.took {H1 Hk X : AHeap} {i js jt ig : Nat} {R : Rk} (h : Rst H1 i js jt R) (ip : List UInt8) (hig : R.taken = [] ∧ H1.length ≤ ig ∨ R.taken ≠ [] ∧ ig = jt) (h1 : Hk.length = H1.length) (h2 : ∀ j, j ≠ ig → Hk[j]? = H1[j]?) :
    Rst ((Hk ++ (X ++ [AObj.cells (prC R.taken ++ [.int .i64 (R.now / R.per), .string (bs ip)]) ⟨114, 2, true, 0, none⟩])).set i (rkC (R.took ip) js (H1.length + X.length))) i js (H1.length + X.length) (R.took ip) := by
  have hil := lt_of_get h.at_
  obtain ⟨z, hz, hs⟩ := h.hs
  have hjl := lt_of_get hs
  have hij := h.njs
  have hkj : Hk[js]? = H1[js]? := by
    apply h2
    rcases hig with ⟨_, h⟩ | ⟨hn, rfl⟩
    · omega
    · exact h.nst hn
  refine ⟨hset_self (by simp [h1]; omega), ⟨z, hz, ?_⟩, fun _ => ⟨2, .inr rfl, ?_⟩, h.ne, ?_, ?_⟩
  · rw [hset_ne hij, hgetl (by rw [h1]; exact hjl), hkj]; exact hs
  · rw [hset_ne (by omega), ← h1, ← List.append_assoc, hget0 (by rw [List.length_append])]
    unfold Rk.took
    rw [prC_append]; rfl
  · obtain ⟨e, ht⟩ := h.tab
    have htl := lt_of_get ht
    have hti : i ≠ Tryd.laysItoa_ren.g 17 := fun e2 => h.tabNe e i (by simp) (by rw [e2]; exact ht)
    refine ⟨e, ?_⟩
    rw [hset_ne hti, hgetl (by rw [h1]; exact htl), h2 _ ?_]
    · exact ht
    · rcases hig with ⟨_, h⟩ | ⟨hn, rfl⟩
      · omega
      · intro e2
        exact h.tabNt hn e (by rw [← e2]; exact ht)
  · rw [List.length_set]; simp [h1]
theorem Rto.took {H H1 Hk X : AHeap} {i js jt js1 jt1 ig : Nat} {R : Rk} (h : Rst H1 i js1 jt1 R) (hf : Frm [i, js, jt] H H1) (hj1 : js1 = js ∨ H.length ≤ js1) (hj2 : jt1 = jt ∨ H.length ≤ jt1) (ip : List UInt8) (hig : R.taken = [] ∧ H1.length ≤ ig ∨ R.taken ≠ [] ∧ ig = jt1) (h1 : Hk.length = H1.length) (h2 : ∀ j, j ≠ ig → Hk[j]? = H1[j]?) :
    Rto H i js jt (R.took ip) ((Hk ++ (X ++ [AObj.cells (prC R.taken ++ [.int .i64 (R.now / R.per), .string (bs ip)]) ⟨114, 2, true, 0, none⟩])).set i (rkC (R.took ip) js1 (H1.length + X.length))) := by
  have := hf.1
  refine ⟨js1, H1.length + X.length, h.took ip hig h1 h2, ?_, hj1, .inr (by omega)⟩
  refine Frm.set (Go.Aw.Frm.more ⟨by omega, fun j hj hn => ?_⟩) (.inl (by simp))
  rw [h2 j, hf.2 j hj hn]
  rcases hig with ⟨_, h⟩ | ⟨_, rfl⟩
  · omega
  · rcases hj2 with rfl | h
    · exact fun e => hn (by simp [e])
    · omega
theorem rTake (R : Rk) (hok : R.ok) (htl : R.taken.length < 1000) (i js jt : Nat) (t : Int) (a : Ad) (tok : List UInt8) (H : AHeap) (h : Rst H i js jt R) :
    ARex Tryd.prog 52 [.pointer (some ⟨i, 0, none⟩), .int .i64 t, a.v, .string (bs tok)] H (.int .i64 (rTakeE R t a tok)) (Rto H i js jt (R.take t a tok)) := by
  have hA := rTell R i js jt t a (H ++ [.cells [.int .i64 a.fam, .string (bs a.ip), .int .i64 a.port] ⟨23, 0, true, 0, none⟩]) (h.more _)
  have hi := h.at_
  have hil := lt_of_get hi
  unfold rkC at hi
  unfold Rk.take
  by_cases he : rAskE R t a = 0
  · obtain ⟨ha, ht⟩ := rAskE0 he
    rw [he] at hA
    have hkk : R.ask t a = R.tell t := if_pos he
    rw [hkk] at hA
    have hok1 := hok.tell ht
    have hU := fun js1 jt1 H hs => rUntilW (R.tell t) hok1 i js1 jt1 a ha tok H hs
    have hC := fun js1 jt1 H hs => rCount (R.tell t) hok1 i js1 jt1 a.ip H hs
    have hE : rTakeE R t a tok = if rUntilL (R.tell t) a tok < 0 then 19 else if R.most > 0 ∧ (countL (R.tell t) a.ip : Int) ≥ R.most then 14 else 0 := if_pos he
    rw [hE]
    generalize rUntilL (R.tell t) a tok = u at *
    generalize countL (R.tell t) a.ip = cn at *
    by_cases hu : u < 0
    · rw [if_pos hu, if_neg (by decide)]
      obtain ⟨f, ip, p⟩ := a
      unfold Ad.v at *
      simp only at hA hU ⊢
      refine AC.enter Tryd.func52 rfl (by kernel_rfl) 76 rfl [.tmp 8] rfl (by simp) fun hsc B => ?_
      repeat first
        | with_reducible refine AWP.seq ?_
        | ((with_reducible refine AWP.region ?_ ?_); exact rfl)
        | with_reducible refine AWP.block ?_
        | with_reducible refine AWP.skip ?_
        | with_reducible refine AWP.exit ?_
        | with_reducible refine AWP.ret ?_
        | with_reducible refine AWP.label ?_
        | with_reducible refine AWP.goto ?_
        | ((with_reducible refine AWP.condT ?_ ?_); focus (simp only [ev, lk_cons, ↓reduceIte, Nat.reduceEqDiff]; done))
        | ((with_reducible refine AWP.condF ?_ ?_); focus (simp only [ev, lk_cons, ↓reduceIte, Nat.reduceEqDiff]; done))
        | simp only [go_sem, ↓reduceIte, Nat.reduceEqDiff, reduceCtorEq, Nat.reduceAdd, Int.reduceEq, Int.reduceBNe, Int.reduceBEq, Int.reduceToNat, Int.reduceLT, Int.reduceLE, Int.reduceGT, Int.reduceGE, Nat.reduceSub, Nat.reduceBEq, Nat.reduceBNe, Int.reduceAdd, Int.reduceSub, Int.reduceMul, Int.reduceNeg, Nat.reduceMul, Nat.reduceLeDiff, Nat.reduceLT, hi, hil, hgetl]
        | simp (disch := omega) only [wi64, wu8, wu16, wu32, wu64, Int.tdiv_eq_ediv_of_nonneg, Int.tmod_eq_emod_of_nonneg]
        | with_reducible_and_instances exact finR
        | ((with_reducible refine finR' ?_ ?_) <;> rfl)
        | ((with_reducible refine finD hsc (NRel.of_plain ?_)); exact rfl)
      refine hA.use fun H1 hk => ?_
      obtain ⟨js1, jt1, hs1, hf1, hj1, hj2⟩ := hk
      have hbox := hf1.get (hget0 rfl) (h.out (Nat.le_refl _))
      have hfin : Rto H i js jt R (H1.set i (rkC R js1 jt1)) := Rto.behind (hs1.back hf1 hj1 hj2)
      have hi1 := hs1.at_
      unfold rkC Rk.tell at hi1
      unfold rkC at hfin
      simp only at hi1
      generalize gS jt1 R.taken.length = gt at *
      repeat first
        | with_reducible refine AWP.seq ?_
        | ((with_reducible refine AWP.region ?_ ?_); exact rfl)
        | with_reducible refine AWP.block ?_
        | with_reducible refine AWP.skip ?_
        | with_reducible refine AWP.exit ?_
        | with_reducible refine AWP.ret ?_
        | with_reducible refine AWP.label ?_
        | with_reducible refine AWP.goto ?_
        | ((with_reducible refine AWP.condT ?_ ?_); focus (simp only [ev, lk_cons, ↓reduceIte, Nat.reduceEqDiff]; done))
        | ((with_reducible refine AWP.condF ?_ ?_); focus (simp only [ev, lk_cons, ↓reduceIte, Nat.reduceEqDiff]; done))
        | with_reducible refine (hU _ _ _ hs1).use ?_
        | simp only [go_sem, ↓reduceIte, Nat.reduceEqDiff, reduceCtorEq, Nat.reduceAdd, Int.reduceEq, Int.reduceBNe, Int.reduceBEq, Int.reduceToNat, Int.reduceLT, Int.reduceLE, Int.reduceGT, Int.reduceGE, Nat.reduceSub, Nat.reduceBEq, Nat.reduceBNe, Int.reduceAdd, Int.reduceSub, Int.reduceMul, Int.reduceNeg, Nat.reduceMul, Nat.reduceLeDiff, Nat.reduceLT, hbox, hi1, hu]
        | simp (disch := omega) only [wi64, wu8, wu16, wu32, wu64, Int.tdiv_eq_ediv_of_nonneg, Int.tmod_eq_emod_of_nonneg]
        | with_reducible_and_instances exact finR
        | ((with_reducible refine finR' ?_ ?_) <;> rfl)
        | ((with_reducible refine finD hsc (NRel.of_plain ?_)); exact rfl)
      exact ⟨_, _, .refl _ _ _, rfl, hfin⟩
    rw [if_neg hu]
    by_cases hcc : R.most > 0 ∧ (cn : Int) ≥ R.most
    · obtain ⟨hm, hc⟩ := hcc
      rw [if_pos ⟨hm, hc⟩, if_neg (by decide)]
      obtain ⟨f, ip, p⟩ := a
      unfold Ad.v at *
      simp only at hA hU hC ⊢
      refine AC.enter Tryd.func52 rfl (by kernel_rfl) 76 rfl [.tmp 8] rfl (by simp) fun hsc B => ?_
      repeat first
        | with_reducible refine AWP.seq ?_
        | ((with_reducible refine AWP.region ?_ ?_); exact rfl)
        | with_reducible refine AWP.block ?_
        | with_reducible refine AWP.skip ?_
        | with_reducible refine AWP.exit ?_
        | with_reducible refine AWP.ret ?_
        | with_reducible refine AWP.label ?_
        | with_reducible refine AWP.goto ?_
        | ((with_reducible refine AWP.condT ?_ ?_); focus (simp only [ev, lk_cons, ↓reduceIte, Nat.reduceEqDiff]; done))
        | ((with_reducible refine AWP.condF ?_ ?_); focus (simp only [ev, lk_cons, ↓reduceIte, Nat.reduceEqDiff]; done))
        | simp only [go_sem, ↓reduceIte, Nat.reduceEqDiff, reduceCtorEq, Nat.reduceAdd, Int.reduceEq, Int.reduceBNe, Int.reduceBEq, Int.reduceToNat, Int.reduceLT, Int.reduceLE, Int.reduceGT, Int.reduceGE, Nat.reduceSub, Nat.reduceBEq, Nat.reduceBNe, Int.reduceAdd, Int.reduceSub, Int.reduceMul, Int.reduceNeg, Nat.reduceMul, Nat.reduceLeDiff, Nat.reduceLT, hi, hil, hgetl]
        | simp (disch := omega) only [wi64, wu8, wu16, wu32, wu64, Int.tdiv_eq_ediv_of_nonneg, Int.tmod_eq_emod_of_nonneg]
        | with_reducible_and_instances exact finR
        | ((with_reducible refine finR' ?_ ?_) <;> rfl)
        | ((with_reducible refine finD hsc (NRel.of_plain ?_)); exact rfl)
      refine hA.use fun H1 hk => ?_
      obtain ⟨js1, jt1, hs1, hf1, hj1, hj2⟩ := hk
      have hbox := hf1.get (hget0 rfl) (h.out (Nat.le_refl _))
      have hfin : Rto H i js jt R (H1.set i (rkC R js1 jt1)) := Rto.behind (hs1.back hf1 hj1 hj2)
      have hi1 := hs1.at_
      unfold rkC Rk.tell at hi1
      unfold rkC at hfin
      simp only at hi1
      generalize gS jt1 R.taken.length = gt at *
      repeat first
        | with_reducible refine AWP.seq ?_
        | ((with_reducible refine AWP.region ?_ ?_); exact rfl)
        | with_reducible refine AWP.block ?_
        | with_reducible refine AWP.skip ?_
        | with_reducible refine AWP.exit ?_
        | with_reducible refine AWP.ret ?_
        | with_reducible refine AWP.label ?_
        | with_reducible refine AWP.goto ?_
        | ((with_reducible refine AWP.condT ?_ ?_); focus (simp only [ev, lk_cons, ↓reduceIte, Nat.reduceEqDiff]; done))
        | ((with_reducible refine AWP.condF ?_ ?_); focus (simp only [ev, lk_cons, ↓reduceIte, Nat.reduceEqDiff]; done))
        | with_reducible refine (hU _ _ _ hs1).use ?_
        | simp only [go_sem, ↓reduceIte, Nat.reduceEqDiff, reduceCtorEq, Nat.reduceAdd, Int.reduceEq, Int.reduceBNe, Int.reduceBEq, Int.reduceToNat, Int.reduceLT, Int.reduceLE, Int.reduceGT, Int.reduceGE, Nat.reduceSub, Nat.reduceBEq, Nat.reduceBNe, Int.reduceAdd, Int.reduceSub, Int.reduceMul, Int.reduceNeg, Nat.reduceMul, Nat.reduceLeDiff, Nat.reduceLT, hbox, hi1, hu]
        | simp (disch := omega) only [wi64, wu8, wu16, wu32, wu64, Int.tdiv_eq_ediv_of_nonneg, Int.tmod_eq_emod_of_nonneg]
        | with_reducible_and_instances exact finR
        | ((with_reducible refine finR' ?_ ?_) <;> rfl)
        | ((with_reducible refine finD hsc (NRel.of_plain ?_)); exact rfl)
      refine AWP.regionK 17 (by kernel_rfl) (by decide) (by kernel_rfl) ?_
      repeat first
        | with_reducible refine AWP.seq ?_
        | ((with_reducible refine AWP.region ?_ ?_); exact rfl)
        | with_reducible refine AWP.block ?_
        | with_reducible refine AWP.skip ?_
        | with_reducible refine AWP.exit ?_
        | with_reducible refine AWP.ret ?_
        | with_reducible refine AWP.label ?_
        | with_reducible refine AWP.goto ?_
        | ((with_reducible refine AWP.condT ?_ ?_); focus (simp only [ev, lk_cons, ↓reduceIte, Nat.reduceEqDiff]; done))
        | ((with_reducible refine AWP.condF ?_ ?_); focus (simp only [ev, lk_cons, ↓reduceIte, Nat.reduceEqDiff]; done))
        | simp only [go_sem, ↓reduceIte, Nat.reduceEqDiff, reduceCtorEq, Nat.reduceAdd, Int.reduceEq, Int.reduceBNe, Int.reduceBEq, Int.reduceToNat, Int.reduceLT, Int.reduceLE, Int.reduceGT, Int.reduceGE, Nat.reduceSub, Nat.reduceBEq, Nat.reduceBNe, Int.reduceAdd, Int.reduceSub, Int.reduceMul, Int.reduceNeg, Nat.reduceMul, Nat.reduceLeDiff, Nat.reduceLT, hbox, hi1, hu, hm, exists_eq_left]
        | simp (disch := omega) only [wi64, wu8, wu16, wu32, wu64, Int.tdiv_eq_ediv_of_nonneg, Int.tmod_eq_emod_of_nonneg]
        | with_reducible_and_instances exact finR
        | ((with_reducible refine finR' ?_ ?_) <;> rfl)
        | ((with_reducible refine finD hsc (NRel.of_plain ?_)); exact rfl)
      refine ARet.exq (hC _ _ _ hs1) (by simp only [go_sem, ↓reduceIte, Nat.reduceEqDiff, reduceCtorEq, Nat.reduceAdd, Int.reduceEq, Int.reduceBNe, Int.reduceBEq, Int.reduceToNat, Int.reduceLT, Int.reduceLE, Int.reduceGT, Int.reduceGE, Nat.reduceSub, Nat.reduceBEq, Nat.reduceBNe, Int.reduceAdd, Int.reduceSub, Int.reduceMul, Int.reduceNeg, Nat.reduceMul, Nat.reduceLeDiff, Nat.reduceLT]) ?_
      repeat first
        | with_reducible refine AWP.seq ?_
        | ((with_reducible refine AWP.region ?_ ?_); exact rfl)
        | with_reducible refine AWP.block ?_
        | with_reducible refine AWP.skip ?_
        | with_reducible refine AWP.exit ?_
        | with_reducible refine AWP.ret ?_
        | with_reducible refine AWP.label ?_
        | with_reducible refine AWP.goto ?_
        | ((with_reducible refine AWP.condT ?_ ?_); focus (simp only [ev, lk_cons, ↓reduceIte, Nat.reduceEqDiff]; done))
        | ((with_reducible refine AWP.condF ?_ ?_); focus (simp only [ev, lk_cons, ↓reduceIte, Nat.reduceEqDiff]; done))
        | simp only [go_sem, ↓reduceIte, Nat.reduceEqDiff, reduceCtorEq, Nat.reduceAdd, Int.reduceEq, Int.reduceBNe, Int.reduceBEq, Int.reduceToNat, Int.reduceLT, Int.reduceLE, Int.reduceGT, Int.reduceGE, Nat.reduceSub, Nat.reduceBEq, Nat.reduceBNe, Int.reduceAdd, Int.reduceSub, Int.reduceMul, Int.reduceNeg, Nat.reduceMul, Nat.reduceLeDiff, Nat.reduceLT, hbox, hi1, hu, hm, hc, exists_eq_left]
        | simp (disch := omega) only [wi64, wu8, wu16, wu32, wu64, Int.tdiv_eq_ediv_of_nonneg, Int.tmod_eq_emod_of_nonneg]
        | with_reducible_and_instances exact finR
        | ((with_reducible refine finR' ?_ ?_) <;> rfl)
        | ((with_reducible refine finD hsc (NRel.of_plain ?_)); exact rfl)
      exact ⟨_, _, .refl _ _ _, rfl, hfin⟩
    rw [if_neg hcc, if_pos rfl]
    obtain ⟨f, ip, p⟩ := a
    unfold Ad.v at *
    simp only at hA hU hC ⊢
    refine AC.enter Tryd.func52 rfl (by kernel_rfl) 76 rfl [.tmp 8] rfl (by simp) fun hsc B => ?_
    repeat first
      | with_reducible refine AWP.seq ?_
      | ((with_reducible refine AWP.region ?_ ?_); exact rfl)
      | with_reducible refine AWP.block ?_
      | with_reducible refine AWP.skip ?_
      | with_reducible refine AWP.exit ?_
      | with_reducible refine AWP.ret ?_
      | with_reducible refine AWP.label ?_
      | with_reducible refine AWP.goto ?_
      | ((with_reducible refine AWP.condT ?_ ?_); focus (simp only [ev, lk_cons, ↓reduceIte, Nat.reduceEqDiff]; done))
      | ((with_reducible refine AWP.condF ?_ ?_); focus (simp only [ev, lk_cons, ↓reduceIte, Nat.reduceEqDiff]; done))
      | simp only [go_sem, ↓reduceIte, Nat.reduceEqDiff, reduceCtorEq, Nat.reduceAdd, Int.reduceEq, Int.reduceBNe, Int.reduceBEq, Int.reduceToNat, Int.reduceLT, Int.reduceLE, Int.reduceGT, Int.reduceGE, Nat.reduceSub, Nat.reduceBEq, Nat.reduceBNe, Int.reduceAdd, Int.reduceSub, Int.reduceMul, Int.reduceNeg, Nat.reduceMul, Nat.reduceLeDiff, Nat.reduceLT, hi, hil, hgetl]
      | simp (disch := omega) only [wi64, wu8, wu16, wu32, wu64, Int.tdiv_eq_ediv_of_nonneg, Int.tmod_eq_emod_of_nonneg]
      | with_reducible_and_instances exact finR
      | ((with_reducible refine finR' ?_ ?_) <;> rfl)
      | ((with_reducible refine finD hsc (NRel.of_plain ?_)); exact rfl)
    refine hA.use fun H1 hk => ?_
    obtain ⟨js1, jt1, hs1, hf1, hj1, hj2⟩ := hk
    have hbox := hf1.get (hget0 rfl) (h.out (Nat.le_refl _))
    have hbl := lt_of_get hbox
    have hi1 := hs1.at_
    have hil1 := lt_of_get hi1
    obtain ⟨ig, hig, hv⟩ : ∃ ig, ((R.tell t).taken = [] ∧ H1.length ≤ ig ∨ (R.tell t).taken ≠ [] ∧ ig = jt1) ∧ (gS jt1 R.taken.length = .slice none 0 0 ∧ prC R.taken = [] ∧ R.taken.length = 0 ∨ gS jt1 R.taken.length = .slice (some ⟨ig, 0, none⟩) R.taken.length R.taken.length ∧ ∃ z, (z = 0 ∨ z = 2) ∧ H1[ig]? = some (.cells (prC R.taken) ⟨114, z, true, 0, none⟩)) := by
      by_cases hn : R.taken = []
      · exact ⟨H1.length, .inl ⟨hn, Nat.le_refl _⟩, .inl (by rw [hn]; exact ⟨rfl, rfl, rfl⟩)⟩
      · exact ⟨jt1, .inr ⟨hn, rfl⟩, .inr ⟨gS_pos (List.length_pos_iff.2 hn), hs1.ht hn⟩⟩
    obtain ⟨Hk, hk1, hk2, hap⟩ := grow (P := Tryd.prog) (y := 24) hv (prC_len _) (by decide) (by omega) (by omega)
    have hkfin := fun X => Rto.behind (Rto.took (X := X) hs1 hf1 hj1 hj2 ip hig hk1 hk2)
    have hni : i ≠ ig := by
      rcases hig with ⟨_, h⟩ | ⟨hn, rfl⟩
      · omega
      · exact hs1.njt hn
    have hki : Hk[i]? = _ := (hk2 i hni).trans hi1
    have hkl : i < Hk.length := lt_of_get hki
    have hp0 := hok.per0
    have hpz : ¬ R.per = 0 := by omega
    have hn0 := hok.now0
    obtain ⟨q0, q1⟩ := per_q (t := t) (p := R.per) (by omega) (by omega) hp0
    have hq : t.tdiv R.per = t / R.per := Int.tdiv_eq_ediv_of_nonneg (by omega)
    have hwq : IntKind.i64.wrap (t / R.per) = t / R.per := wi64 (by omega)
    unfold rkC Rk.tell at hi1 hki
    simp only at hi1 hki
    unfold rkC Rk.took Rk.tell at hkfin
    simp only [List.length_append, List.length_singleton, List.append_assoc, List.cons_append, List.nil_append, gS_succ] at hkfin
    have hfin := hkfin [AObj.cells [.int .i64 (t / R.per), .string (bs ip)] ⟨114, 0, true, 0, none⟩]
    simp only [List.length_singleton, List.cons_append, List.nil_append] at hfin
    generalize prC R.taken = pt at *
    generalize gS jt1 R.taken.length = gt at *
    repeat first
      | with_reducible refine AWP.seqJ (x := .block 0 _) ⟨[(0, .pointer (some ⟨i, 0, none⟩)), (6, .pointer (some ⟨H.length, 0, none⟩)), (11, .int .i64 0)], [], H1⟩ ?_ ?_
      | with_reducible refine AWP.seq ?_
      | ((with_reducible refine AWP.region ?_ ?_); exact rfl)
      | with_reducible refine AWP.block ?_
      | with_reducible refine AWP.skip ?_
      | with_reducible refine AWP.exit ?_
      | with_reducible refine AWP.ret ?_
      | with_reducible refine AWP.label ?_
      | with_reducible refine AWP.goto ?_
      | ((with_reducible refine AWP.condT ?_ ?_); focus (simp only [ev, lk_cons, ↓reduceIte, Nat.reduceEqDiff]; done))
      | ((with_reducible refine AWP.condF ?_ ?_); focus (simp only [ev, lk_cons, ↓reduceIte, Nat.reduceEqDiff]; done))
      | with_reducible refine (hU _ _ _ hs1).use ?_
      | simp only [go_sem, ↓reduceIte, Nat.reduceEqDiff, reduceCtorEq, Nat.reduceAdd, Int.reduceEq, Int.reduceBNe, Int.reduceBEq, Int.reduceToNat, Int.reduceLT, Int.reduceLE, Int.reduceGT, Int.reduceGE, Nat.reduceSub, Nat.reduceBEq, Nat.reduceBNe, Int.reduceAdd, Int.reduceSub, Int.reduceMul, Int.reduceNeg, Nat.reduceMul, Nat.reduceLeDiff, Nat.reduceLT, hbox, hi1, hu]
      | simp (disch := omega) only [wi64, wu8, wu16, wu32, wu64, Int.tdiv_eq_ediv_of_nonneg, Int.tmod_eq_emod_of_nonneg]
      | with_reducible_and_instances exact finR
      | ((with_reducible refine finR' ?_ ?_) <;> rfl)
      | ((with_reducible refine finD hsc (NRel.of_plain ?_)); exact rfl)
    · refine AWP.regionK 17 (by kernel_rfl) (by decide) (by kernel_rfl) ?_
      by_cases hm : R.most > 0
      · have hc : ¬ (cn : Int) ≥ R.most := fun h => hcc ⟨hm, h⟩
        repeat first
          | with_reducible refine AWP.seq ?_
          | ((with_reducible refine AWP.region ?_ ?_); exact rfl)
          | with_reducible refine AWP.block ?_
          | with_reducible refine AWP.skip ?_
          | with_reducible refine AWP.exit ?_
          | with_reducible refine AWP.ret ?_
          | with_reducible refine AWP.label ?_
          | with_reducible refine AWP.goto ?_
          | ((with_reducible refine AWP.condT ?_ ?_); focus (simp only [ev, lk_cons, ↓reduceIte, Nat.reduceEqDiff]; done))
          | ((with_reducible refine AWP.condF ?_ ?_); focus (simp only [ev, lk_cons, ↓reduceIte, Nat.reduceEqDiff]; done))
          | simp only [go_sem, ↓reduceIte, Nat.reduceEqDiff, reduceCtorEq, Nat.reduceAdd, Int.reduceEq, Int.reduceBNe, Int.reduceBEq, Int.reduceToNat, Int.reduceLT, Int.reduceLE, Int.reduceGT, Int.reduceGE, Nat.reduceSub, Nat.reduceBEq, Nat.reduceBNe, Int.reduceAdd, Int.reduceSub, Int.reduceMul, Int.reduceNeg, Nat.reduceMul, Nat.reduceLeDiff, Nat.reduceLT, hbox, hi1, hu, hm, exists_eq_left]
          | simp (disch := omega) only [wi64, wu8, wu16, wu32, wu64, Int.tdiv_eq_ediv_of_nonneg, Int.tmod_eq_emod_of_nonneg]
          | with_reducible_and_instances exact finR
          | ((with_reducible refine finR' ?_ ?_) <;> rfl)
          | ((with_reducible refine finD hsc (NRel.of_plain ?_)); exact rfl)
        refine ARet.exq (hC _ _ _ hs1) (by simp only [go_sem, ↓reduceIte, Nat.reduceEqDiff, reduceCtorEq, Nat.reduceAdd, Int.reduceEq, Int.reduceBNe, Int.reduceBEq, Int.reduceToNat, Int.reduceLT, Int.reduceLE, Int.reduceGT, Int.reduceGE, Nat.reduceSub, Nat.reduceBEq, Nat.reduceBNe, Int.reduceAdd, Int.reduceSub, Int.reduceMul, Int.reduceNeg, Nat.reduceMul, Nat.reduceLeDiff, Nat.reduceLT]) ?_
        repeat first
          | with_reducible refine AWP.seq ?_
          | ((with_reducible refine AWP.region ?_ ?_); exact rfl)
          | with_reducible refine AWP.block ?_
          | with_reducible refine AWP.skip ?_
          | with_reducible refine AWP.exit ?_
          | with_reducible refine AWP.ret ?_
          | with_reducible refine AWP.label ?_
          | with_reducible refine AWP.goto ?_
          | ((with_reducible refine AWP.condT ?_ ?_); focus (simp only [ev, lk_cons, ↓reduceIte, Nat.reduceEqDiff]; done))
          | ((with_reducible refine AWP.condF ?_ ?_); focus (simp only [ev, lk_cons, ↓reduceIte, Nat.reduceEqDiff]; done))
          | simp only [go_sem, ↓reduceIte, Nat.reduceEqDiff, reduceCtorEq, Nat.reduceAdd, Int.reduceEq, Int.reduceBNe, Int.reduceBEq, Int.reduceToNat, Int.reduceLT, Int.reduceLE, Int.reduceGT, Int.reduceGE, Nat.reduceSub, Nat.reduceBEq, Nat.reduceBNe, Int.reduceAdd, Int.reduceSub, Int.reduceMul, Int.reduceNeg, Nat.reduceMul, Nat.reduceLeDiff, Nat.reduceLT, hbox, hi1, hu, hm, hc, exists_eq_left]
          | simp (disch := omega) only [wi64, wu8, wu16, wu32, wu64, Int.tdiv_eq_ediv_of_nonneg, Int.tmod_eq_emod_of_nonneg]
          | with_reducible_and_instances exact finR
          | ((with_reducible refine finR' ?_ ?_) <;> rfl)
          | ((with_reducible refine finD hsc (NRel.of_plain ?_)); exact rfl)
        exact Weak.env (by simp [envIn, lk_cons, wth_some])
      · skip
        repeat first
          | with_reducible refine AWP.seq ?_
          | ((with_reducible refine AWP.region ?_ ?_); exact rfl)
          | with_reducible refine AWP.block ?_
          | with_reducible refine AWP.skip ?_
          | with_reducible refine AWP.exit ?_
          | with_reducible refine AWP.ret ?_
          | with_reducible refine AWP.label ?_
          | with_reducible refine AWP.goto ?_
          | ((with_reducible refine AWP.condT ?_ ?_); focus (simp only [ev, lk_cons, ↓reduceIte, Nat.reduceEqDiff]; done))
          | ((with_reducible refine AWP.condF ?_ ?_); focus (simp only [ev, lk_cons, ↓reduceIte, Nat.reduceEqDiff]; done))
          | simp only [go_sem, ↓reduceIte, Nat.reduceEqDiff, reduceCtorEq, Nat.reduceAdd, Int.reduceEq, Int.reduceBNe, Int.reduceBEq, Int.reduceToNat, Int.reduceLT, Int.reduceLE, Int.reduceGT, Int.reduceGE, Nat.reduceSub, Nat.reduceBEq, Nat.reduceBNe, Int.reduceAdd, Int.reduceSub, Int.reduceMul, Int.reduceNeg, Nat.reduceMul, Nat.reduceLeDiff, Nat.reduceLT, hbox, hi1, hu, hm, exists_eq_left]
          | simp (disch := omega) only [wi64, wu8, wu16, wu32, wu64, Int.tdiv_eq_ediv_of_nonneg, Int.tmod_eq_emod_of_nonneg]
          | with_reducible_and_instances exact finR
          | ((with_reducible refine finR' ?_ ?_) <;> rfl)
          | ((with_reducible refine finD hsc (NRel.of_plain ?_)); exact rfl)
        exact Weak.env (by simp [envIn, lk_cons, wth_some])
    repeat first
      | with_reducible refine AWP.seq ?_
      | ((with_reducible refine AWP.region ?_ ?_); exact rfl)
      | with_reducible refine AWP.block ?_
      | with_reducible refine AWP.skip ?_
      | with_reducible refine AWP.exit ?_
      | with_reducible refine AWP.ret ?_
      | with_reducible refine AWP.label ?_
      | with_reducible refine AWP.goto ?_
      | ((with_reducible refine AWP.condT ?_ ?_); focus (simp only [ev, lk_cons, ↓reduceIte, Nat.reduceEqDiff]; done))
      | ((with_reducible refine AWP.condF ?_ ?_); focus (simp only [ev, lk_cons, ↓reduceIte, Nat.reduceEqDiff]; done))
      | simp only [go_sem, ↓reduceIte, Nat.reduceEqDiff, reduceCtorEq, Nat.reduceAdd, Int.reduceEq, Int.reduceBNe, Int.reduceBEq, Int.reduceToNat, Int.reduceLT, Int.reduceLE, Int.reduceGT, Int.reduceGE, Nat.reduceSub, Nat.reduceBEq, Nat.reduceBNe, Int.reduceAdd, Int.reduceSub, Int.reduceMul, Int.reduceNeg, Nat.reduceMul, Nat.reduceLeDiff, Nat.reduceLT]
      | simp (disch := omega) only [wi64, wu8, wu16, wu32, wu64, Int.tdiv_eq_ediv_of_nonneg, Int.tmod_eq_emod_of_nonneg]
      | with_reducible_and_instances exact finR
      | ((with_reducible refine finR' ?_ ?_) <;> rfl)
      | ((with_reducible refine finD hsc (NRel.of_plain ?_)); exact rfl)
    refine AWP.regionM 19 [4, 8, 12, 15, 17, 18] [(8, .int .i64 t), (12, .int .i64 R.per), (15, .string (bs ip))] (.both (.step 4 (.both (.step 8 (.both (.run [12, 15, 17, 18]) (.run [15, 12, 17, 18]))) (.both (.step 12 (.both (.run [8, 15, 17, 18]) (.run [15, 8, 17, 18]))) (.step 15 (.both (.run [8, 12, 17, 18]) (.run [12, 8, 17, 18])))))) (.both (.step 8 (.both (.step 4 (.both (.run [12, 15, 17, 18]) (.run [15, 12, 17, 18]))) (.both (.step 12 (.both (.run [4, 15, 17, 18]) (.step 15 (.both (.run [4, 17, 18]) (.run [17, 4, 18]))))) (.step 15 (.both (.run [4, 12, 17, 18]) (.step 12 (.both (.run [4, 17, 18]) (.run [17, 4, 18])))))))) (.both (.step 12 (.both (.step 4 (.both (.run [8, 15, 17, 18]) (.run [15, 8, 17, 18]))) (.both (.step 8 (.both (.run [4, 15, 17, 18]) (.step 15 (.both (.run [4, 17, 18]) (.run [17, 4, 18]))))) (.step 15 (.both (.run [4, 8, 17, 18]) (.step 8 (.both (.run [4, 17, 18]) (.run [17, 4, 18])))))))) (.step 15 (.both (.step 4 (.both (.run [8, 12, 17, 18]) (.run [12, 8, 17, 18]))) (.both (.step 8 (.both (.run [4, 12, 17, 18]) (.step 12 (.both (.run [4, 17, 18]) (.run [17, 4, 18]))))) (.step 12 (.both (.run [4, 8, 17, 18]) (.step 8 (.both (.run [4, 17, 18]) (.run [17, 4, 18]))))))))))) (by kernel_rfl) (by decide) (by kernel_rfl) (by kernel_rfl) (by kernel_rfl) ?_
    repeat' first
      | with_reducible refine canW_n ?_
      | with_reducible refine canW_m (by decide) ?_
      | ((with_reducible apply canW_p (by decide)); focus (intro H; (simp only [go_sem, ↓reduceIte, Nat.reduceEqDiff, reduceCtorEq, Nat.reduceAdd, Int.reduceEq, Int.reduceBNe, Int.reduceBEq, Int.reduceToNat, Int.reduceLT, Int.reduceLE, Int.reduceGT, Int.reduceGE, Nat.reduceSub, Nat.reduceBEq, Nat.reduceBNe, Int.reduceAdd, Int.reduceSub, Int.reduceMul, Int.reduceNeg, Nat.reduceMul, Nat.reduceLeDiff, Nat.reduceLT, hbox, hbl, hgetl, hi1, hil1, hpz, hq, hwq, hki, hkl, List.map_cons, List.map_nil]); exact rfl))
      | with_reducible refine memW_b ?_ ?_
      | with_reducible refine memW_s rfl ?_
      | with_reducible refine memW_r rfl ?_
      | with_reducible refine memW_e ?_
      | simp only [List.take_succ_cons, List.take_zero, List.drop_succ_cons, List.drop_zero]
      | omega
      | with_reducible refine And.intro ?_ ?_
      | with_reducible refine hap _ _ _ rfl ?_
      | with_reducible refine AWP.seq ?_
      | ((with_reducible refine AWP.region ?_ ?_); exact rfl)
      | with_reducible refine AWP.block ?_
      | with_reducible refine AWP.skip ?_
      | with_reducible refine AWP.exit ?_
      | with_reducible refine AWP.ret ?_
      | with_reducible refine AWP.label ?_
      | with_reducible refine AWP.goto ?_
      | ((with_reducible refine AWP.condT ?_ ?_); focus (simp only [ev, lk_cons, ↓reduceIte, Nat.reduceEqDiff]; done))
      | ((with_reducible refine AWP.condF ?_ ?_); focus (simp only [ev, lk_cons, ↓reduceIte, Nat.reduceEqDiff]; done))
      | simp only [go_sem, ↓reduceIte, Nat.reduceEqDiff, reduceCtorEq, Nat.reduceAdd, Int.reduceEq, Int.reduceBNe, Int.reduceBEq, Int.reduceToNat, Int.reduceLT, Int.reduceLE, Int.reduceGT, Int.reduceGE, Nat.reduceSub, Nat.reduceBEq, Nat.reduceBNe, Int.reduceAdd, Int.reduceSub, Int.reduceMul, Int.reduceNeg, Nat.reduceMul, Nat.reduceLeDiff, Nat.reduceLT, hbox, hbl, hgetl, hi1, hil1, hpz, hq, hwq, hki, hkl, List.map_cons, List.map_nil]
      | simp (disch := omega) only [wi64, wu8, wu16, wu32, wu64, Int.tdiv_eq_ediv_of_nonneg, Int.tmod_eq_emod_of_nonneg]
      | with_reducible_and_instances exact finR
      | ((with_reducible refine finR' ?_ ?_) <;> rfl)
      | ((with_reducible refine finD hsc (NRel.of_plain ?_)); exact rfl)
    all_goals exact ⟨_, _, .refl _ _ _, rfl, hfin⟩
  · have hkk : R.ask t a = R := if_neg he
    have hE : rTakeE R t a tok = rAskE R t a := if_neg he
    rw [hkk] at hA
    rw [hE, if_neg he]
    have heq : (rAskE R t a != 0) = true := bne_iff_ne.2 he
    generalize rAskE R t a = e at *
    obtain ⟨f, ip, p⟩ := a
    unfold Ad.v at *
    simp only at hA ⊢
    refine AC.enter Tryd.func52 rfl (by kernel_rfl) 76 rfl [.tmp 8] rfl (by simp) fun hsc B => ?_
    repeat first
      | with_reducible refine AWP.seq ?_
      | ((with_reducible refine AWP.region ?_ ?_); exact rfl)
      | with_reducible refine AWP.block ?_
      | with_reducible refine AWP.skip ?_
      | with_reducible refine AWP.exit ?_
      | with_reducible refine AWP.ret ?_
      | with_reducible refine AWP.label ?_
      | with_reducible refine AWP.goto ?_
      | ((with_reducible refine AWP.condT ?_ ?_); focus (simp only [ev, lk_cons, ↓reduceIte, Nat.reduceEqDiff]; done))
      | ((with_reducible refine AWP.condF ?_ ?_); focus (simp only [ev, lk_cons, ↓reduceIte, Nat.reduceEqDiff]; done))
      | simp only [go_sem, ↓reduceIte, Nat.reduceEqDiff, reduceCtorEq, Nat.reduceAdd, Int.reduceEq, Int.reduceBNe, Int.reduceBEq, Int.reduceToNat, Int.reduceLT, Int.reduceLE, Int.reduceGT, Int.reduceGE, Nat.reduceSub, Nat.reduceBEq, Nat.reduceBNe, Int.reduceAdd, Int.reduceSub, Int.reduceMul, Int.reduceNeg, Nat.reduceMul, Nat.reduceLeDiff, Nat.reduceLT, hi, hil, hgetl]
      | simp (disch := omega) only [wi64, wu8, wu16, wu32, wu64, Int.tdiv_eq_ediv_of_nonneg, Int.tmod_eq_emod_of_nonneg]
      | with_reducible_and_instances exact finR
      | ((with_reducible refine finR' ?_ ?_) <;> rfl)
      | ((with_reducible refine finD hsc (NRel.of_plain ?_)); exact rfl)
    refine hA.use fun H1 hk => ?_
    repeat first
      | with_reducible refine AWP.seq ?_
      | ((with_reducible refine AWP.region ?_ ?_); exact rfl)
      | with_reducible refine AWP.block ?_
      | with_reducible refine AWP.skip ?_
      | with_reducible refine AWP.exit ?_
      | with_reducible refine AWP.ret ?_
      | with_reducible refine AWP.label ?_
      | with_reducible refine AWP.goto ?_
      | ((with_reducible refine AWP.condT ?_ ?_); focus (simp only [ev, lk_cons, ↓reduceIte, Nat.reduceEqDiff]; done))
      | ((with_reducible refine AWP.condF ?_ ?_); focus (simp only [ev, lk_cons, ↓reduceIte, Nat.reduceEqDiff]; done))
      | simp only [go_sem, ↓reduceIte, Nat.reduceEqDiff, reduceCtorEq, Nat.reduceAdd, Int.reduceEq, Int.reduceBNe, Int.reduceBEq, Int.reduceToNat, Int.reduceLT, Int.reduceLE, Int.reduceGT, Int.reduceGE, Nat.reduceSub, Nat.reduceBEq, Nat.reduceBNe, Int.reduceAdd, Int.reduceSub, Int.reduceMul, Int.reduceNeg, Nat.reduceMul, Nat.reduceLeDiff, Nat.reduceLT, heq]
      | simp (disch := omega) only [wi64, wu8, wu16, wu32, wu64, Int.tdiv_eq_ediv_of_nonneg, Int.tmod_eq_emod_of_nonneg]
      | with_reducible_and_instances exact finR
      | ((with_reducible refine finR' ?_ ?_) <;> rfl)
      | ((with_reducible refine finD hsc (NRel.of_plain ?_)); exact rfl)
    exact ⟨_, _, .refl _ _ _, rfl, hk.behind⟩
def rChE (R : Rk) (t : Int) (seed : List UInt8) : Int := if (seed.length : Int) > 100 then 1 else timeE R.now t
def Rk.change (R : Rk) (t : Int) (seed : List UInt8) : Rk := if rChE R t seed = 0 then { R with now := t, seeds := R.seeds ++ [(t, seed)] } else R
theorem Rst.changed {H1 Hk X : AHeap} {i js jt : Nat} {R : Rk} (h : Rst H1 i js jt R) (t : Int) (seed : List UInt8) (h1 : Hk.length = H1.length) (h2 : ∀ j, j ≠ js → Hk[j]? = H1[j]?) :
    Rst ((Hk ++ (X ++ [AObj.cells (prC R.seeds ++ [.int .i64 t, .string (bs seed)]) ⟨102, 2, true, 0, none⟩])).set i (rkC { R with seeds := R.seeds ++ [(t, seed)] } (H1.length + X.length) jt)) i (H1.length + X.length) jt { R with seeds := R.seeds ++ [(t, seed)] } := by
  have hil := lt_of_get h.at_
  obtain ⟨z, hz, hs⟩ := h.hs
  have hjl := lt_of_get hs
  have hjt := h.jl
  refine ⟨hset_self (by simp [h1]; omega), ⟨2, .inr rfl, ?_⟩, fun hn => ?_, by simp, ?_, ?_⟩
  · rw [hset_ne (by omega), ← h1, ← List.append_assoc, hget0 (by rw [List.length_append])]
    rw [prC_append]; rfl
  · obtain ⟨z, hz, ht⟩ := h.ht hn
    refine ⟨z, hz, ?_⟩
    rw [hset_ne (h.njt hn), hgetl (by rw [h1]; exact hjt), h2 _ (h.nst hn).symm]
    exact ht
  · obtain ⟨e, ht⟩ := h.tab
    have htl := lt_of_get ht
    have hti : i ≠ Tryd.laysItoa_ren.g 17 := fun e2 => h.tabNe e i (by simp) (by rw [e2]; exact ht)
    have htj : Tryd.laysItoa_ren.g 17 ≠ js := fun e2 => h.tabNe e js (by simp) (by rw [← e2]; exact ht)
    refine ⟨e, ?_⟩
    rw [hset_ne hti, hgetl (by rw [h1]; exact htl), h2 _ htj]
    exact ht
  · rw [List.length_set]; simp [h1]; omega
theorem rChange (R : Rk) (hok : R.ok) (hsl : R.seeds.length < 1000) (i js jt : Nat) (t : Int) (seed : List UInt8) (H : AHeap) (h : Rst H i js jt R) :
    ARex Tryd.prog 54 [.pointer (some ⟨i, 0, none⟩), .int .i64 t, .string (bs seed)] H (.int .i64 (rChE R t seed)) (Rto H i js jt (R.change t seed)) := by
  unfold Rk.change
  by_cases hs : (seed.length : Int) > 100
  · have e : rChE R t seed = 1 := if_pos hs
    rw [e, if_neg (by decide)]
    refine ARet.rex (H' := H) ?_ (Rto.refl h)
    refine AC.enter Tryd.func54 rfl (by kernel_rfl) 33 rfl [.tmp 6] rfl (by simp) fun hsc B => ?_
    repeat first
      | with_reducible refine AWP.seq ?_
      | ((with_reducible refine AWP.region ?_ ?_); exact rfl)
      | with_reducible refine AWP.block ?_
      | with_reducible refine AWP.skip ?_
      | with_reducible refine AWP.exit ?_
      | with_reducible refine AWP.ret ?_
      | with_reducible refine AWP.label ?_
      | with_reducible refine AWP.goto ?_
      | ((with_reducible refine AWP.condT ?_ ?_); focus (simp only [ev, lk_cons, ↓reduceIte, Nat.reduceEqDiff]; done))
      | ((with_reducible refine AWP.condF ?_ ?_); focus (simp only [ev, lk_cons, ↓reduceIte, Nat.reduceEqDiff]; done))
      | simp only [go_sem, ↓reduceIte, Nat.reduceEqDiff, reduceCtorEq, Nat.reduceAdd, Int.reduceEq, Int.reduceBNe, Int.reduceBEq, Int.reduceToNat, Int.reduceLT, Int.reduceLE, Int.reduceGT, Int.reduceGE, Nat.reduceSub, Nat.reduceBEq, Nat.reduceBNe, Int.reduceAdd, Int.reduceSub, Int.reduceMul, Int.reduceNeg, Nat.reduceMul, Nat.reduceLeDiff, Nat.reduceLT, hs]
      | simp (disch := omega) only [wi64, wu8, wu16, wu32, wu64, Int.tdiv_eq_ediv_of_nonneg, Int.tmod_eq_emod_of_nonneg]
      | with_reducible_and_instances exact finR
      | ((with_reducible refine finR' ?_ ?_) <;> rfl)
      | ((with_reducible refine finD hsc (NRel.of_plain ?_)); exact rfl)
  by_cases ht : t < R.now ∨ t > 1000000000
  · have e : rChE R t seed = 7 := by unfold rChE timeE; rw [if_neg hs, if_pos ht]
    rw [e, if_neg (by decide)]
    have hT := rTimeNo R i js jt t H h ht
    refine ARet.rex (H' := H) ?_ (Rto.refl h)
    refine AC.enter Tryd.func54 rfl (by kernel_rfl) 33 rfl [.tmp 6] rfl (by simp) fun hsc B => ?_
    repeat first
      | with_reducible refine AWP.seq ?_
      | ((with_reducible refine AWP.region ?_ ?_); exact rfl)
      | with_reducible refine AWP.block ?_
      | with_reducible refine AWP.skip ?_
      | with_reducible refine AWP.exit ?_
      | with_reducible refine AWP.ret ?_
      | with_reducible refine AWP.label ?_
      | with_reducible refine AWP.goto ?_
      | ((with_reducible refine AWP.condT ?_ ?_); focus (simp only [ev, lk_cons, ↓reduceIte, Nat.reduceEqDiff]; done))
      | ((with_reducible refine AWP.condF ?_ ?_); focus (simp only [ev, lk_cons, ↓reduceIte, Nat.reduceEqDiff]; done))
      | with_reducible refine hT.use ?_
      | simp only [go_sem, ↓reduceIte, Nat.reduceEqDiff, reduceCtorEq, Nat.reduceAdd, Int.reduceEq, Int.reduceBNe, Int.reduceBEq, Int.reduceToNat, Int.reduceLT, Int.reduceLE, Int.reduceGT, Int.reduceGE, Nat.reduceSub, Nat.reduceBEq, Nat.reduceBNe, Int.reduceAdd, Int.reduceSub, Int.reduceMul, Int.reduceNeg, Nat.reduceMul, Nat.reduceLeDiff, Nat.reduceLT, hs]
      | simp (disch := omega) only [wi64, wu8, wu16, wu32, wu64, Int.tdiv_eq_ediv_of_nonneg, Int.tmod_eq_emod_of_nonneg]
      | with_reducible_and_instances exact finR
      | ((with_reducible refine finR' ?_ ?_) <;> rfl)
      | ((with_reducible refine finD hsc (NRel.of_plain ?_)); exact rfl)
  have e : rChE R t seed = 0 := by unfold rChE timeE; rw [if_neg hs, if_neg ht]
  rw [e, if_pos rfl]
  have hT := rTime R i js jt t H h ht
  have hs1 := h.later t
  have hf1 : Frm [i, js, jt] H (H.set i (rkC { R with now := t } js jt)) := (Frm.refl _ _).set (.inl (by simp))
  have hLl : (H.set i (rkC { R with now := t } js jt)).length = H.length := List.length_set
  generalize H.set i (rkC { R with now := t } js jt) = H1 at *
  obtain ⟨z, hz, hsj⟩ := hs1.hs
  obtain ⟨Hk, hk1, hk2, hap⟩ := grow (P := Tryd.prog) (y := 24) (v := .slice (some ⟨js, 0, none⟩) R.seeds.length R.seeds.length) (.inr ⟨rfl, z, hz, hsj⟩) (prC_len _) (by decide) (by omega) (by omega)
  have hi1 := hs1.at_
  have hni := hs1.njs
  have hki : Hk[i]? = _ := (hk2 i hni).trans hi1
  have hkl : i < Hk.length := lt_of_get hki
  have hfin : Rto H i js jt { R with now := t, seeds := R.seeds ++ [(t, seed)] } ((Hk ++ ([AObj.cells [.int .i64 t, .string (bs seed)] ⟨102, 0, true, 0, none⟩] ++ [AObj.cells (prC R.seeds ++ [.int .i64 t, .string (bs seed)]) ⟨102, 2, true, 0, none⟩])).set i (rkC { R with now := t, seeds := R.seeds ++ [(t, seed)] } (H1.length + 1) jt)) := by
    refine ⟨H1.length + 1, jt, hs1.changed t seed hk1 hk2, ?_, .inr (by omega), .inl rfl⟩
    refine Frm.set (Go.Aw.Frm.more ⟨by omega, fun j hj hn => ?_⟩) (.inl (by simp))
    rw [hk2 j (fun e => hn (by simp [e])), hf1.2 j hj hn]
  unfold rkC at hfin hi1 hki
  simp only [List.length_append, List.length_singleton, List.cons_append, List.nil_append] at hfin hi1 hki
  generalize prC R.seeds = pt at *
  generalize gS jt R.taken.length = gt at *
  refine AC.enter Tryd.func54 rfl (by kernel_rfl) 33 rfl [.tmp 6] rfl (by simp) fun hsc B => ?_
  repeat' first
    | omega
    | with_reducible refine And.intro ?_ ?_
    | with_reducible refine hap _ _ _ rfl ?_
    | with_reducible refine AWP.seq ?_
    | ((with_reducible refine AWP.region ?_ ?_); exact rfl)
    | with_reducible refine AWP.block ?_
    | with_reducible refine AWP.skip ?_
    | with_reducible refine AWP.exit ?_
    | with_reducible refine AWP.ret ?_
    | with_reducible refine AWP.label ?_
    | with_reducible refine AWP.goto ?_
    | ((with_reducible refine AWP.condT ?_ ?_); focus (simp only [ev, lk_cons, ↓reduceIte, Nat.reduceEqDiff]; done))
    | ((with_reducible refine AWP.condF ?_ ?_); focus (simp only [ev, lk_cons, ↓reduceIte, Nat.reduceEqDiff]; done))
    | with_reducible refine hT.use ?_
    | simp only [go_sem, ↓reduceIte, Nat.reduceEqDiff, reduceCtorEq, Nat.reduceAdd, Int.reduceEq, Int.reduceBNe, Int.reduceBEq, Int.reduceToNat, Int.reduceLT, Int.reduceLE, Int.reduceGT, Int.reduceGE, Nat.reduceSub, Nat.reduceBEq, Nat.reduceBNe, Int.reduceAdd, Int.reduceSub, Int.reduceMul, Int.reduceNeg, Nat.reduceMul, Nat.reduceLeDiff, Nat.reduceLT, hs, hi1, hki, hkl, hgetl]
    | simp (disch := omega) only [wi64, wu8, wu16, wu32, wu64, Int.tdiv_eq_ediv_of_nonneg, Int.tmod_eq_emod_of_nonneg]
    | with_reducible_and_instances exact finR
    | ((with_reducible refine finR' ?_ ?_) <;> rfl)
    | ((with_reducible refine finD hsc (NRel.of_plain ?_)); exact rfl)
  exact ⟨_, _, .refl _ _ _, rfl, hfin⟩
end Go.Proofs.YtmpkgdilmkeacaaDoor
