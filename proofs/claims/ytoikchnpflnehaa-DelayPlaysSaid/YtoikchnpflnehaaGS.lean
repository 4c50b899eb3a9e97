/-
  The specification's control: the bases of its minutes, its queueing delay.
-/
import Derived.Test.YtoikchnpflnehaaGR
set_option linter.unusedVariables false
set_option linter.unusedSimpArgs false
set_option maxRecDepth 20000
set_option maxHeartbeats 4000000
namespace Go.Proofs.Ytoikchnpflnehaa
open Go Go.Aw Go.Proofs
theorem all_get {H : AHeap} {all : List (Int × Int)} {av : Value} {S : List Nat} (h : OwnL H 98 2 all.length (pastC all) av S) {n : Nat} (hn : n < all.length) :
    ∃ i o cs, av = .slice (some ⟨i, o, none⟩) all.length all.length ∧ H[i]? = some (.cells cs ⟨98, 2, true, 0, none⟩) ∧ (cs.drop (o + n * 2)).take 2 = [.int .i64 all[n].1, .int .i64 all[n].2] ∧ o + (n * 2 + 2) ≤ cs.length ∧ cs[o + n * 2]? = some (.int .i64 all[n].1) ∧ cs.length = o + all.length * 2 ∧ cs.drop o = pastC all := by
  rcases h with ⟨h1, _⟩ | ⟨i, o, cs, rfl, hi, hcl, hd, rfl⟩
  · omega
  have hg := pastC_get all hn
  have h4 : o + (n * 2 + 2) ≤ cs.length := by omega
  refine ⟨i, o, cs, rfl, hi, ?_, h4, ?_, hcl, hd⟩
  · rw [← List.drop_drop, hd]
    have h3 : n * 2 + 1 < (pastC all).length := by rw [pastC_length]; omega
    have e1 := hg.1
    have e2 := hg.2
    rw [List.getElem?_eq_getElem (by omega)] at e1 e2
    rw [List.drop_eq_getElem_cons (by omega), List.drop_eq_getElem_cons h3]
    simp only [Option.some.injEq] at e1 e2
    rw [e1, e2]; rfl
  · rw [← List.getElem?_drop, hd]; exact hg.1
theorem frm_own {H H1 H2 : AHeap} {S : List Nat} (h : Frm [] H H1) (k : Frm S H1 H2) (hs : ∀ s ∈ S, H.length ≤ s) : Frm [] H H2 := h.trans k fun s hm => .inr (hs s hm)
theorem frm_app' {S : List Nat} {H H' X : AHeap} (hl : H'.length = H.length) (h : ∀ j, j ∉ S → H'[j]? = H[j]?) : Frm S H (H' ++ X) :=
  Frm.more ⟨by omega, fun j _ hn => h j hn⟩
theorem RAt.grown {H H2 : AHeap} {c : Nat} {R : RCtl} {av : Value} {S : List Nat} (h : RAt H c R av S) (hf : Frm [] H H2) : RAt H2 c R av S := h.frm hf (by simp) (by simp)
theorem atMin_take (all : List (Int × Int)) (m : Int) (n : Nat) (h : n < all.length) : atMin (all.take (n + 1)) m = atMin (all.take n) m ++ if all[n].1 / 60000 = m then [all[n].2] else [] := by
  have e : all.take (n + 1) = all.take n ++ [(all[n].1, all[n].2)] := by rw [List.take_add_one, List.getElem?_eq_getElem h]; rfl
  rw [e, atMin_snoc]
theorem atMin_len (all : List (Int × Int)) (m : Int) : (atMin all m).length ≤ all.length := by
  unfold atMin; rw [List.length_map]; exact List.length_filter_le ..
theorem basesP_succ (all : List (Int × Int)) (last : Int) (k : Nat) : basesP all last (k + 1) = basesP all last k ++ if atMin all (last - 9 + k) = [] then [] else [(last - 9 + k, leastL (atMin all (last - 9 + k)))] := by
  unfold basesP
  rw [List.range_succ, List.filterMap_append]
  congr 1
  unfold baseAt
  split <;> simp [*]
theorem basesP_len (all : List (Int × Int)) (last : Int) (k : Nat) : (basesP all last k).length ≤ k := by
  unfold basesP
  have := List.length_filterMap_le (fun j : Nat => baseAt all (last - 9 + (j : Int))) (List.range k)
  rw [List.length_range] at this
  exact this
def basesR (R : RCtl) : List Int := (pastP R.all).map (·.2)
theorem rBases (c : Nat) (R : RCtl) (av : Value) (S : List Nat) (hal : R.all.length < 1099511627776) (hb : ∀ s ∈ R.all, 0 ≤ s.1 ∧ s.1 ≤ 1000000000) (H : AHeap) (hR : RAt H c R av S) : AC Try.prog 64 [.pointer (some ⟨c, 0, none⟩)] H (MadeL H (basesR R)) := by
  have hc := hR.at_
  simp only [rcO, rctlC] at hc
  have hcl := lt_of_get hc
  have q1 : ∀ H' K, lenW Try.prog 81 av H' K = K (.int .i64 (R.all.length : Nat)) H' := fun H' K => by
    rcases hR.all with ⟨h1, _, h3, _⟩ | ⟨i2, o, cs, h1, _⟩
    · rw [h1, h3]; simp only [go_sem, ↓reduceIte, Nat.reduceEqDiff, reduceCtorEq, Nat.reduceAdd, Int.reduceEq, Int.reduceBNe, Int.reduceBEq, Int.reduceToNat, Int.reduceLT, Int.reduceLE, Int.reduceGT, Int.reduceGE, Nat.reduceSub, Nat.reduceBEq, Nat.reduceBNe, Int.reduceAdd, Int.reduceSub, Int.reduceMul, Int.reduceNeg, Nat.reduceMul, Nat.reduceLeDiff, Nat.reduceLT]
    · rw [h1]; simp only [go_sem, ↓reduceIte, Nat.reduceEqDiff, reduceCtorEq, Nat.reduceAdd, Int.reduceEq, Int.reduceBNe, Int.reduceBEq, Int.reduceToNat, Int.reduceLT, Int.reduceLE, Int.reduceGT, Int.reduceGE, Nat.reduceSub, Nat.reduceBEq, Nat.reduceBNe, Int.reduceAdd, Int.reduceSub, Int.reduceMul, Int.reduceNeg, Nat.reduceMul, Nat.reduceLeDiff, Nat.reduceLT]
  by_cases hz : R.all = []
  · have hz' : ((R.all.length : Int) == 0) = true := by rw [hz]; rfl
    have hB : basesR R = [] := by unfold basesR pastP; rw [if_pos hz]; rfl
    rw [hB]
    refine AC.enter Try.func64 rfl (by kernel_rfl) 70 rfl [.tmp 2] rfl (by simp) fun hsc B => ?_
    repeat first
      | with_reducible refine AWP.seq ?_
      | ((with_reducible refine AWP.region ?_ ?_); exact rfl)
      | with_reducible refine AWP.block ?_
      | with_reducible refine AWP.skip ?_
      | with_reducible refine AWP.exit ?_
      | with_reducible refine AWP.ret ?_
      | with_reducible refine AWP.label ?_
      | with_reducible refine AWP.goto ?_
      | ((with_reducible refine AWP.condT ?_ ?_); focus (simp only [ev, lk_cons, ↓reduceIte, Nat.reduceEqDiff]; done))
      | ((with_reducible refine AWP.condF ?_ ?_); focus (simp only [ev, lk_cons, ↓reduceIte, Nat.reduceEqDiff]; done))
      | simp only [go_sem, ↓reduceIte, Nat.reduceEqDiff, reduceCtorEq, Nat.reduceAdd, Int.reduceEq, Int.reduceBNe, Int.reduceBEq, Int.reduceToNat, Int.reduceLT, Int.reduceLE, Int.reduceGT, Int.reduceGE, Nat.reduceSub, Nat.reduceBEq, Nat.reduceBNe, Int.reduceAdd, Int.reduceSub, Int.reduceMul, Int.reduceNeg, Nat.reduceMul, Nat.reduceLeDiff, Nat.reduceLT, hc, q1, hz']
      | simp (disch := omega) only [wi64, wu8, wu16, wu32, wu64, Int.tdiv_eq_ediv_of_nonneg, Int.tmod_eq_emod_of_nonneg]
      | with_reducible_and_instances exact finR
      | ((with_reducible refine finR' ?_ ?_) <;> rfl)
      | ((with_reducible refine finD hsc (NRel.of_plain ?_)); exact rfl)
    exact ⟨_, _, .refl _ _ _, _, [], rfl, .inl ⟨rfl, rfl, rfl, rfl⟩, .refl _ _, by simp⟩
  · have hpos : 0 < R.all.length := List.length_pos_iff.2 hz
    have hz' : ((R.all.length : Int) == 0) = false := by rw [beq_eq_false_iff_ne]; omega
    obtain ⟨i, o, cs, hav, hi, ht, hle, hg, hcs, hdr⟩ := all_get hR.all (n := R.all.length - 1) (by omega)
    have hil := lt_of_get hi
    have hlast : lastMin R.all = R.all[R.all.length - 1].1 / 60000 := by
      unfold lastMin
      rw [List.getLast?_eq_getElem?, List.getElem?_eq_getElem (by omega)]
    have hlb := hb R.all[R.all.length - 1] (List.getElem_mem _)
    have hB : basesR R = (basesP R.all (lastMin R.all) 10).map (·.2) := by unfold basesR pastP; rw [if_neg hz]
    rw [hB, hlast]
    rw [hlast] at hB
    have hn1 : ((R.all.length : Nat) : Int) - 1 = ((R.all.length - 1 : Nat) : Int) := by omega
    have hn2 : ((R.all.length - 1 : Nat) : Int) < ((R.all.length : Nat) : Int) := by omega
    have hn0 : (0 : Int) ≤ ((R.all.length - 1 : Nat) : Int) := by omega
    generalize R.all[R.all.length - 1].1 = t at *
    have hw1 : IntKind.i64.wrap ((R.all.length : Nat) - 1 : Int) = ((R.all.length - 1 : Nat) : Int) := by rw [wi64 (by omega)]; omega
    subst hav
    refine AC.enter Try.func64 rfl (by kernel_rfl) 70 rfl [.tmp 2] rfl (by simp) fun hsc B => ?_
    repeat first
      | with_reducible refine AWP.seq ?_
      | ((with_reducible refine AWP.region ?_ ?_); exact rfl)
      | with_reducible refine AWP.block ?_
      | with_reducible refine AWP.skip ?_
      | with_reducible refine AWP.exit ?_
      | with_reducible refine AWP.ret ?_
      | with_reducible refine AWP.label ?_
      | with_reducible refine AWP.goto ?_
      | ((with_reducible refine AWP.condT ?_ ?_); focus (simp only [ev, lk_cons, ↓reduceIte, Nat.reduceEqDiff]; done))
      | ((with_reducible refine AWP.condF ?_ ?_); focus (simp only [ev, lk_cons, ↓reduceIte, Nat.reduceEqDiff]; done))
      | simp only [go_sem, ↓reduceIte, Nat.reduceEqDiff, reduceCtorEq, Nat.reduceAdd, Int.reduceEq, Int.reduceBNe, Int.reduceBEq, Int.reduceToNat, Int.reduceLT, Int.reduceLE, Int.reduceGT, Int.reduceGE, Nat.reduceSub, Nat.reduceBEq, Nat.reduceBNe, Int.reduceAdd, Int.reduceSub, Int.reduceMul, Int.reduceNeg, Nat.reduceMul, Nat.reduceLeDiff, Nat.reduceLT, hc, q1, hz']
      | simp (disch := omega) only [wi64, wu8, wu16, wu32, wu64, Int.tdiv_eq_ediv_of_nonneg, Int.tmod_eq_emod_of_nonneg]
      | with_reducible_and_instances exact finR
      | ((with_reducible refine finR' ?_ ?_) <;> rfl)
      | ((with_reducible refine finD hsc (NRel.of_plain ?_)); exact rfl)
    refine AWP.regionK 13 (by kernel_rfl) (by decide) (by kernel_rfl) ?_
    repeat first
      | with_reducible refine AWP.seq ?_
      | ((with_reducible refine AWP.region ?_ ?_); exact rfl)
      | with_reducible refine AWP.block ?_
      | with_reducible refine AWP.skip ?_
      | with_reducible refine AWP.exit ?_
      | with_reducible refine AWP.ret ?_
      | with_reducible refine AWP.label ?_
      | with_reducible refine AWP.goto ?_
      | ((with_reducible refine AWP.condT ?_ ?_); focus (simp only [ev, lk_cons, ↓reduceIte, Nat.reduceEqDiff]; done))
      | ((with_reducible refine AWP.condF ?_ ?_); focus (simp only [ev, lk_cons, ↓reduceIte, Nat.reduceEqDiff]; done))
      | simp only [go_sem, ↓reduceIte, Nat.reduceEqDiff, reduceCtorEq, Nat.reduceAdd, Int.reduceEq, Int.reduceBNe, Int.reduceBEq, Int.reduceToNat, Int.reduceLT, Int.reduceLE, Int.reduceGT, Int.reduceGE, Nat.reduceSub, Nat.reduceBEq, Nat.reduceBNe, Int.reduceAdd, Int.reduceSub, Int.reduceMul, Int.reduceNeg, Nat.reduceMul, Nat.reduceLeDiff, Nat.reduceLT, hc, q1, hi, hil, hg, hw1, hn2, hle]
      | simp (disch := omega) only [wi64, wu8, wu16, wu32, wu64, Int.tdiv_eq_ediv_of_nonneg, Int.tmod_eq_emod_of_nonneg]
      | with_reducible_and_instances exact finR
      | ((with_reducible refine finR' ?_ ?_) <;> rfl)
      | ((with_reducible refine finD hsc (NRel.of_plain ?_)); exact rfl)
    have hmb : 0 ≤ t / 60000 ∧ t / 60000 ≤ 20000 := by omega
    generalize t / 60000 = m0 at *
    refine AWP.loopP (fun s : Nat × Value × AHeap => ⟨[(0, .pointer (some ⟨c, 0, none⟩)), (3, .int .i64 m0), (4, s.2.1), (5, .int .i64 (m0 - 10 + 1 + (s.1 : Nat)))], [], s.2.2⟩)
      (fun s => s.1 ≤ 10 ∧ ∃ S4, OwnL s.2.2 3 1 (basesP R.all m0 s.1).length (intsC ((basesP R.all m0 s.1).map (·.2))) s.2.1 S4 ∧ Frm [] H s.2.2 ∧ ∀ x ∈ S4, H.length ≤ x) (fun s => 10 - s.1) (0, .slice none 0 0, H) ?_ ⟨Nat.zero_le _, [], .inl ⟨rfl, rfl, rfl, rfl⟩, .refl _ _, by simp⟩ ?_
    · exact Weak.env (by simp [envIn, lk_cons, wth_some])
    rintro ⟨k, v4, H1⟩ ⟨hk, S4, hO4, hf1, hS4⟩
    simp only at hk hO4 hf1 hS4 ⊢
    by_cases hk10 : k < 10
    · have hk' : m0 - 10 + 1 + (k : Int) ≤ m0 := by omega
      have hR1 := hR.grown hf1
      have hc1 := hf1.get hc (by simp)
      have hmk : m0 - 10 + 1 + (k : Int) = m0 - 9 + k := by omega
      have hsucc := basesP_succ R.all m0 k
      have hbl := basesP_len R.all m0 k
      have hwk : IntKind.i64.wrap (m0 - 10 + 1 + (k : Int) + 1) = m0 - 10 + 1 + ((k + 1 : Nat) : Int) := by rw [wi64 (by omega)]; omega
      rw [← hmk] at hsucc
      generalize hm : m0 - 10 + 1 + (k : Int) = m at *
      repeat first
        | with_reducible refine AWP.seq ?_
        | ((with_reducible refine AWP.region ?_ ?_); exact rfl)
        | with_reducible refine AWP.block ?_
        | with_reducible refine AWP.skip ?_
        | with_reducible refine AWP.exit ?_
        | with_reducible refine AWP.ret ?_
        | with_reducible refine AWP.label ?_
        | with_reducible refine AWP.goto ?_
        | ((with_reducible refine AWP.condT ?_ ?_); focus (simp only [ev, lk_cons, ↓reduceIte, Nat.reduceEqDiff]; done))
        | ((with_reducible refine AWP.condF ?_ ?_); focus (simp only [ev, lk_cons, ↓reduceIte, Nat.reduceEqDiff]; done))
        | simp only [go_sem, ↓reduceIte, Nat.reduceEqDiff, reduceCtorEq, Nat.reduceAdd, Int.reduceEq, Int.reduceBNe, Int.reduceBEq, Int.reduceToNat, Int.reduceLT, Int.reduceLE, Int.reduceGT, Int.reduceGE, Nat.reduceSub, Nat.reduceBEq, Nat.reduceBNe, Int.reduceAdd, Int.reduceSub, Int.reduceMul, Int.reduceNeg, Nat.reduceMul, Nat.reduceLeDiff, Nat.reduceLT, hk', hc1, q1]
        | simp (disch := omega) only [wi64, wu8, wu16, wu32, wu64, Int.tdiv_eq_ediv_of_nonneg, Int.tmod_eq_emod_of_nonneg]
        | with_reducible_and_instances exact finR
        | ((with_reducible refine finR' ?_ ?_) <;> rfl)
        | ((with_reducible refine finD hsc (NRel.of_plain ?_)); exact rfl)
      refine AWP.loopP (fun s : Nat × Value × AHeap => ⟨[(0, .pointer (some ⟨c, 0, none⟩)), (3, .int .i64 m0), (4, v4), (5, .int .i64 m), (6, s.2.1), (44, .slice (some ⟨i, o, none⟩) R.all.length R.all.length), (45, .int .i64 (R.all.length : Nat)), (46, .int .i64 (s.1 : Nat))], [], s.2.2⟩)
        (fun s => s.1 ≤ R.all.length ∧ ∃ S6, OwnL s.2.2 3 1 (atMin (R.all.take s.1) m).length (intsC (atMin (R.all.take s.1) m)) s.2.1 S6 ∧ Frm [] H1 s.2.2 ∧ ∀ x ∈ S6, H1.length ≤ x) (fun s => R.all.length - s.1) (0, .slice none 0 0, H1) ?_ ⟨Nat.zero_le _, [], .inl ⟨rfl, rfl, rfl, rfl⟩, .refl _ _, by simp⟩ ?_
      · exact Weak.env (by simp [envIn, lk_cons, wth_some])
      rintro ⟨n, v6, H2⟩ ⟨hn, S6, hO6, hf2, hS6⟩
      simp only at hn hO6 hf2 hS6 ⊢
      by_cases hc2 : n < R.all.length
      · have hc2' : (n : Int) < (R.all.length : Int) := by omega
        have hi2 := hf2.get (hf1.get hi (by simp)) (by simp)
        have hil2 := lt_of_get hi2
        obtain ⟨i', o', cs', e1, hi', ht2, hle2, -, -, -⟩ := all_get (hR1.grown hf2).all hc2
        cases e1
        rw [hi2] at hi'
        cases hi'
        have hwn : IntKind.i64.wrap ((n : Int) + 1) = ((n + 1 : Nat) : Int) := by rw [wi64 (by omega)]; omega
        have htk := atMin_take R.all m n hc2
        have hml := atMin_len (R.all.take n) m
        rw [List.length_take] at hml
        have hnb := hb R.all[n] (List.getElem_mem _)
        generalize R.all[n].1 = x at *
        generalize R.all[n].2 = y at *
        have hO6b := hO6.frm (T := []) (Frm.app (X := [.cells [.int .i64 x, .int .i64 y] ⟨98, 0, true, 0, none⟩])) (by simp)
        by_cases hx : x / 60000 = m
        · rw [if_pos hx] at htk
          have hx' : (x / 60000 == m) = true := beq_iff_eq.2 hx
          repeat first
            | with_reducible refine AWP.seq ?_
            | ((with_reducible refine AWP.region ?_ ?_); exact rfl)
            | with_reducible refine AWP.block ?_
            | with_reducible refine AWP.skip ?_
            | with_reducible refine AWP.exit ?_
            | with_reducible refine AWP.ret ?_
            | with_reducible refine AWP.label ?_
            | with_reducible refine AWP.goto ?_
            | ((with_reducible refine AWP.condT ?_ ?_); focus (simp only [ev, lk_cons, ↓reduceIte, Nat.reduceEqDiff]; done))
            | ((with_reducible refine AWP.condF ?_ ?_); focus (simp only [ev, lk_cons, ↓reduceIte, Nat.reduceEqDiff]; done))
            | simp only [go_sem, ↓reduceIte, Nat.reduceEqDiff, reduceCtorEq, Nat.reduceAdd, Int.reduceEq, Int.reduceBNe, Int.reduceBEq, Int.reduceToNat, Int.reduceLT, Int.reduceLE, Int.reduceGT, Int.reduceGE, Nat.reduceSub, Nat.reduceBEq, Nat.reduceBNe, Int.reduceAdd, Int.reduceSub, Int.reduceMul, Int.reduceNeg, Nat.reduceMul, Nat.reduceLeDiff, Nat.reduceLT, hc2', hi2, hil2, hgetl, ht2, hle2, hx']
            | simp (disch := omega) only [wi64, wu8, wu16, wu32, wu64, Int.tdiv_eq_ediv_of_nonneg, Int.tmod_eq_emod_of_nonneg]
            | with_reducible_and_instances exact finR
            | ((with_reducible refine finR' ?_ ?_) <;> rfl)
            | ((with_reducible refine finD hsc (NRel.of_plain ?_)); exact rfl)
          refine (hO6.frm (T := []) (Frm.app (X := [.cells [.int .i64 x, .int .i64 y] ⟨98, 0, true, 0, none⟩, .cells [.int .i64 y] ⟨3, 0, true, 0, none⟩])) (by simp)).append (by decide) (by omega) (by omega) fun H' hlen hH' => ?_
          have hf3 := frm_own (hf2.more (X := [.cells [.int .i64 x, .int .i64 y] ⟨98, 0, true, 0, none⟩, .cells [.int .i64 y] ⟨3, 0, true, 0, none⟩])) (frm_app' (X := [.cells (intsC (atMin (R.all.take n) m) ++ [.int .i64 y]) ⟨3, 1, true, 0, none⟩]) hlen hH') hS6
          have hlen2 : H'.length = H2.length + 2 := by rw [hlen]; simp
          clear hH' hlen
          repeat first
            | with_reducible refine AWP.seq ?_
            | ((with_reducible refine AWP.region ?_ ?_); exact rfl)
            | with_reducible refine AWP.block ?_
            | with_reducible refine AWP.skip ?_
            | with_reducible refine AWP.exit ?_
            | with_reducible refine AWP.ret ?_
            | with_reducible refine AWP.label ?_
            | with_reducible refine AWP.goto ?_
            | ((with_reducible refine AWP.condT ?_ ?_); focus (simp only [ev, lk_cons, ↓reduceIte, Nat.reduceEqDiff]; done))
            | ((with_reducible refine AWP.condF ?_ ?_); focus (simp only [ev, lk_cons, ↓reduceIte, Nat.reduceEqDiff]; done))
            | simp only [go_sem, ↓reduceIte, Nat.reduceEqDiff, reduceCtorEq, Nat.reduceAdd, Int.reduceEq, Int.reduceBNe, Int.reduceBEq, Int.reduceToNat, Int.reduceLT, Int.reduceLE, Int.reduceGT, Int.reduceGE, Nat.reduceSub, Nat.reduceBEq, Nat.reduceBNe, Int.reduceAdd, Int.reduceSub, Int.reduceMul, Int.reduceNeg, Nat.reduceMul, Nat.reduceLeDiff, Nat.reduceLT, hwn, hlen2]
            | simp (disch := omega) only [wi64, wu8, wu16, wu32, wu64, Int.tdiv_eq_ediv_of_nonneg, Int.tmod_eq_emod_of_nonneg]
            | with_reducible_and_instances exact finR
            | ((with_reducible refine finR' ?_ ?_) <;> rfl)
            | ((with_reducible refine finD hsc (NRel.of_plain ?_)); exact rfl)
          refine ⟨(n + 1, .slice (some ⟨H2.length + 2, 0, none⟩) ((atMin (R.all.take n) m).length + 1) ((atMin (R.all.take n) m).length + 1), H' ++ [.cells (intsC (atMin (R.all.take n) m) ++ [.int .i64 y]) ⟨3, 1, true, 0, none⟩]), Weak.env (by simp [envIn, lk_cons, wth_some]), by show n + 1 ≤ _; omega, ⟨[H2.length + 2], ?_, hf3, by have := hf2.1; simp; omega⟩, by show R.all.length - (n + 1) < _; omega⟩
          simp only
          rw [htk, intsC_snoc, List.length_append, List.length_singleton]
          exact ownL_int (by simp) hlen2
        · rw [if_neg hx, List.append_nil] at htk
          have hx' : (x / 60000 == m) = false := beq_eq_false_iff_ne.2 hx
          repeat first
            | with_reducible refine AWP.seq ?_
            | ((with_reducible refine AWP.region ?_ ?_); exact rfl)
            | with_reducible refine AWP.block ?_
            | with_reducible refine AWP.skip ?_
            | with_reducible refine AWP.exit ?_
            | with_reducible refine AWP.ret ?_
            | with_reducible refine AWP.label ?_
            | with_reducible refine AWP.goto ?_
            | ((with_reducible refine AWP.condT ?_ ?_); focus (simp only [ev, lk_cons, ↓reduceIte, Nat.reduceEqDiff]; done))
            | ((with_reducible refine AWP.condF ?_ ?_); focus (simp only [ev, lk_cons, ↓reduceIte, Nat.reduceEqDiff]; done))
            | simp only [go_sem, ↓reduceIte, Nat.reduceEqDiff, reduceCtorEq, Nat.reduceAdd, Int.reduceEq, Int.reduceBNe, Int.reduceBEq, Int.reduceToNat, Int.reduceLT, Int.reduceLE, Int.reduceGT, Int.reduceGE, Nat.reduceSub, Nat.reduceBEq, Nat.reduceBNe, Int.reduceAdd, Int.reduceSub, Int.reduceMul, Int.reduceNeg, Nat.reduceMul, Nat.reduceLeDiff, Nat.reduceLT, hc2', hi2, hil2, hgetl, ht2, hle2, hx', hwn]
            | simp (disch := omega) only [wi64, wu8, wu16, wu32, wu64, Int.tdiv_eq_ediv_of_nonneg, Int.tmod_eq_emod_of_nonneg]
            | with_reducible_and_instances exact finR
            | ((with_reducible refine finR' ?_ ?_) <;> rfl)
            | ((with_reducible refine finD hsc (NRel.of_plain ?_)); exact rfl)
          exact ⟨(n + 1, v6, _), Weak.env (by simp [envIn, lk_cons, wth_some]), by show n + 1 ≤ _; omega, ⟨S6, by simp only; rw [htk]; exact hO6b, hf2.more, hS6⟩, by show R.all.length - (n + 1) < _; omega⟩
      · have : n = R.all.length := by omega
        subst this
        have hc2' : ¬ (R.all.length : Int) < (R.all.length : Int) := by omega
        rw [List.take_length] at hO6
        have hml := atMin_len R.all m
        by_cases hq : atMin R.all m = []
        · rw [if_pos hq, List.append_nil] at hsucc
          have hz6 : ¬ (((atMin R.all m).length : Nat) : Int) > 0 := by rw [hq]; decide
          have q6 : ∀ H' K, lenW Try.prog 28 v6 H' K = K (.int .i64 ((atMin R.all m).length : Nat)) H' := fun H' K => by rw [hO6.rd.lenT (by simp only [go_sem, ↓reduceIte, Nat.reduceEqDiff, reduceCtorEq, Nat.reduceAdd, Int.reduceEq, Int.reduceBNe, Int.reduceBEq, Int.reduceToNat, Int.reduceLT, Int.reduceLE, Int.reduceGT, Int.reduceGE, Nat.reduceSub, Nat.reduceBEq, Nat.reduceBNe, Int.reduceAdd, Int.reduceSub, Int.reduceMul, Int.reduceNeg, Nat.reduceMul, Nat.reduceLeDiff, Nat.reduceLT]), intsC_length]
          repeat first
            | with_reducible refine AWP.seq ?_
            | ((with_reducible refine AWP.region ?_ ?_); exact rfl)
            | with_reducible refine AWP.block ?_
            | with_reducible refine AWP.skip ?_
            | with_reducible refine AWP.exit ?_
            | with_reducible refine AWP.ret ?_
            | with_reducible refine AWP.label ?_
            | with_reducible refine AWP.goto ?_
            | ((with_reducible refine AWP.condT ?_ ?_); focus (simp only [ev, lk_cons, ↓reduceIte, Nat.reduceEqDiff]; done))
            | ((with_reducible refine AWP.condF ?_ ?_); focus (simp only [ev, lk_cons, ↓reduceIte, Nat.reduceEqDiff]; done))
            | simp only [go_sem, ↓reduceIte, Nat.reduceEqDiff, reduceCtorEq, Nat.reduceAdd, Int.reduceEq, Int.reduceBNe, Int.reduceBEq, Int.reduceToNat, Int.reduceLT, Int.reduceLE, Int.reduceGT, Int.reduceGE, Nat.reduceSub, Nat.reduceBEq, Nat.reduceBNe, Int.reduceAdd, Int.reduceSub, Int.reduceMul, Int.reduceNeg, Nat.reduceMul, Nat.reduceLeDiff, Nat.reduceLT, hc2', hwk, q6, hz6]
            | simp (disch := omega) only [wi64, wu8, wu16, wu32, wu64, Int.tdiv_eq_ediv_of_nonneg, Int.tmod_eq_emod_of_nonneg]
            | with_reducible_and_instances exact finR
            | ((with_reducible refine finR' ?_ ?_) <;> rfl)
            | ((with_reducible refine finD hsc (NRel.of_plain ?_)); exact rfl)
          exact ⟨(k + 1, v4, H2), Weak.env (by simp [envIn, lk_cons, wth_some]), by show k + 1 ≤ _; omega, ⟨S4, by simp only; rw [hsucc]; exact hO4.frm hf2 (by simp), frm_own hf1 hf2 (by simp), hS4⟩, by show 10 - (k + 1) < _; omega⟩
        · rw [if_neg hq] at hsucc
          have hpos6 : 0 < (atMin R.all m).length := List.length_pos_iff.2 hq
          have hpos6' : ((atMin R.all m).length : Int) > 0 := by omega
          have q6 : ∀ H' K, lenW Try.prog 28 v6 H' K = K (.int .i64 ((atMin R.all m).length : Nat)) H' := fun H' K => by rw [hO6.rd.lenT (by simp only [go_sem, ↓reduceIte, Nat.reduceEqDiff, reduceCtorEq, Nat.reduceAdd, Int.reduceEq, Int.reduceBNe, Int.reduceBEq, Int.reduceToNat, Int.reduceLT, Int.reduceLE, Int.reduceGT, Int.reduceGE, Nat.reduceSub, Nat.reduceBEq, Nat.reduceBNe, Int.reduceAdd, Int.reduceSub, Int.reduceMul, Int.reduceNeg, Nat.reduceMul, Nat.reduceLeDiff, Nat.reduceLT]), intsC_length]
          have hsm := smallest (atMin R.all m) hq (by omega) v6 S6 H2 hO6
          generalize hls : leastL (atMin R.all m) = ls at *
          repeat first
            | with_reducible refine AWP.seq ?_
            | ((with_reducible refine AWP.region ?_ ?_); exact rfl)
            | with_reducible refine AWP.block ?_
            | with_reducible refine AWP.skip ?_
            | with_reducible refine AWP.exit ?_
            | with_reducible refine AWP.ret ?_
            | with_reducible refine AWP.label ?_
            | with_reducible refine AWP.goto ?_
            | ((with_reducible refine AWP.condT ?_ ?_); focus (simp only [ev, lk_cons, ↓reduceIte, Nat.reduceEqDiff]; done))
            | ((with_reducible refine AWP.condF ?_ ?_); focus (simp only [ev, lk_cons, ↓reduceIte, Nat.reduceEqDiff]; done))
            | with_reducible refine hsm.use ?_
            | simp only [go_sem, ↓reduceIte, Nat.reduceEqDiff, reduceCtorEq, Nat.reduceAdd, Int.reduceEq, Int.reduceBNe, Int.reduceBEq, Int.reduceToNat, Int.reduceLT, Int.reduceLE, Int.reduceGT, Int.reduceGE, Nat.reduceSub, Nat.reduceBEq, Nat.reduceBNe, Int.reduceAdd, Int.reduceSub, Int.reduceMul, Int.reduceNeg, Nat.reduceMul, Nat.reduceLeDiff, Nat.reduceLT, hc2', q6, hpos6']
            | simp (disch := omega) only [wi64, wu8, wu16, wu32, wu64, Int.tdiv_eq_ediv_of_nonneg, Int.tmod_eq_emod_of_nonneg]
            | with_reducible_and_instances exact finR
            | ((with_reducible refine finR' ?_ ?_) <;> rfl)
            | ((with_reducible refine finD hsc (NRel.of_plain ?_)); exact rfl)
          refine ((hO4.frm hf2 (by simp)).frm (T := []) (Frm.app (X := [.cells [.int .i64 ls] ⟨3, 0, true, 0, none⟩])) (by simp)).append (by decide) (by omega) (by omega) fun H' hlen hH' => ?_
          have hf3 := frm_own ((frm_own hf1 hf2 (by simp)).more (X := [.cells [.int .i64 ls] ⟨3, 0, true, 0, none⟩])) (frm_app' (X := [.cells (intsC ((basesP R.all m0 k).map (·.2)) ++ [.int .i64 ls]) ⟨3, 1, true, 0, none⟩]) hlen hH') hS4
          have hlen2 : H'.length = H2.length + 1 := by rw [hlen]; simp
          clear hH' hlen
          repeat first
            | with_reducible refine AWP.seq ?_
            | ((with_reducible refine AWP.region ?_ ?_); exact rfl)
            | with_reducible refine AWP.block ?_
            | with_reducible refine AWP.skip ?_
            | with_reducible refine AWP.exit ?_
            | with_reducible refine AWP.ret ?_
            | with_reducible refine AWP.label ?_
            | with_reducible refine AWP.goto ?_
            | ((with_reducible refine AWP.condT ?_ ?_); focus (simp only [ev, lk_cons, ↓reduceIte, Nat.reduceEqDiff]; done))
            | ((with_reducible refine AWP.condF ?_ ?_); focus (simp only [ev, lk_cons, ↓reduceIte, Nat.reduceEqDiff]; done))
            | simp only [go_sem, ↓reduceIte, Nat.reduceEqDiff, reduceCtorEq, Nat.reduceAdd, Int.reduceEq, Int.reduceBNe, Int.reduceBEq, Int.reduceToNat, Int.reduceLT, Int.reduceLE, Int.reduceGT, Int.reduceGE, Nat.reduceSub, Nat.reduceBEq, Nat.reduceBNe, Int.reduceAdd, Int.reduceSub, Int.reduceMul, Int.reduceNeg, Nat.reduceMul, Nat.reduceLeDiff, Nat.reduceLT, hwk, hlen2]
            | simp (disch := omega) only [wi64, wu8, wu16, wu32, wu64, Int.tdiv_eq_ediv_of_nonneg, Int.tmod_eq_emod_of_nonneg]
            | with_reducible_and_instances exact finR
            | ((with_reducible refine finR' ?_ ?_) <;> rfl)
            | ((with_reducible refine finD hsc (NRel.of_plain ?_)); exact rfl)
          refine ⟨(k + 1, .slice (some ⟨H2.length + 1, 0, none⟩) ((basesP R.all m0 k).length + 1) ((basesP R.all m0 k).length + 1), H' ++ [.cells (intsC ((basesP R.all m0 k).map (·.2)) ++ [.int .i64 ls]) ⟨3, 1, true, 0, none⟩]), Weak.env (by simp [envIn, lk_cons, wth_some]), by show k + 1 ≤ _; omega, ⟨[H2.length + 1], ?_, hf3, by have := hf2.1; have := hf1.1; simp; omega⟩, by show 10 - (k + 1) < _; omega⟩
          simp only
          rw [hsucc, intsC_snoc, List.length_append, List.length_singleton, List.map_append]
          exact ownL_int (by simp) hlen2
    · have : k = 10 := by omega
      subst this
      have hk' : ¬ m0 - 10 + 1 + 10 ≤ m0 := by omega
      repeat first
        | with_reducible refine AWP.seq ?_
        | ((with_reducible refine AWP.region ?_ ?_); exact rfl)
        | with_reducible refine AWP.block ?_
        | with_reducible refine AWP.skip ?_
        | with_reducible refine AWP.exit ?_
        | with_reducible refine AWP.ret ?_
        | with_reducible refine AWP.label ?_
        | with_reducible refine AWP.goto ?_
        | ((with_reducible refine AWP.condT ?_ ?_); focus (simp only [ev, lk_cons, ↓reduceIte, Nat.reduceEqDiff]; done))
        | ((with_reducible refine AWP.condF ?_ ?_); focus (simp only [ev, lk_cons, ↓reduceIte, Nat.reduceEqDiff]; done))
        | simp only [go_sem, ↓reduceIte, Nat.reduceEqDiff, reduceCtorEq, Nat.reduceAdd, Int.reduceEq, Int.reduceBNe, Int.reduceBEq, Int.reduceToNat, Int.reduceLT, Int.reduceLE, Int.reduceGT, Int.reduceGE, Nat.reduceSub, Nat.reduceBEq, Nat.reduceBNe, Int.reduceAdd, Int.reduceSub, Int.reduceMul, Int.reduceNeg, Nat.reduceMul, Nat.reduceLeDiff, Nat.reduceLT, hk']
        | simp (disch := omega) only [wi64, wu8, wu16, wu32, wu64, Int.tdiv_eq_ediv_of_nonneg, Int.tmod_eq_emod_of_nonneg]
        | with_reducible_and_instances exact finR
        | ((with_reducible refine finR' ?_ ?_) <;> rfl)
        | ((with_reducible refine finD hsc (NRel.of_plain ?_)); exact rfl)
      exact ⟨_, _, .refl _ _ _, v4, S4, rfl, by rw [List.length_map]; exact hO4, hf1, hS4⟩
end Go.Proofs.Ytoikchnpflnehaa
