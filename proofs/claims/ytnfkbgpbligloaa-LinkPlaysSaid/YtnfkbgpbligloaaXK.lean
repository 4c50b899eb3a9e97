/-
  Links: Next.
-/
import Derived.Test.YtnfkbgpbligloaaXE
set_option linter.unusedVariables false
set_option linter.unusedSimpArgs false
set_option maxRecDepth 20000
set_option maxHeartbeats 4000000
namespace Go.Proofs.Ytnfkbgpbligloaa
open Go Go.Aw Go.Proofs
theorem cms_get : ∀ (l : List (Cm × Value)) (k : Nat) (hk : k < l.length), ((cmsC l).drop (k * 4)).take 4 = cmC l[k]
  | [], k, hk => by simp at hk
  | p :: l, 0, hk => by
    have e : cmsC (p :: l) = cmC p ++ cmsC l := rfl
    rw [e, Nat.zero_mul, List.drop_zero]; rfl
  | p :: l, k + 1, hk => by
    have e : cmsC (p :: l) = cmC p ++ cmsC l := rfl
    rw [e, show (k + 1) * 4 = 4 + k * 4 by omega, ← List.drop_drop]
    exact cms_get l k (by simpa using hk)
theorem cm_at {H : AHeap} {us : List (Cm × Value)} {v : Value} {S : List Nat} (h : OwnL H 75 4 us.length (cmsC us) v S) (h0 : 0 < us.length) :
    ∃ j o cs, v = .slice (some ⟨j, o, none⟩) us.length us.length ∧ H[j]? = some (.cells cs ⟨75, 4, true, 0, none⟩) ∧ ∀ k, (hk : k < us.length) → (cs.drop (o + k * 4)).take 4 = cmC us[k] ∧ o + (k * 4 + 4) ≤ cs.length := by
  rcases h with ⟨h1, _⟩ | ⟨j, o, cs, rfl, hj, hcl, hd, rfl⟩
  · omega
  exact ⟨j, o, cs, rfl, hj, fun k hk => ⟨by rw [← List.drop_drop, hd]; exact cms_get us k hk, by omega⟩⟩
theorem cmpT (a b : Cm) (ga gb : Value) (ha : 0 ≤ a.time ∧ a.time < 1152921504606846976) (hb : 0 ≤ b.time ∧ b.time < 1152921504606846976) (fa fb : FuncId) (xa xb : Value) (ea : ga = .func (.func fa) ⟨[]⟩ ⟨[xa]⟩) (eb : gb = .func (.func fb) ⟨[]⟩ ⟨[xb]⟩) (H : AHeap) :
    ARet Try.prog 65 [.agg ⟨[.int .i64 a.time, .int .i64 a.id, .int .i64 a.copy, ga]⟩, .agg ⟨[.int .i64 b.time, .int .i64 b.id, .int .i64 b.copy, gb]⟩] H (.int .i64 (a.time - b.time)) H := by
  subst ea eb
  have hw : IntKind.i64.wrap (a.time - b.time) = a.time - b.time := wi64 (by omega)
  refine AC.enter Try.func65 rfl (by kernel_rfl) 10 rfl [.tmp 4] rfl (by simp) fun hsc B => ?_
  repeat first
    | with_reducible refine AWP.seq ?_
    | ((with_reducible refine AWP.region ?_ ?_); exact rfl)
    | with_reducible refine AWP.block ?_
    | with_reducible refine AWP.skip ?_
    | with_reducible refine AWP.exit ?_
    | with_reducible refine AWP.ret ?_
    | with_reducible refine AWP.label ?_
    | with_reducible refine AWP.goto ?_
    | ((with_reducible refine AWP.condT ?_ ?_); focus (simp only [ev, lk_cons, ↓reduceIte, Nat.reduceEqDiff]; done))
    | ((with_reducible refine AWP.condF ?_ ?_); focus (simp only [ev, lk_cons, ↓reduceIte, Nat.reduceEqDiff]; done))
    | simp only [go_sem, ↓reduceIte, Nat.reduceEqDiff, reduceCtorEq, Nat.reduceAdd, Int.reduceEq, Int.reduceBNe, Int.reduceBEq, Int.reduceToNat, Int.reduceLT, Int.reduceLE, Int.reduceGT, Int.reduceGE, Nat.reduceSub, Nat.reduceBEq, Nat.reduceBNe, Int.reduceAdd, Int.reduceSub, Int.reduceMul, Int.reduceNeg, Nat.reduceMul, Nat.reduceLeDiff, Nat.reduceLT, hw]
    | simp (disch := omega) only [wi64, wu8, wu16, wu32, wu64, Int.tdiv_eq_ediv_of_nonneg, Int.tmod_eq_emod_of_nonneg]
    | with_reducible_and_instances exact finR
    | ((with_reducible refine finR' ?_ ?_) <;> rfl)
    | ((with_reducible refine finD hsc (NRel.of_plain ?_)); exact rfl)
theorem minFunc {H : AHeap} {us : List (Cm × Value)} {vu : Value} {Su : List Nat} (hO : OwnL H 75 4 us.length (cmsC us) vu Su) (h0 : 0 < us.length) (hsz : us.length < 1099511627776) (hb : ∀ u ∈ us, 0 ≤ u.1.time ∧ u.1.time < 1152921504606846976) (hg : ∀ u ∈ us, ∃ f a, u.2 = .func (.func f) ⟨[]⟩ ⟨[.pointer (some ⟨a, 0, none⟩)]⟩) :
    AC Try.prog 64 [vu, .func (.func 65) ⟨[]⟩ ⟨[]⟩] H (fun r H1 => ∃ u ∈ us, (∀ w ∈ us, u.1.time ≤ w.1.time) ∧ r = .ret (.agg ⟨cmC u⟩) ∧ Frm [] H H1) := by
  obtain ⟨j, o, cs, rfl, hj, hat⟩ := cm_at hO h0
  have hjl := lt_of_get hj
  obtain ⟨c0, l0⟩ := hat 0 h0
  have hz : cmC us[0] = [.int .i64 us[0].1.time, .int .i64 us[0].1.id, .int .i64 us[0].1.copy, us[0].2] := rfl
  rw [hz] at c0
  obtain ⟨f0, a0, e0⟩ := hg us[0] (List.getElem_mem h0)
  rw [e0] at c0
  rw [Nat.zero_mul, Nat.add_zero] at c0
  rw [Nat.zero_mul, Nat.zero_add] at l0
  have h1 : ¬ ((us.length : Int) < 1) := by omega
  have h2 : (0 : Int) < (us.length : Int) := by omega
  refine AC.enter Try.func64 rfl (by kernel_rfl) 33 rfl [.cell 4 75] rfl (by simp) fun hsc B => ?_
  repeat first
    | with_reducible refine AWP.seq ?_
    | ((with_reducible refine AWP.region ?_ ?_); exact rfl)
    | with_reducible refine AWP.block ?_
    | with_reducible refine AWP.skip ?_
    | with_reducible refine AWP.exit ?_
    | with_reducible refine AWP.ret ?_
    | with_reducible refine AWP.label ?_
    | with_reducible refine AWP.goto ?_
    | ((with_reducible refine AWP.condT ?_ ?_); focus (simp only [ev, lk_cons, ↓reduceIte, Nat.reduceEqDiff]; done))
    | ((with_reducible refine AWP.condF ?_ ?_); focus (simp only [ev, lk_cons, ↓reduceIte, Nat.reduceEqDiff]; done))
    | simp only [go_sem, ↓reduceIte, Nat.reduceEqDiff, reduceCtorEq, Nat.reduceAdd, Int.reduceEq, Int.reduceBNe, Int.reduceBEq, Int.reduceToNat, Int.reduceLT, Int.reduceLE, Int.reduceGT, Int.reduceGE, Nat.reduceSub, Nat.reduceBEq, Nat.reduceBNe, Int.reduceAdd, Int.reduceSub, Int.reduceMul, Int.reduceNeg, Nat.reduceMul, Nat.reduceLeDiff, Nat.reduceLT, h1, h2, hj, hjl, hgetl, c0, l0]
    | simp (disch := omega) only [wi64, wu8, wu16, wu32, wu64, Int.tdiv_eq_ediv_of_nonneg, Int.tmod_eq_emod_of_nonneg]
    | with_reducible_and_instances exact finR
    | ((with_reducible refine finR' ?_ ?_) <;> rfl)
    | ((with_reducible refine finD hsc (NRel.of_plain ?_)); exact rfl)
  refine AWP.loopP (fun p : Nat × (Cm × Value) × AHeap => ⟨[(0, .slice (some ⟨j, o, none⟩) us.length us.length), (1, .func (.func 65) ⟨[]⟩ ⟨[]⟩), (4, .pointer (some ⟨H.length, 0, none⟩)), (5, .pointer (some ⟨H.length + 1, 0, none⟩)), (6, .int .i64 (p.1 : Nat))], [], H ++ (.cells [.int .i64 0, .int .i64 0, .int .i64 0, .nilFunc] ⟨75, 0, true, 0, none⟩ :: .cells [.int .i64 p.2.1.1.time, .int .i64 p.2.1.1.id, .int .i64 p.2.1.1.copy, p.2.1.2] ⟨75, 0, true, 0, none⟩ :: p.2.2)⟩)
    (fun p => p.1 ≤ us.length ∧ p.2.1 ∈ us ∧ ∀ k, (hk : k < us.length) → k < p.1 → p.2.1.1.time ≤ us[k].1.time) (fun p => us.length - p.1) (1, us[0], []) ?_ ⟨h0, List.getElem_mem h0, fun k hk h => by
      simp only at h ⊢
      have : k = 0 := by omega
      subst this
      exact Int.le_refl _⟩ ?_
  · rw [e0]
    exact Weak.env (by simp [envIn, lk_cons, wth_some])
  rintro ⟨n, u, X⟩ ⟨hn, hu, hall⟩
  simp only at hn hu hall ⊢
  obtain ⟨fu, au, eu⟩ := hg u hu
  have hbu := hb u hu
  by_cases hc : n < us.length
  · have hc' : (n : Int) < (us.length : Int) := by omega
    have hwn : IntKind.i64.wrap ((n : Int) + 1) = ((n + 1 : Nat) : Int) := by rw [wi64 (by omega)]; omega
    obtain ⟨cn, ln⟩ := hat n hc
    have hmem := List.getElem_mem hc
    have hun : us[n] = us[n] := rfl
    generalize hw : us[n] = w at *
    have hzw : cmC w = [.int .i64 w.1.time, .int .i64 w.1.id, .int .i64 w.1.copy, w.2] := rfl
    obtain ⟨fw, aw, ew⟩ := hg w hmem
    have hbw := hb w hmem
    have hcm := cmpT w.1 u.1 w.2 u.2 hbw hbu fw fu _ _ ew eu
    rw [hzw] at cn
    rw [ew] at cn hcm
    rw [eu] at hcm ⊢
    by_cases hlt : w.1.time - u.1.time < 0
    · repeat first
        | with_reducible refine AWP.seq ?_
        | ((with_reducible refine AWP.region ?_ ?_); exact rfl)
        | with_reducible refine AWP.block ?_
        | with_reducible refine AWP.skip ?_
        | with_reducible refine AWP.exit ?_
        | with_reducible refine AWP.ret ?_
        | with_reducible refine AWP.label ?_
        | with_reducible refine AWP.goto ?_
        | ((with_reducible refine AWP.condT ?_ ?_); focus (simp only [ev, lk_cons, ↓reduceIte, Nat.reduceEqDiff]; done))
        | ((with_reducible refine AWP.condF ?_ ?_); focus (simp only [ev, lk_cons, ↓reduceIte, Nat.reduceEqDiff]; done))
        | simp only [go_sem, ↓reduceIte, Nat.reduceEqDiff, reduceCtorEq, Nat.reduceAdd, Int.reduceEq, Int.reduceBNe, Int.reduceBEq, Int.reduceToNat, Int.reduceLT, Int.reduceLE, Int.reduceGT, Int.reduceGE, Nat.reduceSub, Nat.reduceBEq, Nat.reduceBNe, Int.reduceAdd, Int.reduceSub, Int.reduceMul, Int.reduceNeg, Nat.reduceMul, Nat.reduceLeDiff, Nat.reduceLT, hc']
        | simp (disch := omega) only [wi64, wu8, wu16, wu32, wu64, Int.tdiv_eq_ediv_of_nonneg, Int.tmod_eq_emod_of_nonneg]
        | with_reducible_and_instances exact finR
        | ((with_reducible refine finR' ?_ ?_) <;> rfl)
        | ((with_reducible refine finD hsc (NRel.of_plain ?_)); exact rfl)
      refine AWP.regionK 6 (by kernel_rfl) (by decide) (by kernel_rfl) ?_
      repeat first
        | with_reducible refine AWP.seq ?_
        | ((with_reducible refine AWP.region ?_ ?_); exact rfl)
        | with_reducible refine AWP.block ?_
        | with_reducible refine AWP.skip ?_
        | with_reducible refine AWP.exit ?_
        | with_reducible refine AWP.ret ?_
        | with_reducible refine AWP.label ?_
        | with_reducible refine AWP.goto ?_
        | ((with_reducible refine AWP.condT ?_ ?_); focus (simp only [ev, lk_cons, ↓reduceIte, Nat.reduceEqDiff]; done))
        | ((with_reducible refine AWP.condF ?_ ?_); focus (simp only [ev, lk_cons, ↓reduceIte, Nat.reduceEqDiff]; done))
        | simp only [go_sem, ↓reduceIte, Nat.reduceEqDiff, reduceCtorEq, Nat.reduceAdd, Int.reduceEq, Int.reduceBNe, Int.reduceBEq, Int.reduceToNat, Int.reduceLT, Int.reduceLE, Int.reduceGT, Int.reduceGE, Nat.reduceSub, Nat.reduceBEq, Nat.reduceBNe, Int.reduceAdd, Int.reduceSub, Int.reduceMul, Int.reduceNeg, Nat.reduceMul, Nat.reduceLeDiff, Nat.reduceLT, hc', hj, hjl, hgetl, cn, ln, List.map_cons, List.map_nil]
        | simp (disch := omega) only [wi64, wu8, wu16, wu32, wu64, Int.tdiv_eq_ediv_of_nonneg, Int.tmod_eq_emod_of_nonneg]
        | with_reducible_and_instances exact finR
        | ((with_reducible refine finR' ?_ ?_) <;> rfl)
        | ((with_reducible refine finD hsc (NRel.of_plain ?_)); exact rfl)
      repeat first
        | with_reducible refine AWP.seq ?_
        | ((with_reducible refine AWP.region ?_ ?_); exact rfl)
        | with_reducible refine AWP.block ?_
        | with_reducible refine AWP.skip ?_
        | with_reducible refine AWP.exit ?_
        | with_reducible refine AWP.ret ?_
        | with_reducible refine AWP.label ?_
        | with_reducible refine AWP.goto ?_
        | ((with_reducible refine AWP.condT ?_ ?_); focus (simp only [ev, lk_cons, ↓reduceIte, Nat.reduceEqDiff]; done))
        | ((with_reducible refine AWP.condF ?_ ?_); focus (simp only [ev, lk_cons, ↓reduceIte, Nat.reduceEqDiff]; done))
        | with_reducible refine (hcm _).use ?_
        | simp only [go_sem, ↓reduceIte, Nat.reduceEqDiff, reduceCtorEq, Nat.reduceAdd, Int.reduceEq, Int.reduceBNe, Int.reduceBEq, Int.reduceToNat, Int.reduceLT, Int.reduceLE, Int.reduceGT, Int.reduceGE, Nat.reduceSub, Nat.reduceBEq, Nat.reduceBNe, Int.reduceAdd, Int.reduceSub, Int.reduceMul, Int.reduceNeg, Nat.reduceMul, Nat.reduceLeDiff, Nat.reduceLT, hc', hj, hjl, hgetl, cn, ln, hlt, hwn, List.map_cons, List.map_nil]
        | simp (disch := omega) only [wi64, wu8, wu16, wu32, wu64, Int.tdiv_eq_ediv_of_nonneg, Int.tmod_eq_emod_of_nonneg]
        | with_reducible_and_instances exact finR
        | ((with_reducible refine finR' ?_ ?_) <;> rfl)
        | ((with_reducible refine finD hsc (NRel.of_plain ?_)); exact rfl)
      refine ⟨(n + 1, w, X), by rw [ew]; exact Weak.env (by simp [envIn, lk_cons, wth_some]), by show n + 1 ≤ _; omega, hmem, fun k hk h => ?_, by show us.length - (n + 1) < _; omega⟩
      rcases Nat.lt_or_ge k n with h3 | h3
      · have := hall k hk h3
        show w.1.time ≤ us[k].1.time
        omega
      · simp only at h
        have : k = n := by omega
        subst this
        rw [hw]; exact Int.le_refl _
    · repeat first
        | with_reducible refine AWP.seq ?_
        | ((with_reducible refine AWP.region ?_ ?_); exact rfl)
        | with_reducible refine AWP.block ?_
        | with_reducible refine AWP.skip ?_
        | with_reducible refine AWP.exit ?_
        | with_reducible refine AWP.ret ?_
        | with_reducible refine AWP.label ?_
        | with_reducible refine AWP.goto ?_
        | ((with_reducible refine AWP.condT ?_ ?_); focus (simp only [ev, lk_cons, ↓reduceIte, Nat.reduceEqDiff]; done))
        | ((with_reducible refine AWP.condF ?_ ?_); focus (simp only [ev, lk_cons, ↓reduceIte, Nat.reduceEqDiff]; done))
        | simp only [go_sem, ↓reduceIte, Nat.reduceEqDiff, reduceCtorEq, Nat.reduceAdd, Int.reduceEq, Int.reduceBNe, Int.reduceBEq, Int.reduceToNat, Int.reduceLT, Int.reduceLE, Int.reduceGT, Int.reduceGE, Nat.reduceSub, Nat.reduceBEq, Nat.reduceBNe, Int.reduceAdd, Int.reduceSub, Int.reduceMul, Int.reduceNeg, Nat.reduceMul, Nat.reduceLeDiff, Nat.reduceLT, hc']
        | simp (disch := omega) only [wi64, wu8, wu16, wu32, wu64, Int.tdiv_eq_ediv_of_nonneg, Int.tmod_eq_emod_of_nonneg]
        | with_reducible_and_instances exact finR
        | ((with_reducible refine finR' ?_ ?_) <;> rfl)
        | ((with_reducible refine finD hsc (NRel.of_plain ?_)); exact rfl)
      refine AWP.regionK 6 (by kernel_rfl) (by decide) (by kernel_rfl) ?_
      repeat first
        | with_reducible refine AWP.seq ?_
        | ((with_reducible refine AWP.region ?_ ?_); exact rfl)
        | with_reducible refine AWP.block ?_
        | with_reducible refine AWP.skip ?_
        | with_reducible refine AWP.exit ?_
        | with_reducible refine AWP.ret ?_
        | with_reducible refine AWP.label ?_
        | with_reducible refine AWP.goto ?_
        | ((with_reducible refine AWP.condT ?_ ?_); focus (simp only [ev, lk_cons, ↓reduceIte, Nat.reduceEqDiff]; done))
        | ((with_reducible refine AWP.condF ?_ ?_); focus (simp only [ev, lk_cons, ↓reduceIte, Nat.reduceEqDiff]; done))
        | simp only [go_sem, ↓reduceIte, Nat.reduceEqDiff, reduceCtorEq, Nat.reduceAdd, Int.reduceEq, Int.reduceBNe, Int.reduceBEq, Int.reduceToNat, Int.reduceLT, Int.reduceLE, Int.reduceGT, Int.reduceGE, Nat.reduceSub, Nat.reduceBEq, Nat.reduceBNe, Int.reduceAdd, Int.reduceSub, Int.reduceMul, Int.reduceNeg, Nat.reduceMul, Nat.reduceLeDiff, Nat.reduceLT, hc', hj, hjl, hgetl, cn, ln, List.map_cons, List.map_nil]
        | simp (disch := omega) only [wi64, wu8, wu16, wu32, wu64, Int.tdiv_eq_ediv_of_nonneg, Int.tmod_eq_emod_of_nonneg]
        | with_reducible_and_instances exact finR
        | ((with_reducible refine finR' ?_ ?_) <;> rfl)
        | ((with_reducible refine finD hsc (NRel.of_plain ?_)); exact rfl)
      repeat first
        | with_reducible refine AWP.seq ?_
        | ((with_reducible refine AWP.region ?_ ?_); exact rfl)
        | with_reducible refine AWP.block ?_
        | with_reducible refine AWP.skip ?_
        | with_reducible refine AWP.exit ?_
        | with_reducible refine AWP.ret ?_
        | with_reducible refine AWP.label ?_
        | with_reducible refine AWP.goto ?_
        | ((with_reducible refine AWP.condT ?_ ?_); focus (simp only [ev, lk_cons, ↓reduceIte, Nat.reduceEqDiff]; done))
        | ((with_reducible refine AWP.condF ?_ ?_); focus (simp only [ev, lk_cons, ↓reduceIte, Nat.reduceEqDiff]; done))
        | with_reducible refine (hcm _).use ?_
        | simp only [go_sem, ↓reduceIte, Nat.reduceEqDiff, reduceCtorEq, Nat.reduceAdd, Int.reduceEq, Int.reduceBNe, Int.reduceBEq, Int.reduceToNat, Int.reduceLT, Int.reduceLE, Int.reduceGT, Int.reduceGE, Nat.reduceSub, Nat.reduceBEq, Nat.reduceBNe, Int.reduceAdd, Int.reduceSub, Int.reduceMul, Int.reduceNeg, Nat.reduceMul, Nat.reduceLeDiff, Nat.reduceLT, hc', hj, hjl, hgetl, cn, ln, hlt, hwn, List.map_cons, List.map_nil]
        | simp (disch := omega) only [wi64, wu8, wu16, wu32, wu64, Int.tdiv_eq_ediv_of_nonneg, Int.tmod_eq_emod_of_nonneg]
        | with_reducible_and_instances exact finR
        | ((with_reducible refine finR' ?_ ?_) <;> rfl)
        | ((with_reducible refine finD hsc (NRel.of_plain ?_)); exact rfl)
      refine ⟨(n + 1, u, X), by rw [eu]; exact Weak.env (by simp [envIn, lk_cons, wth_some]), by show n + 1 ≤ _; omega, hu, fun k hk h => ?_, by show us.length - (n + 1) < _; omega⟩
      rcases Nat.lt_or_ge k n with h3 | h3
      · exact hall k hk h3
      · simp only at h
        have : k = n := by omega
        subst this
        rw [hw]; show u.1.time ≤ w.1.time; omega
  · have hc' : ¬ (n : Int) < (us.length : Int) := by omega
    have : n = us.length := by omega
    subst this
    rw [eu]
    repeat first
      | with_reducible refine AWP.seq ?_
      | ((with_reducible refine AWP.region ?_ ?_); exact rfl)
      | with_reducible refine AWP.block ?_
      | with_reducible refine AWP.skip ?_
      | with_reducible refine AWP.exit ?_
      | with_reducible refine AWP.ret ?_
      | with_reducible refine AWP.label ?_
      | with_reducible refine AWP.goto ?_
      | ((with_reducible refine AWP.condT ?_ ?_); focus (simp only [ev, lk_cons, ↓reduceIte, Nat.reduceEqDiff]; done))
      | ((with_reducible refine AWP.condF ?_ ?_); focus (simp only [ev, lk_cons, ↓reduceIte, Nat.reduceEqDiff]; done))
      | simp only [go_sem, ↓reduceIte, Nat.reduceEqDiff, reduceCtorEq, Nat.reduceAdd, Int.reduceEq, Int.reduceBNe, Int.reduceBEq, Int.reduceToNat, Int.reduceLT, Int.reduceLE, Int.reduceGT, Int.reduceGE, Nat.reduceSub, Nat.reduceBEq, Nat.reduceBNe, Int.reduceAdd, Int.reduceSub, Int.reduceMul, Int.reduceNeg, Nat.reduceMul, Nat.reduceLeDiff, Nat.reduceLT, hc']
      | simp (disch := omega) only [wi64, wu8, wu16, wu32, wu64, Int.tdiv_eq_ediv_of_nonneg, Int.tmod_eq_emod_of_nonneg]
      | with_reducible_and_instances exact finR
      | ((with_reducible refine finR' ?_ ?_) <;> rfl)
      | ((with_reducible refine finD hsc (NRel.of_plain ?_)); exact rfl)
    refine ⟨_, _, .refl _ _ _, u, hu, fun w hw => ?_, ?_, Frm.app⟩
    · obtain ⟨k, hk, rfl⟩ := List.getElem_of_mem hw
      exact hall k hk hk
    · show _ = ARes.ret (.agg ⟨[.int .i64 u.1.time, .int .i64 u.1.id, .int .i64 u.1.copy, u.2]⟩)
      rw [eu]
theorem Next {H : AHeap} {i : Nat} {s : Lk} {S : List Nat} (h : LkAt H i s S) (h0 : 0 < s.under.length) (hsz : s.under.length < 1099511627776) (hb : ∀ x ∈ s.under, x.inB) :
    AC Try.prog 48 [.pointer (some ⟨i, 0, none⟩)] H (fun r H1 => ∃ x ∈ s.under, (∀ y ∈ s.under, x.time ≤ y.time) ∧ r = .ret (.tuple ⟨[.int .i64 x.time, .int .i64 0]⟩) ∧ Frm [] H H1) := by
  obtain ⟨vn, vw, vu, us, Su, ⟨hi, -, -, hund, ho, hgv⟩, rfl⟩ := h
  have hlu : s.under.length = us.length := by rw [← hund, List.length_map]
  have q : ∀ H' K, lenW Try.prog 59 vu H' K = K (.int .i64 (us.length : Nat)) H' := fun H' K => OwnL.lenT ho (by simp only [go_sem, ↓reduceIte, Nat.reduceEqDiff, reduceCtorEq, Nat.reduceAdd, Int.reduceEq, Int.reduceBNe, Int.reduceBEq, Int.reduceToNat, Int.reduceLT, Int.reduceLE, Int.reduceGT, Int.reduceGE, Nat.reduceSub, Nat.reduceBEq, Nat.reduceBNe, Int.reduceAdd, Int.reduceSub, Int.reduceMul, Int.reduceNeg, Nat.reduceMul, Nat.reduceLeDiff, Nat.reduceLT])
  have hm : ∀ u ∈ us, u.1 ∈ s.under := fun u hu => hund ▸ List.mem_map_of_mem hu
  have hM := minFunc ho (by omega) (by omega) (fun u hu => (hb _ (hm u hu)).1) (fun u hu => (hgv u hu).form)
  have hne : ((us.length : Int) == 0) = false := by rw [beq_eq_false_iff_ne]; omega
  unfold Lk.c at hi
  refine AC.enter Try.func48 rfl (by kernel_rfl) 20 rfl [.tmp 2, .tmp 3] rfl (by simp) fun hsc B => ?_
  repeat first
    | with_reducible refine AWP.seq ?_
    | ((with_reducible refine AWP.region ?_ ?_); exact rfl)
    | with_reducible refine AWP.block ?_
    | with_reducible refine AWP.skip ?_
    | with_reducible refine AWP.exit ?_
    | with_reducible refine AWP.ret ?_
    | with_reducible refine AWP.label ?_
    | with_reducible refine AWP.goto ?_
    | ((with_reducible refine AWP.condT ?_ ?_); focus (simp only [ev, lk_cons, ↓reduceIte, Nat.reduceEqDiff]; done))
    | ((with_reducible refine AWP.condF ?_ ?_); focus (simp only [ev, lk_cons, ↓reduceIte, Nat.reduceEqDiff]; done))
    | simp only [go_sem, ↓reduceIte, Nat.reduceEqDiff, reduceCtorEq, Nat.reduceAdd, Int.reduceEq, Int.reduceBNe, Int.reduceBEq, Int.reduceToNat, Int.reduceLT, Int.reduceLE, Int.reduceGT, Int.reduceGE, Nat.reduceSub, Nat.reduceBEq, Nat.reduceBNe, Int.reduceAdd, Int.reduceSub, Int.reduceMul, Int.reduceNeg, Nat.reduceMul, Nat.reduceLeDiff, Nat.reduceLT, hi, q, hne]
    | simp (disch := omega) only [wi64, wu8, wu16, wu32, wu64, Int.tdiv_eq_ediv_of_nonneg, Int.tmod_eq_emod_of_nonneg]
    | with_reducible_and_instances exact finR
    | ((with_reducible refine finR' ?_ ?_) <;> rfl)
    | ((with_reducible refine finD hsc (NRel.of_plain ?_)); exact rfl)
  refine AC.mono hM ?_
  rintro r H1 ⟨u, hu, hmin, rfl, hf⟩
  have hz : cmC u = [.int .i64 u.1.time, .int .i64 u.1.id, .int .i64 u.1.copy, u.2] := rfl
  rw [hz]
  repeat first
    | with_reducible refine AWP.seq ?_
    | ((with_reducible refine AWP.region ?_ ?_); exact rfl)
    | with_reducible refine AWP.block ?_
    | with_reducible refine AWP.skip ?_
    | with_reducible refine AWP.exit ?_
    | with_reducible refine AWP.ret ?_
    | with_reducible refine AWP.label ?_
    | with_reducible refine AWP.goto ?_
    | ((with_reducible refine AWP.condT ?_ ?_); focus (simp only [ev, lk_cons, ↓reduceIte, Nat.reduceEqDiff]; done))
    | ((with_reducible refine AWP.condF ?_ ?_); focus (simp only [ev, lk_cons, ↓reduceIte, Nat.reduceEqDiff]; done))
    | simp only [go_sem, ↓reduceIte, Nat.reduceEqDiff, reduceCtorEq, Nat.reduceAdd, Int.reduceEq, Int.reduceBNe, Int.reduceBEq, Int.reduceToNat, Int.reduceLT, Int.reduceLE, Int.reduceGT, Int.reduceGE, Nat.reduceSub, Nat.reduceBEq, Nat.reduceBNe, Int.reduceAdd, Int.reduceSub, Int.reduceMul, Int.reduceNeg, Nat.reduceMul, Nat.reduceLeDiff, Nat.reduceLT]
    | simp (disch := omega) only [wi64, wu8, wu16, wu32, wu64, Int.tdiv_eq_ediv_of_nonneg, Int.tmod_eq_emod_of_nonneg]
    | with_reducible_and_instances exact finR
    | ((with_reducible refine finR' ?_ ?_) <;> rfl)
    | ((with_reducible refine finD hsc (NRel.of_plain ?_)); exact rfl)
  exact ⟨_, _, .refl _ _ _, u.1, hm u hu, fun y hy => by
    rw [← hund] at hy
    obtain ⟨w, hw, rfl⟩ := List.mem_map.1 hy
    exact hmin w hw, rfl, hf⟩
theorem NextNo {H : AHeap} {i : Nat} {s : Lk} {S : List Nat} (h : LkAt H i s S) (h0 : s.under = []) : ARet Try.prog 48 [.pointer (some ⟨i, 0, none⟩)] H (.tuple ⟨[.int .i64 0, .int .i64 8]⟩) H := by
  obtain ⟨vn, vw, vu, us, Su, ⟨hi, -, -, hund, ho, hgv⟩, rfl⟩ := h
  have hlu : us.length = 0 := by rw [← List.length_map (f := fun x : Cm × Value => x.1), hund, h0]; rfl
  have q : ∀ H' K, lenW Try.prog 59 vu H' K = K (.int .i64 (0 : Nat)) H' := fun H' K => by rw [OwnL.lenT ho (by simp only [go_sem, ↓reduceIte, Nat.reduceEqDiff, reduceCtorEq, Nat.reduceAdd, Int.reduceEq, Int.reduceBNe, Int.reduceBEq, Int.reduceToNat, Int.reduceLT, Int.reduceLE, Int.reduceGT, Int.reduceGE, Nat.reduceSub, Nat.reduceBEq, Nat.reduceBNe, Int.reduceAdd, Int.reduceSub, Int.reduceMul, Int.reduceNeg, Nat.reduceMul, Nat.reduceLeDiff, Nat.reduceLT]), hlu]
  unfold Lk.c at hi
  refine AC.enter Try.func48 rfl (by kernel_rfl) 20 rfl [.tmp 2, .tmp 3] rfl (by simp) fun hsc B => ?_
  repeat first
    | with_reducible refine AWP.seq ?_
    | ((with_reducible refine AWP.region ?_ ?_); exact rfl)
    | with_reducible refine AWP.block ?_
    | with_reducible refine AWP.skip ?_
    | with_reducible refine AWP.exit ?_
    | with_reducible refine AWP.ret ?_
    | with_reducible refine AWP.label ?_
    | with_reducible refine AWP.goto ?_
    | ((with_reducible refine AWP.condT ?_ ?_); focus (simp only [ev, lk_cons, ↓reduceIte, Nat.reduceEqDiff]; done))
    | ((with_reducible refine AWP.condF ?_ ?_); focus (simp only [ev, lk_cons, ↓reduceIte, Nat.reduceEqDiff]; done))
    | simp only [go_sem, ↓reduceIte, Nat.reduceEqDiff, reduceCtorEq, Nat.reduceAdd, Int.reduceEq, Int.reduceBNe, Int.reduceBEq, Int.reduceToNat, Int.reduceLT, Int.reduceLE, Int.reduceGT, Int.reduceGE, Nat.reduceSub, Nat.reduceBEq, Nat.reduceBNe, Int.reduceAdd, Int.reduceSub, Int.reduceMul, Int.reduceNeg, Nat.reduceMul, Nat.reduceLeDiff, Nat.reduceLT, hi, q]
    | simp (disch := omega) only [wi64, wu8, wu16, wu32, wu64, Int.tdiv_eq_ediv_of_nonneg, Int.tmod_eq_emod_of_nonneg]
    | with_reducible_and_instances exact finR
    | ((with_reducible refine finR' ?_ ?_) <;> rfl)
    | ((with_reducible refine finD hsc (NRel.of_plain ?_)); exact rfl)
end Go.Proofs.Ytnfkbgpbligloaa
