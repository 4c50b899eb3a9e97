/-
  The walk of tokens' specification: until when a token is right; how often an IP announced.
-/
import Derived.Test.YtmpkgdilmkeacaaDoorS2
set_option linter.unusedVariables false
set_option linter.unusedSimpArgs false
set_option maxRecDepth 20000
set_option maxHeartbeats 4000000
namespace Go.Proofs.YtmpkgdilmkeacaaDoor
open Go Go.Aw Go.Proofs Go.Shelf Go.RowKit Go.ChangeShapes
def rUntilL (R : Rk) (a : Ad) (tok : List UInt8) : Int := (holdsL R).foldl (stepL a tok) (-1)
theorem holdsL_len (R : Rk) : ∀ e ∈ holdsL R, e.1.length = 32 := by
  intro e he
  unfold holdsL at he
  split at he
  · simp only [List.mem_cons, List.not_mem_nil, or_false] at he
    rcases he with rfl | rfl <;> exact secL_len _ _
  · split at he
    · simp only [List.mem_cons, List.not_mem_nil, or_false] at he
      rcases he with rfl | rfl <;> exact secL_len _ _
    · simp only [List.mem_cons, List.not_mem_nil, or_false] at he
      rw [he]; exact secL_len _ _
theorem holdsL_le (R : Rk) : (holdsL R).length ≤ 2 := by
  unfold holdsL
  split
  · simp
  · split <;> simp
theorem rUntilW (R : Rk) (hok : R.ok) (i js jt : Nat) (a : Ad) (ha : a.ok = true) (tok : List UInt8) (H : AHeap) (h : Rst H i js jt R) :
    ARet Tryd.prog 84 [.pointer (some ⟨i, 0, none⟩), a.v, .string (bs tok)] H (.int .i64 (rUntilL R a tok)) H := by
  have hlen := holdsL_len R
  have hle2 := holdsL_le R
  obtain ⟨z, hz, hH⟩ := holds R hok i js jt (H ++ [.cells [.int .i64 a.fam, .string (bs a.ip), .int .i64 a.port] ⟨23, 0, true, 0, none⟩]) (h.more _)
  have hM := fun s hs H => made s hs a ha H
  have hat := hoC_at (holdsL R)
  have hcl := hoC_len (holdsL R)
  unfold rUntilL
  have hstep : ∀ mx e, stepL a tok mx e = if tokL e.1 a = tok then max mx e.2 else mx := fun _ _ => rfl
  generalize stepL a tok = stp at *
  generalize holdsL R = l at *
  unfold Ad.v at hM ⊢
  simp only [List.length_append, List.length_singleton, List.append_assoc, List.cons_append, List.nil_append] at hH
  refine AC.enter Tryd.func84 rfl (by kernel_rfl) 29 rfl [.tmp 6] rfl (by simp) fun hsc B => ?_
  repeat first
    | with_reducible refine AWP.seq ?_
    | ((with_reducible refine AWP.region ?_ ?_); exact rfl)
    | with_reducible refine AWP.block ?_
    | with_reducible refine AWP.skip ?_
    | with_reducible refine AWP.exit ?_
    | with_reducible refine AWP.ret ?_
    | with_reducible refine AWP.label ?_
    | with_reducible refine AWP.goto ?_
    | ((with_reducible refine AWP.condT ?_ ?_); focus (simp only [ev, lk_cons, ↓reduceIte, Nat.reduceEqDiff]; done))
    | ((with_reducible refine AWP.condF ?_ ?_); focus (simp only [ev, lk_cons, ↓reduceIte, Nat.reduceEqDiff]; done))
    | with_reducible refine hH.use ?_
    | simp only [go_sem, ↓reduceIte, Nat.reduceEqDiff, reduceCtorEq, Nat.reduceAdd, Int.reduceEq, Int.reduceBNe, Int.reduceBEq, Int.reduceToNat, Int.reduceLT, Int.reduceLE, Int.reduceGT, Int.reduceGE, Nat.reduceSub, Nat.reduceBEq, Nat.reduceBNe, Int.reduceAdd, Int.reduceSub, Int.reduceMul, Int.reduceNeg, Nat.reduceMul, Nat.reduceLeDiff, Nat.reduceLT]
    | simp (disch := omega) only [wi64, wu8, wu16, wu32, wu64, Int.tdiv_eq_ediv_of_nonneg, Int.tmod_eq_emod_of_nonneg]
    | with_reducible_and_instances exact finR
    | ((with_reducible refine finR' ?_ ?_) <;> rfl)
    | ((with_reducible refine finD hsc (NRel.of_plain ?_)); exact rfl)
  refine AWP.loopP (fun s : Nat × AHeap => ⟨[(2, .string (bs tok)), (4, .pointer (some ⟨H.length, 0, none⟩)), (7, .int .i64 ((l.take s.1).foldl stp (-1))), (11, .slice (some ⟨H.length + 1, 0, none⟩) l.length l.length), (12, .int .i64 (l.length : Nat)), (13, .int .i64 (s.1 : Nat))], [],
      H ++ (.cells [.int .i64 a.fam, .string (bs a.ip), .int .i64 a.port] ⟨23, 0, true, 0, none⟩ :: .cells (hoC l) ⟨109, z, true, 0, none⟩ :: s.2)⟩) (fun s => s.1 ≤ l.length) (fun s => l.length - s.1) (0, []) ?_ (Nat.zero_le _) ?_
  · exact Weak.env (by simp [envIn, lk_cons, wth_some])
  rintro ⟨n, X⟩ hn
  simp only at hn ⊢
  by_cases hc : n < l.length
  · have hc' : (n : Int) < (l.length : Int) := by omega
    have hmem := hlen _ (List.getElem_mem hc)
    have hfold : (l.take (n + 1)).foldl stp (-1) = stp ((l.take n).foldl stp (-1)) l[n] := by
      rw [List.take_add_one, List.getElem?_eq_getElem hc, List.foldl_append]; rfl
    rw [hstep] at hfold
    have hat1 := hat n hc
    obtain ⟨s, u, h0⟩ : ∃ s u, l[n] = (s, u) := ⟨_, _, rfl⟩
    simp only [h0] at hfold hmem hat1
    have hM1 := hM s (by omega)
    have hle : n * 2 + 2 ≤ (hoC l).length := by omega
    have b0 : 0 + n * 2 = n * 2 := Nat.zero_add _
    generalize (l.take n).foldl stp (-1) = mx at *
    generalize tokL s a = tk at *
    by_cases hb : tk = tok
    · rw [if_pos hb] at hfold
      have hb' : (tk == tok) = true := beq_iff_eq.2 hb
      repeat' first
        | omega
        | with_reducible refine And.intro ?_ ?_
        | with_reducible refine AWP.seq ?_
        | ((with_reducible refine AWP.region ?_ ?_); exact rfl)
        | with_reducible refine AWP.block ?_
        | with_reducible refine AWP.skip ?_
        | with_reducible refine AWP.exit ?_
        | with_reducible refine AWP.ret ?_
        | with_reducible refine AWP.label ?_
        | with_reducible refine AWP.goto ?_
        | ((with_reducible refine AWP.condT ?_ ?_); focus (simp only [ev, lk_cons, ↓reduceIte, Nat.reduceEqDiff]; done))
        | ((with_reducible refine AWP.condF ?_ ?_); focus (simp only [ev, lk_cons, ↓reduceIte, Nat.reduceEqDiff]; done))
        | with_reducible refine (hM1 _).use ?_
        | simp only [go_sem, ↓reduceIte, Nat.reduceEqDiff, reduceCtorEq, Nat.reduceAdd, Int.reduceEq, Int.reduceBNe, Int.reduceBEq, Int.reduceToNat, Int.reduceLT, Int.reduceLE, Int.reduceGT, Int.reduceGE, Nat.reduceSub, Nat.reduceBEq, Nat.reduceBNe, Int.reduceAdd, Int.reduceSub, Int.reduceMul, Int.reduceNeg, Nat.reduceMul, Nat.reduceLeDiff, Nat.reduceLT, hc', hat1, hle, b0, hb', minMaxW]
        | simp (disch := omega) only [wi64, wu8, wu16, wu32, wu64, Int.tdiv_eq_ediv_of_nonneg, Int.tmod_eq_emod_of_nonneg]
        | with_reducible_and_instances exact finR
        | ((with_reducible refine finR' ?_ ?_) <;> rfl)
        | ((with_reducible refine finD hsc (NRel.of_plain ?_)); exact rfl)
      exact ⟨(n + 1, X ++ [.cells [.string (bs s), .int .i64 u] ⟨109, 0, true, 0, none⟩]), by rw [hfold]; exact Weak.env (by simp [envIn, lk_cons, wth_some]), by simp only; omega, by simp only; omega⟩
    · rw [if_neg hb] at hfold
      have hb' : (tk == tok) = false := beq_eq_false_iff_ne.2 hb
      repeat' first
        | omega
        | with_reducible refine And.intro ?_ ?_
        | with_reducible refine AWP.seq ?_
        | ((with_reducible refine AWP.region ?_ ?_); exact rfl)
        | with_reducible refine AWP.block ?_
        | with_reducible refine AWP.skip ?_
        | with_reducible refine AWP.exit ?_
        | with_reducible refine AWP.ret ?_
        | with_reducible refine AWP.label ?_
        | with_reducible refine AWP.goto ?_
        | ((with_reducible refine AWP.condT ?_ ?_); focus (simp only [ev, lk_cons, ↓reduceIte, Nat.reduceEqDiff]; done))
        | ((with_reducible refine AWP.condF ?_ ?_); focus (simp only [ev, lk_cons, ↓reduceIte, Nat.reduceEqDiff]; done))
        | with_reducible refine (hM1 _).use ?_
        | simp only [go_sem, ↓reduceIte, Nat.reduceEqDiff, reduceCtorEq, Nat.reduceAdd, Int.reduceEq, Int.reduceBNe, Int.reduceBEq, Int.reduceToNat, Int.reduceLT, Int.reduceLE, Int.reduceGT, Int.reduceGE, Nat.reduceSub, Nat.reduceBEq, Nat.reduceBNe, Int.reduceAdd, Int.reduceSub, Int.reduceMul, Int.reduceNeg, Nat.reduceMul, Nat.reduceLeDiff, Nat.reduceLT, hc', hat1, hle, b0, hb']
        | simp (disch := omega) only [wi64, wu8, wu16, wu32, wu64, Int.tdiv_eq_ediv_of_nonneg, Int.tmod_eq_emod_of_nonneg]
        | with_reducible_and_instances exact finR
        | ((with_reducible refine finR' ?_ ?_) <;> rfl)
        | ((with_reducible refine finD hsc (NRel.of_plain ?_)); exact rfl)
      exact ⟨(n + 1, X ++ [.cells [.string (bs s), .int .i64 u] ⟨109, 0, true, 0, none⟩]), by rw [hfold]; exact Weak.env (by simp [envIn, lk_cons, wth_some]), by simp only; omega, by simp only; omega⟩
  · have : n = l.length := by omega
    subst this
    have hc' : ¬ (l.length : Int) < (l.length : Int) := by omega
    rw [List.take_length]
    repeat first
      | with_reducible refine AWP.seq ?_
      | ((with_reducible refine AWP.region ?_ ?_); exact rfl)
      | with_reducible refine AWP.block ?_
      | with_reducible refine AWP.skip ?_
      | with_reducible refine AWP.exit ?_
      | with_reducible refine AWP.ret ?_
      | with_reducible refine AWP.label ?_
      | with_reducible refine AWP.goto ?_
      | ((with_reducible refine AWP.condT ?_ ?_); focus (simp only [ev, lk_cons, ↓reduceIte, Nat.reduceEqDiff]; done))
      | ((with_reducible refine AWP.condF ?_ ?_); focus (simp only [ev, lk_cons, ↓reduceIte, Nat.reduceEqDiff]; done))
      | simp only [go_sem, ↓reduceIte, Nat.reduceEqDiff, reduceCtorEq, Nat.reduceAdd, Int.reduceEq, Int.reduceBNe, Int.reduceBEq, Int.reduceToNat, Int.reduceLT, Int.reduceLE, Int.reduceGT, Int.reduceGE, Nat.reduceSub, Nat.reduceBEq, Nat.reduceBNe, Int.reduceAdd, Int.reduceSub, Int.reduceMul, Int.reduceNeg, Nat.reduceMul, Nat.reduceLeDiff, Nat.reduceLT, hc']
      | simp (disch := omega) only [wi64, wu8, wu16, wu32, wu64, Int.tdiv_eq_ediv_of_nonneg, Int.tmod_eq_emod_of_nonneg]
      | with_reducible_and_instances exact finR
      | ((with_reducible refine finR' ?_ ?_) <;> rfl)
      | ((with_reducible refine finD hsc (NRel.of_plain ?_)); exact rfl)
def cntP (p : Int) (ip : List UInt8) (e : Int × List UInt8) : Bool := e.1 == p && e.2 == ip
def countL (R : Rk) (ip : List UInt8) : Nat := (R.taken.filter (cntP (R.now / R.per) ip)).length
theorem rCount (R : Rk) (hok : R.ok) (i js jt : Nat) (ip : List UInt8) (H : AHeap) (h : Rst H i js jt R) :
    ARet Tryd.prog 85 [.pointer (some ⟨i, 0, none⟩), .string (bs ip)] H (.int .i64 (countL R ip : Nat)) H := by
  have hi := h.at_
  unfold rkC at hi
  have hil := lt_of_get hi
  have hn0 := hok.now0
  have hn1 := hok.now1
  have hp0 := hok.per0
  have hpz : ¬ R.per = 0 := by omega
  have htl := hok.tl
  obtain ⟨q0, q1⟩ := per_q (t := R.now) (p := R.per) (by omega) (by omega) hp0
  have hq : R.now.tdiv R.per = R.now / R.per := Int.tdiv_eq_ediv_of_nonneg hn0
  have hwq : IntKind.i64.wrap (R.now / R.per) = R.now / R.per := wi64 (by omega)
  have hat := prC_at R.taken
  have hcl := prC_len R.taken
  have ht := h.ht
  unfold countL
  have hcnt : ∀ e, cntP (R.now / R.per) ip e = (e.1 == R.now / R.per && e.2 == ip) := fun _ => rfl
  generalize cntP (R.now / R.per) ip = cp at *
  generalize hl : R.taken = l at *
  refine AC.enter Tryd.func85 rfl (by kernel_rfl) 39 rfl [.tmp 4] rfl (by simp) fun hsc B => ?_
  repeat first
    | with_reducible refine AWP.seq ?_
    | ((with_reducible refine AWP.region ?_ ?_); exact rfl)
    | with_reducible refine AWP.block ?_
    | with_reducible refine AWP.skip ?_
    | with_reducible refine AWP.exit ?_
    | with_reducible refine AWP.ret ?_
    | with_reducible refine AWP.label ?_
    | with_reducible refine AWP.goto ?_
    | ((with_reducible refine AWP.condT ?_ ?_); focus (simp only [ev, lk_cons, ↓reduceIte, Nat.reduceEqDiff]; done))
    | ((with_reducible refine AWP.condF ?_ ?_); focus (simp only [ev, lk_cons, ↓reduceIte, Nat.reduceEqDiff]; done))
    | simp only [go_sem, ↓reduceIte, Nat.reduceEqDiff, reduceCtorEq, Nat.reduceAdd, Int.reduceEq, Int.reduceBNe, Int.reduceBEq, Int.reduceToNat, Int.reduceLT, Int.reduceLE, Int.reduceGT, Int.reduceGE, Nat.reduceSub, Nat.reduceBEq, Nat.reduceBNe, Int.reduceAdd, Int.reduceSub, Int.reduceMul, Int.reduceNeg, Nat.reduceMul, Nat.reduceLeDiff, Nat.reduceLT, hi, lenW_gt]
    | simp (disch := omega) only [wi64, wu8, wu16, wu32, wu64, Int.tdiv_eq_ediv_of_nonneg, Int.tmod_eq_emod_of_nonneg]
    | with_reducible_and_instances exact finR
    | ((with_reducible refine finR' ?_ ?_) <;> rfl)
    | ((with_reducible refine finD hsc (NRel.of_plain ?_)); exact rfl)
  refine AWP.loopP (fun s : Nat × AHeap => ⟨[(0, .pointer (some ⟨i, 0, none⟩)), (1, .string (bs ip)), (5, .int .i64 (((l.take s.1).filter cp).length : Nat)), (11, gS jt l.length), (12, .int .i64 (l.length : Nat)), (13, .int .i64 (s.1 : Nat))], [], H ++ s.2⟩) (fun s => s.1 ≤ l.length) (fun s => l.length - s.1) (0, []) ?_ (Nat.zero_le _) ?_
  · simp only [List.append_nil]
    exact Weak.env (by simp [envIn, lk_cons, wth_some])
  rintro ⟨n, X⟩ hn
  simp only at hn ⊢
  by_cases hc : n < l.length
  · have hc' : (n : Int) < (l.length : Int) := by omega
    have hne : l ≠ [] := fun e => by rw [e] at hc; simp at hc
    obtain ⟨z, hz, ht1⟩ := ht hne
    have hjl := lt_of_get ht1
    have hat1 := hat n hc
    have hfl : ((l.take (n + 1)).filter cp).length = ((l.take n).filter cp).length + if cp l[n] = true then 1 else 0 := by
      rw [List.take_add_one, List.getElem?_eq_getElem hc, List.filter_append, List.length_append]
      congr 1
      show (List.filter cp [l[n]]).length = _
      by_cases hb : cp l[n] = true
      · simp [hb]
      · simp [hb]
    have hfle : ((l.take n).filter cp).length ≤ n := Nat.le_trans (List.length_filter_le _ _) (by rw [List.length_take]; omega)
    rw [hcnt] at hfl
    obtain ⟨t, q, h0⟩ : ∃ t q, l[n] = (t, q) := ⟨_, _, rfl⟩
    simp only [h0] at hfl hat1
    have hle : n * 2 + 2 ≤ (prC l).length := by omega
    have b0 : 0 + n * 2 = n * 2 := Nat.zero_add _
    rw [gS_pos (by omega)]
    generalize ((l.take n).filter cp).length = c at *
    have hw : IntKind.i64.wrap ((c : Int) + 1) = ((c + 1 : Nat) : Int) := by rw [wi64 (by omega)]; omega
    repeat' first
      | omega
      | with_reducible refine And.intro ?_ ?_
      | with_reducible refine AWP.seq ?_
      | ((with_reducible refine AWP.region ?_ ?_); exact rfl)
      | with_reducible refine AWP.block ?_
      | with_reducible refine AWP.skip ?_
      | with_reducible refine AWP.exit ?_
      | with_reducible refine AWP.ret ?_
      | with_reducible refine AWP.label ?_
      | with_reducible refine AWP.goto ?_
      | ((with_reducible refine AWP.condT ?_ ?_); focus (simp only [ev, lk_cons, ↓reduceIte, Nat.reduceEqDiff]; done))
      | ((with_reducible refine AWP.condF ?_ ?_); focus (simp only [ev, lk_cons, ↓reduceIte, Nat.reduceEqDiff]; done))
      | simp only [go_sem, ↓reduceIte, Nat.reduceEqDiff, reduceCtorEq, Nat.reduceAdd, Int.reduceEq, Int.reduceBNe, Int.reduceBEq, Int.reduceToNat, Int.reduceLT, Int.reduceLE, Int.reduceGT, Int.reduceGE, Nat.reduceSub, Nat.reduceBEq, Nat.reduceBNe, Int.reduceAdd, Int.reduceSub, Int.reduceMul, Int.reduceNeg, Nat.reduceMul, Nat.reduceLeDiff, Nat.reduceLT, hc', ht1, hjl, hgetl, hat1, hle, b0]
      | simp (disch := omega) only [wi64, wu8, wu16, wu32, wu64, Int.tdiv_eq_ediv_of_nonneg, Int.tmod_eq_emod_of_nonneg]
      | with_reducible_and_instances exact finR
      | ((with_reducible refine finR' ?_ ?_) <;> rfl)
      | ((with_reducible refine finD hsc (NRel.of_plain ?_)); exact rfl)
    refine AWP.regionK 18 (by kernel_rfl) (by decide) (by kernel_rfl) ?_
    by_cases hb : t = R.now / R.per
    · have hb' : (t == R.now / R.per) = true := beq_iff_eq.2 hb
      rw [hb'] at hfl
      by_cases hb2 : q = ip
      · have hb2' : (q == ip) = true := beq_iff_eq.2 hb2
        rw [hb2'] at hfl
        simp only [Bool.and_self, if_true] at hfl
        repeat first
          | with_reducible refine AWP.seq ?_
          | ((with_reducible refine AWP.region ?_ ?_); exact rfl)
          | with_reducible refine AWP.block ?_
          | with_reducible refine AWP.skip ?_
          | with_reducible refine AWP.exit ?_
          | with_reducible refine AWP.ret ?_
          | with_reducible refine AWP.label ?_
          | with_reducible refine AWP.goto ?_
          | ((with_reducible refine AWP.condT ?_ ?_); focus (simp only [ev, lk_cons, ↓reduceIte, Nat.reduceEqDiff]; done))
          | ((with_reducible refine AWP.condF ?_ ?_); focus (simp only [ev, lk_cons, ↓reduceIte, Nat.reduceEqDiff]; done))
          | simp only [go_sem, ↓reduceIte, Nat.reduceEqDiff, reduceCtorEq, Nat.reduceAdd, Int.reduceEq, Int.reduceBNe, Int.reduceBEq, Int.reduceToNat, Int.reduceLT, Int.reduceLE, Int.reduceGT, Int.reduceGE, Nat.reduceSub, Nat.reduceBEq, Nat.reduceBNe, Int.reduceAdd, Int.reduceSub, Int.reduceMul, Int.reduceNeg, Nat.reduceMul, Nat.reduceLeDiff, Nat.reduceLT, hi, hil, hgetl, hpz, hq, hwq, hb', hb2', hw, exists_eq_left]
          | simp (disch := omega) only [wi64, wu8, wu16, wu32, wu64, Int.tdiv_eq_ediv_of_nonneg, Int.tmod_eq_emod_of_nonneg]
          | with_reducible_and_instances exact finR
          | ((with_reducible refine finR' ?_ ?_) <;> rfl)
          | ((with_reducible refine finD hsc (NRel.of_plain ?_)); exact rfl)
        exact ⟨(n + 1, X ++ [.cells [.int .i64 t, .string (bs q)] ⟨114, 0, true, 0, none⟩]), by rw [hfl, ← gS_pos (i := jt) (by omega)]; exact Weak.env (by simp [envIn, lk_cons, wth_some]), by simp only; omega, by simp only; omega⟩
      · have hb2' : (q == ip) = false := beq_eq_false_iff_ne.2 hb2
        rw [hb2'] at hfl
        simp only [Bool.and_false, Bool.false_eq_true, if_false, Nat.add_zero] at hfl
        repeat first
          | with_reducible refine AWP.seq ?_
          | ((with_reducible refine AWP.region ?_ ?_); exact rfl)
          | with_reducible refine AWP.block ?_
          | with_reducible refine AWP.skip ?_
          | with_reducible refine AWP.exit ?_
          | with_reducible refine AWP.ret ?_
          | with_reducible refine AWP.label ?_
          | with_reducible refine AWP.goto ?_
          | ((with_reducible refine AWP.condT ?_ ?_); focus (simp only [ev, lk_cons, ↓reduceIte, Nat.reduceEqDiff]; done))
          | ((with_reducible refine AWP.condF ?_ ?_); focus (simp only [ev, lk_cons, ↓reduceIte, Nat.reduceEqDiff]; done))
          | simp only [go_sem, ↓reduceIte, Nat.reduceEqDiff, reduceCtorEq, Nat.reduceAdd, Int.reduceEq, Int.reduceBNe, Int.reduceBEq, Int.reduceToNat, Int.reduceLT, Int.reduceLE, Int.reduceGT, Int.reduceGE, Nat.reduceSub, Nat.reduceBEq, Nat.reduceBNe, Int.reduceAdd, Int.reduceSub, Int.reduceMul, Int.reduceNeg, Nat.reduceMul, Nat.reduceLeDiff, Nat.reduceLT, hi, hil, hgetl, hpz, hq, hwq, hb', hb2', hw, exists_eq_left]
          | simp (disch := omega) only [wi64, wu8, wu16, wu32, wu64, Int.tdiv_eq_ediv_of_nonneg, Int.tmod_eq_emod_of_nonneg]
          | with_reducible_and_instances exact finR
          | ((with_reducible refine finR' ?_ ?_) <;> rfl)
          | ((with_reducible refine finD hsc (NRel.of_plain ?_)); exact rfl)
        exact ⟨(n + 1, X ++ [.cells [.int .i64 t, .string (bs q)] ⟨114, 0, true, 0, none⟩]), by rw [hfl, ← gS_pos (i := jt) (by omega)]; exact Weak.env (by simp [envIn, lk_cons, wth_some]), by simp only; omega, by simp only; omega⟩
    · have hb' : (t == R.now / R.per) = false := beq_eq_false_iff_ne.2 hb
      rw [hb'] at hfl
      simp only [Bool.false_and, Bool.false_eq_true, if_false, Nat.add_zero] at hfl
      repeat first
        | with_reducible refine AWP.seq ?_
        | ((with_reducible refine AWP.region ?_ ?_); exact rfl)
        | with_reducible refine AWP.block ?_
        | with_reducible refine AWP.skip ?_
        | with_reducible refine AWP.exit ?_
        | with_reducible refine AWP.ret ?_
        | with_reducible refine AWP.label ?_
        | with_reducible refine AWP.goto ?_
        | ((with_reducible refine AWP.condT ?_ ?_); focus (simp only [ev, lk_cons, ↓reduceIte, Nat.reduceEqDiff]; done))
        | ((with_reducible refine AWP.condF ?_ ?_); focus (simp only [ev, lk_cons, ↓reduceIte, Nat.reduceEqDiff]; done))
        | simp only [go_sem, ↓reduceIte, Nat.reduceEqDiff, reduceCtorEq, Nat.reduceAdd, Int.reduceEq, Int.reduceBNe, Int.reduceBEq, Int.reduceToNat, Int.reduceLT, Int.reduceLE, Int.reduceGT, Int.reduceGE, Nat.reduceSub, Nat.reduceBEq, Nat.reduceBNe, Int.reduceAdd, Int.reduceSub, Int.reduceMul, Int.reduceNeg, Nat.reduceMul, Nat.reduceLeDiff, Nat.reduceLT, hi, hil, hgetl, hpz, hq, hwq, hb', hw, exists_eq_left]
        | simp (disch := omega) only [wi64, wu8, wu16, wu32, wu64, Int.tdiv_eq_ediv_of_nonneg, Int.tmod_eq_emod_of_nonneg]
        | with_reducible_and_instances exact finR
        | ((with_reducible refine finR' ?_ ?_) <;> rfl)
        | ((with_reducible refine finD hsc (NRel.of_plain ?_)); exact rfl)
      exact ⟨(n + 1, X ++ [.cells [.int .i64 t, .string (bs q)] ⟨114, 0, true, 0, none⟩]), by rw [hfl, ← gS_pos (i := jt) (by omega)]; exact Weak.env (by simp [envIn, lk_cons, wth_some]), by simp only; omega, by simp only; omega⟩
  · have : n = l.length := by omega
    subst this
    have hc' : ¬ (l.length : Int) < (l.length : Int) := by omega
    rw [List.take_length]
    repeat first
      | with_reducible refine AWP.seq ?_
      | ((with_reducible refine AWP.region ?_ ?_); exact rfl)
      | with_reducible refine AWP.block ?_
      | with_reducible refine AWP.skip ?_
      | with_reducible refine AWP.exit ?_
      | with_reducible refine AWP.ret ?_
      | with_reducible refine AWP.label ?_
      | with_reducible refine AWP.goto ?_
      | ((with_reducible refine AWP.condT ?_ ?_); focus (simp only [ev, lk_cons, ↓reduceIte, Nat.reduceEqDiff]; done))
      | ((with_reducible refine AWP.condF ?_ ?_); focus (simp only [ev, lk_cons, ↓reduceIte, Nat.reduceEqDiff]; done))
      | simp only [go_sem, ↓reduceIte, Nat.reduceEqDiff, reduceCtorEq, Nat.reduceAdd, Int.reduceEq, Int.reduceBNe, Int.reduceBEq, Int.reduceToNat, Int.reduceLT, Int.reduceLE, Int.reduceGT, Int.reduceGE, Nat.reduceSub, Nat.reduceBEq, Nat.reduceBNe, Int.reduceAdd, Int.reduceSub, Int.reduceMul, Int.reduceNeg, Nat.reduceMul, Nat.reduceLeDiff, Nat.reduceLT, hc']
      | simp (disch := omega) only [wi64, wu8, wu16, wu32, wu64, Int.tdiv_eq_ediv_of_nonneg, Int.tmod_eq_emod_of_nonneg]
      | with_reducible_and_instances exact finR
      | ((with_reducible refine finR' ?_ ?_) <;> rfl)
      | ((with_reducible refine finD hsc (NRel.of_plain ?_)); exact rfl)
end Go.Proofs.YtmpkgdilmkeacaaDoor
