/-
  The specification's links: the queue; which packet is the first; Queue, Next.
-/
import Derived.Test.YtnfkbgpbligloaaY1
set_option linter.unusedVariables false
set_option linter.unusedSimpArgs false
set_option maxRecDepth 20000
set_option maxHeartbeats 4000000
namespace Go.Proofs.Ytnfkbgpbligloaa
open Go Go.Aw Go.Proofs
def allW (l : List Pc) : List (Int × Int) := l.map fun p => (p.begun, p.size)
theorem pcs_chunk : ∀ (l : List Pc) (k : Nat) (hk : k < l.length), ((pcsC l).drop (k * 6)).take 6 = l[k].c
  | [], k, hk => by simp at hk
  | p :: l, 0, hk => by
    have e : pcsC (p :: l) = p.c ++ pcsC l := rfl
    rw [e, Nat.zero_mul, List.drop_zero]; rfl
  | p :: l, k + 1, hk => by
    have e : pcsC (p :: l) = p.c ++ pcsC l := rfl
    rw [e, show (k + 1) * 6 = 6 + k * 6 by omega, ← List.drop_drop]
    exact pcs_chunk l k (by simpa using hk)
theorem pc_at {H : AHeap} {l : List Pc} {v : Value} {S : List Nat} (h : OwnL H 42 6 l.length (pcsC l) v S) {n : Nat} (h0 : n < l.length) :
    ∃ j o cs, v = .slice (some ⟨j, o, none⟩) l.length l.length ∧ H[j]? = some (.cells cs ⟨42, 6, true, 0, none⟩) ∧ (cs.drop (o + n * 6)).take 6 = l[n].c ∧ o + (n * 6 + 6) ≤ cs.length := by
  rcases h with ⟨h1, _⟩ | ⟨j, o, cs, rfl, hj, hcl, hd, rfl⟩
  · omega
  exact ⟨j, o, cs, rfl, hj, by rw [← List.drop_drop, hd]; exact pcs_chunk l n h0, by omega⟩
theorem fls_chunk : ∀ (l : List Cm) (k : Nat) (hk : k < l.length), ((flsC l).drop (k * 7)).take 7 = flC l[k]
  | [], k, hk => by simp at hk
  | p :: l, 0, hk => by
    have e : flsC (p :: l) = flC p ++ flsC l := rfl
    rw [e, Nat.zero_mul, List.drop_zero]; rfl
  | p :: l, k + 1, hk => by
    have e : flsC (p :: l) = flC p ++ flsC l := rfl
    rw [e, show (k + 1) * 7 = 7 + k * 7 by omega, ← List.drop_drop]
    exact fls_chunk l k (by simpa using hk)
theorem fl_at {H : AHeap} {l : List Cm} {v : Value} {S : List Nat} {m : Nat} (h : OwnC H 94 7 m (flsC l) v S) (hm : m = l.length) (h0 : 0 < l.length) :
    ∃ j o cap cs, v = .slice (some ⟨j, o, none⟩) m cap ∧ m ≤ cap ∧ H[j]? = some (.cells cs ⟨94, 7, true, 0, none⟩) ∧ cs.length = o + cap * 7 ∧ S = [j] ∧ (cs.drop o).take (m * 7) = flsC l ∧ ∀ n, (hn : n < l.length) → (cs.drop (o + n * 7)).take 7 = flC l[n] ∧ o + (n * 7 + 7) ≤ cs.length := by
  rcases h with ⟨h1, _⟩ | ⟨j, o, cap, cs, rfl, hc, hj, hcl, hd, rfl⟩
  · omega
  refine ⟨j, o, cap, cs, rfl, hc, hj, hcl, rfl, hd, fun n hn => ⟨?_, by omega⟩⟩
  have h1 := fls_chunk l n hn
  rw [← hd] at h1
  rw [← List.drop_drop, ← h1, List.drop_take, List.take_take]
  congr 1
  omega
theorem rQueue1 {H : AHeap} {i : Nat} {r : Rk} {S : List Nat} (h : RkAt H i r S) (hl : r.all.length < 1099511627776) (hw : ∀ x ∈ r.all, 0 ≤ x.size ∧ x.size ≤ 100000) (now : Int) :
    ARet Try.prog 63 [.pointer (some ⟨i, 0, none⟩), .int .i64 now] H (.int .i64 (sumW (wq (allW r.all) now))) H := by
  obtain ⟨vn, va, vu, Sa, Su, ⟨hi, -, ha, -⟩, rfl⟩ := h
  have q : ∀ H' K, lenW Try.prog 38 va H' K = K (.int .i64 (r.all.length : Nat)) H' := fun H' K => OwnL.lenT ha (by simp only [go_sem, ↓reduceIte, Nat.reduceEqDiff, reduceCtorEq, Nat.reduceAdd, Int.reduceEq, Int.reduceBNe, Int.reduceBEq, Int.reduceToNat, Int.reduceLT, Int.reduceLE, Int.reduceGT, Int.reduceGE, Nat.reduceSub, Nat.reduceBEq, Nat.reduceBNe, Int.reduceAdd, Int.reduceSub, Int.reduceMul, Int.reduceNeg, Nat.reduceMul, Nat.reduceLeDiff, Nat.reduceLT])
  have hal : (allW r.all).length = r.all.length := List.length_map _
  unfold Rk.c at hi
  have hsum : ∀ n, 0 ≤ sumW (wq ((allW r.all).take n) now) ∧ sumW (wq ((allW r.all).take n) now) ≤ 100000 * (r.all.length : Nat) := fun n => by
    have hb := sumW_bound (l := wq ((allW r.all).take n) now) fun w hm => by
      have h1 := List.mem_of_mem_take (List.mem_filter.1 hm).1
      obtain ⟨x, hx, rfl⟩ := List.mem_map.1 h1
      exact hw x hx
    have h2 := wq_len ((allW r.all).take n) now
    rw [List.length_take, hal] at h2
    omega
  refine AC.enter Try.func63 rfl (by kernel_rfl) 27 rfl [.tmp 4] rfl (by simp) fun hsc B => ?_
  repeat first
    | with_reducible refine AWP.seq ?_
    | ((with_reducible refine AWP.region ?_ ?_); exact rfl)
    | with_reducible refine AWP.block ?_
    | with_reducible refine AWP.skip ?_
    | with_reducible refine AWP.exit ?_
    | with_reducible refine AWP.ret ?_
    | with_reducible refine AWP.label ?_
    | with_reducible refine AWP.goto ?_
    | ((with_reducible refine AWP.condT ?_ ?_); focus (simp only [ev, lk_cons, ↓reduceIte, Nat.reduceEqDiff]; done))
    | ((with_reducible refine AWP.condF ?_ ?_); focus (simp only [ev, lk_cons, ↓reduceIte, Nat.reduceEqDiff]; done))
    | simp only [go_sem, ↓reduceIte, Nat.reduceEqDiff, reduceCtorEq, Nat.reduceAdd, Int.reduceEq, Int.reduceBNe, Int.reduceBEq, Int.reduceToNat, Int.reduceLT, Int.reduceLE, Int.reduceGT, Int.reduceGE, Nat.reduceSub, Nat.reduceBEq, Nat.reduceBNe, Int.reduceAdd, Int.reduceSub, Int.reduceMul, Int.reduceNeg, Nat.reduceMul, Nat.reduceLeDiff, Nat.reduceLT, hi, q]
    | simp (disch := omega) only [wi64, wu8, wu16, wu32, wu64, Int.tdiv_eq_ediv_of_nonneg, Int.tmod_eq_emod_of_nonneg]
    | with_reducible_and_instances exact finR
    | ((with_reducible refine finR' ?_ ?_) <;> rfl)
    | ((with_reducible refine finD hsc (NRel.of_plain ?_)); exact rfl)
  refine AWP.loopP (fun s : Nat × AHeap => ⟨[(1, .int .i64 now), (5, .int .i64 (sumW (wq ((allW r.all).take s.1) now))), (11, va), (12, .int .i64 (r.all.length : Nat)), (13, .int .i64 (s.1 : Nat))], [], H ++ s.2⟩) (fun s => s.1 ≤ r.all.length) (fun s => r.all.length - s.1) (0, []) ?_ (Nat.zero_le _) ?_
  · simp only [List.append_nil]
    exact Weak.env (by simp [envIn, lk_cons, wth_some, sumW, wq])
  rintro ⟨n, X⟩ hn
  simp only at hn ⊢
  by_cases hc : n < r.all.length
  · have hc' : (n : Int) < (r.all.length : Int) := by omega
    have hwn : IntKind.i64.wrap ((n : Int) + 1) = ((n + 1 : Nat) : Int) := by rw [wi64 (by omega)]; omega
    obtain ⟨j, o, cs, rfl, hj, hg, hle⟩ := pc_at ha hc
    have hjl := lt_of_get hj
    have htk := wq_take (allW r.all) now n (by rw [hal]; exact hc)
    have hgx : (allW r.all)[n]'(by rw [hal]; exact hc) = (r.all[n].begun, r.all[n].size) := by simp [allW]
    rw [hgx] at htk
    have hs1 := hsum (n + 1)
    generalize r.all[n] = x at *
    unfold Pc.c at hg
    by_cases hq : x.begun > now
    · rw [if_pos hq] at htk
      have hsn : sumW (wq ((allW r.all).take (n + 1)) now) = sumW (wq ((allW r.all).take n) now) + x.size := by rw [htk]; exact sumW_snoc ..
      have hwr : IntKind.i64.wrap (sumW (wq ((allW r.all).take n) now) + x.size) = sumW (wq ((allW r.all).take n) now) + x.size := wi64 (by omega)
      repeat first
        | with_reducible refine AWP.seq ?_
        | ((with_reducible refine AWP.region ?_ ?_); exact rfl)
        | with_reducible refine AWP.block ?_
        | with_reducible refine AWP.skip ?_
        | with_reducible refine AWP.exit ?_
        | with_reducible refine AWP.ret ?_
        | with_reducible refine AWP.label ?_
        | with_reducible refine AWP.goto ?_
        | ((with_reducible refine AWP.condT ?_ ?_); focus (simp only [ev, lk_cons, ↓reduceIte, Nat.reduceEqDiff]; done))
        | ((with_reducible refine AWP.condF ?_ ?_); focus (simp only [ev, lk_cons, ↓reduceIte, Nat.reduceEqDiff]; done))
        | simp only [go_sem, ↓reduceIte, Nat.reduceEqDiff, reduceCtorEq, Nat.reduceAdd, Int.reduceEq, Int.reduceBNe, Int.reduceBEq, Int.reduceToNat, Int.reduceLT, Int.reduceLE, Int.reduceGT, Int.reduceGE, Nat.reduceSub, Nat.reduceBEq, Nat.reduceBNe, Int.reduceAdd, Int.reduceSub, Int.reduceMul, Int.reduceNeg, Nat.reduceMul, Nat.reduceLeDiff, Nat.reduceLT, hc', hj, hjl, hgetl, hg, hle, hq, hwr, hwn]
        | simp (disch := omega) only [wi64, wu8, wu16, wu32, wu64, Int.tdiv_eq_ediv_of_nonneg, Int.tmod_eq_emod_of_nonneg]
        | with_reducible_and_instances exact finR
        | ((with_reducible refine finR' ?_ ?_) <;> rfl)
        | ((with_reducible refine finD hsc (NRel.of_plain ?_)); exact rfl)
      exact ⟨(n + 1, X ++ [.cells x.c ⟨42, 0, true, 0, none⟩]), by simp only [hsn]; exact Weak.env (by simp [envIn, lk_cons, wth_some, Pc.c]), by show n + 1 ≤ _; omega, by show r.all.length - (n + 1) < _; omega⟩
    · rw [if_neg hq, List.append_nil] at htk
      repeat first
        | with_reducible refine AWP.seq ?_
        | ((with_reducible refine AWP.region ?_ ?_); exact rfl)
        | with_reducible refine AWP.block ?_
        | with_reducible refine AWP.skip ?_
        | with_reducible refine AWP.exit ?_
        | with_reducible refine AWP.ret ?_
        | with_reducible refine AWP.label ?_
        | with_reducible refine AWP.goto ?_
        | ((with_reducible refine AWP.condT ?_ ?_); focus (simp only [ev, lk_cons, ↓reduceIte, Nat.reduceEqDiff]; done))
        | ((with_reducible refine AWP.condF ?_ ?_); focus (simp only [ev, lk_cons, ↓reduceIte, Nat.reduceEqDiff]; done))
        | simp only [go_sem, ↓reduceIte, Nat.reduceEqDiff, reduceCtorEq, Nat.reduceAdd, Int.reduceEq, Int.reduceBNe, Int.reduceBEq, Int.reduceToNat, Int.reduceLT, Int.reduceLE, Int.reduceGT, Int.reduceGE, Nat.reduceSub, Nat.reduceBEq, Nat.reduceBNe, Int.reduceAdd, Int.reduceSub, Int.reduceMul, Int.reduceNeg, Nat.reduceMul, Nat.reduceLeDiff, Nat.reduceLT, hc', hj, hjl, hgetl, hg, hle, hq, hwn]
        | simp (disch := omega) only [wi64, wu8, wu16, wu32, wu64, Int.tdiv_eq_ediv_of_nonneg, Int.tmod_eq_emod_of_nonneg]
        | with_reducible_and_instances exact finR
        | ((with_reducible refine finR' ?_ ?_) <;> rfl)
        | ((with_reducible refine finD hsc (NRel.of_plain ?_)); exact rfl)
      exact ⟨(n + 1, X ++ [.cells x.c ⟨42, 0, true, 0, none⟩]), by simp only [htk]; exact Weak.env (by simp [envIn, lk_cons, wth_some, Pc.c]), by show n + 1 ≤ _; omega, by show r.all.length - (n + 1) < _; omega⟩
  · have hc' : ¬ (n : Int) < (r.all.length : Int) := by omega
    have : n = r.all.length := by omega
    subst this
    rw [List.take_of_length_le (by rw [hal]; exact Nat.le_refl _)]
    repeat first
      | with_reducible refine AWP.seq ?_
      | ((with_reducible refine AWP.region ?_ ?_); exact rfl)
      | with_reducible refine AWP.block ?_
      | with_reducible refine AWP.skip ?_
      | with_reducible refine AWP.exit ?_
      | with_reducible refine AWP.ret ?_
      | with_reducible refine AWP.label ?_
      | with_reducible refine AWP.goto ?_
      | ((with_reducible refine AWP.condT ?_ ?_); focus (simp only [ev, lk_cons, ↓reduceIte, Nat.reduceEqDiff]; done))
      | ((with_reducible refine AWP.condF ?_ ?_); focus (simp only [ev, lk_cons, ↓reduceIte, Nat.reduceEqDiff]; done))
      | simp only [go_sem, ↓reduceIte, Nat.reduceEqDiff, reduceCtorEq, Nat.reduceAdd, Int.reduceEq, Int.reduceBNe, Int.reduceBEq, Int.reduceToNat, Int.reduceLT, Int.reduceLE, Int.reduceGT, Int.reduceGE, Nat.reduceSub, Nat.reduceBEq, Nat.reduceBNe, Int.reduceAdd, Int.reduceSub, Int.reduceMul, Int.reduceNeg, Nat.reduceMul, Nat.reduceLeDiff, Nat.reduceLT, hc']
      | simp (disch := omega) only [wi64, wu8, wu16, wu32, wu64, Int.tdiv_eq_ediv_of_nonneg, Int.tmod_eq_emod_of_nonneg]
      | with_reducible_and_instances exact finR
      | ((with_reducible refine finR' ?_ ?_) <;> rfl)
      | ((with_reducible refine finD hsc (NRel.of_plain ?_)); exact rfl)
theorem rQueueNo {H : AHeap} {i : Nat} {r : Rk} {S : List Nat} (h : RkAt H i r S) (now : Int) (hb : rBad r now = true) : ARet Try.prog 41 [.pointer (some ⟨i, 0, none⟩), .int .i64 now] H (.tuple ⟨[.int .i64 0, .int .i64 7]⟩) H := by
  have hA := rAt h now
  rw [hb, if_pos rfl] at hA
  refine AC.enter Try.func41 rfl (by kernel_rfl) 22 rfl [.tmp 4, .tmp 5] rfl (by simp) fun hsc B => ?_
  repeat first
    | with_reducible refine AWP.seq ?_
    | ((with_reducible refine AWP.region ?_ ?_); exact rfl)
    | with_reducible refine AWP.block ?_
    | with_reducible refine AWP.skip ?_
    | with_reducible refine AWP.exit ?_
    | with_reducible refine AWP.ret ?_
    | with_reducible refine AWP.label ?_
    | with_reducible refine AWP.goto ?_
    | ((with_reducible refine AWP.condT ?_ ?_); focus (simp only [ev, lk_cons, ↓reduceIte, Nat.reduceEqDiff]; done))
    | ((with_reducible refine AWP.condF ?_ ?_); focus (simp only [ev, lk_cons, ↓reduceIte, Nat.reduceEqDiff]; done))
    | with_reducible refine hA.use ?_
    | simp only [go_sem, ↓reduceIte, Nat.reduceEqDiff, reduceCtorEq, Nat.reduceAdd, Int.reduceEq, Int.reduceBNe, Int.reduceBEq, Int.reduceToNat, Int.reduceLT, Int.reduceLE, Int.reduceGT, Int.reduceGE, Nat.reduceSub, Nat.reduceBEq, Nat.reduceBNe, Int.reduceAdd, Int.reduceSub, Int.reduceMul, Int.reduceNeg, Nat.reduceMul, Nat.reduceLeDiff, Nat.reduceLT]
    | simp (disch := omega) only [wi64, wu8, wu16, wu32, wu64, Int.tdiv_eq_ediv_of_nonneg, Int.tmod_eq_emod_of_nonneg]
    | with_reducible_and_instances exact finR
    | ((with_reducible refine finR' ?_ ?_) <;> rfl)
    | ((with_reducible refine finD hsc (NRel.of_plain ?_)); exact rfl)
theorem rQueue {H : AHeap} {i : Nat} {r : Rk} {S : List Nat} (h : RkAt H i r S) (hl : r.all.length < 1099511627776) (hw : ∀ x ∈ r.all, 0 ≤ x.size ∧ x.size ≤ 100000) (now : Int) (hb : rBad r now = false) : ARex Try.prog 41 [.pointer (some ⟨i, 0, none⟩), .int .i64 now] H (.tuple ⟨[.int .i64 (sumW (wq (allW r.all) now)), .int .i64 0]⟩) (RkTo H i S { r with now := now }) := by
  have hA := rAt h now
  rw [hb] at hA
  simp only [Bool.false_eq_true, if_false] at hA
  obtain ⟨vn, va, vu, Sa, Su, hp, rfl⟩ := h
  have hi := hp.at_
  have hil := lt_of_get hi
  have hp1 : RkP (H.set i (.cells (({ r with now := now } : Rk).c vn va vu) ⟨83, 0, true, 0, none⟩)) i { r with now := now } vn va vu Sa Su := hp.to' (Frm.set (.refl _ _) (.inl (by simp))) (hset_self hil) rfl rfl rfl
  have hQ := rQueue1 (r := { r with now := now }) ⟨_, _, _, _, _, hp1, rfl⟩ hl hw now
  unfold Rk.c at hi hQ
  simp only at hQ
  refine AC.enter Try.func41 rfl (by kernel_rfl) 22 rfl [.tmp 4, .tmp 5] rfl (by simp) fun hsc B => ?_
  repeat first
    | with_reducible refine AWP.seq ?_
    | ((with_reducible refine AWP.region ?_ ?_); exact rfl)
    | with_reducible refine AWP.block ?_
    | with_reducible refine AWP.skip ?_
    | with_reducible refine AWP.exit ?_
    | with_reducible refine AWP.ret ?_
    | with_reducible refine AWP.label ?_
    | with_reducible refine AWP.goto ?_
    | ((with_reducible refine AWP.condT ?_ ?_); focus (simp only [ev, lk_cons, ↓reduceIte, Nat.reduceEqDiff]; done))
    | ((with_reducible refine AWP.condF ?_ ?_); focus (simp only [ev, lk_cons, ↓reduceIte, Nat.reduceEqDiff]; done))
    | with_reducible refine hA.use ?_
    | with_reducible refine hQ.use ?_
    | simp only [go_sem, ↓reduceIte, Nat.reduceEqDiff, reduceCtorEq, Nat.reduceAdd, Int.reduceEq, Int.reduceBNe, Int.reduceBEq, Int.reduceToNat, Int.reduceLT, Int.reduceLE, Int.reduceGT, Int.reduceGE, Nat.reduceSub, Nat.reduceBEq, Nat.reduceBNe, Int.reduceAdd, Int.reduceSub, Int.reduceMul, Int.reduceNeg, Nat.reduceMul, Nat.reduceLeDiff, Nat.reduceLT, hi, hil]
    | simp (disch := omega) only [wi64, wu8, wu16, wu32, wu64, Int.tdiv_eq_ediv_of_nonneg, Int.tmod_eq_emod_of_nonneg]
    | with_reducible_and_instances exact finR
    | ((with_reducible refine finR' ?_ ?_) <;> rfl)
    | ((with_reducible refine finD hsc (NRel.of_plain ?_)); exact rfl)
  exact ⟨_, _, .refl _ _ _, rfl, hp.to (r' := { r with now := now }) (Frm.set (.refl _ _) (.inl (by simp))) (by rw [hset_self hil]; rfl) rfl rfl rfl⟩
/-- A packet that comes stands as its parcel does. -/
def Cm.wf (x : Cm) : Prop := x.time = x.p.time ∧ x.id = x.p.id ∧ (x.copy = 0 ∨ x.copy = 1)
instance (a b : Cm) : Decidable (bef a b) := by unfold bef; infer_instance
theorem before (a b : Cm) (ha : a.wf) (hb : b.wf) (H : AHeap) : ARet Try.prog 76 [.agg ⟨flC a⟩, .agg ⟨flC b⟩] H (.bool (decide (bef a b))) H := by
  obtain ⟨at_, ai, ac, ap⟩ := a
  obtain ⟨bt, bi, bc, bp⟩ := b
  obtain ⟨e1, e2, e3⟩ := ha
  obtain ⟨f1, f2, f3⟩ := hb
  simp only at e1 e2 e3 f1 f2 f3
  subst e1 e2 f1 f2
  unfold flC bef
  simp only
  by_cases h1 : ap.time = bp.time
  · have h1' : (ap.time != bp.time) = false := by simp [h1]
    by_cases h2 : ap.id = bp.id
    · have h2' : (ap.id != bp.id) = false := by simp [h2]
      rcases e3 with rfl | rfl
      · have hg : decide (ap.time < bp.time ∨ ap.time = bp.time ∧ (ap.id < bp.id ∨ ap.id = bp.id ∧ (0 : Int) < bc)) = (bc == 1) := by
          rcases f3 with rfl | rfl
          · exact decide_eq_false (by omega)
          · exact decide_eq_true (by omega)
        rw [hg]
        have e0 : ((0 : Int) == 1) = false := rfl
        refine AC.enter Try.func76 rfl (by kernel_rfl) 42 rfl [.tmp 4] rfl (by simp) fun hsc B => ?_
        repeat first
          | with_reducible refine AWP.seq ?_
          | ((with_reducible refine AWP.region ?_ ?_); exact rfl)
          | with_reducible refine AWP.block ?_
          | with_reducible refine AWP.skip ?_
          | with_reducible refine AWP.exit ?_
          | with_reducible refine AWP.ret ?_
          | with_reducible refine AWP.label ?_
          | with_reducible refine AWP.goto ?_
          | ((with_reducible refine AWP.condT ?_ ?_); focus (simp only [ev, lk_cons, ↓reduceIte, Nat.reduceEqDiff]; done))
          | ((with_reducible refine AWP.condF ?_ ?_); focus (simp only [ev, lk_cons, ↓reduceIte, Nat.reduceEqDiff]; done))
          | simp only [go_sem, ↓reduceIte, Nat.reduceEqDiff, reduceCtorEq, Nat.reduceAdd, Int.reduceEq, Int.reduceBNe, Int.reduceBEq, Int.reduceToNat, Int.reduceLT, Int.reduceLE, Int.reduceGT, Int.reduceGE, Nat.reduceSub, Nat.reduceBEq, Nat.reduceBNe, Int.reduceAdd, Int.reduceSub, Int.reduceMul, Int.reduceNeg, Nat.reduceMul, Nat.reduceLeDiff, Nat.reduceLT, h1', h2', e0]
          | simp (disch := omega) only [wi64, wu8, wu16, wu32, wu64, Int.tdiv_eq_ediv_of_nonneg, Int.tmod_eq_emod_of_nonneg]
          | with_reducible_and_instances exact finR
          | ((with_reducible refine finR' ?_ ?_) <;> rfl)
          | ((with_reducible refine finD hsc (NRel.of_plain ?_)); exact rfl)
      · have hg : decide (ap.time < bp.time ∨ ap.time = bp.time ∧ (ap.id < bp.id ∨ ap.id = bp.id ∧ (1 : Int) < bc)) = false := decide_eq_false (by omega)
        rw [hg]
        have e0 : ((1 : Int) == 1) = true := rfl
        refine AC.enter Try.func76 rfl (by kernel_rfl) 42 rfl [.tmp 4] rfl (by simp) fun hsc B => ?_
        repeat first
          | with_reducible refine AWP.seq ?_
          | ((with_reducible refine AWP.region ?_ ?_); exact rfl)
          | with_reducible refine AWP.block ?_
          | with_reducible refine AWP.skip ?_
          | with_reducible refine AWP.exit ?_
          | with_reducible refine AWP.ret ?_
          | with_reducible refine AWP.label ?_
          | with_reducible refine AWP.goto ?_
          | ((with_reducible refine AWP.condT ?_ ?_); focus (simp only [ev, lk_cons, ↓reduceIte, Nat.reduceEqDiff]; done))
          | ((with_reducible refine AWP.condF ?_ ?_); focus (simp only [ev, lk_cons, ↓reduceIte, Nat.reduceEqDiff]; done))
          | simp only [go_sem, ↓reduceIte, Nat.reduceEqDiff, reduceCtorEq, Nat.reduceAdd, Int.reduceEq, Int.reduceBNe, Int.reduceBEq, Int.reduceToNat, Int.reduceLT, Int.reduceLE, Int.reduceGT, Int.reduceGE, Nat.reduceSub, Nat.reduceBEq, Nat.reduceBNe, Int.reduceAdd, Int.reduceSub, Int.reduceMul, Int.reduceNeg, Nat.reduceMul, Nat.reduceLeDiff, Nat.reduceLT, h1', h2', e0]
          | simp (disch := omega) only [wi64, wu8, wu16, wu32, wu64, Int.tdiv_eq_ediv_of_nonneg, Int.tmod_eq_emod_of_nonneg]
          | with_reducible_and_instances exact finR
          | ((with_reducible refine finR' ?_ ?_) <;> rfl)
          | ((with_reducible refine finD hsc (NRel.of_plain ?_)); exact rfl)
    · have h2' : (ap.id != bp.id) = true := by simp [h2]
      have hg : decide (ap.time < bp.time ∨ ap.time = bp.time ∧ (ap.id < bp.id ∨ ap.id = bp.id ∧ ac < bc)) = decide (ap.id < bp.id) := by rw [decide_eq_decide]; omega
      rw [hg]
      refine AC.enter Try.func76 rfl (by kernel_rfl) 42 rfl [.tmp 4] rfl (by simp) fun hsc B => ?_
      repeat first
        | with_reducible refine AWP.seq ?_
        | ((with_reducible refine AWP.region ?_ ?_); exact rfl)
        | with_reducible refine AWP.block ?_
        | with_reducible refine AWP.skip ?_
        | with_reducible refine AWP.exit ?_
        | with_reducible refine AWP.ret ?_
        | with_reducible refine AWP.label ?_
        | with_reducible refine AWP.goto ?_
        | ((with_reducible refine AWP.condT ?_ ?_); focus (simp only [ev, lk_cons, ↓reduceIte, Nat.reduceEqDiff]; done))
        | ((with_reducible refine AWP.condF ?_ ?_); focus (simp only [ev, lk_cons, ↓reduceIte, Nat.reduceEqDiff]; done))
        | simp only [go_sem, ↓reduceIte, Nat.reduceEqDiff, reduceCtorEq, Nat.reduceAdd, Int.reduceEq, Int.reduceBNe, Int.reduceBEq, Int.reduceToNat, Int.reduceLT, Int.reduceLE, Int.reduceGT, Int.reduceGE, Nat.reduceSub, Nat.reduceBEq, Nat.reduceBNe, Int.reduceAdd, Int.reduceSub, Int.reduceMul, Int.reduceNeg, Nat.reduceMul, Nat.reduceLeDiff, Nat.reduceLT, h1', h2']
        | simp (disch := omega) only [wi64, wu8, wu16, wu32, wu64, Int.tdiv_eq_ediv_of_nonneg, Int.tmod_eq_emod_of_nonneg]
        | with_reducible_and_instances exact finR
        | ((with_reducible refine finR' ?_ ?_) <;> rfl)
        | ((with_reducible refine finD hsc (NRel.of_plain ?_)); exact rfl)
  · have h1' : (ap.time != bp.time) = true := by simp [h1]
    have hg : decide (ap.time < bp.time ∨ ap.time = bp.time ∧ (ap.id < bp.id ∨ ap.id = bp.id ∧ ac < bc)) = decide (ap.time < bp.time) := by rw [decide_eq_decide]; omega
    rw [hg]
    refine AC.enter Try.func76 rfl (by kernel_rfl) 42 rfl [.tmp 4] rfl (by simp) fun hsc B => ?_
    repeat first
      | with_reducible refine AWP.seq ?_
      | ((with_reducible refine AWP.region ?_ ?_); exact rfl)
      | with_reducible refine AWP.block ?_
      | with_reducible refine AWP.skip ?_
      | with_reducible refine AWP.exit ?_
      | with_reducible refine AWP.ret ?_
      | with_reducible refine AWP.label ?_
      | with_reducible refine AWP.goto ?_
      | ((with_reducible refine AWP.condT ?_ ?_); focus (simp only [ev, lk_cons, ↓reduceIte, Nat.reduceEqDiff]; done))
      | ((with_reducible refine AWP.condF ?_ ?_); focus (simp only [ev, lk_cons, ↓reduceIte, Nat.reduceEqDiff]; done))
      | simp only [go_sem, ↓reduceIte, Nat.reduceEqDiff, reduceCtorEq, Nat.reduceAdd, Int.reduceEq, Int.reduceBNe, Int.reduceBEq, Int.reduceToNat, Int.reduceLT, Int.reduceLE, Int.reduceGT, Int.reduceGE, Nat.reduceSub, Nat.reduceBEq, Nat.reduceBNe, Int.reduceAdd, Int.reduceSub, Int.reduceMul, Int.reduceNeg, Nat.reduceMul, Nat.reduceLeDiff, Nat.reduceLT, h1']
      | simp (disch := omega) only [wi64, wu8, wu16, wu32, wu64, Int.tdiv_eq_ediv_of_nonneg, Int.tmod_eq_emod_of_nonneg]
      | with_reducible_and_instances exact finR
      | ((with_reducible refine finR' ?_ ?_) <;> rfl)
      | ((with_reducible refine finD hsc (NRel.of_plain ?_)); exact rfl)
/-- Which one is the first. -/
def Fst (l : List Cm) (n : Nat) (at_ : Int) : Prop := (n = 0 ∧ at_ = -1) ∨ ∃ a, ∃ ha : a < l.length, a < n ∧ at_ = (a : Nat) ∧ ∀ k, (hk : k < l.length) → k < n → ¬ bef l[k] l[a]
theorem first {H : AHeap} {i : Nat} {r : Rk} {S : List Nat} (h : RkAt H i r S) (hl : r.under.length < 1099511627776) (hwf : ∀ x ∈ r.under, x.wf) :
    AC Try.prog 62 [.pointer (some ⟨i, 0, none⟩)] H (fun v H1 => ∃ at_, v = .ret (.int .i64 at_) ∧ H1 = H ∧ Fst r.under r.under.length at_) := by
  obtain ⟨vn, va, vu, Sa, Su, ⟨hi, -, -, hu⟩, rfl⟩ := h
  have hil := lt_of_get hi
  have q : ∀ H' K, lenW Try.prog 81 vu H' K = K (.int .i64 (r.under.length : Nat)) H' := fun H' K => hu.lenT (by simp only [go_sem, ↓reduceIte, Nat.reduceEqDiff, reduceCtorEq, Nat.reduceAdd, Int.reduceEq, Int.reduceBNe, Int.reduceBEq, Int.reduceToNat, Int.reduceLT, Int.reduceLE, Int.reduceGT, Int.reduceGE, Nat.reduceSub, Nat.reduceBEq, Nat.reduceBNe, Int.reduceAdd, Int.reduceSub, Int.reduceMul, Int.reduceNeg, Nat.reduceMul, Nat.reduceLeDiff, Nat.reduceLT])
  unfold Rk.c at hi
  refine AC.enter Try.func62 rfl (by kernel_rfl) 32 rfl [.tmp 2] rfl (by simp) fun hsc B => ?_
  repeat first
    | with_reducible refine AWP.seq ?_
    | ((with_reducible refine AWP.region ?_ ?_); exact rfl)
    | with_reducible refine AWP.block ?_
    | with_reducible refine AWP.skip ?_
    | with_reducible refine AWP.exit ?_
    | with_reducible refine AWP.ret ?_
    | with_reducible refine AWP.label ?_
    | with_reducible refine AWP.goto ?_
    | ((with_reducible refine AWP.condT ?_ ?_); focus (simp only [ev, lk_cons, ↓reduceIte, Nat.reduceEqDiff]; done))
    | ((with_reducible refine AWP.condF ?_ ?_); focus (simp only [ev, lk_cons, ↓reduceIte, Nat.reduceEqDiff]; done))
    | simp only [go_sem, ↓reduceIte, Nat.reduceEqDiff, reduceCtorEq, Nat.reduceAdd, Int.reduceEq, Int.reduceBNe, Int.reduceBEq, Int.reduceToNat, Int.reduceLT, Int.reduceLE, Int.reduceGT, Int.reduceGE, Nat.reduceSub, Nat.reduceBEq, Nat.reduceBNe, Int.reduceAdd, Int.reduceSub, Int.reduceMul, Int.reduceNeg, Nat.reduceMul, Nat.reduceLeDiff, Nat.reduceLT, hi, q]
    | simp (disch := omega) only [wi64, wu8, wu16, wu32, wu64, Int.tdiv_eq_ediv_of_nonneg, Int.tmod_eq_emod_of_nonneg]
    | with_reducible_and_instances exact finR
    | ((with_reducible refine finR' ?_ ?_) <;> rfl)
    | ((with_reducible refine finD hsc (NRel.of_plain ?_)); exact rfl)
  refine AWP.loopP (fun s : Nat × Int × AHeap => ⟨[(0, .pointer (some ⟨i, 0, none⟩)), (3, .int .i64 s.2.1), (9, vu), (10, .int .i64 (r.under.length : Nat)), (11, .int .i64 (s.1 : Nat))], [], H ++ s.2.2⟩) (fun s => s.1 ≤ r.under.length ∧ Fst r.under s.1 s.2.1) (fun s => r.under.length - s.1) (0, -1, []) ?_ ⟨Nat.zero_le _, .inl ⟨rfl, rfl⟩⟩ ?_
  · simp only [List.append_nil]
    exact Weak.env (by simp [envIn, lk_cons, wth_some])
  rintro ⟨n, at_, X⟩ ⟨hn, hF⟩
  simp only at hn hF ⊢
  by_cases hc : n < r.under.length
  · have hc' : (n : Int) < (r.under.length : Int) := by omega
    have hwn : IntKind.i64.wrap ((n : Int) + 1) = ((n + 1 : Nat) : Int) := by rw [wi64 (by omega)]; omega
    obtain ⟨j, o, cap, cs, rfl, hcap, hj, hcl, -, -, hgf⟩ := fl_at hu rfl (by omega)
    have hjl := lt_of_get hj
    obtain ⟨hg, hle⟩ := hgf n hc
    have hwx := hwf _ (List.getElem_mem hc)
    have hx : r.under[n] = r.under[n] := rfl
    rcases hF with ⟨rfl, rfl⟩ | ⟨a, ha, han, rfl, hmin⟩
    · unfold flC at hg
      rw [Nat.zero_mul, Nat.add_zero] at hg
      rw [Nat.zero_mul, Nat.zero_add] at hle
      have hc0 : (0 : Int) < (r.under.length : Int) := by omega
      repeat first
        | with_reducible refine AWP.seq ?_
        | ((with_reducible refine AWP.region ?_ ?_); exact rfl)
        | with_reducible refine AWP.block ?_
        | with_reducible refine AWP.skip ?_
        | with_reducible refine AWP.exit ?_
        | with_reducible refine AWP.ret ?_
        | with_reducible refine AWP.label ?_
        | with_reducible refine AWP.goto ?_
        | ((with_reducible refine AWP.condT ?_ ?_); focus (simp only [ev, lk_cons, ↓reduceIte, Nat.reduceEqDiff]; done))
        | ((with_reducible refine AWP.condF ?_ ?_); focus (simp only [ev, lk_cons, ↓reduceIte, Nat.reduceEqDiff]; done))
        | simp only [go_sem, ↓reduceIte, Nat.reduceEqDiff, reduceCtorEq, Nat.reduceAdd, Int.reduceEq, Int.reduceBNe, Int.reduceBEq, Int.reduceToNat, Int.reduceLT, Int.reduceLE, Int.reduceGT, Int.reduceGE, Nat.reduceSub, Nat.reduceBEq, Nat.reduceBNe, Int.reduceAdd, Int.reduceSub, Int.reduceMul, Int.reduceNeg, Nat.reduceMul, Nat.reduceLeDiff, Nat.reduceLT, hc0, hj, hjl, hgetl, hg, hle]
        | simp (disch := omega) only [wi64, wu8, wu16, wu32, wu64, Int.tdiv_eq_ediv_of_nonneg, Int.tmod_eq_emod_of_nonneg]
        | with_reducible_and_instances exact finR
        | ((with_reducible refine finR' ?_ ?_) <;> rfl)
        | ((with_reducible refine finD hsc (NRel.of_plain ?_)); exact rfl)
      refine AWP.regionK 11 (by kernel_rfl) (by decide) (by kernel_rfl) ?_
      have hw1 : IntKind.i64.wrap 1 = ((0 + 1 : Nat) : Int) := rfl
      repeat first
        | with_reducible refine AWP.seq ?_
        | ((with_reducible refine AWP.region ?_ ?_); exact rfl)
        | with_reducible refine AWP.block ?_
        | with_reducible refine AWP.skip ?_
        | with_reducible refine AWP.exit ?_
        | with_reducible refine AWP.ret ?_
        | with_reducible refine AWP.label ?_
        | with_reducible refine AWP.goto ?_
        | ((with_reducible refine AWP.condT ?_ ?_); focus (simp only [ev, lk_cons, ↓reduceIte, Nat.reduceEqDiff]; done))
        | ((with_reducible refine AWP.condF ?_ ?_); focus (simp only [ev, lk_cons, ↓reduceIte, Nat.reduceEqDiff]; done))
        | simp only [go_sem, ↓reduceIte, Nat.reduceEqDiff, reduceCtorEq, Nat.reduceAdd, Int.reduceEq, Int.reduceBNe, Int.reduceBEq, Int.reduceToNat, Int.reduceLT, Int.reduceLE, Int.reduceGT, Int.reduceGE, Nat.reduceSub, Nat.reduceBEq, Nat.reduceBNe, Int.reduceAdd, Int.reduceSub, Int.reduceMul, Int.reduceNeg, Nat.reduceMul, Nat.reduceLeDiff, Nat.reduceLT, hc0, hj, hjl, hgetl, hg, hle, hw1, exists_eq_left, List.map_cons, List.map_nil]
        | simp (disch := omega) only [wi64, wu8, wu16, wu32, wu64, Int.tdiv_eq_ediv_of_nonneg, Int.tmod_eq_emod_of_nonneg]
        | with_reducible_and_instances exact finR
        | ((with_reducible refine finR' ?_ ?_) <;> rfl)
        | ((with_reducible refine finD hsc (NRel.of_plain ?_)); exact rfl)
      refine ⟨(0 + 1, (0 : Nat), X ++ [.cells (flC r.under[0]) ⟨94, 0, true, 0, none⟩]), Weak.env (by simp [envIn, lk_cons, wth_some, flC]), by show 0 + 1 ≤ _; omega, .inr ⟨0, hc, by show 0 < 0 + 1; omega, rfl, fun k hk h => ?_⟩, by show r.under.length - (0 + 1) < _; omega⟩
      simp only at h
      have : k = 0 := by omega
      subst this
      unfold bef; omega
    · obtain ⟨hga, hla⟩ := hgf a ha
      have hwa := hwf _ (List.getElem_mem ha)
      have hna : ¬ ((a : Int) < 0) := by omega
      have ha0 : (a : Int) < (r.under.length : Int) := by omega
      have hB := before _ _ hwx hwa
      unfold flC at hg hga hB
      by_cases hbf : bef r.under[n] r.under[a]
      · rw [decide_eq_true hbf] at hB
        repeat first
          | with_reducible refine AWP.seq ?_
          | ((with_reducible refine AWP.region ?_ ?_); exact rfl)
          | with_reducible refine AWP.block ?_
          | with_reducible refine AWP.skip ?_
          | with_reducible refine AWP.exit ?_
          | with_reducible refine AWP.ret ?_
          | with_reducible refine AWP.label ?_
          | with_reducible refine AWP.goto ?_
          | ((with_reducible refine AWP.condT ?_ ?_); focus (simp only [ev, lk_cons, ↓reduceIte, Nat.reduceEqDiff]; done))
          | ((with_reducible refine AWP.condF ?_ ?_); focus (simp only [ev, lk_cons, ↓reduceIte, Nat.reduceEqDiff]; done))
          | simp only [go_sem, ↓reduceIte, Nat.reduceEqDiff, reduceCtorEq, Nat.reduceAdd, Int.reduceEq, Int.reduceBNe, Int.reduceBEq, Int.reduceToNat, Int.reduceLT, Int.reduceLE, Int.reduceGT, Int.reduceGE, Nat.reduceSub, Nat.reduceBEq, Nat.reduceBNe, Int.reduceAdd, Int.reduceSub, Int.reduceMul, Int.reduceNeg, Nat.reduceMul, Nat.reduceLeDiff, Nat.reduceLT, hc', hj, hjl, hgetl, hg, hle]
          | simp (disch := omega) only [wi64, wu8, wu16, wu32, wu64, Int.tdiv_eq_ediv_of_nonneg, Int.tmod_eq_emod_of_nonneg]
          | with_reducible_and_instances exact finR
          | ((with_reducible refine finR' ?_ ?_) <;> rfl)
          | ((with_reducible refine finD hsc (NRel.of_plain ?_)); exact rfl)
        refine AWP.regionK 11 (by kernel_rfl) (by decide) (by kernel_rfl) ?_
        repeat first
          | with_reducible refine AWP.seq ?_
          | ((with_reducible refine AWP.region ?_ ?_); exact rfl)
          | with_reducible refine AWP.block ?_
          | with_reducible refine AWP.skip ?_
          | with_reducible refine AWP.exit ?_
          | with_reducible refine AWP.ret ?_
          | with_reducible refine AWP.label ?_
          | with_reducible refine AWP.goto ?_
          | ((with_reducible refine AWP.condT ?_ ?_); focus (simp only [ev, lk_cons, ↓reduceIte, Nat.reduceEqDiff]; done))
          | ((with_reducible refine AWP.condF ?_ ?_); focus (simp only [ev, lk_cons, ↓reduceIte, Nat.reduceEqDiff]; done))
          | simp only [go_sem, ↓reduceIte, Nat.reduceEqDiff, reduceCtorEq, Nat.reduceAdd, Int.reduceEq, Int.reduceBNe, Int.reduceBEq, Int.reduceToNat, Int.reduceLT, Int.reduceLE, Int.reduceGT, Int.reduceGE, Nat.reduceSub, Nat.reduceBEq, Nat.reduceBNe, Int.reduceAdd, Int.reduceSub, Int.reduceMul, Int.reduceNeg, Nat.reduceMul, Nat.reduceLeDiff, Nat.reduceLT, hc', hj, hjl, hil, hi, hgetl, hg, hle, hga, hla, hna, ha0, List.map_cons, List.map_nil]
          | simp (disch := omega) only [wi64, wu8, wu16, wu32, wu64, Int.tdiv_eq_ediv_of_nonneg, Int.tmod_eq_emod_of_nonneg]
          | with_reducible_and_instances exact finR
          | ((with_reducible refine finR' ?_ ?_) <;> rfl)
          | ((with_reducible refine finD hsc (NRel.of_plain ?_)); exact rfl)
        repeat first
          | with_reducible refine AWP.seq ?_
          | ((with_reducible refine AWP.region ?_ ?_); exact rfl)
          | with_reducible refine AWP.block ?_
          | with_reducible refine AWP.skip ?_
          | with_reducible refine AWP.exit ?_
          | with_reducible refine AWP.ret ?_
          | with_reducible refine AWP.label ?_
          | with_reducible refine AWP.goto ?_
          | ((with_reducible refine AWP.condT ?_ ?_); focus (simp only [ev, lk_cons, ↓reduceIte, Nat.reduceEqDiff]; done))
          | ((with_reducible refine AWP.condF ?_ ?_); focus (simp only [ev, lk_cons, ↓reduceIte, Nat.reduceEqDiff]; done))
          | with_reducible refine (hB _).use ?_
          | simp only [go_sem, ↓reduceIte, Nat.reduceEqDiff, reduceCtorEq, Nat.reduceAdd, Int.reduceEq, Int.reduceBNe, Int.reduceBEq, Int.reduceToNat, Int.reduceLT, Int.reduceLE, Int.reduceGT, Int.reduceGE, Nat.reduceSub, Nat.reduceBEq, Nat.reduceBNe, Int.reduceAdd, Int.reduceSub, Int.reduceMul, Int.reduceNeg, Nat.reduceMul, Nat.reduceLeDiff, Nat.reduceLT, hc', hj, hjl, hgetl, hg, hle, hwn]
          | simp (disch := omega) only [wi64, wu8, wu16, wu32, wu64, Int.tdiv_eq_ediv_of_nonneg, Int.tmod_eq_emod_of_nonneg]
          | with_reducible_and_instances exact finR
          | ((with_reducible refine finR' ?_ ?_) <;> rfl)
          | ((with_reducible refine finD hsc (NRel.of_plain ?_)); exact rfl)
        refine ⟨(n + 1, (n : Nat), X ++ [.cells (flC r.under[n]) ⟨94, 0, true, 0, none⟩]), Weak.env (by simp [envIn, lk_cons, wth_some, flC]), by show n + 1 ≤ _; omega, .inr ⟨n, hc, by show n < n + 1; omega, rfl, fun k hk h => ?_⟩, by show r.under.length - (n + 1) < _; omega⟩
        simp only at h
        rcases Nat.lt_or_ge k n with h2 | h2
        · have := hmin k hk h2
          unfold bef at this hbf ⊢
          omega
        · have : k = n := by omega
          subst this
          unfold bef; omega
      · rw [decide_eq_false hbf] at hB
        repeat first
          | with_reducible refine AWP.seq ?_
          | ((with_reducible refine AWP.region ?_ ?_); exact rfl)
          | with_reducible refine AWP.block ?_
          | with_reducible refine AWP.skip ?_
          | with_reducible refine AWP.exit ?_
          | with_reducible refine AWP.ret ?_
          | with_reducible refine AWP.label ?_
          | with_reducible refine AWP.goto ?_
          | ((with_reducible refine AWP.condT ?_ ?_); focus (simp only [ev, lk_cons, ↓reduceIte, Nat.reduceEqDiff]; done))
          | ((with_reducible refine AWP.condF ?_ ?_); focus (simp only [ev, lk_cons, ↓reduceIte, Nat.reduceEqDiff]; done))
          | simp only [go_sem, ↓reduceIte, Nat.reduceEqDiff, reduceCtorEq, Nat.reduceAdd, Int.reduceEq, Int.reduceBNe, Int.reduceBEq, Int.reduceToNat, Int.reduceLT, Int.reduceLE, Int.reduceGT, Int.reduceGE, Nat.reduceSub, Nat.reduceBEq, Nat.reduceBNe, Int.reduceAdd, Int.reduceSub, Int.reduceMul, Int.reduceNeg, Nat.reduceMul, Nat.reduceLeDiff, Nat.reduceLT, hc', hj, hjl, hgetl, hg, hle]
          | simp (disch := omega) only [wi64, wu8, wu16, wu32, wu64, Int.tdiv_eq_ediv_of_nonneg, Int.tmod_eq_emod_of_nonneg]
          | with_reducible_and_instances exact finR
          | ((with_reducible refine finR' ?_ ?_) <;> rfl)
          | ((with_reducible refine finD hsc (NRel.of_plain ?_)); exact rfl)
        refine AWP.regionK 11 (by kernel_rfl) (by decide) (by kernel_rfl) ?_
        repeat first
          | with_reducible refine AWP.seq ?_
          | ((with_reducible refine AWP.region ?_ ?_); exact rfl)
          | with_reducible refine AWP.block ?_
          | with_reducible refine AWP.skip ?_
          | with_reducible refine AWP.exit ?_
          | with_reducible refine AWP.ret ?_
          | with_reducible refine AWP.label ?_
          | with_reducible refine AWP.goto ?_
          | ((with_reducible refine AWP.condT ?_ ?_); focus (simp only [ev, lk_cons, ↓reduceIte, Nat.reduceEqDiff]; done))
          | ((with_reducible refine AWP.condF ?_ ?_); focus (simp only [ev, lk_cons, ↓reduceIte, Nat.reduceEqDiff]; done))
          | simp only [go_sem, ↓reduceIte, Nat.reduceEqDiff, reduceCtorEq, Nat.reduceAdd, Int.reduceEq, Int.reduceBNe, Int.reduceBEq, Int.reduceToNat, Int.reduceLT, Int.reduceLE, Int.reduceGT, Int.reduceGE, Nat.reduceSub, Nat.reduceBEq, Nat.reduceBNe, Int.reduceAdd, Int.reduceSub, Int.reduceMul, Int.reduceNeg, Nat.reduceMul, Nat.reduceLeDiff, Nat.reduceLT, hc', hj, hjl, hil, hi, hgetl, hg, hle, hga, hla, hna, ha0, List.map_cons, List.map_nil]
          | simp (disch := omega) only [wi64, wu8, wu16, wu32, wu64, Int.tdiv_eq_ediv_of_nonneg, Int.tmod_eq_emod_of_nonneg]
          | with_reducible_and_instances exact finR
          | ((with_reducible refine finR' ?_ ?_) <;> rfl)
          | ((with_reducible refine finD hsc (NRel.of_plain ?_)); exact rfl)
        repeat first
          | with_reducible refine AWP.seq ?_
          | ((with_reducible refine AWP.region ?_ ?_); exact rfl)
          | with_reducible refine AWP.block ?_
          | with_reducible refine AWP.skip ?_
          | with_reducible refine AWP.exit ?_
          | with_reducible refine AWP.ret ?_
          | with_reducible refine AWP.label ?_
          | with_reducible refine AWP.goto ?_
          | ((with_reducible refine AWP.condT ?_ ?_); focus (simp only [ev, lk_cons, ↓reduceIte, Nat.reduceEqDiff]; done))
          | ((with_reducible refine AWP.condF ?_ ?_); focus (simp only [ev, lk_cons, ↓reduceIte, Nat.reduceEqDiff]; done))
          | with_reducible refine (hB _).use ?_
          | simp only [go_sem, ↓reduceIte, Nat.reduceEqDiff, reduceCtorEq, Nat.reduceAdd, Int.reduceEq, Int.reduceBNe, Int.reduceBEq, Int.reduceToNat, Int.reduceLT, Int.reduceLE, Int.reduceGT, Int.reduceGE, Nat.reduceSub, Nat.reduceBEq, Nat.reduceBNe, Int.reduceAdd, Int.reduceSub, Int.reduceMul, Int.reduceNeg, Nat.reduceMul, Nat.reduceLeDiff, Nat.reduceLT, hc', hj, hjl, hgetl, hg, hle, hwn]
          | simp (disch := omega) only [wi64, wu8, wu16, wu32, wu64, Int.tdiv_eq_ediv_of_nonneg, Int.tmod_eq_emod_of_nonneg]
          | with_reducible_and_instances exact finR
          | ((with_reducible refine finR' ?_ ?_) <;> rfl)
          | ((with_reducible refine finD hsc (NRel.of_plain ?_)); exact rfl)
        refine ⟨(n + 1, (a : Nat), X ++ [.cells (flC r.under[n]) ⟨94, 0, true, 0, none⟩]), Weak.env (by simp [envIn, lk_cons, wth_some, flC]), by show n + 1 ≤ _; omega, .inr ⟨a, ha, by show a < n + 1; omega, rfl, fun k hk h => ?_⟩, by show r.under.length - (n + 1) < _; omega⟩
        simp only at h
        rcases Nat.lt_or_ge k n with h2 | h2
        · exact hmin k hk h2
        · have : k = n := by omega
          subst this
          exact hbf
  · have hc' : ¬ (n : Int) < (r.under.length : Int) := by omega
    have : n = r.under.length := by omega
    subst this
    repeat first
      | with_reducible refine AWP.seq ?_
      | ((with_reducible refine AWP.region ?_ ?_); exact rfl)
      | with_reducible refine AWP.block ?_
      | with_reducible refine AWP.skip ?_
      | with_reducible refine AWP.exit ?_
      | with_reducible refine AWP.ret ?_
      | with_reducible refine AWP.label ?_
      | with_reducible refine AWP.goto ?_
      | ((with_reducible refine AWP.condT ?_ ?_); focus (simp only [ev, lk_cons, ↓reduceIte, Nat.reduceEqDiff]; done))
      | ((with_reducible refine AWP.condF ?_ ?_); focus (simp only [ev, lk_cons, ↓reduceIte, Nat.reduceEqDiff]; done))
      | simp only [go_sem, ↓reduceIte, Nat.reduceEqDiff, reduceCtorEq, Nat.reduceAdd, Int.reduceEq, Int.reduceBNe, Int.reduceBEq, Int.reduceToNat, Int.reduceLT, Int.reduceLE, Int.reduceGT, Int.reduceGE, Nat.reduceSub, Nat.reduceBEq, Nat.reduceBNe, Int.reduceAdd, Int.reduceSub, Int.reduceMul, Int.reduceNeg, Nat.reduceMul, Nat.reduceLeDiff, Nat.reduceLT, hc']
      | simp (disch := omega) only [wi64, wu8, wu16, wu32, wu64, Int.tdiv_eq_ediv_of_nonneg, Int.tmod_eq_emod_of_nonneg]
      | with_reducible_and_instances exact finR
      | ((with_reducible refine finR' ?_ ?_) <;> rfl)
      | ((with_reducible refine finD hsc (NRel.of_plain ?_)); exact rfl)
    exact ⟨_, _, .drop rfl hsc (NRel.of_plain rfl), _, rfl, rfl, hF⟩
theorem rNext {H : AHeap} {i : Nat} {r : Rk} {S : List Nat} (h : RkAt H i r S) (h0 : 0 < r.under.length) (hl : r.under.length < 1099511627776) (hwf : ∀ x ∈ r.under, x.wf) :
    AC Try.prog 49 [.pointer (some ⟨i, 0, none⟩)] H (fun v H1 => ∃ x ∈ r.under, (∀ y ∈ r.under, x.time ≤ y.time) ∧ v = .ret (.tuple ⟨[.int .i64 x.time, .int .i64 0]⟩) ∧ H1 = H) := by
  have hF := first h hl hwf
  obtain ⟨vn, va, vu, Sa, Su, ⟨hi, -, -, hu⟩, rfl⟩ := h
  obtain ⟨j, o, cap, cs, rfl, hcap, hj, hcl, -, -, hgf⟩ := fl_at hu rfl h0
  have hjl := lt_of_get hj
  unfold Rk.c at hi
  refine AC.enter Try.func49 rfl (by kernel_rfl) 20 rfl [.tmp 2, .tmp 3] rfl (by simp) fun hsc B => ?_
  repeat first
    | with_reducible refine AWP.seq ?_
    | ((with_reducible refine AWP.region ?_ ?_); exact rfl)
    | with_reducible refine AWP.block ?_
    | with_reducible refine AWP.skip ?_
    | with_reducible refine AWP.exit ?_
    | with_reducible refine AWP.ret ?_
    | with_reducible refine AWP.label ?_
    | with_reducible refine AWP.goto ?_
    | ((with_reducible refine AWP.condT ?_ ?_); focus (simp only [ev, lk_cons, ↓reduceIte, Nat.reduceEqDiff]; done))
    | ((with_reducible refine AWP.condF ?_ ?_); focus (simp only [ev, lk_cons, ↓reduceIte, Nat.reduceEqDiff]; done))
    | simp only [go_sem, ↓reduceIte, Nat.reduceEqDiff, reduceCtorEq, Nat.reduceAdd, Int.reduceEq, Int.reduceBNe, Int.reduceBEq, Int.reduceToNat, Int.reduceLT, Int.reduceLE, Int.reduceGT, Int.reduceGE, Nat.reduceSub, Nat.reduceBEq, Nat.reduceBNe, Int.reduceAdd, Int.reduceSub, Int.reduceMul, Int.reduceNeg, Nat.reduceMul, Nat.reduceLeDiff, Nat.reduceLT]
    | simp (disch := omega) only [wi64, wu8, wu16, wu32, wu64, Int.tdiv_eq_ediv_of_nonneg, Int.tmod_eq_emod_of_nonneg]
    | with_reducible_and_instances exact finR
    | ((with_reducible refine finR' ?_ ?_) <;> rfl)
    | ((with_reducible refine finD hsc (NRel.of_plain ?_)); exact rfl)
  refine AC.mono hF ?_
  rintro v H1 ⟨at_, rfl, rfl, h3⟩
  rcases h3 with ⟨h4, _⟩ | ⟨a, ha, han, rfl, hmin⟩
  · omega
  have hna : ¬ ((a : Int) < 0) := by omega
  have ha0 : (a : Int) < (r.under.length : Int) := by omega
  obtain ⟨hg, hle⟩ := hgf a ha
  have hg4 : cs[o + (a * 7 + 4)]? = some (.int .i64 r.under[a].p.time) := by
    have e := congrArg (·[4]?) hg
    simp only [List.getElem?_take_of_lt (show 4 < 7 by omega), List.getElem?_drop] at e
    rw [← Nat.add_assoc, e]; rfl
  have hwa := hwf _ (List.getElem_mem ha)
  repeat first
    | with_reducible refine AWP.seq ?_
    | ((with_reducible refine AWP.region ?_ ?_); exact rfl)
    | with_reducible refine AWP.block ?_
    | with_reducible refine AWP.skip ?_
    | with_reducible refine AWP.exit ?_
    | with_reducible refine AWP.ret ?_
    | with_reducible refine AWP.label ?_
    | with_reducible refine AWP.goto ?_
    | ((with_reducible refine AWP.condT ?_ ?_); focus (simp only [ev, lk_cons, ↓reduceIte, Nat.reduceEqDiff]; done))
    | ((with_reducible refine AWP.condF ?_ ?_); focus (simp only [ev, lk_cons, ↓reduceIte, Nat.reduceEqDiff]; done))
    | simp only [go_sem, ↓reduceIte, Nat.reduceEqDiff, reduceCtorEq, Nat.reduceAdd, Int.reduceEq, Int.reduceBNe, Int.reduceBEq, Int.reduceToNat, Int.reduceLT, Int.reduceLE, Int.reduceGT, Int.reduceGE, Nat.reduceSub, Nat.reduceBEq, Nat.reduceBNe, Int.reduceAdd, Int.reduceSub, Int.reduceMul, Int.reduceNeg, Nat.reduceMul, Nat.reduceLeDiff, Nat.reduceLT, hna, ha0, hi, hj, hjl, hg4]
    | simp (disch := omega) only [wi64, wu8, wu16, wu32, wu64, Int.tdiv_eq_ediv_of_nonneg, Int.tmod_eq_emod_of_nonneg]
    | with_reducible_and_instances exact finR
    | ((with_reducible refine finR' ?_ ?_) <;> rfl)
    | ((with_reducible refine finD hsc (NRel.of_plain ?_)); exact rfl)
  refine ⟨_, _, .refl _ _ _, r.under[a], List.getElem_mem ha, fun y hy => ?_, by rw [hwa.1], rfl⟩
  obtain ⟨k, hk, rfl⟩ := List.getElem_of_mem hy
  have := hmin k hk hk
  unfold bef at this
  omega
theorem rNextNo {H : AHeap} {i : Nat} {r : Rk} {S : List Nat} (h : RkAt H i r S) (h0 : r.under = []) : ARet Try.prog 49 [.pointer (some ⟨i, 0, none⟩)] H (.tuple ⟨[.int .i64 0, .int .i64 8]⟩) H := by
  have hF := first h (by rw [h0]; decide) (by rw [h0]; simp)
  refine AC.enter Try.func49 rfl (by kernel_rfl) 20 rfl [.tmp 2, .tmp 3] rfl (by simp) fun hsc B => ?_
  repeat first
    | with_reducible refine AWP.seq ?_
    | ((with_reducible refine AWP.region ?_ ?_); exact rfl)
    | with_reducible refine AWP.block ?_
    | with_reducible refine AWP.skip ?_
    | with_reducible refine AWP.exit ?_
    | with_reducible refine AWP.ret ?_
    | with_reducible refine AWP.label ?_
    | with_reducible refine AWP.goto ?_
    | ((with_reducible refine AWP.condT ?_ ?_); focus (simp only [ev, lk_cons, ↓reduceIte, Nat.reduceEqDiff]; done))
    | ((with_reducible refine AWP.condF ?_ ?_); focus (simp only [ev, lk_cons, ↓reduceIte, Nat.reduceEqDiff]; done))
    | simp only [go_sem, ↓reduceIte, Nat.reduceEqDiff, reduceCtorEq, Nat.reduceAdd, Int.reduceEq, Int.reduceBNe, Int.reduceBEq, Int.reduceToNat, Int.reduceLT, Int.reduceLE, Int.reduceGT, Int.reduceGE, Nat.reduceSub, Nat.reduceBEq, Nat.reduceBNe, Int.reduceAdd, Int.reduceSub, Int.reduceMul, Int.reduceNeg, Nat.reduceMul, Nat.reduceLeDiff, Nat.reduceLT]
    | simp (disch := omega) only [wi64, wu8, wu16, wu32, wu64, Int.tdiv_eq_ediv_of_nonneg, Int.tmod_eq_emod_of_nonneg]
    | with_reducible_and_instances exact finR
    | ((with_reducible refine finR' ?_ ?_) <;> rfl)
    | ((with_reducible refine finD hsc (NRel.of_plain ?_)); exact rfl)
  refine AC.mono hF ?_
  rintro v H1 ⟨at_, rfl, rfl, h3⟩
  rcases h3 with ⟨h4, rfl⟩ | ⟨a, ha, han, rfl, hmin⟩
  · repeat first
      | with_reducible refine AWP.seq ?_
      | ((with_reducible refine AWP.region ?_ ?_); exact rfl)
      | with_reducible refine AWP.block ?_
      | with_reducible refine AWP.skip ?_
      | with_reducible refine AWP.exit ?_
      | with_reducible refine AWP.ret ?_
      | with_reducible refine AWP.label ?_
      | with_reducible refine AWP.goto ?_
      | ((with_reducible refine AWP.condT ?_ ?_); focus (simp only [ev, lk_cons, ↓reduceIte, Nat.reduceEqDiff]; done))
      | ((with_reducible refine AWP.condF ?_ ?_); focus (simp only [ev, lk_cons, ↓reduceIte, Nat.reduceEqDiff]; done))
      | simp only [go_sem, ↓reduceIte, Nat.reduceEqDiff, reduceCtorEq, Nat.reduceAdd, Int.reduceEq, Int.reduceBNe, Int.reduceBEq, Int.reduceToNat, Int.reduceLT, Int.reduceLE, Int.reduceGT, Int.reduceGE, Nat.reduceSub, Nat.reduceBEq, Nat.reduceBNe, Int.reduceAdd, Int.reduceSub, Int.reduceMul, Int.reduceNeg, Nat.reduceMul, Nat.reduceLeDiff, Nat.reduceLT]
      | simp (disch := omega) only [wi64, wu8, wu16, wu32, wu64, Int.tdiv_eq_ediv_of_nonneg, Int.tmod_eq_emod_of_nonneg]
      | with_reducible_and_instances exact finR
      | ((with_reducible refine finR' ?_ ?_) <;> rfl)
      | ((with_reducible refine finD hsc (NRel.of_plain ?_)); exact rfl)
  · rw [h0] at ha; simp at ha
end Go.Proofs.Ytnfkbgpbligloaa
