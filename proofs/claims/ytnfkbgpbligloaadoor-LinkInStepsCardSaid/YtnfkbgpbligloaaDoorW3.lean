/-
  Links: the queue; how many bytes it has; collecting it.
-/
import Derived.Test.YtnfkbgpbligloaaDoorW2
import Derived.Test.YtnfkbgpbligloaaDoorAwB
set_option linter.unusedVariables false
set_option linter.unusedSimpArgs false
set_option maxRecDepth 20000
set_option maxHeartbeats 4000000
namespace Go.Proofs.YtnfkbgpbligloaaDoor
open Go Go.Aw Go.Proofs
def wC (w : Int × Int) : List Value := [.int .i64 w.1, .int .i64 w.2]
def wq (l : List (Int × Int)) (now : Int) : List (Int × Int) := l.filter fun w => decide (w.1 > now)
theorem RdF.at2 {H : AHeap} {m : Nat} {v : Value} {l : List (List Value)} (h : RdF H m v l) {n : Nat} (hn : n < l.length) :
    ∃ i off cap cs k, v = .slice (some ⟨i, off, none⟩) l.length cap ∧ H[i]? = some (.cells cs k) ∧ (cs.drop (off + n * m)).take m = l[n] ∧ off + (n * m + m) ≤ cs.length := by
  rcases h with ⟨_, rfl⟩ | ⟨i, off, cap, cs, k, e, hc, hi, hk, hz, hl, hr⟩
  · exact absurd hn (by simp)
  · have h1 := hl (by intro e; rw [e] at hn; exact absurd hn (by simp))
    refine ⟨i, off, cap, cs, k, e, hi, hr n _ (List.getElem?_eq_getElem hn), ?_⟩
    have : (n + 1) * m ≤ l.length * m := Nat.mul_le_mul_right _ hn
    rw [Nat.add_mul, Nat.one_mul] at this
    omega
theorem wq_take (l : List (Int × Int)) (now : Int) (n : Nat) (h : n < l.length) : wq (l.take (n + 1)) now = wq (l.take n) now ++ if l[n].1 > now then [l[n]] else [] := by
  unfold wq
  rw [List.take_add_one, List.getElem?_eq_getElem h, List.filter_append]
  congr 1
  by_cases hc : l[n].1 > now
  · simp [hc]
  · simp [hc]
theorem wq_get (l : List (Int × Int)) (now : Int) (n : Nat) (h : n < l.length) (hc : l[n].1 > now) : (wq l now)[(wq (l.take n) now).length]? = some l[n] := by
  have e : l = l.take n ++ (l[n] :: l.drop (n + 1)) := by rw [List.getElem_cons_drop, List.take_append_drop]
  have e2 : wq l now = wq (l.take n) now ++ (l[n] :: wq (l.drop (n + 1)) now) := by
    conv => lhs; rw [e]
    unfold wq
    rw [List.filter_append, List.filter_cons_of_pos (by simpa using hc)]
  rw [e2, List.getElem?_append_right (Nat.le_refl _), Nat.sub_self]; rfl
def waitC (l : List (Int × Int)) : List (List Value) := l.map wC
theorem waitC_len (l : List (Int × Int)) : (waitC l).length = l.length := List.length_map _
/-- What the queue's function asks of the heap. -/
structure QOk (s : Lk) (i b1 b2 : Nat) (now : Int) (vw : Value) (H : AHeap) : Prop where
  b1 : H[b1]? = some (.cells [.pointer (some ⟨i, 0, none⟩)] ⟨28, 0, true, 0, none⟩)
  b2 : H[b2]? = some (.cells [.int .i64 now] ⟨3, 0, true, 0, none⟩)
  at_ : ∃ vn vu, H[i]? = some (.cells (s.c vn vw vu) ⟨52, 0, true, 0, none⟩)
  rd : RdF H 2 vw (waitC s.wait)
theorem QOk.fix {s : Lk} {i b1 b2 : Nat} {now : Int} {vw : Value} {H H2 : AHeap} (h : QOk s i b1 b2 now vw H) (hf : Frm [] H H2) : QOk s i b1 b2 now vw H2 :=
  ⟨hf.get h.b1 (by simp), hf.get h.b2 (by simp), by obtain ⟨a, b, e⟩ := h.at_; exact ⟨a, b, hf.get e (by simp)⟩, h.rd.fix (Frm.fix hf (.nil _))⟩
theorem queue1 (s : Lk) (i b1 b2 : Nat) (now : Int) (vw : Value) (hl : s.wait.length < 1099511627776) : SeqG Tryd.prog 37 [.pointer (some ⟨b1, 0, none⟩), .pointer (some ⟨b2, 0, none⟩)] ((wq s.wait now).map fun w => [.agg ⟨wC w⟩]) (QOk s i b1 b2 now vw) := by
  refine ⟨⟨_, Tryd.func37, by kernel_rfl, by kernel_rfl⟩, fun y H I D h0 hok hx hy => ?_⟩
  obtain ⟨hb1, hb2, ⟨vn, vu, hi⟩, hrd⟩ := hok 0 H h0
  unfold Lk.c at hi
  have q1 : ∀ H' K, lenW Tryd.prog 49 vw H' K = K (.int .i64 (s.wait.length : Nat)) H' := fun H' K => by rw [hrd.lenT (by simp only [go_sem, ↓reduceIte, Nat.reduceEqDiff, reduceCtorEq, Nat.reduceAdd, Int.reduceEq, Int.reduceBNe, Int.reduceBEq, Int.reduceToNat, Int.reduceLT, Int.reduceLE, Int.reduceGT, Int.reduceGE, Nat.reduceSub, Nat.reduceBEq, Nat.reduceBNe, Int.reduceAdd, Int.reduceSub, Int.reduceMul, Int.reduceNeg, Nat.reduceMul, Nat.reduceLeDiff, Nat.reduceLT]), waitC_len]
  rw [List.length_map]
  refine AC.enter Tryd.func37 rfl (by kernel_rfl) 26 rfl [] rfl (by simp) fun hsc B => ?_
  repeat first
    | with_reducible refine AWP.seq ?_
    | ((with_reducible refine AWP.region ?_ ?_); exact rfl)
    | with_reducible refine AWP.block ?_
    | with_reducible refine AWP.skip ?_
    | with_reducible refine AWP.exit ?_
    | with_reducible refine AWP.ret ?_
    | with_reducible refine AWP.label ?_
    | with_reducible refine AWP.goto ?_
    | ((with_reducible refine AWP.condT ?_ ?_); focus (simp only [ev, lk_cons, ↓reduceIte, Nat.reduceEqDiff]; done))
    | ((with_reducible refine AWP.condF ?_ ?_); focus (simp only [ev, lk_cons, ↓reduceIte, Nat.reduceEqDiff]; done))
    | simp only [go_sem, ↓reduceIte, Nat.reduceEqDiff, reduceCtorEq, Nat.reduceAdd, Int.reduceEq, Int.reduceBNe, Int.reduceBEq, Int.reduceToNat, Int.reduceLT, Int.reduceLE, Int.reduceGT, Int.reduceGE, Nat.reduceSub, Nat.reduceBEq, Nat.reduceBNe, Int.reduceAdd, Int.reduceSub, Int.reduceMul, Int.reduceNeg, Nat.reduceMul, Nat.reduceLeDiff, Nat.reduceLT, hb1, hi, q1]
    | simp (disch := omega) only [wi64, wu8, wu16, wu32, wu64, Int.tdiv_eq_ediv_of_nonneg, Int.tmod_eq_emod_of_nonneg]
    | with_reducible_and_instances exact finR
    | ((with_reducible refine finR' ?_ ?_) <;> rfl)
    | ((with_reducible refine finD hsc (NRel.of_plain ?_)); exact rfl)
  refine AWP.loopP (fun p : Nat × AHeap => ⟨[(0, .func (.yield y) ⟨[]⟩ ⟨[]⟩), (2, .pointer (some ⟨b2, 0, none⟩)), (9, vw), (10, .int .i64 (s.wait.length : Nat)), (11, .int .i64 (p.1 : Nat))], [], p.2⟩)
    (fun p => p.1 ≤ s.wait.length ∧ I (wq (s.wait.take p.1) now).length p.2) (fun p => s.wait.length - p.1) (0, H) ?_ ⟨Nat.zero_le _, h0⟩ ?_
  · exact Weak.env (by simp [envIn, lk_cons, wth_some])
  rintro ⟨n, H1⟩ ⟨hn, hI⟩
  simp only at hn hI ⊢
  by_cases hc : n < s.wait.length
  · have hc' : (n : Int) < (s.wait.length : Int) := by omega
    obtain ⟨hb1', hb2', -, hrd'⟩ := hok _ H1 hI
    have hbl := lt_of_get hb2'
    obtain ⟨j, o, cap, cs, k, rfl, hj, hg, hle⟩ := hrd'.at2 (n := n) (by rw [waitC_len]; exact hc)
    have hjl := lt_of_get hj
    have hwl := waitC_len s.wait
    have hgw : (waitC s.wait)[n]'(by rw [waitC_len]; exact hc) = [.int .i64 s.wait[n].1, .int .i64 s.wait[n].2] := by simp [waitC, wC]
    rw [hgw] at hg
    have hwn : IntKind.i64.wrap ((n : Int) + 1) = ((n + 1 : Nat) : Int) := by rw [wi64 (by omega)]; omega
    have htk := wq_take s.wait now n hc
    have hwg := wq_get s.wait now n hc
    generalize hw : s.wait[n] = w at *
    obtain ⟨a, b⟩ := w
    simp only at hg htk hwg
    by_cases hq : a > now
    · rw [if_pos hq] at htk
      have hy1 := hy _ [.agg ⟨wC (a, b)⟩] _ (by rw [List.getElem?_map, hwg hq]; rfl) (hx _ _ [.cells [.int .i64 a, .int .i64 b] ⟨57, 0, true, 0, none⟩] hI)
      unfold wC at hy1
      have hq' : (now < a) = True := by simpa using hq
      repeat first
        | with_reducible refine AWP.seq ?_
        | ((with_reducible refine AWP.region ?_ ?_); exact rfl)
        | with_reducible refine AWP.block ?_
        | with_reducible refine AWP.skip ?_
        | with_reducible refine AWP.exit ?_
        | with_reducible refine AWP.ret ?_
        | with_reducible refine AWP.label ?_
        | with_reducible refine AWP.goto ?_
        | ((with_reducible refine AWP.condT ?_ ?_); focus (simp only [ev, lk_cons, ↓reduceIte, Nat.reduceEqDiff]; done))
        | ((with_reducible refine AWP.condF ?_ ?_); focus (simp only [ev, lk_cons, ↓reduceIte, Nat.reduceEqDiff]; done))
        | simp only [go_sem, ↓reduceIte, Nat.reduceEqDiff, reduceCtorEq, Nat.reduceAdd, Int.reduceEq, Int.reduceBNe, Int.reduceBEq, Int.reduceToNat, Int.reduceLT, Int.reduceLE, Int.reduceGT, Int.reduceGE, Nat.reduceSub, Nat.reduceBEq, Nat.reduceBNe, Int.reduceAdd, Int.reduceSub, Int.reduceMul, Int.reduceNeg, Nat.reduceMul, Nat.reduceLeDiff, Nat.reduceLT, hc', hj, hjl, hgetl, hg, hle, hwl, hb2', hbl, hq, hq']
        | simp (disch := omega) only [wi64, wu8, wu16, wu32, wu64, Int.tdiv_eq_ediv_of_nonneg, Int.tmod_eq_emod_of_nonneg]
        | with_reducible_and_instances exact finR
        | ((with_reducible refine finR' ?_ ?_) <;> rfl)
        | ((with_reducible refine finD hsc (NRel.of_plain ?_)); exact rfl)
      refine AY.mono hy1 ?_
      rintro v H2 ⟨r, rfl, hr1, hr2⟩
      cases r with
      | true =>
        repeat first
          | with_reducible refine AWP.seq ?_
          | ((with_reducible refine AWP.region ?_ ?_); exact rfl)
          | with_reducible refine AWP.block ?_
          | with_reducible refine AWP.skip ?_
          | with_reducible refine AWP.exit ?_
          | with_reducible refine AWP.ret ?_
          | with_reducible refine AWP.label ?_
          | with_reducible refine AWP.goto ?_
          | ((with_reducible refine AWP.condT ?_ ?_); focus (simp only [ev, lk_cons, ↓reduceIte, Nat.reduceEqDiff]; done))
          | ((with_reducible refine AWP.condF ?_ ?_); focus (simp only [ev, lk_cons, ↓reduceIte, Nat.reduceEqDiff]; done))
          | simp only [go_sem, ↓reduceIte, Nat.reduceEqDiff, reduceCtorEq, Nat.reduceAdd, Int.reduceEq, Int.reduceBNe, Int.reduceBEq, Int.reduceToNat, Int.reduceLT, Int.reduceLE, Int.reduceGT, Int.reduceGE, Nat.reduceSub, Nat.reduceBEq, Nat.reduceBNe, Int.reduceAdd, Int.reduceSub, Int.reduceMul, Int.reduceNeg, Nat.reduceMul, Nat.reduceLeDiff, Nat.reduceLT, hwn]
          | simp (disch := omega) only [wi64, wu8, wu16, wu32, wu64, Int.tdiv_eq_ediv_of_nonneg, Int.tmod_eq_emod_of_nonneg]
          | with_reducible_and_instances exact finR
          | ((with_reducible refine finR' ?_ ?_) <;> rfl)
          | ((with_reducible refine finD hsc (NRel.of_plain ?_)); exact rfl)
        refine ⟨(n + 1, H2), Weak.env (by simp [envIn, lk_cons, wth_some, hwl]), by show n + 1 ≤ _; omega, ?_, by show s.wait.length - (n + 1) < _; omega⟩
        show I (wq (s.wait.take (n + 1)) now).length H2
        rw [htk, List.length_append]
        exact hr1 rfl
      | false =>
        repeat first
          | with_reducible refine AWP.seq ?_
          | ((with_reducible refine AWP.region ?_ ?_); exact rfl)
          | with_reducible refine AWP.block ?_
          | with_reducible refine AWP.skip ?_
          | with_reducible refine AWP.exit ?_
          | with_reducible refine AWP.ret ?_
          | with_reducible refine AWP.label ?_
          | with_reducible refine AWP.goto ?_
          | ((with_reducible refine AWP.condT ?_ ?_); focus (simp only [ev, lk_cons, ↓reduceIte, Nat.reduceEqDiff]; done))
          | ((with_reducible refine AWP.condF ?_ ?_); focus (simp only [ev, lk_cons, ↓reduceIte, Nat.reduceEqDiff]; done))
          | simp only [go_sem, ↓reduceIte, Nat.reduceEqDiff, reduceCtorEq, Nat.reduceAdd, Int.reduceEq, Int.reduceBNe, Int.reduceBEq, Int.reduceToNat, Int.reduceLT, Int.reduceLE, Int.reduceGT, Int.reduceGE, Nat.reduceSub, Nat.reduceBEq, Nat.reduceBNe, Int.reduceAdd, Int.reduceSub, Int.reduceMul, Int.reduceNeg, Nat.reduceMul, Nat.reduceLeDiff, Nat.reduceLT]
          | simp (disch := omega) only [wi64, wu8, wu16, wu32, wu64, Int.tdiv_eq_ediv_of_nonneg, Int.tmod_eq_emod_of_nonneg]
          | with_reducible_and_instances exact finR
          | ((with_reducible refine finR' ?_ ?_) <;> rfl)
          | ((with_reducible refine finD hsc (NRel.of_plain ?_)); exact rfl)
        exact ⟨_, _, .refl _ _ _, rfl, .inr (hr2 rfl)⟩
    · rw [if_neg hq, List.append_nil] at htk
      repeat first
        | with_reducible refine AWP.seq ?_
        | ((with_reducible refine AWP.region ?_ ?_); exact rfl)
        | with_reducible refine AWP.block ?_
        | with_reducible refine AWP.skip ?_
        | with_reducible refine AWP.exit ?_
        | with_reducible refine AWP.ret ?_
        | with_reducible refine AWP.label ?_
        | with_reducible refine AWP.goto ?_
        | ((with_reducible refine AWP.condT ?_ ?_); focus (simp only [ev, lk_cons, ↓reduceIte, Nat.reduceEqDiff]; done))
        | ((with_reducible refine AWP.condF ?_ ?_); focus (simp only [ev, lk_cons, ↓reduceIte, Nat.reduceEqDiff]; done))
        | simp only [go_sem, ↓reduceIte, Nat.reduceEqDiff, reduceCtorEq, Nat.reduceAdd, Int.reduceEq, Int.reduceBNe, Int.reduceBEq, Int.reduceToNat, Int.reduceLT, Int.reduceLE, Int.reduceGT, Int.reduceGE, Nat.reduceSub, Nat.reduceBEq, Nat.reduceBNe, Int.reduceAdd, Int.reduceSub, Int.reduceMul, Int.reduceNeg, Nat.reduceMul, Nat.reduceLeDiff, Nat.reduceLT, hc', hj, hjl, hgetl, hg, hle, hwl, hb2', hbl, hq, hwn]
        | simp (disch := omega) only [wi64, wu8, wu16, wu32, wu64, Int.tdiv_eq_ediv_of_nonneg, Int.tmod_eq_emod_of_nonneg]
        | with_reducible_and_instances exact finR
        | ((with_reducible refine finR' ?_ ?_) <;> rfl)
        | ((with_reducible refine finD hsc (NRel.of_plain ?_)); exact rfl)
      refine ⟨(n + 1, H1 ++ [.cells [.int .i64 a, .int .i64 b] ⟨57, 0, true, 0, none⟩]), Weak.env (by simp [envIn, lk_cons, wth_some, hwl]), by show n + 1 ≤ _; omega, ?_, by show s.wait.length - (n + 1) < _; omega⟩
      show I (wq (s.wait.take (n + 1)) now).length _
      rw [htk]
      exact hx _ _ _ hI
  · have hc' : ¬ (n : Int) < (s.wait.length : Int) := by omega
    have : n = s.wait.length := by omega
    subst this
    rw [List.take_length] at hI
    repeat first
      | with_reducible refine AWP.seq ?_
      | ((with_reducible refine AWP.region ?_ ?_); exact rfl)
      | with_reducible refine AWP.block ?_
      | with_reducible refine AWP.skip ?_
      | with_reducible refine AWP.exit ?_
      | with_reducible refine AWP.ret ?_
      | with_reducible refine AWP.label ?_
      | with_reducible refine AWP.goto ?_
      | ((with_reducible refine AWP.condT ?_ ?_); focus (simp only [ev, lk_cons, ↓reduceIte, Nat.reduceEqDiff]; done))
      | ((with_reducible refine AWP.condF ?_ ?_); focus (simp only [ev, lk_cons, ↓reduceIte, Nat.reduceEqDiff]; done))
      | simp only [go_sem, ↓reduceIte, Nat.reduceEqDiff, reduceCtorEq, Nat.reduceAdd, Int.reduceEq, Int.reduceBNe, Int.reduceBEq, Int.reduceToNat, Int.reduceLT, Int.reduceLE, Int.reduceGT, Int.reduceGE, Nat.reduceSub, Nat.reduceBEq, Nat.reduceBNe, Int.reduceAdd, Int.reduceSub, Int.reduceMul, Int.reduceNeg, Nat.reduceMul, Nat.reduceLeDiff, Nat.reduceLT, hc']
      | simp (disch := omega) only [wi64, wu8, wu16, wu32, wu64, Int.tdiv_eq_ediv_of_nonneg, Int.tmod_eq_emod_of_nonneg]
      | with_reducible_and_instances exact finR
      | ((with_reducible refine finR' ?_ ?_) <;> rfl)
      | ((with_reducible refine finD hsc (NRel.of_plain ?_)); exact rfl)
    exact ⟨_, _, .refl _ _ _, rfl, .inl hI⟩
theorem queue (H : AHeap) (i : Nat) (now : Int) : ARet Tryd.prog 19 [.pointer (some ⟨i, 0, none⟩), .int .i64 now] H (.func (.func 37) ⟨[]⟩ ⟨[.pointer (some ⟨H.length, 0, none⟩), .pointer (some ⟨H.length + 1, 0, none⟩)]⟩)
    (H ++ [.cells [.pointer (some ⟨i, 0, none⟩)] ⟨28, 0, true, 0, none⟩, .cells [.int .i64 now] ⟨3, 0, true, 0, none⟩]) := by
  refine AC.enter Tryd.func19 rfl (by kernel_rfl) 6 rfl [.tmp 4] rfl (by simp) fun hsc B => ?_
  repeat first
    | with_reducible refine AWP.seq ?_
    | ((with_reducible refine AWP.region ?_ ?_); exact rfl)
    | with_reducible refine AWP.block ?_
    | with_reducible refine AWP.skip ?_
    | with_reducible refine AWP.exit ?_
    | with_reducible refine AWP.ret ?_
    | with_reducible refine AWP.label ?_
    | with_reducible refine AWP.goto ?_
    | ((with_reducible refine AWP.condT ?_ ?_); focus (simp only [ev, lk_cons, ↓reduceIte, Nat.reduceEqDiff]; done))
    | ((with_reducible refine AWP.condF ?_ ?_); focus (simp only [ev, lk_cons, ↓reduceIte, Nat.reduceEqDiff]; done))
    | simp only [go_sem, ↓reduceIte, Nat.reduceEqDiff, reduceCtorEq, Nat.reduceAdd, Int.reduceEq, Int.reduceBNe, Int.reduceBEq, Int.reduceToNat, Int.reduceLT, Int.reduceLE, Int.reduceGT, Int.reduceGE, Nat.reduceSub, Nat.reduceBEq, Nat.reduceBNe, Int.reduceAdd, Int.reduceSub, Int.reduceMul, Int.reduceNeg, Nat.reduceMul, Nat.reduceLeDiff, Nat.reduceLT]
    | simp (disch := omega) only [wi64, wu8, wu16, wu32, wu64, Int.tdiv_eq_ediv_of_nonneg, Int.tmod_eq_emod_of_nonneg]
    | with_reducible_and_instances exact finR
    | ((with_reducible refine finR' ?_ ?_) <;> rfl)
    | ((with_reducible refine finD hsc (NRel.of_plain ?_)); exact rfl)
end Go.Proofs.YtnfkbgpbligloaaDoor
