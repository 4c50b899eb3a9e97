/-
  Links: Put.
-/
import Derived.Test.YtnfkbgpbligloaaDoorW8
set_option linter.unusedVariables false
set_option linter.unusedSimpArgs false
set_option maxRecDepth 20000
set_option maxHeartbeats 4000000
namespace Go.Proofs.YtnfkbgpbligloaaDoor
open Go Go.Aw Go.Proofs
theorem fates (H : AHeap) : ARet Tryd.prog 20 [] H (.agg ⟨[.func (.func 38) ⟨[]⟩ ⟨[]⟩, .func (.func 39) ⟨[]⟩ ⟨[]⟩, .func (.func 40) ⟨[]⟩ ⟨[]⟩]⟩) H := by
  refine AC.enter Tryd.func20 rfl (by kernel_rfl) 2 rfl [.cell 0 62] rfl (by simp) fun hsc B => ?_
  repeat first
    | with_reducible refine AWP.seq ?_
    | ((with_reducible refine AWP.region ?_ ?_); exact rfl)
    | with_reducible refine AWP.block ?_
    | with_reducible refine AWP.skip ?_
    | with_reducible refine AWP.exit ?_
    | with_reducible refine AWP.ret ?_
    | with_reducible refine AWP.label ?_
    | with_reducible refine AWP.goto ?_
    | ((with_reducible refine AWP.condT ?_ ?_); focus (simp only [ev, lk_cons, ↓reduceIte, Nat.reduceEqDiff]; done))
    | ((with_reducible refine AWP.condF ?_ ?_); focus (simp only [ev, lk_cons, ↓reduceIte, Nat.reduceEqDiff]; done))
    | simp only [go_sem, ↓reduceIte, Nat.reduceEqDiff, reduceCtorEq, Nat.reduceAdd, Int.reduceEq, Int.reduceBNe, Int.reduceBEq, Int.reduceToNat, Int.reduceLT, Int.reduceLE, Int.reduceGT, Int.reduceGE, Nat.reduceSub, Nat.reduceBEq, Nat.reduceBNe, Int.reduceAdd, Int.reduceSub, Int.reduceMul, Int.reduceNeg, Nat.reduceMul, Nat.reduceLeDiff, Nat.reduceLT]
    | simp (disch := omega) only [wi64, wu8, wu16, wu32, wu64, Int.tdiv_eq_ediv_of_nonneg, Int.tmod_eq_emod_of_nonneg]
    | with_reducible_and_instances exact finR
    | ((with_reducible refine finR' ?_ ?_) <;> rfl)
    | ((with_reducible refine finD hsc (NRel.of_plain ?_)); exact rfl)
  exact finD hsc (by simp [nr_agg, nrs_cons, nrs_nil, nr_func])
def Pp.fate (p : Pp) (k : Int) : Int := if k % 100 < p.loss then 1 else if k / 100 % 100 < p.dbl then 2 else 0
theorem fate {H : AHeap} {i : Nat} {s : Lk} {S : List Nat} (h : LkAt H i s S) (k : Int) (hk : 0 ≤ k ∧ k < 1152921504606846976) : ARet Tryd.prog 21 [.pointer (some ⟨i, 0, none⟩), .int .i64 k] H (.int .i64 (s.pipe.fate k)) H := by
  obtain ⟨vn, vw, vu, us, Su, ⟨hi, -, -, -, -, -⟩, rfl⟩ := h
  unfold Lk.c at hi
  have e1 : k.tmod 100 = k % 100 := Int.tmod_eq_emod_of_nonneg (by omega)
  have e2 : k.tdiv 100 = k / 100 := Int.tdiv_eq_ediv_of_nonneg (by omega)
  have e3 : (k / 100).tmod 100 = k / 100 % 100 := Int.tmod_eq_emod_of_nonneg (by omega)
  have e4 : IntKind.i64.wrap (k / 100) = k / 100 := wi64 (by omega)
  unfold Pp.fate
  by_cases h1 : k % 100 < s.pipe.loss
  · rw [if_pos h1]
    refine AC.enter Tryd.func21 rfl (by kernel_rfl) 24 rfl [.tmp 4] rfl (by simp) fun hsc B => ?_
    repeat first
      | with_reducible refine AWP.seq ?_
      | ((with_reducible refine AWP.region ?_ ?_); exact rfl)
      | with_reducible refine AWP.block ?_
      | with_reducible refine AWP.skip ?_
      | with_reducible refine AWP.exit ?_
      | with_reducible refine AWP.ret ?_
      | with_reducible refine AWP.label ?_
      | with_reducible refine AWP.goto ?_
      | ((with_reducible refine AWP.condT ?_ ?_); focus (simp only [ev, lk_cons, ↓reduceIte, Nat.reduceEqDiff]; done))
      | ((with_reducible refine AWP.condF ?_ ?_); focus (simp only [ev, lk_cons, ↓reduceIte, Nat.reduceEqDiff]; done))
      | simp only [go_sem, ↓reduceIte, Nat.reduceEqDiff, reduceCtorEq, Nat.reduceAdd, Int.reduceEq, Int.reduceBNe, Int.reduceBEq, Int.reduceToNat, Int.reduceLT, Int.reduceLE, Int.reduceGT, Int.reduceGE, Nat.reduceSub, Nat.reduceBEq, Nat.reduceBNe, Int.reduceAdd, Int.reduceSub, Int.reduceMul, Int.reduceNeg, Nat.reduceMul, Nat.reduceLeDiff, Nat.reduceLT, hi, e1, h1]
      | simp (disch := omega) only [wi64, wu8, wu16, wu32, wu64, Int.tdiv_eq_ediv_of_nonneg, Int.tmod_eq_emod_of_nonneg]
      | with_reducible_and_instances exact finR
      | ((with_reducible refine finR' ?_ ?_) <;> rfl)
      | ((with_reducible refine finD hsc (NRel.of_plain ?_)); exact rfl)
  · rw [if_neg h1]
    by_cases h2 : k / 100 % 100 < s.pipe.dbl
    · rw [if_pos h2]
      refine AC.enter Tryd.func21 rfl (by kernel_rfl) 24 rfl [.tmp 4] rfl (by simp) fun hsc B => ?_
      repeat first
        | with_reducible refine AWP.seq ?_
        | ((with_reducible refine AWP.region ?_ ?_); exact rfl)
        | with_reducible refine AWP.block ?_
        | with_reducible refine AWP.skip ?_
        | with_reducible refine AWP.exit ?_
        | with_reducible refine AWP.ret ?_
        | with_reducible refine AWP.label ?_
        | with_reducible refine AWP.goto ?_
        | ((with_reducible refine AWP.condT ?_ ?_); focus (simp only [ev, lk_cons, ↓reduceIte, Nat.reduceEqDiff]; done))
        | ((with_reducible refine AWP.condF ?_ ?_); focus (simp only [ev, lk_cons, ↓reduceIte, Nat.reduceEqDiff]; done))
        | simp only [go_sem, ↓reduceIte, Nat.reduceEqDiff, reduceCtorEq, Nat.reduceAdd, Int.reduceEq, Int.reduceBNe, Int.reduceBEq, Int.reduceToNat, Int.reduceLT, Int.reduceLE, Int.reduceGT, Int.reduceGE, Nat.reduceSub, Nat.reduceBEq, Nat.reduceBNe, Int.reduceAdd, Int.reduceSub, Int.reduceMul, Int.reduceNeg, Nat.reduceMul, Nat.reduceLeDiff, Nat.reduceLT, hi, e1, h1, e2, e4, e3, h2]
        | simp (disch := omega) only [wi64, wu8, wu16, wu32, wu64, Int.tdiv_eq_ediv_of_nonneg, Int.tmod_eq_emod_of_nonneg]
        | with_reducible_and_instances exact finR
        | ((with_reducible refine finR' ?_ ?_) <;> rfl)
        | ((with_reducible refine finD hsc (NRel.of_plain ?_)); exact rfl)
    · rw [if_neg h2]
      refine AC.enter Tryd.func21 rfl (by kernel_rfl) 24 rfl [.tmp 4] rfl (by simp) fun hsc B => ?_
      repeat first
        | with_reducible refine AWP.seq ?_
        | ((with_reducible refine AWP.region ?_ ?_); exact rfl)
        | with_reducible refine AWP.block ?_
        | with_reducible refine AWP.skip ?_
        | with_reducible refine AWP.exit ?_
        | with_reducible refine AWP.ret ?_
        | with_reducible refine AWP.label ?_
        | with_reducible refine AWP.goto ?_
        | ((with_reducible refine AWP.condT ?_ ?_); focus (simp only [ev, lk_cons, ↓reduceIte, Nat.reduceEqDiff]; done))
        | ((with_reducible refine AWP.condF ?_ ?_); focus (simp only [ev, lk_cons, ↓reduceIte, Nat.reduceEqDiff]; done))
        | simp only [go_sem, ↓reduceIte, Nat.reduceEqDiff, reduceCtorEq, Nat.reduceAdd, Int.reduceEq, Int.reduceBNe, Int.reduceBEq, Int.reduceToNat, Int.reduceLT, Int.reduceLE, Int.reduceGT, Int.reduceGE, Nat.reduceSub, Nat.reduceBEq, Nat.reduceBNe, Int.reduceAdd, Int.reduceSub, Int.reduceMul, Int.reduceNeg, Nat.reduceMul, Nat.reduceLeDiff, Nat.reduceLT, hi, e1, h1, e2, e4, e3, h2]
        | simp (disch := omega) only [wi64, wu8, wu16, wu32, wu64, Int.tdiv_eq_ediv_of_nonneg, Int.tmod_eq_emod_of_nonneg]
        | with_reducible_and_instances exact finR
        | ((with_reducible refine finR' ?_ ?_) <;> rfl)
        | ((with_reducible refine finD hsc (NRel.of_plain ?_)); exact rfl)
/-- The number that decides on a packet. -/
def Lk.kk (s : Lk) : Int := s.nums.headD 0
def Lk.pk (s : Lk) (now size : Int) (body : List UInt8) : Pc := ⟨s.id + 1, size, now, max now s.free, max now s.free + s.pipe.gone size + s.pipe.delay + s.kk / 10000 % (s.pipe.jit + 1), body⟩
def Pc.cm (p : Pc) : Cm := ⟨p.time, p.id, 0, p⟩
def Lk.coms (s : Lk) (now size : Int) (body : List UInt8) : List Cm :=
  if s.pipe.fate s.kk = 1 then [] else if s.pipe.fate s.kk = 2 then [(s.pk now size body).cm, (s.pk now size body).cm.again] else [(s.pk now size body).cm]
def Lk.dropQ (s : Lk) (now size : Int) : Bool := decide (max now s.free > now) && decide (sumW (wq s.wait now) + size > s.pipe.room)
def Lk.putS (s : Lk) (now size : Int) (body : List UInt8) : Lk :=
  { s with nums := s.nums.tail, now := now, free := max now s.free + s.pipe.gone size, id := s.id + 1, wait := wq s.wait now ++ [(max now s.free, size)], under := s.under ++ s.coms now size body, put := s.put + 1,
           lost := if s.pipe.fate s.kk = 1 then s.lost + 1 else s.lost, dbl := if s.pipe.fate s.kk = 2 then s.dbl + 1 else s.dbl }
/-- What holds of a link at all times. -/
structure Lk.okB (s : Lk) : Prop where
  pipe : s.pipe.ok = true
  nums : ∀ n ∈ s.nums, 0 ≤ n ∧ n ≤ 999999999
  now : 0 ≤ s.now ∧ s.now ≤ 1000000000
  free : 0 ≤ s.free ∧ s.free < 288230376151711744
  id : 0 ≤ s.id ∧ s.id < 288230376151711744
  put : 0 ≤ s.put ∧ s.put < 288230376151711744
  arr : 0 ≤ s.arr ∧ s.arr < 288230376151711744
  lost : 0 ≤ s.lost ∧ s.lost < 288230376151711744
  drop : 0 ≤ s.drop ∧ s.drop < 288230376151711744
  dbl : 0 ≤ s.dbl ∧ s.dbl < 288230376151711744
  wait : ∀ w ∈ s.wait, 0 ≤ w.2 ∧ w.2 ≤ 100000
  waitL : s.wait.length < 549755813888
  underL : s.under.length < 549755813888
theorem putBig {H : AHeap} {i : Nat} (now size : Int) (body : List UInt8) (hl : (body.length : Int) > 65536) : ARet Tryd.prog 7 [.pointer (some ⟨i, 0, none⟩), .int .i64 now, .int .i64 size, .string (bs body)] H (.tuple ⟨[.int .i64 0, .bool false, .int .i64 1]⟩) H := by
  refine AC.enter Tryd.func7 rfl (by kernel_rfl) 181 rfl [.tmp 8, .tmp 9, .tmp 10] rfl (by simp) fun hsc B => ?_
  repeat first
    | with_reducible refine AWP.seq ?_
    | ((with_reducible refine AWP.region ?_ ?_); exact rfl)
    | with_reducible refine AWP.block ?_
    | with_reducible refine AWP.skip ?_
    | with_reducible refine AWP.exit ?_
    | with_reducible refine AWP.ret ?_
    | with_reducible refine AWP.label ?_
    | with_reducible refine AWP.goto ?_
    | ((with_reducible refine AWP.condT ?_ ?_); focus (simp only [ev, lk_cons, ↓reduceIte, Nat.reduceEqDiff]; done))
    | ((with_reducible refine AWP.condF ?_ ?_); focus (simp only [ev, lk_cons, ↓reduceIte, Nat.reduceEqDiff]; done))
    | simp only [go_sem, ↓reduceIte, Nat.reduceEqDiff, reduceCtorEq, Nat.reduceAdd, Int.reduceEq, Int.reduceBNe, Int.reduceBEq, Int.reduceToNat, Int.reduceLT, Int.reduceLE, Int.reduceGT, Int.reduceGE, Nat.reduceSub, Nat.reduceBEq, Nat.reduceBNe, Int.reduceAdd, Int.reduceSub, Int.reduceMul, Int.reduceNeg, Nat.reduceMul, Nat.reduceLeDiff, Nat.reduceLT, hl]
    | simp (disch := omega) only [wi64, wu8, wu16, wu32, wu64, Int.tdiv_eq_ediv_of_nonneg, Int.tmod_eq_emod_of_nonneg]
    | with_reducible_and_instances exact finR
    | ((with_reducible refine finR' ?_ ?_) <;> rfl)
    | ((with_reducible refine finD hsc (NRel.of_plain ?_)); exact rfl)
def badS (s : Lk) (now size : Int) : Bool := decide (now < s.now) || decide (now > 1000000000) || decide (size < 0) || decide (size > 100000)
theorem putRange {H : AHeap} {i : Nat} {s : Lk} {S : List Nat} (h : LkAt H i s S) (now size : Int) (body : List UInt8) (hl : ¬ (body.length : Int) > 65536) (hb : badS s now size = true) : ARet Tryd.prog 7 [.pointer (some ⟨i, 0, none⟩), .int .i64 now, .int .i64 size, .string (bs body)] H (.tuple ⟨[.int .i64 0, .bool false, .int .i64 7]⟩) H := by
  obtain ⟨vn, vw, vu, us, Su, ⟨hi, -, -, -, -, -⟩, rfl⟩ := h
  unfold Lk.c at hi
  unfold badS at hb
  by_cases h1 : now < s.now
  · skip
    refine AC.enter Tryd.func7 rfl (by kernel_rfl) 181 rfl [.tmp 8, .tmp 9, .tmp 10] rfl (by simp) fun hsc B => ?_
    repeat first
      | with_reducible refine AWP.seq ?_
      | ((with_reducible refine AWP.region ?_ ?_); exact rfl)
      | with_reducible refine AWP.block ?_
      | with_reducible refine AWP.skip ?_
      | with_reducible refine AWP.exit ?_
      | with_reducible refine AWP.ret ?_
      | with_reducible refine AWP.label ?_
      | with_reducible refine AWP.goto ?_
      | ((with_reducible refine AWP.condT ?_ ?_); focus (simp only [ev, lk_cons, ↓reduceIte, Nat.reduceEqDiff]; done))
      | ((with_reducible refine AWP.condF ?_ ?_); focus (simp only [ev, lk_cons, ↓reduceIte, Nat.reduceEqDiff]; done))
      | simp only [go_sem, ↓reduceIte, Nat.reduceEqDiff, reduceCtorEq, Nat.reduceAdd, Int.reduceEq, Int.reduceBNe, Int.reduceBEq, Int.reduceToNat, Int.reduceLT, Int.reduceLE, Int.reduceGT, Int.reduceGE, Nat.reduceSub, Nat.reduceBEq, Nat.reduceBNe, Int.reduceAdd, Int.reduceSub, Int.reduceMul, Int.reduceNeg, Nat.reduceMul, Nat.reduceLeDiff, Nat.reduceLT, hi, hl, h1]
      | simp (disch := omega) only [wi64, wu8, wu16, wu32, wu64, Int.tdiv_eq_ediv_of_nonneg, Int.tmod_eq_emod_of_nonneg]
      | with_reducible_and_instances exact finR
      | ((with_reducible refine finR' ?_ ?_) <;> rfl)
      | ((with_reducible refine finD hsc (NRel.of_plain ?_)); exact rfl)
  by_cases h2 : now > 1000000000
  · skip
    refine AC.enter Tryd.func7 rfl (by kernel_rfl) 181 rfl [.tmp 8, .tmp 9, .tmp 10] rfl (by simp) fun hsc B => ?_
    repeat first
      | with_reducible refine AWP.seq ?_
      | ((with_reducible refine AWP.region ?_ ?_); exact rfl)
      | with_reducible refine AWP.block ?_
      | with_reducible refine AWP.skip ?_
      | with_reducible refine AWP.exit ?_
      | with_reducible refine AWP.ret ?_
      | with_reducible refine AWP.label ?_
      | with_reducible refine AWP.goto ?_
      | ((with_reducible refine AWP.condT ?_ ?_); focus (simp only [ev, lk_cons, ↓reduceIte, Nat.reduceEqDiff]; done))
      | ((with_reducible refine AWP.condF ?_ ?_); focus (simp only [ev, lk_cons, ↓reduceIte, Nat.reduceEqDiff]; done))
      | simp only [go_sem, ↓reduceIte, Nat.reduceEqDiff, reduceCtorEq, Nat.reduceAdd, Int.reduceEq, Int.reduceBNe, Int.reduceBEq, Int.reduceToNat, Int.reduceLT, Int.reduceLE, Int.reduceGT, Int.reduceGE, Nat.reduceSub, Nat.reduceBEq, Nat.reduceBNe, Int.reduceAdd, Int.reduceSub, Int.reduceMul, Int.reduceNeg, Nat.reduceMul, Nat.reduceLeDiff, Nat.reduceLT, hi, hl, h1, h2]
      | simp (disch := omega) only [wi64, wu8, wu16, wu32, wu64, Int.tdiv_eq_ediv_of_nonneg, Int.tmod_eq_emod_of_nonneg]
      | with_reducible_and_instances exact finR
      | ((with_reducible refine finR' ?_ ?_) <;> rfl)
      | ((with_reducible refine finD hsc (NRel.of_plain ?_)); exact rfl)
  by_cases h3 : size < 0
  · skip
    refine AC.enter Tryd.func7 rfl (by kernel_rfl) 181 rfl [.tmp 8, .tmp 9, .tmp 10] rfl (by simp) fun hsc B => ?_
    repeat first
      | with_reducible refine AWP.seq ?_
      | ((with_reducible refine AWP.region ?_ ?_); exact rfl)
      | with_reducible refine AWP.block ?_
      | with_reducible refine AWP.skip ?_
      | with_reducible refine AWP.exit ?_
      | with_reducible refine AWP.ret ?_
      | with_reducible refine AWP.label ?_
      | with_reducible refine AWP.goto ?_
      | ((with_reducible refine AWP.condT ?_ ?_); focus (simp only [ev, lk_cons, ↓reduceIte, Nat.reduceEqDiff]; done))
      | ((with_reducible refine AWP.condF ?_ ?_); focus (simp only [ev, lk_cons, ↓reduceIte, Nat.reduceEqDiff]; done))
      | simp only [go_sem, ↓reduceIte, Nat.reduceEqDiff, reduceCtorEq, Nat.reduceAdd, Int.reduceEq, Int.reduceBNe, Int.reduceBEq, Int.reduceToNat, Int.reduceLT, Int.reduceLE, Int.reduceGT, Int.reduceGE, Nat.reduceSub, Nat.reduceBEq, Nat.reduceBNe, Int.reduceAdd, Int.reduceSub, Int.reduceMul, Int.reduceNeg, Nat.reduceMul, Nat.reduceLeDiff, Nat.reduceLT, hi, hl, h1, h2, h3]
      | simp (disch := omega) only [wi64, wu8, wu16, wu32, wu64, Int.tdiv_eq_ediv_of_nonneg, Int.tmod_eq_emod_of_nonneg]
      | with_reducible_and_instances exact finR
      | ((with_reducible refine finR' ?_ ?_) <;> rfl)
      | ((with_reducible refine finD hsc (NRel.of_plain ?_)); exact rfl)
  have h4 : size > 100000 := by simpa [h1, h2, h3] using hb
  refine AC.enter Tryd.func7 rfl (by kernel_rfl) 181 rfl [.tmp 8, .tmp 9, .tmp 10] rfl (by simp) fun hsc B => ?_
  repeat first
    | with_reducible refine AWP.seq ?_
    | ((with_reducible refine AWP.region ?_ ?_); exact rfl)
    | with_reducible refine AWP.block ?_
    | with_reducible refine AWP.skip ?_
    | with_reducible refine AWP.exit ?_
    | with_reducible refine AWP.ret ?_
    | with_reducible refine AWP.label ?_
    | with_reducible refine AWP.goto ?_
    | ((with_reducible refine AWP.condT ?_ ?_); focus (simp only [ev, lk_cons, ↓reduceIte, Nat.reduceEqDiff]; done))
    | ((with_reducible refine AWP.condF ?_ ?_); focus (simp only [ev, lk_cons, ↓reduceIte, Nat.reduceEqDiff]; done))
    | simp only [go_sem, ↓reduceIte, Nat.reduceEqDiff, reduceCtorEq, Nat.reduceAdd, Int.reduceEq, Int.reduceBNe, Int.reduceBEq, Int.reduceToNat, Int.reduceLT, Int.reduceLE, Int.reduceGT, Int.reduceGE, Nat.reduceSub, Nat.reduceBEq, Nat.reduceBNe, Int.reduceAdd, Int.reduceSub, Int.reduceMul, Int.reduceNeg, Nat.reduceMul, Nat.reduceLeDiff, Nat.reduceLT, hi, hl, h1, h2, h3, h4]
    | simp (disch := omega) only [wi64, wu8, wu16, wu32, wu64, Int.tdiv_eq_ediv_of_nonneg, Int.tmod_eq_emod_of_nonneg]
    | with_reducible_and_instances exact finR
    | ((with_reducible refine finR' ?_ ?_) <;> rfl)
    | ((with_reducible refine finD hsc (NRel.of_plain ?_)); exact rfl)
theorem putLimit {H : AHeap} {i : Nat} {s : Lk} {S : List Nat} (h : LkAt H i s S) (now size : Int) (body : List UInt8) (hl : ¬ (body.length : Int) > 65536) (hb : badS s now size = false) (hu : (s.under.length : Int) ≥ 10000) : ARet Tryd.prog 7 [.pointer (some ⟨i, 0, none⟩), .int .i64 now, .int .i64 size, .string (bs body)] H (.tuple ⟨[.int .i64 0, .bool false, .int .i64 4]⟩) H := by
  obtain ⟨vn, vw, vu, us, Su, ⟨hi, -, -, hund, ho, -⟩, rfl⟩ := h
  have hlu : s.under.length = us.length := by rw [← hund, List.length_map]
  have q : ∀ H' K, lenW Tryd.prog 50 vu H' K = K (.int .i64 (us.length : Nat)) H' := fun H' K => OwnL.lenT ho (by simp only [go_sem, ↓reduceIte, Nat.reduceEqDiff, reduceCtorEq, Nat.reduceAdd, Int.reduceEq, Int.reduceBNe, Int.reduceBEq, Int.reduceToNat, Int.reduceLT, Int.reduceLE, Int.reduceGT, Int.reduceGE, Nat.reduceSub, Nat.reduceBEq, Nat.reduceBNe, Int.reduceAdd, Int.reduceSub, Int.reduceMul, Int.reduceNeg, Nat.reduceMul, Nat.reduceLeDiff, Nat.reduceLT])
  rw [hlu] at hu
  unfold Lk.c at hi
  unfold badS at hb
  simp only [Bool.or_eq_false_iff, decide_eq_false_iff_not] at hb
  obtain ⟨⟨⟨h1, h2⟩, h3⟩, h4⟩ := hb
  refine AC.enter Tryd.func7 rfl (by kernel_rfl) 181 rfl [.tmp 8, .tmp 9, .tmp 10] rfl (by simp) fun hsc B => ?_
  repeat first
    | with_reducible refine AWP.seq ?_
    | ((with_reducible refine AWP.region ?_ ?_); exact rfl)
    | with_reducible refine AWP.block ?_
    | with_reducible refine AWP.skip ?_
    | with_reducible refine AWP.exit ?_
    | with_reducible refine AWP.ret ?_
    | with_reducible refine AWP.label ?_
    | with_reducible refine AWP.goto ?_
    | ((with_reducible refine AWP.condT ?_ ?_); focus (simp only [ev, lk_cons, ↓reduceIte, Nat.reduceEqDiff]; done))
    | ((with_reducible refine AWP.condF ?_ ?_); focus (simp only [ev, lk_cons, ↓reduceIte, Nat.reduceEqDiff]; done))
    | simp only [go_sem, ↓reduceIte, Nat.reduceEqDiff, reduceCtorEq, Nat.reduceAdd, Int.reduceEq, Int.reduceBNe, Int.reduceBEq, Int.reduceToNat, Int.reduceLT, Int.reduceLE, Int.reduceGT, Int.reduceGE, Nat.reduceSub, Nat.reduceBEq, Nat.reduceBNe, Int.reduceAdd, Int.reduceSub, Int.reduceMul, Int.reduceNeg, Nat.reduceMul, Nat.reduceLeDiff, Nat.reduceLT, hi, hl, h1, h2, h3, h4, q, hu]
    | simp (disch := omega) only [wi64, wu8, wu16, wu32, wu64, Int.tdiv_eq_ediv_of_nonneg, Int.tmod_eq_emod_of_nonneg]
    | with_reducible_and_instances exact finR
    | ((with_reducible refine finR' ?_ ?_) <;> rfl)
    | ((with_reducible refine finD hsc (NRel.of_plain ?_)); exact rfl)
theorem putDrop {H : AHeap} {i : Nat} {s : Lk} {S : List Nat} (h : LkAt H i s S) (hB : s.okB) (now size : Int) (body : List UInt8) (hl : ¬ (body.length : Int) > 65536) (hb : badS s now size = false) (hu : ¬ (s.under.length : Int) ≥ 10000) (hd : s.dropQ now size = true) :
    ARex Tryd.prog 7 [.pointer (some ⟨i, 0, none⟩), .int .i64 now, .int .i64 size, .string (bs body)] H (.tuple ⟨[.int .i64 0, .bool true, .int .i64 0]⟩) (LkTo H i S { s with now := now, drop := s.drop + 1 }) := by
  obtain ⟨vn, vw, vu, us, Su, hp, rfl⟩ := h
  have hi := hp.at_
  have hil := lt_of_get hi
  have hlu : s.under.length = us.length := by rw [← hp.und, List.length_map]
  have q : ∀ H' K, lenW Tryd.prog 50 vu H' K = K (.int .i64 (us.length : Nat)) H' := fun H' K => OwnL.lenT hp.own (by simp only [go_sem, ↓reduceIte, Nat.reduceEqDiff, reduceCtorEq, Nat.reduceAdd, Int.reduceEq, Int.reduceBNe, Int.reduceBEq, Int.reduceToNat, Int.reduceLT, Int.reduceLE, Int.reduceGT, Int.reduceGE, Nat.reduceSub, Nat.reduceBEq, Nat.reduceBNe, Int.reduceAdd, Int.reduceSub, Int.reduceMul, Int.reduceNeg, Nat.reduceMul, Nat.reduceLeDiff, Nat.reduceLT])
  rw [hlu] at hu
  let H1 : AHeap := H.set i (.cells (({ s with now := now } : Lk).c vn vw vu) ⟨52, 0, true, 0, none⟩)
  have hH1 : H1 = H.set i (.cells (({ s with now := now } : Lk).c vn vw vu) ⟨52, 0, true, 0, none⟩) := rfl
  have hf1 : Frm [i] H H1 := Frm.set (.refl _ _) (.inl (by simp))
  have hp1 : LkP H1 i { s with now := now } vn vw vu us Su := hp.to' hf1 (hset_self hil) rfl rfl rfl
  have hB1 := bytes (s := { s with now := now }) ⟨vn, vw, vu, us, Su, hp1, rfl⟩ (by have := hB.waitL; simp only; omega) hB.wait now
  have hi1 := hp1.at_
  have hil1 := lt_of_get hi1
  unfold Lk.c at hi hi1 hH1
  unfold badS at hb
  simp only [Bool.or_eq_false_iff, decide_eq_false_iff_not] at hb
  obtain ⟨⟨⟨h1, h2⟩, h3⟩, h4⟩ := hb
  unfold Lk.dropQ at hd
  simp only [Bool.and_eq_true, decide_eq_true_eq] at hd
  obtain ⟨d1, d2⟩ := hd
  have hwb := sumW_bound (l := wq s.wait now) fun w hm => hB.wait w (List.mem_filter.1 hm).1
  have hwl := wq_len s.wait now
  have hwl2 := hB.waitL
  have hw1 : IntKind.i64.wrap (sumW (wq s.wait now) + size) = sumW (wq s.wait now) + size := wi64 (by omega)
  have hdr := hB.drop
  have hw2 : IntKind.i64.wrap (s.drop + 1) = s.drop + 1 := wi64 (by omega)
  simp only at hH1 hi1 hB1
  refine AC.enter Tryd.func7 rfl (by kernel_rfl) 181 rfl [.tmp 8, .tmp 9, .tmp 10] rfl (by simp) fun hsc B => ?_
  repeat first
    | with_reducible refine AWP.seq ?_
    | ((with_reducible refine AWP.region ?_ ?_); exact rfl)
    | with_reducible refine AWP.block ?_
    | with_reducible refine AWP.skip ?_
    | with_reducible refine AWP.exit ?_
    | with_reducible refine AWP.ret ?_
    | with_reducible refine AWP.label ?_
    | with_reducible refine AWP.goto ?_
    | ((with_reducible refine AWP.condT ?_ ?_); focus (simp only [ev, lk_cons, ↓reduceIte, Nat.reduceEqDiff]; done))
    | ((with_reducible refine AWP.condF ?_ ?_); focus (simp only [ev, lk_cons, ↓reduceIte, Nat.reduceEqDiff]; done))
    | simp only [go_sem, ↓reduceIte, Nat.reduceEqDiff, reduceCtorEq, Nat.reduceAdd, Int.reduceEq, Int.reduceBNe, Int.reduceBEq, Int.reduceToNat, Int.reduceLT, Int.reduceLE, Int.reduceGT, Int.reduceGE, Nat.reduceSub, Nat.reduceBEq, Nat.reduceBNe, Int.reduceAdd, Int.reduceSub, Int.reduceMul, Int.reduceNeg, Nat.reduceMul, Nat.reduceLeDiff, Nat.reduceLT, hi, hil, hl, h1, h2, h3, h4, q, hu, minMaxW]
    | simp (disch := omega) only [wi64, wu8, wu16, wu32, wu64, Int.tdiv_eq_ediv_of_nonneg, Int.tmod_eq_emod_of_nonneg]
    | with_reducible_and_instances exact finR
    | ((with_reducible refine finR' ?_ ?_) <;> rfl)
    | ((with_reducible refine finD hsc (NRel.of_plain ?_)); exact rfl)
  rw [← hH1]
  repeat first
    | with_reducible refine AWP.seq ?_
    | ((with_reducible refine AWP.region ?_ ?_); exact rfl)
    | with_reducible refine AWP.block ?_
    | with_reducible refine AWP.skip ?_
    | with_reducible refine AWP.exit ?_
    | with_reducible refine AWP.ret ?_
    | with_reducible refine AWP.label ?_
    | with_reducible refine AWP.goto ?_
    | ((with_reducible refine AWP.condT ?_ ?_); focus (simp only [ev, lk_cons, ↓reduceIte, Nat.reduceEqDiff]; done))
    | ((with_reducible refine AWP.condF ?_ ?_); focus (simp only [ev, lk_cons, ↓reduceIte, Nat.reduceEqDiff]; done))
    | simp only [go_sem, ↓reduceIte, Nat.reduceEqDiff, reduceCtorEq, Nat.reduceAdd, Int.reduceEq, Int.reduceBNe, Int.reduceBEq, Int.reduceToNat, Int.reduceLT, Int.reduceLE, Int.reduceGT, Int.reduceGE, Nat.reduceSub, Nat.reduceBEq, Nat.reduceBNe, Int.reduceAdd, Int.reduceSub, Int.reduceMul, Int.reduceNeg, Nat.reduceMul, Nat.reduceLeDiff, Nat.reduceLT, hi1, hil1, minMaxW]
    | simp (disch := omega) only [wi64, wu8, wu16, wu32, wu64, Int.tdiv_eq_ediv_of_nonneg, Int.tmod_eq_emod_of_nonneg]
    | with_reducible_and_instances exact finR
    | ((with_reducible refine finR' ?_ ?_) <;> rfl)
    | ((with_reducible refine finD hsc (NRel.of_plain ?_)); exact rfl)
  refine AWP.regionK 14 (by kernel_rfl) (by decide) (by kernel_rfl) ?_
  repeat first
    | with_reducible refine AWP.seq ?_
    | ((with_reducible refine AWP.region ?_ ?_); exact rfl)
    | with_reducible refine AWP.block ?_
    | with_reducible refine AWP.skip ?_
    | with_reducible refine AWP.exit ?_
    | with_reducible refine AWP.ret ?_
    | with_reducible refine AWP.label ?_
    | with_reducible refine AWP.goto ?_
    | ((with_reducible refine AWP.condT ?_ ?_); focus (simp only [ev, lk_cons, ↓reduceIte, Nat.reduceEqDiff]; done))
    | ((with_reducible refine AWP.condF ?_ ?_); focus (simp only [ev, lk_cons, ↓reduceIte, Nat.reduceEqDiff]; done))
    | simp only [go_sem, ↓reduceIte, Nat.reduceEqDiff, reduceCtorEq, Nat.reduceAdd, Int.reduceEq, Int.reduceBNe, Int.reduceBEq, Int.reduceToNat, Int.reduceLT, Int.reduceLE, Int.reduceGT, Int.reduceGE, Nat.reduceSub, Nat.reduceBEq, Nat.reduceBNe, Int.reduceAdd, Int.reduceSub, Int.reduceMul, Int.reduceNeg, Nat.reduceMul, Nat.reduceLeDiff, Nat.reduceLT, hi1, hil1, d1, List.map_cons, List.map_nil]
    | simp (disch := omega) only [wi64, wu8, wu16, wu32, wu64, Int.tdiv_eq_ediv_of_nonneg, Int.tmod_eq_emod_of_nonneg]
    | with_reducible_and_instances exact finR
    | ((with_reducible refine finR' ?_ ?_) <;> rfl)
    | ((with_reducible refine finD hsc (NRel.of_plain ?_)); exact rfl)
  refine ARet.exq (hB1) (by simp only [go_sem, ↓reduceIte, Nat.reduceEqDiff, reduceCtorEq, Nat.reduceAdd, Int.reduceEq, Int.reduceBNe, Int.reduceBEq, Int.reduceToNat, Int.reduceLT, Int.reduceLE, Int.reduceGT, Int.reduceGE, Nat.reduceSub, Nat.reduceBEq, Nat.reduceBNe, Int.reduceAdd, Int.reduceSub, Int.reduceMul, Int.reduceNeg, Nat.reduceMul, Nat.reduceLeDiff, Nat.reduceLT]) ?_
  repeat first
    | with_reducible refine AWP.seq ?_
    | ((with_reducible refine AWP.region ?_ ?_); exact rfl)
    | with_reducible refine AWP.block ?_
    | with_reducible refine AWP.skip ?_
    | with_reducible refine AWP.exit ?_
    | with_reducible refine AWP.ret ?_
    | with_reducible refine AWP.label ?_
    | with_reducible refine AWP.goto ?_
    | ((with_reducible refine AWP.condT ?_ ?_); focus (simp only [ev, lk_cons, ↓reduceIte, Nat.reduceEqDiff]; done))
    | ((with_reducible refine AWP.condF ?_ ?_); focus (simp only [ev, lk_cons, ↓reduceIte, Nat.reduceEqDiff]; done))
    | simp only [go_sem, ↓reduceIte, Nat.reduceEqDiff, reduceCtorEq, Nat.reduceAdd, Int.reduceEq, Int.reduceBNe, Int.reduceBEq, Int.reduceToNat, Int.reduceLT, Int.reduceLE, Int.reduceGT, Int.reduceGE, Nat.reduceSub, Nat.reduceBEq, Nat.reduceBNe, Int.reduceAdd, Int.reduceSub, Int.reduceMul, Int.reduceNeg, Nat.reduceMul, Nat.reduceLeDiff, Nat.reduceLT, hi1, hil1, d1, hw1, d2, hw2, List.map_cons, List.map_nil]
    | simp (disch := omega) only [wi64, wu8, wu16, wu32, wu64, Int.tdiv_eq_ediv_of_nonneg, Int.tmod_eq_emod_of_nonneg]
    | with_reducible_and_instances exact finR
    | ((with_reducible refine finR' ?_ ?_) <;> rfl)
    | ((with_reducible refine finD hsc (NRel.of_plain ?_)); exact rfl)
  refine ⟨_, _, .refl _ _ _, rfl, hp.to (s' := { s with now := now, drop := s.drop + 1 }) (hf1.trans (Frm.set (.refl [i] _) (.inl (by simp))) fun t ht => .inl ht) ?_ rfl rfl rfl⟩
  exact hset_self hil1
end Go.Proofs.YtnfkbgpbligloaaDoor
