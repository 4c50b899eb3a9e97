/-
  The specification's links: Put.
-/
import Derived.Test.YtnfkbgpbligloaaY3
set_option linter.unusedVariables false
set_option linter.unusedSimpArgs false
set_option maxRecDepth 20000
set_option maxHeartbeats 4000000
namespace Go.Proofs.Ytnfkbgpbligloaa
open Go Go.Aw Go.Proofs
section
variable {H H' : AHeap} {i : Nat} {r : Rk} {vn va vu : Value} {Sa Su : List Nat}
theorem RkP.pushAll (h : RkP H i r vn va vu Sa Su) (h1 : H'.length = H.length) (h2 : ∀ j, j ∉ Sa → H'[j]? = H[j]?) (p : Pc) (N : Nat) (hN : N = H.length) :
    RkTo H i (i :: (Sa ++ Su)) { r with all := r.all ++ [p] } (H'.set i (.cells (r.c vn (.slice (some ⟨N, 0, none⟩) (r.all.length + 1) (r.all.length + 1)) vu) ⟨83, 0, true, 0, none⟩) ++ [.cells (pcsC r.all ++ p.c) ⟨42, 6, true, 0, none⟩]) := by
  subst hN
  have hf : Frm Sa H H' := ⟨by omega, fun j _ hn => h2 j hn⟩
  have hi' := hf.get h.at_ h.iSa
  have hil' := lt_of_get hi'
  have hf2 : ∀ o X, Frm [i] H' (H'.set i o ++ X) := fun o X => Frm.more (Frm.set (.refl _ _) (.inl (by simp)))
  have hm2 : Mut H' [i] := fun t ht => by rw [List.mem_singleton.1 ht]; exact ⟨_, _, hi', rfl⟩
  have hm : Mut H Sa := h.ka.mut fun k hk => kR_mut k (by simp [kR] at hk ⊢; simp [hk])
  have hx := fun o X => (Frm.fix hf hm).trans (Frm.fix (hf2 o X) hm2)
  refine ⟨i :: ([H.length] ++ Su), ⟨vn, .slice (some ⟨H.length, 0, none⟩) (r.all.length + 1) (r.all.length + 1), vu, [H.length], Su, ⟨?_, h.nums.fix (hx _ _), ?_, ?_⟩, rfl⟩, ?_, ?_⟩
  · rw [hgetl (by rw [List.length_set]; exact hil')]; exact hset_self hil'
  · refine .inr ⟨H.length, 0, _, by rw [List.length_append]; rfl, hget0 (by rw [List.length_set, h1]), ?_, (pcsC_snoc ..).symm, rfl⟩
    rw [List.length_append, pcsC_len, List.length_append]; simp [Pc.c]; omega
  · refine (h.und.frm hf fun t ht ht2 => h.SaSu t ht2 ht).frm (hf2 _ _) fun t ht ht2 => ?_
    rw [List.mem_singleton.1 ht2] at ht
    exact h.iSu ht
  · exact (hf.mono fun t ht => List.mem_cons_of_mem _ (List.mem_append_left _ ht)).trans (hf2 _ _) fun t ht => .inl (by rw [List.mem_singleton.1 ht]; exact List.mem_cons_self ..)
  · intro t ht
    simp only [List.cons_append, List.nil_append, List.mem_cons, List.mem_append] at ht ⊢
    rcases ht with ht | ht | ht
    · exact .inl (.inl ht)
    · exact .inr (by omega)
    · exact .inl (.inr (.inr ht))
theorem RkP.pushUnd (h : RkP H i r vn va vu Sa Su) {v' : Value} {S' : List Nat} (x : Cm) (hO : OwnC H' 94 7 (r.under.length + 1) (flsC r.under ++ flC x) v' S') (hf : Frm Su H H') (hS : ∀ t ∈ S', t ∈ Su ∨ H.length ≤ t) :
    RkTo H i (i :: (Sa ++ Su)) { r with under := r.under ++ [x] } (H'.set i (.cells (r.c vn va v') ⟨83, 0, true, 0, none⟩)) := by
  have hi' := hf.get h.at_ h.iSu
  have hil' := lt_of_get hi'
  have hil := lt_of_get h.at_
  have hf2 : ∀ o, Frm [i] H' (H'.set i o) := fun o => Frm.set (.refl _ _) (.inl (by simp))
  have hm2 : Mut H' [i] := fun t ht => by rw [List.mem_singleton.1 ht]; exact ⟨_, _, hi', rfl⟩
  have hm : Mut H Su := h.ku.mut fun k hk => kR_mut k (by simp [kR] at hk ⊢; simp [hk])
  have hx := fun o => (Frm.fix hf hm).trans (Frm.fix (hf2 o) hm2)
  have hiS : i ∉ S' := fun hi2 => by
    rcases hS i hi2 with h3 | h3
    · exact h.iSu h3
    · omega
  refine ⟨i :: (Sa ++ S'), ⟨vn, va, v', Sa, S', ⟨hset_self hil', h.nums.fix (hx _), ?_, ?_⟩, rfl⟩, ?_, ?_⟩
  · refine (h.all.frm hf fun t ht ht2 => h.SaSu t ht ht2).frm (hf2 _) fun t ht ht2 => ?_
    rw [List.mem_singleton.1 ht2] at ht
    exact h.iSa ht
  · show OwnC _ 94 7 (r.under ++ [x]).length (flsC (r.under ++ [x])) v' S'
    rw [flsC_snoc, List.length_append]
    refine hO.frm (hf2 _) fun t ht ht2 => ?_
    rw [List.mem_singleton.1 ht2] at ht
    exact hiS ht
  · exact (hf.mono fun t ht => List.mem_cons_of_mem _ (List.mem_append_right _ ht)).trans (hf2 _) fun t ht => .inl (by rw [List.mem_singleton.1 ht]; exact List.mem_cons_self ..)
  · intro t ht
    simp only [List.mem_cons, List.mem_append] at ht ⊢
    rcases ht with ht | ht | ht
    · exact .inl (.inl ht)
    · exact .inl (.inr (.inl ht))
    · rcases hS t ht with h3 | h3
      · exact .inl (.inr (.inr h3))
      · exact .inr h3
end
def Rk.kk (r : Rk) : Int := (r.nums.drop r.put.toNat).headD 0
def Rk.pk (r : Rk) (now size : Int) (body : List UInt8) : Pc := ⟨r.put + 1, size, now, max now r.free, max now r.free + r.pipe.gone size + r.pipe.delay + r.kk / 10000 % (r.pipe.jit + 1), body⟩
def Rk.coms (r : Rk) (now size : Int) (body : List UInt8) : List Cm :=
  if r.pipe.fate r.kk = 1 then [] else if r.pipe.fate r.kk = 2 then [(r.pk now size body).cm, (r.pk now size body).cm.again] else [(r.pk now size body).cm]
def Rk.dropQ (r : Rk) (now size : Int) : Bool := decide (max now r.free > now) && decide (sumW (wq (allW r.all) now) + size > r.pipe.room)
def Rk.putS (r : Rk) (now size : Int) (body : List UInt8) : Rk :=
  { r with now := now, free := max now r.free + r.pipe.gone size, all := r.all ++ [r.pk now size body], under := r.under ++ r.coms now size body, put := r.put + 1,
           lost := if r.pipe.fate r.kk = 1 then r.lost + 1 else r.lost, dbl := if r.pipe.fate r.kk = 2 then r.dbl + 1 else r.dbl }
structure Rk.okB (r : Rk) : Prop where
  pipe : r.pipe.ok = true
  nums : ∀ n ∈ r.nums, 0 ≤ n ∧ n ≤ 999999999
  now : 0 ≤ r.now ∧ r.now ≤ 1000000000
  free : 0 ≤ r.free ∧ r.free < 288230376151711744
  put : 0 ≤ r.put ∧ r.put < 288230376151711744
  arr : 0 ≤ r.arr ∧ r.arr < 288230376151711744
  lost : 0 ≤ r.lost ∧ r.lost < 288230376151711744
  drop : 0 ≤ r.drop ∧ r.drop < 288230376151711744
  dbl : 0 ≤ r.dbl ∧ r.dbl < 288230376151711744
  all : ∀ x ∈ r.all, 0 ≤ x.size ∧ x.size ≤ 100000
  allL : r.all.length < 549755813888
  underL : r.under.length < 549755813888
theorem rPutBig {H : AHeap} {i : Nat} (now size : Int) (body : List UInt8) (hl : (body.length : Int) > 65536) : ARet Try.prog 46 [.pointer (some ⟨i, 0, none⟩), .int .i64 now, .int .i64 size, .string (bs body)] H (.tuple ⟨[.int .i64 0, .bool false, .int .i64 1]⟩) H := by
  refine AC.enter Try.func46 rfl (by kernel_rfl) 211 rfl [.tmp 8, .tmp 9, .tmp 10] rfl (by simp) fun hsc B => ?_
  repeat first
    | with_reducible refine AWP.seq ?_
    | ((with_reducible refine AWP.region ?_ ?_); exact rfl)
    | with_reducible refine AWP.block ?_
    | with_reducible refine AWP.skip ?_
    | with_reducible refine AWP.exit ?_
    | with_reducible refine AWP.ret ?_
    | with_reducible refine AWP.label ?_
    | with_reducible refine AWP.goto ?_
    | ((with_reducible refine AWP.condT ?_ ?_); focus (simp only [ev, lk_cons, ↓reduceIte, Nat.reduceEqDiff]; done))
    | ((with_reducible refine AWP.condF ?_ ?_); focus (simp only [ev, lk_cons, ↓reduceIte, Nat.reduceEqDiff]; done))
    | simp only [go_sem, ↓reduceIte, Nat.reduceEqDiff, reduceCtorEq, Nat.reduceAdd, Int.reduceEq, Int.reduceBNe, Int.reduceBEq, Int.reduceToNat, Int.reduceLT, Int.reduceLE, Int.reduceGT, Int.reduceGE, Nat.reduceSub, Nat.reduceBEq, Nat.reduceBNe, Int.reduceAdd, Int.reduceSub, Int.reduceMul, Int.reduceNeg, Nat.reduceMul, Nat.reduceLeDiff, Nat.reduceLT, hl]
    | simp (disch := omega) only [wi64, wu8, wu16, wu32, wu64, Int.tdiv_eq_ediv_of_nonneg, Int.tmod_eq_emod_of_nonneg]
    | with_reducible_and_instances exact finR
    | ((with_reducible refine finR' ?_ ?_) <;> rfl)
    | ((with_reducible refine finD hsc (NRel.of_plain ?_)); exact rfl)
def rBadS (r : Rk) (now size : Int) : Bool := rBad r now || !(wi size 0 100000)
theorem rPutRange {H : AHeap} {i : Nat} {r : Rk} {S : List Nat} (h : RkAt H i r S) (now size : Int) (body : List UInt8) (hl : ¬ (body.length : Int) > 65536) (hb : rBadS r now size = true) : ARet Try.prog 46 [.pointer (some ⟨i, 0, none⟩), .int .i64 now, .int .i64 size, .string (bs body)] H (.tuple ⟨[.int .i64 0, .bool false, .int .i64 7]⟩) H := by
  have hA := rAt h now
  have hW := rWithin size 0 100000
  unfold rBadS at hb
  cases hr : rBad r now with
  | true =>
    rw [hr, if_pos rfl] at hA
    refine AC.enter Try.func46 rfl (by kernel_rfl) 211 rfl [.tmp 8, .tmp 9, .tmp 10] rfl (by simp) fun hsc B => ?_
    repeat first
      | with_reducible refine AWP.seq ?_
      | ((with_reducible refine AWP.region ?_ ?_); exact rfl)
      | with_reducible refine AWP.block ?_
      | with_reducible refine AWP.skip ?_
      | with_reducible refine AWP.exit ?_
      | with_reducible refine AWP.ret ?_
      | with_reducible refine AWP.label ?_
      | with_reducible refine AWP.goto ?_
      | ((with_reducible refine AWP.condT ?_ ?_); focus (simp only [ev, lk_cons, ↓reduceIte, Nat.reduceEqDiff]; done))
      | ((with_reducible refine AWP.condF ?_ ?_); focus (simp only [ev, lk_cons, ↓reduceIte, Nat.reduceEqDiff]; done))
      | with_reducible refine hA.use ?_
      | simp only [go_sem, ↓reduceIte, Nat.reduceEqDiff, reduceCtorEq, Nat.reduceAdd, Int.reduceEq, Int.reduceBNe, Int.reduceBEq, Int.reduceToNat, Int.reduceLT, Int.reduceLE, Int.reduceGT, Int.reduceGE, Nat.reduceSub, Nat.reduceBEq, Nat.reduceBNe, Int.reduceAdd, Int.reduceSub, Int.reduceMul, Int.reduceNeg, Nat.reduceMul, Nat.reduceLeDiff, Nat.reduceLT, hl]
      | simp (disch := omega) only [wi64, wu8, wu16, wu32, wu64, Int.tdiv_eq_ediv_of_nonneg, Int.tmod_eq_emod_of_nonneg]
      | with_reducible_and_instances exact finR
      | ((with_reducible refine finR' ?_ ?_) <;> rfl)
      | ((with_reducible refine finD hsc (NRel.of_plain ?_)); exact rfl)
  | false =>
    rw [hr] at hA hb
    simp only [Bool.false_eq_true, if_false] at hA
    rw [Bool.false_or, Bool.not_eq_true'] at hb
    rw [hb] at hW
    refine AC.enter Try.func46 rfl (by kernel_rfl) 211 rfl [.tmp 8, .tmp 9, .tmp 10] rfl (by simp) fun hsc B => ?_
    repeat first
      | with_reducible refine AWP.seq ?_
      | ((with_reducible refine AWP.region ?_ ?_); exact rfl)
      | with_reducible refine AWP.block ?_
      | with_reducible refine AWP.skip ?_
      | with_reducible refine AWP.exit ?_
      | with_reducible refine AWP.ret ?_
      | with_reducible refine AWP.label ?_
      | with_reducible refine AWP.goto ?_
      | ((with_reducible refine AWP.condT ?_ ?_); focus (simp only [ev, lk_cons, ↓reduceIte, Nat.reduceEqDiff]; done))
      | ((with_reducible refine AWP.condF ?_ ?_); focus (simp only [ev, lk_cons, ↓reduceIte, Nat.reduceEqDiff]; done))
      | with_reducible refine hA.use ?_
      | with_reducible refine (hW _).use ?_
      | simp only [go_sem, ↓reduceIte, Nat.reduceEqDiff, reduceCtorEq, Nat.reduceAdd, Int.reduceEq, Int.reduceBNe, Int.reduceBEq, Int.reduceToNat, Int.reduceLT, Int.reduceLE, Int.reduceGT, Int.reduceGE, Nat.reduceSub, Nat.reduceBEq, Nat.reduceBNe, Int.reduceAdd, Int.reduceSub, Int.reduceMul, Int.reduceNeg, Nat.reduceMul, Nat.reduceLeDiff, Nat.reduceLT, hl]
      | simp (disch := omega) only [wi64, wu8, wu16, wu32, wu64, Int.tdiv_eq_ediv_of_nonneg, Int.tmod_eq_emod_of_nonneg]
      | with_reducible_and_instances exact finR
      | ((with_reducible refine finR' ?_ ?_) <;> rfl)
      | ((with_reducible refine finD hsc (NRel.of_plain ?_)); exact rfl)
theorem rPutLimit {H : AHeap} {i : Nat} {r : Rk} {S : List Nat} (h : RkAt H i r S) (now size : Int) (body : List UInt8) (hl : ¬ (body.length : Int) > 65536) (hb : rBadS r now size = false) (hu : (r.under.length : Int) ≥ 10000) : ARet Try.prog 46 [.pointer (some ⟨i, 0, none⟩), .int .i64 now, .int .i64 size, .string (bs body)] H (.tuple ⟨[.int .i64 0, .bool false, .int .i64 4]⟩) H := by
  have hA := rAt h now
  have hW := rWithin size 0 100000
  unfold rBadS at hb
  simp only [Bool.or_eq_false_iff, Bool.not_eq_false'] at hb
  rw [hb.1] at hA
  simp only [Bool.false_eq_true, if_false] at hA
  rw [hb.2] at hW
  obtain ⟨vn, va, vu, Sa, Su, ⟨hi, -, -, ho⟩, rfl⟩ := h
  have q : ∀ H' K, lenW Try.prog 81 vu H' K = K (.int .i64 (r.under.length : Nat)) H' := fun H' K => ho.lenT (by simp only [go_sem, ↓reduceIte, Nat.reduceEqDiff, reduceCtorEq, Nat.reduceAdd, Int.reduceEq, Int.reduceBNe, Int.reduceBEq, Int.reduceToNat, Int.reduceLT, Int.reduceLE, Int.reduceGT, Int.reduceGE, Nat.reduceSub, Nat.reduceBEq, Nat.reduceBNe, Int.reduceAdd, Int.reduceSub, Int.reduceMul, Int.reduceNeg, Nat.reduceMul, Nat.reduceLeDiff, Nat.reduceLT])
  unfold Rk.c at hi
  refine AC.enter Try.func46 rfl (by kernel_rfl) 211 rfl [.tmp 8, .tmp 9, .tmp 10] rfl (by simp) fun hsc B => ?_
  repeat first
    | with_reducible refine AWP.seq ?_
    | ((with_reducible refine AWP.region ?_ ?_); exact rfl)
    | with_reducible refine AWP.block ?_
    | with_reducible refine AWP.skip ?_
    | with_reducible refine AWP.exit ?_
    | with_reducible refine AWP.ret ?_
    | with_reducible refine AWP.label ?_
    | with_reducible refine AWP.goto ?_
    | ((with_reducible refine AWP.condT ?_ ?_); focus (simp only [ev, lk_cons, ↓reduceIte, Nat.reduceEqDiff]; done))
    | ((with_reducible refine AWP.condF ?_ ?_); focus (simp only [ev, lk_cons, ↓reduceIte, Nat.reduceEqDiff]; done))
    | with_reducible refine hA.use ?_
    | with_reducible refine (hW _).use ?_
    | simp only [go_sem, ↓reduceIte, Nat.reduceEqDiff, reduceCtorEq, Nat.reduceAdd, Int.reduceEq, Int.reduceBNe, Int.reduceBEq, Int.reduceToNat, Int.reduceLT, Int.reduceLE, Int.reduceGT, Int.reduceGE, Nat.reduceSub, Nat.reduceBEq, Nat.reduceBNe, Int.reduceAdd, Int.reduceSub, Int.reduceMul, Int.reduceNeg, Nat.reduceMul, Nat.reduceLeDiff, Nat.reduceLT, hi, hl, q, hu]
    | simp (disch := omega) only [wi64, wu8, wu16, wu32, wu64, Int.tdiv_eq_ediv_of_nonneg, Int.tmod_eq_emod_of_nonneg]
    | with_reducible_and_instances exact finR
    | ((with_reducible refine finR' ?_ ?_) <;> rfl)
    | ((with_reducible refine finD hsc (NRel.of_plain ?_)); exact rfl)
theorem rPutDrop {H : AHeap} {i : Nat} {r : Rk} {S : List Nat} (h : RkAt H i r S) (hB : r.okB) (now size : Int) (body : List UInt8) (hl : ¬ (body.length : Int) > 65536) (hb : rBadS r now size = false) (hu : ¬ (r.under.length : Int) ≥ 10000) (hd : r.dropQ now size = true) :
    ARex Try.prog 46 [.pointer (some ⟨i, 0, none⟩), .int .i64 now, .int .i64 size, .string (bs body)] H (.tuple ⟨[.int .i64 0, .bool true, .int .i64 0]⟩) (RkTo H i S { r with now := now, drop := r.drop + 1 }) := by
  have hA := rAt h now
  have hW := rWithin size 0 100000
  unfold rBadS at hb
  simp only [Bool.or_eq_false_iff, Bool.not_eq_false'] at hb
  rw [hb.1] at hA
  simp only [Bool.false_eq_true, if_false] at hA
  rw [hb.2] at hW
  have hsz : 0 ≤ size ∧ size ≤ 100000 := by have := hb.2; simpa [wi] using this
  obtain ⟨vn, va, vu, Sa, Su, hp, rfl⟩ := h
  have hi := hp.at_
  have hil := lt_of_get hi
  have q : ∀ H' K, lenW Try.prog 81 vu H' K = K (.int .i64 (r.under.length : Nat)) H' := fun H' K => hp.und.lenT (by simp only [go_sem, ↓reduceIte, Nat.reduceEqDiff, reduceCtorEq, Nat.reduceAdd, Int.reduceEq, Int.reduceBNe, Int.reduceBEq, Int.reduceToNat, Int.reduceLT, Int.reduceLE, Int.reduceGT, Int.reduceGE, Nat.reduceSub, Nat.reduceBEq, Nat.reduceBNe, Int.reduceAdd, Int.reduceSub, Int.reduceMul, Int.reduceNeg, Nat.reduceMul, Nat.reduceLeDiff, Nat.reduceLT])
  let H1 : AHeap := H.set i (.cells (({ r with now := now } : Rk).c vn va vu) ⟨83, 0, true, 0, none⟩)
  have hH1 : H1 = H.set i (.cells (({ r with now := now } : Rk).c vn va vu) ⟨83, 0, true, 0, none⟩) := rfl
  have hf1 : Frm [i] H H1 := Frm.set (.refl _ _) (.inl (by simp))
  have hp1 : RkP H1 i { r with now := now } vn va vu Sa Su := hp.to' hf1 (hset_self hil) rfl rfl rfl
  have hB1 := rQueue1 (r := { r with now := now }) ⟨_, _, _, _, _, hp1, rfl⟩ (by have := hB.allL; simp only; omega) hB.all now
  have hi1 := hp1.at_
  have hil1 := lt_of_get hi1
  unfold Rk.c at hi hi1 hH1
  unfold Rk.dropQ at hd
  simp only [Bool.and_eq_true, decide_eq_true_eq] at hd
  obtain ⟨d1, d2⟩ := hd
  have hwb := sumW_bound (l := wq (allW r.all) now) fun w hm => by
    obtain ⟨x, hx, rfl⟩ := List.mem_map.1 (List.mem_filter.1 hm).1
    exact hB.all x hx
  have hwl := wq_len (allW r.all) now
  have hwl2 := hB.allL
  have hal : (allW r.all).length = r.all.length := List.length_map _
  have hw1 : IntKind.i64.wrap (sumW (wq (allW r.all) now) + size) = sumW (wq (allW r.all) now) + size := wi64 (by omega)
  have hdr := hB.drop
  have hw2 : IntKind.i64.wrap (r.drop + 1) = r.drop + 1 := wi64 (by omega)
  simp only at hH1 hi1 hB1
  refine AC.enter Try.func46 rfl (by kernel_rfl) 211 rfl [.tmp 8, .tmp 9, .tmp 10] rfl (by simp) fun hsc B => ?_
  repeat first
    | with_reducible refine AWP.seq ?_
    | ((with_reducible refine AWP.region ?_ ?_); exact rfl)
    | with_reducible refine AWP.block ?_
    | with_reducible refine AWP.skip ?_
    | with_reducible refine AWP.exit ?_
    | with_reducible refine AWP.ret ?_
    | with_reducible refine AWP.label ?_
    | with_reducible refine AWP.goto ?_
    | ((with_reducible refine AWP.condT ?_ ?_); focus (simp only [ev, lk_cons, ↓reduceIte, Nat.reduceEqDiff]; done))
    | ((with_reducible refine AWP.condF ?_ ?_); focus (simp only [ev, lk_cons, ↓reduceIte, Nat.reduceEqDiff]; done))
    | with_reducible refine hA.use ?_
    | with_reducible refine (hW _).use ?_
    | simp only [go_sem, ↓reduceIte, Nat.reduceEqDiff, reduceCtorEq, Nat.reduceAdd, Int.reduceEq, Int.reduceBNe, Int.reduceBEq, Int.reduceToNat, Int.reduceLT, Int.reduceLE, Int.reduceGT, Int.reduceGE, Nat.reduceSub, Nat.reduceBEq, Nat.reduceBNe, Int.reduceAdd, Int.reduceSub, Int.reduceMul, Int.reduceNeg, Nat.reduceMul, Nat.reduceLeDiff, Nat.reduceLT, hi, hil, hl, q, hu]
    | simp (disch := omega) only [wi64, wu8, wu16, wu32, wu64, Int.tdiv_eq_ediv_of_nonneg, Int.tmod_eq_emod_of_nonneg]
    | with_reducible_and_instances exact finR
    | ((with_reducible refine finR' ?_ ?_) <;> rfl)
    | ((with_reducible refine finD hsc (NRel.of_plain ?_)); exact rfl)
  rw [← hH1]
  repeat first
    | with_reducible refine AWP.seq ?_
    | ((with_reducible refine AWP.region ?_ ?_); exact rfl)
    | with_reducible refine AWP.block ?_
    | with_reducible refine AWP.skip ?_
    | with_reducible refine AWP.exit ?_
    | with_reducible refine AWP.ret ?_
    | with_reducible refine AWP.label ?_
    | with_reducible refine AWP.goto ?_
    | ((with_reducible refine AWP.condT ?_ ?_); focus (simp only [ev, lk_cons, ↓reduceIte, Nat.reduceEqDiff]; done))
    | ((with_reducible refine AWP.condF ?_ ?_); focus (simp only [ev, lk_cons, ↓reduceIte, Nat.reduceEqDiff]; done))
    | simp only [go_sem, ↓reduceIte, Nat.reduceEqDiff, reduceCtorEq, Nat.reduceAdd, Int.reduceEq, Int.reduceBNe, Int.reduceBEq, Int.reduceToNat, Int.reduceLT, Int.reduceLE, Int.reduceGT, Int.reduceGE, Nat.reduceSub, Nat.reduceBEq, Nat.reduceBNe, Int.reduceAdd, Int.reduceSub, Int.reduceMul, Int.reduceNeg, Nat.reduceMul, Nat.reduceLeDiff, Nat.reduceLT, hi1, hil1, minMaxW]
    | simp (disch := omega) only [wi64, wu8, wu16, wu32, wu64, Int.tdiv_eq_ediv_of_nonneg, Int.tmod_eq_emod_of_nonneg]
    | with_reducible_and_instances exact finR
    | ((with_reducible refine finR' ?_ ?_) <;> rfl)
    | ((with_reducible refine finD hsc (NRel.of_plain ?_)); exact rfl)
  refine AWP.regionK 14 (by kernel_rfl) (by decide) (by kernel_rfl) ?_
  repeat first
    | with_reducible refine AWP.seq ?_
    | ((with_reducible refine AWP.region ?_ ?_); exact rfl)
    | with_reducible refine AWP.block ?_
    | with_reducible refine AWP.skip ?_
    | with_reducible refine AWP.exit ?_
    | with_reducible refine AWP.ret ?_
    | with_reducible refine AWP.label ?_
    | with_reducible refine AWP.goto ?_
    | ((with_reducible refine AWP.condT ?_ ?_); focus (simp only [ev, lk_cons, ↓reduceIte, Nat.reduceEqDiff]; done))
    | ((with_reducible refine AWP.condF ?_ ?_); focus (simp only [ev, lk_cons, ↓reduceIte, Nat.reduceEqDiff]; done))
    | simp only [go_sem, ↓reduceIte, Nat.reduceEqDiff, reduceCtorEq, Nat.reduceAdd, Int.reduceEq, Int.reduceBNe, Int.reduceBEq, Int.reduceToNat, Int.reduceLT, Int.reduceLE, Int.reduceGT, Int.reduceGE, Nat.reduceSub, Nat.reduceBEq, Nat.reduceBNe, Int.reduceAdd, Int.reduceSub, Int.reduceMul, Int.reduceNeg, Nat.reduceMul, Nat.reduceLeDiff, Nat.reduceLT, hi1, hil1, d1, List.map_cons, List.map_nil]
    | simp (disch := omega) only [wi64, wu8, wu16, wu32, wu64, Int.tdiv_eq_ediv_of_nonneg, Int.tmod_eq_emod_of_nonneg]
    | with_reducible_and_instances exact finR
    | ((with_reducible refine finR' ?_ ?_) <;> rfl)
    | ((with_reducible refine finD hsc (NRel.of_plain ?_)); exact rfl)
  refine ARet.exq (hB1) (by simp only [go_sem, ↓reduceIte, Nat.reduceEqDiff, reduceCtorEq, Nat.reduceAdd, Int.reduceEq, Int.reduceBNe, Int.reduceBEq, Int.reduceToNat, Int.reduceLT, Int.reduceLE, Int.reduceGT, Int.reduceGE, Nat.reduceSub, Nat.reduceBEq, Nat.reduceBNe, Int.reduceAdd, Int.reduceSub, Int.reduceMul, Int.reduceNeg, Nat.reduceMul, Nat.reduceLeDiff, Nat.reduceLT]) ?_
  repeat first
    | with_reducible refine AWP.seq ?_
    | ((with_reducible refine AWP.region ?_ ?_); exact rfl)
    | with_reducible refine AWP.block ?_
    | with_reducible refine AWP.skip ?_
    | with_reducible refine AWP.exit ?_
    | with_reducible refine AWP.ret ?_
    | with_reducible refine AWP.label ?_
    | with_reducible refine AWP.goto ?_
    | ((with_reducible refine AWP.condT ?_ ?_); focus (simp only [ev, lk_cons, ↓reduceIte, Nat.reduceEqDiff]; done))
    | ((with_reducible refine AWP.condF ?_ ?_); focus (simp only [ev, lk_cons, ↓reduceIte, Nat.reduceEqDiff]; done))
    | simp only [go_sem, ↓reduceIte, Nat.reduceEqDiff, reduceCtorEq, Nat.reduceAdd, Int.reduceEq, Int.reduceBNe, Int.reduceBEq, Int.reduceToNat, Int.reduceLT, Int.reduceLE, Int.reduceGT, Int.reduceGE, Nat.reduceSub, Nat.reduceBEq, Nat.reduceBNe, Int.reduceAdd, Int.reduceSub, Int.reduceMul, Int.reduceNeg, Nat.reduceMul, Nat.reduceLeDiff, Nat.reduceLT, hi1, hil1, d1, hw1, d2, hw2, List.map_cons, List.map_nil]
    | simp (disch := omega) only [wi64, wu8, wu16, wu32, wu64, Int.tdiv_eq_ediv_of_nonneg, Int.tmod_eq_emod_of_nonneg]
    | with_reducible_and_instances exact finR
    | ((with_reducible refine finR' ?_ ?_) <;> rfl)
    | ((with_reducible refine finD hsc (NRel.of_plain ?_)); exact rfl)
  refine ⟨_, _, .refl _ _ _, rfl, hp.to (r' := { r with now := now, drop := r.drop + 1 }) (hf1.trans (Frm.set (.refl [i] _) (.inl (by simp))) fun t ht => .inl ht) ?_ rfl rfl rfl⟩
  exact hset_self hil1
end Go.Proofs.Ytnfkbgpbligloaa
