/-
  The control of the specification: its state, losses, time outs; the least of a list; lists of numbers that are the same.
-/
import Derived.Test.YtoikchnpflnehaaGP
set_option linter.unusedVariables false
set_option linter.unusedSimpArgs false
set_option maxRecDepth 20000
namespace Go.Proofs.Ytoikchnpflnehaa
open Go Go.Aw Go.Proofs
structure RCtl where
  time : Int
  ever : Bool
  target : Int
  limit : Int
  now : Int
  all : List (Int × Int)
def rctlC (R : RCtl) (av : Value) : List Value := [.int .i64 R.time, .bool R.ever, .int .i64 R.target, .int .i64 R.limit, .int .i64 R.now, av]
abbrev rcO (R : RCtl) (av : Value) : AObj := .cells (rctlC R av) ⟨83, 0, true, 0, none⟩
/-- At c lies the specification's control R; av is its list of samples; S names what it lies in. -/
structure RAt (H : AHeap) (c : Nat) (R : RCtl) (av : Value) (S : List Nat) : Prop where
  at_ : H[c]? = some (rcO R av)
  all : OwnL H 98 2 R.all.length (pastC R.all) av S
  n1 : c ∉ S
theorem RAt.frm {T : List Nat} {H H2 : AHeap} {c : Nat} {R : RCtl} {av : Value} {S : List Nat} (h : RAt H c R av S) (hf : Frm T H H2) (hc : c ∉ T) (h1 : ∀ s ∈ S, s ∉ T) : RAt H2 c R av S :=
  ⟨hf.get h.at_ hc, h.all.frm hf h1, h.n1⟩
theorem RAt.more {H : AHeap} {c : Nat} {R : RCtl} {av : Value} {S : List Nat} (h : RAt H c R av S) (X : AHeap) : RAt (H ++ X) c R av S :=
  h.frm (T := []) Frm.app (by simp) (by simp)
theorem RAt.put {H : AHeap} {c : Nat} {R R' : RCtl} {av : Value} {S : List Nat} (h : RAt H c R av S) (h1 : R'.all = R.all) : RAt (H.set c (rcO R' av)) c R' av S := by
  have hcl := lt_of_get h.at_
  have hf : Frm [c] H (H.set c (rcO R' av)) := (Frm.refl _ _).set (.inl (by simp))
  refine ⟨hset_self hcl, ?_, h.n1⟩
  rw [h1]; exact h.all.frm hf (fun s hs => by simp; intro e; exact h.n1 (e ▸ hs))
theorem rNew (n : Int) (H : AHeap) : ARet Try.prog 36 [.int .i64 n] H (if 1 ≤ n ∧ n ≤ 1000 then .tuple ⟨[.pointer (some ⟨H.length, 0, none⟩), .int .i64 0]⟩ else .tuple ⟨[.pointer none, .int .i64 7]⟩)
    (H ++ if 1 ≤ n ∧ n ≤ 1000 then [rcO ⟨0, false, n, 3000, 0, []⟩ (.slice none 0 0)] else []) := by
  by_cases h1 : n < 1
  · rw [if_neg (by omega), if_neg (by omega), List.append_nil]
    refine AC.enter Try.func36 rfl (by kernel_rfl) 13 rfl [.tmp 2, .tmp 3] rfl (by simp) fun hsc B => ?_
    repeat first
      | with_reducible refine AWP.seq ?_
      | ((with_reducible refine AWP.region ?_ ?_); exact rfl)
      | with_reducible refine AWP.block ?_
      | with_reducible refine AWP.skip ?_
      | with_reducible refine AWP.exit ?_
      | with_reducible refine AWP.ret ?_
      | with_reducible refine AWP.label ?_
      | with_reducible refine AWP.goto ?_
      | ((with_reducible refine AWP.condT ?_ ?_); focus (simp only [ev, lk_cons, ↓reduceIte, Nat.reduceEqDiff]; done))
      | ((with_reducible refine AWP.condF ?_ ?_); focus (simp only [ev, lk_cons, ↓reduceIte, Nat.reduceEqDiff]; done))
      | simp only [go_sem, ↓reduceIte, Nat.reduceEqDiff, reduceCtorEq, Nat.reduceAdd, Int.reduceEq, Int.reduceBNe, Int.reduceBEq, Int.reduceToNat, Int.reduceLT, Int.reduceLE, Int.reduceGT, Int.reduceGE, Nat.reduceSub, Nat.reduceBEq, Nat.reduceBNe, Int.reduceAdd, Int.reduceSub, Int.reduceMul, Int.reduceNeg, Nat.reduceMul, Nat.reduceLeDiff, Nat.reduceLT, h1]
      | simp (disch := omega) only [wi64, wu8, wu16, wu32, wu64, Int.tdiv_eq_ediv_of_nonneg, Int.tmod_eq_emod_of_nonneg]
      | with_reducible_and_instances exact finR
      | ((with_reducible refine finR' ?_ ?_) <;> rfl)
      | ((with_reducible refine finD hsc (NRel.of_plain ?_)); exact rfl)
  · by_cases h2 : n > 1000
    · rw [if_neg (by omega), if_neg (by omega), List.append_nil]
      refine AC.enter Try.func36 rfl (by kernel_rfl) 13 rfl [.tmp 2, .tmp 3] rfl (by simp) fun hsc B => ?_
      repeat first
        | with_reducible refine AWP.seq ?_
        | ((with_reducible refine AWP.region ?_ ?_); exact rfl)
        | with_reducible refine AWP.block ?_
        | with_reducible refine AWP.skip ?_
        | with_reducible refine AWP.exit ?_
        | with_reducible refine AWP.ret ?_
        | with_reducible refine AWP.label ?_
        | with_reducible refine AWP.goto ?_
        | ((with_reducible refine AWP.condT ?_ ?_); focus (simp only [ev, lk_cons, ↓reduceIte, Nat.reduceEqDiff]; done))
        | ((with_reducible refine AWP.condF ?_ ?_); focus (simp only [ev, lk_cons, ↓reduceIte, Nat.reduceEqDiff]; done))
        | simp only [go_sem, ↓reduceIte, Nat.reduceEqDiff, reduceCtorEq, Nat.reduceAdd, Int.reduceEq, Int.reduceBNe, Int.reduceBEq, Int.reduceToNat, Int.reduceLT, Int.reduceLE, Int.reduceGT, Int.reduceGE, Nat.reduceSub, Nat.reduceBEq, Nat.reduceBNe, Int.reduceAdd, Int.reduceSub, Int.reduceMul, Int.reduceNeg, Nat.reduceMul, Nat.reduceLeDiff, Nat.reduceLT, h1, h2]
        | simp (disch := omega) only [wi64, wu8, wu16, wu32, wu64, Int.tdiv_eq_ediv_of_nonneg, Int.tmod_eq_emod_of_nonneg]
        | with_reducible_and_instances exact finR
        | ((with_reducible refine finR' ?_ ?_) <;> rfl)
        | ((with_reducible refine finD hsc (NRel.of_plain ?_)); exact rfl)
    · rw [if_pos (by omega), if_pos (by omega)]
      refine AC.enter Try.func36 rfl (by kernel_rfl) 13 rfl [.tmp 2, .tmp 3] rfl (by simp) fun hsc B => ?_
      repeat first
        | with_reducible refine AWP.seq ?_
        | ((with_reducible refine AWP.region ?_ ?_); exact rfl)
        | with_reducible refine AWP.block ?_
        | with_reducible refine AWP.skip ?_
        | with_reducible refine AWP.exit ?_
        | with_reducible refine AWP.ret ?_
        | with_reducible refine AWP.label ?_
        | with_reducible refine AWP.goto ?_
        | ((with_reducible refine AWP.condT ?_ ?_); focus (simp only [ev, lk_cons, ↓reduceIte, Nat.reduceEqDiff]; done))
        | ((with_reducible refine AWP.condF ?_ ?_); focus (simp only [ev, lk_cons, ↓reduceIte, Nat.reduceEqDiff]; done))
        | simp only [go_sem, ↓reduceIte, Nat.reduceEqDiff, reduceCtorEq, Nat.reduceAdd, Int.reduceEq, Int.reduceBNe, Int.reduceBEq, Int.reduceToNat, Int.reduceLT, Int.reduceLE, Int.reduceGT, Int.reduceGE, Nat.reduceSub, Nat.reduceBEq, Nat.reduceBNe, Int.reduceAdd, Int.reduceSub, Int.reduceMul, Int.reduceNeg, Nat.reduceMul, Nat.reduceLeDiff, Nat.reduceLT, h1, h2, rctlC]
        | simp (disch := omega) only [wi64, wu8, wu16, wu32, wu64, Int.tdiv_eq_ediv_of_nonneg, Int.tmod_eq_emod_of_nonneg]
        | with_reducible_and_instances exact finR
        | ((with_reducible refine finR' ?_ ?_) <;> rfl)
        | ((with_reducible refine finD hsc (NRel.of_plain ?_)); exact rfl)
theorem rLimit (c : Nat) (R : RCtl) (av : Value) (H : AHeap) (hc : H[c]? = some (rcO R av)) : ARet Try.prog 59 [.pointer (some ⟨c, 0, none⟩)] H (.int .i64 R.limit) H := by
  simp only [rcO, rctlC] at hc
  refine AC.enter Try.func59 rfl (by kernel_rfl) 7 rfl [.tmp 2] rfl (by simp) fun hsc B => ?_
  repeat first
    | with_reducible refine AWP.seq ?_
    | ((with_reducible refine AWP.region ?_ ?_); exact rfl)
    | with_reducible refine AWP.block ?_
    | with_reducible refine AWP.skip ?_
    | with_reducible refine AWP.exit ?_
    | with_reducible refine AWP.ret ?_
    | with_reducible refine AWP.label ?_
    | with_reducible refine AWP.goto ?_
    | ((with_reducible refine AWP.condT ?_ ?_); focus (simp only [ev, lk_cons, ↓reduceIte, Nat.reduceEqDiff]; done))
    | ((with_reducible refine AWP.condF ?_ ?_); focus (simp only [ev, lk_cons, ↓reduceIte, Nat.reduceEqDiff]; done))
    | simp only [go_sem, ↓reduceIte, Nat.reduceEqDiff, reduceCtorEq, Nat.reduceAdd, Int.reduceEq, Int.reduceBNe, Int.reduceBEq, Int.reduceToNat, Int.reduceLT, Int.reduceLE, Int.reduceGT, Int.reduceGE, Nat.reduceSub, Nat.reduceBEq, Nat.reduceBNe, Int.reduceAdd, Int.reduceSub, Int.reduceMul, Int.reduceNeg, Nat.reduceMul, Nat.reduceLeDiff, Nat.reduceLT, hc]
    | simp (disch := omega) only [wi64, wu8, wu16, wu32, wu64, Int.tdiv_eq_ediv_of_nonneg, Int.tmod_eq_emod_of_nonneg]
    | with_reducible_and_instances exact finR
    | ((with_reducible refine finR' ?_ ?_) <;> rfl)
    | ((with_reducible refine finD hsc (NRel.of_plain ?_)); exact rfl)
theorem rTarget (c : Nat) (R : RCtl) (av : Value) (H : AHeap) (hc : H[c]? = some (rcO R av)) : ARet Try.prog 61 [.pointer (some ⟨c, 0, none⟩)] H (.int .i64 R.target) H := by
  simp only [rcO, rctlC] at hc
  refine AC.enter Try.func61 rfl (by kernel_rfl) 7 rfl [.tmp 2] rfl (by simp) fun hsc B => ?_
  repeat first
    | with_reducible refine AWP.seq ?_
    | ((with_reducible refine AWP.region ?_ ?_); exact rfl)
    | with_reducible refine AWP.block ?_
    | with_reducible refine AWP.skip ?_
    | with_reducible refine AWP.exit ?_
    | with_reducible refine AWP.ret ?_
    | with_reducible refine AWP.label ?_
    | with_reducible refine AWP.goto ?_
    | ((with_reducible refine AWP.condT ?_ ?_); focus (simp only [ev, lk_cons, ↓reduceIte, Nat.reduceEqDiff]; done))
    | ((with_reducible refine AWP.condF ?_ ?_); focus (simp only [ev, lk_cons, ↓reduceIte, Nat.reduceEqDiff]; done))
    | simp only [go_sem, ↓reduceIte, Nat.reduceEqDiff, reduceCtorEq, Nat.reduceAdd, Int.reduceEq, Int.reduceBNe, Int.reduceBEq, Int.reduceToNat, Int.reduceLT, Int.reduceLE, Int.reduceGT, Int.reduceGE, Nat.reduceSub, Nat.reduceBEq, Nat.reduceBNe, Int.reduceAdd, Int.reduceSub, Int.reduceMul, Int.reduceNeg, Nat.reduceMul, Nat.reduceLeDiff, Nat.reduceLT, hc]
    | simp (disch := omega) only [wi64, wu8, wu16, wu32, wu64, Int.tdiv_eq_ediv_of_nonneg, Int.tmod_eq_emod_of_nonneg]
    | with_reducible_and_instances exact finR
    | ((with_reducible refine finR' ?_ ?_) <;> rfl)
    | ((with_reducible refine finD hsc (NRel.of_plain ?_)); exact rfl)
theorem cTarget (i : Nat) (C : Ctl) (lv pv : Value) (H : AHeap) (hi : H[i]? = some (cO C lv pv)) : ARet Try.prog 60 [.pointer (some ⟨i, 0, none⟩)] H (.int .i64 C.target) H := by
  simp only [cO, ctlC] at hi
  refine AC.enter Try.func60 rfl (by kernel_rfl) 9 rfl [.tmp 2] rfl (by simp) fun hsc B => ?_
  repeat first
    | with_reducible refine AWP.seq ?_
    | ((with_reducible refine AWP.region ?_ ?_); exact rfl)
    | with_reducible refine AWP.block ?_
    | with_reducible refine AWP.skip ?_
    | with_reducible refine AWP.exit ?_
    | with_reducible refine AWP.ret ?_
    | with_reducible refine AWP.label ?_
    | with_reducible refine AWP.goto ?_
    | ((with_reducible refine AWP.condT ?_ ?_); focus (simp only [ev, lk_cons, ↓reduceIte, Nat.reduceEqDiff]; done))
    | ((with_reducible refine AWP.condF ?_ ?_); focus (simp only [ev, lk_cons, ↓reduceIte, Nat.reduceEqDiff]; done))
    | simp only [go_sem, ↓reduceIte, Nat.reduceEqDiff, reduceCtorEq, Nat.reduceAdd, Int.reduceEq, Int.reduceBNe, Int.reduceBEq, Int.reduceToNat, Int.reduceLT, Int.reduceLE, Int.reduceGT, Int.reduceGE, Nat.reduceSub, Nat.reduceBEq, Nat.reduceBNe, Int.reduceAdd, Int.reduceSub, Int.reduceMul, Int.reduceNeg, Nat.reduceMul, Nat.reduceLeDiff, Nat.reduceLT, hi]
    | simp (disch := omega) only [wi64, wu8, wu16, wu32, wu64, Int.tdiv_eq_ediv_of_nonneg, Int.tmod_eq_emod_of_nonneg]
    | with_reducible_and_instances exact finR
    | ((with_reducible refine finR' ?_ ?_) <;> rfl)
    | ((with_reducible refine finD hsc (NRel.of_plain ?_)); exact rfl)
def RCtl.out (R : RCtl) (now : Int) : RCtl := if timeD R.now now then ⟨R.time, R.ever, R.target, 1500, now, R.all⟩ else R
def routE (R : RCtl) (now : Int) : Int := if timeD R.now now then 0 else 7
theorem rcOut (i : Nat) (R : RCtl) (av : Value) (now : Int) (H : AHeap) (hi : H[i]? = some (rcO R av)) :
    ARet Try.prog 54 [.pointer (some ⟨i, 0, none⟩), .int .i64 now] H (.int .i64 (routE R now)) (H.set i (rcO (R.out now) av)) := by
  have hil := lt_of_get hi
  by_cases hd : timeD R.now now
  · have hE : routE R now = 0 := if_pos hd
    have hS : R.out now = ⟨R.time, R.ever, R.target, 1500, now, R.all⟩ := if_pos hd
    have d1 : decide (R.now ≤ now ∧ now ≤ 1000000000) = true := decide_eq_true hd
    rw [hE, hS]
    simp only [rcO, rctlC] at hi ⊢
    refine AC.enter Try.func54 rfl (by kernel_rfl) 21 rfl [.tmp 4] rfl (by simp) fun hsc B => ?_
    repeat first
      | with_reducible refine AWP.seq ?_
      | ((with_reducible refine AWP.region ?_ ?_); exact rfl)
      | with_reducible refine AWP.block ?_
      | with_reducible refine AWP.skip ?_
      | with_reducible refine AWP.exit ?_
      | with_reducible refine AWP.ret ?_
      | with_reducible refine AWP.label ?_
      | with_reducible refine AWP.goto ?_
      | ((with_reducible refine AWP.condT ?_ ?_); focus (simp only [ev, lk_cons, ↓reduceIte, Nat.reduceEqDiff]; done))
      | ((with_reducible refine AWP.condF ?_ ?_); focus (simp only [ev, lk_cons, ↓reduceIte, Nat.reduceEqDiff]; done))
      | with_reducible refine (right _ _ _ _).use ?_
      | simp only [go_sem, ↓reduceIte, Nat.reduceEqDiff, reduceCtorEq, Nat.reduceAdd, Int.reduceEq, Int.reduceBNe, Int.reduceBEq, Int.reduceToNat, Int.reduceLT, Int.reduceLE, Int.reduceGT, Int.reduceGE, Nat.reduceSub, Nat.reduceBEq, Nat.reduceBNe, Int.reduceAdd, Int.reduceSub, Int.reduceMul, Int.reduceNeg, Nat.reduceMul, Nat.reduceLeDiff, Nat.reduceLT, d1, hi, hil]
      | simp (disch := omega) only [wi64, wu8, wu16, wu32, wu64, Int.tdiv_eq_ediv_of_nonneg, Int.tmod_eq_emod_of_nonneg]
      | with_reducible_and_instances exact finR
      | ((with_reducible refine finR' ?_ ?_) <;> rfl)
      | ((with_reducible refine finD hsc (NRel.of_plain ?_)); exact rfl)
  · have hE : routE R now = 7 := if_neg hd
    have hS : R.out now = R := if_neg hd
    have d1 : decide (R.now ≤ now ∧ now ≤ 1000000000) = false := decide_eq_false hd
    rw [hE, hS, set_same hi]
    simp only [rcO, rctlC] at hi
    refine AC.enter Try.func54 rfl (by kernel_rfl) 21 rfl [.tmp 4] rfl (by simp) fun hsc B => ?_
    repeat first
      | with_reducible refine AWP.seq ?_
      | ((with_reducible refine AWP.region ?_ ?_); exact rfl)
      | with_reducible refine AWP.block ?_
      | with_reducible refine AWP.skip ?_
      | with_reducible refine AWP.exit ?_
      | with_reducible refine AWP.ret ?_
      | with_reducible refine AWP.label ?_
      | with_reducible refine AWP.goto ?_
      | ((with_reducible refine AWP.condT ?_ ?_); focus (simp only [ev, lk_cons, ↓reduceIte, Nat.reduceEqDiff]; done))
      | ((with_reducible refine AWP.condF ?_ ?_); focus (simp only [ev, lk_cons, ↓reduceIte, Nat.reduceEqDiff]; done))
      | with_reducible refine (right _ _ _ _).use ?_
      | simp only [go_sem, ↓reduceIte, Nat.reduceEqDiff, reduceCtorEq, Nat.reduceAdd, Int.reduceEq, Int.reduceBNe, Int.reduceBEq, Int.reduceToNat, Int.reduceLT, Int.reduceLE, Int.reduceGT, Int.reduceGE, Nat.reduceSub, Nat.reduceBEq, Nat.reduceBNe, Int.reduceAdd, Int.reduceSub, Int.reduceMul, Int.reduceNeg, Nat.reduceMul, Nat.reduceLeDiff, Nat.reduceLT, d1, hi, hil]
      | simp (disch := omega) only [wi64, wu8, wu16, wu32, wu64, Int.tdiv_eq_ediv_of_nonneg, Int.tmod_eq_emod_of_nonneg]
      | with_reducible_and_instances exact finR
      | ((with_reducible refine finR' ?_ ?_) <;> rfl)
      | ((with_reducible refine finD hsc (NRel.of_plain ?_)); exact rfl)
def rcloseD (R : RCtl) (now trip : Int) : Prop := R.ever = true ∧ now - R.time < max 1 trip
instance (R : RCtl) (n t : Int) : Decidable (rcloseD R n t) := by unfold rcloseD; infer_instance
theorem rcloss (i : Nat) (R : RCtl) (av : Value) (now trip : Int) (hn : 0 ≤ now ∧ now ≤ 1000000000) (ht : 0 ≤ R.time ∧ R.time ≤ 1000000000) (H : AHeap) (hi : H[i]? = some (rcO R av)) :
    ARet Try.prog 52 [.pointer (some ⟨i, 0, none⟩), .int .i64 now, .int .i64 trip] H (.bool (decide (¬ rcloseD R now trip))) (H.set i (rcO (if rcloseD R now trip then R else ⟨now, true, R.target, R.limit, R.now, R.all⟩) av)) := by
  have hil := lt_of_get hi
  obtain ⟨time, ever, target, limit, nw, all⟩ := R
  simp only at ht
  have hw : IntKind.i64.wrap (now - time) = now - time := IntWalk.i64_in _ (by omega)
  by_cases hd : rcloseD ⟨time, ever, target, limit, nw, all⟩ now trip
  · rw [if_pos hd, set_same hi, decide_eq_false (not_not_intro hd)]
    obtain ⟨h1, h2⟩ := hd
    simp only at h1 h2
    subst h1
    simp only [rcO, rctlC] at hi
    refine AC.enter Try.func52 rfl (by kernel_rfl) 29 rfl [.tmp 6] rfl (by simp) fun hsc B => ?_
    repeat first
      | with_reducible refine AWP.seq ?_
      | ((with_reducible refine AWP.region ?_ ?_); exact rfl)
      | with_reducible refine AWP.block ?_
      | with_reducible refine AWP.skip ?_
      | with_reducible refine AWP.exit ?_
      | with_reducible refine AWP.ret ?_
      | with_reducible refine AWP.label ?_
      | with_reducible refine AWP.goto ?_
      | ((with_reducible refine AWP.condT ?_ ?_); focus (simp only [ev, lk_cons, ↓reduceIte, Nat.reduceEqDiff]; done))
      | ((with_reducible refine AWP.condF ?_ ?_); focus (simp only [ev, lk_cons, ↓reduceIte, Nat.reduceEqDiff]; done))
      | simp only [go_sem, ↓reduceIte, Nat.reduceEqDiff, reduceCtorEq, Nat.reduceAdd, Int.reduceEq, Int.reduceBNe, Int.reduceBEq, Int.reduceToNat, Int.reduceLT, Int.reduceLE, Int.reduceGT, Int.reduceGE, Nat.reduceSub, Nat.reduceBEq, Nat.reduceBNe, Int.reduceAdd, Int.reduceSub, Int.reduceMul, Int.reduceNeg, Nat.reduceMul, Nat.reduceLeDiff, Nat.reduceLT, hi, minMaxW, hw, h2]
      | simp (disch := omega) only [wi64, wu8, wu16, wu32, wu64, Int.tdiv_eq_ediv_of_nonneg, Int.tmod_eq_emod_of_nonneg]
      | with_reducible_and_instances exact finR
      | ((with_reducible refine finR' ?_ ?_) <;> rfl)
      | ((with_reducible refine finD hsc (NRel.of_plain ?_)); exact rfl)
  · rw [if_neg hd, decide_eq_true hd]
    simp only [rcO, rctlC] at hi ⊢
    cases ever with
    | false =>
      refine AC.enter Try.func52 rfl (by kernel_rfl) 29 rfl [.tmp 6] rfl (by simp) fun hsc B => ?_
      repeat first
        | with_reducible refine AWP.seq ?_
        | ((with_reducible refine AWP.region ?_ ?_); exact rfl)
        | with_reducible refine AWP.block ?_
        | with_reducible refine AWP.skip ?_
        | with_reducible refine AWP.exit ?_
        | with_reducible refine AWP.ret ?_
        | with_reducible refine AWP.label ?_
        | with_reducible refine AWP.goto ?_
        | ((with_reducible refine AWP.condT ?_ ?_); focus (simp only [ev, lk_cons, ↓reduceIte, Nat.reduceEqDiff]; done))
        | ((with_reducible refine AWP.condF ?_ ?_); focus (simp only [ev, lk_cons, ↓reduceIte, Nat.reduceEqDiff]; done))
        | simp only [go_sem, ↓reduceIte, Nat.reduceEqDiff, reduceCtorEq, Nat.reduceAdd, Int.reduceEq, Int.reduceBNe, Int.reduceBEq, Int.reduceToNat, Int.reduceLT, Int.reduceLE, Int.reduceGT, Int.reduceGE, Nat.reduceSub, Nat.reduceBEq, Nat.reduceBNe, Int.reduceAdd, Int.reduceSub, Int.reduceMul, Int.reduceNeg, Nat.reduceMul, Nat.reduceLeDiff, Nat.reduceLT, hi, hil]
        | simp (disch := omega) only [wi64, wu8, wu16, wu32, wu64, Int.tdiv_eq_ediv_of_nonneg, Int.tmod_eq_emod_of_nonneg]
        | with_reducible_and_instances exact finR
        | ((with_reducible refine finR' ?_ ?_) <;> rfl)
        | ((with_reducible refine finD hsc (NRel.of_plain ?_)); exact rfl)
    | true =>
      have h5 : ¬ now - time < max 1 trip := fun h => hd ⟨rfl, h⟩
      refine AC.enter Try.func52 rfl (by kernel_rfl) 29 rfl [.tmp 6] rfl (by simp) fun hsc B => ?_
      repeat first
        | with_reducible refine AWP.seq ?_
        | ((with_reducible refine AWP.region ?_ ?_); exact rfl)
        | with_reducible refine AWP.block ?_
        | with_reducible refine AWP.skip ?_
        | with_reducible refine AWP.exit ?_
        | with_reducible refine AWP.ret ?_
        | with_reducible refine AWP.label ?_
        | with_reducible refine AWP.goto ?_
        | ((with_reducible refine AWP.condT ?_ ?_); focus (simp only [ev, lk_cons, ↓reduceIte, Nat.reduceEqDiff]; done))
        | ((with_reducible refine AWP.condF ?_ ?_); focus (simp only [ev, lk_cons, ↓reduceIte, Nat.reduceEqDiff]; done))
        | simp only [go_sem, ↓reduceIte, Nat.reduceEqDiff, reduceCtorEq, Nat.reduceAdd, Int.reduceEq, Int.reduceBNe, Int.reduceBEq, Int.reduceToNat, Int.reduceLT, Int.reduceLE, Int.reduceGT, Int.reduceGE, Nat.reduceSub, Nat.reduceBEq, Nat.reduceBNe, Int.reduceAdd, Int.reduceSub, Int.reduceMul, Int.reduceNeg, Nat.reduceMul, Nat.reduceLeDiff, Nat.reduceLT, hi, hil, minMaxW, hw, h5]
        | simp (disch := omega) only [wi64, wu8, wu16, wu32, wu64, Int.tdiv_eq_ediv_of_nonneg, Int.tmod_eq_emod_of_nonneg]
        | with_reducible_and_instances exact finR
        | ((with_reducible refine finR' ?_ ?_) <;> rfl)
        | ((with_reducible refine finD hsc (NRel.of_plain ?_)); exact rfl)
def rclossD (R : RCtl) (now trip : Int) : Prop := tripD trip ∧ timeD R.now now
instance (R : RCtl) (n t : Int) : Decidable (rclossD R n t) := by unfold rclossD; infer_instance
def RCtl.loss (R : RCtl) (now trip : Int) : RCtl := if rclossD R now trip then (if rcloseD R now trip then ⟨R.time, R.ever, R.target, R.limit, now, R.all⟩ else ⟨now, true, R.target, max (R.limit / 2) 1500, now, R.all⟩) else R
def rclossB (R : RCtl) (now trip : Int) : Bool := decide (rclossD R now trip) && decide (¬ rcloseD R now trip)
def rclossE (R : RCtl) (now trip : Int) : Int := if rclossD R now trip then 0 else 7
theorem rcLoss (i : Nat) (R : RCtl) (av : Value) (now trip : Int) (hn : 0 ≤ R.now) (ht : 0 ≤ R.time ∧ R.time ≤ R.now) (hl : 1500 ≤ R.limit ∧ R.limit ≤ 1000000) (H : AHeap) (hi : H[i]? = some (rcO R av)) :
    ARet Try.prog 53 [.pointer (some ⟨i, 0, none⟩), .int .i64 now, .int .i64 trip] H (.tuple ⟨[.bool (rclossB R now trip), .int .i64 (rclossE R now trip)]⟩) (H.set i (rcO (R.loss now trip) av)) := by
  have hil := lt_of_get hi
  by_cases hd : timeD R.now now
  · have d1 : decide (R.now ≤ now ∧ now ≤ 1000000000) = true := decide_eq_true hd
    by_cases htr : tripD trip
    · have d2 : decide (0 ≤ trip ∧ trip ≤ 60000) = true := decide_eq_true htr
      have hD : rclossD R now trip := ⟨htr, hd⟩
      have hE : rclossE R now trip = 0 := if_pos hD
      have hB : rclossB R now trip = decide (¬ rcloseD R now trip) := by unfold rclossB; rw [decide_eq_true hD]; rfl
      have hS : R.loss now trip = if rcloseD R now trip then ⟨R.time, R.ever, R.target, R.limit, now, R.all⟩ else ⟨now, true, R.target, max (R.limit / 2) 1500, now, R.all⟩ := if_pos hD
      unfold timeD at hd
      have hl2 := rcloss i ⟨R.time, R.ever, R.target, R.limit, now, R.all⟩ av now trip ⟨by omega, hd.2⟩ ⟨ht.1, by show R.time ≤ _; omega⟩ (H.set i (rcO ⟨R.time, R.ever, R.target, R.limit, now, R.all⟩ av)) (hset_self hil)
      have e1 : rcloseD ⟨R.time, R.ever, R.target, R.limit, now, R.all⟩ now trip ↔ rcloseD R now trip := Iff.rfl
      rw [hset_set] at hl2
      rw [hE, hB, hS]
      simp only [rcO, rctlC] at hi
      by_cases hb : rcloseD R now trip
      · rw [if_pos (e1.2 hb), decide_eq_false (not_not_intro (e1.2 hb))] at hl2
        rw [if_pos hb, decide_eq_false (not_not_intro hb)]
        simp only [rcO, rctlC] at hl2 ⊢
        refine AC.enter Try.func53 rfl (by kernel_rfl) 42 rfl [.tmp 6, .tmp 7] rfl (by simp) fun hsc B => ?_
        repeat first
          | with_reducible refine AWP.seq ?_
          | ((with_reducible refine AWP.region ?_ ?_); exact rfl)
          | with_reducible refine AWP.block ?_
          | with_reducible refine AWP.skip ?_
          | with_reducible refine AWP.exit ?_
          | with_reducible refine AWP.ret ?_
          | with_reducible refine AWP.label ?_
          | with_reducible refine AWP.goto ?_
          | ((with_reducible refine AWP.condT ?_ ?_); focus (simp only [ev, lk_cons, ↓reduceIte, Nat.reduceEqDiff]; done))
          | ((with_reducible refine AWP.condF ?_ ?_); focus (simp only [ev, lk_cons, ↓reduceIte, Nat.reduceEqDiff]; done))
          | with_reducible refine (right _ _ _ _).use ?_
          | with_reducible refine hl2.use ?_
          | simp only [go_sem, ↓reduceIte, Nat.reduceEqDiff, reduceCtorEq, Nat.reduceAdd, Int.reduceEq, Int.reduceBNe, Int.reduceBEq, Int.reduceToNat, Int.reduceLT, Int.reduceLE, Int.reduceGT, Int.reduceGE, Nat.reduceSub, Nat.reduceBEq, Nat.reduceBNe, Int.reduceAdd, Int.reduceSub, Int.reduceMul, Int.reduceNeg, Nat.reduceMul, Nat.reduceLeDiff, Nat.reduceLT, d1, d2, hi, hil]
          | simp (disch := omega) only [wi64, wu8, wu16, wu32, wu64, Int.tdiv_eq_ediv_of_nonneg, Int.tmod_eq_emod_of_nonneg]
          | with_reducible_and_instances exact finR
          | ((with_reducible refine finR' ?_ ?_) <;> rfl)
          | ((with_reducible refine finD hsc (NRel.of_plain ?_)); exact rfl)
      · rw [if_neg (fun h => hb (e1.1 h)), decide_eq_true (p := ¬ rcloseD ⟨R.time, R.ever, R.target, R.limit, now, R.all⟩ now trip) (fun h => hb (e1.1 h))] at hl2
        rw [if_neg hb, decide_eq_true hb]
        simp only [rcO, rctlC] at hl2 ⊢
        refine AC.enter Try.func53 rfl (by kernel_rfl) 42 rfl [.tmp 6, .tmp 7] rfl (by simp) fun hsc B => ?_
        repeat first
          | with_reducible refine AWP.seq ?_
          | ((with_reducible refine AWP.region ?_ ?_); exact rfl)
          | with_reducible refine AWP.block ?_
          | with_reducible refine AWP.skip ?_
          | with_reducible refine AWP.exit ?_
          | with_reducible refine AWP.ret ?_
          | with_reducible refine AWP.label ?_
          | with_reducible refine AWP.goto ?_
          | ((with_reducible refine AWP.condT ?_ ?_); focus (simp only [ev, lk_cons, ↓reduceIte, Nat.reduceEqDiff]; done))
          | ((with_reducible refine AWP.condF ?_ ?_); focus (simp only [ev, lk_cons, ↓reduceIte, Nat.reduceEqDiff]; done))
          | with_reducible refine (right _ _ _ _).use ?_
          | with_reducible refine hl2.use ?_
          | simp only [go_sem, ↓reduceIte, Nat.reduceEqDiff, reduceCtorEq, Nat.reduceAdd, Int.reduceEq, Int.reduceBNe, Int.reduceBEq, Int.reduceToNat, Int.reduceLT, Int.reduceLE, Int.reduceGT, Int.reduceGE, Nat.reduceSub, Nat.reduceBEq, Nat.reduceBNe, Int.reduceAdd, Int.reduceSub, Int.reduceMul, Int.reduceNeg, Nat.reduceMul, Nat.reduceLeDiff, Nat.reduceLT, d1, d2, hi, hil, minMaxW]
          | simp (disch := omega) only [wi64, wu8, wu16, wu32, wu64, Int.tdiv_eq_ediv_of_nonneg, Int.tmod_eq_emod_of_nonneg]
          | with_reducible_and_instances exact finR
          | ((with_reducible refine finR' ?_ ?_) <;> rfl)
          | ((with_reducible refine finD hsc (NRel.of_plain ?_)); exact rfl)
    · have d2 : decide (0 ≤ trip ∧ trip ≤ 60000) = false := decide_eq_false htr
      have hD : ¬ rclossD R now trip := fun h => htr h.1
      have hB : rclossB R now trip = false := by unfold rclossB; rw [decide_eq_false hD]; rfl
      have hE : rclossE R now trip = 7 := if_neg hD
      have hS : R.loss now trip = R := if_neg hD
      rw [hB, hE, hS, set_same hi]
      simp only [rcO, rctlC] at hi
      refine AC.enter Try.func53 rfl (by kernel_rfl) 42 rfl [.tmp 6, .tmp 7] rfl (by simp) fun hsc B => ?_
      repeat first
        | with_reducible refine AWP.seq ?_
        | ((with_reducible refine AWP.region ?_ ?_); exact rfl)
        | with_reducible refine AWP.block ?_
        | with_reducible refine AWP.skip ?_
        | with_reducible refine AWP.exit ?_
        | with_reducible refine AWP.ret ?_
        | with_reducible refine AWP.label ?_
        | with_reducible refine AWP.goto ?_
        | ((with_reducible refine AWP.condT ?_ ?_); focus (simp only [ev, lk_cons, ↓reduceIte, Nat.reduceEqDiff]; done))
        | ((with_reducible refine AWP.condF ?_ ?_); focus (simp only [ev, lk_cons, ↓reduceIte, Nat.reduceEqDiff]; done))
        | with_reducible refine (right _ _ _ _).use ?_
        | simp only [go_sem, ↓reduceIte, Nat.reduceEqDiff, reduceCtorEq, Nat.reduceAdd, Int.reduceEq, Int.reduceBNe, Int.reduceBEq, Int.reduceToNat, Int.reduceLT, Int.reduceLE, Int.reduceGT, Int.reduceGE, Nat.reduceSub, Nat.reduceBEq, Nat.reduceBNe, Int.reduceAdd, Int.reduceSub, Int.reduceMul, Int.reduceNeg, Nat.reduceMul, Nat.reduceLeDiff, Nat.reduceLT, d1, d2, hi, hil]
        | simp (disch := omega) only [wi64, wu8, wu16, wu32, wu64, Int.tdiv_eq_ediv_of_nonneg, Int.tmod_eq_emod_of_nonneg]
        | with_reducible_and_instances exact finR
        | ((with_reducible refine finR' ?_ ?_) <;> rfl)
        | ((with_reducible refine finD hsc (NRel.of_plain ?_)); exact rfl)
  · have d1 : decide (R.now ≤ now ∧ now ≤ 1000000000) = false := decide_eq_false hd
    have hD : ¬ rclossD R now trip := fun h => hd h.2
    have hB : rclossB R now trip = false := by unfold rclossB; rw [decide_eq_false hD]; rfl
    have hE : rclossE R now trip = 7 := if_neg hD
    have hS : R.loss now trip = R := if_neg hD
    rw [hB, hE, hS, set_same hi]
    simp only [rcO, rctlC] at hi
    refine AC.enter Try.func53 rfl (by kernel_rfl) 42 rfl [.tmp 6, .tmp 7] rfl (by simp) fun hsc B => ?_
    repeat first
      | with_reducible refine AWP.seq ?_
      | ((with_reducible refine AWP.region ?_ ?_); exact rfl)
      | with_reducible refine AWP.block ?_
      | with_reducible refine AWP.skip ?_
      | with_reducible refine AWP.exit ?_
      | with_reducible refine AWP.ret ?_
      | with_reducible refine AWP.label ?_
      | with_reducible refine AWP.goto ?_
      | ((with_reducible refine AWP.condT ?_ ?_); focus (simp only [ev, lk_cons, ↓reduceIte, Nat.reduceEqDiff]; done))
      | ((with_reducible refine AWP.condF ?_ ?_); focus (simp only [ev, lk_cons, ↓reduceIte, Nat.reduceEqDiff]; done))
      | with_reducible refine (right _ _ _ _).use ?_
      | simp only [go_sem, ↓reduceIte, Nat.reduceEqDiff, reduceCtorEq, Nat.reduceAdd, Int.reduceEq, Int.reduceBNe, Int.reduceBEq, Int.reduceToNat, Int.reduceLT, Int.reduceLE, Int.reduceGT, Int.reduceGE, Nat.reduceSub, Nat.reduceBEq, Nat.reduceBNe, Int.reduceAdd, Int.reduceSub, Int.reduceMul, Int.reduceNeg, Nat.reduceMul, Nat.reduceLeDiff, Nat.reduceLT, d1, hi, hil]
      | simp (disch := omega) only [wi64, wu8, wu16, wu32, wu64, Int.tdiv_eq_ediv_of_nonneg, Int.tmod_eq_emod_of_nonneg]
      | with_reducible_and_instances exact finR
      | ((with_reducible refine finR' ?_ ?_) <;> rfl)
      | ((with_reducible refine finD hsc (NRel.of_plain ?_)); exact rfl)
theorem rd_get {H : AHeap} {v : Value} {l : List Int} (h : Rd H v (intsC l)) {n : Nat} (hn : n < l.length) : ∃ i off cap cs k, v = .slice (some ⟨i, off, none⟩) l.length cap ∧ H[i]? = some (.cells cs k) ∧ cs[off + n]? = some (.int .i64 l[n]) ∧ off + n < cs.length := by
  rcases h with ⟨rfl, h2⟩ | ⟨i, off, cap, cs, k, h1, h2, h3⟩
  · have := congrArg List.length h2
    rw [intsC_length, List.length_nil] at this
    omega
  · rw [intsC_length] at h1 h3
    have h4 := (h3 n hn).trans (intsC_get l hn)
    exact ⟨i, off, cap, cs, k, h1, h2, h4, (List.getElem?_eq_some_iff.1 h4).1⟩
theorem SameInts (la lb : List Int) (hla : la.length < 1099511627776) (hlb : lb.length < 1099511627776) (va vb : Value) (H : AHeap) (ha : Rd H va (intsC la)) (hb : Rd H vb (intsC lb)) : ARet Try.prog 62 [va, vb] H (.bool (decide (la = lb))) H := by
  have q1 : ∀ H' K, lenW Try.prog 28 va H' K = K (.int .i64 (la.length : Nat)) H' := fun H' K => by rw [ha.lenT (by simp only [go_sem, ↓reduceIte, Nat.reduceEqDiff, reduceCtorEq, Nat.reduceAdd, Int.reduceEq, Int.reduceBNe, Int.reduceBEq, Int.reduceToNat, Int.reduceLT, Int.reduceLE, Int.reduceGT, Int.reduceGE, Nat.reduceSub, Nat.reduceBEq, Nat.reduceBNe, Int.reduceAdd, Int.reduceSub, Int.reduceMul, Int.reduceNeg, Nat.reduceMul, Nat.reduceLeDiff, Nat.reduceLT]), intsC_length]
  have q2 : ∀ H' K, lenW Try.prog 28 vb H' K = K (.int .i64 (lb.length : Nat)) H' := fun H' K => by rw [hb.lenT (by simp only [go_sem, ↓reduceIte, Nat.reduceEqDiff, reduceCtorEq, Nat.reduceAdd, Int.reduceEq, Int.reduceBNe, Int.reduceBEq, Int.reduceToNat, Int.reduceLT, Int.reduceLE, Int.reduceGT, Int.reduceGE, Nat.reduceSub, Nat.reduceBEq, Nat.reduceBNe, Int.reduceAdd, Int.reduceSub, Int.reduceMul, Int.reduceNeg, Nat.reduceMul, Nat.reduceLeDiff, Nat.reduceLT]), intsC_length]
  by_cases hl : la.length = lb.length
  · have hl' : ((la.length : Int) != (lb.length : Int)) = false := by rw [bne_eq_false_iff_eq]; omega
    refine AC.enter Try.func62 rfl (by kernel_rfl) 26 rfl [.tmp 4] rfl (by simp) fun hsc B => ?_
    repeat first
      | with_reducible refine AWP.seq ?_
      | ((with_reducible refine AWP.region ?_ ?_); exact rfl)
      | with_reducible refine AWP.block ?_
      | with_reducible refine AWP.skip ?_
      | with_reducible refine AWP.exit ?_
      | with_reducible refine AWP.ret ?_
      | with_reducible refine AWP.label ?_
      | with_reducible refine AWP.goto ?_
      | ((with_reducible refine AWP.condT ?_ ?_); focus (simp only [ev, lk_cons, ↓reduceIte, Nat.reduceEqDiff]; done))
      | ((with_reducible refine AWP.condF ?_ ?_); focus (simp only [ev, lk_cons, ↓reduceIte, Nat.reduceEqDiff]; done))
      | simp only [go_sem, ↓reduceIte, Nat.reduceEqDiff, reduceCtorEq, Nat.reduceAdd, Int.reduceEq, Int.reduceBNe, Int.reduceBEq, Int.reduceToNat, Int.reduceLT, Int.reduceLE, Int.reduceGT, Int.reduceGE, Nat.reduceSub, Nat.reduceBEq, Nat.reduceBNe, Int.reduceAdd, Int.reduceSub, Int.reduceMul, Int.reduceNeg, Nat.reduceMul, Nat.reduceLeDiff, Nat.reduceLT, q1, q2, hl']
      | simp (disch := omega) only [wi64, wu8, wu16, wu32, wu64, Int.tdiv_eq_ediv_of_nonneg, Int.tmod_eq_emod_of_nonneg]
      | with_reducible_and_instances exact finR
      | ((with_reducible refine finR' ?_ ?_) <;> rfl)
      | ((with_reducible refine finD hsc (NRel.of_plain ?_)); exact rfl)
    refine AWP.loopP (fun s : Nat => ⟨[(0, va), (1, vb), (12, .int .i64 (la.length : Nat)), (13, .int .i64 (s : Nat))], [], H⟩) (fun s => s ≤ la.length ∧ la.take s = lb.take s) (fun s => la.length - s) 0 ?_ ⟨Nat.zero_le _, rfl⟩ ?_
    · exact Weak.env (by simp [envIn, lk_cons, wth_some])
    rintro n ⟨hn, htk⟩
    simp only at hn htk ⊢
    by_cases hc : n < la.length
    · have hc' : (n : Int) < (la.length : Int) := by omega
      have hcb : n < lb.length := by omega
      obtain ⟨i, o, cap, cs, k, rfl, hi, hg, hg2⟩ := rd_get ha hc
      obtain ⟨i', o', cap', cs', k', rfl, hi', hg', hg2'⟩ := rd_get hb hcb
      have hil := lt_of_get hi
      have hil' := lt_of_get hi'
      have hcl' : (n : Int) < (lb.length : Int) := by omega
      have hwn : IntKind.i64.wrap ((n : Int) + 1) = ((n + 1 : Nat) : Int) := by rw [wi64 (by omega)]; omega
      have ea : la.take (n + 1) = la.take n ++ [la[n]] := by rw [List.take_add_one, List.getElem?_eq_getElem hc]; rfl
      have eb : lb.take (n + 1) = lb.take n ++ [lb[n]] := by rw [List.take_add_one, List.getElem?_eq_getElem hcb]; rfl
      have hne : la[n] ≠ lb[n] → la ≠ lb := fun h e => h (by subst e; rfl)
      generalize la[n] = x at *
      generalize lb[n] = y at *
      repeat first
        | with_reducible refine AWP.seq ?_
        | ((with_reducible refine AWP.region ?_ ?_); exact rfl)
        | with_reducible refine AWP.block ?_
        | with_reducible refine AWP.skip ?_
        | with_reducible refine AWP.exit ?_
        | with_reducible refine AWP.ret ?_
        | with_reducible refine AWP.label ?_
        | with_reducible refine AWP.goto ?_
        | ((with_reducible refine AWP.condT ?_ ?_); focus (simp only [ev, lk_cons, ↓reduceIte, Nat.reduceEqDiff]; done))
        | ((with_reducible refine AWP.condF ?_ ?_); focus (simp only [ev, lk_cons, ↓reduceIte, Nat.reduceEqDiff]; done))
        | simp only [go_sem, ↓reduceIte, Nat.reduceEqDiff, reduceCtorEq, Nat.reduceAdd, Int.reduceEq, Int.reduceBNe, Int.reduceBEq, Int.reduceToNat, Int.reduceLT, Int.reduceLE, Int.reduceGT, Int.reduceGE, Nat.reduceSub, Nat.reduceBEq, Nat.reduceBNe, Int.reduceAdd, Int.reduceSub, Int.reduceMul, Int.reduceNeg, Nat.reduceMul, Nat.reduceLeDiff, Nat.reduceLT, hc', hcl']
        | simp (disch := omega) only [wi64, wu8, wu16, wu32, wu64, Int.tdiv_eq_ediv_of_nonneg, Int.tmod_eq_emod_of_nonneg]
        | with_reducible_and_instances exact finR
        | ((with_reducible refine finR' ?_ ?_) <;> rfl)
        | ((with_reducible refine finD hsc (NRel.of_plain ?_)); exact rfl)
      refine AWP.regionK 8 (by kernel_rfl) (by decide) (by kernel_rfl) ?_
      by_cases hxy : x = y
      · have hb0 : (x != y) = false := by simp [hxy]
        repeat first
          | with_reducible refine AWP.seq ?_
          | ((with_reducible refine AWP.region ?_ ?_); exact rfl)
          | with_reducible refine AWP.block ?_
          | with_reducible refine AWP.skip ?_
          | with_reducible refine AWP.exit ?_
          | with_reducible refine AWP.ret ?_
          | with_reducible refine AWP.label ?_
          | with_reducible refine AWP.goto ?_
          | ((with_reducible refine AWP.condT ?_ ?_); focus (simp only [ev, lk_cons, ↓reduceIte, Nat.reduceEqDiff]; done))
          | ((with_reducible refine AWP.condF ?_ ?_); focus (simp only [ev, lk_cons, ↓reduceIte, Nat.reduceEqDiff]; done))
          | simp only [go_sem, ↓reduceIte, Nat.reduceEqDiff, reduceCtorEq, Nat.reduceAdd, Int.reduceEq, Int.reduceBNe, Int.reduceBEq, Int.reduceToNat, Int.reduceLT, Int.reduceLE, Int.reduceGT, Int.reduceGE, Nat.reduceSub, Nat.reduceBEq, Nat.reduceBNe, Int.reduceAdd, Int.reduceSub, Int.reduceMul, Int.reduceNeg, Nat.reduceMul, Nat.reduceLeDiff, Nat.reduceLT, hc', hcl', hi, hil, hg, hg2, hi', hil', hg', hg2', hb0, hwn]
          | simp (disch := omega) only [wi64, wu8, wu16, wu32, wu64, Int.tdiv_eq_ediv_of_nonneg, Int.tmod_eq_emod_of_nonneg]
          | with_reducible_and_instances exact finR
          | ((with_reducible refine finR' ?_ ?_) <;> rfl)
          | ((with_reducible refine finD hsc (NRel.of_plain ?_)); exact rfl)
        exact ⟨n + 1, Weak.env (by simp [envIn, lk_cons, wth_some]), by omega, by rw [ea, eb, htk, hxy], by omega⟩
      · have hb0 : (x != y) = true := by simp [hxy]
        rw [decide_eq_false (hne hxy)]
        repeat first
          | with_reducible refine AWP.seq ?_
          | ((with_reducible refine AWP.region ?_ ?_); exact rfl)
          | with_reducible refine AWP.block ?_
          | with_reducible refine AWP.skip ?_
          | with_reducible refine AWP.exit ?_
          | with_reducible refine AWP.ret ?_
          | with_reducible refine AWP.label ?_
          | with_reducible refine AWP.goto ?_
          | ((with_reducible refine AWP.condT ?_ ?_); focus (simp only [ev, lk_cons, ↓reduceIte, Nat.reduceEqDiff]; done))
          | ((with_reducible refine AWP.condF ?_ ?_); focus (simp only [ev, lk_cons, ↓reduceIte, Nat.reduceEqDiff]; done))
          | simp only [go_sem, ↓reduceIte, Nat.reduceEqDiff, reduceCtorEq, Nat.reduceAdd, Int.reduceEq, Int.reduceBNe, Int.reduceBEq, Int.reduceToNat, Int.reduceLT, Int.reduceLE, Int.reduceGT, Int.reduceGE, Nat.reduceSub, Nat.reduceBEq, Nat.reduceBNe, Int.reduceAdd, Int.reduceSub, Int.reduceMul, Int.reduceNeg, Nat.reduceMul, Nat.reduceLeDiff, Nat.reduceLT, hc', hcl', hi, hil, hg, hg2, hi', hil', hg', hg2', hb0, hwn]
          | simp (disch := omega) only [wi64, wu8, wu16, wu32, wu64, Int.tdiv_eq_ediv_of_nonneg, Int.tmod_eq_emod_of_nonneg]
          | with_reducible_and_instances exact finR
          | ((with_reducible refine finR' ?_ ?_) <;> rfl)
          | ((with_reducible refine finD hsc (NRel.of_plain ?_)); exact rfl)
    · have hc' : ¬ (n : Int) < (la.length : Int) := by omega
      have : n = la.length := by omega
      subst this
      have he : la = lb := by rw [List.take_length, List.take_of_length_le (by omega)] at htk; exact htk
      rw [decide_eq_true he]
      repeat first
        | with_reducible refine AWP.seq ?_
        | ((with_reducible refine AWP.region ?_ ?_); exact rfl)
        | with_reducible refine AWP.block ?_
        | with_reducible refine AWP.skip ?_
        | with_reducible refine AWP.exit ?_
        | with_reducible refine AWP.ret ?_
        | with_reducible refine AWP.label ?_
        | with_reducible refine AWP.goto ?_
        | ((with_reducible refine AWP.condT ?_ ?_); focus (simp only [ev, lk_cons, ↓reduceIte, Nat.reduceEqDiff]; done))
        | ((with_reducible refine AWP.condF ?_ ?_); focus (simp only [ev, lk_cons, ↓reduceIte, Nat.reduceEqDiff]; done))
        | simp only [go_sem, ↓reduceIte, Nat.reduceEqDiff, reduceCtorEq, Nat.reduceAdd, Int.reduceEq, Int.reduceBNe, Int.reduceBEq, Int.reduceToNat, Int.reduceLT, Int.reduceLE, Int.reduceGT, Int.reduceGE, Nat.reduceSub, Nat.reduceBEq, Nat.reduceBNe, Int.reduceAdd, Int.reduceSub, Int.reduceMul, Int.reduceNeg, Nat.reduceMul, Nat.reduceLeDiff, Nat.reduceLT, hc']
        | simp (disch := omega) only [wi64, wu8, wu16, wu32, wu64, Int.tdiv_eq_ediv_of_nonneg, Int.tmod_eq_emod_of_nonneg]
        | with_reducible_and_instances exact finR
        | ((with_reducible refine finR' ?_ ?_) <;> rfl)
        | ((with_reducible refine finD hsc (NRel.of_plain ?_)); exact rfl)
  · have hl' : ((la.length : Int) != (lb.length : Int)) = true := by rw [bne_iff_ne]; omega
    rw [decide_eq_false fun h => hl (by rw [h])]
    refine AC.enter Try.func62 rfl (by kernel_rfl) 26 rfl [.tmp 4] rfl (by simp) fun hsc B => ?_
    repeat first
      | with_reducible refine AWP.seq ?_
      | ((with_reducible refine AWP.region ?_ ?_); exact rfl)
      | with_reducible refine AWP.block ?_
      | with_reducible refine AWP.skip ?_
      | with_reducible refine AWP.exit ?_
      | with_reducible refine AWP.ret ?_
      | with_reducible refine AWP.label ?_
      | with_reducible refine AWP.goto ?_
      | ((with_reducible refine AWP.condT ?_ ?_); focus (simp only [ev, lk_cons, ↓reduceIte, Nat.reduceEqDiff]; done))
      | ((with_reducible refine AWP.condF ?_ ?_); focus (simp only [ev, lk_cons, ↓reduceIte, Nat.reduceEqDiff]; done))
      | simp only [go_sem, ↓reduceIte, Nat.reduceEqDiff, reduceCtorEq, Nat.reduceAdd, Int.reduceEq, Int.reduceBNe, Int.reduceBEq, Int.reduceToNat, Int.reduceLT, Int.reduceLE, Int.reduceGT, Int.reduceGE, Nat.reduceSub, Nat.reduceBEq, Nat.reduceBNe, Int.reduceAdd, Int.reduceSub, Int.reduceMul, Int.reduceNeg, Nat.reduceMul, Nat.reduceLeDiff, Nat.reduceLT, q1, q2, hl']
      | simp (disch := omega) only [wi64, wu8, wu16, wu32, wu64, Int.tdiv_eq_ediv_of_nonneg, Int.tmod_eq_emod_of_nonneg]
      | with_reducible_and_instances exact finR
      | ((with_reducible refine finR' ?_ ?_) <;> rfl)
      | ((with_reducible refine finD hsc (NRel.of_plain ?_)); exact rfl)
theorem leastL_cons (a : Int) (r : List Int) (n : Nat) (hn : n < r.length) : leastL (a :: r.take (n + 1)) = if lessD r[n] (leastL (a :: r.take n)) then r[n] else leastL (a :: r.take n) := by
  have e : a :: r.take (n + 1) = (a :: r.take n) ++ [r[n]] := by rw [List.take_add_one, List.getElem?_eq_getElem hn]; simp
  rw [e, leastL_snoc, if_neg (by simp)]
theorem smallest (l : List Int) (hne : l ≠ []) (hl : l.length < 1099511627776) (v : Value) (S : List Nat) (H : AHeap) (hv : OwnL H 3 1 l.length (intsC l) v S) : ARet Try.prog 68 [v] H (.int .i64 (leastL l)) H := by
  have hrd := hv.rd
  have hget := fun (n : Nat) (hn : n < l.length) => rd_get hrd hn
  rcases hv with ⟨h1, _⟩ | ⟨i, o, cs, rfl, hi, hcl, hd, rfl⟩
  · exact absurd (List.length_eq_zero_iff.1 h1) hne
  obtain ⟨a, r, rfl⟩ : ∃ a r, l = a :: r := by
    cases l with
    | nil => exact absurd rfl hne
    | cons a r => exact ⟨a, r, rfl⟩
  have hil := lt_of_get hi
  have hg3 : ∀ n, (h : n < r.length) → cs[o + (1 + n)]? = some (.int .i64 r[n]) := by
    intro n h
    rw [← List.getElem?_drop, hd, intsC_get _ (by simp; omega)]
    simp [show 1 + n = n + 1 by omega]
  have hg : cs[o]? = some (.int .i64 a) := by
    have : cs[o + 0]? = some (.int .i64 a) := by rw [← List.getElem?_drop, hd]; rfl
    exact this
  rw [List.length_cons] at hl hcl
  have hg2 : o < cs.length := by omega
  have hz : (0 : Int) < ((r.length + 1 : Nat) : Int) := by omega
  have hz1 : (1 : Int) ≤ ((r.length + 1 : Nat) : Int) := by omega
  have hz4 : ((r.length + 1 - 1 : Nat) : Int) = ((r.length : Nat) : Int) := by omega
  refine AC.enter Try.func68 rfl (by kernel_rfl) 22 rfl [.tmp 2] rfl (by simp) fun hsc B => ?_
  repeat' first
    | omega
    | with_reducible refine And.intro ?_ ?_
    | with_reducible refine AWP.seq ?_
    | ((with_reducible refine AWP.region ?_ ?_); exact rfl)
    | with_reducible refine AWP.block ?_
    | with_reducible refine AWP.skip ?_
    | with_reducible refine AWP.exit ?_
    | with_reducible refine AWP.ret ?_
    | with_reducible refine AWP.label ?_
    | with_reducible refine AWP.goto ?_
    | ((with_reducible refine AWP.condT ?_ ?_); focus (simp only [ev, lk_cons, ↓reduceIte, Nat.reduceEqDiff]; done))
    | ((with_reducible refine AWP.condF ?_ ?_); focus (simp only [ev, lk_cons, ↓reduceIte, Nat.reduceEqDiff]; done))
    | simp only [go_sem, ↓reduceIte, Nat.reduceEqDiff, reduceCtorEq, Nat.reduceAdd, Int.reduceEq, Int.reduceBNe, Int.reduceBEq, Int.reduceToNat, Int.reduceLT, Int.reduceLE, Int.reduceGT, Int.reduceGE, Nat.reduceSub, Nat.reduceBEq, Nat.reduceBNe, Int.reduceAdd, Int.reduceSub, Int.reduceMul, Int.reduceNeg, Nat.reduceMul, Nat.reduceLeDiff, Nat.reduceLT, hi, hil, hg, hg2, hz, hz1]
    | simp (disch := omega) only [wi64, wu8, wu16, wu32, wu64, Int.tdiv_eq_ediv_of_nonneg, Int.tmod_eq_emod_of_nonneg]
    | with_reducible_and_instances exact finR
    | ((with_reducible refine finR' ?_ ?_) <;> rfl)
    | ((with_reducible refine finD hsc (NRel.of_plain ?_)); exact rfl)
  rw [hz4]
  refine AWP.loopP (fun s : Nat => ⟨[(3, .int .i64 (leastL (a :: r.take s))), (10, .slice (some ⟨i, o + 1, none⟩) r.length r.length), (11, .int .i64 (r.length : Nat)), (12, .int .i64 (s : Nat))], [], H⟩) (fun s => s ≤ r.length) (fun s => r.length - s) 0 ?_ (Nat.zero_le _) ?_
  · exact Weak.env (by simp [envIn, lk_cons, wth_some, leastL])
  intro n hn
  simp only
  by_cases hc : n < r.length
  · have hc' : (n : Int) < (r.length : Int) := by omega
    have hwn : IntKind.i64.wrap ((n : Int) + 1) = ((n + 1 : Nat) : Int) := by rw [wi64 (by omega)]; omega
    have hst := leastL_cons a r n hc
    have hgn := hg3 n hc
    have hgn2 : o + (1 + n) < cs.length := by omega
    generalize leastL (a :: r.take n) = m at *
    generalize hm' : leastL (a :: r.take (n + 1)) = m' at *
    generalize r[n] = x at *
    by_cases hb : lessD x m
    · rw [if_pos hb] at hst
      subst hst
      repeat first
        | with_reducible refine AWP.seq ?_
        | ((with_reducible refine AWP.region ?_ ?_); exact rfl)
        | with_reducible refine AWP.block ?_
        | with_reducible refine AWP.skip ?_
        | with_reducible refine AWP.exit ?_
        | with_reducible refine AWP.ret ?_
        | with_reducible refine AWP.label ?_
        | with_reducible refine AWP.goto ?_
        | ((with_reducible refine AWP.condT ?_ ?_); focus (simp only [ev, lk_cons, ↓reduceIte, Nat.reduceEqDiff]; done))
        | ((with_reducible refine AWP.condF ?_ ?_); focus (simp only [ev, lk_cons, ↓reduceIte, Nat.reduceEqDiff]; done))
        | with_reducible refine (rLess _ _ _).use ?_
        | simp only [go_sem, ↓reduceIte, Nat.reduceEqDiff, reduceCtorEq, Nat.reduceAdd, Int.reduceEq, Int.reduceBNe, Int.reduceBEq, Int.reduceToNat, Int.reduceLT, Int.reduceLE, Int.reduceGT, Int.reduceGE, Nat.reduceSub, Nat.reduceBEq, Nat.reduceBNe, Int.reduceAdd, Int.reduceSub, Int.reduceMul, Int.reduceNeg, Nat.reduceMul, Nat.reduceLeDiff, Nat.reduceLT, hc', hi, hil, hgn, hgn2, hb, hwn]
        | simp (disch := omega) only [wi64, wu8, wu16, wu32, wu64, Int.tdiv_eq_ediv_of_nonneg, Int.tmod_eq_emod_of_nonneg]
        | with_reducible_and_instances exact finR
        | ((with_reducible refine finR' ?_ ?_) <;> rfl)
        | ((with_reducible refine finD hsc (NRel.of_plain ?_)); exact rfl)
      exact ⟨n + 1, Weak.env (by simp [envIn, lk_cons, wth_some, hm']), by omega, by omega⟩
    · rw [if_neg hb] at hst
      subst hst
      repeat first
        | with_reducible refine AWP.seq ?_
        | ((with_reducible refine AWP.region ?_ ?_); exact rfl)
        | with_reducible refine AWP.block ?_
        | with_reducible refine AWP.skip ?_
        | with_reducible refine AWP.exit ?_
        | with_reducible refine AWP.ret ?_
        | with_reducible refine AWP.label ?_
        | with_reducible refine AWP.goto ?_
        | ((with_reducible refine AWP.condT ?_ ?_); focus (simp only [ev, lk_cons, ↓reduceIte, Nat.reduceEqDiff]; done))
        | ((with_reducible refine AWP.condF ?_ ?_); focus (simp only [ev, lk_cons, ↓reduceIte, Nat.reduceEqDiff]; done))
        | with_reducible refine (rLess _ _ _).use ?_
        | simp only [go_sem, ↓reduceIte, Nat.reduceEqDiff, reduceCtorEq, Nat.reduceAdd, Int.reduceEq, Int.reduceBNe, Int.reduceBEq, Int.reduceToNat, Int.reduceLT, Int.reduceLE, Int.reduceGT, Int.reduceGE, Nat.reduceSub, Nat.reduceBEq, Nat.reduceBNe, Int.reduceAdd, Int.reduceSub, Int.reduceMul, Int.reduceNeg, Nat.reduceMul, Nat.reduceLeDiff, Nat.reduceLT, hc', hi, hil, hgn, hgn2, hb, hwn]
        | simp (disch := omega) only [wi64, wu8, wu16, wu32, wu64, Int.tdiv_eq_ediv_of_nonneg, Int.tmod_eq_emod_of_nonneg]
        | with_reducible_and_instances exact finR
        | ((with_reducible refine finR' ?_ ?_) <;> rfl)
        | ((with_reducible refine finD hsc (NRel.of_plain ?_)); exact rfl)
      exact ⟨n + 1, Weak.env (by simp [envIn, lk_cons, wth_some, hm']), by omega, by omega⟩
  · have : n = r.length := by omega
    subst this
    have hc' : ¬ (r.length : Int) < (r.length : Int) := by omega
    rw [List.take_length]
    repeat first
      | with_reducible refine AWP.seq ?_
      | ((with_reducible refine AWP.region ?_ ?_); exact rfl)
      | with_reducible refine AWP.block ?_
      | with_reducible refine AWP.skip ?_
      | with_reducible refine AWP.exit ?_
      | with_reducible refine AWP.ret ?_
      | with_reducible refine AWP.label ?_
      | with_reducible refine AWP.goto ?_
      | ((with_reducible refine AWP.condT ?_ ?_); focus (simp only [ev, lk_cons, ↓reduceIte, Nat.reduceEqDiff]; done))
      | ((with_reducible refine AWP.condF ?_ ?_); focus (simp only [ev, lk_cons, ↓reduceIte, Nat.reduceEqDiff]; done))
      | simp only [go_sem, ↓reduceIte, Nat.reduceEqDiff, reduceCtorEq, Nat.reduceAdd, Int.reduceEq, Int.reduceBNe, Int.reduceBEq, Int.reduceToNat, Int.reduceLT, Int.reduceLE, Int.reduceGT, Int.reduceGE, Nat.reduceSub, Nat.reduceBEq, Nat.reduceBNe, Int.reduceAdd, Int.reduceSub, Int.reduceMul, Int.reduceNeg, Nat.reduceMul, Nat.reduceLeDiff, Nat.reduceLT, hc']
      | simp (disch := omega) only [wi64, wu8, wu16, wu32, wu64, Int.tdiv_eq_ediv_of_nonneg, Int.tmod_eq_emod_of_nonneg]
      | with_reducible_and_instances exact finR
      | ((with_reducible refine finR' ?_ ?_) <;> rfl)
      | ((with_reducible refine finD hsc (NRel.of_plain ?_)); exact rfl)
end Go.Proofs.Ytoikchnpflnehaa
