/-
  The walk of FlowMarks.
-/
import Derived.Test.YtfcocdeocbiolaaF9
set_option linter.unusedVariables false
set_option linter.unusedSimpArgs false
set_option maxRecDepth 20000
namespace Go.Proofs.Ytfcocdeocbiolaa
open Go Go.Aw Go.Proofs
theorem withinD (n : Int) (H : AHeap) : ARet Try.prog 13 [.int .i64 n, .int .i64 0, .int .i64 65535] H (.bool (decide (onC n))) H := by
  have h := within n 0 65535 H
  have e : decide (0 ≤ n ∧ n ≤ 65535) = decide (onC n) := by simp only [decide_eq_decide]; unfold onC; omega
  rwa [e] at h
def beforeD (a b : Int) : Prop := 1 ≤ (b - a) % 65536 ∧ (b - a) % 65536 < 32768
instance (a b : Int) : Decidable (beforeD a b) := by unfold beforeD; infer_instance
def beforeB (a b : Int) : Bool := decide (onC a ∧ onC b) && decide (beforeD a b)
def beforeE (a b : Int) : Int := if onC a ∧ onC b then 0 else 7
theorem Before2 (a b : Int) (H : AHeap) : ARet Try.prog 12 [.int .i64 a, .int .i64 b] H (.tuple ⟨[.bool (beforeB a b), .int .i64 (beforeE a b)]⟩) H := by
  have h := Before a b H
  have e : beforeR a b = .tuple ⟨[.bool (beforeB a b), .int .i64 (beforeE a b)]⟩ := by
    unfold beforeR beforeB beforeE
    by_cases h : onC a ∧ onC b
    · rw [if_pos h, if_pos h, decide_eq_true h]; rfl
    · rw [if_neg h, if_neg h, decide_eq_false h]; rfl
  rwa [e] at h
def allM (ack : Int) (came : List Int) : Prop := (∀ n ∈ came, okM ack n) ∧ onC ack
theorem Marked1 (ack : Int) (came : List Int) (hcl : came.length < 1099511627776) (h : allM ack came) (v : Value) (H : AHeap) (hv : Rd H v (intsC came)) : ARet Try.prog 14 [.int .i64 ack, v] H (.tuple ⟨[.string (bs (markB (farL ack came))), .int .i64 0]⟩) H := by
  have h' := Marked ack came hcl v H hv
  unfold markedR at h'
  rwa [if_pos (show (∀ n ∈ came, okM ack n) ∧ 0 ≤ ack ∧ ack < 65536 from h)] at h'
theorem Marked0 (ack : Int) (came : List Int) (hcl : came.length < 1099511627776) (h : ¬ allM ack came) (v : Value) (H : AHeap) (hv : Rd H v (intsC came)) : ARet Try.prog 14 [.int .i64 ack, v] H (.tuple ⟨[.string (bs []), .int .i64 7]⟩) H := by
  have h' := Marked ack came hcl v H hv
  unfold markedR at h'
  rwa [if_neg (show ¬ ((∀ n ∈ came, okM ack n) ∧ 0 ≤ ack ∧ ack < 65536) from h)] at h'
set_option maxHeartbeats 4000000 in
theorem law_ (ack : Int) (came : List Int) (s : List UInt8) (a b : Int) (v : Value) (H : AHeap) (hv : Rd H v (intsC came)) : ARet Try.prog 3 [.int .i64 ack, v, .string (bs s), .int .i64 a, .int .i64 b] H (.bool true) H := by
  have q1 : ∀ H' K, lenW Try.prog 22 v H' K = K (.int .i64 (came.length : Nat)) H' := fun H' K => by rw [hv.lenW Try.underlying22, intsC_length]
  by_cases hL : came.length ≤ 60
  · have hcl : came.length < 1099511627776 := by omega
    by_cases hS : s.length ≤ 10
    · have hL' : ¬ (came.length : Int) > 60 := by omega
      have hS' : ¬ (s.length : Int) > 10 := by omega
      refine AC.enter Try.func3 rfl (by kernel_rfl) 231 rfl [.tmp 10] rfl (by simp) fun hsc B => ?_
      repeat first
        | with_reducible refine AWP.seqJ (x := .seq (.region 4 _ _) _) ⟨[(0, .int .i64 ack), (1, v), (2, .string (bs s))], [], H⟩ ?_ ?_
        | with_reducible refine AWP.seq ?_
        | ((with_reducible refine AWP.region ?_ ?_); exact rfl)
        | with_reducible refine AWP.block ?_
        | with_reducible refine AWP.skip ?_
        | with_reducible refine AWP.exit ?_
        | with_reducible refine AWP.ret ?_
        | with_reducible refine AWP.label ?_
        | with_reducible refine AWP.goto ?_
        | ((with_reducible refine AWP.condT ?_ ?_); focus (simp only [ev, lk_cons, ↓reduceIte, Nat.reduceEqDiff]; done))
        | ((with_reducible refine AWP.condF ?_ ?_); focus (simp only [ev, lk_cons, ↓reduceIte, Nat.reduceEqDiff]; done))
        | with_reducible refine (Before2 a b _).use ?_
        | with_reducible refine (withinD _ _).use ?_
        | simp only [go_sem, ↓reduceIte, Nat.reduceEqDiff, reduceCtorEq, Nat.reduceAdd, Int.reduceEq, Int.reduceBNe, Int.reduceBEq, Int.reduceToNat, Int.reduceLT, Int.reduceLE, Int.reduceGT, Int.reduceGE, Nat.reduceSub, Nat.reduceBEq, Nat.reduceBNe, Int.reduceAdd, Int.reduceSub, Int.reduceMul, Int.reduceNeg, Nat.reduceMul, Nat.reduceLeDiff, Nat.reduceLT, q1, hL', hS']
        | simp (disch := omega) only [wi64, wu8, wu16, wu32, wu64]
        | with_reducible_and_instances exact finR
        | ((with_reducible refine finR' ?_ ?_) <;> rfl)
        | ((with_reducible refine finD hsc (NRel.of_plain ?_)); exact rfl)
      · by_cases ha : onC a
        · by_cases hb : onC b
          · have hE : beforeE a b = 0 := if_pos ⟨ha, hb⟩
            have hB : beforeB a b = decide (beforeD a b) := by unfold beforeB; rw [decide_eq_true ⟨ha, hb⟩]; rfl
            have hw : (IntKind.i64.wrap (IntKind.i64.wrap (b - a) + 65536)).tmod 65536 = (b - a) % 65536 := by
              unfold onC at ha hb
              have e1 : IntKind.i64.wrap (b - a) = b - a := IntWalk.i64_in _ (by omega)
              rw [e1, IntWalk.i64_in _ (by omega), Int.tmod_eq_emod_of_nonneg (by omega)]; omega
            by_cases h1 : (b - a) % 65536 ≥ 1
            · by_cases h2 : (b - a) % 65536 ≤ 32767
              · have hD : beforeD a b := ⟨h1, by omega⟩
                repeat first
                  | with_reducible refine AWP.seq ?_
                  | ((with_reducible refine AWP.region ?_ ?_); exact rfl)
                  | with_reducible refine AWP.block ?_
                  | with_reducible refine AWP.skip ?_
                  | with_reducible refine AWP.exit ?_
                  | with_reducible refine AWP.ret ?_
                  | with_reducible refine AWP.label ?_
                  | with_reducible refine AWP.goto ?_
                  | ((with_reducible refine AWP.condT ?_ ?_); focus (simp only [ev, lk_cons, ↓reduceIte, Nat.reduceEqDiff]; done))
                  | ((with_reducible refine AWP.condF ?_ ?_); focus (simp only [ev, lk_cons, ↓reduceIte, Nat.reduceEqDiff]; done))
                  | with_reducible refine (withinD _ _).use ?_
                  | simp only [go_sem, ↓reduceIte, Nat.reduceEqDiff, reduceCtorEq, Nat.reduceAdd, Int.reduceEq, Int.reduceBNe, Int.reduceBEq, Int.reduceToNat, Int.reduceLT, Int.reduceLE, Int.reduceGT, Int.reduceGE, Nat.reduceSub, Nat.reduceBEq, Nat.reduceBNe, Int.reduceAdd, Int.reduceSub, Int.reduceMul, Int.reduceNeg, Nat.reduceMul, Nat.reduceLeDiff, Nat.reduceLT, ha, hb, hE, hB, hw, h1, h2, hD]
                  | simp (disch := omega) only [wi64, wu8, wu16, wu32, wu64]
                  | with_reducible_and_instances exact finR
                  | ((with_reducible refine finR' ?_ ?_) <;> rfl)
                  | ((with_reducible refine finD hsc (NRel.of_plain ?_)); exact rfl)
                exact Weak.env (by simp [envIn, lk_cons, wth_some])
              · have hD : ¬ beforeD a b := fun h => by unfold beforeD at h; omega
                repeat first
                  | with_reducible refine AWP.seq ?_
                  | ((with_reducible refine AWP.region ?_ ?_); exact rfl)
                  | with_reducible refine AWP.block ?_
                  | with_reducible refine AWP.skip ?_
                  | with_reducible refine AWP.exit ?_
                  | with_reducible refine AWP.ret ?_
                  | with_reducible refine AWP.label ?_
                  | with_reducible refine AWP.goto ?_
                  | ((with_reducible refine AWP.condT ?_ ?_); focus (simp only [ev, lk_cons, ↓reduceIte, Nat.reduceEqDiff]; done))
                  | ((with_reducible refine AWP.condF ?_ ?_); focus (simp only [ev, lk_cons, ↓reduceIte, Nat.reduceEqDiff]; done))
                  | with_reducible refine (withinD _ _).use ?_
                  | simp only [go_sem, ↓reduceIte, Nat.reduceEqDiff, reduceCtorEq, Nat.reduceAdd, Int.reduceEq, Int.reduceBNe, Int.reduceBEq, Int.reduceToNat, Int.reduceLT, Int.reduceLE, Int.reduceGT, Int.reduceGE, Nat.reduceSub, Nat.reduceBEq, Nat.reduceBNe, Int.reduceAdd, Int.reduceSub, Int.reduceMul, Int.reduceNeg, Nat.reduceMul, Nat.reduceLeDiff, Nat.reduceLT, ha, hb, hE, hB, hw, h1, h2, hD]
                  | simp (disch := omega) only [wi64, wu8, wu16, wu32, wu64]
                  | with_reducible_and_instances exact finR
                  | ((with_reducible refine finR' ?_ ?_) <;> rfl)
                  | ((with_reducible refine finD hsc (NRel.of_plain ?_)); exact rfl)
                exact Weak.env (by simp [envIn, lk_cons, wth_some])
            · have hD : ¬ beforeD a b := fun h => h1 h.1
              repeat first
                | with_reducible refine AWP.seq ?_
                | ((with_reducible refine AWP.region ?_ ?_); exact rfl)
                | with_reducible refine AWP.block ?_
                | with_reducible refine AWP.skip ?_
                | with_reducible refine AWP.exit ?_
                | with_reducible refine AWP.ret ?_
                | with_reducible refine AWP.label ?_
                | with_reducible refine AWP.goto ?_
                | ((with_reducible refine AWP.condT ?_ ?_); focus (simp only [ev, lk_cons, ↓reduceIte, Nat.reduceEqDiff]; done))
                | ((with_reducible refine AWP.condF ?_ ?_); focus (simp only [ev, lk_cons, ↓reduceIte, Nat.reduceEqDiff]; done))
                | with_reducible refine (withinD _ _).use ?_
                | simp only [go_sem, ↓reduceIte, Nat.reduceEqDiff, reduceCtorEq, Nat.reduceAdd, Int.reduceEq, Int.reduceBNe, Int.reduceBEq, Int.reduceToNat, Int.reduceLT, Int.reduceLE, Int.reduceGT, Int.reduceGE, Nat.reduceSub, Nat.reduceBEq, Nat.reduceBNe, Int.reduceAdd, Int.reduceSub, Int.reduceMul, Int.reduceNeg, Nat.reduceMul, Nat.reduceLeDiff, Nat.reduceLT, ha, hb, hE, hB, hw, h1, hD]
                | simp (disch := omega) only [wi64, wu8, wu16, wu32, wu64]
                | with_reducible_and_instances exact finR
                | ((with_reducible refine finR' ?_ ?_) <;> rfl)
                | ((with_reducible refine finD hsc (NRel.of_plain ?_)); exact rfl)
              exact Weak.env (by simp [envIn, lk_cons, wth_some])
          · have hE : beforeE a b = 7 := if_neg (fun h => hb h.2)
            repeat first
              | with_reducible refine AWP.seq ?_
              | ((with_reducible refine AWP.region ?_ ?_); exact rfl)
              | with_reducible refine AWP.block ?_
              | with_reducible refine AWP.skip ?_
              | with_reducible refine AWP.exit ?_
              | with_reducible refine AWP.ret ?_
              | with_reducible refine AWP.label ?_
              | with_reducible refine AWP.goto ?_
              | ((with_reducible refine AWP.condT ?_ ?_); focus (simp only [ev, lk_cons, ↓reduceIte, Nat.reduceEqDiff]; done))
              | ((with_reducible refine AWP.condF ?_ ?_); focus (simp only [ev, lk_cons, ↓reduceIte, Nat.reduceEqDiff]; done))
              | with_reducible refine (withinD _ _).use ?_
              | simp only [go_sem, ↓reduceIte, Nat.reduceEqDiff, reduceCtorEq, Nat.reduceAdd, Int.reduceEq, Int.reduceBNe, Int.reduceBEq, Int.reduceToNat, Int.reduceLT, Int.reduceLE, Int.reduceGT, Int.reduceGE, Nat.reduceSub, Nat.reduceBEq, Nat.reduceBNe, Int.reduceAdd, Int.reduceSub, Int.reduceMul, Int.reduceNeg, Nat.reduceMul, Nat.reduceLeDiff, Nat.reduceLT, ha, hb, hE]
              | simp (disch := omega) only [wi64, wu8, wu16, wu32, wu64]
              | with_reducible_and_instances exact finR
              | ((with_reducible refine finR' ?_ ?_) <;> rfl)
              | ((with_reducible refine finD hsc (NRel.of_plain ?_)); exact rfl)
            exact Weak.env (by simp [envIn, lk_cons, wth_some])
        · have hE : beforeE a b = 7 := if_neg (fun h => ha h.1)
          repeat first
            | with_reducible refine AWP.seq ?_
            | ((with_reducible refine AWP.region ?_ ?_); exact rfl)
            | with_reducible refine AWP.block ?_
            | with_reducible refine AWP.skip ?_
            | with_reducible refine AWP.exit ?_
            | with_reducible refine AWP.ret ?_
            | with_reducible refine AWP.label ?_
            | with_reducible refine AWP.goto ?_
            | ((with_reducible refine AWP.condT ?_ ?_); focus (simp only [ev, lk_cons, ↓reduceIte, Nat.reduceEqDiff]; done))
            | ((with_reducible refine AWP.condF ?_ ?_); focus (simp only [ev, lk_cons, ↓reduceIte, Nat.reduceEqDiff]; done))
            | with_reducible refine (withinD _ _).use ?_
            | simp only [go_sem, ↓reduceIte, Nat.reduceEqDiff, reduceCtorEq, Nat.reduceAdd, Int.reduceEq, Int.reduceBNe, Int.reduceBEq, Int.reduceToNat, Int.reduceLT, Int.reduceLE, Int.reduceGT, Int.reduceGE, Nat.reduceSub, Nat.reduceBEq, Nat.reduceBNe, Int.reduceAdd, Int.reduceSub, Int.reduceMul, Int.reduceNeg, Nat.reduceMul, Nat.reduceLeDiff, Nat.reduceLT, ha, hE]
            | simp (disch := omega) only [wi64, wu8, wu16, wu32, wu64]
            | with_reducible_and_instances exact finR
            | ((with_reducible refine finR' ?_ ?_) <;> rfl)
            | ((with_reducible refine finD hsc (NRel.of_plain ?_)); exact rfl)
          exact Weak.env (by simp [envIn, lk_cons, wth_some])
      · by_cases hk : onC ack
        · repeat first
            | with_reducible refine AWP.seq ?_
            | ((with_reducible refine AWP.region ?_ ?_); exact rfl)
            | with_reducible refine AWP.block ?_
            | with_reducible refine AWP.skip ?_
            | with_reducible refine AWP.exit ?_
            | with_reducible refine AWP.ret ?_
            | with_reducible refine AWP.label ?_
            | with_reducible refine AWP.goto ?_
            | ((with_reducible refine AWP.condT ?_ ?_); focus (simp only [ev, lk_cons, ↓reduceIte, Nat.reduceEqDiff]; done))
            | ((with_reducible refine AWP.condF ?_ ?_); focus (simp only [ev, lk_cons, ↓reduceIte, Nat.reduceEqDiff]; done))
            | with_reducible refine (withinD _ _).use ?_
            | simp only [go_sem, ↓reduceIte, Nat.reduceEqDiff, reduceCtorEq, Nat.reduceAdd, Int.reduceEq, Int.reduceBNe, Int.reduceBEq, Int.reduceToNat, Int.reduceLT, Int.reduceLE, Int.reduceGT, Int.reduceGE, Nat.reduceSub, Nat.reduceBEq, Nat.reduceBNe, Int.reduceAdd, Int.reduceSub, Int.reduceMul, Int.reduceNeg, Nat.reduceMul, Nat.reduceLeDiff, Nat.reduceLT, hk, makeSliceW, q1]
            | simp (disch := omega) only [wi64, wu8, wu16, wu32, wu64]
            | with_reducible_and_instances exact finR
            | ((with_reducible refine finR' ?_ ?_) <;> rfl)
            | ((with_reducible refine finD hsc (NRel.of_plain ?_)); exact rfl)
          have hfl : (farL ack came).length = came.length := by simp [farL]
          have hF : ∀ n (h : n < came.length), (farL ack came)[n]'(by omega) = ((came[n] - ack) % 65536 - 2).toNat := fun n h => by simp [farL]
          refine AWP.loopP (fun n : Nat => ⟨[(0, .int .i64 ack), (1, v), (2, .string (bs s)), (16, .slice (some ⟨H.length, 0, none⟩) 34 34), (17, .int .i64 (maxF ((farL ack came).take n) : Nat)), (85, v), (86, .int .i64 (came.length : Nat)), (87, .int .i64 (n : Nat))], [], H ++ [.cells (boolsC (bitsF ((farL ack came).take n))) ⟨4, 0, true, 0, none⟩]⟩) (fun n => n ≤ came.length ∧ ∀ x ∈ came.take n, okM ack x) (fun n => came.length - n) 0 ?_ ⟨Nat.zero_le _, by simp⟩ ?_
          · simp only [repZ_one, List.take_zero, bitsF_nil, maxF_nil]
            exact Weak.env (by simp [envIn, lk_cons, wth_some])
          rintro n ⟨hn, hok⟩
          by_cases hc : n < came.length
          · have hc' : (n : Int) < (came.length : Int) := by omega
            have hv0 := hv
            rcases hv with ⟨rfl, e1⟩ | ⟨i, o, cap, cs, k, rfl, hi, hg⟩
            · have : came.length = 0 := by rw [← intsC_length came, e1]; rfl
              omega
            have hil := lt_of_get hi
            have g1 : cs[o + n]? = some (.int .i64 came[n]) := by
              rw [hg n (by rw [intsC_length]; exact hc), intsC_get _ hc]
            by_cases hr : onC came[n]
            · have hw : (IntKind.i64.wrap (IntKind.i64.wrap (came[n] - ack) + 65536)).tmod 65536 = (came[n] - ack) % 65536 := by
                unfold onC at hr hk
                have e1 : IntKind.i64.wrap (came[n] - ack) = came[n] - ack := IntWalk.i64_in _ (by omega)
                rw [e1, IntWalk.i64_in _ (by omega), Int.tmod_eq_emod_of_nonneg (by omega)]; omega
              by_cases hx : okM ack came[n]
              · obtain ⟨_, h2, h3⟩ := id hx
                have h2' : ¬ (came[n] - ack) % 65536 < 2 := by omega
                have h3' : ¬ (came[n] - ack) % 65536 > 33 := by omega
                have hFn := hF n hc
                have hd : (came[n] - ack) % 65536 = (((farL ack came)[n]'(by omega) + 2 : Nat) : Int) := by rw [hFn]; omega
                rw [hd] at hw h2' h3'
                have hd1 : (0 : Int) ≤ (((farL ack came)[n]'(by omega) + 2 : Nat) : Int) := Int.natCast_nonneg _
                have hd2 : (((farL ack came)[n]'(by omega) + 2 : Nat) : Int) < 34 := by omega
                have hset := bitsF_set (farL ack came) n (by omega) (by omega)
                have hmx : max ((maxF ((farL ack came).take n) : Nat) : Int) (((farL ack came)[n]'(by omega) + 2 : Nat) : Int) = ((maxF ((farL ack came).take (n + 1)) : Nat) : Int) := by
                  rw [maxF_take _ _ (by omega)]; omega
                generalize (farL ack came)[n]'(by omega) = d at hw h2' h3' hd1 hd2 hset hmx
                have hbl : d + 3 ≤ (boolsC (bitsF ((farL ack came).take n))).length := by rw [boolsC_length, bitsF_len]; omega
                repeat first
                  | with_reducible refine AWP.seq ?_
                  | ((with_reducible refine AWP.region ?_ ?_); exact rfl)
                  | with_reducible refine AWP.block ?_
                  | with_reducible refine AWP.skip ?_
                  | with_reducible refine AWP.exit ?_
                  | with_reducible refine AWP.ret ?_
                  | with_reducible refine AWP.label ?_
                  | with_reducible refine AWP.goto ?_
                  | ((with_reducible refine AWP.condT ?_ ?_); focus (simp only [ev, lk_cons, ↓reduceIte, Nat.reduceEqDiff]; done))
                  | ((with_reducible refine AWP.condF ?_ ?_); focus (simp only [ev, lk_cons, ↓reduceIte, Nat.reduceEqDiff]; done))
                  | with_reducible refine (withinD _ _).use ?_
                  | simp only [go_sem, ↓reduceIte, Nat.reduceEqDiff, reduceCtorEq, Nat.reduceAdd, Int.reduceEq, Int.reduceBNe, Int.reduceBEq, Int.reduceToNat, Int.reduceLT, Int.reduceLE, Int.reduceGT, Int.reduceGE, Nat.reduceSub, Nat.reduceBEq, Nat.reduceBNe, Int.reduceAdd, Int.reduceSub, Int.reduceMul, Int.reduceNeg, Nat.reduceMul, Nat.reduceLeDiff, Nat.reduceLT, hc', hi, hil, hgetl, g1, intsC_length, hr, hw, h2', h3', hd1, hd2, hbl, hset, minMaxW, hmx]
                  | simp (disch := omega) only [wi64, wu8, wu16, wu32, wu64]
                  | with_reducible_and_instances exact finR
                  | ((with_reducible refine finR' ?_ ?_) <;> rfl)
                  | ((with_reducible refine finD hsc (NRel.of_plain ?_)); exact rfl)
                refine ⟨n + 1, Weak.env (by simp [envIn, lk_cons, wth_some, intsC_length]), by omega, fun x hx' => ?_, by omega⟩
                rw [List.take_add_one, List.getElem?_eq_getElem hc] at hx'
                rcases List.mem_append.1 hx' with hx' | hx'
                · exact hok x hx'
                · have : x = came[n] := by simpa using hx'
                  rw [this]; exact hx
              · have hM := fun H hv => Marked0 ack came hcl (fun h => hx (h.1 _ (List.getElem_mem _))) (.slice (some ⟨i, o, none⟩) (intsC came).length cap) H hv
                have hM := hM _ (hv0.more [.cells (boolsC (bitsF ((farL ack came).take n))) ⟨4, 0, true, 0, none⟩])
                rw [intsC_length] at hM
                by_cases h2 : (came[n] - ack) % 65536 < 2
                · repeat first
                    | with_reducible refine AWP.seq ?_
                    | ((with_reducible refine AWP.region ?_ ?_); exact rfl)
                    | with_reducible refine AWP.block ?_
                    | with_reducible refine AWP.skip ?_
                    | with_reducible refine AWP.exit ?_
                    | with_reducible refine AWP.ret ?_
                    | with_reducible refine AWP.label ?_
                    | with_reducible refine AWP.goto ?_
                    | ((with_reducible refine AWP.condT ?_ ?_); focus (simp only [ev, lk_cons, ↓reduceIte, Nat.reduceEqDiff]; done))
                    | ((with_reducible refine AWP.condF ?_ ?_); focus (simp only [ev, lk_cons, ↓reduceIte, Nat.reduceEqDiff]; done))
                    | with_reducible refine (withinD _ _).use ?_
                    | with_reducible refine hM.use ?_
                    | with_reducible refine (awake _).use ?_
                    | simp only [go_sem, ↓reduceIte, Nat.reduceEqDiff, reduceCtorEq, Nat.reduceAdd, Int.reduceEq, Int.reduceBNe, Int.reduceBEq, Int.reduceToNat, Int.reduceLT, Int.reduceLE, Int.reduceGT, Int.reduceGE, Nat.reduceSub, Nat.reduceBEq, Nat.reduceBNe, Int.reduceAdd, Int.reduceSub, Int.reduceMul, Int.reduceNeg, Nat.reduceMul, Nat.reduceLeDiff, Nat.reduceLT, hc', hi, hil, hgetl, g1, intsC_length, hr, hw, h2]
                    | simp (disch := omega) only [wi64, wu8, wu16, wu32, wu64]
                    | with_reducible_and_instances exact finR
                    | ((with_reducible refine finR' ?_ ?_) <;> rfl)
                    | ((with_reducible refine finD hsc (NRel.of_plain ?_)); exact rfl)
                · have h3 : (came[n] - ack) % 65536 > 33 := by
                    unfold okM at hx; unfold onC at hr
                    omega
                  repeat first
                    | with_reducible refine AWP.seq ?_
                    | ((with_reducible refine AWP.region ?_ ?_); exact rfl)
                    | with_reducible refine AWP.block ?_
                    | with_reducible refine AWP.skip ?_
                    | with_reducible refine AWP.exit ?_
                    | with_reducible refine AWP.ret ?_
                    | with_reducible refine AWP.label ?_
                    | with_reducible refine AWP.goto ?_
                    | ((with_reducible refine AWP.condT ?_ ?_); focus (simp only [ev, lk_cons, ↓reduceIte, Nat.reduceEqDiff]; done))
                    | ((with_reducible refine AWP.condF ?_ ?_); focus (simp only [ev, lk_cons, ↓reduceIte, Nat.reduceEqDiff]; done))
                    | with_reducible refine (withinD _ _).use ?_
                    | with_reducible refine hM.use ?_
                    | with_reducible refine (awake _).use ?_
                    | simp only [go_sem, ↓reduceIte, Nat.reduceEqDiff, reduceCtorEq, Nat.reduceAdd, Int.reduceEq, Int.reduceBNe, Int.reduceBEq, Int.reduceToNat, Int.reduceLT, Int.reduceLE, Int.reduceGT, Int.reduceGE, Nat.reduceSub, Nat.reduceBEq, Nat.reduceBNe, Int.reduceAdd, Int.reduceSub, Int.reduceMul, Int.reduceNeg, Nat.reduceMul, Nat.reduceLeDiff, Nat.reduceLT, hc', hi, hil, hgetl, g1, intsC_length, hr, hw, h2, h3]
                    | simp (disch := omega) only [wi64, wu8, wu16, wu32, wu64]
                    | with_reducible_and_instances exact finR
                    | ((with_reducible refine finR' ?_ ?_) <;> rfl)
                    | ((with_reducible refine finD hsc (NRel.of_plain ?_)); exact rfl)
            · have hM := fun H hv => Marked0 ack came hcl (fun h => hr (h.1 _ (List.getElem_mem _)).1) (.slice (some ⟨i, o, none⟩) (intsC came).length cap) H hv
              have hM := hM _ (hv0.more [.cells (boolsC (bitsF ((farL ack came).take n))) ⟨4, 0, true, 0, none⟩])
              rw [intsC_length] at hM
              repeat first
                | with_reducible refine AWP.seq ?_
                | ((with_reducible refine AWP.region ?_ ?_); exact rfl)
                | with_reducible refine AWP.block ?_
                | with_reducible refine AWP.skip ?_
                | with_reducible refine AWP.exit ?_
                | with_reducible refine AWP.ret ?_
                | with_reducible refine AWP.label ?_
                | with_reducible refine AWP.goto ?_
                | ((with_reducible refine AWP.condT ?_ ?_); focus (simp only [ev, lk_cons, ↓reduceIte, Nat.reduceEqDiff]; done))
                | ((with_reducible refine AWP.condF ?_ ?_); focus (simp only [ev, lk_cons, ↓reduceIte, Nat.reduceEqDiff]; done))
                | with_reducible refine (withinD _ _).use ?_
                | with_reducible refine hM.use ?_
                | with_reducible refine (awake _).use ?_
                | simp only [go_sem, ↓reduceIte, Nat.reduceEqDiff, reduceCtorEq, Nat.reduceAdd, Int.reduceEq, Int.reduceBNe, Int.reduceBEq, Int.reduceToNat, Int.reduceLT, Int.reduceLE, Int.reduceGT, Int.reduceGE, Nat.reduceSub, Nat.reduceBEq, Nat.reduceBNe, Int.reduceAdd, Int.reduceSub, Int.reduceMul, Int.reduceNeg, Nat.reduceMul, Nat.reduceLeDiff, Nat.reduceLT, hc', hi, hil, hgetl, g1, intsC_length, hr]
                | simp (disch := omega) only [wi64, wu8, wu16, wu32, wu64]
                | with_reducible_and_instances exact finR
                | ((with_reducible refine finR' ?_ ?_) <;> rfl)
                | ((with_reducible refine finD hsc (NRel.of_plain ?_)); exact rfl)
          · have : n = came.length := by omega
            subst this
            have hc' : ¬ (came.length : Int) < (came.length : Int) := by omega
            rw [List.take_of_length_le (by omega : (farL ack came).length ≤ came.length)]
            rw [List.take_length] at hok
            have hall : allM ack came := ⟨hok, hk⟩
            have hM := Marked1 ack came hcl hall v _ (hv.more [.cells (boolsC (bitsF (farL ack came))) ⟨4, 0, true, 0, none⟩])
            have hF32 : ∀ i ∈ farL ack came, i < 32 := fun i hi => by
              simp only [farL, List.mem_map] at hi
              obtain ⟨x, hx, rfl⟩ := hi
              have := hok x hx
              unfold okM at this
              omega
            generalize farL ack came = F at hM hF32
            have hlong := markB_long F hF32
            have hm4 : (markB F).length ≤ 4 := by rw [markB_len]; exact trimN_le _ _
            repeat first
              | with_reducible refine AWP.seqJ (x := .seq (.region 26 _ _) _) ⟨[(0, .int .i64 ack), (2, .string (bs s)), (16, .slice (some ⟨H.length, 0, none⟩) 34 34), (23, .string (bs (markB F)))], [], H ++ [.cells (boolsC (bitsF F)) ⟨4, 0, true, 0, none⟩]⟩ ?_ ?_
              | with_reducible refine AWP.seq ?_
              | ((with_reducible refine AWP.region ?_ ?_); exact rfl)
              | with_reducible refine AWP.block ?_
              | with_reducible refine AWP.skip ?_
              | with_reducible refine AWP.exit ?_
              | with_reducible refine AWP.ret ?_
              | with_reducible refine AWP.label ?_
              | with_reducible refine AWP.goto ?_
              | ((with_reducible refine AWP.condT ?_ ?_); focus (simp only [ev, lk_cons, ↓reduceIte, Nat.reduceEqDiff]; done))
              | ((with_reducible refine AWP.condF ?_ ?_); focus (simp only [ev, lk_cons, ↓reduceIte, Nat.reduceEqDiff]; done))
              | with_reducible refine hM.use ?_
              | simp only [go_sem, ↓reduceIte, Nat.reduceEqDiff, reduceCtorEq, Nat.reduceAdd, Int.reduceEq, Int.reduceBNe, Int.reduceBEq, Int.reduceToNat, Int.reduceLT, Int.reduceLE, Int.reduceGT, Int.reduceGE, Nat.reduceSub, Nat.reduceBEq, Nat.reduceBNe, Int.reduceAdd, Int.reduceSub, Int.reduceMul, Int.reduceNeg, Nat.reduceMul, Nat.reduceLeDiff, Nat.reduceLT, hc']
              | simp (disch := omega) only [wi64, wu8, wu16, wu32, wu64]
              | with_reducible_and_instances exact finR
              | ((with_reducible refine finR' ?_ ?_) <;> rfl)
              | ((with_reducible refine finD hsc (NRel.of_plain ?_)); exact rfl)
            · rcases hlong with ⟨hm0, hmB⟩ | ⟨hm2, hml⟩
              · have e0 : (!(([] : List UInt8) == [])) = false := rfl
                rw [hm0, hmB]
                repeat first
                  | with_reducible refine AWP.seq ?_
                  | ((with_reducible refine AWP.region ?_ ?_); exact rfl)
                  | with_reducible refine AWP.block ?_
                  | with_reducible refine AWP.skip ?_
                  | with_reducible refine AWP.exit ?_
                  | with_reducible refine AWP.ret ?_
                  | with_reducible refine AWP.label ?_
                  | with_reducible refine AWP.goto ?_
                  | ((with_reducible refine AWP.condT ?_ ?_); focus (simp only [ev, lk_cons, ↓reduceIte, Nat.reduceEqDiff]; done))
                  | ((with_reducible refine AWP.condF ?_ ?_); focus (simp only [ev, lk_cons, ↓reduceIte, Nat.reduceEqDiff]; done))
                  | simp only [go_sem, ↓reduceIte, Nat.reduceEqDiff, reduceCtorEq, Nat.reduceAdd, Int.reduceEq, Int.reduceBNe, Int.reduceBEq, Int.reduceToNat, Int.reduceLT, Int.reduceLE, Int.reduceGT, Int.reduceGE, Nat.reduceSub, Nat.reduceBEq, Nat.reduceBNe, Int.reduceAdd, Int.reduceSub, Int.reduceMul, Int.reduceNeg, Nat.reduceMul, Nat.reduceLeDiff, Nat.reduceLT, e0]
                  | simp (disch := omega) only [wi64, wu8, wu16, wu32, wu64]
                  | with_reducible_and_instances exact finR
                  | ((with_reducible refine finR' ?_ ?_) <;> rfl)
                  | ((with_reducible refine finD hsc (NRel.of_plain ?_)); exact rfl)
                refine Weak.env ?_
                simp [envIn, lk_cons, wth_some]
              · generalize maxF F = M at hm2 hml
                have z1 : ((M : Int) == 0) = false := by simp; omega
                have z2 : (M : Int) > 0 := by omega
                have e1 : IntKind.i64.wrap ((M : Int) - 2) = ((M - 2 : Nat) : Int) := by rw [IntWalk.i64_in _ (by omega)]; omega
                have e4 : (((markB F).length : Int) != (((M - 2) / 8 : Nat) : Int) + 1) = false := by rw [hml]; simp
                repeat first
                  | with_reducible refine AWP.seq ?_
                  | ((with_reducible refine AWP.region ?_ ?_); exact rfl)
                  | with_reducible refine AWP.block ?_
                  | with_reducible refine AWP.skip ?_
                  | with_reducible refine AWP.exit ?_
                  | with_reducible refine AWP.ret ?_
                  | with_reducible refine AWP.label ?_
                  | with_reducible refine AWP.goto ?_
                  | ((with_reducible refine AWP.condT ?_ ?_); focus (simp only [ev, lk_cons, ↓reduceIte, Nat.reduceEqDiff]; done))
                  | ((with_reducible refine AWP.condF ?_ ?_); focus (simp only [ev, lk_cons, ↓reduceIte, Nat.reduceEqDiff]; done))
                  | simp only [go_sem, ↓reduceIte, Nat.reduceEqDiff, reduceCtorEq, Nat.reduceAdd, Int.reduceEq, Int.reduceBNe, Int.reduceBEq, Int.reduceToNat, Int.reduceLT, Int.reduceLE, Int.reduceGT, Int.reduceGE, Nat.reduceSub, Nat.reduceBEq, Nat.reduceBNe, Int.reduceAdd, Int.reduceSub, Int.reduceMul, Int.reduceNeg, Nat.reduceMul, Nat.reduceLeDiff, Nat.reduceLT, z1, z2, e1, e4, tdiv8]
                  | simp (disch := omega) only [wi64, wu8, wu16, wu32, wu64]
                  | with_reducible_and_instances exact finR
                  | ((with_reducible refine finR' ?_ ?_) <;> rfl)
                  | ((with_reducible refine finD hsc (NRel.of_plain ?_)); exact rfl)
                exact Weak.env (by simp [envIn, lk_cons, wth_some])
            · have hnO := namedOf_markB ack F hF32
              unfold onC at hk
              have hN1 := fun H => Named ack (markB F) hk.1 hk.2 hm4 H
              rw [hnO] at hN1
              generalize hp : (fun i => decide (i ∈ F)) = p at hN1
              have hpF : ∀ i, decide (i ∈ F) = p i := fun i => by rw [← hp]
              clear hM hall hF hok hn hc hc' hnO hlong hv q1 hfl hp
              generalize markB F = mB at hm4 hN1
              repeat first
                | with_reducible refine AWP.seq ?_
                | ((with_reducible refine AWP.region ?_ ?_); exact rfl)
                | with_reducible refine AWP.block ?_
                | with_reducible refine AWP.skip ?_
                | with_reducible refine AWP.exit ?_
                | with_reducible refine AWP.ret ?_
                | with_reducible refine AWP.label ?_
                | with_reducible refine AWP.goto ?_
                | ((with_reducible refine AWP.condT ?_ ?_); focus (simp only [ev, lk_cons, ↓reduceIte, Nat.reduceEqDiff]; done))
                | ((with_reducible refine AWP.condF ?_ ?_); focus (simp only [ev, lk_cons, ↓reduceIte, Nat.reduceEqDiff]; done))
                | simp only [go_sem, ↓reduceIte, Nat.reduceEqDiff, reduceCtorEq, Nat.reduceAdd, Int.reduceEq, Int.reduceBNe, Int.reduceBEq, Int.reduceToNat, Int.reduceLT, Int.reduceLE, Int.reduceGT, Int.reduceGE, Nat.reduceSub, Nat.reduceBEq, Nat.reduceBNe, Int.reduceAdd, Int.reduceSub, Int.reduceMul, Int.reduceNeg, Nat.reduceMul, Nat.reduceLeDiff, Nat.reduceLT]
                | simp (disch := omega) only [wi64, wu8, wu16, wu32, wu64]
                | with_reducible_and_instances exact finR
                | ((with_reducible refine finR' ?_ ?_) <;> rfl)
                | ((with_reducible refine finD hsc (NRel.of_plain ?_)); exact rfl)
              refine AWP.loopP (fun k : Nat => ⟨[(0, .int .i64 ack), (2, .string (bs s)), (16, .slice (some ⟨H.length, 0, none⟩) 34 34), (23, .string (bs mB)), (24, gS (H.length + 1) (wantL ack p k).length), (25, .int .i64 ((k + 2 : Nat) : Int))], [], H ++ [.cells (boolsC (bitsF F)) ⟨4, 0, true, 0, none⟩, gO (intsC (wantL ack p k)) ⟨3, 1, true, 0, none⟩]⟩) (fun k => k ≤ 32) (fun k => 32 - k) 0 ?_ (Nat.zero_le _) ?_
              · have e := List.append_assoc H [.cells (boolsC (bitsF F)) ⟨4, 0, true, 0, none⟩] [AObj.dead]
                rw [List.singleton_append] at e
                have e2 : gO (intsC (wantL ack p 0)) ⟨3, 1, true, 0, none⟩ = .dead := rfl
                rw [e2, ← e]
                exact Weak.pad1 (by simp [envIn, lk_cons, wth_some, gS_zero, wantL])
              intro k hk32
              by_cases hc : k < 32
              · have hc' : ((k + 2 : Nat) : Int) < 34 := by omega
                have hg := bitsF_get F k hc
                rw [hpF] at hg
                have hws := wantL_succ ack p k
                have hwl := wantL_len ack p k
                cases hb : p k with
                | true =>
                  rw [hb] at hg
                  rw [hb, if_pos rfl] at hws
                  have hw1 : IntKind.i64.wrap (ack + ((k + 2 : Nat) : Int)) = ack + ((k : Int) + 2) := by rw [IntWalk.i64_in _ (by omega)]; omega
                  have hw2 : (ack + ((k : Int) + 2)).tmod 65536 = (ack + ((k : Int) + 2)) % 65536 := Int.tmod_eq_emod_of_nonneg (by omega)
                  repeat first
                    | with_reducible refine AWP.seq ?_
                    | ((with_reducible refine AWP.region ?_ ?_); exact rfl)
                    | with_reducible refine AWP.block ?_
                    | with_reducible refine AWP.skip ?_
                    | with_reducible refine AWP.exit ?_
                    | with_reducible refine AWP.ret ?_
                    | with_reducible refine AWP.label ?_
                    | with_reducible refine AWP.goto ?_
                    | ((with_reducible refine AWP.condT ?_ ?_); focus (simp only [ev, lk_cons, ↓reduceIte, Nat.reduceEqDiff]; done))
                    | ((with_reducible refine AWP.condF ?_ ?_); focus (simp only [ev, lk_cons, ↓reduceIte, Nat.reduceEqDiff]; done))
                    | simp only [go_sem, ↓reduceIte, Nat.reduceEqDiff, reduceCtorEq, Nat.reduceAdd, Int.reduceEq, Int.reduceBNe, Int.reduceBEq, Int.reduceToNat, Int.reduceLT, Int.reduceLE, Int.reduceGT, Int.reduceGE, Nat.reduceSub, Nat.reduceBEq, Nat.reduceBNe, Int.reduceAdd, Int.reduceSub, Int.reduceMul, Int.reduceNeg, Nat.reduceMul, Nat.reduceLeDiff, Nat.reduceLT, hc', hg, hw1, hw2]
                    | simp (disch := omega) only [wi64, wu8, wu16, wu32, wu64]
                    | with_reducible_and_instances exact finR
                    | ((with_reducible refine finR' ?_ ?_) <;> rfl)
                    | ((with_reducible refine finD hsc (NRel.of_plain ?_)); exact rfl)
                  refine appendTo_gn (l := intsC (wantL ack p k)) (by simp only [go_sem, ↓reduceIte, Nat.reduceEqDiff, reduceCtorEq, Nat.reduceAdd, Int.reduceEq, Int.reduceBNe, Int.reduceBEq, Int.reduceToNat, Int.reduceLT, Int.reduceLE, Int.reduceGT, Int.reduceGE, Nat.reduceSub, Nat.reduceBEq, Nat.reduceBNe, Int.reduceAdd, Int.reduceSub, Int.reduceMul, Int.reduceNeg, Nat.reduceMul, Nat.reduceLeDiff, Nat.reduceLT]) (intsC_length _) (by omega) (by omega) ?_
                  rw [intsC_snoc, ← hws]
                  repeat first
                    | with_reducible refine AWP.seq ?_
                    | ((with_reducible refine AWP.region ?_ ?_); exact rfl)
                    | with_reducible refine AWP.block ?_
                    | with_reducible refine AWP.skip ?_
                    | with_reducible refine AWP.exit ?_
                    | with_reducible refine AWP.ret ?_
                    | with_reducible refine AWP.label ?_
                    | with_reducible refine AWP.goto ?_
                    | ((with_reducible refine AWP.condT ?_ ?_); focus (simp only [ev, lk_cons, ↓reduceIte, Nat.reduceEqDiff]; done))
                    | ((with_reducible refine AWP.condF ?_ ?_); focus (simp only [ev, lk_cons, ↓reduceIte, Nat.reduceEqDiff]; done))
                    | simp only [go_sem, ↓reduceIte, Nat.reduceEqDiff, reduceCtorEq, Nat.reduceAdd, Int.reduceEq, Int.reduceBNe, Int.reduceBEq, Int.reduceToNat, Int.reduceLT, Int.reduceLE, Int.reduceGT, Int.reduceGE, Nat.reduceSub, Nat.reduceBEq, Nat.reduceBNe, Int.reduceAdd, Int.reduceSub, Int.reduceMul, Int.reduceNeg, Nat.reduceMul, Nat.reduceLeDiff, Nat.reduceLT]
                    | simp (disch := omega) only [wi64, wu8, wu16, wu32, wu64]
                    | with_reducible_and_instances exact finR
                    | ((with_reducible refine finR' ?_ ?_) <;> rfl)
                    | ((with_reducible refine finD hsc (NRel.of_plain ?_)); exact rfl)
                  refine ⟨k + 1, ?_, by omega, by omega⟩
                  have hne : intsC (wantL ack p (k + 1)) ≠ [] := by rw [hws]; simp [intsC]
                  have hll : (wantL ack p (k + 1)).length = (wantL ack p k).length + 1 := by rw [hws]; simp
                  have hcast : ((k + 1 + 2 : Nat) : Int) = ((k + 2 : Nat) : Int) + 1 := by omega
                  rw [gO_ne hne, hll, gS_succ, hcast]
                  refine Weak.pick [0, 3] rfl hsc (by simp) ⟨?_, ?_⟩
                  · have hbs : (boolsC (bitsF F)).all scalar = true := by simp [boolsC, scalar]
                    simp [selW_cons, selW_nil, wth_some, onm_cells, nrs_refl (intsC_scalar _), nrs_refl hbs]
                  · simp [envIn, lk_cons, wth_some, nr_int, nr_string, selN_0, selN_k, nr_slice]
                | false =>
                  rw [hb] at hg
                  rw [hb, if_neg (by simp), List.append_nil] at hws
                  repeat first
                    | with_reducible refine AWP.seq ?_
                    | ((with_reducible refine AWP.region ?_ ?_); exact rfl)
                    | with_reducible refine AWP.block ?_
                    | with_reducible refine AWP.skip ?_
                    | with_reducible refine AWP.exit ?_
                    | with_reducible refine AWP.ret ?_
                    | with_reducible refine AWP.label ?_
                    | with_reducible refine AWP.goto ?_
                    | ((with_reducible refine AWP.condT ?_ ?_); focus (simp only [ev, lk_cons, ↓reduceIte, Nat.reduceEqDiff]; done))
                    | ((with_reducible refine AWP.condF ?_ ?_); focus (simp only [ev, lk_cons, ↓reduceIte, Nat.reduceEqDiff]; done))
                    | simp only [go_sem, ↓reduceIte, Nat.reduceEqDiff, reduceCtorEq, Nat.reduceAdd, Int.reduceEq, Int.reduceBNe, Int.reduceBEq, Int.reduceToNat, Int.reduceLT, Int.reduceLE, Int.reduceGT, Int.reduceGE, Nat.reduceSub, Nat.reduceBEq, Nat.reduceBNe, Int.reduceAdd, Int.reduceSub, Int.reduceMul, Int.reduceNeg, Nat.reduceMul, Nat.reduceLeDiff, Nat.reduceLT, hc', hg]
                    | simp (disch := omega) only [wi64, wu8, wu16, wu32, wu64]
                    | with_reducible_and_instances exact finR
                    | ((with_reducible refine finR' ?_ ?_) <;> rfl)
                    | ((with_reducible refine finD hsc (NRel.of_plain ?_)); exact rfl)
                  refine ⟨k + 1, ?_, by omega, by omega⟩
                  rw [hws]
                  exact Weak.env (by simp [envIn, lk_cons, wth_some]; omega)
              · have : k = 32 := by omega
                subst this
                have hS1 := fun H v2 v3 h1 h2 => SameInts v2 v3 (wantL ack p 32) (wantL ack p 32) H h1 h2 (by have := wantL_len ack p 32; omega)
                simp only [decide_true] at hS1
                have hS1 := hS1 (H ++ [.cells (boolsC (bitsF F)) ⟨4, 0, true, 0, none⟩, gO (intsC (wantL ack p 32)) ⟨3, 1, true, 0, none⟩, gO (intsC (wantL ack p 32)) ⟨3, 1, true, 0, none⟩]) (gS (H.length + 2) (wantL ack p 32).length) (gS (H.length + 1) (wantL ack p 32).length)
                  (Rd.g (k := ⟨3, 1, true, 0, none⟩) (by simp only [go_sem, ↓reduceIte, Nat.reduceEqDiff, reduceCtorEq, Nat.reduceAdd, Int.reduceEq, Int.reduceBNe, Int.reduceBEq, Int.reduceToNat, Int.reduceLT, Int.reduceLE, Int.reduceGT, Int.reduceGE, Nat.reduceSub, Nat.reduceBEq, Nat.reduceBNe, Int.reduceAdd, Int.reduceSub, Int.reduceMul, Int.reduceNeg, Nat.reduceMul, Nat.reduceLeDiff, Nat.reduceLT]) (intsC_length _).symm) (Rd.g (k := ⟨3, 1, true, 0, none⟩) (by simp only [go_sem, ↓reduceIte, Nat.reduceEqDiff, reduceCtorEq, Nat.reduceAdd, Int.reduceEq, Int.reduceBNe, Int.reduceBEq, Int.reduceToNat, Int.reduceLT, Int.reduceLE, Int.reduceGT, Int.reduceGE, Nat.reduceSub, Nat.reduceBEq, Nat.reduceBNe, Int.reduceAdd, Int.reduceSub, Int.reduceMul, Int.reduceNeg, Nat.reduceMul, Nat.reduceLeDiff, Nat.reduceLT]) (intsC_length _).symm)
                by_cases h4 : s.length ≤ 4
                · have h4' : ¬ (s.length : Int) > 4 := by omega
                  have hN2 := fun H => Named ack s hk.1 hk.2 h4 H
                  rw [namedOf_eq] at hN2
                  repeat first
                    | with_reducible refine AWP.seq ?_
                    | ((with_reducible refine AWP.region ?_ ?_); exact rfl)
                    | with_reducible refine AWP.block ?_
                    | with_reducible refine AWP.skip ?_
                    | with_reducible refine AWP.exit ?_
                    | with_reducible refine AWP.ret ?_
                    | with_reducible refine AWP.label ?_
                    | with_reducible refine AWP.goto ?_
                    | ((with_reducible refine AWP.condT ?_ ?_); focus (simp only [ev, lk_cons, ↓reduceIte, Nat.reduceEqDiff]; done))
                    | ((with_reducible refine AWP.condF ?_ ?_); focus (simp only [ev, lk_cons, ↓reduceIte, Nat.reduceEqDiff]; done))
                    | with_reducible refine (hN1 _).use ?_
                    | with_reducible refine hS1.use ?_
                    | with_reducible refine (hN2 _).use ?_
                    | simp only [go_sem, ↓reduceIte, Nat.reduceEqDiff, reduceCtorEq, Nat.reduceAdd, Int.reduceEq, Int.reduceBNe, Int.reduceBEq, Int.reduceToNat, Int.reduceLT, Int.reduceLE, Int.reduceGT, Int.reduceGE, Nat.reduceSub, Nat.reduceBEq, Nat.reduceBNe, Int.reduceAdd, Int.reduceSub, Int.reduceMul, Int.reduceNeg, Nat.reduceMul, Nat.reduceLeDiff, Nat.reduceLT, h4']
                    | simp (disch := omega) only [wi64, wu8, wu16, wu32, wu64]
                    | with_reducible_and_instances exact finR
                    | ((with_reducible refine finR' ?_ ?_) <;> rfl)
                    | ((with_reducible refine finD hsc (NRel.of_plain ?_)); exact rfl)
                  refine AWP.loopP (fun k : Nat => ⟨[(0, .int .i64 ack), (2, .string (bs s)), (12, .int .i64 0), (24, gS (H.length + 1) (wantL ack (lbit s) k).length), (26, gS H.length (wantL ack (lbit s) (8 * s.length)).length), (199, .int .i64 (8 * (s.length : Int))), (200, .int .i64 (k : Nat))], [], H ++ [gO (intsC (wantL ack (lbit s) (8 * s.length))) ⟨3, 1, true, 0, none⟩, gO (intsC (wantL ack (lbit s) k)) ⟨3, 1, true, 0, none⟩]⟩) (fun k => k ≤ 8 * s.length) (fun k => 8 * s.length - k) 0 ?_ (Nat.zero_le _) ?_
                  · have e2 : gO (intsC (wantL ack (lbit s) 0)) ⟨3, 1, true, 0, none⟩ = .dead := rfl
                    have e3 : (wantL ack (lbit s) 0).length = 0 := rfl
                    rw [e2, e3, gS_zero]
                    refine Weak.pick [3, 0] rfl hsc (by simp) ⟨?_, ?_⟩
                    · simp only [selW_cons, selW_nil, List.getElem?_cons_zero, List.getElem?_cons_succ, wth_some, onm_dead, and_true]
                      exact (onm_g rfl (intsC_scalar _) rfl).2 trivial
                    · simp [envIn, lk_cons, wth_some, nr_int, nr_string, selN_0, selN_k, nr_g, nr_nilSlice]
                  intro k hk8
                  by_cases hc : k < 8 * s.length
                  · have hc' : (k : Int) < 8 * (s.length : Int) := by omega
                    have hg : s[k / 8]? = some (s.getD (k / 8) 0) := by rw [List.getD_eq_getElem?_getD, List.getElem?_eq_getElem (by omega)]; rfl
                    have hbit : (andI .u8 (shrI .u8 ((s.getD (k / 8) 0).toNat : Int) ((k % 8 : Nat) : Int)) 1 == 1) = lbit s k := bit8 _ _ (by omega)
                    have hws := wantL_succ ack (lbit s) k
                    have hwl := wantL_len ack (lbit s) k
                    cases hb : lbit s k with
                    | true =>
                      rw [hb] at hbit
                      rw [hb, if_pos rfl] at hws
                      have hw0 : IntKind.i64.wrap (ack + 2) = ack + 2 := IntWalk.i64_in _ (by omega)
                      have hw1 : IntKind.i64.wrap (ack + 2 + (k : Int)) = ack + ((k : Int) + 2) := by rw [IntWalk.i64_in _ (by omega)]; omega
                      have hw2 : (ack + ((k : Int) + 2)).tmod 65536 = (ack + ((k : Int) + 2)) % 65536 := Int.tmod_eq_emod_of_nonneg (by omega)
                      repeat first
                        | with_reducible refine AWP.seq ?_
                        | ((with_reducible refine AWP.region ?_ ?_); exact rfl)
                        | with_reducible refine AWP.block ?_
                        | with_reducible refine AWP.skip ?_
                        | with_reducible refine AWP.exit ?_
                        | with_reducible refine AWP.ret ?_
                        | with_reducible refine AWP.label ?_
                        | with_reducible refine AWP.goto ?_
                        | ((with_reducible refine AWP.condT ?_ ?_); focus (simp only [ev, lk_cons, ↓reduceIte, Nat.reduceEqDiff]; done))
                        | ((with_reducible refine AWP.condF ?_ ?_); focus (simp only [ev, lk_cons, ↓reduceIte, Nat.reduceEqDiff]; done))
                        | simp only [go_sem, ↓reduceIte, Nat.reduceEqDiff, reduceCtorEq, Nat.reduceAdd, Int.reduceEq, Int.reduceBNe, Int.reduceBEq, Int.reduceToNat, Int.reduceLT, Int.reduceLE, Int.reduceGT, Int.reduceGE, Nat.reduceSub, Nat.reduceBEq, Nat.reduceBNe, Int.reduceAdd, Int.reduceSub, Int.reduceMul, Int.reduceNeg, Nat.reduceMul, Nat.reduceLeDiff, Nat.reduceLT, hc', hg, hw0, hw1, hw2, tdiv8, tmod8, hbit]
                        | simp (disch := omega) only [wi64, wu8, wu16, wu32, wu64]
                        | with_reducible_and_instances exact finR
                        | ((with_reducible refine finR' ?_ ?_) <;> rfl)
                        | ((with_reducible refine finD hsc (NRel.of_plain ?_)); exact rfl)
                      refine appendTo_gn (l := intsC (wantL ack (lbit s) k)) (by simp only [go_sem, ↓reduceIte, Nat.reduceEqDiff, reduceCtorEq, Nat.reduceAdd, Int.reduceEq, Int.reduceBNe, Int.reduceBEq, Int.reduceToNat, Int.reduceLT, Int.reduceLE, Int.reduceGT, Int.reduceGE, Nat.reduceSub, Nat.reduceBEq, Nat.reduceBNe, Int.reduceAdd, Int.reduceSub, Int.reduceMul, Int.reduceNeg, Nat.reduceMul, Nat.reduceLeDiff, Nat.reduceLT]) (intsC_length _) (by omega) (by omega) ?_
                      rw [intsC_snoc, ← hws]
                      repeat first
                        | with_reducible refine AWP.seq ?_
                        | ((with_reducible refine AWP.region ?_ ?_); exact rfl)
                        | with_reducible refine AWP.block ?_
                        | with_reducible refine AWP.skip ?_
                        | with_reducible refine AWP.exit ?_
                        | with_reducible refine AWP.ret ?_
                        | with_reducible refine AWP.label ?_
                        | with_reducible refine AWP.goto ?_
                        | ((with_reducible refine AWP.condT ?_ ?_); focus (simp only [ev, lk_cons, ↓reduceIte, Nat.reduceEqDiff]; done))
                        | ((with_reducible refine AWP.condF ?_ ?_); focus (simp only [ev, lk_cons, ↓reduceIte, Nat.reduceEqDiff]; done))
                        | simp only [go_sem, ↓reduceIte, Nat.reduceEqDiff, reduceCtorEq, Nat.reduceAdd, Int.reduceEq, Int.reduceBNe, Int.reduceBEq, Int.reduceToNat, Int.reduceLT, Int.reduceLE, Int.reduceGT, Int.reduceGE, Nat.reduceSub, Nat.reduceBEq, Nat.reduceBNe, Int.reduceAdd, Int.reduceSub, Int.reduceMul, Int.reduceNeg, Nat.reduceMul, Nat.reduceLeDiff, Nat.reduceLT]
                        | simp (disch := omega) only [wi64, wu8, wu16, wu32, wu64]
                        | with_reducible_and_instances exact finR
                        | ((with_reducible refine finR' ?_ ?_) <;> rfl)
                        | ((with_reducible refine finD hsc (NRel.of_plain ?_)); exact rfl)
                      refine ⟨k + 1, ?_, by omega, by omega⟩
                      have hne : intsC (wantL ack (lbit s) (k + 1)) ≠ [] := by rw [hws]; simp [intsC]
                      have hll : (wantL ack (lbit s) (k + 1)).length = (wantL ack (lbit s) k).length + 1 := by rw [hws]; simp
                      rw [gO_ne hne, hll, gS_succ]
                      refine Weak.pick [0, 3] rfl hsc (by simp) ⟨?_, ?_⟩
                      · simp only [selW_cons, selW_nil, List.getElem?_cons_zero, List.getElem?_cons_succ, wth_some, and_true]
                        exact ⟨(onm_g rfl (intsC_scalar _) rfl).2 trivial, onm_cells.2 ⟨rfl, .of_scalars (intsC_scalar _)⟩⟩
                      · simp [envIn, lk_cons, wth_some, nr_int, nr_string, selN_0, selN_k, nr_slice, nr_g]
                    | false =>
                      rw [hb] at hbit
                      rw [hb, if_neg (by simp), List.append_nil] at hws
                      repeat first
                        | with_reducible refine AWP.seq ?_
                        | ((with_reducible refine AWP.region ?_ ?_); exact rfl)
                        | with_reducible refine AWP.block ?_
                        | with_reducible refine AWP.skip ?_
                        | with_reducible refine AWP.exit ?_
                        | with_reducible refine AWP.ret ?_
                        | with_reducible refine AWP.label ?_
                        | with_reducible refine AWP.goto ?_
                        | ((with_reducible refine AWP.condT ?_ ?_); focus (simp only [ev, lk_cons, ↓reduceIte, Nat.reduceEqDiff]; done))
                        | ((with_reducible refine AWP.condF ?_ ?_); focus (simp only [ev, lk_cons, ↓reduceIte, Nat.reduceEqDiff]; done))
                        | simp only [go_sem, ↓reduceIte, Nat.reduceEqDiff, reduceCtorEq, Nat.reduceAdd, Int.reduceEq, Int.reduceBNe, Int.reduceBEq, Int.reduceToNat, Int.reduceLT, Int.reduceLE, Int.reduceGT, Int.reduceGE, Nat.reduceSub, Nat.reduceBEq, Nat.reduceBNe, Int.reduceAdd, Int.reduceSub, Int.reduceMul, Int.reduceNeg, Nat.reduceMul, Nat.reduceLeDiff, Nat.reduceLT, hc', hg, tdiv8, tmod8, hbit]
                        | simp (disch := omega) only [wi64, wu8, wu16, wu32, wu64]
                        | with_reducible_and_instances exact finR
                        | ((with_reducible refine finR' ?_ ?_) <;> rfl)
                        | ((with_reducible refine finD hsc (NRel.of_plain ?_)); exact rfl)
                      refine ⟨k + 1, ?_, by omega, by omega⟩
                      rw [hws]
                      exact Weak.env (by simp [envIn, lk_cons, wth_some])
                  · have : k = 8 * s.length := by omega
                    subst this
                    have hc' : ¬ ((8 * s.length : Nat) : Int) < 8 * (s.length : Int) := by omega
                    have hS2 := SameInts (gS H.length (wantL ack (lbit s) (8 * s.length)).length) (gS (H.length + 1) (wantL ack (lbit s) (8 * s.length)).length) (wantL ack (lbit s) (8 * s.length)) (wantL ack (lbit s) (8 * s.length)) (H ++ [gO (intsC (wantL ack (lbit s) (8 * s.length))) ⟨3, 1, true, 0, none⟩, gO (intsC (wantL ack (lbit s) (8 * s.length))) ⟨3, 1, true, 0, none⟩])
                      (Rd.g (k := ⟨3, 1, true, 0, none⟩) (by simp only [go_sem, ↓reduceIte, Nat.reduceEqDiff, reduceCtorEq, Nat.reduceAdd, Int.reduceEq, Int.reduceBNe, Int.reduceBEq, Int.reduceToNat, Int.reduceLT, Int.reduceLE, Int.reduceGT, Int.reduceGE, Nat.reduceSub, Nat.reduceBEq, Nat.reduceBNe, Int.reduceAdd, Int.reduceSub, Int.reduceMul, Int.reduceNeg, Nat.reduceMul, Nat.reduceLeDiff, Nat.reduceLT]) (intsC_length _).symm) (Rd.g (k := ⟨3, 1, true, 0, none⟩) (by simp only [go_sem, ↓reduceIte, Nat.reduceEqDiff, reduceCtorEq, Nat.reduceAdd, Int.reduceEq, Int.reduceBNe, Int.reduceBEq, Int.reduceToNat, Int.reduceLT, Int.reduceLE, Int.reduceGT, Int.reduceGE, Nat.reduceSub, Nat.reduceBEq, Nat.reduceBNe, Int.reduceAdd, Int.reduceSub, Int.reduceMul, Int.reduceNeg, Nat.reduceMul, Nat.reduceLeDiff, Nat.reduceLT]) (intsC_length _).symm) (by have := wantL_len ack (lbit s) (8 * s.length); omega)
                    simp only [decide_true] at hS2
                    repeat first
                      | with_reducible refine AWP.seq ?_
                      | ((with_reducible refine AWP.region ?_ ?_); exact rfl)
                      | with_reducible refine AWP.block ?_
                      | with_reducible refine AWP.skip ?_
                      | with_reducible refine AWP.exit ?_
                      | with_reducible refine AWP.ret ?_
                      | with_reducible refine AWP.label ?_
                      | with_reducible refine AWP.goto ?_
                      | ((with_reducible refine AWP.condT ?_ ?_); focus (simp only [ev, lk_cons, ↓reduceIte, Nat.reduceEqDiff]; done))
                      | ((with_reducible refine AWP.condF ?_ ?_); focus (simp only [ev, lk_cons, ↓reduceIte, Nat.reduceEqDiff]; done))
                      | with_reducible refine hS2.use ?_
                      | with_reducible refine (awake _).use ?_
                      | simp only [go_sem, ↓reduceIte, Nat.reduceEqDiff, reduceCtorEq, Nat.reduceAdd, Int.reduceEq, Int.reduceBNe, Int.reduceBEq, Int.reduceToNat, Int.reduceLT, Int.reduceLE, Int.reduceGT, Int.reduceGE, Nat.reduceSub, Nat.reduceBEq, Nat.reduceBNe, Int.reduceAdd, Int.reduceSub, Int.reduceMul, Int.reduceNeg, Nat.reduceMul, Nat.reduceLeDiff, Nat.reduceLT, hc']
                      | simp (disch := omega) only [wi64, wu8, wu16, wu32, wu64]
                      | with_reducible_and_instances exact finR
                      | ((with_reducible refine finR' ?_ ?_) <;> rfl)
                      | ((with_reducible refine finD hsc (NRel.of_plain ?_)); exact rfl)
                · have h4' : (s.length : Int) > 4 := by omega
                  have hN2 := fun H => NamedS ack s hk (by omega) H
                  repeat first
                    | with_reducible refine AWP.seq ?_
                    | ((with_reducible refine AWP.region ?_ ?_); exact rfl)
                    | with_reducible refine AWP.block ?_
                    | with_reducible refine AWP.skip ?_
                    | with_reducible refine AWP.exit ?_
                    | with_reducible refine AWP.ret ?_
                    | with_reducible refine AWP.label ?_
                    | with_reducible refine AWP.goto ?_
                    | ((with_reducible refine AWP.condT ?_ ?_); focus (simp only [ev, lk_cons, ↓reduceIte, Nat.reduceEqDiff]; done))
                    | ((with_reducible refine AWP.condF ?_ ?_); focus (simp only [ev, lk_cons, ↓reduceIte, Nat.reduceEqDiff]; done))
                    | with_reducible refine (hN1 _).use ?_
                    | with_reducible refine hS1.use ?_
                    | with_reducible refine (hN2 _).use ?_
                    | with_reducible refine (awake _).use ?_
                    | simp only [go_sem, ↓reduceIte, Nat.reduceEqDiff, reduceCtorEq, Nat.reduceAdd, Int.reduceEq, Int.reduceBNe, Int.reduceBEq, Int.reduceToNat, Int.reduceLT, Int.reduceLE, Int.reduceGT, Int.reduceGE, Nat.reduceSub, Nat.reduceBEq, Nat.reduceBNe, Int.reduceAdd, Int.reduceSub, Int.reduceMul, Int.reduceNeg, Nat.reduceMul, Nat.reduceLeDiff, Nat.reduceLT, h4']
                    | simp (disch := omega) only [wi64, wu8, wu16, wu32, wu64]
                    | with_reducible_and_instances exact finR
                    | ((with_reducible refine finR' ?_ ?_) <;> rfl)
                    | ((with_reducible refine finD hsc (NRel.of_plain ?_)); exact rfl)
        · have hM := fun H hv => Marked0 ack came hcl (fun h => hk h.2) v H hv
          repeat first
            | with_reducible refine AWP.seq ?_
            | ((with_reducible refine AWP.region ?_ ?_); exact rfl)
            | with_reducible refine AWP.block ?_
            | with_reducible refine AWP.skip ?_
            | with_reducible refine AWP.exit ?_
            | with_reducible refine AWP.ret ?_
            | with_reducible refine AWP.label ?_
            | with_reducible refine AWP.goto ?_
            | ((with_reducible refine AWP.condT ?_ ?_); focus (simp only [ev, lk_cons, ↓reduceIte, Nat.reduceEqDiff]; done))
            | ((with_reducible refine AWP.condF ?_ ?_); focus (simp only [ev, lk_cons, ↓reduceIte, Nat.reduceEqDiff]; done))
            | with_reducible refine (withinD _ _).use ?_
            | with_reducible refine (hM _ hv).use ?_
            | with_reducible refine (awake _).use ?_
            | simp only [go_sem, ↓reduceIte, Nat.reduceEqDiff, reduceCtorEq, Nat.reduceAdd, Int.reduceEq, Int.reduceBNe, Int.reduceBEq, Int.reduceToNat, Int.reduceLT, Int.reduceLE, Int.reduceGT, Int.reduceGE, Nat.reduceSub, Nat.reduceBEq, Nat.reduceBNe, Int.reduceAdd, Int.reduceSub, Int.reduceMul, Int.reduceNeg, Nat.reduceMul, Nat.reduceLeDiff, Nat.reduceLT, hk]
            | simp (disch := omega) only [wi64, wu8, wu16, wu32, wu64]
            | with_reducible_and_instances exact finR
            | ((with_reducible refine finR' ?_ ?_) <;> rfl)
            | ((with_reducible refine finD hsc (NRel.of_plain ?_)); exact rfl)
    · have hL' : ¬ (came.length : Int) > 60 := by omega
      have hS' : (s.length : Int) > 10 := by omega
      refine AC.enter Try.func3 rfl (by kernel_rfl) 231 rfl [.tmp 10] rfl (by simp) fun hsc B => ?_
      repeat first
        | with_reducible refine AWP.seq ?_
        | ((with_reducible refine AWP.region ?_ ?_); exact rfl)
        | with_reducible refine AWP.block ?_
        | with_reducible refine AWP.skip ?_
        | with_reducible refine AWP.exit ?_
        | with_reducible refine AWP.ret ?_
        | with_reducible refine AWP.label ?_
        | with_reducible refine AWP.goto ?_
        | ((with_reducible refine AWP.condT ?_ ?_); focus (simp only [ev, lk_cons, ↓reduceIte, Nat.reduceEqDiff]; done))
        | ((with_reducible refine AWP.condF ?_ ?_); focus (simp only [ev, lk_cons, ↓reduceIte, Nat.reduceEqDiff]; done))
        | with_reducible refine (awake _).use ?_
        | simp only [go_sem, ↓reduceIte, Nat.reduceEqDiff, reduceCtorEq, Nat.reduceAdd, Int.reduceEq, Int.reduceBNe, Int.reduceBEq, Int.reduceToNat, Int.reduceLT, Int.reduceLE, Int.reduceGT, Int.reduceGE, Nat.reduceSub, Nat.reduceBEq, Nat.reduceBNe, Int.reduceAdd, Int.reduceSub, Int.reduceMul, Int.reduceNeg, Nat.reduceMul, Nat.reduceLeDiff, Nat.reduceLT, q1, hL', hS']
        | simp (disch := omega) only [wi64, wu8, wu16, wu32, wu64]
        | with_reducible_and_instances exact finR
        | ((with_reducible refine finR' ?_ ?_) <;> rfl)
        | ((with_reducible refine finD hsc (NRel.of_plain ?_)); exact rfl)
  · have hL' : (came.length : Int) > 60 := by omega
    refine AC.enter Try.func3 rfl (by kernel_rfl) 231 rfl [.tmp 10] rfl (by simp) fun hsc B => ?_
    repeat first
      | with_reducible refine AWP.seq ?_
      | ((with_reducible refine AWP.region ?_ ?_); exact rfl)
      | with_reducible refine AWP.block ?_
      | with_reducible refine AWP.skip ?_
      | with_reducible refine AWP.exit ?_
      | with_reducible refine AWP.ret ?_
      | with_reducible refine AWP.label ?_
      | with_reducible refine AWP.goto ?_
      | ((with_reducible refine AWP.condT ?_ ?_); focus (simp only [ev, lk_cons, ↓reduceIte, Nat.reduceEqDiff]; done))
      | ((with_reducible refine AWP.condF ?_ ?_); focus (simp only [ev, lk_cons, ↓reduceIte, Nat.reduceEqDiff]; done))
      | with_reducible refine (awake _).use ?_
      | simp only [go_sem, ↓reduceIte, Nat.reduceEqDiff, reduceCtorEq, Nat.reduceAdd, Int.reduceEq, Int.reduceBNe, Int.reduceBEq, Int.reduceToNat, Int.reduceLT, Int.reduceLE, Int.reduceGT, Int.reduceGE, Nat.reduceSub, Nat.reduceBEq, Nat.reduceBNe, Int.reduceAdd, Int.reduceSub, Int.reduceMul, Int.reduceNeg, Nat.reduceMul, Nat.reduceLeDiff, Nat.reduceLT, q1, hL']
      | simp (disch := omega) only [wi64, wu8, wu16, wu32, wu64]
      | with_reducible_and_instances exact finR
      | ((with_reducible refine finR' ?_ ?_) <;> rfl)
      | ((with_reducible refine finD hsc (NRel.of_plain ?_)); exact rfl)
end Go.Proofs.Ytfcocdeocbiolaa
