/-
  The walk of tokens: until when a token is right; whether it is; whether there is room; what is kept.
-/
import Derived.Test.YtmpkgdilmkeacaaDoorPC
set_option linter.unusedVariables false
set_option linter.unusedSimpArgs false
set_option maxRecDepth 20000
set_option maxHeartbeats 4000000
namespace Go.Proofs.YtmpkgdilmkeacaaDoor
open Go Go.Aw Go.Proofs Go.Shelf Go.RowKit Go.ChangeShapes
def stepL (a : Ad) (tok : List UInt8) (mx : Int) (e : List UInt8 × Int) : Int := if tokL e.1 a = tok then max mx e.2 else mx
def untilL (K : Kp) (a : Ad) (tok : List UInt8) : Int := (secsL K).foldl (stepL a tok) (-1)
theorem secsL_len (K : Kp) : ∀ e ∈ secsL K, e.1.length = 32 := by
  intro e he
  unfold secsL at he
  split at he
  · simp only [List.mem_cons, List.not_mem_nil, or_false] at he
    rcases he with rfl | rfl <;> exact secL_len _ _
  · split at he
    · simp only [List.mem_cons, List.not_mem_nil, or_false] at he
      rcases he with rfl | rfl <;> exact secL_len _ _
    · simp only [List.mem_cons, List.not_mem_nil, or_false] at he
      rw [he]; exact secL_len _ _
theorem untilW (K : Kp) (hok : K.ok) (i m : Nat) (a : Ad) (ha : a.ok = true) (tok : List UInt8) (H : AHeap) (hi : H[i]? = some (K.o m)) (hT : TabH H) :
    ARet Tryd.prog 44 [.pointer (some ⟨i, 0, none⟩), a.v, .string (bs tok)] H (.int .i64 (untilL K a tok)) H := by
  have hlen := secsL_len K
  have hM := fun s H => maker s H
  have hM1 := fun s hs i k H hi => maker1 s hs a ha i k H hi
  have hil := lt_of_get hi
  have hseq := fun b => secrets1 K hok b i m
  unfold secsA SecOk at hseq
  unfold untilL
  have hstep : ∀ mx e, stepL a tok mx e = if tokL e.1 a = tok then max mx e.2 else mx := fun _ _ => rfl
  generalize stepL a tok = stp at *
  generalize secsL K = l at *
  unfold Ad.v at hM1 ⊢
  refine AC.enter Tryd.func44 rfl (by kernel_rfl) 24 rfl [.tmp 6] rfl (by simp) fun hsc B => ?_
  repeat first
    | with_reducible refine AWP.seq ?_
    | ((with_reducible refine AWP.region ?_ ?_); exact rfl)
    | with_reducible refine AWP.block ?_
    | with_reducible refine AWP.skip ?_
    | with_reducible refine AWP.exit ?_
    | with_reducible refine AWP.ret ?_
    | with_reducible refine AWP.label ?_
    | with_reducible refine AWP.goto ?_
    | ((with_reducible refine AWP.condT ?_ ?_); focus (simp only [ev, lk_cons, ↓reduceIte, Nat.reduceEqDiff]; done))
    | ((with_reducible refine AWP.condF ?_ ?_); focus (simp only [ev, lk_cons, ↓reduceIte, Nat.reduceEqDiff]; done))
    | with_reducible refine (secrets _ _).use ?_
    | simp only [go_sem, ↓reduceIte, Nat.reduceEqDiff, reduceCtorEq, Nat.reduceAdd, Int.reduceEq, Int.reduceBNe, Int.reduceBEq, Int.reduceToNat, Int.reduceLT, Int.reduceLE, Int.reduceGT, Int.reduceGE, Nat.reduceSub, Nat.reduceBEq, Nat.reduceBNe, Int.reduceAdd, Int.reduceSub, Int.reduceMul, Int.reduceNeg, Nat.reduceMul, Nat.reduceLeDiff, Nat.reduceLT]
    | simp (disch := omega) only [wi64, wu8, wu16, wu32, wu64, Int.tdiv_eq_ediv_of_nonneg, Int.tmod_eq_emod_of_nonneg]
    | with_reducible_and_instances exact finR
    | ((with_reducible refine finR' ?_ ?_) <;> rfl)
    | ((with_reducible refine finD hsc (NRel.of_plain ?_)); exact rfl)
  refine AWP.rangeS (hseq (H.length + 3)) rfl (by simp) (by simp only [go_sem, ↓reduceIte, Nat.reduceEqDiff, reduceCtorEq, Nat.reduceAdd, Int.reduceEq, Int.reduceBNe, Int.reduceBEq, Int.reduceToNat, Int.reduceLT, Int.reduceLE, Int.reduceGT, Int.reduceGE, Nat.reduceSub, Nat.reduceBEq, Nat.reduceBNe, Int.reduceAdd, Int.reduceSub, Int.reduceMul, Int.reduceNeg, Nat.reduceMul, Nat.reduceLeDiff, Nat.reduceLT]) fun L hL =>
    ⟨fun n H1 => ∃ R, n ≤ l.length ∧ H1 = H ++ (.cells [.int .i64 a.fam, .string (bs a.ip), .int .i64 a.port] ⟨23, 0, true, 0, none⟩ :: .cells [.string (bs tok)] ⟨9, 0, true, 0, none⟩ :: .cells [.int .i64 ((l.take n).foldl stp (-1))] ⟨3, 0, true, 0, none⟩ :: .cells [.pointer (some ⟨i, 0, none⟩)] ⟨26, 0, true, 0, none⟩ :: .loop L :: R), fun _ => False,
    ⟨[], Nat.zero_le _, by simp⟩, fun n H1 ⟨R, h1, h2⟩ => h2 ▸ ⟨(by with_unfolding_all first | exact (hget0 rfl).trans rfl | exact (hgetk rfl).trans rfl), by rw [hgetl hil]; exact hi, hT.more _⟩, fun n H1 X ⟨R, h1, h2⟩ => ⟨R ++ X, h1, by rw [h2]; simp⟩, ?_, ?_⟩
  · rintro n args H1 hargs ⟨R, hn, rfl⟩
    have hnl : n < l.length := by
      have := (List.getElem?_eq_some_iff.1 hargs).1
      simpa using this
    have hmem := hlen _ (List.getElem_mem hnl)
    have hfold : (l.take (n + 1)).foldl stp (-1) = stp ((l.take n).foldl stp (-1)) l[n] := by
      rw [List.take_add_one, List.getElem?_eq_getElem hnl, List.foldl_append]; rfl
    have hst := hstep ((l.take n).foldl stp (-1)) l[n]
    rw [← hfold] at hst
    have hargs' : args = [.string (bs l[n].1), .int .i64 l[n].2] := by
      rw [List.getElem?_map, List.getElem?_eq_getElem hnl] at hargs
      simpa using hargs.symm
    subst hargs'
    obtain ⟨s, u, h0⟩ : ∃ s u, l[n] = (s, u) := ⟨_, _, rfl⟩
    simp only [h0] at hst hmem ⊢
    generalize (l.take n).foldl stp (-1) = mx at *
    have hM1s := hM1 s (by omega)
    generalize tokL s a = tk at *
    refine AY.of (L := L) (by simp only [go_sem, ↓reduceIte, Nat.reduceEqDiff, reduceCtorEq, Nat.reduceAdd, Int.reduceEq, Int.reduceBNe, Int.reduceBEq, Int.reduceToNat, Int.reduceLT, Int.reduceLE, Int.reduceGT, Int.reduceGE, Nat.reduceSub, Nat.reduceBEq, Nat.reduceBNe, Int.reduceAdd, Int.reduceSub, Int.reduceMul, Int.reduceNeg, Nat.reduceMul, Nat.reduceLeDiff, Nat.reduceLT]) (by rw [hL]) (by rw [hL]; rfl) (by rw [hL]; simp) fun hsc2 lr B2 => ?_
    have e0 := congrArg ALoop.state hL
    have e1 := congrArg ALoop.n hL
    have e2 := congrArg ALoop.params hL
    have e3 := congrArg ALoop.assign hL
    have e4 := congrArg ALoop.body hL
    have e5 := congrArg ALoop.env hL
    have eL : (⟨.ready, none, L.env, L.n, L.params, L.assign, L.body⟩ : ALoop) = L := by rw [hL]
    simp only at e0 e1 e2 e3 e4 e5
    rw [e3, e4]
    simp only [e2, e5, zipEnv]
    rw [e1]
    repeat first
      | with_reducible refine AWP.seqJ (x := .region 5 _ _) ⟨[(4, .pointer (some ⟨H.length, 0, none⟩)), (5, .pointer (some ⟨H.length + 1, 0, none⟩)), (7, .pointer (some ⟨H.length + 2, 0, none⟩)), (9, .int .i64 u), (19, .bool (tk == tok))], [], (H ++ (.cells [.int .i64 a.fam, .string (bs a.ip), .int .i64 a.port] ⟨23, 0, true, 0, none⟩ :: .cells [.string (bs tok)] ⟨9, 0, true, 0, none⟩ :: .cells [.int .i64 mx] ⟨3, 0, true, 0, none⟩ :: .cells [.pointer (some ⟨i, 0, none⟩)] ⟨26, 0, true, 0, none⟩ :: .loop { L with state := .busy } :: R)) ++ [.cells [.string (bs s)] ⟨9, 0, true, 0, none⟩]⟩ ?_ ?_
      | with_reducible refine AWP.seq ?_
      | ((with_reducible refine AWP.region ?_ ?_); exact rfl)
      | with_reducible refine AWP.block ?_
      | with_reducible refine AWP.skip ?_
      | with_reducible refine AWP.exit ?_
      | with_reducible refine AWP.ret ?_
      | with_reducible refine AWP.label ?_
      | with_reducible refine AWP.goto ?_
      | ((with_reducible refine AWP.condT ?_ ?_); focus (simp only [ev, lk_cons, ↓reduceIte, Nat.reduceEqDiff]; done))
      | ((with_reducible refine AWP.condF ?_ ?_); focus (simp only [ev, lk_cons, ↓reduceIte, Nat.reduceEqDiff]; done))
      | simp only [go_sem, ↓reduceIte, Nat.reduceEqDiff, reduceCtorEq, Nat.reduceAdd, Int.reduceEq, Int.reduceBNe, Int.reduceBEq, Int.reduceToNat, Int.reduceLT, Int.reduceLE, Int.reduceGT, Int.reduceGE, Nat.reduceSub, Nat.reduceBEq, Nat.reduceBNe, Int.reduceAdd, Int.reduceSub, Int.reduceMul, Int.reduceNeg, Nat.reduceMul, Nat.reduceLeDiff, Nat.reduceLT, e0]
      | simp (disch := omega) only [wi64, wu8, wu16, wu32, wu64, Int.tdiv_eq_ediv_of_nonneg, Int.tmod_eq_emod_of_nonneg]
      | with_reducible_and_instances exact finR
      | ((with_reducible refine finR' ?_ ?_) <;> rfl)
      | ((with_reducible refine finD hsc (NRel.of_plain ?_)); exact rfl)
    · refine AWP.regionT (.both (.step 0 (.both (.step 1 (.both (.step 2 (.both (.run [3, 4, 5]) (.run [4, 3, 5]))) (.run [4, 2, 3, 5]))) (.both (.step 2 (.both (.step 1 (.both (.run [3, 4, 5]) (.run [4, 3, 5]))) (.run [4, 1, 3, 5]))) (.step 4 (.both (.run [1, 2, 3, 5]) (.run [2, 1, 3, 5])))))) (.both (.step 2 (.both (.step 0 (.both (.step 1 (.both (.run [3, 4, 5]) (.run [4, 3, 5]))) (.run [4, 1, 3, 5]))) (.run [4, 0, 1, 3, 5]))) (.step 4 (.both (.step 0 (.both (.run [1, 2, 3, 5]) (.run [2, 1, 3, 5]))) (.run [2, 0, 1, 3, 5]))))) (by kernel_rfl) (by kernel_rfl) ?_
      repeat' first
        | omega
        | with_reducible refine And.intro ?_ ?_
        | with_reducible refine treeBoth ?_ ?_
        | with_reducible refine AWP.seq ?_
        | ((with_reducible refine AWP.region ?_ ?_); exact rfl)
        | with_reducible refine AWP.block ?_
        | with_reducible refine AWP.skip ?_
        | with_reducible refine AWP.exit ?_
        | with_reducible refine AWP.ret ?_
        | with_reducible refine AWP.label ?_
        | with_reducible refine AWP.goto ?_
        | ((with_reducible refine AWP.condT ?_ ?_); focus (simp only [ev, lk_cons, ↓reduceIte, Nat.reduceEqDiff]; done))
        | ((with_reducible refine AWP.condF ?_ ?_); focus (simp only [ev, lk_cons, ↓reduceIte, Nat.reduceEqDiff]; done))
        | with_reducible refine (hM _ _).use ?_
        | with_reducible refine (hM1s _ ⟨9, 0, true, 0, none⟩ _ (by rw [hgetk rfl]; simp)).use ?_
        | simp only [go_sem, ↓reduceIte, Nat.reduceEqDiff, reduceCtorEq, Nat.reduceAdd, Int.reduceEq, Int.reduceBNe, Int.reduceBEq, Int.reduceToNat, Int.reduceLT, Int.reduceLE, Int.reduceGT, Int.reduceGE, Nat.reduceSub, Nat.reduceBEq, Nat.reduceBNe, Int.reduceAdd, Int.reduceSub, Int.reduceMul, Int.reduceNeg, Nat.reduceMul, Nat.reduceLeDiff, Nat.reduceLT, treeW_step, treeW_run, pickO]
        | simp (disch := omega) only [wi64, wu8, wu16, wu32, wu64, Int.tdiv_eq_ediv_of_nonneg, Int.tmod_eq_emod_of_nonneg]
        | with_reducible_and_instances exact finR
        | ((with_reducible refine finR' ?_ ?_) <;> rfl)
        | ((with_reducible refine finD hsc (NRel.of_plain ?_)); exact rfl)
      all_goals exact Weak.env (by simp [envIn, lk_cons, wth_some])
    · by_cases hb : tk = tok
      · rw [if_pos hb] at hst
        have hb' : (tk == tok) = true := beq_iff_eq.2 hb
        repeat first
          | with_reducible refine AWP.seq ?_
          | ((with_reducible refine AWP.region ?_ ?_); exact rfl)
          | with_reducible refine AWP.block ?_
          | with_reducible refine AWP.skip ?_
          | with_reducible refine AWP.exit ?_
          | with_reducible refine AWP.ret ?_
          | with_reducible refine AWP.label ?_
          | with_reducible refine AWP.goto ?_
          | ((with_reducible refine AWP.condT ?_ ?_); focus (simp only [ev, lk_cons, ↓reduceIte, Nat.reduceEqDiff]; done))
          | ((with_reducible refine AWP.condF ?_ ?_); focus (simp only [ev, lk_cons, ↓reduceIte, Nat.reduceEqDiff]; done))
          | simp only [go_sem, ↓reduceIte, Nat.reduceEqDiff, reduceCtorEq, Nat.reduceAdd, Int.reduceEq, Int.reduceBNe, Int.reduceBEq, Int.reduceToNat, Int.reduceLT, Int.reduceLE, Int.reduceGT, Int.reduceGE, Nat.reduceSub, Nat.reduceBEq, Nat.reduceBNe, Int.reduceAdd, Int.reduceSub, Int.reduceMul, Int.reduceNeg, Nat.reduceMul, Nat.reduceLeDiff, Nat.reduceLT, hb', minMaxW]
          | simp (disch := omega) only [wi64, wu8, wu16, wu32, wu64, Int.tdiv_eq_ediv_of_nonneg, Int.tmod_eq_emod_of_nonneg]
          | with_reducible_and_instances exact finR
          | ((with_reducible refine finR' ?_ ?_) <;> rfl)
          | ((with_reducible refine finD hsc (NRel.of_plain ?_)); exact rfl)
        exact ⟨_, .refl _ _ _, true, rfl, fun _ => ⟨by omega, R ++ [.cells [.string (bs s)] ⟨9, 0, true, 0, none⟩], by rw [hst, eL]⟩, fun e => by cases e⟩
      · rw [if_neg hb] at hst
        have hb' : (tk == tok) = false := beq_eq_false_iff_ne.2 hb
        repeat first
          | with_reducible refine AWP.seq ?_
          | ((with_reducible refine AWP.region ?_ ?_); exact rfl)
          | with_reducible refine AWP.block ?_
          | with_reducible refine AWP.skip ?_
          | with_reducible refine AWP.exit ?_
          | with_reducible refine AWP.ret ?_
          | with_reducible refine AWP.label ?_
          | with_reducible refine AWP.goto ?_
          | ((with_reducible refine AWP.condT ?_ ?_); focus (simp only [ev, lk_cons, ↓reduceIte, Nat.reduceEqDiff]; done))
          | ((with_reducible refine AWP.condF ?_ ?_); focus (simp only [ev, lk_cons, ↓reduceIte, Nat.reduceEqDiff]; done))
          | simp only [go_sem, ↓reduceIte, Nat.reduceEqDiff, reduceCtorEq, Nat.reduceAdd, Int.reduceEq, Int.reduceBNe, Int.reduceBEq, Int.reduceToNat, Int.reduceLT, Int.reduceLE, Int.reduceGT, Int.reduceGE, Nat.reduceSub, Nat.reduceBEq, Nat.reduceBNe, Int.reduceAdd, Int.reduceSub, Int.reduceMul, Int.reduceNeg, Nat.reduceMul, Nat.reduceLeDiff, Nat.reduceLT, hb']
          | simp (disch := omega) only [wi64, wu8, wu16, wu32, wu64, Int.tdiv_eq_ediv_of_nonneg, Int.tmod_eq_emod_of_nonneg]
          | with_reducible_and_instances exact finR
          | ((with_reducible refine finR' ?_ ?_) <;> rfl)
          | ((with_reducible refine finD hsc (NRel.of_plain ?_)); exact rfl)
        exact ⟨_, .refl _ _ _, true, rfl, fun _ => ⟨by omega, R ++ [.cells [.string (bs s)] ⟨9, 0, true, 0, none⟩], by rw [hst, eL]⟩, fun e => by cases e⟩
  · rintro H2 (⟨R, hn, rfl⟩ | h)
    · subst hL
      rw [List.length_map, List.take_length]
      repeat first
        | with_reducible refine AWP.seq ?_
        | ((with_reducible refine AWP.region ?_ ?_); exact rfl)
        | with_reducible refine AWP.block ?_
        | with_reducible refine AWP.skip ?_
        | with_reducible refine AWP.exit ?_
        | with_reducible refine AWP.ret ?_
        | with_reducible refine AWP.label ?_
        | with_reducible refine AWP.goto ?_
        | ((with_reducible refine AWP.condT ?_ ?_); focus (simp only [ev, lk_cons, ↓reduceIte, Nat.reduceEqDiff]; done))
        | ((with_reducible refine AWP.condF ?_ ?_); focus (simp only [ev, lk_cons, ↓reduceIte, Nat.reduceEqDiff]; done))
        | simp only [go_sem, ↓reduceIte, Nat.reduceEqDiff, reduceCtorEq, Nat.reduceAdd, Int.reduceEq, Int.reduceBNe, Int.reduceBEq, Int.reduceToNat, Int.reduceLT, Int.reduceLE, Int.reduceGT, Int.reduceGE, Nat.reduceSub, Nat.reduceBEq, Nat.reduceBNe, Int.reduceAdd, Int.reduceSub, Int.reduceMul, Int.reduceNeg, Nat.reduceMul, Nat.reduceLeDiff, Nat.reduceLT]
        | simp (disch := omega) only [wi64, wu8, wu16, wu32, wu64, Int.tdiv_eq_ediv_of_nonneg, Int.tmod_eq_emod_of_nonneg]
        | with_reducible_and_instances exact finR
        | ((with_reducible refine finR' ?_ ?_) <;> rfl)
        | ((with_reducible refine finD hsc (NRel.of_plain ?_)); exact rfl)
    · exact h.elim
end Go.Proofs.YtmpkgdilmkeacaaDoor
