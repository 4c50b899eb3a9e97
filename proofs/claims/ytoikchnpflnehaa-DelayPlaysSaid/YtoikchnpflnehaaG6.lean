/-
  The bases of the minutes: note.
-/
import Derived.Test.YtoikchnpflnehaaG5
set_option linter.unusedVariables false
set_option linter.unusedSimpArgs false
set_option maxRecDepth 20000
namespace Go.Proofs.Ytoikchnpflnehaa
open Go Go.Aw Go.Proofs
/-- The minutes that are kept, when this one is m. -/
def keptL (m : Int) : List (Int × Int) → List (Int × Int)
  | [] => []
  | p :: r => if p.1 < m - 9 then keptL m r else p :: r
/-- A delay is put into the minute m, the last one. -/
def putL (m d : Int) (q : List (Int × Int)) : List (Int × Int) :=
  match q.getLast? with
  | none => q ++ [(m, d)]
  | some l => if l.1 = m then (if lessD d l.2 then q.dropLast ++ [(l.1, d)] else q) else q ++ [(m, d)]
def Ctl.noteL (C : Ctl) (d : Int) : Ctl := { C with past := putL (C.now / 60000) d (keptL (C.now / 60000) C.past) }
theorem keptL_len (m : Int) : ∀ l, (keptL m l).length ≤ l.length
  | [] => Nat.le_refl _
  | p :: r => by unfold keptL; split; have := keptL_len m r; simp; omega; simp
theorem putL_new (m d : Int) (q : List (Int × Int)) (h : ∀ l, q.getLast? = some l → l.1 ≠ m) : putL m d q = q ++ [(m, d)] := by
  unfold putL
  split
  · rfl
  · rename_i l hl
    rw [if_neg (h l hl)]
theorem pastC_snoc (q : List (Int × Int)) (m d : Int) : pastC q ++ [.int .i64 m, .int .i64 d] = pastC (q ++ [(m, d)]) := by simp [pastC]
theorem note_fin (c : Nat) (C : Ctl) (lv pv : Value) (S1 S2 : List Nat) (q : List (Int × Int)) (m d : Int) (H H' : AHeap) (hC : CtlAt H c C lv pv S1 S2) (hlen' : H'.length = H.length + 1) (hH : ∀ j, j < H.length → j ≠ c → j ∉ S2 → H'[j]? = H[j]?) (hp : (C.noteL d).past = q ++ [(m, d)]) :
    ∃ pv' S2', CtlAt (H'.set c (.cells [.int .i64 C.now, .int .i64 C.halved, .bool C.ever, .int .i64 C.target, .int .i64 C.limit, lv, .int .i64 4, .slice (some ⟨H.length + 1, 0, none⟩) (q.length + 1) (q.length + 1)] ⟨70, 0, true, 0, none⟩) ++ [.cells (pastC q ++ [.int .i64 m, .int .i64 d]) ⟨89, 2, true, 0, none⟩]) c (C.noteL d) lv pv' S1 S2' ∧
      Frm (c :: S2) H (H'.set c (.cells [.int .i64 C.now, .int .i64 C.halved, .bool C.ever, .int .i64 C.target, .int .i64 C.limit, lv, .int .i64 4, .slice (some ⟨H.length + 1, 0, none⟩) (q.length + 1) (q.length + 1)] ⟨70, 0, true, 0, none⟩) ++ [.cells (pastC q ++ [.int .i64 m, .int .i64 d]) ⟨89, 2, true, 0, none⟩]) ∧ ∀ s ∈ S2', s ∈ S2 ∨ H.length ≤ s := by
  have hcl := lt_of_get hC.at_
  have hf0 : Frm (c :: S2) H H' := ⟨by omega, fun j hj hn => hH j hj (fun e => hn (by rw [e]; simp)) (fun h => hn (List.mem_cons_of_mem _ h))⟩
  have hf2 := fun o X => (hf0.set (i := c) (o := o) (.inl (List.mem_cons_self ..))).more (X := X)
  refine ⟨.slice (some ⟨H.length + 1, 0, none⟩) (q.length + 1) (q.length + 1), [H.length + 1], ⟨?_, hC.last.frm (hf2 _ _) ?_, ?_, hC.n1, by simp; omega, ?_⟩, hf2 _ _, by simp⟩
  · rw [hgetl (by rw [List.length_set]; omega), hset_self (by omega)]; rfl
  · intro s hs
    simp only [List.mem_cons, not_or]
    exact ⟨fun e => hC.n1 (e ▸ hs), fun h => hC.n3 s hs h⟩
  · refine .inr ⟨H.length + 1, 0, pastC q ++ [.int .i64 m, .int .i64 d], by rw [hp]; simp, hget0 (by rw [List.length_set, hlen']), ?_, ?_, rfl⟩
    · rw [hp, List.length_append, pastC_length]; simp; omega
    · rw [hp, List.drop_zero, pastC_snoc]
  · intro s hs h2
    simp at h2
    have := hC.last.lt s hs
    omega
theorem last_split {q : List (Int × Int)} {L : Int × Int} (h : q.getLast? = some L) : q = q.dropLast ++ [L] := by
  rcases List.eq_nil_or_concat q with rfl | ⟨r, x, rfl⟩
  · simp at h
  · simp at h ⊢; exact h
theorem pastC_last (q : List (Int × Int)) (L : Int × Int) (d : Int) : (pastC (q ++ [L])).set (q.length * 2 + 1) (.int .i64 d) = pastC (q ++ [(L.1, d)]) := by
  have h1 : pastC (q ++ [L]) = pastC q ++ [.int .i64 L.1, .int .i64 L.2] := by simp [pastC]
  have h2 : pastC (q ++ [(L.1, d)]) = pastC q ++ [.int .i64 L.1, .int .i64 d] := by simp [pastC]
  rw [h1, h2, List.set_append_right _ _ (by rw [pastC_length]; omega), pastC_length, show q.length * 2 + 1 - q.length * 2 = 1 by omega]
  rfl
theorem note (c : Nat) (C : Ctl) (lv pv : Value) (S1 S2 : List Nat) (d : Int) (hnow : 0 ≤ C.now) (hnow2 : C.now ≤ 1000000000) (hpl : C.past.length < 1099511627776) (H : AHeap) (hC : CtlAt H c C lv pv S1 S2) :
    AC Try.prog 46 [.pointer (some ⟨c, 0, none⟩), .int .i64 d] H (fun r H2 => r = .ret noVal ∧ ∃ pv' S2', CtlAt H2 c (C.noteL d) lv pv' S1 S2' ∧ Frm (c :: S2) H H2 ∧ ∀ s ∈ S2', s ∈ S2 ∨ H.length ≤ s) := by
  have hc := hC.at_
  have hcl := lt_of_get hc
  have hn2 := hC.n2
  generalize hm : C.now / 60000 = m
  have hm0 : 0 ≤ m := by omega
  have hm1 : m ≤ 20000 := by omega
  refine AC.enter Try.func46 rfl (by kernel_rfl) 92 rfl [] rfl (by simp) fun hsc B => ?_
  simp only [ctlC] at hc
  have hmd : C.now.tdiv 60000 = m := by rw [Int.tdiv_eq_ediv_of_nonneg (by omega)]; exact hm
  repeat first
    | with_reducible refine AWP.seq ?_
    | ((with_reducible refine AWP.region ?_ ?_); exact rfl)
    | with_reducible refine AWP.block ?_
    | with_reducible refine AWP.skip ?_
    | with_reducible refine AWP.exit ?_
    | with_reducible refine AWP.ret ?_
    | with_reducible refine AWP.label ?_
    | with_reducible refine AWP.goto ?_
    | ((with_reducible refine AWP.condT ?_ ?_); focus (simp only [ev, lk_cons, ↓reduceIte, Nat.reduceEqDiff]; done))
    | ((with_reducible refine AWP.condF ?_ ?_); focus (simp only [ev, lk_cons, ↓reduceIte, Nat.reduceEqDiff]; done))
    | simp only [go_sem, ↓reduceIte, Nat.reduceEqDiff, reduceCtorEq, Nat.reduceAdd, Int.reduceEq, Int.reduceBNe, Int.reduceBEq, Int.reduceToNat, Int.reduceLT, Int.reduceLE, Int.reduceGT, Int.reduceGE, Nat.reduceSub, Nat.reduceBEq, Nat.reduceBNe, Int.reduceAdd, Int.reduceSub, Int.reduceMul, Int.reduceNeg, Nat.reduceMul, Nat.reduceLeDiff, Nat.reduceLT, hc, hmd]
    | simp (disch := omega) only [wi64, wu8, wu16, wu32, wu64, Int.tdiv_eq_ediv_of_nonneg, Int.tmod_eq_emod_of_nonneg]
    | with_reducible_and_instances exact finR
    | ((with_reducible refine finR' ?_ ?_) <;> rfl)
    | ((with_reducible refine finD hsc (NRel.of_plain ?_)); exact rfl)
  refine AWP.loopP (fun s : List (Int × Int) × Value => ⟨[(0, .pointer (some ⟨c, 0, none⟩)), (1, .int .i64 d), (4, .int .i64 m)], [], H.set c (.cells (ctlC C lv s.2) ⟨70, 0, true, 0, none⟩)⟩)
    (fun s => s.1.length ≤ C.past.length ∧ keptL m s.1 = keptL m C.past ∧ OwnL H 89 2 s.1.length (pastC s.1) s.2 S2) (fun s => s.1.length) (C.past, pv) ?_ ⟨Nat.le_refl _, rfl, hC.past⟩ ?_
  · simp only
    have := hC.at_
    rw [set_same this]
    exact Weak.env (by simp [envIn, lk_cons, wth_some])
  rintro ⟨q, pv1⟩ ⟨hq, hk, ho⟩
  simp only at hq hk ho
  simp only [ctlC]
  have hgc : ∀ o, (H.set c o)[c]? = some o := fun o => hset_self hcl
  rcases ho with ⟨h1, h2, rfl, rfl⟩ | ⟨i, off, cs, rfl, hi, hcs, hd, rfl⟩
  · have hq0 : q = [] := List.eq_nil_of_length_eq_zero h1
    subst hq0
    repeat first
      | with_reducible refine AWP.seq ?_
      | ((with_reducible refine AWP.region ?_ ?_); exact rfl)
      | with_reducible refine AWP.block ?_
      | with_reducible refine AWP.skip ?_
      | with_reducible refine AWP.exit ?_
      | with_reducible refine AWP.ret ?_
      | with_reducible refine AWP.label ?_
      | with_reducible refine AWP.goto ?_
      | ((with_reducible refine AWP.condT ?_ ?_); focus (simp only [ev, lk_cons, ↓reduceIte, Nat.reduceEqDiff]; done))
      | ((with_reducible refine AWP.condF ?_ ?_); focus (simp only [ev, lk_cons, ↓reduceIte, Nat.reduceEqDiff]; done))
      | simp only [go_sem, ↓reduceIte, Nat.reduceEqDiff, reduceCtorEq, Nat.reduceAdd, Int.reduceEq, Int.reduceBNe, Int.reduceBEq, Int.reduceToNat, Int.reduceLT, Int.reduceLE, Int.reduceGT, Int.reduceGE, Nat.reduceSub, Nat.reduceBEq, Nat.reduceBNe, Int.reduceAdd, Int.reduceSub, Int.reduceMul, Int.reduceNeg, Nat.reduceMul, Nat.reduceLeDiff, Nat.reduceLT, hgc]
      | simp (disch := omega) only [wi64, wu8, wu16, wu32, wu64, Int.tdiv_eq_ediv_of_nonneg, Int.tmod_eq_emod_of_nonneg]
      | with_reducible_and_instances exact finR
      | ((with_reducible refine finR' ?_ ?_) <;> rfl)
      | ((with_reducible refine finD hsc (NRel.of_plain ?_)); exact rfl)
    have hput : (C.noteL d).past = [] ++ [(m, d)] := by
      show putL (C.now / 60000) d (keptL (C.now / 60000) C.past) = _
      rw [hm, ← hk]; rfl
    have hAp : OwnL (H.set c (.cells [.int .i64 C.now, .int .i64 C.halved, .bool C.ever, .int .i64 C.target, .int .i64 C.limit, lv, .int .i64 4, .slice none 0 0] ⟨70, 0, true, 0, none⟩) ++ [.cells [.int .i64 m, .int .i64 d] ⟨89, 0, true, 0, none⟩]) 89 2 0 [] (.slice none 0 0) [] := .inl ⟨rfl, rfl, rfl, rfl⟩
    refine hAp.append (by decide) (by omega) (by omega) fun H' hlen hH' => ?_
    have hlen' : H'.length = H.length + 1 := by rw [hlen]; simp
    have hc' : H'[c]? = some (.cells [.int .i64 C.now, .int .i64 C.halved, .bool C.ever, .int .i64 C.target, .int .i64 C.limit, lv, .int .i64 4, .slice none 0 0] ⟨70, 0, true, 0, none⟩) := by
      rw [hH' c (by simp), hgetl (by rw [List.length_set]; exact hcl), hset_self hcl]
    have hcl1 : c < H.length + 1 := by omega
    have hcl' : c < H'.length := by omega
    repeat first
      | with_reducible refine AWP.seq ?_
      | ((with_reducible refine AWP.region ?_ ?_); exact rfl)
      | with_reducible refine AWP.block ?_
      | with_reducible refine AWP.skip ?_
      | with_reducible refine AWP.exit ?_
      | with_reducible refine AWP.ret ?_
      | with_reducible refine AWP.label ?_
      | with_reducible refine AWP.goto ?_
      | ((with_reducible refine AWP.condT ?_ ?_); focus (simp only [ev, lk_cons, ↓reduceIte, Nat.reduceEqDiff]; done))
      | ((with_reducible refine AWP.condF ?_ ?_); focus (simp only [ev, lk_cons, ↓reduceIte, Nat.reduceEqDiff]; done))
      | simp only [go_sem, ↓reduceIte, Nat.reduceEqDiff, reduceCtorEq, Nat.reduceAdd, Int.reduceEq, Int.reduceBNe, Int.reduceBEq, Int.reduceToNat, Int.reduceLT, Int.reduceLE, Int.reduceGT, Int.reduceGE, Nat.reduceSub, Nat.reduceBEq, Nat.reduceBNe, Int.reduceAdd, Int.reduceSub, Int.reduceMul, Int.reduceNeg, Nat.reduceMul, Nat.reduceLeDiff, Nat.reduceLT, hc', hcl1, hcl', hlen', hgetl, hsetl]
      | simp (disch := omega) only [wi64, wu8, wu16, wu32, wu64, Int.tdiv_eq_ediv_of_nonneg, Int.tmod_eq_emod_of_nonneg]
      | with_reducible_and_instances exact finR
      | ((with_reducible refine finR' ?_ ?_) <;> rfl)
      | ((with_reducible refine finD hsc (NRel.of_plain ?_)); exact rfl)
    exact ⟨_, _, .refl _ _ _, rfl, note_fin c C lv _ S1 [] [] m d H H' hC hlen' (fun j hj hjc _ => by rw [hH' j (by simp), hgetl (by rw [List.length_set]; exact hj), hset_ne (Ne.symm hjc)]) hput⟩
  · have hic : c ≠ i := fun e => hn2 (by rw [e]; simp)
    have hil := lt_of_get hi
    have hApp : ∀ q : List (Int × Int), cs.length = off + q.length * 2 → True := fun _ _ => trivial
    rcases q with _ | ⟨⟨m0, d0⟩, q⟩
    · have hput : (C.noteL d).past = [] ++ [(m, d)] := by
        show putL (C.now / 60000) d (keptL (C.now / 60000) C.past) = _
        rw [hm, ← hk]; rfl
      repeat first
        | with_reducible refine AWP.seq ?_
        | ((with_reducible refine AWP.region ?_ ?_); exact rfl)
        | with_reducible refine AWP.block ?_
        | with_reducible refine AWP.skip ?_
        | with_reducible refine AWP.exit ?_
        | with_reducible refine AWP.ret ?_
        | with_reducible refine AWP.label ?_
        | with_reducible refine AWP.goto ?_
        | ((with_reducible refine AWP.condT ?_ ?_); focus (simp only [ev, lk_cons, ↓reduceIte, Nat.reduceEqDiff]; done))
        | ((with_reducible refine AWP.condF ?_ ?_); focus (simp only [ev, lk_cons, ↓reduceIte, Nat.reduceEqDiff]; done))
        | simp only [go_sem, ↓reduceIte, Nat.reduceEqDiff, reduceCtorEq, Nat.reduceAdd, Int.reduceEq, Int.reduceBNe, Int.reduceBEq, Int.reduceToNat, Int.reduceLT, Int.reduceLE, Int.reduceGT, Int.reduceGE, Nat.reduceSub, Nat.reduceBEq, Nat.reduceBNe, Int.reduceAdd, Int.reduceSub, Int.reduceMul, Int.reduceNeg, Nat.reduceMul, Nat.reduceLeDiff, Nat.reduceLT, hgc]
        | simp (disch := omega) only [wi64, wu8, wu16, wu32, wu64, Int.tdiv_eq_ediv_of_nonneg, Int.tmod_eq_emod_of_nonneg]
        | with_reducible_and_instances exact finR
        | ((with_reducible refine finR' ?_ ?_) <;> rfl)
        | ((with_reducible refine finD hsc (NRel.of_plain ?_)); exact rfl)
      have hAp : OwnL (H.set c (.cells [.int .i64 C.now, .int .i64 C.halved, .bool C.ever, .int .i64 C.target, .int .i64 C.limit, lv, .int .i64 4, .slice (some ⟨i, off, none⟩) 0 0] ⟨70, 0, true, 0, none⟩) ++ [.cells [.int .i64 m, .int .i64 d] ⟨89, 0, true, 0, none⟩]) 89 2 0 [] (.slice (some ⟨i, off, none⟩) 0 0) [i] :=
        .inr ⟨i, off, cs, rfl, by rw [hgetl (by rw [List.length_set]; exact hil), hset_ne hic]; exact hi, by simpa using hcs, hd, rfl⟩
      refine hAp.append (by decide) (by omega) (by omega) fun H' hlen hH' => ?_
      have hlen' : H'.length = H.length + 1 := by rw [hlen]; simp
      have hc' : H'[c]? = some (.cells [.int .i64 C.now, .int .i64 C.halved, .bool C.ever, .int .i64 C.target, .int .i64 C.limit, lv, .int .i64 4, .slice (some ⟨i, off, none⟩) 0 0] ⟨70, 0, true, 0, none⟩) := by
        rw [hH' c (by simpa using hic), hgetl (by rw [List.length_set]; exact hcl), hset_self hcl]
      have hcl1 : c < H.length + 1 := by omega
      have hcl' : c < H'.length := by omega
      repeat first
        | with_reducible refine AWP.seq ?_
        | ((with_reducible refine AWP.region ?_ ?_); exact rfl)
        | with_reducible refine AWP.block ?_
        | with_reducible refine AWP.skip ?_
        | with_reducible refine AWP.exit ?_
        | with_reducible refine AWP.ret ?_
        | with_reducible refine AWP.label ?_
        | with_reducible refine AWP.goto ?_
        | ((with_reducible refine AWP.condT ?_ ?_); focus (simp only [ev, lk_cons, ↓reduceIte, Nat.reduceEqDiff]; done))
        | ((with_reducible refine AWP.condF ?_ ?_); focus (simp only [ev, lk_cons, ↓reduceIte, Nat.reduceEqDiff]; done))
        | simp only [go_sem, ↓reduceIte, Nat.reduceEqDiff, reduceCtorEq, Nat.reduceAdd, Int.reduceEq, Int.reduceBNe, Int.reduceBEq, Int.reduceToNat, Int.reduceLT, Int.reduceLE, Int.reduceGT, Int.reduceGE, Nat.reduceSub, Nat.reduceBEq, Nat.reduceBNe, Int.reduceAdd, Int.reduceSub, Int.reduceMul, Int.reduceNeg, Nat.reduceMul, Nat.reduceLeDiff, Nat.reduceLT, hc', hcl1, hcl', hlen', hgetl, hsetl]
        | simp (disch := omega) only [wi64, wu8, wu16, wu32, wu64, Int.tdiv_eq_ediv_of_nonneg, Int.tmod_eq_emod_of_nonneg]
        | with_reducible_and_instances exact finR
        | ((with_reducible refine finR' ?_ ?_) <;> rfl)
        | ((with_reducible refine finD hsc (NRel.of_plain ?_)); exact rfl)
      exact ⟨_, _, .refl _ _ _, rfl, note_fin c C lv _ S1 [i] [] m d H H' hC hlen' (fun j hj hjc hj2 => by rw [hH' j hj2, hgetl (by rw [List.length_set]; exact hj), hset_ne (Ne.symm hjc)]) hput⟩
    · have hw9 : IntKind.i64.wrap (m - 9) = m - 9 := IntWalk.i64_in _ (by omega)
      have hlen : ((q.length + 1 : Nat) : Int) > 0 := by omega
      have hlen2 : (0 : Int) < ((q.length + 1 : Nat) : Int) := hlen
      have hlen3 : (1 : Int) ≤ ((q.length + 1 : Nat) : Int) := hlen
      have hlen4 : ((q.length + 1 : Nat) : Int) ≤ ((q.length + 1 : Nat) : Int) := Int.le_refl _
      have hlen5 : (((q.length + 1 : Nat) : Int) == 0) = false := by simp; omega
      have hlen6 : IntKind.i64.wrap (((q.length + 1 : Nat) : Int) - 1) = (q.length : Nat) := by
        simp only [List.length_cons] at hq
        rw [IntWalk.i64_in _ (by omega)]; omega
      have hlen7 : (q.length : Int) < ((q.length + 1 : Nat) : Int) := by omega
      have hg0 : cs[off]? = some (.int .i64 m0) := by
        have : (cs.drop off)[0]? = some (.int .i64 m0) := by rw [hd]; rfl
        simpa using this
      by_cases hlt : m0 < m - 9
      · repeat first
          | with_reducible refine AWP.seq ?_
          | ((with_reducible refine AWP.region ?_ ?_); exact rfl)
          | with_reducible refine AWP.block ?_
          | with_reducible refine AWP.skip ?_
          | with_reducible refine AWP.exit ?_
          | with_reducible refine AWP.ret ?_
          | with_reducible refine AWP.label ?_
          | with_reducible refine AWP.goto ?_
          | ((with_reducible refine AWP.condT ?_ ?_); focus (simp only [ev, lk_cons, ↓reduceIte, Nat.reduceEqDiff]; done))
          | ((with_reducible refine AWP.condF ?_ ?_); focus (simp only [ev, lk_cons, ↓reduceIte, Nat.reduceEqDiff]; done))
          | simp only [go_sem, ↓reduceIte, Nat.reduceEqDiff, reduceCtorEq, Nat.reduceAdd, Int.reduceEq, Int.reduceBNe, Int.reduceBEq, Int.reduceToNat, Int.reduceLT, Int.reduceLE, Int.reduceGT, Int.reduceGE, Nat.reduceSub, Nat.reduceBEq, Nat.reduceBNe, Int.reduceAdd, Int.reduceSub, Int.reduceMul, Int.reduceNeg, Nat.reduceMul, Nat.reduceLeDiff, Nat.reduceLT, hgc, hlen, hlen2, hlen3, hlen4, hic, hi, hg0, hw9, hlt, hcl, hil, Nat.add_one_sub_one]
          | simp (disch := omega) only [wi64, wu8, wu16, wu32, wu64, Int.tdiv_eq_ediv_of_nonneg, Int.tmod_eq_emod_of_nonneg]
          | with_reducible_and_instances exact finR
          | ((with_reducible refine finR' ?_ ?_) <;> rfl)
          | ((with_reducible refine finD hsc (NRel.of_plain ?_)); exact rfl)
        refine ⟨(q, .slice (some ⟨i, off + 2, none⟩) q.length q.length), Weak.env (by simp [envIn, lk_cons, wth_some]), ?_, ?_, ?_, ?_⟩
        · simp at hq ⊢; omega
        · rw [← hk]; simp only [keptL, if_pos hlt]
        · refine .inr ⟨i, off + 2, cs, rfl, hi, ?_, ?_, rfl⟩
          · simp only [List.length_cons] at hcs; simp only; omega
          · rw [← List.drop_drop, hd]; rfl
        · simp
      · have hkq : keptL m C.past = (m0, d0) :: q := by rw [← hk]; simp only [keptL, if_neg hlt]
        obtain ⟨L, hL⟩ : ∃ L, ((m0, d0) :: q)[q.length]? = some L := ⟨_, List.getElem?_eq_getElem (by simp)⟩
        have hLl : ((m0, d0) :: q).getLast? = some L := by rw [List.getLast?_eq_getElem?]; exact hL
        have hLe : ((m0, d0) :: q)[q.length]'(by simp) = L := by
          have := (List.getElem?_eq_some_iff.1 hL).2; exact this
        have hpg := pastC_get ((m0, d0) :: q) (n := q.length) (by simp)
        rw [hLe, ← hd, List.getElem?_drop, List.getElem?_drop] at hpg
        obtain ⟨hgL1, hgL2⟩ := hpg
        have hcl8 : off + (q.length * 2 + 1) < cs.length := by simp only [List.length_cons] at hcs; omega
        by_cases hLm : L.1 = m
        · have hne : (L.1 != m) = false := by simp [hLm]
          by_cases hb : lessD d L.2
          · repeat first
              | with_reducible refine AWP.seq ?_
              | ((with_reducible refine AWP.region ?_ ?_); exact rfl)
              | with_reducible refine AWP.block ?_
              | with_reducible refine AWP.skip ?_
              | with_reducible refine AWP.exit ?_
              | with_reducible refine AWP.ret ?_
              | with_reducible refine AWP.label ?_
              | with_reducible refine AWP.goto ?_
              | ((with_reducible refine AWP.condT ?_ ?_); focus (simp only [ev, lk_cons, ↓reduceIte, Nat.reduceEqDiff]; done))
              | ((with_reducible refine AWP.condF ?_ ?_); focus (simp only [ev, lk_cons, ↓reduceIte, Nat.reduceEqDiff]; done))
              | with_reducible refine (less _ _ _).use ?_
              | simp only [go_sem, ↓reduceIte, Nat.reduceEqDiff, reduceCtorEq, Nat.reduceAdd, Int.reduceEq, Int.reduceBNe, Int.reduceBEq, Int.reduceToNat, Int.reduceLT, Int.reduceLE, Int.reduceGT, Int.reduceGE, Nat.reduceSub, Nat.reduceBEq, Nat.reduceBNe, Int.reduceAdd, Int.reduceSub, Int.reduceMul, Int.reduceNeg, Nat.reduceMul, Nat.reduceLeDiff, Nat.reduceLT, hgc, hlen, hlen2, hlen4, hlen5, hlen6, hlen7, hic, hi, hg0, hw9, hlt, hcl, hil, hgL1, hgL2, hne, hb]
              | simp (disch := omega) only [wi64, wu8, wu16, wu32, wu64, Int.tdiv_eq_ediv_of_nonneg, Int.tmod_eq_emod_of_nonneg]
              | with_reducible_and_instances exact finR
              | ((with_reducible refine finR' ?_ ?_) <;> rfl)
              | ((with_reducible refine finD hsc (NRel.of_plain ?_)); exact rfl)
            refine ⟨by omega, _, _, .refl _ _ _, rfl, ?_⟩
            have hsp := last_split hLl
            have hdl : ((m0, d0) :: q).dropLast.length = q.length := by simp
            have hput : (C.noteL d).past = ((m0, d0) :: q).dropLast ++ [(L.1, d)] := by
              show putL (C.now / 60000) d (keptL (C.now / 60000) C.past) = _
              rw [hm, hkq]; unfold putL; rw [hLl]; simp only [hLm, if_true, hb]
            have hpl2 : (C.noteL d).past.length = q.length + 1 := by rw [hput, List.length_append, hdl]; rfl
            have hf := fun o o2 => ((Frm.refl (c :: [i]) H).set (i := c) (o := o) (.inl (by simp))).set (i := i) (o := o2) (.inl (by simp))
            refine ⟨.slice (some ⟨i, off, none⟩) (q.length + 1) (q.length + 1), [i], ⟨?_, hC.last.frm (hf _ _) ?_, ?_, hC.n1, hC.n2, hC.n3⟩, hf _ _, fun s hs => .inl hs⟩
            · rw [hset_ne (Ne.symm hic), hset_self hcl]; rfl
            · intro s hs
              have := hC.n3 s hs
              simp at this ⊢
              exact ⟨fun e => hC.n1 (e ▸ hs), this⟩
            · refine .inr ⟨i, off, cs.set (off + (q.length * 2 + 1)) (.int .i64 d), by rw [hpl2], hset_self (by rw [List.length_set]; exact hil), ?_, ?_, rfl⟩
              · rw [List.length_set, hpl2, hcs]; rfl
              · rw [List.drop_set, if_neg (by omega), Nat.add_sub_cancel_left, hd, hput]
                conv => lhs; rw [hsp]
                have := pastC_last ((m0, d0) :: q).dropLast L d
                rw [hdl] at this; exact this
          · repeat first
              | with_reducible refine AWP.seq ?_
              | ((with_reducible refine AWP.region ?_ ?_); exact rfl)
              | with_reducible refine AWP.block ?_
              | with_reducible refine AWP.skip ?_
              | with_reducible refine AWP.exit ?_
              | with_reducible refine AWP.ret ?_
              | with_reducible refine AWP.label ?_
              | with_reducible refine AWP.goto ?_
              | ((with_reducible refine AWP.condT ?_ ?_); focus (simp only [ev, lk_cons, ↓reduceIte, Nat.reduceEqDiff]; done))
              | ((with_reducible refine AWP.condF ?_ ?_); focus (simp only [ev, lk_cons, ↓reduceIte, Nat.reduceEqDiff]; done))
              | with_reducible refine (less _ _ _).use ?_
              | simp only [go_sem, ↓reduceIte, Nat.reduceEqDiff, reduceCtorEq, Nat.reduceAdd, Int.reduceEq, Int.reduceBNe, Int.reduceBEq, Int.reduceToNat, Int.reduceLT, Int.reduceLE, Int.reduceGT, Int.reduceGE, Nat.reduceSub, Nat.reduceBEq, Nat.reduceBNe, Int.reduceAdd, Int.reduceSub, Int.reduceMul, Int.reduceNeg, Nat.reduceMul, Nat.reduceLeDiff, Nat.reduceLT, hgc, hlen, hlen2, hlen4, hlen5, hlen6, hlen7, hic, hi, hg0, hw9, hlt, hcl, hil, hgL1, hgL2, hne, hb]
              | simp (disch := omega) only [wi64, wu8, wu16, wu32, wu64, Int.tdiv_eq_ediv_of_nonneg, Int.tmod_eq_emod_of_nonneg]
              | with_reducible_and_instances exact finR
              | ((with_reducible refine finR' ?_ ?_) <;> rfl)
              | ((with_reducible refine finD hsc (NRel.of_plain ?_)); exact rfl)
            have hput : (C.noteL d).past = (m0, d0) :: q := by
              show putL (C.now / 60000) d (keptL (C.now / 60000) C.past) = _
              rw [hm, hkq]; unfold putL; rw [hLl]; simp only [hLm, if_true, hb, if_false]
            have hf := fun o => (Frm.refl (c :: [i]) H).set (i := c) (o := o) (.inl (by simp))
            refine ⟨_, _, .refl _ _ _, rfl, .slice (some ⟨i, off, none⟩) (q.length + 1) (q.length + 1), [i], ⟨?_, hC.last.frm (hf _) ?_, ?_, hC.n1, hC.n2, hC.n3⟩, hf _, fun s hs => .inl hs⟩
            · rw [hset_self hcl]; rfl
            · intro s hs
              have := hC.n3 s hs
              simp at this ⊢
              exact ⟨fun e => hC.n1 (e ▸ hs), this⟩
            · exact .inr ⟨i, off, cs, by rw [hput]; rfl, by rw [hset_ne hic]; exact hi, by rw [hput]; exact hcs, by rw [hput]; exact hd, rfl⟩
        · have hne : (L.1 != m) = true := by simp [hLm]
          repeat first
            | with_reducible refine AWP.seq ?_
            | ((with_reducible refine AWP.region ?_ ?_); exact rfl)
            | with_reducible refine AWP.block ?_
            | with_reducible refine AWP.skip ?_
            | with_reducible refine AWP.exit ?_
            | with_reducible refine AWP.ret ?_
            | with_reducible refine AWP.label ?_
            | with_reducible refine AWP.goto ?_
            | ((with_reducible refine AWP.condT ?_ ?_); focus (simp only [ev, lk_cons, ↓reduceIte, Nat.reduceEqDiff]; done))
            | ((with_reducible refine AWP.condF ?_ ?_); focus (simp only [ev, lk_cons, ↓reduceIte, Nat.reduceEqDiff]; done))
            | simp only [go_sem, ↓reduceIte, Nat.reduceEqDiff, reduceCtorEq, Nat.reduceAdd, Int.reduceEq, Int.reduceBNe, Int.reduceBEq, Int.reduceToNat, Int.reduceLT, Int.reduceLE, Int.reduceGT, Int.reduceGE, Nat.reduceSub, Nat.reduceBEq, Nat.reduceBNe, Int.reduceAdd, Int.reduceSub, Int.reduceMul, Int.reduceNeg, Nat.reduceMul, Nat.reduceLeDiff, Nat.reduceLT, hgc, hlen, hlen2, hlen4, hlen5, hlen6, hlen7, hic, hi, hg0, hw9, hlt, hcl, hil, hgL1, hgL2, hne]
            | simp (disch := omega) only [wi64, wu8, wu16, wu32, wu64, Int.tdiv_eq_ediv_of_nonneg, Int.tmod_eq_emod_of_nonneg]
            | with_reducible_and_instances exact finR
            | ((with_reducible refine finR' ?_ ?_) <;> rfl)
            | ((with_reducible refine finD hsc (NRel.of_plain ?_)); exact rfl)
          have hput : (C.noteL d).past = ((m0, d0) :: q) ++ [(m, d)] := by
            show putL (C.now / 60000) d (keptL (C.now / 60000) C.past) = _
            rw [hm, hkq]
            exact putL_new _ _ _ fun l hl => by rw [hLl] at hl; cases hl; exact hLm
          have hAp : OwnL (H.set c (.cells [.int .i64 C.now, .int .i64 C.halved, .bool C.ever, .int .i64 C.target, .int .i64 C.limit, lv, .int .i64 4, .slice (some ⟨i, off, none⟩) (q.length + 1) (q.length + 1)] ⟨70, 0, true, 0, none⟩) ++ [.cells [.int .i64 m, .int .i64 d] ⟨89, 0, true, 0, none⟩]) 89 2 (q.length + 1) (pastC ((m0, d0) :: q)) (.slice (some ⟨i, off, none⟩) (q.length + 1) (q.length + 1)) [i] :=
            .inr ⟨i, off, cs, rfl, by rw [hgetl (by rw [List.length_set]; exact hil), hset_ne hic]; exact hi, hcs, hd, rfl⟩
          simp only [List.length_cons] at hq
          refine hAp.append (by decide) (by omega) (by omega) fun H' hlenH hH' => ?_
          have hlen' : H'.length = H.length + 1 := by rw [hlenH]; simp
          have hc' : H'[c]? = some (.cells [.int .i64 C.now, .int .i64 C.halved, .bool C.ever, .int .i64 C.target, .int .i64 C.limit, lv, .int .i64 4, .slice (some ⟨i, off, none⟩) (q.length + 1) (q.length + 1)] ⟨70, 0, true, 0, none⟩) := by
            rw [hH' c (by simpa using hic), hgetl (by rw [List.length_set]; exact hcl), hset_self hcl]
          have hcl1 : c < H.length + 1 := by omega
          have hcl' : c < H'.length := by omega
          repeat first
            | with_reducible refine AWP.seq ?_
            | ((with_reducible refine AWP.region ?_ ?_); exact rfl)
            | with_reducible refine AWP.block ?_
            | with_reducible refine AWP.skip ?_
            | with_reducible refine AWP.exit ?_
            | with_reducible refine AWP.ret ?_
            | with_reducible refine AWP.label ?_
            | with_reducible refine AWP.goto ?_
            | ((with_reducible refine AWP.condT ?_ ?_); focus (simp only [ev, lk_cons, ↓reduceIte, Nat.reduceEqDiff]; done))
            | ((with_reducible refine AWP.condF ?_ ?_); focus (simp only [ev, lk_cons, ↓reduceIte, Nat.reduceEqDiff]; done))
            | simp only [go_sem, ↓reduceIte, Nat.reduceEqDiff, reduceCtorEq, Nat.reduceAdd, Int.reduceEq, Int.reduceBNe, Int.reduceBEq, Int.reduceToNat, Int.reduceLT, Int.reduceLE, Int.reduceGT, Int.reduceGE, Nat.reduceSub, Nat.reduceBEq, Nat.reduceBNe, Int.reduceAdd, Int.reduceSub, Int.reduceMul, Int.reduceNeg, Nat.reduceMul, Nat.reduceLeDiff, Nat.reduceLT, hc', hcl1, hcl', hlen', hgetl, hsetl]
            | simp (disch := omega) only [wi64, wu8, wu16, wu32, wu64, Int.tdiv_eq_ediv_of_nonneg, Int.tmod_eq_emod_of_nonneg]
            | with_reducible_and_instances exact finR
            | ((with_reducible refine finR' ?_ ?_) <;> rfl)
            | ((with_reducible refine finD hsc (NRel.of_plain ?_)); exact rfl)
          exact ⟨_, _, .refl _ _ _, rfl, note_fin c C lv _ S1 [i] ((m0, d0) :: q) m d H H' hC hlen' (fun j hj hjc hj2 => by rw [hH' j hj2, hgetl (by rw [List.length_set]; exact hj), hset_ne (Ne.symm hjc)]) hput⟩
end Go.Proofs.Ytoikchnpflnehaa
