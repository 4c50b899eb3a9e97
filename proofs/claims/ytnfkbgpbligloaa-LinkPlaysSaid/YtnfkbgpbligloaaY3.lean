/-
  The specification's links: Take.
-/
import Derived.Test.YtnfkbgpbligloaaY2
set_option linter.unusedVariables false
set_option linter.unusedSimpArgs false
set_option maxRecDepth 20000
set_option maxHeartbeats 4000000
namespace Go.Proofs.Ytnfkbgpbligloaa
open Go Go.Aw Go.Proofs
theorem appendTo_zero {P : Program} {e : TypeId} {size y i len cap off : Nat} {k : CK} {cs news : List Value} {H : AHeap} {K : Value → AHeap → Prop} (hi : H[i]? = some (.cells cs k)) (hc : len ≤ cap)
    (hk : K (.slice (some ⟨i, off, none⟩) len cap) H) : appendTo P e size y (.slice (some ⟨i, off, none⟩) len cap) 0 news H K := by
  unfold appendTo
  simp only [hi]
  exact ⟨fun _ => ⟨fun _ => hk, fun h => absurd rfl h⟩, fun h => absurd hc h⟩
theorem fls_drop (l : List Cm) : ∀ k, (flsC l).drop (k * 7) = flsC (l.drop k) := by
  induction l with
  | nil => intro k; simp [flsC]
  | cons x l ih =>
    intro k
    cases k with
    | zero => simp
    | succ k =>
      have e : flsC (x :: l) = flC x ++ flsC l := rfl
      rw [e, show (k + 1) * 7 = 7 + k * 7 by omega, ← List.drop_drop, List.drop_succ_cons]
      exact ih k
theorem fls_take (l : List Cm) : ∀ k, (flsC l).take (k * 7) = flsC (l.take k) := by
  induction l with
  | nil => intro k; simp [flsC]
  | cons x l ih =>
    intro k
    cases k with
    | zero => simp [flsC]
    | succ k =>
      have e : flsC (x :: l) = flC x ++ flsC l := rfl
      have e2 : flsC ((x :: l).take (k + 1)) = flC x ++ flsC (l.take k) := rfl
      have e3 : (flC x).length = 7 := rfl
      rw [e, e2, show (k + 1) * 7 = 7 + k * 7 by omega, ← e3, List.take_length_add_append, e3, ih k]
theorem flsC_flat (l : List Cm) : (flsC l).all flat = true := by
  induction l with
  | nil => rfl
  | cons x l ih =>
    have e : flsC (x :: l) = flC x ++ flsC l := rfl
    rw [e, List.all_append, ih]; rfl
structure RTake (H : AHeap) (i : Nat) (S : List Nat) (r : Rk) (now : Int) (L : List Cm) (vo : Value) (H1 : AHeap) : Prop where
  out : ∃ So, OwnL H1 42 6 (L.takeWhile fun x => decide (x.time ≤ now)).length (pcsC ((L.takeWhile fun x => decide (x.time ≤ now)).map (·.p))) vo So ∧ ∀ x ∈ So, H.length ≤ x
  to : ∃ u', u'.Perm (L.dropWhile fun x => decide (x.time ≤ now)) ∧ RkTo H i S { r with now := now, under := u', arr := r.arr + (L.takeWhile fun x => decide (x.time ≤ now)).length } H1
/-- In the room: what a removal leaves. -/
theorem OwnC.remove {H : AHeap} {j o cap : Nat} {cs : List Value} {u : List Cm} {m a : Nat} (hm : m = u.length) (hc : m ≤ cap) (hj : H[j]? = some (.cells cs ⟨94, 7, true, 0, none⟩)) (hcl : cs.length = o + cap * 7) (hd : (cs.drop o).take (m * 7) = flsC u) (ha : a < m) :
    (cs.drop (o + (a + 1) * 7)).take ((m - (a + 1)) * 7) = flsC (u.drop (a + 1)) ∧
    OwnC (H.set j (.cells (putCells cs (o + a * 7) (flsC (u.drop (a + 1)))) ⟨94, 7, true, 0, none⟩)) 94 7 (m - 1) (flsC (u.eraseIdx a)) (.slice (some ⟨j, o, none⟩) (m - 1) cap) [j] := by
  have hjl := lt_of_get hj
  have hnews : (cs.drop (o + (a + 1) * 7)).take ((m - (a + 1)) * 7) = flsC (u.drop (a + 1)) := by
    rw [← fls_drop, ← hd, List.drop_take, List.drop_drop]
    congr 1
    omega
  have hnl : (flsC (u.drop (a + 1))).length = (m - (a + 1)) * 7 := by rw [flsC_len, List.length_drop, hm]
  have hpc := putCells_eq (flsC (u.drop (a + 1))) cs (o + a * 7) (by rw [hnl]; omega)
  have hel : u.eraseIdx a = u.take a ++ u.drop (a + 1) := List.eraseIdx_eq_take_drop_succ u a
  have hf : flsC (u.eraseIdx a) = flsC (u.take a) ++ flsC (u.drop (a + 1)) := by rw [hel]; unfold flsC; rw [List.flatMap_append]
  refine ⟨hnews, .inr ⟨j, o, cap, _, rfl, by omega, hset_self hjl, by rw [putCells_length, hcl], ?_, rfl⟩⟩
  have e1 : (cs.take (o + a * 7)).length = o + a * 7 := by rw [List.length_take]; omega
  have e3 : (cs.take (o + a * 7)).drop o = flsC (u.take a) := by
    rw [← fls_take, ← hd, List.drop_take, List.take_take]
    congr 1
    omega
  have e4 : (flsC (u.take a)).length = a * 7 := by rw [flsC_len, List.length_take, hm] at *; omega
  rw [hpc, hf, List.append_assoc, List.drop_append_of_le_length (by rw [e1]; omega), e3, ← List.append_assoc]
  rw [List.take_append_of_le_length (by rw [List.length_append, e4, hnl]; omega)]
  rw [List.take_of_length_le (by rw [List.length_append, e4, hnl]; omega)]
theorem rTakeNo {H : AHeap} {i : Nat} {r : Rk} {S : List Nat} (h : RkAt H i r S) (now : Int) (hb : rBad r now = true) : ARet Try.prog 39 [.pointer (some ⟨i, 0, none⟩), .int .i64 now] H (.tuple ⟨[.slice none 0 0, .int .i64 7]⟩) H := by
  have hA := rAt h now
  rw [hb, if_pos rfl] at hA
  refine AC.enter Try.func39 rfl (by kernel_rfl) 76 rfl [.tmp 4, .tmp 5] rfl (by simp) fun hsc B => ?_
  repeat first
    | with_reducible refine AWP.seq ?_
    | ((with_reducible refine AWP.region ?_ ?_); exact rfl)
    | with_reducible refine AWP.block ?_
    | with_reducible refine AWP.skip ?_
    | with_reducible refine AWP.exit ?_
    | with_reducible refine AWP.ret ?_
    | with_reducible refine AWP.label ?_
    | with_reducible refine AWP.goto ?_
    | ((with_reducible refine AWP.condT ?_ ?_); focus (simp only [ev, lk_cons, ↓reduceIte, Nat.reduceEqDiff]; done))
    | ((with_reducible refine AWP.condF ?_ ?_); focus (simp only [ev, lk_cons, ↓reduceIte, Nat.reduceEqDiff]; done))
    | with_reducible refine hA.use ?_
    | simp only [go_sem, ↓reduceIte, Nat.reduceEqDiff, reduceCtorEq, Nat.reduceAdd, Int.reduceEq, Int.reduceBNe, Int.reduceBEq, Int.reduceToNat, Int.reduceLT, Int.reduceLE, Int.reduceGT, Int.reduceGE, Nat.reduceSub, Nat.reduceBEq, Nat.reduceBNe, Int.reduceAdd, Int.reduceSub, Int.reduceMul, Int.reduceNeg, Nat.reduceMul, Nat.reduceLeDiff, Nat.reduceLT]
    | simp (disch := omega) only [wi64, wu8, wu16, wu32, wu64, Int.tdiv_eq_ediv_of_nonneg, Int.tmod_eq_emod_of_nonneg]
    | with_reducible_and_instances exact finR
    | ((with_reducible refine finR' ?_ ?_) <;> rfl)
    | ((with_reducible refine finD hsc (NRel.of_plain ?_)); exact rfl)
theorem rTake {H : AHeap} {i : Nat} {r : Rk} {S : List Nat} (h : RkAt H i r S) (now : Int) (hb : rBad r now = false) (hwf : ∀ x ∈ r.under, x.wf) (hkey : ∀ a ∈ r.under, ∀ b ∈ r.under, ¬ bef a b → ¬ bef b a → a = b) (ha : 0 ≤ r.arr ∧ r.arr < 1152921504606846976) (hsz : r.under.length < 1099511627776) (L : List Cm) (hL : L.Perm r.under) (hLs : L.Pairwise fun a b => ¬ bef b a) :
    AC Try.prog 39 [.pointer (some ⟨i, 0, none⟩), .int .i64 now] H (fun v H1 => ∃ vo, v = .ret (.tuple ⟨[vo, .int .i64 0]⟩) ∧ RTake H i S r now L vo H1) := by
  have hA := rAt h now
  rw [hb] at hA
  simp only [Bool.false_eq_true, if_false] at hA
  obtain ⟨vn, va, vu, Sa, Su, hp, rfl⟩ := h
  have hi := hp.at_
  have hil := lt_of_get hi
  have hLl : L.length = r.under.length := hL.length_eq
  let st : Nat → List Cm → Rk := fun k u => { r with now := now, under := u, arr := r.arr + (k : Nat) }
  let H1 : AHeap := H.set i (.cells ((st 0 r.under).c vn va vu) ⟨83, 0, true, 0, none⟩)
  have hH1 : H1 = H.set i (.cells ((st 0 r.under).c vn va vu) ⟨83, 0, true, 0, none⟩) := rfl
  have hf1 : Frm [i] H H1 := Frm.set (.refl _ _) (.inl (by simp))
  have hp1 : RkP H1 i (st 0 r.under) vn va vu Sa Su := hp.to' hf1 (hset_self hil) rfl rfl rfl
  have hl1 : H1.length = H.length := List.length_set
  have hF1 := first (r := st 0 r.under) ⟨_, _, _, _, _, hp1, rfl⟩ hsz hwf
  have hz : ((0 : Nat) : Int) = 0 := rfl
  unfold Rk.c at hi hH1
  simp only [st, hz, Int.add_zero] at hH1
  have hf1' : Frm (i :: (Sa ++ Su)) H H1 := hf1.mono fun t ht => by rw [List.mem_singleton.1 ht]; exact List.mem_cons_self ..
  refine AC.enter Try.func39 rfl (by kernel_rfl) 76 rfl [.tmp 4, .tmp 5] rfl (by simp) fun hsc B => ?_
  repeat first
    | with_reducible refine AWP.seq ?_
    | ((with_reducible refine AWP.region ?_ ?_); exact rfl)
    | with_reducible refine AWP.block ?_
    | with_reducible refine AWP.skip ?_
    | with_reducible refine AWP.exit ?_
    | with_reducible refine AWP.ret ?_
    | with_reducible refine AWP.label ?_
    | with_reducible refine AWP.goto ?_
    | ((with_reducible refine AWP.condT ?_ ?_); focus (simp only [ev, lk_cons, ↓reduceIte, Nat.reduceEqDiff]; done))
    | ((with_reducible refine AWP.condF ?_ ?_); focus (simp only [ev, lk_cons, ↓reduceIte, Nat.reduceEqDiff]; done))
    | with_reducible refine hA.use ?_
    | simp only [go_sem, ↓reduceIte, Nat.reduceEqDiff, reduceCtorEq, Nat.reduceAdd, Int.reduceEq, Int.reduceBNe, Int.reduceBEq, Int.reduceToNat, Int.reduceLT, Int.reduceLE, Int.reduceGT, Int.reduceGE, Nat.reduceSub, Nat.reduceBEq, Nat.reduceBNe, Int.reduceAdd, Int.reduceSub, Int.reduceMul, Int.reduceNeg, Nat.reduceMul, Nat.reduceLeDiff, Nat.reduceLT, hi, hil]
    | simp (disch := omega) only [wi64, wu8, wu16, wu32, wu64, Int.tdiv_eq_ediv_of_nonneg, Int.tmod_eq_emod_of_nonneg]
    | with_reducible_and_instances exact finR
    | ((with_reducible refine finR' ?_ ?_) <;> rfl)
    | ((with_reducible refine finD hsc (NRel.of_plain ?_)); exact rfl)
  rw [← hH1]
  refine AC.mono hF1 ?_
  rintro v H1' ⟨at0, rfl, rfl, hF0⟩
  repeat first
    | with_reducible refine AWP.seq ?_
    | ((with_reducible refine AWP.region ?_ ?_); exact rfl)
    | with_reducible refine AWP.block ?_
    | with_reducible refine AWP.skip ?_
    | with_reducible refine AWP.exit ?_
    | with_reducible refine AWP.ret ?_
    | with_reducible refine AWP.label ?_
    | with_reducible refine AWP.goto ?_
    | ((with_reducible refine AWP.condT ?_ ?_); focus (simp only [ev, lk_cons, ↓reduceIte, Nat.reduceEqDiff]; done))
    | ((with_reducible refine AWP.condF ?_ ?_); focus (simp only [ev, lk_cons, ↓reduceIte, Nat.reduceEqDiff]; done))
    | simp only [go_sem, ↓reduceIte, Nat.reduceEqDiff, reduceCtorEq, Nat.reduceAdd, Int.reduceEq, Int.reduceBNe, Int.reduceBEq, Int.reduceToNat, Int.reduceLT, Int.reduceLE, Int.reduceGT, Int.reduceGE, Nat.reduceSub, Nat.reduceBEq, Nat.reduceBNe, Int.reduceAdd, Int.reduceSub, Int.reduceMul, Int.reduceNeg, Nat.reduceMul, Nat.reduceLeDiff, Nat.reduceLT]
    | simp (disch := omega) only [wi64, wu8, wu16, wu32, wu64, Int.tdiv_eq_ediv_of_nonneg, Int.tmod_eq_emod_of_nonneg]
    | with_reducible_and_instances exact finR
    | ((with_reducible refine finR' ?_ ?_) <;> rfl)
    | ((with_reducible refine finD hsc (NRel.of_plain ?_)); exact rfl)
  refine AWP.loopP (fun p : Nat × List Cm × Int × Value × Value × AHeap => ⟨[(0, .pointer (some ⟨i, 0, none⟩)), (1, .int .i64 now), (7, p.2.2.2.1), (8, .int .i64 p.2.2.1)], [], p.2.2.2.2.2⟩)
    (fun p => p.1 ≤ L.length ∧ (∀ x ∈ L.take p.1, x.time ≤ now) ∧ p.2.1.Perm (L.drop p.1) ∧ Fst p.2.1 p.2.1.length p.2.2.1 ∧ RkP p.2.2.2.2.2 i (st p.1 p.2.1) vn va p.2.2.2.2.1 Sa Su ∧ Frm (i :: (Sa ++ Su)) H1 p.2.2.2.2.2 ∧ ∃ So, OwnL p.2.2.2.2.2 42 6 p.1 (pcsC ((L.take p.1).map (·.p))) p.2.2.2.1 So ∧ ∀ x ∈ So, H1.length ≤ x)
    (fun p => L.length - p.1) (0, r.under, at0, .slice none 0 0, vu, H1) ?_ ⟨Nat.zero_le _, by simp, hL.symm, hF0, hp1, .refl _ _, [], .inl ⟨rfl, rfl, rfl, rfl⟩, by simp⟩ ?_
  · exact Weak.env (by simp [envIn, lk_cons, wth_some])
  rintro ⟨k, u, at_, vo, vu', H3⟩ ⟨hk, htk, hperm, hF, hP, hf3, So, hOo, hSo⟩
  simp only at hk htk hperm hF hP hf3 hOo hSo ⊢
  have hul : u.length = L.length - k := by rw [hperm.length_eq, List.length_drop]
  have hi3 := hP.at_
  have hil3 := lt_of_get hi3
  have hum : ∀ x ∈ u, x ∈ r.under := fun x hx => hL.mem_iff.1 (List.mem_of_mem_drop (hperm.mem_iff.1 hx))
  unfold Rk.c at hi3
  simp only [st] at hi3
  have hfin : (∀ x, L[k]? = some x → ¬ x.time ≤ now) → RTake H i (i :: (Sa ++ Su)) r now L vo H3 := fun hlast => by
    obtain ⟨e1, e2⟩ := tw now L k hk htk (fun h => hlast _ (List.getElem?_eq_getElem h))
    have hl : (L.take k).length = k := by rw [List.length_take]; omega
    refine ⟨⟨So, by rw [← e1, hl]; exact hOo, fun x hx => by have := hSo x hx; omega⟩, u, e2 ▸ hperm, ?_⟩
    rw [← e1, hl]
    exact RkTo.trans hf1' (fun t ht => .inl ht) ⟨_, ⟨_, _, _, _, _, hP, rfl⟩, hf3, fun t ht => .inl ht⟩
  rcases hF with ⟨h4, rfl⟩ | ⟨a, hau, han, rfl, hmin⟩
  · repeat first
      | with_reducible refine AWP.seq ?_
      | ((with_reducible refine AWP.region ?_ ?_); exact rfl)
      | with_reducible refine AWP.block ?_
      | with_reducible refine AWP.skip ?_
      | with_reducible refine AWP.exit ?_
      | with_reducible refine AWP.ret ?_
      | with_reducible refine AWP.label ?_
      | with_reducible refine AWP.goto ?_
      | ((with_reducible refine AWP.condT ?_ ?_); focus (simp only [ev, lk_cons, ↓reduceIte, Nat.reduceEqDiff]; done))
      | ((with_reducible refine AWP.condF ?_ ?_); focus (simp only [ev, lk_cons, ↓reduceIte, Nat.reduceEqDiff]; done))
      | simp only [go_sem, ↓reduceIte, Nat.reduceEqDiff, reduceCtorEq, Nat.reduceAdd, Int.reduceEq, Int.reduceBNe, Int.reduceBEq, Int.reduceToNat, Int.reduceLT, Int.reduceLE, Int.reduceGT, Int.reduceGE, Nat.reduceSub, Nat.reduceBEq, Nat.reduceBNe, Int.reduceAdd, Int.reduceSub, Int.reduceMul, Int.reduceNeg, Nat.reduceMul, Nat.reduceLeDiff, Nat.reduceLT]
      | simp (disch := omega) only [wi64, wu8, wu16, wu32, wu64, Int.tdiv_eq_ediv_of_nonneg, Int.tmod_eq_emod_of_nonneg]
      | with_reducible_and_instances exact finR
      | ((with_reducible refine finR' ?_ ?_) <;> rfl)
      | ((with_reducible refine finD hsc (NRel.of_plain ?_)); exact rfl)
    refine ⟨_, _, .refl _ _ _, _, rfl, hfin fun x hx => ?_⟩
    have := lt_of_get hx
    omega
  have hkl : k < L.length := by omega
  have hdk : L.drop k = L[k] :: L.drop (k + 1) := List.drop_eq_getElem_cons hkl
  have hmem : u[a] ∈ u := List.getElem_mem hau
  have hLk : L[k] ∈ u := hperm.mem_iff.2 (by rw [hdk]; exact List.mem_cons_self ..)
  have hma : u[a] = L[k] := by
    obtain ⟨b, hb', eb⟩ := List.getElem_of_mem hLk
    have h5 := hmin b hb' hb'
    rw [eb] at h5
    have h6 : ¬ bef u[a] L[k] := by
      have h7 := hperm.mem_iff.1 hmem
      rw [hdk] at h7
      rcases List.mem_cons.1 h7 with h7 | h7
      · rw [h7]; unfold bef; omega
      · have h8 := hLs.sublist (List.drop_sublist k L)
        rw [hdk, List.pairwise_cons] at h8
        exact h8.1 _ h7
    exact hkey _ (hum _ hmem) _ (hum _ hLk) h6 h5
  have hna : ((a : Int) ≥ 0) = True := by simp <;> omega
  have ha0 : (a : Int) < (u.length : Int) := by omega
  have hund : OwnC H3 94 7 u.length (flsC u) vu' Su := hP.und
  obtain ⟨j, o, cap, cs, rfl, hcap, hj, hcl, hSu, hd, hgf⟩ := fl_at hund rfl (by omega)
  obtain ⟨hg, hle⟩ := hgf a hau
  have hjl := lt_of_get hj
  have hwa := hwf _ (hum _ hmem)
  have hg6 : (cs.drop (o + a * 7)).take 6 = u[a].p.c := by
    have e := congrArg (·.take 6) hg
    simp only [List.take_take] at e
    exact e
  have hg4 : cs[o + (a * 7 + 4)]? = some (.int .i64 u[a].p.time) := by
    have e := congrArg (·[4]?) hg
    simp only [List.getElem?_take_of_lt (show 4 < 7 by omega), List.getElem?_drop] at e
    rw [← Nat.add_assoc, e]; rfl
  by_cases hle2 : u[a].p.time ≤ now
  · have hpc : u[a].p.c = [.int .i64 u[a].p.id, .int .i64 u[a].p.size, .int .i64 u[a].p.sent, .int .i64 u[a].p.begun, .int .i64 u[a].p.time, .string (bs u[a].p.body)] := rfl
    rw [hpc] at hg6
    have hle6 : o + (a * 7 + 6) ≤ cs.length := by omega
    repeat first
      | with_reducible refine AWP.seq ?_
      | ((with_reducible refine AWP.region ?_ ?_); exact rfl)
      | with_reducible refine AWP.block ?_
      | with_reducible refine AWP.skip ?_
      | with_reducible refine AWP.exit ?_
      | with_reducible refine AWP.ret ?_
      | with_reducible refine AWP.label ?_
      | with_reducible refine AWP.goto ?_
      | ((with_reducible refine AWP.condT ?_ ?_); focus (simp only [ev, lk_cons, ↓reduceIte, Nat.reduceEqDiff]; done))
      | ((with_reducible refine AWP.condF ?_ ?_); focus (simp only [ev, lk_cons, ↓reduceIte, Nat.reduceEqDiff]; done))
      | simp only [go_sem, ↓reduceIte, Nat.reduceEqDiff, reduceCtorEq, Nat.reduceAdd, Int.reduceEq, Int.reduceBNe, Int.reduceBEq, Int.reduceToNat, Int.reduceLT, Int.reduceLE, Int.reduceGT, Int.reduceGE, Nat.reduceSub, Nat.reduceBEq, Nat.reduceBNe, Int.reduceAdd, Int.reduceSub, Int.reduceMul, Int.reduceNeg, Nat.reduceMul, Nat.reduceLeDiff, Nat.reduceLT, hna, hi3, ha0, hj, hjl, hg4, hle2, hg6, hle6]
      | simp (disch := omega) only [wi64, wu8, wu16, wu32, wu64, Int.tdiv_eq_ediv_of_nonneg, Int.tmod_eq_emod_of_nonneg]
      | with_reducible_and_instances exact finR
      | ((with_reducible refine finR' ?_ ?_) <;> rfl)
      | ((with_reducible refine finD hsc (NRel.of_plain ?_)); exact rfl)
    have hjS : j ∈ Su := by rw [hSu]; exact List.mem_cons_self ..
    have hji : j ≠ i := fun e => hp.iSu (e ▸ hjS)
    have hjH : j < H1.length := hp1.und.lt j hjS
    have hiH : i < H1.length := lt_of_get hp1.at_
    refine (hOo.frm (T := []) (Frm.app) (by simp)).append (by decide) (by omega) (by omega) fun H4 hlen hH4 => ?_
    rw [List.length_append, List.length_singleton] at hlen
    have hiS : i ∉ So := fun h => by have := hSo i h; omega
    have hjS2 : j ∉ So := fun h => by have := hSo j h; omega
    have hi4 := (hH4 i hiS).trans ((hgetl hil3).trans hi3)
    have hj4 := (hH4 j hjS2).trans ((hgetl hjl).trans hj)
    have hil4 := lt_of_get hi4
    have hjl4 := lt_of_get hj4
    have hwa1 : IntKind.i64.wrap ((a : Int) + 1) = ((a + 1 : Nat) : Int) := by rw [wi64 (by omega)]; omega
    have hac : (a : Int) ≤ (cap : Int) := by omega
    have ha1 : ((a + 1 : Nat) : Int) ≤ (u.length : Int) := by omega
    have hlc : (u.length : Int) ≤ (cap : Int) := by omega
    obtain ⟨hnw, hrem⟩ := OwnC.remove (H := H4) rfl hcap hj4 hcl hd hau
    have hnl : (flsC (u.drop (a + 1))).length = (u.length - (a + 1)) * 7 := by rw [flsC_len, List.length_drop]
    have hnf := flsC_flat (u.drop (a + 1))
    have hns : o + ((a + 1) * 7 + (u.length - (a + 1)) * 7) ≤ cs.length := by omega
    repeat first
      | with_reducible refine AWP.seq ?_
      | ((with_reducible refine AWP.region ?_ ?_); exact rfl)
      | with_reducible refine AWP.block ?_
      | with_reducible refine AWP.skip ?_
      | with_reducible refine AWP.exit ?_
      | with_reducible refine AWP.ret ?_
      | with_reducible refine AWP.label ?_
      | with_reducible refine AWP.goto ?_
      | ((with_reducible refine AWP.condT ?_ ?_); focus (simp only [ev, lk_cons, ↓reduceIte, Nat.reduceEqDiff]; done))
      | ((with_reducible refine AWP.condF ?_ ?_); focus (simp only [ev, lk_cons, ↓reduceIte, Nat.reduceEqDiff]; done))
      | simp only [go_sem, ↓reduceIte, Nat.reduceEqDiff, reduceCtorEq, Nat.reduceAdd, Int.reduceEq, Int.reduceBNe, Int.reduceBEq, Int.reduceToNat, Int.reduceLT, Int.reduceLE, Int.reduceGT, Int.reduceGE, Nat.reduceSub, Nat.reduceBEq, Nat.reduceBNe, Int.reduceAdd, Int.reduceSub, Int.reduceMul, Int.reduceNeg, Nat.reduceMul, Nat.reduceLeDiff, Nat.reduceLT, hi4, hil4, hgetl]
      | simp (disch := omega) only [wi64, wu8, wu16, wu32, wu64, Int.tdiv_eq_ediv_of_nonneg, Int.tmod_eq_emod_of_nonneg]
      | with_reducible_and_instances exact finR
      | ((with_reducible refine finR' ?_ ?_) <;> rfl)
      | ((with_reducible refine finD hsc (NRel.of_plain ?_)); exact rfl)
    refine AWP.regionF 15 14 [0] (by kernel_rfl) (by decide) (by kernel_rfl) (by kernel_rfl) rfl ?_
    repeat first
      | with_reducible refine AWP.seq ?_
      | ((with_reducible refine AWP.region ?_ ?_); exact rfl)
      | with_reducible refine AWP.block ?_
      | with_reducible refine AWP.skip ?_
      | with_reducible refine AWP.exit ?_
      | with_reducible refine AWP.ret ?_
      | with_reducible refine AWP.label ?_
      | with_reducible refine AWP.goto ?_
      | ((with_reducible refine AWP.condT ?_ ?_); focus (simp only [ev, lk_cons, ↓reduceIte, Nat.reduceEqDiff]; done))
      | ((with_reducible refine AWP.condF ?_ ?_); focus (simp only [ev, lk_cons, ↓reduceIte, Nat.reduceEqDiff]; done))
      | simp only [go_sem, ↓reduceIte, Nat.reduceEqDiff, reduceCtorEq, Nat.reduceAdd, Int.reduceEq, Int.reduceBNe, Int.reduceBEq, Int.reduceToNat, Int.reduceLT, Int.reduceLE, Int.reduceGT, Int.reduceGE, Nat.reduceSub, Nat.reduceBEq, Nat.reduceBNe, Int.reduceAdd, Int.reduceSub, Int.reduceMul, Int.reduceNeg, Nat.reduceMul, Nat.reduceLeDiff, Nat.reduceLT, hi4, hil4, hgetl, hj4, hjl4, hwa1, hac, ha1, hlc, hnw, hnl, hnf, hns, keepW, dstV, exists_eq_left, pickO, List.map_cons, List.map_nil]
      | simp (disch := omega) only [wi64, wu8, wu16, wu32, wu64, Int.tdiv_eq_ediv_of_nonneg, Int.tmod_eq_emod_of_nonneg]
      | with_reducible_and_instances exact finR
      | ((with_reducible refine finR' ?_ ?_) <;> rfl)
      | ((with_reducible refine finD hsc (NRel.of_plain ?_)); exact rfl)
    have hap : ∀ (K : Value → AHeap → Prop), K (.slice (some ⟨j, o, none⟩) (u.length - 1) cap) (H4.set j (.cells (putCells cs (o + a * 7) (flsC (u.drop (a + 1)))) ⟨94, 7, true, 0, none⟩) ++ [.cells (pcsC ((L.take k).map (·.p)) ++ [.int .i64 u[a].p.id, .int .i64 u[a].p.size, .int .i64 u[a].p.sent, .int .i64 u[a].p.begun, .int .i64 u[a].p.time, .string (bs u[a].p.body)]) ⟨42, 6, true, 0, none⟩]) → appendTo Try.prog 94 7 64 (.slice (some ⟨j, o, none⟩) a cap) (u.length - (a + 1)) (flsC (u.drop (a + 1))) (H4 ++ [.cells (pcsC ((L.take k).map (·.p)) ++ [.int .i64 u[a].p.id, .int .i64 u[a].p.size, .int .i64 u[a].p.sent, .int .i64 u[a].p.begun, .int .i64 u[a].p.time, .string (bs u[a].p.body)]) ⟨42, 6, true, 0, none⟩]) K := fun K hK => by
      by_cases hz : u.length - (a + 1) = 0
      · rw [hz]
        have hdr : u.drop (a + 1) = [] := List.drop_eq_nil_of_le (by omega)
        rw [hdr] at hK ⊢
        have h0 : flsC [] = [] := rfl
        rw [h0] at hK ⊢
        have h1 : putCells cs (o + a * 7) [] = cs := rfl
        rw [h1, set_same hj4, show u.length - 1 = a by omega] at hK
        exact appendTo_zero ((hgetl hjl4).trans hj4) (by omega) hK
      · refine appendTo_in ((hgetl hjl4).trans hj4) hz (by omega) rfl (Nat.zero_le _) (by omega) ?_
        rw [hsetl hjl4, show a + (u.length - (a + 1)) = u.length - 1 by omega]
        exact hK
    refine hap _ ?_
    have hwar : IntKind.i64.wrap (r.arr + (k : Int) + 1) = r.arr + ((k + 1 : Nat) : Int) := by rw [wi64 (by omega)]; omega
    have hls : (H4.set j (.cells (putCells cs (o + a * 7) (flsC (u.drop (a + 1)))) ⟨94, 7, true, 0, none⟩) : AHeap).length = H4.length := List.length_set
    have hi4' : (H4.set j (.cells (putCells cs (o + a * 7) (flsC (u.drop (a + 1)))) ⟨94, 7, true, 0, none⟩) : AHeap)[i]? = _ := (hset_ne hji).trans hi4
    generalize hH4' : (H4.set j (.cells (putCells cs (o + a * 7) (flsC (u.drop (a + 1)))) ⟨94, 7, true, 0, none⟩) : AHeap) = H4' at *
    have hil4' := lt_of_get hi4'
    let H6 : AHeap := H4'.set i (.cells ((st (k + 1) (u.eraseIdx a)).c vn va (.slice (some ⟨j, o, none⟩) (u.length - 1) cap)) ⟨83, 0, true, 0, none⟩) ++ [.cells (pcsC ((L.take k).map (·.p)) ++ [.int .i64 u[a].p.id, .int .i64 u[a].p.size, .int .i64 u[a].p.sent, .int .i64 u[a].p.begun, .int .i64 u[a].p.time, .string (bs u[a].p.body)]) ⟨42, 6, true, 0, none⟩]
    have hH6 : H6 = H4'.set i (.cells ((st (k + 1) (u.eraseIdx a)).c vn va (.slice (some ⟨j, o, none⟩) (u.length - 1) cap)) ⟨83, 0, true, 0, none⟩) ++ [.cells (pcsC ((L.take k).map (·.p)) ++ [.int .i64 u[a].p.id, .int .i64 u[a].p.size, .int .i64 u[a].p.sent, .int .i64 u[a].p.begun, .int .i64 u[a].p.time, .string (bs u[a].p.body)]) ⟨42, 6, true, 0, none⟩] := rfl
    have hlu' : (u.eraseIdx a).length = u.length - 1 := by rw [List.length_eraseIdx_of_lt hau]
    have hf34 : Frm So H3 H4 := ⟨by omega, fun x hx hn => by rw [hH4 x hn, hgetl hx]⟩
    have hf44 : Frm [j] H4 H4' := by rw [← hH4']; exact Frm.set (.refl _ _) (.inl (by simp))
    have hf46 : Frm [i] H4' H6 := Frm.more (Frm.set (.refl _ _) (.inl (by simp)))
    have hmSo : Mut H3 So := fun t ht => by
      rcases hOo with ⟨_, _, _, rfl⟩ | ⟨y, z, c, _, hy, _, _, rfl⟩
      · simp at ht
      · rw [List.mem_singleton.1 ht]; exact ⟨_, _, hy, rfl⟩
    have hm4 : Mut H4 [j] := fun t ht => by rw [List.mem_singleton.1 ht]; exact ⟨_, _, hj4, rfl⟩
    have hm4' : Mut H4' [i] := fun t ht => by rw [List.mem_singleton.1 ht]; exact ⟨_, _, hi4', rfl⟩
    have hx36 : Fix H3 H6 := (Frm.fix hf34 hmSo).trans ((Frm.fix hf44 hm4).trans (Frm.fix hf46 hm4'))
    have hSaL : ∀ t ∈ Sa, t < H1.length := hp1.all.lt
    have hP6 : RkP H6 i (st (k + 1) (u.eraseIdx a)) vn va (.slice (some ⟨j, o, none⟩) (u.length - 1) cap) Sa Su := by
      refine ⟨(hgetl (by rw [List.length_set]; exact hil4')).trans (hset_self hil4'), hP.nums.fix hx36, ?_, ?_⟩
      · refine ((hP.all.frm hf34 fun t ht h => ?_).frm hf44 fun t ht h => ?_).frm hf46 fun t ht h => ?_
        · have := hSo t h; have := hSaL t ht; omega
        · rw [List.mem_singleton.1 h] at ht; exact hp.SaSu j ht hjS
        · rw [List.mem_singleton.1 h] at ht; exact hp.iSa ht
      · rw [hSu]
        show OwnC H6 94 7 (u.eraseIdx a).length (flsC (u.eraseIdx a)) _ [j]
        rw [hlu']
        refine hrem.frm hf46 fun t ht h => ?_
        rw [List.mem_singleton.1 ht] at h
        exact hji (List.mem_singleton.1 h)
    have hF6 := first (r := st (k + 1) (u.eraseIdx a)) ⟨_, _, _, _, _, hP6, rfl⟩ (by show (u.eraseIdx a).length < _; omega) (fun x hx => hwf x (hum x (List.mem_of_mem_eraseIdx hx)))
    unfold Rk.c at hH6
    simp only [st] at hH6
    repeat first
      | with_reducible refine AWP.seq ?_
      | ((with_reducible refine AWP.region ?_ ?_); exact rfl)
      | with_reducible refine AWP.block ?_
      | with_reducible refine AWP.skip ?_
      | with_reducible refine AWP.exit ?_
      | with_reducible refine AWP.ret ?_
      | with_reducible refine AWP.label ?_
      | with_reducible refine AWP.goto ?_
      | ((with_reducible refine AWP.condT ?_ ?_); focus (simp only [ev, lk_cons, ↓reduceIte, Nat.reduceEqDiff]; done))
      | ((with_reducible refine AWP.condF ?_ ?_); focus (simp only [ev, lk_cons, ↓reduceIte, Nat.reduceEqDiff]; done))
      | simp only [go_sem, ↓reduceIte, Nat.reduceEqDiff, reduceCtorEq, Nat.reduceAdd, Int.reduceEq, Int.reduceBNe, Int.reduceBEq, Int.reduceToNat, Int.reduceLT, Int.reduceLE, Int.reduceGT, Int.reduceGE, Nat.reduceSub, Nat.reduceBEq, Nat.reduceBNe, Int.reduceAdd, Int.reduceSub, Int.reduceMul, Int.reduceNeg, Nat.reduceMul, Nat.reduceLeDiff, Nat.reduceLT, hi4', hil4', hgetl, hsetl, hwar, hset_set, List.length_set]
      | simp (disch := omega) only [wi64, wu8, wu16, wu32, wu64, Int.tdiv_eq_ediv_of_nonneg, Int.tmod_eq_emod_of_nonneg]
      | with_reducible_and_instances exact finR
      | ((with_reducible refine finR' ?_ ?_) <;> rfl)
      | ((with_reducible refine finD hsc (NRel.of_plain ?_)); exact rfl)
    rw [← hH6]
    refine AC.mono hF6 ?_
    rintro v H7 ⟨at6, rfl, rfl, hF7⟩
    have htk1 : L.take (k + 1) = L.take k ++ [L[k]] := by rw [List.take_add_one, List.getElem?_eq_getElem hkl]; rfl
    have hpc1 : pcsC ((L.take (k + 1)).map (·.p)) = pcsC ((L.take k).map (·.p)) ++ [.int .i64 u[a].p.id, .int .i64 u[a].p.size, .int .i64 u[a].p.sent, .int .i64 u[a].p.begun, .int .i64 u[a].p.time, .string (bs u[a].p.body)] := by
      rw [htk1, List.map_append, hma]; exact pcsC_snoc ..
    have hlen4 : H4'.length = H3.length + 1 := by rw [hls, hlen]
    have hf36 : Frm (i :: (Sa ++ Su)) H1 H6 := ((hf3.trans hf34 fun t ht => .inr (hSo t ht)).trans hf44 fun t ht => .inl (by rw [List.mem_singleton.1 ht]; exact List.mem_cons_of_mem _ (List.mem_append_right _ hjS))).trans hf46 fun t ht => .inl (by rw [List.mem_singleton.1 ht]; exact List.mem_cons_self ..)
    have hpu : (u.eraseIdx a).Perm (L.drop (k + 1)) := by
      have h1 : (u[a] :: u.eraseIdx a).Perm u := by
        rw [List.eraseIdx_eq_take_drop_succ]
        have e : u = u.take a ++ (u[a] :: u.drop (a + 1)) := by rw [List.getElem_cons_drop, List.take_append_drop]
        conv => rhs; rw [e]
        exact List.perm_middle.symm
      have h2 := h1.trans hperm
      rw [hdk, hma] at h2
      exact List.Perm.cons_inv h2
    repeat first
      | with_reducible refine AWP.seq ?_
      | ((with_reducible refine AWP.region ?_ ?_); exact rfl)
      | with_reducible refine AWP.block ?_
      | with_reducible refine AWP.skip ?_
      | with_reducible refine AWP.exit ?_
      | with_reducible refine AWP.ret ?_
      | with_reducible refine AWP.label ?_
      | with_reducible refine AWP.goto ?_
      | ((with_reducible refine AWP.condT ?_ ?_); focus (simp only [ev, lk_cons, ↓reduceIte, Nat.reduceEqDiff]; done))
      | ((with_reducible refine AWP.condF ?_ ?_); focus (simp only [ev, lk_cons, ↓reduceIte, Nat.reduceEqDiff]; done))
      | simp only [go_sem, ↓reduceIte, Nat.reduceEqDiff, reduceCtorEq, Nat.reduceAdd, Int.reduceEq, Int.reduceBNe, Int.reduceBEq, Int.reduceToNat, Int.reduceLT, Int.reduceLE, Int.reduceGT, Int.reduceGE, Nat.reduceSub, Nat.reduceBEq, Nat.reduceBNe, Int.reduceAdd, Int.reduceSub, Int.reduceMul, Int.reduceNeg, Nat.reduceMul, Nat.reduceLeDiff, Nat.reduceLT]
      | simp (disch := omega) only [wi64, wu8, wu16, wu32, wu64, Int.tdiv_eq_ediv_of_nonneg, Int.tmod_eq_emod_of_nonneg]
      | with_reducible_and_instances exact finR
      | ((with_reducible refine finR' ?_ ?_) <;> rfl)
      | ((with_reducible refine finD hsc (NRel.of_plain ?_)); exact rfl)
    refine ⟨(k + 1, u.eraseIdx a, at6, .slice (some ⟨H3.length + 1, 0, none⟩) (k + 1) (k + 1), .slice (some ⟨j, o, none⟩) (u.length - 1) cap, H6), Weak.env (by simp [envIn, lk_cons, wth_some]), hkl, fun x hx => ?_, hpu, hF7, hP6, hf36, ⟨[H3.length + 1], .inr ⟨H3.length + 1, 0, _, rfl, (hget0 (by rw [List.length_set, hlen4])).trans rfl, ?_, ?_, rfl⟩, fun x hx => by have := hf3.1; rw [List.mem_singleton.1 hx]; omega⟩, by show L.length - (k + 1) < _; omega⟩
    · simp only [htk1, List.mem_append, List.mem_singleton] at hx
      rcases hx with hx | rfl
      · exact htk x hx
      · rw [← hma, hwa.1]; exact hle2
    · rw [← hpc1, pcsC_len, List.length_map, List.length_take]; show min (k + 1) L.length * 6 = 0 + (k + 1) * 6; omega
    · exact hpc1.symm
  · repeat first
      | with_reducible refine AWP.seq ?_
      | ((with_reducible refine AWP.region ?_ ?_); exact rfl)
      | with_reducible refine AWP.block ?_
      | with_reducible refine AWP.skip ?_
      | with_reducible refine AWP.exit ?_
      | with_reducible refine AWP.ret ?_
      | with_reducible refine AWP.label ?_
      | with_reducible refine AWP.goto ?_
      | ((with_reducible refine AWP.condT ?_ ?_); focus (simp only [ev, lk_cons, ↓reduceIte, Nat.reduceEqDiff]; done))
      | ((with_reducible refine AWP.condF ?_ ?_); focus (simp only [ev, lk_cons, ↓reduceIte, Nat.reduceEqDiff]; done))
      | simp only [go_sem, ↓reduceIte, Nat.reduceEqDiff, reduceCtorEq, Nat.reduceAdd, Int.reduceEq, Int.reduceBNe, Int.reduceBEq, Int.reduceToNat, Int.reduceLT, Int.reduceLE, Int.reduceGT, Int.reduceGE, Nat.reduceSub, Nat.reduceBEq, Nat.reduceBNe, Int.reduceAdd, Int.reduceSub, Int.reduceMul, Int.reduceNeg, Nat.reduceMul, Nat.reduceLeDiff, Nat.reduceLT, hna, hi3, ha0, hj, hjl, hg4, hle2]
      | simp (disch := omega) only [wi64, wu8, wu16, wu32, wu64, Int.tdiv_eq_ediv_of_nonneg, Int.tmod_eq_emod_of_nonneg]
      | with_reducible_and_instances exact finR
      | ((with_reducible refine finR' ?_ ?_) <;> rfl)
      | ((with_reducible refine finD hsc (NRel.of_plain ?_)); exact rfl)
    refine ⟨_, _, .refl _ _ _, _, rfl, hfin fun x hx => ?_⟩
    rw [List.getElem?_eq_getElem hkl] at hx
    cases hx
    rw [← hma, hwa.1]
    exact hle2
end Go.Proofs.Ytnfkbgpbligloaa
