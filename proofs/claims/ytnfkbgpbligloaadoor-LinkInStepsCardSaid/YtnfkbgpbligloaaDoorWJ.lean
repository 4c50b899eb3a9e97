/-
  Links: lists of packets compared; two links in one heap.
-/
import Derived.Test.YtnfkbgpbligloaaDoorWI
set_option linter.unusedVariables false
set_option linter.unusedSimpArgs false
set_option maxRecDepth 20000
set_option maxHeartbeats 4000000
namespace Go.Proofs.YtnfkbgpbligloaaDoor
open Go Go.Aw Go.Proofs
theorem pcs_chunk : ∀ (l : List Pc) (k : Nat) (hk : k < l.length), ((pcsC l).drop (k * 6)).take 6 = l[k].c
  | [], k, hk => by simp at hk
  | p :: l, 0, hk => by
    have e : pcsC (p :: l) = p.c ++ pcsC l := rfl
    rw [e, Nat.zero_mul, List.drop_zero]; rfl
  | p :: l, k + 1, hk => by
    have e : pcsC (p :: l) = p.c ++ pcsC l := rfl
    rw [e, show (k + 1) * 6 = 6 + k * 6 by omega, ← List.drop_drop]
    exact pcs_chunk l k (by simpa using hk)
theorem pc_at {H : AHeap} {l : List Pc} {v : Value} {S : List Nat} (h : OwnL H 44 6 l.length (pcsC l) v S) {n : Nat} (h0 : n < l.length) :
    ∃ j o cs, v = .slice (some ⟨j, o, none⟩) l.length l.length ∧ H[j]? = some (.cells cs ⟨44, 6, true, 0, none⟩) ∧ (cs.drop (o + n * 6)).take 6 = l[n].c ∧ o + (n * 6 + 6) ≤ cs.length := by
  rcases h with ⟨h1, _⟩ | ⟨j, o, cs, rfl, hj, hcl, hd, rfl⟩
  · omega
  exact ⟨j, o, cs, rfl, hj, by rw [← List.drop_drop, hd]; exact pcs_chunk l n h0, by omega⟩
theorem eqPc (x : Pc) : eqV Tryd.prog 20 44 (.agg ⟨x.c⟩) (.agg ⟨x.c⟩) = some true := by
  have u44 := Tryd.underlying44
  have u9 := Tryd.underlying9
  have u3 := Tryd.underlying3
  have h44 : Tryd.prog.stoodInHeld 44 = false := by kernel_rfl
  have a9 : tA Tryd.prog 9 = some false := by kernel_rfl
  have a3 : tA Tryd.prog 3 = some false := by kernel_rfl
  have s9 : tS Tryd.prog 9 = some 1 := by kernel_rfl
  have s3 : tS Tryd.prog 3 = some 1 := by kernel_rfl
  have hb : (bs x.body == bs x.body) = true := (show ((bs x.body).data == (bs x.body).data) = true from beq_self_eq_true _)
  simp [eqV, eqFs, u44, u9, u3, h44, a9, a3, s9, s3, Pc.c, hb]
/-- Lists of packets that are equal are told so. -/
theorem same {H : AHeap} (l : List Pc) (va vb : Value) (Sa Sb : List Nat) (hl : l.length < 1099511627776) (ha : OwnL H 44 6 l.length (pcsC l) va Sa) (hb : OwnL H 44 6 l.length (pcsC l) vb Sb) : ARet Tryd.prog 10 [va, vb] H (.bool true) H := by
  have q1 : ∀ H' K, lenW Tryd.prog 37 va H' K = K (.int .i64 (l.length : Nat)) H' := fun H' K => OwnL.lenT ha (by simp only [go_sem, ↓reduceIte, Nat.reduceEqDiff, reduceCtorEq, Nat.reduceAdd, Int.reduceEq, Int.reduceBNe, Int.reduceBEq, Int.reduceToNat, Int.reduceLT, Int.reduceLE, Int.reduceGT, Int.reduceGE, Nat.reduceSub, Nat.reduceBEq, Nat.reduceBNe, Int.reduceAdd, Int.reduceSub, Int.reduceMul, Int.reduceNeg, Nat.reduceMul, Nat.reduceLeDiff, Nat.reduceLT])
  have q2 : ∀ H' K, lenW Tryd.prog 37 vb H' K = K (.int .i64 (l.length : Nat)) H' := fun H' K => OwnL.lenT hb (by simp only [go_sem, ↓reduceIte, Nat.reduceEqDiff, reduceCtorEq, Nat.reduceAdd, Int.reduceEq, Int.reduceBNe, Int.reduceBEq, Int.reduceToNat, Int.reduceLT, Int.reduceLE, Int.reduceGT, Int.reduceGE, Nat.reduceSub, Nat.reduceBEq, Nat.reduceBNe, Int.reduceAdd, Int.reduceSub, Int.reduceMul, Int.reduceNeg, Nat.reduceMul, Nat.reduceLeDiff, Nat.reduceLT])
  have hne : ((l.length : Int) != (l.length : Int)) = false := by simp
  refine AC.enter Tryd.func10 rfl (by kernel_rfl) 26 rfl [.tmp 4] rfl (by simp) fun hsc B => ?_
  repeat first
    | with_reducible refine AWP.seq ?_
    | ((with_reducible refine AWP.region ?_ ?_); exact rfl)
    | with_reducible refine AWP.block ?_
    | with_reducible refine AWP.skip ?_
    | with_reducible refine AWP.exit ?_
    | with_reducible refine AWP.ret ?_
    | with_reducible refine AWP.label ?_
    | with_reducible refine AWP.goto ?_
    | ((with_reducible refine AWP.condT ?_ ?_); focus (simp only [ev, lk_cons, ↓reduceIte, Nat.reduceEqDiff]; done))
    | ((with_reducible refine AWP.condF ?_ ?_); focus (simp only [ev, lk_cons, ↓reduceIte, Nat.reduceEqDiff]; done))
    | simp only [go_sem, ↓reduceIte, Nat.reduceEqDiff, reduceCtorEq, Nat.reduceAdd, Int.reduceEq, Int.reduceBNe, Int.reduceBEq, Int.reduceToNat, Int.reduceLT, Int.reduceLE, Int.reduceGT, Int.reduceGE, Nat.reduceSub, Nat.reduceBEq, Nat.reduceBNe, Int.reduceAdd, Int.reduceSub, Int.reduceMul, Int.reduceNeg, Nat.reduceMul, Nat.reduceLeDiff, Nat.reduceLT, q1, q2, hne]
    | simp (disch := omega) only [wi64, wu8, wu16, wu32, wu64, Int.tdiv_eq_ediv_of_nonneg, Int.tmod_eq_emod_of_nonneg]
    | with_reducible_and_instances exact finR
    | ((with_reducible refine finR' ?_ ?_) <;> rfl)
    | ((with_reducible refine finD hsc (NRel.of_plain ?_)); exact rfl)
  refine AWP.loopP (fun n : Nat => ⟨[(0, va), (1, vb), (12, .int .i64 (l.length : Nat)), (13, .int .i64 (n : Nat))], [], H⟩) (fun n => n ≤ l.length) (fun n => l.length - n) 0 ?_ (Nat.zero_le _) ?_
  · exact Weak.env (by simp [envIn, lk_cons, wth_some])
  intro n hn
  simp only at hn ⊢
  by_cases hc : n < l.length
  · have hc' : (n : Int) < (l.length : Int) := by omega
    have hwn : IntKind.i64.wrap ((n : Int) + 1) = ((n + 1 : Nat) : Int) := by rw [wi64 (by omega)]; omega
    obtain ⟨j, o, cs, rfl, hj, hg, hle⟩ := pc_at ha hc
    obtain ⟨j2, o2, cs2, rfl, hj2, hg2, hle2⟩ := pc_at hb hc
    have hjl := lt_of_get hj
    have hjl2 := lt_of_get hj2
    have he := eqPc l[n]
    unfold Pc.c at he hg hg2
    repeat first
      | with_reducible refine AWP.seq ?_
      | ((with_reducible refine AWP.region ?_ ?_); exact rfl)
      | with_reducible refine AWP.block ?_
      | with_reducible refine AWP.skip ?_
      | with_reducible refine AWP.exit ?_
      | with_reducible refine AWP.ret ?_
      | with_reducible refine AWP.label ?_
      | with_reducible refine AWP.goto ?_
      | ((with_reducible refine AWP.condT ?_ ?_); focus (simp only [ev, lk_cons, ↓reduceIte, Nat.reduceEqDiff]; done))
      | ((with_reducible refine AWP.condF ?_ ?_); focus (simp only [ev, lk_cons, ↓reduceIte, Nat.reduceEqDiff]; done))
      | simp only [go_sem, ↓reduceIte, Nat.reduceEqDiff, reduceCtorEq, Nat.reduceAdd, Int.reduceEq, Int.reduceBNe, Int.reduceBEq, Int.reduceToNat, Int.reduceLT, Int.reduceLE, Int.reduceGT, Int.reduceGE, Nat.reduceSub, Nat.reduceBEq, Nat.reduceBNe, Int.reduceAdd, Int.reduceSub, Int.reduceMul, Int.reduceNeg, Nat.reduceMul, Nat.reduceLeDiff, Nat.reduceLT, hc']
      | simp (disch := omega) only [wi64, wu8, wu16, wu32, wu64, Int.tdiv_eq_ediv_of_nonneg, Int.tmod_eq_emod_of_nonneg]
      | with_reducible_and_instances exact finR
      | ((with_reducible refine finR' ?_ ?_) <;> rfl)
      | ((with_reducible refine finD hsc (NRel.of_plain ?_)); exact rfl)
    refine AWP.regionK 8 (by kernel_rfl) (by decide) (by kernel_rfl) ?_
    repeat first
      | with_reducible refine AWP.seq ?_
      | ((with_reducible refine AWP.region ?_ ?_); exact rfl)
      | with_reducible refine AWP.block ?_
      | with_reducible refine AWP.skip ?_
      | with_reducible refine AWP.exit ?_
      | with_reducible refine AWP.ret ?_
      | with_reducible refine AWP.label ?_
      | with_reducible refine AWP.goto ?_
      | ((with_reducible refine AWP.condT ?_ ?_); focus (simp only [ev, lk_cons, ↓reduceIte, Nat.reduceEqDiff]; done))
      | ((with_reducible refine AWP.condF ?_ ?_); focus (simp only [ev, lk_cons, ↓reduceIte, Nat.reduceEqDiff]; done))
      | simp only [go_sem, ↓reduceIte, Nat.reduceEqDiff, reduceCtorEq, Nat.reduceAdd, Int.reduceEq, Int.reduceBNe, Int.reduceBEq, Int.reduceToNat, Int.reduceLT, Int.reduceLE, Int.reduceGT, Int.reduceGE, Nat.reduceSub, Nat.reduceBEq, Nat.reduceBNe, Int.reduceAdd, Int.reduceSub, Int.reduceMul, Int.reduceNeg, Nat.reduceMul, Nat.reduceLeDiff, Nat.reduceLT, hc', hj, hjl, hg, hle, hj2, hjl2, hg2, hle2, he, List.map_cons, List.map_nil]
      | simp (disch := omega) only [wi64, wu8, wu16, wu32, wu64, Int.tdiv_eq_ediv_of_nonneg, Int.tmod_eq_emod_of_nonneg]
      | with_reducible_and_instances exact finR
      | ((with_reducible refine finR' ?_ ?_) <;> rfl)
      | ((with_reducible refine finD hsc (NRel.of_plain ?_)); exact rfl)
    repeat first
      | with_reducible refine AWP.seq ?_
      | ((with_reducible refine AWP.region ?_ ?_); exact rfl)
      | with_reducible refine AWP.block ?_
      | with_reducible refine AWP.skip ?_
      | with_reducible refine AWP.exit ?_
      | with_reducible refine AWP.ret ?_
      | with_reducible refine AWP.label ?_
      | with_reducible refine AWP.goto ?_
      | ((with_reducible refine AWP.condT ?_ ?_); focus (simp only [ev, lk_cons, ↓reduceIte, Nat.reduceEqDiff]; done))
      | ((with_reducible refine AWP.condF ?_ ?_); focus (simp only [ev, lk_cons, ↓reduceIte, Nat.reduceEqDiff]; done))
      | simp only [go_sem, ↓reduceIte, Nat.reduceEqDiff, reduceCtorEq, Nat.reduceAdd, Int.reduceEq, Int.reduceBNe, Int.reduceBEq, Int.reduceToNat, Int.reduceLT, Int.reduceLE, Int.reduceGT, Int.reduceGE, Nat.reduceSub, Nat.reduceBEq, Nat.reduceBNe, Int.reduceAdd, Int.reduceSub, Int.reduceMul, Int.reduceNeg, Nat.reduceMul, Nat.reduceLeDiff, Nat.reduceLT, hwn]
      | simp (disch := omega) only [wi64, wu8, wu16, wu32, wu64, Int.tdiv_eq_ediv_of_nonneg, Int.tmod_eq_emod_of_nonneg]
      | with_reducible_and_instances exact finR
      | ((with_reducible refine finR' ?_ ?_) <;> rfl)
      | ((with_reducible refine finD hsc (NRel.of_plain ?_)); exact rfl)
    exact ⟨n + 1, Weak.env (by simp [envIn, lk_cons, wth_some]), hc, by omega⟩
  · have hc' : ¬ (n : Int) < (l.length : Int) := by omega
    repeat first
      | with_reducible refine AWP.seq ?_
      | ((with_reducible refine AWP.region ?_ ?_); exact rfl)
      | with_reducible refine AWP.block ?_
      | with_reducible refine AWP.skip ?_
      | with_reducible refine AWP.exit ?_
      | with_reducible refine AWP.ret ?_
      | with_reducible refine AWP.label ?_
      | with_reducible refine AWP.goto ?_
      | ((with_reducible refine AWP.condT ?_ ?_); focus (simp only [ev, lk_cons, ↓reduceIte, Nat.reduceEqDiff]; done))
      | ((with_reducible refine AWP.condF ?_ ?_); focus (simp only [ev, lk_cons, ↓reduceIte, Nat.reduceEqDiff]; done))
      | simp only [go_sem, ↓reduceIte, Nat.reduceEqDiff, reduceCtorEq, Nat.reduceAdd, Int.reduceEq, Int.reduceBNe, Int.reduceBEq, Int.reduceToNat, Int.reduceLT, Int.reduceLE, Int.reduceGT, Int.reduceGE, Nat.reduceSub, Nat.reduceBEq, Nat.reduceBNe, Int.reduceAdd, Int.reduceSub, Int.reduceMul, Int.reduceNeg, Nat.reduceMul, Nat.reduceLeDiff, Nat.reduceLT, hc']
      | simp (disch := omega) only [wi64, wu8, wu16, wu32, wu64, Int.tdiv_eq_ediv_of_nonneg, Int.tmod_eq_emod_of_nonneg]
      | with_reducible_and_instances exact finR
      | ((with_reducible refine finR' ?_ ?_) <;> rfl)
      | ((with_reducible refine finD hsc (NRel.of_plain ?_)); exact rfl)
/-- What putting does. -/
def Lk.putF (s : Lk) (now size : Int) (body : List UInt8) : Lk :=
  if (body.length : Int) > 65536 then s else if badS s now size = true then s else if (s.under.length : Int) ≥ 10000 then s
  else if s.dropQ now size = true then { s with now := now, drop := s.drop + 1 } else s.putS now size body
theorem iv_putF {s : Lk} {n : Nat} (h : s.iv n) (hn : n < 1000) (now size : Int) (body : List UInt8) : (s.putF now size body).iv (n + 1) := by
  unfold Lk.putF
  split
  · exact iv_mono h
  · split
    · exact iv_mono h
    · rename_i h1 h2
      have h2' : badS s now size = false := by simpa using h2
      split
      · exact iv_mono h
      · split
        · exact iv_drop h h2'
        · exact iv_put h hn body h1 h2'
theorem LkTo.same {H : AHeap} {i : Nat} {s : Lk} {S : List Nat} (h : LkAt H i s S) : LkTo H i S s H := ⟨S, h, .refl _ _, fun t ht => .inl ht⟩
theorem Put {H : AHeap} {i n : Nat} {s : Lk} {S : List Nat} (h : LkAt H i s S) (hI : s.iv n) (hn : n < 1000) (now size : Int) (body : List UInt8) :
    ∃ v, ARex Tryd.prog 7 [.pointer (some ⟨i, 0, none⟩), .int .i64 now, .int .i64 size, .string (bs body)] H v (LkTo H i S (s.putF now size body)) := by
  unfold Lk.putF
  split
  · rename_i h1
    exact ⟨_, ARet.rex (putBig now size body h1) (.same h)⟩
  · rename_i h1
    split
    · rename_i h2
      exact ⟨_, ARet.rex (putRange h now size body h1 h2) (.same h)⟩
    · rename_i h2
      have h2' : badS s now size = false := by simpa using h2
      split
      · rename_i h3
        exact ⟨_, ARet.rex (putLimit h now size body h1 h2' h3) (.same h)⟩
      · rename_i h3
        split
        · rename_i h4
          exact ⟨_, putDrop h (hI.okS hn) now size body h1 h2' h3 h4⟩
        · rename_i h4
          exact ⟨_, putOk h (hI.okS hn) now size body h1 h2' h3 (by simpa using h4)⟩
/-- Two links stand side by side; all else that was in H0 is as it was. -/
def PS (H0 : AHeap) (i j : Nat) (s r : Lk) (H : AHeap) : Prop := ∃ S T, LkAt H i s S ∧ LkAt H j r T ∧ Frm [] H0 H ∧ (∀ t ∈ S, H0.length ≤ t) ∧ (∀ t ∈ T, H0.length ≤ t) ∧ ∀ t ∈ S, t ∉ T
theorem LkAt.lt {H : AHeap} {i : Nat} {s : Lk} {S : List Nat} (h : LkAt H i s S) : ∀ t ∈ S, t < H.length := fun t ht => by
  obtain ⟨cs, k, e, _⟩ := h.mut t ht
  exact lt_of_get e
section
variable {H0 H H1 : AHeap} {i j : Nat} {s s' r r' : Lk} {S T : List Nat}
theorem PS.swap (h : PS H0 i j s r H) : PS H0 j i r s H := by
  obtain ⟨S, T, h1, h2, h3, h4, h5, h6⟩ := h
  exact ⟨T, S, h2, h1, h3, h5, h4, fun t ht hs => h6 t hs ht⟩
theorem PS.goL (h1 : LkAt H i s S) (h2 : LkAt H j r T) (hf : Frm [] H0 H) (hS : ∀ t ∈ S, H0.length ≤ t) (hT : ∀ t ∈ T, H0.length ≤ t) (hd : ∀ t ∈ S, t ∉ T) (ht : LkTo H i S s' H1) : PS H0 i j s' r H1 := by
  obtain ⟨S2, ha, hf2, hm⟩ := ht
  refine ⟨S2, T, ha, h2.frm hf2 h1.mut fun t ht hs => hd t hs ht, hf.trans hf2 fun t ht => .inr (hS t ht), fun t ht => ?_, hT, fun t ht hs => ?_⟩
  · rcases hm t ht with h | h
    · exact hS t h
    · have := hf.1; omega
  · rcases hm t ht with h | h
    · exact hd t h hs
    · have := h2.lt t hs; omega
theorem PS.more (h : PS H0 i j s r H) (X : AHeap) : PS H0 i j s r (H ++ X) := by
  obtain ⟨S, T, h1, h2, h3, h4, h5, h6⟩ := h
  exact ⟨S, T, h1.more X, h2.more X, Frm.more h3, h4, h5, h6⟩
theorem PS.grown (h : PS H0 i j s r H) (hf : Frm [] H H1) : PS H0 i j s r H1 := by
  obtain ⟨S, T, h1, h2, hf0, hS, hT, hd⟩ := h
  exact ⟨S, T, h1.grown hf, h2.grown hf, hf0.trans hf (by simp), hS, hT, hd⟩
end
end Go.Proofs.YtnfkbgpbligloaaDoor
