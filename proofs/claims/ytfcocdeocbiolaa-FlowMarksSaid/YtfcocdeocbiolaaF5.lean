/-
  Named: the numbers that marks name.
-/
import Derived.Test.YtfcocdeocbiolaaF4
set_option linter.unusedVariables false
set_option linter.unusedSimpArgs false
set_option maxRecDepth 20000
namespace Go.Proofs.Ytfcocdeocbiolaa
open Go Go.Aw Go.Proofs
def namedI (s : List UInt8) : List Int := (namedN s).map fun (i : Nat) => (i : Int) + 2
def namedOf (ack : Int) (s : List UInt8) : List Int := (namedI s).map fun x => (ack + x) % 65536
theorem namedA_eq (s : List UInt8) : namedA s = (namedI s).map fun x => [.int .i64 x] := by simp [namedA, namedI]
theorem namedI_mem {s : List UInt8} (hs : s.length ≤ 4) {x : Int} (h : x ∈ namedI s) : 2 ≤ x ∧ x ≤ 33 := by
  simp only [namedI, namedN, List.mem_map, List.mem_filter, List.mem_range] at h
  obtain ⟨i, ⟨h1, _⟩, rfl⟩ := h
  omega
theorem namedI_len (s : List UInt8) (hs : s.length ≤ 4) : (namedI s).length ≤ 32 := by
  have : (namedN s).length ≤ 8 * s.length := by
    unfold namedN
    exact Nat.le_trans (List.length_filter_le _ _) (by simp)
  simp only [namedI, List.length_map]; omega
theorem turnM {α β : Type} (f : α → β) (g : α → β) (l : List α) (n : Nat) (h : n < l.length) : ((l.map f).take n ++ (l.map g).drop n).set n (f l[n]) = (l.map f).take (n + 1) ++ (l.map g).drop (n + 1) := by
  have h1 : ((l.map f).take n).length = n := by simp; omega
  rw [List.set_append_right _ _ (by omega), h1, Nat.sub_self, List.take_add_one, List.getElem?_eq_getElem (by simpa using h), List.drop_eq_getElem_cons (by simpa using h)]
  simp
theorem turnM_get {α β : Type} (f : α → β) (g : α → β) (l : List α) (n : Nat) (h : n < l.length) : ((l.map f).take n ++ (l.map g).drop n)[n]? = some (g l[n]) := by
  have h1 : ((l.map f).take n).length = n := by simp; omega
  rw [List.getElem?_append_right (by omega), h1, Nat.sub_self, List.drop_eq_getElem_cons (by simpa using h)]
  simp
def turned (ack : Int) (l : List Int) (n : Nat) : List Int := (l.map fun x => (ack + x) % 65536).take n ++ (l.map fun x => x).drop n
theorem intsC_set (l : List Int) (n : Nat) (x : Int) : (intsC l).set n (.int .i64 x) = intsC (l.set n x) := by simp [intsC]
theorem Named (ack : Int) (s : List UInt8) (h0 : 0 ≤ ack) (h1 : ack < 65536) (hs : s.length ≤ 4) (H : AHeap) :
    ARet Try.prog 15 [.int .i64 ack, .string (bs s)] H (.tuple ⟨[gS H.length (namedOf ack s).length, .int .i64 0]⟩) (H ++ [gO (intsC (namedOf ack s)) ⟨3, 1, true, 0, none⟩]) := by
  have hr : ∀ H, ARet Try.prog 42 [.int .i64 ack] H (.bool true) H := fun H => by
    have := round ack H
    rwa [decide_eq_true ⟨h0, h1⟩] at this
  have hl : ¬ (s.length : Int) > 4 := by omega
  have hcol := fun H X => Collect 72 [.pointer (some ⟨H.length, 0, none⟩)] (namedI s) (by have := namedI_len s hs; omega) _ (H ++ [.cells [.string (bs s)] ⟨9, 0, true, 0, none⟩] ++ X) (namedA_eq s ▸ named1 s (by omega) H.length) (fun Y => ⟨⟨9, 0, true, 0, none⟩, by simp only [go_sem, ↓reduceIte, Nat.reduceEqDiff, reduceCtorEq, Nat.reduceAdd, Int.reduceEq, Int.reduceBNe, Int.reduceBEq, Int.reduceToNat, Int.reduceLT, Int.reduceLE, Int.reduceGT, Int.reduceGE, Nat.reduceSub, Int.reduceAdd, Int.reduceSub, Int.reduceMul, Int.reduceNeg, Nat.reduceMul, Nat.reduceLeDiff, Nat.reduceLT]⟩)
  refine AC.enter Try.func15 rfl (by kernel_rfl) 36 rfl [.tmp 4, .tmp 5] rfl (by simp) fun hsc B => ?_
  have hcol := hcol H []
  rw [List.append_nil] at hcol
  repeat first
    | with_reducible refine AWP.seq ?_
    | ((with_reducible refine AWP.region ?_ ?_); exact rfl)
    | with_reducible refine AWP.block ?_
    | with_reducible refine AWP.skip ?_
    | with_reducible refine AWP.exit ?_
    | with_reducible refine AWP.ret ?_
    | with_reducible refine AWP.label ?_
    | with_reducible refine AWP.goto ?_
    | ((with_reducible refine AWP.condT ?_ ?_); focus (simp only [ev, lk_cons, ↓reduceIte, Nat.reduceEqDiff]; done))
    | ((with_reducible refine AWP.condF ?_ ?_); focus (simp only [ev, lk_cons, ↓reduceIte, Nat.reduceEqDiff]; done))
    | with_reducible refine (hr _).use ?_
    | with_reducible refine (named s _).use ?_
    | with_reducible refine hcol.use ?_
    | simp only [go_sem, ↓reduceIte, Nat.reduceEqDiff, reduceCtorEq, Nat.reduceAdd, Int.reduceEq, Int.reduceBNe, Int.reduceBEq, Int.reduceToNat, Int.reduceLT, Int.reduceLE, Int.reduceGT, Int.reduceGE, Nat.reduceSub, Int.reduceAdd, Int.reduceSub, Int.reduceMul, Int.reduceNeg, Nat.reduceMul, Nat.reduceLeDiff, Nat.reduceLT, hl]
    | simp (disch := omega) only [wi64, wu8, wu16, wu32, wu64]
    | with_reducible_and_instances exact finR
    | ((with_reducible refine finR' ?_ ?_) <;> rfl)
    | ((with_reducible refine finD hsc (NRel.of_plain ?_)); exact rfl)
  have hb := fun x => @namedI_mem s hs x
  have hlen := namedI_len s hs
  unfold namedOf
  generalize namedI s = l at hb hlen ⊢
  repeat first
    | with_reducible refine AWP.seq ?_
    | ((with_reducible refine AWP.region ?_ ?_); exact rfl)
    | with_reducible refine AWP.block ?_
    | with_reducible refine AWP.skip ?_
    | with_reducible refine AWP.exit ?_
    | with_reducible refine AWP.ret ?_
    | with_reducible refine AWP.label ?_
    | with_reducible refine AWP.goto ?_
    | ((with_reducible refine AWP.condT ?_ ?_); focus (simp only [ev, lk_cons, ↓reduceIte, Nat.reduceEqDiff]; done))
    | ((with_reducible refine AWP.condF ?_ ?_); focus (simp only [ev, lk_cons, ↓reduceIte, Nat.reduceEqDiff]; done))
    | simp only [go_sem, ↓reduceIte, Nat.reduceEqDiff, reduceCtorEq, Nat.reduceAdd, Int.reduceEq, Int.reduceBNe, Int.reduceBEq, Int.reduceToNat, Int.reduceLT, Int.reduceLE, Int.reduceGT, Int.reduceGE, Nat.reduceSub, Int.reduceAdd, Int.reduceSub, Int.reduceMul, Int.reduceNeg, Nat.reduceMul, Nat.reduceLeDiff, Nat.reduceLT]
    | simp (disch := omega) only [wi64, wu8, wu16, wu32, wu64]
    | with_reducible_and_instances exact finR
    | ((with_reducible refine finR' ?_ ?_) <;> rfl)
    | ((with_reducible refine finD hsc (NRel.of_plain ?_)); exact rfl)
  refine AWP.loopP (fun n : Nat => ⟨[(0, .int .i64 ack), (6, gS H.length l.length), (20, .int .i64 (l.length : Nat)), (21, .int .i64 (n : Nat))], [], H ++ [gO (intsC (turned ack l n)) ⟨3, 1, true, 0, none⟩]⟩) (fun n => n ≤ l.length) (fun n => l.length - n) 0 ?_ (Nat.zero_le _) ?_
  · refine Weak.pick [1] rfl hsc (by simp) ⟨?_, ?_⟩
    · simp [selW_cons, selW_nil, wth_some, turned]
      exact (onm_g rfl (intsC_scalar _) rfl).2 trivial
    · simp [envIn, lk_cons, wth_some, nr_int, nr_g, selN_0]
  intro n hn
  have hz : (turned ack l n).length = l.length := by simp [turned]; omega
  by_cases hc : n < l.length
  · have hc' : (n : Int) < (l.length : Int) := by omega
    have hpos : 0 < l.length := by omega
    have hx := hb l[n] (List.getElem_mem _)
    rw [gS_pos hpos, gO_pos (l := intsC (turned ack l n)) (by rw [intsC_length, hz]; exact hpos)]
    have hg : (intsC (turned ack l n))[n]? = some (.int .i64 l[n]) := by
      have := turnM_get (fun x => (ack + x) % 65536) (fun x => x) l n hc
      unfold turned intsC; rw [List.getElem?_map, this]; rfl
    have hw : IntKind.i64.wrap (ack + l[n]) = ack + l[n] := IntWalk.i64_in _ (by omega)
    have hm : (ack + l[n]).tmod 65536 = (ack + l[n]) % 65536 := Int.tmod_eq_emod_of_nonneg (by omega)
    repeat first
      | with_reducible refine AWP.seq ?_
      | ((with_reducible refine AWP.region ?_ ?_); exact rfl)
      | with_reducible refine AWP.block ?_
      | with_reducible refine AWP.skip ?_
      | with_reducible refine AWP.exit ?_
      | with_reducible refine AWP.ret ?_
      | with_reducible refine AWP.label ?_
      | with_reducible refine AWP.goto ?_
      | ((with_reducible refine AWP.condT ?_ ?_); focus (simp only [ev, lk_cons, ↓reduceIte, Nat.reduceEqDiff]; done))
      | ((with_reducible refine AWP.condF ?_ ?_); focus (simp only [ev, lk_cons, ↓reduceIte, Nat.reduceEqDiff]; done))
      | simp only [go_sem, ↓reduceIte, Nat.reduceEqDiff, reduceCtorEq, Nat.reduceAdd, Int.reduceEq, Int.reduceBNe, Int.reduceBEq, Int.reduceToNat, Int.reduceLT, Int.reduceLE, Int.reduceGT, Int.reduceGE, Nat.reduceSub, Int.reduceAdd, Int.reduceSub, Int.reduceMul, Int.reduceNeg, Nat.reduceMul, Nat.reduceLeDiff, Nat.reduceLT, hc', hg, hw, hm]
      | simp (disch := omega) only [wi64, wu8, wu16, wu32, wu64]
      | with_reducible_and_instances exact finR
      | ((with_reducible refine finR' ?_ ?_) <;> rfl)
      | ((with_reducible refine finD hsc (NRel.of_plain ?_)); exact rfl)
    refine ⟨by rw [intsC_length, hz]; omega, ?_⟩
    have hset : (intsC (turned ack l n)).set n (.int .i64 ((ack + l[n]) % 65536)) = intsC (turned ack l (n + 1)) := by
      rw [intsC_set]; unfold turned; rw [turnM (fun x => (ack + x) % 65536) (fun x => x) l n hc]
    have hz1 : (turned ack l (n + 1)).length = l.length := by simp [turned]; omega
    rw [hset]
    repeat first
      | with_reducible refine AWP.seq ?_
      | ((with_reducible refine AWP.region ?_ ?_); exact rfl)
      | with_reducible refine AWP.block ?_
      | with_reducible refine AWP.skip ?_
      | with_reducible refine AWP.exit ?_
      | with_reducible refine AWP.ret ?_
      | with_reducible refine AWP.label ?_
      | with_reducible refine AWP.goto ?_
      | ((with_reducible refine AWP.condT ?_ ?_); focus (simp only [ev, lk_cons, ↓reduceIte, Nat.reduceEqDiff]; done))
      | ((with_reducible refine AWP.condF ?_ ?_); focus (simp only [ev, lk_cons, ↓reduceIte, Nat.reduceEqDiff]; done))
      | simp only [go_sem, ↓reduceIte, Nat.reduceEqDiff, reduceCtorEq, Nat.reduceAdd, Int.reduceEq, Int.reduceBNe, Int.reduceBEq, Int.reduceToNat, Int.reduceLT, Int.reduceLE, Int.reduceGT, Int.reduceGE, Nat.reduceSub, Int.reduceAdd, Int.reduceSub, Int.reduceMul, Int.reduceNeg, Nat.reduceMul, Nat.reduceLeDiff, Nat.reduceLT]
      | simp (disch := omega) only [wi64, wu8, wu16, wu32, wu64]
      | with_reducible_and_instances exact finR
      | ((with_reducible refine finR' ?_ ?_) <;> rfl)
      | ((with_reducible refine finD hsc (NRel.of_plain ?_)); exact rfl)
    refine ⟨n + 1, ?_, by omega, by omega⟩
    rw [gO_pos (l := intsC (turned ack l (n + 1))) (by rw [intsC_length, hz1]; exact hpos)]
    exact Weak.env (by simp [envIn, lk_cons, wth_some])
  · have : n = l.length := by omega
    subst this
    have hc' : ¬ (l.length : Int) < (l.length : Int) := by omega
    repeat first
      | with_reducible refine AWP.seq ?_
      | ((with_reducible refine AWP.region ?_ ?_); exact rfl)
      | with_reducible refine AWP.block ?_
      | with_reducible refine AWP.skip ?_
      | with_reducible refine AWP.exit ?_
      | with_reducible refine AWP.ret ?_
      | with_reducible refine AWP.label ?_
      | with_reducible refine AWP.goto ?_
      | ((with_reducible refine AWP.condT ?_ ?_); focus (simp only [ev, lk_cons, ↓reduceIte, Nat.reduceEqDiff]; done))
      | ((with_reducible refine AWP.condF ?_ ?_); focus (simp only [ev, lk_cons, ↓reduceIte, Nat.reduceEqDiff]; done))
      | simp only [go_sem, ↓reduceIte, Nat.reduceEqDiff, reduceCtorEq, Nat.reduceAdd, Int.reduceEq, Int.reduceBNe, Int.reduceBEq, Int.reduceToNat, Int.reduceLT, Int.reduceLE, Int.reduceGT, Int.reduceGE, Nat.reduceSub, Int.reduceAdd, Int.reduceSub, Int.reduceMul, Int.reduceNeg, Nat.reduceMul, Nat.reduceLeDiff, Nat.reduceLT, hc']
      | simp (disch := omega) only [wi64, wu8, wu16, wu32, wu64]
      | with_reducible_and_instances exact finR
      | ((with_reducible refine finR' ?_ ?_) <;> rfl)
      | ((with_reducible refine finD hsc (NRel.of_plain ?_)); exact rfl)
    have ht : turned ack l l.length = l.map fun x => (ack + x) % 65536 := by unfold turned; simp [List.take_of_length_le]
    rw [ht, List.length_map]
    exact finR
theorem NamedR (ack : Int) (v : Value) (h0 : ¬ (0 ≤ ack ∧ ack < 65536)) (H : AHeap) : ARet Try.prog 15 [.int .i64 ack, v] H (.tuple ⟨[.slice none 0 0, .int .i64 7]⟩) H := by
  have hr : ∀ H, ARet Try.prog 42 [.int .i64 ack] H (.bool false) H := fun H => by
    have := round ack H
    rwa [decide_eq_false h0] at this
  refine AC.enter Try.func15 rfl (by kernel_rfl) 36 rfl [.tmp 4, .tmp 5] rfl (by simp) fun hsc B => ?_
  repeat first
    | with_reducible refine AWP.seq ?_
    | ((with_reducible refine AWP.region ?_ ?_); exact rfl)
    | with_reducible refine AWP.block ?_
    | with_reducible refine AWP.skip ?_
    | with_reducible refine AWP.exit ?_
    | with_reducible refine AWP.ret ?_
    | with_reducible refine AWP.label ?_
    | with_reducible refine AWP.goto ?_
    | ((with_reducible refine AWP.condT ?_ ?_); focus (simp only [ev, lk_cons, ↓reduceIte, Nat.reduceEqDiff]; done))
    | ((with_reducible refine AWP.condF ?_ ?_); focus (simp only [ev, lk_cons, ↓reduceIte, Nat.reduceEqDiff]; done))
    | with_reducible refine (hr _).use ?_
    | simp only [go_sem, ↓reduceIte, Nat.reduceEqDiff, reduceCtorEq, Nat.reduceAdd, Int.reduceEq, Int.reduceBNe, Int.reduceBEq, Int.reduceToNat, Int.reduceLT, Int.reduceLE, Int.reduceGT, Int.reduceGE, Nat.reduceSub, Int.reduceAdd, Int.reduceSub, Int.reduceMul, Int.reduceNeg, Nat.reduceMul, Nat.reduceLeDiff, Nat.reduceLT]
    | simp (disch := omega) only [wi64, wu8, wu16, wu32, wu64]
    | with_reducible_and_instances exact finR
    | ((with_reducible refine finR' ?_ ?_) <;> rfl)
    | ((with_reducible refine finD hsc (NRel.of_plain ?_)); exact rfl)
theorem NamedS (ack : Int) (s : List UInt8) (h0 : 0 ≤ ack ∧ ack < 65536) (hs : 4 < s.length) (H : AHeap) : ARet Try.prog 15 [.int .i64 ack, .string (bs s)] H (.tuple ⟨[.slice none 0 0, .int .i64 11]⟩) H := by
  have hr : ∀ H, ARet Try.prog 42 [.int .i64 ack] H (.bool true) H := fun H => by
    have := round ack H
    rwa [decide_eq_true h0] at this
  have hl : (s.length : Int) > 4 := by omega
  refine AC.enter Try.func15 rfl (by kernel_rfl) 36 rfl [.tmp 4, .tmp 5] rfl (by simp) fun hsc B => ?_
  repeat first
    | with_reducible refine AWP.seq ?_
    | ((with_reducible refine AWP.region ?_ ?_); exact rfl)
    | with_reducible refine AWP.block ?_
    | with_reducible refine AWP.skip ?_
    | with_reducible refine AWP.exit ?_
    | with_reducible refine AWP.ret ?_
    | with_reducible refine AWP.label ?_
    | with_reducible refine AWP.goto ?_
    | ((with_reducible refine AWP.condT ?_ ?_); focus (simp only [ev, lk_cons, ↓reduceIte, Nat.reduceEqDiff]; done))
    | ((with_reducible refine AWP.condF ?_ ?_); focus (simp only [ev, lk_cons, ↓reduceIte, Nat.reduceEqDiff]; done))
    | with_reducible refine (hr _).use ?_
    | simp only [go_sem, ↓reduceIte, Nat.reduceEqDiff, reduceCtorEq, Nat.reduceAdd, Int.reduceEq, Int.reduceBNe, Int.reduceBEq, Int.reduceToNat, Int.reduceLT, Int.reduceLE, Int.reduceGT, Int.reduceGE, Nat.reduceSub, Int.reduceAdd, Int.reduceSub, Int.reduceMul, Int.reduceNeg, Nat.reduceMul, Nat.reduceLeDiff, Nat.reduceLT, hl]
    | simp (disch := omega) only [wi64, wu8, wu16, wu32, wu64]
    | with_reducible_and_instances exact finR
    | ((with_reducible refine finR' ?_ ?_) <;> rfl)
    | ((with_reducible refine finD hsc (NRel.of_plain ?_)); exact rfl)
end Go.Proofs.Ytfcocdeocbiolaa
