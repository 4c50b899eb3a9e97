/-
  The walk of sorted nodes: things of a list are exchanged.
-/
import Derived.Test.YtdbdnknnaekbhaaNJ
import Derived.Test.YtdbdnknnaekbhaaOA
import Derived.Test.YtdbdnknnaekbhaaAwC
set_option linter.unusedVariables false
set_option linter.unusedSimpArgs false
set_option maxRecDepth 20000
set_option maxHeartbeats 4000000
namespace Go.Proofs.Ytdbdnknnaekbhaa
open Go Go.Aw Go.Proofs
/-- The object b is the list l. -/
def lsO (l : List Nd) : AObj := .cells (ndsC l) ⟨46, 4, true, 0, none⟩
theorem put_nd : ∀ (l : List Nd) (n : Nat) (x : Nd), n < l.length → putCells (ndsC l) (n * 4) (ndC x) = ndsC (l.set n x) := by
  intro l n x h
  have h4 := ndsC_len l
  have hx : (ndC x).length = 4 := rfl
  rw [putCells_eq _ _ _ (by rw [h4, hx]; omega), hx]
  have e : ∀ (l : List Nd) (n : Nat), (ndsC l).take (n * 4) = ndsC (l.take n) := by
    intro l
    induction l with
    | nil => intro n; rw [List.take_nil]; exact List.take_nil
    | cons a l ih =>
      intro n
      cases n with
      | zero => rw [Nat.zero_mul]; rfl
      | succ n =>
        rw [show ndsC (a :: l) = ndC a ++ ndsC l from rfl, List.take_succ_cons, show ndsC (a :: l.take n) = ndC a ++ ndsC (l.take n) from rfl, ← ih n]
        rw [List.take_append, List.take_of_length_le (by show 4 ≤ _; omega)]
        congr 2
        show (n + 1) * 4 - 4 = n * 4
        omega
  have d : ∀ (l : List Nd) (n : Nat), (ndsC l).drop (n * 4) = ndsC (l.drop n) := by
    intro l
    induction l with
    | nil => intro n; rw [List.drop_nil]; exact List.drop_nil
    | cons a l ih =>
      intro n
      cases n with
      | zero => rw [Nat.zero_mul]; rfl
      | succ n =>
        rw [show ndsC (a :: l) = ndC a ++ ndsC l from rfl, List.drop_succ_cons, ← ih n]
        rw [List.drop_append, List.drop_eq_nil_of_le (by show 4 ≤ _; omega), List.nil_append]
        congr 1
        show (n + 1) * 4 - 4 = n * 4
        omega
  rw [e, show n * 4 + 4 = (n + 1) * 4 by omega, d, List.set_eq_take_append_cons_drop, if_pos h]
  unfold ndsC
  simp
theorem set_same {H : AHeap} {b : Nat} {o : AObj} (h : H[b]? = some o) : H.set b o = H := by
  apply List.ext_getElem?
  intro m
  by_cases hm : m = b
  · subst hm; rw [List.getElem?_set_self (lt_of_get h), h]
  · rw [List.getElem?_set_ne (Ne.symm hm)]
theorem nd_len (x : Nd) : (ndC x).length = 4 := rfl
theorem nd_flat (x : Nd) : (ndC x).all flat = true := rfl
theorem hsets {H : AHeap} {b : Nat} (h : b < H.length) (o : AObj) : (H.set b o)[b]? = some o := List.getElem?_set_self h
theorem swapRange (b : Nat) (l : List Nd) (x y n : Nat) (c : Value) (hl : l.length < 1099511627776) (h1 : x + n ≤ y) (h2 : y + n ≤ l.length) (H : AHeap) (hb : H[b]? = some (lsO l)) :
    AC Try.prog 79 [.slice (some ⟨b, 0, none⟩) l.length l.length, .int .i64 x, .int .i64 y, .int .i64 n, c] H (fun r H1 => r = .ret noVal ∧ ∃ l', Pm l l' (exch x y n) ∧ H1 = H.set b (lsO l')) := by
  have hbl := lt_of_get hb
  refine AC.enter Try.func79 rfl (by kernel_rfl) 38 rfl [] rfl (by simp) fun hsc B => ?_
  repeat first
    | with_reducible refine AWP.seq ?_
    | ((with_reducible refine AWP.region ?_ ?_); exact rfl)
    | with_reducible refine AWP.block ?_
    | with_reducible refine AWP.skip ?_
    | with_reducible refine AWP.exit ?_
    | with_reducible refine AWP.ret ?_
    | with_reducible refine AWP.label ?_
    | with_reducible refine AWP.goto ?_
    | ((with_reducible refine AWP.condT ?_ ?_); focus (simp only [ev, lk_cons, ↓reduceIte, Nat.reduceEqDiff]; done))
    | ((with_reducible refine AWP.condF ?_ ?_); focus (simp only [ev, lk_cons, ↓reduceIte, Nat.reduceEqDiff]; done))
    | simp only [go_sem, ↓reduceIte, Nat.reduceEqDiff, reduceCtorEq, Nat.reduceAdd, Int.reduceEq, Int.reduceBNe, Int.reduceBEq, Int.reduceToNat, Int.reduceLT, Int.reduceLE, Int.reduceGT, Int.reduceGE, Nat.reduceSub, Nat.reduceBEq, Nat.reduceBNe, Int.reduceAdd, Int.reduceSub, Int.reduceMul, Int.reduceNeg, Nat.reduceMul, Nat.reduceLeDiff, Nat.reduceLT]
    | simp (disch := omega) only [wi64, wu8, wu16, wu32, wu64, Int.tdiv_eq_ediv_of_nonneg, Int.tmod_eq_emod_of_nonneg]
    | with_reducible_and_instances exact finR
    | ((with_reducible refine finR' ?_ ?_) <;> rfl)
    | ((with_reducible refine finD hsc (NRel.of_plain ?_)); exact rfl)
  refine AWP.loopP (fun s : Nat × List Nd => ⟨[(0, .slice (some ⟨b, 0, none⟩) l.length l.length), (1, .int .i64 x), (2, .int .i64 y), (3, .int .i64 n), (4, c), (10, .int .i64 (s.1 : Nat))], [], H.set b (lsO s.2)⟩)
    (fun s => s.1 ≤ n ∧ Pm l s.2 (exch x y s.1)) (fun s => n - s.1) (0, l) ?_ ⟨Nat.zero_le _, (Pm.refl l).of fun q _ => (exch_zero x y q).symm⟩ ?_
  · simp only [set_same hb]
    exact Weak.env (by simp [envIn, lk_cons, wth_some])
  rintro ⟨i, m⟩ ⟨hi, hp⟩
  simp only at hi hp ⊢
  have hml := hp.len
  by_cases hc : i < n
  · have hc' : (i : Int) < (n : Int) := by omega
    have hw1 : IntKind.i64.wrap ((x : Int) + (i : Int)) = ((x + i : Nat) : Int) := by rw [wi64 (by omega)]; omega
    have hw2 : IntKind.i64.wrap ((y : Int) + (i : Int)) = ((y + i : Nat) : Int) := by rw [wi64 (by omega)]; omega
    have hw3 : IntKind.i64.wrap ((i : Int) + 1) = ((i + 1 : Nat) : Int) := by rw [wi64 (by omega)]; omega
    have hx1 : x + i < m.length := by omega
    have hy1 : y + i < m.length := by omega
    have hx0 : (0 : Int) ≤ ((x + i : Nat) : Int) := Int.natCast_nonneg _
    have hy0 : (0 : Int) ≤ ((y + i : Nat) : Int) := Int.natCast_nonneg _
    have hx2 : ((x + i : Nat) : Int) < (l.length : Int) := by omega
    have hy2 : ((y + i : Nat) : Int) < (l.length : Int) := by omega
    have hg : (H.set b (lsO m))[b]? = some (.cells (ndsC m) ⟨46, 4, true, 0, none⟩) := List.getElem?_set_self hbl
    have hcl := ndsC_len m
    have ax := ndsC_at m (x + i) hx1
    have ay := ndsC_at m (y + i) hy1
    have hbx : (x + i) * 4 + 4 ≤ (ndsC m).length := by omega
    have hby : (y + i) * 4 + 4 ≤ (ndsC m).length := by omega
    repeat first
      | with_reducible refine AWP.seq ?_
      | ((with_reducible refine AWP.region ?_ ?_); exact rfl)
      | with_reducible refine AWP.block ?_
      | with_reducible refine AWP.skip ?_
      | with_reducible refine AWP.exit ?_
      | with_reducible refine AWP.ret ?_
      | with_reducible refine AWP.label ?_
      | with_reducible refine AWP.goto ?_
      | ((with_reducible refine AWP.condT ?_ ?_); focus (simp only [ev, lk_cons, ↓reduceIte, Nat.reduceEqDiff]; done))
      | ((with_reducible refine AWP.condF ?_ ?_); focus (simp only [ev, lk_cons, ↓reduceIte, Nat.reduceEqDiff]; done))
      | simp only [go_sem, ↓reduceIte, Nat.reduceEqDiff, reduceCtorEq, Nat.reduceAdd, Int.reduceEq, Int.reduceBNe, Int.reduceBEq, Int.reduceToNat, Int.reduceLT, Int.reduceLE, Int.reduceGT, Int.reduceGE, Nat.reduceSub, Nat.reduceBEq, Nat.reduceBNe, Int.reduceAdd, Int.reduceSub, Int.reduceMul, Int.reduceNeg, Nat.reduceMul, Nat.reduceLeDiff, Nat.reduceLT, hc', hw1, hw2]
      | simp (disch := omega) only [wi64, wu8, wu16, wu32, wu64, Int.tdiv_eq_ediv_of_nonneg, Int.tmod_eq_emod_of_nonneg]
      | with_reducible_and_instances exact finR
      | ((with_reducible refine finR' ?_ ?_) <;> rfl)
      | ((with_reducible refine finD hsc (NRel.of_plain ?_)); exact rfl)
    refine AWP.regionM 22 [13, 19, 21] [] (.both (.run [13, 19, 21]) (.run [19, 13, 21])) (by kernel_rfl) (by decide) (by kernel_rfl) (by kernel_rfl) (by kernel_rfl) ?_
    have px := put_nd m (x + i) m[y + i] hx1
    have py := put_nd (m.set (x + i) m[y + i]) (y + i) m[x + i] (by rw [List.length_set]; exact hy1)
    have hcx := ndsC_len (m.set (x + i) m[y + i])
    rw [List.length_set] at hcx
    have hby2 : (y + i) * 4 + 4 ≤ (ndsC (m.set (x + i) m[y + i])).length := by omega
    have hps := hp.trans (Pm.swap m (List.getElem?_eq_getElem hx1) (List.getElem?_eq_getElem hy1)) (fun q hq => by unfold swp; (repeat' split) <;> omega)
    repeat' first
      | with_reducible refine canW_n ?_
      | with_reducible refine canW_m (by decide) ?_
      | ((with_reducible apply canW_p (by decide)); focus (intro H; (simp only [go_sem, ↓reduceIte, Nat.reduceEqDiff, reduceCtorEq, Nat.reduceAdd, Int.reduceEq, Int.reduceBNe, Int.reduceBEq, Int.reduceToNat, Int.reduceLT, Int.reduceLE, Int.reduceGT, Int.reduceGE, Nat.reduceSub, Nat.reduceBEq, Nat.reduceBNe, Int.reduceAdd, Int.reduceSub, Int.reduceMul, Int.reduceNeg, Nat.reduceMul, Nat.reduceLeDiff, Nat.reduceLT, hw1, hw2, hw3, hg, ax, ay, hbx, hby, hx0, hy0, hx2, hy2, Int.toNat_natCast, nd_len, nd_flat, px, py, hby2, hsets, hbl, List.set_set, List.length_set, List.map_cons, List.map_nil]); exact rfl))
      | with_reducible refine memW_b ?_ ?_
      | with_reducible refine memW_s rfl ?_
      | with_reducible refine memW_r rfl ?_
      | with_reducible refine memW_e ?_
      | simp only [List.take_succ_cons, List.take_zero, List.drop_succ_cons, List.drop_zero]
      | omega
      | with_reducible refine And.intro ?_ ?_
      | with_reducible refine AWP.seq ?_
      | ((with_reducible refine AWP.region ?_ ?_); exact rfl)
      | with_reducible refine AWP.block ?_
      | with_reducible refine AWP.skip ?_
      | with_reducible refine AWP.exit ?_
      | with_reducible refine AWP.ret ?_
      | with_reducible refine AWP.label ?_
      | with_reducible refine AWP.goto ?_
      | ((with_reducible refine AWP.condT ?_ ?_); focus (simp only [ev, lk_cons, ↓reduceIte, Nat.reduceEqDiff]; done))
      | ((with_reducible refine AWP.condF ?_ ?_); focus (simp only [ev, lk_cons, ↓reduceIte, Nat.reduceEqDiff]; done))
      | simp only [go_sem, ↓reduceIte, Nat.reduceEqDiff, reduceCtorEq, Nat.reduceAdd, Int.reduceEq, Int.reduceBNe, Int.reduceBEq, Int.reduceToNat, Int.reduceLT, Int.reduceLE, Int.reduceGT, Int.reduceGE, Nat.reduceSub, Nat.reduceBEq, Nat.reduceBNe, Int.reduceAdd, Int.reduceSub, Int.reduceMul, Int.reduceNeg, Nat.reduceMul, Nat.reduceLeDiff, Nat.reduceLT, hw1, hw2, hw3, hg, ax, ay, hbx, hby, hx0, hy0, hx2, hy2, Int.toNat_natCast, nd_len, nd_flat, px, py, hby2, hsets, hbl, List.set_set, List.length_set, List.map_cons, List.map_nil]
      | simp (disch := omega) only [wi64, wu8, wu16, wu32, wu64, Int.tdiv_eq_ediv_of_nonneg, Int.tmod_eq_emod_of_nonneg]
      | with_reducible_and_instances exact finR
      | ((with_reducible refine finR' ?_ ?_) <;> rfl)
      | ((with_reducible refine finD hsc (NRel.of_plain ?_)); exact rfl)
    all_goals exact ⟨(i + 1, _), Weak.env (by simp [envIn, lk_cons, wth_some]), by omega, hps.of (fun q hq => exch_succ (by omega) q), by omega⟩
  · have : i = n := by omega
    subst this
    have hc' : ¬ (i : Int) < (i : Int) := by omega
    repeat first
      | with_reducible refine AWP.seq ?_
      | ((with_reducible refine AWP.region ?_ ?_); exact rfl)
      | with_reducible refine AWP.block ?_
      | with_reducible refine AWP.skip ?_
      | with_reducible refine AWP.exit ?_
      | with_reducible refine AWP.ret ?_
      | with_reducible refine AWP.label ?_
      | with_reducible refine AWP.goto ?_
      | ((with_reducible refine AWP.condT ?_ ?_); focus (simp only [ev, lk_cons, ↓reduceIte, Nat.reduceEqDiff]; done))
      | ((with_reducible refine AWP.condF ?_ ?_); focus (simp only [ev, lk_cons, ↓reduceIte, Nat.reduceEqDiff]; done))
      | simp only [go_sem, ↓reduceIte, Nat.reduceEqDiff, reduceCtorEq, Nat.reduceAdd, Int.reduceEq, Int.reduceBNe, Int.reduceBEq, Int.reduceToNat, Int.reduceLT, Int.reduceLE, Int.reduceGT, Int.reduceGE, Nat.reduceSub, Nat.reduceBEq, Nat.reduceBNe, Int.reduceAdd, Int.reduceSub, Int.reduceMul, Int.reduceNeg, Nat.reduceMul, Nat.reduceLeDiff, Nat.reduceLT, hc']
      | simp (disch := omega) only [wi64, wu8, wu16, wu32, wu64, Int.tdiv_eq_ediv_of_nonneg, Int.tmod_eq_emod_of_nonneg]
      | with_reducible_and_instances exact finR
      | ((with_reducible refine finR' ?_ ?_) <;> rfl)
      | ((with_reducible refine finD hsc (NRel.of_plain ?_)); exact rfl)
    exact ⟨_, _, .refl _ _ _, rfl, _, hp, rfl⟩
end Go.Proofs.Ytdbdnknnaekbhaa

