/-
  The walk of identifiers: the specification's prefix, random ones within a prefix; the next one, both.
-/
import Derived.Test.YtmpkgdilmkeacaaDoorRE
set_option linter.unusedVariables false
set_option linter.unusedSimpArgs false
set_option maxRecDepth 20000
set_option maxHeartbeats 4000000
namespace Go.Proofs.YtmpkgdilmkeacaaDoor
open Go Go.Aw Go.Proofs Go.Shelf Go.RowKit Go.ChangeShapes
def boF (f : Nat → Bool) : List Value := boolsC ((List.range 160).map f)
theorem boF_at {f : Nat → Bool} {n : Nat} (h : n < 160) : (boF f)[n]? = some (.bool (f n)) := boolsC_at h
theorem boF_len (f : Nat → Bool) : (boF f).length = 160 := boolsC_len f
theorem boF_set {f g : Nat → Bool} {n : Nat} {v : Bool} (hn : n < 160) (hv : v = g n) (h : ∀ m, m < 160 → m ≠ n → f m = g m) : (boF f).set n (.bool v) = boF g := by
  unfold boF
  rw [boolsC_set, range_set 160 n f g v hn hv h]
theorem boF_congr {f g : Nat → Bool} (h : ∀ m, m < 160 → f m = g m) : boF f = boF g := by
  unfold boF
  congr 1
  apply List.map_congr_left
  intro m hm
  exact h m (List.mem_range.1 hm)
theorem bitsF (s : List UInt8) (hs : s.length = 20) (H : AHeap) : ARet Tryd.prog 72 [.string (bs s)] H (.slice (some ⟨H.length, 0, none⟩) 160 160) (H ++ [.cells (boF (bitAt s)) ⟨4, 1, true, 0, none⟩]) := bits s hs H
theorem fromF (f : Nat → Bool) (x : List UInt8) (hx : x.length = 20) (hb : ∀ m, m < 160 → bitAt x m = f m) (i : Nat) (k : CK) (cap : Nat) (H : AHeap) (hi : H[i]? = some (.cells (boF f) k)) : ARet Tryd.prog 73 [.slice (some ⟨i, 0, none⟩) 160 cap] H (.string (bs x)) H :=
  from_ ((List.range 160).map f) (by simp) x hx (fun m hm => by rw [range_getD hm, hb m hm]) i k cap H hi
theorem rPrefix (s : List UInt8) (hs : s.length = 20) (n : Nat) (hn : n ≤ 160) (H : AHeap) : ARet Tryd.prog 32 [.string (bs s), .int .i64 (n : Nat)] H (.string (bs (preL s n))) H := by
  have hB := fun H => bitsF s hs H
  refine AC.enter Tryd.func32 rfl (by kernel_rfl) 19 rfl [.tmp 4] rfl (by simp) fun hsc B => ?_
  repeat first
    | with_reducible refine AWP.seq ?_
    | ((with_reducible refine AWP.region ?_ ?_); exact rfl)
    | with_reducible refine AWP.block ?_
    | with_reducible refine AWP.skip ?_
    | with_reducible refine AWP.exit ?_
    | with_reducible refine AWP.ret ?_
    | with_reducible refine AWP.label ?_
    | with_reducible refine AWP.goto ?_
    | ((with_reducible refine AWP.condT ?_ ?_); focus (simp only [ev, lk_cons, ↓reduceIte, Nat.reduceEqDiff]; done))
    | ((with_reducible refine AWP.condF ?_ ?_); focus (simp only [ev, lk_cons, ↓reduceIte, Nat.reduceEqDiff]; done))
    | with_reducible refine (hB _).use ?_
    | simp only [go_sem, ↓reduceIte, Nat.reduceEqDiff, reduceCtorEq, Nat.reduceAdd, Int.reduceEq, Int.reduceBNe, Int.reduceBEq, Int.reduceToNat, Int.reduceLT, Int.reduceLE, Int.reduceGT, Int.reduceGE, Nat.reduceSub, Nat.reduceBEq, Nat.reduceBNe, Int.reduceAdd, Int.reduceSub, Int.reduceMul, Int.reduceNeg, Nat.reduceMul, Nat.reduceLeDiff, Nat.reduceLT]
    | simp (disch := omega) only [wi64, wu8, wu16, wu32, wu64, Int.tdiv_eq_ediv_of_nonneg, Int.tmod_eq_emod_of_nonneg]
    | with_reducible_and_instances exact finR
    | ((with_reducible refine finR' ?_ ?_) <;> rfl)
    | ((with_reducible refine finD hsc (NRel.of_plain ?_)); exact rfl)
  refine AWP.loopP (fun i : Nat => ⟨[(5, .slice (some ⟨H.length, 0, none⟩) 160 160), (6, .int .i64 (i : Nat))], [], H ++ [.cells (boF (fun m => if n ≤ m ∧ m < i then false else bitAt s m)) ⟨4, 1, true, 0, none⟩]⟩) (fun i => n ≤ i ∧ i ≤ 160) (fun i => 160 - i) n ?_ ⟨Nat.le_refl _, hn⟩ ?_
  · have : (fun m => if n ≤ m ∧ m < n then false else bitAt s m) = bitAt s := by funext m; rw [if_neg (by omega)]
    rw [this]
    exact Weak.env (by simp [envIn, lk_cons, wth_some])
  rintro i ⟨h1, h2⟩
  by_cases hc : i < 160
  · have hc' : (i : Int) < 160 := by omega
    have hl := boF_len (fun m => if n ≤ m ∧ m < i then false else bitAt s m)
    have hst : (boF (fun m => if n ≤ m ∧ m < i then false else bitAt s m)).set i (.bool false) = boF (fun m => if n ≤ m ∧ m < i + 1 then false else bitAt s m) := by
      refine boF_set hc (by rw [if_pos ⟨h1, by omega⟩]) fun m _ hm => ?_
      by_cases h : n ≤ m ∧ m < i
      · rw [if_pos h, if_pos (by omega)]
      · rw [if_neg h, if_neg (by omega)]
    generalize hx : boF (fun m => if n ≤ m ∧ m < i + 1 then false else bitAt s m) = c2 at hst
    generalize boF (fun m => if n ≤ m ∧ m < i then false else bitAt s m) = c1 at *
    repeat first
      | with_reducible refine AWP.seq ?_
      | ((with_reducible refine AWP.region ?_ ?_); exact rfl)
      | with_reducible refine AWP.block ?_
      | with_reducible refine AWP.skip ?_
      | with_reducible refine AWP.exit ?_
      | with_reducible refine AWP.ret ?_
      | with_reducible refine AWP.label ?_
      | with_reducible refine AWP.goto ?_
      | ((with_reducible refine AWP.condT ?_ ?_); focus (simp only [ev, lk_cons, ↓reduceIte, Nat.reduceEqDiff]; done))
      | ((with_reducible refine AWP.condF ?_ ?_); focus (simp only [ev, lk_cons, ↓reduceIte, Nat.reduceEqDiff]; done))
      | simp only [go_sem, ↓reduceIte, Nat.reduceEqDiff, reduceCtorEq, Nat.reduceAdd, Int.reduceEq, Int.reduceBNe, Int.reduceBEq, Int.reduceToNat, Int.reduceLT, Int.reduceLE, Int.reduceGT, Int.reduceGE, Nat.reduceSub, Nat.reduceBEq, Nat.reduceBNe, Int.reduceAdd, Int.reduceSub, Int.reduceMul, Int.reduceNeg, Nat.reduceMul, Nat.reduceLeDiff, Nat.reduceLT, hc', hst, hl]
      | simp (disch := omega) only [wi64, wu8, wu16, wu32, wu64, Int.tdiv_eq_ediv_of_nonneg, Int.tmod_eq_emod_of_nonneg]
      | with_reducible_and_instances exact finR
      | ((with_reducible refine finR' ?_ ?_) <;> rfl)
      | ((with_reducible refine finD hsc (NRel.of_plain ?_)); exact rfl)
    refine ⟨by omega, ?_⟩
    repeat first
      | with_reducible refine AWP.seq ?_
      | ((with_reducible refine AWP.region ?_ ?_); exact rfl)
      | with_reducible refine AWP.block ?_
      | with_reducible refine AWP.skip ?_
      | with_reducible refine AWP.exit ?_
      | with_reducible refine AWP.ret ?_
      | with_reducible refine AWP.label ?_
      | with_reducible refine AWP.goto ?_
      | ((with_reducible refine AWP.condT ?_ ?_); focus (simp only [ev, lk_cons, ↓reduceIte, Nat.reduceEqDiff]; done))
      | ((with_reducible refine AWP.condF ?_ ?_); focus (simp only [ev, lk_cons, ↓reduceIte, Nat.reduceEqDiff]; done))
      | simp only [go_sem, ↓reduceIte, Nat.reduceEqDiff, reduceCtorEq, Nat.reduceAdd, Int.reduceEq, Int.reduceBNe, Int.reduceBEq, Int.reduceToNat, Int.reduceLT, Int.reduceLE, Int.reduceGT, Int.reduceGE, Nat.reduceSub, Nat.reduceBEq, Nat.reduceBNe, Int.reduceAdd, Int.reduceSub, Int.reduceMul, Int.reduceNeg, Nat.reduceMul, Nat.reduceLeDiff, Nat.reduceLT, hst]
      | simp (disch := omega) only [wi64, wu8, wu16, wu32, wu64, Int.tdiv_eq_ediv_of_nonneg, Int.tmod_eq_emod_of_nonneg]
      | with_reducible_and_instances exact finR
      | ((with_reducible refine finR' ?_ ?_) <;> rfl)
      | ((with_reducible refine finD hsc (NRel.of_plain ?_)); exact rfl)
    exact ⟨i + 1, by rw [hx]; exact Weak.env (by simp [envIn, lk_cons, wth_some]), by omega, by omega, by omega⟩
  · have : i = 160 := by omega
    subst this
    have hF := fun H hi => fromF (fun m => if n ≤ m ∧ m < 160 then false else bitAt s m) (preL s n) (preL_len s hs n) (fun m hm => by
      rw [preL_bit s hs n hn m hm]
      by_cases h : n ≤ m
      · rw [if_pos ⟨h, hm⟩]; simp; omega
      · rw [if_neg (by omega)]; simp; omega) H.length ⟨4, 1, true, 0, none⟩ 160 H hi
    repeat first
      | with_reducible refine AWP.seq ?_
      | ((with_reducible refine AWP.region ?_ ?_); exact rfl)
      | with_reducible refine AWP.block ?_
      | with_reducible refine AWP.skip ?_
      | with_reducible refine AWP.exit ?_
      | with_reducible refine AWP.ret ?_
      | with_reducible refine AWP.label ?_
      | with_reducible refine AWP.goto ?_
      | ((with_reducible refine AWP.condT ?_ ?_); focus (simp only [ev, lk_cons, ↓reduceIte, Nat.reduceEqDiff]; done))
      | ((with_reducible refine AWP.condF ?_ ?_); focus (simp only [ev, lk_cons, ↓reduceIte, Nat.reduceEqDiff]; done))
      | simp only [go_sem, ↓reduceIte, Nat.reduceEqDiff, reduceCtorEq, Nat.reduceAdd, Int.reduceEq, Int.reduceBNe, Int.reduceBEq, Int.reduceToNat, Int.reduceLT, Int.reduceLE, Int.reduceGT, Int.reduceGE, Nat.reduceSub, Nat.reduceBEq, Nat.reduceBNe, Int.reduceAdd, Int.reduceSub, Int.reduceMul, Int.reduceNeg, Nat.reduceMul, Nat.reduceLeDiff, Nat.reduceLT]
      | simp (disch := omega) only [wi64, wu8, wu16, wu32, wu64, Int.tdiv_eq_ediv_of_nonneg, Int.tmod_eq_emod_of_nonneg]
      | with_reducible_and_instances exact finR
      | ((with_reducible refine finR' ?_ ?_) <;> rfl)
      | ((with_reducible refine finD hsc (NRel.of_plain ?_)); exact rfl)
    refine (fromF (fun m => if n ≤ m ∧ m < 160 then false else bitAt s m) (preL s n) (preL_len s hs n) (fun m hm => by
      rw [preL_bit s hs n hn m hm]
      by_cases h : n ≤ m
      · rw [if_pos ⟨h, hm⟩]; simp; omega
      · rw [if_neg (by omega)]; simp; omega) H.length ⟨4, 1, true, 0, none⟩ 160 _ (hget0 rfl)).use ?_
    repeat first
      | with_reducible refine AWP.seq ?_
      | ((with_reducible refine AWP.region ?_ ?_); exact rfl)
      | with_reducible refine AWP.block ?_
      | with_reducible refine AWP.skip ?_
      | with_reducible refine AWP.exit ?_
      | with_reducible refine AWP.ret ?_
      | with_reducible refine AWP.label ?_
      | with_reducible refine AWP.goto ?_
      | ((with_reducible refine AWP.condT ?_ ?_); focus (simp only [ev, lk_cons, ↓reduceIte, Nat.reduceEqDiff]; done))
      | ((with_reducible refine AWP.condF ?_ ?_); focus (simp only [ev, lk_cons, ↓reduceIte, Nat.reduceEqDiff]; done))
      | simp only [go_sem, ↓reduceIte, Nat.reduceEqDiff, reduceCtorEq, Nat.reduceAdd, Int.reduceEq, Int.reduceBNe, Int.reduceBEq, Int.reduceToNat, Int.reduceLT, Int.reduceLE, Int.reduceGT, Int.reduceGE, Nat.reduceSub, Nat.reduceBEq, Nat.reduceBNe, Int.reduceAdd, Int.reduceSub, Int.reduceMul, Int.reduceNeg, Nat.reduceMul, Nat.reduceLeDiff, Nat.reduceLT]
      | simp (disch := omega) only [wi64, wu8, wu16, wu32, wu64, Int.tdiv_eq_ediv_of_nonneg, Int.tmod_eq_emod_of_nonneg]
      | with_reducible_and_instances exact finR
      | ((with_reducible refine finR' ?_ ?_) <;> rfl)
      | ((with_reducible refine finD hsc (NRel.of_plain ?_)); exact rfl)
theorem rIn (s : List UInt8) (hs : s.length = 20) (n : Nat) (hn : n ≤ 160) (seed : List UInt8) (hd : seed.length ≤ 1000) (k : Int) (h0 : 0 ≤ k) (hk : k ≤ 9223372036854775807) (H : AHeap) (hT : TabH H) :
    ARet Tryd.prog 36 [.string (bs s), .int .i64 (n : Nat), .string (bs seed), .int .i64 k] H (.string (bs (inL s n seed k))) H := by
  have hR := rRandom seed hd k h0 hk H hT
  have hrl := randL_len seed k
  have hB1 := fun H => bitsF (randL seed k) hrl H
  have hB2 := fun H => bitsF s hs H
  have hbit := inL_bit s hs n hn seed k
  have hil := inL_len s hs n seed k
  generalize inL s n seed k = il at *
  generalize randL seed k = rn at *
  refine AC.enter Tryd.func36 rfl (by kernel_rfl) 32 rfl [.tmp 8] rfl (by simp) fun hsc B => ?_
  repeat first
    | with_reducible refine AWP.seq ?_
    | ((with_reducible refine AWP.region ?_ ?_); exact rfl)
    | with_reducible refine AWP.block ?_
    | with_reducible refine AWP.skip ?_
    | with_reducible refine AWP.exit ?_
    | with_reducible refine AWP.ret ?_
    | with_reducible refine AWP.label ?_
    | with_reducible refine AWP.goto ?_
    | ((with_reducible refine AWP.condT ?_ ?_); focus (simp only [ev, lk_cons, ↓reduceIte, Nat.reduceEqDiff]; done))
    | ((with_reducible refine AWP.condF ?_ ?_); focus (simp only [ev, lk_cons, ↓reduceIte, Nat.reduceEqDiff]; done))
    | with_reducible refine hR.use ?_
    | with_reducible refine (hB1 _).use ?_
    | with_reducible refine (hB2 _).use ?_
    | simp only [go_sem, ↓reduceIte, Nat.reduceEqDiff, reduceCtorEq, Nat.reduceAdd, Int.reduceEq, Int.reduceBNe, Int.reduceBEq, Int.reduceToNat, Int.reduceLT, Int.reduceLE, Int.reduceGT, Int.reduceGE, Nat.reduceSub, Nat.reduceBEq, Nat.reduceBNe, Int.reduceAdd, Int.reduceSub, Int.reduceMul, Int.reduceNeg, Nat.reduceMul, Nat.reduceLeDiff, Nat.reduceLT]
    | simp (disch := omega) only [wi64, wu8, wu16, wu32, wu64, Int.tdiv_eq_ediv_of_nonneg, Int.tmod_eq_emod_of_nonneg]
    | with_reducible_and_instances exact finR
    | ((with_reducible refine finR' ?_ ?_) <;> rfl)
    | ((with_reducible refine finD hsc (NRel.of_plain ?_)); exact rfl)
  refine AWP.loopP (fun i : Nat => ⟨[(9, .slice (some ⟨H.length, 0, none⟩) 160 160), (10, .slice (some ⟨H.length + 1, 0, none⟩) 160 160), (18, .int .i64 (n : Nat)), (19, .int .i64 (i : Nat))], [], H ++ [.cells (boF (fun m => if m < i then bitAt s m else bitAt rn m)) ⟨4, 1, true, 0, none⟩, .cells (boF (bitAt s)) ⟨4, 1, true, 0, none⟩]⟩) (fun i => i ≤ n) (fun i => n - i) 0 ?_ (Nat.zero_le _) ?_
  · have : (fun m => if m < 0 then bitAt s m else bitAt rn m) = bitAt rn := by funext m; rw [if_neg (by omega)]
    rw [this]
    exact Weak.env (by simp [envIn, lk_cons, wth_some])
  intro i h2
  by_cases hc : i < n
  · have hc' : (i : Int) < (n : Int) := by omega
    have hc2 : (i : Int) < 160 := by omega
    have hl := boF_len (fun m => if m < i then bitAt s m else bitAt rn m)
    have hg := boF_at (f := bitAt s) (show i < 160 by omega)
    have hst : (boF (fun m => if m < i then bitAt s m else bitAt rn m)).set i (.bool (bitAt s i)) = boF (fun m => if m < i + 1 then bitAt s m else bitAt rn m) := by
      refine boF_set (by omega) (by rw [if_pos (by omega)]) fun m _ hm => ?_
      by_cases h : m < i
      · rw [if_pos h, if_pos (by omega)]
      · rw [if_neg h, if_neg (by omega)]
    generalize hx : boF (fun m => if m < i + 1 then bitAt s m else bitAt rn m) = c2 at hst
    generalize boF (fun m => if m < i then bitAt s m else bitAt rn m) = c1 at *
    repeat first
      | with_reducible refine AWP.seq ?_
      | ((with_reducible refine AWP.region ?_ ?_); exact rfl)
      | with_reducible refine AWP.block ?_
      | with_reducible refine AWP.skip ?_
      | with_reducible refine AWP.exit ?_
      | with_reducible refine AWP.ret ?_
      | with_reducible refine AWP.label ?_
      | with_reducible refine AWP.goto ?_
      | ((with_reducible refine AWP.condT ?_ ?_); focus (simp only [ev, lk_cons, ↓reduceIte, Nat.reduceEqDiff]; done))
      | ((with_reducible refine AWP.condF ?_ ?_); focus (simp only [ev, lk_cons, ↓reduceIte, Nat.reduceEqDiff]; done))
      | simp only [go_sem, ↓reduceIte, Nat.reduceEqDiff, reduceCtorEq, Nat.reduceAdd, Int.reduceEq, Int.reduceBNe, Int.reduceBEq, Int.reduceToNat, Int.reduceLT, Int.reduceLE, Int.reduceGT, Int.reduceGE, Nat.reduceSub, Nat.reduceBEq, Nat.reduceBNe, Int.reduceAdd, Int.reduceSub, Int.reduceMul, Int.reduceNeg, Nat.reduceMul, Nat.reduceLeDiff, Nat.reduceLT, hc', hc2, hst, hl, hg]
      | simp (disch := omega) only [wi64, wu8, wu16, wu32, wu64, Int.tdiv_eq_ediv_of_nonneg, Int.tmod_eq_emod_of_nonneg]
      | with_reducible_and_instances exact finR
      | ((with_reducible refine finR' ?_ ?_) <;> rfl)
      | ((with_reducible refine finD hsc (NRel.of_plain ?_)); exact rfl)
    refine ⟨by omega, ?_⟩
    repeat first
      | with_reducible refine AWP.seq ?_
      | ((with_reducible refine AWP.region ?_ ?_); exact rfl)
      | with_reducible refine AWP.block ?_
      | with_reducible refine AWP.skip ?_
      | with_reducible refine AWP.exit ?_
      | with_reducible refine AWP.ret ?_
      | with_reducible refine AWP.label ?_
      | with_reducible refine AWP.goto ?_
      | ((with_reducible refine AWP.condT ?_ ?_); focus (simp only [ev, lk_cons, ↓reduceIte, Nat.reduceEqDiff]; done))
      | ((with_reducible refine AWP.condF ?_ ?_); focus (simp only [ev, lk_cons, ↓reduceIte, Nat.reduceEqDiff]; done))
      | simp only [go_sem, ↓reduceIte, Nat.reduceEqDiff, reduceCtorEq, Nat.reduceAdd, Int.reduceEq, Int.reduceBNe, Int.reduceBEq, Int.reduceToNat, Int.reduceLT, Int.reduceLE, Int.reduceGT, Int.reduceGE, Nat.reduceSub, Nat.reduceBEq, Nat.reduceBNe, Int.reduceAdd, Int.reduceSub, Int.reduceMul, Int.reduceNeg, Nat.reduceMul, Nat.reduceLeDiff, Nat.reduceLT, hst]
      | simp (disch := omega) only [wi64, wu8, wu16, wu32, wu64, Int.tdiv_eq_ediv_of_nonneg, Int.tmod_eq_emod_of_nonneg]
      | with_reducible_and_instances exact finR
      | ((with_reducible refine finR' ?_ ?_) <;> rfl)
      | ((with_reducible refine finD hsc (NRel.of_plain ?_)); exact rfl)
    exact ⟨i + 1, by rw [hx]; exact Weak.env (by simp [envIn, lk_cons, wth_some]), by omega, by omega⟩
  · have : i = n := by omega
    subst this
    have hc' : ¬ (i : Int) < (i : Int) := by omega
    repeat first
      | with_reducible refine AWP.seq ?_
      | ((with_reducible refine AWP.region ?_ ?_); exact rfl)
      | with_reducible refine AWP.block ?_
      | with_reducible refine AWP.skip ?_
      | with_reducible refine AWP.exit ?_
      | with_reducible refine AWP.ret ?_
      | with_reducible refine AWP.label ?_
      | with_reducible refine AWP.goto ?_
      | ((with_reducible refine AWP.condT ?_ ?_); focus (simp only [ev, lk_cons, ↓reduceIte, Nat.reduceEqDiff]; done))
      | ((with_reducible refine AWP.condF ?_ ?_); focus (simp only [ev, lk_cons, ↓reduceIte, Nat.reduceEqDiff]; done))
      | simp only [go_sem, ↓reduceIte, Nat.reduceEqDiff, reduceCtorEq, Nat.reduceAdd, Int.reduceEq, Int.reduceBNe, Int.reduceBEq, Int.reduceToNat, Int.reduceLT, Int.reduceLE, Int.reduceGT, Int.reduceGE, Nat.reduceSub, Nat.reduceBEq, Nat.reduceBNe, Int.reduceAdd, Int.reduceSub, Int.reduceMul, Int.reduceNeg, Nat.reduceMul, Nat.reduceLeDiff, Nat.reduceLT, hc']
      | simp (disch := omega) only [wi64, wu8, wu16, wu32, wu64, Int.tdiv_eq_ediv_of_nonneg, Int.tmod_eq_emod_of_nonneg]
      | with_reducible_and_instances exact finR
      | ((with_reducible refine finR' ?_ ?_) <;> rfl)
      | ((with_reducible refine finD hsc (NRel.of_plain ?_)); exact rfl)
    refine (fromF (fun m => if m < i then bitAt s m else bitAt rn m) il hil (fun m hm => hbit m hm) H.length ⟨4, 1, true, 0, none⟩ 160 _ (hget0 rfl)).use ?_
    repeat first
      | with_reducible refine AWP.seq ?_
      | ((with_reducible refine AWP.region ?_ ?_); exact rfl)
      | with_reducible refine AWP.block ?_
      | with_reducible refine AWP.skip ?_
      | with_reducible refine AWP.exit ?_
      | with_reducible refine AWP.ret ?_
      | with_reducible refine AWP.label ?_
      | with_reducible refine AWP.goto ?_
      | ((with_reducible refine AWP.condT ?_ ?_); focus (simp only [ev, lk_cons, ↓reduceIte, Nat.reduceEqDiff]; done))
      | ((with_reducible refine AWP.condF ?_ ?_); focus (simp only [ev, lk_cons, ↓reduceIte, Nat.reduceEqDiff]; done))
      | simp only [go_sem, ↓reduceIte, Nat.reduceEqDiff, reduceCtorEq, Nat.reduceAdd, Int.reduceEq, Int.reduceBNe, Int.reduceBEq, Int.reduceToNat, Int.reduceLT, Int.reduceLE, Int.reduceGT, Int.reduceGE, Nat.reduceSub, Nat.reduceBEq, Nat.reduceBNe, Int.reduceAdd, Int.reduceSub, Int.reduceMul, Int.reduceNeg, Nat.reduceMul, Nat.reduceLeDiff, Nat.reduceLT]
      | simp (disch := omega) only [wi64, wu8, wu16, wu32, wu64, Int.tdiv_eq_ediv_of_nonneg, Int.tmod_eq_emod_of_nonneg]
      | with_reducible_and_instances exact finR
      | ((with_reducible refine finR' ?_ ?_) <;> rfl)
      | ((with_reducible refine finD hsc (NRel.of_plain ?_)); exact rfl)
end Go.Proofs.YtmpkgdilmkeacaaDoor
