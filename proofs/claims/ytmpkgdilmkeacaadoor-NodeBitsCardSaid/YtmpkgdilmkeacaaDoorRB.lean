/-
  Identifiers: the law on secure ones.
-/
import Derived.Test.YtmpkgdilmkeacaaDoorRA
import Derived.Test.YtmpkgdilmkeacaaDoorAwC
set_option linter.unusedVariables false
set_option linter.unusedSimpArgs false
set_option maxRecDepth 20000
set_option maxHeartbeats 4000000
namespace Go.Proofs.YtmpkgdilmkeacaaDoor
open Go Go.Aw Go.Proofs Go.Shelf Go.RowKit Go.ChangeShapes
def exO : List UInt8 := oldL [97]
def exF : List UInt8 := exO.set 19 (UInt8.ofNat ((exO.getD 19 0).toNat ^^^ 1))
theorem exO_len : exO.length = 20 := oldL_len _
theorem exF_len : exF.length = 20 := by unfold exF; rw [List.length_set]; exact exO_len
theorem exLead : lead (bitAt (dist exO exF)) 160 = 159 := by kernel_rfl
theorem awake12 (H : AHeap) : ARet Tryd.prog 28 [] H (.bool true) H := by
  have hO := fun H => refOld [97] (by decide) H
  have hF := fun H => Flip exO exO_len 159 (by decide) H
  have hC := fun H => Common exO exF H
  rw [if_pos ⟨exO_len, exF_len⟩, exLead] at hC
  have e1 : oldL [97] = exO := rfl
  have e2 : exO.set (159 / 8) (UInt8.ofNat ((exO.getD (159 / 8) 0).toNat ^^^ 2 ^ (7 - 159 % 8))) = exF := rfl
  have e3 : ((159 : Nat) : Int) = 159 := rfl
  rw [e1] at hO
  simp only [e2, e3] at hF hC
  generalize exO = o at *
  generalize exF = f at *
  refine AC.enter Tryd.func28 rfl (by kernel_rfl) 28 rfl [.tmp 0] rfl (by simp) fun hsc B => ?_
  repeat first
    | with_reducible refine AWP.seq ?_
    | ((with_reducible refine AWP.region ?_ ?_); exact rfl)
    | with_reducible refine AWP.block ?_
    | with_reducible refine AWP.skip ?_
    | with_reducible refine AWP.exit ?_
    | with_reducible refine AWP.ret ?_
    | with_reducible refine AWP.label ?_
    | with_reducible refine AWP.goto ?_
    | ((with_reducible refine AWP.condT ?_ ?_); focus (simp only [ev, lk_cons, ↓reduceIte, Nat.reduceEqDiff]; done))
    | ((with_reducible refine AWP.condF ?_ ?_); focus (simp only [ev, lk_cons, ↓reduceIte, Nat.reduceEqDiff]; done))
    | with_reducible refine (hO _).use ?_
    | with_reducible refine (hF _).use ?_
    | with_reducible refine (hC _).use ?_
    | simp only [go_sem, ↓reduceIte, Nat.reduceEqDiff, reduceCtorEq, Nat.reduceAdd, Int.reduceEq, Int.reduceBNe, Int.reduceBEq, Int.reduceToNat, Int.reduceLT, Int.reduceLE, Int.reduceGT, Int.reduceGE, Nat.reduceSub, Nat.reduceBEq, Nat.reduceBNe, Int.reduceAdd, Int.reduceSub, Int.reduceMul, Int.reduceNeg, Nat.reduceMul, Nat.reduceLeDiff, Nat.reduceLT]
    | simp (disch := omega) only [wi64, wu8, wu16, wu32, wu64, Int.tdiv_eq_ediv_of_nonneg, Int.tmod_eq_emod_of_nonneg]
    | with_reducible_and_instances exact finR
    | ((with_reducible refine finR' ?_ ?_) <;> rfl)
    | ((with_reducible refine finD hsc (NRel.of_plain ?_)); exact rfl)
theorem lead_ge {p : Nat → Bool} {n k : Nat} (hk : k ≤ n) (h : ∀ m, m < k → p m = false) : k ≤ lead p n := by
  by_cases hall : ∀ m, m < n → p m = false
  · rw [lead_all hall]; exact hk
  · have : ∃ m, m < n ∧ p m = true := by
      apply Classical.byContradiction
      intro hn
      apply hall
      intro m hm
      cases hp : p m with
      | false => rfl
      | true => exact absurd ⟨m, hm, hp⟩ hn
    obtain ⟨i, ⟨hi, hp⟩, hmin⟩ := least this
    rw [lead_eq hi (fun m hm => by
      cases hq : p m with
      | false => rfl
      | true => have := hmin m ⟨by omega, hq⟩; omega) hp]
    rcases Nat.lt_or_ge i k with h' | h'
    · rw [h i h'] at hp; cases hp
    · exact h'
theorem in_lead (s : List UInt8) (hs : s.length = 20) (n : Nat) (hn : n ≤ 160) (seed : List UInt8) (k : Int) : n ≤ lead (bitAt (dist (inL s n seed k) s)) 160 := by
  have hl := inL_len s hs n seed k
  refine lead_ge hn fun m hm => ?_
  unfold dist
  rw [bitAt_xor _ _ (by omega), inL_bit s hs n hn seed k m (by omega), if_pos hm]
  simp
theorem lawSecure (a : Ad) (seed : List UInt8) (r k : Int) (hk : k ≤ 9223372036854775807) (H : AHeap) (hT : TabH H) : ARet Tryd.prog 8 [a.v, .string (bs seed), .int .i64 r, .int .i64 k] H (.bool true) H := by
  have hV := fun H => rValid a H
  have hA := fun H => awake12 H
  have hv : a.v = .agg ⟨[.int .i64 a.fam, .string (bs a.ip), .int .i64 a.port]⟩ := rfl
  by_cases g1 : a.ok = false
  · rw [g1, hv] at hV
    rw [hv]
    refine AC.enter Tryd.func8 rfl (by kernel_rfl) 91 rfl [.tmp 8] rfl (by simp) fun hsc B => ?_
    repeat first
      | with_reducible refine AWP.seq ?_
      | ((with_reducible refine AWP.region ?_ ?_); exact rfl)
      | with_reducible refine AWP.block ?_
      | with_reducible refine AWP.skip ?_
      | with_reducible refine AWP.exit ?_
      | with_reducible refine AWP.ret ?_
      | with_reducible refine AWP.label ?_
      | with_reducible refine AWP.goto ?_
      | ((with_reducible refine AWP.condT ?_ ?_); focus (simp only [ev, lk_cons, ↓reduceIte, Nat.reduceEqDiff]; done))
      | ((with_reducible refine AWP.condF ?_ ?_); focus (simp only [ev, lk_cons, ↓reduceIte, Nat.reduceEqDiff]; done))
      | with_reducible refine (hV _).use ?_
      | with_reducible refine (hA _).use ?_
      | simp only [go_sem, ↓reduceIte, Nat.reduceEqDiff, reduceCtorEq, Nat.reduceAdd, Int.reduceEq, Int.reduceBNe, Int.reduceBEq, Int.reduceToNat, Int.reduceLT, Int.reduceLE, Int.reduceGT, Int.reduceGE, Nat.reduceSub, Nat.reduceBEq, Nat.reduceBNe, Int.reduceAdd, Int.reduceSub, Int.reduceMul, Int.reduceNeg, Nat.reduceMul, Nat.reduceLeDiff, Nat.reduceLT]
      | simp (disch := omega) only [wi64, wu8, wu16, wu32, wu64, Int.tdiv_eq_ediv_of_nonneg, Int.tmod_eq_emod_of_nonneg]
      | with_reducible_and_instances exact finR
      | ((with_reducible refine finR' ?_ ?_) <;> rfl)
      | ((with_reducible refine finD hsc (NRel.of_plain ?_)); exact rfl)
  rw [Bool.not_eq_false] at g1
  rw [g1, hv] at hV
  by_cases g2 : r < 0
  · rw [hv]
    refine AC.enter Tryd.func8 rfl (by kernel_rfl) 91 rfl [.tmp 8] rfl (by simp) fun hsc B => ?_
    repeat first
      | with_reducible refine AWP.seq ?_
      | ((with_reducible refine AWP.region ?_ ?_); exact rfl)
      | with_reducible refine AWP.block ?_
      | with_reducible refine AWP.skip ?_
      | with_reducible refine AWP.exit ?_
      | with_reducible refine AWP.ret ?_
      | with_reducible refine AWP.label ?_
      | with_reducible refine AWP.goto ?_
      | ((with_reducible refine AWP.condT ?_ ?_); focus (simp only [ev, lk_cons, ↓reduceIte, Nat.reduceEqDiff]; done))
      | ((with_reducible refine AWP.condF ?_ ?_); focus (simp only [ev, lk_cons, ↓reduceIte, Nat.reduceEqDiff]; done))
      | with_reducible refine (hV _).use ?_
      | with_reducible refine (hA _).use ?_
      | simp only [go_sem, ↓reduceIte, Nat.reduceEqDiff, reduceCtorEq, Nat.reduceAdd, Int.reduceEq, Int.reduceBNe, Int.reduceBEq, Int.reduceToNat, Int.reduceLT, Int.reduceLE, Int.reduceGT, Int.reduceGE, Nat.reduceSub, Nat.reduceBEq, Nat.reduceBNe, Int.reduceAdd, Int.reduceSub, Int.reduceMul, Int.reduceNeg, Nat.reduceMul, Nat.reduceLeDiff, Nat.reduceLT, g2]
      | simp (disch := omega) only [wi64, wu8, wu16, wu32, wu64, Int.tdiv_eq_ediv_of_nonneg, Int.tmod_eq_emod_of_nonneg]
      | with_reducible_and_instances exact finR
      | ((with_reducible refine finR' ?_ ?_) <;> rfl)
      | ((with_reducible refine finD hsc (NRel.of_plain ?_)); exact rfl)
  by_cases g3 : r > 255
  · rw [hv]
    refine AC.enter Tryd.func8 rfl (by kernel_rfl) 91 rfl [.tmp 8] rfl (by simp) fun hsc B => ?_
    repeat first
      | with_reducible refine AWP.seq ?_
      | ((with_reducible refine AWP.region ?_ ?_); exact rfl)
      | with_reducible refine AWP.block ?_
      | with_reducible refine AWP.skip ?_
      | with_reducible refine AWP.exit ?_
      | with_reducible refine AWP.ret ?_
      | with_reducible refine AWP.label ?_
      | with_reducible refine AWP.goto ?_
      | ((with_reducible refine AWP.condT ?_ ?_); focus (simp only [ev, lk_cons, ↓reduceIte, Nat.reduceEqDiff]; done))
      | ((with_reducible refine AWP.condF ?_ ?_); focus (simp only [ev, lk_cons, ↓reduceIte, Nat.reduceEqDiff]; done))
      | with_reducible refine (hV _).use ?_
      | with_reducible refine (hA _).use ?_
      | simp only [go_sem, ↓reduceIte, Nat.reduceEqDiff, reduceCtorEq, Nat.reduceAdd, Int.reduceEq, Int.reduceBNe, Int.reduceBEq, Int.reduceToNat, Int.reduceLT, Int.reduceLE, Int.reduceGT, Int.reduceGE, Nat.reduceSub, Nat.reduceBEq, Nat.reduceBNe, Int.reduceAdd, Int.reduceSub, Int.reduceMul, Int.reduceNeg, Nat.reduceMul, Nat.reduceLeDiff, Nat.reduceLT, g2, g3]
      | simp (disch := omega) only [wi64, wu8, wu16, wu32, wu64, Int.tdiv_eq_ediv_of_nonneg, Int.tmod_eq_emod_of_nonneg]
      | with_reducible_and_instances exact finR
      | ((with_reducible refine finR' ?_ ?_) <;> rfl)
      | ((with_reducible refine finD hsc (NRel.of_plain ?_)); exact rfl)
  by_cases g4 : (seed.length : Int) > 100
  · rw [hv]
    refine AC.enter Tryd.func8 rfl (by kernel_rfl) 91 rfl [.tmp 8] rfl (by simp) fun hsc B => ?_
    repeat first
      | with_reducible refine AWP.seq ?_
      | ((with_reducible refine AWP.region ?_ ?_); exact rfl)
      | with_reducible refine AWP.block ?_
      | with_reducible refine AWP.skip ?_
      | with_reducible refine AWP.exit ?_
      | with_reducible refine AWP.ret ?_
      | with_reducible refine AWP.label ?_
      | with_reducible refine AWP.goto ?_
      | ((with_reducible refine AWP.condT ?_ ?_); focus (simp only [ev, lk_cons, ↓reduceIte, Nat.reduceEqDiff]; done))
      | ((with_reducible refine AWP.condF ?_ ?_); focus (simp only [ev, lk_cons, ↓reduceIte, Nat.reduceEqDiff]; done))
      | with_reducible refine (hV _).use ?_
      | with_reducible refine (hA _).use ?_
      | simp only [go_sem, ↓reduceIte, Nat.reduceEqDiff, reduceCtorEq, Nat.reduceAdd, Int.reduceEq, Int.reduceBNe, Int.reduceBEq, Int.reduceToNat, Int.reduceLT, Int.reduceLE, Int.reduceGT, Int.reduceGE, Nat.reduceSub, Nat.reduceBEq, Nat.reduceBNe, Int.reduceAdd, Int.reduceSub, Int.reduceMul, Int.reduceNeg, Nat.reduceMul, Nat.reduceLeDiff, Nat.reduceLT, g2, g3, g4]
      | simp (disch := omega) only [wi64, wu8, wu16, wu32, wu64, Int.tdiv_eq_ediv_of_nonneg, Int.tmod_eq_emod_of_nonneg]
      | with_reducible_and_instances exact finR
      | ((with_reducible refine finR' ?_ ?_) <;> rfl)
      | ((with_reducible refine finD hsc (NRel.of_plain ?_)); exact rfl)
  by_cases g5 : k < 0
  · rw [hv]
    refine AC.enter Tryd.func8 rfl (by kernel_rfl) 91 rfl [.tmp 8] rfl (by simp) fun hsc B => ?_
    repeat first
      | with_reducible refine AWP.seq ?_
      | ((with_reducible refine AWP.region ?_ ?_); exact rfl)
      | with_reducible refine AWP.block ?_
      | with_reducible refine AWP.skip ?_
      | with_reducible refine AWP.exit ?_
      | with_reducible refine AWP.ret ?_
      | with_reducible refine AWP.label ?_
      | with_reducible refine AWP.goto ?_
      | ((with_reducible refine AWP.condT ?_ ?_); focus (simp only [ev, lk_cons, ↓reduceIte, Nat.reduceEqDiff]; done))
      | ((with_reducible refine AWP.condF ?_ ?_); focus (simp only [ev, lk_cons, ↓reduceIte, Nat.reduceEqDiff]; done))
      | with_reducible refine (hV _).use ?_
      | with_reducible refine (hA _).use ?_
      | simp only [go_sem, ↓reduceIte, Nat.reduceEqDiff, reduceCtorEq, Nat.reduceAdd, Int.reduceEq, Int.reduceBNe, Int.reduceBEq, Int.reduceToNat, Int.reduceLT, Int.reduceLE, Int.reduceGT, Int.reduceGE, Nat.reduceSub, Nat.reduceBEq, Nat.reduceBNe, Int.reduceAdd, Int.reduceSub, Int.reduceMul, Int.reduceNeg, Nat.reduceMul, Nat.reduceLeDiff, Nat.reduceLT, g2, g3, g4, g5]
      | simp (disch := omega) only [wi64, wu8, wu16, wu32, wu64, Int.tdiv_eq_ediv_of_nonneg, Int.tmod_eq_emod_of_nonneg]
      | with_reducible_and_instances exact finR
      | ((with_reducible refine finR' ?_ ?_) <;> rfl)
      | ((with_reducible refine finD hsc (NRel.of_plain ?_)); exact rfl)
  obtain ⟨R, rfl⟩ : ∃ R : Nat, r = (R : Int) := ⟨r.toNat, by omega⟩
  obtain ⟨id, hid, hN⟩ : ∃ id : List UInt8, id.length = 20 ∧ ∀ H, ARet Tryd.prog 37 [a.v, .string (bs seed), .int .i64 (R : Nat)] H (.tuple ⟨[.string (bs id), .int .i64 0]⟩) H := Node a g1 seed (by omega) R (by omega)
  have hI := fun X => In id 21 seed k hk (H ++ X) (hT.more X)
  have eI : inE id 21 seed k = 0 := by
    unfold inE
    rw [if_neg (fun h => h.elim (fun h => h hid) g4), if_neg (by omega)]
  have hIV : inV id 21 seed k = .tuple ⟨[.string (bs (inL id 21 seed k)), .int .i64 0]⟩ := by unfold inV; rw [eI, if_pos rfl]; rfl
  have hil := inL_len id hid 21 seed k
  have hlead := in_lead id hid 21 (by decide) seed k
  have hW := fun H => Within (inL id 21 seed k) id 21 H
  have eW : withinE (inL id 21 seed k) id 21 = 0 := by
    unfold withinE
    rw [if_neg (fun h => h hid), if_pos hil, if_neg (by decide)]
  have eW2 : within (inL id 21 seed k) id 21 = true := by unfold within; exact decide_eq_true (by omega)
  have hC := fun H => Common (inL id 21 seed k) id H
  have hVd := fun H => valid id H
  rw [if_pos ⟨hil, hid⟩] at hC
  rw [hid] at hVd
  simp only [eW, if_pos, eW2] at hW
  simp only [hIV] at hI
  have hge : decide ((lead (bitAt (dist (inL id 21 seed k) id)) 160 : Int) ≥ 21) = true := decide_eq_true (by omega)
  generalize lead (bitAt (dist (inL id 21 seed k) id)) 160 = ld at *
  generalize inL id 21 seed k = i2 at *
  rw [hv] at hN ⊢
  refine AC.enter Tryd.func8 rfl (by kernel_rfl) 91 rfl [.tmp 8] rfl (by simp) fun hsc B => ?_
  repeat first
    | with_reducible refine AWP.seq ?_
    | ((with_reducible refine AWP.region ?_ ?_); exact rfl)
    | with_reducible refine AWP.block ?_
    | with_reducible refine AWP.skip ?_
    | with_reducible refine AWP.exit ?_
    | with_reducible refine AWP.ret ?_
    | with_reducible refine AWP.label ?_
    | with_reducible refine AWP.goto ?_
    | ((with_reducible refine AWP.condT ?_ ?_); focus (simp only [ev, lk_cons, ↓reduceIte, Nat.reduceEqDiff]; done))
    | ((with_reducible refine AWP.condF ?_ ?_); focus (simp only [ev, lk_cons, ↓reduceIte, Nat.reduceEqDiff]; done))
    | with_reducible refine (hV _).use ?_
    | with_reducible refine (hN _).use ?_
    | with_reducible refine (hI _).use ?_
    | with_reducible refine (hW _).use ?_
    | with_reducible refine (hC _).use ?_
    | with_reducible refine (hVd _).use ?_
    | with_reducible refine (hA _).use ?_
    | simp only [go_sem, ↓reduceIte, Nat.reduceEqDiff, reduceCtorEq, Nat.reduceAdd, Int.reduceEq, Int.reduceBNe, Int.reduceBEq, Int.reduceToNat, Int.reduceLT, Int.reduceLE, Int.reduceGT, Int.reduceGE, Nat.reduceSub, Nat.reduceBEq, Nat.reduceBNe, Int.reduceAdd, Int.reduceSub, Int.reduceMul, Int.reduceNeg, Nat.reduceMul, Nat.reduceLeDiff, Nat.reduceLT, g2, g3, g4, g5, hge]
    | simp (disch := omega) only [wi64, wu8, wu16, wu32, wu64, Int.tdiv_eq_ediv_of_nonneg, Int.tmod_eq_emod_of_nonneg]
    | with_reducible_and_instances exact finR
    | ((with_reducible refine finR' ?_ ?_) <;> rfl)
    | ((with_reducible refine finD hsc (NRel.of_plain ?_)); exact rfl)
theorem adOf' {bnd : Nat} {cs : List Value} (h : Fits bnd [.i .i64, .s, .i .i64] cs) : ∃ a : Ad, a.v = .agg ⟨cs⟩ := by
  cases h with
  | cons h0 h =>
  cases h with
  | cons h1 h =>
  cases h with
  | cons h2 h =>
  cases h
  obtain ⟨f, rfl, _⟩ := h0
  obtain ⟨s, rfl, hs⟩ := h1
  obtain ⟨p, rfl, _⟩ := h2
  exact ⟨⟨f, s, p⟩, rfl⟩
theorem lawSecureR {bnd : Nat} (cs : List Value) (h : Fits bnd [.i .i64, .s, .i .i64] cs) (seed : List UInt8) (r k : Int) (hk : k ≤ 9223372036854775807) (H : AHeap) (hT : TabH H) :
    AC Tryd.prog 8 [.agg ⟨cs⟩, .string (bs seed), .int .i64 r, .int .i64 k] H (fun r _ => r = .ret (.bool true) ∧ True) := by
  obtain ⟨a, ha⟩ := adOf' h
  rw [← ha]
  exact (lawSecure a seed r k hk H hT).mono fun r H h => ⟨h.1, trivial⟩
end Go.Proofs.YtmpkgdilmkeacaaDoor
