/-
  The walk of texts of runs: the program's Parse.
-/
import Derived.Test.YtbdlomkogpnkpaaDoorMU
set_option linter.unusedVariables false
set_option linter.unusedSimpArgs false
set_option maxRecDepth 20000
set_option maxHeartbeats 1000000
namespace Go.Proofs.YtbdlomkogpnkpaaDoor
open Go Go.Aw Go.Proofs Go.Shelf Go.RowKit Go.ChangeShapes
/-- What all parts tell. -/
def goodR : List (List UInt8) → Option (List (Nat × Nat))
  | [] => some []
  | p :: ps => match partR p, goodR ps with
    | some q, some r => some (q :: r)
    | _, _ => none
theorem goodR_iff : ∀ (ps : List (List UInt8)) (r : List (Nat × Nat)), goodR ps = some r ↔ ps.map partR = r.map some
  | [], r => by cases r <;> simp [goodR]
  | p :: ps, r => by
    unfold goodR
    have ih := goodR_iff ps
    cases hp : partR p with
    | none => cases r <;> simp [hp]
    | some q =>
      cases hg : goodR ps with
      | none =>
        cases r with
        | nil => simp
        | cons x r =>
          simp only [List.map_cons, List.cons.injEq, hp]
          constructor
          · intro h; cases h
          · rintro ⟨_, h⟩
            rw [(ih r).2 h] at hg; cases hg
      | some r2 =>
        cases r with
        | nil => simp
        | cons x r =>
          simp only [List.map_cons, List.cons.injEq, hp, Option.some.injEq]
          rw [← ih r, hg, Option.some.injEq]
theorem goodR_none {ps : List (List UInt8)} {k : Nat} {p : List UInt8} (hk : ps[k]? = some p) (h : partR p = none) : goodR ps = none := by
  cases hg : goodR ps with
  | none => rfl
  | some r =>
    have h1 := (goodR_iff _ _).1 hg
    have h2 : (ps.map partR)[k]? = some none := by rw [List.getElem?_map, hk, Option.map_some, h]
    rw [h1, List.getElem?_map] at h2
    cases hr : r[k]? with
    | none => rw [hr] at h2; cases h2
    | some q => rw [hr] at h2; cases h2
theorem frR_len (n : Nat) : ∀ (l : List (Int × Int)) (e : Int) (b : List Bool), (frR n l e b).1 = 0 → (frR n l e b).2.length = b.length
  | [], e, b, h => rfl
  | (f, c) :: l, e, b, h => by
    rw [frR] at h ⊢
    split
    · rename_i h1; rw [if_pos h1] at h; cases h
    · rename_i h1
      rw [if_neg h1] at h
      split
      · rename_i h2; rw [if_pos h2] at h; cases h
      · rename_i h2
        rw [if_neg h2] at h
        rw [frR_len n l _ _ h, setR_len]
theorem frV_valid {n : Nat} {l : List (Int × Int)} (h : (frV n l).2 = 0) : validB n (frV n l).1 := by
  unfold frV at h ⊢
  simp only at h ⊢
  rw [if_pos h]
  have := frR_len n l 0 (List.replicate n false) h
  rw [List.length_replicate] at this
  have hv := field_valid (frR n l 0 (List.replicate n false)).2
  rw [this] at hv
  exact hv
/-- What the field of runs is taken for. -/
def finV (n : Nat) (text : List UInt8) (r : List (Nat × Nat)) : List UInt8 × Int :=
  if (frV n (castR r)).2 ≠ 0 then ([], 2) else if textL (runsL (allL (frV n (castR r)).1)) = text then ((frV n (castR r)).1, 0) else ([], 2)
def parseV (n : Nat) (text : List UInt8) : List UInt8 × Int :=
  if 65536 < text.length then ([], 3) else match (if text = [] then some [] else goodR (cutsL 44 text)) with
  | none => ([], 2)
  | some r => finV n text r
theorem TextG (n : Nat) (h : n ≤ 4096) (s : List UInt8) (hv : validB n s) (H : AHeap) (hT : GlobH H) : ARet Tryd.prog 47 [.int .i64 (n : Nat), .string (bs s)] H (.tuple ⟨[.string (bs (textL (runsL (allL s)))), .int .i64 0]⟩) H := by
  refine TextC n h s hv H fun p hp X m hm => ?_
  have hlo := lon_le n
  have hsl := hv.1
  obtain ⟨j, hj⟩ := List.mem_iff_getElem?.1 hp
  have := runsL_ok (allL s) (allL_lt s) j p.1 p.2 hj
  have hI := Itoa ((m : Nat) : Int) (by omega) (by omega) (H ++ X) (hT.more X)
  have e : Lib.itoa ((m : Nat) : Int) = Lib.decDigits m := by unfold Lib.itoa; rw [if_neg (by omega)]; rfl
  rw [e] at hI
  exact hI
theorem cutsL_len (c : UInt8) : ∀ s : List UInt8, (cutsL c s).length ≤ s.length + 1 ∧ ∀ p ∈ cutsL c s, p.length ≤ s.length
  | [] => by simp [cutsL]
  | x :: r => by
    obtain ⟨h1, h2⟩ := cutsL_len c r
    by_cases hx : x = c
    · subst hx
      rw [cutsL_eq]
      refine ⟨by simp only [List.length_cons]; omega, fun p hp => ?_⟩
      rcases List.mem_cons.1 hp with rfl | hp
      · simp
      · have := h2 p hp; simp only [List.length_cons]; omega
    · cases hc : cutsL c r with
      | nil => exact absurd hc (cutsL_ne c r)
      | cons q qs =>
        rw [cutsL_other hx r hc]
        rw [hc] at h1 h2
        refine ⟨by simp only [List.length_cons] at h1 ⊢; omega, fun p hp => ?_⟩
        rcases List.mem_cons.1 hp with rfl | hp
        · have := h2 q (by simp); simp only [List.length_cons]; omega
        · have := h2 p (by simp [hp]); simp only [List.length_cons]; omega
theorem runsC_snoc (r : List (Nat × Nat)) (f c : Nat) : runsC r ++ [.int .i64 (f : Nat), .int .i64 (c : Nat)] = runsC (r ++ [(f, c)]) := by simp [runsC]
theorem ParseA (n : Int) (h : ¬ okN n) (t : List UInt8) (H : AHeap) : ARet Tryd.prog 49 [.int .i64 n, .string (bs t)] H (.tuple ⟨[.string (bs []), .int .i64 7]⟩) H := by
  have hL := fun H => NewA n h H
  refine AC.enter Tryd.func49 rfl (by kernel_rfl) 104 rfl [.tmp 4, .tmp 5] rfl (by simp) fun hsc B => ?_
  repeat first
    | with_reducible refine AWP.seq ?_
    | ((with_reducible refine AWP.region ?_ ?_); exact rfl)
    | with_reducible refine AWP.block ?_
    | with_reducible refine AWP.skip ?_
    | with_reducible refine AWP.exit ?_
    | with_reducible refine AWP.ret ?_
    | with_reducible refine AWP.label ?_
    | with_reducible refine AWP.goto ?_
    | ((with_reducible refine AWP.condT ?_ ?_); focus (simp only [ev, lk_cons, ↓reduceIte, Nat.reduceEqDiff]; done))
    | ((with_reducible refine AWP.condF ?_ ?_); focus (simp only [ev, lk_cons, ↓reduceIte, Nat.reduceEqDiff]; done))
    | with_reducible refine (hL _).use ?_
    | simp only [go_sem, ↓reduceIte, Nat.reduceEqDiff, reduceCtorEq, Nat.reduceAdd, Int.reduceEq, Int.reduceBNe, Int.reduceBEq, Int.reduceToNat, Int.reduceLT, Int.reduceLE, Int.reduceGT, Int.reduceGE, Nat.reduceSub, Nat.reduceBEq, Nat.reduceBNe, Int.reduceAdd, Int.reduceSub, Int.reduceMul, Int.reduceNeg, Nat.reduceMul, Nat.reduceLeDiff, Nat.reduceLT]
    | simp (disch := omega) only [wi64, wu8, wu16, wu32, wu64]
    | with_reducible_and_instances exact finR
    | ((with_reducible refine finR' ?_ ?_) <;> rfl)
    | ((with_reducible refine finD hsc (NRel.of_plain ?_)); exact rfl)
theorem ParseL (n : Nat) (h : n ≤ 4096) (t : List UInt8) (ht : 65536 < t.length) (H : AHeap) : ARet Tryd.prog 49 [.int .i64 (n : Nat), .string (bs t)] H (.tuple ⟨[.string (bs []), .int .i64 3]⟩) H := by
  have hL := fun H => NewC n h H
  have h1 : (t.length : Int) > 65536 := by omega
  refine AC.enter Tryd.func49 rfl (by kernel_rfl) 104 rfl [.tmp 4, .tmp 5] rfl (by simp) fun hsc B => ?_
  repeat first
    | with_reducible refine AWP.seq ?_
    | ((with_reducible refine AWP.region ?_ ?_); exact rfl)
    | with_reducible refine AWP.block ?_
    | with_reducible refine AWP.skip ?_
    | with_reducible refine AWP.exit ?_
    | with_reducible refine AWP.ret ?_
    | with_reducible refine AWP.label ?_
    | with_reducible refine AWP.goto ?_
    | ((with_reducible refine AWP.condT ?_ ?_); focus (simp only [ev, lk_cons, ↓reduceIte, Nat.reduceEqDiff]; done))
    | ((with_reducible refine AWP.condF ?_ ?_); focus (simp only [ev, lk_cons, ↓reduceIte, Nat.reduceEqDiff]; done))
    | with_reducible refine (hL _).use ?_
    | simp only [go_sem, ↓reduceIte, Nat.reduceEqDiff, reduceCtorEq, Nat.reduceAdd, Int.reduceEq, Int.reduceBNe, Int.reduceBEq, Int.reduceToNat, Int.reduceLT, Int.reduceLE, Int.reduceGT, Int.reduceGE, Nat.reduceSub, Nat.reduceBEq, Nat.reduceBNe, Int.reduceAdd, Int.reduceSub, Int.reduceMul, Int.reduceNeg, Nat.reduceMul, Nat.reduceLeDiff, Nat.reduceLT, h1]
    | simp (disch := omega) only [wi64, wu8, wu16, wu32, wu64]
    | with_reducible_and_instances exact finR
    | ((with_reducible refine finR' ?_ ?_) <;> rfl)
    | ((with_reducible refine finD hsc (NRel.of_plain ?_)); exact rfl)
theorem numO_dd (v : Nat) (h : v < 18446744073709551616) : numO (Lib.decDigits v) = if v ≤ 4096 then some v else none := by
  split
  · rename_i h1; exact numO_iff.2 ⟨h1, rfl⟩
  · rename_i h1
    exact numO_none fun u hu e => by
      have := dd_inj h (by omega) e
      omega
theorem pair_val (x y : Nat) (hx : x < 18446744073709551616) (hy : y < 18446744073709551616) : pairR (numO (Lib.decDigits x)) (numO (Lib.decDigits y)) = if y < x ∨ 4096 < y then none else some (x, y - x + 1) := by
  rw [numO_dd x hx, numO_dd y hy]
  by_cases h1 : y ≤ 4096
  · rw [if_pos h1]
    by_cases h2 : x ≤ 4096
    · rw [if_pos h2]
      unfold pairR
      by_cases h3 : x ≤ y
      · simp only [if_pos h3]; rw [if_neg (by omega)]
      · simp only [if_neg h3]; rw [if_pos (by omega)]
    · rw [if_neg h2, if_pos (by omega)]; rfl
  · rw [if_neg h1, pairR_none, if_pos (by omega)]
theorem pairR_none1 (x : Option Nat) : pairR none x = none := rfl
theorem ParseC (n : Nat) (h : n ≤ 4096) (t : List UInt8) (ht : t.length ≤ 65536) (H : AHeap) (hT : GlobH H) : ARet Tryd.prog 49 [.int .i64 (n : Nat), .string (bs t)] H (.tuple ⟨[.string (bs (parseV n t).1), .int .i64 (parseV n t).2]⟩) H := by
  have hL := fun H => NewC n h H
  have h1 : ¬ (t.length : Int) > 65536 := by omega
  have hS := fun H hT => Split (s := t) (by omega) H hT
  have hF := fun l hl v H hv => FromRunsC n h l hl v H hv
  have hX := fun s hv X => TextG n h s hv (H ++ X) (hT.more X)
  by_cases h0 : t = []
  · subst h0
    have hcu : cutsL 44 [] = [[]] := rfl
    have hcu2 : strsC [[]] = [.string (bs [])] := rfl
    rw [hcu, hcu2] at hS
    have hF0 := fun H => hF [] (by decide) (.slice none 0 0) H (.inl ⟨rfl, rfl⟩)
    have hpv : parseV n [] = finV n [] [] := rfl
    rw [hpv]
    unfold finV
    have hcr : castR [] = [] := rfl
    rw [hcr]
    by_cases hz : (frV n []).2 = 0
    · have hv := frV_valid hz
      have hX' := hX _ hv
      generalize (frV n []).1 = s at *
      rw [hz] at hF0
      rw [if_neg (fun e => e hz)]
      by_cases hq : textL (runsL (allL s)) = []
      · rw [if_pos hq]
        have hq' : (textL (runsL (allL s)) == ([] : List UInt8)) = true := beq_iff_eq.2 hq
        refine AC.enter Tryd.func49 rfl (by kernel_rfl) 104 rfl [.tmp 4, .tmp 5] rfl (by simp) fun hsc B => ?_
        repeat first
          | with_reducible refine AWP.seq ?_
          | ((with_reducible refine AWP.region ?_ ?_); exact rfl)
          | with_reducible refine AWP.block ?_
          | with_reducible refine AWP.skip ?_
          | with_reducible refine AWP.exit ?_
          | with_reducible refine AWP.ret ?_
          | with_reducible refine AWP.label ?_
          | with_reducible refine AWP.goto ?_
          | ((with_reducible refine AWP.condT ?_ ?_); focus (simp only [ev, lk_cons, ↓reduceIte, Nat.reduceEqDiff]; done))
          | ((with_reducible refine AWP.condF ?_ ?_); focus (simp only [ev, lk_cons, ↓reduceIte, Nat.reduceEqDiff]; done))
          | with_reducible refine (hL _).use ?_
          | with_reducible refine (hS _ hT).use ?_
          | simp only [go_sem, ↓reduceIte, Nat.reduceEqDiff, reduceCtorEq, Nat.reduceAdd, Int.reduceEq, Int.reduceBNe, Int.reduceBEq, Int.reduceToNat, Int.reduceLT, Int.reduceLE, Int.reduceGT, Int.reduceGE, Nat.reduceSub, Nat.reduceBEq, Nat.reduceBNe, Int.reduceAdd, Int.reduceSub, Int.reduceMul, Int.reduceNeg, Nat.reduceMul, Nat.reduceLeDiff, Nat.reduceLT, h1]
          | simp (disch := omega) only [wi64, wu8, wu16, wu32, wu64]
          | with_reducible_and_instances exact finR
          | ((with_reducible refine finR' ?_ ?_) <;> rfl)
          | ((with_reducible refine finD hsc (NRel.of_plain ?_)); exact rfl)
        refine AWP.loopN 1 ?_
        repeat first
          | with_reducible refine AWP.seq ?_
          | ((with_reducible refine AWP.region ?_ ?_); exact rfl)
          | with_reducible refine AWP.block ?_
          | with_reducible refine AWP.skip ?_
          | with_reducible refine AWP.exit ?_
          | with_reducible refine AWP.ret ?_
          | with_reducible refine AWP.label ?_
          | with_reducible refine AWP.goto ?_
          | ((with_reducible refine AWP.condT ?_ ?_); focus (simp only [ev, lk_cons, ↓reduceIte, Nat.reduceEqDiff]; done))
          | ((with_reducible refine AWP.condF ?_ ?_); focus (simp only [ev, lk_cons, ↓reduceIte, Nat.reduceEqDiff]; done))
          | with_reducible refine (hF0 _).use ?_
          | with_reducible refine (hX' _).use ?_
          | simp only [go_sem, ↓reduceIte, Nat.reduceEqDiff, reduceCtorEq, Nat.reduceAdd, Int.reduceEq, Int.reduceBNe, Int.reduceBEq, Int.reduceToNat, Int.reduceLT, Int.reduceLE, Int.reduceGT, Int.reduceGE, Nat.reduceSub, Nat.reduceBEq, Nat.reduceBNe, Int.reduceAdd, Int.reduceSub, Int.reduceMul, Int.reduceNeg, Nat.reduceMul, Nat.reduceLeDiff, Nat.reduceLT, roundsW_s, hq']
          | simp (disch := omega) only [wi64, wu8, wu16, wu32, wu64]
          | with_reducible_and_instances exact finR
          | ((with_reducible refine finR' ?_ ?_) <;> rfl)
          | ((with_reducible refine finD hsc (NRel.of_plain ?_)); exact rfl)
      · rw [if_neg hq]
        have hq' : (textL (runsL (allL s)) == ([] : List UInt8)) = false := beq_eq_false_iff_ne.2 hq
        refine AC.enter Tryd.func49 rfl (by kernel_rfl) 104 rfl [.tmp 4, .tmp 5] rfl (by simp) fun hsc B => ?_
        repeat first
          | with_reducible refine AWP.seq ?_
          | ((with_reducible refine AWP.region ?_ ?_); exact rfl)
          | with_reducible refine AWP.block ?_
          | with_reducible refine AWP.skip ?_
          | with_reducible refine AWP.exit ?_
          | with_reducible refine AWP.ret ?_
          | with_reducible refine AWP.label ?_
          | with_reducible refine AWP.goto ?_
          | ((with_reducible refine AWP.condT ?_ ?_); focus (simp only [ev, lk_cons, ↓reduceIte, Nat.reduceEqDiff]; done))
          | ((with_reducible refine AWP.condF ?_ ?_); focus (simp only [ev, lk_cons, ↓reduceIte, Nat.reduceEqDiff]; done))
          | with_reducible refine (hL _).use ?_
          | with_reducible refine (hS _ hT).use ?_
          | simp only [go_sem, ↓reduceIte, Nat.reduceEqDiff, reduceCtorEq, Nat.reduceAdd, Int.reduceEq, Int.reduceBNe, Int.reduceBEq, Int.reduceToNat, Int.reduceLT, Int.reduceLE, Int.reduceGT, Int.reduceGE, Nat.reduceSub, Nat.reduceBEq, Nat.reduceBNe, Int.reduceAdd, Int.reduceSub, Int.reduceMul, Int.reduceNeg, Nat.reduceMul, Nat.reduceLeDiff, Nat.reduceLT, h1]
          | simp (disch := omega) only [wi64, wu8, wu16, wu32, wu64]
          | with_reducible_and_instances exact finR
          | ((with_reducible refine finR' ?_ ?_) <;> rfl)
          | ((with_reducible refine finD hsc (NRel.of_plain ?_)); exact rfl)
        refine AWP.loopN 1 ?_
        repeat first
          | with_reducible refine AWP.seq ?_
          | ((with_reducible refine AWP.region ?_ ?_); exact rfl)
          | with_reducible refine AWP.block ?_
          | with_reducible refine AWP.skip ?_
          | with_reducible refine AWP.exit ?_
          | with_reducible refine AWP.ret ?_
          | with_reducible refine AWP.label ?_
          | with_reducible refine AWP.goto ?_
          | ((with_reducible refine AWP.condT ?_ ?_); focus (simp only [ev, lk_cons, ↓reduceIte, Nat.reduceEqDiff]; done))
          | ((with_reducible refine AWP.condF ?_ ?_); focus (simp only [ev, lk_cons, ↓reduceIte, Nat.reduceEqDiff]; done))
          | with_reducible refine (hF0 _).use ?_
          | with_reducible refine (hX' _).use ?_
          | simp only [go_sem, ↓reduceIte, Nat.reduceEqDiff, reduceCtorEq, Nat.reduceAdd, Int.reduceEq, Int.reduceBNe, Int.reduceBEq, Int.reduceToNat, Int.reduceLT, Int.reduceLE, Int.reduceGT, Int.reduceGE, Nat.reduceSub, Nat.reduceBEq, Nat.reduceBNe, Int.reduceAdd, Int.reduceSub, Int.reduceMul, Int.reduceNeg, Nat.reduceMul, Nat.reduceLeDiff, Nat.reduceLT, roundsW_s, hq']
          | simp (disch := omega) only [wi64, wu8, wu16, wu32, wu64]
          | with_reducible_and_instances exact finR
          | ((with_reducible refine finR' ?_ ?_) <;> rfl)
          | ((with_reducible refine finD hsc (NRel.of_plain ?_)); exact rfl)
    · rw [if_pos hz]
      generalize (frV n []).1 = s at *
      generalize (frV n []).2 = z at *
      have hz' : (z != 0) = true := bne_iff_ne.2 hz
      refine AC.enter Tryd.func49 rfl (by kernel_rfl) 104 rfl [.tmp 4, .tmp 5] rfl (by simp) fun hsc B => ?_
      repeat first
        | with_reducible refine AWP.seq ?_
        | ((with_reducible refine AWP.region ?_ ?_); exact rfl)
        | with_reducible refine AWP.block ?_
        | with_reducible refine AWP.skip ?_
        | with_reducible refine AWP.exit ?_
        | with_reducible refine AWP.ret ?_
        | with_reducible refine AWP.label ?_
        | with_reducible refine AWP.goto ?_
        | ((with_reducible refine AWP.condT ?_ ?_); focus (simp only [ev, lk_cons, ↓reduceIte, Nat.reduceEqDiff]; done))
        | ((with_reducible refine AWP.condF ?_ ?_); focus (simp only [ev, lk_cons, ↓reduceIte, Nat.reduceEqDiff]; done))
        | with_reducible refine (hL _).use ?_
        | with_reducible refine (hS _ hT).use ?_
        | simp only [go_sem, ↓reduceIte, Nat.reduceEqDiff, reduceCtorEq, Nat.reduceAdd, Int.reduceEq, Int.reduceBNe, Int.reduceBEq, Int.reduceToNat, Int.reduceLT, Int.reduceLE, Int.reduceGT, Int.reduceGE, Nat.reduceSub, Nat.reduceBEq, Nat.reduceBNe, Int.reduceAdd, Int.reduceSub, Int.reduceMul, Int.reduceNeg, Nat.reduceMul, Nat.reduceLeDiff, Nat.reduceLT, h1]
        | simp (disch := omega) only [wi64, wu8, wu16, wu32, wu64]
        | with_reducible_and_instances exact finR
        | ((with_reducible refine finR' ?_ ?_) <;> rfl)
        | ((with_reducible refine finD hsc (NRel.of_plain ?_)); exact rfl)
      refine AWP.loopN 1 ?_
      repeat first
        | with_reducible refine AWP.seq ?_
        | ((with_reducible refine AWP.region ?_ ?_); exact rfl)
        | with_reducible refine AWP.block ?_
        | with_reducible refine AWP.skip ?_
        | with_reducible refine AWP.exit ?_
        | with_reducible refine AWP.ret ?_
        | with_reducible refine AWP.label ?_
        | with_reducible refine AWP.goto ?_
        | ((with_reducible refine AWP.condT ?_ ?_); focus (simp only [ev, lk_cons, ↓reduceIte, Nat.reduceEqDiff]; done))
        | ((with_reducible refine AWP.condF ?_ ?_); focus (simp only [ev, lk_cons, ↓reduceIte, Nat.reduceEqDiff]; done))
        | with_reducible refine (hF0 _).use ?_
        | simp only [go_sem, ↓reduceIte, Nat.reduceEqDiff, reduceCtorEq, Nat.reduceAdd, Int.reduceEq, Int.reduceBNe, Int.reduceBEq, Int.reduceToNat, Int.reduceLT, Int.reduceLE, Int.reduceGT, Int.reduceGE, Nat.reduceSub, Nat.reduceBEq, Nat.reduceBNe, Int.reduceAdd, Int.reduceSub, Int.reduceMul, Int.reduceNeg, Nat.reduceMul, Nat.reduceLeDiff, Nat.reduceLT, roundsW_s, hz']
        | simp (disch := omega) only [wi64, wu8, wu16, wu32, wu64]
        | with_reducible_and_instances exact finR
        | ((with_reducible refine finR' ?_ ?_) <;> rfl)
        | ((with_reducible refine finD hsc (NRel.of_plain ?_)); exact rfl)
  · have hp0 : parseV n t = match goodR (cutsL 44 t) with
        | none => ([], 2)
        | some r => finV n t r := by unfold parseV; rw [if_neg (by omega), if_neg h0]
    have h0' : (t == ([] : List UInt8)) = false := beq_eq_false_iff_ne.2 h0
    obtain ⟨hcl, hcm⟩ := cutsL_len 44 t
    have hpn : 0 < (cutsL 44 t).length := List.length_pos_iff.2 (cutsL_ne 44 t)
    generalize hps : cutsL 44 t = ps at *
    refine AC.enter Tryd.func49 rfl (by kernel_rfl) 104 rfl [.tmp 4, .tmp 5] rfl (by simp) fun hsc B => ?_
    repeat first
      | with_reducible refine AWP.seq ?_
      | ((with_reducible refine AWP.region ?_ ?_); exact rfl)
      | with_reducible refine AWP.block ?_
      | with_reducible refine AWP.skip ?_
      | with_reducible refine AWP.exit ?_
      | with_reducible refine AWP.ret ?_
      | with_reducible refine AWP.label ?_
      | with_reducible refine AWP.goto ?_
      | ((with_reducible refine AWP.condT ?_ ?_); focus (simp only [ev, lk_cons, ↓reduceIte, Nat.reduceEqDiff]; done))
      | ((with_reducible refine AWP.condF ?_ ?_); focus (simp only [ev, lk_cons, ↓reduceIte, Nat.reduceEqDiff]; done))
      | with_reducible refine (hL _).use ?_
      | with_reducible refine (hS _ hT).use ?_
      | simp only [go_sem, ↓reduceIte, Nat.reduceEqDiff, reduceCtorEq, Nat.reduceAdd, Int.reduceEq, Int.reduceBNe, Int.reduceBEq, Int.reduceToNat, Int.reduceLT, Int.reduceLE, Int.reduceGT, Int.reduceGE, Nat.reduceSub, Nat.reduceBEq, Nat.reduceBNe, Int.reduceAdd, Int.reduceSub, Int.reduceMul, Int.reduceNeg, Nat.reduceMul, Nat.reduceLeDiff, Nat.reduceLT, h1]
      | simp (disch := omega) only [wi64, wu8, wu16, wu32, wu64]
      | with_reducible_and_instances exact finR
      | ((with_reducible refine finR' ?_ ?_) <;> rfl)
      | ((with_reducible refine finD hsc (NRel.of_plain ?_)); exact rfl)
    refine AWP.loopP (fun p : Nat × List (Nat × Nat) => ⟨[(0, .int .i64 (n : Nat)), (1, .string (bs t)), (8, gS (H.length + 1) p.2.length), (34, .slice (some ⟨H.length, 0, none⟩) ps.length ps.length), (35, .int .i64 (ps.length : Nat)), (36, .int .i64 (p.1 : Nat))], [], H ++ [.cells (strsC ps) ⟨9, 1, true, 0, none⟩, runsO p.2]⟩)
      (fun p => p.1 ≤ ps.length ∧ p.2.length = p.1 ∧ (ps.take p.1).map partR = p.2.map some) (fun p => ps.length - p.1) (0, []) ?_ ⟨Nat.zero_le _, rfl, rfl⟩ ?_
    · have hz : runsO [] = .dead := rfl
      simp only [hz]
      exact Weak.padA (l := [_]) (by simp [envIn, lk_cons, wth_some, gS_zero])
    rintro ⟨k, r⟩ ⟨hk, hrl, hr⟩
    simp only at hk hrl hr
    by_cases hc : k < ps.length
    · have hc' : (k : Int) < (ps.length : Int) := by omega
      have hg : ps[k]? = some ps[k] := List.getElem?_eq_getElem hc
      have hgs := strsC_get hc
      have hpl := hcm _ (List.getElem_mem hc)
      have hpc := partR_cut ps[k]
      have htake : ps.take (k + 1) = ps.take k ++ [ps[k]] := by rw [List.take_add_one, hg]; rfl
      have hlc := cut_len 45 ps[k]
      generalize ps[k] = p at *
      have hCu := fun H hT => Cut (s := p) (by omega) H hT
      generalize (Lib.cut p [45]).1 = a at *
      generalize (Lib.cut p [45]).2.1 = b at *
      generalize (Lib.cut p [45]).2.2 = two at *
      obtain ⟨x, bx, nx1, nx2, nx3⟩ := number (s := a) (by omega)
      cases two
      · simp only [Bool.false_eq_true, if_false] at hpc
        cases bx
        · rw [nx3 rfl, pairR_none1] at hpc
          rw [goodR_none hg hpc] at hp0
          rw [hp0]
          repeat first
            | with_reducible refine AWP.seq ?_
            | ((with_reducible refine AWP.region ?_ ?_); exact rfl)
            | with_reducible refine AWP.block ?_
            | with_reducible refine AWP.skip ?_
            | with_reducible refine AWP.exit ?_
            | with_reducible refine AWP.ret ?_
            | with_reducible refine AWP.label ?_
            | with_reducible refine AWP.goto ?_
            | ((with_reducible refine AWP.condT ?_ ?_); focus (simp only [ev, lk_cons, ↓reduceIte, Nat.reduceEqDiff]; done))
            | ((with_reducible refine AWP.condF ?_ ?_); focus (simp only [ev, lk_cons, ↓reduceIte, Nat.reduceEqDiff]; done))
            | with_reducible refine (hCu _ (hT.more _)).use ?_
            | with_reducible refine (nx1 _ (hT.more _)).use ?_
            | simp only [go_sem, ↓reduceIte, Nat.reduceEqDiff, reduceCtorEq, Nat.reduceAdd, Int.reduceEq, Int.reduceBNe, Int.reduceBEq, Int.reduceToNat, Int.reduceLT, Int.reduceLE, Int.reduceGT, Int.reduceGE, Nat.reduceSub, Nat.reduceBEq, Nat.reduceBNe, Int.reduceAdd, Int.reduceSub, Int.reduceMul, Int.reduceNeg, Nat.reduceMul, Nat.reduceLeDiff, Nat.reduceLT, hc', hgs, h0']
            | simp (disch := omega) only [wi64, wu8, wu16, wu32, wu64]
            | with_reducible_and_instances exact finR
            | ((with_reducible refine finR' ?_ ?_) <;> rfl)
            | ((with_reducible refine finD hsc (NRel.of_plain ?_)); exact rfl)
        · obtain ⟨x0, x1, x2⟩ := nx2 rfl
          obtain ⟨X, rfl⟩ : ∃ X : Nat, x = X := ⟨x.toNat, by omega⟩
          rw [Int.toNat_natCast] at x2
          have hpv := pair_val X X (by omega) (by omega)
          rw [← x2, ← hpc] at hpv
          have h2' : ¬ (X : Int) < (X : Int) := by omega
          by_cases h3 : 4096 < X
          · have h3' : (X : Int) > 4096 := by omega
            rw [if_pos (.inr h3)] at hpv
            rw [goodR_none hg hpv] at hp0
            rw [hp0]
            repeat first
              | with_reducible refine AWP.seq ?_
              | ((with_reducible refine AWP.region ?_ ?_); exact rfl)
              | with_reducible refine AWP.block ?_
              | with_reducible refine AWP.skip ?_
              | with_reducible refine AWP.exit ?_
              | with_reducible refine AWP.ret ?_
              | with_reducible refine AWP.label ?_
              | with_reducible refine AWP.goto ?_
              | ((with_reducible refine AWP.condT ?_ ?_); focus (simp only [ev, lk_cons, ↓reduceIte, Nat.reduceEqDiff]; done))
              | ((with_reducible refine AWP.condF ?_ ?_); focus (simp only [ev, lk_cons, ↓reduceIte, Nat.reduceEqDiff]; done))
              | with_reducible refine (hCu _ (hT.more _)).use ?_
              | with_reducible refine (nx1 _ (hT.more _)).use ?_
              | simp only [go_sem, ↓reduceIte, Nat.reduceEqDiff, reduceCtorEq, Nat.reduceAdd, Int.reduceEq, Int.reduceBNe, Int.reduceBEq, Int.reduceToNat, Int.reduceLT, Int.reduceLE, Int.reduceGT, Int.reduceGE, Nat.reduceSub, Nat.reduceBEq, Nat.reduceBNe, Int.reduceAdd, Int.reduceSub, Int.reduceMul, Int.reduceNeg, Nat.reduceMul, Nat.reduceLeDiff, Nat.reduceLT, hc', hgs, h0', h2', h3']
              | simp (disch := omega) only [wi64, wu8, wu16, wu32, wu64]
              | with_reducible_and_instances exact finR
              | ((with_reducible refine finR' ?_ ?_) <;> rfl)
              | ((with_reducible refine finD hsc (NRel.of_plain ?_)); exact rfl)
          · have h3' : ¬ (X : Int) > 4096 := by omega
            rw [if_neg (by omega)] at hpv
            have hw : (X : Int) - (X : Int) + 1 = ((X - X + 1 : Nat) : Int) := by omega
            repeat first
              | with_reducible refine AWP.seq ?_
              | ((with_reducible refine AWP.region ?_ ?_); exact rfl)
              | with_reducible refine AWP.block ?_
              | with_reducible refine AWP.skip ?_
              | with_reducible refine AWP.exit ?_
              | with_reducible refine AWP.ret ?_
              | with_reducible refine AWP.label ?_
              | with_reducible refine AWP.goto ?_
              | ((with_reducible refine AWP.condT ?_ ?_); focus (simp only [ev, lk_cons, ↓reduceIte, Nat.reduceEqDiff]; done))
              | ((with_reducible refine AWP.condF ?_ ?_); focus (simp only [ev, lk_cons, ↓reduceIte, Nat.reduceEqDiff]; done))
              | with_reducible refine (hCu _ (hT.more _)).use ?_
              | with_reducible refine (nx1 _ (hT.more _)).use ?_
              | simp only [go_sem, ↓reduceIte, Nat.reduceEqDiff, reduceCtorEq, Nat.reduceAdd, Int.reduceEq, Int.reduceBNe, Int.reduceBEq, Int.reduceToNat, Int.reduceLT, Int.reduceLE, Int.reduceGT, Int.reduceGE, Nat.reduceSub, Nat.reduceBEq, Nat.reduceBNe, Int.reduceAdd, Int.reduceSub, Int.reduceMul, Int.reduceNeg, Nat.reduceMul, Nat.reduceLeDiff, Nat.reduceLT, hc', hgs, h0', h2', h3', hw]
              | simp (disch := omega) only [wi64, wu8, wu16, wu32, wu64]
              | with_reducible_and_instances exact finR
              | ((with_reducible refine finR' ?_ ?_) <;> rfl)
              | ((with_reducible refine finD hsc (NRel.of_plain ?_)); exact rfl)
            refine appendTo_gm (l := runsC r) (by with_unfolding_all first | exact (hget0 rfl).trans rfl | exact (hgetk rfl).trans rfl) (by decide) (by rw [runsC_length]) (by omega) (by omega) ?_
            rw [runsC_snoc]
            repeat first
              | with_reducible refine AWP.seq ?_
              | ((with_reducible refine AWP.region ?_ ?_); exact rfl)
              | with_reducible refine AWP.block ?_
              | with_reducible refine AWP.skip ?_
              | with_reducible refine AWP.exit ?_
              | with_reducible refine AWP.ret ?_
              | with_reducible refine AWP.label ?_
              | with_reducible refine AWP.goto ?_
              | ((with_reducible refine AWP.condT ?_ ?_); focus (simp only [ev, lk_cons, ↓reduceIte, Nat.reduceEqDiff]; done))
              | ((with_reducible refine AWP.condF ?_ ?_); focus (simp only [ev, lk_cons, ↓reduceIte, Nat.reduceEqDiff]; done))
              | simp only [go_sem, ↓reduceIte, Nat.reduceEqDiff, reduceCtorEq, Nat.reduceAdd, Int.reduceEq, Int.reduceBNe, Int.reduceBEq, Int.reduceToNat, Int.reduceLT, Int.reduceLE, Int.reduceGT, Int.reduceGE, Nat.reduceSub, Nat.reduceBEq, Nat.reduceBNe, Int.reduceAdd, Int.reduceSub, Int.reduceMul, Int.reduceNeg, Nat.reduceMul, Nat.reduceLeDiff, Nat.reduceLT]
              | simp (disch := omega) only [wi64, wu8, wu16, wu32, wu64]
              | with_reducible_and_instances exact finR
              | ((with_reducible refine finR' ?_ ?_) <;> rfl)
              | ((with_reducible refine finD hsc (NRel.of_plain ?_)); exact rfl)
            refine ⟨(k + 1, r ++ [(X, X - X + 1)]), ?_, hc, (show (r ++ [(X, X - X + 1)]).length = k + 1 by simp; omega), ?_, (show ps.length - (k + 1) < ps.length - k by omega)⟩
            · refine Weak.pick [0, 3] rfl hsc (by simp) ⟨?_, ?_⟩
              · simp [selW_cons, selW_nil, wth_some, onm_cells, nrs_refl (strsC_scalar _), runsO_pos, nrs_refl (runsC_scalar _)]
              · simp [envIn, lk_cons, wth_some, nr_int, nr_string, nr_gs, selN_0, selN_k, nr_slice, gS_succ]
            · show (ps.take (k + 1)).map partR = (r ++ [(X, X - X + 1)]).map some
              rw [htake, List.map_append, List.map_append, hr, List.map_singleton, hpv]; rfl
      · simp only [if_true] at hpc
        obtain ⟨y, by_, ny1, ny2, ny3⟩ := number (s := b) (by omega)
        cases bx
        · rw [nx3 rfl, pairR_none1] at hpc
          rw [goodR_none hg hpc] at hp0
          rw [hp0]
          repeat first
            | with_reducible refine AWP.seq ?_
            | ((with_reducible refine AWP.region ?_ ?_); exact rfl)
            | with_reducible refine AWP.block ?_
            | with_reducible refine AWP.skip ?_
            | with_reducible refine AWP.exit ?_
            | with_reducible refine AWP.ret ?_
            | with_reducible refine AWP.label ?_
            | with_reducible refine AWP.goto ?_
            | ((with_reducible refine AWP.condT ?_ ?_); focus (simp only [ev, lk_cons, ↓reduceIte, Nat.reduceEqDiff]; done))
            | ((with_reducible refine AWP.condF ?_ ?_); focus (simp only [ev, lk_cons, ↓reduceIte, Nat.reduceEqDiff]; done))
            | with_reducible refine (hCu _ (hT.more _)).use ?_
            | with_reducible refine (nx1 _ (hT.more _)).use ?_
            | with_reducible refine (ny1 _ (hT.more _)).use ?_
            | simp only [go_sem, ↓reduceIte, Nat.reduceEqDiff, reduceCtorEq, Nat.reduceAdd, Int.reduceEq, Int.reduceBNe, Int.reduceBEq, Int.reduceToNat, Int.reduceLT, Int.reduceLE, Int.reduceGT, Int.reduceGE, Nat.reduceSub, Nat.reduceBEq, Nat.reduceBNe, Int.reduceAdd, Int.reduceSub, Int.reduceMul, Int.reduceNeg, Nat.reduceMul, Nat.reduceLeDiff, Nat.reduceLT, hc', hgs, h0']
            | simp (disch := omega) only [wi64, wu8, wu16, wu32, wu64]
            | with_reducible_and_instances exact finR
            | ((with_reducible refine finR' ?_ ?_) <;> rfl)
            | ((with_reducible refine finD hsc (NRel.of_plain ?_)); exact rfl)
        · cases by_
          · rw [ny3 rfl, pairR_none] at hpc
            rw [goodR_none hg hpc] at hp0
            rw [hp0]
            repeat first
              | with_reducible refine AWP.seq ?_
              | ((with_reducible refine AWP.region ?_ ?_); exact rfl)
              | with_reducible refine AWP.block ?_
              | with_reducible refine AWP.skip ?_
              | with_reducible refine AWP.exit ?_
              | with_reducible refine AWP.ret ?_
              | with_reducible refine AWP.label ?_
              | with_reducible refine AWP.goto ?_
              | ((with_reducible refine AWP.condT ?_ ?_); focus (simp only [ev, lk_cons, ↓reduceIte, Nat.reduceEqDiff]; done))
              | ((with_reducible refine AWP.condF ?_ ?_); focus (simp only [ev, lk_cons, ↓reduceIte, Nat.reduceEqDiff]; done))
              | with_reducible refine (hCu _ (hT.more _)).use ?_
              | with_reducible refine (nx1 _ (hT.more _)).use ?_
              | with_reducible refine (ny1 _ (hT.more _)).use ?_
              | simp only [go_sem, ↓reduceIte, Nat.reduceEqDiff, reduceCtorEq, Nat.reduceAdd, Int.reduceEq, Int.reduceBNe, Int.reduceBEq, Int.reduceToNat, Int.reduceLT, Int.reduceLE, Int.reduceGT, Int.reduceGE, Nat.reduceSub, Nat.reduceBEq, Nat.reduceBNe, Int.reduceAdd, Int.reduceSub, Int.reduceMul, Int.reduceNeg, Nat.reduceMul, Nat.reduceLeDiff, Nat.reduceLT, hc', hgs, h0']
              | simp (disch := omega) only [wi64, wu8, wu16, wu32, wu64]
              | with_reducible_and_instances exact finR
              | ((with_reducible refine finR' ?_ ?_) <;> rfl)
              | ((with_reducible refine finD hsc (NRel.of_plain ?_)); exact rfl)
          · obtain ⟨x0, x1, x2⟩ := nx2 rfl
            obtain ⟨y0, y1, y2⟩ := ny2 rfl
            obtain ⟨X, rfl⟩ : ∃ X : Nat, x = X := ⟨x.toNat, by omega⟩
            obtain ⟨Y, rfl⟩ : ∃ Y : Nat, y = Y := ⟨y.toNat, by omega⟩
            rw [Int.toNat_natCast] at x2 y2
            have hpv := pair_val X Y (by omega) (by omega)
            rw [← x2, ← y2, ← hpc] at hpv
            by_cases h2 : Y < X
            · have h2' : (Y : Int) < (X : Int) := by omega
              rw [if_pos (.inl h2)] at hpv
              rw [goodR_none hg hpv] at hp0
              rw [hp0]
              repeat first
                | with_reducible refine AWP.seq ?_
                | ((with_reducible refine AWP.region ?_ ?_); exact rfl)
                | with_reducible refine AWP.block ?_
                | with_reducible refine AWP.skip ?_
                | with_reducible refine AWP.exit ?_
                | with_reducible refine AWP.ret ?_
                | with_reducible refine AWP.label ?_
                | with_reducible refine AWP.goto ?_
                | ((with_reducible refine AWP.condT ?_ ?_); focus (simp only [ev, lk_cons, ↓reduceIte, Nat.reduceEqDiff]; done))
                | ((with_reducible refine AWP.condF ?_ ?_); focus (simp only [ev, lk_cons, ↓reduceIte, Nat.reduceEqDiff]; done))
                | with_reducible refine (hCu _ (hT.more _)).use ?_
                | with_reducible refine (nx1 _ (hT.more _)).use ?_
                | with_reducible refine (ny1 _ (hT.more _)).use ?_
                | simp only [go_sem, ↓reduceIte, Nat.reduceEqDiff, reduceCtorEq, Nat.reduceAdd, Int.reduceEq, Int.reduceBNe, Int.reduceBEq, Int.reduceToNat, Int.reduceLT, Int.reduceLE, Int.reduceGT, Int.reduceGE, Nat.reduceSub, Nat.reduceBEq, Nat.reduceBNe, Int.reduceAdd, Int.reduceSub, Int.reduceMul, Int.reduceNeg, Nat.reduceMul, Nat.reduceLeDiff, Nat.reduceLT, hc', hgs, h0', h2']
                | simp (disch := omega) only [wi64, wu8, wu16, wu32, wu64]
                | with_reducible_and_instances exact finR
                | ((with_reducible refine finR' ?_ ?_) <;> rfl)
                | ((with_reducible refine finD hsc (NRel.of_plain ?_)); exact rfl)
            · have h2' : ¬ (Y : Int) < (X : Int) := by omega
              by_cases h3 : 4096 < Y
              · have h3' : (Y : Int) > 4096 := by omega
                rw [if_pos (.inr h3)] at hpv
                rw [goodR_none hg hpv] at hp0
                rw [hp0]
                repeat first
                  | with_reducible refine AWP.seq ?_
                  | ((with_reducible refine AWP.region ?_ ?_); exact rfl)
                  | with_reducible refine AWP.block ?_
                  | with_reducible refine AWP.skip ?_
                  | with_reducible refine AWP.exit ?_
                  | with_reducible refine AWP.ret ?_
                  | with_reducible refine AWP.label ?_
                  | with_reducible refine AWP.goto ?_
                  | ((with_reducible refine AWP.condT ?_ ?_); focus (simp only [ev, lk_cons, ↓reduceIte, Nat.reduceEqDiff]; done))
                  | ((with_reducible refine AWP.condF ?_ ?_); focus (simp only [ev, lk_cons, ↓reduceIte, Nat.reduceEqDiff]; done))
                  | with_reducible refine (hCu _ (hT.more _)).use ?_
                  | with_reducible refine (nx1 _ (hT.more _)).use ?_
                  | with_reducible refine (ny1 _ (hT.more _)).use ?_
                  | simp only [go_sem, ↓reduceIte, Nat.reduceEqDiff, reduceCtorEq, Nat.reduceAdd, Int.reduceEq, Int.reduceBNe, Int.reduceBEq, Int.reduceToNat, Int.reduceLT, Int.reduceLE, Int.reduceGT, Int.reduceGE, Nat.reduceSub, Nat.reduceBEq, Nat.reduceBNe, Int.reduceAdd, Int.reduceSub, Int.reduceMul, Int.reduceNeg, Nat.reduceMul, Nat.reduceLeDiff, Nat.reduceLT, hc', hgs, h0', h2', h3']
                  | simp (disch := omega) only [wi64, wu8, wu16, wu32, wu64]
                  | with_reducible_and_instances exact finR
                  | ((with_reducible refine finR' ?_ ?_) <;> rfl)
                  | ((with_reducible refine finD hsc (NRel.of_plain ?_)); exact rfl)
              · have h3' : ¬ (Y : Int) > 4096 := by omega
                rw [if_neg (by omega)] at hpv
                have hw : (Y : Int) - (X : Int) + 1 = ((Y - X + 1 : Nat) : Int) := by omega
                repeat first
                  | with_reducible refine AWP.seq ?_
                  | ((with_reducible refine AWP.region ?_ ?_); exact rfl)
                  | with_reducible refine AWP.block ?_
                  | with_reducible refine AWP.skip ?_
                  | with_reducible refine AWP.exit ?_
                  | with_reducible refine AWP.ret ?_
                  | with_reducible refine AWP.label ?_
                  | with_reducible refine AWP.goto ?_
                  | ((with_reducible refine AWP.condT ?_ ?_); focus (simp only [ev, lk_cons, ↓reduceIte, Nat.reduceEqDiff]; done))
                  | ((with_reducible refine AWP.condF ?_ ?_); focus (simp only [ev, lk_cons, ↓reduceIte, Nat.reduceEqDiff]; done))
                  | with_reducible refine (hCu _ (hT.more _)).use ?_
                  | with_reducible refine (nx1 _ (hT.more _)).use ?_
                  | with_reducible refine (ny1 _ (hT.more _)).use ?_
                  | simp only [go_sem, ↓reduceIte, Nat.reduceEqDiff, reduceCtorEq, Nat.reduceAdd, Int.reduceEq, Int.reduceBNe, Int.reduceBEq, Int.reduceToNat, Int.reduceLT, Int.reduceLE, Int.reduceGT, Int.reduceGE, Nat.reduceSub, Nat.reduceBEq, Nat.reduceBNe, Int.reduceAdd, Int.reduceSub, Int.reduceMul, Int.reduceNeg, Nat.reduceMul, Nat.reduceLeDiff, Nat.reduceLT, hc', hgs, h0', h2', h3', hw]
                  | simp (disch := omega) only [wi64, wu8, wu16, wu32, wu64]
                  | with_reducible_and_instances exact finR
                  | ((with_reducible refine finR' ?_ ?_) <;> rfl)
                  | ((with_reducible refine finD hsc (NRel.of_plain ?_)); exact rfl)
                refine appendTo_gm (l := runsC r) (by with_unfolding_all first | exact (hget0 rfl).trans rfl | exact (hgetk rfl).trans rfl) (by decide) (by rw [runsC_length]) (by omega) (by omega) ?_
                rw [runsC_snoc]
                repeat first
                  | with_reducible refine AWP.seq ?_
                  | ((with_reducible refine AWP.region ?_ ?_); exact rfl)
                  | with_reducible refine AWP.block ?_
                  | with_reducible refine AWP.skip ?_
                  | with_reducible refine AWP.exit ?_
                  | with_reducible refine AWP.ret ?_
                  | with_reducible refine AWP.label ?_
                  | with_reducible refine AWP.goto ?_
                  | ((with_reducible refine AWP.condT ?_ ?_); focus (simp only [ev, lk_cons, ↓reduceIte, Nat.reduceEqDiff]; done))
                  | ((with_reducible refine AWP.condF ?_ ?_); focus (simp only [ev, lk_cons, ↓reduceIte, Nat.reduceEqDiff]; done))
                  | simp only [go_sem, ↓reduceIte, Nat.reduceEqDiff, reduceCtorEq, Nat.reduceAdd, Int.reduceEq, Int.reduceBNe, Int.reduceBEq, Int.reduceToNat, Int.reduceLT, Int.reduceLE, Int.reduceGT, Int.reduceGE, Nat.reduceSub, Nat.reduceBEq, Nat.reduceBNe, Int.reduceAdd, Int.reduceSub, Int.reduceMul, Int.reduceNeg, Nat.reduceMul, Nat.reduceLeDiff, Nat.reduceLT]
                  | simp (disch := omega) only [wi64, wu8, wu16, wu32, wu64]
                  | with_reducible_and_instances exact finR
                  | ((with_reducible refine finR' ?_ ?_) <;> rfl)
                  | ((with_reducible refine finD hsc (NRel.of_plain ?_)); exact rfl)
                refine ⟨(k + 1, r ++ [(X, Y - X + 1)]), ?_, hc, (show (r ++ [(X, Y - X + 1)]).length = k + 1 by simp; omega), ?_, (show ps.length - (k + 1) < ps.length - k by omega)⟩
                · refine Weak.pick [0, 3] rfl hsc (by simp) ⟨?_, ?_⟩
                  · simp [selW_cons, selW_nil, wth_some, onm_cells, nrs_refl (strsC_scalar _), runsO_pos, nrs_refl (runsC_scalar _)]
                  · simp [envIn, lk_cons, wth_some, nr_int, nr_string, nr_gs, selN_0, selN_k, nr_slice, gS_succ]
                · show (ps.take (k + 1)).map partR = (r ++ [(X, Y - X + 1)]).map some
                  rw [htake, List.map_append, List.map_append, hr, List.map_singleton, hpv]; rfl
    · have : k = ps.length := by omega
      subst this
      have hc' : ¬ (ps.length : Int) < (ps.length : Int) := by omega
      rw [List.take_length] at hr
      have hgr := (goodR_iff ps r).2 hr
      rw [hgr] at hp0
      have hp1 : parseV n t = finV n t r := hp0
      rw [hp1]
      have hcl2 : (castR r).length < 1099511627776 := by unfold castR; rw [List.length_map]; omega
      have hF1 := fun v H hv => hF (castR r) hcl2 v H hv
      unfold finV
      by_cases hz : (frV n (castR r)).2 = 0
      · have hv := frV_valid hz
        have hX' := hX _ hv
        rw [if_neg (fun e => e hz)]
        generalize (frV n (castR r)).1 = s at *
        rw [hz] at hF1
        by_cases hq : textL (runsL (allL s)) = t
        · rw [if_pos hq]
          have hq' : (textL (runsL (allL s)) == t) = true := beq_iff_eq.2 hq
          repeat first
            | with_reducible refine AWP.seq ?_
            | ((with_reducible refine AWP.region ?_ ?_); exact rfl)
            | with_reducible refine AWP.block ?_
            | with_reducible refine AWP.skip ?_
            | with_reducible refine AWP.exit ?_
            | with_reducible refine AWP.ret ?_
            | with_reducible refine AWP.label ?_
            | with_reducible refine AWP.goto ?_
            | ((with_reducible refine AWP.condT ?_ ?_); focus (simp only [ev, lk_cons, ↓reduceIte, Nat.reduceEqDiff]; done))
            | ((with_reducible refine AWP.condF ?_ ?_); focus (simp only [ev, lk_cons, ↓reduceIte, Nat.reduceEqDiff]; done))
            | with_reducible refine (hF1 _ _ (RdN.runs (by with_unfolding_all first | exact (hget0 rfl).trans rfl | exact (hgetk rfl).trans rfl) rfl)).use ?_
            | with_reducible refine (hX' _).use ?_
            | simp only [go_sem, ↓reduceIte, Nat.reduceEqDiff, reduceCtorEq, Nat.reduceAdd, Int.reduceEq, Int.reduceBNe, Int.reduceBEq, Int.reduceToNat, Int.reduceLT, Int.reduceLE, Int.reduceGT, Int.reduceGE, Nat.reduceSub, Nat.reduceBEq, Nat.reduceBNe, Int.reduceAdd, Int.reduceSub, Int.reduceMul, Int.reduceNeg, Nat.reduceMul, Nat.reduceLeDiff, Nat.reduceLT, hc', hq']
            | simp (disch := omega) only [wi64, wu8, wu16, wu32, wu64]
            | with_reducible_and_instances exact finR
            | ((with_reducible refine finR' ?_ ?_) <;> rfl)
            | ((with_reducible refine finD hsc (NRel.of_plain ?_)); exact rfl)
        · rw [if_neg hq]
          have hq' : (textL (runsL (allL s)) == t) = false := beq_eq_false_iff_ne.2 hq
          repeat first
            | with_reducible refine AWP.seq ?_
            | ((with_reducible refine AWP.region ?_ ?_); exact rfl)
            | with_reducible refine AWP.block ?_
            | with_reducible refine AWP.skip ?_
            | with_reducible refine AWP.exit ?_
            | with_reducible refine AWP.ret ?_
            | with_reducible refine AWP.label ?_
            | with_reducible refine AWP.goto ?_
            | ((with_reducible refine AWP.condT ?_ ?_); focus (simp only [ev, lk_cons, ↓reduceIte, Nat.reduceEqDiff]; done))
            | ((with_reducible refine AWP.condF ?_ ?_); focus (simp only [ev, lk_cons, ↓reduceIte, Nat.reduceEqDiff]; done))
            | with_reducible refine (hF1 _ _ (RdN.runs (by with_unfolding_all first | exact (hget0 rfl).trans rfl | exact (hgetk rfl).trans rfl) rfl)).use ?_
            | with_reducible refine (hX' _).use ?_
            | simp only [go_sem, ↓reduceIte, Nat.reduceEqDiff, reduceCtorEq, Nat.reduceAdd, Int.reduceEq, Int.reduceBNe, Int.reduceBEq, Int.reduceToNat, Int.reduceLT, Int.reduceLE, Int.reduceGT, Int.reduceGE, Nat.reduceSub, Nat.reduceBEq, Nat.reduceBNe, Int.reduceAdd, Int.reduceSub, Int.reduceMul, Int.reduceNeg, Nat.reduceMul, Nat.reduceLeDiff, Nat.reduceLT, hc', hq']
            | simp (disch := omega) only [wi64, wu8, wu16, wu32, wu64]
            | with_reducible_and_instances exact finR
            | ((with_reducible refine finR' ?_ ?_) <;> rfl)
            | ((with_reducible refine finD hsc (NRel.of_plain ?_)); exact rfl)
      · rw [if_pos hz]
        generalize (frV n (castR r)).1 = s at *
        generalize (frV n (castR r)).2 = z at *
        have hz' : (z != 0) = true := bne_iff_ne.2 hz
        repeat first
          | with_reducible refine AWP.seq ?_
          | ((with_reducible refine AWP.region ?_ ?_); exact rfl)
          | with_reducible refine AWP.block ?_
          | with_reducible refine AWP.skip ?_
          | with_reducible refine AWP.exit ?_
          | with_reducible refine AWP.ret ?_
          | with_reducible refine AWP.label ?_
          | with_reducible refine AWP.goto ?_
          | ((with_reducible refine AWP.condT ?_ ?_); focus (simp only [ev, lk_cons, ↓reduceIte, Nat.reduceEqDiff]; done))
          | ((with_reducible refine AWP.condF ?_ ?_); focus (simp only [ev, lk_cons, ↓reduceIte, Nat.reduceEqDiff]; done))
          | with_reducible refine (hF1 _ _ (RdN.runs (by with_unfolding_all first | exact (hget0 rfl).trans rfl | exact (hgetk rfl).trans rfl) rfl)).use ?_
          | simp only [go_sem, ↓reduceIte, Nat.reduceEqDiff, reduceCtorEq, Nat.reduceAdd, Int.reduceEq, Int.reduceBNe, Int.reduceBEq, Int.reduceToNat, Int.reduceLT, Int.reduceLE, Int.reduceGT, Int.reduceGE, Nat.reduceSub, Nat.reduceBEq, Nat.reduceBNe, Int.reduceAdd, Int.reduceSub, Int.reduceMul, Int.reduceNeg, Nat.reduceMul, Nat.reduceLeDiff, Nat.reduceLT, hc', hz']
          | simp (disch := omega) only [wi64, wu8, wu16, wu32, wu64]
          | with_reducible_and_instances exact finR
          | ((with_reducible refine finR' ?_ ?_) <;> rfl)
          | ((with_reducible refine finD hsc (NRel.of_plain ?_)); exact rfl)
end Go.Proofs.YtbdlomkogpnkpaaDoor
