/-
  The walk of texts of runs: the specification's Parse.
-/
import Derived.Test.YtbdlomkogpnkpaaDoorMV
set_option linter.unusedVariables false
set_option linter.unusedSimpArgs false
set_option maxRecDepth 20000
set_option maxHeartbeats 1000000
namespace Go.Proofs.YtbdlomkogpnkpaaDoor
open Go Go.Aw Go.Proofs Go.Shelf Go.RowKit Go.ChangeShapes
theorem rTextG (n : Nat) (h : n ≤ 4096) (s : List UInt8) (hv : validB n s) (H : AHeap) : ARet Tryd.prog 48 [.int .i64 (n : Nat), .string (bs s)] H (.tuple ⟨[.string (bs (textL (runsL (allL s)))), .int .i64 0]⟩) H := rTextC n h s hv H
theorem text_zeros (n : Nat) : textL (runsL (allL (zerosB n))) = [] := by
  have : allL (zerosB n) = [] := by
    unfold allL
    rw [List.filter_eq_nil_iff]
    intro i _
    have : bitAt (zerosB n) i = false := bitAt_zeros _ _
    rw [this]; simp
  rw [this]; rfl
theorem parse_nil (n : Nat) : parseV n [] = (zerosB n, 0) := by
  have h0 : (frV n []).2 = 0 := rfl
  have hv := frV_valid (n := n) h0
  have he : (frV n []).1 = zerosB n := by
    refine valid_ext hv (zerosB_valid n) fun i hi => ?_
    rw [show bitAt (zerosB n) i = false from bitAt_zeros _ _]
    show bitAt (fieldL (List.replicate n false)) i = false
    rw [bitAt_field]
    simp [List.getD_eq_getElem?_getD, List.getElem?_replicate]
    split <;> rfl
  show finV n [] [] = _
  unfold finV
  rw [show castR [] = [] from rfl, h0, if_neg (fun e => e rfl), he, text_zeros, if_pos rfl]
theorem rParseA (n : Int) (h : ¬ okN n) (t : List UInt8) (H : AHeap) : ARet Tryd.prog 50 [.int .i64 n, .string (bs t)] H (.tuple ⟨[.string (bs []), .int .i64 7]⟩) H := by
  have hL := fun H => rright n H
  rw [decide_eq_false h] at hL
  refine AC.enter Tryd.func50 rfl (by kernel_rfl) 93 rfl [.tmp 4, .tmp 5] rfl (by simp) fun hsc B => ?_
  repeat first
    | with_reducible refine AWP.seq ?_
    | ((with_reducible refine AWP.region ?_ ?_); exact rfl)
    | with_reducible refine AWP.block ?_
    | with_reducible refine AWP.skip ?_
    | with_reducible refine AWP.exit ?_
    | with_reducible refine AWP.ret ?_
    | with_reducible refine AWP.label ?_
    | with_reducible refine AWP.goto ?_
    | ((with_reducible refine AWP.condT ?_ ?_); focus (simp only [ev, lk_cons, ↓reduceIte, Nat.reduceEqDiff]; done))
    | ((with_reducible refine AWP.condF ?_ ?_); focus (simp only [ev, lk_cons, ↓reduceIte, Nat.reduceEqDiff]; done))
    | with_reducible refine (hL _).use ?_
    | simp only [go_sem, ↓reduceIte, Nat.reduceEqDiff, reduceCtorEq, Nat.reduceAdd, Int.reduceEq, Int.reduceBNe, Int.reduceBEq, Int.reduceToNat, Int.reduceLT, Int.reduceLE, Int.reduceGT, Int.reduceGE, Nat.reduceSub, Nat.reduceBEq, Nat.reduceBNe, Int.reduceAdd, Int.reduceSub, Int.reduceMul, Int.reduceNeg, Nat.reduceMul, Nat.reduceLeDiff, Nat.reduceLT]
    | simp (disch := omega) only [wi64, wu8, wu16, wu32, wu64]
    | with_reducible_and_instances exact finR
    | ((with_reducible refine finR' ?_ ?_) <;> rfl)
    | ((with_reducible refine finD hsc (NRel.of_plain ?_)); exact rfl)
theorem rParseL (n : Nat) (h : n ≤ 4096) (t : List UInt8) (ht : 65536 < t.length) (H : AHeap) : ARet Tryd.prog 50 [.int .i64 (n : Nat), .string (bs t)] H (.tuple ⟨[.string (bs []), .int .i64 3]⟩) H := by
  have hL := fun H => rrightC n h H
  have h1 : (t.length : Int) > 65536 := by omega
  refine AC.enter Tryd.func50 rfl (by kernel_rfl) 93 rfl [.tmp 4, .tmp 5] rfl (by simp) fun hsc B => ?_
  repeat first
    | with_reducible refine AWP.seq ?_
    | ((with_reducible refine AWP.region ?_ ?_); exact rfl)
    | with_reducible refine AWP.block ?_
    | with_reducible refine AWP.skip ?_
    | with_reducible refine AWP.exit ?_
    | with_reducible refine AWP.ret ?_
    | with_reducible refine AWP.label ?_
    | with_reducible refine AWP.goto ?_
    | ((with_reducible refine AWP.condT ?_ ?_); focus (simp only [ev, lk_cons, ↓reduceIte, Nat.reduceEqDiff]; done))
    | ((with_reducible refine AWP.condF ?_ ?_); focus (simp only [ev, lk_cons, ↓reduceIte, Nat.reduceEqDiff]; done))
    | with_reducible refine (hL _).use ?_
    | simp only [go_sem, ↓reduceIte, Nat.reduceEqDiff, reduceCtorEq, Nat.reduceAdd, Int.reduceEq, Int.reduceBNe, Int.reduceBEq, Int.reduceToNat, Int.reduceLT, Int.reduceLE, Int.reduceGT, Int.reduceGE, Nat.reduceSub, Nat.reduceBEq, Nat.reduceBNe, Int.reduceAdd, Int.reduceSub, Int.reduceMul, Int.reduceNeg, Nat.reduceMul, Nat.reduceLeDiff, Nat.reduceLT, h1]
    | simp (disch := omega) only [wi64, wu8, wu16, wu32, wu64]
    | with_reducible_and_instances exact finR
    | ((with_reducible refine finR' ?_ ?_) <;> rfl)
    | ((with_reducible refine finD hsc (NRel.of_plain ?_)); exact rfl)
theorem headD_get {e : List (List UInt8)} (h : 0 < e.length) : e[0] = e.headD [] := by
  cases e with
  | nil => simp at h
  | cons a l => rfl
theorem lastD_get {e : List (List UInt8)} (h : 0 < e.length) : e[e.length - 1] = e.getLastD [] := by
  cases e with
  | nil => simp at h
  | cons a l =>
    rw [List.getLastD_cons, List.getLastD_eq_getLast?, List.getLast?_eq_getElem?]
    cases l with
    | nil => rfl
    | cons b l => simp
theorem rParseC (n : Nat) (h : n ≤ 4096) (t : List UInt8) (ht : t.length ≤ 65536) (H : AHeap) : ARet Tryd.prog 50 [.int .i64 (n : Nat), .string (bs t)] H (.tuple ⟨[.string (bs (parseV n t).1), .int .i64 (parseV n t).2]⟩) H := by
  have hL := fun H => rrightC n h H
  have h1 : ¬ (t.length : Int) > 65536 := by omega
  have hF := fun l hl v H hv => rFromRunsC n h l hl v H hv
  have hX := fun s hv X => rTextG n h s hv X
  by_cases h0 : t = []
  · subst h0
    rw [parse_nil]
    have hN := fun H => rNewC n h H
    refine AC.enter Tryd.func50 rfl (by kernel_rfl) 93 rfl [.tmp 4, .tmp 5] rfl (by simp) fun hsc B => ?_
    repeat first
      | with_reducible refine AWP.seq ?_
      | ((with_reducible refine AWP.region ?_ ?_); exact rfl)
      | with_reducible refine AWP.block ?_
      | with_reducible refine AWP.skip ?_
      | with_reducible refine AWP.exit ?_
      | with_reducible refine AWP.ret ?_
      | with_reducible refine AWP.label ?_
      | with_reducible refine AWP.goto ?_
      | ((with_reducible refine AWP.condT ?_ ?_); focus (simp only [ev, lk_cons, ↓reduceIte, Nat.reduceEqDiff]; done))
      | ((with_reducible refine AWP.condF ?_ ?_); focus (simp only [ev, lk_cons, ↓reduceIte, Nat.reduceEqDiff]; done))
      | with_reducible refine (hL _).use ?_
      | with_reducible refine (hN _).use ?_
      | simp only [go_sem, ↓reduceIte, Nat.reduceEqDiff, reduceCtorEq, Nat.reduceAdd, Int.reduceEq, Int.reduceBNe, Int.reduceBEq, Int.reduceToNat, Int.reduceLT, Int.reduceLE, Int.reduceGT, Int.reduceGE, Nat.reduceSub, Nat.reduceBEq, Nat.reduceBNe, Int.reduceAdd, Int.reduceSub, Int.reduceMul, Int.reduceNeg, Nat.reduceMul, Nat.reduceLeDiff, Nat.reduceLT, h1]
      | simp (disch := omega) only [wi64, wu8, wu16, wu32, wu64]
      | with_reducible_and_instances exact finR
      | ((with_reducible refine finR' ?_ ?_) <;> rfl)
      | ((with_reducible refine finD hsc (NRel.of_plain ?_)); exact rfl)
  · have hp0 : parseV n t = match goodR (cutsL 44 t) with
        | none => ([], 2)
        | some r => finV n t r := by unfold parseV; rw [if_neg (by omega), if_neg h0]; rfl
    have h0' : (t == ([] : List UInt8)) = false := beq_eq_false_iff_ne.2 h0
    obtain ⟨hcl, hcm⟩ := cutsL_len 44 t
    have hpn : 0 < (cutsL 44 t).length := List.length_pos_iff.2 (cutsL_ne 44 t)
    have hS : ∀ H, ARet Tryd.prog 72 [.string (bs t), .int .u8 44] H (.slice (some ⟨H.length, 0, none⟩) (cutsL 44 t).length (cutsL 44 t).length) (H ++ [.cells (strsC (cutsL 44 t)) ⟨9, 1, true, 0, none⟩]) := fun H => rCut 44 t ht H
    generalize hps : cutsL 44 t = ps at *
    refine AC.enter Tryd.func50 rfl (by kernel_rfl) 93 rfl [.tmp 4, .tmp 5] rfl (by simp) fun hsc B => ?_
    repeat first
      | with_reducible refine AWP.seq ?_
      | ((with_reducible refine AWP.region ?_ ?_); exact rfl)
      | with_reducible refine AWP.block ?_
      | with_reducible refine AWP.skip ?_
      | with_reducible refine AWP.exit ?_
      | with_reducible refine AWP.ret ?_
      | with_reducible refine AWP.label ?_
      | with_reducible refine AWP.goto ?_
      | ((with_reducible refine AWP.condT ?_ ?_); focus (simp only [ev, lk_cons, ↓reduceIte, Nat.reduceEqDiff]; done))
      | ((with_reducible refine AWP.condF ?_ ?_); focus (simp only [ev, lk_cons, ↓reduceIte, Nat.reduceEqDiff]; done))
      | with_reducible refine (hL _).use ?_
      | with_reducible refine (hS _).use ?_
      | simp only [go_sem, ↓reduceIte, Nat.reduceEqDiff, reduceCtorEq, Nat.reduceAdd, Int.reduceEq, Int.reduceBNe, Int.reduceBEq, Int.reduceToNat, Int.reduceLT, Int.reduceLE, Int.reduceGT, Int.reduceGE, Nat.reduceSub, Nat.reduceBEq, Nat.reduceBNe, Int.reduceAdd, Int.reduceSub, Int.reduceMul, Int.reduceNeg, Nat.reduceMul, Nat.reduceLeDiff, Nat.reduceLT, h1, h0']
      | simp (disch := omega) only [wi64, wu8, wu16, wu32, wu64]
      | with_reducible_and_instances exact finR
      | ((with_reducible refine finR' ?_ ?_) <;> rfl)
      | ((with_reducible refine finD hsc (NRel.of_plain ?_)); exact rfl)
    refine AWP.loopP (fun p : Nat × List (Nat × Nat) => ⟨[(0, .int .i64 (n : Nat)), (1, .string (bs t)), (6, gS (H.length + 1) p.2.length), (32, .slice (some ⟨H.length, 0, none⟩) ps.length ps.length), (33, .int .i64 (ps.length : Nat)), (34, .int .i64 (p.1 : Nat))], [], H ++ [.cells (strsC ps) ⟨9, 1, true, 0, none⟩, runsO p.2]⟩)
      (fun p => p.1 ≤ ps.length ∧ p.2.length = p.1 ∧ (ps.take p.1).map partR = p.2.map some) (fun p => ps.length - p.1) (0, []) ?_ ⟨Nat.zero_le _, rfl, rfl⟩ ?_
    · have hz : runsO [] = .dead := rfl
      simp only [hz]
      exact Weak.padA (l := [_]) (by simp [envIn, lk_cons, wth_some, gS_zero])
    rintro ⟨k, r⟩ ⟨hk, hrl, hr⟩
    simp only at hk hrl hr
    by_cases hc : k < ps.length
    · have hc' : (k : Int) < (ps.length : Int) := by omega
      have hg : ps[k]? = some ps[k] := List.getElem?_eq_getElem hc
      have hgs := strsC_get hc
      have hpl := hcm _ (List.getElem_mem hc)
      have htake : ps.take (k + 1) = ps.take k ++ [ps[k]] := by rw [List.take_add_one, hg]; rfl
      generalize ps[k] = p at *
      have hCu : ∀ H, ARet Tryd.prog 72 [.string (bs p), .int .u8 45] H (.slice (some ⟨H.length, 0, none⟩) (cutsL 45 p).length (cutsL 45 p).length) (H ++ [.cells (strsC (cutsL 45 p)) ⟨9, 1, true, 0, none⟩]) := fun H => rCut 45 p (by omega) H
      have hpc : partR p = if 2 < (cutsL 45 p).length then none else pairR (numO ((cutsL 45 p).headD [])) (numO ((cutsL 45 p).getLastD [])) := rfl
      have hel : 0 < (cutsL 45 p).length := List.length_pos_iff.2 (cutsL_ne 45 p)
      obtain ⟨_, hem⟩ := cutsL_len 45 p
      generalize cutsL 45 p = e at *
      by_cases h2 : 2 < e.length
      · have h2' : (e.length : Int) > 2 := by omega
        rw [if_pos h2] at hpc
        rw [goodR_none hg hpc] at hp0
        rw [hp0]
        repeat first
          | with_reducible refine AWP.seq ?_
          | ((with_reducible refine AWP.region ?_ ?_); exact rfl)
          | with_reducible refine AWP.block ?_
          | with_reducible refine AWP.skip ?_
          | with_reducible refine AWP.exit ?_
          | with_reducible refine AWP.ret ?_
          | with_reducible refine AWP.label ?_
          | with_reducible refine AWP.goto ?_
          | ((with_reducible refine AWP.condT ?_ ?_); focus (simp only [ev, lk_cons, ↓reduceIte, Nat.reduceEqDiff]; done))
          | ((with_reducible refine AWP.condF ?_ ?_); focus (simp only [ev, lk_cons, ↓reduceIte, Nat.reduceEqDiff]; done))
          | with_reducible refine (hCu _).use ?_
          | simp only [go_sem, ↓reduceIte, Nat.reduceEqDiff, reduceCtorEq, Nat.reduceAdd, Int.reduceEq, Int.reduceBNe, Int.reduceBEq, Int.reduceToNat, Int.reduceLT, Int.reduceLE, Int.reduceGT, Int.reduceGE, Nat.reduceSub, Nat.reduceBEq, Nat.reduceBNe, Int.reduceAdd, Int.reduceSub, Int.reduceMul, Int.reduceNeg, Nat.reduceMul, Nat.reduceLeDiff, Nat.reduceLT, hc', hgs, h2']
          | simp (disch := omega) only [wi64, wu8, wu16, wu32, wu64]
          | with_reducible_and_instances exact finR
          | ((with_reducible refine finR' ?_ ?_) <;> rfl)
          | ((with_reducible refine finD hsc (NRel.of_plain ?_)); exact rfl)
      · have h2' : ¬ (e.length : Int) > 2 := by omega
        rw [if_neg h2, ← headD_get hel, ← lastD_get hel] at hpc
        have ha := strsC_get hel
        have hb := strsC_get (show e.length - 1 < e.length by omega)
        have hal := hem _ (List.getElem_mem hel)
        have hbl := hem _ (List.getElem_mem (show e.length - 1 < e.length by omega))
        have he0 : (0 : Int) < (e.length : Int) := by omega
        have hm1 : IntKind.i64.wrap ((e.length : Int) - 1) = ((e.length - 1 : Nat) : Int) := by rw [wi64 (by omega)]; omega
        have hm2 : ((e.length - 1 : Nat) : Int) < (e.length : Int) := by omega
        generalize e[0] = a at *
        generalize e[e.length - 1] = b at *
        have hDa := fun H => rDigits a (by omega) H
        have hDb := fun H => rDigits b (by omega) H
        cases hna : numO a with
        | none =>
          rw [hna, pairR_none1] at hpc
          rw [digV_none hna] at hDa
          rw [goodR_none hg hpc] at hp0
          rw [hp0]
          repeat first
            | with_reducible refine AWP.seq ?_
            | ((with_reducible refine AWP.region ?_ ?_); exact rfl)
            | with_reducible refine AWP.block ?_
            | with_reducible refine AWP.skip ?_
            | with_reducible refine AWP.exit ?_
            | with_reducible refine AWP.ret ?_
            | with_reducible refine AWP.label ?_
            | with_reducible refine AWP.goto ?_
            | ((with_reducible refine AWP.condT ?_ ?_); focus (simp only [ev, lk_cons, ↓reduceIte, Nat.reduceEqDiff]; done))
            | ((with_reducible refine AWP.condF ?_ ?_); focus (simp only [ev, lk_cons, ↓reduceIte, Nat.reduceEqDiff]; done))
            | with_reducible refine (hCu _).use ?_
            | with_reducible refine (hDa _).use ?_
            | with_reducible refine (hDb _).use ?_
            | simp only [go_sem, ↓reduceIte, Nat.reduceEqDiff, reduceCtorEq, Nat.reduceAdd, Int.reduceEq, Int.reduceBNe, Int.reduceBEq, Int.reduceToNat, Int.reduceLT, Int.reduceLE, Int.reduceGT, Int.reduceGE, Nat.reduceSub, Nat.reduceBEq, Nat.reduceBNe, Int.reduceAdd, Int.reduceSub, Int.reduceMul, Int.reduceNeg, Nat.reduceMul, Nat.reduceLeDiff, Nat.reduceLT, hc', hgs, h2', ha, hb, he0, hm1, hm2]
            | simp (disch := omega) only [wi64, wu8, wu16, wu32, wu64]
            | with_reducible_and_instances exact finR
            | ((with_reducible refine finR' ?_ ?_) <;> rfl)
            | ((with_reducible refine finD hsc (NRel.of_plain ?_)); exact rfl)
        | some X =>
          rw [hna] at hpc
          rw [digV_some hna] at hDa
          have hX0 : ¬ (X : Int) < 0 := by omega
          cases hnb : numO b with
          | none =>
            rw [hnb, pairR_none] at hpc
            rw [digV_none hnb] at hDb
            rw [goodR_none hg hpc] at hp0
            rw [hp0]
            repeat first
              | with_reducible refine AWP.seq ?_
              | ((with_reducible refine AWP.region ?_ ?_); exact rfl)
              | with_reducible refine AWP.block ?_
              | with_reducible refine AWP.skip ?_
              | with_reducible refine AWP.exit ?_
              | with_reducible refine AWP.ret ?_
              | with_reducible refine AWP.label ?_
              | with_reducible refine AWP.goto ?_
              | ((with_reducible refine AWP.condT ?_ ?_); focus (simp only [ev, lk_cons, ↓reduceIte, Nat.reduceEqDiff]; done))
              | ((with_reducible refine AWP.condF ?_ ?_); focus (simp only [ev, lk_cons, ↓reduceIte, Nat.reduceEqDiff]; done))
              | with_reducible refine (hCu _).use ?_
              | with_reducible refine (hDa _).use ?_
              | with_reducible refine (hDb _).use ?_
              | simp only [go_sem, ↓reduceIte, Nat.reduceEqDiff, reduceCtorEq, Nat.reduceAdd, Int.reduceEq, Int.reduceBNe, Int.reduceBEq, Int.reduceToNat, Int.reduceLT, Int.reduceLE, Int.reduceGT, Int.reduceGE, Nat.reduceSub, Nat.reduceBEq, Nat.reduceBNe, Int.reduceAdd, Int.reduceSub, Int.reduceMul, Int.reduceNeg, Nat.reduceMul, Nat.reduceLeDiff, Nat.reduceLT, hc', hgs, h2', ha, hb, he0, hm1, hm2, hX0]
              | simp (disch := omega) only [wi64, wu8, wu16, wu32, wu64]
              | with_reducible_and_instances exact finR
              | ((with_reducible refine finR' ?_ ?_) <;> rfl)
              | ((with_reducible refine finD hsc (NRel.of_plain ?_)); exact rfl)
          | some Y =>
            rw [hnb] at hpc
            rw [digV_some hnb] at hDb
            have hY0 : ¬ (Y : Int) < 0 := by omega
            have hX1 := (numO_iff.1 hna).1
            have hY1 := (numO_iff.1 hnb).1
            have hpv : partR p = if X ≤ Y then some (X, Y - X + 1) else none := hpc
            by_cases h3 : X ≤ Y
            · have h3' : ¬ (Y : Int) < (X : Int) := by omega
              rw [if_pos h3] at hpv
              have hw : (Y : Int) - (X : Int) + 1 = ((Y - X + 1 : Nat) : Int) := by omega
              repeat first
                | with_reducible refine AWP.seq ?_
                | ((with_reducible refine AWP.region ?_ ?_); exact rfl)
                | with_reducible refine AWP.block ?_
                | with_reducible refine AWP.skip ?_
                | with_reducible refine AWP.exit ?_
                | with_reducible refine AWP.ret ?_
                | with_reducible refine AWP.label ?_
                | with_reducible refine AWP.goto ?_
                | ((with_reducible refine AWP.condT ?_ ?_); focus (simp only [ev, lk_cons, ↓reduceIte, Nat.reduceEqDiff]; done))
                | ((with_reducible refine AWP.condF ?_ ?_); focus (simp only [ev, lk_cons, ↓reduceIte, Nat.reduceEqDiff]; done))
                | with_reducible refine (hCu _).use ?_
                | with_reducible refine (hDa _).use ?_
                | with_reducible refine (hDb _).use ?_
                | simp only [go_sem, ↓reduceIte, Nat.reduceEqDiff, reduceCtorEq, Nat.reduceAdd, Int.reduceEq, Int.reduceBNe, Int.reduceBEq, Int.reduceToNat, Int.reduceLT, Int.reduceLE, Int.reduceGT, Int.reduceGE, Nat.reduceSub, Nat.reduceBEq, Nat.reduceBNe, Int.reduceAdd, Int.reduceSub, Int.reduceMul, Int.reduceNeg, Nat.reduceMul, Nat.reduceLeDiff, Nat.reduceLT, hc', hgs, h2', ha, hb, he0, hm1, hm2, hX0, hY0, h3', hw]
                | simp (disch := omega) only [wi64, wu8, wu16, wu32, wu64]
                | with_reducible_and_instances exact finR
                | ((with_reducible refine finR' ?_ ?_) <;> rfl)
                | ((with_reducible refine finD hsc (NRel.of_plain ?_)); exact rfl)
              refine appendTo_gm (l := runsC r) (by with_unfolding_all first | exact (hget0 rfl).trans rfl | exact (hgetk rfl).trans rfl) (by decide) (by rw [runsC_length]) (by omega) (by omega) ?_
              rw [runsC_snoc]
              repeat first
                | with_reducible refine AWP.seq ?_
                | ((with_reducible refine AWP.region ?_ ?_); exact rfl)
                | with_reducible refine AWP.block ?_
                | with_reducible refine AWP.skip ?_
                | with_reducible refine AWP.exit ?_
                | with_reducible refine AWP.ret ?_
                | with_reducible refine AWP.label ?_
                | with_reducible refine AWP.goto ?_
                | ((with_reducible refine AWP.condT ?_ ?_); focus (simp only [ev, lk_cons, ↓reduceIte, Nat.reduceEqDiff]; done))
                | ((with_reducible refine AWP.condF ?_ ?_); focus (simp only [ev, lk_cons, ↓reduceIte, Nat.reduceEqDiff]; done))
                | simp only [go_sem, ↓reduceIte, Nat.reduceEqDiff, reduceCtorEq, Nat.reduceAdd, Int.reduceEq, Int.reduceBNe, Int.reduceBEq, Int.reduceToNat, Int.reduceLT, Int.reduceLE, Int.reduceGT, Int.reduceGE, Nat.reduceSub, Nat.reduceBEq, Nat.reduceBNe, Int.reduceAdd, Int.reduceSub, Int.reduceMul, Int.reduceNeg, Nat.reduceMul, Nat.reduceLeDiff, Nat.reduceLT]
                | simp (disch := omega) only [wi64, wu8, wu16, wu32, wu64]
                | with_reducible_and_instances exact finR
                | ((with_reducible refine finR' ?_ ?_) <;> rfl)
                | ((with_reducible refine finD hsc (NRel.of_plain ?_)); exact rfl)
              refine ⟨(k + 1, r ++ [(X, Y - X + 1)]), ?_, hc, (show (r ++ [(X, Y - X + 1)]).length = k + 1 by simp; omega), ?_, (show ps.length - (k + 1) < ps.length - k by omega)⟩
              · refine Weak.pick [0, 4] rfl hsc (by simp) ⟨?_, ?_⟩
                · simp [selW_cons, selW_nil, wth_some, onm_cells, nrs_refl (strsC_scalar _), runsO_pos, nrs_refl (runsC_scalar _)]
                · simp [envIn, lk_cons, wth_some, nr_int, nr_string, nr_gs, selN_0, selN_k, nr_slice, gS_succ]
              · show (ps.take (k + 1)).map partR = (r ++ [(X, Y - X + 1)]).map some
                rw [htake, List.map_append, List.map_append, hr, List.map_singleton, hpv]; rfl
            · have h3' : (Y : Int) < (X : Int) := by omega
              rw [if_neg h3] at hpv
              rw [goodR_none hg hpv] at hp0
              rw [hp0]
              repeat first
                | with_reducible refine AWP.seq ?_
                | ((with_reducible refine AWP.region ?_ ?_); exact rfl)
                | with_reducible refine AWP.block ?_
                | with_reducible refine AWP.skip ?_
                | with_reducible refine AWP.exit ?_
                | with_reducible refine AWP.ret ?_
                | with_reducible refine AWP.label ?_
                | with_reducible refine AWP.goto ?_
                | ((with_reducible refine AWP.condT ?_ ?_); focus (simp only [ev, lk_cons, ↓reduceIte, Nat.reduceEqDiff]; done))
                | ((with_reducible refine AWP.condF ?_ ?_); focus (simp only [ev, lk_cons, ↓reduceIte, Nat.reduceEqDiff]; done))
                | with_reducible refine (hCu _).use ?_
                | with_reducible refine (hDa _).use ?_
                | with_reducible refine (hDb _).use ?_
                | simp only [go_sem, ↓reduceIte, Nat.reduceEqDiff, reduceCtorEq, Nat.reduceAdd, Int.reduceEq, Int.reduceBNe, Int.reduceBEq, Int.reduceToNat, Int.reduceLT, Int.reduceLE, Int.reduceGT, Int.reduceGE, Nat.reduceSub, Nat.reduceBEq, Nat.reduceBNe, Int.reduceAdd, Int.reduceSub, Int.reduceMul, Int.reduceNeg, Nat.reduceMul, Nat.reduceLeDiff, Nat.reduceLT, hc', hgs, h2', ha, hb, he0, hm1, hm2, hX0, hY0, h3']
                | simp (disch := omega) only [wi64, wu8, wu16, wu32, wu64]
                | with_reducible_and_instances exact finR
                | ((with_reducible refine finR' ?_ ?_) <;> rfl)
                | ((with_reducible refine finD hsc (NRel.of_plain ?_)); exact rfl)
    · have : k = ps.length := by omega
      subst this
      have hc' : ¬ (ps.length : Int) < (ps.length : Int) := by omega
      rw [List.take_length] at hr
      have hgr := (goodR_iff ps r).2 hr
      rw [hgr] at hp0
      have hp1 : parseV n t = finV n t r := hp0
      rw [hp1]
      have hcl2 : (castR r).length < 1099511627776 := by unfold castR; rw [List.length_map]; omega
      have hF1 := fun v H hv => hF (castR r) hcl2 v H hv
      unfold finV
      by_cases hz : (frV n (castR r)).2 = 0
      · have hv := frV_valid hz
        have hX' := hX _ hv
        rw [if_neg (fun e => e hz)]
        generalize (frV n (castR r)).1 = s at *
        rw [hz] at hF1
        by_cases hq : textL (runsL (allL s)) = t
        · rw [if_pos hq]
          have hq' : (textL (runsL (allL s)) == t) = true := beq_iff_eq.2 hq
          repeat first
            | with_reducible refine AWP.seq ?_
            | ((with_reducible refine AWP.region ?_ ?_); exact rfl)
            | with_reducible refine AWP.block ?_
            | with_reducible refine AWP.skip ?_
            | with_reducible refine AWP.exit ?_
            | with_reducible refine AWP.ret ?_
            | with_reducible refine AWP.label ?_
            | with_reducible refine AWP.goto ?_
            | ((with_reducible refine AWP.condT ?_ ?_); focus (simp only [ev, lk_cons, ↓reduceIte, Nat.reduceEqDiff]; done))
            | ((with_reducible refine AWP.condF ?_ ?_); focus (simp only [ev, lk_cons, ↓reduceIte, Nat.reduceEqDiff]; done))
            | with_reducible refine (hF1 _ _ (RdN.runs (by with_unfolding_all first | exact (hget0 rfl).trans rfl | exact (hgetk rfl).trans rfl) rfl)).use ?_
            | with_reducible refine (hX' _).use ?_
            | simp only [go_sem, ↓reduceIte, Nat.reduceEqDiff, reduceCtorEq, Nat.reduceAdd, Int.reduceEq, Int.reduceBNe, Int.reduceBEq, Int.reduceToNat, Int.reduceLT, Int.reduceLE, Int.reduceGT, Int.reduceGE, Nat.reduceSub, Nat.reduceBEq, Nat.reduceBNe, Int.reduceAdd, Int.reduceSub, Int.reduceMul, Int.reduceNeg, Nat.reduceMul, Nat.reduceLeDiff, Nat.reduceLT, hc', hq']
            | simp (disch := omega) only [wi64, wu8, wu16, wu32, wu64]
            | with_reducible_and_instances exact finR
            | ((with_reducible refine finR' ?_ ?_) <;> rfl)
            | ((with_reducible refine finD hsc (NRel.of_plain ?_)); exact rfl)
        · rw [if_neg hq]
          have hq' : (textL (runsL (allL s)) == t) = false := beq_eq_false_iff_ne.2 hq
          repeat first
            | with_reducible refine AWP.seq ?_
            | ((with_reducible refine AWP.region ?_ ?_); exact rfl)
            | with_reducible refine AWP.block ?_
            | with_reducible refine AWP.skip ?_
            | with_reducible refine AWP.exit ?_
            | with_reducible refine AWP.ret ?_
            | with_reducible refine AWP.label ?_
            | with_reducible refine AWP.goto ?_
            | ((with_reducible refine AWP.condT ?_ ?_); focus (simp only [ev, lk_cons, ↓reduceIte, Nat.reduceEqDiff]; done))
            | ((with_reducible refine AWP.condF ?_ ?_); focus (simp only [ev, lk_cons, ↓reduceIte, Nat.reduceEqDiff]; done))
            | with_reducible refine (hF1 _ _ (RdN.runs (by with_unfolding_all first | exact (hget0 rfl).trans rfl | exact (hgetk rfl).trans rfl) rfl)).use ?_
            | with_reducible refine (hX' _).use ?_
            | simp only [go_sem, ↓reduceIte, Nat.reduceEqDiff, reduceCtorEq, Nat.reduceAdd, Int.reduceEq, Int.reduceBNe, Int.reduceBEq, Int.reduceToNat, Int.reduceLT, Int.reduceLE, Int.reduceGT, Int.reduceGE, Nat.reduceSub, Nat.reduceBEq, Nat.reduceBNe, Int.reduceAdd, Int.reduceSub, Int.reduceMul, Int.reduceNeg, Nat.reduceMul, Nat.reduceLeDiff, Nat.reduceLT, hc', hq']
            | simp (disch := omega) only [wi64, wu8, wu16, wu32, wu64]
            | with_reducible_and_instances exact finR
            | ((with_reducible refine finR' ?_ ?_) <;> rfl)
            | ((with_reducible refine finD hsc (NRel.of_plain ?_)); exact rfl)
      · rw [if_pos hz]
        generalize (frV n (castR r)).1 = s at *
        generalize (frV n (castR r)).2 = z at *
        have hz' : (z != 0) = true := bne_iff_ne.2 hz
        repeat first
          | with_reducible refine AWP.seq ?_
          | ((with_reducible refine AWP.region ?_ ?_); exact rfl)
          | with_reducible refine AWP.block ?_
          | with_reducible refine AWP.skip ?_
          | with_reducible refine AWP.exit ?_
          | with_reducible refine AWP.ret ?_
          | with_reducible refine AWP.label ?_
          | with_reducible refine AWP.goto ?_
          | ((with_reducible refine AWP.condT ?_ ?_); focus (simp only [ev, lk_cons, ↓reduceIte, Nat.reduceEqDiff]; done))
          | ((with_reducible refine AWP.condF ?_ ?_); focus (simp only [ev, lk_cons, ↓reduceIte, Nat.reduceEqDiff]; done))
          | with_reducible refine (hF1 _ _ (RdN.runs (by with_unfolding_all first | exact (hget0 rfl).trans rfl | exact (hgetk rfl).trans rfl) rfl)).use ?_
          | simp only [go_sem, ↓reduceIte, Nat.reduceEqDiff, reduceCtorEq, Nat.reduceAdd, Int.reduceEq, Int.reduceBNe, Int.reduceBEq, Int.reduceToNat, Int.reduceLT, Int.reduceLE, Int.reduceGT, Int.reduceGE, Nat.reduceSub, Nat.reduceBEq, Nat.reduceBNe, Int.reduceAdd, Int.reduceSub, Int.reduceMul, Int.reduceNeg, Nat.reduceMul, Nat.reduceLeDiff, Nat.reduceLT, hc', hz']
          | simp (disch := omega) only [wi64, wu8, wu16, wu32, wu64]
          | with_reducible_and_instances exact finR
          | ((with_reducible refine finR' ?_ ?_) <;> rfl)
          | ((with_reducible refine finD hsc (NRel.of_plain ?_)); exact rfl)
end Go.Proofs.YtbdlomkogpnkpaaDoor
