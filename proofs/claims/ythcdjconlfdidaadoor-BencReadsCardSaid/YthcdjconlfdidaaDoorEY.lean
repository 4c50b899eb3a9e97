/-
  The walk of the law of reading.
-/
import Derived.Test.YthcdjconlfdidaaDoorE5
import Derived.Test.YthcdjconlfdidaaDoorEF
import Derived.Test.YthcdjconlfdidaaDoorEG
set_option linter.unusedVariables false
set_option linter.unusedSimpArgs false
set_option maxRecDepth 20000
set_option maxHeartbeats 8000000
namespace Go.Proofs.YthcdjconlfdidaaDoor
open Go Go.Aw Go.Proofs
theorem fine_zero : szV .zero ∧ BV.zero.nums := by
  refine ⟨?_, ?_⟩
  · unfold BV.zero szV szL
    exact ⟨by decide, by decide, trivial⟩
  · unfold BV.zero BV.nums BV.numsL
    exact ⟨by decide, trivial⟩
/-- What is read has no long lists. -/
theorem readR_sz (s : List UInt8) : szV (readR s).1 := by
  unfold readR
  split
  · exact fine_zero.1
  · rename_i hs
    cases hv : valR s 12 0 0 with
    | bad a e => exact fine_zero.1
    | ok v i n =>
      dsimp only
      have hw := val_inv s 12 0 0 v i n (Nat.zero_le _) hv
      have hf := hw.form
      refine sz_of_form v hf ?_
      have hgo := (valR_goes s 12).ok 0 0 _ _ _ (Nat.zero_le _) hv
      have hd := hw.pos
      omega
theorem parseR_sz (s : List UInt8) : szV (parseR s).1 := by
  unfold parseR
  dsimp only
  split
  · exact fine_zero.1
  · split
    · exact fine_zero.1
    · exact readR_sz s
theorem parse_fine {s : List UInt8} {v : BV} (h : parseR s = (v, 0)) : Fine v ∧ formatR v = (s, 0) := by
  obtain ⟨h1, h2, h3⟩ := parse_inv h
  have h4 := h1
  unfold BV.valid at h4
  simp only [Bool.and_eq_true, decide_eq_true_eq] at h4
  refine ⟨⟨sz_of_form v h4.1.1.1 (by omega), h2, by omega⟩, ?_⟩
  unfold formatR
  rw [if_pos h1, ← h3]
theorem box_put (cs : List Value) (h : cs.length = 5) : putCells [.int .i64 0, .int .i64 0, .string (bs []), .slice none 0 0, .slice none 0 0] 0 cs = cs := by
  match cs, h with
  | [_, _, _, _, _], _ => rfl
theorem take5 (cs : List Value) (h : cs.length = 5) : List.take 5 cs = cs := List.take_of_length_le (by omega)
theorem lawReads (s : List UInt8) (hs : s.length < 140737488355328) (H : AHeap) (hG : GlobB H) :
    AC Tryd.prog 3 [.string (bs s)] H (fun r _ => r = .ret (.bool true)) := by
  have hAw : ∀ H1, Frm [] H H1 → AC Tryd.prog 8 [] H1 (fun r H2 => r = .ret (.bool true) ∧ Frm [] H1 H2) := fun H1 h => awake H1 (hG.frm h)
  have fr : ∀ {A B C : AHeap}, Frm [] A B → Frm [] B C → Frm [] A C := fun h1 h2 => h1.trans h2 (fun x hx => by cases hx)
  have kp : ∀ {A B : AHeap}, Frm [] A B → Kept A B := fun h1 => Kept.frm h1 (fun x hx => by cases hx)
  by_cases hmid : 3000 < s.length ∧ s.length ≤ 65536
  · have b1 : (s.length : Int) > 3000 := by omega
    have b2 : (s.length : Int) ≤ 65536 := by omega
    refine AC.enter Tryd.func3 rfl (by kernel_rfl) 95 rfl [.tmp 2] rfl (by simp) fun hsc B => ?_
    repeat first
      | with_reducible (first | refine AWP.seq ?_ | refine AWP.block ?_ | refine AWP.skip ?_ | refine AWP.exit ?_ | refine AWP.ret ?_ | refine AWP.label ?_ | refine AWP.goto ?_)
      | ((with_reducible (first | refine AWP.region ?_ ?_ | refine AWP.condT ?_ ?_)); exact rfl)
      | ((with_reducible refine AWP.condF ?_ ?_); exact rfl)
      | simp only [go_sem, sevalprocAttr, reduceCtorEq, b1, b2, exists_eq_left]
      | simp (disch := omega) only [wi64, wu8, wu16, wu32, wu64, Int.tdiv_eq_ediv_of_nonneg, Int.tmod_eq_emod_of_nonneg]
      | with_reducible_and_instances exact finR
      | ((with_reducible refine finR' ?_ ?_) <;> rfl)
      | ((with_reducible refine finD hsc (NRel.of_plain ?_)); exact rfl)
    refine AC.mono (hAw H (Frm.refl _ _)) ?_
    rintro res H1 ⟨rfl, hf⟩
    repeat first
      | with_reducible (first | refine AWP.seq ?_ | refine AWP.block ?_ | refine AWP.skip ?_ | refine AWP.exit ?_ | refine AWP.ret ?_ | refine AWP.label ?_ | refine AWP.goto ?_)
      | ((with_reducible (first | refine AWP.region ?_ ?_ | refine AWP.condT ?_ ?_)); exact rfl)
      | ((with_reducible refine AWP.condF ?_ ?_); exact rfl)
      | simp only [go_sem, sevalprocAttr, reduceCtorEq]
      | simp (disch := omega) only [wi64, wu8, wu16, wu32, wu64, Int.tdiv_eq_ediv_of_nonneg, Int.tmod_eq_emod_of_nonneg]
      | with_reducible_and_instances exact finR
      | ((with_reducible refine finR' ?_ ?_) <;> rfl)
      | ((with_reducible refine finD hsc (NRel.of_plain ?_)); exact rfl)
    exact ⟨_, _, .refl _ _ _, rfl⟩
  have hX1 := read s H
  have hz1 := readR_sz s
  have hz2 := parseR_sz s
  have hfp := @parse_fine s
  generalize hr : readR s = R at hX1 hz1
  obtain ⟨v, u, b, e⟩ := R
  generalize hpr : parseR s = P at hz2 hfp
  obtain ⟨x, g⟩ := P
  dsimp only at hz1 hz2
  refine AC.enter Tryd.func3 rfl (by kernel_rfl) 95 rfl [.tmp 2] rfl (by simp) fun hsc B => ?_
  repeat first
    | with_reducible refine AWP.seqJ (x := .seq (.region 1 _ _) _) ⟨[(0, .string (bs s))], [], H⟩ ?_ ?_
    | with_reducible (first | refine AWP.seq ?_ | refine AWP.block ?_ | refine AWP.skip ?_ | refine AWP.exit ?_ | refine AWP.ret ?_ | refine AWP.label ?_ | refine AWP.goto ?_)
    | ((with_reducible (first | refine AWP.region ?_ ?_ | refine AWP.condT ?_ ?_)); exact rfl)
    | ((with_reducible refine AWP.condF ?_ ?_); exact rfl)
    | simp only [go_sem, sevalprocAttr, reduceCtorEq]
    | simp (disch := omega) only [wi64, wu8, wu16, wu32, wu64, Int.tdiv_eq_ediv_of_nonneg, Int.tmod_eq_emod_of_nonneg]
    | with_reducible_and_instances exact finR
    | ((with_reducible refine finR' ?_ ?_) <;> rfl)
    | ((with_reducible refine finD hsc (NRel.of_plain ?_)); exact rfl)
  · by_cases h3 : 3000 < s.length
    · have b1 : (s.length : Int) > 3000 := by omega
      have b2 : ¬ (s.length : Int) ≤ 65536 := by omega
      repeat first
        | with_reducible (first | refine AWP.seq ?_ | refine AWP.block ?_ | refine AWP.skip ?_ | refine AWP.exit ?_ | refine AWP.ret ?_ | refine AWP.label ?_ | refine AWP.goto ?_)
        | ((with_reducible (first | refine AWP.region ?_ ?_ | refine AWP.condT ?_ ?_)); exact rfl)
        | ((with_reducible refine AWP.condF ?_ ?_); exact rfl)
        | simp only [go_sem, sevalprocAttr, reduceCtorEq, b1, b2, exists_eq_left]
        | simp (disch := omega) only [wi64, wu8, wu16, wu32, wu64, Int.tdiv_eq_ediv_of_nonneg, Int.tmod_eq_emod_of_nonneg]
        | with_reducible_and_instances exact finR
        | ((with_reducible refine finR' ?_ ?_) <;> rfl)
        | ((with_reducible refine finD hsc (NRel.of_plain ?_)); exact rfl)
      exact Weak.env (by simp [envIn, lk_cons, wth_some])
    · have b1 : ¬ (s.length : Int) > 3000 := by omega
      repeat first
        | with_reducible (first | refine AWP.seq ?_ | refine AWP.block ?_ | refine AWP.skip ?_ | refine AWP.exit ?_ | refine AWP.ret ?_ | refine AWP.label ?_ | refine AWP.goto ?_)
        | ((with_reducible (first | refine AWP.region ?_ ?_ | refine AWP.condT ?_ ?_)); exact rfl)
        | ((with_reducible refine AWP.condF ?_ ?_); exact rfl)
        | simp only [go_sem, sevalprocAttr, reduceCtorEq, b1, exists_eq_left]
        | simp (disch := omega) only [wi64, wu8, wu16, wu32, wu64, Int.tdiv_eq_ediv_of_nonneg, Int.tmod_eq_emod_of_nonneg]
        | with_reducible_and_instances exact finR
        | ((with_reducible refine finR' ?_ ?_) <;> rfl)
        | ((with_reducible refine finD hsc (NRel.of_plain ?_)); exact rfl)
      exact Weak.env (by simp [envIn, lk_cons, wth_some])
  repeat first
    | with_reducible (first | refine AWP.seq ?_ | refine AWP.block ?_ | refine AWP.skip ?_ | refine AWP.exit ?_ | refine AWP.ret ?_ | refine AWP.label ?_ | refine AWP.goto ?_)
    | ((with_reducible (first | refine AWP.region ?_ ?_ | refine AWP.condT ?_ ?_)); exact rfl)
    | ((with_reducible refine AWP.condF ?_ ?_); exact rfl)
    | simp only [go_sem, sevalprocAttr, reduceCtorEq]
    | simp (disch := omega) only [wi64, wu8, wu16, wu32, wu64, Int.tdiv_eq_ediv_of_nonneg, Int.tmod_eq_emod_of_nonneg]
    | with_reducible_and_instances exact finR
    | ((with_reducible refine finR' ?_ ?_) <;> rfl)
    | ((with_reducible refine finD hsc (NRel.of_plain ?_)); exact rfl)
  refine AC.mono hX1 ?_
  rintro res H1 ⟨c1, rfl, hf1, hR1⟩
  dsimp only at hR1 ⊢
  have l1 := hR1.len
  have f1 := RdV_flat hR1
  have p1 := box_put c1 l1
  have t1 := take5 c1 l1
  obtain ⟨K1, hK1⟩ : ∃ K1 : AHeap, K1 = H1 ++ [.cells c1 ⟨26, 0, true, 0, none⟩] := ⟨_, rfl⟩
  have g1 : K1[H1.length]? = some (.cells c1 ⟨26, 0, true, 0, none⟩) := by rw [hK1, hget0 rfl]; rfl
  have F1 : Frm [] H K1 := by rw [hK1]; exact hf1.more
  have R1 : RdV K1 v c1 := by rw [hK1]; exact hR1.kept (.more _ _)
  have hX2 := rRead s K1
  rw [hr] at hX2
  repeat first
    | with_reducible (first | refine AWP.seq ?_ | refine AWP.block ?_ | refine AWP.skip ?_ | refine AWP.exit ?_ | refine AWP.ret ?_ | refine AWP.label ?_ | refine AWP.goto ?_)
    | ((with_reducible (first | refine AWP.region ?_ ?_ | refine AWP.condT ?_ ?_)); exact rfl)
    | ((with_reducible refine AWP.condF ?_ ?_); exact rfl)
    | simp only [go_sem, sevalprocAttr, reduceCtorEq, l1, f1, p1]
    | simp (disch := omega) only [wi64, wu8, wu16, wu32, wu64, Int.tdiv_eq_ediv_of_nonneg, Int.tmod_eq_emod_of_nonneg]
    | with_reducible_and_instances exact finR
    | ((with_reducible refine finR' ?_ ?_) <;> rfl)
    | ((with_reducible refine finD hsc (NRel.of_plain ?_)); exact rfl)
  rw [← hK1]
  refine AC.mono hX2 ?_
  rintro res H2 ⟨c2, rfl, hf2, hR2⟩
  dsimp only at hR2 ⊢
  have l2 := hR2.len
  have f2 := RdV_flat hR2
  have p2 := box_put c2 l2
  have t2 := take5 c2 l2
  obtain ⟨K2, hK2⟩ : ∃ K2 : AHeap, K2 = H2 ++ [.cells c2 ⟨26, 0, true, 0, none⟩] := ⟨_, rfl⟩
  have g2 : K2[H2.length]? = some (.cells c2 ⟨26, 0, true, 0, none⟩) := by rw [hK2, hget0 rfl]; rfl
  have F2 : Frm [] K1 K2 := by rw [hK2]; exact hf2.more
  have R2 : RdV K2 v c2 := by rw [hK2]; exact hR2.kept (.more _ _)
  have hX3 := parse s K2
  rw [hpr] at hX3
  repeat first
    | with_reducible (first | refine AWP.seq ?_ | refine AWP.block ?_ | refine AWP.skip ?_ | refine AWP.exit ?_ | refine AWP.ret ?_ | refine AWP.label ?_ | refine AWP.goto ?_)
    | ((with_reducible (first | refine AWP.region ?_ ?_ | refine AWP.condT ?_ ?_)); exact rfl)
    | ((with_reducible refine AWP.condF ?_ ?_); exact rfl)
    | simp only [go_sem, sevalprocAttr, reduceCtorEq, l2, f2, p2]
    | simp (disch := omega) only [wi64, wu8, wu16, wu32, wu64, Int.tdiv_eq_ediv_of_nonneg, Int.tmod_eq_emod_of_nonneg]
    | with_reducible_and_instances exact finR
    | ((with_reducible refine finR' ?_ ?_) <;> rfl)
    | ((with_reducible refine finD hsc (NRel.of_plain ?_)); exact rfl)
  rw [← hK2]
  refine AC.mono hX3 ?_
  rintro res H3 ⟨c3, rfl, hf3, hR3⟩
  dsimp only at hR3 ⊢
  have l3 := hR3.len
  have f3 := RdV_flat hR3
  have p3 := box_put c3 l3
  have t3 := take5 c3 l3
  obtain ⟨K3, hK3⟩ : ∃ K3 : AHeap, K3 = H3 ++ [.cells c3 ⟨26, 0, true, 0, none⟩] := ⟨_, rfl⟩
  have g3 : K3[H3.length]? = some (.cells c3 ⟨26, 0, true, 0, none⟩) := by rw [hK3, hget0 rfl]; rfl
  have F3 : Frm [] K2 K3 := by rw [hK3]; exact hf3.more
  have R3 : RdV K3 x c3 := by rw [hK3]; exact hR3.kept (.more _ _)
  have hX4 := rParse s K3
  rw [hpr] at hX4
  repeat first
    | with_reducible (first | refine AWP.seq ?_ | refine AWP.block ?_ | refine AWP.skip ?_ | refine AWP.exit ?_ | refine AWP.ret ?_ | refine AWP.label ?_ | refine AWP.goto ?_)
    | ((with_reducible (first | refine AWP.region ?_ ?_ | refine AWP.condT ?_ ?_)); exact rfl)
    | ((with_reducible refine AWP.condF ?_ ?_); exact rfl)
    | simp only [go_sem, sevalprocAttr, reduceCtorEq, l3, f3, p3]
    | simp (disch := omega) only [wi64, wu8, wu16, wu32, wu64, Int.tdiv_eq_ediv_of_nonneg, Int.tmod_eq_emod_of_nonneg]
    | with_reducible_and_instances exact finR
    | ((with_reducible refine finR' ?_ ?_) <;> rfl)
    | ((with_reducible refine finD hsc (NRel.of_plain ?_)); exact rfl)
  rw [← hK3]
  refine AC.mono hX4 ?_
  rintro res H4 ⟨c4, rfl, hf4, hR4⟩
  dsimp only at hR4 ⊢
  have l4 := hR4.len
  have f4 := RdV_flat hR4
  have p4 := box_put c4 l4
  have t4 := take5 c4 l4
  obtain ⟨K4, hK4⟩ : ∃ K4 : AHeap, K4 = H4 ++ [.cells c4 ⟨26, 0, true, 0, none⟩] := ⟨_, rfl⟩
  have g4 : K4[H4.length]? = some (.cells c4 ⟨26, 0, true, 0, none⟩) := by rw [hK4, hget0 rfl]; rfl
  have F4 : Frm [] K3 K4 := by rw [hK4]; exact hf4.more
  have R4 : RdV K4 x c4 := by rw [hK4]; exact hR4.kept (.more _ _)
  have g14 := (fr (fr F2 F3) F4).get g1 (by simp)
  have g24 := (fr F3 F4).get g2 (by simp)
  have g34 := F4.get g3 (by simp)
  have hS := same v hz1 v K4 c1 c2 (R1.kept (kp (fr (fr F2 F3) F4))) (R2.kept (kp (fr F3 F4)))
  rw [sameB_refl] at hS
  have hbu : (u != u) = false := by simp
  have hbb : (b != b) = false := by simp
  have hbe : (e != e) = false := by simp
  have hbg : (g != g) = false := by simp
  repeat first
    | with_reducible (first | refine AWP.seq ?_ | refine AWP.block ?_ | refine AWP.skip ?_ | refine AWP.exit ?_ | refine AWP.ret ?_ | refine AWP.label ?_ | refine AWP.goto ?_)
    | ((with_reducible (first | refine AWP.region ?_ ?_ | refine AWP.condT ?_ ?_)); exact rfl)
    | ((with_reducible refine AWP.condF ?_ ?_); exact rfl)
    | simp only [go_sem, sevalprocAttr, reduceCtorEq, l4, f4, p4]
    | simp (disch := omega) only [wi64, wu8, wu16, wu32, wu64, Int.tdiv_eq_ediv_of_nonneg, Int.tmod_eq_emod_of_nonneg]
    | with_reducible_and_instances exact finR
    | ((with_reducible refine finR' ?_ ?_) <;> rfl)
    | ((with_reducible refine finD hsc (NRel.of_plain ?_)); exact rfl)
  rw [← hK4]
  repeat first
    | with_reducible (first | refine AWP.seq ?_ | refine AWP.block ?_ | refine AWP.skip ?_ | refine AWP.exit ?_ | refine AWP.ret ?_ | refine AWP.label ?_ | refine AWP.goto ?_)
    | ((with_reducible (first | refine AWP.region ?_ ?_ | refine AWP.condT ?_ ?_)); exact rfl)
    | ((with_reducible refine AWP.condF ?_ ?_); exact rfl)
    | simp only [go_sem, sevalprocAttr, reduceCtorEq, g14, g24, l1, l2, t1, t2]
    | simp (disch := omega) only [wi64, wu8, wu16, wu32, wu64, Int.tdiv_eq_ediv_of_nonneg, Int.tmod_eq_emod_of_nonneg]
    | with_reducible_and_instances exact finR
    | ((with_reducible refine finR' ?_ ?_) <;> rfl)
    | ((with_reducible refine finD hsc (NRel.of_plain ?_)); exact rfl)
  refine AC.mono hS ?_
  rintro res H5 ⟨rfl, hf5⟩
  have g35 := hf5.get g34 (by simp)
  have g45 := hf5.get g4 (by simp)
  have hS2 := same x hz2 x H5 c3 c4 (R3.kept (kp (fr F4 hf5))) (R4.kept (kp hf5))
  rw [sameB_refl] at hS2
  repeat first
    | with_reducible (first | refine AWP.seq ?_ | refine AWP.block ?_ | refine AWP.skip ?_ | refine AWP.exit ?_ | refine AWP.ret ?_ | refine AWP.label ?_ | refine AWP.goto ?_)
    | ((with_reducible (first | refine AWP.region ?_ ?_ | refine AWP.condT ?_ ?_)); exact rfl)
    | ((with_reducible refine AWP.condF ?_ ?_); exact rfl)
    | simp only [go_sem, sevalprocAttr, reduceCtorEq, g35, g45, l3, l4, t3, t4, hbu, hbb, hbe, exists_eq_left]
    | simp (disch := omega) only [wi64, wu8, wu16, wu32, wu64, Int.tdiv_eq_ediv_of_nonneg, Int.tmod_eq_emod_of_nonneg]
    | with_reducible_and_instances exact finR
    | ((with_reducible refine finR' ?_ ?_) <;> rfl)
    | ((with_reducible refine finD hsc (NRel.of_plain ?_)); exact rfl)
  refine AC.mono hS2 ?_
  rintro res H6 ⟨rfl, hf6⟩
  have g36 := hf6.get g35 (by simp)
  have F06 : Frm [] H H6 := fr (fr (fr (fr (fr F1 F2) F3) F4) hf5) hf6
  have hbs : (s != s) = false := by simp
  by_cases hg : g = 0
  · subst hg
    obtain ⟨hfine, hfmt⟩ := hfp rfl
    have hX5 := format_ x hfine H6 c3 (R3.kept (kp (fr (fr F4 hf5) hf6))) (hG.frm F06).tab
    rw [hfmt] at hX5
    repeat first
      | with_reducible (first | refine AWP.seq ?_ | refine AWP.block ?_ | refine AWP.skip ?_ | refine AWP.exit ?_ | refine AWP.ret ?_ | refine AWP.label ?_ | refine AWP.goto ?_)
      | ((with_reducible (first | refine AWP.region ?_ ?_ | refine AWP.condT ?_ ?_)); exact rfl)
      | ((with_reducible refine AWP.condF ?_ ?_); exact rfl)
      | simp only [go_sem, sevalprocAttr, reduceCtorEq, g36, l3, t3, hbg, exists_eq_left]
      | simp (disch := omega) only [wi64, wu8, wu16, wu32, wu64, Int.tdiv_eq_ediv_of_nonneg, Int.tmod_eq_emod_of_nonneg]
      | with_reducible_and_instances exact finR
      | ((with_reducible refine finR' ?_ ?_) <;> rfl)
      | ((with_reducible refine finD hsc (NRel.of_plain ?_)); exact rfl)
    refine AC.mono hX5 ?_
    rintro res H7 ⟨rfl, hf7⟩
    repeat first
      | with_reducible (first | refine AWP.seq ?_ | refine AWP.block ?_ | refine AWP.skip ?_ | refine AWP.exit ?_ | refine AWP.ret ?_ | refine AWP.label ?_ | refine AWP.goto ?_)
      | ((with_reducible (first | refine AWP.region ?_ ?_ | refine AWP.condT ?_ ?_)); exact rfl)
      | ((with_reducible refine AWP.condF ?_ ?_); exact rfl)
      | simp only [go_sem, sevalprocAttr, reduceCtorEq, hbs, exists_eq_left]
      | simp (disch := omega) only [wi64, wu8, wu16, wu32, wu64, Int.tdiv_eq_ediv_of_nonneg, Int.tmod_eq_emod_of_nonneg]
      | with_reducible_and_instances exact finR
      | ((with_reducible refine finR' ?_ ?_) <;> rfl)
      | ((with_reducible refine finD hsc (NRel.of_plain ?_)); exact rfl)
    refine AC.mono (hAw H7 (fr F06 hf7)) ?_
    rintro res H8 ⟨rfl, hf8⟩
    repeat first
      | with_reducible (first | refine AWP.seq ?_ | refine AWP.block ?_ | refine AWP.skip ?_ | refine AWP.exit ?_ | refine AWP.ret ?_ | refine AWP.label ?_ | refine AWP.goto ?_)
      | ((with_reducible (first | refine AWP.region ?_ ?_ | refine AWP.condT ?_ ?_)); exact rfl)
      | ((with_reducible refine AWP.condF ?_ ?_); exact rfl)
      | simp only [go_sem, sevalprocAttr, reduceCtorEq]
      | simp (disch := omega) only [wi64, wu8, wu16, wu32, wu64, Int.tdiv_eq_ediv_of_nonneg, Int.tmod_eq_emod_of_nonneg]
      | with_reducible_and_instances exact finR
      | ((with_reducible refine finR' ?_ ?_) <;> rfl)
      | ((with_reducible refine finD hsc (NRel.of_plain ?_)); exact rfl)
    exact ⟨_, _, .refl _ _ _, rfl⟩
  · have hg' : (g == 0) = false := by simpa using hg
    repeat first
      | with_reducible (first | refine AWP.seq ?_ | refine AWP.block ?_ | refine AWP.skip ?_ | refine AWP.exit ?_ | refine AWP.ret ?_ | refine AWP.label ?_ | refine AWP.goto ?_)
      | ((with_reducible (first | refine AWP.region ?_ ?_ | refine AWP.condT ?_ ?_)); exact rfl)
      | ((with_reducible refine AWP.condF ?_ ?_); exact rfl)
      | simp only [go_sem, sevalprocAttr, reduceCtorEq, hbg, hg', exists_eq_left]
      | simp (disch := omega) only [wi64, wu8, wu16, wu32, wu64, Int.tdiv_eq_ediv_of_nonneg, Int.tmod_eq_emod_of_nonneg]
      | with_reducible_and_instances exact finR
      | ((with_reducible refine finR' ?_ ?_) <;> rfl)
      | ((with_reducible refine finD hsc (NRel.of_plain ?_)); exact rfl)
    refine AC.mono (hAw H6 F06) ?_
    rintro res H8 ⟨rfl, hf8⟩
    repeat first
      | with_reducible (first | refine AWP.seq ?_ | refine AWP.block ?_ | refine AWP.skip ?_ | refine AWP.exit ?_ | refine AWP.ret ?_ | refine AWP.label ?_ | refine AWP.goto ?_)
      | ((with_reducible (first | refine AWP.region ?_ ?_ | refine AWP.condT ?_ ?_)); exact rfl)
      | ((with_reducible refine AWP.condF ?_ ?_); exact rfl)
      | simp only [go_sem, sevalprocAttr, reduceCtorEq]
      | simp (disch := omega) only [wi64, wu8, wu16, wu32, wu64, Int.tdiv_eq_ediv_of_nonneg, Int.tmod_eq_emod_of_nonneg]
      | with_reducible_and_instances exact finR
      | ((with_reducible refine finR' ?_ ?_) <;> rfl)
      | ((with_reducible refine finD hsc (NRel.of_plain ?_)); exact rfl)
    exact ⟨_, _, .refl _ _ _, rfl⟩
end Go.Proofs.YthcdjconlfdidaaDoor

