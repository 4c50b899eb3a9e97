/-
  The walk of the law of forms.
-/
import Derived.Test.YthcdjconlfdidaaDoorEK
import Derived.Test.YthcdjconlfdidaaDoorEM
import Derived.Test.YthcdjconlfdidaaDoorE5
set_option linter.unusedVariables false
set_option linter.unusedSimpArgs false
set_option maxRecDepth 20000
set_option maxHeartbeats 16000000
namespace Go.Proofs.YthcdjconlfdidaaDoor
open Go Go.Aw Go.Proofs
theorem take5 (cs : List Value) (h : cs.length = 5) : List.take 5 cs = cs := List.take_of_length_le (by omega)
theorem formatR_cases (v : BV) : (v.valid = true ∧ formatR v = (v.write, 0)) ∨ (v.valid = false ∧ formatR v = ([], 1)) := by
  unfold formatR
  cases h : v.valid with
  | true => exact .inl ⟨rfl, by rw [if_pos rfl]⟩
  | false => exact .inr ⟨rfl, by rw [if_neg (by decide)]⟩
theorem lawForms (v w : BV) (hv : wideV v) (hw : wideV w) (nv : v.nums) (nw : w.nums) (H : AHeap) (hG : GlobB H) (cs cs2 : List Value) (hR : RdV H v cs) (hQ : RdV H w cs2) :
    AC Tryd.prog 5 [.agg ⟨cs⟩, .agg ⟨cs2⟩] H (fun r _ => r = .ret (.bool true)) := by
  have hfl := RdV_flat hR
  have hr5 := hR.len
  have htk := take5 cs hr5
  have hfl2 := RdV_flat hQ
  have hr52 := hQ.len
  have htk2 := take5 cs2 hr52
  have hAw : ∀ H1, Frm [] H H1 → ARet Tryd.prog 8 [] H1 (.bool true) H1 := fun H1 h => AC.forget rfl (awake H1 (hG.frm h))
  obtain ⟨H1, hH1⟩ : ∃ H1 : AHeap, H1 = H ++ [.cells cs ⟨26, 0, true, 0, none⟩, .cells cs2 ⟨26, 0, true, 0, none⟩] := ⟨_, rfl⟩
  have hb0 : H1[H.length]? = some (.cells cs ⟨26, 0, true, 0, none⟩) := by rw [hH1, hget0 rfl]; rfl
  have hb1 : H1[H.length + 1]? = some (.cells cs2 ⟨26, 0, true, 0, none⟩) := by rw [hH1, hgetk rfl]; rfl
  have hf1 : Frm [] H H1 := by rw [hH1]; exact Frm.app
  have hR1 : RdV H1 v cs := by rw [hH1]; exact hR.kept (.more _ _)
  have hQ1 : RdV H1 w cs2 := by rw [hH1]; exact hQ.kept (.more _ _)
  have hA1 := hAw H1 hf1
  have hL1 := AC.forget rfl (Light v hv H1 cs hR1)
  have hL2 := AC.forget rfl (Light w hw H1 cs2 hQ1)
  cases hlv : lightB v with
  | false =>
    rw [hlv] at hL1
    refine AC.enter Tryd.func5 rfl (by kernel_rfl) 90 rfl [.tmp 4] rfl (by simp) fun hsc B => ?_
    repeat first
      | with_reducible (first | refine AWP.seq ?_ | refine AWP.block ?_ | refine AWP.skip ?_ | refine AWP.exit ?_ | refine AWP.ret ?_ | refine AWP.label ?_ | refine AWP.goto ?_)
      | ((with_reducible (first | refine AWP.region ?_ ?_ | refine AWP.condT ?_ ?_)); exact rfl)
      | ((with_reducible refine AWP.condF ?_ ?_); exact rfl)
      | simp only [go_sem, sevalprocAttr, reduceCtorEq, hfl, hr5, hfl2, hr52]
      | simp (disch := omega) only [wi64, wu8, wu16, wu32, wu64, Int.tdiv_eq_ediv_of_nonneg, Int.tmod_eq_emod_of_nonneg]
      | with_reducible_and_instances exact finR
      | ((with_reducible refine finR' ?_ ?_) <;> rfl)
      | ((with_reducible refine finD hsc (NRel.of_plain ?_)); exact rfl)
    rw [← hH1]
    repeat first
      | with_reducible (first | refine AWP.seq ?_ | refine AWP.block ?_ | refine AWP.skip ?_ | refine AWP.exit ?_ | refine AWP.ret ?_ | refine AWP.label ?_ | refine AWP.goto ?_)
      | ((with_reducible (first | refine AWP.region ?_ ?_ | refine AWP.condT ?_ ?_)); exact rfl)
      | ((with_reducible refine AWP.condF ?_ ?_); exact rfl)
      | with_reducible refine hL1.use ?_
      | with_reducible refine hA1.use ?_
      | simp only [go_sem, sevalprocAttr, reduceCtorEq, hb0, htk, hr5, exists_eq_left]
      | simp (disch := omega) only [wi64, wu8, wu16, wu32, wu64, Int.tdiv_eq_ediv_of_nonneg, Int.tmod_eq_emod_of_nonneg]
      | with_reducible_and_instances exact finR
      | ((with_reducible refine finR' ?_ ?_) <;> rfl)
      | ((with_reducible refine finD hsc (NRel.of_plain ?_)); exact rfl)
    exact ⟨_, _, .refl _ _ _, rfl⟩
  | true =>
    rw [hlv] at hL1
    cases hlw : lightB w with
    | false =>
      rw [hlw] at hL2
      refine AC.enter Tryd.func5 rfl (by kernel_rfl) 90 rfl [.tmp 4] rfl (by simp) fun hsc B => ?_
      repeat first
        | with_reducible (first | refine AWP.seq ?_ | refine AWP.block ?_ | refine AWP.skip ?_ | refine AWP.exit ?_ | refine AWP.ret ?_ | refine AWP.label ?_ | refine AWP.goto ?_)
        | ((with_reducible (first | refine AWP.region ?_ ?_ | refine AWP.condT ?_ ?_)); exact rfl)
        | ((with_reducible refine AWP.condF ?_ ?_); exact rfl)
        | simp only [go_sem, sevalprocAttr, reduceCtorEq, hfl, hr5, hfl2, hr52]
        | simp (disch := omega) only [wi64, wu8, wu16, wu32, wu64, Int.tdiv_eq_ediv_of_nonneg, Int.tmod_eq_emod_of_nonneg]
        | with_reducible_and_instances exact finR
        | ((with_reducible refine finR' ?_ ?_) <;> rfl)
        | ((with_reducible refine finD hsc (NRel.of_plain ?_)); exact rfl)
      rw [← hH1]
      repeat first
        | with_reducible (first | refine AWP.seq ?_ | refine AWP.block ?_ | refine AWP.skip ?_ | refine AWP.exit ?_ | refine AWP.ret ?_ | refine AWP.label ?_ | refine AWP.goto ?_)
        | ((with_reducible (first | refine AWP.region ?_ ?_ | refine AWP.condT ?_ ?_)); exact rfl)
        | ((with_reducible refine AWP.condF ?_ ?_); exact rfl)
        | with_reducible refine hL1.use ?_
        | with_reducible refine hL2.use ?_
        | with_reducible refine hA1.use ?_
        | simp only [go_sem, sevalprocAttr, reduceCtorEq, hb0, hb1, htk, hr5, htk2, hr52, exists_eq_left]
        | simp (disch := omega) only [wi64, wu8, wu16, wu32, wu64, Int.tdiv_eq_ediv_of_nonneg, Int.tmod_eq_emod_of_nonneg]
        | with_reducible_and_instances exact finR
        | ((with_reducible refine finR' ?_ ?_) <;> rfl)
        | ((with_reducible refine finD hsc (NRel.of_plain ?_)); exact rfl)
      exact ⟨_, _, .refl _ _ _, rfl⟩
    | true =>
      rw [hlw] at hL2
      obtain ⟨fv, cv⟩ := light_fine v nv hlv
      obtain ⟨fw, cw⟩ := light_fine w nw hlw
      have hT1 := (hG.frm hf1).tab
      have hF1 := AC.forget rfl (format_ v fv H1 cs hR1 hT1)
      have hF2 := AC.forget rfl (rFormat v fv (by omega) H1 cs hR1)
      have hF3 := AC.forget rfl (format_ w fw H1 cs2 hQ1 hT1)
      have hV1 := AC.forget rfl (valid_ v fv H1 cs hR1 hT1)
      have hV2 := AC.forget rfl (rValid v fv (by omega) H1 cs hR1)
      have hS1 := AC.forget rfl (sameP v fv.sz w H1 cs cs2 hR1 hQ1)
      have hS2 := AC.forget rfl (same v fv.sz w H1 cs cs2 hR1 hQ1)
      have ns : ∀ a b : List UInt8, (a != b) = !(a == b) := fun a b => rfl
      have nb : ∀ a b : Int, (a != b) = !(a == b) := fun a b => rfl
      have nB : ∀ a : Bool, (a != a) = false := fun a => by cases a <;> rfl
      obtain ⟨sm, hsm⟩ : ∃ sm, sm = sameB v w := ⟨_, rfl⟩
      rw [← hsm] at hS1 hS2
      obtain ⟨vd, hvd⟩ : ∃ vd, vd = v.valid := ⟨_, rfl⟩
      rw [← hvd] at hV1 hV2
      obtain ⟨S, E⟩ : ∃ S : List UInt8 × Int, S = formatR v := ⟨_, rfl⟩
      obtain ⟨U, hU⟩ : ∃ U : List UInt8 × Int, U = formatR w := ⟨_, rfl⟩
      rw [← E] at hF1 hF2
      rw [← hU] at hF3
      obtain ⟨s, e⟩ := S
      obtain ⟨u, g⟩ := U
      dsimp only at hF1 hF2 hF3
      have hss : (s == s) = true := beq_self_eq_true _
      have hee : (e == e) = true := beq_self_eq_true _
      refine AC.enter Tryd.func5 rfl (by kernel_rfl) 90 rfl [.tmp 4] rfl (by simp) fun hsc B => ?_
      repeat first
        | with_reducible (first | refine AWP.seq ?_ | refine AWP.block ?_ | refine AWP.skip ?_ | refine AWP.exit ?_ | refine AWP.ret ?_ | refine AWP.label ?_ | refine AWP.goto ?_)
        | ((with_reducible (first | refine AWP.region ?_ ?_ | refine AWP.condT ?_ ?_)); exact rfl)
        | ((with_reducible refine AWP.condF ?_ ?_); exact rfl)
        | simp only [go_sem, sevalprocAttr, reduceCtorEq, hfl, hr5, hfl2, hr52]
        | simp (disch := omega) only [wi64, wu8, wu16, wu32, wu64, Int.tdiv_eq_ediv_of_nonneg, Int.tmod_eq_emod_of_nonneg]
        | with_reducible_and_instances exact finR
        | ((with_reducible refine finR' ?_ ?_) <;> rfl)
        | ((with_reducible refine finD hsc (NRel.of_plain ?_)); exact rfl)
      rw [← hH1]
      repeat first
        | with_reducible refine AWP.seqJ (x := .seq (.region 6 _ _) _) ⟨[(2, .pointer (some ⟨H.length, 0, none⟩)), (3, .pointer (some ⟨H.length + 1, 0, none⟩)), (5, .string (bs s)), (6, .int .i64 e), (9, .string (bs u)), (10, .int .i64 g)], [], H1⟩ ?_ ?_
        | with_reducible (first | refine AWP.seq ?_ | refine AWP.block ?_ | refine AWP.skip ?_ | refine AWP.exit ?_ | refine AWP.ret ?_ | refine AWP.label ?_ | refine AWP.goto ?_)
        | ((with_reducible (first | refine AWP.region ?_ ?_ | refine AWP.condT ?_ ?_)); exact rfl)
        | ((with_reducible refine AWP.condF ?_ ?_); exact rfl)
        | with_reducible refine hL1.use ?_
        | with_reducible refine hL2.use ?_
        | with_reducible refine hF1.use ?_
        | with_reducible refine hF2.use ?_
        | with_reducible refine hF3.use ?_
        | simp only [go_sem, sevalprocAttr, reduceCtorEq, hb0, hb1, htk, hr5, htk2, hr52, exists_eq_left]
        | simp (disch := omega) only [wi64, wu8, wu16, wu32, wu64, Int.tdiv_eq_ediv_of_nonneg, Int.tmod_eq_emod_of_nonneg]
        | with_reducible_and_instances exact finR
        | ((with_reducible refine finR' ?_ ?_) <;> rfl)
        | ((with_reducible refine finD hsc (NRel.of_plain ?_)); exact rfl)
      · repeat first
          | with_reducible (first | refine AWP.seq ?_ | refine AWP.block ?_ | refine AWP.skip ?_ | refine AWP.exit ?_ | refine AWP.ret ?_ | refine AWP.label ?_ | refine AWP.goto ?_)
          | ((with_reducible (first | refine AWP.region ?_ ?_ | refine AWP.condT ?_ ?_)); exact rfl)
          | ((with_reducible refine AWP.condF ?_ ?_); exact rfl)
          | simp only [go_sem, sevalprocAttr, reduceCtorEq]
          | simp (disch := omega) only [wi64, wu8, wu16, wu32, wu64, Int.tdiv_eq_ediv_of_nonneg, Int.tmod_eq_emod_of_nonneg]
          | with_reducible_and_instances exact finR
          | ((with_reducible refine finR' ?_ ?_) <;> rfl)
          | ((with_reducible refine finD hsc (NRel.of_plain ?_)); exact rfl)
        refine AWP.regionMP 21 [9, 10, 11, 12, 16, 17, 18, 19, 20] [(10, .bool vd), (12, .bool vd)] (.both (.step 9 (.both (.step 10 (.step 11 (.step 12 (.both (.step 16 (.both (.step 17 (.both (.step 18 (.both (.run [19, 20]) (.run [20, 19]))) (.both (.step 19 (.both (.run [18, 20]) (.run [20, 18]))) (.step 20 (.both (.run [18, 19]) (.run [19, 18])))))) (.both (.step 19 (.both (.step 17 (.both (.run [18, 20]) (.run [20, 18]))) (.run [20, 17, 18]))) (.step 20 (.both (.step 17 (.both (.run [18, 19]) (.run [19, 18]))) (.run [19, 17, 18])))))) (.both (.step 17 (.both (.step 16 (.both (.step 18 (.both (.run [19, 20]) (.run [20, 19]))) (.both (.step 19 (.both (.run [18, 20]) (.run [20, 18]))) (.step 20 (.both (.run [18, 19]) (.run [19, 18])))))) (.both (.step 19 (.both (.step 16 (.both (.run [18, 20]) (.run [20, 18]))) (.run [20, 16, 18]))) (.step 20 (.both (.step 16 (.both (.run [18, 19]) (.run [19, 18]))) (.run [19, 16, 18])))))) (.both (.step 19 (.both (.step 16 (.both (.step 17 (.both (.run [18, 20]) (.run [20, 18]))) (.run [20, 17, 18]))) (.both (.step 17 (.both (.step 16 (.both (.run [18, 20]) (.run [20, 18]))) (.run [20, 16, 18]))) (.step 20 (.both (.run [16, 17, 18]) (.run [17, 16, 18])))))) (.step 20 (.both (.step 16 (.both (.step 17 (.both (.run [18, 19]) (.run [19, 18]))) (.run [19, 17, 18]))) (.both (.step 17 (.both (.step 16 (.both (.run [18, 19]) (.run [19, 18]))) (.run [19, 16, 18]))) (.step 19 (.both (.run [16, 17, 18]) (.run [17, 16, 18])))))))))))) (.step 11 (.step 10 (.step 12 (.both (.step 16 (.both (.step 17 (.both (.step 18 (.both (.run [19, 20]) (.run [20, 19]))) (.both (.step 19 (.both (.run [18, 20]) (.run [20, 18]))) (.step 20 (.both (.run [18, 19]) (.run [19, 18])))))) (.both (.step 19 (.both (.step 17 (.both (.run [18, 20]) (.run [20, 18]))) (.run [20, 17, 18]))) (.step 20 (.both (.step 17 (.both (.run [18, 19]) (.run [19, 18]))) (.run [19, 17, 18])))))) (.both (.step 17 (.both (.step 16 (.both (.step 18 (.both (.run [19, 20]) (.run [20, 19]))) (.both (.step 19 (.both (.run [18, 20]) (.run [20, 18]))) (.step 20 (.both (.run [18, 19]) (.run [19, 18])))))) (.both (.step 19 (.both (.step 16 (.both (.run [18, 20]) (.run [20, 18]))) (.run [20, 16, 18]))) (.step 20 (.both (.step 16 (.both (.run [18, 19]) (.run [19, 18]))) (.run [19, 16, 18])))))) (.both (.step 19 (.both (.step 16 (.both (.step 17 (.both (.run [18, 20]) (.run [20, 18]))) (.run [20, 17, 18]))) (.both (.step 17 (.both (.step 16 (.both (.run [18, 20]) (.run [20, 18]))) (.run [20, 16, 18]))) (.step 20 (.both (.run [16, 17, 18]) (.run [17, 16, 18])))))) (.step 20 (.both (.step 16 (.both (.step 17 (.both (.run [18, 19]) (.run [19, 18]))) (.run [19, 17, 18]))) (.both (.step 17 (.both (.step 16 (.both (.run [18, 19]) (.run [19, 18]))) (.run [19, 16, 18]))) (.step 19 (.both (.run [16, 17, 18]) (.run [17, 16, 18])))))))))))))) (.step 11 (.step 9 (.step 10 (.step 12 (.both (.step 16 (.both (.step 17 (.both (.step 18 (.both (.run [19, 20]) (.run [20, 19]))) (.both (.step 19 (.both (.run [18, 20]) (.run [20, 18]))) (.step 20 (.both (.run [18, 19]) (.run [19, 18])))))) (.both (.step 19 (.both (.step 17 (.both (.run [18, 20]) (.run [20, 18]))) (.run [20, 17, 18]))) (.step 20 (.both (.step 17 (.both (.run [18, 19]) (.run [19, 18]))) (.run [19, 17, 18])))))) (.both (.step 17 (.both (.step 16 (.both (.step 18 (.both (.run [19, 20]) (.run [20, 19]))) (.both (.step 19 (.both (.run [18, 20]) (.run [20, 18]))) (.step 20 (.both (.run [18, 19]) (.run [19, 18])))))) (.both (.step 19 (.both (.step 16 (.both (.run [18, 20]) (.run [20, 18]))) (.run [20, 16, 18]))) (.step 20 (.both (.step 16 (.both (.run [18, 19]) (.run [19, 18]))) (.run [19, 16, 18])))))) (.both (.step 19 (.both (.step 16 (.both (.step 17 (.both (.run [18, 20]) (.run [20, 18]))) (.run [20, 17, 18]))) (.both (.step 17 (.both (.step 16 (.both (.run [18, 20]) (.run [20, 18]))) (.run [20, 16, 18]))) (.step 20 (.both (.run [16, 17, 18]) (.run [17, 16, 18])))))) (.step 20 (.both (.step 16 (.both (.step 17 (.both (.run [18, 19]) (.run [19, 18]))) (.run [19, 17, 18]))) (.both (.step 17 (.both (.step 16 (.both (.run [18, 19]) (.run [19, 18]))) (.run [19, 16, 18]))) (.step 19 (.both (.run [16, 17, 18]) (.run [17, 16, 18])))))))))))))) (by kernel_rfl) (by decide) (by kernel_rfl) (by kernel_rfl) (by kernel_rfl) ?_
        repeat' first
          | with_reducible refine canW_n ?_
          | with_reducible refine canW_m (by decide) ?_
          | ((with_reducible apply canW_p (by decide)); focus (intro H; (simp only [go_sem, sevalprocAttr, reduceCtorEq, hb0, hb1, htk, hr5, htk2, hr52, ns, nb, nB, hss, hee, Bool.not_true, List.map_cons, List.map_nil]); exact rfl))
          | with_reducible refine memW_bP ?_ ?_
          | with_reducible refine memW_sP rfl ?_
          | with_reducible refine memW_rP rfl ?_
          | with_reducible refine memW_eP ?_
          | simp only [List.take_succ_cons, List.take_zero, List.drop_succ_cons, List.drop_zero]
          | omega
          | with_reducible refine And.intro ?_ ?_
          | with_reducible (first | refine AWP.seq ?_ | refine AWP.block ?_ | refine AWP.skip ?_ | refine AWP.exit ?_ | refine AWP.ret ?_ | refine AWP.label ?_ | refine AWP.goto ?_)
          | ((with_reducible (first | refine AWP.region ?_ ?_ | refine AWP.condT ?_ ?_)); exact rfl)
          | ((with_reducible refine AWP.condF ?_ ?_); exact rfl)
          | with_reducible refine hV1.use ?_
          | with_reducible refine hV2.use ?_
          | with_reducible refine hS1.use ?_
          | with_reducible refine hS2.use ?_
          | simp only [go_sem, sevalprocAttr, reduceCtorEq, hb0, hb1, htk, hr5, htk2, hr52, ns, nb, nB, hss, hee, Bool.not_true, List.map_cons, List.map_nil]
          | simp (disch := omega) only [wi64, wu8, wu16, wu32, wu64, Int.tdiv_eq_ediv_of_nonneg, Int.tmod_eq_emod_of_nonneg]
          | with_reducible_and_instances exact finR
          | ((with_reducible refine finR' ?_ ?_) <;> rfl)
          | ((with_reducible refine finD hsc (NRel.of_plain ?_)); exact rfl)
        all_goals
          repeat first
            | with_reducible (first | refine AWP.seq ?_ | refine AWP.block ?_ | refine AWP.skip ?_ | refine AWP.exit ?_ | refine AWP.ret ?_ | refine AWP.label ?_ | refine AWP.goto ?_)
            | ((with_reducible (first | refine AWP.region ?_ ?_ | refine AWP.condT ?_ ?_)); exact rfl)
            | ((with_reducible refine AWP.condF ?_ ?_); exact rfl)
            | simp only [go_sem, sevalprocAttr, reduceCtorEq, nB]
            | simp (disch := omega) only [wi64, wu8, wu16, wu32, wu64, Int.tdiv_eq_ediv_of_nonneg, Int.tmod_eq_emod_of_nonneg]
            | with_reducible_and_instances exact finR
            | ((with_reducible refine finR' ?_ ?_) <;> rfl)
            | ((with_reducible refine finD hsc (NRel.of_plain ?_)); exact rfl)
          exact Weak.env (by simp [envIn, lk_cons, wth_some])
      have kp : ∀ {A B : AHeap}, Frm [] A B → Kept A B := fun h1 => Kept.frm h1 (fun x hx => by cases hx)
      rcases formatR_cases v with ⟨hval, hfr⟩ | ⟨hval, hfr⟩
      · rw [hfr] at E
        cases E
        have hX := parse v.write H1
        rw [parse_write hval nv] at hX
        repeat first
          | with_reducible (first | refine AWP.seq ?_ | refine AWP.block ?_ | refine AWP.skip ?_ | refine AWP.exit ?_ | refine AWP.ret ?_ | refine AWP.label ?_ | refine AWP.goto ?_)
          | ((with_reducible (first | refine AWP.region ?_ ?_ | refine AWP.condT ?_ ?_)); exact rfl)
          | ((with_reducible refine AWP.condF ?_ ?_); exact rfl)
          | simp only [go_sem, sevalprocAttr, reduceCtorEq]
          | simp (disch := omega) only [wi64, wu8, wu16, wu32, wu64, Int.tdiv_eq_ediv_of_nonneg, Int.tmod_eq_emod_of_nonneg]
          | with_reducible_and_instances exact finR
          | ((with_reducible refine finR' ?_ ?_) <;> rfl)
          | ((with_reducible refine finD hsc (NRel.of_plain ?_)); exact rfl)
        refine AC.mono hX ?_
        rintro res H2 ⟨cs3, rfl, hf2, hR2⟩
        dsimp only at hR2 ⊢
        have l3 := hR2.len
        have f3 := RdV_flat hR2
        have htk3 := take5 cs3 l3
        have p3 : putCells [.int .i64 0, .int .i64 0, .string (bs []), .slice none 0 0, .slice none 0 0] 0 cs3 = cs3 := by
          match cs3, l3 with
          | [_, _, _, _, _], _ => rfl
        obtain ⟨K, hK⟩ : ∃ K : AHeap, K = H2 ++ [.cells cs3 ⟨26, 0, true, 0, none⟩] := ⟨_, rfl⟩
        have hl2 := hf2.1
        have hfK : Frm [] H1 K := by rw [hK]; exact hf2.more
        have g0 := hfK.get hb0 (by simp)
        have g1 := hfK.get hb1 (by simp)
        have g3 : K[H2.length]? = some (.cells cs3 ⟨26, 0, true, 0, none⟩) := by rw [hK, hget0 rfl]; rfl
        have hRK : RdV K v cs3 := by rw [hK]; exact hR2.kept (.more _ _)
        have hRv := hR1.kept (kp hfK)
        have hQv := hQ1.kept (kp hfK)
        have hSx := AC.forget rfl (same v fv.sz v K cs3 cs hRK hRv)
        rw [sameB_refl] at hSx
        have hSy := AC.forget rfl (same v fv.sz w K cs cs2 hRv hQv)
        rw [← hsm] at hSy
        have hAK := hAw K (hf1.trans hfK (fun x hx => by cases hx))
        have heq : g = 0 → ((v.write == u) == sm) = true := fun hg => by
          rcases formatR_cases w with ⟨hvw, hfw⟩ | ⟨hvw, hfw⟩
          · rw [hfw] at hU
            cases hU
            have : (v.write == w.write) = sm := by
              rw [hsm, Bool.eq_iff_iff, beq_iff_eq]
              constructor
              · intro h
                rw [write_inj hval hvw nv nw h]
                exact sameB_refl w
              · intro h
                rw [sameB_eq v w h]
            rw [this]
            exact beq_self_eq_true sm
          · rw [hfw] at hU
            cases hU
            cases hg
        repeat first
          | with_reducible (first | refine AWP.seq ?_ | refine AWP.block ?_ | refine AWP.skip ?_ | refine AWP.exit ?_ | refine AWP.ret ?_ | refine AWP.label ?_ | refine AWP.goto ?_)
          | ((with_reducible (first | refine AWP.region ?_ ?_ | refine AWP.condT ?_ ?_)); exact rfl)
          | ((with_reducible refine AWP.condF ?_ ?_); exact rfl)
          | simp only [go_sem, sevalprocAttr, reduceCtorEq, l3, f3, p3]
          | simp (disch := omega) only [wi64, wu8, wu16, wu32, wu64, Int.tdiv_eq_ediv_of_nonneg, Int.tmod_eq_emod_of_nonneg]
          | with_reducible_and_instances exact finR
          | ((with_reducible refine finR' ?_ ?_) <;> rfl)
          | ((with_reducible refine finD hsc (NRel.of_plain ?_)); exact rfl)
        rw [← hK]
        by_cases hg : g = 0
        · have hgt : (g == 0) = true := by simpa using hg
          have hqq := heq hg
          repeat first
            | with_reducible (first | refine AWP.seq ?_ | refine AWP.block ?_ | refine AWP.skip ?_ | refine AWP.exit ?_ | refine AWP.ret ?_ | refine AWP.label ?_ | refine AWP.goto ?_)
            | ((with_reducible (first | refine AWP.region ?_ ?_ | refine AWP.condT ?_ ?_)); exact rfl)
            | ((with_reducible refine AWP.condF ?_ ?_); exact rfl)
            | with_reducible refine hSx.use ?_
            | with_reducible refine hSy.use ?_
            | with_reducible refine hAK.use ?_
            | simp only [go_sem, sevalprocAttr, reduceCtorEq, g0, g1, g3, htk, hr5, htk2, hr52, htk3, l3, hgt, hqq, Bool.not_true, exists_eq_left]
            | simp (disch := omega) only [wi64, wu8, wu16, wu32, wu64, Int.tdiv_eq_ediv_of_nonneg, Int.tmod_eq_emod_of_nonneg]
            | with_reducible_and_instances exact finR
            | ((with_reducible refine finR' ?_ ?_) <;> rfl)
            | ((with_reducible refine finD hsc (NRel.of_plain ?_)); exact rfl)
          exact ⟨_, _, .refl _ _ _, rfl⟩
        · have hgt : (g == 0) = false := by simpa using hg
          repeat first
            | with_reducible (first | refine AWP.seq ?_ | refine AWP.block ?_ | refine AWP.skip ?_ | refine AWP.exit ?_ | refine AWP.ret ?_ | refine AWP.label ?_ | refine AWP.goto ?_)
            | ((with_reducible (first | refine AWP.region ?_ ?_ | refine AWP.condT ?_ ?_)); exact rfl)
            | ((with_reducible refine AWP.condF ?_ ?_); exact rfl)
            | with_reducible refine hSx.use ?_
            | with_reducible refine hAK.use ?_
            | simp only [go_sem, sevalprocAttr, reduceCtorEq, g0, g1, g3, htk, hr5, htk2, hr52, htk3, l3, hgt, exists_eq_left]
            | simp (disch := omega) only [wi64, wu8, wu16, wu32, wu64, Int.tdiv_eq_ediv_of_nonneg, Int.tmod_eq_emod_of_nonneg]
            | with_reducible_and_instances exact finR
            | ((with_reducible refine finR' ?_ ?_) <;> rfl)
            | ((with_reducible refine finD hsc (NRel.of_plain ?_)); exact rfl)
          exact ⟨_, _, .refl _ _ _, rfl⟩
      · rw [hfr] at E
        cases E
        repeat first
          | with_reducible (first | refine AWP.seq ?_ | refine AWP.block ?_ | refine AWP.skip ?_ | refine AWP.exit ?_ | refine AWP.ret ?_ | refine AWP.label ?_ | refine AWP.goto ?_)
          | ((with_reducible (first | refine AWP.region ?_ ?_ | refine AWP.condT ?_ ?_)); exact rfl)
          | ((with_reducible refine AWP.condF ?_ ?_); exact rfl)
          | with_reducible refine hA1.use ?_
          | simp only [go_sem, sevalprocAttr, reduceCtorEq]
          | simp (disch := omega) only [wi64, wu8, wu16, wu32, wu64, Int.tdiv_eq_ediv_of_nonneg, Int.tmod_eq_emod_of_nonneg]
          | with_reducible_and_instances exact finR
          | ((with_reducible refine finR' ?_ ?_) <;> rfl)
          | ((with_reducible refine finD hsc (NRel.of_plain ?_)); exact rfl)
        exact ⟨_, _, .refl _ _ _, rfl⟩
end Go.Proofs.YthcdjconlfdidaaDoor

