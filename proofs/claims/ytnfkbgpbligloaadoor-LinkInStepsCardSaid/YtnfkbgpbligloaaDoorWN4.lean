/-
  Taking step by step gives the packets that taking once gives; and two links of the same numbers stand alike.
-/
import Derived.Test.YtnfkbgpbligloaaDoorWN5
import Derived.Deep.DeepWitnessRowRef
set_option linter.unusedVariables false
set_option maxRecDepth 100000
namespace Go.Proofs.YtnfkbgpbligloaaDoor
open Go Go.Aw Go.Proofs
open Go.ChangeShapes Go.WideShapes Go.ChangeAt Go.RowKit Go.ChangeMaps
theorem reads (os : Os) {H : Type} (enc : TypeId × Value → H) : ∃ places, DataW.whole enc Tryd.prog ((laidWorld os).forCall (fun _ _ => 0) ⟨#[], #[.agg ⟨[.int .i64 0, .int .i64 0, .int .i64 0, .int .i64 0, .int .i64 0, .int .i64 0]⟩, .slice none 0 0, .slice none 0 0, .slice none 0 0], []⟩).memory Tryd.f3.params.toList Rows.linkInStepsSpec.vars false (#[.agg ⟨[.int .i64 0, .int .i64 0, .int .i64 0, .int .i64 0, .int .i64 0, .int .i64 0]⟩, .slice none 0 0, .slice none 0 0, .slice none 0 0] : Array Value).toList 8 = some ([.agg [.lit (.int .i64 0), .lit (.int .i64 0), .lit (.int .i64 0), .lit (.int .i64 0), .lit (.int .i64 0), .lit (.int .i64 0)], .nil, .nil, .nil], [], places) :=
  ⟨[], by kernel_rfl⟩
theorem tabOf0 {W : World} (h : laidMet Tryd.prog Rows.linkInStepsRow.laid W) : Lib.TabIs Tryd.prog W "internal/strconv.uint64pow10" .u64 [1, 10, 100, 1000, 10000, 100000, 1000000, 10000000, 100000000, 1000000000, 10000000000, 100000000000, 1000000000000, 10000000000000, 100000000000000, 1000000000000000, 10000000000000000, 100000000000000000, 1000000000000000000, 10000000000000000000] :=
  Lib.tabIs_of_head (by kernel_rfl : Tryd.prog.globalNamed "internal/strconv.uint64pow10" = some 0) (by kernel_rfl : (Tryd.prog.globals[0]?).map (·.type) = some 125) Tryd.underlying125 Tryd.underlying103 (by kernel_rfl) (by kernel_rfl) (laidMet.tail (laidMet.tail h))
theorem fr_of {W : World} {g : Nat} {cs : Array Value} {t : TypeId} (h : W.heap[g]? = some (.cells cs t)) : ∃ fr, W.heap[g]? = some (.cells cs t fr) := ⟨_, h⟩
set_option maxHeartbeats 4000000 in
theorem linkInSteps_lifted (os : Os) (started : os.Started) (H : Type) (enc : TypeId × Value → H) (F : Stop.Interp) :
    ReturnsInHanded {} Tryd.checked os 3 .any ((OpenSpec.ofChange Rows.linkInStepsSpec).preRow enc Tryd.prog Tryd.f3 Rows.linkInStepsRow.domain false Rows.linkInStepsRow.laid) (((OpenSpec.ofChange Rows.linkInStepsSpec).at F).post enc Tryd.prog Tryd.f3 false true false false) := by
  obtain ⟨places, hx⟩ := reads os enc
  refine returnsInHanded_of_row (C := Tryd.checked) (s := OpenSpec.ofChange Rows.linkInStepsSpec) Tryd.own started (by kernel_rfl) Tryd.func3
    (witness_row_atRef (enc := enc) (C := Tryd.checked) false (laidWorld os) #[.agg ⟨[.int .i64 0, .int .i64 0, .int .i64 0, .int .i64 0, .int .i64 0, .int .i64 0]⟩, .slice none 0 0, .slice none 0 0, .slice none 0 0] rfl (by kernel_rfl) (by kernel_rfl) (by kernel_rfl)
      (OpenSpec.preRow_of_cond 8 hx (by kernel_rfl) (fun k hk => by cases hk) (by kernel_rfl) (laid_met os))) ?_
  intro W base args ds gs before hval0 hW hcnd _ hsz hlaid hshp _
  have hval : ∀ (j : Nat) t v, Tryd.f3.params[j]? = some t → args[j]? = some v → Value.okWide Tryd.prog W .any base t v := hval0
  have hW' := hW
  obtain ⟨p, q, hA0, hV, rfl, hfz, hnd⟩ := hW
  have hA : DataW.TrodAll enc Tryd.prog W 0 (fun _ => true) true Tryd.f3.params.toList args.toList ds p := hA0
  obtain ⟨rfl, rfl⟩ := trodVars_none hV
  simp only [List.append_nil] at hW'
  have hlt : ∀ x ∈ p, x.block < W.heap.size := fun x hx => hW'.lt x hx
  rw [Tryd.params3] at hA hval
  have hA1 := hA
  obtain ⟨v0, s1, d0, e1, p0, r1, ha1, rfl, rfl, h0, hA⟩ := trodAll_cons hA
  obtain ⟨v1, s2, d1, e2, p1, r2, rfl, rfl, rfl, h1, hA⟩ := trodAll_cons hA
  obtain ⟨v2, s3, d2, e3, p2, r3, rfl, rfl, rfl, h2, hA⟩ := trodAll_cons hA
  obtain ⟨v3, s4, d3, e4, p3, r4, rfl, rfl, rfl, h3, hA⟩ := trodAll_cons hA
  obtain ⟨rfl, rfl, rfl⟩ := trodAll_nil hA
  obtain ⟨l⟩ := args
  simp only at ha1
  subst ha1
  obtain ⟨q, rfl, fit0⟩ := open_rec (bnd := reachBytes) (ks := [.i .i64, .i .i64, .i .i64, .i .i64, .i .i64, .i .i64]) (by kernel_rfl) (by kernel_rfl) (hval 0 23 v0 rfl rfl) h0 (weightsAt hsz (j := 0) rfl rfl)
  obtain ⟨c0, H0, hl1, hLib⟩ := lentAll hlaid (tabOf0 hlaid) (blk1 hshp) (blk2 hshp)
  obtain ⟨ns, c1, X1, a1, wf1, len1, hL1, le1, va1, rd1⟩ := lend_ints0 Tryd.underlying24 Tryd.underlying3 (by kernel_rfl) (hval 1 24 v1 rfl rfl) h1 hl1
  obtain ⟨ts, c3, X3, a3, wf3, len3, hL3, le3, va3, rd3⟩ := lend_ints0 Tryd.underlying24 Tryd.underlying3 (by kernel_rfl) (hval 3 24 v3 rfl rfl) h3 hL1
  obtain ⟨l2, c2, X2, a2, gd2, hL2, le2, va2, rd2⟩ := lend_recsW (m := 10) (bnd := reachBytes) Tryd.underlying25 (by kernel_rfl) (by decide) (fun cs => Fits reachBytes [.i .i64, .i .i64, .i .i64, .s, .i .i64, .i .i64, .i .i64, .i .i64, .i .i64, .i .i64] cs) (fun n cs y h hw => by
    have hf : Fits reachBytes [.i .i64, .i .i64, .i .i64, .s, .i .i64, .i .i64, .i .i64, .i .i64, .i .i64, .i .i64] cs := trod_leafs 8 (t := 33) (by kernel_rfl) h hw
    exact ⟨Fits.scalar hf, hf⟩) (weightsAt hsz (j := 2) rfl rfl) (hval 2 25 v2 rfl rfl) h2 hL3
  obtain ⟨l, hv2⟩ := acsOf l2 (fun r hr => (gd2 r hr).2)
  subst hv2
  obtain ⟨pp, hpp⟩ := ppOf fit0
  subst hpp
  have hLL := hL2
  refine (AC.callsH (args := [.agg ⟨pp.c⟩, a1, a2, a3]) Tryd.func3 (by kernel_rfl) rfl hLL.rel hLL.own (.cons (.of_plain (Fits.scalar fit0)) (.cons (VRel.mono le2 (VRel.mono le3 va1)) (.cons va2 (.cons (VRel.mono le2 va3) .nil)))) rfl
    ((ARex.toAC (lawSteps pp ns l ts _ _ _ _ (((hLib.lasts (Lasts.more _ _)).lasts (Lasts.more _ _)).lasts (Lasts.more _ _)) ((rd1.more _).more _) rd2 (rd3.more _))).mono fun r H h => h.1)).mono fun e W' ⟨he, hg⟩ => ?_
  subst he
  exact ⟨_, rfl, post_of_below (pv := []) hW' (fun _ _ _ => trodAll_mk1 (shut_bool Tryd.underlying4 _)) (fun sp hsp => trodAll_below Tryd.laidOut hg (by kernel_rfl) hA1 hlt hsp) (fun _ _ => rfl) (List.append_nil _).symm
    hg (ok_one (by kernel_rfl) rfl (okWide_bool_mk Tryd.underlying4 _))⟩

theorem linkInSteps_said : Rows.LinkInStepsSaid :=
  OpenClaim.holds_of_cond 3 Tryd.f3 rfl rfl rfl rfl rfl rfl rfl ⟨rfl, rfl, rfl, rfl, rfl⟩ rfl rfl rfl rfl rfl (by kernel_rfl) Tryd.func3 (by kernel_rfl)
    (of_decide_eq_true (by kernel_rfl)) (by unfold Func.isWrapper; first | (rw [if_pos (by decide +kernel)]; kernel_rfl) | (rw [if_neg (by decide +kernel)]; exact ⟨rfl, rfl⟩))
    (fun os started H enc _ F => by rw [OpenClaim.pre_eq_preRow]; exact linkInSteps_lifted os started H enc F)
theorem linkInSteps_plain (f : FuncId) (fn : Func) (hf : Tryd.pinned.checked.prog.funcNamed Rows.linkInStepsRow.func = some f) (hfn : Tryd.pinned.checked.prog.funcs[f]? = some fn) :
    false = Tryd.pinned.checked.prog.looks [] ∧ ∀ (j : Nat) t, fn.params[j]? = some t → Tryd.pinned.checked.prog.wantsStandIn t = false := by
  obtain rfl : f = 3 := Option.some.inj ((show Tryd.prog.funcNamed Rows.linkInStepsRow.func = some 3 by kernel_rfl).symm.trans hf) |>.symm
  obtain rfl : fn = Tryd.f3 := (Option.some.inj (Tryd.func3.symm.trans hfn)).symm
  refine ⟨by kernel_rfl, fun j t ht => ?_⟩
  rw [Tryd.params3] at ht
  have hall : ((#[23, 24, 25, 24] : Array TypeId).toList.all fun t => !Tryd.prog.wantsStandIn t) = true := by kernel_rfl
  have := List.all_eq_true.1 hall t (Array.mem_toList_iff.2 (Array.mem_of_getElem? ht))
  have h2 : Tryd.prog.wantsStandIn t = false := by simpa using this
  exact h2
theorem linkInSteps_proved : Rows.LinkInStepsCardSaid :=
  Claim7.holds_tied_plain_at .later [] _ _ _ _ linkInSteps_said (fun _ h => by cases h) (by kernel_rfl) (fun _ h => by cases h) linkInSteps_row_tie rfl ⟨rfl, rfl⟩ (by kernel_rfl) rfl linkInSteps_plain (by kernel_rfl)
end Go.Proofs.YtnfkbgpbligloaaDoor
