/-
  Whatever is put and taken, packets go, queue, are lost, doubled and dropped as told, and arrive when told.
-/
import Derived.Test.YtnfkbgpbligloaaYA
import Derived.Test.YtnfkbgpbligloaaXH
import Derived.Test.YtnfkbgpbligloaaAwC
import Derived.Test.YtnfkbgpbligloaaRows
set_option linter.unusedVariables false
set_option maxRecDepth 100000
namespace Go.Proofs.Ytnfkbgpbligloaa
open Go Go.Aw Go.Proofs
open Go.ChangeShapes Go.WideShapes Go.ChangeAt Go.RowKit Go.ChangeMaps
theorem Try.own : ownKnob Try.prog.godebug = none := by kernel_rfl
theorem Try.laidOut : laidOutB Try.prog = true := by kernel_rfl
theorem linkPlays_lifted (os : Os) (started : os.Started) (H : Type) (enc : TypeId × Value → H) :
    ReturnsInHanded {} Try.checked os 5 .any (Rows.linkPlaysSpec.pre6 enc Try.prog Try.f5 Rows.linkPlaysRow.domain false) (Rows.linkPlaysSpec.post enc Try.prog Try.f5 false true false false) := by
  refine returnsInHanded_of_change_sized (C := Try.checked) Try.own started (by kernel_rfl) Try.func5
    (ChangeSpec.witness6 (enc := enc) (C := Try.checked) false ⟨#[], #[.agg ⟨[.int .i64 0, .int .i64 0, .int .i64 0, .int .i64 0, .int .i64 0, .int .i64 0]⟩, .slice none 0 0, .slice none 0 0], []⟩ 8 (by kernel_rfl) (by kernel_rfl) (by kernel_rfl) (by kernel_rfl)) ?_
  intro W base args ds gs before hval0 hW hcnd hsz _
  have hval : ∀ (j : Nat) t v, Try.f5.params[j]? = some t → args[j]? = some v → Value.okWide Try.prog W .any base t v := hval0
  have hW' := hW
  obtain ⟨p, q, hA0, hV, rfl, hfz, hnd⟩ := hW
  have hA : DataW.TrodAll enc Try.prog W 0 (fun _ => true) true Try.f5.params.toList args.toList ds p := hA0
  obtain ⟨rfl, rfl⟩ := trodVars_none hV
  simp only [List.append_nil] at hW'
  have hlt : ∀ x ∈ p, x.block < W.heap.size := fun x hx => hW'.lt x hx
  rw [Try.params5] at hA hval
  have hA1 := hA
  obtain ⟨v0, s1, d0, e1, p0, r1, ha1, rfl, rfl, h0, hA⟩ := trodAll_cons hA
  obtain ⟨v1, s2, d1, e2, p1, r2, rfl, rfl, rfl, h1, hA⟩ := trodAll_cons hA
  obtain ⟨v2, s3, d2, e3, p2, r3, rfl, rfl, rfl, h2, hA⟩ := trodAll_cons hA
  obtain ⟨rfl, rfl, rfl⟩ := trodAll_nil hA
  obtain ⟨l⟩ := args
  simp only at ha1
  subst ha1
  obtain ⟨q, rfl, fit0⟩ := open_rec (bnd := reachBytes) (ks := [.i .i64, .i .i64, .i .i64, .i .i64, .i .i64, .i .i64]) (by kernel_rfl) (by kernel_rfl) (hval 0 23 v0 rfl rfl) h0 (weightsAt hsz (j := 0) rfl rfl)
  obtain ⟨ns, c1, X1, a1, wf1, len1, hL1, le1, va1, rd1⟩ := lend_ints0 Try.underlying44 Try.underlying3 (by kernel_rfl) (hval 1 44 v1 rfl rfl) h1 (Lent.nil W)
  obtain ⟨l2, c2, X2, a2, gd2, hL2, le2, va2, rd2⟩ := lend_recsW (m := 10) (bnd := reachBytes) Try.underlying24 (by kernel_rfl) (by decide) (fun cs => Fits reachBytes [.i .i64, .i .i64, .i .i64, .s, .i .i64, .i .i64, .i .i64, .i .i64, .i .i64, .i .i64] cs) (fun n cs y h hw => by
    have hf : Fits reachBytes [.i .i64, .i .i64, .i .i64, .s, .i .i64, .i .i64, .i .i64, .i .i64, .i .i64, .i .i64] cs := trod_leafs 8 (t := 32) (by kernel_rfl) h hw
    exact ⟨Fits.scalar hf, hf⟩) (weightsAt hsz (j := 2) rfl rfl) (hval 2 24 v2 rfl rfl) h2 hL1
  obtain ⟨l, hv2, hw2⟩ := acsOfW l2 (fun r hr => (gd2 r hr).2)
  subst hv2
  obtain ⟨pp, hpp⟩ := ppOf fit0
  subst hpp
  have hLL := hL2
  refine (AC.callsH (args := [.agg ⟨pp.c⟩, a1, a2]) Try.func5 (by kernel_rfl) rfl hLL.rel hLL.own (.cons (.of_plain (Fits.scalar fit0)) (.cons (VRel.mono le2 va1) (.cons va2 .nil))) rfl
    ((ARex.toAC (lawPlays pp ns l (fun x hx => (hw2 x hx).1) _ _ _ (rd1.more _) rd2)).mono fun r H h => h.1)).mono fun e W' ⟨he, hg⟩ => ?_
  subst he
  exact ⟨_, rfl, post_of_below (pv := []) hW' (fun _ _ _ => trodAll_mk1 (shut_bool Try.underlying4 _)) (fun sp hsp => trodAll_below Try.laidOut hg (by kernel_rfl) hA1 hlt hsp) (fun _ _ => rfl) (List.append_nil _).symm
    hg (ok_one (by kernel_rfl) rfl (okWide_bool_mk Try.underlying4 _))⟩

theorem linkPlays_proved : Rows.LinkPlaysSaid :=
  OpenClaim.holds_of_wide 5 Try.f5 rfl rfl rfl rfl rfl rfl rfl ⟨rfl, rfl, rfl, rfl, rfl⟩ rfl rfl rfl rfl rfl (by kernel_rfl) Try.func5 (by kernel_rfl)
    (of_decide_eq_true (by kernel_rfl)) (by unfold Func.isWrapper; first | (rw [if_pos (by decide +kernel)]; kernel_rfl) | (rw [if_neg (by decide +kernel)]; exact ⟨rfl, rfl⟩))
    (fun os started H enc _ => linkPlays_lifted os started H enc)
end Go.Proofs.Ytnfkbgpbligloaa
