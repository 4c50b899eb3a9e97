/-
  What Pack gives is the texts of either family, and is read back; any text is read as told.
-/
import Derived.Test.YtdbdnknnaekbhaaNN
import Derived.Test.YtdbdnknnaekbhaaAwC
import Derived.Test.YtdbdnknnaekbhaaRows
set_option linter.unusedVariables false
set_option maxRecDepth 100000
namespace Go.Proofs.Ytdbdnknnaekbhaa
open Go Go.Aw Go.Proofs
open Go.ChangeShapes Go.WideShapes Go.ChangeAt Go.RowKit Go.ChangeMaps
theorem Try.own : ownKnob Try.prog.godebug = none := by kernel_rfl
theorem Try.laidOut : laidOutB Try.prog = true := by kernel_rfl
theorem nodePacks_lifted (os : Os) (started : os.Started) (H : Type) (enc : TypeId × Value → H) :
    ReturnsInHanded {} Try.checked os 4 .any (Rows.nodePacksSpec.pre6 enc Try.prog Try.f4 Rows.nodePacksRow.domain false) (Rows.nodePacksSpec.post enc Try.prog Try.f4 false true false false) := by
  refine returnsInHanded_of_change_sized (C := Try.checked) Try.own started (by kernel_rfl) Try.func4
    (ChangeSpec.witness6 (enc := enc) (C := Try.checked) false ⟨#[], #[.slice none 0 0, .string (bs []), .int .i64 0], []⟩ 8 (by kernel_rfl) (by kernel_rfl) (by kernel_rfl) (by kernel_rfl)) ?_
  intro W base args ds gs before hval0 hW hcnd hsz _
  have hval : ∀ (j : Nat) t v, Try.f4.params[j]? = some t → args[j]? = some v → Value.okWide Try.prog W .any base t v := hval0
  have hW' := hW
  obtain ⟨p, q, hA0, hV, rfl, hfz, hnd⟩ := hW
  have hA : DataW.TrodAll enc Try.prog W 0 (fun _ => true) true Try.f4.params.toList args.toList ds p := hA0
  obtain ⟨rfl, rfl⟩ := trodVars_none hV
  simp only [List.append_nil] at hW'
  have hlt : ∀ x ∈ p, x.block < W.heap.size := fun x hx => hW'.lt x hx
  rw [Try.params4] at hA hval
  have hA1 := hA
  obtain ⟨v0, s1, d0, e1, p0, r1, ha1, rfl, rfl, h0, hA⟩ := trodAll_cons hA
  obtain ⟨v1, s2, d1, e2, p1, r2, rfl, rfl, rfl, h1, hA⟩ := trodAll_cons hA
  obtain ⟨v2, s3, d2, e3, p2, r3, rfl, rfl, rfl, h2, hA⟩ := trodAll_cons hA
  obtain ⟨rfl, rfl, rfl⟩ := trodAll_nil hA
  obtain ⟨l⟩ := args
  simp only at ha1
  subst ha1
  obtain ⟨s, rfl, rfl, rfl, w1⟩ := open_string Try.underlying9 (hval 1 9 v1 rfl rfl) h1
  have z1 : s.data.toList.length < 140737488355328 := strAt hsz (j := 1) rfl rfl
  obtain ⟨f, rfl, rfl, rfl, w2⟩ := open_int Try.underlying3 (hval 2 3 v2 rfl rfl) h2
  obtain ⟨l0, c0, X0, a0, gd0, hL0, le0, va0, rd0⟩ := lend_recsW (m := 4) (bnd := reachBytes) Try.underlying34 (by kernel_rfl) (by decide) (fun cs => Fits reachBytes [.s, .i .i64, .s, .i .i64] cs) (fun n cs y h hw => by
    have hf : Fits reachBytes [.s, .i .i64, .s, .i .i64] cs := trod_leafs 8 (t := 46) (by kernel_rfl) h hw
    exact ⟨Fits.scalar hf, hf⟩) (weightsAt hsz (j := 0) rfl rfl) (hval 0 34 v0 rfl rfl) h0 (Lent.nil W)
  obtain ⟨l, hv0⟩ := ndsOf l0 (fun r hr => (gd0 r hr).2)
  subst hv0
  have hLL := hL0
  refine (AC.callsH (args := [a0, .string s, .int .i64 f]) Try.func4 (by kernel_rfl) rfl hLL.rel hLL.own (.cons va0 (.cons (.string _) (.cons (.int _ _) .nil))) rfl
    ((law_ l s.data.toList f _ _ rd0).mono fun r H h => h.1)).mono fun e W' ⟨he, hg⟩ => ?_
  subst he
  exact ⟨_, rfl, post_of_below (pv := []) hW' (fun _ _ _ => trodAll_mk1 (shut_bool Try.underlying4 _)) (fun sp hsp => trodAll_below Try.laidOut hg (by kernel_rfl) hA1 hlt hsp) (fun _ _ => rfl) (List.append_nil _).symm
    hg (ok_one (by kernel_rfl) rfl (okWide_bool_mk Try.underlying4 _))⟩

theorem nodePacks_proved : Rows.NodePacksSaid :=
  OpenClaim.holds_of_wide 4 Try.f4 rfl rfl rfl rfl rfl rfl rfl ⟨rfl, rfl, rfl, rfl, rfl⟩ rfl rfl rfl rfl rfl (by kernel_rfl) Try.func4 (by kernel_rfl)
    (of_decide_eq_true (by kernel_rfl)) (by unfold Func.isWrapper; first | (rw [if_pos (by decide +kernel)]; kernel_rfl) | (rw [if_neg (by decide +kernel)]; exact ⟨rfl, rfl⟩))
    (fun os started H enc _ => nodePacks_lifted os started H enc)
end Go.Proofs.Ytdbdnknnaekbhaa
