/-
  Compare is an order; Sorted has each node once; Nearest are those to which no other one is nearer.
-/
import Derived.Test.YtdbdnknnaekbhaaNN2
import Derived.Test.YtdbdnknnaekbhaaOU
import Derived.Test.YtdbdnknnaekbhaaAwC
import Derived.Test.YtdbdnknnaekbhaaRows
set_option linter.unusedVariables false
set_option maxRecDepth 100000
namespace Go.Proofs.Ytdbdnknnaekbhaa
open Go Go.Aw Go.Proofs
open Go.ChangeShapes Go.WideShapes Go.ChangeAt Go.RowKit Go.ChangeMaps
theorem Try.own : ownKnob Try.prog.godebug = none := by kernel_rfl
theorem Try.laidOut : laidOutB Try.prog = true := by kernel_rfl
theorem nodeOrders_lifted (os : Os) (started : os.Started) (H : Type) (enc : TypeId × Value → H) :
    ReturnsInHanded {} Try.checked os 5 .any (Rows.nodeOrdersSpec.pre6 enc Try.prog Try.f5 Rows.nodeOrdersRow.domain false) (Rows.nodeOrdersSpec.post enc Try.prog Try.f5 false true false false) := by
  refine returnsInHanded_of_change_sized (C := Try.checked) Try.own started (by kernel_rfl) Try.func5
    (ChangeSpec.witness6 (enc := enc) (C := Try.checked) false ⟨#[], #[.string (bs []), .slice none 0 0, .int .i64 0], []⟩ 8 (by kernel_rfl) (by kernel_rfl) (by kernel_rfl) (by kernel_rfl)) ?_
  intro W base args ds gs before hval0 hW hcnd hsz _
  have hval : ∀ (j : Nat) t v, Try.f5.params[j]? = some t → args[j]? = some v → Value.okWide Try.prog W .any base t v := hval0
  have hW' := hW
  obtain ⟨p, q, hA0, hV, rfl, hfz, hnd⟩ := hW
  have hA : DataW.TrodAll enc Try.prog W 0 (fun _ => true) true Try.f5.params.toList args.toList ds p := hA0
  obtain ⟨rfl, rfl⟩ := trodVars_none hV
  simp only [List.append_nil] at hW'
  have hlt : ∀ x ∈ p, x.block < W.heap.size := fun x hx => hW'.lt x hx
  rw [Try.params5] at hA hval
  have hA1 := hA
  obtain ⟨v0, s1, d0, e1, p0, r1, ha1, rfl, rfl, h0, hA⟩ := trodAll_cons hA
  obtain ⟨v1, s2, d1, e2, p1, r2, rfl, rfl, rfl, h1, hA⟩ := trodAll_cons hA
  obtain ⟨v2, s3, d2, e3, p2, r3, rfl, rfl, rfl, h2, hA⟩ := trodAll_cons hA
  obtain ⟨rfl, rfl, rfl⟩ := trodAll_nil hA
  obtain ⟨l⟩ := args
  simp only at ha1
  subst ha1
  obtain ⟨s, rfl, rfl, rfl, w0⟩ := open_string Try.underlying9 (hval 0 9 v0 rfl rfl) h0
  have z0 : s.data.toList.length < 140737488355328 := strAt hsz (j := 0) rfl rfl
  obtain ⟨n, rfl, rfl, rfl, w2⟩ := open_int Try.underlying3 (hval 2 3 v2 rfl rfl) h2
  obtain ⟨l1, c1, X1, a1, gd1, hL1, le1, va1, rd1⟩ := lend_recsK (m := 4) (bnd := reachBytes) Try.underlying34 (by kernel_rfl) (by decide) (fun cs => Fits reachBytes [.s, .i .i64, .s, .i .i64] cs) (fun n cs y h hw => by
    have hf : Fits reachBytes [.s, .i .i64, .s, .i .i64] cs := trod_leafs 8 (t := 46) (by kernel_rfl) h hw
    exact ⟨Fits.scalar hf, hf⟩) (weightsAt hsz (j := 1) rfl rfl) (hval 1 34 v1 rfl rfl) h1 (Lent.nil W)
  obtain ⟨l, hv1⟩ := ndsOf l1 (fun r hr => (gd1 r hr).2)
  subst hv1
  have hLL := hL1
  refine (AC.callsH (args := [.string s, a1, .int .i64 n]) Try.func5 (by kernel_rfl) rfl hLL.rel hLL.own (.cons (.string _) (.cons va1 (.cons (.int _ _) .nil))) rfl
    (((law5 s.data.toList l n _ _ rd1).mono fun r H1 (h : r = .ret (.bool true)) => (⟨h, trivial⟩ : r = .ret (.bool true) ∧ True)).mono fun r H h => h.1)).mono fun e W' ⟨he, hg⟩ => ?_
  subst he
  exact ⟨_, rfl, post_of_below (pv := []) hW' (fun _ _ _ => trodAll_mk1 (shut_bool Try.underlying4 _)) (fun sp hsp => trodAll_below Try.laidOut hg (by kernel_rfl) hA1 hlt hsp) (fun _ _ => rfl) (List.append_nil _).symm
    hg (ok_one (by kernel_rfl) rfl (okWide_bool_mk Try.underlying4 _))⟩

theorem nodeOrders_proved : Rows.NodeOrdersSaid :=
  OpenClaim.holds_of_wide 5 Try.f5 rfl rfl rfl rfl rfl rfl rfl ⟨rfl, rfl, rfl, rfl, rfl⟩ rfl rfl rfl rfl rfl (by kernel_rfl) Try.func5 (by kernel_rfl)
    (of_decide_eq_true (by kernel_rfl)) (by unfold Func.isWrapper; first | (rw [if_pos (by decide +kernel)]; kernel_rfl) | (rw [if_neg (by decide +kernel)]; exact ⟨rfl, rfl⟩))
    (fun os started H enc _ => nodeOrders_lifted os started H enc)
end Go.Proofs.Ytdbdnknnaekbhaa

