/-
  DelayPlays is true whatever comes: Rows.DelayPlaysSaid, without a condition.
-/
import Derived.Test.YtoikchnpflnehaaGX
import Derived.Test.YtoikchnpflnehaaGH
import Derived.Test.YtoikchnpflnehaaAwB
import Derived.Test.YtoikchnpflnehaaRows
set_option linter.unusedVariables false
set_option maxRecDepth 100000
namespace Go.Proofs.Ytoikchnpflnehaa
open Go Go.Aw Go.Proofs
open Go.ChangeShapes Go.WideShapes Go.ChangeAt Go.RowKit Go.ChangeMaps
theorem delayPlays_lifted (os : Os) (started : os.Started) (H : Type) (enc : TypeId × Value → H) :
    ReturnsInHanded {} Try.checked os 8 .any (Rows.delayPlaysSpec.pre6 enc Try.prog Try.f8 Rows.delayPlaysRow.domain false) (Rows.delayPlaysSpec.post enc Try.prog Try.f8 false true false false) := by
  refine returnsInHanded_of_change (C := Try.checked) Try.own started (by kernel_rfl) Try.func8
    (ChangeSpec.witness6 (enc := enc) (C := Try.checked) false ⟨#[], #[.int .i64 0, .slice none 0 0], []⟩ 8 (by kernel_rfl) (by kernel_rfl) (by kernel_rfl) (by kernel_rfl)) ?_
  intro W base args ds gs before hval0 hW hcnd _
  have hval : ∀ (j : Nat) t v, Try.f8.params[j]? = some t → args[j]? = some v → Value.okWide Try.prog W .any base t v := hval0
  have hW' := hW
  obtain ⟨p, q, hA0, hV, rfl, hfz, hnd⟩ := hW
  have hA : DataW.TrodAll enc Try.prog W 0 (fun _ => true) true Try.f8.params.toList args.toList ds p := hA0
  obtain ⟨rfl, rfl⟩ := trodVars_none hV
  simp only [List.append_nil] at hW'
  have hlt : ∀ x ∈ p, x.block < W.heap.size := fun x hx => hW'.lt x hx
  rw [Try.params8] at hA hval
  have hA1 := hA
  obtain ⟨v0, s1, d0, e1, p0, r1, ha1, rfl, rfl, h0, hA⟩ := trodAll_cons hA
  obtain ⟨v1, s2, d1, e2, p1, r2, rfl, rfl, rfl, h1, hA⟩ := trodAll_cons hA
  obtain ⟨rfl, rfl, rfl⟩ := trodAll_nil hA
  obtain ⟨l⟩ := args
  simp only at ha1
  subst ha1
  obtain ⟨tg, rfl, rfl, rfl, w0⟩ := open_int Try.underlying3 (hval 0 3 v0 rfl rfl) h0
  obtain ⟨l1, c1, X1, a1, gd1, hL1, le1, va1, rd1⟩ := lend_recs (m := 6) Try.underlying39 (by kernel_rfl) (by decide) (fun cs => cs.length = 6 ∧ ∃ zs : List Int, cs = zs.map (.int .i64)) (fun n cs y h => by
    obtain ⟨e1, zs, e2, _⟩ := trod_ints (k := .i64) Try.underlying45 (by kernel_rfl) (by kernel_rfl) h
    exact ⟨by rw [e2]; simp [scalar], e1, zs, e2⟩) (hval 1 39 v1 rfl rfl) h1 (Lent.nil W)
  obtain ⟨acts, hv1⟩ := exists_acts l1 (fun r hr => (gd1 r hr).2)
  subst hv1
  have hLL := hL1
  refine (AC.callsH (args := [.int .i64 tg, a1]) Try.func8 (by kernel_rfl) rfl hLL.rel hLL.own (.cons (.int _ _) (.cons va1 .nil)) rfl
    ((lawPlays tg acts a1 _ rd1).mono fun r H h => h.1)).mono fun e W' ⟨he, hg⟩ => ?_
  subst he
  exact ⟨_, rfl, post_of_below (pv := []) hW' (fun _ _ _ => trodAll_mk1 (shut_bool Try.underlying4 _)) (fun sp hsp => trodAll_below Try.laidOut hg (by kernel_rfl) hA1 hlt hsp) (fun _ _ => rfl) (List.append_nil _).symm
    hg (ok_one (by kernel_rfl) rfl (okWide_bool_mk Try.underlying4 _))⟩

theorem delayPlays_proved : Rows.DelayPlaysSaid :=
  OpenClaim.holds_of_wide 8 Try.f8 rfl rfl rfl rfl rfl rfl rfl ⟨rfl, rfl, rfl, rfl, rfl⟩ rfl rfl rfl rfl rfl (by kernel_rfl) Try.func8 (by kernel_rfl)
    (of_decide_eq_true (by kernel_rfl)) (by unfold Func.isWrapper; first | (rw [if_pos (by decide +kernel)]; kernel_rfl) | (rw [if_neg (by decide +kernel)]; exact ⟨rfl, rfl⟩))
    (fun os started H enc _ => delayPlays_lifted os started H enc)
end Go.Proofs.Ytoikchnpflnehaa
