/-
  DelayOrdinary is true whatever comes: Rows.DelayOrdinarySaid, without a condition.
-/
import Derived.Test.YtoikchnpflnehaaGG
import Derived.Test.YtoikchnpflnehaaAwB
import Derived.Test.YtoikchnpflnehaaRows
set_option linter.unusedVariables false
set_option maxRecDepth 100000
namespace Go.Proofs.Ytoikchnpflnehaa
open Go Go.Aw Go.Proofs
open Go.ChangeShapes Go.WideShapes Go.ChangeAt Go.RowKit Go.ChangeMaps
theorem exists_acts : ∀ l : List (List Value), (∀ r ∈ l, r.length = 6 ∧ ∃ zs : List Int, r = zs.map (.int .i64)) → ∃ acts : List ActS, l = actsC acts
  | [], _ => ⟨[], rfl⟩
  | r :: l, h => by
    obtain ⟨acts, ha⟩ := exists_acts l (fun r hr => h r (List.mem_cons_of_mem _ hr))
    obtain ⟨h6, zs, hz⟩ := h r (List.mem_cons_self ..)
    subst hz
    rw [List.length_map] at h6
    match zs, h6 with
    | [a, b, c, d, e, f], _ => exact ⟨⟨a, b, c, d, e, f⟩ :: acts, by rw [ha]; rfl⟩
theorem Try.own : ownKnob Try.prog.godebug = none := by kernel_rfl
theorem Try.laidOut : laidOutB Try.prog = true := by kernel_rfl
theorem delayOrdinary_lifted (os : Os) (started : os.Started) (H : Type) (enc : TypeId × Value → H) :
    ReturnsInHanded {} Try.checked os 7 .any (Rows.delayOrdinarySpec.pre6 enc Try.prog Try.f7 Rows.delayOrdinaryRow.domain false) (Rows.delayOrdinarySpec.post enc Try.prog Try.f7 false true false false) := by
  refine returnsInHanded_of_change (C := Try.checked) Try.own started (by kernel_rfl) Try.func7
    (ChangeSpec.witness6 (enc := enc) (C := Try.checked) false ⟨#[], #[.slice none 0 0], []⟩ 8 (by kernel_rfl) (by kernel_rfl) (by kernel_rfl) (by kernel_rfl)) ?_
  intro W base args ds gs before hval0 hW hcnd _
  have hval : ∀ (j : Nat) t v, Try.f7.params[j]? = some t → args[j]? = some v → Value.okWide Try.prog W .any base t v := hval0
  have hW' := hW
  obtain ⟨p, q, hA0, hV, rfl, hfz, hnd⟩ := hW
  have hA : DataW.TrodAll enc Try.prog W 0 (fun _ => true) true Try.f7.params.toList args.toList ds p := hA0
  obtain ⟨rfl, rfl⟩ := trodVars_none hV
  simp only [List.append_nil] at hW'
  have hlt : ∀ x ∈ p, x.block < W.heap.size := fun x hx => hW'.lt x hx
  rw [Try.params7] at hA hval
  have hA1 := hA
  obtain ⟨v0, s1, d0, e1, p0, r1, ha1, rfl, rfl, h0, hA⟩ := trodAll_cons hA
  obtain ⟨rfl, rfl, rfl⟩ := trodAll_nil hA
  obtain ⟨l⟩ := args
  simp only at ha1
  subst ha1
  obtain ⟨l0, c0, X0, a0, gd0, hL0, le0, va0, rd0⟩ := lend_recs (m := 6) Try.underlying39 (by kernel_rfl) (by decide) (fun cs => cs.length = 6 ∧ ∃ zs : List Int, cs = zs.map (.int .i64)) (fun n cs y h => by
    obtain ⟨e1, zs, e2, _⟩ := trod_ints (k := .i64) Try.underlying45 (by kernel_rfl) (by kernel_rfl) h
    exact ⟨by rw [e2]; simp [scalar], e1, zs, e2⟩) (hval 0 39 v0 rfl rfl) h0 (Lent.nil W)
  obtain ⟨acts, hv0⟩ := exists_acts l0 (fun r hr => (gd0 r hr).2)
  subst hv0
  have hLL := hL0
  refine (AC.callsH (args := [a0]) Try.func7 (by kernel_rfl) rfl hLL.rel hLL.own (.cons va0 .nil) rfl
    ((lawOrdinary acts a0 _ rd0).mono fun r H h => h.1)).mono fun e W' ⟨he, hg⟩ => ?_
  subst he
  exact ⟨_, rfl, post_of_below (pv := []) hW' (fun _ _ _ => trodAll_mk1 (shut_bool Try.underlying4 _)) (fun sp hsp => trodAll_below Try.laidOut hg (by kernel_rfl) hA1 hlt hsp) (fun _ _ => rfl) (List.append_nil _).symm
    hg (ok_one (by kernel_rfl) rfl (okWide_bool_mk Try.underlying4 _))⟩

theorem delayOrdinary_proved : Rows.DelayOrdinarySaid :=
  OpenClaim.holds_of_wide 7 Try.f7 rfl rfl rfl rfl rfl rfl rfl ⟨rfl, rfl, rfl, rfl, rfl⟩ rfl rfl rfl rfl rfl (by kernel_rfl) Try.func7 (by kernel_rfl)
    (of_decide_eq_true (by kernel_rfl)) (by unfold Func.isWrapper; first | (rw [if_pos (by decide +kernel)]; kernel_rfl) | (rw [if_neg (by decide +kernel)]; exact ⟨rfl, rfl⟩))
    (fun os started H enc _ => delayOrdinary_lifted os started H enc)
end Go.Proofs.Ytoikchnpflnehaa
