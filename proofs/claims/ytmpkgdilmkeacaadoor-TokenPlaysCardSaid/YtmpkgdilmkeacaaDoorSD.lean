/-
  Whatever is asked, the keeper and the one that makes each token anew answer alike.
-/
import Derived.Test.YtmpkgdilmkeacaaDoorSC
import Derived.Test.YtmpkgdilmkeacaaDoorAwC
import Derived.Test.YtmpkgdilmkeacaaDoorRows
import Derived.Test.YtmpkgdilmkeacaaDoorCards
import Derived.Test.YtmpkgdilmkeacaaDoorTie
import Derived.Deep.DeepHandedRow
import Derived.Stop.LaidErr
set_option linter.unusedVariables false
set_option maxRecDepth 100000
namespace Go.Proofs.YtmpkgdilmkeacaaDoor
open Go Go.Aw Go.Proofs
open Go.ChangeShapes Go.WideShapes Go.ChangeAt Go.RowKit Go.ChangeMaps
theorem Tryd.own : ownKnob Tryd.prog.godebug = none := by kernel_rfl
theorem Tryd.laidOut : laidOutB Tryd.prog = true := by kernel_rfl
def laySet (cs : Array Value) : Obj → Obj
  | .cells _ t frozen => .cells cs t frozen
  | o => o
noncomputable def laidWorld (os : Os) : World :=
  { World.holding Tryd.prog os ⟨#[], #[], []⟩ with heap := ((((World.holding Tryd.prog os ⟨#[], #[], []⟩).heap.modify 1 (laySet #[.int .u8 0, .int .u8 1, .int .u8 28, .int .u8 2, .int .u8 29, .int .u8 14, .int .u8 24, .int .u8 3, .int .u8 30, .int .u8 22, .int .u8 20, .int .u8 15, .int .u8 25, .int .u8 17, .int .u8 4, .int .u8 8, .int .u8 31, .int .u8 27, .int .u8 13, .int .u8 23, .int .u8 21, .int .u8 19, .int .u8 16, .int .u8 7, .int .u8 26, .int .u8 12, .int .u8 18, .int .u8 6, .int .u8 11, .int .u8 5, .int .u8 10, .int .u8 9])).modify 2 (laySet #[.int .u8 0, .int .u8 1, .int .u8 56, .int .u8 2, .int .u8 57, .int .u8 49, .int .u8 28, .int .u8 3, .int .u8 61, .int .u8 58, .int .u8 42, .int .u8 50, .int .u8 38, .int .u8 29, .int .u8 17, .int .u8 4, .int .u8 62, .int .u8 47, .int .u8 59, .int .u8 36, .int .u8 45, .int .u8 43, .int .u8 51, .int .u8 22, .int .u8 53, .int .u8 39, .int .u8 33, .int .u8 30, .int .u8 24, .int .u8 18, .int .u8 12, .int .u8 5, .int .u8 63, .int .u8 55, .int .u8 48, .int .u8 27, .int .u8 60, .int .u8 41, .int .u8 37, .int .u8 16, .int .u8 46, .int .u8 35, .int .u8 44, .int .u8 21, .int .u8 52, .int .u8 32, .int .u8 23, .int .u8 11, .int .u8 54, .int .u8 26, .int .u8 40, .int .u8 15, .int .u8 34, .int .u8 20, .int .u8 31, .int .u8 10, .int .u8 25, .int .u8 14, .int .u8 19, .int .u8 9, .int .u8 13, .int .u8 8, .int .u8 7, .int .u8 6])).modify 0 (laySet #[.int .u64 1, .int .u64 10, .int .u64 100, .int .u64 1000, .int .u64 10000, .int .u64 100000, .int .u64 1000000, .int .u64 10000000, .int .u64 100000000, .int .u64 1000000000, .int .u64 10000000000, .int .u64 100000000000, .int .u64 1000000000000, .int .u64 10000000000000, .int .u64 100000000000000, .int .u64 1000000000000000, .int .u64 10000000000000000, .int .u64 100000000000000000, .int .u64 1000000000000000000, .int .u64 10000000000000000000])) }
theorem laid_met (os : Os) : laidMet Tryd.prog Rows.tokenPlaysRow.laid ((laidWorld os).forCall (fun _ _ => 0) ⟨#[], #[.string (bs []), .int .i64 0, .int .i64 0, .slice none 0 0], []⟩).memory :=
  laidMet_of_run' 8 (by kernel_rfl) (by kernel_rfl)
theorem reads (os : Os) {H : Type} (enc : TypeId × Value → H) : ∃ places, DataW.whole enc Tryd.prog ((laidWorld os).forCall (fun _ _ => 0) ⟨#[], #[.string (bs []), .int .i64 0, .int .i64 0, .slice none 0 0], []⟩).memory Tryd.f6.params.toList Rows.tokenPlaysSpec.vars false (#[.string (bs []), .int .i64 0, .int .i64 0, .slice none 0 0] : Array Value).toList 8 = some ([.lit (.string []), .lit (.int .i64 0), .lit (.int .i64 0), .nil], [], places) :=
  ⟨[], by kernel_rfl⟩
theorem tabOf0 {W : World} (h : laidMet Tryd.prog Rows.tokenPlaysRow.laid W) : Lib.TabIs Tryd.prog W "internal/strconv.uint64pow10" .u64 [1, 10, 100, 1000, 10000, 100000, 1000000, 10000000, 100000000, 1000000000, 10000000000, 100000000000, 1000000000000, 10000000000000, 100000000000000, 1000000000000000, 10000000000000000, 100000000000000000, 1000000000000000000, 10000000000000000000] :=
  Lib.tabIs_of_head (by kernel_rfl : Tryd.prog.globalNamed "internal/strconv.uint64pow10" = some 0) (by kernel_rfl : (Tryd.prog.globals[0]?).map (·.type) = some 153) Tryd.underlying153 Tryd.underlying120 (by kernel_rfl) (by kernel_rfl) (laidMet.tail (laidMet.tail h))
theorem tokenPlays_lifted (os : Os) (started : os.Started) (H : Type) (enc : TypeId × Value → H) (F : Stop.Interp) :
    ReturnsInHanded {} Tryd.checked os 6 .any ((OpenSpec.ofChange Rows.tokenPlaysSpec).preRow enc Tryd.prog Tryd.f6 Rows.tokenPlaysRow.domain false Rows.tokenPlaysRow.laid) (((OpenSpec.ofChange Rows.tokenPlaysSpec).at F).post enc Tryd.prog Tryd.f6 false true false false) := by
  obtain ⟨places, hx⟩ := reads os enc
  refine returnsInHanded_of_row (C := Tryd.checked) (s := OpenSpec.ofChange Rows.tokenPlaysSpec) Tryd.own started (by kernel_rfl) Tryd.func6
    (witness_row_at (enc := enc) (C := Tryd.checked) false (laidWorld os) #[.string (bs []), .int .i64 0, .int .i64 0, .slice none 0 0] rfl (by kernel_rfl) (by kernel_rfl) (by kernel_rfl)
      (OpenSpec.preRow_of_cond 8 hx (by kernel_rfl) (fun k hk => by cases hk) (by kernel_rfl) (laid_met os))) ?_
  intro W base args ds gs before hval0 hW hcnd _ hsz hlaid _ _
  have hval : ∀ (j : Nat) t v, Tryd.f6.params[j]? = some t → args[j]? = some v → Value.okWide Tryd.prog W .any base t v := hval0
  have hW' := hW
  obtain ⟨p, q, hA0, hV, rfl, hfz, hnd⟩ := hW
  have hA : DataW.TrodAll enc Tryd.prog W 0 (fun _ => true) true Tryd.f6.params.toList args.toList ds p := hA0
  obtain ⟨rfl, rfl⟩ := trodVars_none hV
  simp only [List.append_nil] at hW'
  have hlt : ∀ x ∈ p, x.block < W.heap.size := fun x hx => hW'.lt x hx
  rw [Tryd.params6] at hA hval
  have hA1 := hA
  obtain ⟨v0, s1, d0, e1, p0, r1, ha1, rfl, rfl, h0, hA⟩ := trodAll_cons hA
  obtain ⟨v1, s2, d1, e2, p1, r2, rfl, rfl, rfl, h1, hA⟩ := trodAll_cons hA
  obtain ⟨v2, s3, d2, e3, p2, r3, rfl, rfl, rfl, h2, hA⟩ := trodAll_cons hA
  obtain ⟨v3, s4, d3, e4, p3, r4, rfl, rfl, rfl, h3, hA⟩ := trodAll_cons hA
  obtain ⟨rfl, rfl, rfl⟩ := trodAll_nil hA
  obtain ⟨l⟩ := args
  simp only at ha1
  subst ha1
  obtain ⟨sd, rfl, rfl, rfl, w0⟩ := open_string Tryd.underlying9 (hval 0 9 v0 rfl rfl) h0
  have z0 : sd.data.toList.length < 140737488355328 := strAt hsz (j := 0) rfl rfl
  obtain ⟨p, rfl, rfl, rfl, w1⟩ := open_int Tryd.underlying3 (hval 1 3 v1 rfl rfl) h1
  obtain ⟨m, rfl, rfl, rfl, w2⟩ := open_int Tryd.underlying3 (hval 2 3 v2 rfl rfl) h2
  have hl0 := Lent.nil W
  obtain ⟨cg0, eg0, hl1, lg0⟩ := hl0.tab (by kernel_rfl : Tryd.prog.globalNamed "internal/strconv.uint64pow10" = some 0) (by first | exact Nat.zero_le _ | simp) (tabOf0 hlaid)
  obtain ⟨l3, c3, X3, a3, gd3, hL3, le3, va3, rd3⟩ := lend_recsW (m := 8) (bnd := reachBytes) Tryd.underlying42 (by kernel_rfl) (by decide) (fun cs => Fits reachBytes [.i .i64, .i .i64, .i .i64, .s, .i .i64, .i .i64, .s, .s] cs) (fun n cs y h hw => by
    have hf : Fits reachBytes [.i .i64, .i .i64, .i .i64, .s, .i .i64, .i .i64, .s, .s] cs := trod_leafs 8 (t := 44) (by kernel_rfl) h hw
    exact ⟨Fits.scalar hf, hf⟩) (weightsAt hsz (j := 3) rfl rfl) (hval 3 42 v3 rfl rfl) h3 hl1
  obtain ⟨l, hv3⟩ := actsOf l3 (fun r hr => (gd3 r hr).2)
  subst hv3
  have hLL := hL3
  refine (AC.callsH (args := [.string sd, .int .i64 p, .int .i64 m, a3]) Tryd.func6 (by kernel_rfl) rfl hLL.rel hLL.own (.cons (.string _) (.cons (.int _ _) (.cons (.int _ _) (.cons va3 .nil)))) rfl
    ((lawPlaysR sd.data.toList p m l _ _ ⟨eg0, rfl⟩ rd3).mono fun r H h => h.1)).mono fun e W' ⟨he, hg⟩ => ?_
  subst he
  exact ⟨_, rfl, post_of_below (pv := []) hW' (fun _ _ _ => trodAll_mk1 (shut_bool Tryd.underlying4 _)) (fun sp hsp => trodAll_below Tryd.laidOut hg (by kernel_rfl) hA1 hlt hsp) (fun _ _ => rfl) (List.append_nil _).symm
    hg (ok_one (by kernel_rfl) rfl (okWide_bool_mk Tryd.underlying4 _))⟩

theorem tokenPlays_said : Rows.TokenPlaysSaid :=
  OpenClaim.holds_of_cond 6 Tryd.f6 rfl rfl rfl rfl rfl rfl rfl ⟨rfl, rfl, rfl, rfl, rfl⟩ rfl rfl rfl rfl rfl (by kernel_rfl) Tryd.func6 (by kernel_rfl)
    (of_decide_eq_true (by kernel_rfl)) (by unfold Func.isWrapper; first | (rw [if_pos (by decide +kernel)]; kernel_rfl) | (rw [if_neg (by decide +kernel)]; exact ⟨rfl, rfl⟩))
    (fun os started H enc _ F => by rw [OpenClaim.pre_eq_preRow]; exact tokenPlays_lifted os started H enc F)
theorem tokenPlays_plain (f : FuncId) (fn : Func) (hf : Tryd.pinned.checked.prog.funcNamed Rows.tokenPlaysRow.func = some f) (hfn : Tryd.pinned.checked.prog.funcs[f]? = some fn) :
    false = Tryd.pinned.checked.prog.looks [] ∧ ∀ (j : Nat) t, fn.params[j]? = some t → Tryd.pinned.checked.prog.wantsStandIn t = false := by
  obtain rfl : f = 6 := Option.some.inj ((show Tryd.prog.funcNamed Rows.tokenPlaysRow.func = some 6 by kernel_rfl).symm.trans hf) |>.symm
  obtain rfl : fn = Tryd.f6 := (Option.some.inj (Tryd.func6.symm.trans hfn)).symm
  refine ⟨by kernel_rfl, fun j t ht => ?_⟩
  rw [Tryd.params6] at ht
  have hall : ((#[9, 3, 3, 42] : Array TypeId).toList.all fun t => !Tryd.prog.wantsStandIn t) = true := by kernel_rfl
  have := List.all_eq_true.1 hall t (Array.mem_toList_iff.2 (Array.mem_of_getElem? ht))
  have h2 : Tryd.prog.wantsStandIn t = false := by simpa using this
  exact h2
theorem tokenPlays_proved : Rows.TokenPlaysCardSaid :=
  Claim7.holds_tied_plain_at .later [] _ _ _ _ tokenPlays_said (fun _ h => by cases h) (by kernel_rfl) (fun _ h => by cases h) tokenPlays_row_tie rfl ⟨rfl, rfl⟩ (by kernel_rfl) rfl tokenPlays_plain (by kernel_rfl)
end Go.Proofs.YtmpkgdilmkeacaaDoor
