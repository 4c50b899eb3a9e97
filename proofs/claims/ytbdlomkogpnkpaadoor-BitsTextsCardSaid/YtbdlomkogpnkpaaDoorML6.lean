/-
  Text and Parse are those of the reference, and each undoes the other.
-/
import Derived.Test.YtbdlomkogpnkpaaDoorMX
import Derived.Test.YtbdlomkogpnkpaaDoorAwC
import Derived.Test.YtbdlomkogpnkpaaDoorRows
import Derived.Test.YtbdlomkogpnkpaaDoorCards
import Derived.Test.YtbdlomkogpnkpaaDoorTie
import Derived.Deep.DeepHandedRow
import Derived.Stop.LaidErr
set_option linter.unusedVariables false
set_option maxRecDepth 100000
namespace Go.Proofs.YtbdlomkogpnkpaaDoor
open Go Go.Aw Go.Proofs
open Go.ChangeShapes Go.WideShapes Go.ChangeAt Go.RowKit Go.ChangeMaps
theorem Tryd.own : ownKnob Tryd.prog.godebug = none := by kernel_rfl
theorem Tryd.laidOut : laidOutB Tryd.prog = true := by kernel_rfl
def laySet (cs : Array Value) : Obj → Obj
  | .cells _ t frozen => .cells cs t frozen
  | o => o
noncomputable def low : Nat := (World.holding Tryd.prog default ⟨#[], #[], []⟩).heap.size
noncomputable def laidWorld (os : Os) : World :=
  let w0 := World.holding Tryd.prog os ⟨#[.cells #[.string { data := #[105, 110, 118, 97, 108, 105, 100, 32, 115, 121, 110, 116, 97, 120] }] 148, .cells #[.string { data := #[118, 97, 108, 117, 101, 32, 111, 117, 116, 32, 111, 102, 32, 114, 97, 110, 103, 101] }] 148], #[], []⟩
  { w0 with heap := (((((((w0.heap.modify 6 (laySet #[.int .u8 0, .int .u8 1, .int .u8 28, .int .u8 2, .int .u8 29, .int .u8 14, .int .u8 24, .int .u8 3, .int .u8 30, .int .u8 22, .int .u8 20, .int .u8 15, .int .u8 25, .int .u8 17, .int .u8 4, .int .u8 8, .int .u8 31, .int .u8 27, .int .u8 13, .int .u8 23, .int .u8 21, .int .u8 19, .int .u8 16, .int .u8 7, .int .u8 26, .int .u8 12, .int .u8 18, .int .u8 6, .int .u8 11, .int .u8 5, .int .u8 10, .int .u8 9])).modify 7 (laySet #[.int .u8 0, .int .u8 1, .int .u8 56, .int .u8 2, .int .u8 57, .int .u8 49, .int .u8 28, .int .u8 3, .int .u8 61, .int .u8 58, .int .u8 42, .int .u8 50, .int .u8 38, .int .u8 29, .int .u8 17, .int .u8 4, .int .u8 62, .int .u8 47, .int .u8 59, .int .u8 36, .int .u8 45, .int .u8 43, .int .u8 51, .int .u8 22, .int .u8 53, .int .u8 39, .int .u8 33, .int .u8 30, .int .u8 24, .int .u8 18, .int .u8 12, .int .u8 5, .int .u8 63, .int .u8 55, .int .u8 48, .int .u8 27, .int .u8 60, .int .u8 41, .int .u8 37, .int .u8 16, .int .u8 46, .int .u8 35, .int .u8 44, .int .u8 21, .int .u8 52, .int .u8 32, .int .u8 23, .int .u8 11, .int .u8 54, .int .u8 26, .int .u8 40, .int .u8 15, .int .u8 34, .int .u8 20, .int .u8 31, .int .u8 10, .int .u8 25, .int .u8 14, .int .u8 19, .int .u8 9, .int .u8 13, .int .u8 8, .int .u8 7, .int .u8 6])).modify 1 (laySet #[.int .u64 1, .int .u64 10, .int .u64 100, .int .u64 1000, .int .u64 10000, .int .u64 100000, .int .u64 1000000, .int .u64 10000000, .int .u64 100000000, .int .u64 1000000000, .int .u64 10000000000, .int .u64 100000000000, .int .u64 1000000000000, .int .u64 10000000000000, .int .u64 100000000000000, .int .u64 1000000000000000, .int .u64 10000000000000000, .int .u64 100000000000000000, .int .u64 1000000000000000000, .int .u64 10000000000000000000])).modify 2 (laySet #[.iface 146 (.pointer (some ⟨low, 0, none⟩))])).modify 3 (laySet #[.iface 146 (.pointer (some ⟨low + 1, 0, none⟩))])).modify 4 (laySet (Go.Pinned.utf8FirstZ.map fun (z : Nat) => Value.int .u8 (z : Int)).toArray)).modify 5 (laySet #[.int .u8 128, .int .u8 191, .int .u8 160, .int .u8 191, .int .u8 128, .int .u8 159, .int .u8 144, .int .u8 191, .int .u8 128, .int .u8 143, .int .u8 0, .int .u8 0, .int .u8 0, .int .u8 0, .int .u8 0, .int .u8 0, .int .u8 0, .int .u8 0, .int .u8 0, .int .u8 0, .int .u8 0, .int .u8 0, .int .u8 0, .int .u8 0, .int .u8 0, .int .u8 0, .int .u8 0, .int .u8 0, .int .u8 0, .int .u8 0, .int .u8 0, .int .u8 0])) }
theorem laid_met (os : Os) : laidMet Tryd.prog Rows.bitsTextsRow.laid ((laidWorld os).forCall (fun _ _ => 0) ⟨#[], #[.int .i64 0, .string (bs []), .string (bs [])], []⟩).memory :=
  laidMet_of_run' 8 (by kernel_rfl) (by kernel_rfl)
theorem reads (os : Os) {H : Type} (enc : TypeId × Value → H) : ∃ places, DataW.whole enc Tryd.prog ((laidWorld os).forCall (fun _ _ => 0) ⟨#[], #[.int .i64 0, .string (bs []), .string (bs [])], []⟩).memory Tryd.f9.params.toList Rows.bitsTextsSpec.vars false (#[.int .i64 0, .string (bs []), .string (bs [])] : Array Value).toList 8 = some ([.lit (.int .i64 0), .lit (.string []), .lit (.string [])], [], places) :=
  ⟨[], by kernel_rfl⟩
theorem tabOf1 {W : World} (h : laidMet Tryd.prog Rows.bitsTextsRow.laid W) : Lib.TabIs Tryd.prog W "internal/strconv.uint64pow10" .u64 [1, 10, 100, 1000, 10000, 100000, 1000000, 10000000, 100000000, 1000000000, 10000000000, 100000000000, 1000000000000, 10000000000000, 100000000000000, 1000000000000000, 10000000000000000, 100000000000000000, 1000000000000000000, 10000000000000000000] :=
  Lib.tabIs_of_head (by kernel_rfl : Tryd.prog.globalNamed "internal/strconv.uint64pow10" = some 1) (by kernel_rfl : (Tryd.prog.globals[1]?).map (·.type) = some 127) Tryd.underlying127 Tryd.underlying107 (by kernel_rfl) (by kernel_rfl) (laidMet.tail (laidMet.tail h))
theorem star : "*" ++ "errors.errorString" = "*errors.errorString" := by decide
theorem row146 (u : TypeId) (h : Tryd.prog.typeName? 3 u = some "*errors.errorString") : u = 146 :=
  typeName_ptr_named (nm := "errors.errorString") (by rw [star]; kernel_rfl) (by kernel_rfl) (by decide) u (by rw [star]; exact h)
theorem sentinel {W : World} {g : Nat} {n : String} {text : List UInt8} {r : List (String × DataW Unit)} (h : laidMet Tryd.prog ((n, .iface "*errors.errorString" (.ptr (.agg [.lit (.string text)]))) :: r) W) (hg : Tryd.prog.globalNamed n = some g) (ht : (Tryd.prog.globals[g]?).map (·.type) = some 96) :
    ∃ (e : TypeId) (fr : Nat × Nat) (b o : Nat), W.heap[g]? = some (.cells #[.iface 146 (.pointer (some ⟨b, o, none⟩))] e fr) := by
  obtain ⟨a, s, hv, hc, _, _⟩ := laid_sentinel h hg ht Tryd.underlying96 row146 Tryd.underlying146 Tryd.underlying148 rfl rfl Tryd.underlying9 (by kernel_rfl) (by kernel_rfl)
  obtain ⟨b, o, sp⟩ := a
  have hsp : sp = none := by
    unfold World.cell? at hc
    split at hc
    · cases sp with
      | none => rfl
      | some x => simp at hc
    · cases hc
  subst hsp
  unfold World.var? at hv
  rw [hg] at hv
  have hv' : (match W.heap[g]? with | some (.cells cs _ _) => some cs | _ => none) = some #[.iface 146 (.pointer (some ⟨b, o, none⟩))] := hv
  split at hv'
  · rename_i cs e fr hb
    have e1 := Option.some.inj hv'
    subst e1
    exact ⟨e, fr, b, o, hb⟩
  · cases hv'
theorem bitsTexts_lifted (os : Os) (started : os.Started) (H : Type) (enc : TypeId × Value → H) (F : Stop.Interp) :
    ReturnsInHanded {} Tryd.checked os 9 .any ((OpenSpec.ofChange Rows.bitsTextsSpec).preRow enc Tryd.prog Tryd.f9 Rows.bitsTextsRow.domain false Rows.bitsTextsRow.laid) (((OpenSpec.ofChange Rows.bitsTextsSpec).at F).post enc Tryd.prog Tryd.f9 false true false false) := by
  obtain ⟨places, hx⟩ := reads os enc
  refine returnsInHanded_of_row (C := Tryd.checked) (s := OpenSpec.ofChange Rows.bitsTextsSpec) Tryd.own started (by kernel_rfl) Tryd.func9
    (witness_row_at (enc := enc) (C := Tryd.checked) false (laidWorld os) #[.int .i64 0, .string (bs []), .string (bs [])] rfl (by kernel_rfl) (by kernel_rfl) (by kernel_rfl)
      (OpenSpec.preRow_of_cond 8 hx (by kernel_rfl) (fun k hk => by cases hk) (by kernel_rfl) (laid_met os))) ?_
  intro W base args ds gs before hval0 hW hcnd _ hsz hlaid hshp _
  have hval : ∀ (j : Nat) t v, Tryd.f9.params[j]? = some t → args[j]? = some v → Value.okWide Tryd.prog W .any base t v := hval0
  have hW' := hW
  obtain ⟨p, q, hA0, hV, rfl, hfz, hnd⟩ := hW
  have hA : DataW.TrodAll enc Tryd.prog W 0 (fun _ => true) true Tryd.f9.params.toList args.toList ds p := hA0
  obtain ⟨rfl, rfl⟩ := trodVars_none hV
  simp only [List.append_nil] at hW'
  have hlt : ∀ x ∈ p, x.block < W.heap.size := fun x hx => hW'.lt x hx
  rw [Tryd.params9] at hA hval
  have hA1 := hA
  obtain ⟨v0, s1, d0, e1, p0, r1, ha1, rfl, rfl, h0, hA⟩ := trodAll_cons hA
  obtain ⟨v1, s2, d1, e2, p1, r2, rfl, rfl, rfl, h1, hA⟩ := trodAll_cons hA
  obtain ⟨v2, s3, d2, e3, p2, r3, rfl, rfl, rfl, h2, hA⟩ := trodAll_cons hA
  obtain ⟨rfl, rfl, rfl⟩ := trodAll_nil hA
  obtain ⟨l⟩ := args
  simp only at ha1
  subst ha1
  obtain ⟨n, rfl, rfl, rfl, w0⟩ := open_int Tryd.underlying3 (hval 0 3 v0 rfl rfl) h0
  obtain ⟨s, rfl, rfl, rfl, w1⟩ := open_string Tryd.underlying9 (hval 1 9 v1 rfl rfl) h1
  have z1 : s.data.toList.length < 140737488355328 := strAt hsz (j := 1) rfl rfl
  obtain ⟨t, rfl, rfl, rfl, w2⟩ := open_string Tryd.underlying9 (hval 2 9 v2 rfl rfl) h2
  have z2 : t.data.toList.length < 140737488355328 := strAt hsz (j := 2) rfl rfl
  have hl0 := Lent.nil W
  obtain ⟨e0, fr0, m0, hb0⟩ : ∃ e fr m, W.heap[0]? = some (.cells #[.int .i64 m] e fr) := by
    obtain ⟨cs, hh, hs, hr⟩ := hshp.1 0 #[.int .i64 0] 3 (of_decide_eq_true (by kernel_rfl)) (by kernel_rfl)
    obtain ⟨m, hm⟩ := Tryd.laysCut.s1_3 W hshp
    obtain ⟨arr, e, fr, h1, h2⟩ := glob_of_cell hm
    rw [show Tryd.laysCut_ren.g 1 = 0 from rfl] at h1
    rw [hh] at h1
    cases h1
    have hcs : cs = #[.int .i64 m] := by
      apply Array.ext
      · simpa using hs
      · intro i h3 h4
        have : i = 0 := by simp at h4; omega
        subst this
        have := (Array.getElem?_eq_some_iff.1 h2).2
        simpa using this
    subst hcs
    exact ⟨_, _, m, hh⟩
  obtain ⟨c0, hl1, le1⟩ := hl0.glob hb0 (.int .i64 m0)
  obtain ⟨c1, ee1, hl2, le2⟩ := hl1.tab (by kernel_rfl : Tryd.prog.globalNamed "internal/strconv.uint64pow10" = some 1) (Nat.le_refl _) (tabOf1 hlaid)
  obtain ⟨e2, fr2, b2, o2, hb2⟩ := sentinel (laidMet.tail (laidMet.tail (laidMet.tail (laidMet.tail (laidMet.tail hlaid))))) (g := 2) (by kernel_rfl) (by kernel_rfl)
  obtain ⟨e3, fr3, b3, o3, hb3⟩ := sentinel (laidMet.tail (laidMet.tail (laidMet.tail (laidMet.tail hlaid)))) (g := 3) (by kernel_rfl) (by kernel_rfl)
  have hl3 := hl2.name ⟨b2, o2, 0, 0, 0⟩
  obtain ⟨c3, hl4, le4⟩ := hl3.glob (v := .iface 146 (.pointer (some ⟨2, 0, none⟩))) hb2 (.iface (.ptr (off := 0) (p := ⟨b2, o2, 0, 0, 0⟩) (by simp [Ctx.add])))
  have hl5 := hl4.name ⟨b3, o3, 0, 0, 0⟩
  obtain ⟨c5, hl6, le6⟩ := hl5.glob (v := .iface 146 (.pointer (some ⟨4, 0, none⟩))) hb3 (.iface (.ptr (off := 0) (p := ⟨b3, o3, 0, 0, 0⟩) (by simp [Ctx.add])))
  have hLL := hl6
  refine (AC.callsH (args := [.int .i64 n, .string s, .string t]) Tryd.func9 (by kernel_rfl) rfl hLL.rel hLL.own (.cons (.int _ _) (.cons (.string _) (.cons (.string _) .nil))) rfl
    ((lawTexts n s.data.toList t.data.toList z1 z2 _ ⟨⟨_, _, rfl⟩, ⟨_, rfl⟩, ⟨_, _, _, rfl⟩, ⟨_, _, _, rfl⟩⟩).mono fun r H h => h.1)).mono fun e W' ⟨he, hg⟩ => ?_
  subst he
  exact ⟨_, rfl, post_of_below (pv := []) hW' (fun _ _ _ => trodAll_mk1 (shut_bool Tryd.underlying4 _)) (fun sp hsp => trodAll_below Tryd.laidOut hg (by kernel_rfl) hA1 hlt hsp) (fun _ _ => rfl) (List.append_nil _).symm
    hg (ok_one (by kernel_rfl) rfl (okWide_bool_mk Tryd.underlying4 _))⟩

theorem bitsTexts_said : Rows.BitsTextsSaid :=
  OpenClaim.holds_of_cond 9 Tryd.f9 rfl rfl rfl rfl rfl rfl rfl ⟨rfl, rfl, rfl, rfl, rfl⟩ rfl rfl rfl rfl rfl (by kernel_rfl) Tryd.func9 (by kernel_rfl)
    (of_decide_eq_true (by kernel_rfl)) (by unfold Func.isWrapper; first | (rw [if_pos (by decide +kernel)]; kernel_rfl) | (rw [if_neg (by decide +kernel)]; exact ⟨rfl, rfl⟩))
    (fun os started H enc _ F => by rw [OpenClaim.pre_eq_preRow]; exact bitsTexts_lifted os started H enc F)
theorem bitsTexts_plain (f : FuncId) (fn : Func) (hf : Tryd.pinned.checked.prog.funcNamed Rows.bitsTextsRow.func = some f) (hfn : Tryd.pinned.checked.prog.funcs[f]? = some fn) :
    true = Tryd.pinned.checked.prog.looks [] ∧ ∀ (j : Nat) t, fn.params[j]? = some t → Tryd.pinned.checked.prog.wantsStandIn t = false := by
  obtain rfl : f = 9 := Option.some.inj ((show Tryd.prog.funcNamed Rows.bitsTextsRow.func = some 9 by kernel_rfl).symm.trans hf) |>.symm
  obtain rfl : fn = Tryd.f9 := (Option.some.inj (Tryd.func9.symm.trans hfn)).symm
  refine ⟨by kernel_rfl, fun j t ht => ?_⟩
  rw [Tryd.params9] at ht
  have hall : ((#[3, 9, 9] : Array TypeId).toList.all fun t => !Tryd.prog.wantsStandIn t) = true := by kernel_rfl
  have := List.all_eq_true.1 hall t (Array.mem_toList_iff.2 (Array.mem_of_getElem? ht))
  have h2 : Tryd.prog.wantsStandIn t = false := by simpa using this
  exact h2
theorem bitsTexts_proved : Rows.BitsTextsCardSaid :=
  Claim7.holds_tied_plain_at .later [] _ _ _ _ bitsTexts_said (fun _ h => by cases h) (by kernel_rfl) (fun _ h => by cases h) bitsTexts_row_tie rfl ⟨rfl, rfl⟩ (by kernel_rfl) rfl bitsTexts_plain (by kernel_rfl)
end Go.Proofs.YtbdlomkogpnkpaaDoor
