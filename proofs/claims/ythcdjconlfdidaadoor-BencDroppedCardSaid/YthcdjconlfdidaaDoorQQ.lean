/-
 Drop of a key that Set added is the value before, and other keys stay.
-/
import Derived.Test.YthcdjconlfdidaaDoorQP
import Derived.Test.YthcdjconlfdidaaDoorEVM
import Derived.Test.YthcdjconlfdidaaDoorAwB
import Derived.Test.YthcdjconlfdidaaDoorRows
import Derived.Test.YthcdjconlfdidaaDoorCards
import Derived.Test.YthcdjconlfdidaaDoorTie
import Derived.Deep.DeepHandedRow
import Derived.Stop.LaidErr
set_option linter.unusedVariables false
set_option maxRecDepth 100000
namespace Go.Proofs.YthcdjconlfdidaaDoor
open Go Go.Aw Go.Proofs
open Go.ChangeShapes Go.WideShapes Go.ChangeAt Go.RowKit Go.ChangeMaps
theorem Tryd.own : ownKnob Tryd.prog.godebug = none := by kernel_rfl
theorem Tryd.laidOut : laidOutB Tryd.prog = true := by kernel_rfl
def laySet (cs : Array Value) : Obj → Obj
 | .cells _ t frozen => .cells cs t frozen
 | o => o
noncomputable def low : Nat := (World.holding Tryd.prog default ⟨#[], #[], []⟩).heap.size
noncomputable def laidWorld (os : Os) : World :=
 let w0 := World.holding Tryd.prog os ⟨#[.cells #[.string { data := #[105, 110, 118, 97, 108, 105, 100, 32, 115, 121, 110, 116, 97, 120] }] 146, .cells #[.string { data := #[118, 97, 108, 117, 101, 32, 111, 117, 116, 32, 111, 102, 32, 114, 97, 110, 103, 101] }] 146], #[], []⟩
 { w0 with heap := (((((w0.heap.modify 3 (laySet #[.int .u8 0, .int .u8 1, .int .u8 28, .int .u8 2, .int .u8 29, .int .u8 14, .int .u8 24, .int .u8 3, .int .u8 30, .int .u8 22, .int .u8 20, .int .u8 15, .int .u8 25, .int .u8 17, .int .u8 4, .int .u8 8, .int .u8 31, .int .u8 27, .int .u8 13, .int .u8 23, .int .u8 21, .int .u8 19, .int .u8 16, .int .u8 7, .int .u8 26, .int .u8 12, .int .u8 18, .int .u8 6, .int .u8 11, .int .u8 5, .int .u8 10, .int .u8 9])).modify 4 (laySet #[.int .u8 0, .int .u8 1, .int .u8 56, .int .u8 2, .int .u8 57, .int .u8 49, .int .u8 28, .int .u8 3, .int .u8 61, .int .u8 58, .int .u8 42, .int .u8 50, .int .u8 38, .int .u8 29, .int .u8 17, .int .u8 4, .int .u8 62, .int .u8 47, .int .u8 59, .int .u8 36, .int .u8 45, .int .u8 43, .int .u8 51, .int .u8 22, .int .u8 53, .int .u8 39, .int .u8 33, .int .u8 30, .int .u8 24, .int .u8 18, .int .u8 12, .int .u8 5, .int .u8 63, .int .u8 55, .int .u8 48, .int .u8 27, .int .u8 60, .int .u8 41, .int .u8 37, .int .u8 16, .int .u8 46, .int .u8 35, .int .u8 44, .int .u8 21, .int .u8 52, .int .u8 32, .int .u8 23, .int .u8 11, .int .u8 54, .int .u8 26, .int .u8 40, .int .u8 15, .int .u8 34, .int .u8 20, .int .u8 31, .int .u8 10, .int .u8 25, .int .u8 14, .int .u8 19, .int .u8 9, .int .u8 13, .int .u8 8, .int .u8 7, .int .u8 6])).modify 2 (laySet #[.int .u64 1, .int .u64 10, .int .u64 100, .int .u64 1000, .int .u64 10000, .int .u64 100000, .int .u64 1000000, .int .u64 10000000, .int .u64 100000000, .int .u64 1000000000, .int .u64 10000000000, .int .u64 100000000000, .int .u64 1000000000000, .int .u64 10000000000000, .int .u64 100000000000000, .int .u64 1000000000000000, .int .u64 10000000000000000, .int .u64 100000000000000000, .int .u64 1000000000000000000, .int .u64 10000000000000000000])).modify 0 (laySet #[.iface 144 (.pointer (some ⟨low, 0, none⟩))])).modify 1 (laySet #[.iface 144 (.pointer (some ⟨low + 1, 0, none⟩))])) }
theorem laid_met (os : Os) : laidMet Tryd.prog Rows.bencDroppedRow.laid ((laidWorld os).forCall (fun _ _ => 0) ⟨#[], #[.agg ⟨[.int .i64 0, .int .i64 0, .string (bs []), .slice none 0 0, .slice none 0 0]⟩, .slice none 0 0, .string (bs []), .agg ⟨[.int .i64 0, .int .i64 0, .string (bs []), .slice none 0 0, .slice none 0 0]⟩], []⟩).memory :=
 laidMet_of_run' 8 (by kernel_rfl) (by kernel_rfl)
theorem reads (os : Os) {H : Type} (enc : TypeId × Value → H) : ∃ places, DataW.whole enc Tryd.prog ((laidWorld os).forCall (fun _ _ => 0) ⟨#[], #[.agg ⟨[.int .i64 0, .int .i64 0, .string (bs []), .slice none 0 0, .slice none 0 0]⟩, .slice none 0 0, .string (bs []), .agg ⟨[.int .i64 0, .int .i64 0, .string (bs []), .slice none 0 0, .slice none 0 0]⟩], []⟩).memory Tryd.f7.params.toList Rows.bencDroppedSpec.vars false (#[.agg ⟨[.int .i64 0, .int .i64 0, .string (bs []), .slice none 0 0, .slice none 0 0]⟩, .slice none 0 0, .string (bs []), .agg ⟨[.int .i64 0, .int .i64 0, .string (bs []), .slice none 0 0, .slice none 0 0]⟩] : Array Value).toList 8 = some ([.agg [.lit (.int .i64 0), .lit (.int .i64 0), .lit (.string []), .nil, .nil], .nil, .lit (.string []), .agg [.lit (.int .i64 0), .lit (.int .i64 0), .lit (.string []), .nil, .nil]], [], places) :=
 ⟨[], by kernel_rfl⟩
theorem tabOf2 {W : World} (h : laidMet Tryd.prog Rows.bencDroppedRow.laid W) : Lib.TabIs Tryd.prog W "internal/strconv.uint64pow10" .u64 [1, 10, 100, 1000, 10000, 100000, 1000000, 10000000, 100000000, 1000000000, 10000000000, 100000000000, 1000000000000, 10000000000000, 100000000000000, 1000000000000000, 10000000000000000, 100000000000000000, 1000000000000000000, 10000000000000000000] :=
 Lib.tabIs_of_head (by kernel_rfl : Tryd.prog.globalNamed "internal/strconv.uint64pow10" = some 2) (by kernel_rfl : (Tryd.prog.globals[2]?).map (·.type) = some 138) Tryd.underlying138 Tryd.underlying107 (by kernel_rfl) (by kernel_rfl) (laidMet.tail (laidMet.tail h))
theorem star : "*" ++ "errors.errorString" = "*errors.errorString" := by decide
theorem row144 (u : TypeId) (h : Tryd.prog.typeName? 3 u = some "*errors.errorString") : u = 144 :=
 typeName_ptr_named (nm := "errors.errorString") (by rw [star]; kernel_rfl) (by kernel_rfl) (by decide) u (by rw [star]; exact h)
theorem sentinel {W : World} {g : Nat} {n : String} {text : List UInt8} {r : List (String × DataW Unit)} (h : laidMet Tryd.prog ((n, .iface "*errors.errorString" (.ptr (.agg [.lit (.string text)]))) :: r) W) (hg : Tryd.prog.globalNamed n = some g) (ht : (Tryd.prog.globals[g]?).map (·.type) = some 100) :
  ∃ (e : TypeId) (fr : Nat × Nat) (b o : Nat), W.heap[g]? = some (.cells #[.iface 144 (.pointer (some ⟨b, o, none⟩))] e fr) := by
 obtain ⟨a, s, hv, hc, _, _⟩ := laid_sentinel h hg ht Tryd.underlying100 row144 Tryd.underlying144 Tryd.underlying146 rfl rfl Tryd.underlying9 (by kernel_rfl) (by kernel_rfl)
 obtain ⟨b, o, sp⟩ := a
 have hsp : sp = none := by
  unfold World.cell? at hc
  split at hc
  ·cases sp with
   | none => rfl
   | some x => simp at hc
  ·cases hc
 subst hsp
 unfold World.var? at hv
 rw [hg] at hv
 have hv' : (match W.heap[g]? with | some (.cells cs _ _) => some cs | _ => none) = some #[.iface 144 (.pointer (some ⟨b, o, none⟩))] := hv
 split at hv'
 ·rename_i cs e fr hb
  have e1 := Option.some.inj hv'
  subst e1
  exact ⟨e, fr, b, o, hb⟩
 ·cases hv'
theorem bencDropped_lifted (os : Os) (started : os.Started) (H : Type) (enc : TypeId × Value → H) (F : Stop.Interp) :
  ReturnsInHanded {} Tryd.checked os 7 .any ((OpenSpec.ofChange Rows.bencDroppedSpec).preRow enc Tryd.prog Tryd.f7 Rows.bencDroppedRow.domain false Rows.bencDroppedRow.laid) (((OpenSpec.ofChange Rows.bencDroppedSpec).at F).post enc Tryd.prog Tryd.f7 false true false false) := by
 obtain ⟨places, hx⟩ := reads os enc
 refine returnsInHanded_of_row (C := Tryd.checked) (s := OpenSpec.ofChange Rows.bencDroppedSpec) Tryd.own started (by kernel_rfl) Tryd.func7
  (witness_row_at (enc := enc) (C := Tryd.checked) false (laidWorld os) #[.agg ⟨[.int .i64 0, .int .i64 0, .string (bs []), .slice none 0 0, .slice none 0 0]⟩, .slice none 0 0, .string (bs []), .agg ⟨[.int .i64 0, .int .i64 0, .string (bs []), .slice none 0 0, .slice none 0 0]⟩] rfl (by kernel_rfl) (by kernel_rfl) (by kernel_rfl)
   (OpenSpec.preRow_of_cond 8 hx (by kernel_rfl) (fun k hk => by cases hk) (by kernel_rfl) (laid_met os))) ?_
 intro W base args ds gs before hval0 hW hcnd _ hsz hlaid _ _
 have hval : ∀ (j : Nat) t v, Tryd.f7.params[j]? = some t → args[j]? = some v → Value.okWide Tryd.prog W .any base t v := hval0
 have hW' := hW
 obtain ⟨p, q, hA0, hV, rfl, hfz, hnd⟩ := hW
 have hA : DataW.TrodAll enc Tryd.prog W 0 (fun _ => true) true Tryd.f7.params.toList args.toList ds p := hA0
 obtain ⟨rfl, rfl⟩ := trodVars_none hV
 simp only [List.append_nil] at hW'
 have hlt : ∀ x ∈ p, x.block < W.heap.size := fun x hx => hW'.lt x hx
 rw [Tryd.params7] at hA hval
 have hA1 := hA
 obtain ⟨v0, s1, d0, e1, p0, r1, ha1, rfl, rfl, h0, hA⟩ := trodAll_cons hA
 obtain ⟨v1, s2, d1, e2, p1, r2, rfl, rfl, rfl, h1, hA⟩ := trodAll_cons hA
 obtain ⟨v2, s3, d2, e3, p2, r3, rfl, rfl, rfl, h2, hA⟩ := trodAll_cons hA
 obtain ⟨v3, s4, d3, e4, p3, r4, rfl, rfl, rfl, h3, hA⟩ := trodAll_cons hA
 obtain ⟨rfl, rfl, rfl⟩ := trodAll_nil hA
 obtain ⟨l⟩ := args
 simp only at ha1
 subst ha1
 obtain ⟨key, rfl, rfl, rfl, w2⟩ := open_string Tryd.underlying9 (hval 2 9 v2 rfl rfl) h2
 have z2 : key.data.toList.length < 140737488355328 := strAt hsz (j := 2) rfl rfl
 have hl0 := Lent.nil W
 obtain ⟨e2, fr2, b2, o2, hb2⟩ := sentinel (laidMet.tail (laidMet.tail (laidMet.tail (laidMet.tail hlaid)))) (g := 0) (by kernel_rfl) (by kernel_rfl)
 obtain ⟨e3, fr3, b3, o3, hb3⟩ := sentinel (laidMet.tail (laidMet.tail (laidMet.tail hlaid))) (g := 1) (by kernel_rfl) (by kernel_rfl)
 have hl1 := hl0.name ⟨b2, o2, 0, 0, 0⟩
 obtain ⟨c2, hl2, le2⟩ := hl1.glob (v := .iface 144 (.pointer (some ⟨0, 0, none⟩))) hb2 (.iface (.ptr (off := 0) (p := ⟨b2, o2, 0, 0, 0⟩) (by simp [Ctx.add])))
 obtain ⟨c3, ee3, hl3, le3⟩ := hl2.tab (by kernel_rfl : Tryd.prog.globalNamed "internal/strconv.uint64pow10" = some 2) (Nat.le_refl _) (tabOf2 hlaid)
 have hl4 := hl3.name ⟨b3, o3, 0, 0, 0⟩
 obtain ⟨c5, hl5, le5⟩ := hl4.glob (v := .iface 144 (.pointer (some ⟨3, 0, none⟩))) hb3 (.iface (.ptr (off := 0) (p := ⟨b3, o3, 0, 0, 0⟩) (by simp [Ctx.add])))
 obtain ⟨v, cV0, X0, cs0, ac0, rfl, hV0, leV0, rV0, rd0⟩ := open_val rfl rfl rfl (hval 0 26 v0 rfl rfl) h0 (weightsAt hsz (j := 0) rfl rfl) hl5 rfl
 obtain ⟨path, cV1, X1, ac1, hV1, leV1, rV1, rd1, pl1, pt1⟩ := open_texts rfl rfl rfl (hval 1 24 v1 rfl rfl) h1 (weightsAt hsz (j := 1) rfl rfl) hV0 (by rw [hgetl (by simp)]; rfl)
 obtain ⟨w, cV3, X3, cs3, ac3, rfl, hV3, leV3, rV3, rd3⟩ := open_val rfl rfl rfl (hval 3 26 v3 rfl rfl) h3 (weightsAt hsz (j := 3) rfl rfl) hV1 (by rw [hgetl (lt_of_get (by rw [hgetl (by simp)]; rfl))]; exact (by rw [hgetl (by simp)]; rfl))
 have hLL := hV3
 refine (AC.callsH (args := [.agg ⟨ac0⟩, ac1, .string key, .agg ⟨ac3⟩]) Tryd.func7 (by kernel_rfl) rfl hLL.rel hLL.own (.cons (VRel.mono leV3 (VRel.mono leV1 rV0)) (.cons (VRel.mono leV3 rV1) (.cons (.string _) (.cons rV3 .nil)))) rfl
  ((lawDropped v w path key.data.toList rd0.2.1 rd3.2.1 rd0.2.2 rd3.2.2 (Nat.lt_of_le_of_lt pl1 reach_lt) z2 _ (GlobB.more (GlobB.more (GlobB.more ⟨⟨_, rfl⟩, ⟨_, _, _, rfl⟩, ⟨_, _, _, rfl⟩⟩ _) _) _) _ _ ((rd0.1.kept (Kept.more _ _)).kept (Kept.more _ _)) rd3.1 _ (rd1.kept (Kept.more _ _))).mono fun r H h => h)).mono fun e W' ⟨he, hg⟩ => ?_
 subst he
 exact ⟨_, rfl, post_of_below (pv := []) hW' (fun _ _ _ => trodAll_mk1 (shut_bool Tryd.underlying4 _)) (fun sp hsp => trodAll_below Tryd.laidOut hg (by kernel_rfl) hA1 hlt hsp) (fun _ _ => rfl) (List.append_nil _).symm
  hg (ok_one (by kernel_rfl) rfl (okWide_bool_mk Tryd.underlying4 _))⟩

theorem bencDropped_said : Rows.BencDroppedSaid :=
 OpenClaim.holds_of_cond 7 Tryd.f7 rfl rfl rfl rfl rfl rfl rfl ⟨rfl, rfl, rfl, rfl, rfl⟩ rfl rfl rfl rfl rfl (by kernel_rfl) Tryd.func7 (by kernel_rfl)
  (of_decide_eq_true (by kernel_rfl)) (by unfold Func.isWrapper; first | (rw [if_pos (by decide +kernel)]; kernel_rfl) | (rw [if_neg (by decide +kernel)]; exact ⟨rfl, rfl⟩))
  (fun os started H enc _ F => by rw [OpenClaim.pre_eq_preRow]; exact bencDropped_lifted os started H enc F)
theorem bencDropped_plain (f : FuncId) (fn : Func) (hf : Tryd.pinned.checked.prog.funcNamed Rows.bencDroppedRow.func = some f) (hfn : Tryd.pinned.checked.prog.funcs[f]? = some fn) :
  true = Tryd.pinned.checked.prog.looks [] ∧ ∀ (j : Nat) t, fn.params[j]? = some t → Tryd.pinned.checked.prog.wantsStandIn t = false := by
 obtain rfl : f = 7 := Option.some.inj ((show Tryd.prog.funcNamed Rows.bencDroppedRow.func = some 7 by kernel_rfl).symm.trans hf) |>.symm
 obtain rfl : fn = Tryd.f7 := (Option.some.inj (Tryd.func7.symm.trans hfn)).symm
 refine ⟨by kernel_rfl, fun j t ht => ?_⟩
 rw [Tryd.params7] at ht
 have hall : ((#[26, 24, 9, 26] : Array TypeId).toList.all fun t => !Tryd.prog.wantsStandIn t) = true := by kernel_rfl
 have := List.all_eq_true.1 hall t (Array.mem_toList_iff.2 (Array.mem_of_getElem? ht))
 have h2 : Tryd.prog.wantsStandIn t = false := by simpa using this
 exact h2
theorem bencDropped_proved : Rows.BencDroppedCardSaid :=
 Claim7.holds_tied_plain_at .later [] _ _ _ _ bencDropped_said (fun _ h => by cases h) (by kernel_rfl) (fun _ h => by cases h) bencDropped_row_tie rfl ⟨rfl, rfl⟩ (by kernel_rfl) rfl bencDropped_plain (by kernel_rfl)
end Go.Proofs.YthcdjconlfdidaaDoor

