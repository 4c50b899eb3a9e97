/-
 Count,Depth,Int,Text,List and Dict are those of the reference.
-/
import Derived.Test.YthcdjconlfdidaaGreatDoorVA
import Derived.Test.YthcdjconlfdidaaGreatDoorEVM
import Derived.Test.YthcdjconlfdidaaGreatDoorAwB
import Derived.Test.YthcdjconlfdidaaGreatDoorRows
import Derived.Test.YthcdjconlfdidaaGreatDoorCards
import Derived.Test.YthcdjconlfdidaaGreatDoorTie
import Derived.Deep.DeepHandedRow
import Derived.Stop.LaidErr
set_option linter.unusedVariables false
set_option maxRecDepth 100000
namespace Go.Proofs.YthcdjconlfdidaaGreatDoor
open Go Go.Aw Go.Proofs
open Go.ChangeShapes Go.WideShapes Go.ChangeAt Go.RowKit Go.ChangeMaps
theorem Tryz.own:ownKnob Tryz.prog.godebug=none:=by kernel_rfl
theorem Tryz.laidOut:laidOutB Tryz.prog=true:=by kernel_rfl
def laySet (cs:Array Value):Obj→Obj
 | .cells _ t frozen=> .cells cs t frozen
 |o=>o
noncomputable def low:Nat:=(World.holding Tryz.prog default ⟨#[],#[],[]⟩).heap.size
noncomputable def laidWorld (os:Os):World:=
 let w0:=World.holding Tryz.prog os ⟨#[.cells #[.string {data:= #[105,110,118,97,108,105,100,32,115,121,110,116,97,120]}] 139,.cells #[.string {data:= #[118,97,108,117,101,32,111,117,116,32,111,102,32,114,97,110,103,101]}] 139],#[],[]⟩
 {w0 with heap:=(((((w0.heap.modify 3 (laySet #[.int .u8 0,.int .u8 1,.int .u8 28,.int .u8 2,.int .u8 29,.int .u8 14,.int .u8 24,.int .u8 3,.int .u8 30,.int .u8 22,.int .u8 20,.int .u8 15,.int .u8 25,.int .u8 17,.int .u8 4,.int .u8 8,.int .u8 31,.int .u8 27,.int .u8 13,.int .u8 23,.int .u8 21,.int .u8 19,.int .u8 16,.int .u8 7,.int .u8 26,.int .u8 12,.int .u8 18,.int .u8 6,.int .u8 11,.int .u8 5,.int .u8 10,.int .u8 9])).modify 4 (laySet #[.int .u8 0,.int .u8 1,.int .u8 56,.int .u8 2,.int .u8 57,.int .u8 49,.int .u8 28,.int .u8 3,.int .u8 61,.int .u8 58,.int .u8 42,.int .u8 50,.int .u8 38,.int .u8 29,.int .u8 17,.int .u8 4,.int .u8 62,.int .u8 47,.int .u8 59,.int .u8 36,.int .u8 45,.int .u8 43,.int .u8 51,.int .u8 22,.int .u8 53,.int .u8 39,.int .u8 33,.int .u8 30,.int .u8 24,.int .u8 18,.int .u8 12,.int .u8 5,.int .u8 63,.int .u8 55,.int .u8 48,.int .u8 27,.int .u8 60,.int .u8 41,.int .u8 37,.int .u8 16,.int .u8 46,.int .u8 35,.int .u8 44,.int .u8 21,.int .u8 52,.int .u8 32,.int .u8 23,.int .u8 11,.int .u8 54,.int .u8 26,.int .u8 40,.int .u8 15,.int .u8 34,.int .u8 20,.int .u8 31,.int .u8 10,.int .u8 25,.int .u8 14,.int .u8 19,.int .u8 9,.int .u8 13,.int .u8 8,.int .u8 7,.int .u8 6])).modify 2 (laySet #[.int .u64 1,.int .u64 10,.int .u64 100,.int .u64 1000,.int .u64 10000,.int .u64 100000,.int .u64 1000000,.int .u64 10000000,.int .u64 100000000,.int .u64 1000000000,.int .u64 10000000000,.int .u64 100000000000,.int .u64 1000000000000,.int .u64 10000000000000,.int .u64 100000000000000,.int .u64 1000000000000000,.int .u64 10000000000000000,.int .u64 100000000000000000,.int .u64 1000000000000000000,.int .u64 10000000000000000000])).modify 0 (laySet #[.iface 137 (.pointer (some ⟨low,0,none⟩))])).modify 1 (laySet #[.iface 137 (.pointer (some ⟨low+1,0,none⟩))]))}
theorem laid_met (os:Os):laidMet Tryz.prog Rows.bencMakesRow.laid ((laidWorld os).forCall (fun _ _=>0) ⟨#[],#[.int .i64 0,.string (bs []),.slice none 0 0,.slice none 0 0],[]⟩).memory:=
 laidMet_of_run' 8 (by kernel_rfl) (by kernel_rfl)
theorem reads (os:Os) {H:Type} (enc:TypeId×Value→H):∃places,DataW.whole enc Tryz.prog ((laidWorld os).forCall (fun _ _=>0) ⟨#[],#[.int .i64 0,.string (bs []),.slice none 0 0,.slice none 0 0],[]⟩).memory Tryz.f3.params.toList Rows.bencMakesSpec.vars false (#[.int .i64 0,.string (bs []),.slice none 0 0,.slice none 0 0]:Array Value).toList 8=some ([.lit (.int .i64 0),.lit (.string []),.nil,.nil],[],places):=
 ⟨[],by kernel_rfl⟩
theorem tabOf2 {W:World} (h:laidMet Tryz.prog Rows.bencMakesRow.laid W):Lib.TabIs Tryz.prog W "internal/strconv.uint64pow10" .u64 [1,10,100,1000,10000,100000,1000000,10000000,100000000,1000000000,10000000000,100000000000,1000000000000,10000000000000,100000000000000,1000000000000000,10000000000000000,100000000000000000,1000000000000000000,10000000000000000000]:=
 Lib.tabIs_of_head (by kernel_rfl:Tryz.prog.globalNamed "internal/strconv.uint64pow10"=some 2) (by kernel_rfl:(Tryz.prog.globals[2]?).map (·.type)=some 129) Tryz.underlying129 Tryz.underlying67 (by kernel_rfl) (by kernel_rfl) (laidMet.tail (laidMet.tail h))
theorem star: "*"++ "errors.errorString"= "*errors.errorString":=by decide
theorem row137 (u:TypeId) (h:Tryz.prog.typeName? 3 u=some "*errors.errorString"):u=137:=
 typeName_ptr_named (nm:= "errors.errorString") (by rw [star];kernel_rfl) (by kernel_rfl) (by decide) u (by rw [star];exact h)
theorem sentinel {W:World} {g:Nat} {n:String} {text:List UInt8} {r:List (String×DataW Unit)} (h:laidMet Tryz.prog ((n,.iface "*errors.errorString" (.ptr (.agg [.lit (.string text)])))::r) W) (hg:Tryz.prog.globalNamed n=some g) (ht:(Tryz.prog.globals[g]?).map (·.type)=some 80):
  ∃(e:TypeId) (fr:Nat×Nat) (b o:Nat),W.heap[g]? =some (.cells #[.iface 137 (.pointer (some ⟨b,o,none⟩))] e fr):=by
 obtain ⟨a,s,hv,hc,_,_⟩:=laid_sentinel h hg ht Tryz.underlying80 row137 Tryz.underlying137 Tryz.underlying139 rfl rfl Tryz.underlying9 (by kernel_rfl) (by kernel_rfl)
 obtain ⟨b,o,sp⟩:=a
 have hsp:sp=none:=by
  unfold World.cell? at hc
  split at hc
  ·cases sp with
   |none=>rfl
   |some x=>simp at hc
  ·cases hc
 subst hsp
 unfold World.var? at hv
 rw [hg] at hv
 have hv':(match W.heap[g]? with|some (.cells cs _ _)=>some cs|_=>none)=some #[.iface 137 (.pointer (some ⟨b,o,none⟩))]:=hv
 split at hv'
 ·rename_i cs e fr hb
  have e1:=Option.some.inj hv'
  subst e1
  exact ⟨e,fr,b,o,hb⟩
 ·cases hv'
theorem bencMakes_lifted (os:Os) (started:os.Started) (H:Type) (enc:TypeId×Value→H) (F:Stop.Interp):
  ReturnsInHanded {} Tryz.checked os 3 .any ((OpenSpec.ofChange Rows.bencMakesSpec).preRow enc Tryz.prog Tryz.f3 Rows.bencMakesRow.domain false Rows.bencMakesRow.laid) (((OpenSpec.ofChange Rows.bencMakesSpec).at F).post enc Tryz.prog Tryz.f3 false true false false):=by
 obtain ⟨places,hx⟩:=reads os enc
 refine returnsInHanded_of_row (C:=Tryz.checked) (s:=OpenSpec.ofChange Rows.bencMakesSpec) Tryz.own started (by kernel_rfl) Tryz.func3
  (witness_row_at (enc:=enc) (C:=Tryz.checked) false (laidWorld os) #[.int .i64 0,.string (bs []),.slice none 0 0,.slice none 0 0] rfl (by kernel_rfl) (by kernel_rfl) (by kernel_rfl)
   (OpenSpec.preRow_of_cond 8 hx (by kernel_rfl) (fun k hk=>by cases hk) (by kernel_rfl) (laid_met os))) ?_
 intro W base args ds gs before hval0 hW hcnd _ hsz hlaid _ _
 have hval:∀(j:Nat) t v,Tryz.f3.params[j]? =some t→args[j]? =some v→Value.okWide Tryz.prog W .any base t v:=hval0
 have hW':=hW
 obtain ⟨p,q,hA0,hV,rfl,hfz,hnd⟩:=hW
 have hA:DataW.TrodAll enc Tryz.prog W 0 (fun _=>true) true Tryz.f3.params.toList args.toList ds p:=hA0
 obtain ⟨rfl,rfl⟩:=trodVars_none hV
 simp only [List.append_nil] at hW'
 have hlt:∀x∈p,x.block<W.heap.size:=fun x hx=>hW'.lt x hx
 rw [Tryz.params3] at hA hval
 have hA1:=hA
 obtain ⟨v0,s1,d0,e1,p0,r1,ha1,rfl,rfl,h0,hA⟩:=trodAll_cons hA
 obtain ⟨v1,s2,d1,e2,p1,r2,rfl,rfl,rfl,h1,hA⟩:=trodAll_cons hA
 obtain ⟨v2,s3,d2,e3,p2,r3,rfl,rfl,rfl,h2,hA⟩:=trodAll_cons hA
 obtain ⟨v3,s4,d3,e4,p3,r4,rfl,rfl,rfl,h3,hA⟩:=trodAll_cons hA
 obtain ⟨rfl,rfl,rfl⟩:=trodAll_nil hA
 obtain ⟨l⟩:=args
 simp only at ha1
 subst ha1
 obtain ⟨n,rfl,rfl,rfl,w0⟩:=open_int Tryz.underlying3 (hval 0 3 v0 rfl rfl) h0
 obtain ⟨s,rfl,rfl,rfl,w1⟩:=open_string Tryz.underlying9 (hval 1 9 v1 rfl rfl) h1
 have z1:s.data.toList.length<140737488355328:=strAt hsz (j:=1) rfl rfl
 have hl0:=Lent.nil W
 obtain ⟨e2,fr2,b2,o2,hb2⟩:=sentinel (laidMet.tail (laidMet.tail (laidMet.tail (laidMet.tail hlaid)))) (g:=0) (by kernel_rfl) (by kernel_rfl)
 obtain ⟨e3,fr3,b3,o3,hb3⟩:=sentinel (laidMet.tail (laidMet.tail (laidMet.tail hlaid))) (g:=1) (by kernel_rfl) (by kernel_rfl)
 have hl1:=hl0.name ⟨b2,o2,0,0,0⟩
 obtain ⟨c2,hl2,le2⟩:=hl1.glob (v:= .iface 137 (.pointer (some ⟨0,0,none⟩))) hb2 (.iface (.ptr (off:=0) (p:=⟨b2,o2,0,0,0⟩) (by simp [Ctx.add])))
 obtain ⟨c3,ee3,hl3,le3⟩:=hl2.tab (by kernel_rfl:Tryz.prog.globalNamed "internal/strconv.uint64pow10"=some 2) (Nat.le_refl _) (tabOf2 hlaid)
 have hl4:=hl3.name ⟨b3,o3,0,0,0⟩
 obtain ⟨c5,hl5,le5⟩:=hl4.glob (v:= .iface 137 (.pointer (some ⟨3,0,none⟩))) hb3 (.iface (.ptr (off:=0) (p:=⟨b3,o3,0,0,0⟩) (by simp [Ctx.add])))
 obtain ⟨keys,cV2,X2,ac2,hV2,leV2,rV2,rd2,pl2,pt2⟩:=open_texts rfl rfl rfl (hval 2 22 v2 rfl rfl) h2 (weightsAt hsz (j:=2) rfl rfl) hl5 rfl
 obtain ⟨l,cV3,X3,ac3,cs3,hV3,leV3,rV3,rk3,rl3,pl3,wd3,nm3⟩:=open_vals rfl rfl rfl (hval 3 23 v3 rfl rfl) h3 (weightsAt hsz (j:=3) rfl rfl) hV2 (by rw [hgetl (by simp)];rfl)
 have hLL:=hV3
 refine (AC.callsH (args:= [.int .i64 n,.string s,ac2,ac3]) Tryz.func3 (by kernel_rfl) rfl hLL.rel hLL.own (.cons (.int _ _) (.cons (.string _) (.cons (VRel.mono leV3 rV2) (.cons rV3 .nil)))) rfl
  ((lawMakes n s.data.toList keys l z1 (Nat.lt_of_le_of_lt pl2 reach_lt) (Nat.lt_of_le_of_lt pl3 reach_lt) wd3 nm3 _ (GlobB.more (GlobB.more ⟨⟨_,rfl⟩,⟨_,_,_,rfl⟩,⟨_,_,_,rfl⟩⟩ _) _) _ _ _ (rd2.kept (Kept.more _ _)) rk3 rl3).mono fun r H h=>h)).mono fun e W' ⟨he,hg⟩=> ?_
 subst he
 exact ⟨_,rfl,post_of_below (pv:=[]) hW' (fun _ _ _=>trodAll_mk1 (shut_bool Tryz.underlying4 _)) (fun sp hsp=>trodAll_below Tryz.laidOut hg (by kernel_rfl) hA1 hlt hsp) (fun _ _=>rfl) (List.append_nil _).symm
  hg (ok_one (by kernel_rfl) rfl (okWide_bool_mk Tryz.underlying4 _))⟩
theorem bencMakes_said:Rows.BencMakesSaid:=
 OpenClaim.holds_of_cond 3 Tryz.f3 rfl rfl rfl rfl rfl rfl rfl ⟨rfl,rfl,rfl,rfl,rfl⟩ rfl rfl rfl rfl rfl (by kernel_rfl) Tryz.func3 (by kernel_rfl)
  (of_decide_eq_true (by kernel_rfl)) (by unfold Func.isWrapper;first|(rw [if_pos (by decide+kernel)];kernel_rfl)|(rw [if_neg (by decide+kernel)];exact ⟨rfl,rfl⟩))
  (fun os started H enc _ F=>by rw [OpenClaim.pre_eq_preRow];exact bencMakes_lifted os started H enc F)
theorem bencMakes_plain (f:FuncId) (fn:Func) (hf:Tryz.pinned.checked.prog.funcNamed Rows.bencMakesRow.func=some f) (hfn:Tryz.pinned.checked.prog.funcs[f]? =some fn):
  true=Tryz.pinned.checked.prog.looks []∧∀(j:Nat) t,fn.params[j]? =some t→Tryz.pinned.checked.prog.wantsStandIn t=false:=by
 obtain rfl:f=3:=Option.some.inj ((show Tryz.prog.funcNamed Rows.bencMakesRow.func=some 3 by kernel_rfl).symm.trans hf) |>.symm
 obtain rfl:fn=Tryz.f3:=(Option.some.inj (Tryz.func3.symm.trans hfn)).symm
 refine ⟨by kernel_rfl,fun j t ht=> ?_⟩
 rw [Tryz.params3] at ht
 have hall:((#[3,9,22,23]:Array TypeId).toList.all fun t=> !Tryz.prog.wantsStandIn t)=true:=by kernel_rfl
 have:=List.all_eq_true.1 hall t (Array.mem_toList_iff.2 (Array.mem_of_getElem? ht))
 have h2:Tryz.prog.wantsStandIn t=false:=by simpa using this
 exact h2
theorem bencMakes_proved:Rows.BencMakesCardSaid:=
 Claim7.holds_tied_plain_at .later [] _ _ _ _ bencMakes_said (fun _ h=>by cases h) (by kernel_rfl) (fun _ h=>by cases h) bencMakes_row_tie rfl ⟨rfl,rfl⟩ (by kernel_rfl) rfl bencMakes_plain (by kernel_rfl)
end Go.Proofs.YthcdjconlfdidaaGreatDoor
