/-
 If packets arrive again,all that was written is read at last,and both ends close when both were closed;no end is reset where nothing was lost.
-/
import Derived.Test.Ytdgmcckfdgnicaaj9M
import Derived.Test.YtdgmcckfdgnicaaAwB
import Derived.Test.YtdgmcckfdgnicaaRows
set_option linter.unusedVariables false
set_option maxRecDepth 100000
namespace Go.Proofs.Ytdgmcckfdgnicaa
open Go Go.Aw Go.Proofs
open Go.ChangeShapes Go.WideShapes Go.ChangeAt Go.RowKit Go.ChangeMaps
theorem Try.own:ownKnob Try.prog.godebug=none:=by kernel_rfl
theorem Try.laidOut:laidOutB Try.prog=true:=by kernel_rfl
theorem flowAll_lifted (os:Os) (started:os.Started) (H:Type) (enc:TypeId×Value→H):
  ReturnsInHanded {} Try.checked os 7 .any (Rows.flowAllSpec.pre6 enc Try.prog Try.f7 Rows.flowAllRow.domain false) (Rows.flowAllSpec.post enc Try.prog Try.f7 false true false false):=by
 refine returnsInHanded_of_change_sized (C:=Try.checked) Try.own started (by kernel_rfl) Try.func7
  (ChangeSpec.witness6 (enc:=enc) (C:=Try.checked) false ⟨#[],#[.int .i64 0,.int .i64 0,.int .i64 0,.int .i64 0,.int .i64 0,.int .i64 0,.slice none 0 0],[]⟩ 8 (by kernel_rfl) (by kernel_rfl) (by kernel_rfl) (by kernel_rfl)) ?_
 intro W base args ds gs before hval0 hW hcnd hsz _
 have hval:∀(j:Nat) t v,Try.f7.params[j]? =some t→args[j]? =some v→Value.okWide Try.prog W .any base t v:=hval0
 have hW':=hW
 obtain ⟨p,q,hA0,hV,rfl,hfz,hnd⟩:=hW
 have hA:DataW.TrodAll enc Try.prog W 0 (fun _=>true) true Try.f7.params.toList args.toList ds p:=hA0
 obtain ⟨rfl,rfl⟩:=trodVars_none hV
 simp only [List.append_nil] at hW'
 have hlt:∀x∈p,x.block<W.heap.size:=fun x hx=>hW'.lt x hx
 rw [Try.params7] at hA hval
 have hA1:=hA
 obtain ⟨v0,s1,d0,e1,p0,r1,ha1,rfl,rfl,h0,hA⟩:=trodAll_cons hA
 obtain ⟨v1,s2,d1,e2,p1,r2,rfl,rfl,rfl,h1,hA⟩:=trodAll_cons hA
 obtain ⟨v2,s3,d2,e3,p2,r3,rfl,rfl,rfl,h2,hA⟩:=trodAll_cons hA
 obtain ⟨v3,s4,d3,e4,p3,r4,rfl,rfl,rfl,h3,hA⟩:=trodAll_cons hA
 obtain ⟨v4,s5,d4,e5,p4,r5,rfl,rfl,rfl,h4,hA⟩:=trodAll_cons hA
 obtain ⟨v5,s6,d5,e6,p5,r6,rfl,rfl,rfl,h5,hA⟩:=trodAll_cons hA
 obtain ⟨v6,s7,d6,e7,p6,r7,rfl,rfl,rfl,h6,hA⟩:=trodAll_cons hA
 obtain ⟨rfl,rfl,rfl⟩:=trodAll_nil hA
 obtain ⟨l⟩:=args
 simp only at ha1
 subst ha1
 obtain ⟨conn,rfl,rfl,rfl,w0⟩:=open_int Try.underlying3 (hval 0 3 v0 rfl rfl) h0
 obtain ⟨first,rfl,rfl,rfl,w1⟩:=open_int Try.underlying3 (hval 1 3 v1 rfl rfl) h1
 obtain ⟨other,rfl,rfl,rfl,w2⟩:=open_int Try.underlying3 (hval 2 3 v2 rfl rfl) h2
 obtain ⟨room,rfl,rfl,rfl,w3⟩:=open_int Try.underlying3 (hval 3 3 v3 rfl rfl) h3
 obtain ⟨limit,rfl,rfl,rfl,w4⟩:=open_int Try.underlying3 (hval 4 3 v4 rfl rfl) h4
 obtain ⟨body,rfl,rfl,rfl,w5⟩:=open_int Try.underlying3 (hval 5 3 v5 rfl rfl) h5
 obtain ⟨l6,c6,X6,a6,gd6,hL6,le6,va6,rd6⟩:=lend_recsW (m:=5) (bnd:=reachBytes) Try.underlying49 (by kernel_rfl) (by decide) (fun cs=>Fits reachBytes [.i .i64,.i .i64,.i .i64,.i .i64,.s] cs) (fun n cs y h hw=>by
  have hf:Fits reachBytes [.i .i64,.i .i64,.i .i64,.i .i64,.s] cs:=trod_leafs 8 (t:=51) (by kernel_rfl) h hw
  exact ⟨Fits.scalar hf,hf⟩) (weightsAt hsz (j:=6) rfl rfl) (hval 6 49 v6 rfl rfl) h6 (Lent.nil W)
 obtain ⟨l,hv6,hw6⟩:=acsOf l6 (fun r hr=>(gd6 r hr).2)
 subst hv6
 have hLL:=hL6
 refine (AC.callsH (args:= [.int .i64 conn,.int .i64 first,.int .i64 other,.int .i64 room,.int .i64 limit,.int .i64 body,a6]) Try.func7 (by kernel_rfl) rfl hLL.rel hLL.own (.cons (.int _ _) (.cons (.int _ _) (.cons (.int _ _) (.cons (.int _ _) (.cons (.int _ _) (.cons (.int _ _) (.cons va6 .nil))))))) rfl
  (((lawAll conn first other room limit body l (fun x hx=>⟨(hw6 x hx).1,(hw6 x hx).2⟩) _ _ rd6).mono fun r H h=>(⟨h,trivial⟩:r= .ret (.bool true)∧True)).mono fun r H h=>h.1)).mono fun e W' ⟨he,hg⟩=> ?_
 subst he
 exact ⟨_,rfl,post_of_below (pv:=[]) hW' (fun _ _ _=>trodAll_mk1 (shut_bool Try.underlying4 _)) (fun sp hsp=>trodAll_below Try.laidOut hg (by kernel_rfl) hA1 hlt hsp) (fun _ _=>rfl) (List.append_nil _).symm
  hg (ok_one (by kernel_rfl) rfl (okWide_bool_mk Try.underlying4 _))⟩
theorem flowAll_proved:Rows.FlowAllSaid:=
 OpenClaim.holds_of_wide 7 Try.f7 rfl rfl rfl rfl rfl rfl rfl ⟨rfl,rfl,rfl,rfl,rfl⟩ rfl rfl rfl rfl rfl (by kernel_rfl) Try.func7 (by kernel_rfl)
  (of_decide_eq_true (by kernel_rfl)) (by unfold Func.isWrapper;first|(rw [if_pos (by decide+kernel)];kernel_rfl)|(rw [if_neg (by decide+kernel)];exact ⟨rfl,rfl⟩))
  (fun os started H enc _=>flowAll_lifted os started H enc)
end Go.Proofs.Ytdgmcckfdgnicaa
