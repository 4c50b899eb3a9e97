/-
 The walks of Count and Depth,of the program and of the specification.
-/
import Derived.Test.YthcdjconlfdidaaGreatDoorV4
import Derived.Test.YthcdjconlfdidaaGreatDoorEJM
set_option linter.unusedVariables false
set_option linter.unusedSimpArgs false
set_option maxRecDepth 20000
set_option maxHeartbeats 4000000
namespace Go.Proofs.YthcdjconlfdidaaGreatDoor
open Go Go.Aw Go.Proofs
def countR (v:BV):Nat×Int:=if v.valid=true then (v.count,0) else (0,1)
def depthR (v:BV):Nat×Int:=if v.valid=true then (v.depth,0) else (0,1)
def CntP (H:AHeap) (R:Nat×Int) (r:ARes) (H2:AHeap):Prop:=r= .ret (.tuple ⟨[.int .i64 (R.1:Nat),.int .i64 R.2]⟩)∧Frm [] H H2
theorem count_ (v:BV) (h:Fine v) (H:AHeap) (cs:List Value) (hR:RdV H v cs) (hT:TabH H):AC Tryz.prog 17 [.agg ⟨cs⟩] H (CntP H (countR v)):=by
 have hfl:=RdV_flat hR
 have hr5:=hR.len
 have htk5:List.take 5 cs=cs:=List.take_of_length_le (by omega)
 obtain ⟨H1,hH1⟩:∃H1:AHeap,H1=H++ [.cells cs ⟨27,0,true,0,none⟩,.cells [.int .i64 0,.int .i64 0] ⟨54,0,true,0,none⟩]:=⟨_,rfl⟩
 have hb0:H1[H.length]? =some (.cells cs ⟨27,0,true,0,none⟩):=by rw [hH1,hget0 rfl];rfl
 have hb1:H1[H.length+1]? =some (szO 0 0):=by rw [hH1,hgetk rfl];rfl
 have hf1:Frm [] H H1:=by rw [hH1];exact Frm.app
 have hX:=fits_0 v h.sz h.nums h.len (H.length+1) H1 cs hb1 (by rw [hH1];exact hR.kept (.more _ _)) (by rw [hH1];exact hT.more _)
 have hv:=fitV_iff v 12 0 0
 have hv2:=fit_valid v
 unfold countR
 refine AC.enter Tryz.func17 rfl (by kernel_rfl) 10 rfl [.tmp 2,.tmp 3] rfl (by simp) fun hsc B=> ?_
 repeat first|with_reducible refine kc ?_|((with_reducible first|refine kr ?_ ?_|refine kt ?_ ?_);exact rfl)|((with_reducible refine kf ?_ ?_);exact rfl)|simp only [go_sem,sevalprocAttr,reduceCtorEq,hfl,hr5]|simp (disch:=omega) only [wz]
 rw [← hH1]
 repeat first|with_reducible refine kc ?_|((with_reducible first|refine kr ?_ ?_|refine kt ?_ ?_);exact rfl)|((with_reducible refine kf ?_ ?_);exact rfl)|simp only [go_sem,sevalprocAttr,reduceCtorEq,hb0,htk5,hr5]|simp (disch:=omega) only [wz]
 refine AC.mono hX ?_
 intro res H2 hP
 cases hfv:fitV 12 0 0 v with
 |none=>
  rw [hfv] at hP hv2
  obtain ⟨rfl,hf2⟩:=hP
  rw [← hv2]
  repeat first|with_reducible refine kc ?_|((with_reducible first|refine kr ?_ ?_|refine kt ?_ ?_);exact rfl)|((with_reducible refine kf ?_ ?_);exact rfl)|simp only [go_sem,sevalprocAttr,reduceCtorEq]|simp (disch:=omega) only [wz]
  exact ⟨_,_,.refl _ _ _,rfl,hf1.trans hf2 (fun x hx=>by rw [List.mem_singleton.1 hx];exact .inr (by omega))⟩
 | some cb=>
  obtain ⟨c,b⟩:=cb
  rw [hfv] at hP hv2
  obtain ⟨rfl,hb2,hf2⟩:=hP
  unfold szO at hb2
  have hc:c=v.count:=by
   rw [hfv] at hv
   split at hv
   ·have:=Option.some.inj hv
    have:=congrArg Prod.fst this
    simpa using this
   ·cases hv
  have hv3:v.valid=true:=hv2.symm
  rw [if_pos hv3,←hc]
  repeat first|with_reducible refine kc ?_|((with_reducible first|refine kr ?_ ?_|refine kt ?_ ?_);exact rfl)|((with_reducible refine kf ?_ ?_);exact rfl)|simp only [go_sem,sevalprocAttr,reduceCtorEq,hb2]|simp (disch:=omega) only [wz]
  exact ⟨_,_,.refl _ _ _,rfl,hf1.trans hf2 (fun x hx=>by rw [List.mem_singleton.1 hx];exact .inr (by omega))⟩
theorem rCount_ (v:BV) (h:Fine v) (hc:v.count≤1099511627776) (H:AHeap) (cs:List Value) (hR:RdV H v cs):AC Tryz.prog 18 [.agg ⟨cs⟩] H (CntP H (countR v)):=by
 have hfl:=RdV_flat hR
 have hr5:=hR.len
 have htk5:List.take 5 cs=cs:=List.take_of_length_le (by omega)
 obtain ⟨H1,hH1⟩:∃H1:AHeap,H1=H++ [.cells cs ⟨27,0,true,0,none⟩]:=⟨_,rfl⟩
 have hb0:H1[H.length]? =some (.cells cs ⟨27,0,true,0,none⟩):=by rw [hH1,hget0 rfl];rfl
 have hf1:Frm [] H H1:=by rw [hH1];exact Frm.app
 have hR1:RdV H1 v cs:=by rw [hH1];exact hR.kept (.more _ _)
 have hV:=rValid v h hc H1 cs hR1
 unfold countR
 refine AC.enter Tryz.func18 rfl (by kernel_rfl) 9 rfl [.tmp 2,.tmp 3] rfl (by simp) fun hsc B=> ?_
 repeat first|with_reducible refine kc ?_|((with_reducible first|refine kr ?_ ?_|refine kt ?_ ?_);exact rfl)|((with_reducible refine kf ?_ ?_);exact rfl)|simp only [go_sem,sevalprocAttr,reduceCtorEq,hfl,hr5]|simp (disch:=omega) only [wz]
 rw [← hH1]
 repeat first|with_reducible refine kc ?_|((with_reducible first|refine kr ?_ ?_|refine kt ?_ ?_);exact rfl)|((with_reducible refine kf ?_ ?_);exact rfl)|simp only [go_sem,sevalprocAttr,reduceCtorEq,hb0,htk5,hr5]|simp (disch:=omega) only [wz]
 refine AC.mono hV ?_
 rintro res H2 ⟨rfl,hf2⟩
 have hb2:=hf2.get hb0 (by simp)
 have hf02:=hf1.trans hf2 (fun x hx=>by cases hx)
 cases hvv:v.valid with
 |false=>
  repeat first|with_reducible refine kc ?_|((with_reducible first|refine kr ?_ ?_|refine kt ?_ ?_);exact rfl)|((with_reducible refine kf ?_ ?_);exact rfl)|simp only [go_sem,sevalprocAttr,reduceCtorEq]|simp (disch:=omega) only [wz]
  exact ⟨_,_,.refl _ _ _,rfl,hf02⟩
 |true=>
  have hC:=rCount v hc H2 cs (hR1.kept (Kept.frm hf2 (fun x hx=>by cases hx)))
  repeat first|with_reducible refine kc ?_|((with_reducible first|refine kr ?_ ?_|refine kt ?_ ?_);exact rfl)|((with_reducible refine kf ?_ ?_);exact rfl)|simp only [go_sem,sevalprocAttr,reduceCtorEq,hb2,htk5,hr5]|simp (disch:=omega) only [wz]
  refine AC.mono hC ?_
  rintro res H3 ⟨rfl,hf3⟩
  repeat first|with_reducible refine kc ?_|((with_reducible first|refine kr ?_ ?_|refine kt ?_ ?_);exact rfl)|((with_reducible refine kf ?_ ?_);exact rfl)|simp only [go_sem,sevalprocAttr,reduceCtorEq]|simp (disch:=omega) only [wz]
  exact ⟨_,_,.refl _ _ _,rfl,hf02.trans hf3 (fun x hx=>by cases hx)⟩
theorem rDepth_ (v:BV) (h:Fine v) (hc:v.count≤1099511627776) (H:AHeap) (cs:List Value) (hR:RdV H v cs):AC Tryz.prog 20 [.agg ⟨cs⟩] H (CntP H (depthR v)):=by
 have hfl:=RdV_flat hR
 have hr5:=hR.len
 have htk5:List.take 5 cs=cs:=List.take_of_length_le (by omega)
 obtain ⟨H1,hH1⟩:∃H1:AHeap,H1=H++ [.cells cs ⟨27,0,true,0,none⟩]:=⟨_,rfl⟩
 have hb0:H1[H.length]? =some (.cells cs ⟨27,0,true,0,none⟩):=by rw [hH1,hget0 rfl];rfl
 have hf1:Frm [] H H1:=by rw [hH1];exact Frm.app
 have hR1:RdV H1 v cs:=by rw [hH1];exact hR.kept (.more _ _)
 have hV:=rValid v h hc H1 cs hR1
 unfold depthR
 refine AC.enter Tryz.func20 rfl (by kernel_rfl) 9 rfl [.tmp 2,.tmp 3] rfl (by simp) fun hsc B=> ?_
 repeat first|with_reducible refine kc ?_|((with_reducible first|refine kr ?_ ?_|refine kt ?_ ?_);exact rfl)|((with_reducible refine kf ?_ ?_);exact rfl)|simp only [go_sem,sevalprocAttr,reduceCtorEq,hfl,hr5]|simp (disch:=omega) only [wz]
 rw [← hH1]
 repeat first|with_reducible refine kc ?_|((with_reducible first|refine kr ?_ ?_|refine kt ?_ ?_);exact rfl)|((with_reducible refine kf ?_ ?_);exact rfl)|simp only [go_sem,sevalprocAttr,reduceCtorEq,hb0,htk5,hr5]|simp (disch:=omega) only [wz]
 refine AC.mono hV ?_
 rintro res H2 ⟨rfl,hf2⟩
 have hb2:=hf2.get hb0 (by simp)
 have hf02:=hf1.trans hf2 (fun x hx=>by cases hx)
 cases hvv:v.valid with
 |false=>
  repeat first|with_reducible refine kc ?_|((with_reducible first|refine kr ?_ ?_|refine kt ?_ ?_);exact rfl)|((with_reducible refine kf ?_ ?_);exact rfl)|simp only [go_sem,sevalprocAttr,reduceCtorEq]|simp (disch:=omega) only [wz]
  exact ⟨_,_,.refl _ _ _,rfl,hf02⟩
 |true=>
  have hC:=rDepth v hc H2 cs (hR1.kept (Kept.frm hf2 (fun x hx=>by cases hx)))
  repeat first|with_reducible refine kc ?_|((with_reducible first|refine kr ?_ ?_|refine kt ?_ ?_);exact rfl)|((with_reducible refine kf ?_ ?_);exact rfl)|simp only [go_sem,sevalprocAttr,reduceCtorEq,hb2,htk5,hr5]|simp (disch:=omega) only [wz]
  refine AC.mono hC ?_
  rintro res H3 ⟨rfl,hf3⟩
  repeat first|with_reducible refine kc ?_|((with_reducible first|refine kr ?_ ?_|refine kt ?_ ?_);exact rfl)|((with_reducible refine kf ?_ ?_);exact rfl)|simp only [go_sem,sevalprocAttr,reduceCtorEq]|simp (disch:=omega) only [wz]
  exact ⟨_,_,.refl _ _ _,rfl,hf02.trans hf3 (fun x hx=>by cases hx)⟩
theorem deep_ (v:BV):v.count≤1099511627776→∀(H:AHeap) (cs:List Value) (q:Nat),RdV H v cs→H[q]? =some (.cells [.func (.func 38) ⟨[]⟩ ⟨[.pointer (some ⟨q,0,none⟩)]⟩] ⟨56,0,true,0,none⟩)→
  AC Tryz.prog 38 [.agg ⟨cs⟩,.pointer (some ⟨q,0,none⟩)] H (fun r H2=>r= .ret (.int .i64 (v.depth:Nat))∧Frm [] H H2):=by
 refine BV.ind (P:=fun v=>v.count≤1099511627776→∀(H:AHeap) (cs:List Value) (q:Nat),RdV H v cs→H[q]? =some (.cells [.func (.func 38) ⟨[]⟩ ⟨[.pointer (some ⟨q,0,none⟩)]⟩] ⟨56,0,true,0,none⟩)→
  AC Tryz.prog 38 [.agg ⟨cs⟩,.pointer (some ⟨q,0,none⟩)] H (fun r H2=>r= .ret (.int .i64 (v.depth:Nat))∧Frm [] H H2)) (fun k n s kids keys ih hcn H cs q hR hq=> ?_) v
 have hdep:(BV.mk k n s kids keys).depth=1+BV.depthL kids:=by unfold BV.depth;rfl
 have hcnt:(BV.mk k n s kids keys).count=1+BV.countL kids:=by unfold BV.count;rfl
 rw [hcnt] at hcn
 rw [hdep]
 have hdc:=depthL_countL kids
 have hfl:=RdV_flat hR
 have hr5:=hR.len
 unfold RdV at hR
 obtain ⟨vk,vs,css,rfl,p1,hL,p3⟩:=hR
 obtain ⟨H1,hH1⟩:∃H1:AHeap,H1=H++ [.cells [.int .i64 k,.int .i64 n,.string (bs s),vk,vs] ⟨27,0,true,0,none⟩]:=⟨_,rfl⟩
 have hb1:H1[H.length]? =some (.cells [.int .i64 k,.int .i64 n,.string (bs s),vk,vs] ⟨27,0,true,0,none⟩):=by rw [hH1,hget0 rfl];rfl
 have hf1:Frm [] H H1:=by rw [hH1];exact Frm.app
 have hcl:=hL.len
 have hkc:∀l:List BV,l.length≤BV.countL l:=fun l=>by
  induction l with
  |nil=>simp
  |cons x l ih=>have:=BV.count_pos x;simp only [BV.countL,List.length_cons];omega
 have hkd:=hkc kids
 have q1:∀H' K,lenW Tryz.prog 23 vk H' K=K (.int .i64 (kids.length:Nat)) H':=fun H' K=>by rw [p1.lenT (by simp only [go_sem,sevalprocAttr,reduceCtorEq]),hcl]
 refine AC.enter Tryz.func38 rfl (by kernel_rfl) 22 rfl [.tmp 3] rfl (by simp) fun hsc B=> ?_
 repeat first|with_reducible refine kc ?_|((with_reducible first|refine kr ?_ ?_|refine kt ?_ ?_);exact rfl)|((with_reducible refine kf ?_ ?_);exact rfl)|simp only [go_sem,sevalprocAttr,reduceCtorEq,hfl,hr5]|simp (disch:=omega) only [wz]
 rw [← hH1]
 repeat first|with_reducible refine kc ?_|((with_reducible first|refine kr ?_ ?_|refine kt ?_ ?_);exact rfl)|((with_reducible refine kf ?_ ?_);exact rfl)|simp only [go_sem,sevalprocAttr,reduceCtorEq,hb1,q1]|simp (disch:=omega) only [wz]
 refine AWP.loopP (fun p:WLq=>⟨[(1,.pointer (some ⟨q,0,none⟩)),(4,.int .i64 ((BV.depthL (kids.take p.i):Nat):Int)),(8,vk),(9,.int .i64 (kids.length:Nat)),(10,.int .i64 (p.i:Nat))],[],p.Hc⟩)
  (fun p=>p.i≤kids.length∧Frm [] H1 p.Hc) (fun p=>kids.length - p.i) ⟨0,H1⟩ ?_ ⟨Nat.zero_le _,Frm.refl _ _⟩ ?_
 ·exact Weak.env (by simp [envIn,lk_cons,wth_some,BV.depthL])
 rintro ⟨i,Hc⟩ ⟨hi,hf⟩
 dsimp only at hi hf ⊢
 have hf0:Frm [] H Hc:=hf1.trans hf (fun x hx=>by cases hx)
 have hkc2:Kept H Hc:=Kept.frm hf0 (fun x hx=>by cases hx)
 by_cases hlt:i<kids.length
 ·have hlt':(i:Int)<(kids.length:Int):=by omega
  obtain ⟨r,hr,hRv⟩:=(hL.kept hkc2).at_ (List.getElem?_eq_getElem hlt)
  obtain ⟨bi,off,cap,cs',k',rfl,hcap,hbi,hown,hesz,hle,htk⟩:=(p1.kept hkc2).at_ hr
  have hlt2:(i:Int)<(css.length:Int):=by omega
  have hr55:=hRv.len
  have hfl5:=RdV_flat hRv
  have htk5:List.take 5 r=r:=List.take_of_length_le (by omega)
  have hput:=box_put0 r hr55
  have hwi:IntKind.i64.wrap ((i:Int)+1)=((i+1:Nat):Int):=by rw [wi64 (by omega)];omega
  have hsn:=depthL_snoc kids i hlt
  have hcs:=countL_snoc kids i hlt
  have hst:=countL_take kids (i+1)
  have hqc:=hf0.get hq (by simp)
  have hqa:(Hc++ [.cells r ⟨27,0,true,0,none⟩])[q]? =some (.cells [.func (.func 38) ⟨[]⟩ ⟨[.pointer (some ⟨q,0,none⟩)]⟩] ⟨56,0,true,0,none⟩):=by rw [hgetl (lt_of_get hqc)];exact hqc
  have hcall:=ih kids[i] (List.getElem_mem hlt) (by omega) (Hc++ [.cells r ⟨27,0,true,0,none⟩]) r q (hRv.kept (.more _ _)) hqa
  obtain ⟨a,ha⟩:∃a,a=BV.depthL (kids.take i):=⟨_,rfl⟩
  obtain ⟨b,hb⟩:∃b,b=BV.depthL (kids.take (i+1)):=⟨_,rfl⟩
  obtain ⟨dd,hdd⟩:∃dd,dd=kids[i].depth:=⟨_,rfl⟩
  rw [← hdd] at hcall hsn
  rw [← ha]
  generalize kids[i]=v at*
  repeat first|with_reducible refine kc ?_|((with_reducible first|refine kr ?_ ?_|refine kt ?_ ?_);exact rfl)|((with_reducible refine kf ?_ ?_);exact rfl)|simp only [go_sem,sevalprocAttr,reduceCtorEq,hlt',hlt2,hbi,hle,htk,hr55,hfl5,htk5,hput,hqa]|simp (disch:=omega) only [wz]
  refine AC.mono hcall ?_
  rintro res H5 ⟨rfl,hf5⟩
  have hmx:(if (a:Int)<(dd:Int) then (dd:Int) else (a:Int))=(b:Int):=by split<;> omega
  have hmx2:max (a:Int) (dd:Int)=(b:Int):=by omega
  repeat first|with_reducible refine kc ?_|((with_reducible first|refine kr ?_ ?_|refine kt ?_ ?_);exact rfl)|((with_reducible refine kf ?_ ?_);exact rfl)|simp only [go_sem,sevalprocAttr,reduceCtorEq,minMaxW,hmx,hmx2,hwi]|simp (disch:=omega) only [wz]
  exact ⟨⟨i+1,H5⟩,by dsimp only;rw [← hb];exact Weak.env (by simp [envIn,lk_cons,wth_some]),hlt,hf.more.trans hf5 (fun x hx=>by cases hx),by dsimp only;omega⟩
 ·have hlt':¬(i:Int)<(kids.length:Int):=by omega
  have hie:kids.take i=kids:=List.take_of_length_le (by omega)
  rw [hie]
  have hwd:IntKind.i64.wrap (((BV.depthL kids:Nat):Int)+1)=((1+BV.depthL kids:Nat):Int):=by rw [wi64 (by omega)];omega
  repeat first|with_reducible refine kc ?_|((with_reducible first|refine kr ?_ ?_|refine kt ?_ ?_);exact rfl)|((with_reducible refine kf ?_ ?_);exact rfl)|simp only [go_sem,sevalprocAttr,reduceCtorEq,hlt',hwd]|simp (disch:=omega) only [wz]
  exact ⟨_,_,.refl _ _ _,rfl,hf0⟩
theorem depth_ (v:BV) (h:Fine v) (hc:v.count≤1099511627776) (H:AHeap) (cs:List Value) (hR:RdV H v cs) (hT:TabH H):AC Tryz.prog 19 [.agg ⟨cs⟩] H (CntP H (depthR v)):=by
 have hfl:=RdV_flat hR
 have hr5:=hR.len
 have htk5:List.take 5 cs=cs:=List.take_of_length_le (by omega)
 obtain ⟨H1,hH1⟩:∃H1:AHeap,H1=H++ [.cells cs ⟨27,0,true,0,none⟩]:=⟨_,rfl⟩
 have hb0:H1[H.length]? =some (.cells cs ⟨27,0,true,0,none⟩):=by rw [hH1,hget0 rfl];rfl
 have hf1:Frm [] H H1:=by rw [hH1];exact Frm.app
 have hR1:RdV H1 v cs:=by rw [hH1];exact hR.kept (.more _ _)
 have hV:=valid_ v h H1 cs hR1 (by rw [hH1];exact hT.more _)
 unfold depthR
 refine AC.enter Tryz.func19 rfl (by kernel_rfl) 12 rfl [.tmp 2,.tmp 3] rfl (by simp) fun hsc B=> ?_
 repeat first|with_reducible refine kc ?_|((with_reducible first|refine kr ?_ ?_|refine kt ?_ ?_);exact rfl)|((with_reducible refine kf ?_ ?_);exact rfl)|simp only [go_sem,sevalprocAttr,reduceCtorEq,hfl,hr5]|simp (disch:=omega) only [wz]
 rw [← hH1]
 repeat first|with_reducible refine kc ?_|((with_reducible first|refine kr ?_ ?_|refine kt ?_ ?_);exact rfl)|((with_reducible refine kf ?_ ?_);exact rfl)|simp only [go_sem,sevalprocAttr,reduceCtorEq,hb0,htk5,hr5]|simp (disch:=omega) only [wz]
 refine AC.mono hV ?_
 rintro res H2 ⟨rfl,hf2⟩
 have hb2:=hf2.get hb0 (by simp)
 have hf02:=hf1.trans hf2 (fun x hx=>by cases hx)
 cases hvv:v.valid with
 |false=>
  repeat first|with_reducible refine kc ?_|((with_reducible first|refine kr ?_ ?_|refine kt ?_ ?_);exact rfl)|((with_reducible refine kf ?_ ?_);exact rfl)|simp only [go_sem,sevalprocAttr,reduceCtorEq]|simp (disch:=omega) only [wz]
  exact ⟨_,_,.refl _ _ _,rfl,hf02⟩
 |true=>
  obtain ⟨H3,hH3⟩:∃H3:AHeap,H3=H2++ [.cells [.func (.func 38) ⟨[]⟩ ⟨[.pointer (some ⟨H2.length,0,none⟩)]⟩] ⟨56,0,true,0,none⟩]:=⟨_,rfl⟩
  have hq3:H3[H2.length]? =some (.cells [.func (.func 38) ⟨[]⟩ ⟨[.pointer (some ⟨H2.length,0,none⟩)]⟩] ⟨56,0,true,0,none⟩):=by rw [hH3,hget0 rfl];rfl
  have hb3:H3[H.length]? =some (.cells cs ⟨27,0,true,0,none⟩):=by rw [hH3,hgetl (lt_of_get hb2)];exact hb2
  have hC:=deep_ v hc H3 cs H2.length (hR1.kept ((Kept.frm hf2 (fun x hx=>by cases hx)).trans (by rw [hH3];exact .more _ _))) hq3
  repeat first|with_reducible refine kc ?_|((with_reducible first|refine kr ?_ ?_|refine kt ?_ ?_);exact rfl)|((with_reducible refine kf ?_ ?_);exact rfl)|simp only [go_sem,sevalprocAttr,reduceCtorEq,hb2,htk5,hr5]|simp (disch:=omega) only [wz]
  rw [← hH3]
  repeat first|with_reducible refine kc ?_|((with_reducible first|refine kr ?_ ?_|refine kt ?_ ?_);exact rfl)|((with_reducible refine kf ?_ ?_);exact rfl)|simp only [go_sem,sevalprocAttr,reduceCtorEq,hq3,hb3,htk5,hr5]|simp (disch:=omega) only [wz]
  refine AC.mono hC ?_
  rintro res H4 ⟨rfl,hf4⟩
  repeat first|with_reducible refine kc ?_|((with_reducible first|refine kr ?_ ?_|refine kt ?_ ?_);exact rfl)|((with_reducible refine kf ?_ ?_);exact rfl)|simp only [go_sem,sevalprocAttr,reduceCtorEq]|simp (disch:=omega) only [wz]
  exact ⟨_,_,.refl _ _ _,rfl,(by rw [hH3] at hf4;exact hf02.more.trans hf4 (fun x hx=>by cases hx))⟩
end Go.Proofs.YthcdjconlfdidaaGreatDoor
