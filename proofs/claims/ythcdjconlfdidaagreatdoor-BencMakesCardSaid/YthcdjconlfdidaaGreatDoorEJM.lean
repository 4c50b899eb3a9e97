/-
  A part of the proof of a statement of this seat.
-/
import Derived.Test.YthcdjconlfdidaaGreatDoorEI
import Derived.Test.YthcdjconlfdidaaGreatDoorCEM
set_option linter.unusedVariables false
set_option linter.unusedSimpArgs false
set_option maxRecDepth 20000
set_option maxHeartbeats 4000000
namespace Go.Proofs.YthcdjconlfdidaaGreatDoor
open Go Go.Aw Go.Proofs
theorem countL_snoc (l:List BV) (i:Nat) (h:i<l.length):BV.countL (l.take (i+1))=BV.countL (l.take i)+l[i].count:=by
 have key:∀(a:List BV) (v:BV),BV.countL (a++[v])=BV.countL a+v.count:=fun a v=>by
  induction a with
  |nil=>simp [BV.countL]
  |cons x a ih=>simp [BV.countL,ih];omega
 rw [List.take_add_one,List.getElem?_eq_getElem h]
 exact key _ _
theorem countL_take:∀(l:List BV) (i:Nat),BV.countL (l.take i)≤BV.countL l
 |[],i=>by simp
 |v::l,0=>by simp [BV.countL]
 |v::l,i+1=>by
  have:=countL_take l i
  simp [BV.countL];omega
theorem depthL_snoc (l:List BV) (i:Nat) (h:i<l.length):BV.depthL (l.take (i+1))=max (BV.depthL (l.take i)) l[i].depth:=by
 have key:∀(a:List BV) (v:BV),BV.depthL (a++[v])=max (BV.depthL a) v.depth:=fun a v=>by
  induction a with
  |nil=>simp [BV.depthL]
  |cons x a ih=>simp only [List.cons_append,BV.depthL,ih];omega
 rw [List.take_add_one,List.getElem?_eq_getElem h]
 exact key _ _
mutual
theorem depth_count:∀v:BV,v.depth≤v.count
 | .mk k n s kids keys=>by
  have:=depthL_countL kids
  unfold BV.depth BV.count
  omega
theorem depthL_countL:∀l:List BV,BV.depthL l≤BV.countL l
 |[]=>by simp [BV.depthL,BV.countL]
 |v::l=>by
  have h1:=depth_count v
  have h2:=depthL_countL l
  simp only [BV.depthL,BV.countL]
  omega
end
theorem rCount (v:BV):v.count≤1099511627776→∀(H:AHeap) (cs:List Value),RdV H v cs→AC Tryz.prog 37 [.agg ⟨cs⟩] H (fun r H2=>r= .ret (.int .i64 (v.count:Nat))∧Frm [] H H2):=by
 refine BV.ind (P:=fun v=>v.count≤1099511627776→∀(H:AHeap) (cs:List Value),RdV H v cs→AC Tryz.prog 37 [.agg ⟨cs⟩] H (fun r H2=>r= .ret (.int .i64 (v.count:Nat))∧Frm [] H H2)) (fun k n s kids keys ih hcn H cs hR=> ?_) v
 have hcnt:(BV.mk k n s kids keys).count=1+BV.countL kids:=by unfold BV.count;rfl
 rw [hcnt] at hcn ⊢
 have hfl:=RdV_flat hR
 have hr5:=hR.len
 unfold RdV at hR
 obtain ⟨vk,vs,css,rfl,p1,hL,p3⟩:=hR
 obtain ⟨H1,hH1⟩:∃H1:AHeap,H1=H++ [.cells [.int .i64 k,.int .i64 n,.string (bs s),vk,vs] ⟨27,0,true,0,none⟩]:=⟨_,rfl⟩
 have hb1:H1[H.length]? =some (.cells [.int .i64 k,.int .i64 n,.string (bs s),vk,vs] ⟨27,0,true,0,none⟩):=by rw [hH1,hget0 rfl];rfl
 have hf1:Frm [] H H1:=by rw [hH1];exact Frm.app
 have hcl:=hL.len
 have hkc:∀l:List BV,l.length≤BV.countL l:=fun l=>by
  induction l with
  |nil=>simp
  |cons x l ih=>have:=BV.count_pos x;simp only [BV.countL,List.length_cons];omega
 have hkd:=hkc kids
 have q1:∀H' K,lenW Tryz.prog 23 vk H' K=K (.int .i64 (kids.length:Nat)) H':=fun H' K=>by rw [p1.lenT (by simp only [go_sem,sevalprocAttr,reduceCtorEq]),hcl]
 refine AC.enter Tryz.func37 rfl (by kernel_rfl) 19 rfl [.tmp 2] rfl (by simp) fun hsc B=> ?_
 repeat first|with_reducible refine kc ?_|((with_reducible first|refine kr ?_ ?_|refine kt ?_ ?_);exact rfl)|((with_reducible refine kf ?_ ?_);exact rfl)|simp only [go_sem,sevalprocAttr,reduceCtorEq,hfl,hr5]|simp (disch:=omega) only [wz]
 rw [← hH1]
 repeat first|with_reducible refine kc ?_|((with_reducible first|refine kr ?_ ?_|refine kt ?_ ?_);exact rfl)|((with_reducible refine kf ?_ ?_);exact rfl)|simp only [go_sem,sevalprocAttr,reduceCtorEq,hb1,q1]|simp (disch:=omega) only [wz]
 refine AWP.loopP (fun p:WLq=>⟨[(3,.int .i64 ((1+BV.countL (kids.take p.i):Nat):Int)),(7,vk),(8,.int .i64 (kids.length:Nat)),(9,.int .i64 (p.i:Nat))],[],p.Hc⟩)
  (fun p=>p.i≤kids.length∧Frm [] H1 p.Hc) (fun p=>kids.length - p.i) ⟨0,H1⟩ ?_ ⟨Nat.zero_le _,Frm.refl _ _⟩ ?_
 ·exact Weak.env (by simp [envIn,lk_cons,wth_some,BV.countL])
 rintro ⟨i,Hc⟩ ⟨hi,hf⟩
 dsimp only at hi hf ⊢
 have hf0:Frm [] H Hc:=hf1.trans hf (fun x hx=>by cases hx)
 have hkc2:Kept H Hc:=Kept.frm hf0 (fun x hx=>by cases hx)
 by_cases hlt:i<kids.length
 ·have hlt':(i:Int)<(kids.length:Int):=by omega
  obtain ⟨r,hr,hRv⟩:=(hL.kept hkc2).at_ (List.getElem?_eq_getElem hlt)
  obtain ⟨bi,off,cap,cs',k',rfl,hcap,hbi,hown,hesz,hle,htk⟩:=(p1.kept hkc2).at_ hr
  have hlt2:(i:Int)<(css.length:Int):=by omega
  have hr55:=hRv.len
  have hfl5:=RdV_flat hRv
  have htk5:List.take 5 r=r:=List.take_of_length_le (by omega)
  have hput:=box_put0 r hr55
  have hwi:IntKind.i64.wrap ((i:Int)+1)=((i+1:Nat):Int):=by rw [wi64 (by omega)];omega
  have hsn:=countL_snoc kids i hlt
  have hst:=countL_take kids (i+1)
  have hcall:=ih kids[i] (List.getElem_mem hlt) (by omega) (Hc++ [.cells r ⟨27,0,true,0,none⟩]) r (hRv.kept (.more _ _))
  obtain ⟨a,ha⟩:∃a,a=1+BV.countL (kids.take i):=⟨_,rfl⟩
  obtain ⟨b,hb⟩:∃b,b=1+BV.countL (kids.take (i+1)):=⟨_,rfl⟩
  have hwa:IntKind.i64.wrap ((a:Int)+(kids[i].count:Int))=(b:Int):=by rw [wi64 (by omega)];omega
  rw [← ha]
  generalize kids[i]=v at*
  repeat first|with_reducible refine kc ?_|((with_reducible first|refine kr ?_ ?_|refine kt ?_ ?_);exact rfl)|((with_reducible refine kf ?_ ?_);exact rfl)|simp only [go_sem,sevalprocAttr,reduceCtorEq,hlt',hlt2,hbi,hle,htk,hr55,hfl5,htk5,hput]|simp (disch:=omega) only [wz]
  refine AC.mono hcall ?_
  rintro res H5 ⟨rfl,hf5⟩
  repeat first|with_reducible refine kc ?_|((with_reducible first|refine kr ?_ ?_|refine kt ?_ ?_);exact rfl)|((with_reducible refine kf ?_ ?_);exact rfl)|simp only [go_sem,sevalprocAttr,reduceCtorEq,hwa,hwi]|simp (disch:=omega) only [wz]
  exact ⟨⟨i+1,H5⟩,by dsimp only;rw [← hb];exact Weak.env (by simp [envIn,lk_cons,wth_some]),hlt,hf.more.trans hf5 (fun x hx=>by cases hx),by dsimp only;omega⟩
 ·have hlt':¬(i:Int)<(kids.length:Int):=by omega
  have hie:kids.take i=kids:=List.take_of_length_le (by omega)
  rw [hie]
  repeat first|with_reducible refine kc ?_|((with_reducible first|refine kr ?_ ?_|refine kt ?_ ?_);exact rfl)|((with_reducible refine kf ?_ ?_);exact rfl)|simp only [go_sem,sevalprocAttr,reduceCtorEq,hlt']|simp (disch:=omega) only [wz]
  exact ⟨_,_,.refl _ _ _,rfl,hf0⟩
theorem rDepth (v:BV):v.count≤1099511627776→∀(H:AHeap) (cs:List Value),RdV H v cs→AC Tryz.prog 39 [.agg ⟨cs⟩] H (fun r H2=>r= .ret (.int .i64 (v.depth:Nat))∧Frm [] H H2):=by
 refine BV.ind (P:=fun v=>v.count≤1099511627776→∀(H:AHeap) (cs:List Value),RdV H v cs→AC Tryz.prog 39 [.agg ⟨cs⟩] H (fun r H2=>r= .ret (.int .i64 (v.depth:Nat))∧Frm [] H H2)) (fun k n s kids keys ih hcn H cs hR=> ?_) v
 have hdep:(BV.mk k n s kids keys).depth=1+BV.depthL kids:=by unfold BV.depth;rfl
 have hcnt:(BV.mk k n s kids keys).count=1+BV.countL kids:=by unfold BV.count;rfl
 rw [hcnt] at hcn
 rw [hdep]
 have hdc:=depthL_countL kids
 have hfl:=RdV_flat hR
 have hr5:=hR.len
 unfold RdV at hR
 obtain ⟨vk,vs,css,rfl,p1,hL,p3⟩:=hR
 obtain ⟨H1,hH1⟩:∃H1:AHeap,H1=H++ [.cells [.int .i64 k,.int .i64 n,.string (bs s),vk,vs] ⟨27,0,true,0,none⟩]:=⟨_,rfl⟩
 have hb1:H1[H.length]? =some (.cells [.int .i64 k,.int .i64 n,.string (bs s),vk,vs] ⟨27,0,true,0,none⟩):=by rw [hH1,hget0 rfl];rfl
 have hf1:Frm [] H H1:=by rw [hH1];exact Frm.app
 have hcl:=hL.len
 have hkc:∀l:List BV,l.length≤BV.countL l:=fun l=>by
  induction l with
  |nil=>simp
  |cons x l ih=>have:=BV.count_pos x;simp only [BV.countL,List.length_cons];omega
 have hkd:=hkc kids
 have q1:∀H' K,lenW Tryz.prog 23 vk H' K=K (.int .i64 (kids.length:Nat)) H':=fun H' K=>by rw [p1.lenT (by simp only [go_sem,sevalprocAttr,reduceCtorEq]),hcl]
 refine AC.enter Tryz.func39 rfl (by kernel_rfl) 20 rfl [.tmp 2] rfl (by simp) fun hsc B=> ?_
 repeat first|with_reducible refine kc ?_|((with_reducible first|refine kr ?_ ?_|refine kt ?_ ?_);exact rfl)|((with_reducible refine kf ?_ ?_);exact rfl)|simp only [go_sem,sevalprocAttr,reduceCtorEq,hfl,hr5]|simp (disch:=omega) only [wz]
 rw [← hH1]
 repeat first|with_reducible refine kc ?_|((with_reducible first|refine kr ?_ ?_|refine kt ?_ ?_);exact rfl)|((with_reducible refine kf ?_ ?_);exact rfl)|simp only [go_sem,sevalprocAttr,reduceCtorEq,hb1,q1]|simp (disch:=omega) only [wz]
 refine AWP.loopP (fun p:WLq=>⟨[(3,.int .i64 ((BV.depthL (kids.take p.i):Nat):Int)),(7,vk),(8,.int .i64 (kids.length:Nat)),(9,.int .i64 (p.i:Nat))],[],p.Hc⟩)
  (fun p=>p.i≤kids.length∧Frm [] H1 p.Hc) (fun p=>kids.length - p.i) ⟨0,H1⟩ ?_ ⟨Nat.zero_le _,Frm.refl _ _⟩ ?_
 ·exact Weak.env (by simp [envIn,lk_cons,wth_some,BV.depthL])
 rintro ⟨i,Hc⟩ ⟨hi,hf⟩
 dsimp only at hi hf ⊢
 have hf0:Frm [] H Hc:=hf1.trans hf (fun x hx=>by cases hx)
 have hkc2:Kept H Hc:=Kept.frm hf0 (fun x hx=>by cases hx)
 by_cases hlt:i<kids.length
 ·have hlt':(i:Int)<(kids.length:Int):=by omega
  obtain ⟨r,hr,hRv⟩:=(hL.kept hkc2).at_ (List.getElem?_eq_getElem hlt)
  obtain ⟨bi,off,cap,cs',k',rfl,hcap,hbi,hown,hesz,hle,htk⟩:=(p1.kept hkc2).at_ hr
  have hlt2:(i:Int)<(css.length:Int):=by omega
  have hr55:=hRv.len
  have hfl5:=RdV_flat hRv
  have htk5:List.take 5 r=r:=List.take_of_length_le (by omega)
  have hput:=box_put0 r hr55
  have hwi:IntKind.i64.wrap ((i:Int)+1)=((i+1:Nat):Int):=by rw [wi64 (by omega)];omega
  have hsn:=depthL_snoc kids i hlt
  have hcs:=countL_snoc kids i hlt
  have hst:=countL_take kids (i+1)
  have hcall:=ih kids[i] (List.getElem_mem hlt) (by omega) (Hc++ [.cells r ⟨27,0,true,0,none⟩]) r (hRv.kept (.more _ _))
  obtain ⟨a,ha⟩:∃a,a=BV.depthL (kids.take i):=⟨_,rfl⟩
  obtain ⟨b,hb⟩:∃b,b=BV.depthL (kids.take (i+1)):=⟨_,rfl⟩
  obtain ⟨dd,hdd⟩:∃dd,dd=kids[i].depth:=⟨_,rfl⟩
  rw [← hdd] at hcall hsn
  rw [← ha]
  generalize kids[i]=v at*
  repeat first|with_reducible refine kc ?_|((with_reducible first|refine kr ?_ ?_|refine kt ?_ ?_);exact rfl)|((with_reducible refine kf ?_ ?_);exact rfl)|simp only [go_sem,sevalprocAttr,reduceCtorEq,hlt',hlt2,hbi,hle,htk,hr55,hfl5,htk5,hput]|simp (disch:=omega) only [wz]
  refine AC.mono hcall ?_
  rintro res H5 ⟨rfl,hf5⟩
  have hmx:(if (a:Int)<(dd:Int) then (dd:Int) else (a:Int))=(b:Int):=by split<;> omega
  have hmx2:max (a:Int) (dd:Int)=(b:Int):=by omega
  repeat first|with_reducible refine kc ?_|((with_reducible first|refine kr ?_ ?_|refine kt ?_ ?_);exact rfl)|((with_reducible refine kf ?_ ?_);exact rfl)|simp only [go_sem,sevalprocAttr,reduceCtorEq,minMaxW,hmx,hmx2,hwi]|simp (disch:=omega) only [wz]
  exact ⟨⟨i+1,H5⟩,by dsimp only;rw [← hb];exact Weak.env (by simp [envIn,lk_cons,wth_some]),hlt,hf.more.trans hf5 (fun x hx=>by cases hx),by dsimp only;omega⟩
 ·have hlt':¬(i:Int)<(kids.length:Int):=by omega
  have hie:kids.take i=kids:=List.take_of_length_le (by omega)
  rw [hie]
  have hwd:IntKind.i64.wrap (((BV.depthL kids:Nat):Int)+1)=((1+BV.depthL kids:Nat):Int):=by rw [wi64 (by omega)];omega
  repeat first|with_reducible refine kc ?_|((with_reducible first|refine kr ?_ ?_|refine kt ?_ ?_);exact rfl)|((with_reducible refine kf ?_ ?_);exact rfl)|simp only [go_sem,sevalprocAttr,reduceCtorEq,hlt',hwd]|simp (disch:=omega) only [wz]
  exact ⟨_,_,.refl _ _ _,rfl,hf0⟩
theorem rValid (v:BV) (h:Fine v) (hc:v.count≤1099511627776) (H:AHeap) (cs:List Value) (hR:RdV H v cs):AC Tryz.prog 35 [.agg ⟨cs⟩] H (fun r H2=>r= .ret (.bool v.valid)∧Frm [] H H2):=by
 have hfl:=RdV_flat hR
 have hr5:=hR.len
 have htk5:List.take 5 cs=cs:=List.take_of_length_le (by omega)
 obtain ⟨H1,hH1⟩:∃H1:AHeap,H1=H++ [.cells cs ⟨27,0,true,0,none⟩]:=⟨_,rfl⟩
 have hb0:H1[H.length]? =some (.cells cs ⟨27,0,true,0,none⟩):=by rw [hH1,hget0 rfl];rfl
 have hf1:Frm [] H H1:=by rw [hH1];exact Frm.app
 have hR1:RdV H1 v cs:=by rw [hH1];exact hR.kept (.more _ _)
 have kp:∀{A B:AHeap},Frm [] A B→Kept A B:=fun h1=>Kept.frm h1 (fun x hx=>by cases hx)
 have fr:∀{A B C:AHeap},Frm [] A B→Frm [] B C→Frm [] A C:=fun h1 h2=>h1.trans h2 (fun x hx=>by cases hx)
 have hF:=rForm v h.sz H1 cs hR1
 have hval:v.valid=(v.form&&decide (v.count≤1000)&&decide (v.depth≤12)&&decide (v.write.length≤65536)):=rfl
 refine AC.enter Tryz.func35 rfl (by kernel_rfl) 21 rfl [.tmp 2] rfl (by simp) fun hsc B=> ?_
 repeat first|with_reducible refine kc ?_|((with_reducible first|refine kr ?_ ?_|refine kt ?_ ?_);exact rfl)|((with_reducible refine kf ?_ ?_);exact rfl)|simp only [go_sem,sevalprocAttr,reduceCtorEq,hfl,hr5]|simp (disch:=omega) only [wz]
 rw [← hH1]
 repeat first|with_reducible refine kc ?_|((with_reducible first|refine kr ?_ ?_|refine kt ?_ ?_);exact rfl)|((with_reducible refine kf ?_ ?_);exact rfl)|simp only [go_sem,sevalprocAttr,reduceCtorEq,hb0,htk5,hr5]|simp (disch:=omega) only [wz]
 refine AC.mono hF ?_
 rintro res H2 ⟨rfl,hf2⟩
 have hb2:=hf2.get hb0 (by simp)
 cases hfm:v.form with
 |false=>
  have hv:v.valid=false:=by rw [hval,hfm];rfl
  rw [hv]
  repeat first|with_reducible refine kc ?_|((with_reducible first|refine kr ?_ ?_|refine kt ?_ ?_);exact rfl)|((with_reducible refine kf ?_ ?_);exact rfl)|simp only [go_sem,sevalprocAttr,reduceCtorEq,exists_eq_left]|simp (disch:=omega) only [wz]
  exact ⟨_,_,.refl _ _ _,rfl,fr hf1 hf2⟩
 | true=>
  rw [hfm] at hval
  have hC:=rCount v hc H2 cs (hR1.kept (kp hf2))
  repeat first|with_reducible refine kc ?_|((with_reducible first|refine kr ?_ ?_|refine kt ?_ ?_);exact rfl)|((with_reducible refine kf ?_ ?_);exact rfl)|simp only [go_sem,sevalprocAttr,reduceCtorEq,hb2,htk5,hr5]|simp (disch:=omega) only [wz]
  refine AC.mono hC ?_
  rintro res H3 ⟨rfl,hf3⟩
  have hb3:=hf3.get hb2 (by simp)
  by_cases h1:v.count≤1000
  ·have h1':(v.count:Int)≤1000:=by omega
   rw [decide_eq_true h1] at hval
   have hD:=rDepth v hc H3 cs (hR1.kept (kp (fr hf2 hf3)))
   repeat first|with_reducible refine kc ?_|((with_reducible first|refine kr ?_ ?_|refine kt ?_ ?_);exact rfl)|((with_reducible refine kf ?_ ?_);exact rfl)|simp only [go_sem,sevalprocAttr,reduceCtorEq,hb3,htk5,hr5,h1']|simp (disch:=omega) only [wz]
   refine AC.mono hD ?_
   rintro res H4 ⟨rfl,hf4⟩
   have hb4:=hf4.get hb3 (by simp)
   by_cases h2:v.depth≤12
   ·have h2':(v.depth:Int)≤12:=by omega
    rw [decide_eq_true h2] at hval
    have hW:=rWrite v hfm h.nums H4 cs (hR1.kept (kp (fr (fr hf2 hf3) hf4))) h.len
    repeat first|with_reducible refine kc ?_|((with_reducible first|refine kr ?_ ?_|refine kt ?_ ?_);exact rfl)|((with_reducible refine kf ?_ ?_);exact rfl)|simp only [go_sem,sevalprocAttr,reduceCtorEq,hb4,htk5,hr5,h2']|simp (disch:=omega) only [wz]
    refine AC.mono hW ?_
    rintro res H5 ⟨rfl,hf5⟩
    by_cases h3:v.write.length≤65536
    ·have h3':(v.write.length:Int)≤65536:=by omega
     rw [decide_eq_true h3] at hval
     have hv:v.valid=true:=hval
     rw [hv]
     repeat first|with_reducible refine kc ?_|((with_reducible first|refine kr ?_ ?_|refine kt ?_ ?_);exact rfl)|((with_reducible refine kf ?_ ?_);exact rfl)|simp only [go_sem,sevalprocAttr,reduceCtorEq,h3']|simp (disch:=omega) only [wz]
     exact ⟨_,_,.refl _ _ _,rfl,fr (fr (fr (fr hf1 hf2) hf3) hf4) hf5⟩
    ·have h3':¬(v.write.length:Int)≤65536:=by omega
     rw [decide_eq_false h3] at hval
     have hv:v.valid=false:=hval
     rw [hv]
     repeat first|with_reducible refine kc ?_|((with_reducible first|refine kr ?_ ?_|refine kt ?_ ?_);exact rfl)|((with_reducible refine kf ?_ ?_);exact rfl)|simp only [go_sem,sevalprocAttr,reduceCtorEq,h3']|simp (disch:=omega) only [wz]
     exact ⟨_,_,.refl _ _ _,rfl,fr (fr (fr (fr hf1 hf2) hf3) hf4) hf5⟩
   ·have h2':¬(v.depth:Int)≤12:=by omega
    rw [decide_eq_false h2] at hval
    have hv:v.valid=false:=by rw [hval];rfl
    rw [hv]
    repeat first|with_reducible refine kc ?_|((with_reducible first|refine kr ?_ ?_|refine kt ?_ ?_);exact rfl)|((with_reducible refine kf ?_ ?_);exact rfl)|simp only [go_sem,sevalprocAttr,reduceCtorEq,h2',exists_eq_left]|simp (disch:=omega) only [wz]
    exact ⟨_,_,.refl _ _ _,rfl,fr (fr (fr hf1 hf2) hf3) hf4⟩
  ·have h1':¬(v.count:Int)≤1000:=by omega
   rw [decide_eq_false h1] at hval
   have hv:v.valid=false:=by rw [hval];rfl
   rw [hv]
   repeat first|with_reducible refine kc ?_|((with_reducible first|refine kr ?_ ?_|refine kt ?_ ?_);exact rfl)|((with_reducible refine kf ?_ ?_);exact rfl)|simp only [go_sem,sevalprocAttr,reduceCtorEq,h1',exists_eq_left]|simp (disch:=omega) only [wz]
   exact ⟨_,_,.refl _ _ _,rfl,fr (fr hf1 hf2) hf3⟩
end Go.Proofs.YthcdjconlfdidaaGreatDoor

set_option linter.unusedVariables false
namespace Go.Proofs.YthcdjconlfdidaaGreatDoor
open Go Go.Aw Go.Proofs
mutual
def wideV:BV→Prop
 | .mk k n s kids keys=>s.length<140737488355328∧kids.length<140737488355328∧keys.length<140737488355328∧wideL kids
def wideL:List BV→Prop
 |[]=>True
 |v::l=>wideV v∧wideL l
end
theorem wideL_iff:∀{l:List BV},wideL l↔∀c∈l,wideV c
 |[]=>by simp [wideL]
 |v::l=>by simp [wideL,wideL_iff (l:=l)]
end Go.Proofs.YthcdjconlfdidaaGreatDoor
