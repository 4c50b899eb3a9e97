/-
 The walk of the specification's put:a key that is not there.
-/
import Derived.Test.YthcdjconlfdidaaGreatDoorQSM
set_option linter.unusedVariables false
set_option linter.unusedSimpArgs false
set_option maxRecDepth 20000
set_option maxHeartbeats 4000000
namespace Go.Proofs.YthcdjconlfdidaaGreatDoor
open Go Go.Aw Go.Proofs
def InsK (H:AHeap) (a q2:Nat) (keys:List Tx) (t:Tx) (bx:Value→List Value) (H3:AHeap) (st:ASt):Prop:=
 ∃q H5,Frm [H.length,q2] H3 H5∧H5[q]? =some (.cells (strsC (insAt keys a t)) ⟨9,1,true,0,none⟩)∧H3.length≤q∧H5[H.length]? =some (.cells (bx (.slice (some ⟨q,0,none⟩) (keys.length+1) (keys.length+1))) ⟨27,0,true,0,none⟩)∧
  st=⟨[(12,.int .i64 (a:Nat)),(3,.pointer (some ⟨H.length,0,none⟩)),(5,.pointer (some ⟨H.length+1,0,none⟩)),(6,.pointer (some ⟨H.length+2,0,none⟩)),(7,.int .i64 0)],[],H5⟩
def InsK2 (H:AHeap) (a q1:Nat) (css:List (List Value)) (csx:List Value) (bx:Value→List Value) (H5:AHeap) (st:ASt):Prop:=
 ∃q H6,Frm [H.length,q1] H5 H6∧H6[q]? =some (.cells (insAt css a csx).flatten ⟨27,5,true,0,none⟩)∧H5.length≤q∧H6[H.length]? =some (.cells (bx (.slice (some ⟨q,0,none⟩) (css.length+1) (css.length+1))) ⟨27,0,true,0,none⟩)∧
  st=⟨[(3,.pointer (some ⟨H.length,0,none⟩)),(6,.pointer (some ⟨H.length+2,0,none⟩)),(7,.int .i64 0)],[],H6⟩
theorem rPutIns (x v:BV) (t:Tx) (hok:OkV v) (hpt:t.length≤1099511627776) (hk4:v.kind=4) (h8:(stepR v t).2=8) (H:AHeap) (cs csx:List Value) (vp:Value) (hR:RdV H v cs) (hRx:RdV H x csx) (hP:RdK H 1 vp (keyC [t])):
  AC Tryz.prog 45 [.agg ⟨cs⟩,vp,.agg ⟨csx⟩] H (ParseP H (setL x v t)):=by
  obtain ⟨p,hpe⟩:∃p:List Tx,p=[]:=⟨_,rfl⟩
  have hp:∀u∈t::p,u.length≤1099511627776:=fun u hu=>by rw [hpe] at hu;rw [List.mem_singleton.1 hu];exact hpt
  rw [← hpe] at hP
  have hfl:=RdV_flat hR
  have hr5:=hR.len
  have htk5:List.take 5 cs=cs:=List.take_of_length_le (by omega)
  have hflx:=RdV_flat hRx
  have hr5x:=hRx.len
  have htk5x:List.take 5 csx=csx:=List.take_of_length_le (by omega)
  obtain ⟨H1,hH1⟩:∃H1:AHeap,H1=H++ [.cells cs ⟨27,0,true,0,none⟩,.cells csx ⟨27,0,true,0,none⟩,.cells [.int .i64 0,.int .i64 0,.string (bs []),.slice none 0 0,.slice none 0 0] ⟨27,0,true,0,none⟩]:=⟨_,rfl⟩
  have hb0:H1[H.length]? =some (.cells cs ⟨27,0,true,0,none⟩):=by rw [hH1,hget0 rfl];rfl
  have hb1:H1[H.length+1]? =some (.cells csx ⟨27,0,true,0,none⟩):=by rw [hH1,hgetk rfl];rfl
  have hb2:H1[H.length+2]? =some zeroO:=by rw [hH1,hgetk rfl];rfl
  have hl1:H1.length=H.length+3:=by rw [hH1];simp
  have hf1:Frm [] H H1:=by rw [hH1];exact Frm.app
  have hk1:Kept H H1:=by rw [hH1];exact .more _ _
  have hC:=rCopied v hok.fine.sz H1 cs (hR.kept hk1)
  obtain ⟨i,o2,cap2,cs2,k2,rfl,hcap,hi,hown,hat,hz,hP2⟩:=RdK.tail hP
  have hne:(((p.length+1:Nat):Int)==0)=false:=by rw [beq_eq_false_iff_ne];omega
  have hplt:(0:Int)<((p.length+1:Nat):Int):=by omega
  refine AC.enter Tryz.func45 rfl (by kernel_rfl) 128 rfl [.cell 6 27,.tmp 7] rfl (by simp) fun hsc B=> ?_
  repeat first|with_reducible refine kc ?_|((with_reducible first|refine kr ?_ ?_|refine kt ?_ ?_);exact rfl)|((with_reducible refine kf ?_ ?_);exact rfl)|simp only [go_sem,sevalprocAttr,reduceCtorEq,hfl,hr5,hflx,hr5x,hne]|simp (disch:=omega) only [wz]
  rw [← hH1]
  rw [htk5]
  refine AC.mono hC ?_
  rintro res H2 ⟨cs',rfl,hO,hf2⟩
  have hc5:=hO.len
  have hcf:=hO.flat
  have htk':List.take 5 cs'=cs':=List.take_of_length_le (by omega)
  have hput':putCells cs 0 cs'=cs':=putCells_all (by omega)
  have hb02:=hf2.get hb0 (by simp)
  have hb12:=hf2.get hb1 (by simp)
  have hb22:=hf2.get hb2 (by simp)
  have hl2:=hf2.1
  have hbl2:=lt_of_get hb02
  obtain ⟨H3,hH3⟩:∃H3:AHeap,H3=H2.set H.length (.cells cs' ⟨27,0,true,0,none⟩):=⟨_,rfl⟩
  have hS:PutS H v csx cs' H3:=by
   refine ⟨?_,?_,?_,?_,?_⟩
   ·rw [hH3]
    obtain ⟨vk,vs,css,e,h1,h2,h3⟩:=hO
    exact OwnS.set ⟨vk,vs,css,e,h1.sub (by omega),h2,h3.sub (by omega)⟩ (by omega) hb02 rfl _
   ·rw [hH3];exact Frm.set (hf1.trans hf2 (fun x hx=>by cases hx)) (.inr (Nat.le_refl _))
   ·rw [hH3,List.getElem?_set_self hbl2]
   ·rw [hH3,List.getElem?_set_ne (by omega)];exact hb12
   ·rw [hH3,List.getElem?_set_ne (by omega)];exact hb22
  have hi3:H3[i]? =some (.cells cs2 k2):=hS.frm.get hi (by simp)
  obtain ⟨z,hSt,hSp⟩:=rStepO hok (hp t (by simp)) hS.own
  have hb3:=hS.hb
  repeat first|with_reducible refine AWP.seqE (x:= .region 4 _ _) (PutJ H v t (.slice (some ⟨i,o2,none⟩) (p.length+1) cap2) csx) ?_ ?_|with_reducible refine kc ?_|((with_reducible first|refine kr ?_ ?_|refine kt ?_ ?_);exact rfl)|((with_reducible refine kf ?_ ?_);exact rfl)|simp only [go_sem,sevalprocAttr,reduceCtorEq,hb02,hbl2,hr5,hc5,hcf,htk',hput']|simp (disch:=omega) only [wz]
  ·rw [← hH3]
   refine AWP.regionK 9 (by kernel_rfl) (by decide) (by kernel_rfl) ?_
   repeat first|with_reducible refine kc ?_|((with_reducible first|refine kr ?_ ?_|refine kt ?_ ?_);exact rfl)|((with_reducible refine kf ?_ ?_);exact rfl)|simp only [go_sem,sevalprocAttr,reduceCtorEq,hb3,hplt,hi3,hat,hc5,htk']|simp (disch:=omega) only [wz]
   refine ARet.exq (hSt) (by simp only [go_sem,sevalprocAttr,reduceCtorEq]) ?_
   repeat first|with_reducible refine kc ?_|((with_reducible first|refine kr ?_ ?_|refine kt ?_ ?_);exact rfl)|((with_reducible refine kf ?_ ?_);exact rfl)|simp only [go_sem,sevalprocAttr,reduceCtorEq]|simp (disch:=omega) only [wz]
   exact ⟨_,⟨cs',H3,z,hS,hSp,rfl⟩,Weak.env (by simp [envIn,lk_cons,wth_some])⟩
  rintro st ⟨cs',H3,z,hS,hSp,rfl⟩
  subst hpe
  have hi3:H3[i]? =some (.cells cs2 k2):=hS.frm.get hi (by simp)
  have hb3:=hS.hb
  have hx3:=hS.hx
  have hr3:=hS.hr
  have hk03:Kept H H3:=Kept.frm hS.frm (fun x hx=>by cases hx)
  have hRx3:=hRx.kept hk03
  have hO3:=hS.own
  have hc5:=hO3.len
  have hcf:=hO3.flat
  obtain ⟨vk,vs,css,rfl,hp1,hL,hp3⟩:=id hO3
  rw [h8]
  have hcl:=hL.len
  have hc55:=hL.all5
  obtain ⟨q1,z1,rfl,hq1,hz1,hlo1⟩:=id hp1
  obtain ⟨q2,z2,rfl,hq2,hz2,hlo2⟩:=id hp3
  have hr3':=hr3
  unfold zeroO at hr3'
  have hbl3:=lt_of_get hr3
  have hbl3b:=lt_of_get hb3
  have hk3':(v.kind==3)=false:=by rw [hk4];rfl
  have hkll:(keyC v.keys).length=v.keys.length:=keyC_len _
  have hasc:=(form_asc' hok.form hk4).1
  have hkk:=(form_asc' hok.form hk4).2
  have hlow:=low_lowAt t hasc
  have hkle:=hok.keys_le
  obtain ⟨at',hat'⟩:∃at',at'=lowAt v.keys t:=⟨_,rfl⟩
  rw [← hat'] at hlow
  have h80:((8:Int)==0)=false:=rfl
  have h88:((8:Int) != 8)=false:=rfl
  have hkl:¬((([]:List Tx).length+1:Nat):Int)>1:=by decide
  have hkat:∀j (hj:j<v.keys.length),(strsC v.keys)[j]? =some (.string (bs v.keys[j])):=fun j hj=>by unfold strsC;rw [List.getElem?_map,List.getElem?_eq_getElem hj];rfl
  rw [strs_flat] at hq2
  repeat first|with_reducible refine AWP.seqE (x:= .block _ _) (fun st=>st=⟨[(12,.int .i64 (at':Nat)),(1,.slice (some ⟨i,o2,none⟩) (([]:List Tx).length+1) cap2),(3,.pointer (some ⟨H.length,0,none⟩)),(5,.pointer (some ⟨H.length+1,0,none⟩)),(6,.pointer (some ⟨H.length+2,0,none⟩)),(7,.int .i64 0)],[],H3⟩) ?_ ?_|with_reducible refine kc ?_|((with_reducible first|refine kr ?_ ?_|refine kt ?_ ?_);exact rfl)|((with_reducible refine kf ?_ ?_);exact rfl)|simp only [go_sem,sevalprocAttr,reduceCtorEq,h80,h88,hkl,hk3',hb3]|simp (disch:=omega) only [wz]
  ·have hale:=hlow.le
   have hq0:(0:Int)<((([]:List Tx).length+1:Nat):Int):=by decide
   have hb4:∀x y z u w:Value,([x,y,z,u,w]:List Value)[4]? =some w:=fun _ _ _ _ _=>rfl
   refine AWP.loopP (fun j:Nat=>⟨[(12,.int .i64 (j:Nat)),(1,.slice (some ⟨i,o2,none⟩) (([]:List Tx).length+1) cap2),(3,.pointer (some ⟨H.length,0,none⟩)),(5,.pointer (some ⟨H.length+1,0,none⟩)),(6,.pointer (some ⟨H.length+2,0,none⟩)),(7,.int .i64 0)],[],H3⟩)
    (fun j=>j≤at') (fun j=>at' - j) 0 ?_ (Nat.zero_le _) ?_
   ·exact Weak.env (by simp [envIn,lk_cons,wth_some])
   rintro j hj
   by_cases hlt:j<at'
   ·have hjk:j<v.keys.length:=by omega
    have hlt':(j:Int)<((keyC v.keys).length:Int):=by omega
    have hkj:=hkat j hjk
    have hls:=hlow.lo j _ hlt (List.getElem?_eq_getElem hjk)
    have hwj:IntKind.i64.wrap ((j:Int)+1)=((j+1:Nat):Int):=by rw [wi64 (by omega)];omega
    generalize v.keys[j]=kj at*
    repeat first|with_reducible refine kc ?_|((with_reducible first|refine kr ?_ ?_|refine kt ?_ ?_);exact rfl)|((with_reducible refine kf ?_ ?_);exact rfl)|simp only [go_sem,sevalprocAttr,reduceCtorEq]|simp (disch:=omega) only [wz]
    refine AWP.regionK 14 (by kernel_rfl) (by decide) (by kernel_rfl) ?_
    repeat first|with_reducible refine kc ?_|((with_reducible first|refine kr ?_ ?_|refine kt ?_ ?_);exact rfl)|((with_reducible refine kf ?_ ?_);exact rfl)|simp only [go_sem,sevalprocAttr,reduceCtorEq,hb3,hlt',hq2,hkj,hi3,hat,hls,hwj]|simp (disch:=omega) only [wz]
    exact ⟨j+1,Weak.env (by simp [envIn,lk_cons,wth_some]),by omega,by omega⟩
   ·obtain rfl:j=at':=by omega
    by_cases hjk:j<v.keys.length
    ·have hlt':(j:Int)<((keyC v.keys).length:Int):=by omega
     have hkj:=hkat j hjk
     have hls:=hlow.hi j _ (Nat.le_refl _) (List.getElem?_eq_getElem hjk)
     generalize hgk:v.keys[j]=kj at*
     repeat first|with_reducible refine kc ?_|((with_reducible first|refine kr ?_ ?_|refine kt ?_ ?_);exact rfl)|((with_reducible refine kf ?_ ?_);exact rfl)|simp only [go_sem,sevalprocAttr,reduceCtorEq]|simp (disch:=omega) only [wz]
     refine AWP.regionK 14 (by kernel_rfl) (by decide) (by kernel_rfl) ?_
     repeat first|with_reducible refine kc ?_|((with_reducible first|refine kr ?_ ?_|refine kt ?_ ?_);exact rfl)|((with_reducible refine kf ?_ ?_);exact rfl)|simp only [go_sem,sevalprocAttr,reduceCtorEq,hb3,hlt',hq2,hkj,hi3,hat,hls]|simp (disch:=omega) only [wz]
     first|exact ⟨_,rfl,Weak.env (by simp [envIn,lk_cons,wth_some])⟩|exact Weak.env (by simp [envIn,lk_cons,wth_some])
    ·have hlt':¬(j:Int)<((keyC v.keys).length:Int):=by omega
     repeat first|with_reducible refine kc ?_|((with_reducible first|refine kr ?_ ?_|refine kt ?_ ?_);exact rfl)|((with_reducible refine kf ?_ ?_);exact rfl)|simp only [go_sem,sevalprocAttr,reduceCtorEq]|simp (disch:=omega) only [wz]
     refine AWP.regionK 14 (by kernel_rfl) (by decide) (by kernel_rfl) ?_
     repeat first|with_reducible refine kc ?_|((with_reducible first|refine kr ?_ ?_|refine kt ?_ ?_);exact rfl)|((with_reducible refine kf ?_ ?_);exact rfl)|simp only [go_sem,sevalprocAttr,reduceCtorEq,hb3,hlt',exists_eq_left]|simp (disch:=omega) only [wz]
     first|exact ⟨_,rfl,Weak.env (by simp [envIn,lk_cons,wth_some])⟩|exact Weak.env (by simp [envIn,lk_cons,wth_some])
  rintro st rfl
  refine AWP.seqE (InsK H at' q2 v.keys t (fun u=> [.int .i64 v.kind,.int .i64 v.num,.string (bs v.text),.slice (some ⟨q1,0,none⟩) css.length css.length,u]) H3) ?_ ?_
  ·have hale:=hlow.le
   have hkf:=strsC_flat v.keys
   have hsl:=strsC_len v.keys
   have hz21:z2=1∨z2=0:=by rcases hz2 with ⟨h,_⟩|⟨h,_⟩<;> simp [h]
   have hdl:(List.drop at' (strsC v.keys)).length=v.keys.length - at':=by rw [List.length_drop,hsl]
   have htkd:List.take (v.keys.length - at') (List.drop at' (strsC v.keys))=List.drop at' (strsC v.keys):=List.take_of_length_le (by omega)
   have hdf:(List.drop at' (strsC v.keys)).all Go.Aw.flat=true:=List.all_eq_true.2 fun y hy=>List.all_eq_true.1 hkf y (List.mem_of_mem_drop hy)
   refine AWP.regionU 16 (fun _=>none) (BL [(12,.int .i64 (at':Nat)),(1,.slice (some ⟨i,o2,none⟩) (([]:List Tx).length+1) cap2),(3,.pointer (some ⟨H.length,0,none⟩)),(5,.pointer (some ⟨H.length+1,0,none⟩)),(6,.pointer (some ⟨H.length+2,0,none⟩)),(7,.int .i64 0)] [H.length,q2] H3) (RV tmI (QI H3.length H.length i o2 at' q2 (.slice (some ⟨i,o2,none⟩) (([]:List Tx).length+1) cap2) v.keys t (fun u=> [.int .i64 v.kind,.int .i64 v.num,.string (bs v.text),.slice (some ⟨q1,0,none⟩) css.length css.length,u])))
    (UI H.length q2 (.cells (strsC v.keys) ⟨9,z2,true,0,none⟩) (.cells [.int .i64 v.kind,.int .i64 v.num,.string (bs v.text),.slice (some ⟨q1,0,none⟩) css.length css.length,.slice (some ⟨q2,0,none⟩) (keyC v.keys).length (keyC v.keys).length] ⟨27,0,true,0,none⟩)) (by kernel_rfl) (by kernel_rfl) (by kernel_rfl) (BL.of (by simp [envIn,lk_cons,wth_some]) (Frm.refl _ _)) (fun a _=>by
     unfold UI
     split
     ·exact hq2
     ·exact hb3
     ·trivial) ⟨?_,?_,?_,?_,?_,?_,?_,?_,?_,?_,?_,?_,?_,?_,?_,?_,?_,trivial⟩ ?_
   ·intro E HE hB hd hu
    have b3:lk 3 E=some (.pointer (some ⟨H.length,0,none⟩)):=hB.1 _ _ (by simp)
    simp only [go_sem,sevalprocAttr,reduceCtorEq,b3]
    exact QI.more (j:=0) (by decide) (by kernel_rfl) (by kernel_rfl) hB (by rfl) (Frm.refl _ _) rfl
   ·intro E HE hB hd hu
    obtain ⟨_,g1,rfl⟩:=hd 0 (by decide) (.inl rfl)
    have g1:lk 97 E=_:=g1
    have hbe:HE[H.length]? =some (.cells [.int .i64 v.kind,.int .i64 v.num,.string (bs v.text),.slice (some ⟨q1,0,none⟩) css.length css.length,.slice (some ⟨q2,0,none⟩) (keyC v.keys).length (keyC v.keys).length] ⟨27,0,true,0,none⟩):=hu 16 (by decide) (.inr (by decide))
    simp only [go_sem,sevalprocAttr,reduceCtorEq,g1,hbe]
    exact QI.more (j:=1) (by decide) (by kernel_rfl) (by kernel_rfl) hB (by rfl) (Frm.refl _ _) rfl
   ·intro E HE hB hd hu
    have b12:lk 12 E=some (.int .i64 (at':Nat)):=hB.1 _ _ (by simp)
    simp only [go_sem,sevalprocAttr,reduceCtorEq,b12]
    exact QI.more (j:=2) (by decide) (by kernel_rfl) (by kernel_rfl) hB (by rfl) (Frm.refl _ _) rfl
   ·intro E HE hB hd hu
    have b12:lk 12 E=some (.int .i64 (at':Nat)):=hB.1 _ _ (by simp)
    simp only [go_sem,sevalprocAttr,reduceCtorEq,b12]
    exact QI.more (j:=3) (by decide) (by kernel_rfl) (by kernel_rfl) hB (by rfl) (Frm.refl _ _) rfl
   ·intro E HE hB hd hu
    obtain ⟨_,g1,rfl⟩:=hd 1 (by decide) (.inl rfl)
    have g1:lk 98 E=_:=g1
    obtain ⟨_,g2,rfl⟩:=hd 2 (by decide) (.inl rfl)
    have g2:lk 99 E=_:=g2
    obtain ⟨_,g3,rfl⟩:=hd 3 (by decide) (.inl rfl)
    have g3:lk 100 E=_:=g3
    simp only [go_sem,sevalprocAttr,reduceCtorEq,g1,g2,g3,ite_self]
    refine ⟨by omega,by omega,rfl,?_⟩
    exact QI.more (j:=4) (by decide) (by kernel_rfl) (by kernel_rfl) hB (by rfl) (Frm.refl _ _) rfl
   ·intro E HE hB hd hu
    have b1:lk 1 E=some (.slice (some ⟨i,o2,none⟩) (([]:List Tx).length+1) cap2):=hB.1 _ _ (by simp)
    simp only [go_sem,sevalprocAttr,reduceCtorEq,b1]
    exact QI.more (j:=5) (by decide) (by kernel_rfl) (by kernel_rfl) hB (by rfl) (Frm.refl _ _) rfl
   ·intro E HE hB hd hu
    obtain ⟨_,g1,rfl⟩:=hd 5 (by decide) (.inl rfl)
    have g1:lk 102 E=_:=g1
    simp only [go_sem,sevalprocAttr,reduceCtorEq,g1]
    exact QI.more (j:=6) (by decide) (by kernel_rfl) (by kernel_rfl) hB (by rfl) (Frm.refl _ _) rfl
   ·intro E HE hB hd hu
    obtain ⟨_,g1,rfl⟩:=hd 6 (by decide) (.inl rfl)
    have g1:lk 103 E=_:=g1
    have hil:=lt_of_get hi
    have hie:=hB.2.get hi3 (by simp only [List.mem_cons,List.not_mem_nil,or_false];omega)
    simp only [go_sem,sevalprocAttr,reduceCtorEq,g1,hie,hat]
    exact QI.more (j:=7) (by decide) (by kernel_rfl) (by kernel_rfl) hB (by rfl) (Frm.refl _ _) rfl
   ·intro E HE hB hd hu
    obtain ⟨_,g1,rfl⟩:=hd 7 (by decide) (.inl rfl)
    have g1:lk 104 E=_:=g1
    simp only [go_sem,sevalprocAttr,reduceCtorEq,g1]
    exact QI.more (j:=8) (by decide) (by kernel_rfl) (by kernel_rfl) hB (by rfl) Frm.app ⟨HE.length,rfl,by rw [hget0 rfl];rfl,hB.2.1⟩
   ·intro E HE hB hd hu
    have b3:lk 3 E=some (.pointer (some ⟨H.length,0,none⟩)):=hB.1 _ _ (by simp)
    simp only [go_sem,sevalprocAttr,reduceCtorEq,b3]
    exact QI.more (j:=9) (by decide) (by kernel_rfl) (by kernel_rfl) hB (by rfl) (Frm.refl _ _) rfl
   ·intro E HE hB hd hu
    obtain ⟨_,g1,rfl⟩:=hd 9 (by decide) (.inl rfl)
    have g1:lk 106 E=_:=g1
    have hbe:HE[H.length]? =some (.cells [.int .i64 v.kind,.int .i64 v.num,.string (bs v.text),.slice (some ⟨q1,0,none⟩) css.length css.length,.slice (some ⟨q2,0,none⟩) (keyC v.keys).length (keyC v.keys).length] ⟨27,0,true,0,none⟩):=hu 16 (by decide) (.inr (by decide))
    simp only [go_sem,sevalprocAttr,reduceCtorEq,g1,hbe]
    exact QI.more (j:=10) (by decide) (by kernel_rfl) (by kernel_rfl) hB (by rfl) (Frm.refl _ _) rfl
   ·intro E HE hB hd hu
    have b12:lk 12 E=some (.int .i64 (at':Nat)):=hB.1 _ _ (by simp)
    simp only [go_sem,sevalprocAttr,reduceCtorEq,b12]
    exact QI.more (j:=11) (by decide) (by kernel_rfl) (by kernel_rfl) hB (by rfl) (Frm.refl _ _) rfl
   ·intro E HE hB hd hu
    obtain ⟨_,g1,rfl⟩:=hd 10 (by decide) (.inl rfl)
    have g1:lk 107 E=_:=g1
    obtain ⟨_,g2,rfl⟩:=hd 11 (by decide) (.inl rfl)
    have g2:lk 108 E=_:=g2
    have hqe:HE[q2]? =some (.cells (strsC v.keys) ⟨9,z2,true,0,none⟩):=hu 14 (by decide) (.inr (by decide))
    simp only [go_sem,sevalprocAttr,reduceCtorEq,g1,g2,hqe,tight]
    rw [hkll]
    refine ⟨by omega,by omega,hz21,?_⟩
    exact QI.more (j:=12) (by decide) (by kernel_rfl) (by kernel_rfl) hB (by rfl) (Frm.refl _ _) rfl
   ·intro E HE hB hd hu
    obtain ⟨_,g1,q,rfl,g2,g3⟩:=hd 8 (by decide) (.inl rfl)
    have g1:lk 105 E=_:=g1
    obtain ⟨_,g4,rfl⟩:=hd 12 (by decide) (.inl rfl)
    have g4:lk 109 E=_:=g4
    have hqe:HE[q2]? =some (.cells (strsC v.keys) ⟨9,z2,true,0,none⟩):=hu 14 (by decide) (.inr (by decide))
    simp only [go_sem,sevalprocAttr,reduceCtorEq,g1,g4,hqe]
    rw [htkd]
    refine ⟨by omega,hdf,hdl,?_⟩
    refine app_head (by decide) g2 rfl g3 hB.2.1 (by rw [Nat.mul_one];exact hdl) (by omega) (by omega) fun q' z X h1 h2 h3=> ?_
    exact QI.more (j:=13) (by decide) (by kernel_rfl) (by kernel_rfl) hB (by rfl) Frm.app ⟨q',z,rfl,h3,h1,h2⟩
   ·intro E HE hB hd hu
    obtain ⟨_,g1,rfl⟩:=hd 4 (by decide) (.inl rfl)
    have g1:lk 101 E=_:=g1
    obtain ⟨_,g2,q,z,rfl,g3,g4,g5⟩:=hd 13 (by decide) (.inl rfl)
    have g2:lk 110 E=_:=g2
    have hqe:HE[q2]? =some (.cells (strsC v.keys) ⟨9,z2,true,0,none⟩):=hu 14 (by decide) (.inl rfl)
    simp only [go_sem,sevalprocAttr,reduceCtorEq,g1,g2,g3,hqe]
    rw [htkd]
    refine ⟨by omega,hdf,hdl,?_⟩
    refine app_cut (by decide) hqe hz21 (by omega) (by omega) (by omega) (by omega) fun H2' h2=> ?_
    rw [show at'+(v.keys.length - at'+1)=v.keys.length+1 by omega,show List.take (at'*1) (strsC v.keys)++(Value.string (bs t)::List.drop at' (strsC v.keys))=strsC (insAt v.keys at' t) from strs_ins' v.keys at' t]
    have hl2':H2'.length=HE.length:=by
     rcases h2 with rfl|rfl
     ·rfl
     ·rw [List.length_set]
    have hkeep:∀(r:Nat) (o:AObj),r≠q2→HE[r]? =some o→(H2'++ [.cells (strsC (insAt v.keys at' t)) ⟨9,1,true,0,none⟩])[r]? =some o:=fun r o hr ho=>by
     rw [hgetl (by rw [hl2'];exact lt_of_get ho)]
     rcases h2 with rfl|rfl
     ·exact ho
     ·rw [List.getElem?_set_ne (Ne.symm hr)];exact ho
    have hfc2:Frm [H.length,q2] H3 H2':=by
     rcases h2 with rfl|rfl
     ·exact hB.2
     ·exact Frm.set hB.2 (.inl (by simp))
    have hq2l:=lt_of_get hq2
    exact UPost.put (tm:=tmI) (j:=14) (by kernel_rfl) hB (by rfl) hfc2.more ⟨HE.length,rfl,by rw [hget0 hl2'];rfl,hB.2.1⟩ (fun a w _ h1 _ hb h=>QI.pres (fun e=>by rw [e] at hb;exact hb (by decide)) h (fun r o hr ho=>hkeep r o (by omega) ho)) (fun a _ h1 h=>UI.pres h (fun e=>absurd e h1) (fun _ ho=>hkeep _ _ (by omega) ho))
   ·intro E HE hB hd hu
    have b3:lk 3 E=some (.pointer (some ⟨H.length,0,none⟩)):=hB.1 _ _ (by simp)
    simp only [go_sem,sevalprocAttr,reduceCtorEq,b3]
    exact QI.more (j:=15) (by decide) (by kernel_rfl) (by kernel_rfl) hB (by rfl) (Frm.refl _ _) rfl
   ·intro E HE hB hd hu
    obtain ⟨_,g1,q,rfl,g2,g3⟩:=hd 14 (by decide) (.inl rfl)
    have g1:lk 111 E=_:=g1
    obtain ⟨_,g4,rfl⟩:=hd 15 (by decide) (.inl rfl)
    have g4:lk 112 E=_:=g4
    have hbe:HE[H.length]? =some (.cells [.int .i64 v.kind,.int .i64 v.num,.string (bs v.text),.slice (some ⟨q1,0,none⟩) css.length css.length,.slice (some ⟨q2,0,none⟩) (keyC v.keys).length (keyC v.keys).length] ⟨27,0,true,0,none⟩):=hu 16 (by decide) (.inl rfl)
    have hbl:=lt_of_get hbe
    simp only [go_sem,sevalprocAttr,reduceCtorEq,g1,g4,hbe,hbl,List.set_cons_succ,List.set_cons_zero]
    have hq2l:=lt_of_get hq2
    have hkeep:∀(r:Nat) (o o':AObj),r≠H.length→HE[r]? =some o→(HE.set H.length o')[r]? =some o:=fun r o o' hr ho=>by rw [List.getElem?_set_ne (Ne.symm hr)];exact ho
    exact UPost.none hB (Frm.set hB.2 (.inl (by simp))) ⟨_,g1,q,rfl,hkeep _ _ _ (by omega) g2,g3,List.getElem?_set_self hbl⟩ (fun a w _ h1 _ _ h=>QI.pres h1 h (fun r o hr ho=>hkeep r o _ (by omega) ho)) (fun a _ h1 h=>UI.pres h (fun _ ho=>hkeep _ _ _ (by omega) ho) (fun e=>absurd e h1))
   ·intro E HE hB hd
    obtain ⟨_,g1,q,rfl,g2,g3,g4⟩:=hd 16 (by decide) rfl
    have b12:lk 12 E=some (.int .i64 (at':Nat)):=hB.1 _ _ (by simp)
    have b3:lk 3 E=some (.pointer (some ⟨H.length,0,none⟩)):=hB.1 _ _ (by simp)
    have b5:lk 5 E=some (.pointer (some ⟨H.length+1,0,none⟩)):=hB.1 _ _ (by simp)
    have b6:lk 6 E=some (.pointer (some ⟨H.length+2,0,none⟩)):=hB.1 _ _ (by simp)
    have b7:lk 7 E=some (.int .i64 0):=hB.1 _ _ (by simp)
    exact ⟨_,⟨q,HE,hB.2,g2,g3,g4,rfl⟩,Weak.env (by simp [envIn,wth_some,b12,b3,b5,b6,b7])⟩
  rintro st ⟨q,H5,hf5,hq5,hlq,hb5,rfl⟩
  have hq1l:=lt_of_get hq1
  have hl35:=hf5.1
  have hq12:q1≠q2:=fun e=>by
   rw [e,hq2] at hq1
   injection hq1 with h
   injection h with _ h
   injection h with h
   cases h
  have hq15:=hf5.get hq1 (by simp only [List.mem_cons,List.not_mem_nil,or_false];omega)
  have hx5':=hf5.get hx3 (by simp only [List.mem_cons,List.not_mem_nil,or_false];omega)
  have hr5':=hf5.get hr3' (by simp only [List.mem_cons,List.not_mem_nil,or_false];omega)
  refine AWP.seqE (InsK2 H at' q1 css csx (fun u=> [.int .i64 v.kind,.int .i64 v.num,.string (bs v.text),u,.slice (some ⟨q,0,none⟩) (v.keys.length+1) (v.keys.length+1)]) H5) ?_ ?_
  ·have hale:=hlow.le
   have hcf:=flat_len hc55
   have hkf:=RdL_flats hL
   have hkkl:css.length=v.keys.length:=by rw [hcl];exact hkk.symm
   have hz15:z1=5∨z1=0:=by rcases hz1 with ⟨h,_⟩|⟨h,_⟩<;> simp [h]
   have hdl:(List.drop (at'*5) css.flatten).length=(css.length - at')*5:=by rw [List.length_drop,hcf];omega
   have htkd:List.take ((css.length - at')*5) (List.drop (at'*5) css.flatten)=List.drop (at'*5) css.flatten:=List.take_of_length_le (by omega)
   have hdf:(List.drop (at'*5) css.flatten).all Go.Aw.flat=true:=List.all_eq_true.2 fun y hy=>List.all_eq_true.1 hkf y (List.mem_of_mem_drop hy)
   have hput5:putCells [Value.int .i64 0,.int .i64 0,.string (bs []),.slice none 0 0,.slice none 0 0] 0 csx=csx:=putCells_all (by rw [hr5x];rfl)
   refine AWP.regionU 14 (fun _=>none) (BL [(12,.int .i64 (at':Nat)),(3,.pointer (some ⟨H.length,0,none⟩)),(5,.pointer (some ⟨H.length+1,0,none⟩)),(6,.pointer (some ⟨H.length+2,0,none⟩)),(7,.int .i64 0)] [H.length,q1] H5) (RV tmJ (QJ H5.length H.length at' q1 css csx (fun u=> [.int .i64 v.kind,.int .i64 v.num,.string (bs v.text),u,.slice (some ⟨q,0,none⟩) (v.keys.length+1) (v.keys.length+1)])))
    (UJ H.length q1 (.cells css.flatten ⟨27,z1,true,0,none⟩) (.cells [.int .i64 v.kind,.int .i64 v.num,.string (bs v.text),.slice (some ⟨q1,0,none⟩) css.length css.length,.slice (some ⟨q,0,none⟩) (v.keys.length+1) (v.keys.length+1)] ⟨27,0,true,0,none⟩)) (by kernel_rfl) (by kernel_rfl) (by kernel_rfl) (BL.of (by simp [envIn,lk_cons,wth_some]) (Frm.refl _ _)) (fun a _=>by
     unfold UJ
     split
     ·exact hq15
     ·exact hb5
     ·trivial) ⟨?_,?_,?_,?_,?_,?_,?_,?_,?_,?_,?_,?_,?_,?_,?_,trivial⟩ ?_
   ·intro E HE hB hd hu
    have b3:lk 3 E=some (.pointer (some ⟨H.length,0,none⟩)):=hB.1 _ _ (by simp)
    simp only [go_sem,sevalprocAttr,reduceCtorEq,b3]
    exact QJ.more (j:=0) (by decide) (by kernel_rfl) (by kernel_rfl) hB (by rfl) (Frm.refl _ _) rfl
   ·intro E HE hB hd hu
    obtain ⟨_,g1,rfl⟩:=hd 0 (by decide) (.inl rfl)
    have g1:lk 113 E=_:=g1
    have hbe:HE[H.length]? =some (.cells [.int .i64 v.kind,.int .i64 v.num,.string (bs v.text),.slice (some ⟨q1,0,none⟩) css.length css.length,.slice (some ⟨q,0,none⟩) (v.keys.length+1) (v.keys.length+1)] ⟨27,0,true,0,none⟩):=hu 14 (by decide) (.inr (by decide))
    simp only [go_sem,sevalprocAttr,reduceCtorEq,g1,hbe]
    exact QJ.more (j:=1) (by decide) (by kernel_rfl) (by kernel_rfl) hB (by rfl) (Frm.refl _ _) rfl
   ·intro E HE hB hd hu
    have b12:lk 12 E=some (.int .i64 (at':Nat)):=hB.1 _ _ (by simp)
    simp only [go_sem,sevalprocAttr,reduceCtorEq,b12]
    exact QJ.more (j:=2) (by decide) (by kernel_rfl) (by kernel_rfl) hB (by rfl) (Frm.refl _ _) rfl
   ·intro E HE hB hd hu
    have b12:lk 12 E=some (.int .i64 (at':Nat)):=hB.1 _ _ (by simp)
    simp only [go_sem,sevalprocAttr,reduceCtorEq,b12]
    exact QJ.more (j:=3) (by decide) (by kernel_rfl) (by kernel_rfl) hB (by rfl) (Frm.refl _ _) rfl
   ·intro E HE hB hd hu
    obtain ⟨_,g1,rfl⟩:=hd 1 (by decide) (.inl rfl)
    have g1:lk 114 E=_:=g1
    obtain ⟨_,g2,rfl⟩:=hd 2 (by decide) (.inl rfl)
    have g2:lk 115 E=_:=g2
    obtain ⟨_,g3,rfl⟩:=hd 3 (by decide) (.inl rfl)
    have g3:lk 116 E=_:=g3
    simp only [go_sem,sevalprocAttr,reduceCtorEq,g1,g2,g3,ite_self]
    refine ⟨by omega,by omega,rfl,?_⟩
    exact QJ.more (j:=4) (by decide) (by kernel_rfl) (by kernel_rfl) hB (by rfl) (Frm.refl _ _) rfl
   ·intro E HE hB hd hu
    have b5:lk 5 E=some (.pointer (some ⟨H.length+1,0,none⟩)):=hB.1 _ _ (by simp)
    have hxe:=hB.2.get hx5' (by simp only [List.mem_cons,List.not_mem_nil,or_false];omega)
    simp only [go_sem,sevalprocAttr,reduceCtorEq,b5,hxe,htk5x,hr5x]
    exact QJ.more (j:=5) (by decide) (by kernel_rfl) (by kernel_rfl) hB (by rfl) (Frm.refl _ _) rfl
   ·intro E HE hB hd hu
    obtain ⟨_,g1,rfl⟩:=hd 5 (by decide) (.inl rfl)
    have g1:lk 118 E=_:=g1
    simp only [go_sem,sevalprocAttr,reduceCtorEq,g1,hr5x,hflx,hput5]
    exact QJ.more (j:=6) (by decide) (by kernel_rfl) (by kernel_rfl) hB (by rfl) Frm.app ⟨HE.length,rfl,by rw [hget0 rfl];rfl,hB.2.1⟩
   ·intro E HE hB hd hu
    have b3:lk 3 E=some (.pointer (some ⟨H.length,0,none⟩)):=hB.1 _ _ (by simp)
    simp only [go_sem,sevalprocAttr,reduceCtorEq,b3]
    exact QJ.more (j:=7) (by decide) (by kernel_rfl) (by kernel_rfl) hB (by rfl) (Frm.refl _ _) rfl
   ·intro E HE hB hd hu
    obtain ⟨_,g1,rfl⟩:=hd 7 (by decide) (.inl rfl)
    have g1:lk 120 E=_:=g1
    have hbe:HE[H.length]? =some (.cells [.int .i64 v.kind,.int .i64 v.num,.string (bs v.text),.slice (some ⟨q1,0,none⟩) css.length css.length,.slice (some ⟨q,0,none⟩) (v.keys.length+1) (v.keys.length+1)] ⟨27,0,true,0,none⟩):=hu 14 (by decide) (.inr (by decide))
    simp only [go_sem,sevalprocAttr,reduceCtorEq,g1,hbe]
    exact QJ.more (j:=8) (by decide) (by kernel_rfl) (by kernel_rfl) hB (by rfl) (Frm.refl _ _) rfl
   ·intro E HE hB hd hu
    have b12:lk 12 E=some (.int .i64 (at':Nat)):=hB.1 _ _ (by simp)
    simp only [go_sem,sevalprocAttr,reduceCtorEq,b12]
    exact QJ.more (j:=9) (by decide) (by kernel_rfl) (by kernel_rfl) hB (by rfl) (Frm.refl _ _) rfl
   ·intro E HE hB hd hu
    obtain ⟨_,g1,rfl⟩:=hd 8 (by decide) (.inl rfl)
    have g1:lk 121 E=_:=g1
    obtain ⟨_,g2,rfl⟩:=hd 9 (by decide) (.inl rfl)
    have g2:lk 122 E=_:=g2
    have hqe:HE[q1]? =some (.cells css.flatten ⟨27,z1,true,0,none⟩):=hu 12 (by decide) (.inr (by decide))
    simp only [go_sem,sevalprocAttr,reduceCtorEq,g1,g2,hqe,tight]
    refine ⟨by omega,by omega,hz15,?_⟩
    exact QJ.more (j:=10) (by decide) (by kernel_rfl) (by kernel_rfl) hB (by rfl) (Frm.refl _ _) rfl
   ·intro E HE hB hd hu
    obtain ⟨_,g1,q',rfl,g2,g3⟩:=hd 6 (by decide) (.inl rfl)
    have g1:lk 119 E=_:=g1
    obtain ⟨_,g4,rfl⟩:=hd 10 (by decide) (.inl rfl)
    have g4:lk 123 E=_:=g4
    have hqe:HE[q1]? =some (.cells css.flatten ⟨27,z1,true,0,none⟩):=hu 12 (by decide) (.inr (by decide))
    simp only [go_sem,sevalprocAttr,reduceCtorEq,g1,g4,hqe]
    rw [htkd]
    refine ⟨by omega,hdf,hdl,?_⟩
    refine app_head (by decide) g2 hr5x g3 hB.2.1 hdl (by omega) (by omega) fun q2' z X h1 h2 h3=> ?_
    exact QJ.more (j:=11) (by decide) (by kernel_rfl) (by kernel_rfl) hB (by rfl) Frm.app ⟨q2',z,rfl,h3,h1,h2⟩
   ·intro E HE hB hd hu
    obtain ⟨_,g1,rfl⟩:=hd 4 (by decide) (.inl rfl)
    have g1:lk 117 E=_:=g1
    obtain ⟨_,g2,q',z,rfl,g3,g4,g5⟩:=hd 11 (by decide) (.inl rfl)
    have g2:lk 124 E=_:=g2
    have hqe:HE[q1]? =some (.cells css.flatten ⟨27,z1,true,0,none⟩):=hu 12 (by decide) (.inl rfl)
    simp only [go_sem,sevalprocAttr,reduceCtorEq,g1,g2,g3,hqe]
    rw [List.take_of_length_le (show (csx++List.drop (at'*5) css.flatten).length≤(css.length - at'+1)*5 by rw [List.length_append,hdl,hr5x];omega)]
    refine ⟨by rw [hdl,hr5x];omega,by rw [List.all_append,hflx,hdf];rfl,by rw [List.length_append,hdl,hr5x];omega,?_⟩
    refine app_cut (by decide) hqe hz15 (by omega) (by omega) (by omega) (by omega) fun H2' h2=> ?_
    rw [show at'+(css.length - at'+1)=css.length+1 by omega,←flat_ins css at' csx hc55]
    have hl2':H2'.length=HE.length:=by
     rcases h2 with rfl|rfl
     ·rfl
     ·rw [List.length_set]
    have hkeep:∀(r:Nat) (o:AObj),r≠q1→HE[r]? =some o→(H2'++ [.cells (insAt css at' csx).flatten ⟨27,5,true,0,none⟩])[r]? =some o:=fun r o hr ho=>by
     rw [hgetl (by rw [hl2'];exact lt_of_get ho)]
     rcases h2 with rfl|rfl
     ·exact ho
     ·rw [List.getElem?_set_ne (Ne.symm hr)];exact ho
    have hfc2:Frm [H.length,q1] H5 H2':=by
     rcases h2 with rfl|rfl
     ·exact hB.2
     ·exact Frm.set hB.2 (.inl (by simp))
    exact UPost.put (tm:=tmJ) (j:=12) (by kernel_rfl) hB (by rfl) hfc2.more ⟨HE.length,rfl,by rw [hget0 hl2'];rfl,hB.2.1⟩ (fun a w _ h1 _ hb h=>QJ.pres (fun e=>by rw [e] at hb;exact hb (by decide)) h (fun r o hr ho=>hkeep r o (by omega) ho)) (fun a _ h1 h=>UJ.pres h (fun e=>absurd e h1) (fun _ ho=>hkeep _ _ (by omega) ho))
   ·intro E HE hB hd hu
    have b3:lk 3 E=some (.pointer (some ⟨H.length,0,none⟩)):=hB.1 _ _ (by simp)
    simp only [go_sem,sevalprocAttr,reduceCtorEq,b3]
    exact QJ.more (j:=13) (by decide) (by kernel_rfl) (by kernel_rfl) hB (by rfl) (Frm.refl _ _) rfl
   ·intro E HE hB hd hu
    obtain ⟨_,g1,q',rfl,g2,g3⟩:=hd 12 (by decide) (.inl rfl)
    have g1:lk 125 E=_:=g1
    obtain ⟨_,g4,rfl⟩:=hd 13 (by decide) (.inl rfl)
    have g4:lk 126 E=_:=g4
    have hbe:HE[H.length]? =some (.cells [.int .i64 v.kind,.int .i64 v.num,.string (bs v.text),.slice (some ⟨q1,0,none⟩) css.length css.length,.slice (some ⟨q,0,none⟩) (v.keys.length+1) (v.keys.length+1)] ⟨27,0,true,0,none⟩):=hu 14 (by decide) (.inl rfl)
    have hbl:=lt_of_get hbe
    simp only [go_sem,sevalprocAttr,reduceCtorEq,g1,g4,hbe,hbl,List.set_cons_succ,List.set_cons_zero]
    have hkeep:∀(r:Nat) (o o':AObj),r≠H.length→HE[r]? =some o→(HE.set H.length o')[r]? =some o:=fun r o o' hr ho=>by rw [List.getElem?_set_ne (Ne.symm hr)];exact ho
    exact UPost.none hB (Frm.set hB.2 (.inl (by simp))) ⟨_,g1,q',rfl,hkeep _ _ _ (by omega) g2,g3,List.getElem?_set_self hbl⟩ (fun a w _ h1 _ _ h=>QJ.pres h1 h (fun r o hr ho=>hkeep r o _ (by omega) ho)) (fun a _ h1 h=>UJ.pres h (fun _ ho=>hkeep _ _ _ (by omega) ho) (fun e=>absurd e h1))
   ·intro E HE hB hd
    obtain ⟨_,g1,q',rfl,g2,g3,g4⟩:=hd 14 (by decide) rfl
    have b3:lk 3 E=some (.pointer (some ⟨H.length,0,none⟩)):=hB.1 _ _ (by simp)
    have b6:lk 6 E=some (.pointer (some ⟨H.length+2,0,none⟩)):=hB.1 _ _ (by simp)
    have b7:lk 7 E=some (.int .i64 0):=hB.1 _ _ (by simp)
    exact ⟨_,⟨q',HE,hB.2,g2,g3,g4,rfl⟩,Weak.env (by simp [envIn,wth_some,b3,b6,b7])⟩
  rintro st ⟨q',H6,hf6,hq6,hlq',hb6,rfl⟩
  have hl56:=hf6.1
  have hlH3:=hS.frm.1
  have hr6:=hf6.get hr5' (by simp only [List.mem_cons,List.not_mem_nil,or_false];omega)
  have hrl6:=lt_of_get hr6
  have hqlt:=lt_of_get hq5
  have hq56:H6[q]? =some (.cells (strsC (insAt v.keys at' t)) ⟨9,1,true,0,none⟩):=hf6.get hq5 (by simp only [List.mem_cons,List.not_mem_nil,or_false];omega)
  have hrs:∀o:AObj,(H6.set (H.length+2) o)[H.length+2]? =some o:=fun o=>List.getElem?_set_self hrl6
  have hRe:setL x v t=(withL v (insAt v.kids at' x) (insAt v.keys at' t),0):=by
   unfold setL
   rw [h8,if_neg (by decide),if_pos ⟨rfl,hk4⟩,hat']
  rw [hRe]
  repeat first|with_reducible refine kc ?_|((with_reducible first|refine kr ?_ ?_|refine kt ?_ ?_);exact rfl)|((with_reducible refine kf ?_ ?_);exact rfl)|simp only [go_sem,sevalprocAttr,reduceCtorEq,hb6,hr6,hrl6,hrs,putCells,List.set_cons_succ,List.set_cons_zero]|simp (disch:=omega) only [wz]
  have hF:∀(o:AObj) (j:Nat),j≠H.length+2→(H6.set (H.length+2) o)[j]? =H6[j]? :=fun o j h=>List.getElem?_set_ne (Ne.symm h)
  have hsm:∀j,j<H.length→H6[j]? =H[j]? :=fun j hj=>by
   rw [hf6.2 j (by omega) (by simp only [List.mem_cons,List.not_mem_nil,or_false];omega),hf5.2 j (by omega) (by simp only [List.mem_cons,List.not_mem_nil,or_false];omega)]
   exact hS.frm.2 j hj (by simp)
  have hkF:∀(o:AObj),Kept H3 (H6.set (H.length+2) o):=fun o=>by
   have k1:Kept H3 H5:=Kept.frm hf5 (fun s hs=>by
    simp only [List.mem_cons,List.not_mem_nil,or_false] at hs
    rcases hs with rfl|rfl
    ·exact ⟨_,_,hb3,rfl⟩
    ·exact ⟨_,_,hq2,rfl⟩)
   have k2:Kept H5 H6:=Kept.frm hf6 (fun s hs=>by
    simp only [List.mem_cons,List.not_mem_nil,or_false] at hs
    rcases hs with rfl|rfl
    ·exact ⟨_,_,hb5,rfl⟩
    ·exact ⟨_,_,hq15,rfl⟩)
   exact (k1.trans k2).trans (Kept.set hr6 rfl _)
  refine ⟨_,_,WeakV.fz [q',q] _,_,rfl,fz_frm ⟨by rw [List.length_set];omega,fun j hj hn=> ?_⟩ (fun s hs=>by
   simp only [List.mem_cons,List.not_mem_nil,or_false] at hs
   rcases hs with rfl|rfl<;> omega),?_⟩
  ·rw [hF _ j (by omega)];exact hsm j hj
  ·show RdV _ (withL v (insAt v.kids at' x) (insAt v.keys at' t)) _
   unfold withL
   unfold RdV
   have hale:=hlow.le
   have h5s:∀c∈insAt css at' csx,c.length=5:=fun c hc=>by
    unfold insAt at hc
    rcases List.mem_append.1 hc with h|h
    ·exact hc55 c (List.mem_of_mem_take h)
    ·rcases List.mem_cons.1 h with rfl|h
     ·exact hr5x
     ·exact hc55 c (List.mem_of_mem_drop h)
   refine ⟨_,_,insAt css at' csx,rfl,rd_rows (C:=[]) (k:=⟨27,5,true,0,none⟩) (by rw [List.append_nil,hF _ _ (by omega)];exact hq6) (.inl rfl) (by simp) h5s (ins_len _ _ _ (by omega)) (Nat.le_refl _),?_,?_⟩
   ·exact RdL.ins (hL.kept ((hkF _).trans (fz_kept _ _))) (hRx3.kept ((hkF _).trans (fz_kept _ _)))
   ·refine rd_rows (C:=[]) (k:=⟨9,1,true,0,none⟩) (by rw [List.append_nil,hF _ _ (by omega),strs_flat];exact hq56) (.inl rfl) (by simp) (keyC_len1 _) (by rw [keyC_len];exact ins_len _ _ _ hale) (Nat.le_refl _)
end Go.Proofs.YthcdjconlfdidaaGreatDoor
