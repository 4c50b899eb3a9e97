/-
 The walk of copied:the copy's lists are owned,and have names of their own.
-/
import Derived.Test.YthcdjconlfdidaaGreatDoorQAM
set_option linter.unusedVariables false
set_option linter.unusedSimpArgs false
set_option maxRecDepth 20000
set_option maxHeartbeats 4000000
namespace Go.Proofs.YthcdjconlfdidaaGreatDoor
open Go Go.Aw Go.Proofs
def CoqP (ex:Bool) (H:AHeap) (v:BV) (r:ARes) (H2:AHeap):Prop:=∃cs' S,r= .ret (.agg ⟨cs'⟩)∧Frm [] H H2∧OwnV ex H2 v cs' S∧S.Nodup∧∀s∈S,H.length≤s∧s<H2.length
def CoqJ (ex:Bool) (H:AHeap) (k n:Int) (s:List UInt8) (vk:Value) (keys:List Tx) (st:ASt):Prop:=
 ∃v' Sb Hc,KeyS ex Hc keys v' Sb∧Sb.Nodup∧ (∀ s∈Sb,H.length+2≤s∧s<Hc.length)∧Frm [] H Hc∧Hc[H.length]? =some (.cells [.int .i64 k,.int .i64 n,.string (bs s),vk,v'] ⟨27,0,true,0,none⟩)∧Hc[H.length+1]? =some (.cells [.int .i64 0,.int .i64 0,.string (bs []),.slice none 0 0,.slice none 0 0] ⟨27,0,true,0,none⟩)∧
  st=⟨[(1,.pointer (some ⟨H.length,0,none⟩)),(2,.pointer (some ⟨H.length+1,0,none⟩))],[],Hc⟩
structure CQp where
 i:Nat
 css:List (List Value)
 Sk:List Nat
 rest:List Value
 Hc:AHeap
def CQI (ex:Bool) (H:AHeap) (a:Nat) (Sb:List Nat) (k n:Int) (s:List UInt8) (vk v':Value) (kids:List BV) (keys:List Tx) (p:CQp):Prop:=
 p.i≤kids.length∧KeyS ex p.Hc keys v' Sb∧Frm [] H p.Hc∧p.Hc[H.length]? =some (.cells [.int .i64 k,.int .i64 n,.string (bs s),vk,v'] ⟨27,0,true,0,none⟩)∧p.Hc[H.length+1]? =some (.cells [.int .i64 0,.int .i64 0,.string (bs []),.slice none 0 0,.slice none 0 0] ⟨27,0,true,0,none⟩)∧
  p.Hc[a]? =some (.cells (p.css.flatten++p.rest) ⟨27,0,true,0,none⟩)∧OwnL ex p.Hc (kids.take p.i) p.css p.Sk∧p.Sk.Nodup∧ (∀ s∈p.Sk,a<s∧s<p.Hc.length)∧p.rest.length=(kids.length - p.i)*5
theorem copiedO (ex:Bool) (v:BV):szV v→∀(H:AHeap) (cs:List Value),RdV H v cs→AC Tryz.prog 34 [.agg ⟨cs⟩] H (CoqP ex H v):=by
 refine BV.ind (P:=fun v=>szV v→∀(H:AHeap) (cs:List Value),RdV H v cs→AC Tryz.prog 34 [.agg ⟨cs⟩] H (CoqP ex H v)) (fun k n s kids keys ih hsz H cs hR=> ?_) v
 unfold szV at hsz
 obtain ⟨hkd,hky,hszL⟩:=hsz
 have hfl:=RdV_flat hR
 have hr5:=hR.len
 unfold RdV at hR
 obtain ⟨vk,vs,css,rfl,h1,hL,h3⟩:=hR
 obtain ⟨H1,hH1⟩:∃H1:AHeap,H1=H++ [.cells [.int .i64 k,.int .i64 n,.string (bs s),vk,vs] ⟨27,0,true,0,none⟩,.cells [.int .i64 0,.int .i64 0,.string (bs []),.slice none 0 0,.slice none 0 0] ⟨27,0,true,0,none⟩]:=⟨_,rfl⟩
 have hb0:H1[H.length]? =some (.cells [.int .i64 k,.int .i64 n,.string (bs s),vk,vs] ⟨27,0,true,0,none⟩):=by rw [hH1,hget0 rfl];rfl
 have hb1:H1[H.length+1]? =some (.cells [.int .i64 0,.int .i64 0,.string (bs []),.slice none 0 0,.slice none 0 0] ⟨27,0,true,0,none⟩):=by rw [hH1,hgetk rfl];rfl
 have hl1:H1.length=H.length+2:=by rw [hH1];simp
 have hf1:Frm [] H H1:=by rw [hH1];exact Frm.app
 have hk1:Kept H H1:=by rw [hH1];exact .more _ _
 have hC:=CloneT keys (by omega) vs H1 (h3.kept hk1)
 have hcl:=hL.len
 have q1:∀H' K,lenW Tryz.prog 23 vk H' K=K (.int .i64 (kids.length:Nat)) H':=fun H' K=>by rw [h1.lenT (by simp only [go_sem,sevalprocAttr,reduceCtorEq]),hcl]
 refine AC.enter Tryz.func34 rfl (by kernel_rfl) 31 rfl [.cell 2 27] rfl (by simp) fun hsc B=> ?_
 repeat first|with_reducible refine AWP.seqE (x:= .region 1 _ _) (CoqJ ex H k n s vk keys) ?_ ?_|with_reducible refine kc ?_|((with_reducible first|refine kr ?_ ?_|refine kt ?_ ?_);exact rfl)|((with_reducible refine kf ?_ ?_);exact rfl)|simp only [go_sem,sevalprocAttr,reduceCtorEq,hfl,hr5]|simp (disch:=omega) only [wz]
 ·rw [← hH1]
  repeat first|with_reducible refine kc ?_|((with_reducible first|refine kr ?_ ?_|refine kt ?_ ?_);exact rfl)|((with_reducible refine kf ?_ ?_);exact rfl)|simp only [go_sem,sevalprocAttr,reduceCtorEq,hb0]|simp (disch:=omega) only [wz]
  refine AC.mono hC ?_
  rintro r H2 ⟨v',rfl,hO,hf2⟩
  have hb02:=hf2.get hb0 (by simp)
  have hb12:=hf2.get hb1 (by simp)
  have hf12:Frm [] H H2:=hf1.trans hf2 (fun x hx=>by cases hx)
  have hl2:=hf2.1
  rw [hl1] at hO
  repeat first|with_reducible refine kc ?_|((with_reducible first|refine kr ?_ ?_|refine kt ?_ ?_);exact rfl)|((with_reducible refine kf ?_ ?_);exact rfl)|simp only [go_sem,sevalprocAttr,reduceCtorEq]|simp (disch:=omega) only [wz]
  refine AC.mono (ClipS ex keys v' (H.length+2) H2 hO (by omega)) ?_
  rintro r H3 ⟨v2,Sb,rfl,hK3,hnd,hSb,hg3,hl3⟩
  have hb03:H3[H.length]? =some (.cells [.int .i64 k,.int .i64 n,.string (bs s),vk,vs] ⟨27,0,true,0,none⟩):=by rw [hg3 _ (by omega)];exact hb02
  have hb13:H3[H.length+1]? =some (.cells [.int .i64 0,.int .i64 0,.string (bs []),.slice none 0 0,.slice none 0 0] ⟨27,0,true,0,none⟩):=by rw [hg3 _ (by omega)];exact hb12
  have hfv:=hK3.flat
  have hcv:cellsOf v2=[v2]:=by rcases hK3 with ⟨_,rfl,_⟩|⟨_,_,rfl,_⟩<;> rfl
  have hal:H.length<H3.length:=by omega
  repeat first|with_reducible refine kc ?_|((with_reducible first|refine kr ?_ ?_|refine kt ?_ ?_);exact rfl)|((with_reducible refine kf ?_ ?_);exact rfl)|simp only [go_sem,sevalprocAttr,reduceCtorEq,hb03,hfv,hcv,hal,putCells,List.set_cons_succ,List.set_cons_zero]|simp (disch:=omega) only [wz]
  refine ⟨hfv,_,⟨v2,Sb,_,hK3.same (fun s hs=>List.getElem?_set_ne (by have:=hSb s hs;omega)) (Kept.set hb03 rfl _),hnd,fun s hs=>by rw [List.length_set];exact hSb s hs,?_,List.getElem?_set_self hal,?_,rfl⟩,Weak.env (by simp [envIn,lk_cons,wth_some])⟩
  ·refine ⟨by rw [List.length_set];omega,fun j hj hn=> ?_⟩
   rw [List.getElem?_set_ne (by omega),hg3 j (by omega)]
   exact hf12.2 j hj hn
  ·rw [List.getElem?_set_ne (by omega)];exact hb13
 rintro st ⟨v',Sb,Hc,hRK,hnd,hSb,hfc,hbx,hrs,rfl⟩
 have hlc:=lt_of_get hrs
 repeat first|with_reducible refine kc ?_|((with_reducible first|refine kr ?_ ?_|refine kt ?_ ?_);exact rfl)|((with_reducible refine kf ?_ ?_);exact rfl)|simp only [go_sem,sevalprocAttr,reduceCtorEq,hbx,q1,makeSliceW]|simp (disch:=omega) only [wz]
 refine ⟨by omega,by omega,?_⟩
 obtain ⟨a,ha⟩:∃a,a=Hc.length:=⟨_,rfl⟩
 obtain ⟨Hd,hHd⟩:∃Hd:AHeap,Hd=Hc++ [.cells (repZ kids.length [.int .i64 0,.int .i64 0,.string (bs []),.slice none 0 0,.slice none 0 0]) ⟨27,0,true,0,none⟩]:=⟨_,rfl⟩
 have had:Hd[a]? =some (.cells (repZ kids.length [.int .i64 0,.int .i64 0,.string (bs []),.slice none 0 0,.slice none 0 0]) ⟨27,0,true,0,none⟩):=by rw [hHd,ha,hget0 rfl];rfl
 have hbx1:Hd[H.length]? =some (.cells [.int .i64 k,.int .i64 n,.string (bs s),vk,v'] ⟨27,0,true,0,none⟩):=by rw [hHd,hgetl (by omega)];exact hbx
 have hrs1:Hd[H.length+1]? =some (.cells [.int .i64 0,.int .i64 0,.string (bs []),.slice none 0 0,.slice none 0 0] ⟨27,0,true,0,none⟩):=by rw [hHd,hgetl (by omega)];exact hrs
 have hkd1:Kept Hc Hd:=by rw [hHd];exact .more _ _
 rw [← hHd,←ha]
 repeat first|with_reducible refine kc ?_|((with_reducible first|refine kr ?_ ?_|refine kt ?_ ?_);exact rfl)|((with_reducible refine kf ?_ ?_);exact rfl)|simp only [go_sem,sevalprocAttr,reduceCtorEq,hbx1,q1]|simp (disch:=omega) only [wz]
 refine AWP.loopP (fun p:CQp=>⟨[(1,.pointer (some ⟨H.length,0,none⟩)),(2,.pointer (some ⟨H.length+1,0,none⟩)),(3,.slice (some ⟨a,0,none⟩) p.i kids.length),(16,vk),(17,.int .i64 (kids.length:Nat)),(18,.int .i64 (p.i:Nat))],[],p.Hc⟩)
  (CQI ex H a Sb k n s vk v' kids keys) (fun p=>kids.length - p.i) ⟨0,[],[],repZ kids.length [.int .i64 0,.int .i64 0,.string (bs []),.slice none 0 0,.slice none 0 0],Hd⟩ ?_ ⟨Nat.zero_le _,hRK.same (fun s hs=>by rw [hHd,hgetl (hSb s hs).2]) hkd1,?_,hbx1,hrs1,had,by dsimp only;rw [List.take_zero];unfold OwnL;exact ⟨rfl,rfl⟩,List.nodup_nil,fun s hs=>by simp at hs,by dsimp only;rw [repZ_length];simp⟩ ?_
 ·exact Weak.env (by simp [envIn,lk_cons,wth_some])
 ·rw [hHd];exact hfc.more
 rintro ⟨i,cs2,Sk,rest,Hx⟩ ⟨hi,hK,hf,hb,hr,hA,hRl,hnk,hSk,hrest⟩
 dsimp only at hi hK hf hb hr hA hRl hnk hSk hrest ⊢
 have hlx:=lt_of_get hr
 have halx:=lt_of_get hA
 have hkx:Kept H Hx:=Kept.frm hf (fun x hx=>by cases hx)
 have hc5:=hRl.all5
 have hcl2:cs2.length=i:=by rw [hRl.len,List.length_take];omega
 have hfl2:=flat_len hc5
 have hgeA:H.length+2≤a:=by omega
 by_cases hlt:i<kids.length
 ·have hlt':(i:Int)<(kids.length:Int):=by omega
  obtain ⟨r5,hr5',hRv⟩:=(hL.kept hkx).at_ (List.getElem?_eq_getElem hlt)
  obtain ⟨bi,off,cap,cs',k',rfl,hcap,hbi,hown,hesz,hle,htk⟩:=(h1.kept hkx).at_ hr5'
  have hlt2:(i:Int)<(css.length:Int):=by omega
  have hr55:=hRv.len
  have hfl5:=RdV_flat hRv
  have htk5:List.take 5 r5=r5:=List.take_of_length_le (by omega)
  have hput:putCells [.int .i64 0,.int .i64 0,.string (bs []),.slice none 0 0,.slice none 0 0] 0 r5=r5:=by
   match r5,hr55 with
   |[_,_,_,_,_],_=>rfl
  have hwi:IntKind.i64.wrap ((i:Int)+1)=((i+1:Nat):Int):=by rw [wi64 (by omega)];omega
  have hgk:kids[i]? =some kids[i]:=List.getElem?_eq_getElem hlt
  have hcall:=ih kids[i] (List.getElem_mem hlt) (szL_iff.1 hszL _ (List.getElem_mem hlt)) (Hx++ [.cells r5 ⟨27,0,true,0,none⟩]) r5 (hRv.kept (.more _ _))
  have htake:kids.take (i+1)=kids.take i++[kids[i]]:=by rw [List.take_add_one,hgk];rfl
  generalize kids[i]=v at*
  repeat first|with_reducible refine kc ?_|((with_reducible first|refine kr ?_ ?_|refine kt ?_ ?_);exact rfl)|((with_reducible refine kf ?_ ?_);exact rfl)|simp only [go_sem,sevalprocAttr,reduceCtorEq,hlt',hlt2,hbi,hle,htk,hr55,hfl5,htk5,hput]|simp (disch:=omega) only [wz]
  refine AC.mono hcall ?_
  rintro res H5 ⟨r6,S6,rfl,hf5,hR6,hn6,hS6⟩
  have hr65:=hR6.len
  have hfl6:=hR6.flat
  have htk6:List.take 5 r6=r6:=List.take_of_length_le (by omega)
  have hfx:Frm [] Hx H5:=Frm.trans Frm.app hf5 (fun x hx=>by cases hx)
  have hA5:=hfx.get hA (by simp)
  have hb5:=hfx.get hb (by simp)
  have hr5x:=hfx.get hr (by simp)
  have hal5:=lt_of_get hA5
  have hput6:putCells [.int .i64 0,.int .i64 0,.string (bs []),.slice none 0 0,.slice none 0 0] 0 r6=r6:=by
   match r6,hr65 with
   |[_,_,_,_,_],_=>rfl
  obtain ⟨H6,hH6⟩:∃H6:AHeap,H6=H5++ [.cells r6 ⟨27,0,true,0,none⟩]:=⟨_,rfl⟩
  have hf6:Frm [] Hx H6:=by rw [hH6];exact hfx.more
  have hA6:=hf6.get hA (by simp)
  have hb6:=hf6.get hb (by simp)
  have hr6x:=hf6.get hr (by simp)
  have hal6:=lt_of_get hA6
  have hk6:Kept Hx H6:=Kept.frm hf6 (fun x hx=>by cases hx)
  have hk56:Kept H5 H6:=by rw [hH6];exact .more _ _
  have hpr:=put_row (L:=cs2.flatten) (rest:=rest) (new:=r6) (n:=0+i*5) (by rw [hfl2,hcl2];omega) (by omega)
  repeat first|with_reducible refine kc ?_|((with_reducible first|refine kr ?_ ?_|refine kt ?_ ?_);exact rfl)|((with_reducible refine kf ?_ ?_);exact rfl)|simp only [go_sem,sevalprocAttr,reduceCtorEq,hr65,hfl6,htk6,hput6]|simp (disch:=omega) only [wz]
  rw [← hH6]
  refine appendTo_in hA6 (by decide) (by omega) rfl (Nat.zero_le _) (by rw [List.length_append,hfl2,hcl2];omega) ?_
  rw [hpr]
  obtain ⟨H7,hH7⟩:∃H7:AHeap,H7=H6.set a (.cells ((cs2.flatten++r6)++rest.drop r6.length) ⟨27,0,true,0,none⟩):=⟨_,rfl⟩
  have hk7:Kept H6 H7:=by rw [hH7];exact Kept.set hA6 rfl _
  rw [← hH7]
  repeat first|with_reducible refine kc ?_|((with_reducible first|refine kr ?_ ?_|refine kt ?_ ?_);exact rfl)|((with_reducible refine kf ?_ ?_);exact rfl)|simp only [go_sem,sevalprocAttr,reduceCtorEq,hwi]|simp (disch:=omega) only [wz]
  have hl67:H7.length=H5.length+1:=by rw [hH7,hH6];simp
  have hxl5:Hx.length+1≤H5.length:=by have:=hf5.1;simpa using this
  have s7:∀s,s<Hx.length→s≠a→H7[s]? =Hx[s]? :=fun s h1 h2=>by rw [hH7,List.getElem?_set_ne (Ne.symm h2)];exact hf6.2 s h1 (by simp)
  have s75:∀s,s<H5.length→s≠a→H7[s]? =H5[s]? :=fun s h1 h2=>by rw [hH7,List.getElem?_set_ne (Ne.symm h2),hH6,hgetl h1]
  have hS6':∀s∈S6,Hx.length+1≤s∧s<H5.length:=fun s hs=>by have:=hS6 s hs;simpa using this
  refine ⟨⟨i+1,cs2++[r6],Sk++S6,rest.drop r6.length,H7⟩,Weak.env (by simp [envIn,lk_cons,wth_some]),⟨hlt,hK.same (fun s hs=>s7 s (by have:=hSb s hs;omega) (by have:=hSb s hs;omega)) (hk6.trans hk7),?_,?_,?_,?_,?_,?_,?_,?_⟩,by dsimp only;omega⟩
  ·rw [hH7];exact Frm.set (hf.trans hf6 (fun x hx=>by cases hx)) (.inr (by omega))
  ·rw [hH7,List.getElem?_set_ne (by omega)];exact hb6
  ·rw [hH7,List.getElem?_set_ne (by omega)];exact hr6x
  ·rw [hH7,List.getElem?_set_self hal6,List.flatten_append];simp
  ·dsimp only
   rw [htake]
   exact (hRl.same (hk6.trans hk7) (fun s hs=>s7 s (hSk s hs).2 (by have:=(hSk s hs).1;omega))).snoc (hR6.same (hk56.trans hk7) (fun s hs=>s75 s (hS6' s hs).2 (by have:=(hS6' s hs).1;omega)))
  ·dsimp only
   rw [List.nodup_append]
   exact ⟨hnk,hn6,fun x hx y hy e=>by have h1:=(hSk x hx).2;have h2:=(hS6' y hy).1;omega⟩
  ·dsimp only
   intro s hs
   rcases List.mem_append.1 hs with h|h
   ·have:=hSk s h;omega
   ·have:=hS6' s h;omega
  ·dsimp only
   rw [List.length_drop,hr65,hrest];omega
 ·have hlt':¬(i:Int)<(kids.length:Int):=by omega
  obtain rfl:i=kids.length:=by omega
  have hrest0:rest=[]:=List.eq_nil_of_length_eq_zero (by rw [hrest,Nat.sub_self])
  subst hrest0
  rw [List.append_nil] at hA
  rw [List.take_length] at hRl
  have hfv:=hK.flat
  have hb6l:=lt_of_get hb
  have hr6l:=lt_of_get hr
  have gs:∀o:AObj,(Hx.set H.length o)[H.length]? =some o:=fun o=>List.getElem?_set_self hb6l
  have gn:∀o:AObj,(Hx.set H.length o)[H.length+1]? =Hx[H.length+1]? :=fun o=>List.getElem?_set_ne (by omega)
  repeat first|with_reducible refine kc ?_|((with_reducible first|refine kr ?_ ?_|refine kt ?_ ?_);exact rfl)|((with_reducible refine kf ?_ ?_);exact rfl)|simp only [go_sem,sevalprocAttr,reduceCtorEq,hlt',hb,hr,gs,gn,hb6l,hr6l,hfv,putCells,List.length_set,List.set_cons_succ,List.set_cons_zero]|simp (disch:=omega) only [wz]
  refine ⟨hfv,?_⟩
  have g2:∀o1 o2:AObj,((Hx.set H.length o1).set (H.length+1) o2)[H.length+1]? =some o2:=fun o1 o2=>List.getElem?_set_self (by rw [List.length_set];exact hr6l)
  repeat first|with_reducible refine kc ?_|((with_reducible first|refine kr ?_ ?_|refine kt ?_ ?_);exact rfl)|((with_reducible refine kf ?_ ?_);exact rfl)|simp only [go_sem,sevalprocAttr,reduceCtorEq,g2]|simp (disch:=omega) only [wz]
  have hk8:∀o1 o2:AObj,Kept Hx ((Hx.set H.length o1).set (H.length+1) o2):=fun o1 o2=>Kept.trans (Kept.set hb rfl _) (Kept.set (by rw [gn];exact hr) rfl _)
  have s8:∀(s:Nat) (o1 o2:AObj),H.length+2≤s→((Hx.set H.length o1).set (H.length+1) o2)[s]? =Hx[s]? :=fun s o1 o2 h=>by rw [List.getElem?_set_ne (by omega),List.getElem?_set_ne (by omega)]
  refine ⟨_,_,.refl _ _ _,_,a::(Sb++Sk),rfl,Frm.set (Frm.set hf (.inr (Nat.le_refl _))) (.inr (by omega)),?_,?_,?_⟩
  ·unfold OwnV
   exact ⟨_,a,cs2,Sb,Sk,rfl,by rw [s8 _ _ _ hgeA];exact hA,hK.same (fun s hs=>s8 s _ _ (hSb s hs).1) (hk8 _ _),hRl.same (hk8 _ _) (fun s hs=>s8 s _ _ (by have:=(hSk s hs).1;omega)),rfl⟩
  ·rw [List.nodup_cons,List.nodup_append]
   refine ⟨fun h=> ?_,hnd,hnk,fun x hx y hy e=>by have h1:=(hSb x hx).2;have h2:=(hSk y hy).1;omega⟩
   rcases List.mem_append.1 h with h|h
   ·have:=(hSb a h).2;omega
   ·have:=(hSk a h).1;omega
  ·intro s hs
   rw [List.length_set,List.length_set]
   rcases List.mem_cons.1 hs with rfl|hs
   ·omega
   ·rcases List.mem_append.1 hs with h|h
    ·have:=hSb s h;omega
    ·have:=hSk s h;omega
end Go.Proofs.YthcdjconlfdidaaGreatDoor
