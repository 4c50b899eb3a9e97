/-
 The law of BencMakes,walked.
-/
import Derived.Test.YthcdjconlfdidaaGreatDoorV9
set_option linter.unusedVariables false
set_option linter.unusedSimpArgs false
set_option maxRecDepth 20000
set_option maxHeartbeats 4000000
namespace Go.Proofs.YthcdjconlfdidaaGreatDoor
open Go Go.Aw Go.Proofs
def MJ (ok:Prop) (H:AHeap) (n:Int) (s:Tx) (kp vp:Value) (st:ASt):Prop:=
 ok∧∃Hc,Frm [] H Hc∧st=⟨[(0,.int .i64 n),(1,.string (bs s)),(2,kp),(3,vp)],[],Hc⟩
theorem put5' {c:List Value} (h:c.length=5):putCells [Value.int .i64 0,.int .i64 0,.string (bs []),.slice none 0 0,.slice none 0 0] 0 c=c:=putCells_all (by rw [h];rfl)
structure MLp where
 i:Nat
 Hc:AHeap
theorem app_heads {P:Program} {e m y q lo n a:Nat} {r news:List Value} {H:AHeap} {K:Value→AHeap→Prop} (hm:0<m) (hq:H[q]? =some (.cells r ⟨e,0,true,0,none⟩)) (hr:r.length=a*m) (hlo:lo≤q) (hl:lo≤H.length) (hn:news.length=n*m) (h1:(a+n)*y≤140737488355328) (h2:a+n≤1099511627776)
  (hk:∀(q' z:Nat) (X:AHeap),(z=m∨z=0)→lo≤q'→(H++X)[q']? =some (.cells (r++news) ⟨e,z,true,0,none⟩)→K (.slice (some ⟨q',0,none⟩) (a+n) (a+n)) (H++X)):appendTo P e m y (.slice (some ⟨q,0,none⟩) a a) n news H K:=by
 by_cases hn0:n=0
 ·subst hn0
  have hnil:news=[]:=List.eq_nil_of_length_eq_zero (by rw [hn,Nat.zero_mul])
  subst hnil
  unfold appendTo
  simp only [hq]
  refine ⟨fun _=>⟨fun _=> ?_,fun h=>absurd rfl h⟩,fun h=>absurd (Nat.le_refl a) h⟩
  have:=hk q 0 [] (.inr rfl) hlo (by rw [List.append_nil,List.append_nil];exact hq)
  rw [List.append_nil] at this
  exact this
 ·refine appendTo_x hq rfl (by omega) (by rw [Nat.zero_add,hr];exact Nat.le_refl _) h1 (by omega) ?_
  have e':List.take (a*m) (List.drop 0 r)++news=r++news:=by rw [List.drop_zero,List.take_of_length_le (by omega)]
  rw [e']
  exact hk H.length m _ (.inl rfl) hl (by rw [hget0 rfl];rfl)
def LJ (H:AHeap) (s:Tx) (l:List BV) (css:List (List Value)) (st:ASt):Prop:=
 ∃q z Hx eD eE,Frm [] H Hx∧RdV Hx (.mk 3 0 [] l []) eD∧RdV Hx (.mk 2 0 s [] []) eE∧Hx[q]? =some (.cells (eD::eE::css).flatten ⟨27,z,true,0,none⟩)∧(z=5∨z=0)∧H.length≤q∧st=⟨[(101,.slice (some ⟨q,0,none⟩) (2+l.length) (2+l.length)),(102,.int .i64 (2+l.length:Nat)),(103,.int .i64 0)],[],Hx⟩
theorem lawMakes (n:Int) (s:Tx) (keys:List Tx) (l:List BV) (hs:s.length<140737488355328) (hpl:keys.length<140737488355328) (hll:l.length<140737488355328) (hwl:wideL l) (hnl:BV.numsL l) (H:AHeap) (hG:GlobB H) (kp vp:Value) (cs0:List (List Value)) (hK:RdK H 1 kp (keyC keys)) (hV:RdK H 5 vp cs0) (hL:RdL H l cs0):
  AC Tryz.prog 3 [.int .i64 n,.string (bs s),kp,vp] H (fun r _=>r= .ret (.bool true)):=by
 have hcl:=hL.len
 have w2:∀H' K,lenW Tryz.prog 23 vp H' K=K (.int .i64 (l.length:Nat)) H':=fun H' K=>by rw [hV.lenT (by simp only [go_sem,sevalprocAttr,reduceCtorEq]),hcl]
 have hAw:∀H2,Frm [] H H2→ARet Tryz.prog 6 [] H2 (.bool true) H2:=fun H2 h=>AC.forget rfl (awake H2 (hG.frm h))
 have hA:=hAw H (Frm.refl _ _)
 have hS:=short keys hpl H kp hK
 have hnum:∀v∈l,v.nums:=BV.numsL_iff.1 hnl
 have hwid:∀v∈l,wideV v:=wideL_iff.1 hwl
 refine AC.enter Tryz.func3 rfl (by kernel_rfl) 147 rfl [.tmp 8] rfl (by simp) fun hsc B=> ?_
 repeat first|with_reducible refine AWP.seqE (x:= .seq (.region 1 _ _) _) (MJ (s.length≤70000∧shortB keys=true∧l.length≤20) H n s kp vp) ?_ ?_|with_reducible refine kc ?_|((with_reducible first|refine kr ?_ ?_|refine kt ?_ ?_);exact rfl)|((with_reducible refine kf ?_ ?_);exact rfl)|simp only [go_sem,sevalprocAttr,reduceCtorEq]|simp (disch:=omega) only [wz]
 ·by_cases h1:s.length≤70000
  ·have h1':¬(s.length:Int)>70000:=by omega
   cases h2:shortB keys with
   |false=>
    rw [h2] at hS
    repeat first|with_reducible refine kc ?_|((with_reducible first|refine kr ?_ ?_|refine kt ?_ ?_);exact rfl)|((with_reducible refine kf ?_ ?_);exact rfl)|with_reducible (first|refine hS.use ?_|refine hA.use ?_)|simp only [go_sem,sevalprocAttr,reduceCtorEq,h1']|simp (disch:=omega) only [wz]
    exact ⟨_,_,.refl _ _ _,rfl⟩
   | true=>
    rw [h2] at hS
    by_cases h3:l.length≤20
    ·have h3':¬(l.length:Int)>20:=by omega
     repeat first|with_reducible refine kc ?_|((with_reducible first|refine kr ?_ ?_|refine kt ?_ ?_);exact rfl)|((with_reducible refine kf ?_ ?_);exact rfl)|with_reducible (first|refine hS.use ?_|refine hA.use ?_)|simp only [go_sem,sevalprocAttr,reduceCtorEq,h1',h3',w2]|simp (disch:=omega) only [wz]
     exact ⟨_,⟨⟨h1,h3⟩,H,Frm.refl _ _,rfl⟩,Weak.env (by simp [envIn,lk_cons,wth_some])⟩
    ·have h3':(l.length:Int)>20:=by omega
     repeat first|with_reducible refine kc ?_|((with_reducible first|refine kr ?_ ?_|refine kt ?_ ?_);exact rfl)|((with_reducible refine kf ?_ ?_);exact rfl)|with_reducible (first|refine hS.use ?_|refine hA.use ?_)|simp only [go_sem,sevalprocAttr,reduceCtorEq,h1',h3',w2]|simp (disch:=omega) only [wz]
     exact ⟨_,_,.refl _ _ _,rfl⟩
  ·have h1':(s.length:Int)>70000:=by omega
   repeat first|with_reducible refine kc ?_|((with_reducible first|refine kr ?_ ?_|refine kt ?_ ?_);exact rfl)|((with_reducible refine kf ?_ ?_);exact rfl)|with_reducible (first|refine hS.use ?_|refine hA.use ?_)|simp only [go_sem,sevalprocAttr,reduceCtorEq,h1']|simp (disch:=omega) only [wz]
   exact ⟨_,_,.refl _ _ _,rfl⟩
 rintro st ⟨⟨g1,g2,g3⟩,H0,f0,rfl⟩
 have hk0:Kept H H0:=Kept.frm f0 (fun x hx=>by cases hx)
 refine AWP.seqE (x:= .seq (.region 3 _ _) _) (MJ (∀ v∈l,lightB v=true) H n s kp vp) ?_ ?_
 ·repeat first|with_reducible refine kc ?_|((with_reducible first|refine kr ?_ ?_|refine kt ?_ ?_);exact rfl)|((with_reducible refine kf ?_ ?_);exact rfl)|simp only [go_sem,sevalprocAttr,reduceCtorEq,w2]|simp (disch:=omega) only [wz]
  refine AWP.loopP (fun p:MLp=>⟨[(0,.int .i64 n),(1,.string (bs s)),(2,kp),(3,vp),(39,vp),(40,.int .i64 (l.length:Nat)),(41,.int .i64 (p.i:Nat))],[],p.Hc⟩)
   (fun p=>p.i≤l.length∧Frm [] H p.Hc∧∀k,k<p.i→∀v,l[k]? =some v→lightB v=true) (fun p=>l.length - p.i) ⟨0,H0⟩ ?_ ⟨Nat.zero_le _,f0,fun k hk=>absurd hk (Nat.not_lt_zero _)⟩ ?_
  ·exact Weak.env (by simp [envIn,lk_cons,wth_some])
  rintro ⟨i,Hc⟩ ⟨hi,hf,hlt⟩
  dsimp only at hi hf hlt ⊢
  by_cases hil:i<l.length
  ·have hlt':(i:Int)<(l.length:Int):=by omega
   have hkc:Kept H Hc:=Kept.frm hf (fun x hx=>by cases hx)
   obtain ⟨r,hr,hRv⟩:=(hL.kept hkc).at_ (List.getElem?_eq_getElem hil)
   obtain ⟨bv,ofv,cav,cv,kw,rfl,hcav,hbv,howv,heszv,hlev,htkv⟩:=(hV.kept hkc).at_ hr
   have hlt3:(i:Int)<(cs0.length:Int):=by omega
   have hr5:=hRv.len
   have hrf:=RdV_flat hRv
   have htk5:List.take 5 r=r:=List.take_of_length_le (by omega)
   have hput:=box_put0 r hr5
   have hwi:IntKind.i64.wrap ((i:Int)+1)=((i+1:Nat):Int):=by rw [wi64 (by omega)];omega
   have hLi:ARet Tryz.prog 7 [.agg ⟨r⟩] (Hc++ [.cells r ⟨27,0,true,0,none⟩]) (.bool (lightB l[i])) (Hc++ [.cells r ⟨27,0,true,0,none⟩]):=AC.forget rfl (Light l[i] (hwid _ (List.getElem_mem hil)) _ r (hRv.kept (.more _ _)))
   have hAi:=hAw (Hc++ [.cells r ⟨27,0,true,0,none⟩]) hf.more
   have hgi:=List.getElem?_eq_getElem hil
   generalize l[i]=x at*
   cases hx:lightB x with
   |false=>
    rw [hx] at hLi
    repeat first|with_reducible refine kc ?_|((with_reducible first|refine kr ?_ ?_|refine kt ?_ ?_);exact rfl)|((with_reducible refine kf ?_ ?_);exact rfl)|with_reducible (first|refine hLi.use ?_|refine hAi.use ?_)|simp only [go_sem,sevalprocAttr,reduceCtorEq,hlt',hlt3,hbv,hlev,htkv,hr5,hrf,htk5,hput]|simp (disch:=omega) only [wz]
    exact ⟨_,_,.refl _ _ _,rfl⟩
   | true=>
    rw [hx] at hLi
    repeat first|with_reducible refine kc ?_|((with_reducible first|refine kr ?_ ?_|refine kt ?_ ?_);exact rfl)|((with_reducible refine kf ?_ ?_);exact rfl)|with_reducible (first|refine hLi.use ?_|refine hAi.use ?_)|simp only [go_sem,sevalprocAttr,reduceCtorEq,hlt',hlt3,hbv,hlev,htkv,hr5,hrf,htk5,hput,hwi]|simp (disch:=omega) only [wz]
    exact ⟨⟨i+1,Hc++ [.cells r ⟨27,0,true,0,none⟩]⟩,Weak.env (by simp [envIn,lk_cons,wth_some]),hil,hf.more,fun k hk v hv=>by
     have hk:k<i+1:=hk
     rcases Nat.lt_or_ge k i with h|h
     ·exact hlt k h v hv
     ·have:k=i:=by omega
      rw [this,hgi] at hv
      cases hv
      exact hx,by dsimp only;omega⟩
  ·have hlt':¬(i:Int)<(l.length:Int):=by omega
   repeat first|with_reducible refine kc ?_|((with_reducible first|refine kr ?_ ?_|refine kt ?_ ?_);exact rfl)|((with_reducible refine kf ?_ ?_);exact rfl)|simp only [go_sem,sevalprocAttr,reduceCtorEq,hlt']|simp (disch:=omega) only [wz]
   exact ⟨_,⟨fun v hv=>by
    obtain ⟨k,hk⟩:=List.getElem?_of_mem hv
    have:=(List.getElem?_eq_some_iff.1 hk).1
    exact hlt k (by omega) v hk,Hc,hf,rfl⟩,Weak.env (by simp [envIn,lk_cons,wth_some])⟩
 rintro st ⟨hlight,H1,f1,rfl⟩
 have hLL:∀v∈l,v.nums∧lightB v=true:=fun v hv=>⟨hnum v hv,hlight v hv⟩
 have hkt:∀k∈keys,k.length≤1099511627776:=fun k hk=>by
  unfold shortB at g2
  rw [Bool.and_eq_true,List.all_eq_true] at g2
  have:=g2.1 k hk
  rw [decide_eq_true_eq] at this;omega
 have hkl:keys.length≤20:=by
  unfold shortB at g2
  rw [Bool.and_eq_true,decide_eq_true_eq] at g2
  exact g2.2
 have hk1:Kept H H1:=Kept.frm f1 (fun x hx=>by cases hx)
 have sD:=dict_sz (keys:=keys) hLL g3 g2
 obtain ⟨D,hD⟩:∃D,D=dictR keys l:=⟨_,rfl⟩
 rw [← hD] at sD
 have c1:=dict_ keys l (by omega) hkt (fun vs ks h=>(dict_fine hLL g3 g2 h).1) H1 kp vp cs0 (hK.kept hk1) (hV.kept hk1) (hL.kept hk1) (hG.frm f1).tab (by omega)
 rw [← hD] at c1
 repeat first|with_reducible refine kc ?_|((with_reducible first|refine kr ?_ ?_|refine kt ?_ ?_);exact rfl)|((with_reducible refine kf ?_ ?_);exact rfl)|simp only [go_sem,sevalprocAttr,reduceCtorEq]|simp (disch:=omega) only [wz]
 refine AC.mono c1 ?_
 rintro res B1 ⟨e1,rfl,g1',r1⟩
 have k1l:=r1.len
 have k1f:=RdV_flat r1
 have k1t:List.take 5 e1=e1:=List.take_of_length_le (by omega)
 have k1p:=put5' k1l
 obtain ⟨A1,hA1⟩:∃A1:AHeap,A1=B1++ [.cells e1 ⟨27,0,true,0,none⟩]:=⟨_,rfl⟩
 have b1:A1[B1.length]? =some (.cells e1 ⟨27,0,true,0,none⟩):=by rw [hA1,hget0 rfl];rfl
 have s1:RdV A1 D.1 e1:=by rw [hA1];exact r1.kept (.more _ _)
 have j1:Frm [] H1 A1:=by rw [hA1];exact g1'.more
 have fA1:Frm [] H A1:=f1.trans j1 (fun x hx=>by cases hx)
 have hkA1:Kept H A1:=Kept.frm fA1 (fun x hx=>by cases hx)
 repeat first|with_reducible refine kc ?_|((with_reducible first|refine kr ?_ ?_|refine kt ?_ ?_);exact rfl)|((with_reducible refine kf ?_ ?_);exact rfl)|simp only [go_sem,sevalprocAttr,reduceCtorEq,k1l,k1f,k1t,k1p]|simp (disch:=omega) only [wz]
 rw [← hA1]
 have c2:=rDict_ keys l (by omega) hkt (fun vs ks h=>dict_fine hLL g3 g2 h) A1 kp vp cs0 (hK.kept hkA1) (hV.kept hkA1) (hL.kept hkA1) (by omega)
 rw [← hD] at c2
 repeat first|with_reducible refine kc ?_|((with_reducible first|refine kr ?_ ?_|refine kt ?_ ?_);exact rfl)|((with_reducible refine kf ?_ ?_);exact rfl)|simp only [go_sem,sevalprocAttr,reduceCtorEq]|simp (disch:=omega) only [wz]
 refine AC.mono c2 ?_
 rintro res B2 ⟨e2,rfl,g2',r2⟩
 have k2l:=r2.len
 have k2f:=RdV_flat r2
 have k2t:List.take 5 e2=e2:=List.take_of_length_le (by omega)
 have k2p:=put5' k2l
 obtain ⟨A2,hA2⟩:∃A2:AHeap,A2=B2++ [.cells e2 ⟨27,0,true,0,none⟩]:=⟨_,rfl⟩
 have b2:A2[B2.length]? =some (.cells e2 ⟨27,0,true,0,none⟩):=by rw [hA2,hget0 rfl];rfl
 have s2:RdV A2 D.1 e2:=by rw [hA2];exact r2.kept (.more _ _)
 have j2:Frm [] A1 A2:=by rw [hA2];exact g2'.more
 have fA2:Frm [] H A2:=fA1.trans j2 (fun x hx=>by cases hx)
 have hkA2:Kept H A2:=Kept.frm fA2 (fun x hx=>by cases hx)
 repeat first|with_reducible refine kc ?_|((with_reducible first|refine kr ?_ ?_|refine kt ?_ ?_);exact rfl)|((with_reducible refine kf ?_ ?_);exact rfl)|simp only [go_sem,sevalprocAttr,reduceCtorEq,k2l,k2f,k2t,k2p]|simp (disch:=omega) only [wz]
 rw [← hA2]
 have b12:=j2.get b1 (by simp)
 have c3:=same D.1 sD D.1 A2 e1 e2 (s1.kept (Kept.frm j2 (fun x hx=>by cases hx))) s2
 rw [sameB_refl] at c3
 repeat first|with_reducible refine kc ?_|((with_reducible first|refine kr ?_ ?_|refine kt ?_ ?_);exact rfl)|((with_reducible refine kf ?_ ?_);exact rfl)|simp only [go_sem,sevalprocAttr,reduceCtorEq,b12,b2,k1l,k1t,k2l,k2t]|simp (disch:=omega) only [wz]
 refine AC.mono c3 ?_
 rintro res A3 ⟨rfl,j3⟩
 have c4:=int_ n A3
 repeat first|with_reducible refine kc ?_|((with_reducible first|refine kr ?_ ?_|refine kt ?_ ?_);exact rfl)|((with_reducible refine kf ?_ ?_);exact rfl)|simp only [go_sem,sevalprocAttr,reduceCtorEq,bne_self_eq_false]|simp (disch:=omega) only [wz]
 refine AC.mono c4 ?_
 rintro res A4 ⟨e4,rfl,j4,r4⟩
 repeat first|with_reducible refine kc ?_|((with_reducible first|refine kr ?_ ?_|refine kt ?_ ?_);exact rfl)|((with_reducible refine kf ?_ ?_);exact rfl)|simp only [go_sem,sevalprocAttr,reduceCtorEq]|simp (disch:=omega) only [wz]
 refine AC.mono (rInt_ n A4) ?_
 rintro res A5 ⟨e5,rfl,j5,r5⟩
 have hsz1:szV (.mk 1 n [] [] []):=by unfold szV;exact ⟨by simp,by simp,trivial⟩
 have c6:=same _ hsz1 _ A5 e4 e5 (r4.kept (Kept.frm j5 (fun x hx=>by cases hx))) r5
 rw [sameB_refl] at c6
 repeat first|with_reducible refine kc ?_|((with_reducible first|refine kr ?_ ?_|refine kt ?_ ?_);exact rfl)|((with_reducible refine kf ?_ ?_);exact rfl)|simp only [go_sem,sevalprocAttr,reduceCtorEq]|simp (disch:=omega) only [wz]
 refine AC.mono c6 ?_
 rintro res A6 ⟨rfl,j6⟩
 repeat first|with_reducible refine kc ?_|((with_reducible first|refine kr ?_ ?_|refine kt ?_ ?_);exact rfl)|((with_reducible refine kf ?_ ?_);exact rfl)|simp only [go_sem,sevalprocAttr,reduceCtorEq]|simp (disch:=omega) only [wz]
 refine AC.mono (text_ s A6) ?_
 rintro res A7 ⟨e7,rfl,j7,r7⟩
 repeat first|with_reducible refine kc ?_|((with_reducible first|refine kr ?_ ?_|refine kt ?_ ?_);exact rfl)|((with_reducible refine kf ?_ ?_);exact rfl)|simp only [go_sem,sevalprocAttr,reduceCtorEq]|simp (disch:=omega) only [wz]
 refine AC.mono (rText_ s A7) ?_
 rintro res A8 ⟨e8,rfl,j8,r8⟩
 have hft:=fine_text s g1
 have c9:=same _ hft.1.sz _ A8 e7 e8 (r7.kept (Kept.frm j8 (fun x hx=>by cases hx))) r8
 rw [sameB_refl] at c9
 repeat first|with_reducible refine kc ?_|((with_reducible first|refine kr ?_ ?_|refine kt ?_ ?_);exact rfl)|((with_reducible refine kf ?_ ?_);exact rfl)|simp only [go_sem,sevalprocAttr,reduceCtorEq]|simp (disch:=omega) only [wz]
 refine AC.mono c9 ?_
 rintro res A9 ⟨rfl,j9⟩
 have hfl:=(lightL_of l hnl hlight).list g3
 have j29:Frm [] A2 A9:=(((((j3.trans j4 (fun x hx=>by cases hx)).trans j5 (fun x hx=>by cases hx)).trans j6 (fun x hx=>by cases hx)).trans j7 (fun x hx=>by cases hx)).trans j8 (fun x hx=>by cases hx)).trans j9 (fun x hx=>by cases hx)
 have fA9:Frm [] H A9:=fA2.trans j29 (fun x hx=>by cases hx)
 have hkA9:Kept H A9:=Kept.frm fA9 (fun x hx=>by cases hx)
 repeat first|with_reducible refine kc ?_|((with_reducible first|refine kr ?_ ?_|refine kt ?_ ?_);exact rfl)|((with_reducible refine kf ?_ ?_);exact rfl)|simp only [go_sem,sevalprocAttr,reduceCtorEq]|simp (disch:=omega) only [wz]
 refine AC.mono (list_ l hfl.1.sz A9 vp cs0 (hV.kept hkA9) (hL.kept hkA9)) ?_
 rintro res AA ⟨eA,rfl,jA,rA⟩
 have fAA:Frm [] H AA:=fA9.trans jA (fun x hx=>by cases hx)
 have hkAA:Kept H AA:=Kept.frm fAA (fun x hx=>by cases hx)
 repeat first|with_reducible refine kc ?_|((with_reducible first|refine kr ?_ ?_|refine kt ?_ ?_);exact rfl)|((with_reducible refine kf ?_ ?_);exact rfl)|simp only [go_sem,sevalprocAttr,reduceCtorEq]|simp (disch:=omega) only [wz]
 refine AC.mono (rList_ l (by omega) AA vp cs0 (hV.kept hkAA) (hL.kept hkAA)) ?_
 rintro res AB ⟨eB,rfl,jB,rB⟩
 have cC:=same _ hfl.1.sz _ AB eA eB (rA.kept (Kept.frm jB (fun x hx=>by cases hx))) rB
 rw [sameB_refl] at cC
 repeat first|with_reducible refine kc ?_|((with_reducible first|refine kr ?_ ?_|refine kt ?_ ?_);exact rfl)|((with_reducible refine kf ?_ ?_);exact rfl)|simp only [go_sem,sevalprocAttr,reduceCtorEq]|simp (disch:=omega) only [wz]
 refine AC.mono cC ?_
 rintro res AC' ⟨rfl,jC⟩
 have fAC:Frm [] H AC':=(fAA.trans jB (fun x hx=>by cases hx)).trans jC (fun x hx=>by cases hx)
 have hkAC:Kept H AC':=Kept.frm fAC (fun x hx=>by cases hx)
 repeat first|with_reducible refine AWP.seqE (x:= .region 13 _ _) (LJ H s l cs0) ?_ ?_|with_reducible refine kc ?_|((with_reducible first|refine kr ?_ ?_|refine kt ?_ ?_);exact rfl)|((with_reducible refine kf ?_ ?_);exact rfl)|simp only [go_sem,sevalprocAttr,reduceCtorEq]|simp (disch:=omega) only [wz]
 ·repeat first|with_reducible refine kc ?_|((with_reducible first|refine kr ?_ ?_|refine kt ?_ ?_);exact rfl)|((with_reducible refine kf ?_ ?_);exact rfl)|simp only [go_sem,sevalprocAttr,reduceCtorEq]|simp (disch:=omega) only [wz]
  refine AC.mono (list_ l hfl.1.sz AC' vp cs0 (hV.kept hkAC) (hL.kept hkAC)) ?_
  rintro res AD ⟨eD,rfl,jD,rD⟩
  repeat first|with_reducible refine kc ?_|((with_reducible first|refine kr ?_ ?_|refine kt ?_ ?_);exact rfl)|((with_reducible refine kf ?_ ?_);exact rfl)|simp only [go_sem,sevalprocAttr,reduceCtorEq]|simp (disch:=omega) only [wz]
  refine AC.mono (text_ s AD) ?_
  rintro res AE ⟨eE,rfl,jE,rE⟩
  have fAE:Frm [] H AE:=(fAC.trans jD (fun x hx=>by cases hx)).trans jE (fun x hx=>by cases hx)
  have hkAE:Kept H AE:=Kept.frm fAE (fun x hx=>by cases hx)
  have dl:=rD.len
  have dfl:=RdV_flat rD
  have el:=rE.len
  have efl:=RdV_flat rE
  have hbld:putCells (putCells [Value.int .i64 0,.int .i64 0,.string (bs []),.slice none 0 0,.slice none 0 0,.int .i64 0,.int .i64 0,.string (bs []),.slice none 0 0,.slice none 0 0] 0 eD) 5 eE=eD++eE∧(putCells [Value.int .i64 0,.int .i64 0,.string (bs []),.slice none 0 0,.slice none 0 0,.int .i64 0,.int .i64 0,.string (bs []),.slice none 0 0,.slice none 0 0] 0 eD).length=10:=by
   have e1:[Value.int .i64 0,.int .i64 0,.string (bs []),.slice none 0 0,.slice none 0 0,.int .i64 0,.int .i64 0,.string (bs []),.slice none 0 0,.slice none 0 0]=[]++[Value.int .i64 0,.int .i64 0,.string (bs []),.slice none 0 0,.slice none 0 0,.int .i64 0,.int .i64 0,.string (bs []),.slice none 0 0,.slice none 0 0]:=rfl
   rw [e1,put_row (L:=[]) (n:=0) rfl (by rw [dl];decide),dl,List.nil_append,put_row (n:=5) dl.symm (by rw [el];decide),el]
   refine ⟨by simp,?_⟩
   rw [List.length_append,dl];rfl
  obtain ⟨hbld,hbll⟩:=hbld
  have hc5:=hL.all5
  have hcf:=RdL_flats hL
  have hfll:=flat_len hc5
  have hql:AE.length<(AE++[AObj.cells (eD++eE) ⟨27,0,true,0,none⟩]).length:=by simp
  have fin:∀(q z:Nat) (X:AHeap) (env:List (Nat×Value)),(z=5∨z=0)→AE.length≤q→(AE++X)[q]? =some (.cells ((eD++eE)++cs0.flatten) ⟨27,z,true,0,none⟩)→envIn env (fun v u=>u=v) [(101,.slice (some ⟨q,0,none⟩) (2+l.length) (2+l.length)),(102,.int .i64 (2+l.length:Nat)),(103,.int .i64 0)]→
    ∃st2,LJ H s l cs0 st2∧Weak H.length ⟨env,[],AE++X⟩ st2:=fun q z X env hz hlq hq he=>
   ⟨_,⟨q,z,AE++X,eD,eE,fAE.more,(rD.kept (Kept.frm jE (fun x hx=>by cases hx))).kept (.more _ _),rE.kept (.more _ _),by rw [hq];simp,hz,Nat.le_trans fAE.1 hlq,rfl⟩,Weak.env he⟩
  rcases hV.kept hkAE with ⟨rfl,hnil⟩|⟨i,off,cap,cs',k',rfl,hcap,hi,hown,hesz,hle,hrow⟩
  ·repeat first|with_reducible refine kc ?_|((with_reducible first|refine kr ?_ ?_|refine kt ?_ ?_);exact rfl)|((with_reducible refine kf ?_ ?_);exact rfl)|simp only [go_sem,sevalprocAttr,reduceCtorEq,dl,dfl,el,efl,hbld,hbll]|simp (disch:=omega) only [wz]
   refine app_heads (m:=5) (n:=0) (news:=[]) (lo:=AE.length) (by decide) (by rw [hget0 rfl];rfl) (by rw [List.length_append,dl,el]) (Nat.le_refl _) (by simp) rfl (by decide) (by decide) fun q' z X hz hlq hq=> ?_
   rw [List.append_assoc] at hq ⊢
   have hll0:l.length=0:=by rw [← hcl,hnil];rfl
   repeat first|with_reducible refine kc ?_|((with_reducible first|refine kr ?_ ?_|refine kt ?_ ?_);exact rfl)|((with_reducible refine kf ?_ ?_);exact rfl)|simp only [go_sem,sevalprocAttr,reduceCtorEq]|simp (disch:=omega) only [wz]
   refine fin q' z _ _ hz hlq (by rw [hnil];exact hq) ?_
   simp [envIn,lk_cons,wth_some,hll0]
  ·have hgi:∀X:AHeap,(AE++X)[i]? =some (.cells cs' k'):=fun X=>by rw [hgetl (lt_of_get hi)];exact hi
   have hnews:=rows_cells hc5 hle hrow
   repeat first|with_reducible refine kc ?_|((with_reducible first|refine kr ?_ ?_|refine kt ?_ ?_);exact rfl)|((with_reducible refine kf ?_ ?_);exact rfl)|simp only [go_sem,sevalprocAttr,reduceCtorEq,dl,dfl,el,efl,hbld,hbll,hgi,hle,hnews,hcf,hfll]|simp (disch:=omega) only [wz]
   refine app_heads (m:=5) (n:=cs0.length) (news:=cs0.flatten) (lo:=AE.length) (by decide) (by rw [hget0 rfl];rfl) (by rw [List.length_append,dl,el]) (Nat.le_refl _) (by simp) hfll (by omega) (by omega) fun q' z X hz hlq hq=> ?_
   rw [List.append_assoc] at hq ⊢
   repeat first|with_reducible refine kc ?_|((with_reducible first|refine kr ?_ ?_|refine kt ?_ ?_);exact rfl)|((with_reducible refine kf ?_ ?_);exact rfl)|simp only [go_sem,sevalprocAttr,reduceCtorEq]|simp (disch:=omega) only [wz]
   refine fin q' z _ _ hz hlq hq ?_
   simp [envIn,lk_cons,wth_some,hcl]
 rintro st ⟨q,z,Hx,eD,eE,fx,rD,rE,hqx,hz,hlq,rfl⟩
 have hc5:=hL.all5
 obtain ⟨Hf,hHf⟩:∃Hf,Hf=fz Hx [q]:=⟨_,rfl⟩
 have hkf:Kept Hx Hf:=by rw [hHf];exact fz_kept _ _
 have ff:Frm [] H Hf:=by rw [hHf];exact fz_frm fx (fun a ha=>by rw [List.mem_singleton.1 ha];exact hlq)
 have hkHx:Kept H Hx:=Kept.frm fx (fun x hx=>by cases hx)
 obtain ⟨vs2,hvs⟩:∃vs2:List BV,vs2= .mk 3 0 [] l []:: .mk 2 0 s [] []::l:=⟨_,rfl⟩
 obtain ⟨cs2,hcs⟩:∃cs2:List (List Value),cs2=eD::eE::cs0:=⟨_,rfl⟩
 obtain ⟨M,hM⟩:∃M,M=2+l.length:=⟨_,rfl⟩
 have hvl:vs2.length=M:=by rw [hvs,hM];simp only [List.length_cons];omega
 have hcl2:cs2.length=M:=by rw [hcs,hM];simp only [List.length_cons];omega
 have hRL:RdL Hf vs2 cs2:=by
  rw [hvs,hcs]
  unfold RdL
  refine ⟨_,_,rfl,rD.kept hkf,?_⟩
  unfold RdL
  exact ⟨_,_,rfl,rE.kept hkf,hL.kept (hkHx.trans hkf)⟩
 have h55:∀c∈cs2,c.length=5:=hRL.all5
 have hRK:RdK Hf 5 (.slice (some ⟨q,0,none⟩) M M) cs2:=by
  rw [hHf]
  exact rd_rows (C:=[]) (k:=⟨27,z,true,0,none⟩) (by rw [List.append_nil,hcs];exact hqx) hz (by simp) h55 hcl2 (Nat.le_refl _)
 have hfine2:∀v∈vs2,Fine v∧v.count≤1099511627776:=fun v hv=>by
  rw [hvs] at hv
  rcases List.mem_cons.1 hv with rfl|hv
  ·exact hfl
  ·rcases List.mem_cons.1 hv with rfl|hv
   ·exact hft
   ·have:=light_fine v (hnum v hv) (hlight v hv)
    exact ⟨this.1,by omega⟩
 rw [← hM]
 refine AWP.weak (Weak.fz [q] Hx) ?_
 rw [← hHf]
 repeat first|with_reducible refine kc ?_|((with_reducible first|refine kr ?_ ?_|refine kt ?_ ?_);exact rfl)|((with_reducible refine kf ?_ ?_);exact rfl)|simp only [go_sem,sevalprocAttr,reduceCtorEq]|simp (disch:=omega) only [wz]
 refine AWP.loopP (fun p:MLp=>⟨[(101,.slice (some ⟨q,0,none⟩) M M),(102,.int .i64 (M:Nat)),(103,.int .i64 (p.i:Nat))],[],p.Hc⟩)
  (fun p=>p.i≤M∧Frm [] Hf p.Hc) (fun p=>M - p.i) ⟨0,Hf⟩ ?_ ⟨Nat.zero_le _,Frm.refl _ _⟩ ?_
 ·exact Weak.env (by simp [envIn,lk_cons,wth_some])
 rintro ⟨i,Hc⟩ ⟨hi,hf⟩
 dsimp only at hi hf ⊢
 by_cases hil:i<M
 ·have hlt':(i:Int)<(M:Int):=by omega
  have hilv:i<vs2.length:=by omega
  have hkc:Kept Hf Hc:=Kept.frm hf (fun x hx=>by cases hx)
  obtain ⟨r,hr,hRv⟩:=(hRL.kept hkc).at_ (List.getElem?_eq_getElem hilv)
  obtain ⟨bv,ofv,cav,cv,kw,hse,hcav,hbv,howv,heszv,hlev,htkv⟩:=(hRK.kept hkc).at_ hr
  cases hse
  rw [Nat.zero_add] at hlev htkv
  have hr5:=hRv.len
  have hrf:=RdV_flat hRv
  have htk5:List.take 5 r=r:=List.take_of_length_le (by omega)
  have hput:=box_put0 r hr5
  have hwi:IntKind.i64.wrap ((i:Int)+1)=((i+1:Nat):Int):=by rw [wi64 (by omega)];omega
  obtain ⟨hfx,hcx⟩:=hfine2 _ (List.getElem_mem hilv)
  generalize vs2[i]=x at*
  obtain ⟨F0,hF0⟩:∃F0:AHeap,F0=Hc++ [.cells r ⟨27,0,true,0,none⟩]:=⟨_,rfl⟩
  have p0:F0[Hc.length]? =some (.cells r ⟨27,0,true,0,none⟩):=by rw [hF0,hget0 rfl];rfl
  have o0:RdV F0 x r:=by rw [hF0];exact hRv.kept (.more _ _)
  have m0:Frm [] Hf F0:=by rw [hF0];exact hf.more
  have hG0:GlobB F0:=(hG.frm ff).frm m0
  obtain ⟨R,hR⟩:∃R,R=countR x:=⟨_,rfl⟩
  obtain ⟨Q,hQ⟩:∃Q,Q=depthR x:=⟨_,rfl⟩
  repeat first|with_reducible refine kc ?_|((with_reducible first|refine kr ?_ ?_|refine kt ?_ ?_);exact rfl)|((with_reducible refine kf ?_ ?_);exact rfl)|simp only [go_sem,sevalprocAttr,reduceCtorEq,hlt',hbv,hlev,htkv,hr5,hrf,htk5,hput]|simp (disch:=omega) only [wz]
  rw [← hF0]
  have c0:=count_ x hfx F0 r o0 hG0.tab
  rw [← hR] at c0
  repeat first|with_reducible refine kc ?_|((with_reducible first|refine kr ?_ ?_|refine kt ?_ ?_);exact rfl)|((with_reducible refine kf ?_ ?_);exact rfl)|simp only [go_sem,sevalprocAttr,reduceCtorEq,p0,hr5,htk5]|simp (disch:=omega) only [wz]
  refine AC.mono c0 ?_
  rintro res F1 ⟨rfl,m1⟩
  have p1:=m1.get p0 (by simp)
  have o1:=o0.kept (Kept.frm m1 (fun x hx=>by cases hx))
  have c1:=rCount_ x hfx hcx F1 r o1
  rw [← hR] at c1
  repeat first|with_reducible refine kc ?_|((with_reducible first|refine kr ?_ ?_|refine kt ?_ ?_);exact rfl)|((with_reducible refine kf ?_ ?_);exact rfl)|simp only [go_sem,sevalprocAttr,reduceCtorEq,p1,hr5,htk5]|simp (disch:=omega) only [wz]
  refine AC.mono c1 ?_
  rintro res F2 ⟨rfl,m2⟩
  have p2:=m2.get p1 (by simp)
  have o2:=o1.kept (Kept.frm m2 (fun x hx=>by cases hx))
  have c2:=depth_ x hfx hcx F2 r o2 ((hG0.frm m1).frm m2).tab
  rw [← hQ] at c2
  repeat first|with_reducible refine kc ?_|((with_reducible first|refine kr ?_ ?_|refine kt ?_ ?_);exact rfl)|((with_reducible refine kf ?_ ?_);exact rfl)|simp only [go_sem,sevalprocAttr,reduceCtorEq,p2,hr5,htk5]|simp (disch:=omega) only [wz]
  refine AC.mono c2 ?_
  rintro res F3 ⟨rfl,m3⟩
  have p3:=m3.get p2 (by simp)
  have o3:=o2.kept (Kept.frm m3 (fun x hx=>by cases hx))
  have c3:=rDepth_ x hfx hcx F3 r o3
  rw [← hQ] at c3
  repeat first|with_reducible refine kc ?_|((with_reducible first|refine kr ?_ ?_|refine kt ?_ ?_);exact rfl)|((with_reducible refine kf ?_ ?_);exact rfl)|simp only [go_sem,sevalprocAttr,reduceCtorEq,p3,hr5,htk5]|simp (disch:=omega) only [wz]
  refine AC.mono c3 ?_
  rintro res F4 ⟨rfl,m4⟩
  have m04:Frm [] Hf F4:=(((m0.trans m1 (fun x hx=>by cases hx)).trans m2 (fun x hx=>by cases hx)).trans m3 (fun x hx=>by cases hx)).trans m4 (fun x hx=>by cases hx)
  repeat first|with_reducible refine kc ?_|((with_reducible first|refine kr ?_ ?_|refine kt ?_ ?_);exact rfl)|((with_reducible refine kf ?_ ?_);exact rfl)|simp only [go_sem,sevalprocAttr,reduceCtorEq,hwi]|simp (disch:=omega) only [wz]
  exact ⟨⟨i+1,F4⟩,Weak.env (by simp [envIn,lk_cons,wth_some]),hil,m04,by dsimp only;omega⟩
 ·have hlt':¬(i:Int)<(M:Int):=by omega
  have hAe:=hAw Hc (ff.trans hf (fun x hx=>by cases hx))
  repeat first|with_reducible refine kc ?_|((with_reducible first|refine kr ?_ ?_|refine kt ?_ ?_);exact rfl)|((with_reducible refine kf ?_ ?_);exact rfl)|with_reducible refine hAe.use ?_|simp only [go_sem,sevalprocAttr,reduceCtorEq,hlt']|simp (disch:=omega) only [wz]
  exact ⟨_,_,.refl _ _ _,rfl⟩
end Go.Proofs.YthcdjconlfdidaaGreatDoor
