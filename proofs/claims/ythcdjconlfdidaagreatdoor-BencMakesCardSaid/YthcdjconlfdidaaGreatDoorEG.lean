/-
 The walk of the specification's Same.
-/
import Derived.Test.YthcdjconlfdidaaGreatDoorDX
set_option linter.unusedVariables false
set_option linter.unusedSimpArgs false
set_option maxRecDepth 20000
set_option maxHeartbeats 8000000
namespace Go.Proofs.YthcdjconlfdidaaGreatDoor
open Go Go.Aw Go.Proofs
mutual
def sameB:BV→BV→Bool
 | .mk k n s kids keys,.mk k2 n2 s2 kids2 keys2=>(k==k2)&&(n==n2)&&(s==s2)&&(kids.length==kids2.length)&&(keys.length==keys2.length)&&sameL kids kids2&&(keys==keys2)
def sameL:List BV→List BV→Bool
 |[],[]=>true
 |v::l,w::m=>sameB v w&&sameL l m
 |_,_=>false
end
theorem sameL_iff:∀(l m:List BV),sameL l m=true↔l.length=m.length∧∀(i:Nat) (v w:BV),l[i]? =some v→m[i]? =some w→sameB v w=true
 |[],[]=>by simp [sameL]
 |[],_::_=>by simp [sameL]
 |_::_,[]=>by simp [sameL]
 | v::l,w::m=>by
  rw [sameL,Bool.and_eq_true,sameL_iff l m]
  constructor
  ·rintro ⟨h1,h2,h3⟩
   refine ⟨by simp [h2],fun i a b ha hb=> ?_⟩
   cases i with
   |zero=>cases ha;cases hb;exact h1
   |succ i=>exact h3 i a b ha hb
  ·rintro ⟨h1,h2⟩
   exact ⟨h2 0 v w rfl rfl,by simpa using h1,fun i a b ha hb=>h2 (i+1) a b ha hb⟩
mutual
theorem sameB_refl:∀(v:BV),sameB v v=true
 | .mk k n s kids keys=>by
  unfold sameB
  simp [sameL_refl kids]
theorem sameL_refl:∀(l:List BV),sameL l l=true
 |[]=>by simp [sameL]
 |v::l=>by simp [sameL,sameB_refl v,sameL_refl l]
end
theorem same (v:BV):szV v→∀(w:BV) (H:AHeap) (cs cs2:List Value),RdV H v cs→RdV H w cs2→AC Tryz.prog 10 [.agg ⟨cs⟩,.agg ⟨cs2⟩] H (fun r H2=>r= .ret (.bool (sameB v w))∧Frm [] H H2):=by
 refine BV.ind (P:=fun v=>szV v→∀(w:BV) (H:AHeap) (cs cs2:List Value),RdV H v cs→RdV H w cs2→AC Tryz.prog 10 [.agg ⟨cs⟩,.agg ⟨cs2⟩] H (fun r H2=>r= .ret (.bool (sameB v w))∧Frm [] H H2)) (fun k n s kids keys ih hsz w H cs cs2 hR hQ=> ?_) v
 obtain ⟨k2,n2,s2,kids2,keys2⟩:=w
 unfold szV at hsz
 obtain ⟨hkd,hky,hszL⟩:=hsz
 have hfl:=RdV_flat hR
 have hr5:=hR.len
 have hfl2:=RdV_flat hQ
 have hr52:=hQ.len
 unfold RdV at hR hQ
 obtain ⟨vk,vs,css,rfl,h1,hL,h3⟩:=hR
 obtain ⟨wk,ws,css2,rfl,p1,pL,p3⟩:=hQ
 obtain ⟨H1,hH1⟩:∃H1:AHeap,H1=H++ [.cells [.int .i64 k,.int .i64 n,.string (bs s),vk,vs] ⟨27,0,true,0,none⟩,.cells [.int .i64 k2,.int .i64 n2,.string (bs s2),wk,ws] ⟨27,0,true,0,none⟩]:=⟨_,rfl⟩
 have hb0:H1[H.length]? =some (.cells [.int .i64 k,.int .i64 n,.string (bs s),vk,vs] ⟨27,0,true,0,none⟩):=by rw [hH1,hget0 rfl];rfl
 have hb1:H1[H.length+1]? =some (.cells [.int .i64 k2,.int .i64 n2,.string (bs s2),wk,ws] ⟨27,0,true,0,none⟩):=by rw [hH1,hgetk rfl];rfl
 have hl1:H1.length=H.length+2:=by rw [hH1];simp
 have hf1:Frm [] H H1:=by rw [hH1];exact Frm.app
 have hcl:=hL.len
 have hcl2:=pL.len
 have hkl:(keyC keys).length=keys.length:=by unfold keyC;simp
 have hkl2:(keyC keys2).length=keys2.length:=by unfold keyC;simp
 have q1:∀H' K,lenW Tryz.prog 23 vk H' K=K (.int .i64 (kids.length:Nat)) H':=fun H' K=>by rw [h1.lenT (by simp only [go_sem,sevalprocAttr,reduceCtorEq]),hcl]
 have q2:∀H' K,lenW Tryz.prog 22 vs H' K=K (.int .i64 (keys.length:Nat)) H':=fun H' K=>by rw [h3.lenT (by simp only [go_sem,sevalprocAttr,reduceCtorEq]),hkl]
 have q3:∀H' K,lenW Tryz.prog 23 wk H' K=K (.int .i64 (kids2.length:Nat)) H':=fun H' K=>by rw [p1.lenT (by simp only [go_sem,sevalprocAttr,reduceCtorEq]),hcl2]
 have q4:∀H' K,lenW Tryz.prog 22 ws H' K=K (.int .i64 (keys2.length:Nat)) H':=fun H' K=>by rw [p3.lenT (by simp only [go_sem,sevalprocAttr,reduceCtorEq]),hkl2]
 have hsame:sameB (.mk k n s kids keys) (.mk k2 n2 s2 kids2 keys2)=((k==k2)&&(n==n2)&&(s==s2)&&(kids.length==kids2.length)&&(keys.length==keys2.length)&&sameL kids kids2&&(keys==keys2)):=by
  conv=>lhs;unfold sameB
 rw [hsame]
 clear hsame
 have nb:∀a b:Int,(a != b)= !(a==b):=fun a b=>rfl
 have ns:∀a b:List UInt8,(a != b)= !(a==b):=fun a b=>rfl
 by_cases e1:k=k2
 case neg=>
  have e1':(k==k2)=false:=by simpa using e1
  rw [e1']
  refine AC.enter Tryz.func10 rfl (by kernel_rfl) 81 rfl [.tmp 4] rfl (by simp) fun hsc B=> ?_
  repeat first|with_reducible refine kc ?_|((with_reducible first|refine kr ?_ ?_|refine kt ?_ ?_);exact rfl)|((with_reducible refine kf ?_ ?_);exact rfl)|simp only [go_sem,sevalprocAttr,reduceCtorEq,hfl,hr5,hfl2,hr52]|simp (disch:=omega) only [wz]
  rw [← hH1]
  repeat first|with_reducible refine kc ?_|((with_reducible first|refine kr ?_ ?_|refine kt ?_ ?_);exact rfl)|((with_reducible refine kf ?_ ?_);exact rfl)|simp only [go_sem,sevalprocAttr,reduceCtorEq,hb0,hb1,nb,e1',Bool.not_false,exists_eq_left]|simp (disch:=omega) only [wz]
  exact ⟨_,_,.refl _ _ _,rfl,hf1⟩
 subst e1
 by_cases e2:n=n2
 case neg=>
  have e1':(n==n2)=false:=by simpa using e2
  rw [e1']
  refine AC.enter Tryz.func10 rfl (by kernel_rfl) 81 rfl [.tmp 4] rfl (by simp) fun hsc B=> ?_
  repeat first|with_reducible refine kc ?_|((with_reducible first|refine kr ?_ ?_|refine kt ?_ ?_);exact rfl)|((with_reducible refine kf ?_ ?_);exact rfl)|simp only [go_sem,sevalprocAttr,reduceCtorEq,hfl,hr5,hfl2,hr52]|simp (disch:=omega) only [wz]
  rw [← hH1]
  repeat first|with_reducible refine kc ?_|((with_reducible first|refine kr ?_ ?_|refine kt ?_ ?_);exact rfl)|((with_reducible refine kf ?_ ?_);exact rfl)|simp only [go_sem,sevalprocAttr,reduceCtorEq,hb0,hb1,nb,e1',beq_self_eq_true,Bool.not_true,Bool.not_false,exists_eq_left]|simp (disch:=omega) only [wz]
  exact ⟨_,_,.refl _ _ _,by simp,hf1⟩
 subst e2
 by_cases e3:s=s2
 case neg=>
  have e1':(s==s2)=false:=by simpa using e3
  rw [e1']
  refine AC.enter Tryz.func10 rfl (by kernel_rfl) 81 rfl [.tmp 4] rfl (by simp) fun hsc B=> ?_
  repeat first|with_reducible refine kc ?_|((with_reducible first|refine kr ?_ ?_|refine kt ?_ ?_);exact rfl)|((with_reducible refine kf ?_ ?_);exact rfl)|simp only [go_sem,sevalprocAttr,reduceCtorEq,hfl,hr5,hfl2,hr52]|simp (disch:=omega) only [wz]
  rw [← hH1]
  repeat first|with_reducible refine kc ?_|((with_reducible first|refine kr ?_ ?_|refine kt ?_ ?_);exact rfl)|((with_reducible refine kf ?_ ?_);exact rfl)|simp only [go_sem,sevalprocAttr,reduceCtorEq,hb0,hb1,nb,ns,e1',beq_self_eq_true,Bool.not_true,Bool.not_false,exists_eq_left]|simp (disch:=omega) only [wz]
  exact ⟨_,_,.refl _ _ _,by simp,hf1⟩
 subst e3
 by_cases e4:kids.length=kids2.length
 case neg=>
  have e1':(kids.length==kids2.length)=false:=by simpa using e4
  have e1'':((kids.length:Int)==(kids2.length:Int))=false:=by simp;omega
  rw [e1']
  refine AC.enter Tryz.func10 rfl (by kernel_rfl) 81 rfl [.tmp 4] rfl (by simp) fun hsc B=> ?_
  repeat first|with_reducible refine kc ?_|((with_reducible first|refine kr ?_ ?_|refine kt ?_ ?_);exact rfl)|((with_reducible refine kf ?_ ?_);exact rfl)|simp only [go_sem,sevalprocAttr,reduceCtorEq,hfl,hr5,hfl2,hr52]|simp (disch:=omega) only [wz]
  rw [← hH1]
  repeat first|with_reducible refine kc ?_|((with_reducible first|refine kr ?_ ?_|refine kt ?_ ?_);exact rfl)|((with_reducible refine kf ?_ ?_);exact rfl)|simp only [go_sem,sevalprocAttr,reduceCtorEq,hb0,hb1,nb,ns,q1,q3,e1'',beq_self_eq_true,Bool.not_true,Bool.not_false,exists_eq_left]|simp (disch:=omega) only [wz]
  exact ⟨_,_,.refl _ _ _,by simp,hf1⟩
 have e4':((kids.length:Int)==(kids2.length:Int))=true:=by simp;omega
 by_cases e5:keys.length=keys2.length
 case neg=>
  have e1':(keys.length==keys2.length)=false:=by simpa using e5
  have e1'':((keys.length:Int)==(keys2.length:Int))=false:=by simp;omega
  rw [e1']
  refine AC.enter Tryz.func10 rfl (by kernel_rfl) 81 rfl [.tmp 4] rfl (by simp) fun hsc B=> ?_
  repeat first|with_reducible refine kc ?_|((with_reducible first|refine kr ?_ ?_|refine kt ?_ ?_);exact rfl)|((with_reducible refine kf ?_ ?_);exact rfl)|simp only [go_sem,sevalprocAttr,reduceCtorEq,hfl,hr5,hfl2,hr52]|simp (disch:=omega) only [wz]
  rw [← hH1]
  repeat first|with_reducible refine kc ?_|((with_reducible first|refine kr ?_ ?_|refine kt ?_ ?_);exact rfl)|((with_reducible refine kf ?_ ?_);exact rfl)|simp only [go_sem,sevalprocAttr,reduceCtorEq,hb0,hb1,nb,ns,q1,q2,q3,q4,e4',e1'',beq_self_eq_true,Bool.not_true,Bool.not_false,exists_eq_left]|simp (disch:=omega) only [wz]
  exact ⟨_,_,.refl _ _ _,by simp,hf1⟩
 have e5':((keys.length:Int)==(keys2.length:Int))=true:=by simp;omega
 have hgoal:((k==k)&&(n==n)&&(s==s)&&(kids.length==kids2.length)&&(keys.length==keys2.length)&&sameL kids kids2&&(keys==keys2))=(sameL kids kids2&&(keys==keys2)):=by
  rw [e4,e5];simp
 rw [hgoal]
 refine AC.enter Tryz.func10 rfl (by kernel_rfl) 81 rfl [.tmp 4] rfl (by simp) fun hsc B=> ?_
 repeat first|with_reducible refine kc ?_|((with_reducible first|refine kr ?_ ?_|refine kt ?_ ?_);exact rfl)|((with_reducible refine kf ?_ ?_);exact rfl)|simp only [go_sem,sevalprocAttr,reduceCtorEq,hfl,hr5,hfl2,hr52]|simp (disch:=omega) only [wz]
 rw [← hH1]
 repeat first|with_reducible refine kc ?_|((with_reducible first|refine kr ?_ ?_|refine kt ?_ ?_);exact rfl)|((with_reducible refine kf ?_ ?_);exact rfl)|simp only [go_sem,sevalprocAttr,reduceCtorEq,hb0,hb1,nb,ns,q1,q2,q3,q4,e4',e5',beq_self_eq_true,Bool.not_true,Bool.not_false,exists_eq_left]|simp (disch:=omega) only [wz]
 refine AWP.loopP (fun p:Nat×AHeap=>⟨[(2,.pointer (some ⟨H.length,0,none⟩)),(3,.pointer (some ⟨H.length+1,0,none⟩)),(46,.int .i64 (kids.length:Nat)),(47,.int .i64 (p.1:Nat))],[],p.2⟩)
  (fun p=>p.1≤kids.length∧Frm [] H1 p.2∧∀j v w,j<p.1→kids[j]? =some v→kids2[j]? =some w→sameB v w=true) (fun p=>kids.length - p.1) (0,H1) ?_ ⟨Nat.zero_le _,Frm.refl _ _,fun j v w hj=>absurd hj (Nat.not_lt_zero _)⟩ ?_
 ·exact Weak.env (by simp [envIn,lk_cons,wth_some])
 rintro ⟨i,Hc⟩ ⟨hi,hf,hall⟩
 dsimp only at hi hf hall ⊢
 have hb0c:=hf.get hb0 (by simp)
 have hb1c:=hf.get hb1 (by simp)
 have hk0c:Kept H Hc:=Kept.frm (hf1.trans hf (fun x hx=>by cases hx)) (fun x hx=>by cases hx)
 by_cases hlt:i<kids.length
 ·have hlt':(i:Int)<(kids.length:Int):=by omega
  have hltb:i<kids2.length:=by omega
  obtain ⟨r5,hr5',hRv⟩:=(hL.kept hk0c).at_ (List.getElem?_eq_getElem hlt)
  obtain ⟨bi,off,cap,cs',k',rfl,hcap,hbi,hown,hesz,hle,htk⟩:=(h1.kept hk0c).at_ hr5'
  obtain ⟨r6,hr6',hRw⟩:=(pL.kept hk0c).at_ (List.getElem?_eq_getElem hltb)
  obtain ⟨bj,offj,capj,csj,kj,rfl,hcapj,hbj,hownj,heszj,hlej,htkj⟩:=(p1.kept hk0c).at_ hr6'
  have hlt2:(i:Int)<(css.length:Int):=by omega
  have hlt3:(i:Int)<(css2.length:Int):=by omega
  have hwi:IntKind.i64.wrap ((i:Int)+1)=((i+1:Nat):Int):=by rw [wi64 (by omega)];omega
  have hi0:(0:Int)≤(i:Int):=Int.natCast_nonneg _
  have g1:kids[i]? =some kids[i]:=List.getElem?_eq_getElem hlt
  have g2:kids2[i]? =some kids2[i]:=List.getElem?_eq_getElem hltb
  have hr55:=hRv.len
  have hr65:=hRw.len
  have hcall:=ih kids[i] (List.getElem_mem hlt) (szL_iff.1 hszL _ (List.getElem_mem hlt)) kids2[i] Hc r5 r6 hRv hRw
  generalize kids[i]=v at*
  generalize kids2[i]=w at*
  repeat first|with_reducible refine kc ?_|((with_reducible first|refine kr ?_ ?_|refine kt ?_ ?_);exact rfl)|((with_reducible refine kf ?_ ?_);exact rfl)|simp only [go_sem,sevalprocAttr,reduceCtorEq,hlt']|simp (disch:=omega) only [wz]
  refine AWP.regionMP 10 [1,4,6,9] [(1,.slice (some ⟨bi,off,none⟩) css.length cap),(6,.slice (some ⟨bj,offj,none⟩) css2.length capj)] (.both (.step 1 (.both (.run [4,6,9]) (.step 6 (.both (.run [4,9]) (.run [9,4]))))) (.step 6 (.both (.step 1 (.both (.run [4,9]) (.run [9,4]))) (.run [9,1,4])))) (by kernel_rfl) (by decide) (by kernel_rfl) (by kernel_rfl) (by kernel_rfl) ?_
  repeat' first|with_reducible refine canW_n ?_|with_reducible refine canW_m (by decide) ?_|((with_reducible apply canW_p (by decide));focus (intro H;(simp only [go_sem,sevalprocAttr,reduceCtorEq,hb0c,hb1c,hi0,hlt2,hlt3,hbi,hbj,hle,hlej,htk,htkj,hr55,hr65,List.map_cons,List.map_nil]);exact rfl))|with_reducible refine memW_bP ?_ ?_|with_reducible refine memW_sP rfl ?_|with_reducible refine memW_rP rfl ?_|with_reducible refine memW_eP ?_|simp only [List.take_succ_cons,List.take_zero,List.drop_succ_cons,List.drop_zero]|omega|with_reducible refine And.intro ?_ ?_|with_reducible refine kc ?_|((with_reducible first|refine kr ?_ ?_|refine kt ?_ ?_);exact rfl)|((with_reducible refine kf ?_ ?_);exact rfl)|simp only [go_sem,sevalprocAttr,reduceCtorEq,hb0c,hb1c,hi0,hlt2,hlt3,hbi,hbj,hle,hlej,htk,htkj,hr55,hr65,List.map_cons,List.map_nil]|simp (disch:=omega) only [wz]
  all_goals
   refine AC.mono hcall ?_
   rintro res H5 ⟨rfl,hf5⟩
   have hf15:Frm [] H1 H5:=hf.trans hf5 (fun x hx=>by cases hx)
   cases hsv:sameB v w with
   | false=>
    have hno:sameL kids kids2=false:=by
     cases h:sameL kids kids2 with
     |false=>rfl
     |true=>rw [((sameL_iff _ _).1 h).2 i v w g1 g2] at hsv;cases hsv
    rw [hno,Bool.false_and]
    repeat first|with_reducible refine kc ?_|((with_reducible first|refine kr ?_ ?_|refine kt ?_ ?_);exact rfl)|((with_reducible refine kf ?_ ?_);exact rfl)|simp only [go_sem,sevalprocAttr,reduceCtorEq]|simp (disch:=omega) only [wz]
    exact ⟨_,_,.refl _ _ _,rfl,hf1.trans hf15 (fun x hx=>by cases hx)⟩
   | true=>
    repeat first|with_reducible refine kc ?_|((with_reducible first|refine kr ?_ ?_|refine kt ?_ ?_);exact rfl)|((with_reducible refine kf ?_ ?_);exact rfl)|simp only [go_sem,sevalprocAttr,reduceCtorEq,hwi]|simp (disch:=omega) only [wz]
    refine ⟨(i+1,H5),Weak.env (by simp [envIn,lk_cons,wth_some]),hlt,hf15,fun j a b hj ha hb=> ?_,by dsimp only;omega⟩
    rcases Nat.lt_or_ge j i with h|h
    ·exact hall j a b h ha hb
    ·obtain rfl:j=i:=by dsimp only at hj;omega
     rw [g1] at ha
     rw [g2] at hb
     cases ha;cases hb
     exact hsv
 ·have hlt':¬(i:Int)<(kids.length:Int):=by omega
  have hsl:sameL kids kids2=true:=(sameL_iff _ _).2 ⟨e4,fun j a b ha hb=>hall j a b (by have:=(List.getElem?_eq_some_iff.1 ha).1;omega) ha hb⟩
  rw [hsl,Bool.true_and]
  have hfc:Frm [] H Hc:=hf1.trans hf (fun x hx=>by cases hx)
  repeat first|with_reducible refine kc ?_|((with_reducible first|refine kr ?_ ?_|refine kt ?_ ?_);exact rfl)|((with_reducible refine kf ?_ ?_);exact rfl)|simp only [go_sem,sevalprocAttr,reduceCtorEq,hlt',hb0c,q2]|simp (disch:=omega) only [wz]
  refine AWP.loopP (fun j:Nat=>⟨[(2,.pointer (some ⟨H.length,0,none⟩)),(3,.pointer (some ⟨H.length+1,0,none⟩)),(65,.int .i64 (keys.length:Nat)),(66,.int .i64 (j:Nat))],[],Hc⟩)
   (fun j=>j≤keys.length∧keys.take j=keys2.take j) (fun j=>keys.length - j) 0 ?_ ⟨Nat.zero_le _,rfl⟩ ?_
  ·exact Weak.env (by simp [envIn,lk_cons,wth_some])
  rintro j ⟨hj,heq⟩
  dsimp only at hj heq ⊢
  by_cases hlj:j<keys.length
  ·have hlj':(j:Int)<(keys.length:Int):=by omega
   have hlj2:j<keys2.length:=by omega
   obtain ⟨bi,off,cap,cs',k',rfl,hcap,hbi,hown,hesz,hle,htk⟩:=(h3.kept hk0c).at_ (keyC_at hlj)
   obtain ⟨bj,offj,capj,csj,kj,rfl,hcapj,hbj,hownj,heszj,hlej,htkj⟩:=(p3.kept hk0c).at_ (keyC_at hlj2)
   have hx0:(0:Int)≤(j:Int):=Int.natCast_nonneg _
   have hx1:(j:Int)<((keyC keys).length:Int):=by omega
   have hx2:(j:Int)<((keyC keys2).length:Int):=by omega
   have hwj:IntKind.i64.wrap ((j:Int)+1)=((j+1:Nat):Int):=by rw [wi64 (by omega)];omega
   have g1:keys[j]? =some keys[j]:=List.getElem?_eq_getElem hlj
   have g2:keys2[j]? =some keys2[j]:=List.getElem?_eq_getElem hlj2
   have ht1:keys.take (j+1)=keys.take j++[keys[j]]:=by rw [List.take_add_one,g1];rfl
   have ht2:keys2.take (j+1)=keys2.take j++[keys2[j]]:=by rw [List.take_add_one,g2];rfl
   generalize keys[j]=a at*
   generalize keys2[j]=b at*
   have hat1:cs'[off+j]? =some (.string (bs a)):=by
    have h1:=congrArg (fun l=>l[0]?) htk
    simpa using h1
   have hat2:csj[offj+j]? =some (.string (bs b)):=by
    have h1:=congrArg (fun l=>l[0]?) htkj
    simpa using h1
   by_cases hab:a=b
   ·subst hab
    repeat first|with_reducible refine kc ?_|((with_reducible first|refine kr ?_ ?_|refine kt ?_ ?_);exact rfl)|((with_reducible refine kf ?_ ?_);exact rfl)|simp only [go_sem,sevalprocAttr,reduceCtorEq,hlj']|simp (disch:=omega) only [wz]
    refine AWP.regionMP 10 [1,4,6,9] [(1,.slice (some ⟨bi,off,none⟩) (keyC keys).length cap),(6,.slice (some ⟨bj,offj,none⟩) (keyC keys2).length capj)] (.both (.step 1 (.both (.run [4,6,9]) (.step 6 (.both (.run [4,9]) (.run [9,4]))))) (.step 6 (.both (.step 1 (.both (.run [4,9]) (.run [9,4]))) (.run [9,1,4])))) (by kernel_rfl) (by decide) (by kernel_rfl) (by kernel_rfl) (by kernel_rfl) ?_
    repeat' first|with_reducible refine canW_n ?_|with_reducible refine canW_m (by decide) ?_|((with_reducible apply canW_p (by decide));focus (intro H;(simp only [go_sem,sevalprocAttr,reduceCtorEq,hb0c,hb1c,hx0,hx1,hx2,hbi,hbj,hat1,hat2,nb,ns,beq_self_eq_true,Bool.not_true,List.map_cons,List.map_nil]);exact rfl))|with_reducible refine memW_bP ?_ ?_|with_reducible refine memW_sP rfl ?_|with_reducible refine memW_rP rfl ?_|with_reducible refine memW_eP ?_|simp only [List.take_succ_cons,List.take_zero,List.drop_succ_cons,List.drop_zero]|omega|with_reducible refine And.intro ?_ ?_|with_reducible refine kc ?_|((with_reducible first|refine kr ?_ ?_|refine kt ?_ ?_);exact rfl)|((with_reducible refine kf ?_ ?_);exact rfl)|simp only [go_sem,sevalprocAttr,reduceCtorEq,hb0c,hb1c,hx0,hx1,hx2,hbi,hbj,hat1,hat2,nb,ns,beq_self_eq_true,Bool.not_true,List.map_cons,List.map_nil]|simp (disch:=omega) only [wz]
    all_goals
     repeat first|with_reducible refine kc ?_|((with_reducible first|refine kr ?_ ?_|refine kt ?_ ?_);exact rfl)|((with_reducible refine kf ?_ ?_);exact rfl)|simp only [go_sem,sevalprocAttr,reduceCtorEq,hwj]|simp (disch:=omega) only [wz]
     exact ⟨j+1,Weak.env (by simp [envIn,lk_cons,wth_some]),hlj,by rw [ht1,ht2,heq],by omega⟩
   ·have hab':(a==b)=false:=by simpa using hab
    have hno:(keys==keys2)=false:=by
     rw [beq_eq_false_iff_ne]
     intro h
     rw [h,g2] at g1
     cases g1
     exact hab rfl
    rw [hno]
    repeat first|with_reducible refine kc ?_|((with_reducible first|refine kr ?_ ?_|refine kt ?_ ?_);exact rfl)|((with_reducible refine kf ?_ ?_);exact rfl)|simp only [go_sem,sevalprocAttr,reduceCtorEq,hlj']|simp (disch:=omega) only [wz]
    refine AWP.regionMP 10 [1,4,6,9] [(1,.slice (some ⟨bi,off,none⟩) (keyC keys).length cap),(6,.slice (some ⟨bj,offj,none⟩) (keyC keys2).length capj)] (.both (.step 1 (.both (.run [4,6,9]) (.step 6 (.both (.run [4,9]) (.run [9,4]))))) (.step 6 (.both (.step 1 (.both (.run [4,9]) (.run [9,4]))) (.run [9,1,4])))) (by kernel_rfl) (by decide) (by kernel_rfl) (by kernel_rfl) (by kernel_rfl) ?_
    repeat' first|with_reducible refine canW_n ?_|with_reducible refine canW_m (by decide) ?_|((with_reducible apply canW_p (by decide));focus (intro H;(simp only [go_sem,sevalprocAttr,reduceCtorEq,hb0c,hb1c,hx0,hx1,hx2,hbi,hbj,hat1,hat2,nb,ns,hab',Bool.not_false,List.map_cons,List.map_nil]);exact rfl))|with_reducible refine memW_bP ?_ ?_|with_reducible refine memW_sP rfl ?_|with_reducible refine memW_rP rfl ?_|with_reducible refine memW_eP ?_|simp only [List.take_succ_cons,List.take_zero,List.drop_succ_cons,List.drop_zero]|omega|with_reducible refine And.intro ?_ ?_|with_reducible refine kc ?_|((with_reducible first|refine kr ?_ ?_|refine kt ?_ ?_);exact rfl)|((with_reducible refine kf ?_ ?_);exact rfl)|simp only [go_sem,sevalprocAttr,reduceCtorEq,hb0c,hb1c,hx0,hx1,hx2,hbi,hbj,hat1,hat2,nb,ns,hab',Bool.not_false,List.map_cons,List.map_nil]|simp (disch:=omega) only [wz]
    all_goals
     repeat first|with_reducible refine kc ?_|((with_reducible first|refine kr ?_ ?_|refine kt ?_ ?_);exact rfl)|((with_reducible refine kf ?_ ?_);exact rfl)|simp only [go_sem,sevalprocAttr,reduceCtorEq]|simp (disch:=omega) only [wz]
     exact ⟨_,_,.refl _ _ _,rfl,hfc⟩
  ·have hlj':¬(j:Int)<(keys.length:Int):=by omega
   have hkk:keys=keys2:=by
    have h1:keys.take j=keys:=List.take_of_length_le (by omega)
    have h2:keys2.take j=keys2:=List.take_of_length_le (by omega)
    rw [← h1,←h2];exact heq
   have hyes:(keys==keys2)=true:=by rw [hkk];exact beq_self_eq_true _
   rw [hyes]
   repeat first|with_reducible refine kc ?_|((with_reducible first|refine kr ?_ ?_|refine kt ?_ ?_);exact rfl)|((with_reducible refine kf ?_ ?_);exact rfl)|simp only [go_sem,sevalprocAttr,reduceCtorEq,hlj']|simp (disch:=omega) only [wz]
   exact ⟨_,_,.refl _ _ _,rfl,hfc⟩
end Go.Proofs.YthcdjconlfdidaaGreatDoor
