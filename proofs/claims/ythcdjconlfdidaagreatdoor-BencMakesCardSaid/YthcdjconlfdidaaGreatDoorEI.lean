/-
 The walk of the specification's form.
-/
import Derived.Test.YthcdjconlfdidaaGreatDoorEH
set_option linter.unusedVariables false
set_option linter.unusedSimpArgs false
set_option maxRecDepth 20000
set_option maxHeartbeats 8000000
namespace Go.Proofs.YthcdjconlfdidaaGreatDoor
open Go Go.Aw Go.Proofs
def FoJ (H1:AHeap) (l:Nat) (b:Bool) (st:ASt):Prop:=b=true∧st=⟨[(1,.pointer (some ⟨l,0,none⟩))],[],H1⟩
theorem rForm (v:BV):szV v→∀(H:AHeap) (cs:List Value),RdV H v cs→AC Tryz.prog 60 [.agg ⟨cs⟩] H (fun r H2=>r= .ret (.bool v.form)∧Frm [] H H2):=by
 refine BV.ind (P:=fun v=>szV v→∀(H:AHeap) (cs:List Value),RdV H v cs→AC Tryz.prog 60 [.agg ⟨cs⟩] H (fun r H2=>r= .ret (.bool v.form)∧Frm [] H H2)) (fun k n s kids keys ih hsz H cs hR=> ?_) v
 unfold szV at hsz
 obtain ⟨hkd,hky,hszL⟩:=hsz
 have hfl:=RdV_flat hR
 have hr5:=hR.len
 unfold RdV at hR
 obtain ⟨vk,vs,css,rfl,p1,hL,p3⟩:=hR
 obtain ⟨H1,hH1⟩:∃H1:AHeap,H1=H++ [.cells [.int .i64 k,.int .i64 n,.string (bs s),vk,vs] ⟨27,0,true,0,none⟩]:=⟨_,rfl⟩
 have hb1:H1[H.length]? =some (.cells [.int .i64 k,.int .i64 n,.string (bs s),vk,vs] ⟨27,0,true,0,none⟩):=by rw [hH1,hget0 rfl];rfl
 have hf1:Frm [] H H1:=by rw [hH1];exact Frm.app
 have hk1:Kept H H1:=by rw [hH1];exact .more _ _
 have hcl:=hL.len
 have hkl:(keyC keys).length=keys.length:=by unfold keyC;simp
 have q1:∀H' K,lenW Tryz.prog 23 vk H' K=K (.int .i64 (kids.length:Nat)) H':=fun H' K=>by rw [p1.lenT (by simp only [go_sem,sevalprocAttr,reduceCtorEq]),hcl]
 have q2:∀H' K,lenW Tryz.prog 22 vs H' K=K (.int .i64 (keys.length:Nat)) H':=fun H' K=>by rw [p3.lenT (by simp only [go_sem,sevalprocAttr,reduceCtorEq]),hkl]
 rw [form_shape]
 obtain ⟨sh,hsh⟩:∃sh,shapeB (.mk k n s kids keys)=sh:=⟨_,rfl⟩
 have hsh0:=hsh
 rw [hsh]
 unfold shapeB at hsh
 dsimp only at hsh
 have zb:∀m:Nat,((m:Int)==0)=(m==0):=fun m=>by rw [Bool.eq_iff_iff];simp
 have nb:∀a b:Int,(a != b)= !(a==b):=fun a b=>rfl
 have ns:∀a b:List UInt8,(a != b)= !(a==b):=fun a b=>rfl
 refine AC.enter Tryz.func60 rfl (by kernel_rfl) 107 rfl [.tmp 2] rfl (by simp) fun hsc B=> ?_
 repeat first|with_reducible refine AWP.seqE (x:= .seq (.region 1 _ _) _) (FoJ H1 H.length sh) ?_ ?_|with_reducible refine kc ?_|((with_reducible first|refine kr ?_ ?_|refine kt ?_ ?_);exact rfl)|((with_reducible refine kf ?_ ?_);exact rfl)|simp only [go_sem,sevalprocAttr,reduceCtorEq,hfl,hr5]|simp (disch:=omega) only [wz]
 ·rw [← hH1]
  by_cases k1:k=1
  ·subst k1
   rw [if_pos rfl] at hsh
   cases hs:(s==[]) with
   |false=>
    rw [hs,Bool.false_and] at hsh
    repeat first|with_reducible refine kc ?_|((with_reducible first|refine kr ?_ ?_|refine kt ?_ ?_);exact rfl)|((with_reducible refine kf ?_ ?_);exact rfl)|simp only [go_sem,sevalprocAttr,reduceCtorEq,hb1,hs,exists_eq_left]|simp (disch:=omega) only [wz]
    exact ⟨_,_,.refl _ _ _,by rw [← hsh];rfl,hf1⟩
   | true=>
    rw [hs,Bool.true_and] at hsh
    cases hk:(kids.length==0) with
    |false=>
     have hz:(kids.length+keys.length==0)=false:=by simp at hk ⊢;intro h;exact absurd h hk
     rw [hz] at hsh
     repeat first|with_reducible refine kc ?_|((with_reducible first|refine kr ?_ ?_|refine kt ?_ ?_);exact rfl)|((with_reducible refine kf ?_ ?_);exact rfl)|simp only [go_sem,sevalprocAttr,reduceCtorEq,hb1,hs,q1,zb,hk,exists_eq_left]|simp (disch:=omega) only [wz]
     exact ⟨_,_,.refl _ _ _,by rw [← hsh];rfl,hf1⟩
    |true=>
     have hkn:kids=[]:=by simpa using hk
     have hz:(kids.length+keys.length==0)=(keys.length==0):=by rw [hkn];simp
     rw [hz] at hsh
     repeat first|with_reducible refine kc ?_|((with_reducible first|refine kr ?_ ?_|refine kt ?_ ?_);exact rfl)|((with_reducible refine kf ?_ ?_);exact rfl)|simp only [go_sem,sevalprocAttr,reduceCtorEq,hb1,hs,q1,q2,zb,hk,exists_eq_left]|simp (disch:=omega) only [wz]
     exact ⟨_,_,.refl _ _ _,by rw [← hsh,hkn];simp [BV.formL],hf1⟩
  rw [if_neg k1] at hsh
  have e1:(k==1)=false:=by simpa using k1
  by_cases k2:k=2
  ·subst k2
   rw [if_pos rfl] at hsh
   cases hs:(n==0) with
   |false=>
    rw [hs,Bool.false_and] at hsh
    repeat first|with_reducible refine kc ?_|((with_reducible first|refine kr ?_ ?_|refine kt ?_ ?_);exact rfl)|((with_reducible refine kf ?_ ?_);exact rfl)|simp only [go_sem,sevalprocAttr,reduceCtorEq,hb1,hs,exists_eq_left]|simp (disch:=omega) only [wz]
    exact ⟨_,_,.refl _ _ _,by rw [← hsh];rfl,hf1⟩
   | true=>
    rw [hs,Bool.true_and] at hsh
    cases hk:(kids.length==0) with
    |false=>
     have hz:(kids.length+keys.length==0)=false:=by simp at hk ⊢;intro h;exact absurd h hk
     rw [hz] at hsh
     repeat first|with_reducible refine kc ?_|((with_reducible first|refine kr ?_ ?_|refine kt ?_ ?_);exact rfl)|((with_reducible refine kf ?_ ?_);exact rfl)|simp only [go_sem,sevalprocAttr,reduceCtorEq,hb1,hs,q1,zb,hk,exists_eq_left]|simp (disch:=omega) only [wz]
     exact ⟨_,_,.refl _ _ _,by rw [← hsh];rfl,hf1⟩
    |true=>
     have hkn:kids=[]:=by simpa using hk
     have hz:(kids.length+keys.length==0)=(keys.length==0):=by rw [hkn];simp
     rw [hz] at hsh
     repeat first|with_reducible refine kc ?_|((with_reducible first|refine kr ?_ ?_|refine kt ?_ ?_);exact rfl)|((with_reducible refine kf ?_ ?_);exact rfl)|simp only [go_sem,sevalprocAttr,reduceCtorEq,hb1,hs,q1,q2,zb,hk,exists_eq_left]|simp (disch:=omega) only [wz]
     exact ⟨_,_,.refl _ _ _,by rw [← hsh,hkn];simp [BV.formL],hf1⟩
  rw [if_neg k2] at hsh
  have e2:(k==2)=false:=by simpa using k2
  by_cases k3:k=3
  ·subst k3
   rw [if_pos rfl] at hsh
   cases hn:(n==0) with
   |false=>
    rw [hn,Bool.false_and,Bool.false_and] at hsh
    repeat first|with_reducible refine kc ?_|((with_reducible first|refine kr ?_ ?_|refine kt ?_ ?_);exact rfl)|((with_reducible refine kf ?_ ?_);exact rfl)|simp only [go_sem,sevalprocAttr,reduceCtorEq,hb1,nb,hn,exists_eq_left]|simp (disch:=omega) only [wz]
    exact ⟨_,_,.refl _ _ _,by rw [← hsh];rfl,hf1⟩
   | true=>
    rw [hn,Bool.true_and] at hsh
    cases hs:(s==[]) with
    |false=>
     rw [hs,Bool.false_and] at hsh
     repeat first|with_reducible refine kc ?_|((with_reducible first|refine kr ?_ ?_|refine kt ?_ ?_);exact rfl)|((with_reducible refine kf ?_ ?_);exact rfl)|simp only [go_sem,sevalprocAttr,reduceCtorEq,hb1,nb,ns,hn,hs,exists_eq_left]|simp (disch:=omega) only [wz]
     exact ⟨_,_,.refl _ _ _,by rw [← hsh];rfl,hf1⟩
    | true=>
     rw [hs,Bool.true_and] at hsh
     cases hk:(keys.length==0) with
     |false=>
      rw [hk] at hsh
      repeat first|with_reducible refine kc ?_|((with_reducible first|refine kr ?_ ?_|refine kt ?_ ?_);exact rfl)|((with_reducible refine kf ?_ ?_);exact rfl)|simp only [go_sem,sevalprocAttr,reduceCtorEq,hb1,nb,ns,hn,hs,q2,zb,hk,exists_eq_left]|simp (disch:=omega) only [wz]
      exact ⟨_,_,.refl _ _ _,by rw [← hsh];rfl,hf1⟩
     |true=>
      rw [hk] at hsh
      repeat first|with_reducible refine kc ?_|((with_reducible first|refine kr ?_ ?_|refine kt ?_ ?_);exact rfl)|((with_reducible refine kf ?_ ?_);exact rfl)|simp only [go_sem,sevalprocAttr,reduceCtorEq,hb1,nb,ns,hn,hs,q2,zb,hk,exists_eq_left]|simp (disch:=omega) only [wz]
      exact ⟨_,⟨hsh.symm,rfl⟩,Weak.env (by simp [envIn,lk_cons,wth_some])⟩
  rw [if_neg k3] at hsh
  have e3:(k==3)=false:=by simpa using k3
  by_cases k4:k=4
  ·subst k4
   rw [if_pos rfl] at hsh
   unfold dictB at hsh
   have hasc:=asc_iff keys
   cases hn:(n==0) with
   |false=>
    rw [hn] at hsh
    simp only [Bool.false_and] at hsh
    repeat first|with_reducible refine kc ?_|((with_reducible first|refine kr ?_ ?_|refine kt ?_ ?_);exact rfl)|((with_reducible refine kf ?_ ?_);exact rfl)|simp only [go_sem,sevalprocAttr,reduceCtorEq,hb1,nb,hn,exists_eq_left]|simp (disch:=omega) only [wz]
    exact ⟨_,_,.refl _ _ _,by rw [← hsh];rfl,hf1⟩
   | true =>
    cases hs:(s==[]) with
    |false=>
     rw [hs] at hsh
     simp only [Bool.false_and,Bool.and_false] at hsh
     repeat first|with_reducible refine kc ?_|((with_reducible first|refine kr ?_ ?_|refine kt ?_ ?_);exact rfl)|((with_reducible refine kf ?_ ?_);exact rfl)|simp only [go_sem,sevalprocAttr,reduceCtorEq,hb1,nb,ns,hn,hs,exists_eq_left]|simp (disch:=omega) only [wz]
     exact ⟨_,_,.refl _ _ _,by rw [← hsh];rfl,hf1⟩
    | true=>
     cases hk:(keys.length==kids.length) with
     |false=>
      rw [hk] at hsh
      simp only [Bool.false_and,Bool.and_false] at hsh
      have hk':((keys.length:Int)==(kids.length:Int))=false:=by simp at hk ⊢;omega
      repeat first|with_reducible refine kc ?_|((with_reducible first|refine kr ?_ ?_|refine kt ?_ ?_);exact rfl)|((with_reducible refine kf ?_ ?_);exact rfl)|simp only [go_sem,sevalprocAttr,reduceCtorEq,hb1,nb,ns,hn,hs,q1,q2,hk',exists_eq_left]|simp (disch:=omega) only [wz]
      exact ⟨_,_,.refl _ _ _,by rw [← hsh];rfl,hf1⟩
     | true=>
      rw [hn,hs,hk] at hsh
      simp only [Bool.true_and] at hsh
      rw [← hasc] at hsh
      have hk':((keys.length:Int)==(kids.length:Int))=true:=by simp at hk ⊢;omega
      repeat first|with_reducible refine kc ?_|((with_reducible first|refine kr ?_ ?_|refine kt ?_ ?_);exact rfl)|((with_reducible refine kf ?_ ?_);exact rfl)|simp only [go_sem,sevalprocAttr,reduceCtorEq,hb1,nb,ns,hn,hs,q1,q2,hk',exists_eq_left]|simp (disch:=omega) only [wz]
      refine AWP.loopP (fun i:Nat=>⟨[(1,.pointer (some ⟨H.length,0,none⟩)),(3,.int .i64 (i:Nat))],[],H1⟩)
       (fun i=>1≤i∧(i≤keys.length∨i=1)∧∀j x y,j+1<i→keys[j]? =some x→keys[j+1]? =some y→Op.bytesLess x y=true) (fun i=>keys.length - i) 1 ?_ ⟨Nat.le_refl _,.inr rfl,fun j x y hj=>by omega⟩ ?_
      ·exact Weak.env (by simp [envIn,lk_cons,wth_some])
      rintro i ⟨hi1,hi2,hall⟩
      dsimp only at hi1 hi2 hall ⊢
      by_cases hlt:i<keys.length
      ·have hlt':(i:Int)<(keys.length:Int):=by omega
       have hw1:IntKind.i64.wrap ((i:Int) - 1)=((i - 1:Nat):Int):=by rw [wi64 (by omega)];omega
       have hw2:IntKind.i64.wrap ((i:Int)+1)=((i+1:Nat):Int):=by rw [wi64 (by omega)];omega
       have hlp:i - 1<keys.length:=by omega
       obtain ⟨bi,off,cap,cs',k',rfl,hcap,hbi,hown,hesz,hle,htk⟩:=(p3.kept hk1).at_ (keyC_at hlp)
       obtain ⟨bi2,off2,cap2,cs2,k2,hvs,hcap2,hbi2,hown2,hesz2,hle2,htk2⟩:=(p3.kept hk1).at_ (keyC_at hlt)
       cases hvs
       rw [hbi] at hbi2
       cases hbi2
       have g1:keys[i - 1]? =some keys[i - 1]:=List.getElem?_eq_getElem hlp
       have g2:keys[i]? =some keys[i]:=List.getElem?_eq_getElem hlt
       have z0:(0:Int)≤((i - 1:Nat):Int):=Int.natCast_nonneg _
       have z1:((i - 1:Nat):Int)<((keyC keys).length:Int):=by omega
       have z2:(0:Int)≤(i:Int):=Int.natCast_nonneg _
       have z3:(i:Int)<((keyC keys).length:Int):=by omega
       generalize keys[i - 1]=x at*
       generalize keys[i]=y at*
       have hat1:cs'[off+(i - 1)]? =some (.string (bs x)):=by
        have h1:=congrArg (fun l=>l[0]?) htk
        simpa using h1
       have hat2:cs'[off+i]? =some (.string (bs y)):=by
        have h1:=congrArg (fun l=>l[0]?) htk2
        simpa using h1
       obtain ⟨j,hj⟩:∃j,j=i - 1:=⟨_,rfl⟩
       rw [← hj] at hw1 z0 z1 hat1 g1
       cases hcmp:Op.bytesLess x y with
       | false=>
        have hno:BV.asc keys=false:=by
         cases h:BV.asc keys with
         |false=>rfl
         |true=>
          have:=((ascF_iff keys none).1 h).2 j x y g1 (by rw [hj,show i - 1+1=i by omega];exact g2)
          rw [hcmp] at this;cases this
        rw [hno] at hsh
        repeat first|with_reducible refine kc ?_|((with_reducible first|refine kr ?_ ?_|refine kt ?_ ?_);exact rfl)|((with_reducible refine kf ?_ ?_);exact rfl)|simp only [go_sem,sevalprocAttr,reduceCtorEq,hlt',hb1,q2]|simp (disch:=omega) only [wz]
        refine AWP.regionMP 11 [1,5,7,10] [(1,.slice (some ⟨bi,off,none⟩) (keyC keys).length cap),(7,.slice (some ⟨bi,off,none⟩) (keyC keys).length cap)] (.both (.step 1 (.both (.run [5,7,10]) (.step 7 (.both (.run [5,10]) (.run [10,5]))))) (.step 7 (.both (.step 1 (.both (.run [5,10]) (.run [10,5]))) (.run [10,1,5])))) (by kernel_rfl) (by decide) (by kernel_rfl) (by kernel_rfl) (by kernel_rfl) ?_
        repeat' first|with_reducible refine canW_n ?_|with_reducible refine canW_m (by decide) ?_|((with_reducible apply canW_p (by decide));focus (intro H;(simp only [go_sem,sevalprocAttr,reduceCtorEq,hb1,hw1,z0,z1,z2,z3,hbi,hat1,hat2,hcmp,Bool.not_false,List.map_cons,List.map_nil]);exact rfl))|with_reducible refine memW_bP ?_ ?_|with_reducible refine memW_sP rfl ?_|with_reducible refine memW_rP rfl ?_|with_reducible refine memW_eP ?_|simp only [List.take_succ_cons,List.take_zero,List.drop_succ_cons,List.drop_zero]|omega|with_reducible refine And.intro ?_ ?_|with_reducible refine kc ?_|((with_reducible first|refine kr ?_ ?_|refine kt ?_ ?_);exact rfl)|((with_reducible refine kf ?_ ?_);exact rfl)|simp only [go_sem,sevalprocAttr,reduceCtorEq,hb1,hw1,z0,z1,z2,z3,hbi,hat1,hat2,hcmp,Bool.not_false,List.map_cons,List.map_nil]|simp (disch:=omega) only [wz]
        all_goals
         repeat first|with_reducible refine kc ?_|((with_reducible first|refine kr ?_ ?_|refine kt ?_ ?_);exact rfl)|((with_reducible refine kf ?_ ?_);exact rfl)|simp only [go_sem,sevalprocAttr,reduceCtorEq]|simp (disch:=omega) only [wz]
         exact ⟨_,_,.refl _ _ _,by rw [← hsh];rfl,hf1⟩
       | true=>
        repeat first|with_reducible refine kc ?_|((with_reducible first|refine kr ?_ ?_|refine kt ?_ ?_);exact rfl)|((with_reducible refine kf ?_ ?_);exact rfl)|simp only [go_sem,sevalprocAttr,reduceCtorEq,hlt',hb1,q2]|simp (disch:=omega) only [wz]
        refine AWP.regionMP 11 [1,5,7,10] [(1,.slice (some ⟨bi,off,none⟩) (keyC keys).length cap),(7,.slice (some ⟨bi,off,none⟩) (keyC keys).length cap)] (.both (.step 1 (.both (.run [5,7,10]) (.step 7 (.both (.run [5,10]) (.run [10,5]))))) (.step 7 (.both (.step 1 (.both (.run [5,10]) (.run [10,5]))) (.run [10,1,5])))) (by kernel_rfl) (by decide) (by kernel_rfl) (by kernel_rfl) (by kernel_rfl) ?_
        repeat' first|with_reducible refine canW_n ?_|with_reducible refine canW_m (by decide) ?_|((with_reducible apply canW_p (by decide));focus (intro H;(simp only [go_sem,sevalprocAttr,reduceCtorEq,hb1,hw1,z0,z1,z2,z3,hbi,hat1,hat2,hcmp,Bool.not_true,List.map_cons,List.map_nil]);exact rfl))|with_reducible refine memW_bP ?_ ?_|with_reducible refine memW_sP rfl ?_|with_reducible refine memW_rP rfl ?_|with_reducible refine memW_eP ?_|simp only [List.take_succ_cons,List.take_zero,List.drop_succ_cons,List.drop_zero]|omega|with_reducible refine And.intro ?_ ?_|with_reducible refine kc ?_|((with_reducible first|refine kr ?_ ?_|refine kt ?_ ?_);exact rfl)|((with_reducible refine kf ?_ ?_);exact rfl)|simp only [go_sem,sevalprocAttr,reduceCtorEq,hb1,hw1,z0,z1,z2,z3,hbi,hat1,hat2,hcmp,Bool.not_true,List.map_cons,List.map_nil]|simp (disch:=omega) only [wz]
        all_goals
         repeat first|with_reducible refine kc ?_|((with_reducible first|refine kr ?_ ?_|refine kt ?_ ?_);exact rfl)|((with_reducible refine kf ?_ ?_);exact rfl)|simp only [go_sem,sevalprocAttr,reduceCtorEq,hw2]|simp (disch:=omega) only [wz]
         refine ⟨i+1,Weak.env (by simp [envIn,lk_cons,wth_some]),by omega,.inl hlt,fun j2 a b hj2 ha hb=> ?_,by omega⟩
         rcases Nat.lt_or_ge (j2+1) i with h|h
         ·exact hall j2 a b h ha hb
         ·obtain rfl:j2=j:=by omega
          rw [g1] at ha
          rw [show j2+1=i by omega,g2] at hb
          cases ha;cases hb
          exact hcmp
      ·have hlt':¬(i:Int)<(keys.length:Int):=by omega
       have hyes:BV.asc keys=true:=(ascF_iff keys none).2 ⟨fun b x hb _=>(by cases hb),fun j x y hx hy=>hall j x y (by have:=(List.getElem?_eq_some_iff.1 hy).1;omega) hx hy⟩
       rw [hyes] at hsh
       repeat first|with_reducible refine kc ?_|((with_reducible first|refine kr ?_ ?_|refine kt ?_ ?_);exact rfl)|((with_reducible refine kf ?_ ?_);exact rfl)|simp only [go_sem,sevalprocAttr,reduceCtorEq,hlt',hb1,q2]|simp (disch:=omega) only [wz]
       exact ⟨_,⟨hsh.symm,rfl⟩,Weak.env (by simp [envIn,lk_cons,wth_some])⟩
  ·rw [if_neg k4] at hsh
   have e4:(k==4)=false:=by simpa using k4
   repeat first|with_reducible refine kc ?_|((with_reducible first|refine kr ?_ ?_|refine kt ?_ ?_);exact rfl)|((with_reducible refine kf ?_ ?_);exact rfl)|simp only [go_sem,sevalprocAttr,reduceCtorEq,hb1,e1,e2,e3,e4]|simp (disch:=omega) only [wz]
   exact ⟨_,_,.refl _ _ _,by rw [← hsh];rfl,hf1⟩
 ·rintro st ⟨hst,rfl⟩
  rw [hst,Bool.true_and]
  repeat first|with_reducible refine kc ?_|((with_reducible first|refine kr ?_ ?_|refine kt ?_ ?_);exact rfl)|((with_reducible refine kf ?_ ?_);exact rfl)|simp only [go_sem,sevalprocAttr,reduceCtorEq,hb1,q1]|simp (disch:=omega) only [wz]
  refine AWP.loopP (fun p:WLq=>⟨[(1,.pointer (some ⟨H.length,0,none⟩)),(97,vk),(98,.int .i64 (kids.length:Nat)),(99,.int .i64 (p.i:Nat))],[],p.Hc⟩)
   (fun p=>p.i≤kids.length∧Frm [] H1 p.Hc∧∀j v,j<p.i→kids[j]? =some v→v.form=true) (fun p=>kids.length - p.i) ⟨0,H1⟩ ?_ ⟨Nat.zero_le _,Frm.refl _ _,fun j v hj=>absurd hj (Nat.not_lt_zero _)⟩ ?_
  ·exact Weak.env (by simp [envIn,lk_cons,wth_some])
  rintro ⟨i,Hc⟩ ⟨hi,hf,hall⟩
  dsimp only at hi hf hall ⊢
  have hf0:Frm [] H Hc:=hf1.trans hf (fun x hx=>by cases hx)
  have hkc:Kept H Hc:=Kept.frm hf0 (fun x hx=>by cases hx)
  by_cases hlt:i<kids.length
  ·have hlt':(i:Int)<(kids.length:Int):=by omega
   obtain ⟨r,hr,hRv⟩:=(hL.kept hkc).at_ (List.getElem?_eq_getElem hlt)
   obtain ⟨bi,off,cap,cs',k',rfl,hcap,hbi,hown,hesz,hle,htk⟩:=(p1.kept hkc).at_ hr
   have hlt2:(i:Int)<(css.length:Int):=by omega
   have hr55:=hRv.len
   have hfl5:=RdV_flat hRv
   have htk5:List.take 5 r=r:=List.take_of_length_le (by omega)
   have hput:=box_put0 r hr55
   have hwi:IntKind.i64.wrap ((i:Int)+1)=((i+1:Nat):Int):=by rw [wi64 (by omega)];omega
   have hgk:kids[i]? =some kids[i]:=List.getElem?_eq_getElem hlt
   have hcall:=ih kids[i] (List.getElem_mem hlt) (szL_iff.1 hszL _ (List.getElem_mem hlt)) (Hc++ [.cells r ⟨27,0,true,0,none⟩]) r (hRv.kept (.more _ _))
   generalize kids[i]=v at*
   repeat first|with_reducible refine kc ?_|((with_reducible first|refine kr ?_ ?_|refine kt ?_ ?_);exact rfl)|((with_reducible refine kf ?_ ?_);exact rfl)|simp only [go_sem,sevalprocAttr,reduceCtorEq,hlt',hlt2,hbi,hle,htk,hr55,hfl5,htk5,hput]|simp (disch:=omega) only [wz]
   refine AC.mono hcall ?_
   rintro res H5 ⟨rfl,hf5⟩
   have hf15:Frm [] H1 H5:=hf.more.trans hf5 (fun x hx=>by cases hx)
   cases hv:v.form with
   | false=>
    have hno:BV.formL kids=false:=by
     cases h:BV.formL kids with
     |false=>rfl
     |true=>rw [BV.formL_iff.1 h v (List.mem_of_getElem? hgk)] at hv;cases hv
    rw [hno]
    repeat first|with_reducible refine kc ?_|((with_reducible first|refine kr ?_ ?_|refine kt ?_ ?_);exact rfl)|((with_reducible refine kf ?_ ?_);exact rfl)|simp only [go_sem,sevalprocAttr,reduceCtorEq]|simp (disch:=omega) only [wz]
    exact ⟨_,_,.refl _ _ _,rfl,hf1.trans hf15 (fun x hx=>by cases hx)⟩
   | true=>
    repeat first|with_reducible refine kc ?_|((with_reducible first|refine kr ?_ ?_|refine kt ?_ ?_);exact rfl)|((with_reducible refine kf ?_ ?_);exact rfl)|simp only [go_sem,sevalprocAttr,reduceCtorEq,hwi]|simp (disch:=omega) only [wz]
    refine ⟨⟨i+1,H5⟩,Weak.env (by simp [envIn,lk_cons,wth_some]),hlt,hf15,fun j a hj ha=> ?_,by dsimp only;omega⟩
    rcases Nat.lt_or_ge j i with h|h
    ·exact hall j a h ha
    ·obtain rfl:j=i:=by dsimp only at hj;omega
     rw [hgk] at ha
     cases ha
     exact hv
  ·have hlt':¬(i:Int)<(kids.length:Int):=by omega
   have hyes:BV.formL kids=true:=BV.formL_iff.2 fun c hc=>by
    obtain ⟨j,hj⟩:=List.getElem?_of_mem hc
    exact hall j c (by have:=(List.getElem?_eq_some_iff.1 hj).1;omega) hj
   rw [hyes]
   repeat first|with_reducible refine kc ?_|((with_reducible first|refine kr ?_ ?_|refine kt ?_ ?_);exact rfl)|((with_reducible refine kf ?_ ?_);exact rfl)|simp only [go_sem,sevalprocAttr,reduceCtorEq,hlt']|simp (disch:=omega) only [wz]
   exact ⟨_,_,.refl _ _ _,rfl,hf0⟩
end Go.Proofs.YthcdjconlfdidaaGreatDoor
