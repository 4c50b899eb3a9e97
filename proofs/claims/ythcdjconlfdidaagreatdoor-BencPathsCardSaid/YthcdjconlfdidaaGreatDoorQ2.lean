/-
 The walk of the specification's steps of a path:Digits,Step.
-/
import Derived.Test.YthcdjconlfdidaaGreatDoorQ1M
import Derived.Test.YthcdjconlfdidaaGreatDoorAwC
set_option linter.unusedVariables false
set_option linter.unusedSimpArgs false
set_option maxRecDepth 20000
set_option maxHeartbeats 4000000
namespace Go.Proofs.YthcdjconlfdidaaGreatDoor
open Go Go.Aw Go.Proofs
theorem Digits (t:Tx) (ht:t.length≤1099511627776) (H:AHeap):ARet Tryz.prog 86 [.string (bs t),.int .i64 1000] H (.int .i64 (digN t)) H:=by
 by_cases h0:t=[]
 ·subst h0
  have hd:digN []= -1:=by unfold digN;rw [if_pos (.inl rfl)]
  rw [hd]
  refine AC.enter Tryz.func86 rfl (by kernel_rfl) 52 rfl [.tmp 4] rfl (by simp) fun hsc B=> ?_
  repeat first|with_reducible refine kc ?_|((with_reducible first|refine kr ?_ ?_|refine kt ?_ ?_);exact rfl)|((with_reducible refine kf ?_ ?_);exact rfl)|simp only [go_sem,sevalprocAttr,reduceCtorEq]|simp (disch:=omega) only [wz]|with_reducible_and_instances exact finR|((with_reducible refine finR' ?_ ?_)<;> rfl)|((with_reducible refine finD hsc (NRel.of_plain ?_));exact rfl)
 obtain ⟨c,r,rfl⟩:∃c r,t=c::r:=by
  cases t with
  |nil=>exact absurd rfl h0
  |cons c r=>exact ⟨c,r,rfl⟩
 have hne:(c::r==([]:List UInt8))=false:=rfl
 have h48:((c.toNat:Int)==48)=(c==48):=u8b (n:=48) rfl
 have hat:(c::r)[0]? =some c:=rfl
 rw [List.length_cons] at ht
 by_cases h1:c=48∧0<r.length
 ·have hd:digN (c::r)= -1:=by unfold digN;rw [if_pos (.inr ⟨by rw [h1.1];rfl,by rw [List.length_cons];omega⟩)]
  rw [hd]
  have h48':(c==48)=true:=beq_iff_eq.2 h1.1
  have hl:((r.length+1:Nat):Int)>1:=by omega
  refine AC.enter Tryz.func86 rfl (by kernel_rfl) 52 rfl [.tmp 4] rfl (by simp) fun hsc B=> ?_
  repeat first|with_reducible refine kc ?_|((with_reducible first|refine kr ?_ ?_|refine kt ?_ ?_);exact rfl)|((with_reducible refine kf ?_ ?_);exact rfl)|simp only [go_sem,sevalprocAttr,reduceCtorEq,hne,h48,h48',hat,hl]|simp (disch:=omega) only [wz]|with_reducible_and_instances exact finR|((with_reducible refine finR' ?_ ?_)<;> rfl)|((with_reducible refine finD hsc (NRel.of_plain ?_));exact rfl)
 have hd:digN (c::r)=match digG 0 (c::r) with|some m=>(m:Nat)|none=> -1:=by
  unfold digN
  rw [if_neg (by
   rintro (h|⟨h,h2⟩)
   ·cases h
   ·rw [List.length_cons] at h2
    exact h1 ⟨Option.some.inj h,by omega⟩)]
  rfl
 rw [hd]
 refine AC.enter Tryz.func86 rfl (by kernel_rfl) 52 rfl [.tmp 4] rfl (by simp) fun hsc B=> ?_
 repeat first|with_reducible refine AWP.seqJ (x:= .seq (.region 1 _ _) _) ⟨[(0,.string (bs (c::r))),(1,.int .i64 1000)],[],H⟩ ?_ ?_|with_reducible refine kc ?_|((with_reducible first|refine kr ?_ ?_|refine kt ?_ ?_);exact rfl)|((with_reducible refine kf ?_ ?_);exact rfl)|simp only [go_sem,sevalprocAttr,reduceCtorEq]|simp (disch:=omega) only [wz]|with_reducible_and_instances exact finR|((with_reducible refine finR' ?_ ?_)<;> rfl)|((with_reducible refine finD hsc (NRel.of_plain ?_));exact rfl)
 ·by_cases hc:c=48
  ·have hl:¬((r.length+1:Nat):Int)>1:=fun h=>h1 ⟨hc,by omega⟩
   have h48':(c==48)=true:=beq_iff_eq.2 hc
   repeat first|with_reducible refine kc ?_|((with_reducible first|refine kr ?_ ?_|refine kt ?_ ?_);exact rfl)|((with_reducible refine kf ?_ ?_);exact rfl)|simp only [go_sem,sevalprocAttr,reduceCtorEq,hne,h48,h48',hat,hl]|simp (disch:=omega) only [wz]|with_reducible_and_instances exact finR|((with_reducible refine finR' ?_ ?_)<;> rfl)|((with_reducible refine finD hsc (NRel.of_plain ?_));exact rfl)
   exact Weak.env (by simp [envIn,lk_cons,wth_some])
  ·have h48':(c==48)=false:=beq_eq_false_iff_ne.2 hc
   repeat first|with_reducible refine kc ?_|((with_reducible first|refine kr ?_ ?_|refine kt ?_ ?_);exact rfl)|((with_reducible refine kf ?_ ?_);exact rfl)|simp only [go_sem,sevalprocAttr,reduceCtorEq,hne,h48,h48',hat]|simp (disch:=omega) only [wz]|with_reducible_and_instances exact finR|((with_reducible refine finR' ?_ ?_)<;> rfl)|((with_reducible refine finD hsc (NRel.of_plain ?_));exact rfl)
   exact Weak.env (by simp [envIn,lk_cons,wth_some])
 have hlen:((r.length+1:Nat):Int)=((c::r).length:Int):=by rw [List.length_cons]
 generalize hT:c::r=T at*
 have hTl:T.length=r.length+1:=by rw [← hT];rfl
 rw [← hTl] at hlen ht
 obtain ⟨D,hD⟩:∃D,digG 0 T=D:=⟨_,rfl⟩
 rw [hD]
 repeat first|with_reducible refine kc ?_|((with_reducible first|refine kr ?_ ?_|refine kt ?_ ?_);exact rfl)|((with_reducible refine kf ?_ ?_);exact rfl)|simp only [go_sem,sevalprocAttr,reduceCtorEq]|simp (disch:=omega) only [wz]|with_reducible_and_instances exact finR|((with_reducible refine finR' ?_ ?_)<;> rfl)|((with_reducible refine finD hsc (NRel.of_plain ?_));exact rfl)
 refine AWP.loopP (fun st:Nat×Nat=>⟨[(0,.string (bs T)),(1,.int .i64 1000),(5,.int .i64 (st.2:Nat)),(21,.int .i64 (T.length:Nat)),(22,.int .i64 (st.1:Nat))],[],H⟩)
  (fun st=>st.1≤T.length∧st.2≤1000∧digG st.2 (T.drop st.1)=D) (fun st=>T.length - st.1) (0,0) ?_ ⟨Nat.zero_le _,Nat.zero_le _,hD⟩ ?_
 ·exact Weak.env (by simp [envIn,lk_cons,wth_some])
 rintro ⟨j,n⟩ ⟨hj,hn,hg⟩
 dsimp only at hj hn hg ⊢
 by_cases hlt:j<T.length
 ·have hlt':(j:Int)<(T.length:Int):=by omega
  have hatj:T[j]? =some T[j]:=List.getElem?_eq_getElem hlt
  have hdr:T.drop j=T[j]::T.drop (j+1):=List.drop_eq_getElem_cons hlt
  rw [hdr,digG] at hg
  generalize T[j]=x at*
  have hxb:x.toNat<256:=x.toNat_lt
  have hw1:IntKind.i64.wrap ((j:Int)+1)=((j+1:Nat):Int):=by rw [wi64 (by omega)];omega
  by_cases hb:x.toNat<48∨57<x.toNat
  ·rw [if_pos hb] at hg
   subst hg
   by_cases h4:x.toNat<48
   ·have h4':(x.toNat:Int)<48:=by omega
    repeat first|with_reducible refine kc ?_|((with_reducible first|refine kr ?_ ?_|refine kt ?_ ?_);exact rfl)|((with_reducible refine kf ?_ ?_);exact rfl)|simp only [go_sem,sevalprocAttr,reduceCtorEq,hlt',hatj,h4']|simp (disch:=omega) only [wz]|with_reducible_and_instances exact finR|((with_reducible refine finR' ?_ ?_)<;> rfl)|((with_reducible refine finD hsc (NRel.of_plain ?_));exact rfl)
   ·have h4':¬(x.toNat:Int)<48:=by omega
    have h5':(x.toNat:Int)>57:=by omega
    repeat first|with_reducible refine kc ?_|((with_reducible first|refine kr ?_ ?_|refine kt ?_ ?_);exact rfl)|((with_reducible refine kf ?_ ?_);exact rfl)|simp only [go_sem,sevalprocAttr,reduceCtorEq,hlt',hatj,h4',h5']|simp (disch:=omega) only [wz]|with_reducible_and_instances exact finR|((with_reducible refine finR' ?_ ?_)<;> rfl)|((with_reducible refine finD hsc (NRel.of_plain ?_));exact rfl)
  ·rw [if_neg hb] at hg
   have h4':¬(x.toNat:Int)<48:=by omega
   have h5':¬(x.toNat:Int)>57:=by omega
   have hwx:IntKind.u8.wrap ((x.toNat:Int) - 48)=((x.toNat - 48:Nat):Int):=by rw [wu8 (by omega)];omega
   obtain ⟨d,hdx⟩:∃d,x.toNat - 48=d:=⟨_,rfl⟩
   have hd9:d≤9:=by omega
   rw [hdx] at hwx hg
   by_cases hm:(1000 - d) / 10<n
   ·rw [if_pos hm] at hg
    subst hg
    have hm':(n:Int)>(1000 - (d:Int)) / 10:=by omega
    repeat first|with_reducible refine kc ?_|((with_reducible first|refine kr ?_ ?_|refine kt ?_ ?_);exact rfl)|((with_reducible refine kf ?_ ?_);exact rfl)|simp only [go_sem,sevalprocAttr,reduceCtorEq,hlt',hatj,h4',h5',hwx,hm']|simp (disch:=omega) only [wz]|with_reducible_and_instances exact finR|((with_reducible refine finR' ?_ ?_)<;> rfl)|((with_reducible refine finD hsc (NRel.of_plain ?_));exact rfl)
    done
   ·rw [if_neg hm] at hg
    have hm':¬(n:Int)>(1000 - (d:Int)) / 10:=by omega
    repeat first|with_reducible refine kc ?_|((with_reducible first|refine kr ?_ ?_|refine kt ?_ ?_);exact rfl)|((with_reducible refine kf ?_ ?_);exact rfl)|simp only [go_sem,sevalprocAttr,reduceCtorEq,hlt',hatj,h4',h5',hwx,hm',hw1]|simp (disch:=omega) only [wz]|with_reducible_and_instances exact finR|((with_reducible refine finR' ?_ ?_)<;> rfl)|((with_reducible refine finD hsc (NRel.of_plain ?_));exact rfl)
    refine ⟨(j+1,n*10+d),?_,by dsimp only;omega,by dsimp only;omega,hg,by dsimp only;omega⟩
    exact Weak.env (by simp [envIn,lk_cons,wth_some])
 ·have hlt':¬(j:Int)<(T.length:Int):=by omega
  rw [List.drop_of_length_le (by omega),digG] at hg
  subst hg
  repeat first|with_reducible refine kc ?_|((with_reducible first|refine kr ?_ ?_|refine kt ?_ ?_);exact rfl)|((with_reducible refine kf ?_ ?_);exact rfl)|simp only [go_sem,sevalprocAttr,reduceCtorEq,hlt']|simp (disch:=omega) only [wz]|with_reducible_and_instances exact finR|((with_reducible refine finR' ?_ ?_)<;> rfl)|((with_reducible refine finD hsc (NRel.of_plain ?_));exact rfl)
def StepP (v:BV) (t:Tx) (z:Int):Prop:=((stepR v t).2=0→z=(stepR v t).1)∧(v.kind=3→z=digN t)
theorem rStep (k n:Int) (s:List UInt8) (kids:List BV) (keys:List (List UInt8)) (hkd:kids.length≤1000) (hky:keys.length≤1099511627776) (t:Tx) (ht:t.length≤1099511627776) (H:AHeap) (cs:List Value) (hR:RdV H (.mk k n s kids keys) cs):
  ∃z,ARet Tryz.prog 65 [.agg ⟨cs⟩,.string (bs t)] H (.tuple ⟨[.int .i64 z,.int .i64 (stepR (.mk k n s kids keys) t).2]⟩) H∧StepP (.mk k n s kids keys) t z:=by
 have hfl:=RdV_flat hR
 have hr5:=hR.len
 unfold RdV at hR
 obtain ⟨vk,vs,css,rfl,h1,hL,h3⟩:=hR
 obtain ⟨H1,hH1⟩:∃H1:AHeap,H1=H++ [.cells [.int .i64 k,.int .i64 n,.string (bs s),vk,vs] ⟨27,0,true,0,none⟩]:=⟨_,rfl⟩
 have hb1:H1[H.length]? =some (.cells [.int .i64 k,.int .i64 n,.string (bs s),vk,vs] ⟨27,0,true,0,none⟩):=by rw [hH1,hget0 rfl];rfl
 have hf1:Frm [] H H1:=by rw [hH1];exact Frm.app
 have hk1:Kept H H1:=by rw [hH1];exact .more _ _
 have hcl:=hL.len
 by_cases k4:k=4
 ·subst k4
  have hst:stepR (.mk 4 n s kids keys) t=match kAt keys t with|some i=>((i:Nat),0)|none=>(0,8):=by
   unfold stepR;rw [if_pos (by rfl)];rfl
  have h31:=h3.kept hk1
  have q1:∀H' K,lenW Tryz.prog 22 vs H' K=K (.int .i64 (keys.length:Nat)) H':=fun H' K=>by rw [h3.lenT (by simp only [go_sem,sevalprocAttr,reduceCtorEq]),keyC_len]
  refine ⟨(stepR (.mk 4 n s kids keys) t).1,AC.forget rfl ?_,fun _=>rfl,fun h=>by cases h⟩
  generalize hR2:stepR (.mk 4 n s kids keys) t=R at*
  refine AC.enter Tryz.func65 rfl (by kernel_rfl) 41 rfl [.tmp 4,.tmp 5] rfl (by simp) fun hsc B=> ?_
  repeat first|with_reducible refine kc ?_|((with_reducible first|refine kr ?_ ?_|refine kt ?_ ?_);exact rfl)|((with_reducible refine kf ?_ ?_);exact rfl)|simp only [go_sem,sevalprocAttr,reduceCtorEq,hfl,hr5]|simp (disch:=omega) only [wz]|with_reducible_and_instances exact finR|((with_reducible refine finR' ?_ ?_)<;> rfl)|((with_reducible refine finD hsc (NRel.of_plain ?_));exact rfl)
  rw [← hH1]
  repeat first|with_reducible refine kc ?_|((with_reducible first|refine kr ?_ ?_|refine kt ?_ ?_);exact rfl)|((with_reducible refine kf ?_ ?_);exact rfl)|simp only [go_sem,sevalprocAttr,reduceCtorEq,hb1,q1]|simp (disch:=omega) only [wz]|with_reducible_and_instances exact finR|((with_reducible refine finR' ?_ ?_)<;> rfl)|((with_reducible refine finD hsc (NRel.of_plain ?_));exact rfl)
  refine AWP.loopP (fun j:Nat=>⟨[(1,.string (bs t)),(2,.pointer (some ⟨H.length,0,none⟩)),(14,vs),(15,.int .i64 (keys.length:Nat)),(16,.int .i64 (j:Nat))],[],H1⟩)
   (fun j=>j≤keys.length∧∀i (h:i<keys.length),i<j→keys[i]≠t) (fun j=>keys.length - j) 0 ?_ ⟨Nat.zero_le _,fun i _ h=>absurd h (Nat.not_lt_zero _)⟩ ?_
  ·exact Weak.env (by simp [envIn,lk_cons,wth_some])
  rintro j ⟨hj,hno⟩
  dsimp only at hj hno ⊢
  by_cases hlt:j<keys.length
  ·have hlt':(j:Int)<(keys.length:Int):=by omega
   have hlt2:(j:Int)<((keyC keys).length:Int):=by rw [keyC_len];omega
   obtain ⟨bi,off,cap,cs',k',rfl,hcap,hbi,hown,hesz,hle,htk⟩:=h31.at_ (keyC_at hlt)
   have hat2:cs'[off+j]? =some (.string (bs keys[j])):=by
    have h1:=congrArg (fun l=>l[0]?) htk
    simpa using h1
   have hw1:IntKind.i64.wrap ((j:Int)+1)=((j+1:Nat):Int):=by rw [wi64 (by omega)];omega
   by_cases he:keys[j]=t
   ·have hfi:kAt keys t=some j:=by
     unfold kAt
     rw [List.findIdx?_eq_some_iff_getElem]
     exact ⟨hlt,by simpa using he,fun i hi=>by simpa using hno i (by omega) hi⟩
    rw [hfi] at hst
    have heq:(keys[j]==t)=true:=beq_iff_eq.2 he
    subst hst
    repeat first|with_reducible refine kc ?_|((with_reducible first|refine kr ?_ ?_|refine kt ?_ ?_);exact rfl)|((with_reducible refine kf ?_ ?_);exact rfl)|simp only [go_sem,sevalprocAttr,reduceCtorEq,hlt',hlt2,hbi,hat2,heq]|simp (disch:=omega) only [wz]|with_reducible_and_instances exact finR|((with_reducible refine finR' ?_ ?_)<;> rfl)|((with_reducible refine finD hsc (NRel.of_plain ?_));exact rfl)
    exact ⟨_,_,.refl _ _ _,rfl,hf1⟩
   ·have heq:(keys[j]==t)=false:=beq_eq_false_iff_ne.2 he
    repeat first|with_reducible refine kc ?_|((with_reducible first|refine kr ?_ ?_|refine kt ?_ ?_);exact rfl)|((with_reducible refine kf ?_ ?_);exact rfl)|simp only [go_sem,sevalprocAttr,reduceCtorEq,hlt',hlt2,hbi,hat2,heq,hw1]|simp (disch:=omega) only [wz]|with_reducible_and_instances exact finR|((with_reducible refine finR' ?_ ?_)<;> rfl)|((with_reducible refine finD hsc (NRel.of_plain ?_));exact rfl)
    refine ⟨j+1,?_,by omega,?_,by omega⟩
    ·exact Weak.env (by simp [envIn,lk_cons,wth_some])
    ·intro i h hi
     by_cases hij:i=j
     ·subst hij;exact he
     ·exact hno i h (by omega)
  ·have hlt':¬(j:Int)<(keys.length:Int):=by omega
   have hfi:kAt keys t=none:=by
    unfold kAt
    rw [List.findIdx?_eq_none_iff]
    intro x hx
    obtain ⟨i,hi,rfl⟩:=List.getElem_of_mem hx
    exact beq_eq_false_iff_ne.2 (hno i hi (by omega))
   rw [hfi] at hst
   subst hst
   repeat first|with_reducible refine kc ?_|((with_reducible first|refine kr ?_ ?_|refine kt ?_ ?_);exact rfl)|((with_reducible refine kf ?_ ?_);exact rfl)|simp only [go_sem,sevalprocAttr,reduceCtorEq,hlt']|simp (disch:=omega) only [wz]|with_reducible_and_instances exact finR|((with_reducible refine finR' ?_ ?_)<;> rfl)|((with_reducible refine finD hsc (NRel.of_plain ?_));exact rfl)
   exact ⟨_,_,.refl _ _ _,rfl,hf1⟩
 have e4:(k==4)=false:=by simpa using k4
 by_cases k3:k=3
 ·subst k3
  have hst:stepR (.mk 3 n s kids keys) t=match nAt kids.length t with|some i=>((i:Nat),0)|none=>(0,8):=by
   unfold stepR;exact (if_neg (show ¬(3:Int)=4 by decide)).trans (if_pos rfl)
  rw [nAt_dig _ hkd] at hst
  have q1:∀H' K,lenW Tryz.prog 23 vk H' K=K (.int .i64 (kids.length:Nat)) H':=fun H' K=>by rw [h1.lenT (by simp only [go_sem,sevalprocAttr,reduceCtorEq]),hcl]
  have hD:=Digits t ht H1
  refine ⟨digN t,AC.forget rfl ?_,?_⟩
  ·rcases digN_low (t:=t) with h|⟨u,h,hu⟩
   ·rw [h] at hD hst ⊢
    rw [if_pos (by omega)] at hst
    rw [hst]
    refine AC.enter Tryz.func65 rfl (by kernel_rfl) 41 rfl [.tmp 4,.tmp 5] rfl (by simp) fun hsc B=> ?_
    repeat first|with_reducible refine kc ?_|((with_reducible first|refine kr ?_ ?_|refine kt ?_ ?_);exact rfl)|((with_reducible refine kf ?_ ?_);exact rfl)|simp only [go_sem,sevalprocAttr,reduceCtorEq,hfl,hr5]|simp (disch:=omega) only [wz]|with_reducible_and_instances exact finR|((with_reducible refine finR' ?_ ?_)<;> rfl)|((with_reducible refine finD hsc (NRel.of_plain ?_));exact rfl)
    rw [← hH1]
    repeat first|with_reducible refine kc ?_|((with_reducible first|refine kr ?_ ?_|refine kt ?_ ?_);exact rfl)|((with_reducible refine kf ?_ ?_);exact rfl)|with_reducible refine hD.use ?_|simp only [go_sem,sevalprocAttr,reduceCtorEq,hb1]|simp (disch:=omega) only [wz]|with_reducible_and_instances exact finR|((with_reducible refine finR' ?_ ?_)<;> rfl)|((with_reducible refine finD hsc (NRel.of_plain ?_));exact rfl)
    exact ⟨_,_,.refl _ _ _,rfl,hf1⟩
   ·rw [h] at hD hst ⊢
    have hneg:¬(u:Int)<0:=by omega
    by_cases hl:u<kids.length
    ·rw [if_neg (by omega)] at hst
     rw [hst]
     have hl':¬(u:Int)≥(kids.length:Int):=by omega
     refine AC.enter Tryz.func65 rfl (by kernel_rfl) 41 rfl [.tmp 4,.tmp 5] rfl (by simp) fun hsc B=> ?_
     repeat first|with_reducible refine kc ?_|((with_reducible first|refine kr ?_ ?_|refine kt ?_ ?_);exact rfl)|((with_reducible refine kf ?_ ?_);exact rfl)|simp only [go_sem,sevalprocAttr,reduceCtorEq,hfl,hr5]|simp (disch:=omega) only [wz]|with_reducible_and_instances exact finR|((with_reducible refine finR' ?_ ?_)<;> rfl)|((with_reducible refine finD hsc (NRel.of_plain ?_));exact rfl)
     rw [← hH1]
     repeat first|with_reducible refine kc ?_|((with_reducible first|refine kr ?_ ?_|refine kt ?_ ?_);exact rfl)|((with_reducible refine kf ?_ ?_);exact rfl)|with_reducible refine hD.use ?_|simp only [go_sem,sevalprocAttr,reduceCtorEq,hb1,hneg,q1,hl']|simp (disch:=omega) only [wz]|with_reducible_and_instances exact finR|((with_reducible refine finR' ?_ ?_)<;> rfl)|((with_reducible refine finD hsc (NRel.of_plain ?_));exact rfl)
     exact ⟨_,_,.refl _ _ _,rfl,hf1⟩
    ·rw [if_pos (by omega)] at hst
     rw [hst]
     have hl':(u:Int)≥(kids.length:Int):=by omega
     refine AC.enter Tryz.func65 rfl (by kernel_rfl) 41 rfl [.tmp 4,.tmp 5] rfl (by simp) fun hsc B=> ?_
     repeat first|with_reducible refine kc ?_|((with_reducible first|refine kr ?_ ?_|refine kt ?_ ?_);exact rfl)|((with_reducible refine kf ?_ ?_);exact rfl)|simp only [go_sem,sevalprocAttr,reduceCtorEq,hfl,hr5]|simp (disch:=omega) only [wz]|with_reducible_and_instances exact finR|((with_reducible refine finR' ?_ ?_)<;> rfl)|((with_reducible refine finD hsc (NRel.of_plain ?_));exact rfl)
     rw [← hH1]
     repeat first|with_reducible refine kc ?_|((with_reducible first|refine kr ?_ ?_|refine kt ?_ ?_);exact rfl)|((with_reducible refine kf ?_ ?_);exact rfl)|with_reducible refine hD.use ?_|simp only [go_sem,sevalprocAttr,reduceCtorEq,hb1,hneg,q1,hl']|simp (disch:=omega) only [wz]|with_reducible_and_instances exact finR|((with_reducible refine finR' ?_ ?_)<;> rfl)|((with_reducible refine finD hsc (NRel.of_plain ?_));exact rfl)
     exact ⟨_,_,.refl _ _ _,rfl,hf1⟩
  ·unfold StepP
   refine ⟨?_,fun _=>rfl⟩
   intro h0
   by_cases hc:digN t<0∨(kids.length:Int)≤digN t
   ·rw [if_pos hc] at hst
    rw [hst] at h0
    cases h0
   ·rw [if_neg hc] at hst
    rw [hst]
    dsimp only
    omega
 have e3:(k==3)=false:=by simpa using k3
 have hst:stepR (.mk k n s kids keys) t=(0,10):=by
  unfold stepR;exact (if_neg k4).trans (if_neg k3)
 refine ⟨0,AC.forget rfl ?_,fun _=>by rw [hst],fun h=>absurd h k3⟩
 rw [hst]
 refine AC.enter Tryz.func65 rfl (by kernel_rfl) 41 rfl [.tmp 4,.tmp 5] rfl (by simp) fun hsc B=> ?_
 repeat first|with_reducible refine kc ?_|((with_reducible first|refine kr ?_ ?_|refine kt ?_ ?_);exact rfl)|((with_reducible refine kf ?_ ?_);exact rfl)|simp only [go_sem,sevalprocAttr,reduceCtorEq,hfl,hr5]|simp (disch:=omega) only [wz]|with_reducible_and_instances exact finR|((with_reducible refine finR' ?_ ?_)<;> rfl)|((with_reducible refine finD hsc (NRel.of_plain ?_));exact rfl)
 rw [← hH1]
 repeat first|with_reducible refine kc ?_|((with_reducible first|refine kr ?_ ?_|refine kt ?_ ?_);exact rfl)|((with_reducible refine kf ?_ ?_);exact rfl)|simp only [go_sem,sevalprocAttr,reduceCtorEq,hb1,e4,e3]|simp (disch:=omega) only [wz]|with_reducible_and_instances exact finR|((with_reducible refine finR' ?_ ?_)<;> rfl)|((with_reducible refine finD hsc (NRel.of_plain ?_));exact rfl)
 exact ⟨_,_,.refl _ _ _,rfl,hf1⟩
end Go.Proofs.YthcdjconlfdidaaGreatDoor
