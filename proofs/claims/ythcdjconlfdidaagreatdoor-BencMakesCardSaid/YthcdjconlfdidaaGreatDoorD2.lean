/-
 The walk of the reader of bencoded values:a text.
-/
import Derived.Test.YthcdjconlfdidaaGreatDoorCEM
set_option linter.unusedVariables false
set_option linter.unusedSimpArgs false
set_option maxRecDepth 20000
set_option maxHeartbeats 4000000
namespace Go.Proofs.YthcdjconlfdidaaGreatDoor
open Go Go.Aw Go.Proofs
theorem rd_set {H:AHeap} {r i n:Nat} {s:List UInt8} (h:H[r]? =some (rdO s i n)):H.set r (rdO s i n)=H:=set_same h
theorem hsets {H:AHeap} {b:Nat} (h:b<H.length) (o:AObj):(H.set b o)[b]? =some o:=List.getElem?_set_self h
theorem u8b {c d:UInt8} {n:Nat} (hd:d.toNat=n):((c.toNat:Int)==(n:Int))=(c==d):=by
 subst hd
 rw [Bool.eq_iff_iff]
 simp only [beq_iff_eq]
 constructor
 ·intro h;exact UInt8.toNat_inj.1 (by omega)
 ·intro h;rw [h]
def TextP (s:List UInt8) (r n:Nat) (H:AHeap):Rr (List UInt8)→ARes→AHeap→Prop
 | .ok t j _,res,H1=>res= .ret (.string (bs t))∧H1=H.set r (rdO s j n)
 | .bad a e,res,H1=>res= .pan (stopV a e)∧∃q,H1=H.set r (rdO s q n)
theorem text (s:List UInt8) (r i n:Nat) (hs:s.length≤65536) (hi:i≤s.length) (H:AHeap) (hr:H[r]? =some (rdO s i n)):
  AC Tryz.prog 91 [.pointer (some ⟨r,0,none⟩)] H (TextP s r n H (textR s i)):=by
 have hrl:=lt_of_get hr
 have hr0:=hr
 unfold rdO at hr0
 have hsame:=rd_set hr
 obtain ⟨R,hR⟩:∃R,lenGo (s[i]? ==some 48) 0 0 (s.drop i)=R:=⟨_,rfl⟩
 have hTi:∀k,R= .inl k→textR s i= .bad (i+k) 2:=fun k e=>by unfold textR;rw [hR,e]
 have hTr:∀m k,R= .inr (m,k)→textR s i=if s.length - (i+k+1)<m then .bad s.length 2 else .ok ((s.drop (i+k+1)).take m) (i+k+1+m) 0:=fun m k e=>by unfold textR;rw [hR,e]
 refine AC.enter Tryz.func91 rfl (by kernel_rfl) 118 rfl [.tmp 2] rfl (by simp) fun hsc B=> ?_
 repeat first|with_reducible refine kc ?_|((with_reducible first|refine kr ?_ ?_|refine kt ?_ ?_);exact rfl)|((with_reducible refine kf ?_ ?_);exact rfl)|simp only [go_sem,sevalprocAttr,reduceCtorEq,hr0,hrl]|simp (disch:=omega) only [wz]
 refine AWP.loopP (fun st:Nat×Nat=>⟨[(0,.pointer (some ⟨r,0,none⟩)),(3,.int .i64 (i:Nat)),(4,.int .i64 (st.2:Nat))],[],H.set r (rdO s st.1 n)⟩)
  (fun st=>i≤st.1∧st.1≤s.length∧st.2≤65536∧lenGo (s[i]? ==some 48) (st.1 - i) st.2 (s.drop st.1)=R) (fun st=>s.length - st.1) (i,0) ?_ ⟨Nat.le_refl _,hi,Nat.zero_le _,by rw [Nat.sub_self];exact hR⟩ ?_
 ·simp only [hsame]
  exact Weak.env (by simp [envIn,lk_cons,wth_some])
 rintro ⟨p,m⟩ ⟨h0,h1,h2,h3⟩
 simp only at h0 h1 h2 h3 ⊢
 unfold rdO
 have hg:(H.set r (rdO s p n))[r]? =some (rdO s p n):=List.getElem?_set_self hrl
 have hg0:=hg
 unfold rdO at hg0
 cases hc:s[p]? with
 | none=>
  have hle:s.length≤p:=by
   rcases Nat.lt_or_ge p s.length with h|h
   ·rw [List.getElem?_eq_getElem h] at hc;cases hc
   ·exact h
  have hN:=nowEnd s r p n hs hle _ hg
  unfold rdO at hN
  rw [List.drop_eq_nil_of_le hle,lenGo] at h3
  have hT:=hTi (p - i) h3.symm
  have e:i+(p - i)=s.length:=by omega
  repeat first|with_reducible refine kc ?_|((with_reducible first|refine kr ?_ ?_|refine kt ?_ ?_);exact rfl)|((with_reducible refine kf ?_ ?_);exact rfl)|with_reducible refine hN.use ?_|simp only [go_sem,sevalprocAttr,reduceCtorEq]|simp (disch:=omega) only [wz]
  exact ⟨_,_,.refl _ _ _,by rw [hT,e];exact ⟨rfl,_,rfl⟩⟩
 | some c=>
  have hlt:=(List.getElem?_eq_some_iff.1 hc).1
  have hN:=nowOk s r p n c hs hc _ hg
  have hD:=digit c (H.set r (rdO s p n))
  have hd:s.drop p=c::s.drop (p+1):=by
   rw [List.drop_eq_getElem_cons hlt]
   rw [List.getElem?_eq_getElem hlt] at hc
   rw [Option.some.inj hc]
  rw [hd,lenGo] at h3
  have h58':((c.toNat:Int)==58)=(c==58):=u8b (n:=58) rfl
  have hF:=fail p 2 (H.set r (rdO s p n))
  unfold rdO at hN hD hF
  have hw1:IntKind.i64.wrap ((p:Int)+1)=((p+1:Nat):Int):=by rw [wi64 (by omega)];omega
  have hip:i+(p - i)=p:=by omega
  by_cases hE:c=58∧0<p - i
  ·rw [if_pos hE] at h3
   have e58:((c.toNat:Int)==58)=true:=by rw [h58',hE.1];rfl
   have hgt:(p:Int)>(i:Int):=by omega
   obtain ⟨q,hq⟩:∃q,q=s.length - (p+1):=⟨_,rfl⟩
   have hw2:IntKind.i64.wrap ((s.length:Int) - ((p+1:Nat):Int))=(q:Int):=by rw [wi64 (by omega)];omega
   have hT:=hTr m (p - i) h3.symm
   rw [hip,←hq] at hT
   by_cases hL:q<m
   ·have hL':(m:Int)>(q:Int):=by omega
    have hF2:=fail s.length 2 (H.set r (rdO s (p+1) n))
    unfold rdO at hF2
    rw [if_pos hL] at hT
    repeat first|with_reducible refine kc ?_|((with_reducible first|refine kr ?_ ?_|refine kt ?_ ?_);exact rfl)|((with_reducible refine kf ?_ ?_);exact rfl)|with_reducible refine hN.use ?_|simp only [go_sem,sevalprocAttr,reduceCtorEq,hg0,hrl,e58,hgt,hw1,hsets,List.set_set,List.length_set,List.set_cons_succ,List.set_cons_zero]|simp (disch:=omega) only [wz]
    refine AWP.regionK 11 (by kernel_rfl) (by decide) (by kernel_rfl) ?_
    repeat first|with_reducible refine kc ?_|((with_reducible first|refine kr ?_ ?_|refine kt ?_ ?_);exact rfl)|((with_reducible refine kf ?_ ?_);exact rfl)|with_reducible refine hF2.use ?_|simp only [go_sem,sevalprocAttr,reduceCtorEq,hsets,hrl,hw2,hL',List.length_set]|simp (disch:=omega) only [wz]
    exact ⟨_,_,.refl _ _ _,by rw [hT];exact ⟨rfl,_,rfl⟩⟩
   ·have hL':¬(m:Int)>(q:Int):=by omega
    obtain ⟨j,hj⟩:∃j,j=p+1+m:=⟨_,rfl⟩
    have hw3:IntKind.i64.wrap (((p+1:Nat):Int)+(m:Int))=(j:Int):=by rw [wi64 (by omega)];omega
    have hw4:IntKind.i64.wrap ((j:Int) - (m:Int))=((p+1:Nat):Int):=by rw [wi64 (by omega)];omega
    rw [if_neg hL,←hj] at hT
    repeat first|with_reducible refine kc ?_|((with_reducible first|refine kr ?_ ?_|refine kt ?_ ?_);exact rfl)|((with_reducible refine kf ?_ ?_);exact rfl)|with_reducible refine hN.use ?_|simp only [go_sem,sevalprocAttr,reduceCtorEq,hg0,hrl,e58,hgt,hw1,hsets,List.set_set,List.length_set,List.set_cons_succ,List.set_cons_zero]|simp (disch:=omega) only [wz]
    refine AWP.regionK 11 (by kernel_rfl) (by decide) (by kernel_rfl) ?_
    repeat first|with_reducible refine kc ?_|((with_reducible first|refine kr ?_ ?_|refine kt ?_ ?_);exact rfl)|((with_reducible refine kf ?_ ?_);exact rfl)|simp only [go_sem,sevalprocAttr,reduceCtorEq,hsets,hrl,hw2,hL',hw3,List.set_set,List.length_set,List.set_cons_succ,List.set_cons_zero]|simp (disch:=omega) only [wz]
    refine AWP.regionK 14 (by kernel_rfl) (by decide) (by kernel_rfl) ?_
    repeat first|with_reducible refine kc ?_|((with_reducible first|refine kr ?_ ?_|refine kt ?_ ?_);exact rfl)|((with_reducible refine kf ?_ ?_);exact rfl)|simp only [go_sem,sevalprocAttr,reduceCtorEq,hsets,hrl,hw4,List.length_set]|simp (disch:=omega) only [wz]
    refine ⟨by omega,by omega,?_⟩
    repeat first|with_reducible refine kc ?_|((with_reducible first|refine kr ?_ ?_|refine kt ?_ ?_);exact rfl)|((with_reducible refine kf ?_ ?_);exact rfl)|simp only [go_sem,sevalprocAttr,reduceCtorEq]|simp (disch:=omega) only [wz]
    exact ⟨_,_,.refl _ _ _,by rw [hT];exact ⟨by rw [drop_take',show j - (p+1)=m by omega],rfl⟩⟩
  ·rw [if_neg hE] at h3
   have hbadT:(dig c=false∨(p - i=1∧(s[i]? ==some 48)=true)∨65536<10*m+(c.toNat - 48))→textR s i= .bad p 2:=fun h=>by
    rw [if_pos h] at h3
    rw [hTi _ h3.symm,hip]
   cases hdig:dig c with
   | false=>
    have hT:=hbadT (.inl hdig)
    rw [hdig] at hD
    by_cases c58:c=58
    ·have e58:((c.toNat:Int)==58)=true:=by rw [h58',c58];rfl
     have hgt:¬(p:Int)>(i:Int):=fun h=>hE ⟨c58,by omega⟩
     repeat first|with_reducible refine kc ?_|((with_reducible first|refine kr ?_ ?_|refine kt ?_ ?_);exact rfl)|((with_reducible refine kf ?_ ?_);exact rfl)|with_reducible (first|refine hN.use ?_|refine hD.use ?_|refine hF.use ?_)|simp only [go_sem,sevalprocAttr,reduceCtorEq,hg0,hrl,e58,hgt]|simp (disch:=omega) only [wz]
     exact ⟨_,_,.refl _ _ _,by rw [hT];exact ⟨rfl,_,rfl⟩⟩
    ·have e58:((c.toNat:Int)==58)=false:=by rw [h58'];simpa using c58
     repeat first|with_reducible refine kc ?_|((with_reducible first|refine kr ?_ ?_|refine kt ?_ ?_);exact rfl)|((with_reducible refine kf ?_ ?_);exact rfl)|with_reducible (first|refine hN.use ?_|refine hD.use ?_|refine hF.use ?_)|simp only [go_sem,sevalprocAttr,reduceCtorEq,hg0,hrl,e58]|simp (disch:=omega) only [wz]
     exact ⟨_,_,.refl _ _ _,by rw [hT];exact ⟨rfl,_,rfl⟩⟩
   | true=>
    rw [hdig] at hD
    have hdg:=of_dig hdig
    have e58:((c.toNat:Int)==58)=false:=by
     rw [h58']
     cases hh:c==58 with
     |false=>rfl
     |true=>rw [beq_iff_eq.1 hh] at hdig;cases hdig
    obtain ⟨d,hdd⟩:∃d,d=c.toNat - 48:=⟨_,rfl⟩
    have hu8:IntKind.u8.wrap ((c.toNat:Int) - 48)=(d:Int):=by rw [wu8 (by omega)];omega
    have hd64:IntKind.i64.wrap (d:Int)=(d:Int):=wi64 (by omega)
    obtain ⟨m',hm'⟩:∃m',m'=10*m+d:=⟨_,rfl⟩
    have hm10:IntKind.i64.wrap ((10:Int)*(m:Int))=((10*m:Nat):Int):=by rw [wi64 (by omega)];omega
    have hmd:IntKind.i64.wrap (((10*m:Nat):Int)+(d:Int))=(m':Int):=by rw [wi64 (by omega)];omega
    have hwi1:IntKind.i64.wrap ((i:Int)+1)=((i+1:Nat):Int):=by rw [wi64 (by omega)];omega
    have hov:65536<m'→textR s i= .bad p 2:=fun h=>hbadT (.inr (.inr (by omega)))
    rw [← hdd,←hm'] at h3
    by_cases hp1:p=i+1
    ·have hp1':((p:Int)==((i+1:Nat):Int))=true:=by simp;omega
     have hil:i<s.length:=by omega
     have hic:s[i]? =some s[i]:=List.getElem?_eq_getElem hil
     obtain ⟨c0,hc0⟩:∃c0,s[i]=c0:=⟨_,rfl⟩
     rw [hc0] at hic
     have h48':((c0.toNat:Int)==48)=(c0==48):=u8b (n:=48) rfl
     have hil':(i:Int)<(s.length:Int):=by omega
     have hi0:(0:Int)≤(i:Int):=Int.natCast_nonneg _
     by_cases hz:c0=48
     ·have e48:((c0.toNat:Int)==48)=true:=by rw [h48',hz];rfl
      have hT:=hbadT (.inr (.inl ⟨by omega,by rw [hic,hz];rfl⟩))
      repeat first|with_reducible refine kc ?_|((with_reducible first|refine kr ?_ ?_|refine kt ?_ ?_);exact rfl)|((with_reducible refine kf ?_ ?_);exact rfl)|with_reducible (first|refine hN.use ?_|refine hD.use ?_|refine hF.use ?_)|simp only [go_sem,sevalprocAttr,reduceCtorEq,hg0,hrl,e58,hp1',hwi1,hic,e48,hil',hi0]|simp (disch:=omega) only [wz]
      exact ⟨_,_,.refl _ _ _,by rw [hT];exact ⟨rfl,_,rfl⟩⟩
     ·have e48:((c0.toNat:Int)==48)=false:=by rw [h48'];simpa using hz
      have hnz:(s[i]? ==some 48)=false:=by rw [hic];simpa using hz
      by_cases hover:65536<m'
      ·have hover':(m':Int)>65536:=by omega
       have hT:=hov hover
       repeat first|with_reducible refine kc ?_|((with_reducible first|refine kr ?_ ?_|refine kt ?_ ?_);exact rfl)|((with_reducible refine kf ?_ ?_);exact rfl)|with_reducible (first|refine hN.use ?_|refine hD.use ?_|refine hF.use ?_)|simp only [go_sem,sevalprocAttr,reduceCtorEq,hg0,hrl,e58,hp1',hwi1,hic,e48,hil',hi0,hu8,hd64,hm10,hmd,hover']|simp (disch:=omega) only [wz]
       exact ⟨_,_,.refl _ _ _,by rw [hT];exact ⟨rfl,_,rfl⟩⟩
      ·have hover':¬(m':Int)>65536:=by omega
       have hnext:lenGo (s[i]? ==some 48) (p+1 - i) m' (s.drop (p+1))=R:=by
        rw [if_neg (by rintro (h|⟨_,h⟩|h);cases hdig.symm.trans h;rw [hnz] at h;cases h;omega)] at h3
        rw [← h3];congr 1;omega
       repeat first|with_reducible refine kc ?_|((with_reducible first|refine kr ?_ ?_|refine kt ?_ ?_);exact rfl)|((with_reducible refine kf ?_ ?_);exact rfl)|with_reducible (first|refine hN.use ?_|refine hD.use ?_)|simp only [go_sem,sevalprocAttr,reduceCtorEq,hg0,hrl,e58,hp1',hwi1,hic,e48,hil',hi0,hu8,hd64,hm10,hmd,hover',hw1,hsets,List.set_set,List.length_set,List.set_cons_succ,List.set_cons_zero]|simp (disch:=omega) only [wz]
       exact ⟨(p+1,m'),Weak.env (by simp [envIn,lk_cons,wth_some]),by dsimp only;omega,by dsimp only;omega,by dsimp only;omega,(by rw [hic] at hnext;exact hnext),by dsimp only;omega⟩
    ·have hp1':((p:Int)==((i+1:Nat):Int))=false:=by simp;omega
     by_cases hover:65536<m'
     ·have hover':(m':Int)>65536:=by omega
      have hT:=hov hover
      repeat first|with_reducible refine kc ?_|((with_reducible first|refine kr ?_ ?_|refine kt ?_ ?_);exact rfl)|((with_reducible refine kf ?_ ?_);exact rfl)|with_reducible (first|refine hN.use ?_|refine hD.use ?_|refine hF.use ?_)|simp only [go_sem,sevalprocAttr,reduceCtorEq,hg0,hrl,e58,hp1',hwi1,hu8,hd64,hm10,hmd,hover']|simp (disch:=omega) only [wz]
      exact ⟨_,_,.refl _ _ _,by rw [hT];exact ⟨rfl,_,rfl⟩⟩
     ·have hover':¬(m':Int)>65536:=by omega
      have hnext:lenGo (s[i]? ==some 48) (p+1 - i) m' (s.drop (p+1))=R:=by
       rw [if_neg (by rintro (h|⟨h,_⟩|h);cases hdig.symm.trans h;omega;omega)] at h3
       rw [← h3];congr 1;omega
      repeat first|with_reducible refine kc ?_|((with_reducible first|refine kr ?_ ?_|refine kt ?_ ?_);exact rfl)|((with_reducible refine kf ?_ ?_);exact rfl)|with_reducible (first|refine hN.use ?_|refine hD.use ?_)|simp only [go_sem,sevalprocAttr,reduceCtorEq,hg0,hrl,e58,hp1',hwi1,hu8,hd64,hm10,hmd,hover',hw1,hsets,List.set_set,List.length_set,List.set_cons_succ,List.set_cons_zero]|simp (disch:=omega) only [wz]
      exact ⟨(p+1,m'),Weak.env (by simp [envIn,lk_cons,wth_some]),by dsimp only;omega,by dsimp only;omega,by dsimp only;omega,hnext,by dsimp only;omega⟩
end Go.Proofs.YthcdjconlfdidaaGreatDoor
