/-
 The walk of the reader of bencoded values:a number.
-/
import Derived.Test.YthcdjconlfdidaaGreatDoorD2
set_option linter.unusedVariables false
set_option linter.unusedSimpArgs false
set_option maxRecDepth 20000
set_option maxHeartbeats 4000000
namespace Go.Proofs.YthcdjconlfdidaaGreatDoor
open Go Go.Aw Go.Proofs
theorem tdiv_neg {a:Int} (h:a≤0):a≤10*a.tdiv 10∧10*a.tdiv 10<a+10:=by
 obtain ⟨b,rfl⟩:∃b:Int,a= -b:= ⟨-a,by omega⟩
 rw [Int.neg_tdiv,Int.tdiv_eq_ediv_of_nonneg (by omega)]
 omega
def NumP (s:List UInt8) (r n:Nat) (H:AHeap):Rr Int→ARes→AHeap→Prop
 | .ok z j _,res,H1=>res= .ret (.int .i64 z)∧H1=H.set r (rdO s j n)
 | .bad a e,res,H1=>res= .pan (stopV a e)∧∃q,H1=H.set r (rdO s q n)
def NumI (s:List UInt8) (f:Nat) (mi:Bool) (R:Nat ⊕ (Int×Nat)) (p:Nat) (m:Int):Prop:=f≤p∧p≤s.length∧ (-9223372036854775808≤m∧m≤0)∧(mi=false→ -9223372036854775807≤m)∧(p=f→m=0)∧(f<p→(m=0↔p=f+1∧s[f]? =some 48))∧numGo mi (p - f) m (s.drop p)=R
theorem number (s:List UInt8) (r i n:Nat) (hs:s.length≤65536) (hi:i≤s.length) (H:AHeap) (hr:H[r]? =some (rdO s i n)):
  AC Tryz.prog 92 [.pointer (some ⟨r,0,none⟩)] H (NumP s r n H (numR s i)):=by
 have hrl:=lt_of_get hr
 have hsame:=rd_set hr
 have hr0:=hr
 unfold rdO at hr0
 cases hc0:s[i]? with
 | none=>
  have hle:s.length≤i:=by
   rcases Nat.lt_or_ge i s.length with h|h
   ·rw [List.getElem?_eq_getElem h] at hc0;cases hc0
   ·exact h
  have hN:=nowEnd s r i n hs hle _ hr
  have hT:numR s i= .bad i 2:=by
   unfold numR
   rw [hc0]
   simp only
   rw [show ((none:Option UInt8)==some 45)=false from rfl]
   simp only [Bool.false_eq_true,if_false]
   rw [List.drop_eq_nil_of_le hle,numGo]
   rfl
  have e:i=s.length:=by omega
  refine AC.enter Tryz.func92 rfl (by kernel_rfl) 125 rfl [.tmp 2] rfl (by simp) fun hsc B=> ?_
  repeat first|with_reducible refine kc ?_|((with_reducible first|refine kr ?_ ?_|refine kt ?_ ?_);exact rfl)|((with_reducible refine kf ?_ ?_);exact rfl)|with_reducible refine hN.use ?_|simp only [go_sem,sevalprocAttr,reduceCtorEq]|simp (disch:=omega) only [wz]
  exact ⟨_,_,.refl _ _ _,by rw [hT];exact ⟨by rw [e],i,hsame.symm⟩⟩
 | some b0 =>
  have hN0:=nowOk s r i n b0 hs hc0 _ hr
  have hlt0:=(List.getElem?_eq_some_iff.1 hc0).1
  have h45':((b0.toNat:Int)==45)=(b0==45):=u8b (n:=45) rfl
  obtain ⟨mi,hmi⟩:∃mi,(b0==45)=mi:=⟨_,rfl⟩
  rw [hmi] at h45'
  obtain ⟨f,hf⟩:∃f,f=if mi then i+1 else i:=⟨_,rfl⟩
  have hfl:f≤s.length:=by rw [hf];split<;> omega
  have hval:numR s i=match numGo mi 0 0 (s.drop f) with
   | .inl k=> .bad (f+k) 2
   | .inr (z,k)=> .ok (if mi then z else -z) (f+k+1) 0:=by
   unfold numR
   rw [hc0]
   have:(some b0==some (45:UInt8))=mi:=hmi
   simp only [this]
   rw [← hf]
   rfl
  obtain ⟨R,hR⟩:∃R,numGo mi 0 0 (s.drop f)=R:=⟨_,rfl⟩
  have hTi:∀k,R= .inl k→numR s i= .bad (f+k) 2:=fun k e=>by rw [hval,hR,e]
  have hTr:∀z k,R= .inr (z,k)→numR s i= .ok (if mi then z else -z) (f+k+1) 0:=fun z k e=>by rw [hval,hR,e]
  clear hval
  have hw0:IntKind.i64.wrap ((i:Int)+1)=((i+1:Nat):Int):=by rw [wi64 (by omega)];omega
  unfold rdO at hN0
  refine AC.enter Tryz.func92 rfl (by kernel_rfl) 125 rfl [.tmp 2] rfl (by simp) fun hsc B=> ?_
  repeat first|with_reducible refine AWP.seqJ (x:= .seq (.region 2 _ _) _) ⟨[(0,.pointer (some ⟨r,0,none⟩)),(3,.bool mi)],[],H.set r (rdO s f n)⟩ ?_ ?_|with_reducible refine kc ?_|((with_reducible first|refine kr ?_ ?_|refine kt ?_ ?_);exact rfl)|((with_reducible refine kf ?_ ?_);exact rfl)|with_reducible refine hN0.use ?_|simp only [go_sem,sevalprocAttr,reduceCtorEq,h45']|simp (disch:=omega) only [wz]
  ·cases mi with
   |true=>
    have hf':f=i+1:=hf
    subst hf'
    repeat first|with_reducible refine kc ?_|((with_reducible first|refine kr ?_ ?_|refine kt ?_ ?_);exact rfl)|((with_reducible refine kf ?_ ?_);exact rfl)|simp only [go_sem,sevalprocAttr,reduceCtorEq,hr0,hrl,hw0,List.set_cons_succ,List.set_cons_zero]|simp (disch:=omega) only [wz]
    exact Weak.env (by simp [envIn,lk_cons,wth_some])
   |false=>
    have hf':f=i:=hf
    subst hf'
    rw [hsame]
    repeat first|with_reducible refine kc ?_|((with_reducible first|refine kr ?_ ?_|refine kt ?_ ?_);exact rfl)|((with_reducible refine kf ?_ ?_);exact rfl)|simp only [go_sem,sevalprocAttr,reduceCtorEq]|simp (disch:=omega) only [wz]
    exact Weak.env (by simp [envIn,lk_cons,wth_some])
  unfold rdO
  repeat first|with_reducible refine kc ?_|((with_reducible first|refine kr ?_ ?_|refine kt ?_ ?_);exact rfl)|((with_reducible refine kf ?_ ?_);exact rfl)|simp only [go_sem,sevalprocAttr,reduceCtorEq,hrl,hsets]|simp (disch:=omega) only [wz]
  refine AWP.loopP (fun st:Nat×Int=>⟨[(0,.pointer (some ⟨r,0,none⟩)),(3,.bool mi),(4,.int .i64 (f:Nat)),(5,.int .i64 st.2)],[],H.set r (rdO s st.1 n)⟩)
   (fun st=>NumI s f mi R st.1 st.2) (fun st=>s.length - st.1) (f,0) ?_ ⟨Nat.le_refl _,hfl,⟨by omega,by omega⟩,fun _=>by omega,fun _=>rfl,fun h=>absurd h (Nat.lt_irrefl _),by rw [Nat.sub_self];exact hR⟩ ?_
  ·exact Weak.env (by simp [envIn,lk_cons,wth_some])
  rintro ⟨p,m⟩ ⟨h0,h1,⟨h2,h3⟩,h4,h5,h6,h7⟩
  dsimp only at h0 h1 h2 h3 h4 h5 h6 h7 ⊢
  unfold rdO
  have hg:(H.set r (rdO s p n))[r]? =some (rdO s p n):=List.getElem?_set_self hrl
  have hg0:=hg
  unfold rdO at hg0
  cases hc:s[p]? with
  | none=>
   have hle:s.length≤p:=by
    rcases Nat.lt_or_ge p s.length with h|h
    ·rw [List.getElem?_eq_getElem h] at hc;cases hc
    ·exact h
   have hN:=nowEnd s r p n hs hle _ hg
   unfold rdO at hN
   rw [List.drop_eq_nil_of_le hle,numGo] at h7
   have hT:=hTi (p - f) h7.symm
   have e:f+(p - f)=s.length:=by omega
   repeat first|with_reducible refine kc ?_|((with_reducible first|refine kr ?_ ?_|refine kt ?_ ?_);exact rfl)|((with_reducible refine kf ?_ ?_);exact rfl)|with_reducible refine hN.use ?_|simp only [go_sem,sevalprocAttr,reduceCtorEq]|simp (disch:=omega) only [wz]
   exact ⟨_,_,.refl _ _ _,by rw [hT,e];exact ⟨rfl,_,rfl⟩⟩
  | some c =>
   have hlt:=(List.getElem?_eq_some_iff.1 hc).1
   have hN:=nowOk s r p n c hs hc _ hg
   have hD:=digit c (H.set r (rdO s p n))
   have hd:s.drop p=c::s.drop (p+1):=by
    rw [List.drop_eq_getElem_cons hlt]
    rw [List.getElem?_eq_getElem hlt] at hc
    rw [Option.some.inj hc]
   rw [hd,numGo] at h7
   have h101':((c.toNat:Int)==101)=(c==101):=u8b (n:=101) rfl
   have h48':((c.toNat:Int)==48)=(c==48):=u8b (n:=48) rfl
   have hF:=fail p 2 (H.set r (rdO s p n))
   unfold rdO at hN hD hF
   have hw1:IntKind.i64.wrap ((p:Int)+1)=((p+1:Nat):Int):=by rw [wi64 (by omega)];omega
   have hwf:IntKind.i64.wrap ((f:Int)+1)=((f+1:Nat):Int):=by rw [wi64 (by omega)];omega
   have hip:f+(p - f)=p:=by omega
   by_cases hE:c=101∧0<p - f
   ·rw [if_pos hE] at h7
    have e101:((c.toNat:Int)==101)=true:=by rw [h101',hE.1];rfl
    have hgt:(p:Int)>(f:Int):=by omega
    have hT:=hTr m (p - f) h7.symm
    rw [hip] at hT
    cases mi with
    |true=>
     repeat first|with_reducible refine kc ?_|((with_reducible first|refine kr ?_ ?_|refine kt ?_ ?_);exact rfl)|((with_reducible refine kf ?_ ?_);exact rfl)|with_reducible refine hN.use ?_|simp only [go_sem,sevalprocAttr,reduceCtorEq,hg0,hrl,e101,hgt,hw1,hsets,List.set_set,List.length_set,List.set_cons_succ,List.set_cons_zero]|simp (disch:=omega) only [wz]
     exact ⟨_,_,.refl _ _ _,by rw [hT];exact ⟨rfl,rfl⟩⟩
    |false=>
     have hwm:IntKind.i64.wrap (0 - m)= -m:=by rw [wi64 (by have:=h4 rfl;omega)];omega
     repeat first|with_reducible refine kc ?_|((with_reducible first|refine kr ?_ ?_|refine kt ?_ ?_);exact rfl)|((with_reducible refine kf ?_ ?_);exact rfl)|with_reducible refine hN.use ?_|simp only [go_sem,sevalprocAttr,reduceCtorEq,hg0,hrl,e101,hgt,hw1,hsets,List.set_set,List.length_set,List.set_cons_succ,List.set_cons_zero,hwm]|simp (disch:=omega) only [wz]
     exact ⟨_,_,.refl _ _ _,by rw [hT];exact ⟨by simp,rfl⟩⟩
   ·rw [if_neg hE] at h7
    obtain ⟨Z,hZ⟩:∃Z:Bool,Z=((decide (p=f)&&(c==48)&&mi)||(decide (p=f+1)&&(s[f]? ==some 48))):=⟨_,rfl⟩
    repeat first|with_reducible refine AWP.seqJ (x:= .seq (.region 8 _ _) _) ⟨[(0,.pointer (some ⟨r,0,none⟩)),(3,.bool mi),(4,.int .i64 (f:Nat)),(5,.int .i64 m),(6,.int .u8 c.toNat)],[],H.set r (.cells [.string (bs s),.int .i64 (p:Nat),.int .i64 (n:Nat)] ⟨89,0,true,0,none⟩)⟩ ?_ ?_|with_reducible refine kc ?_|((with_reducible first|refine kr ?_ ?_|refine kt ?_ ?_);exact rfl)|((with_reducible refine kf ?_ ?_);exact rfl)|with_reducible refine hN.use ?_|simp only [go_sem,sevalprocAttr,reduceCtorEq]|simp (disch:=omega) only [wz]
    ·by_cases c101:c=101
     ·have e101:((c.toNat:Int)==101)=true:=by rw [h101',c101];rfl
      have hgt:¬(p:Int)>(f:Int):=fun h=>hE ⟨c101,by omega⟩
      repeat first|with_reducible refine kc ?_|((with_reducible first|refine kr ?_ ?_|refine kt ?_ ?_);exact rfl)|((with_reducible refine kf ?_ ?_);exact rfl)|simp only [go_sem,sevalprocAttr,reduceCtorEq,hg0,hrl,e101,hgt]|simp (disch:=omega) only [wz]
      exact Weak.env (by simp [envIn,lk_cons,wth_some])
     ·have e101:((c.toNat:Int)==101)=false:=by rw [h101'];simpa using c101
      repeat first|with_reducible refine kc ?_|((with_reducible first|refine kr ?_ ?_|refine kt ?_ ?_);exact rfl)|((with_reducible refine kf ?_ ?_);exact rfl)|simp only [go_sem,sevalprocAttr,reduceCtorEq,hg0,hrl,e101]|simp (disch:=omega) only [wz]
      exact Weak.env (by simp [envIn,lk_cons,wth_some])
    repeat first|with_reducible refine AWP.seqJ (x:= .region 9 _ _) ⟨[(0,.pointer (some ⟨r,0,none⟩)),(3,.bool mi),(4,.int .i64 (f:Nat)),(5,.int .i64 m),(6,.int .u8 c.toNat),(7,.bool Z)],[],H.set r (.cells [.string (bs s),.int .i64 (p:Nat),.int .i64 (n:Nat)] ⟨89,0,true,0,none⟩)⟩ ?_ ?_|with_reducible refine kc ?_|((with_reducible first|refine kr ?_ ?_|refine kt ?_ ?_);exact rfl)|((with_reducible refine kf ?_ ?_);exact rfl)|simp only [go_sem,sevalprocAttr,reduceCtorEq]|simp (disch:=omega) only [wz]
    ·by_cases hpf:p=f
     ·have hpf':((p:Int)==(f:Int))=true:=by simp;omega
      have hpf1:((p:Int)==((f+1:Nat):Int))=false:=by simp;omega
      by_cases c48:c=48
      ·have e48:((c.toNat:Int)==48)=true:=by rw [h48',c48];rfl
       have hZe:Z=mi:=by rw [hZ,c48];simp [hpf]
       rw [hZe]
       cases mi with
       |true=>
        repeat first|with_reducible refine kc ?_|((with_reducible first|refine kr ?_ ?_|refine kt ?_ ?_);exact rfl)|((with_reducible refine kf ?_ ?_);exact rfl)|simp only [go_sem,sevalprocAttr,reduceCtorEq,hg0,hrl,hpf',e48,exists_eq_left]|simp (disch:=omega) only [wz]
        exact Weak.env (by simp [envIn,lk_cons,wth_some])
       |false=>
        repeat first|with_reducible refine kc ?_|((with_reducible first|refine kr ?_ ?_|refine kt ?_ ?_);exact rfl)|((with_reducible refine kf ?_ ?_);exact rfl)|simp only [go_sem,sevalprocAttr,reduceCtorEq,hg0,hrl,hpf',e48,hwf,hpf1,exists_eq_left]|simp (disch:=omega) only [wz]
        exact Weak.env (by simp [envIn,lk_cons,wth_some])
      ·have e48:((c.toNat:Int)==48)=false:=by rw [h48'];simpa using c48
       have hZe:Z=false:=by rw [hZ];simp [hpf,c48]
       rw [hZe]
       repeat first|with_reducible refine kc ?_|((with_reducible first|refine kr ?_ ?_|refine kt ?_ ?_);exact rfl)|((with_reducible refine kf ?_ ?_);exact rfl)|simp only [go_sem,sevalprocAttr,reduceCtorEq,hg0,hrl,hpf',e48,hwf,hpf1,exists_eq_left]|simp (disch:=omega) only [wz]
       exact Weak.env (by simp [envIn,lk_cons,wth_some])
     ·have hpf':((p:Int)==(f:Int))=false:=by simp;omega
      by_cases hp1:p=f+1
      ·have hpf1:((p:Int)==((f+1:Nat):Int))=true:=by simp;omega
       have hfs:f<s.length:=by omega
       have hfc:s[f]? =some s[f]:=List.getElem?_eq_getElem hfs
       obtain ⟨c0,hc00⟩:∃c0,s[f]=c0:=⟨_,rfl⟩
       rw [hc00] at hfc
       have hf0:(0:Int)≤(f:Int):=Int.natCast_nonneg _
       have hfs':(f:Int)<(s.length:Int):=by omega
       have h480:((c0.toNat:Int)==48)=(c0==48):=u8b (n:=48) rfl
       by_cases c48:c0=48
       ·have e48:((c0.toNat:Int)==48)=true:=by rw [h480,c48];rfl
        have hZe:Z=true:=by rw [hZ,hfc,c48];simp [hp1]
        rw [hZe]
        repeat first|with_reducible refine kc ?_|((with_reducible first|refine kr ?_ ?_|refine kt ?_ ?_);exact rfl)|((with_reducible refine kf ?_ ?_);exact rfl)|simp only [go_sem,sevalprocAttr,reduceCtorEq,hg0,hrl,hpf',hwf,hpf1,hfc,hf0,hfs',e48,exists_eq_left]|simp (disch:=omega) only [wz]
        exact Weak.env (by simp [envIn,lk_cons,wth_some])
       ·have e48:((c0.toNat:Int)==48)=false:=by rw [h480];simpa using c48
        have hZe:Z=false:=by rw [hZ,hfc];simp [hp1,c48]
        rw [hZe]
        repeat first|with_reducible refine kc ?_|((with_reducible first|refine kr ?_ ?_|refine kt ?_ ?_);exact rfl)|((with_reducible refine kf ?_ ?_);exact rfl)|simp only [go_sem,sevalprocAttr,reduceCtorEq,hg0,hrl,hpf',hwf,hpf1,hfc,hf0,hfs',e48,exists_eq_left]|simp (disch:=omega) only [wz]
        exact Weak.env (by simp [envIn,lk_cons,wth_some])
      ·have hpf1:((p:Int)==((f+1:Nat):Int))=false:=by simp;omega
       have hZe:Z=false:=by rw [hZ];simp [hpf,hp1]
       rw [hZe]
       repeat first|with_reducible refine kc ?_|((with_reducible first|refine kr ?_ ?_|refine kt ?_ ?_);exact rfl)|((with_reducible refine kf ?_ ?_);exact rfl)|simp only [go_sem,sevalprocAttr,reduceCtorEq,hg0,hrl,hpf',hwf,hpf1,exists_eq_left]|simp (disch:=omega) only [wz]
       exact Weak.env (by simp [envIn,lk_cons,wth_some])
    have hZi:Z=true↔(0<p - f∧m=0)∨(p - f=0∧mi=true∧c=48):=by
     rw [hZ]
     simp only [Bool.or_eq_true,Bool.and_eq_true,decide_eq_true_eq,beq_iff_eq]
     constructor
     ·rintro (⟨⟨k1,k2⟩,k3⟩|⟨k1,k2⟩)
      ·exact .inr ⟨by omega,k3,k2⟩
      ·exact .inl ⟨by omega,(h6 (by omega)).2 ⟨k1,k2⟩⟩
     ·rintro (⟨k1,k2⟩|⟨k1,k2,k3⟩)
      ·obtain ⟨k3,k4⟩:=(h6 (by omega)).1 k2
       exact .inr ⟨k3,k4⟩
      ·exact .inl ⟨⟨by omega,k3⟩,k2⟩
    have hbadT:(dig c=false∨Z=true)→numR s i= .bad p 2:=fun h=>by
     rw [if_pos (by rcases h with h|h;exact .inl h;exact .inr (hZi.1 h))] at h7
     rw [hTi _ h7.symm,hip]
    cases hdig:dig c with
    |false=>
     have hT:=hbadT (.inl hdig)
     rw [hdig] at hD
     repeat first|with_reducible refine kc ?_|((with_reducible first|refine kr ?_ ?_|refine kt ?_ ?_);exact rfl)|((with_reducible refine kf ?_ ?_);exact rfl)|with_reducible (first|refine hD.use ?_|refine hF.use ?_)|simp only [go_sem,sevalprocAttr,reduceCtorEq,hg0,hrl]|simp (disch:=omega) only [wz]
     exact ⟨_,_,.refl _ _ _,by rw [hT];exact ⟨rfl,_,rfl⟩⟩
    | true =>
     rw [hdig] at hD
     cases hZb:Z with
     |true=>
      have hT:=hbadT (.inr hZb)
      repeat first|with_reducible refine kc ?_|((with_reducible first|refine kr ?_ ?_|refine kt ?_ ?_);exact rfl)|((with_reducible refine kf ?_ ?_);exact rfl)|with_reducible (first|refine hD.use ?_|refine hF.use ?_)|simp only [go_sem,sevalprocAttr,reduceCtorEq,hg0,hrl]|simp (disch:=omega) only [wz]
      exact ⟨_,_,.refl _ _ _,by rw [hT];exact ⟨rfl,_,rfl⟩⟩
     | false=>
      have hdg:=of_dig hdig
      obtain ⟨d,hdd⟩:∃d:Nat,d=c.toNat - 48:=⟨_,rfl⟩
      have hcd:(c.toNat:Int) - 48=(d:Int):=by omega
      have hu8:IntKind.u8.wrap ((c.toNat:Int) - 48)=(d:Int):=by rw [wu8 (by omega)];omega
      have hd64:IntKind.i64.wrap (d:Int)=(d:Int):=wi64 (by omega)
      rw [if_neg (by rintro (h|h);exact absurd (hdig.symm.trans h) (by decide);exact absurd (hZi.2 h) (by rw [hZb];decide)),hcd] at h7
      have hwd:IntKind.i64.wrap (-9223372036854775808+(d:Int))= -9223372036854775808+(d:Int):=wi64 (by omega)
      obtain ⟨q,hq⟩:∃q,Int.tdiv (-9223372036854775808+(d:Int)) 10=q:=⟨_,rfl⟩
      have hqb:=tdiv_neg (a:= -9223372036854775808+(d:Int)) (by omega)
      rw [hq] at hqb
      have hovT:(10*m - (d:Int)< -9223372036854775808∨(mi=false∧10*m - (d:Int)= -9223372036854775808))→numR s i= .bad p 2:=fun h=>by
       rw [if_pos h] at h7
       rw [hTi _ h7.symm,hip]
      by_cases hmq:m<q
      ·have hT:=hovT (.inl (by omega))
       repeat first|with_reducible refine kc ?_|((with_reducible first|refine kr ?_ ?_|refine kt ?_ ?_);exact rfl)|((with_reducible refine kf ?_ ?_);exact rfl)|with_reducible (first|refine hD.use ?_|refine hF.use ?_)|simp only [go_sem,sevalprocAttr,reduceCtorEq,hg0,hrl,hu8,hd64,hwd,hq,hmq]|simp (disch:=omega) only [wz]
       exact ⟨_,_,.refl _ _ _,by rw [hT];exact ⟨rfl,_,rfl⟩⟩
      ·have hge: -9223372036854775808≤10*m - (d:Int):=by omega
       have hm10:IntKind.i64.wrap (10*m)=10*m:=wi64 (by omega)
       have hmd:IntKind.i64.wrap (10*m - (d:Int))=10*m - (d:Int):=wi64 (by omega)
       by_cases hlast:mi=false∧10*m - (d:Int)= -9223372036854775808
       ·have hT:=hovT (.inr hlast)
        have hl1:=hlast.1
        have hl2:=hlast.2
        have hl2':((10*m - (d:Int))== -9223372036854775808)=true:=by simp;exact hl2
        subst hl1
        repeat first|with_reducible refine kc ?_|((with_reducible first|refine kr ?_ ?_|refine kt ?_ ?_);exact rfl)|((with_reducible refine kf ?_ ?_);exact rfl)|with_reducible (first|refine hD.use ?_|refine hF.use ?_)|simp only [go_sem,sevalprocAttr,reduceCtorEq,hg0,hrl,hu8,hd64,hwd,hq,hmq,hm10,hmd,hl2',exists_eq_left]|simp (disch:=omega) only [wz]
        exact ⟨_,_,.refl _ _ _,by rw [hT];exact ⟨rfl,_,rfl⟩⟩
       ·rw [if_neg (by rintro (h|h);omega;exact hlast h)] at h7
        obtain ⟨m2,hm2⟩:∃m2,10*m - (d:Int)=m2:=⟨_,rfl⟩
        rw [hm2] at hge hmd h7 hlast
        have hn4:mi=false→ -9223372036854775807≤m2:=fun h=>by
         have:m2≠ -9223372036854775808:=fun e=>hlast ⟨h,e⟩
         omega
        have hn6:f<p+1→(m2=0↔p+1=f+1∧s[f]? =some 48):=fun _=>by
         by_cases hpf:p=f
         ·have hm0:=h5 hpf
          subst hpf
          rw [hc]
          constructor
          ·intro e
           have:c.toNat=48:=by omega
           exact ⟨rfl,by rw [UInt8.toNat_inj.1 (show c.toNat=(48:UInt8).toNat from this)]⟩
          ·rintro ⟨_,e⟩
           have:=Option.some.inj e
           subst this
           have h48:(48:UInt8).toNat=48:=rfl
           omega
         ·have hm0:m≠0:=fun e=>by
           have:=hZi.2 (.inl ⟨by omega,e⟩)
           rw [hZb] at this
           cases this
          constructor
          ·intro e;omega
          ·rintro ⟨e,_⟩;omega
        have hn7:numGo mi (p+1 - f) m2 (s.drop (p+1))=R:=by rw [← h7];congr 1;omega
        cases mi with
        |true=>
         repeat first|with_reducible refine kc ?_|((with_reducible first|refine kr ?_ ?_|refine kt ?_ ?_);exact rfl)|((with_reducible refine kf ?_ ?_);exact rfl)|with_reducible refine hD.use ?_|simp only [go_sem,sevalprocAttr,reduceCtorEq,hg0,hrl,hu8,hd64,hwd,hq,hmq,hm10,hmd,hm2,hw1,hsets,List.set_set,List.length_set,List.set_cons_succ,List.set_cons_zero,exists_eq_left]|simp (disch:=omega) only [wz]
         exact ⟨(p+1,m2),Weak.env (by simp [envIn,lk_cons,wth_some]),⟨by omega,by omega,⟨by omega,by omega⟩,hn4,fun h=>by omega,hn6,hn7⟩,by dsimp only;omega⟩
        |false=>
         have hlb:(m2== -9223372036854775808)=false:=by simp;exact fun e=>hlast ⟨rfl,e⟩
         repeat first|with_reducible refine kc ?_|((with_reducible first|refine kr ?_ ?_|refine kt ?_ ?_);exact rfl)|((with_reducible refine kf ?_ ?_);exact rfl)|with_reducible refine hD.use ?_|simp only [go_sem,sevalprocAttr,reduceCtorEq,hg0,hrl,hu8,hd64,hwd,hq,hmq,hm10,hmd,hm2,hlb,hw1,hsets,List.set_set,List.length_set,List.set_cons_succ,List.set_cons_zero,exists_eq_left]|simp (disch:=omega) only [wz]
         exact ⟨(p+1,m2),Weak.env (by simp [envIn,lk_cons,wth_some]),⟨by omega,by omega,⟨by omega,by omega⟩,hn4,fun h=>by omega,hn6,hn7⟩,by dsimp only;omega⟩
end Go.Proofs.YthcdjconlfdidaaGreatDoor
