/-
 The walk of slices.Insert,the room in sight:texts.
-/
import Derived.Test.YthcdjconlfdidaaGreatDoorQAM
import Derived.Test.YthcdjconlfdidaaGreatDoorAwC
set_option linter.unusedVariables false
set_option linter.unusedSimpArgs false
set_option maxRecDepth 20000
set_option maxHeartbeats 4000000
namespace Go.Proofs.YthcdjconlfdidaaGreatDoor
open Go Go.Aw Go.Proofs
def RowX (H:AHeap) (e:TypeId) (m:Nat) (C:List Value) (n:Nat) (v:Value) (S:List Nat):Prop:=
 C.length=n*m∧((v= .slice none 0 0∧n=0∧S=[])∨∃b cap R,v= .slice (some ⟨b,0,none⟩) n cap∧n≤cap∧S=[b]∧H[b]? =some (.cells (C++R) ⟨e,0,true,0,none⟩)∧R.length=(cap - n)*m)
theorem mid_cells {C R r:List Value} {i n m q:Nat} (hC:C.length=n*m) (hi:i≤n) (hr:r.length=m) (hR:m≤R.length) (hq:q=(i+1)*m):
  putCells (putCells (C++R) q (C.drop (i*m))) (i*m) r=(C.take (i*m)++(r++C.drop (i*m)))++R.drop m:=by
 subst hq
 have hle:i*m≤n*m:=Nat.mul_le_mul_right m hi
 have h1:(i+1)*m=i*m+m:=by rw [Nat.add_mul,Nat.one_mul]
 obtain ⟨L,hL⟩:∃L,L=C.take (i*m):=⟨_,rfl⟩
 obtain ⟨D,hD⟩:∃D,D=C.drop (i*m):=⟨_,rfl⟩
 have hCe:C=L++D:=by rw [hL,hD,List.take_append_drop]
 have hLl:L.length=i*m:=by rw [hL,List.length_take];omega
 have hDl:D.length=n*m - i*m:=by rw [hD,List.length_drop];omega
 rw [← hL,←hD]
 obtain ⟨X,hX⟩:∃X,X=(D++R).take m:=⟨_,rfl⟩
 obtain ⟨Y,hY⟩:∃Y,Y=(D++R).drop m:=⟨_,rfl⟩
 have hXY:D++R=X++Y:=by rw [hX,hY,List.take_append_drop]
 have hXl:X.length=m:=by rw [hX,List.length_take,List.length_append];omega
 have hYl:Y.length=D.length+R.length - m:=by rw [hY,List.length_drop,List.length_append]
 have e1:C++R=(L++X)++Y:=by rw [hCe,List.append_assoc,hXY,List.append_assoc]
 rw [e1,put_row (by rw [List.length_append];omega) (by omega)]
 have e2:(L++X)++D++Y.drop D.length=L++(X++(D++Y.drop D.length)):=by simp
 rw [e2,put_row hLl.symm (by rw [List.length_append,hXl];omega)]
 rw [hr,←hXl,List.drop_left,hXl]
 have hYd:Y.drop D.length=R.drop m:=by
  rw [hY,List.drop_drop,Nat.add_comm,←List.drop_drop,List.drop_left]
 rw [hYd]
 simp
def InsP (e:TypeId) (m:Nat) (H:AHeap) (S:List Nat) (C:List Value) (n:Nat) (res:ARes) (H2:AHeap):Prop:=
 ∃v' S',res= .ret v'∧RowX H2 e m C n v' S'∧Frm S H H2∧∀s∈S',s∈S∨H.length≤s
theorem appendTo_rx {P:Program} {e:TypeId} {size y i off len cap n:Nat} {news cs:List Value} {k:CK} {H:AHeap} {K:Value→AHeap→Prop} (hi:H[i]? =some (.cells cs k)) (hle:len+n≤cap) (hn:n≠0) (how:ownW k (off+len*size)) (hin:off+len*size+n*size≤cs.length)
  (hk:K (.slice (some ⟨i,off,none⟩) (len+n) cap) (H.set i (.cells (putCells cs (off+len*size) news) k))):appendTo P e size y (.slice (some ⟨i,off,none⟩) len cap) n news H K:=by
 unfold appendTo
 simp only [hi]
 exact ⟨fun _=>⟨fun h=>absurd h hn,fun _=>⟨⟨how,hin⟩,hk⟩⟩,fun h=>absurd hle h⟩
theorem InsertX (C r:List Value) (hCf:C.all flat=true) (hrf:r.all flat=true) (hr:r.length=1) (n i:Nat) (hi:i≤n) (hn:n≤1099511627776) (H:AHeap) (v:Value) (S:List Nat) (hv:RowX H 9 1 C n v S) (b2:Nat) (hb2:H[b2]? =some (.cells r ⟨9,0,true,0,none⟩)) (hbS:b2∉S):
  AC Tryz.prog 31 [v,.int .i64 (i:Nat),.slice (some ⟨b2,0,none⟩) 1 1] H (InsP 9 1 H S (C.take (i*1)++(r++C.drop (i*1))) (n+1)):=by
 obtain ⟨hC,hv⟩:=hv
 have hle:i*1≤n*1:=Nat.mul_le_mul_right 1 hi
 obtain ⟨C2,hCe⟩:∃C2,C2=C.take (i*1)++(r++C.drop (i*1)):=⟨_,rfl⟩
 have hC2:C2.length=(n+1)*1:=by
  rw [hCe]
  simp only [List.length_append,List.length_take,List.length_drop,hC,hr];omega
 rw [← hCe]
 have hrt:List.take 1 r=r:=List.take_of_length_le (by omega)
 rcases hv with ⟨rfl,rfl,rfl⟩|⟨b,cap,R,rfl,hcap,rfl,hb,hR⟩
 ·obtain rfl:i=0:=by omega
  obtain rfl:C=[]:=List.eq_nil_of_length_eq_zero (by omega)
  refine AC.enter Tryz.func31 rfl (by kernel_rfl) 95 rfl [.tmp 6] rfl (by simp) fun hsc B=> ?_
  repeat first|with_reducible refine AWP.regionO (id:=7) 2 rfl ?_|with_reducible refine kc ?_|((with_reducible first|refine kr ?_ ?_|refine kt ?_ ?_);exact rfl)|((with_reducible refine kf ?_ ?_);exact rfl)|simp only [go_sem,sevalprocAttr,reduceCtorEq,hb2,Option.isSome_some,Option.isSome_none]|simp (disch:=omega) only [wz]
  refine LOk.step (by rfl) (by rfl) ?_
  refine OpOk.appendX (e:=9) (e2:=9) (size:=1) (y:=16) (z:= [.string (bs [])]) (n:=1) (len:=0) (j:=b2) (off2:=0) (c2:=1) (olds:=[]) (news:=r) (sv:= .slice none 0 0) ?_ rfl ?_ ?_ Tryz.underlying22 Tryz.underlying22 ?_ ?_ ?_ (.inl ⟨rfl,rfl,rfl,by decide⟩) hb2 (by omega) (by simpa using hrt) hrf rfl (by decide) (by decide) ?_
  ·intro d e
   cases e
   exact (by decide:25<95)
  ·simp only [go_sem,sevalprocAttr,reduceCtorEq]
  ·simp only [go_sem,sevalprocAttr,reduceCtorEq]
  ·simp only [go_sem,sevalprocAttr,reduceCtorEq]
  ·simp only [go_sem,sevalprocAttr,reduceCtorEq]
  ·simp only [go_sem,sevalprocAttr,reduceCtorEq]
  intro m
  rw [List.nil_append]
  obtain ⟨Z,hZ⟩:∃Z,Z=repZ m [Value.string (bs [])]:=⟨_,rfl⟩
  have hZl:Z.length=(1+m - 1)*1:=by rw [hZ,repZ_length];simp
  rw [← hZ]
  repeat first|with_reducible refine kc ?_|((with_reducible first|refine kr ?_ ?_|refine kt ?_ ?_);exact rfl)|((with_reducible refine kf ?_ ?_);exact rfl)|simp only [go_sem,sevalprocAttr,reduceCtorEq]|simp (disch:=omega) only [wz]
  refine ⟨_,_,.refl _ _ _,_,[H.length],rfl,⟨hC2,.inr ⟨H.length,1+m,Z,rfl,by omega,rfl,?_,hZl⟩⟩,Frm.app,fun s hs=> .inr (by rw [List.mem_singleton.1 hs];exact Nat.le_refl _)⟩
  rw [hget0 rfl,hCe]
  simp
 ·have hbb:b2≠b:=fun h=>hbS (List.mem_singleton.2 h)
  have hCR:(C++R).length=cap*1:=by
   have:n*1≤cap*1:=Nat.mul_le_mul_right 1 hcap
   rw [List.length_append,hC,hR,Nat.sub_mul];omega
  have hwn:IntKind.i64.wrap ((n:Int)+1)=((n+1:Nat):Int):=by rw [wi64 (by omega)];omega
  have hwi:IntKind.i64.wrap ((i:Int)+1)=((i+1:Nat):Int):=by rw [wi64 (by omega)];omega
  by_cases hin:i=n
  ·subst hin
   have htk:List.take (i*1) C=C:=List.take_of_length_le (by omega)
   have hdr:List.drop (i*1) C=[]:=List.drop_of_length_le (by omega)
   have hCi:List.drop (i*1) C=[]:=hdr
   by_cases hroom:i+1≤cap
   ·skip
    refine AC.enter Tryz.func31 rfl (by kernel_rfl) 95 rfl [.tmp 6] rfl (by simp) fun hsc B=> ?_
    repeat first|with_reducible refine kc ?_|((with_reducible first|refine kr ?_ ?_|refine kt ?_ ?_);exact rfl)|((with_reducible refine kf ?_ ?_);exact rfl)|simp only [go_sem,sevalprocAttr,reduceCtorEq,hb]|simp (disch:=omega) only [wz]
    refine ⟨by omega,by omega,?_⟩
    repeat first|with_reducible refine kc ?_|((with_reducible first|refine kr ?_ ?_|refine kt ?_ ?_);exact rfl)|((with_reducible refine kf ?_ ?_);exact rfl)|simp only [go_sem,sevalprocAttr,reduceCtorEq,hb2,hrt,hrf,hr]|simp (disch:=omega) only [wz]
    refine appendTo_rx hb hroom (by decide) ⟨rfl,Nat.zero_le _⟩ (by omega) ?_
    have hRm:1≤R.length:=by rw [hR];omega
    rw [Nat.zero_add,put_row hC.symm (by omega),hr]
    repeat first|with_reducible refine kc ?_|((with_reducible first|refine kr ?_ ?_|refine kt ?_ ?_);exact rfl)|((with_reducible refine kf ?_ ?_);exact rfl)|simp only [go_sem,sevalprocAttr,reduceCtorEq]|simp (disch:=omega) only [wz]
    refine ⟨_,_,.refl _ _ _,_,[b],rfl,⟨hC2,.inr ⟨b,cap,R.drop 1,rfl,hroom,rfl,?_,?_⟩⟩,Frm.set (Frm.refl _ _) (.inl (by simp)),fun s hs=> .inl hs⟩
    ·rw [List.getElem?_set_self (lt_of_get hb),hCe,htk,hdr]
     simp
    ·rw [List.length_drop,hR,Nat.sub_mul,Nat.sub_mul];omega
   ·have hci:cap=i:=by omega
    subst hci
    refine AC.enter Tryz.func31 rfl (by kernel_rfl) 95 rfl [.tmp 6] rfl (by simp) fun hsc B=> ?_
    repeat first|with_reducible refine kc ?_|((with_reducible first|refine kr ?_ ?_|refine kt ?_ ?_);exact rfl)|((with_reducible refine kf ?_ ?_);exact rfl)|simp only [go_sem,sevalprocAttr,reduceCtorEq,hb]|simp (disch:=omega) only [wz]
    refine ⟨by omega,by omega,?_⟩
    repeat first|with_reducible refine AWP.regionO (id:=7) 2 rfl ?_|with_reducible refine kc ?_|((with_reducible first|refine kr ?_ ?_|refine kt ?_ ?_);exact rfl)|((with_reducible refine kf ?_ ?_);exact rfl)|simp only [go_sem,sevalprocAttr,reduceCtorEq,hb2,hb]|simp (disch:=omega) only [wz]
    refine LOk.step (by rfl) (by rfl) ?_
    refine OpOk.appendX (e:=9) (e2:=9) (size:=1) (y:=16) (z:= [.string (bs [])]) (n:=1) (len:=cap) (j:=b2) (off2:=0) (c2:=1) (olds:=C) (news:=r) (sv:= .slice (some ⟨b,0,none⟩) cap cap) ?_ rfl ?_ ?_ Tryz.underlying22 Tryz.underlying22 ?_ ?_ ?_ (.inr ⟨b,0,cap,_,_,rfl,hb,rfl,by omega,by omega,?_⟩) hb2 (by omega) (by simpa using hrt) hrf rfl (by omega) (by omega) ?_
    ·intro d e
     cases e
     exact (by decide:25<95)
    ·simp only [go_sem,sevalprocAttr,reduceCtorEq]
    ·simp only [go_sem,sevalprocAttr,reduceCtorEq]
    ·simp only [go_sem,sevalprocAttr,reduceCtorEq]
    ·simp only [go_sem,sevalprocAttr,reduceCtorEq]
    ·simp only [go_sem,sevalprocAttr,reduceCtorEq]
    ·rw [List.drop_zero,List.take_append_of_le_length (by omega),htk]
    intro m
    obtain ⟨Z,hZ⟩:∃Z,Z=repZ m [Value.string (bs [])]:=⟨_,rfl⟩
    have hZl:Z.length=(cap+(1+m) - (cap+1))*1:=by rw [hZ,repZ_length];simp;omega
    rw [← hZ]
    repeat first|with_reducible refine kc ?_|((with_reducible first|refine kr ?_ ?_|refine kt ?_ ?_);exact rfl)|((with_reducible refine kf ?_ ?_);exact rfl)|simp only [go_sem,sevalprocAttr,reduceCtorEq]|simp (disch:=omega) only [wz]
    refine ⟨_,_,.refl _ _ _,_,[H.length],rfl,⟨hC2,.inr ⟨H.length,cap+(1+m),Z,rfl,by omega,rfl,?_,hZl⟩⟩,Frm.app,fun s hs=> .inr (by rw [List.mem_singleton.1 hs];exact Nat.le_refl _)⟩
    rw [hget0 rfl,hCe,htk,hdr]
    simp
  ·have hne:((i:Int)==(n:Int))=false:=beq_eq_false_iff_ne.2 (by omega)
   have hCd:(C.drop (i*1)).length=(n - i)*1:=by rw [List.length_drop,hC,Nat.sub_mul]
   have hCdf:(C.drop (i*1)).all flat=true:=List.all_eq_true.2 fun x hx=>List.all_eq_true.1 hCf x (List.mem_of_mem_drop hx)
   refine AC.enter Tryz.func31 rfl (by kernel_rfl) 95 rfl [.tmp 6] rfl (by simp) fun hsc B=> ?_
   repeat first|with_reducible refine kc ?_|((with_reducible first|refine kr ?_ ?_|refine kt ?_ ?_);exact rfl)|((with_reducible refine kf ?_ ?_);exact rfl)|simp only [go_sem,sevalprocAttr,reduceCtorEq,hb]|simp (disch:=omega) only [wz]
   refine ⟨by omega,by omega,?_⟩
   repeat first|with_reducible refine AWP.regionO (id:=8) 4 rfl ?_|with_reducible refine kc ?_|((with_reducible first|refine kr ?_ ?_|refine kt ?_ ?_);exact rfl)|((with_reducible refine kf ?_ ?_);exact rfl)|simp only [go_sem,sevalprocAttr,reduceCtorEq,hne,hb]|simp (disch:=omega) only [wz]
   refine LOk.step (by rfl) (by rfl) ?_
   refine OpOk.cap (e:=9) ?_ rfl (i:=b) (off:=0) (n:=n) (cap:=cap) ?_ Tryz.underlying22 hb rfl ?_
   ·intro d e
    cases e
    exact (by decide:30<95)
   ·simp only [go_sem,sevalprocAttr,reduceCtorEq]
   by_cases hroom:n+1≤cap
   ·have hgt:¬(n:Int)+1>(cap:Int):=by omega
    have hov:∀(H0:AHeap) (o2 m2 c2:Nat) (cs2:List Value) (k3:CK),H0[b2]? =some (.cells r ⟨9,0,true,0,none⟩)→H0[b]? =some (.cells cs2 k3)→0<cs2.length→
      ARet Tryz.prog 54 [.slice (some ⟨b2,0,none⟩) 1 1,.slice (some ⟨b,o2,none⟩) m2 c2] H0 (.bool false) H0:=fun H0 o2 m2 c2 cs2 k3 h1 h2 h3=>
     ARet.overlaps (size:=1) Tryz.func54 (by kernel_rfl) (by kernel_rfl) (by kernel_rfl) (ps:= #[22,22]) (rs:= #[4]) (by kernel_rfl) (t:=22) (e:=9) rfl Tryz.underlying22 (by simp only [go_sem,sevalprocAttr,reduceCtorEq]) h1 h2 hbb rfl rfl rfl (by omega) h3
    repeat first|with_reducible refine kc ?_|((with_reducible first|refine kr ?_ ?_|refine kt ?_ ?_);exact rfl)|((with_reducible refine kf ?_ ?_);exact rfl)|simp only [go_sem,sevalprocAttr,reduceCtorEq,hwn,hgt]|simp (disch:=omega) only [wz]
    refine ⟨by omega,by rw [hb];exact .inr rfl,?_⟩
    repeat first|with_reducible refine kc ?_|((with_reducible first|refine kr ?_ ?_|refine kt ?_ ?_);exact rfl)|((with_reducible refine kf ?_ ?_);exact rfl)|simp only [go_sem,sevalprocAttr,reduceCtorEq,hwi,hb]|simp (disch:=omega) only [wz]
    refine ⟨by omega,by omega,?_⟩
    repeat first|with_reducible refine kc ?_|((with_reducible first|refine kr ?_ ?_|refine kt ?_ ?_);exact rfl)|((with_reducible refine kf ?_ ?_);exact rfl)|with_reducible refine ARet.use (hov H _ _ _ _ _ hb2 hb (by omega)) ?_|simp only [go_sem,sevalprocAttr,reduceCtorEq,hb]|simp (disch:=omega) only [wz]
    refine AWP.regionK 8 (by kernel_rfl) (by decide) (by kernel_rfl) ?_
    repeat first|with_reducible refine kc ?_|((with_reducible first|refine kr ?_ ?_|refine kt ?_ ?_);exact rfl)|((with_reducible refine kf ?_ ?_);exact rfl)|simp only [go_sem,sevalprocAttr,reduceCtorEq,hb,hwi]|simp (disch:=omega) only [wz]
    refine ⟨by omega,by omega,by omega,by omega,?_⟩
    have hRm:1≤R.length:=by rw [hR];omega
    have hmid:=mid_cells (q:=(i+1)*1) hC hi hr hRm rfl
    rw [← hCe] at hmid
    have hnews:((C++R).drop i).take ((n - i)*1)=C.drop (i*1):=by
     rw [List.drop_append_of_le_length (by omega),Nat.mul_one i,List.take_append_of_le_length (by rw [List.length_drop];omega)]
     exact List.take_of_length_le (by rw [List.length_drop];omega)
    refine copyW_s (size:=1) Tryz.underlying22 (by simp only [go_sem,sevalprocAttr,reduceCtorEq]) hb hb (mn:=n - i) (by omega) (news:=C.drop (i*1)) hnews hCdf (by omega) (by omega) ⟨rfl,Nat.zero_le _⟩ ?_
    obtain ⟨D1,hD1⟩:∃D1,D1=putCells (C++R) (i+1) (C.drop (i*1)):=⟨_,rfl⟩
    have hDl:D1.length=cap*1:=by
     rw [hD1,putCells_eq _ _ _ (by omega)]
     simp only [List.length_append,List.length_take,List.length_drop] at hCR ⊢
     omega
    rw [Nat.mul_one (i+1),←hD1] at hmid
    obtain ⟨H2,hH2⟩:∃H2:AHeap,H2=H.set b (.cells D1 ⟨9,0,true,0,none⟩):=⟨_,rfl⟩
    have hB2:H2[b]? =some (.cells D1 ⟨9,0,true,0,none⟩):=by rw [hH2,List.getElem?_set_self (lt_of_get hb)]
    have hb22:H2[b2]? =some (.cells r ⟨9,0,true,0,none⟩):=by rw [hH2,List.getElem?_set_ne (fun e=>hbb e.symm)];exact hb2
    rw [← hD1,←hH2]
    repeat first|with_reducible refine kc ?_|((with_reducible first|refine kr ?_ ?_|refine kt ?_ ?_);exact rfl)|((with_reducible refine kf ?_ ?_);exact rfl)|simp only [go_sem,sevalprocAttr,reduceCtorEq,hB2,hb22]|simp (disch:=omega) only [wz]
    refine ⟨by omega,by omega,?_⟩
    refine copyW_s (size:=1) Tryz.underlying22 (by simp only [go_sem,sevalprocAttr,reduceCtorEq]) hB2 hb22 (mn:=1) (by omega) (news:=r) (by rw [List.drop_zero,Nat.mul_one];exact hrt) hrf (by omega) (by omega) ⟨rfl,Nat.zero_le _⟩ ?_
    rw [← Nat.mul_one i,hmid]
    repeat first|with_reducible refine kc ?_|((with_reducible first|refine kr ?_ ?_|refine kt ?_ ?_);exact rfl)|((with_reducible refine kf ?_ ?_);exact rfl)|simp only [go_sem,sevalprocAttr,reduceCtorEq]|simp (disch:=omega) only [wz]
    refine ⟨_,_,.refl _ _ _,_,[b],rfl,⟨hC2,.inr ⟨b,cap,R.drop 1,rfl,hroom,rfl,?_,?_⟩⟩,?_,fun s hs=> .inl hs⟩
    ·rw [List.getElem?_set_self (lt_of_get hB2)]
    ·rw [List.length_drop,hR,Nat.sub_mul,Nat.sub_mul];omega
    ·rw [hH2,List.set_set]
     exact Frm.set (Frm.refl _ _) (.inl (by simp))
   ·have hgt:(n:Int)+1>(cap:Int):=by omega
    have hci:cap=n:=by omega
    subst hci
    have hsub:((cap+1:Nat):Int) - (i:Int)=((cap+1 - i:Nat):Int):=by omega
    have hRe:R=[]:=List.eq_nil_of_length_eq_zero (by rw [hR];omega)
    subst hRe
    rw [List.append_nil] at hb
    repeat first|with_reducible refine AWP.regionO (id:=9) 8 rfl ?_|with_reducible refine kc ?_|((with_reducible first|refine kr ?_ ?_|refine kt ?_ ?_);exact rfl)|((with_reducible refine kf ?_ ?_);exact rfl)|simp only [go_sem,sevalprocAttr,reduceCtorEq,hwn,hgt,hsub]|simp (disch:=omega) only [wz]
    refine ⟨by omega,by rw [hb];exact .inr rfl,?_⟩
    refine LOk.step (by rfl) (by rfl) ?_
    obtain ⟨L,hL⟩:∃L,L=C.take (i*1):=⟨_,rfl⟩
    have hLl:L.length=i:=by rw [hL,List.length_take];omega
    refine OpOk.appendMakeX (e:=9) (kk:= .i64) (k2:= .i64) (len:=i) (n:=cap+1 - i) (size:=1) (y:=16) (z:= [.string (bs [])]) (olds:=L) (sv:= .slice (some ⟨b,0,none⟩) i cap) ?_ rfl ?_ ?_ Tryz.underlying22 Tryz.underlying3 ?_ ?_ ?_ (.inr ⟨b,0,cap,_,_,rfl,hb,rfl,by omega,by omega,by rw [List.drop_zero,hL]⟩) rfl (by decide) (by omega) (by omega) (by omega) ?_
    ·intro d e
     cases e
     exact (by decide:40<95)
    ·simp only [go_sem,sevalprocAttr,reduceCtorEq]
    ·simp only [go_sem,sevalprocAttr,reduceCtorEq]
    ·simp only [go_sem,sevalprocAttr,reduceCtorEq]
    ·simp only [go_sem,sevalprocAttr,reduceCtorEq]
    ·simp only [go_sem,sevalprocAttr,reduceCtorEq]
    intro m
    have hin1:i+(cap+1 - i)=cap+1:=by omega
    rw [hin1]
    obtain ⟨Z,hZ⟩:∃Z,Z=repZ (cap+1 - i) [Value.string (bs [])]:=⟨_,rfl⟩
    have hZl:Z.length=1+(cap - i):=by rw [hZ,repZ_length];simp;omega
    obtain ⟨Y,hY⟩:∃Y,Y=repZ m [Value.string (bs [])]:=⟨_,rfl⟩
    have hYl:Y.length=m:=by rw [hY,repZ_length];simp
    rw [← hZ,←hY]
    obtain ⟨W,hW⟩:∃W,W=L++(Z++Y):=⟨_,rfl⟩
    have hWl:W.length=cap+1+m:=by rw [hW,List.length_append,List.length_append];omega
    rw [← hW]
    obtain ⟨H1,hH1⟩:∃H1:AHeap,H1=H++ [.cells W ⟨9,0,true,0,none⟩]:=⟨_,rfl⟩
    have hB:H1[H.length]? =some (.cells W ⟨9,0,true,0,none⟩):=by rw [hH1,hget0 rfl];rfl
    have hb21:H1[b2]? =some (.cells r ⟨9,0,true,0,none⟩):=by rw [hH1,hgetl (lt_of_get hb2)];exact hb2
    have hb1:H1[b]? =some (.cells C ⟨9,0,true,0,none⟩):=by rw [hH1,hgetl (lt_of_get hb)];exact hb
    rw [← hH1]
    obtain ⟨cq,hcq⟩:∃cq,cq=cap+1+m:=⟨_,rfl⟩
    rw [← hcq]
    repeat first|with_reducible refine kc ?_|((with_reducible first|refine kr ?_ ?_|refine kt ?_ ?_);exact rfl)|((with_reducible refine kf ?_ ?_);exact rfl)|simp only [go_sem,sevalprocAttr,reduceCtorEq,hB,hb21]|simp (disch:=omega) only [wz]
    refine ⟨by omega,by omega,?_⟩
    refine copyW_s (size:=1) Tryz.underlying22 (by simp only [go_sem,sevalprocAttr,reduceCtorEq]) hB hb21 (mn:=1) (by omega) (news:=r) (by rw [List.drop_zero,Nat.mul_one];exact hrt) hrf (by omega) (by omega) ⟨rfl,Nat.zero_le _⟩ ?_
    obtain ⟨D1,hD1⟩:∃D1,D1=putCells W i r:=⟨_,rfl⟩
    have hDl:D1.length=cap+1+m:=by
     rw [hD1,putCells_eq _ _ _ (by omega),List.length_append,List.length_append,List.length_take,List.length_drop];omega
    obtain ⟨H2,hH2⟩:∃H2:AHeap,H2=H1.set H.length (.cells D1 ⟨9,0,true,0,none⟩):=⟨_,rfl⟩
    have hB2:H2[H.length]? =some (.cells D1 ⟨9,0,true,0,none⟩):=by rw [hH2,List.getElem?_set_self (lt_of_get hB)]
    have hb22:H2[b]? =some (.cells C ⟨9,0,true,0,none⟩):=by rw [hH2,List.getElem?_set_ne (by have:=lt_of_get hb;omega)];exact hb1
    rw [← hD1,←hH2]
    repeat first|with_reducible refine kc ?_|((with_reducible first|refine kr ?_ ?_|refine kt ?_ ?_);exact rfl)|((with_reducible refine kf ?_ ?_);exact rfl)|simp only [go_sem,sevalprocAttr,reduceCtorEq,hwi]|simp (disch:=omega) only [wz]
    refine AWP.regionK 8 (by kernel_rfl) (by decide) (by kernel_rfl) ?_
    repeat first|with_reducible refine kc ?_|((with_reducible first|refine kr ?_ ?_|refine kt ?_ ?_);exact rfl)|((with_reducible refine kf ?_ ?_);exact rfl)|simp only [go_sem,sevalprocAttr,reduceCtorEq,hB2,hb22,hwi]|simp (disch:=omega) only [wz]
    refine ⟨by omega,by omega,by omega,by omega,?_⟩
    have hmn:min (cap - i) (cap+1 - (i+1))=cap - i:=by omega
    refine copyW_s (size:=1) Tryz.underlying22 (by simp only [go_sem,sevalprocAttr,reduceCtorEq]) hB2 hb22 (mn:=cap - i) (by omega) (news:=C.drop (i*1)) (by rw [Nat.mul_one i,Nat.mul_one];exact List.take_of_length_le (by rw [List.length_drop];omega)) hCdf (by omega) (by omega) ⟨rfl,Nat.zero_le _⟩ ?_
    have hend:putCells D1 (i+1) (C.drop (i*1))=C2++Y:=by
     rw [hD1,hW,←List.append_assoc L Z Y]
     obtain ⟨Z1,Z2,hZ12,hZ1,hZ2⟩:∃Z1 Z2,Z=Z1++Z2∧Z1.length=1∧Z2.length=cap - i:=⟨Z.take 1,Z.drop 1,(List.take_append_drop 1 Z).symm,by rw [List.length_take];omega,by rw [List.length_drop];omega⟩
     rw [hZ12,show (L++(Z1++Z2))++Y=L++(Z1++(Z2++Y)) by simp,put_row hLl.symm (by rw [List.length_append,List.length_append];omega),hr,←hZ1,List.drop_left,hZ1,
      put_row (by rw [List.length_append,hLl,hr]) (by rw [List.length_append];omega),hCd,show (cap - i)*1=Z2.length by omega,List.drop_left,hCe,hL]
     simp
    rw [hend]
    repeat first|with_reducible refine kc ?_|((with_reducible first|refine kr ?_ ?_|refine kt ?_ ?_);exact rfl)|((with_reducible refine kf ?_ ?_);exact rfl)|simp only [go_sem,sevalprocAttr,reduceCtorEq]|simp (disch:=omega) only [wz]
    refine ⟨_,_,.refl _ _ _,_,[H.length],rfl,⟨hC2,.inr ⟨H.length,cq,Y,rfl,by omega,rfl,?_,by omega⟩⟩,?_,fun s hs=> .inr (by rw [List.mem_singleton.1 hs];exact Nat.le_refl _)⟩
    ·rw [List.getElem?_set_self (lt_of_get hB2)]
    ·rw [hH2,List.set_set,hH1]
     exact Frm.set Frm.app (.inr (Nat.le_refl _))
end Go.Proofs.YthcdjconlfdidaaGreatDoor
