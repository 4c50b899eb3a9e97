/-
 The walk of slices.Insert,the room in sight:values.
-/
import Derived.Test.YthcdjconlfdidaaGreatDoorV1
set_option linter.unusedVariables false
set_option linter.unusedSimpArgs false
set_option maxRecDepth 20000
set_option maxHeartbeats 4000000
namespace Go.Proofs.YthcdjconlfdidaaGreatDoor
open Go Go.Aw Go.Proofs
theorem InsertXV (C r:List Value) (hCf:C.all flat=true) (hrf:r.all flat=true) (hr:r.length=5) (n i:Nat) (hi:i≤n) (hn:n≤1099511627776) (H:AHeap) (v:Value) (S:List Nat) (hv:RowX H 27 5 C n v S) (b2:Nat) (hb2:H[b2]? =some (.cells r ⟨27,0,true,0,none⟩)) (hbS:b2∉S):
  AC Tryz.prog 32 [v,.int .i64 (i:Nat),.slice (some ⟨b2,0,none⟩) 1 1] H (InsP 27 5 H S (C.take (i*5)++(r++C.drop (i*5))) (n+1)):=by
 obtain ⟨hC,hv⟩:=hv
 have hle:i*5≤n*5:=Nat.mul_le_mul_right 5 hi
 obtain ⟨C2,hCe⟩:∃C2,C2=C.take (i*5)++(r++C.drop (i*5)):=⟨_,rfl⟩
 have hC2:C2.length=(n+1)*5:=by
  rw [hCe]
  simp only [List.length_append,List.length_take,List.length_drop,hC,hr];omega
 rw [← hCe]
 have hrt:List.take 5 r=r:=List.take_of_length_le (by omega)
 rcases hv with ⟨rfl,rfl,rfl⟩|⟨b,cap,R,rfl,hcap,rfl,hb,hR⟩
 ·obtain rfl:i=0:=by omega
  obtain rfl:C=[]:=List.eq_nil_of_length_eq_zero (by omega)
  refine AC.enter Tryz.func32 rfl (by kernel_rfl) 95 rfl [.tmp 6] rfl (by simp) fun hsc B=> ?_
  repeat first|with_reducible refine AWP.regionO (id:=7) 2 rfl ?_|with_reducible refine kc ?_|((with_reducible first|refine kr ?_ ?_|refine kt ?_ ?_);exact rfl)|((with_reducible refine kf ?_ ?_);exact rfl)|simp only [go_sem,sevalprocAttr,reduceCtorEq,hb2,Option.isSome_some,Option.isSome_none]|simp (disch:=omega) only [wz]
  refine LOk.step (by rfl) (by rfl) ?_
  refine OpOk.appendX (e:=27) (e2:=27) (size:=5) (y:=80) (z:= [.int .i64 0,.int .i64 0,.string (bs []),.slice none 0 0,.slice none 0 0]) (n:=1) (len:=0) (j:=b2) (off2:=0) (c2:=1) (olds:=[]) (news:=r) (sv:= .slice none 0 0) ?_ rfl ?_ ?_ Tryz.underlying23 Tryz.underlying23 ?_ ?_ ?_ (.inl ⟨rfl,rfl,rfl,by decide⟩) hb2 (by omega) (by rw [List.drop_zero,Nat.one_mul];exact hrt) hrf rfl (by decide) (by decide) ?_
  ·intro d e
   cases e
   exact (by decide:25<95)
  ·simp only [go_sem,sevalprocAttr,reduceCtorEq]
  ·simp only [go_sem,sevalprocAttr,reduceCtorEq]
  ·simp only [go_sem,sevalprocAttr,reduceCtorEq]
  ·simp only [go_sem,sevalprocAttr,reduceCtorEq]
  ·simp only [go_sem,sevalprocAttr,reduceCtorEq]
  intro m
  rw [List.nil_append]
  obtain ⟨Z,hZ⟩:∃Z,Z=repZ m [Value.int .i64 0,.int .i64 0,.string (bs []),.slice none 0 0,.slice none 0 0]:=⟨_,rfl⟩
  have hZl:Z.length=(1+m - 1)*5:=by rw [hZ,repZ_length];simp
  rw [← hZ]
  repeat first|with_reducible refine kc ?_|((with_reducible first|refine kr ?_ ?_|refine kt ?_ ?_);exact rfl)|((with_reducible refine kf ?_ ?_);exact rfl)|simp only [go_sem,sevalprocAttr,reduceCtorEq]|simp (disch:=omega) only [wz]
  refine ⟨_,_,.refl _ _ _,_,[H.length],rfl,⟨hC2,.inr ⟨H.length,1+m,Z,rfl,by omega,rfl,?_,hZl⟩⟩,Frm.app,fun s hs=> .inr (by rw [List.mem_singleton.1 hs];exact Nat.le_refl _)⟩
  rw [hget0 rfl,hCe]
  simp
 ·have hbb:b2≠b:=fun h=>hbS (List.mem_singleton.2 h)
  have hCR:(C++R).length=cap*5:=by
   have:n*5≤cap*5:=Nat.mul_le_mul_right 5 hcap
   rw [List.length_append,hC,hR,Nat.sub_mul];omega
  have hwn:IntKind.i64.wrap ((n:Int)+1)=((n+1:Nat):Int):=by rw [wi64 (by omega)];omega
  have hwi:IntKind.i64.wrap ((i:Int)+1)=((i+1:Nat):Int):=by rw [wi64 (by omega)];omega
  by_cases hin:i=n
  ·subst hin
   have htk:List.take (i*5) C=C:=List.take_of_length_le (by omega)
   have hdr:List.drop (i*5) C=[]:=List.drop_of_length_le (by omega)
   have hCi:List.drop (i*5) C=[]:=hdr
   by_cases hroom:i+1≤cap
   ·skip
    refine AC.enter Tryz.func32 rfl (by kernel_rfl) 95 rfl [.tmp 6] rfl (by simp) fun hsc B=> ?_
    repeat first|with_reducible refine kc ?_|((with_reducible first|refine kr ?_ ?_|refine kt ?_ ?_);exact rfl)|((with_reducible refine kf ?_ ?_);exact rfl)|simp only [go_sem,sevalprocAttr,reduceCtorEq,hb]|simp (disch:=omega) only [wz]
    refine ⟨by omega,by omega,?_⟩
    repeat first|with_reducible refine kc ?_|((with_reducible first|refine kr ?_ ?_|refine kt ?_ ?_);exact rfl)|((with_reducible refine kf ?_ ?_);exact rfl)|simp only [go_sem,sevalprocAttr,reduceCtorEq,hb2,hrt,hrf,hr]|simp (disch:=omega) only [wz]
    refine appendTo_rx hb hroom (by decide) ⟨rfl,Nat.zero_le _⟩ (by omega) ?_
    have hRm:5≤R.length:=by rw [hR];omega
    rw [Nat.zero_add,put_row hC.symm (by omega),hr]
    repeat first|with_reducible refine kc ?_|((with_reducible first|refine kr ?_ ?_|refine kt ?_ ?_);exact rfl)|((with_reducible refine kf ?_ ?_);exact rfl)|simp only [go_sem,sevalprocAttr,reduceCtorEq]|simp (disch:=omega) only [wz]
    refine ⟨_,_,.refl _ _ _,_,[b],rfl,⟨hC2,.inr ⟨b,cap,R.drop 5,rfl,hroom,rfl,?_,?_⟩⟩,Frm.set (Frm.refl _ _) (.inl (by simp)),fun s hs=> .inl hs⟩
    ·rw [List.getElem?_set_self (lt_of_get hb),hCe,htk,hdr]
     simp
    ·rw [List.length_drop,hR,Nat.sub_mul,Nat.sub_mul];omega
   ·have hci:cap=i:=by omega
    subst hci
    refine AC.enter Tryz.func32 rfl (by kernel_rfl) 95 rfl [.tmp 6] rfl (by simp) fun hsc B=> ?_
    repeat first|with_reducible refine kc ?_|((with_reducible first|refine kr ?_ ?_|refine kt ?_ ?_);exact rfl)|((with_reducible refine kf ?_ ?_);exact rfl)|simp only [go_sem,sevalprocAttr,reduceCtorEq,hb]|simp (disch:=omega) only [wz]
    refine ⟨by omega,by omega,?_⟩
    repeat first|with_reducible refine AWP.regionO (id:=7) 2 rfl ?_|with_reducible refine kc ?_|((with_reducible first|refine kr ?_ ?_|refine kt ?_ ?_);exact rfl)|((with_reducible refine kf ?_ ?_);exact rfl)|simp only [go_sem,sevalprocAttr,reduceCtorEq,hb2,hb]|simp (disch:=omega) only [wz]
    refine LOk.step (by rfl) (by rfl) ?_
    refine OpOk.appendX (e:=27) (e2:=27) (size:=5) (y:=80) (z:= [.int .i64 0,.int .i64 0,.string (bs []),.slice none 0 0,.slice none 0 0]) (n:=1) (len:=cap) (j:=b2) (off2:=0) (c2:=1) (olds:=C) (news:=r) (sv:= .slice (some ⟨b,0,none⟩) cap cap) ?_ rfl ?_ ?_ Tryz.underlying23 Tryz.underlying23 ?_ ?_ ?_ (.inr ⟨b,0,cap,_,_,rfl,hb,rfl,by omega,by omega,?_⟩) hb2 (by omega) (by rw [List.drop_zero,Nat.one_mul];exact hrt) hrf rfl (by omega) (by omega) ?_
    ·intro d e
     cases e
     exact (by decide:25<95)
    ·simp only [go_sem,sevalprocAttr,reduceCtorEq]
    ·simp only [go_sem,sevalprocAttr,reduceCtorEq]
    ·simp only [go_sem,sevalprocAttr,reduceCtorEq]
    ·simp only [go_sem,sevalprocAttr,reduceCtorEq]
    ·simp only [go_sem,sevalprocAttr,reduceCtorEq]
    ·rw [List.drop_zero,List.take_append_of_le_length (by omega),htk]
    intro m
    obtain ⟨Z,hZ⟩:∃Z,Z=repZ m [Value.int .i64 0,.int .i64 0,.string (bs []),.slice none 0 0,.slice none 0 0]:=⟨_,rfl⟩
    have hZl:Z.length=(cap+(1+m) - (cap+1))*5:=by rw [hZ,repZ_length];simp;omega
    rw [← hZ]
    repeat first|with_reducible refine kc ?_|((with_reducible first|refine kr ?_ ?_|refine kt ?_ ?_);exact rfl)|((with_reducible refine kf ?_ ?_);exact rfl)|simp only [go_sem,sevalprocAttr,reduceCtorEq]|simp (disch:=omega) only [wz]
    refine ⟨_,_,.refl _ _ _,_,[H.length],rfl,⟨hC2,.inr ⟨H.length,cap+(1+m),Z,rfl,by omega,rfl,?_,hZl⟩⟩,Frm.app,fun s hs=> .inr (by rw [List.mem_singleton.1 hs];exact Nat.le_refl _)⟩
    rw [hget0 rfl,hCe,htk,hdr]
    simp
  ·have hne:((i:Int)==(n:Int))=false:=beq_eq_false_iff_ne.2 (by omega)
   have hCd:(C.drop (i*5)).length=(n - i)*5:=by rw [List.length_drop,hC,Nat.sub_mul]
   have hCdf:(C.drop (i*5)).all flat=true:=List.all_eq_true.2 fun x hx=>List.all_eq_true.1 hCf x (List.mem_of_mem_drop hx)
   refine AC.enter Tryz.func32 rfl (by kernel_rfl) 95 rfl [.tmp 6] rfl (by simp) fun hsc B=> ?_
   repeat first|with_reducible refine kc ?_|((with_reducible first|refine kr ?_ ?_|refine kt ?_ ?_);exact rfl)|((with_reducible refine kf ?_ ?_);exact rfl)|simp only [go_sem,sevalprocAttr,reduceCtorEq,hb]|simp (disch:=omega) only [wz]
   refine ⟨by omega,by omega,?_⟩
   repeat first|with_reducible refine AWP.regionO (id:=8) 4 rfl ?_|with_reducible refine kc ?_|((with_reducible first|refine kr ?_ ?_|refine kt ?_ ?_);exact rfl)|((with_reducible refine kf ?_ ?_);exact rfl)|simp only [go_sem,sevalprocAttr,reduceCtorEq,hne,hb]|simp (disch:=omega) only [wz]
   refine LOk.step (by rfl) (by rfl) ?_
   refine OpOk.cap (e:=27) ?_ rfl (i:=b) (off:=0) (n:=n) (cap:=cap) ?_ Tryz.underlying23 hb rfl ?_
   ·intro d e
    cases e
    exact (by decide:30<95)
   ·simp only [go_sem,sevalprocAttr,reduceCtorEq]
   by_cases hroom:n+1≤cap
   ·have hgt:¬(n:Int)+1>(cap:Int):=by omega
    have hov:∀(H0:AHeap) (o2 m2 c2:Nat) (cs2:List Value) (k3:CK),H0[b2]? =some (.cells r ⟨27,0,true,0,none⟩)→H0[b]? =some (.cells cs2 k3)→0<cs2.length→
      ARet Tryz.prog 56 [.slice (some ⟨b2,0,none⟩) 1 1,.slice (some ⟨b,o2,none⟩) m2 c2] H0 (.bool false) H0:=fun H0 o2 m2 c2 cs2 k3 h1 h2 h3=>
     ARet.overlaps (size:=5) Tryz.func56 (by kernel_rfl) (by kernel_rfl) (by kernel_rfl) (ps:= #[23,23]) (rs:= #[4]) (by kernel_rfl) (t:=23) (e:=27) rfl Tryz.underlying23 (by simp only [go_sem,sevalprocAttr,reduceCtorEq]) h1 h2 hbb rfl rfl rfl (by omega) h3
    repeat first|with_reducible refine kc ?_|((with_reducible first|refine kr ?_ ?_|refine kt ?_ ?_);exact rfl)|((with_reducible refine kf ?_ ?_);exact rfl)|simp only [go_sem,sevalprocAttr,reduceCtorEq,hwn,hgt]|simp (disch:=omega) only [wz]
    refine ⟨by omega,by rw [hb];exact .inr rfl,?_⟩
    repeat first|with_reducible refine kc ?_|((with_reducible first|refine kr ?_ ?_|refine kt ?_ ?_);exact rfl)|((with_reducible refine kf ?_ ?_);exact rfl)|simp only [go_sem,sevalprocAttr,reduceCtorEq,hwi,hb]|simp (disch:=omega) only [wz]
    refine ⟨by omega,by omega,?_⟩
    repeat first|with_reducible refine kc ?_|((with_reducible first|refine kr ?_ ?_|refine kt ?_ ?_);exact rfl)|((with_reducible refine kf ?_ ?_);exact rfl)|with_reducible refine ARet.use (hov H _ _ _ _ _ hb2 hb (by omega)) ?_|simp only [go_sem,sevalprocAttr,reduceCtorEq,hb]|simp (disch:=omega) only [wz]
    refine AWP.regionK 8 (by kernel_rfl) (by decide) (by kernel_rfl) ?_
    repeat first|with_reducible refine kc ?_|((with_reducible first|refine kr ?_ ?_|refine kt ?_ ?_);exact rfl)|((with_reducible refine kf ?_ ?_);exact rfl)|simp only [go_sem,sevalprocAttr,reduceCtorEq,hb,hwi]|simp (disch:=omega) only [wz]
    refine ⟨by omega,by omega,by omega,by omega,?_⟩
    have hRm:5≤R.length:=by rw [hR];omega
    have hmid:=mid_cells (q:=(i+1)*5) hC hi hr hRm rfl
    rw [← hCe] at hmid
    have hnews:((C++R).drop (i*5)).take ((n - i)*5)=C.drop (i*5):=by
     rw [List.drop_append_of_le_length (by omega),List.take_append_of_le_length (by rw [List.length_drop];omega)]
     exact List.take_of_length_le (by rw [List.length_drop];omega)
    refine copyW_s (size:=5) Tryz.underlying23 (by simp only [go_sem,sevalprocAttr,reduceCtorEq]) hb hb (mn:=n - i) (by omega) (news:=C.drop (i*5)) hnews hCdf (by omega) (by omega) ⟨rfl,Nat.zero_le _⟩ ?_
    obtain ⟨D1,hD1⟩:∃D1,D1=putCells (C++R) ((i+1)*5) (C.drop (i*5)):=⟨_,rfl⟩
    have hDl:D1.length=cap*5:=by
     rw [hD1,putCells_eq _ _ _ (by omega)]
     simp only [List.length_append,List.length_take,List.length_drop] at hCR ⊢
     omega
    rw [← hD1] at hmid
    obtain ⟨H2,hH2⟩:∃H2:AHeap,H2=H.set b (.cells D1 ⟨27,0,true,0,none⟩):=⟨_,rfl⟩
    have hB2:H2[b]? =some (.cells D1 ⟨27,0,true,0,none⟩):=by rw [hH2,List.getElem?_set_self (lt_of_get hb)]
    have hb22:H2[b2]? =some (.cells r ⟨27,0,true,0,none⟩):=by rw [hH2,List.getElem?_set_ne (fun e=>hbb e.symm)];exact hb2
    rw [← hD1,←hH2]
    repeat first|with_reducible refine kc ?_|((with_reducible first|refine kr ?_ ?_|refine kt ?_ ?_);exact rfl)|((with_reducible refine kf ?_ ?_);exact rfl)|simp only [go_sem,sevalprocAttr,reduceCtorEq,hB2,hb22]|simp (disch:=omega) only [wz]
    refine ⟨by omega,by omega,?_⟩
    refine copyW_s (size:=5) Tryz.underlying23 (by simp only [go_sem,sevalprocAttr,reduceCtorEq]) hB2 hb22 (mn:=1) (by omega) (news:=r) (by rw [List.drop_zero,Nat.one_mul];exact hrt) hrf (by omega) (by omega) ⟨rfl,Nat.zero_le _⟩ ?_
    rw [hmid]
    repeat first|with_reducible refine kc ?_|((with_reducible first|refine kr ?_ ?_|refine kt ?_ ?_);exact rfl)|((with_reducible refine kf ?_ ?_);exact rfl)|simp only [go_sem,sevalprocAttr,reduceCtorEq]|simp (disch:=omega) only [wz]
    refine ⟨_,_,.refl _ _ _,_,[b],rfl,⟨hC2,.inr ⟨b,cap,R.drop 5,rfl,hroom,rfl,?_,?_⟩⟩,?_,fun s hs=> .inl hs⟩
    ·rw [List.getElem?_set_self (lt_of_get hB2)]
    ·rw [List.length_drop,hR,Nat.sub_mul,Nat.sub_mul];omega
    ·rw [hH2,List.set_set]
     exact Frm.set (Frm.refl _ _) (.inl (by simp))
   ·have hgt:(n:Int)+1>(cap:Int):=by omega
    have hci:cap=n:=by omega
    subst hci
    have hsub:((cap+1:Nat):Int) - (i:Int)=((cap+1 - i:Nat):Int):=by omega
    have hRe:R=[]:=List.eq_nil_of_length_eq_zero (by rw [hR];omega)
    subst hRe
    rw [List.append_nil] at hb
    repeat first|with_reducible refine AWP.regionO (id:=9) 8 rfl ?_|with_reducible refine kc ?_|((with_reducible first|refine kr ?_ ?_|refine kt ?_ ?_);exact rfl)|((with_reducible refine kf ?_ ?_);exact rfl)|simp only [go_sem,sevalprocAttr,reduceCtorEq,hwn,hgt,hsub]|simp (disch:=omega) only [wz]
    refine ⟨by omega,by rw [hb];exact .inr rfl,?_⟩
    refine LOk.step (by rfl) (by rfl) ?_
    obtain ⟨L,hL⟩:∃L,L=C.take (i*5):=⟨_,rfl⟩
    have hLl:L.length=i*5:=by rw [hL,List.length_take];omega
    refine OpOk.appendMakeX (e:=27) (kk:= .i64) (k2:= .i64) (len:=i) (n:=cap+1 - i) (size:=5) (y:=80) (z:= [.int .i64 0,.int .i64 0,.string (bs []),.slice none 0 0,.slice none 0 0]) (olds:=L) (sv:= .slice (some ⟨b,0,none⟩) i cap) ?_ rfl ?_ ?_ Tryz.underlying23 Tryz.underlying3 ?_ ?_ ?_ (.inr ⟨b,0,cap,_,_,rfl,hb,rfl,by omega,by omega,by rw [List.drop_zero,hL]⟩) rfl (by decide) (by omega) (by omega) (by omega) ?_
    ·intro d e
     cases e
     exact (by decide:40<95)
    ·simp only [go_sem,sevalprocAttr,reduceCtorEq]
    ·simp only [go_sem,sevalprocAttr,reduceCtorEq]
    ·simp only [go_sem,sevalprocAttr,reduceCtorEq]
    ·simp only [go_sem,sevalprocAttr,reduceCtorEq]
    ·simp only [go_sem,sevalprocAttr,reduceCtorEq]
    intro m
    have hin1:i+(cap+1 - i)=cap+1:=by omega
    rw [hin1]
    obtain ⟨Z,hZ⟩:∃Z,Z=repZ (cap+1 - i) [Value.int .i64 0,.int .i64 0,.string (bs []),.slice none 0 0,.slice none 0 0]:=⟨_,rfl⟩
    have hZl:Z.length=5+(cap - i)*5:=by rw [hZ,repZ_length];simp;omega
    obtain ⟨Y,hY⟩:∃Y,Y=repZ m [Value.int .i64 0,.int .i64 0,.string (bs []),.slice none 0 0,.slice none 0 0]:=⟨_,rfl⟩
    have hYl:Y.length=m*5:=by rw [hY,repZ_length];simp
    rw [← hZ,←hY]
    obtain ⟨W,hW⟩:∃W,W=L++(Z++Y):=⟨_,rfl⟩
    have hWl:W.length=(cap+1+m)*5:=by rw [hW,List.length_append,List.length_append];omega
    rw [← hW]
    obtain ⟨H1,hH1⟩:∃H1:AHeap,H1=H++ [.cells W ⟨27,0,true,0,none⟩]:=⟨_,rfl⟩
    have hB:H1[H.length]? =some (.cells W ⟨27,0,true,0,none⟩):=by rw [hH1,hget0 rfl];rfl
    have hb21:H1[b2]? =some (.cells r ⟨27,0,true,0,none⟩):=by rw [hH1,hgetl (lt_of_get hb2)];exact hb2
    have hb1:H1[b]? =some (.cells C ⟨27,0,true,0,none⟩):=by rw [hH1,hgetl (lt_of_get hb)];exact hb
    rw [← hH1]
    obtain ⟨cq,hcq⟩:∃cq,cq=cap+1+m:=⟨_,rfl⟩
    rw [← hcq]
    repeat first|with_reducible refine kc ?_|((with_reducible first|refine kr ?_ ?_|refine kt ?_ ?_);exact rfl)|((with_reducible refine kf ?_ ?_);exact rfl)|simp only [go_sem,sevalprocAttr,reduceCtorEq,hB,hb21]|simp (disch:=omega) only [wz]
    refine ⟨by omega,by omega,?_⟩
    refine copyW_s (size:=5) Tryz.underlying23 (by simp only [go_sem,sevalprocAttr,reduceCtorEq]) hB hb21 (mn:=1) (by omega) (news:=r) (by rw [List.drop_zero,Nat.one_mul];exact hrt) hrf (by omega) (by omega) ⟨rfl,Nat.zero_le _⟩ ?_
    obtain ⟨D1,hD1⟩:∃D1,D1=putCells W (i*5) r:=⟨_,rfl⟩
    have hDl:D1.length=(cap+1+m)*5:=by
     rw [hD1,putCells_eq _ _ _ (by omega),List.length_append,List.length_append,List.length_take,List.length_drop];omega
    obtain ⟨H2,hH2⟩:∃H2:AHeap,H2=H1.set H.length (.cells D1 ⟨27,0,true,0,none⟩):=⟨_,rfl⟩
    have hB2:H2[H.length]? =some (.cells D1 ⟨27,0,true,0,none⟩):=by rw [hH2,List.getElem?_set_self (lt_of_get hB)]
    have hb22:H2[b]? =some (.cells C ⟨27,0,true,0,none⟩):=by rw [hH2,List.getElem?_set_ne (by have:=lt_of_get hb;omega)];exact hb1
    rw [← hD1,←hH2]
    repeat first|with_reducible refine kc ?_|((with_reducible first|refine kr ?_ ?_|refine kt ?_ ?_);exact rfl)|((with_reducible refine kf ?_ ?_);exact rfl)|simp only [go_sem,sevalprocAttr,reduceCtorEq,hwi]|simp (disch:=omega) only [wz]
    refine AWP.regionK 8 (by kernel_rfl) (by decide) (by kernel_rfl) ?_
    repeat first|with_reducible refine kc ?_|((with_reducible first|refine kr ?_ ?_|refine kt ?_ ?_);exact rfl)|((with_reducible refine kf ?_ ?_);exact rfl)|simp only [go_sem,sevalprocAttr,reduceCtorEq,hB2,hb22,hwi]|simp (disch:=omega) only [wz]
    refine ⟨by omega,by omega,by omega,by omega,?_⟩
    have hmn:min (cap - i) (cap+1 - (i+1))=cap - i:=by omega
    refine copyW_s (size:=5) Tryz.underlying23 (by simp only [go_sem,sevalprocAttr,reduceCtorEq]) hB2 hb22 (mn:=cap - i) (by omega) (news:=C.drop (i*5)) (by exact List.take_of_length_le (by rw [List.length_drop];omega)) hCdf (by omega) (by omega) ⟨rfl,Nat.zero_le _⟩ ?_
    have hend:putCells D1 ((i+1)*5) (C.drop (i*5))=C2++Y:=by
     rw [hD1,hW,←List.append_assoc L Z Y]
     obtain ⟨Z1,Z2,hZ12,hZ1,hZ2⟩:∃Z1 Z2,Z=Z1++Z2∧Z1.length=5∧Z2.length=(cap - i)*5:=⟨Z.take 5,Z.drop 5,(List.take_append_drop 5 Z).symm,by rw [List.length_take];omega,by rw [List.length_drop];omega⟩
     rw [hZ12,show (L++(Z1++Z2))++Y=L++(Z1++(Z2++Y)) by simp,put_row hLl.symm (by rw [List.length_append,List.length_append];omega),hr,←hZ1,List.drop_left,hZ1,
      put_row (by rw [List.length_append,hLl,hr];omega) (by rw [List.length_append];omega),hCd,show (cap - i)*5=Z2.length by omega,List.drop_left,hCe,hL]
     simp
    rw [hend]
    repeat first|with_reducible refine kc ?_|((with_reducible first|refine kr ?_ ?_|refine kt ?_ ?_);exact rfl)|((with_reducible refine kf ?_ ?_);exact rfl)|simp only [go_sem,sevalprocAttr,reduceCtorEq]|simp (disch:=omega) only [wz]
    refine ⟨_,_,.refl _ _ _,_,[H.length],rfl,⟨hC2,.inr ⟨H.length,cq,Y,rfl,by omega,rfl,?_,by omega⟩⟩,?_,fun s hs=> .inr (by rw [List.mem_singleton.1 hs];exact Nat.le_refl _)⟩
    ·rw [List.getElem?_set_self (lt_of_get hB2)]
    ·rw [hH2,List.set_set,hH1]
     exact Frm.set Frm.app (.inr (Nat.le_refl _))
end Go.Proofs.YthcdjconlfdidaaGreatDoor
