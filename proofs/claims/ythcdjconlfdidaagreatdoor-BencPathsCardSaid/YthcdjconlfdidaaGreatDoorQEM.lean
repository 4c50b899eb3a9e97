/-
  A part of the proof of a statement of this seat.
-/
import Derived.Test.YthcdjconlfdidaaGreatDoorQAM
set_option linter.unusedVariables false
set_option linter.unusedSimpArgs false
set_option maxRecDepth 20000
set_option maxHeartbeats 4000000
namespace Go.Proofs.YthcdjconlfdidaaGreatDoor
open Go Go.Aw Go.Proofs
theorem flat_ins {m:Nat} (css:List (List Value)) (i:Nat) (r:List Value) (h:∀c∈css,c.length=m):(insAt css i r).flatten=css.flatten.take (i*m)++(r++css.flatten.drop (i*m)):=by
 unfold insAt
 rw [List.flatten_append,List.flatten_cons]
 have key:∀(css:List (List Value)) (i:Nat),(∀ c∈css,c.length=m)→(css.take i).flatten=css.flatten.take (i*m)∧(css.drop i).flatten=css.flatten.drop (i*m):=fun css=>by
  induction css with
  |nil=>intro i _;simp
  | cons c css ih=>
   intro i h
   cases i with
   |zero=>simp
   |succ i=>
    have hc:=h c (by simp)
    obtain ⟨h1,h2⟩:=ih i (fun x hx=>h x (by simp [hx]))
    rw [List.take_succ_cons,List.drop_succ_cons,List.flatten_cons,List.flatten_cons,h1,h2,Nat.add_mul,Nat.one_mul]
    have e:i*m+m=c.length+i*m:=by omega
    refine ⟨?_,?_⟩
    ·rw [e,List.take_length_add_append]
    ·rw [e,List.drop_length_add_append]
 rw [(key css i h).1,(key css i h).2]
theorem InsertV (css:List (List Value)) (h5:∀c∈css,c.length=5) (hfl:css.flatten.all flat=true) (n i:Nat) (hn:css.length=n) (r:List Value) (hr:r.length=5) (hrf:r.all flat=true) (hi:i≤n) (hl:n≤1099511627776) (H:AHeap) (b:Nat) (hb:H[b]? =some (.cells css.flatten ⟨27,0,true,0,none⟩)) (b2:Nat) (k2:CK) (hb2:H[b2]? =some (.cells r k2)):
  AC Tryz.prog 32 [.slice (some ⟨b,0,none⟩) n n,.int .i64 (i:Nat),.slice (some ⟨b2,0,none⟩) 1 1] H (fun res H2=>∃B,res= .ret (.slice (some ⟨B,0,none⟩) (n+1) (n+1))∧H2[B]? =some (.cells (insAt css i r).flatten ⟨27,5,true,0,none⟩)∧H.length≤B∧Frm [] H H2):=by
 have hins:=flat_ins css i r h5
 have hcl:css.flatten.length=n*5:=by rw [flat_len h5,hn]
 rw [hins]
 clear hins h5
 generalize css.flatten=C at*
 have hfd:(C.drop (i*5)).all flat=true:=List.all_eq_true.2 fun x hx=>List.all_eq_true.1 hfl x (List.mem_of_mem_drop hx)
 have hft:(C.take (i*5)).all flat=true:=List.all_eq_true.2 fun x hx=>List.all_eq_true.1 hfl x (List.mem_of_mem_take hx)
 have hwn:IntKind.i64.wrap ((n:Int)+1)=((n+1:Nat):Int):=by rw [wi64 (by omega)];omega
 have hrt:List.take 5 r=r:=List.take_of_length_le (by omega)
 by_cases hin:i=n
 ·subst hin
  have htk:List.take (i*5) C=C:=List.take_of_length_le (by omega)
  refine AC.enter Tryz.func32 rfl (by kernel_rfl) 95 rfl [.tmp 6] rfl (by simp) fun hsc B=> ?_
  repeat first|with_reducible refine kc ?_|((with_reducible first|refine kr ?_ ?_|refine kt ?_ ?_);exact rfl)|((with_reducible refine kf ?_ ?_);exact rfl)|simp only [go_sem,sevalprocAttr,reduceCtorEq,hb]|simp (disch:=omega) only [wz]
  refine ⟨by omega,by omega,?_⟩
  repeat first|with_reducible refine kc ?_|((with_reducible first|refine kr ?_ ?_|refine kt ?_ ?_);exact rfl)|((with_reducible refine kf ?_ ?_);exact rfl)|simp only [go_sem,sevalprocAttr,reduceCtorEq,hb2,htk,hrf,hr,hrt]|simp (disch:=omega) only [wz]
  refine appendTo_x hb rfl (by omega) (by omega) (by omega) (by omega) ?_
  have htk2:List.take (i*5) (List.drop 0 C)=C:=by rw [List.drop_zero,htk]
  rw [htk2]
  repeat first|with_reducible refine kc ?_|((with_reducible first|refine kr ?_ ?_|refine kt ?_ ?_);exact rfl)|((with_reducible refine kf ?_ ?_);exact rfl)|simp only [go_sem,sevalprocAttr,reduceCtorEq]|simp (disch:=omega) only [wz]
  refine ⟨_,_,.refl _ _ _,H.length,rfl,?_,Nat.le_refl _,Frm.app⟩
  rw [hget0 rfl,List.drop_of_length_le (by omega),List.append_nil]
  rfl
 ·have hne:((i:Int)==(n:Int))=false:=beq_eq_false_iff_ne.2 (by omega)
  refine AC.enter Tryz.func32 rfl (by kernel_rfl) 95 rfl [.tmp 6] rfl (by simp) fun hsc B=> ?_
  repeat first|with_reducible refine kc ?_|((with_reducible first|refine kr ?_ ?_|refine kt ?_ ?_);exact rfl)|((with_reducible refine kf ?_ ?_);exact rfl)|simp only [go_sem,sevalprocAttr,reduceCtorEq,hb]|simp (disch:=omega) only [wz]
  refine ⟨by omega,by omega,?_⟩
  repeat first|with_reducible refine AWP.regionO (id:=8) 4 rfl ?_|with_reducible refine kc ?_|((with_reducible first|refine kr ?_ ?_|refine kt ?_ ?_);exact rfl)|((with_reducible refine kf ?_ ?_);exact rfl)|simp only [go_sem,sevalprocAttr,reduceCtorEq,hne,hb]|simp (disch:=omega) only [wz]
  refine LOk.step (by rfl) (by rfl) ?_
  refine OpOk.cap (e:=27) ?_ rfl (i:=b) (off:=0) (n:=n) (cap:=n) ?_ Tryz.underlying23 hb rfl ?_
  ·intro d e
   cases e
   exact (by decide:30<95)
  ·simp only [go_sem,sevalprocAttr,reduceCtorEq]
  have hgt:(n:Int)+1>(n:Int):=by omega
  have hsub:((n+1:Nat):Int) - (i:Int)=((n+1 - i:Nat):Int):=by omega
  repeat first|with_reducible refine AWP.regionO (id:=9) 8 rfl ?_|with_reducible refine kc ?_|((with_reducible first|refine kr ?_ ?_|refine kt ?_ ?_);exact rfl)|((with_reducible refine kf ?_ ?_);exact rfl)|simp only [go_sem,sevalprocAttr,reduceCtorEq,hwn,hgt,hsub]|simp (disch:=omega) only [wz]
  refine ⟨by omega,by rw [hb];exact .inr rfl,?_⟩
  refine LOk.step (by rfl) (by rfl) ?_
  refine OpOk.appendMake (e:=27) (kk:= .i64) (k2:= .i64) (off:=0) (len:=i) (cap:=n) (n:=n+1 - i) (size:=5) (y:=80) (z:= [.int .i64 0,.int .i64 0,.string (bs []),.slice none 0 0,.slice none 0 0]) ?_ rfl ?_ ?_ Tryz.underlying23 Tryz.underlying3 ?_ ?_ ?_ rfl hb rfl (by omega) (by omega) (repZ_scalar rfl) (by decide) (by omega) (by omega) (by omega) ?_
  ·intro d e
   cases e
   exact (by decide:40<95)
  ·simp only [go_sem,sevalprocAttr,reduceCtorEq]
  ·simp only [go_sem,sevalprocAttr,reduceCtorEq]
  ·simp only [go_sem,sevalprocAttr,reduceCtorEq]
  ·simp only [go_sem,sevalprocAttr,reduceCtorEq]
  ·simp only [go_sem,sevalprocAttr,reduceCtorEq]
  rw [show i+(n+1 - i)=n+1 by omega,List.drop_zero]
  obtain ⟨L,hL⟩:∃L,L=C.take (i*5):=⟨_,rfl⟩
  have hLl:L.length=i*5:=by rw [hL,List.length_take];omega
  obtain ⟨Z,hZ⟩:∃Z,Z=repZ (n+1 - i) [Value.int .i64 0,.int .i64 0,.string (bs []),.slice none 0 0,.slice none 0 0]:=⟨_,rfl⟩
  have hZl:Z.length=5+(n*5 - i*5):=by rw [hZ,repZ_length];simp;omega
  rw [← hL,←hZ]
  obtain ⟨H1,hH1⟩:∃H1:AHeap,H1=H++ [.cells (L++Z) ⟨27,5,true,0,none⟩]:=⟨_,rfl⟩
  have hB:H1[H.length]? =some (.cells (L++Z) ⟨27,5,true,0,none⟩):=by rw [hH1,hget0 rfl];rfl
  have hb21:H1[b2]? =some (.cells r k2):=by rw [hH1,hgetl (lt_of_get hb2)];exact hb2
  have hb1:H1[b]? =some (.cells C ⟨27,0,true,0,none⟩):=by rw [hH1,hgetl (lt_of_get hb)];exact hb
  rw [← hH1]
  repeat first|with_reducible refine kc ?_|((with_reducible first|refine kr ?_ ?_|refine kt ?_ ?_);exact rfl)|((with_reducible refine kf ?_ ?_);exact rfl)|simp only [go_sem,sevalprocAttr,reduceCtorEq,hB,hb21]|simp (disch:=omega) only [wz]
  refine ⟨by omega,by omega,?_⟩
  have hLZ:(L++Z).length=(n+1)*5:=by rw [List.length_append];omega
  refine copyW_s (size:=5) Tryz.underlying23 (by simp only [go_sem,sevalprocAttr,reduceCtorEq]) hB hb21 (mn:=1) (by omega) (news:=r) (by rw [List.drop_zero,Nat.one_mul,hrt]) hrf (by omega) (by omega) ⟨rfl,Nat.zero_le _⟩ ?_
  obtain ⟨H2,hH2⟩:∃H2:AHeap,H2=H1.set H.length (.cells (putCells (L++Z) (i*5) r) ⟨27,5,true,0,none⟩):=⟨_,rfl⟩
  have hpl:(putCells (L++Z) (i*5) r).length=(n+1)*5:=by
   rw [putCells_eq _ _ _ (by omega)];simp;omega
  have hB2:H2[H.length]? =some (.cells (putCells (L++Z) (i*5) r) ⟨27,5,true,0,none⟩):=by rw [hH2,List.getElem?_set_self (lt_of_get hB)]
  have hb22:H2[b]? =some (.cells C ⟨27,0,true,0,none⟩):=by rw [hH2,List.getElem?_set_ne (by have:=lt_of_get hb;omega)];exact hb1
  have hw2:IntKind.i64.wrap ((i:Int)+1)=((i+1:Nat):Int):=by rw [wi64 (by omega)];omega
  rw [← hH2]
  repeat first|with_reducible refine kc ?_|((with_reducible first|refine kr ?_ ?_|refine kt ?_ ?_);exact rfl)|((with_reducible refine kf ?_ ?_);exact rfl)|simp only [go_sem,sevalprocAttr,reduceCtorEq,hw2]|simp (disch:=omega) only [wz]
  refine AWP.regionK 8 (by kernel_rfl) (by decide) (by kernel_rfl) ?_
  repeat first|with_reducible refine kc ?_|((with_reducible first|refine kr ?_ ?_|refine kt ?_ ?_);exact rfl)|((with_reducible refine kf ?_ ?_);exact rfl)|simp only [go_sem,sevalprocAttr,reduceCtorEq,hB2,hb22,hw2]|simp (disch:=omega) only [wz]
  refine ⟨by omega,by omega,by omega,by omega,?_⟩
  have hrs:(C.drop (i*5)).length=n*5 - i*5:=by rw [List.length_drop,hcl]
  refine copyW_s (size:=5) Tryz.underlying23 (by simp only [go_sem,sevalprocAttr,reduceCtorEq]) hB2 hb22 (mn:=n - i) (by omega) (news:=C.drop (i*5)) (by exact List.take_of_length_le (by omega)) hfd (by omega) (by omega) ⟨rfl,Nat.zero_le _⟩ ?_
  rw [ins_cells (new:=r) (m:=5) (q:=(i+1)*5) hLl hr (by rw [hrs];exact hZl) (by omega)]
  repeat first|with_reducible refine kc ?_|((with_reducible first|refine kr ?_ ?_|refine kt ?_ ?_);exact rfl)|((with_reducible refine kf ?_ ?_);exact rfl)|simp only [go_sem,sevalprocAttr,reduceCtorEq]|simp (disch:=omega) only [wz]
  refine ⟨_,_,.refl _ _ _,H.length,rfl,?_,Nat.le_refl _,?_⟩
  ·rw [List.getElem?_set_self (lt_of_get hB2),hL]
  ·rw [hH2,List.set_set,hH1]
   exact Frm.set Frm.app (.inr (Nat.le_refl _))
end Go.Proofs.YthcdjconlfdidaaGreatDoor

set_option linter.unusedVariables false
set_option linter.unusedSimpArgs false
set_option maxRecDepth 20000
set_option maxHeartbeats 4000000
namespace Go.Proofs.YthcdjconlfdidaaGreatDoor
open Go Go.Aw Go.Proofs
theorem appendTo_r {P:Program} {e:TypeId} {size y i off len cap n:Nat} {news cs:List Value} {k:CK} {H:AHeap} {K:Value→AHeap→Prop} (hi:H[i]? =some (.cells cs k)) (hc:len+n≤cap) (ho:k.own=true) (hf:k.fz≤off+len*size) (hb:off+len*size+n*size≤cs.length) (hnl:news.length=n*size)
  (hk:K (.slice (some ⟨i,off,none⟩) (len+n) cap) (H.set i (.cells (putCells cs (off+len*size) news) k))):appendTo P e size y (.slice (some ⟨i,off,none⟩) len cap) n news H K:=by
 unfold appendTo
 simp only [hi]
 refine ⟨fun _=>⟨fun h0=> ?_,fun _=>⟨⟨⟨ho,hf⟩,hb⟩,hk⟩⟩,fun h=>absurd hc h⟩
 subst h0
 have hn:news=[]:=List.eq_nil_of_length_eq_zero (by rw [hnl];simp)
 subst hn
 have hp:putCells cs (off+len*size) []=cs:=by
  rw [putCells_eq _ _ _ (by simp;omega)]
  simp
 rw [hp,set_same hi] at hk
 exact hk
theorem del_cells {C Z:List Value} {p m q:Nat} (hC:C.length=p+m+q) (hZ:Z.length=m):putCells (putCells C p (C.drop (p+m))) (p+q) Z=C.take p++(C.drop (p+m)++Z):=by
 have h1:(C.drop (p+m)).length=q:=by rw [List.length_drop];omega
 rw [putCells_eq (C.drop (p+m)) C _ (by omega),h1]
 have h2:(C.take p++C.drop (p+m)).length=p+q:=by rw [List.length_append,List.length_take,h1];omega
 have h4:(C.drop (p+q)).drop Z.length=[]:=by rw [List.drop_drop];exact List.drop_eq_nil_of_le (by omega)
 have h5:Z.length≤(C.drop (p+q)).length:=by rw [List.length_drop];omega
 rw [put_row h2.symm h5,h4]
 simp
theorem strs_era (l:List Tx) (i:Nat):strsC (l.eraseIdx i)=(strsC l).take i++(strsC l).drop (i+1):=by
 unfold strsC
 rw [List.eraseIdx_eq_take_drop_succ,List.map_append,List.map_take,List.map_drop]
theorem DeleteT (l:List Tx) (n i:Nat) (hn:l.length=n) (hi:i<n) (hl:n≤1099511627776) (H:AHeap) (b z:Nat) (hz:z=1∨z=0) (hb:H[b]? =some (.cells (strsC l) ⟨9,z,true,0,none⟩)):
  ARet Tryz.prog 48 [.slice (some ⟨b,0,none⟩) n n,.int .i64 (i:Nat),.int .i64 (i+1:Nat)] H (.slice (some ⟨b,0,none⟩) (n - 1) n) (H.set b (.cells (strsC (l.eraseIdx i)++ [.string (bs [])]) ⟨9,z,true,0,none⟩)):=by
 have hera:=strs_era l i
 have hcl:(strsC l).length=n:=by rw [strsC_len,hn]
 have hfl:=strsC_flat l
 rw [hera]
 generalize strsC l=C at*
 have hfd:(C.drop (i+1)).all flat=true:=List.all_eq_true.2 fun x hx=>List.all_eq_true.1 hfl x (List.mem_of_mem_drop hx)
 have hne:((i:Int)==((i+1:Nat):Int))=false:=beq_eq_false_iff_ne.2 (by omega)
 have hdl:(C.drop (i+1)).length=n - (i+1):=by rw [List.length_drop,hcl]
 have hdt:List.take (n - (i+1)) (C.drop (i+1))=C.drop (i+1):=List.take_of_length_le (by omega)
 have e1:i+(n - (i+1))=n - 1:=by omega
 refine AC.enter Tryz.func48 rfl (by kernel_rfl) 33 rfl [.tmp 6] rfl (by simp) fun hsc B=> ?_
 repeat first|with_reducible refine kc ?_|((with_reducible first|refine kr ?_ ?_|refine kt ?_ ?_);exact rfl)|((with_reducible refine kf ?_ ?_);exact rfl)|simp only [go_sem,sevalprocAttr,reduceCtorEq,hb,hne,Option.isSome_some,Option.isSome_none]|simp (disch:=omega) only [wz]|with_reducible_and_instances exact finR|((with_reducible refine finR' ?_ ?_)<;> rfl)|((with_reducible refine finD hsc (NRel.of_plain ?_));exact rfl)
 refine ⟨by omega,by omega,by omega,?_⟩
 repeat first|with_reducible refine kc ?_|((with_reducible first|refine kr ?_ ?_|refine kt ?_ ?_);exact rfl)|((with_reducible refine kf ?_ ?_);exact rfl)|simp only [go_sem,sevalprocAttr,reduceCtorEq,hb,hne]|simp (disch:=omega) only [wz]|with_reducible_and_instances exact finR|((with_reducible refine finR' ?_ ?_)<;> rfl)|((with_reducible refine finD hsc (NRel.of_plain ?_));exact rfl)
 refine AWP.regionK 6 (by kernel_rfl) (by decide) (by kernel_rfl) ?_
 repeat first|with_reducible refine kc ?_|((with_reducible first|refine kr ?_ ?_|refine kt ?_ ?_);exact rfl)|((with_reducible refine kf ?_ ?_);exact rfl)|simp only [go_sem,sevalprocAttr,reduceCtorEq,hb,hdt,hdl,hfd]|simp (disch:=omega) only [wz]|with_reducible_and_instances exact finR|((with_reducible refine finR' ?_ ?_)<;> rfl)|((with_reducible refine finD hsc (NRel.of_plain ?_));exact rfl)
 refine ⟨by omega,hz,by omega,by omega,hz,by omega,?_⟩
 refine appendTo_r hb (by omega) rfl (Nat.zero_le _) (by omega) (by omega) ?_
 obtain ⟨H2,hH2⟩:∃H2:AHeap,H2=H.set b (.cells (putCells C i (C.drop (i+1))) ⟨9,z,true,0,none⟩):=⟨_,rfl⟩
 have hb2:H2[b]? =some (.cells (putCells C i (C.drop (i+1))) ⟨9,z,true,0,none⟩):=by rw [hH2,List.getElem?_set_self (lt_of_get hb)]
 have hpl:(putCells C i (C.drop (i+1))).length=n:=by rw [putCells_eq _ _ _ (by omega)];simp;omega
 have hz1:repZ 1 [Value.string (bs [])]= [.string (bs [])]:=rfl
 have hdc:=del_cells (C:=C) (Z:=[Value.string (bs [])]) (p:=i) (m:=1) (q:=n - 1 - i) (by omega) rfl
 rw [show i+(n - 1 - i)=n - 1 by omega] at hdc
 rw [e1]
 simp only [Nat.zero_add,Nat.mul_one]
 rw [← hH2]
 repeat first|with_reducible refine kc ?_|((with_reducible first|refine kr ?_ ?_|refine kt ?_ ?_);exact rfl)|((with_reducible refine kf ?_ ?_);exact rfl)|simp only [go_sem,sevalprocAttr,reduceCtorEq,hb2]|simp (disch:=omega) only [wz]|with_reducible_and_instances exact finR|((with_reducible refine finR' ?_ ?_)<;> rfl)|((with_reducible refine finD hsc (NRel.of_plain ?_));exact rfl)
 have e2:n - (n - 1)=1:=by omega
 rw [e2,hz1]
 refine ⟨by omega,by omega,hz,rfl,rfl,?_,?_⟩
 ·rw [hpl];simp;omega
 rw [hdc,hH2,List.set_set]
 repeat first|with_reducible refine kc ?_|((with_reducible first|refine kr ?_ ?_|refine kt ?_ ?_);exact rfl)|((with_reducible refine kf ?_ ?_);exact rfl)|simp only [go_sem,sevalprocAttr,reduceCtorEq]|simp (disch:=omega) only [wz]|with_reducible_and_instances exact finR|((with_reducible refine finR' ?_ ?_)<;> rfl)|((with_reducible refine finD hsc (NRel.of_plain ?_));exact rfl)
theorem flat_era {m:Nat} (css:List (List Value)) (i:Nat) (h:∀c∈css,c.length=m):(css.eraseIdx i).flatten=css.flatten.take (i*m)++css.flatten.drop ((i+1)*m):=by
 have key:∀(css:List (List Value)) (i:Nat),(∀ c∈css,c.length=m)→(css.take i).flatten=css.flatten.take (i*m)∧(css.drop i).flatten=css.flatten.drop (i*m):=fun css=>by
  induction css with
  |nil=>intro i _;simp
  | cons c css ih=>
   intro i h
   cases i with
   |zero=>simp
   |succ i=>
    have hc:=h c (by simp)
    obtain ⟨h1,h2⟩:=ih i (fun x hx=>h x (by simp [hx]))
    rw [List.take_succ_cons,List.drop_succ_cons,List.flatten_cons,List.flatten_cons,h1,h2,Nat.add_mul,Nat.one_mul]
    have e:i*m+m=c.length+i*m:=by omega
    refine ⟨?_,?_⟩
    ·rw [e,List.take_length_add_append]
    ·rw [e,List.drop_length_add_append]
 rw [List.eraseIdx_eq_take_drop_succ,List.flatten_append,(key css i h).1,(key css (i+1) h).2]
theorem DeleteV (css:List (List Value)) (h5:∀c∈css,c.length=5) (hfl:css.flatten.all flat=true) (n i:Nat) (hn:css.length=n) (hi:i<n) (hl:n≤1099511627776) (H:AHeap) (b:Nat) (hb:H[b]? =some (.cells css.flatten ⟨27,0,true,0,none⟩)):
  ARet Tryz.prog 47 [.slice (some ⟨b,0,none⟩) n n,.int .i64 (i:Nat),.int .i64 (i+1:Nat)] H (.slice (some ⟨b,0,none⟩) (n - 1) n) (H.set b (.cells ((css.eraseIdx i).flatten++ [.int .i64 0,.int .i64 0,.string (bs []),.slice none 0 0,.slice none 0 0]) ⟨27,0,true,0,none⟩)):=by
 have hera:=flat_era css i h5
 have hcl:css.flatten.length=n*5:=by rw [flat_len h5,hn]
 rw [hera]
 clear hera h5
 generalize css.flatten=C at*
 have hfd:(C.drop ((i+1)*5)).all flat=true:=List.all_eq_true.2 fun x hx=>List.all_eq_true.1 hfl x (List.mem_of_mem_drop hx)
 have hne:((i:Int)==((i+1:Nat):Int))=false:=beq_eq_false_iff_ne.2 (by omega)
 have hdl:(C.drop ((i+1)*5)).length=(n - (i+1))*5:=by rw [List.length_drop,hcl];omega
 have hdt:List.take ((n - (i+1))*5) (C.drop ((i+1)*5))=C.drop ((i+1)*5):=List.take_of_length_le (by omega)
 have e1:i+(n - (i+1))=n - 1:=by omega
 refine AC.enter Tryz.func47 rfl (by kernel_rfl) 33 rfl [.tmp 6] rfl (by simp) fun hsc B=> ?_
 repeat first|with_reducible refine kc ?_|((with_reducible first|refine kr ?_ ?_|refine kt ?_ ?_);exact rfl)|((with_reducible refine kf ?_ ?_);exact rfl)|simp only [go_sem,sevalprocAttr,reduceCtorEq,hb,hne,Option.isSome_some,Option.isSome_none]|simp (disch:=omega) only [wz]|with_reducible_and_instances exact finR|((with_reducible refine finR' ?_ ?_)<;> rfl)|((with_reducible refine finD hsc (NRel.of_plain ?_));exact rfl)
 refine ⟨by omega,by omega,by omega,?_⟩
 repeat first|with_reducible refine kc ?_|((with_reducible first|refine kr ?_ ?_|refine kt ?_ ?_);exact rfl)|((with_reducible refine kf ?_ ?_);exact rfl)|simp only [go_sem,sevalprocAttr,reduceCtorEq,hb,hne]|simp (disch:=omega) only [wz]|with_reducible_and_instances exact finR|((with_reducible refine finR' ?_ ?_)<;> rfl)|((with_reducible refine finD hsc (NRel.of_plain ?_));exact rfl)
 refine AWP.regionK 6 (by kernel_rfl) (by decide) (by kernel_rfl) ?_
 repeat first|with_reducible refine kc ?_|((with_reducible first|refine kr ?_ ?_|refine kt ?_ ?_);exact rfl)|((with_reducible refine kf ?_ ?_);exact rfl)|simp only [go_sem,sevalprocAttr,reduceCtorEq,hb,hdt,hdl,hfd]|simp (disch:=omega) only [wz]|with_reducible_and_instances exact finR|((with_reducible refine finR' ?_ ?_)<;> rfl)|((with_reducible refine finD hsc (NRel.of_plain ?_));exact rfl)
 refine ⟨by omega,by omega,by omega,by omega,?_⟩
 refine appendTo_r hb (by omega) rfl (Nat.zero_le _) (by omega) (by omega) ?_
 obtain ⟨H2,hH2⟩:∃H2:AHeap,H2=H.set b (.cells (putCells C (i*5) (C.drop ((i+1)*5))) ⟨27,0,true,0,none⟩):=⟨_,rfl⟩
 have hb2:H2[b]? =some (.cells (putCells C (i*5) (C.drop ((i+1)*5))) ⟨27,0,true,0,none⟩):=by rw [hH2,List.getElem?_set_self (lt_of_get hb)]
 have hpl:(putCells C (i*5) (C.drop ((i+1)*5))).length=n*5:=by rw [putCells_eq _ _ _ (by omega)];simp;omega
 have hz1:repZ 1 [Value.int .i64 0,.int .i64 0,.string (bs []),.slice none 0 0,.slice none 0 0]=[Value.int .i64 0,.int .i64 0,.string (bs []),.slice none 0 0,.slice none 0 0]:=rfl
 have hdc:=del_cells (C:=C) (Z:=[Value.int .i64 0,.int .i64 0,.string (bs []),.slice none 0 0,.slice none 0 0]) (p:=i*5) (m:=5) (q:=(n - 1 - i)*5) (by omega) rfl
 rw [show i*5+(n - 1 - i)*5=(n - 1)*5 by omega,show i*5+5=(i+1)*5 by omega] at hdc
 rw [e1]
 simp only [Nat.zero_add]
 rw [← hH2]
 repeat first|with_reducible refine kc ?_|((with_reducible first|refine kr ?_ ?_|refine kt ?_ ?_);exact rfl)|((with_reducible refine kf ?_ ?_);exact rfl)|simp only [go_sem,sevalprocAttr,reduceCtorEq,hb2]|simp (disch:=omega) only [wz]|with_reducible_and_instances exact finR|((with_reducible refine finR' ?_ ?_)<;> rfl)|((with_reducible refine finD hsc (NRel.of_plain ?_));exact rfl)
 have e2:n - (n - 1)=1:=by omega
 rw [e2,hz1]
 refine ⟨by omega,by omega,rfl,rfl,?_,?_⟩
 ·rw [hpl];simp;omega
 rw [hdc,hH2,List.set_set]
 repeat first|with_reducible refine kc ?_|((with_reducible first|refine kr ?_ ?_|refine kt ?_ ?_);exact rfl)|((with_reducible refine kf ?_ ?_);exact rfl)|simp only [go_sem,sevalprocAttr,reduceCtorEq]|simp (disch:=omega) only [wz]|with_reducible_and_instances exact finR|((with_reducible refine finR' ?_ ?_)<;> rfl)|((with_reducible refine finD hsc (NRel.of_plain ?_));exact rfl)
end Go.Proofs.YthcdjconlfdidaaGreatDoor
