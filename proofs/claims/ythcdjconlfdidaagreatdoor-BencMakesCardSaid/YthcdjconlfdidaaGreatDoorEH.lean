/-
 The walk of the specification's writer:Decimal,text,Write.
-/
import Derived.Test.YthcdjconlfdidaaGreatDoorDX
set_option linter.unusedVariables false
set_option linter.unusedSimpArgs false
set_option maxRecDepth 20000
set_option maxHeartbeats 4000000
namespace Go.Proofs.YthcdjconlfdidaaGreatDoor
open Go Go.Aw Go.Proofs
theorem box_put0 (cs:List Value) (h:cs.length=5):putCells [.int .i64 0,.int .i64 0,.string (bs []),.slice none 0 0,.slice none 0 0] 0 cs=cs:=by
 match cs,h with
 |[_,_,_,_,_],_=>rfl
theorem rDecimal (u:Nat) (hu:u≤9223372036854775807):∀H:AHeap,ARet Tryz.prog 76 [.int .i64 (u:Nat)] H (.string (bs (Lib.decDigits u))) H:=by
 induction u using Nat.strongRecOn with
 | _ u ih=>
  intro H
  have q:(u:Int) / 10=((u / 10:Nat):Int):=by omega
  have r:(u:Int)%10=((u%10:Nat):Int):=by omega
  have hneg:¬((u:Int)<0):=by omega
  have e8:u8s [.int .u8 (48+((u%10:Nat):Int))]=some [UInt8.ofNat (48+u%10)]:=by
   have h:=u8s_bytesC [UInt8.ofNat (48+u%10)]
   have e:(((UInt8.ofNat (48+u%10)).toNat:Nat):Int)=48+((u%10:Nat):Int):=by rw [dig_nat _ (by omega)];omega
   unfold bytesC at h
   rw [List.map_cons,List.map_nil,e] at h
   exact h
  by_cases hc:u<10
  ·have hc':(u:Int)<10:=by omega
   rw [dd_lt u hc]
   have hu10:u%10=u:=by omega
   rw [hu10] at e8
   refine AC.enter Tryz.func76 rfl (by kernel_rfl) 35 rfl [.tmp 2] rfl (by simp) fun hsc B=> ?_
   repeat first|with_reducible refine kc ?_|((with_reducible first|refine kr ?_ ?_|refine kt ?_ ?_);exact rfl)|((with_reducible refine kf ?_ ?_);exact rfl)|simp only [go_sem,sevalprocAttr,reduceCtorEq,hneg,q,r,hc',e8,hu10]|simp (disch:=omega) only [wz]|with_reducible_and_instances exact finR|((with_reducible refine finR' ?_ ?_)<;> rfl)|((with_reducible refine finD hsc (NRel.of_plain ?_));exact rfl)
  ·have hc':¬(u:Int)<10:=by omega
   have hd:=ih (u / 10) (by omega) (by omega)
   have hl:=dec_le (u / 10) 19 (by decide) (by omega)
   rw [dd_eq u (by omega)]
   refine AC.enter Tryz.func76 rfl (by kernel_rfl) 35 rfl [.tmp 2] rfl (by simp) fun hsc B=> ?_
   repeat first|with_reducible refine kc ?_|((with_reducible first|refine kr ?_ ?_|refine kt ?_ ?_);exact rfl)|((with_reducible refine kf ?_ ?_);exact rfl)|with_reducible refine (hd _).use ?_|simp only [go_sem,sevalprocAttr,reduceCtorEq,hneg,q,r,hc',e8]|simp (disch:=omega) only [wz]|with_reducible_and_instances exact finR|((with_reducible refine finR' ?_ ?_)<;> rfl)|((with_reducible refine finD hsc (NRel.of_plain ?_));exact rfl)
   refine ⟨by omega,?_⟩
   repeat first|with_reducible refine kc ?_|((with_reducible first|refine kr ?_ ?_|refine kt ?_ ?_);exact rfl)|((with_reducible refine kf ?_ ?_);exact rfl)|simp only [go_sem,sevalprocAttr,reduceCtorEq]|simp (disch:=omega) only [wz]|with_reducible_and_instances exact finR|((with_reducible refine finR' ?_ ?_)<;> rfl)|((with_reducible refine finD hsc (NRel.of_plain ?_));exact rfl)
theorem rDecimalN (u:Nat) (h0:0<u) (hu:u≤9223372036854775808):∀H:AHeap,ARet Tryz.prog 76 [.int .i64 (-(u:Nat))] H (.string (bs (45::Lib.decDigits u))) H:=by
 induction u using Nat.strongRecOn with
 | _ u ih=>
  intro H
  obtain ⟨x,hx⟩:∃x:Int,x= -(u:Int):=⟨_,rfl⟩
  have hneg:x<0:=by omega
  have hq:Int.tdiv x 10= -((u / 10:Nat):Int):=by rw [hx,Int.neg_tdiv,Int.tdiv_eq_ediv_of_nonneg (by omega)];omega
  have hr:Int.tmod x 10= -((u%10:Nat):Int):=by rw [hx,Int.neg_tmod,Int.tmod_eq_emod_of_nonneg (by omega)];omega
  rw [← hx]
  by_cases hc:u<10
  ·have hz:Int.tdiv x 10=0:=by rw [hq];omega
   have hd:=rDecimal u (by omega) H
   have hw:IntKind.i64.wrap (0 - x)=(u:Int):=by rw [wi64 (by omega)];omega
   have hcat:bs [45]++bs (Lib.decDigits u)=bs (45::Lib.decDigits u):=by rw [bs_append];rfl
   have hl:=dec_le u 19 (by decide) (by omega)
   refine AC.enter Tryz.func76 rfl (by kernel_rfl) 35 rfl [.tmp 2] rfl (by simp) fun hsc B=> ?_
   repeat first|with_reducible refine kc ?_|((with_reducible first|refine kr ?_ ?_|refine kt ?_ ?_);exact rfl)|((with_reducible refine kf ?_ ?_);exact rfl)|with_reducible refine hd.use ?_|simp only [go_sem,sevalprocAttr,reduceCtorEq,hneg,hz,hw,hcat]|simp (disch:=omega) only [wz]|with_reducible_and_instances exact finR|((with_reducible refine finR' ?_ ?_)<;> rfl)|((with_reducible refine finD hsc (NRel.of_plain ?_));exact rfl)
   refine ⟨by first|omega|(simp;omega),?_⟩
   repeat first|with_reducible refine kc ?_|((with_reducible first|refine kr ?_ ?_|refine kt ?_ ?_);exact rfl)|((with_reducible refine kf ?_ ?_);exact rfl)|simp only [go_sem,sevalprocAttr,reduceCtorEq,hcat]|simp (disch:=omega) only [wz]|with_reducible_and_instances exact finR|((with_reducible refine finR' ?_ ?_)<;> rfl)|((with_reducible refine finD hsc (NRel.of_plain ?_));exact rfl)
  ·obtain ⟨y,hy⟩:∃y:Int,y= -((u / 10:Nat):Int):=⟨_,rfl⟩
   obtain ⟨z,hz⟩:∃z:Int,z= -((u%10:Nat):Int):=⟨_,rfl⟩
   have hd:=ih (u / 10) (by omega) (by omega) (by omega) H
   have hd2:=rDecimal (u%10) (by omega) H
   rw [← hy] at hd hq
   rw [← hz] at hr
   have hy0:(y==0)=false:=by simp;omega
   have hw:IntKind.i64.wrap (0 - z)=((u%10:Nat):Int):=by rw [wi64 (by omega)];omega
   have hl:=dec_le (u / 10) 19 (by decide) (by omega)
   have hl2:=dec_le (u%10) 19 (by decide) (by omega)
   have hdd:Lib.decDigits (u / 10)++Lib.decDigits (u%10)=Lib.decDigits u:=by
    rw [dd_eq u (by omega),dd_lt (u%10) (by omega)]
   have hcat:bs (45::Lib.decDigits (u / 10))++bs (Lib.decDigits (u%10))=bs (45::Lib.decDigits u):=by
    rw [bs_append,List.cons_append,hdd]
   refine AC.enter Tryz.func76 rfl (by kernel_rfl) 35 rfl [.tmp 2] rfl (by simp) fun hsc B=> ?_
   repeat first|with_reducible refine kc ?_|((with_reducible first|refine kr ?_ ?_|refine kt ?_ ?_);exact rfl)|((with_reducible refine kf ?_ ?_);exact rfl)|with_reducible (first|refine hd.use ?_|refine hd2.use ?_)|simp only [go_sem,sevalprocAttr,reduceCtorEq,hneg,hq,hr,hy0,hw,hcat]|simp (disch:=omega) only [wz]|with_reducible_and_instances exact finR|((with_reducible refine finR' ?_ ?_)<;> rfl)|((with_reducible refine finD hsc (NRel.of_plain ?_));exact rfl)
   refine ⟨by first|omega|(simp;omega),?_⟩
   repeat first|with_reducible refine kc ?_|((with_reducible first|refine kr ?_ ?_|refine kt ?_ ?_);exact rfl)|((with_reducible refine kf ?_ ?_);exact rfl)|simp only [go_sem,sevalprocAttr,reduceCtorEq,hcat,hdd]|simp (disch:=omega) only [wz]|with_reducible_and_instances exact finR|((with_reducible refine finR' ?_ ?_)<;> rfl)|((with_reducible refine finD hsc (NRel.of_plain ?_));exact rfl)
theorem rDec (n:Int) (h0: -9223372036854775808≤n) (h1:n≤9223372036854775807) (H:AHeap):ARet Tryz.prog 76 [.int .i64 n] H (.string (bs (Lib.itoa n))) H:=by
 by_cases h:n<0
 ·have:=rDecimalN n.natAbs (by omega) (by omega) H
  rw [show -((n.natAbs:Nat):Int)=n by omega] at this
  unfold Lib.itoa
  rw [if_pos h]
  exact this
 ·have:=rDecimal n.toNat (by omega) H
  rw [show ((n.toNat:Nat):Int)=n by omega] at this
  unfold Lib.itoa
  rw [if_neg h]
  exact this
theorem rText2 (t:List UInt8) (ht:t.length≤1099511627776) (H:AHeap):ARet Tryz.prog 77 [.string (bs t)] H (.string (bs (BV.wText t))) H:=by
 have hD:=rDec (t.length:Nat) (by omega) (by omega) H
 have hl:=itoa_le (t.length:Nat) (by omega) (by omega)
 have hcat:bs (Lib.itoa (t.length:Nat))++bs [58]=bs (Lib.itoa (t.length:Nat)++[58]):=bs_append _ _
 have hcat2:bs (Lib.itoa (t.length:Nat)++[58])++bs t=bs (BV.wText t):=by rw [bs_append];unfold BV.wText;simp
 refine AC.enter Tryz.func77 rfl (by kernel_rfl) 9 rfl [.tmp 2] rfl (by simp) fun hsc B=> ?_
 repeat first|with_reducible refine kc ?_|((with_reducible first|refine kr ?_ ?_|refine kt ?_ ?_);exact rfl)|((with_reducible refine kf ?_ ?_);exact rfl)|with_reducible refine hD.use ?_|simp only [go_sem,sevalprocAttr,reduceCtorEq,hcat,hcat2]|simp (disch:=omega) only [wz]|with_reducible_and_instances exact finR|((with_reducible refine finR' ?_ ?_)<;> rfl)|((with_reducible refine finD hsc (NRel.of_plain ?_));exact rfl)
 refine ⟨by first|omega|(simp;omega),?_⟩
 repeat first|with_reducible refine kc ?_|((with_reducible first|refine kr ?_ ?_|refine kt ?_ ?_);exact rfl)|((with_reducible refine kf ?_ ?_);exact rfl)|simp only [go_sem,sevalprocAttr,reduceCtorEq,hcat,hcat2]|simp (disch:=omega) only [wz]|with_reducible_and_instances exact finR|((with_reducible refine finR' ?_ ?_)<;> rfl)|((with_reducible refine finD hsc (NRel.of_plain ?_));exact rfl)
 refine ⟨by first|omega|(simp;omega),?_⟩
 repeat first|with_reducible refine kc ?_|((with_reducible first|refine kr ?_ ?_|refine kt ?_ ?_);exact rfl)|((with_reducible refine kf ?_ ?_);exact rfl)|simp only [go_sem,sevalprocAttr,reduceCtorEq,hcat,hcat2]|simp (disch:=omega) only [wz]|with_reducible_and_instances exact finR|((with_reducible refine finR' ?_ ?_)<;> rfl)|((with_reducible refine finD hsc (NRel.of_plain ?_));exact rfl)
def WriQ (v:BV):Prop:=∀(H:AHeap) (cs:List Value),RdV H v cs→v.write.length≤1099511627776→AC Tryz.prog 61 [.agg ⟨cs⟩] H (fun r H2=>r= .ret (.string (bs v.write))∧Frm [] H H2)
structure WLq where
 i:Nat
 Hc:AHeap
theorem rW12 (k n:Int) (s:List UInt8) (kids:List BV) (keys:List (List UInt8)) (hk:k=1∨k=2) (h0: -9223372036854775808≤n) (h1:n≤9223372036854775807):WriQ (.mk k n s kids keys):=by
 intro H cs hR hl
 have hfl:=RdV_flat hR
 have hr5:=hR.len
 unfold RdV at hR
 obtain ⟨vk,vs,css,rfl,p1,hL,p3⟩:=hR
 obtain ⟨H1,hH1⟩:∃H1:AHeap,H1=H++ [.cells [.int .i64 k,.int .i64 n,.string (bs s),vk,vs] ⟨27,0,true,0,none⟩]:=⟨_,rfl⟩
 have hb1:H1[H.length]? =some (.cells [.int .i64 k,.int .i64 n,.string (bs s),vk,vs] ⟨27,0,true,0,none⟩):=by rw [hH1,hget0 rfl];rfl
 have hf1:Frm [] H H1:=by rw [hH1];exact Frm.app
 rcases hk with rfl|rfl
 ·have hw:(BV.mk 1 n s kids keys).write=105::(Lib.itoa n++[101]):=by unfold BV.write;rw [if_pos rfl]
  rw [hw]
  have hD:=rDec n h0 h1 H1
  have hil:=itoa_le n h0 h1
  have hcat:bs [105]++bs (Lib.itoa n)=bs (105::Lib.itoa n):=by rw [bs_append];rfl
  have hcat2:bs (105::Lib.itoa n)++bs [101]=bs (105::(Lib.itoa n++[101])):=by rw [bs_append];rfl
  refine AC.enter Tryz.func61 rfl (by kernel_rfl) 61 rfl [.tmp 2] rfl (by simp) fun hsc B=> ?_
  repeat first|with_reducible refine kc ?_|((with_reducible first|refine kr ?_ ?_|refine kt ?_ ?_);exact rfl)|((with_reducible refine kf ?_ ?_);exact rfl)|simp only [go_sem,sevalprocAttr,reduceCtorEq,hfl,hr5]|simp (disch:=omega) only [wz]
  rw [← hH1]
  repeat first|with_reducible refine kc ?_|((with_reducible first|refine kr ?_ ?_|refine kt ?_ ?_);exact rfl)|((with_reducible refine kf ?_ ?_);exact rfl)|with_reducible refine hD.use ?_|simp only [go_sem,sevalprocAttr,reduceCtorEq,hb1,hcat,hcat2]|simp (disch:=omega) only [wz]
  refine ⟨by first|omega|(simp;omega),?_⟩
  repeat first|with_reducible refine kc ?_|((with_reducible first|refine kr ?_ ?_|refine kt ?_ ?_);exact rfl)|((with_reducible refine kf ?_ ?_);exact rfl)|simp only [go_sem,sevalprocAttr,reduceCtorEq,hcat,hcat2]|simp (disch:=omega) only [wz]
  refine ⟨by first|omega|(simp;omega),?_⟩
  repeat first|with_reducible refine kc ?_|((with_reducible first|refine kr ?_ ?_|refine kt ?_ ?_);exact rfl)|((with_reducible refine kf ?_ ?_);exact rfl)|simp only [go_sem,sevalprocAttr,reduceCtorEq,hcat,hcat2]|simp (disch:=omega) only [wz]
  exact ⟨_,_,.refl _ _ _,rfl,hf1⟩
 ·have hw:(BV.mk 2 n s kids keys).write=BV.wText s:=by unfold BV.write;rw [if_neg (by decide),if_pos rfl]
  rw [hw] at hl ⊢
  have hwl:=wText_len s
  have hT:=rText2 s (by omega) H1
  refine AC.enter Tryz.func61 rfl (by kernel_rfl) 61 rfl [.tmp 2] rfl (by simp) fun hsc B=> ?_
  repeat first|with_reducible refine kc ?_|((with_reducible first|refine kr ?_ ?_|refine kt ?_ ?_);exact rfl)|((with_reducible refine kf ?_ ?_);exact rfl)|simp only [go_sem,sevalprocAttr,reduceCtorEq,hfl,hr5]|simp (disch:=omega) only [wz]
  rw [← hH1]
  repeat first|with_reducible refine kc ?_|((with_reducible first|refine kr ?_ ?_|refine kt ?_ ?_);exact rfl)|((with_reducible refine kf ?_ ?_);exact rfl)|with_reducible refine hT.use ?_|simp only [go_sem,sevalprocAttr,reduceCtorEq,hb1]|simp (disch:=omega) only [wz]
  exact ⟨_,_,.refl _ _ _,rfl,hf1⟩
theorem rW3 (n:Int) (s:List UInt8) (kids:List BV) (keys:List (List UInt8)) (ih:∀c∈kids,WriQ c):WriQ (.mk 3 n s kids keys):=by
 intro H cs hR hl
 have hw:(BV.mk 3 n s kids keys).write=108::(BV.writeL kids++[101]):=by unfold BV.write;rw [if_neg (by decide),if_neg (by decide),if_pos rfl]
 rw [hw] at hl ⊢
 have hl':(BV.writeL kids).length+2≤1099511627776:=by simp at hl;omega
 have hge:=writeL_ge kids
 have hfl:=RdV_flat hR
 have hr5:=hR.len
 unfold RdV at hR
 obtain ⟨vk,vs,css,rfl,p1,hL,p3⟩:=hR
 obtain ⟨H1,hH1⟩:∃H1:AHeap,H1=H++ [.cells [.int .i64 3,.int .i64 n,.string (bs s),vk,vs] ⟨27,0,true,0,none⟩]:=⟨_,rfl⟩
 have hb1:H1[H.length]? =some (.cells [.int .i64 3,.int .i64 n,.string (bs s),vk,vs] ⟨27,0,true,0,none⟩):=by rw [hH1,hget0 rfl];rfl
 have hf1:Frm [] H H1:=by rw [hH1];exact Frm.app
 have hcl:=hL.len
 have q1:∀H' K,lenW Tryz.prog 23 vk H' K=K (.int .i64 (kids.length:Nat)) H':=fun H' K=>by rw [p1.lenT (by simp only [go_sem,sevalprocAttr,reduceCtorEq]),hcl]
 refine AC.enter Tryz.func61 rfl (by kernel_rfl) 61 rfl [.tmp 2] rfl (by simp) fun hsc B=> ?_
 repeat first|with_reducible refine kc ?_|((with_reducible first|refine kr ?_ ?_|refine kt ?_ ?_);exact rfl)|((with_reducible refine kf ?_ ?_);exact rfl)|simp only [go_sem,sevalprocAttr,reduceCtorEq,hfl,hr5]|simp (disch:=omega) only [wz]
 rw [← hH1]
 repeat first|with_reducible refine kc ?_|((with_reducible first|refine kr ?_ ?_|refine kt ?_ ?_);exact rfl)|((with_reducible refine kf ?_ ?_);exact rfl)|simp only [go_sem,sevalprocAttr,reduceCtorEq,hb1,q1]|simp (disch:=omega) only [wz]
 refine AWP.loopP (fun p:WLq=>⟨[(1,.pointer (some ⟨H.length,0,none⟩)),(3,.string (bs (108::BV.writeL (kids.take p.i)))),(26,vk),(27,.int .i64 (kids.length:Nat)),(28,.int .i64 (p.i:Nat))],[],p.Hc⟩)
  (fun p=>p.i≤kids.length∧Frm [] H1 p.Hc) (fun p=>kids.length - p.i) ⟨0,H1⟩ ?_ ⟨Nat.zero_le _,Frm.refl _ _⟩ ?_
 ·exact Weak.env (by simp [envIn,lk_cons,wth_some,BV.writeL])
 rintro ⟨i,Hc⟩ ⟨hi,hf⟩
 dsimp only at hi hf ⊢
 have hf0:Frm [] H Hc:=hf1.trans hf (fun x hx=>by cases hx)
 have hkc:Kept H Hc:=Kept.frm hf0 (fun x hx=>by cases hx)
 by_cases hlt:i<kids.length
 ·have hlt':(i:Int)<(kids.length:Int):=by omega
  obtain ⟨r,hr,hRv⟩:=(hL.kept hkc).at_ (List.getElem?_eq_getElem hlt)
  obtain ⟨bi,off,cap,cs',k',rfl,hcap,hbi,hown,hesz,hle,htk⟩:=(p1.kept hkc).at_ hr
  have hlt2:(i:Int)<(css.length:Int):=by omega
  have hr55:=hRv.len
  have hfl5:=RdV_flat hRv
  have htk5:List.take 5 r=r:=List.take_of_length_le (by omega)
  have hput:=box_put0 r hr55
  have hwi:IntKind.i64.wrap ((i:Int)+1)=((i+1:Nat):Int):=by rw [wi64 (by omega)];omega
  have hsn:=writeL_snoc kids i hlt
  have hsl:=congrArg List.length hsn
  have hst:=writeL_take kids (i+1)
  rw [List.length_append] at hsl
  have hcall:=ih kids[i] (List.getElem_mem hlt) (Hc++ [.cells r ⟨27,0,true,0,none⟩]) r (hRv.kept (.more _ _)) (by omega)
  obtain ⟨acc,hacc⟩:∃acc,acc=108::BV.writeL (kids.take i):=⟨_,rfl⟩
  have hcat0:acc++kids[i].write=108::BV.writeL (kids.take (i+1)):=by rw [hacc,hsn,List.cons_append]
  have hcat:bs acc++bs kids[i].write=bs (108::BV.writeL (kids.take (i+1))):=by rw [bs_append,hcat0]
  have hal:acc.length+kids[i].write.length≤9223372036854775807:=by rw [hacc,List.length_cons];omega
  rw [← hacc]
  generalize kids[i]=v at*
  repeat first|with_reducible refine kc ?_|((with_reducible first|refine kr ?_ ?_|refine kt ?_ ?_);exact rfl)|((with_reducible refine kf ?_ ?_);exact rfl)|simp only [go_sem,sevalprocAttr,reduceCtorEq,hlt',hlt2,hbi,hle,htk,hr55,hfl5,htk5,hput]|simp (disch:=omega) only [wz]
  refine AC.mono hcall ?_
  rintro res H5 ⟨rfl,hf5⟩
  repeat first|with_reducible refine kc ?_|((with_reducible first|refine kr ?_ ?_|refine kt ?_ ?_);exact rfl)|((with_reducible refine kf ?_ ?_);exact rfl)|simp only [go_sem,sevalprocAttr,reduceCtorEq,hcat,hwi]|simp (disch:=omega) only [wz]
  refine ⟨hal,?_⟩
  repeat first|with_reducible refine kc ?_|((with_reducible first|refine kr ?_ ?_|refine kt ?_ ?_);exact rfl)|((with_reducible refine kf ?_ ?_);exact rfl)|simp only [go_sem,sevalprocAttr,reduceCtorEq,hcat,hwi]|simp (disch:=omega) only [wz]
  exact ⟨⟨i+1,H5⟩,Weak.env (by simp [envIn,lk_cons,wth_some,hcat0]),hlt,hf.more.trans hf5 (fun x hx=>by cases hx),by dsimp only;omega⟩
 ·have hlt':¬(i:Int)<(kids.length:Int):=by omega
  have hie:kids.take i=kids:=List.take_of_length_le (by omega)
  have hcat:bs (108::BV.writeL kids)++bs [101]=bs (108::(BV.writeL kids++[101])):=by rw [bs_append];rfl
  rw [hie]
  repeat first|with_reducible refine kc ?_|((with_reducible first|refine kr ?_ ?_|refine kt ?_ ?_);exact rfl)|((with_reducible refine kf ?_ ?_);exact rfl)|simp only [go_sem,sevalprocAttr,reduceCtorEq,hlt',hcat]|simp (disch:=omega) only [wz]
  refine ⟨by first|omega|(simp;omega),?_⟩
  repeat first|with_reducible refine kc ?_|((with_reducible first|refine kr ?_ ?_|refine kt ?_ ?_);exact rfl)|((with_reducible refine kf ?_ ?_);exact rfl)|simp only [go_sem,sevalprocAttr,reduceCtorEq,hcat]|simp (disch:=omega) only [wz]
  exact ⟨_,_,.refl _ _ _,rfl,hf0⟩
theorem rW4 (n:Int) (s:List UInt8) (kids:List BV) (keys:List (List UInt8)) (hkl:keys.length=kids.length) (ih:∀c∈kids,WriQ c):WriQ (.mk 4 n s kids keys):=by
 intro H cs hR hl
 have hw:(BV.mk 4 n s kids keys).write=100::(BV.writeD keys kids++[101]):=by unfold BV.write;rw [if_neg (by decide),if_neg (by decide),if_neg (by decide)]
 rw [hw] at hl ⊢
 have hl':(BV.writeD keys kids).length+2≤1099511627776:=by simp at hl;omega
 have hge:=writeD_ge keys kids hkl
 have hfl:=RdV_flat hR
 have hr5:=hR.len
 unfold RdV at hR
 obtain ⟨vk,vs,css,rfl,p1,hL,p3⟩:=hR
 obtain ⟨H1,hH1⟩:∃H1:AHeap,H1=H++ [.cells [.int .i64 4,.int .i64 n,.string (bs s),vk,vs] ⟨27,0,true,0,none⟩]:=⟨_,rfl⟩
 have hb1:H1[H.length]? =some (.cells [.int .i64 4,.int .i64 n,.string (bs s),vk,vs] ⟨27,0,true,0,none⟩):=by rw [hH1,hget0 rfl];rfl
 have hf1:Frm [] H H1:=by rw [hH1];exact Frm.app
 have hcl:=hL.len
 have hkc0:(keyC keys).length=keys.length:=by unfold keyC;simp
 have q1:∀H' K,lenW Tryz.prog 23 vk H' K=K (.int .i64 (kids.length:Nat)) H':=fun H' K=>by rw [p1.lenT (by simp only [go_sem,sevalprocAttr,reduceCtorEq]),hcl]
 refine AC.enter Tryz.func61 rfl (by kernel_rfl) 61 rfl [.tmp 2] rfl (by simp) fun hsc B=> ?_
 repeat first|with_reducible refine kc ?_|((with_reducible first|refine kr ?_ ?_|refine kt ?_ ?_);exact rfl)|((with_reducible refine kf ?_ ?_);exact rfl)|simp only [go_sem,sevalprocAttr,reduceCtorEq,hfl,hr5]|simp (disch:=omega) only [wz]
 rw [← hH1]
 repeat first|with_reducible refine kc ?_|((with_reducible first|refine kr ?_ ?_|refine kt ?_ ?_);exact rfl)|((with_reducible refine kf ?_ ?_);exact rfl)|simp only [go_sem,sevalprocAttr,reduceCtorEq,hb1,q1]|simp (disch:=omega) only [wz]
 refine AWP.loopP (fun p:WLq=>⟨[(1,.pointer (some ⟨H.length,0,none⟩)),(6,.string (bs (100::BV.writeD (keys.take p.i) (kids.take p.i)))),(40,vk),(41,.int .i64 (kids.length:Nat)),(42,.int .i64 (p.i:Nat))],[],p.Hc⟩)
  (fun p=>p.i≤kids.length∧Frm [] H1 p.Hc) (fun p=>kids.length - p.i) ⟨0,H1⟩ ?_ ⟨Nat.zero_le _,Frm.refl _ _⟩ ?_
 ·exact Weak.env (by simp [envIn,lk_cons,wth_some,BV.writeD])
 rintro ⟨i,Hc⟩ ⟨hi,hf⟩
 dsimp only at hi hf ⊢
 have hf0:Frm [] H Hc:=hf1.trans hf (fun x hx=>by cases hx)
 have hkc:Kept H Hc:=Kept.frm hf0 (fun x hx=>by cases hx)
 have hbc:=hf.get hb1 (by simp)
 by_cases hlt:i<kids.length
 ·have hlt':(i:Int)<(kids.length:Int):=by omega
  have hki:i<keys.length:=by omega
  obtain ⟨r,hr,hRv⟩:=(hL.kept hkc).at_ (List.getElem?_eq_getElem hlt)
  obtain ⟨bi,off,cap,cs',k',rfl,hcap,hbi,hown,hesz,hle,htk⟩:=(p1.kept hkc).at_ hr
  obtain ⟨bi2,off2,cap2,cs2,k2,rfl,hcap2,hbi2,hown2,hesz2,hle2,htk2⟩:=(p3.kept hkc).at_ (keyC_at hki)
  have hlt2:(i:Int)<(css.length:Int):=by omega
  have hlt3:(i:Int)<((keyC keys).length:Int):=by omega
  have hi0:(0:Int)≤(i:Int):=Int.natCast_nonneg _
  have hr55:=hRv.len
  have hfl5:=RdV_flat hRv
  have htk5:List.take 5 r=r:=List.take_of_length_le (by omega)
  have hput:=box_put0 r hr55
  have hwi:IntKind.i64.wrap ((i:Int)+1)=((i+1:Nat):Int):=by rw [wi64 (by omega)];omega
  have hsn:=writeD_snoc keys kids hkl i hlt hki
  have hsl:=congrArg List.length hsn
  have hst:=writeD_take keys kids (i+1)
  rw [List.length_append,List.length_append] at hsl
  obtain ⟨H2,hH2⟩:∃H2:AHeap,H2=Hc++ [.cells r ⟨27,0,true,0,none⟩]:=⟨_,rfl⟩
  have hf2:Frm [] Hc H2:=by rw [hH2];exact Frm.app
  have hbx2:=hf2.get hbc (by simp)
  have hby2:H2[Hc.length]? =some (.cells r ⟨27,0,true,0,none⟩):=by rw [hH2,hget0 rfl];rfl
  have hbk2:=hf2.get hbi2 (by simp)
  have hcall:=ih kids[i] (List.getElem_mem hlt) H2 r (by rw [hH2];exact hRv.kept (.more _ _)) (by omega)
  have hwt:=wText_len keys[i]
  have hT:=rText2 keys[i] (by omega) H2
  obtain ⟨acc,hacc⟩:∃acc,acc=100::BV.writeD (keys.take i) (kids.take i):=⟨_,rfl⟩
  obtain ⟨nx,hnx⟩:∃nx,nx=BV.wText keys[i]++kids[i].write:=⟨_,rfl⟩
  have hcat0:bs (BV.wText keys[i])++bs kids[i].write=bs nx:=by rw [bs_append,hnx]
  have hnxl:nx.length=(BV.wText keys[i]).length+kids[i].write.length:=by rw [hnx,List.length_append]
  have hcat1:acc++nx=100::BV.writeD (keys.take (i+1)) (kids.take (i+1)):=by rw [hacc,hsn,hnx,List.cons_append]
  have hcat:bs acc++bs nx=bs (100::BV.writeD (keys.take (i+1)) (kids.take (i+1))):=by rw [bs_append,hcat1]
  have hal0:(BV.wText keys[i]).length+kids[i].write.length≤9223372036854775807:=by omega
  have hal:acc.length+nx.length≤9223372036854775807:=by rw [hacc,List.length_cons];omega
  rw [← hacc]
  generalize kids[i]=v at*
  generalize keys[i]=ky at*
  have hat2:cs2[off2+i]? =some (.string (bs ky)):=by
   have h1:=congrArg (fun l=>l[0]?) htk2
   simpa using h1
  have hal2:acc.length+((BV.wText ky).length+v.write.length)≤9223372036854775807:=by omega
  have hcat2:acc++(BV.wText ky++v.write)=100::BV.writeD (keys.take (i+1)) (kids.take (i+1)):=by rw [← hnx];exact hcat1
  repeat first|with_reducible refine kc ?_|((with_reducible first|refine kr ?_ ?_|refine kt ?_ ?_);exact rfl)|((with_reducible refine kf ?_ ?_);exact rfl)|simp only [go_sem,sevalprocAttr,reduceCtorEq,hlt',hlt2,hbi,hle,htk,hr55,hfl5,htk5,hput]|simp (disch:=omega) only [wz]
  rw [← hH2]
  refine AWP.regionMP 10 [2,5,6,7,8] [(2,.slice (some ⟨bi2,off2,none⟩) (keyC keys).length cap2),(6,.string (bs (BV.wText ky))),(8,.string (bs v.write))] (.both (.step 2 (.both (.step 5 (.both (.run [6,7,8]) (.run [7,6,8]))) (.run [7,5,6,8]))) (.run [7,2,5,6,8])) (by kernel_rfl) (by decide) (by kernel_rfl) (by kernel_rfl) (by kernel_rfl) ?_
  repeat' first|with_reducible refine canW_n ?_|with_reducible refine canW_m (by decide) ?_|((with_reducible apply canW_p (by decide));focus (intro H;(simp only [go_sem,sevalprocAttr,reduceCtorEq,hbx2,hby2,hbk2,hat2,hi0,hlt3,hr55,htk5,hcat0,hal0,List.map_cons,List.map_nil]);exact rfl))|with_reducible refine memW_bP ?_ ?_|with_reducible refine memW_sP rfl ?_|with_reducible refine memW_rP rfl ?_|with_reducible refine memW_eP ?_|simp only [List.take_succ_cons,List.take_zero,List.drop_succ_cons,List.drop_zero]|omega|with_reducible refine And.intro ?_ ?_|with_reducible refine kc ?_|((with_reducible first|refine kr ?_ ?_|refine kt ?_ ?_);exact rfl)|((with_reducible refine kf ?_ ?_);exact rfl)|with_reducible refine hT.use ?_|simp only [go_sem,sevalprocAttr,reduceCtorEq,hbx2,hby2,hbk2,hat2,hi0,hlt3,hr55,htk5,hcat0,hal0,List.map_cons,List.map_nil]|simp (disch:=omega) only [wz]
  all_goals
   refine AC.mono hcall ?_
   rintro res H5 ⟨rfl,hf5⟩
   have hf25:Frm [] H1 H5:=(hf.trans hf2 (fun x hx=>by cases hx)).trans hf5 (fun x hx=>by cases hx)
   repeat' first|with_reducible refine canW_n ?_|with_reducible refine canW_m (by decide) ?_|((with_reducible apply canW_p (by decide));focus (intro H;(simp only [go_sem,sevalprocAttr,reduceCtorEq,hal2,hcat2,List.map_cons,List.map_nil]);exact rfl))|with_reducible refine memW_bP ?_ ?_|with_reducible refine memW_sP rfl ?_|with_reducible refine memW_rP rfl ?_|with_reducible refine memW_eP ?_|simp only [List.take_succ_cons,List.take_zero,List.drop_succ_cons,List.drop_zero]|omega|with_reducible refine And.intro ?_ ?_|with_reducible refine kc ?_|((with_reducible first|refine kr ?_ ?_|refine kt ?_ ?_);exact rfl)|((with_reducible refine kf ?_ ?_);exact rfl)|simp only [go_sem,sevalprocAttr,reduceCtorEq,hal2,hcat2,List.map_cons,List.map_nil]|simp (disch:=omega) only [wz]
   all_goals
    exact ⟨⟨i+1,H5⟩,Weak.env (by simp [envIn,lk_cons,wth_some,hcat2]),hlt,hf25,by dsimp only;omega⟩
 ·have hlt':¬(i:Int)<(kids.length:Int):=by omega
  have hie:kids.take i=kids:=List.take_of_length_le (by omega)
  have hie2:keys.take i=keys:=List.take_of_length_le (by omega)
  have hcat:bs (100::BV.writeD keys kids)++bs [101]=bs (100::(BV.writeD keys kids++[101])):=by rw [bs_append];rfl
  rw [hie,hie2]
  repeat first|with_reducible refine kc ?_|((with_reducible first|refine kr ?_ ?_|refine kt ?_ ?_);exact rfl)|((with_reducible refine kf ?_ ?_);exact rfl)|simp only [go_sem,sevalprocAttr,reduceCtorEq,hlt',hcat]|simp (disch:=omega) only [wz]
  refine ⟨by first|omega|(simp;omega),?_⟩
  repeat first|with_reducible refine kc ?_|((with_reducible first|refine kr ?_ ?_|refine kt ?_ ?_);exact rfl)|((with_reducible refine kf ?_ ?_);exact rfl)|simp only [go_sem,sevalprocAttr,reduceCtorEq,hcat]|simp (disch:=omega) only [wz]
  exact ⟨_,_,.refl _ _ _,rfl,hf0⟩
theorem rWrite (v:BV):v.form=true→v.nums→WriQ v:=by
 refine BV.ind (P:=fun v=>v.form=true→v.nums→WriQ v) (fun k n s kids keys ih hf hn=> ?_) v
 have hkd:=form_kind hf
 have hf0:=hf
 rw [form_shape,Bool.and_eq_true] at hf
 unfold BV.nums at hn
 have ih':∀c∈kids,WriQ c:=fun c hc=>ih c hc (BV.formL_iff.1 hf.2 c hc) (BV.numsL_iff.1 hn.2 c hc)
 dsimp only [BV.kind] at hkd
 rcases hkd with rfl|rfl|rfl|rfl
 ·exact rW12 1 n s kids keys (.inl rfl) hn.1.1 hn.1.2
 ·exact rW12 2 n s kids keys (.inr rfl) hn.1.1 hn.1.2
 ·exact rW3 n s kids keys ih'
 ·refine rW4 n s kids keys ?_ ih'
  have h1:=hf.1
  unfold shapeB at h1
  dsimp only at h1
  rw [if_neg (by decide),if_neg (by decide),if_neg (by decide),if_pos rfl] at h1
  unfold dictB at h1
  simp only [Bool.and_eq_true,beq_iff_eq] at h1
  exact h1.1.1.2
end Go.Proofs.YthcdjconlfdidaaGreatDoor
