/-
  A part of the proof of a statement of this seat.
-/
import Derived.Test.YthcdjconlfdidaaGreatDoorD7M
import Derived.Shelf.Strconv.Itoa4
import Derived.Shelf.Strings.Repeat
import Derived.Ground.NamesProg
import Derived.Test.YthcdjconlfdidaaGreatDoorChecked
import Derived.Test.YthcdjconlfdidaaGreatDoorAwB
import Derived.Lib.AppendIntMem
import Derived.Lib.ItoaLen
set_option linter.unusedVariables false
set_option linter.unusedSimpArgs false
set_option maxHeartbeats 4000000
set_option maxRecDepth 20000
namespace Go.Proofs.YthcdjconlfdidaaGreatDoor
open Go Go.Aw Go.Proofs
def ParseP (H:AHeap) (R:BV×Int) (res:ARes) (H1:AHeap):Prop:=
 ∃cs,res= .ret (.tuple ⟨[.agg ⟨cs⟩,.int .i64 R.2]⟩)∧Frm [] H H1∧RdV H1 R.1 cs
theorem parse (s:List UInt8) (H:AHeap):AC Tryz.prog 27 [.string (bs s)] H (ParseP H (parseR s)):=by
 have hR:parseR s=if (readR s).2.2.2≠0 then (.zero,(readR s).2.2.2) else if (readR s).2.1<s.length then (.zero,2) else ((readR s).1,0):=rfl
 rw [hR]
 generalize hr:readR s=R
 obtain ⟨v,u,b,e⟩:=R
 dsimp only
 obtain ⟨H1,hH1⟩:∃H1:AHeap,H1=H++ [.cells [.int .i64 0,.int .i64 0,.string (bs []),.slice none 0 0,.slice none 0 0] ⟨27,0,true,0,none⟩]:=⟨_,rfl⟩
 have hf1:Frm [] H H1:=by rw [hH1];exact Frm.app
 have hl1:H1.length=H.length+1:=by rw [hH1];simp
 have hb1:H1[H.length]? =some (.cells [.int .i64 0,.int .i64 0,.string (bs []),.slice none 0 0,.slice none 0 0] ⟨27,0,true,0,none⟩):=by rw [hH1,hget0 rfl];rfl
 have hX:=read s H1
 rw [hr] at hX
 refine AC.enter Tryz.func27 rfl (by kernel_rfl) 28 rfl [.cell 2 27,.tmp 3] rfl (by simp) fun hsc B=> ?_
 repeat first|with_reducible refine kc ?_|((with_reducible first|refine kr ?_ ?_|refine kt ?_ ?_);exact rfl)|((with_reducible refine kf ?_ ?_);exact rfl)|simp only [go_sem,sevalprocAttr,reduceCtorEq]|simp (disch:=omega) only [wz]
 rw [← hH1]
 refine AC.mono hX ?_
 rintro res H2 ⟨cs,rfl,hf,hRd⟩
 dsimp only at hRd ⊢
 have hb2:=hf.get hb1 (by simp)
 have hf2:=hf1.trans hf (fun x hx=>by cases hx)
 have hl2:=hf.1
 have hc5:=hRd.len
 have hfl:=RdV_flat hRd
 have hput:putCells [.int .i64 0,.int .i64 0,.string (bs []),.slice none 0 0,.slice none 0 0] 0 cs=cs:=by
  match cs,hc5 with
  |[_,_,_,_,_],_=>rfl
 have htk:List.take 5 cs=cs:=List.take_of_length_le (by omega)
 have hgl:∀(l:AHeap),(H2++l)[H.length]? =H2[H.length]? :=fun l=>hgetl (by omega)
 have hsl:∀(l:AHeap) (o:AObj),(H2++l).set H.length o=H2.set H.length o++l:=fun l o=>List.set_append_left _ _ (by omega)
 have hgs:∀(l:AHeap) (o:AObj),(H2.set H.length o++l)[H.length]? =some o:=fun l o=>by rw [hgetl (by rw [List.length_set];omega),List.getElem?_set_self (by omega)]
 have hal:H.length<H2.length:=by omega
 by_cases he:e=0
 ·subst he
  rw [if_neg (by decide)]
  by_cases hu:u<s.length
  ·rw [if_pos hu]
   repeat first|with_reducible refine kc ?_|((with_reducible first|refine kr ?_ ?_|refine kt ?_ ?_);exact rfl)|((with_reducible refine kf ?_ ?_);exact rfl)|simp only [go_sem,sevalprocAttr,reduceCtorEq,hc5,hfl,hput,htk,hu,hb2,hgl,hsl,hgs,hal]|simp (disch:=omega) only [wz]
   exact ⟨_,_,.refl _ _ _,_,rfl,(Frm.set hf2 (.inr (Nat.le_refl _))).trans (Frm.app (S:=[])) (fun x hx=>by cases hx),RdV_zero _⟩
  ·rw [if_neg hu]
   repeat first|with_reducible refine kc ?_|((with_reducible first|refine kr ?_ ?_|refine kt ?_ ?_);exact rfl)|((with_reducible refine kf ?_ ?_);exact rfl)|simp only [go_sem,sevalprocAttr,reduceCtorEq,hc5,hfl,hput,htk,hu,hb2,hgl,hsl,hgs,hal]|simp (disch:=omega) only [wz]
   exact ⟨_,_,.refl _ _ _,_,rfl,(Frm.set hf2 (.inr (Nat.le_refl _))).trans (Frm.app (S:=[])) (fun x hx=>by cases hx),(hRd.kept (Kept.set hb2 rfl _)).kept (Kept.more _ _)⟩
 ·rw [if_pos he]
  have e0:(e==0)=false:=by simpa using he
  have e1:(e != 0)=true:=by simpa using he
  repeat first|with_reducible refine kc ?_|((with_reducible first|refine kr ?_ ?_|refine kt ?_ ?_);exact rfl)|((with_reducible refine kf ?_ ?_);exact rfl)|simp only [go_sem,sevalprocAttr,reduceCtorEq,hc5,hfl,hput,htk,e0,e1,hb2,hgl,hsl,hgs,hal]|simp (disch:=omega) only [wz]
  exact ⟨_,_,.refl _ _ _,_,rfl,(Frm.set hf2 (.inr (Nat.le_refl _))).trans (Frm.app (S:=[])) (fun x hx=>by cases hx),RdV_zero _⟩
end Go.Proofs.YthcdjconlfdidaaGreatDoor

namespace Go.Proofs
open Go.Shelf
def Tryz.laysItoa_ren:Go.Shelf.Ren:=⟨fun|171=>44|243=>67|246=>87|283=>107|284=>108|285=>109|286=>110|129=>116|317=>115|318=>117|319=>118|320=>119|337=>123|338=>124|n=>n,fun|3=>3|9=>9|2=>2|4=>4|171=>117|0=>0|53=>118|37=>91|5=>5|173=>121|212=>129|51=>130|20=>20|213=>131|46=>67|232=>141|233=>142|n=>n,fun|17=>2|18=>3|19=>4|n=>n⟩
theorem Tryz.laysItoa:Go.Proofs.LaysM.n171 Tryz.prog Tryz.laysItoa_ren where
 mixed:=by kernel_rfl
 f129:=Tryz.func116.trans (congrArg some (by kernel_rfl))
 f171:=Tryz.func44.trans (congrArg some (by kernel_rfl))
 f243:=Tryz.func67.trans (congrArg some (by kernel_rfl))
 f246:=Tryz.func87.trans (congrArg some (by kernel_rfl))
 f283:=Tryz.func107.trans (congrArg some (by kernel_rfl))
 f284:=Tryz.func108.trans (congrArg some (by kernel_rfl))
 f285:=Tryz.func109.trans (congrArg some (by kernel_rfl))
 f286:=Tryz.func110.trans (congrArg some (by kernel_rfl))
 f317:=Tryz.func115.trans (congrArg some (by kernel_rfl))
 f318:=Tryz.func117.trans (congrArg some (by kernel_rfl))
 f319:=Tryz.func118.trans (congrArg some (by kernel_rfl))
 f320:=Tryz.func119.trans (congrArg some (by kernel_rfl))
 f337:=Tryz.func123.trans (congrArg some (by kernel_rfl))
 f338:=Tryz.func124.trans (congrArg some (by kernel_rfl))
 t0:=Tryz.underlying0
 a0:=Tryz.isAgg0
 z0:=Tryz.sizeOf0
 v0:=Tryz.zeroValue0
 t2:=Tryz.underlying2
 a2:=Tryz.isAgg2
 z2:=Tryz.sizeOf2
 v2:=Tryz.zeroValue2
 t3:=Tryz.underlying3
 a3:=Tryz.isAgg3
 z3:=Tryz.sizeOf3
 v3:=Tryz.zeroValue3
 t4:=Tryz.underlying4
 a4:=Tryz.isAgg4
 z4:=Tryz.sizeOf4
 v4:=Tryz.zeroValue4
 t5:=Tryz.underlying5
 a5:=Tryz.isAgg5
 z5:=Tryz.sizeOf5
 v5:=Tryz.zeroValue5
 t9:=Tryz.underlying9
 a9:=Tryz.isAgg9
 z9:=Tryz.sizeOf9
 v9:=Tryz.zeroValue9
 t20:=Tryz.underlying20
 a20:=Tryz.isAgg20
 z20:=Tryz.sizeOf20
 v20:=Tryz.zeroValue20
 t37:=Tryz.underlying91
 a37:=Tryz.isAgg91
 z37:=Tryz.sizeOf91
 v37:=Tryz.zeroValue91
 t46:=Tryz.underlying67
 a46:=Tryz.isAgg67
 z46:=Tryz.sizeOf67
 v46:=Tryz.zeroValue67
 t51:=Tryz.underlying130
 a51:=Tryz.isAgg130
 z51:=Tryz.sizeOf130
 v51:=Tryz.zeroValue130
 t53:=Tryz.underlying118
 a53:=Tryz.isAgg118
 z53:=Tryz.sizeOf118
 v53:=Tryz.zeroValue118
 t171:=Tryz.underlying117
 a171:=Tryz.isAgg117
 z171:=Tryz.sizeOf117
 v171:=Tryz.zeroValue117
 t173:=Tryz.underlying121
 a173:=Tryz.isAgg121
 z173:=Tryz.sizeOf121
 v173:=Tryz.zeroValue121
 t212:=Tryz.underlying129
 a212:=Tryz.isAgg129
 z212:=Tryz.sizeOf129
 v212:=Tryz.zeroValue129
 t213:=Tryz.underlying131
 a213:=Tryz.isAgg131
 z213:=Tryz.sizeOf131
 t232:=Tryz.underlying141
 a232:=Tryz.isAgg141
 z232:=Tryz.sizeOf141
 v232:=Tryz.zeroValue141
 t233:=Tryz.underlying142
 a233:=Tryz.isAgg142
 z233:=Tryz.sizeOf142
 v233:=Tryz.zeroValue142
 g17:=by kernel_rfl
 g18:=by kernel_rfl
 g19:=by kernel_rfl
 i0:=by kernel_rfl
 i2:=by kernel_rfl
 i3:=by kernel_rfl
 i4:=by kernel_rfl
 i5:=by kernel_rfl
 i9:=by kernel_rfl
 i20:=by kernel_rfl
 i37:=by kernel_rfl
 i46:=by kernel_rfl
 i51:=by kernel_rfl
 i53:=by kernel_rfl
 i171:=by kernel_rfl
 i173:=by kernel_rfl
 i212:=by kernel_rfl
 i232:=by kernel_rfl
 i233:=by kernel_rfl
 m17:=by kernel_rfl
 m18:=by kernel_rfl
 m19:=by kernel_rfl
def Tryz.laysCheck_ren:Go.Shelf.Ren:=⟨fun|240=>111|276=>120|n=>n,fun|70=>90|72=>93|164=>134|37=>91|n=>n,fun|n=>n⟩
theorem Tryz.laysCheck:Go.Proofs.Lays.n240 Tryz.prog Tryz.laysCheck_ren where
 mixed:=by kernel_rfl
 f240:=Tryz.func111.trans (congrArg some (by kernel_rfl))
 f276:=Tryz.func120.trans (congrArg some (by kernel_rfl))
 t0:=Tryz.underlying0
 a0:=Tryz.isAgg0
 z0:=Tryz.sizeOf0
 v0:=Tryz.zeroValue0
 t4:=Tryz.underlying4
 a4:=Tryz.isAgg4
 z4:=Tryz.sizeOf4
 v4:=Tryz.zeroValue4
 t9:=Tryz.underlying9
 a9:=Tryz.isAgg9
 z9:=Tryz.sizeOf9
 v9:=Tryz.zeroValue9
 t20:=Tryz.underlying20
 a20:=Tryz.isAgg20
 z20:=Tryz.sizeOf20
 v20:=Tryz.zeroValue20
 t70:=Tryz.underlying90
 a70:=Tryz.isAgg90
 z70:=Tryz.sizeOf90
 v70:=Tryz.zeroValue90
 t72:=Tryz.underlying93
 a72:=Tryz.isAgg93
 z72:=Tryz.sizeOf93
 v72:=Tryz.zeroValue93
 t164:=Tryz.underlying134
 a164:=Tryz.isAgg134
 z164:=Tryz.sizeOf134
 v164:=Tryz.zeroValue134
end Go.Proofs

set_option linter.unusedVariables false
set_option linter.unusedSimpArgs false
set_option maxHeartbeats 4000000
set_option maxRecDepth 20000
namespace Go.Proofs.YthcdjconlfdidaaGreatDoor
open Go Go.Aw Go.Proofs
theorem gTab:Tryz.prog.globalNamed "internal/strconv.uint64pow10"=some 2:=by kernel_rfl
def TabH (H:AHeap):Prop:=∃e,H[2]? =some (tabO e 2 .u64 Lib.pow10Tab)
theorem TabH.more {H:AHeap} (h:TabH H) (X:AHeap):TabH (H++X):=by
 obtain ⟨e,h⟩:=h
 exact ⟨e,by rw [hgetl (lt_of_get h)];exact h⟩
theorem TabH.frm {H H1:AHeap} {S:List Nat} (h:TabH H) (hf:Frm S H H1) (h0:¬2∈S):TabH H1:=by
 obtain ⟨e,h⟩:=h
 exact ⟨e,hf.get h h0⟩
theorem Itoa (n:Int) (h0: -9223372036854775808≤n) (h1:n≤9223372036854775807) (H:AHeap) (hT:TabH H):ARet Tryz.prog 44 [.int .i64 n] H (.string (bs (Lib.itoa n))) H:=by
 obtain ⟨e,hT⟩:=hT
 refine ARet.ofCallsT Tryz.func44 rfl (by kernel_rfl) rfl rfl H (fun w=>Lib.TabIs Tryz.prog w "internal/strconv.uint64pow10" .u64 Lib.pow10Tab) (fun c w hh=>tabIs_of_rel hh gTab hT) (fun w hw=> ?_)
 refine (Any.strconv_Itoa Tryz.laysItoa n h0 h1 w hw).mono fun e w' ⟨he,k,os,hw'⟩=>⟨he,?_⟩
 subst hw'
 exact Lib.below_grow _ w (Nat.le_refl _) k os
theorem dec_le:∀(n k:Nat),0<k→n<10 ^ k→(Lib.decDigits n).length≤k
 |n,0,h,_=>by omega
 | n,k+1,_,h=>by
  rw [Lib.decDigits]
  split
  ·simp
  ·have hk:0<k:=by
    rcases Nat.eq_zero_or_pos k with rfl|h'
    ·simp at h;omega
    ·exact h'
   have:=dec_le (n / 10) k hk (by rw [Nat.pow_succ] at h;omega)
   rw [List.length_append,List.length_singleton];omega
theorem itoa_le (n:Int) (h0: -9223372036854775808≤n) (h1:n≤9223372036854775807):(Lib.itoa n).length≤20:=by
 unfold Lib.itoa
 split
 ·have:=dec_le n.natAbs 19 (by omega) (by omega)
  simp;omega
 ·have:=dec_le n.toNat 19 (by omega) (by omega)
  omega
theorem digits (n:Nat) (h1:(n:Int)≤9223372036854775807) (H:AHeap) (hT:TabH H):ARet Tryz.prog 63 [.int .i64 (n:Nat)] H (.int .i64 (((Lib.itoa (n:Nat)).length+1:Nat):Int)) H:=by
 have hI:=Itoa (n:Nat) (by omega) h1 H hT
 have hl:=itoa_le (n:Nat) (by omega) h1
 have hw:IntKind.i64.wrap (((Lib.itoa (n:Nat)).length:Int)+1)=(((Lib.itoa (n:Nat)).length+1:Nat):Int):=by rw [wi64 (by omega)];omega
 refine AC.enter Tryz.func63 rfl (by kernel_rfl) 7 rfl [.tmp 2] rfl (by simp) fun hsc B=> ?_
 repeat first|with_reducible refine kc ?_|((with_reducible first|refine kr ?_ ?_|refine kt ?_ ?_);exact rfl)|((with_reducible refine kf ?_ ?_);exact rfl)|with_reducible refine hI.use ?_|simp only [go_sem,sevalprocAttr,reduceCtorEq,hw]|simp (disch:=omega) only [wz]|with_reducible_and_instances exact finR|((with_reducible refine finR' ?_ ?_)<;> rfl)|((with_reducible refine finD hsc (NRel.of_plain ?_));exact rfl)
end Go.Proofs.YthcdjconlfdidaaGreatDoor

set_option linter.unusedVariables false
set_option linter.unusedSimpArgs false
set_option maxRecDepth 20000
namespace Go.Proofs.YthcdjconlfdidaaGreatDoor
open Go Go.Aw Go.Proofs Go.Shelf
def Bld (H:AHeap) (b j:Nat) (l:List UInt8):Prop:=
 (∃ p,H[b]? =some (.cells [p,gS j l.length] ⟨93,0,true,0,none⟩)∧(p= .pointer none∨p= .pointer (some ⟨b,0,none⟩)))∧(0<l.length→j≠b∧H[j]? =some (.cells (bytesC l) ⟨5,1,true,0,none⟩))
theorem Bld.more {H:AHeap} {b j:Nat} {l:List UInt8} (h:Bld H b j l) (X:AHeap):Bld (H++X) b j l:=by
 obtain ⟨⟨p,h1,h2⟩,h3⟩:=h
 exact ⟨⟨p,by rw [hgetl (lt_of_get h1)];exact h1,h2⟩,fun h=>⟨(h3 h).1,by rw [hgetl (lt_of_get (h3 h).2)];exact (h3 h).2⟩⟩
theorem Bld.lt {H:AHeap} {b j:Nat} {l:List UInt8} (h:Bld H b j l):b<H.length:=by
 obtain ⟨⟨p,h1,h2⟩,h3⟩:=h
 exact lt_of_get h1
theorem lays240:Lays.n240 Tryz.prog Tryz.laysCheck_ren:=Tryz.laysCheck
theorem x72:Builder.X72 Tryz.prog Tryz.laysCheck_ren:={sizeBuilder:=by kernel_rfl,liesBuilder:=by kernel_rfl}
theorem copyCheck {i:Nat} {p sl:Value} {H:AHeap} (hi:H[i]? =some (.cells [p,sl] ⟨93,0,true,0,none⟩)) (hp:p= .pointer none∨p= .pointer (some ⟨i,0,none⟩)):
  ARet Tryz.prog 111 [.pointer (some ⟨i,0,none⟩)] H noVal (H.set i (.cells [.pointer (some ⟨i,0,none⟩),sl] ⟨93,0,true,0,none⟩)):=
 ARet.copyCheck lays240 x72 (by kernel_rfl) (by kernel_rfl) hi hp
theorem WriteString (b j:Nat) (l s:List UInt8) (hs:0<s.length) (hl:l.length+s.length≤1099511627776) (H:AHeap) (hB:Bld H b j l):
  AC Tryz.prog 94 [.pointer (some ⟨b,0,none⟩),.string (bs s)] H (fun r H2=>r= .ret (.tuple ⟨[.int .i64 (s.length:Nat),.nilIface]⟩)∧∃j2,Bld H2 b j2 (l++s)∧Frm [b,j] H H2∧(j2=j∨H.length≤j2)):=by
 obtain ⟨⟨p,h1,h2⟩,h3⟩:=hB
 have hbl:=lt_of_get h1
 have hc:=copyCheck h1 h2
 have g1:∀x,(H.set b x)[b]? =some x:=fun x=>List.getElem?_set_self hbl
 refine AC.enter Tryz.func94 rfl (by kernel_rfl) 19 rfl [.tmp 4,.tmp 5] rfl (by simp) fun hsc B=> ?_
 repeat first|with_reducible refine kc ?_|((with_reducible first|refine kr ?_ ?_|refine kt ?_ ?_);exact rfl)|((with_reducible refine kf ?_ ?_);exact rfl)|with_reducible refine hc.use ?_|simp only [go_sem,sevalprocAttr,reduceCtorEq,g1]|simp (disch:=omega) only [wz]
 rcases Nat.eq_zero_or_pos l.length with h0|h0
 ·have hnil:l=[]:=List.eq_nil_of_length_eq_zero h0
  subst hnil
  simp only [List.length_nil,gS_zero,List.nil_append] at hl ⊢
  have g2:∀x Y,(H.set b x++Y)[b]? =some x:=fun x Y=>by rw [hgetl (by simpa using hbl)];exact List.getElem?_set_self hbl
  have s2:∀x y Y,(H.set b x++Y).set b y=H.set b y++Y:=fun x y Y=>by rw [List.set_append_left _ _ (by simpa using hbl),List.set_set]
  refine ⟨bytesC_flat _,appendTo_nil (by omega) (by omega) (by omega) ?_⟩
  repeat first|with_reducible refine kc ?_|((with_reducible first|refine kr ?_ ?_|refine kt ?_ ?_);exact rfl)|((with_reducible refine kf ?_ ?_);exact rfl)|simp only [go_sem,sevalprocAttr,reduceCtorEq,g2,s2]|simp (disch:=omega) only [wz]
  refine ⟨_,_,.refl _ _ _,rfl,H.length,⟨⟨_,?_,.inr rfl⟩,fun _=>⟨by omega,?_⟩⟩,?_,.inr (Nat.le_refl _)⟩
  ·rw [gS_pos hs];exact g2 _ _
  ·rw [List.getElem?_append_right (by simp)];simp
  ·exact Frm.more (Frm.set (Frm.refl _ _) (.inl (by simp)))
 ·rw [gS_pos h0]
  obtain ⟨hjb,hj⟩:=h3 h0
  have hjl:=lt_of_get hj
  have g2:∀x y Y,((H.set b x).set j y++Y)[b]? =some x:=fun x y Y=>by rw [hgetl (by simpa using hbl),List.getElem?_set_ne hjb];exact List.getElem?_set_self hbl
  have s2:∀x y z Y,((H.set b x).set j y++Y).set b z=(H.set b z).set j y++Y:=fun x y z Y=>by rw [List.set_append_left _ _ (by simpa using hbl),List.set_comm _ _ hjb,List.set_set]
  refine ⟨bytesC_flat _,appendTo_own (cs:=bytesC l) (by rw [List.getElem?_set_ne (Ne.symm hjb)];exact hj) (by decide) (by rw [bytesC_length];omega) (by omega) (by omega) (by omega) ?_⟩
  repeat first|with_reducible refine kc ?_|((with_reducible first|refine kr ?_ ?_|refine kt ?_ ?_);exact rfl)|((with_reducible refine kf ?_ ?_);exact rfl)|simp only [go_sem,sevalprocAttr,reduceCtorEq,g2,s2]|simp (disch:=omega) only [wz]
  refine ⟨_,_,.refl _ _ _,rfl,H.length,⟨⟨_,?_,.inr rfl⟩,fun _=>⟨by omega,?_⟩⟩,?_,.inr (Nat.le_refl _)⟩
  ·rw [gS_pos (by rw [List.length_append];omega),List.length_append];exact g2 _ _ _
  ·rw [List.getElem?_append_right (by simp)];simp
  ·exact Frm.more (Frm.set (Frm.set (Frm.refl _ _) (.inl (by simp))) (.inl (by simp)))
theorem BString (b j:Nat) (l:List UInt8) (hl:0<l.length) (hl2:l.length≤1099511627776) (H:AHeap) (hB:Bld H b j l):ARet Tryz.prog 72 [.pointer (some ⟨b,0,none⟩)] H (.string (bs l)) (H.set j .dead):=by
 obtain ⟨⟨p,h1,h2⟩,h3⟩:=hB
 rw [gS_pos hl] at h1
 obtain ⟨hjb,hj⟩:=h3 hl
 have hp57:Tryz.prog.underlying 108=some (.pointer 5):=Tryz.underlying108
 have hc5:Tryz.prog.cellsOf 5=1:=by kernel_rfl
 have htk:List.take l.length (bytesC l)=bytesC l:=List.take_of_length_le (by rw [bytesC_length];omega)
 have hne:l.length≠0:=by omega
 have hz:((l.length:Nat):Int)>0:=by omega
 refine AC.enter Tryz.func72 rfl (by kernel_rfl) 14 rfl [.tmp 2] rfl (by simp) fun hsc B=> ?_
 repeat first|with_reducible refine kc ?_|((with_reducible first|refine kr ?_ ?_|refine kt ?_ ?_);exact rfl)|((with_reducible refine kf ?_ ?_);exact rfl)|simp only [go_sem,sevalprocAttr,reduceCtorEq]|simp (disch:=omega) only [wz]|with_reducible_and_instances exact finR|((with_reducible refine finR' ?_ ?_)<;> rfl)|((with_reducible refine finD hsc (NRel.of_plain ?_));exact rfl)
 refine AWP.regionK 10 (by kernel_rfl) (by decide) (by kernel_rfl) ?_
 repeat first|with_reducible refine kc ?_|((with_reducible first|refine kr ?_ ?_|refine kt ?_ ?_);exact rfl)|((with_reducible refine kf ?_ ?_);exact rfl)|simp only [go_sem,sevalprocAttr,reduceCtorEq,h1,hj,hp57,hc5,htk,hne]|simp (disch:=omega) only [wz]|with_reducible_and_instances exact finR|((with_reducible refine finR' ?_ ?_)<;> rfl)|((with_reducible refine finD hsc (NRel.of_plain ?_));exact rfl)
 refine ⟨by omega,by omega,?_⟩
 repeat first|with_reducible refine kc ?_|((with_reducible first|refine kr ?_ ?_|refine kt ?_ ?_);exact rfl)|((with_reducible refine kf ?_ ?_);exact rfl)|simp only [go_sem,sevalprocAttr,reduceCtorEq]|simp (disch:=omega) only [wz]|with_reducible_and_instances exact finR|((with_reducible refine finR' ?_ ?_)<;> rfl)|((with_reducible refine finD hsc (NRel.of_plain ?_));exact rfl)
end Go.Proofs.YthcdjconlfdidaaGreatDoor

set_option linter.unusedVariables false
set_option linter.unusedSimpArgs false
set_option maxHeartbeats 4000000
set_option maxRecDepth 20000
namespace Go.Proofs.YthcdjconlfdidaaGreatDoor
open Go Go.Aw Go.Proofs Go.Shelf
def Wrote (H:AHeap) (b j:Nat) (l2:List UInt8) (H2:AHeap):Prop:=∃j2,Bld H2 b j2 l2∧Frm [b,j] H H2∧(j2=j∨H.length≤j2)
theorem WriteByte (b j:Nat) (l:List UInt8) (c:UInt8) (hl:l.length+1≤1099511627776) (H:AHeap) (hB:Bld H b j l):
  AC Tryz.prog 98 [.pointer (some ⟨b,0,none⟩),.int .u8 c.toNat] H (fun r H2=>r= .ret .nilIface∧Wrote H b j (l++[c]) H2):=by
 obtain ⟨⟨p,h1,h2⟩,h3⟩:=hB
 have hbl:=lt_of_get h1
 have hc:=copyCheck h1 h2
 have g1:∀x Y,(H.set b x++Y)[b]? =some x:=fun x Y=>by rw [hgetl (by simpa using hbl)];exact List.getElem?_set_self hbl
 have g0:∀x,(H.set b x)[b]? =some x:=fun x=>List.getElem?_set_self hbl
 refine AC.enter Tryz.func98 rfl (by kernel_rfl) 17 rfl [.tmp 4] rfl (by simp) fun hsc B=> ?_
 repeat first|with_reducible refine kc ?_|((with_reducible first|refine kr ?_ ?_|refine kt ?_ ?_);exact rfl)|((with_reducible refine kf ?_ ?_);exact rfl)|with_reducible refine hc.use ?_|simp only [go_sem,sevalprocAttr,reduceCtorEq,g1,g0]|simp (disch:=omega) only [wz]
 rcases Nat.eq_zero_or_pos l.length with h0|h0
 ·have hnil:l=[]:=List.eq_nil_of_length_eq_zero h0
  subst hnil
  simp only [List.length_nil,gS_zero,List.nil_append] at hl ⊢
  refine appendTo_nil (by omega) (by omega) (by omega) ?_
  repeat first|with_reducible refine kc ?_|((with_reducible first|refine kr ?_ ?_|refine kt ?_ ?_);exact rfl)|((with_reducible refine kf ?_ ?_);exact rfl)|simp only [go_sem,sevalprocAttr,reduceCtorEq,g1,g0]|simp (disch:=omega) only [wz]
  refine ⟨_,_,.refl _ _ _,rfl,H.length+1,⟨⟨_,?_,.inr rfl⟩,fun _=>⟨by omega,?_⟩⟩,?_,.inr (by omega)⟩
  ·rw [gS_pos (by simp)];exact List.getElem?_set_self (by simp;omega)
  ·rw [List.getElem?_set_ne (by omega),List.getElem?_append_right (by simp)];simp [bytesC]
  ·exact Frm.set (Frm.more (Frm.set (Frm.refl _ _) (.inl (by simp)))) (.inl (by simp))
 ·rw [gS_pos h0]
  obtain ⟨hjb,hj⟩:=h3 h0
  have hjl:=lt_of_get hj
  refine appendTo_own (cs:=bytesC l) (by rw [hgetl (by simpa using hjl),List.getElem?_set_ne (Ne.symm hjb)];exact hj) (by decide) (by rw [bytesC_length];omega) (by omega) (by omega) (by omega) ?_
  have g3:∀(x y z:AObj) (Y:AHeap),((H.set b x++[y]).set j z++Y)[b]? =some x:=fun x y z Y=>by
   rw [hgetl (by simp;omega),List.getElem?_set_ne hjb,hgetl (by simpa using hbl)];exact List.getElem?_set_self hbl
  repeat first|with_reducible refine kc ?_|((with_reducible first|refine kr ?_ ?_|refine kt ?_ ?_);exact rfl)|((with_reducible refine kf ?_ ?_);exact rfl)|simp only [go_sem,sevalprocAttr,reduceCtorEq,g3]|simp (disch:=omega) only [wz]
  refine ⟨_,_,.refl _ _ _,rfl,H.length+1,⟨⟨_,?_,.inr rfl⟩,fun _=>⟨by omega,?_⟩⟩,?_,.inr (by omega)⟩
  ·rw [gS_pos (by simp),List.length_append];exact List.getElem?_set_self (by simp;omega)
  ·rw [List.getElem?_set_ne (by omega),List.getElem?_append_right (by simp),←bytesC_append];simp [bytesC]
  ·exact Frm.set (Frm.more (Frm.set (Frm.more (Frm.set (Frm.refl _ _) (.inl (by simp)))) (.inl (by simp)))) (.inl (by simp))
theorem wtext (b j:Nat) (l s:List UInt8) (hl:l.length+(BV.wText s).length≤1099511627776) (H:AHeap) (hT:TabH H) (hB:Bld H b j l):
  AC Tryz.prog 96 [.pointer (some ⟨b,0,none⟩),.string (bs s)] H (fun r H2=>r= .ret noVal∧Wrote H b j (l++BV.wText s) H2):=by
 have hw:BV.wText s=Lib.itoa (s.length:Nat)++([58]++s):=rfl
 have hlen:(BV.wText s).length=(Lib.itoa (s.length:Nat)).length+(1+s.length):=by rw [hw];simp;omega
 have hI:=Itoa (s.length:Nat) (by omega) (by omega) H hT
 have hW:=WriteString b j l (BV.wText s) (by omega) hl H hB
 refine AC.enter Tryz.func96 rfl (by kernel_rfl) 12 rfl [] rfl (by simp) fun hsc B=> ?_
 repeat first|with_reducible refine kc ?_|((with_reducible first|refine kr ?_ ?_|refine kt ?_ ?_);exact rfl)|((with_reducible refine kf ?_ ?_);exact rfl)|with_reducible refine hI.use ?_|simp only [go_sem,sevalprocAttr,reduceCtorEq]|simp (disch:=omega) only [wz]
 refine ⟨by omega,by omega,AC.mono hW ?_⟩
 rintro r H2 ⟨rfl,h⟩
 repeat first|with_reducible refine kc ?_|((with_reducible first|refine kr ?_ ?_|refine kt ?_ ?_);exact rfl)|((with_reducible refine kf ?_ ?_);exact rfl)|simp only [go_sem,sevalprocAttr,reduceCtorEq]|simp (disch:=omega) only [wz]
 exact ⟨_,_,.refl _ _ _,rfl,h⟩
end Go.Proofs.YthcdjconlfdidaaGreatDoor
