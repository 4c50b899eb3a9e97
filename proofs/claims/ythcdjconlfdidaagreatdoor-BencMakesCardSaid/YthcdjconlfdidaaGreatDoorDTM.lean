/-
  A part of the proof of a statement of this seat.
-/
import Derived.Test.YthcdjconlfdidaaGreatDoorDRM
import Derived.Test.YthcdjconlfdidaaGreatDoorDCM
import Derived.Test.YthcdjconlfdidaaGreatDoorDJM
set_option linter.unusedVariables false
set_option linter.unusedSimpArgs false
set_option maxRecDepth 20000
set_option maxHeartbeats 8000000
namespace Go.Proofs.YthcdjconlfdidaaGreatDoor
open Go Go.Aw Go.Proofs
def szO (c b:Nat):AObj:= .cells [.int .i64 (c:Nat),.int .i64 (b:Nat)] ⟨54,0,true,0,none⟩
def FitP (H:AHeap) (r:Nat):Option (Nat×Nat)→ARes→AHeap→Prop
 |some (c,b),res,H2=>res= .ret (.bool true)∧H2[r]? =some (szO c b)∧Frm [r] H H2
 |none,res,H2=>res= .ret (.bool false)∧Frm [r] H H2
theorem fits0 (k n:Int) (s:List UInt8) (kids:List BV) (keys:List (List UInt8)) (hkd:kids.length≤1099511627776) (hky:keys.length<1099511627776) (lv c b r:Nat) (hlv:lv≤12) (hc:c≤1000) (H:AHeap) (hr:H[r]? =some (szO c b)) (cs:List Value) (hR:RdV H (.mk k n s kids keys) cs)
  (hbad:lv=0∨1000<c+1∨k<1∨k>4):
  AC Tryz.prog 36 [.pointer (some ⟨r,0,none⟩),.agg ⟨cs⟩,.int .i64 (lv:Nat)] H (FitP H r none):=by
 have hfl:=RdV_flat hR
 have hr5:=hR.len
 unfold RdV at hR
 obtain ⟨vk,vs,css,rfl,h1,hL,h3⟩:=hR
 unfold szO at hr
 have hrl:=lt_of_get hr
 have hwc:IntKind.i64.wrap ((c:Int)+1)=((c+1:Nat):Int):=by rw [wi64 (by omega)];omega
 obtain ⟨H1,hH1⟩:∃H1:AHeap,H1=H++ [.cells [.int .i64 k,.int .i64 n,.string (bs s),vk,vs] ⟨27,0,true,0,none⟩]:=⟨_,rfl⟩
 have hr1:H1[r]? =some (.cells [.int .i64 (c:Nat),.int .i64 (b:Nat)] ⟨54,0,true,0,none⟩):=by rw [hH1,hgetl hrl];exact hr
 have hb1:H1[H.length]? =some (.cells [.int .i64 k,.int .i64 n,.string (bs s),vk,vs] ⟨27,0,true,0,none⟩):=by rw [hH1,hget0 rfl];rfl
 have hrl1:=lt_of_get hr1
 obtain ⟨H2,hH2⟩:∃H2:AHeap,H2=H1.set r (.cells [.int .i64 ((c+1:Nat):Int),.int .i64 (b:Nat)] ⟨54,0,true,0,none⟩):=⟨_,rfl⟩
 have hr2:H2[r]? =some (.cells [.int .i64 ((c+1:Nat):Int),.int .i64 (b:Nat)] ⟨54,0,true,0,none⟩):=by rw [hH2,List.getElem?_set_self hrl1]
 have hb2:H2[H.length]? =some (.cells [.int .i64 k,.int .i64 n,.string (bs s),vk,vs] ⟨27,0,true,0,none⟩):=by rw [hH2,List.getElem?_set_ne (by omega)];exact hb1
 have hf2:Frm [r] H H2:=by rw [hH2,hH1];exact Frm.set (Frm.app (S:=[r])) (.inl (by simp))
 refine AC.enter Tryz.func36 rfl (by kernel_rfl) 126 rfl [.tmp 6] rfl (by simp) fun hsc B=> ?_
 repeat first|with_reducible refine kc ?_|((with_reducible first|refine kr ?_ ?_|refine kt ?_ ?_);exact rfl)|((with_reducible refine kf ?_ ?_);exact rfl)|simp only [go_sem,sevalprocAttr,reduceCtorEq,hfl,hr5]|simp (disch:=omega) only [wz]
 rw [← hH1]
 repeat first|with_reducible refine kc ?_|((with_reducible first|refine kr ?_ ?_|refine kt ?_ ?_);exact rfl)|((with_reducible refine kf ?_ ?_);exact rfl)|simp only [go_sem,sevalprocAttr,reduceCtorEq,hr1,hwc,hrl1,List.set_cons_zero]|simp (disch:=omega) only [wz]
 rw [← hH2]
 by_cases b1:lv=0
 ·subst b1
  refine AWP.regionMP 25 [6,11,16,20,22,24] [(6,noVal),(11,noVal),(16,noVal),(20,noVal),(22,noVal),(24,noVal)] (.step 6 (.step 11 (.step 16 (.both (.step 20 (.both (.run [22,24]) (.run [24,22]))) (.both (.step 22 (.both (.run [20,24]) (.run [24,20]))) (.step 24 (.both (.run [20,22]) (.run [22,20])))))))) (by kernel_rfl) (by decide) (by kernel_rfl) (by kernel_rfl) (by kernel_rfl) ?_
  repeat' first|with_reducible refine canW_n ?_|with_reducible refine canW_m (by decide) ?_|((with_reducible apply canW_p (by decide));focus (intro H;(simp only [go_sem,sevalprocAttr,reduceCtorEq,List.map_cons,List.map_nil]);exact rfl))|with_reducible refine memW_bP ?_ ?_|with_reducible refine memW_sP rfl ?_|with_reducible refine memW_rP rfl ?_|with_reducible refine memW_eP ?_|simp only [List.take_succ_cons,List.take_zero,List.drop_succ_cons,List.drop_zero]|omega|with_reducible refine And.intro ?_ ?_|with_reducible refine kc ?_|((with_reducible first|refine kr ?_ ?_|refine kt ?_ ?_);exact rfl)|((with_reducible refine kf ?_ ?_);exact rfl)|simp only [go_sem,sevalprocAttr,reduceCtorEq,List.map_cons,List.map_nil]|simp (disch:=omega) only [wz]
  all_goals exact ⟨_,_,.refl _ _ _,rfl,hf2⟩
 have b1':¬((lv:Nat):Int)<1:=by omega
 by_cases b2:1000<c+1
 ·have b2':((c+1:Nat):Int)>1000:=by omega
  refine AWP.regionMP 25 [6,11,16,20,22,24] [(6,.int .i64 ((c+1:Nat):Int)),(11,noVal),(16,noVal),(20,noVal),(22,noVal),(24,noVal)] (.step 6 (.step 11 (.step 16 (.both (.step 20 (.both (.run [22,24]) (.run [24,22]))) (.both (.step 22 (.both (.run [20,24]) (.run [24,20]))) (.step 24 (.both (.run [20,22]) (.run [22,20])))))))) (by kernel_rfl) (by decide) (by kernel_rfl) (by kernel_rfl) (by kernel_rfl) ?_
  repeat' first|with_reducible refine canW_n ?_|with_reducible refine canW_m (by decide) ?_|((with_reducible apply canW_p (by decide));focus (intro H;(simp only [go_sem,sevalprocAttr,reduceCtorEq,b1',b2',hr2,List.map_cons,List.map_nil]);exact rfl))|with_reducible refine memW_bP ?_ ?_|with_reducible refine memW_sP rfl ?_|with_reducible refine memW_rP rfl ?_|with_reducible refine memW_eP ?_|simp only [List.take_succ_cons,List.take_zero,List.drop_succ_cons,List.drop_zero]|omega|with_reducible refine And.intro ?_ ?_|with_reducible refine kc ?_|((with_reducible first|refine kr ?_ ?_|refine kt ?_ ?_);exact rfl)|((with_reducible refine kf ?_ ?_);exact rfl)|simp only [go_sem,sevalprocAttr,reduceCtorEq,b1',b2',hr2,List.map_cons,List.map_nil]|simp (disch:=omega) only [wz]
  all_goals exact ⟨_,_,.refl _ _ _,rfl,hf2⟩
 have b2':¬((c+1:Nat):Int)>1000:=by omega
 by_cases b3:k<1
 ·refine AWP.regionMP 25 [6,11,16,20,22,24] [(6,.int .i64 ((c+1:Nat):Int)),(11,.int .i64 k),(16,noVal),(20,noVal),(22,noVal),(24,noVal)] (.step 6 (.step 11 (.step 16 (.both (.step 20 (.both (.run [22,24]) (.run [24,22]))) (.both (.step 22 (.both (.run [20,24]) (.run [24,20]))) (.step 24 (.both (.run [20,22]) (.run [22,20])))))))) (by kernel_rfl) (by decide) (by kernel_rfl) (by kernel_rfl) (by kernel_rfl) ?_
  repeat' first|with_reducible refine canW_n ?_|with_reducible refine canW_m (by decide) ?_|((with_reducible apply canW_p (by decide));focus (intro H;(simp only [go_sem,sevalprocAttr,reduceCtorEq,b1',b2',b3,hr2,hb2,List.map_cons,List.map_nil]);exact rfl))|with_reducible refine memW_bP ?_ ?_|with_reducible refine memW_sP rfl ?_|with_reducible refine memW_rP rfl ?_|with_reducible refine memW_eP ?_|simp only [List.take_succ_cons,List.take_zero,List.drop_succ_cons,List.drop_zero]|omega|with_reducible refine And.intro ?_ ?_|with_reducible refine kc ?_|((with_reducible first|refine kr ?_ ?_|refine kt ?_ ?_);exact rfl)|((with_reducible refine kf ?_ ?_);exact rfl)|simp only [go_sem,sevalprocAttr,reduceCtorEq,b1',b2',b3,hr2,hb2,List.map_cons,List.map_nil]|simp (disch:=omega) only [wz]
  all_goals exact ⟨_,_,.refl _ _ _,rfl,hf2⟩
 have b4:k>4:=by omega
 refine AWP.regionMP 25 [6,11,16,20,22,24] [(6,.int .i64 ((c+1:Nat):Int)),(11,.int .i64 k),(16,.int .i64 k),(20,noVal),(22,noVal),(24,noVal)] (.step 6 (.step 11 (.step 16 (.both (.step 20 (.both (.run [22,24]) (.run [24,22]))) (.both (.step 22 (.both (.run [20,24]) (.run [24,20]))) (.step 24 (.both (.run [20,22]) (.run [22,20])))))))) (by kernel_rfl) (by decide) (by kernel_rfl) (by kernel_rfl) (by kernel_rfl) ?_
 repeat' first|with_reducible refine canW_n ?_|with_reducible refine canW_m (by decide) ?_|((with_reducible apply canW_p (by decide));focus (intro H;(simp only [go_sem,sevalprocAttr,reduceCtorEq,b1',b2',b3,b4,hr2,hb2,List.map_cons,List.map_nil]);exact rfl))|with_reducible refine memW_bP ?_ ?_|with_reducible refine memW_sP rfl ?_|with_reducible refine memW_rP rfl ?_|with_reducible refine memW_eP ?_|simp only [List.take_succ_cons,List.take_zero,List.drop_succ_cons,List.drop_zero]|omega|with_reducible refine And.intro ?_ ?_|with_reducible refine kc ?_|((with_reducible first|refine kr ?_ ?_|refine kt ?_ ?_);exact rfl)|((with_reducible refine kf ?_ ?_);exact rfl)|simp only [go_sem,sevalprocAttr,reduceCtorEq,b1',b2',b3,b4,hr2,hb2,List.map_cons,List.map_nil]|simp (disch:=omega) only [wz]
 all_goals exact ⟨_,_,.refl _ _ _,rfl,hf2⟩
end Go.Proofs.YthcdjconlfdidaaGreatDoor

set_option linter.unusedVariables false
set_option linter.unusedSimpArgs false
set_option maxRecDepth 20000
set_option maxHeartbeats 8000000
namespace Go.Proofs.YthcdjconlfdidaaGreatDoor
open Go Go.Aw Go.Proofs
def shFn (k:Int):Nat:=if k=1 then 78 else if k=2 then 79 else if k=3 then 80 else 81
theorem shape (k n:Int) (s:List UInt8) (kids:List BV) (keys:List (List UInt8)) (hk:kids.length≤1099511627776) (hx:keys.length<1099511627776) (hk1:k=1∨k=2∨k=3∨k=4) (H:AHeap) (cs:List Value) (hR:RdV H (.mk k n s kids keys) cs):
  AC Tryz.prog (shFn k) [.agg ⟨cs⟩] H (fun r H2=>r= .ret (.bool (shapeB (.mk k n s kids keys)))∧Frm [] H H2):=by
 rcases hk1 with rfl|rfl|rfl|rfl
 ·exact (sh1 _ n s kids keys hk (by omega) H cs hR).mono fun r H2 h=>⟨h.1,by rw [h.2];exact Frm.refl _ _⟩
 ·exact (sh2 _ n s kids keys hk (by omega) H cs hR).mono fun r H2 h=>⟨h.1,by rw [h.2];exact Frm.refl _ _⟩
 ·exact (sh3 _ n s kids keys H cs hR).mono fun r H2 h=>⟨h.1,by rw [h.2];exact Frm.refl _ _⟩
 ·exact (sh4 _ n s kids keys hk hx H cs hR).mono fun r H2 h=>⟨h.1,h.2⟩
theorem fits1 (k n:Int) (s:List UInt8) (kids:List BV) (keys:List (List UInt8)) (hkd:kids.length≤1099511627776) (hky:keys.length<1099511627776) (lv c b r:Nat) (hlv:lv≤12) (hc:c≤1000) (H:AHeap) (hr:H[r]? =some (szO c b)) (cs:List Value) (hR:RdV H (.mk k n s kids keys) cs)
  (hl1:1≤lv) (hc1:c+1≤1000) (hk1:k=1∨k=2∨k=3∨k=4) (hbad:shapeB (.mk k n s kids keys)=false):
  AC Tryz.prog 36 [.pointer (some ⟨r,0,none⟩),.agg ⟨cs⟩,.int .i64 (lv:Nat)] H (FitP H r none):=by
 have hR0:=hR
 have hfl:=RdV_flat hR
 have hr5:=hR.len
 unfold RdV at hR
 obtain ⟨vk,vs,css,rfl,h1,hL,h3⟩:=hR
 unfold szO at hr
 have hrl:=lt_of_get hr
 have hwc:IntKind.i64.wrap ((c:Int)+1)=((c+1:Nat):Int):=by rw [wi64 (by omega)];omega
 obtain ⟨H1,hH1⟩:∃H1:AHeap,H1=H++ [.cells [.int .i64 k,.int .i64 n,.string (bs s),vk,vs] ⟨27,0,true,0,none⟩]:=⟨_,rfl⟩
 have hr1:H1[r]? =some (.cells [.int .i64 (c:Nat),.int .i64 (b:Nat)] ⟨54,0,true,0,none⟩):=by rw [hH1,hgetl hrl];exact hr
 have hb1:H1[H.length]? =some (.cells [.int .i64 k,.int .i64 n,.string (bs s),vk,vs] ⟨27,0,true,0,none⟩):=by rw [hH1,hget0 rfl];rfl
 have hrl1:=lt_of_get hr1
 obtain ⟨H2,hH2⟩:∃H2:AHeap,H2=H1.set r (.cells [.int .i64 ((c+1:Nat):Int),.int .i64 (b:Nat)] ⟨54,0,true,0,none⟩):=⟨_,rfl⟩
 have hr2:H2[r]? =some (.cells [.int .i64 ((c+1:Nat):Int),.int .i64 (b:Nat)] ⟨54,0,true,0,none⟩):=by rw [hH2,List.getElem?_set_self hrl1]
 have hb2:H2[H.length]? =some (.cells [.int .i64 k,.int .i64 n,.string (bs s),vk,vs] ⟨27,0,true,0,none⟩):=by rw [hH2,List.getElem?_set_ne (by omega)];exact hb1
 have hf2:Frm [r] H H2:=by rw [hH2,hH1];exact Frm.set (Frm.app (S:=[r])) (.inl (by simp))
 refine AC.enter Tryz.func36 rfl (by kernel_rfl) 126 rfl [.tmp 6] rfl (by simp) fun hsc B=> ?_
 repeat first|with_reducible refine kc ?_|((with_reducible first|refine kr ?_ ?_|refine kt ?_ ?_);exact rfl)|((with_reducible refine kf ?_ ?_);exact rfl)|simp only [go_sem,sevalprocAttr,reduceCtorEq,hfl,hr5]|simp (disch:=omega) only [wz]
 rw [← hH1]
 repeat first|with_reducible refine kc ?_|((with_reducible first|refine kr ?_ ?_|refine kt ?_ ?_);exact rfl)|((with_reducible refine kf ?_ ?_);exact rfl)|simp only [go_sem,sevalprocAttr,reduceCtorEq,hr1,hwc,hrl1,List.set_cons_zero]|simp (disch:=omega) only [wz]
 rw [← hH2]
 have b1':¬((lv:Nat):Int)<1:=by omega
 have b2':¬((c+1:Nat):Int)>1000:=by omega
 have b3':¬k<1:=by omega
 have b4':¬k>4:=by omega
 have htk5:List.take 5 [Value.int .i64 k,.int .i64 n,.string (bs s),vk,vs]= [.int .i64 k,.int .i64 n,.string (bs s),vk,vs]:=rfl
 have hF:=fun H=>shF H
 have hkp:Kept H H2:=by
  rw [hH2,hH1]
  exact (Kept.more _ _).trans (Kept.set (by rw [hgetl hrl];exact hr) rfl _)
 have hsh:=shape k n s kids keys hkd hky hk1 H2 _ (hR0.kept hkp)
 rw [hbad] at hsh
 refine AWP.regionMP 25 [6,11,16,20,22,24] [(6,.int .i64 ((c+1:Nat):Int)),(11,.int .i64 k),(16,.int .i64 k),(20,.agg ⟨[.nilFunc,.func (.func 78) ⟨[]⟩ ⟨[]⟩,.func (.func 79) ⟨[]⟩ ⟨[]⟩,.func (.func 80) ⟨[]⟩ ⟨[]⟩,.func (.func 81) ⟨[]⟩ ⟨[]⟩]⟩),(22,.int .i64 k)] (.step 6 (.step 11 (.step 16 (.both (.step 20 (.both (.run [22,24]) (.run [24,22]))) (.both (.step 22 (.both (.run [20,24]) (.run [24,20]))) (.step 24 (.both (.run [20,22]) (.run [22,20])))))))) (by kernel_rfl) (by decide) (by kernel_rfl) (by kernel_rfl) (by kernel_rfl) ?_
 rcases hk1 with rfl|rfl|rfl|rfl
 all_goals
  repeat' first|with_reducible refine canW_n ?_|with_reducible refine canW_m (by decide) ?_|((with_reducible apply canW_p (by decide));focus (intro H;(simp only [go_sem,sevalprocAttr,reduceCtorEq,b1',b2',b3',b4',hr2,hb2,hr5,List.map_cons,List.map_nil]);exact rfl))|with_reducible refine memW_bP ?_ ?_|with_reducible refine memW_sP rfl ?_|with_reducible refine memW_rP rfl ?_|with_reducible refine memW_eP ?_|simp only [List.take_succ_cons,List.take_zero,List.drop_succ_cons,List.drop_zero]|omega|with_reducible refine And.intro ?_ ?_|with_reducible refine kc ?_|((with_reducible first|refine kr ?_ ?_|refine kt ?_ ?_);exact rfl)|((with_reducible refine kf ?_ ?_);exact rfl)|with_reducible refine (hF _).use ?_|simp only [go_sem,sevalprocAttr,reduceCtorEq,b1',b2',b3',b4',hr2,hb2,hr5,List.map_cons,List.map_nil]|simp (disch:=omega) only [wz]
  all_goals
   refine AC.mono hsh ?_
   rintro res H3 ⟨rfl,hf3⟩
   repeat first|with_reducible refine kc ?_|((with_reducible first|refine kr ?_ ?_|refine kt ?_ ?_);exact rfl)|((with_reducible refine kf ?_ ?_);exact rfl)|simp only [go_sem,sevalprocAttr,reduceCtorEq]|simp (disch:=omega) only [wz]
   exact ⟨_,_,.refl _ _ _,rfl,hf2.trans hf3 (fun x hx=>by cases hx)⟩
end Go.Proofs.YthcdjconlfdidaaGreatDoor

set_option linter.unusedVariables false
set_option linter.unusedSimpArgs false
set_option maxRecDepth 20000
set_option maxHeartbeats 8000000
namespace Go.Proofs.YthcdjconlfdidaaGreatDoor
open Go Go.Aw Go.Proofs
def Fits0 (v:BV):Prop:=∀(r:Nat) (H:AHeap) (cs:List Value),H[r]? =some (szO 0 0)→RdV H v cs→TabH H→AC Tryz.prog 36 [.pointer (some ⟨r,0,none⟩),.agg ⟨cs⟩,.int .i64 12] H (FitP H r (fitV 12 0 0 v))
theorem validW (v:BV) (hF:Fits0 v) (H:AHeap) (cs:List Value) (hR:RdV H v cs) (hT:TabH H):AC Tryz.prog 33 [.agg ⟨cs⟩] H (fun r H2=>r= .ret (.bool v.valid)∧Frm [] H H2):=by
 have hfl:=RdV_flat hR
 have hr5:=hR.len
 have htk5:List.take 5 cs=cs:=List.take_of_length_le (by omega)
 obtain ⟨H1,hH1⟩:∃H1:AHeap,H1=H++ [.cells cs ⟨27,0,true,0,none⟩,.cells [.int .i64 0,.int .i64 0] ⟨54,0,true,0,none⟩]:=⟨_,rfl⟩
 have hb0:H1[H.length]? =some (.cells cs ⟨27,0,true,0,none⟩):=by rw [hH1,hget0 rfl];rfl
 have hb1:H1[H.length+1]? =some (szO 0 0):=by rw [hH1,hgetk rfl];rfl
 have hf1:Frm [] H H1:=by rw [hH1];exact Frm.app
 have hX:=hF (H.length+1) H1 cs hb1 (by rw [hH1];exact hR.kept (.more _ _)) (by rw [hH1];exact hT.more _)
 have hv:=fit_valid v
 refine AC.enter Tryz.func33 rfl (by kernel_rfl) 6 rfl [.tmp 2] rfl (by simp) fun hsc B=> ?_
 repeat first|with_reducible refine kc ?_|((with_reducible first|refine kr ?_ ?_|refine kt ?_ ?_);exact rfl)|((with_reducible refine kf ?_ ?_);exact rfl)|simp only [go_sem,sevalprocAttr,reduceCtorEq,hfl,hr5]|simp (disch:=omega) only [wz]
 rw [← hH1]
 repeat first|with_reducible refine kc ?_|((with_reducible first|refine kr ?_ ?_|refine kt ?_ ?_);exact rfl)|((with_reducible refine kf ?_ ?_);exact rfl)|simp only [go_sem,sevalprocAttr,reduceCtorEq,hb0,htk5,hr5]|simp (disch:=omega) only [wz]
 refine AC.mono hX ?_
 intro res H2 hP
 cases hfv:fitV 12 0 0 v with
 |none=>
  rw [hfv] at hP hv
  obtain ⟨rfl,hf2⟩:=hP
  rw [← hv]
  repeat first|with_reducible refine kc ?_|((with_reducible first|refine kr ?_ ?_|refine kt ?_ ?_);exact rfl)|((with_reducible refine kf ?_ ?_);exact rfl)|simp only [go_sem,sevalprocAttr,reduceCtorEq]|simp (disch:=omega) only [wz]
  exact ⟨_,_,.refl _ _ _,rfl,hf1.trans hf2 (fun x hx=>by rw [List.mem_singleton.1 hx];exact .inr (by omega))⟩
 |some cb=>
  obtain ⟨c,b⟩:=cb
  rw [hfv] at hP hv
  obtain ⟨rfl,-,hf2⟩:=hP
  rw [← hv]
  repeat first|with_reducible refine kc ?_|((with_reducible first|refine kr ?_ ?_|refine kt ?_ ?_);exact rfl)|((with_reducible refine kf ?_ ?_);exact rfl)|simp only [go_sem,sevalprocAttr,reduceCtorEq]|simp (disch:=omega) only [wz]
  exact ⟨_,_,.refl _ _ _,rfl,hf1.trans hf2 (fun x hx=>by rw [List.mem_singleton.1 hx];exact .inr (by omega))⟩
def formatR (v:BV):List UInt8×Int:=if v.valid=true then (v.write,0) else ([],1)
theorem formatW (v:BV) (hF:Fits0 v) (hn:v.nums) (H:AHeap) (cs:List Value) (hR:RdV H v cs) (hT:TabH H):
  AC Tryz.prog 28 [.agg ⟨cs⟩] H (fun r H2=>r= .ret (.tuple ⟨[.string (bs (formatR v).1),.int .i64 (formatR v).2]⟩)∧Frm [] H H2):=by
 have hfl:=RdV_flat hR
 have hr5:=hR.len
 have htk5:List.take 5 cs=cs:=List.take_of_length_le (by omega)
 obtain ⟨H1,hH1⟩:∃H1:AHeap,H1=H++ [.cells cs ⟨27,0,true,0,none⟩]:=⟨_,rfl⟩
 have hb0:H1[H.length]? =some (.cells cs ⟨27,0,true,0,none⟩):=by rw [hH1,hget0 rfl];rfl
 have hf1:Frm [] H H1:=by rw [hH1];exact Frm.app
 have hR1:RdV H1 v cs:=by rw [hH1];exact hR.kept (.more _ _)
 have hT1:TabH H1:=by rw [hH1];exact hT.more _
 have hV:=validW v hF H1 cs hR1 hT1
 unfold formatR
 refine AC.enter Tryz.func28 rfl (by kernel_rfl) 9 rfl [.tmp 2,.tmp 3] rfl (by simp) fun hsc B=> ?_
 repeat first|with_reducible refine kc ?_|((with_reducible first|refine kr ?_ ?_|refine kt ?_ ?_);exact rfl)|((with_reducible refine kf ?_ ?_);exact rfl)|simp only [go_sem,sevalprocAttr,reduceCtorEq,hfl,hr5]|simp (disch:=omega) only [wz]
 rw [← hH1]
 repeat first|with_reducible refine kc ?_|((with_reducible first|refine kr ?_ ?_|refine kt ?_ ?_);exact rfl)|((with_reducible refine kf ?_ ?_);exact rfl)|simp only [go_sem,sevalprocAttr,reduceCtorEq,hb0,htk5,hr5]|simp (disch:=omega) only [wz]
 refine AC.mono hV ?_
 rintro res H2 ⟨rfl,hf2⟩
 have hf12:Frm [] H H2:=hf1.trans hf2 (fun x hx=>by cases hx)
 cases hv:v.valid with
 |false=>
  repeat first|with_reducible refine kc ?_|((with_reducible first|refine kr ?_ ?_|refine kt ?_ ?_);exact rfl)|((with_reducible refine kf ?_ ?_);exact rfl)|simp only [go_sem,sevalprocAttr,reduceCtorEq]|simp (disch:=omega) only [wz]
  exact ⟨_,_,.refl _ _ _,rfl,hf12⟩
 |true=>
  have hv2:=hv
  unfold BV.valid at hv2
  simp only [Bool.and_eq_true,decide_eq_true_eq] at hv2
  have hb2:=hf2.get hb0 (by simp)
  have hR2:RdV H2 v cs:=hR1.kept (Kept.frm hf2 (fun x hx=>by cases hx))
  have hW:=written v hv2.1.1.1 hn (by omega) H2 cs (hT1.frm hf2 (by simp)) hR2
  repeat first|with_reducible refine kc ?_|((with_reducible first|refine kr ?_ ?_|refine kt ?_ ?_);exact rfl)|((with_reducible refine kf ?_ ?_);exact rfl)|simp only [go_sem,sevalprocAttr,reduceCtorEq,hb2,htk5,hr5]|simp (disch:=omega) only [wz]
  refine AC.mono hW ?_
  rintro res H3 ⟨rfl,hf3⟩
  repeat first|with_reducible refine kc ?_|((with_reducible first|refine kr ?_ ?_|refine kt ?_ ?_);exact rfl)|((with_reducible refine kf ?_ ?_);exact rfl)|simp only [go_sem,sevalprocAttr,reduceCtorEq]|simp (disch:=omega) only [wz]
  exact ⟨_,_,.refl _ _ _,rfl,hf12.trans hf3 (fun x hx=>by cases hx)⟩
end Go.Proofs.YthcdjconlfdidaaGreatDoor
