/-
  A part of the proof of a statement of this seat.
-/
import Derived.Test.YthcdjconlfdidaaGreatDoorE1M
import Derived.Test.YthcdjconlfdidaaGreatDoorLgM
import Derived.Test.YthcdjconlfdidaaGreatDoorDTM
import Derived.Test.YthcdjconlfdidaaGreatDoorDXM
set_option linter.unusedVariables false
set_option linter.unusedSimpArgs false
set_option maxHeartbeats 4000000
set_option maxRecDepth 20000
namespace Go.Proofs.YthcdjconlfdidaaGreatDoor
open Go Go.Aw Go.Proofs
structure GlobB (H:AHeap):Prop where
 tab:TabH H
 es:∃(e t:TypeId) (v:Value),H[1]? =some (globO e 0 (.iface t v))
 er:∃(e t:TypeId) (v:Value),H[4]? =some (globO e 1 (.iface t v))
theorem GlobB.more {H:AHeap} (h:GlobB H) (X:AHeap):GlobB (H++X):=by
 obtain ⟨h1,⟨a4,a5,a6,h3⟩,⟨a7,a8,a9,h4⟩⟩:=h
 exact ⟨h1.more X,⟨a4,a5,a6,by rw [hgetl (lt_of_get h3)];exact h3⟩,⟨a7,a8,a9,by rw [hgetl (lt_of_get h4)];exact h4⟩⟩
theorem GlobB.frm {H H1:AHeap} (h:GlobB H) (hf:Frm [] H H1):GlobB H1:=by
 obtain ⟨h1,⟨a4,a5,a6,h3⟩,⟨a7,a8,a9,h4⟩⟩:=h
 exact ⟨h1.frm hf (by simp),⟨a4,a5,a6,hf.get h3 (by simp)⟩,⟨a7,a8,a9,hf.get h4 (by simp)⟩⟩
def kAt (l:List Tx) (t:Tx):Option Nat:=l.findIdx? (· ==t)
theorem kAt_some {l:List Tx} {t:Tx} {i:Nat} (hl:Low l t i) (h:l[i]? =some t):kAt l t=some i:=by
 unfold kAt
 rw [List.findIdx?_eq_some_iff_getElem]
 obtain ⟨hi,e⟩:=List.getElem?_eq_some_iff.1 h
 refine ⟨hi,by simp [e],fun j hj=> ?_⟩
 have h1:=hl.lo j _ hj (List.getElem?_eq_getElem (by omega))
 intro h2
 have e2:l[j]'(by omega)=t:=by simpa using h2
 rw [e2,lt_irr] at h1
 cases h1
theorem kAt_none {l:List Tx} {t:Tx} {i:Nat} (hasc:BV.asc l=true) (hl:Low l t i) (h:¬l[i]? =some t):kAt l t=none:=by
 unfold kAt
 rw [List.findIdx?_eq_none_iff]
 intro x hx
 obtain ⟨j,hj,rfl⟩:=List.getElem_of_mem hx
 have ej:=List.getElem?_eq_getElem hj
 rw [beq_eq_false_iff_ne]
 intro e
 rw [e] at ej
 rcases Nat.lt_trichotomy j i with h1|rfl|h1
 ·have:=hl.lo j _ h1 ej
  rw [lt_irr] at this;cases this
 ·exact h ej
 ·have ei:=List.getElem?_eq_getElem (show i<l.length by omega)
  have h2:=hl.hi i _ (Nat.le_refl _) ei
  rw [asc_at hasc i j _ _ h1 ei ej] at h2
  cases h2
def nAt (m:Nat) (s:Tx):Option Nat:=(List.range m).find? fun v=>Lib.decDigits v==s
theorem nAt_none {m:Nat} {s:Tx} (h:∀v,v<m→s≠Lib.decDigits v):nAt m s=none:=by
 unfold nAt
 rw [List.find?_eq_none]
 intro v hv e
 exact h v (List.mem_range.1 hv) (beq_iff_eq.1 e).symm
theorem nAt_some {m:Nat} {s:Tx} {v:Nat} (hm:m≤1099511627776) (hv:v<m) (h:s=Lib.decDigits v):nAt m s=some v:=by
 cases hc:nAt m s with
 |none=>
  unfold nAt at hc
  rw [List.find?_eq_none] at hc
  exact absurd (by rw [h];exact beq_self_eq_true _) (hc v (List.mem_range.2 hv))
 |some u=>
  unfold nAt at hc
  have h1:=List.find?_some hc
  have h2:=List.mem_range.1 (List.mem_of_find?_eq_some hc)
  have h3:Lib.decDigits u=s:=beq_iff_eq.1 h1
  rw [h] at h3
  rw [dd_inj (a:=u) (b:=v) (by omega) (by omega) h3]
def stepR (v:BV) (t:Tx):Int×Int:=
 if v.kind=4 then match kAt v.keys t with|some i=>((i:Nat),0)|none=>(0,8)
 else if v.kind=3 then match nAt v.kids.length t with|some i=>((i:Nat),0)|none=>(0,8)
 else (0,10)
theorem index (k n:Int) (s:List UInt8) (kids:List BV) (keys:List (List UInt8)) (hkd:kids.length≤1099511627776) (hky:keys.length≤1099511627776) (hasc:k=4→BV.asc keys=true) (t:Tx) (ht:t.length≤1099511627776) (H:AHeap) (hG:GlobB H) (cs:List Value) (hR:RdV H (.mk k n s kids keys) cs):
  AC Tryz.prog 40 [.agg ⟨cs⟩,.string (bs t)] H (fun r H2=>r= .ret (.tuple ⟨[.int .i64 (stepR (.mk k n s kids keys) t).1,.int .i64 (stepR (.mk k n s kids keys) t).2]⟩)∧Frm [] H H2):=by
 have hfl:=RdV_flat hR
 have hr5:=hR.len
 unfold RdV at hR
 obtain ⟨vk,vs,css,rfl,h1,hL,h3⟩:=hR
 obtain ⟨H1,hH1⟩:∃H1:AHeap,H1=H++ [.cells [.int .i64 k,.int .i64 n,.string (bs s),vk,vs] ⟨27,0,true,0,none⟩]:=⟨_,rfl⟩
 have hb1:H1[H.length]? =some (.cells [.int .i64 k,.int .i64 n,.string (bs s),vk,vs] ⟨27,0,true,0,none⟩):=by rw [hH1,hget0 rfl];rfl
 have hf1:Frm [] H H1:=by rw [hH1];exact Frm.app
 have hk1:Kept H H1:=by rw [hH1];exact .more _ _
 have hG1:GlobB H1:=by rw [hH1];exact hG.more _
 by_cases k4:k=4
 ·subst k4
  have hst:stepR (.mk 4 n s kids keys) t=match kAt keys t with|some i=>((i:Nat),0)|none=>(0,8):=by
   unfold stepR;rw [if_pos (by rfl)];rfl
  rw [hst]
  obtain ⟨i,hlow,hS⟩:=BSearch keys t hky (hasc rfl) vs H1 (h3.kept hk1)
  by_cases hd:keys[i]? =some t
  ·rw [decide_eq_true hd] at hS
   rw [kAt_some hlow hd]
   refine AC.enter Tryz.func40 rfl (by kernel_rfl) 50 rfl [.tmp 4,.tmp 5] rfl (by simp) fun hsc B=> ?_
   repeat first|with_reducible refine kc ?_|((with_reducible first|refine kr ?_ ?_|refine kt ?_ ?_);exact rfl)|((with_reducible refine kf ?_ ?_);exact rfl)|simp only [go_sem,sevalprocAttr,reduceCtorEq,hfl,hr5]|simp (disch:=omega) only [wz]
   rw [← hH1]
   repeat first|with_reducible refine kc ?_|((with_reducible first|refine kr ?_ ?_|refine kt ?_ ?_);exact rfl)|((with_reducible refine kf ?_ ?_);exact rfl)|with_reducible refine hS.use ?_|simp only [go_sem,sevalprocAttr,reduceCtorEq,hb1]|simp (disch:=omega) only [wz]
   exact ⟨_,_,.refl _ _ _,rfl,hf1⟩
  ·rw [decide_eq_false hd] at hS
   rw [kAt_none (hasc rfl) hlow hd]
   refine AC.enter Tryz.func40 rfl (by kernel_rfl) 50 rfl [.tmp 4,.tmp 5] rfl (by simp) fun hsc B=> ?_
   repeat first|with_reducible refine kc ?_|((with_reducible first|refine kr ?_ ?_|refine kt ?_ ?_);exact rfl)|((with_reducible refine kf ?_ ?_);exact rfl)|simp only [go_sem,sevalprocAttr,reduceCtorEq,hfl,hr5]|simp (disch:=omega) only [wz]
   rw [← hH1]
   repeat first|with_reducible refine kc ?_|((with_reducible first|refine kr ?_ ?_|refine kt ?_ ?_);exact rfl)|((with_reducible refine kf ?_ ?_);exact rfl)|with_reducible refine hS.use ?_|simp only [go_sem,sevalprocAttr,reduceCtorEq,hb1]|simp (disch:=omega) only [wz]
   exact ⟨_,_,.refl _ _ _,rfl,hf1⟩
 have e4:(k==4)=false:=by simpa using k4
 by_cases k3:k=3
 ·subst k3
  have hst:stepR (.mk 3 n s kids keys) t=match nAt kids.length t with|some i=>((i:Nat),0)|none=>(0,8):=by
   unfold stepR;exact (if_neg (show ¬(3:Int)=4 by decide)).trans (if_pos rfl)
  rw [hst]
  have hcl:=hL.len
  have q1:∀H' K,lenW Tryz.prog 23 vk H' K=K (.int .i64 (kids.length:Nat)) H':=fun H' K=>by rw [h1.lenT (by simp only [go_sem,sevalprocAttr,reduceCtorEq]),hcl]
  by_cases hok:∃v,Lib.atoiAll t= .ok v
  ·obtain ⟨v,ha⟩:=hok
   have hA:ARet Tryz.prog 64 [.string (bs t)] H1 (.tuple ⟨[.int .i64 v,.nilIface]⟩) H1:=ARet.atoi_ok (H:=H1) Tryz.laysAtoi Tryz.func64 rfl (by kernel_rfl) (s:=t) (by omega) ha
   obtain ⟨b0,b1⟩:=Lib.atoiAll_bounds ha
   have hI:=Itoa v b0 b1 H1 hG1.tab
   have hno:∀u,u<kids.length→t=Lib.decDigits u→v=(u:Int):=fun u hu e=>by
    rw [e,dd_atoi u (by omega)] at ha
    cases ha
    rfl
   cases hit:(Lib.itoa v==t) with
   | false=>
    have hN:nAt kids.length t=none:=nAt_none fun u hu e=>by
     have:=hno u hu e
     subst this
     rw [show Lib.itoa (u:Int)=Lib.decDigits u by unfold Lib.itoa;rw [if_neg (by omega)];rfl,e] at hit
     simp at hit
    rw [hN]
    refine AC.enter Tryz.func40 rfl (by kernel_rfl) 50 rfl [.tmp 4,.tmp 5] rfl (by simp) fun hsc B=> ?_
    repeat first|with_reducible refine kc ?_|((with_reducible first|refine kr ?_ ?_|refine kt ?_ ?_);exact rfl)|((with_reducible refine kf ?_ ?_);exact rfl)|simp only [go_sem,sevalprocAttr,reduceCtorEq,hfl,hr5]|simp (disch:=omega) only [wz]
    rw [← hH1]
    repeat first|with_reducible refine kc ?_|((with_reducible first|refine kr ?_ ?_|refine kt ?_ ?_);exact rfl)|((with_reducible refine kf ?_ ?_);exact rfl)|with_reducible (first|refine hA.use ?_|refine hI.use ?_)|simp only [go_sem,sevalprocAttr,reduceCtorEq,hb1,hit,Bool.not_true,Bool.not_false,exists_eq_left]|simp (disch:=omega) only [wz]
    exact ⟨_,_,.refl _ _ _,rfl,hf1⟩
   | true=>
    by_cases h0:v<0
    ·have hN:nAt kids.length t=none:=nAt_none fun u hu e=>by
      have:=hno u hu e
      omega
     rw [hN]
     refine AC.enter Tryz.func40 rfl (by kernel_rfl) 50 rfl [.tmp 4,.tmp 5] rfl (by simp) fun hsc B=> ?_
     repeat first|with_reducible refine kc ?_|((with_reducible first|refine kr ?_ ?_|refine kt ?_ ?_);exact rfl)|((with_reducible refine kf ?_ ?_);exact rfl)|simp only [go_sem,sevalprocAttr,reduceCtorEq,hfl,hr5]|simp (disch:=omega) only [wz]
     rw [← hH1]
     repeat first|with_reducible refine kc ?_|((with_reducible first|refine kr ?_ ?_|refine kt ?_ ?_);exact rfl)|((with_reducible refine kf ?_ ?_);exact rfl)|with_reducible (first|refine hA.use ?_|refine hI.use ?_)|simp only [go_sem,sevalprocAttr,reduceCtorEq,hb1,hit,Bool.not_true,Bool.not_false,h0,exists_eq_left]|simp (disch:=omega) only [wz]
     exact ⟨_,_,.refl _ _ _,rfl,hf1⟩
    ·by_cases hge:v≥(kids.length:Int)
     ·have hN:nAt kids.length t=none:=nAt_none fun u hu e=>by
       have:=hno u hu e
       omega
      rw [hN]
      refine AC.enter Tryz.func40 rfl (by kernel_rfl) 50 rfl [.tmp 4,.tmp 5] rfl (by simp) fun hsc B=> ?_
      repeat first|with_reducible refine kc ?_|((with_reducible first|refine kr ?_ ?_|refine kt ?_ ?_);exact rfl)|((with_reducible refine kf ?_ ?_);exact rfl)|simp only [go_sem,sevalprocAttr,reduceCtorEq,hfl,hr5]|simp (disch:=omega) only [wz]
      rw [← hH1]
      repeat first|with_reducible refine kc ?_|((with_reducible first|refine kr ?_ ?_|refine kt ?_ ?_);exact rfl)|((with_reducible refine kf ?_ ?_);exact rfl)|with_reducible (first|refine hA.use ?_|refine hI.use ?_)|simp only [go_sem,sevalprocAttr,reduceCtorEq,hb1,hit,Bool.not_true,Bool.not_false,h0,q1,hge,exists_eq_left]|simp (disch:=omega) only [wz]
      exact ⟨_,_,.refl _ _ _,rfl,hf1⟩
     ·obtain ⟨u,rfl⟩:∃u:Nat,v=(u:Int):=⟨v.toNat,by omega⟩
      have hN:nAt kids.length t=some u:=nAt_some hkd (by omega) (by
       have:Lib.itoa (u:Int)=t:=by simpa using hit
       rw [← this];unfold Lib.itoa;rw [if_neg (by omega)];rfl)
      rw [hN]
      refine AC.enter Tryz.func40 rfl (by kernel_rfl) 50 rfl [.tmp 4,.tmp 5] rfl (by simp) fun hsc B=> ?_
      repeat first|with_reducible refine kc ?_|((with_reducible first|refine kr ?_ ?_|refine kt ?_ ?_);exact rfl)|((with_reducible refine kf ?_ ?_);exact rfl)|simp only [go_sem,sevalprocAttr,reduceCtorEq,hfl,hr5]|simp (disch:=omega) only [wz]
      rw [← hH1]
      repeat first|with_reducible refine kc ?_|((with_reducible first|refine kr ?_ ?_|refine kt ?_ ?_);exact rfl)|((with_reducible refine kf ?_ ?_);exact rfl)|with_reducible (first|refine hA.use ?_|refine hI.use ?_)|simp only [go_sem,sevalprocAttr,reduceCtorEq,hb1,hit,Bool.not_true,Bool.not_false,h0,q1,hge,exists_eq_left]|simp (disch:=omega) only [wz]
      exact ⟨_,_,.refl _ _ _,rfl,hf1⟩
  ·have hno:∀v,Lib.atoiAll t≠ .ok v:=fun v e=>hok ⟨v,e⟩
   obtain ⟨n',hN⟩:=ARet.atoi_no Tryz.laysAtoi Tryz.func64 rfl (by kernel_rfl) (s:=t) (by omega) hno
   obtain ⟨e1,t1,v1,g1⟩:=hG1.es
   obtain ⟨e2,t2,v2,g2⟩:=hG1.er
   have hA:ARet Tryz.prog 64 [.string (bs t)] H1 (.tuple ⟨[.int .i64 n',.iface 114 (.pointer (some ⟨H1.length,0,none⟩))]⟩) (H1++ [.dead]):=hN H1 ⟨_,_,_,_,g1⟩ ⟨_,_,_,_,g2⟩
   have hN:nAt kids.length t=none:=nAt_none fun u hu e=>hno u (by rw [e];exact dd_atoi u (by omega))
   rw [hN]
   refine AC.enter Tryz.func40 rfl (by kernel_rfl) 50 rfl [.tmp 4,.tmp 5] rfl (by simp) fun hsc B=> ?_
   repeat first|with_reducible refine kc ?_|((with_reducible first|refine kr ?_ ?_|refine kt ?_ ?_);exact rfl)|((with_reducible refine kf ?_ ?_);exact rfl)|simp only [go_sem,sevalprocAttr,reduceCtorEq,hfl,hr5]|simp (disch:=omega) only [wz]
   rw [← hH1]
   repeat first|with_reducible refine kc ?_|((with_reducible first|refine kr ?_ ?_|refine kt ?_ ?_);exact rfl)|((with_reducible refine kf ?_ ?_);exact rfl)|with_reducible refine hA.use ?_|simp only [go_sem,sevalprocAttr,reduceCtorEq,hb1,exists_eq_left]|simp (disch:=omega) only [wz]
   exact ⟨_,_,.refl _ _ _,rfl,hf1.more⟩
 ·have hst:stepR (.mk k n s kids keys) t=(0,10):=by
   unfold stepR;rw [if_neg (by exact k4),if_neg (by exact k3)]
  rw [hst]
  have e3:(k==3)=false:=by simpa using k3
  refine AC.enter Tryz.func40 rfl (by kernel_rfl) 50 rfl [.tmp 4,.tmp 5] rfl (by simp) fun hsc B=> ?_
  repeat first|with_reducible refine kc ?_|((with_reducible first|refine kr ?_ ?_|refine kt ?_ ?_);exact rfl)|((with_reducible refine kf ?_ ?_);exact rfl)|simp only [go_sem,sevalprocAttr,reduceCtorEq,hfl,hr5]|simp (disch:=omega) only [wz]
  rw [← hH1]
  repeat first|with_reducible refine kc ?_|((with_reducible first|refine kr ?_ ?_|refine kt ?_ ?_);exact rfl)|((with_reducible refine kf ?_ ?_);exact rfl)|simp only [go_sem,sevalprocAttr,reduceCtorEq,hb1,e4,e3]|simp (disch:=omega) only [wz]
  exact ⟨_,_,.refl _ _ _,rfl,hf1⟩
end Go.Proofs.YthcdjconlfdidaaGreatDoor

set_option linter.unusedVariables false
set_option linter.unusedSimpArgs false
set_option maxRecDepth 20000
set_option maxHeartbeats 4000000
namespace Go.Proofs.YthcdjconlfdidaaGreatDoor
open Go Go.Aw Go.Proofs
def goR:BV→List Tx→BV×Int
 |v,[]=>(v,0)
 |v,t::p=>if (stepR v t).2=0 then goR (v.kids.getD (stepR v t).1.toNat .zero) p else (.zero,(stepR v t).2)
def getR (v:BV) (path:List Tx):BV×Int:=if v.valid=true then goR v path else (.zero,1)
theorem form_asc {n:Int} {s:List UInt8} {kids:List BV} {keys:List Tx} {k:Int} (h:(BV.mk k n s kids keys).form=true) (hk:k=4):BV.asc keys=true∧keys.length=kids.length:=by
 subst hk
 rw [form_shape,Bool.and_eq_true] at h
 have h1:=h.1
 unfold shapeB at h1
 dsimp only at h1
 rw [if_neg (by decide),if_neg (by decide),if_neg (by decide),if_pos rfl] at h1
 unfold dictB at h1
 simp only [Bool.and_eq_true,beq_iff_eq] at h1
 refine ⟨?_,h1.1.1.2⟩
 rw [asc_iff,h1.1.2,h1.2]
 simp
theorem stepR_ok {v:BV} {t:Tx} (hf:v.form=true) (h:(stepR v t).2=0):∃i,i<v.kids.length∧(stepR v t).1=(i:Int):=by
 obtain ⟨k,n,s,kids,keys⟩:=v
 unfold stepR at h ⊢
 by_cases h4:k=4
 ·have h4':(BV.mk k n s kids keys).kind=4:=h4
  rw [if_pos h4'] at h ⊢
  cases hk:kAt (BV.mk k n s kids keys).keys t with
  |none=>rw [hk] at h;cases h
  |some i=>
   unfold kAt at hk
   rw [List.findIdx?_eq_some_iff_getElem] at hk
   obtain ⟨hi,_⟩:=hk
   have:=(form_asc hf h4).2
   exact ⟨i,by show i<kids.length;rw [← this];exact hi,rfl⟩
 ·have h4':¬(BV.mk k n s kids keys).kind=4:=h4
  rw [if_neg h4'] at h ⊢
  by_cases h3:k=3
  ·have h3':(BV.mk k n s kids keys).kind=3:=h3
   rw [if_pos h3'] at h ⊢
   cases hk:nAt (BV.mk k n s kids keys).kids.length t with
   |none=>rw [hk] at h;cases h
   |some i=>
    unfold nAt at hk
    exact ⟨i,List.mem_range.1 (List.mem_of_find?_eq_some hk),rfl⟩
  ·have h3':¬(BV.mk k n s kids keys).kind=3:=h3
   rw [if_neg h3'] at h
   cases h
structure Good (v:BV):Prop where
 sz:szV v
 form:v.form=true
theorem Good.kid {v c:BV} (h:Good v) (hc:c∈v.kids):Good c:=by
 obtain ⟨k,n,s,kids,keys⟩:=v
 obtain ⟨h1,h2⟩:=h
 unfold szV at h1
 rw [form_shape,Bool.and_eq_true] at h2
 exact ⟨szL_iff.1 h1.2.2 c hc,BV.formL_iff.1 h2.2 c hc⟩
structure GLp where
 j:Nat
 w:BV
 csw:List Value
 Hc:AHeap
def GLI (H:AHeap) (path:List Tx) (R:BV×Int) (p:GLp):Prop:=
 p.j≤path.length∧p.Hc[H.length]? =some (.cells p.csw ⟨27,0,true,0,none⟩)∧p.Hc[H.length+1]? =some (.cells [.int .i64 0,.int .i64 0,.string (bs []),.slice none 0 0,.slice none 0 0] ⟨27,0,true,0,none⟩)∧
  Frm [] H p.Hc∧RdV p.Hc p.w p.csw∧Good p.w∧goR p.w (path.drop p.j)=R
theorem getW (v:BV) (path:List Tx) (hv:Fine v) (hp:∀t∈path,t.length≤1099511627776) (hpl:path.length≤1099511627776) (H:AHeap) (hG:GlobB H) (cs:List Value) (hR:RdV H v cs) (vp:Value) (hP:RdK H 1 vp (keyC path)):
  AC Tryz.prog 21 [.agg ⟨cs⟩,vp] H (ParseP H (getR v path)):=by
 have hfl:=RdV_flat hR
 have hr5:=hR.len
 have htk5:List.take 5 cs=cs:=List.take_of_length_le (by omega)
 have hkl:(keyC path).length=path.length:=by unfold keyC;simp
 obtain ⟨H1,hH1⟩:∃H1:AHeap,H1=H++ [.cells cs ⟨27,0,true,0,none⟩,.cells [.int .i64 0,.int .i64 0,.string (bs []),.slice none 0 0,.slice none 0 0] ⟨27,0,true,0,none⟩]:=⟨_,rfl⟩
 have hb0:H1[H.length]? =some (.cells cs ⟨27,0,true,0,none⟩):=by rw [hH1,hget0 rfl];rfl
 have hb1:H1[H.length+1]? =some (.cells [.int .i64 0,.int .i64 0,.string (bs []),.slice none 0 0,.slice none 0 0] ⟨27,0,true,0,none⟩):=by rw [hH1,hgetk rfl];rfl
 have hl1:H1.length=H.length+2:=by rw [hH1];simp
 have hf1:Frm [] H H1:=by rw [hH1];exact Frm.app
 have hk1:Kept H H1:=by rw [hH1];exact .more _ _
 have hG1:GlobB H1:=by rw [hH1];exact hG.more _
 have hV:=valid_ v hv H1 cs (hR.kept hk1) hG1.tab
 have hzl:∀cs':List Value,cs'.length=5→putCells [.int .i64 0,.int .i64 0,.string (bs []),.slice none 0 0,.slice none 0 0] 0 cs'=cs':=fun cs' h=>by
  match cs',h with
  |[_,_,_,_,_],_=>rfl
 have q1:∀H' K,lenW Tryz.prog 22 vp H' K=K (.int .i64 (path.length:Nat)) H':=fun H' K=>by rw [hP.lenT (by simp only [go_sem,sevalprocAttr,reduceCtorEq]),hkl]
 unfold getR
 refine AC.enter Tryz.func21 rfl (by kernel_rfl) 38 rfl [.cell 4 27,.tmp 5] rfl (by simp) fun hsc B=> ?_
 repeat first|with_reducible refine kc ?_|((with_reducible first|refine kr ?_ ?_|refine kt ?_ ?_);exact rfl)|((with_reducible refine kf ?_ ?_);exact rfl)|simp only [go_sem,sevalprocAttr,reduceCtorEq,hfl,hr5]|simp (disch:=omega) only [wz]
 rw [← hH1]
 repeat first|with_reducible refine kc ?_|((with_reducible first|refine kr ?_ ?_|refine kt ?_ ?_);exact rfl)|((with_reducible refine kf ?_ ?_);exact rfl)|simp only [go_sem,sevalprocAttr,reduceCtorEq,hb0,htk5,hr5]|simp (disch:=omega) only [wz]
 refine AC.mono hV ?_
 rintro res H2 ⟨rfl,hf2⟩
 have hb02:=hf2.get hb0 (by simp)
 have hb12:=hf2.get hb1 (by simp)
 have hf12:Frm [] H H2:=hf1.trans hf2 (fun x hx=>by cases hx)
 have hl2:=hf2.1
 have hbl2:=lt_of_get hb12
 cases hval:v.valid with
 |false=>
  rw [if_neg (by decide)]
  have g2:∀o:AObj,(H2.set (H.length+1) o)[H.length+1]? =some o:=fun o=>List.getElem?_set_self hbl2
  repeat first|with_reducible refine kc ?_|((with_reducible first|refine kr ?_ ?_|refine kt ?_ ?_);exact rfl)|((with_reducible refine kf ?_ ?_);exact rfl)|simp only [go_sem,sevalprocAttr,reduceCtorEq,hb12,hbl2,g2,putCells,List.set_cons_succ,List.set_cons_zero]|simp (disch:=omega) only [wz]
  exact ⟨_,_,.refl _ _ _,_,rfl,Frm.set hf12 (.inr (by omega)),RdV_zero _⟩
 | true=>
  rw [if_pos rfl]
  have hform:v.form=true:=by
   unfold BV.valid at hval
   simp only [Bool.and_eq_true] at hval
   exact hval.1.1.1
  repeat first|with_reducible refine kc ?_|((with_reducible first|refine kr ?_ ?_|refine kt ?_ ?_);exact rfl)|((with_reducible refine kf ?_ ?_);exact rfl)|simp only [go_sem,sevalprocAttr,reduceCtorEq,q1]|simp (disch:=omega) only [wz]
  refine AWP.loopP (fun p:GLp=>⟨[(2,.pointer (some ⟨H.length,0,none⟩)),(4,.pointer (some ⟨H.length+1,0,none⟩)),(14,vp),(15,.int .i64 (path.length:Nat)),(16,.int .i64 (p.j:Nat))],[],p.Hc⟩)
   (GLI H path (goR v path)) (fun p=>path.length - p.j) ⟨0,v,cs,H2⟩ ?_ ⟨Nat.zero_le _,hb02,hb12,hf12,(hR.kept hk1).kept (Kept.frm hf2 (fun x hx=>by cases hx)),⟨hv.sz,hform⟩,rfl⟩ ?_
  ·exact Weak.env (by simp [envIn,lk_cons,wth_some])
  rintro ⟨j,w,csw,Hc⟩ ⟨hj,hb,hr,hf,hRw,hgood,hgo⟩
  dsimp only at hj hb hr hf hRw hgood hgo ⊢
  rw [← hgo]
  have hkc:Kept H Hc:=Kept.frm hf (fun x hx=>by cases hx)
  have hfw:=RdV_flat hRw
  have hw5:=hRw.len
  have htw:List.take 5 csw=csw:=List.take_of_length_le (by omega)
  have hbl:=lt_of_get hb
  have hrl:=lt_of_get hr
  have g2:∀o:AObj,(Hc.set (H.length+1) o)[H.length+1]? =some o:=fun o=>List.getElem?_set_self hrl
  by_cases hlt:j<path.length
  ·have hlt':(j:Int)<(path.length:Int):=by omega
   obtain ⟨bi,off,cap,cs',k',rfl,hcap,hbi,hown,hesz,hle,htk⟩:=(hP.kept hkc).at_ (keyC_at hlt)
   have hlt2:(j:Int)<((keyC path).length:Int):=by omega
   have hdrop:path.drop j=path[j]::path.drop (j+1):=List.drop_eq_getElem_cons hlt
   have hpj:=hp path[j] (List.getElem_mem hlt)
   have hwj:IntKind.i64.wrap ((j:Int)+1)=((j+1:Nat):Int):=by rw [wi64 (by omega)];omega
   rw [hdrop]
   generalize path[j]=t at*
   have hat2:cs'[off+j]? =some (.string (bs t)):=by
    have h1:=congrArg (fun l=>l[0]?) htk
    simpa using h1
   obtain ⟨k,n,s,kids,keys⟩:=w
   have hsz:=hgood.sz
   unfold szV at hsz
   have hI:=index k n s kids keys hsz.1 (by omega) (fun h=>(form_asc hgood.form h).1) t hpj Hc (hG.frm hf) csw hRw
   repeat first|with_reducible refine kc ?_|((with_reducible first|refine kr ?_ ?_|refine kt ?_ ?_);exact rfl)|((with_reducible refine kf ?_ ?_);exact rfl)|simp only [go_sem,sevalprocAttr,reduceCtorEq,hlt',hlt2,hbi,hat2,hb,hw5,htw]|simp (disch:=omega) only [wz]
   refine AC.mono hI ?_
   rintro res H5 ⟨rfl,hf5⟩
   have hb5:=hf5.get hb (by simp)
   have hr5':=hf5.get hr (by simp)
   have hl5:=hf5.1
   have hrl5:=lt_of_get hr5'
   have hf05:Frm [] H H5:=hf.trans hf5 (fun x hx=>by cases hx)
   have hk5:Kept Hc H5:=Kept.frm hf5 (fun x hx=>by cases hx)
   by_cases he:(stepR (.mk k n s kids keys) t).2=0
   ·obtain ⟨i,hi,hie⟩:=stepR_ok hgood.form he
    have hgr:goR (.mk k n s kids keys) (t::path.drop (j+1))=goR (kids.getD i .zero) (path.drop (j+1)):=by
     rw [goR,if_pos he,hie];rfl
    rw [hgr]
    rw [he,hie]
    dsimp only [BV.kids] at hi
    have hgk:kids.getD i .zero=kids[i]:=by rw [List.getD_eq_getElem?_getD,List.getElem?_eq_getElem hi];rfl
    rw [hgk]
    have hRw5:=hRw.kept hk5
    unfold RdV at hRw5
    obtain ⟨vk,vs,css,rfl,h1,hL,h3⟩:=hRw5
    obtain ⟨r6,hr6,hR6⟩:=hL.at_ (List.getElem?_eq_getElem hi)
    obtain ⟨bk,offk,capk,csk,kk,rfl,hcapk,hbk,hownk,heszk,hlek,htkk⟩:=h1.at_ hr6
    have hi2:(i:Int)<(css.length:Int):=by have:=hL.len;omega
    have hr65:=hR6.len
    have hfl6:=RdV_flat hR6
    have hput:putCells [.int .i64 k,.int .i64 n,.string (bs s),.slice (some ⟨bk,offk,none⟩) css.length capk,vs] 0 r6=r6:=by
     match r6,hr65 with
     |[_,_,_,_,_],_=>rfl
    have hgood2:Good kids[i]:=hgood.kid (List.getElem_mem hi)
    have hbl5:=lt_of_get hb5
    generalize kids[i]=w2 at*
    repeat first|with_reducible refine kc ?_|((with_reducible first|refine kr ?_ ?_|refine kt ?_ ?_);exact rfl)|((with_reducible refine kf ?_ ?_);exact rfl)|simp only [go_sem,sevalprocAttr,reduceCtorEq,hb5,hi2,hbk,hlek,htkk,hr65,hfl6,hput,hbl5,hwj]|simp (disch:=omega) only [wz]
    refine ⟨⟨j+1,w2,r6,H5.set H.length (.cells r6 ⟨27,0,true,0,none⟩)⟩,Weak.env (by simp [envIn,lk_cons,wth_some]),⟨hlt,?_,?_,?_,?_,hgood2,rfl⟩,by dsimp only;omega⟩
    ·exact List.getElem?_set_self hbl5
    ·rw [List.getElem?_set_ne (by omega)];exact hr5'
    ·exact Frm.set hf05 (.inr (Nat.le_refl _))
    ·exact hR6.kept (Kept.set hb5 rfl _)
   ·have hgr:goR (.mk k n s kids keys) (t::path.drop (j+1))= (.zero,(stepR (.mk k n s kids keys) t).2):=by
     rw [goR,if_neg he]
    rw [hgr]
    have g5:∀o:AObj,(H5.set (H.length+1) o)[H.length+1]? =some o:=fun o=>List.getElem?_set_self hrl5
    obtain ⟨e,hee⟩:∃e,e=(stepR (.mk k n s kids keys) t).2:=⟨_,rfl⟩
    rw [← hee] at he ⊢
    have he':(e != 0)=true:=by simpa using he
    repeat first|with_reducible refine kc ?_|((with_reducible first|refine kr ?_ ?_|refine kt ?_ ?_);exact rfl)|((with_reducible refine kf ?_ ?_);exact rfl)|simp only [go_sem,sevalprocAttr,reduceCtorEq,he',Bool.not_false,Bool.not_true,hr5',hrl5,g5,putCells,List.set_cons_succ,List.set_cons_zero]|simp (disch:=omega) only [wz]
    exact ⟨_,_,.refl _ _ _,_,rfl,Frm.set hf05 (.inr (by omega)),RdV_zero _⟩
  ·have hlt':¬(j:Int)<(path.length:Int):=by omega
   have hdrop:path.drop j=[]:=List.drop_eq_nil_of_le (by omega)
   rw [hdrop]
   have hgr:goR w []=(w,0):=by rw [goR]
   rw [hgr]
   have hC:=copied w hgood.sz Hc csw hRw
   repeat first|with_reducible refine kc ?_|((with_reducible first|refine kr ?_ ?_|refine kt ?_ ?_);exact rfl)|((with_reducible refine kf ?_ ?_);exact rfl)|simp only [go_sem,sevalprocAttr,reduceCtorEq,hlt',hb,hw5,htw]|simp (disch:=omega) only [wz]
   refine AC.mono hC ?_
   rintro res H5 ⟨r6,rfl,hf5,hR6⟩
   have hr5':=hf5.get hr (by simp)
   have hrl5:=lt_of_get hr5'
   have hr65:=hR6.len
   have hfl6:=RdV_flat hR6
   have htk6:List.take 5 r6=r6:=List.take_of_length_le (by omega)
   have hput:=hzl r6 hr65
   have g5:∀o:AObj,(H5.set (H.length+1) o)[H.length+1]? =some o:=fun o=>List.getElem?_set_self hrl5
   have hl5:=hf5.1
   repeat first|with_reducible refine kc ?_|((with_reducible first|refine kr ?_ ?_|refine kt ?_ ?_);exact rfl)|((with_reducible refine kf ?_ ?_);exact rfl)|simp only [go_sem,sevalprocAttr,reduceCtorEq,hr5',hrl5,hr65,hfl6,hput,g5,htk6]|simp (disch:=omega) only [wz]
   exact ⟨_,_,.refl _ _ _,_,rfl,Frm.set (hf.trans hf5 (fun x hx=>by cases hx)) (.inr (by omega)),hR6.kept (Kept.set hr5' rfl _)⟩
end Go.Proofs.YthcdjconlfdidaaGreatDoor
