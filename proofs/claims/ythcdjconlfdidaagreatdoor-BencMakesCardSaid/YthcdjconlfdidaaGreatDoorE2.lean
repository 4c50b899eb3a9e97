/-
 The walk of index:where a step of a path leads to.
-/
import Derived.Test.YthcdjconlfdidaaGreatDoorQFM
import Derived.Test.YthcdjconlfdidaaGreatDoorLgM
import Derived.Test.YthcdjconlfdidaaGreatDoorDTM
set_option linter.unusedVariables false
set_option linter.unusedSimpArgs false
set_option maxHeartbeats 4000000
set_option maxRecDepth 20000
namespace Go.Proofs.YthcdjconlfdidaaGreatDoor
open Go Go.Aw Go.Proofs
structure GlobB (H:AHeap):Prop where
 tab:TabH H
 es:∃(e t:TypeId) (v:Value),H[1]? =some (globO e 0 (.iface t v))
 er:∃(e t:TypeId) (v:Value),H[4]? =some (globO e 1 (.iface t v))
theorem GlobB.more {H:AHeap} (h:GlobB H) (X:AHeap):GlobB (H++X):=by
 obtain ⟨h1,⟨a4,a5,a6,h3⟩,⟨a7,a8,a9,h4⟩⟩:=h
 exact ⟨h1.more X,⟨a4,a5,a6,by rw [hgetl (lt_of_get h3)];exact h3⟩,⟨a7,a8,a9,by rw [hgetl (lt_of_get h4)];exact h4⟩⟩
theorem GlobB.frm {H H1:AHeap} (h:GlobB H) (hf:Frm [] H H1):GlobB H1:=by
 obtain ⟨h1,⟨a4,a5,a6,h3⟩,⟨a7,a8,a9,h4⟩⟩:=h
 exact ⟨h1.frm hf (by simp),⟨a4,a5,a6,hf.get h3 (by simp)⟩,⟨a7,a8,a9,hf.get h4 (by simp)⟩⟩
def kAt (l:List Tx) (t:Tx):Option Nat:=l.findIdx? (· ==t)
theorem kAt_some {l:List Tx} {t:Tx} {i:Nat} (hl:Low l t i) (h:l[i]? =some t):kAt l t=some i:=by
 unfold kAt
 rw [List.findIdx?_eq_some_iff_getElem]
 obtain ⟨hi,e⟩:=List.getElem?_eq_some_iff.1 h
 refine ⟨hi,by simp [e],fun j hj=> ?_⟩
 have h1:=hl.lo j _ hj (List.getElem?_eq_getElem (by omega))
 intro h2
 have e2:l[j]'(by omega)=t:=by simpa using h2
 rw [e2,lt_irr] at h1
 cases h1
theorem kAt_none {l:List Tx} {t:Tx} {i:Nat} (hasc:BV.asc l=true) (hl:Low l t i) (h:¬l[i]? =some t):kAt l t=none:=by
 unfold kAt
 rw [List.findIdx?_eq_none_iff]
 intro x hx
 obtain ⟨j,hj,rfl⟩:=List.getElem_of_mem hx
 have ej:=List.getElem?_eq_getElem hj
 rw [beq_eq_false_iff_ne]
 intro e
 rw [e] at ej
 rcases Nat.lt_trichotomy j i with h1|rfl|h1
 ·have:=hl.lo j _ h1 ej
  rw [lt_irr] at this;cases this
 ·exact h ej
 ·have ei:=List.getElem?_eq_getElem (show i<l.length by omega)
  have h2:=hl.hi i _ (Nat.le_refl _) ei
  rw [asc_at hasc i j _ _ h1 ei ej] at h2
  cases h2
def nAt (m:Nat) (s:Tx):Option Nat:=(List.range m).find? fun v=>Lib.decDigits v==s
theorem nAt_none {m:Nat} {s:Tx} (h:∀v,v<m→s≠Lib.decDigits v):nAt m s=none:=by
 unfold nAt
 rw [List.find?_eq_none]
 intro v hv e
 exact h v (List.mem_range.1 hv) (beq_iff_eq.1 e).symm
theorem nAt_some {m:Nat} {s:Tx} {v:Nat} (hm:m≤1099511627776) (hv:v<m) (h:s=Lib.decDigits v):nAt m s=some v:=by
 cases hc:nAt m s with
 |none=>
  unfold nAt at hc
  rw [List.find?_eq_none] at hc
  exact absurd (by rw [h];exact beq_self_eq_true _) (hc v (List.mem_range.2 hv))
 |some u=>
  unfold nAt at hc
  have h1:=List.find?_some hc
  have h2:=List.mem_range.1 (List.mem_of_find?_eq_some hc)
  have h3:Lib.decDigits u=s:=beq_iff_eq.1 h1
  rw [h] at h3
  rw [dd_inj (a:=u) (b:=v) (by omega) (by omega) h3]
def stepR (v:BV) (t:Tx):Int×Int:=
 if v.kind=4 then match kAt v.keys t with|some i=>((i:Nat),0)|none=>(0,8)
 else if v.kind=3 then match nAt v.kids.length t with|some i=>((i:Nat),0)|none=>(0,8)
 else (0,10)
theorem index (k n:Int) (s:List UInt8) (kids:List BV) (keys:List (List UInt8)) (hkd:kids.length≤1099511627776) (hky:keys.length≤1099511627776) (hasc:k=4→BV.asc keys=true) (t:Tx) (ht:t.length≤1099511627776) (H:AHeap) (hG:GlobB H) (cs:List Value) (hR:RdV H (.mk k n s kids keys) cs):
  AC Tryz.prog 40 [.agg ⟨cs⟩,.string (bs t)] H (fun r H2=>r= .ret (.tuple ⟨[.int .i64 (stepR (.mk k n s kids keys) t).1,.int .i64 (stepR (.mk k n s kids keys) t).2]⟩)∧Frm [] H H2):=by
 have hfl:=RdV_flat hR
 have hr5:=hR.len
 unfold RdV at hR
 obtain ⟨vk,vs,css,rfl,h1,hL,h3⟩:=hR
 obtain ⟨H1,hH1⟩:∃H1:AHeap,H1=H++ [.cells [.int .i64 k,.int .i64 n,.string (bs s),vk,vs] ⟨27,0,true,0,none⟩]:=⟨_,rfl⟩
 have hb1:H1[H.length]? =some (.cells [.int .i64 k,.int .i64 n,.string (bs s),vk,vs] ⟨27,0,true,0,none⟩):=by rw [hH1,hget0 rfl];rfl
 have hf1:Frm [] H H1:=by rw [hH1];exact Frm.app
 have hk1:Kept H H1:=by rw [hH1];exact .more _ _
 have hG1:GlobB H1:=by rw [hH1];exact hG.more _
 by_cases k4:k=4
 ·subst k4
  have hst:stepR (.mk 4 n s kids keys) t=match kAt keys t with|some i=>((i:Nat),0)|none=>(0,8):=by
   unfold stepR;rw [if_pos (by rfl)];rfl
  rw [hst]
  obtain ⟨i,hlow,hS⟩:=BSearch keys t hky (hasc rfl) vs H1 (h3.kept hk1)
  by_cases hd:keys[i]? =some t
  ·rw [decide_eq_true hd] at hS
   rw [kAt_some hlow hd]
   refine AC.enter Tryz.func40 rfl (by kernel_rfl) 50 rfl [.tmp 4,.tmp 5] rfl (by simp) fun hsc B=> ?_
   repeat first|with_reducible refine kc ?_|((with_reducible first|refine kr ?_ ?_|refine kt ?_ ?_);exact rfl)|((with_reducible refine kf ?_ ?_);exact rfl)|simp only [go_sem,sevalprocAttr,reduceCtorEq,hfl,hr5]|simp (disch:=omega) only [wz]
   rw [← hH1]
   repeat first|with_reducible refine kc ?_|((with_reducible first|refine kr ?_ ?_|refine kt ?_ ?_);exact rfl)|((with_reducible refine kf ?_ ?_);exact rfl)|with_reducible refine hS.use ?_|simp only [go_sem,sevalprocAttr,reduceCtorEq,hb1]|simp (disch:=omega) only [wz]
   exact ⟨_,_,.refl _ _ _,rfl,hf1⟩
  ·rw [decide_eq_false hd] at hS
   rw [kAt_none (hasc rfl) hlow hd]
   refine AC.enter Tryz.func40 rfl (by kernel_rfl) 50 rfl [.tmp 4,.tmp 5] rfl (by simp) fun hsc B=> ?_
   repeat first|with_reducible refine kc ?_|((with_reducible first|refine kr ?_ ?_|refine kt ?_ ?_);exact rfl)|((with_reducible refine kf ?_ ?_);exact rfl)|simp only [go_sem,sevalprocAttr,reduceCtorEq,hfl,hr5]|simp (disch:=omega) only [wz]
   rw [← hH1]
   repeat first|with_reducible refine kc ?_|((with_reducible first|refine kr ?_ ?_|refine kt ?_ ?_);exact rfl)|((with_reducible refine kf ?_ ?_);exact rfl)|with_reducible refine hS.use ?_|simp only [go_sem,sevalprocAttr,reduceCtorEq,hb1]|simp (disch:=omega) only [wz]
   exact ⟨_,_,.refl _ _ _,rfl,hf1⟩
 have e4:(k==4)=false:=by simpa using k4
 by_cases k3:k=3
 ·subst k3
  have hst:stepR (.mk 3 n s kids keys) t=match nAt kids.length t with|some i=>((i:Nat),0)|none=>(0,8):=by
   unfold stepR;exact (if_neg (show ¬(3:Int)=4 by decide)).trans (if_pos rfl)
  rw [hst]
  have hcl:=hL.len
  have q1:∀H' K,lenW Tryz.prog 23 vk H' K=K (.int .i64 (kids.length:Nat)) H':=fun H' K=>by rw [h1.lenT (by simp only [go_sem,sevalprocAttr,reduceCtorEq]),hcl]
  by_cases hok:∃v,Lib.atoiAll t= .ok v
  ·obtain ⟨v,ha⟩:=hok
   have hA:ARet Tryz.prog 64 [.string (bs t)] H1 (.tuple ⟨[.int .i64 v,.nilIface]⟩) H1:=ARet.atoi_ok (H:=H1) Tryz.laysAtoi Tryz.func64 rfl (by kernel_rfl) (s:=t) (by omega) ha
   obtain ⟨b0,b1⟩:=Lib.atoiAll_bounds ha
   have hI:=Itoa v b0 b1 H1 hG1.tab
   have hno:∀u,u<kids.length→t=Lib.decDigits u→v=(u:Int):=fun u hu e=>by
    rw [e,dd_atoi u (by omega)] at ha
    cases ha
    rfl
   cases hit:(Lib.itoa v==t) with
   | false=>
    have hN:nAt kids.length t=none:=nAt_none fun u hu e=>by
     have:=hno u hu e
     subst this
     rw [show Lib.itoa (u:Int)=Lib.decDigits u by unfold Lib.itoa;rw [if_neg (by omega)];rfl,e] at hit
     simp at hit
    rw [hN]
    refine AC.enter Tryz.func40 rfl (by kernel_rfl) 50 rfl [.tmp 4,.tmp 5] rfl (by simp) fun hsc B=> ?_
    repeat first|with_reducible refine kc ?_|((with_reducible first|refine kr ?_ ?_|refine kt ?_ ?_);exact rfl)|((with_reducible refine kf ?_ ?_);exact rfl)|simp only [go_sem,sevalprocAttr,reduceCtorEq,hfl,hr5]|simp (disch:=omega) only [wz]
    rw [← hH1]
    repeat first|with_reducible refine kc ?_|((with_reducible first|refine kr ?_ ?_|refine kt ?_ ?_);exact rfl)|((with_reducible refine kf ?_ ?_);exact rfl)|with_reducible (first|refine hA.use ?_|refine hI.use ?_)|simp only [go_sem,sevalprocAttr,reduceCtorEq,hb1,hit,Bool.not_true,Bool.not_false,exists_eq_left]|simp (disch:=omega) only [wz]
    exact ⟨_,_,.refl _ _ _,rfl,hf1⟩
   | true=>
    by_cases h0:v<0
    ·have hN:nAt kids.length t=none:=nAt_none fun u hu e=>by
      have:=hno u hu e
      omega
     rw [hN]
     refine AC.enter Tryz.func40 rfl (by kernel_rfl) 50 rfl [.tmp 4,.tmp 5] rfl (by simp) fun hsc B=> ?_
     repeat first|with_reducible refine kc ?_|((with_reducible first|refine kr ?_ ?_|refine kt ?_ ?_);exact rfl)|((with_reducible refine kf ?_ ?_);exact rfl)|simp only [go_sem,sevalprocAttr,reduceCtorEq,hfl,hr5]|simp (disch:=omega) only [wz]
     rw [← hH1]
     repeat first|with_reducible refine kc ?_|((with_reducible first|refine kr ?_ ?_|refine kt ?_ ?_);exact rfl)|((with_reducible refine kf ?_ ?_);exact rfl)|with_reducible (first|refine hA.use ?_|refine hI.use ?_)|simp only [go_sem,sevalprocAttr,reduceCtorEq,hb1,hit,Bool.not_true,Bool.not_false,h0,exists_eq_left]|simp (disch:=omega) only [wz]
     exact ⟨_,_,.refl _ _ _,rfl,hf1⟩
    ·by_cases hge:v≥(kids.length:Int)
     ·have hN:nAt kids.length t=none:=nAt_none fun u hu e=>by
       have:=hno u hu e
       omega
      rw [hN]
      refine AC.enter Tryz.func40 rfl (by kernel_rfl) 50 rfl [.tmp 4,.tmp 5] rfl (by simp) fun hsc B=> ?_
      repeat first|with_reducible refine kc ?_|((with_reducible first|refine kr ?_ ?_|refine kt ?_ ?_);exact rfl)|((with_reducible refine kf ?_ ?_);exact rfl)|simp only [go_sem,sevalprocAttr,reduceCtorEq,hfl,hr5]|simp (disch:=omega) only [wz]
      rw [← hH1]
      repeat first|with_reducible refine kc ?_|((with_reducible first|refine kr ?_ ?_|refine kt ?_ ?_);exact rfl)|((with_reducible refine kf ?_ ?_);exact rfl)|with_reducible (first|refine hA.use ?_|refine hI.use ?_)|simp only [go_sem,sevalprocAttr,reduceCtorEq,hb1,hit,Bool.not_true,Bool.not_false,h0,q1,hge,exists_eq_left]|simp (disch:=omega) only [wz]
      exact ⟨_,_,.refl _ _ _,rfl,hf1⟩
     ·obtain ⟨u,rfl⟩:∃u:Nat,v=(u:Int):=⟨v.toNat,by omega⟩
      have hN:nAt kids.length t=some u:=nAt_some hkd (by omega) (by
       have:Lib.itoa (u:Int)=t:=by simpa using hit
       rw [← this];unfold Lib.itoa;rw [if_neg (by omega)];rfl)
      rw [hN]
      refine AC.enter Tryz.func40 rfl (by kernel_rfl) 50 rfl [.tmp 4,.tmp 5] rfl (by simp) fun hsc B=> ?_
      repeat first|with_reducible refine kc ?_|((with_reducible first|refine kr ?_ ?_|refine kt ?_ ?_);exact rfl)|((with_reducible refine kf ?_ ?_);exact rfl)|simp only [go_sem,sevalprocAttr,reduceCtorEq,hfl,hr5]|simp (disch:=omega) only [wz]
      rw [← hH1]
      repeat first|with_reducible refine kc ?_|((with_reducible first|refine kr ?_ ?_|refine kt ?_ ?_);exact rfl)|((with_reducible refine kf ?_ ?_);exact rfl)|with_reducible (first|refine hA.use ?_|refine hI.use ?_)|simp only [go_sem,sevalprocAttr,reduceCtorEq,hb1,hit,Bool.not_true,Bool.not_false,h0,q1,hge,exists_eq_left]|simp (disch:=omega) only [wz]
      exact ⟨_,_,.refl _ _ _,rfl,hf1⟩
  ·have hno:∀v,Lib.atoiAll t≠ .ok v:=fun v e=>hok ⟨v,e⟩
   obtain ⟨n',hN⟩:=ARet.atoi_no Tryz.laysAtoi Tryz.func64 rfl (by kernel_rfl) (s:=t) (by omega) hno
   obtain ⟨e1,t1,v1,g1⟩:=hG1.es
   obtain ⟨e2,t2,v2,g2⟩:=hG1.er
   have hA:ARet Tryz.prog 64 [.string (bs t)] H1 (.tuple ⟨[.int .i64 n',.iface 114 (.pointer (some ⟨H1.length,0,none⟩))]⟩) (H1++ [.dead]):=hN H1 ⟨_,_,_,_,g1⟩ ⟨_,_,_,_,g2⟩
   have hN:nAt kids.length t=none:=nAt_none fun u hu e=>hno u (by rw [e];exact dd_atoi u (by omega))
   rw [hN]
   refine AC.enter Tryz.func40 rfl (by kernel_rfl) 50 rfl [.tmp 4,.tmp 5] rfl (by simp) fun hsc B=> ?_
   repeat first|with_reducible refine kc ?_|((with_reducible first|refine kr ?_ ?_|refine kt ?_ ?_);exact rfl)|((with_reducible refine kf ?_ ?_);exact rfl)|simp only [go_sem,sevalprocAttr,reduceCtorEq,hfl,hr5]|simp (disch:=omega) only [wz]
   rw [← hH1]
   repeat first|with_reducible refine kc ?_|((with_reducible first|refine kr ?_ ?_|refine kt ?_ ?_);exact rfl)|((with_reducible refine kf ?_ ?_);exact rfl)|with_reducible refine hA.use ?_|simp only [go_sem,sevalprocAttr,reduceCtorEq,hb1,exists_eq_left]|simp (disch:=omega) only [wz]
   exact ⟨_,_,.refl _ _ _,rfl,hf1.more⟩
 ·have hst:stepR (.mk k n s kids keys) t=(0,10):=by
   unfold stepR;rw [if_neg (by exact k4),if_neg (by exact k3)]
  rw [hst]
  have e3:(k==3)=false:=by simpa using k3
  refine AC.enter Tryz.func40 rfl (by kernel_rfl) 50 rfl [.tmp 4,.tmp 5] rfl (by simp) fun hsc B=> ?_
  repeat first|with_reducible refine kc ?_|((with_reducible first|refine kr ?_ ?_|refine kt ?_ ?_);exact rfl)|((with_reducible refine kf ?_ ?_);exact rfl)|simp only [go_sem,sevalprocAttr,reduceCtorEq,hfl,hr5]|simp (disch:=omega) only [wz]
  rw [← hH1]
  repeat first|with_reducible refine kc ?_|((with_reducible first|refine kr ?_ ?_|refine kt ?_ ?_);exact rfl)|((with_reducible refine kf ?_ ?_);exact rfl)|simp only [go_sem,sevalprocAttr,reduceCtorEq,hb1,e4,e3]|simp (disch:=omega) only [wz]
  exact ⟨_,_,.refl _ _ _,rfl,hf1⟩
end Go.Proofs.YthcdjconlfdidaaGreatDoor
