/-
 The walk of the reader of bencoded values:values without parts;what stands while a list is read.
-/
import Derived.Test.YthcdjconlfdidaaGreatDoorD3
set_option linter.unusedVariables false
set_option linter.unusedSimpArgs false
set_option maxRecDepth 20000
set_option maxHeartbeats 4000000
namespace Go.Proofs.YthcdjconlfdidaaGreatDoor
open Go Go.Aw Go.Proofs
def ValP (s:List UInt8) (r:Nat) (H:AHeap):Rr BV→ARes→AHeap→Prop
 | .ok v j n,res,H1=>∃cs,res= .ret (.agg ⟨cs⟩)∧Frm [r] H H1∧H1[r]? =some (rdO s j n)∧RdV H1 v cs
 | .bad a e,res,H1=>res= .pan (stopV a e)∧Frm [r] H H1
def zeroC:List Value:= [.int .i64 0,.int .i64 0,.string (bs []),.slice none 0 0,.slice none 0 0]
theorem value0 (s:List UInt8) (hs:s.length≤65536) (lv r i n:Nat) (hlv:lv≤12) (hi:i≤s.length) (hn:n≤1000) (H:AHeap) (hr:H[r]? =some (rdO s i n))
  (hk:∀c lv',lv=lv'+1→s[i]? =some c→begins c=true→n+1≤1000→dig c=false→c≠105→AC Tryz.prog 70 [.pointer (some ⟨r,0,none⟩),.int .i64 (lv:Nat)] H (ValP s r H (restR (valR s lv') s c i (n+1)))):
  AC Tryz.prog 70 [.pointer (some ⟨r,0,none⟩),.int .i64 (lv:Nat)] H (ValP s r H (valR s lv i n)):=by
 have hrl:=lt_of_get hr
 obtain ⟨H1,hH1⟩:∃H1:AHeap,H1=H++ [.cells [.int .i64 0,.int .i64 0,.string (bs []),.slice none 0 0,.slice none 0 0] ⟨27,0,true,0,none⟩]:=⟨_,rfl⟩
 have hr1:H1[r]? =some (rdO s i n):=by rw [hH1,hgetl hrl];exact hr
 have hrl1:=lt_of_get hr1
 have hf1:Frm [r] H H1:=by rw [hH1];exact Frm.app
 have hb1:H1[H.length]? =some (.cells [.int .i64 0,.int .i64 0,.string (bs []),.slice none 0 0,.slice none 0 0] ⟨27,0,true,0,none⟩):=by rw [hH1,hget0 rfl];rfl
 have hbl1:=lt_of_get hb1
 have hnr:H.length≠r:=by omega
 cases hc:s[i]? with
 | none=>
  have hle:s.length≤i:=by
   rcases Nat.lt_or_ge i s.length with h|h
   ·rw [List.getElem?_eq_getElem h] at hc;cases hc
   ·exact h
  have hN:=nowEnd s r i n hs hle _ hr1
  have hT:valR s lv i n= .bad s.length 2:=by cases lv<;> (unfold valR;rw [hc])
  rw [hT]
  refine AC.enter Tryz.func70 rfl (by kernel_rfl) 131 rfl [.cell 4 27] rfl (by simp) fun hsc B=> ?_
  repeat first|with_reducible refine kc ?_|((with_reducible first|refine kr ?_ ?_|refine kt ?_ ?_);exact rfl)|((with_reducible refine kf ?_ ?_);exact rfl)|simp only [go_sem,sevalprocAttr,reduceCtorEq]|simp (disch:=omega) only [wz]
  rw [← hH1]
  repeat first|with_reducible refine kc ?_|((with_reducible first|refine kr ?_ ?_|refine kt ?_ ?_);exact rfl)|((with_reducible refine kf ?_ ?_);exact rfl)|with_reducible refine hN.use ?_|simp only [go_sem,sevalprocAttr,reduceCtorEq]|simp (disch:=omega) only [wz]
  exact ⟨_,_,.refl _ _ _,rfl,hf1⟩
 | some c=>
  have hlt:=(List.getElem?_eq_some_iff.1 hc).1
  have hN:=nowOk s r i n c hs hc _ hr1
  have hD:=digit c
  have hF:=fail i 2 H1
  have e105:((c.toNat:Int) != 105)= !(c==105):=congrArg (!·) (u8b (n:=105) rfl)
  have e108:((c.toNat:Int) != 108)= !(c==108):=congrArg (!·) (u8b (n:=108) rfl)
  have e100:((c.toNat:Int) != 100)= !(c==100):=congrArg (!·) (u8b (n:=100) rfl)
  have hr10:=hr1
  unfold rdO at hr10
  cases hb:begins c with
  |false=>
   have hT:valR s lv i n= .bad i 2:=by cases lv<;> (unfold valR;rw [hc];simp only;rw [if_pos hb])
   unfold begins at hb
   simp only [Bool.or_eq_false_iff] at hb
   obtain ⟨⟨⟨b1,b2⟩,b3⟩,b4⟩:=hb
   rw [b1] at e105
   rw [b2] at e108
   rw [b3] at e100
   rw [b4] at hD
   rw [hT]
   refine AC.enter Tryz.func70 rfl (by kernel_rfl) 131 rfl [.cell 4 27] rfl (by simp) fun hsc B=> ?_
   repeat first|with_reducible refine kc ?_|((with_reducible first|refine kr ?_ ?_|refine kt ?_ ?_);exact rfl)|((with_reducible refine kf ?_ ?_);exact rfl)|simp only [go_sem,sevalprocAttr,reduceCtorEq]|simp (disch:=omega) only [wz]
   rw [← hH1]
   repeat first|with_reducible refine kc ?_|((with_reducible first|refine kr ?_ ?_|refine kt ?_ ?_);exact rfl)|((with_reducible refine kf ?_ ?_);exact rfl)|with_reducible (first|refine hN.use ?_|refine (hD _).use ?_|refine hF.use ?_)|simp only [go_sem,sevalprocAttr,reduceCtorEq,e105,e108,e100,Bool.not_false,Bool.not_true,hr10,hrl1]|simp (disch:=omega) only [wz]
   exact ⟨_,_,.refl _ _ _,rfl,hf1⟩
  | true =>
   have hcase:c=105∨(c≠105∧c=108)∨(c≠105∧c≠108∧c=100)∨(c≠105∧c≠108∧c≠100∧dig c=true):=by
    by_cases k1:c=105
    ·exact .inl k1
    ·by_cases k2:c=108
     ·exact .inr (.inl ⟨k1,k2⟩)
     ·by_cases k3:c=100
      ·exact .inr (.inr (.inl ⟨k1,k2,k3⟩))
      ·unfold begins at hb
       simp [k1,k2,k3] at hb
       exact .inr (.inr (.inr ⟨k1,k2,k3,hb⟩))
   have hwn:IntKind.i64.wrap ((n:Int)+1)=((n+1:Nat):Int):=by rw [wi64 (by omega)];omega
   by_cases hlim:1000<n+1∨lv=0
   ·have hT:valR s lv i n= .bad i 4:=by
     cases lv with
     |zero=>unfold valR;rw [hc];simp only;rw [if_neg (by rw [hb];decide)]
     |succ lv=>unfold valR;rw [hc];simp only;rw [if_neg (by rw [hb];decide),if_pos (by omega)]
    have hF4:=fail i 4 (H1.set r (rdO s i (n+1)))
    unfold rdO at hF4
    rw [hT]
    refine AC.enter Tryz.func70 rfl (by kernel_rfl) 131 rfl [.cell 4 27] rfl (by simp) fun hsc B=> ?_
    repeat first|with_reducible refine kc ?_|((with_reducible first|refine kr ?_ ?_|refine kt ?_ ?_);exact rfl)|((with_reducible refine kf ?_ ?_);exact rfl)|simp only [go_sem,sevalprocAttr,reduceCtorEq]|simp (disch:=omega) only [wz]
    rw [← hH1]
    repeat first|with_reducible refine AWP.seqJ (x:= .seq (.region 2 _ _) _) ⟨[(0,.pointer (some ⟨r,0,none⟩)),(1,.int .i64 (lv:Nat)),(4,.pointer (some ⟨H.length,0,none⟩)),(5,.int .u8 c.toNat)],[],H1⟩ ?_ ?_|with_reducible refine kc ?_|((with_reducible first|refine kr ?_ ?_|refine kt ?_ ?_);exact rfl)|((with_reducible refine kf ?_ ?_);exact rfl)|with_reducible refine hN.use ?_|simp only [go_sem,sevalprocAttr,reduceCtorEq]|simp (disch:=omega) only [wz]
    ·rcases hcase with k1|⟨k1,k2⟩|⟨k1,k2,k3⟩|⟨k1,k2,k3,k4⟩
     ·rw [show (c==105)=true by rw [k1];rfl] at e105
      repeat first|with_reducible refine kc ?_|((with_reducible first|refine kr ?_ ?_|refine kt ?_ ?_);exact rfl)|((with_reducible refine kf ?_ ?_);exact rfl)|simp only [go_sem,sevalprocAttr,reduceCtorEq,e105,Bool.not_false,Bool.not_true]|simp (disch:=omega) only [wz]
      exact Weak.env (by simp [envIn,lk_cons,wth_some])
     ·rw [show (c==105)=false by simpa using k1] at e105
      rw [show (c==108)=true by rw [k2];rfl] at e108
      repeat first|with_reducible refine kc ?_|((with_reducible first|refine kr ?_ ?_|refine kt ?_ ?_);exact rfl)|((with_reducible refine kf ?_ ?_);exact rfl)|simp only [go_sem,sevalprocAttr,reduceCtorEq,e105,e108,Bool.not_false,Bool.not_true]|simp (disch:=omega) only [wz]
      exact Weak.env (by simp [envIn,lk_cons,wth_some])
     ·rw [show (c==105)=false by simpa using k1] at e105
      rw [show (c==108)=false by simpa using k2] at e108
      rw [show (c==100)=true by rw [k3];rfl] at e100
      repeat first|with_reducible refine kc ?_|((with_reducible first|refine kr ?_ ?_|refine kt ?_ ?_);exact rfl)|((with_reducible refine kf ?_ ?_);exact rfl)|simp only [go_sem,sevalprocAttr,reduceCtorEq,e105,e108,e100,Bool.not_false,Bool.not_true]|simp (disch:=omega) only [wz]
      exact Weak.env (by simp [envIn,lk_cons,wth_some])
     ·rw [show (c==105)=false by simpa using k1] at e105
      rw [show (c==108)=false by simpa using k2] at e108
      rw [show (c==100)=false by simpa using k3] at e100
      have hD1:=digit c
      rw [k4] at hD1
      repeat first|with_reducible refine kc ?_|((with_reducible first|refine kr ?_ ?_|refine kt ?_ ?_);exact rfl)|((with_reducible refine kf ?_ ?_);exact rfl)|with_reducible refine (hD1 _).use ?_|simp only [go_sem,sevalprocAttr,reduceCtorEq,e105,e108,e100,Bool.not_false,Bool.not_true]|simp (disch:=omega) only [wz]
      exact Weak.env (by simp [envIn,lk_cons,wth_some])
    by_cases hl1:1000<n+1
    ·have hl1':((n+1:Nat):Int)>1000:=by omega
     repeat first|with_reducible refine kc ?_|((with_reducible first|refine kr ?_ ?_|refine kt ?_ ?_);exact rfl)|((with_reducible refine kf ?_ ?_);exact rfl)|with_reducible refine hF4.use ?_|simp only [go_sem,sevalprocAttr,reduceCtorEq,hr10,hrl1,hwn,hl1',hsets,List.length_set,List.set_cons_succ,List.set_cons_zero]|simp (disch:=omega) only [wz]
     exact ⟨_,_,.refl _ _ _,rfl,Frm.set hf1 (.inl (by simp))⟩
    ·have hl1':¬((n+1:Nat):Int)>1000:=by omega
     have hl2':(lv:Int)<1:=by omega
     repeat first|with_reducible refine kc ?_|((with_reducible first|refine kr ?_ ?_|refine kt ?_ ?_);exact rfl)|((with_reducible refine kf ?_ ?_);exact rfl)|with_reducible refine hF4.use ?_|simp only [go_sem,sevalprocAttr,reduceCtorEq,hr10,hrl1,hwn,hl1',hl2',hsets,List.length_set,List.set_cons_succ,List.set_cons_zero]|simp (disch:=omega) only [wz]
     exact ⟨_,_,.refl _ _ _,rfl,Frm.set hf1 (.inl (by simp))⟩
   ·obtain ⟨lv',rfl⟩:∃k,lv=k+1:=⟨lv - 1,by omega⟩
    have hT:valR s (lv'+1) i n=restR (valR s lv') s c i (n+1):=by
     conv=>lhs;unfold valR
     rw [hc];simp only;rw [if_neg (by rw [hb];decide),if_neg (by omega)]
    have hl1':¬((n+1:Nat):Int)>1000:=by omega
    have hl2':¬((lv'+1:Nat):Int)<1:=by omega
    cases hdg:dig c with
    | true=>
     have hX:=text s r i (n+1) hs (by omega) (H1.set r (rdO s i (n+1))) (hsets hrl1 _)
     have hR:restR (valR s lv') s c i (n+1)=match textR s i with
       | .bad a e=> .bad a e
       | .ok t j _=> .ok (.mk 2 0 t [] []) j (n+1):=by unfold restR;rw [if_pos hdg];rfl
     rw [hdg] at hD
     unfold rdO at hX
     cases ht:textR s i with
     | bad a e=>
      rw [ht] at hX hR
      rw [hT,hR]
      refine AC.enter Tryz.func70 rfl (by kernel_rfl) 131 rfl [.cell 4 27] rfl (by simp) fun hsc B=> ?_
      repeat first|with_reducible refine kc ?_|((with_reducible first|refine kr ?_ ?_|refine kt ?_ ?_);exact rfl)|((with_reducible refine kf ?_ ?_);exact rfl)|simp only [go_sem,sevalprocAttr,reduceCtorEq]|simp (disch:=omega) only [wz]
      rw [← hH1]
      repeat first|with_reducible refine AWP.seqJ (x:= .seq (.region 2 _ _) _) ⟨[(0,.pointer (some ⟨r,0,none⟩)),(1,.int .i64 (lv'+1:Nat)),(4,.pointer (some ⟨H.length,0,none⟩)),(5,.int .u8 c.toNat)],[],H1⟩ ?_ ?_|with_reducible refine kc ?_|((with_reducible first|refine kr ?_ ?_|refine kt ?_ ?_);exact rfl)|((with_reducible refine kf ?_ ?_);exact rfl)|with_reducible refine hN.use ?_|simp only [go_sem,sevalprocAttr,reduceCtorEq]|simp (disch:=omega) only [wz]
      ·rcases hcase with k1|⟨k1,k2⟩|⟨k1,k2,k3⟩|⟨k1,k2,k3,k4⟩
       ·rw [show (c==105)=true by rw [k1];rfl] at e105
        repeat first|with_reducible refine kc ?_|((with_reducible first|refine kr ?_ ?_|refine kt ?_ ?_);exact rfl)|((with_reducible refine kf ?_ ?_);exact rfl)|simp only [go_sem,sevalprocAttr,reduceCtorEq,e105,Bool.not_false,Bool.not_true]|simp (disch:=omega) only [wz]
        exact Weak.env (by simp [envIn,lk_cons,wth_some])
       ·rw [show (c==105)=false by simpa using k1] at e105
        rw [show (c==108)=true by rw [k2];rfl] at e108
        repeat first|with_reducible refine kc ?_|((with_reducible first|refine kr ?_ ?_|refine kt ?_ ?_);exact rfl)|((with_reducible refine kf ?_ ?_);exact rfl)|simp only [go_sem,sevalprocAttr,reduceCtorEq,e105,e108,Bool.not_false,Bool.not_true]|simp (disch:=omega) only [wz]
        exact Weak.env (by simp [envIn,lk_cons,wth_some])
       ·rw [show (c==105)=false by simpa using k1] at e105
        rw [show (c==108)=false by simpa using k2] at e108
        rw [show (c==100)=true by rw [k3];rfl] at e100
        repeat first|with_reducible refine kc ?_|((with_reducible first|refine kr ?_ ?_|refine kt ?_ ?_);exact rfl)|((with_reducible refine kf ?_ ?_);exact rfl)|simp only [go_sem,sevalprocAttr,reduceCtorEq,e105,e108,e100,Bool.not_false,Bool.not_true]|simp (disch:=omega) only [wz]
        exact Weak.env (by simp [envIn,lk_cons,wth_some])
       ·rw [show (c==105)=false by simpa using k1] at e105
        rw [show (c==108)=false by simpa using k2] at e108
        rw [show (c==100)=false by simpa using k3] at e100
        have hD1:=digit c
        rw [k4] at hD1
        repeat first|with_reducible refine kc ?_|((with_reducible first|refine kr ?_ ?_|refine kt ?_ ?_);exact rfl)|((with_reducible refine kf ?_ ?_);exact rfl)|with_reducible refine (hD1 _).use ?_|simp only [go_sem,sevalprocAttr,reduceCtorEq,e105,e108,e100,Bool.not_false,Bool.not_true]|simp (disch:=omega) only [wz]
        exact Weak.env (by simp [envIn,lk_cons,wth_some])
      repeat first|with_reducible refine kc ?_|((with_reducible first|refine kr ?_ ?_|refine kt ?_ ?_);exact rfl)|((with_reducible refine kf ?_ ?_);exact rfl)|with_reducible refine (hD _).use ?_|simp only [go_sem,sevalprocAttr,reduceCtorEq,hr10,hrl1,hwn,hl1',hl2',hsets,List.length_set,List.set_cons_succ,List.set_cons_zero]|simp (disch:=omega) only [wz]
      refine AC.mono hX ?_
      rintro res H2 ⟨rfl,q,rfl⟩
      repeat first|with_reducible refine kc ?_|((with_reducible first|refine kr ?_ ?_|refine kt ?_ ?_);exact rfl)|((with_reducible refine kf ?_ ?_);exact rfl)|simp only [go_sem,sevalprocAttr,reduceCtorEq]|simp (disch:=omega) only [wz]
      refine ⟨_,_,.refl _ _ _,rfl,?_⟩
      exact Frm.set hf1 (.inl (by simp))
     | ok t j x=>
      rw [ht] at hX hR
      rw [hT,hR]
      refine AC.enter Tryz.func70 rfl (by kernel_rfl) 131 rfl [.cell 4 27] rfl (by simp) fun hsc B=> ?_
      repeat first|with_reducible refine kc ?_|((with_reducible first|refine kr ?_ ?_|refine kt ?_ ?_);exact rfl)|((with_reducible refine kf ?_ ?_);exact rfl)|simp only [go_sem,sevalprocAttr,reduceCtorEq]|simp (disch:=omega) only [wz]
      rw [← hH1]
      repeat first|with_reducible refine AWP.seqJ (x:= .seq (.region 2 _ _) _) ⟨[(0,.pointer (some ⟨r,0,none⟩)),(1,.int .i64 (lv'+1:Nat)),(4,.pointer (some ⟨H.length,0,none⟩)),(5,.int .u8 c.toNat)],[],H1⟩ ?_ ?_|with_reducible refine kc ?_|((with_reducible first|refine kr ?_ ?_|refine kt ?_ ?_);exact rfl)|((with_reducible refine kf ?_ ?_);exact rfl)|with_reducible refine hN.use ?_|simp only [go_sem,sevalprocAttr,reduceCtorEq]|simp (disch:=omega) only [wz]
      ·rcases hcase with k1|⟨k1,k2⟩|⟨k1,k2,k3⟩|⟨k1,k2,k3,k4⟩
       ·rw [show (c==105)=true by rw [k1];rfl] at e105
        repeat first|with_reducible refine kc ?_|((with_reducible first|refine kr ?_ ?_|refine kt ?_ ?_);exact rfl)|((with_reducible refine kf ?_ ?_);exact rfl)|simp only [go_sem,sevalprocAttr,reduceCtorEq,e105,Bool.not_false,Bool.not_true]|simp (disch:=omega) only [wz]
        exact Weak.env (by simp [envIn,lk_cons,wth_some])
       ·rw [show (c==105)=false by simpa using k1] at e105
        rw [show (c==108)=true by rw [k2];rfl] at e108
        repeat first|with_reducible refine kc ?_|((with_reducible first|refine kr ?_ ?_|refine kt ?_ ?_);exact rfl)|((with_reducible refine kf ?_ ?_);exact rfl)|simp only [go_sem,sevalprocAttr,reduceCtorEq,e105,e108,Bool.not_false,Bool.not_true]|simp (disch:=omega) only [wz]
        exact Weak.env (by simp [envIn,lk_cons,wth_some])
       ·rw [show (c==105)=false by simpa using k1] at e105
        rw [show (c==108)=false by simpa using k2] at e108
        rw [show (c==100)=true by rw [k3];rfl] at e100
        repeat first|with_reducible refine kc ?_|((with_reducible first|refine kr ?_ ?_|refine kt ?_ ?_);exact rfl)|((with_reducible refine kf ?_ ?_);exact rfl)|simp only [go_sem,sevalprocAttr,reduceCtorEq,e105,e108,e100,Bool.not_false,Bool.not_true]|simp (disch:=omega) only [wz]
        exact Weak.env (by simp [envIn,lk_cons,wth_some])
       ·rw [show (c==105)=false by simpa using k1] at e105
        rw [show (c==108)=false by simpa using k2] at e108
        rw [show (c==100)=false by simpa using k3] at e100
        have hD1:=digit c
        rw [k4] at hD1
        repeat first|with_reducible refine kc ?_|((with_reducible first|refine kr ?_ ?_|refine kt ?_ ?_);exact rfl)|((with_reducible refine kf ?_ ?_);exact rfl)|with_reducible refine (hD1 _).use ?_|simp only [go_sem,sevalprocAttr,reduceCtorEq,e105,e108,e100,Bool.not_false,Bool.not_true]|simp (disch:=omega) only [wz]
        exact Weak.env (by simp [envIn,lk_cons,wth_some])
      repeat first|with_reducible refine kc ?_|((with_reducible first|refine kr ?_ ?_|refine kt ?_ ?_);exact rfl)|((with_reducible refine kf ?_ ?_);exact rfl)|with_reducible refine (hD _).use ?_|simp only [go_sem,sevalprocAttr,reduceCtorEq,hr10,hrl1,hwn,hl1',hl2',hsets,List.length_set,List.set_cons_succ,List.set_cons_zero]|simp (disch:=omega) only [wz]
      refine AC.mono hX ?_
      rintro res H2 ⟨rfl,rfl⟩
      have hb2:(H1.set r (rdO s j (n+1)))[H.length]? =some (.cells [.int .i64 0,.int .i64 0,.string (bs []),.slice none 0 0,.slice none 0 0] ⟨27,0,true,0,none⟩):=by
       rw [List.getElem?_set_ne (Ne.symm hnr)];exact hb1
      have hlen2:H.length<(H1.set r (rdO s j (n+1))).length:=lt_of_get hb2
      have hb3:∀o:AObj,((H1.set r (rdO s j (n+1))).set H.length o)[H.length]? =some o:=fun o=>List.getElem?_set_self hlen2
      repeat first|with_reducible refine kc ?_|((with_reducible first|refine kr ?_ ?_|refine kt ?_ ?_);exact rfl)|((with_reducible refine kf ?_ ?_);exact rfl)|simp only [go_sem,sevalprocAttr,reduceCtorEq,hb2,hb3,hsets,putCells,List.set_cons_succ,List.set_cons_zero]|simp (disch:=omega) only [wz]
      refine ⟨_,_,.refl _ _ _,_,rfl,?_,?_,RdV.bare 2 0 t⟩
      ·exact Frm.set (Frm.set hf1 (.inl (by simp))) (.inr (Nat.le_refl _))
      ·rw [List.getElem?_set_ne hnr];exact hsets hrl1 _
    | false=>
     by_cases h105:c=105
     ·have e105':((c.toNat:Int)==105)=true:=by rw [h105];rfl
      have hX:=number s r (i+1) (n+1) hs (by omega) (H1.set r (rdO s (i+1) (n+1))) (hsets hrl1 _)
      have hwi:IntKind.i64.wrap ((i:Int)+1)=((i+1:Nat):Int):=by rw [wi64 (by omega)];omega
      have hR:restR (valR s lv') s c i (n+1)=match numR s (i+1) with
        | .bad a e=> .bad a e
        | .ok z j _=> .ok (.mk 1 z [] [] []) j (n+1):=by unfold restR;rw [if_neg (by rw [hdg];decide),if_pos h105];rfl
      rw [hdg] at hD
      unfold rdO at hX
      cases ht:numR s (i+1) with
      | bad a e=>
       rw [ht] at hX hR
       rw [hT,hR]
       refine AC.enter Tryz.func70 rfl (by kernel_rfl) 131 rfl [.cell 4 27] rfl (by simp) fun hsc B=> ?_
       repeat first|with_reducible refine kc ?_|((with_reducible first|refine kr ?_ ?_|refine kt ?_ ?_);exact rfl)|((with_reducible refine kf ?_ ?_);exact rfl)|simp only [go_sem,sevalprocAttr,reduceCtorEq]|simp (disch:=omega) only [wz]
       rw [← hH1]
       repeat first|with_reducible refine AWP.seqJ (x:= .seq (.region 2 _ _) _) ⟨[(0,.pointer (some ⟨r,0,none⟩)),(1,.int .i64 (lv'+1:Nat)),(4,.pointer (some ⟨H.length,0,none⟩)),(5,.int .u8 c.toNat)],[],H1⟩ ?_ ?_|with_reducible refine kc ?_|((with_reducible first|refine kr ?_ ?_|refine kt ?_ ?_);exact rfl)|((with_reducible refine kf ?_ ?_);exact rfl)|with_reducible refine hN.use ?_|simp only [go_sem,sevalprocAttr,reduceCtorEq]|simp (disch:=omega) only [wz]
       ·rcases hcase with k1|⟨k1,k2⟩|⟨k1,k2,k3⟩|⟨k1,k2,k3,k4⟩
        ·rw [show (c==105)=true by rw [k1];rfl] at e105
         repeat first|with_reducible refine kc ?_|((with_reducible first|refine kr ?_ ?_|refine kt ?_ ?_);exact rfl)|((with_reducible refine kf ?_ ?_);exact rfl)|simp only [go_sem,sevalprocAttr,reduceCtorEq,e105,Bool.not_false,Bool.not_true]|simp (disch:=omega) only [wz]
         exact Weak.env (by simp [envIn,lk_cons,wth_some])
        ·rw [show (c==105)=false by simpa using k1] at e105
         rw [show (c==108)=true by rw [k2];rfl] at e108
         repeat first|with_reducible refine kc ?_|((with_reducible first|refine kr ?_ ?_|refine kt ?_ ?_);exact rfl)|((with_reducible refine kf ?_ ?_);exact rfl)|simp only [go_sem,sevalprocAttr,reduceCtorEq,e105,e108,Bool.not_false,Bool.not_true]|simp (disch:=omega) only [wz]
         exact Weak.env (by simp [envIn,lk_cons,wth_some])
        ·rw [show (c==105)=false by simpa using k1] at e105
         rw [show (c==108)=false by simpa using k2] at e108
         rw [show (c==100)=true by rw [k3];rfl] at e100
         repeat first|with_reducible refine kc ?_|((with_reducible first|refine kr ?_ ?_|refine kt ?_ ?_);exact rfl)|((with_reducible refine kf ?_ ?_);exact rfl)|simp only [go_sem,sevalprocAttr,reduceCtorEq,e105,e108,e100,Bool.not_false,Bool.not_true]|simp (disch:=omega) only [wz]
         exact Weak.env (by simp [envIn,lk_cons,wth_some])
        ·rw [show (c==105)=false by simpa using k1] at e105
         rw [show (c==108)=false by simpa using k2] at e108
         rw [show (c==100)=false by simpa using k3] at e100
         have hD1:=digit c
         rw [k4] at hD1
         repeat first|with_reducible refine kc ?_|((with_reducible first|refine kr ?_ ?_|refine kt ?_ ?_);exact rfl)|((with_reducible refine kf ?_ ?_);exact rfl)|with_reducible refine (hD1 _).use ?_|simp only [go_sem,sevalprocAttr,reduceCtorEq,e105,e108,e100,Bool.not_false,Bool.not_true]|simp (disch:=omega) only [wz]
         exact Weak.env (by simp [envIn,lk_cons,wth_some])
       repeat first|with_reducible refine kc ?_|((with_reducible first|refine kr ?_ ?_|refine kt ?_ ?_);exact rfl)|((with_reducible refine kf ?_ ?_);exact rfl)|with_reducible refine (hD _).use ?_|simp only [go_sem,sevalprocAttr,reduceCtorEq,hr10,hrl1,hwn,hl1',hl2',hwi,e105',hsets,List.length_set,List.set_set,List.set_cons_succ,List.set_cons_zero]|simp (disch:=omega) only [wz]
       refine AC.mono hX ?_
       rintro res H2 ⟨rfl,q,rfl⟩
       repeat first|with_reducible refine kc ?_|((with_reducible first|refine kr ?_ ?_|refine kt ?_ ?_);exact rfl)|((with_reducible refine kf ?_ ?_);exact rfl)|simp only [go_sem,sevalprocAttr,reduceCtorEq]|simp (disch:=omega) only [wz]
       refine ⟨_,_,.refl _ _ _,rfl,?_⟩
       exact Frm.set hf1 (.inl (by simp))
      | ok t j x=>
       rw [ht] at hX hR
       rw [hT,hR]
       refine AC.enter Tryz.func70 rfl (by kernel_rfl) 131 rfl [.cell 4 27] rfl (by simp) fun hsc B=> ?_
       repeat first|with_reducible refine kc ?_|((with_reducible first|refine kr ?_ ?_|refine kt ?_ ?_);exact rfl)|((with_reducible refine kf ?_ ?_);exact rfl)|simp only [go_sem,sevalprocAttr,reduceCtorEq]|simp (disch:=omega) only [wz]
       rw [← hH1]
       repeat first|with_reducible refine AWP.seqJ (x:= .seq (.region 2 _ _) _) ⟨[(0,.pointer (some ⟨r,0,none⟩)),(1,.int .i64 (lv'+1:Nat)),(4,.pointer (some ⟨H.length,0,none⟩)),(5,.int .u8 c.toNat)],[],H1⟩ ?_ ?_|with_reducible refine kc ?_|((with_reducible first|refine kr ?_ ?_|refine kt ?_ ?_);exact rfl)|((with_reducible refine kf ?_ ?_);exact rfl)|with_reducible refine hN.use ?_|simp only [go_sem,sevalprocAttr,reduceCtorEq]|simp (disch:=omega) only [wz]
       ·rcases hcase with k1|⟨k1,k2⟩|⟨k1,k2,k3⟩|⟨k1,k2,k3,k4⟩
        ·rw [show (c==105)=true by rw [k1];rfl] at e105
         repeat first|with_reducible refine kc ?_|((with_reducible first|refine kr ?_ ?_|refine kt ?_ ?_);exact rfl)|((with_reducible refine kf ?_ ?_);exact rfl)|simp only [go_sem,sevalprocAttr,reduceCtorEq,e105,Bool.not_false,Bool.not_true]|simp (disch:=omega) only [wz]
         exact Weak.env (by simp [envIn,lk_cons,wth_some])
        ·rw [show (c==105)=false by simpa using k1] at e105
         rw [show (c==108)=true by rw [k2];rfl] at e108
         repeat first|with_reducible refine kc ?_|((with_reducible first|refine kr ?_ ?_|refine kt ?_ ?_);exact rfl)|((with_reducible refine kf ?_ ?_);exact rfl)|simp only [go_sem,sevalprocAttr,reduceCtorEq,e105,e108,Bool.not_false,Bool.not_true]|simp (disch:=omega) only [wz]
         exact Weak.env (by simp [envIn,lk_cons,wth_some])
        ·rw [show (c==105)=false by simpa using k1] at e105
         rw [show (c==108)=false by simpa using k2] at e108
         rw [show (c==100)=true by rw [k3];rfl] at e100
         repeat first|with_reducible refine kc ?_|((with_reducible first|refine kr ?_ ?_|refine kt ?_ ?_);exact rfl)|((with_reducible refine kf ?_ ?_);exact rfl)|simp only [go_sem,sevalprocAttr,reduceCtorEq,e105,e108,e100,Bool.not_false,Bool.not_true]|simp (disch:=omega) only [wz]
         exact Weak.env (by simp [envIn,lk_cons,wth_some])
        ·rw [show (c==105)=false by simpa using k1] at e105
         rw [show (c==108)=false by simpa using k2] at e108
         rw [show (c==100)=false by simpa using k3] at e100
         have hD1:=digit c
         rw [k4] at hD1
         repeat first|with_reducible refine kc ?_|((with_reducible first|refine kr ?_ ?_|refine kt ?_ ?_);exact rfl)|((with_reducible refine kf ?_ ?_);exact rfl)|with_reducible refine (hD1 _).use ?_|simp only [go_sem,sevalprocAttr,reduceCtorEq,e105,e108,e100,Bool.not_false,Bool.not_true]|simp (disch:=omega) only [wz]
         exact Weak.env (by simp [envIn,lk_cons,wth_some])
       repeat first|with_reducible refine kc ?_|((with_reducible first|refine kr ?_ ?_|refine kt ?_ ?_);exact rfl)|((with_reducible refine kf ?_ ?_);exact rfl)|with_reducible refine (hD _).use ?_|simp only [go_sem,sevalprocAttr,reduceCtorEq,hr10,hrl1,hwn,hl1',hl2',hwi,e105',hsets,List.length_set,List.set_set,List.set_cons_succ,List.set_cons_zero]|simp (disch:=omega) only [wz]
       refine AC.mono hX ?_
       rintro res H2 ⟨rfl,rfl⟩
       have hb2:(H1.set r (rdO s j (n+1)))[H.length]? =some (.cells [.int .i64 0,.int .i64 0,.string (bs []),.slice none 0 0,.slice none 0 0] ⟨27,0,true,0,none⟩):=by
        rw [List.getElem?_set_ne (Ne.symm hnr)];exact hb1
       have hlen2:H.length<(H1.set r (rdO s j (n+1))).length:=lt_of_get hb2
       have hb3:∀o:AObj,((H1.set r (rdO s j (n+1))).set H.length o)[H.length]? =some o:=fun o=>List.getElem?_set_self hlen2
       repeat first|with_reducible refine kc ?_|((with_reducible first|refine kr ?_ ?_|refine kt ?_ ?_);exact rfl)|((with_reducible refine kf ?_ ?_);exact rfl)|simp only [go_sem,sevalprocAttr,reduceCtorEq,hb2,hb3,hsets,putCells,List.set_cons_succ,List.set_cons_zero]|simp (disch:=omega) only [wz]
       refine ⟨_,_,.refl _ _ _,_,rfl,?_,?_,RdV.bare 1 t []⟩
       ·exact Frm.set (Frm.set hf1 (.inl (by simp))) (.inr (Nat.le_refl _))
       ·rw [List.getElem?_set_ne hnr];exact hsets hrl1 _
     ·rw [hT]
      exact hk c lv' rfl hc hb (by omega) hdg h105
end Go.Proofs.YthcdjconlfdidaaGreatDoor
