/-
  A part of the proof of a statement of this seat.
-/
import Derived.Test.YthcdjconlfdidaaGreatDoorDMM
import Derived.Test.YthcdjconlfdidaaGreatDoorAwA
import Derived.Test.YthcdjconlfdidaaGreatDoorAwB
set_option linter.unusedVariables false
set_option linter.unusedSimpArgs false
set_option maxRecDepth 20000
set_option maxHeartbeats 4000000
namespace Go.Proofs.YthcdjconlfdidaaGreatDoor
open Go Go.Aw Go.Proofs
abbrev Tx:=List UInt8
def cptN (l:List Tx):Nat→List Tx
 |0=>[]
 |n+1=>cptN l n++(if 0<n∧l[n]? =l[n - 1]? then [] else l[n]?.toList)
theorem cptN_new {l:List Tx} {n:Nat} (h:n<l.length) (hne:n=0∨∀h1:n - 1<l.length,l[n]≠l[n - 1]):cptN l (n+1)=cptN l n++[l[n]]:=by
 rw [cptN,if_neg,List.getElem?_eq_getElem h]
 ·rfl
 ·rintro ⟨h0,e⟩
  rcases hne with h1|h1
  ·omega
  ·rw [List.getElem?_eq_getElem h,List.getElem?_eq_getElem (by omega:n - 1<l.length)] at e
   exact h1 (by omega) (Option.some.inj e)
theorem cptN_old {l:List Tx} {n:Nat} (h:n<l.length) (h0:0<n) (he:l[n]=l[n - 1]'(by omega)):cptN l (n+1)=cptN l n:=by
 rw [cptN,if_pos ⟨h0,by rw [List.getElem?_eq_getElem h,List.getElem?_eq_getElem (by omega:n - 1<l.length),he]⟩,List.append_nil]
theorem strsC_take (l:List Tx) (n:Nat):(strsC l).take n=strsC (l.take n):=by unfold strsC;rw [List.map_take]
theorem strsC_at (l:List Tx) (j:Nat) (h:j<l.length):(strsC l)[j]? =some (.string (bs l[j])):=by
 unfold strsC
 rw [List.getElem?_map,List.getElem?_eq_getElem h];rfl
theorem strsC_set (l:List Tx) (j:Nat) (x:Tx):(strsC l).set j (.string (bs x))=strsC (l.set j x):=by unfold strsC;rw [List.map_set]
theorem eqTx (a b:Tx):(a==b)=decide (a=b):=by
 by_cases h:a=b
 ·rw [decide_eq_true h,h];exact beq_self_eq_true _
 ·rw [decide_eq_false h];exact beq_eq_false_iff_ne.2 h
theorem Compact (b:Nat) (l:List Tx) (N:Nat) (hN:N=l.length) (hl:N<1099511627776) (H:AHeap) (hb:b<H.length):
  AC Tryz.prog 83 [.slice (some ⟨b,0,none⟩) N N] (H.set b (.cells (strsC l) ⟨9,1,true,0,none⟩)) (fun r H1=>r= .ret (.slice (some ⟨b,0,none⟩) (cptN l N).length N)∧∃cs,H1=H.set b (.cells cs ⟨9,1,true,0,none⟩)∧cs.length=N∧(cptN l N).length≤N∧cs.take ((cptN l N).length)=strsC (cptN l N)):=by
 have hbl:b<(H.set b (.cells (strsC l) ⟨9,1,true,0,none⟩)).length:=by rw [List.length_set];exact hb
 have hg:(H.set b (.cells (strsC l) ⟨9,1,true,0,none⟩))[b]? =some (.cells (strsC l) ⟨9,1,true,0,none⟩):=List.getElem?_set_self hb
 have hcl:=strsC_len l
 have hw1:IntKind.i64.wrap ((1:Int) - 1)=0:=by decide
 by_cases h2:N<2
 ·have h2':(N:Int)<2:=by omega
  have hc:cptN l N=l:=by
   rcases l with _|⟨x,_|⟨y,l⟩⟩
   ·subst hN;rfl
   ·subst hN;rfl
   ·simp at hN;omega
  rw [hc,←hN]
  refine AC.enter Tryz.func83 rfl (by kernel_rfl) 61 rfl [.tmp 2] rfl (by simp) fun hsc B=> ?_
  repeat first|with_reducible refine kc ?_|((with_reducible first|refine kr ?_ ?_|refine kt ?_ ?_);exact rfl)|((with_reducible refine kf ?_ ?_);exact rfl)|simp only [go_sem,sevalprocAttr,reduceCtorEq,h2']|simp (disch:=omega) only [wz]
  exact ⟨_,_,.refl _ _ _,rfl,strsC l,rfl,by omega,List.take_of_length_le (by omega)⟩
 have h2':¬(N:Int)<2:=by omega
 have hld:∀j,(h:j<l.length)→(0:Int)≤(j:Int)∧(j:Int)<(N:Int)∧j<(strsC l).length∧(strsC l)[j]? =some (.string (bs l[j])):=fun j h=>⟨Int.natCast_nonneg _,by omega,by omega,strsC_at l j h⟩
 refine AC.enter Tryz.func83 rfl (by kernel_rfl) 61 rfl [.tmp 2] rfl (by simp) fun hsc B=> ?_
 repeat first|with_reducible refine kc ?_|((with_reducible first|refine kr ?_ ?_|refine kt ?_ ?_);exact rfl)|((with_reducible refine kf ?_ ?_);exact rfl)|simp only [go_sem,sevalprocAttr,reduceCtorEq,h2']|simp (disch:=omega) only [wz]
 refine AWP.loopP (fun k:Nat=>⟨[(0,.slice (some ⟨b,0,none⟩) N N),(3,.int .i64 (k:Nat))],[],H.set b (.cells (strsC l) ⟨9,1,true,0,none⟩)⟩)
  (fun k=>1≤k∧k≤N∧cptN l k=l.take k) (fun k=>N - k) 1 ?_ ⟨Nat.le_refl _,by omega,?_⟩ ?_
 ·exact Weak.env (by simp [envIn,lk_cons,wth_some])
 ·rw [cptN_new (by omega) (.inl rfl),List.take_one,List.head?_eq_getElem?,List.getElem?_eq_getElem (by omega:0<l.length)];rfl
 rintro k ⟨k1,k2,k3⟩
 simp only at k1 k2 k3 ⊢
 by_cases hc:k<N
 case neg=>
  have hc':¬(k:Int)<(N:Int):=by omega
  obtain rfl:k=N:=by omega
  have hcl2:cptN l k=l:=by rw [k3];exact List.take_of_length_le (by omega)
  repeat first|with_reducible refine kc ?_|((with_reducible first|refine kr ?_ ?_|refine kt ?_ ?_);exact rfl)|((with_reducible refine kf ?_ ?_);exact rfl)|simp only [go_sem,sevalprocAttr,reduceCtorEq,hc']|simp (disch:=omega) only [wz]
  rw [hcl2,←hN]
  exact ⟨_,_,.refl _ _ _,rfl,strsC l,rfl,by omega,Nat.le_refl _,List.take_of_length_le (by omega)⟩
 have hc':(k:Int)<(N:Int):=by omega
 have hkl:k<l.length:=by omega
 have hkl1:k - 1<l.length:=by omega
 have hwk:IntKind.i64.wrap ((k:Int) - 1)=((k - 1:Nat):Int):=by rw [wi64 (by omega)];omega
 have hwk1:IntKind.i64.wrap ((k:Int)+1)=((k+1:Nat):Int):=by rw [wi64 (by omega)];omega
 obtain ⟨x0,x1,x2,x3⟩:=hld k hkl
 obtain ⟨y0,y1,y2,y3⟩:=hld (k - 1) hkl1
 have he:=eqTx l[k] l[k - 1]
 by_cases hd:l[k]=l[k - 1]
 case neg=>
  rw [decide_eq_false hd] at he
  have hcn:cptN l (k+1)=l.take (k+1):=by
   rw [cptN_new hkl (.inr fun _=>hd),k3,List.take_add_one,List.getElem?_eq_getElem hkl];rfl
  repeat first|with_reducible refine kc ?_|((with_reducible first|refine kr ?_ ?_|refine kt ?_ ?_);exact rfl)|((with_reducible refine kf ?_ ?_);exact rfl)|simp only [go_sem,sevalprocAttr,reduceCtorEq,hc']|simp (disch:=omega) only [wz]
  refine AWP.regionK 9 (by kernel_rfl) (by decide) (by kernel_rfl) ?_
  repeat first|with_reducible refine kc ?_|((with_reducible first|refine kr ?_ ?_|refine kt ?_ ?_);exact rfl)|((with_reducible refine kf ?_ ?_);exact rfl)|simp only [go_sem,sevalprocAttr,reduceCtorEq,hwk,hg,x0,x1,x2,x3,y0,y1,y2,y3,Int.toNat_natCast,he,hwk1]|simp (disch:=omega) only [wz]
  exact ⟨k+1,Weak.env (by simp [envIn,lk_cons,wth_some]),by omega,by omega,hcn,by omega⟩
 rw [decide_eq_true hd] at he
 have hcn:cptN l (k+1)=l.take k:=by rw [cptN_old hkl (by omega) hd,k3]
 have hsl:((N:Int) - (k:Int)).toNat=N - k:=by omega
 repeat first|with_reducible refine kc ?_|((with_reducible first|refine kr ?_ ?_|refine kt ?_ ?_);exact rfl)|((with_reducible refine kf ?_ ?_);exact rfl)|simp only [go_sem,sevalprocAttr,reduceCtorEq,hc']|simp (disch:=omega) only [wz]
 refine AWP.regionK 9 (by kernel_rfl) (by decide) (by kernel_rfl) ?_
 repeat first|with_reducible refine kc ?_|((with_reducible first|refine kr ?_ ?_|refine kt ?_ ?_);exact rfl)|((with_reducible refine kf ?_ ?_);exact rfl)|simp only [go_sem,sevalprocAttr,reduceCtorEq,hwk,hg,x0,x1,x2,x3,y0,y1,y2,y3,Int.toNat_natCast,he,hsl]|simp (disch:=omega) only [wz]
 refine ⟨by omega,by omega,?_⟩
 obtain ⟨L,hL⟩:∃L,L=N - k:=⟨_,rfl⟩
 rw [← hL]
 repeat first|with_reducible refine kc ?_|((with_reducible first|refine kr ?_ ?_|refine kt ?_ ?_);exact rfl)|((with_reducible refine kf ?_ ?_);exact rfl)|simp only [go_sem,sevalprocAttr,reduceCtorEq]|simp (disch:=omega) only [wz]
 refine AWP.loopP (fun s:Nat×Nat×List Tx=>⟨[(0,.slice (some ⟨b,0,none⟩) N N),(3,.int .i64 (s.1:Nat)),(4,.slice (some ⟨b,k,none⟩) L L),(5,.int .i64 (s.2.1:Nat))],[],H.set b (.cells (strsC s.2.2) ⟨9,1,true,0,none⟩)⟩)
  (fun s=>1≤s.2.1∧s.2.1≤L∧s.1<k+s.2.1∧s.2.2.length=N∧cptN l (k+s.2.1)=s.2.2.take s.1∧∀q,s.1≤q→s.2.2[q]? =l[q]?) (fun s=>L - s.2.1) (k,1,l) ?_ ⟨Nat.le_refl _,by dsimp only;omega,by dsimp only;omega,hN.symm,hcn,fun q _=>rfl⟩ ?_
 ·exact Weak.env (by simp [envIn,lk_cons,wth_some])
 rintro ⟨k',k2,m⟩ ⟨g1,g2,g3,g4,g5,g6⟩
 simp only at g1 g2 g3 g4 g5 g6 ⊢
 have hgm:(H.set b (.cells (strsC m) ⟨9,1,true,0,none⟩))[b]? =some (.cells (strsC m) ⟨9,1,true,0,none⟩):=List.getElem?_set_self hb
 have hclm:=strsC_len m
 by_cases hc2:k2<L
 case neg=>
  have hc2':¬(k2:Int)<(L:Int):=by omega
  obtain rfl:k2=L:=by omega
  rw [show k+k2=N by omega] at g5
  have hlen:(cptN l N).length=k':=by rw [g5,List.length_take];omega
  have hz:∀n,(repZ n [Value.string (bs [])]).all flat=true:=fun n=>by
   unfold repZ
   rw [List.all_eq_true]
   intro x hx
   obtain ⟨r,hr,hx⟩:=List.mem_flatten.1 hx
   rw [List.eq_of_mem_replicate hr] at hx
   simp at hx
   subst hx;rfl
  have hz2:∀n,(repZ n [Value.string (bs [])]).all scalar=true:=fun n=>repZ_scalar rfl
  have hz3:∀n,(repZ n [Value.string (bs [])]).length=n:=fun n=>by have:=repZ_length n [Value.string (bs [])];simpa using this
  have hk0:(0:Int)≤(k':Int):=Int.natCast_nonneg _
  have hkN:(k':Int)≤(N:Int):=by omega
  have hsl2:((N:Int) - (k':Int)).toNat=N - k':=by omega
  have hle4:k'+(N - k')≤(strsC m).length:=by omega
  repeat first|with_reducible refine kc ?_|((with_reducible first|refine kr ?_ ?_|refine kt ?_ ?_);exact rfl)|((with_reducible refine kf ?_ ?_);exact rfl)|simp only [go_sem,sevalprocAttr,reduceCtorEq,hc2']|simp (disch:=omega) only [wz]
  refine ⟨by omega,by omega,?_⟩
  repeat first|with_reducible refine kc ?_|((with_reducible first|refine kr ?_ ?_|refine kt ?_ ?_);exact rfl)|((with_reducible refine kf ?_ ?_);exact rfl)|simp only [go_sem,sevalprocAttr,reduceCtorEq,hgm,hz,hz2,hz3,hle4,hkN,hsl2,hsets,hb,List.set_set]|simp (disch:=omega) only [wz]
  refine ⟨_,_,.refl _ _ _,by rw [hlen],putCells (strsC m) k' (repZ (N - k') [Value.string (bs [])]),rfl,by rw [putCells_length];omega,by omega,?_⟩
  rw [hlen,putCells_eq _ _ _ (by rw [hz3];omega),List.append_assoc,List.take_append_of_le_length (by rw [List.length_take];omega),List.take_of_length_le (by rw [List.length_take];omega),strsC_take,g5]
 have hc2':(k2:Int)<(L:Int):=by omega
 have hk20:(0:Int)≤(k2:Int):=Int.natCast_nonneg _
 have hk21:(0:Int)≤((k2 - 1:Nat):Int):=Int.natCast_nonneg _
 have hk22:((k2 - 1:Nat):Int)<(L:Int):=by omega
 have hwk2:IntKind.i64.wrap ((k2:Int) - 1)=((k2 - 1:Nat):Int):=by rw [wi64 (by omega)];omega
 have hwk2':IntKind.i64.wrap ((k2:Int)+1)=((k2+1:Nat):Int):=by rw [wi64 (by omega)];omega
 have hwk':IntKind.i64.wrap ((k':Int)+1)=((k'+1:Nat):Int):=by rw [wi64 (by omega)];omega
 have ha:k+k2<m.length:=by omega
 have hb2:k+k2 - 1<m.length:=by omega
 have ax:=strsC_at m (k+k2) ha
 have ay:(strsC m)[k+(k2 - 1)]? =some (.string (bs m[k+k2 - 1])):=by
  rw [show k+(k2 - 1)=k+k2 - 1 by omega];exact strsC_at m (k+k2 - 1) hb2
 have hbx:k+k2<(strsC m).length:=by omega
 have hby:k+(k2 - 1)<(strsC m).length:=by omega
 have ea:=g6 (k+k2) (by omega)
 have eb:=g6 (k+k2 - 1) (by omega)
 have hal:k+k2<l.length:=by omega
 have hbl2:k+k2 - 1<l.length:=by omega
 rw [List.getElem?_eq_getElem ha,List.getElem?_eq_getElem hal] at ea
 rw [List.getElem?_eq_getElem hb2,List.getElem?_eq_getElem hbl2] at eb
 have ea:=Option.some.inj ea
 have eb:=Option.some.inj eb
 have he2:=eqTx m[k+k2] m[k+k2 - 1]
 by_cases hd2:m[k+k2]=m[k+k2 - 1]
 ·rw [decide_eq_true hd2] at he2
  have hnx:cptN l (k+(k2+1))=m.take k':=by
   rw [show k+(k2+1)=k+k2+1 by omega,cptN_old hal (by omega) (by rw [← ea,←eb];exact hd2),g5]
  repeat first|with_reducible refine kc ?_|((with_reducible first|refine kr ?_ ?_|refine kt ?_ ?_);exact rfl)|((with_reducible refine kf ?_ ?_);exact rfl)|simp only [go_sem,sevalprocAttr,reduceCtorEq,hc2']|simp (disch:=omega) only [wz]
  refine AWP.regionK 9 (by kernel_rfl) (by decide) (by kernel_rfl) ?_
  repeat first|with_reducible refine kc ?_|((with_reducible first|refine kr ?_ ?_|refine kt ?_ ?_);exact rfl)|((with_reducible refine kf ?_ ?_);exact rfl)|simp only [go_sem,sevalprocAttr,reduceCtorEq,hwk2,hgm,hk20,hk21,hk22,hc2',ax,ay,hbx,hby,Int.toNat_natCast,he2,hwk2']|simp (disch:=omega) only [wz]
  exact ⟨(k',k2+1,m),Weak.env (by simp [envIn,lk_cons,wth_some]),by dsimp only;omega,by dsimp only;omega,by dsimp only;omega,g4,hnx,g6,by dsimp only;omega⟩
 ·rw [decide_eq_false hd2] at he2
  have hkm:k'<m.length:=by omega
  have px:=strsC_set m k' m[k+k2]
  have hk'0:(0:Int)≤(k':Int):=Int.natCast_nonneg _
  have hk'N:(k':Int)<(N:Int):=by omega
  have hbk1:k'+1≤(strsC m).length:=by omega
  have hbk:k'<(strsC m).length:=by omega
  have hnx:cptN l (k+(k2+1))=(m.set k' m[k+k2]).take (k'+1):=by
   rw [show k+(k2+1)=k+k2+1 by omega,cptN_new hal (.inr fun _ h=>hd2 (by rw [ea,eb];exact h)),g5,List.take_add_one,List.take_set_of_le (Nat.le_refl _),List.getElem?_set_self hkm,ea];rfl
  have hg6:∀q,k'+1≤q→(m.set k' m[k+k2])[q]? =l[q]? :=fun q hq=>by
   rw [List.getElem?_set_ne (by omega)];exact g6 q (by omega)
  have hln:(m.set k' m[k+k2]).length=N:=by rw [List.length_set];exact g4
  repeat first|with_reducible refine kc ?_|((with_reducible first|refine kr ?_ ?_|refine kt ?_ ?_);exact rfl)|((with_reducible refine kf ?_ ?_);exact rfl)|simp only [go_sem,sevalprocAttr,reduceCtorEq,hc2']|simp (disch:=omega) only [wz]
  refine AWP.regionK 9 (by kernel_rfl) (by decide) (by kernel_rfl) ?_
  repeat first|with_reducible refine kc ?_|((with_reducible first|refine kr ?_ ?_|refine kt ?_ ?_);exact rfl)|((with_reducible refine kf ?_ ?_);exact rfl)|simp only [go_sem,sevalprocAttr,reduceCtorEq,hwk2,hgm,hk20,hk21,hk22,hc2',ax,ay,hbx,hby,Int.toNat_natCast,he2,hwk2',hk'0,hk'N,hbk,hbk1,px,List.set_set,hwk']|simp (disch:=omega) only [wz]
  exact ⟨(k'+1,k2+1,_),Weak.env (by simp [envIn,lk_cons,wth_some]),by dsimp only;omega,by dsimp only;omega,by dsimp only;omega,hln,hnx,hg6,by dsimp only;omega⟩
end Go.Proofs.YthcdjconlfdidaaGreatDoor

set_option linter.unusedVariables false
set_option linter.unusedSimpArgs false
set_option maxRecDepth 20000
set_option maxHeartbeats 4000000
namespace Go.Proofs.YthcdjconlfdidaaGreatDoor
open Go Go.Aw Go.Proofs
theorem natEq0 (a:Nat):((a:Int)==0)=(a==0):=by
 by_cases h:a=0
 ·subst h;rfl
 ·rw [beq_eq_false_iff_ne.2 h];exact beq_eq_false_iff_ne.2 (by omega)
theorem sh1 (k n:Int) (s:List UInt8) (kids:List BV) (keys:List (List UInt8)) (hk:kids.length≤1099511627776) (hx:keys.length≤1099511627776) (H:AHeap) (cs:List Value) (hR:RdV H (.mk k n s kids keys) cs):
  ARet Tryz.prog 78 [.agg ⟨cs⟩] H (.bool ((s==[])&&(kids.length+keys.length==0))) H:=by
 have hfl:=RdV_flat hR
 have hr5:=hR.len
 unfold RdV at hR
 obtain ⟨vk,vs,css,rfl,h1,hL,h3⟩:=hR
 have hkl:(keyC keys).length=keys.length:=by unfold keyC;simp
 have hcl:=hL.len
 have q1:∀H' K,lenW Tryz.prog 23 vk H' K=K (.int .i64 (kids.length:Nat)) H':=fun H' K=>by rw [h1.lenT (by simp only [go_sem,sevalprocAttr,reduceCtorEq]),hcl]
 have q2:∀H' K,lenW Tryz.prog 22 vs H' K=K (.int .i64 (keys.length:Nat)) H':=fun H' K=>by rw [h3.lenT (by simp only [go_sem,sevalprocAttr,reduceCtorEq]),hkl]
 have hw:IntKind.i64.wrap ((kids.length:Int)+(keys.length:Int))=((kids.length+keys.length:Nat):Int):=by rw [wi64 (by omega)];omega
 have he:=natEq0 (kids.length+keys.length)
 refine AC.enter Tryz.func78 rfl (by kernel_rfl) 16 rfl [.tmp 2] rfl (by simp) fun hsc B=> ?_
 cases hs:(s==[])
 ·repeat first|with_reducible refine finD hsc (NRel.of_plain rfl)|with_reducible refine kc ?_|((with_reducible first|refine kr ?_ ?_|refine kt ?_ ?_);exact rfl)|((with_reducible refine kf ?_ ?_);exact rfl)|simp only [go_sem,sevalprocAttr,reduceCtorEq,hfl,hr5,hs,q1,q2,hw,he,Bool.false_and,Bool.true_and]|simp (disch:=omega) only [wz]|with_reducible_and_instances exact finR|((with_reducible refine finR' ?_ ?_)<;> rfl)|((with_reducible refine finD hsc (NRel.of_plain ?_));exact rfl)
  done
 ·repeat first|with_reducible refine finD hsc (NRel.of_plain rfl)|with_reducible refine kc ?_|((with_reducible first|refine kr ?_ ?_|refine kt ?_ ?_);exact rfl)|((with_reducible refine kf ?_ ?_);exact rfl)|simp only [go_sem,sevalprocAttr,reduceCtorEq,hfl,hr5,hs,q1,q2,hw,he,Bool.false_and,Bool.true_and]|simp (disch:=omega) only [wz]|with_reducible_and_instances exact finR|((with_reducible refine finR' ?_ ?_)<;> rfl)|((with_reducible refine finD hsc (NRel.of_plain ?_));exact rfl)
  done
theorem sh2 (k n:Int) (s:List UInt8) (kids:List BV) (keys:List (List UInt8)) (hk:kids.length≤1099511627776) (hx:keys.length≤1099511627776) (H:AHeap) (cs:List Value) (hR:RdV H (.mk k n s kids keys) cs):
  ARet Tryz.prog 79 [.agg ⟨cs⟩] H (.bool ((n==0)&&(kids.length+keys.length==0))) H:=by
 have hfl:=RdV_flat hR
 have hr5:=hR.len
 unfold RdV at hR
 obtain ⟨vk,vs,css,rfl,h1,hL,h3⟩:=hR
 have hkl:(keyC keys).length=keys.length:=by unfold keyC;simp
 have hcl:=hL.len
 have q1:∀H' K,lenW Tryz.prog 23 vk H' K=K (.int .i64 (kids.length:Nat)) H':=fun H' K=>by rw [h1.lenT (by simp only [go_sem,sevalprocAttr,reduceCtorEq]),hcl]
 have q2:∀H' K,lenW Tryz.prog 22 vs H' K=K (.int .i64 (keys.length:Nat)) H':=fun H' K=>by rw [h3.lenT (by simp only [go_sem,sevalprocAttr,reduceCtorEq]),hkl]
 have hw:IntKind.i64.wrap ((kids.length:Int)+(keys.length:Int))=((kids.length+keys.length:Nat):Int):=by rw [wi64 (by omega)];omega
 have he:=natEq0 (kids.length+keys.length)
 refine AC.enter Tryz.func79 rfl (by kernel_rfl) 16 rfl [.tmp 2] rfl (by simp) fun hsc B=> ?_
 cases hs:(n==0)
 ·repeat first|with_reducible refine finD hsc (NRel.of_plain rfl)|with_reducible refine kc ?_|((with_reducible first|refine kr ?_ ?_|refine kt ?_ ?_);exact rfl)|((with_reducible refine kf ?_ ?_);exact rfl)|simp only [go_sem,sevalprocAttr,reduceCtorEq,hfl,hr5,hs,q1,q2,hw,he,Bool.false_and,Bool.true_and]|simp (disch:=omega) only [wz]|with_reducible_and_instances exact finR|((with_reducible refine finR' ?_ ?_)<;> rfl)|((with_reducible refine finD hsc (NRel.of_plain ?_));exact rfl)
  done
 ·repeat first|with_reducible refine finD hsc (NRel.of_plain rfl)|with_reducible refine kc ?_|((with_reducible first|refine kr ?_ ?_|refine kt ?_ ?_);exact rfl)|((with_reducible refine kf ?_ ?_);exact rfl)|simp only [go_sem,sevalprocAttr,reduceCtorEq,hfl,hr5,hs,q1,q2,hw,he,Bool.false_and,Bool.true_and]|simp (disch:=omega) only [wz]|with_reducible_and_instances exact finR|((with_reducible refine finR' ?_ ?_)<;> rfl)|((with_reducible refine finD hsc (NRel.of_plain ?_));exact rfl)
  done
theorem sh3 (k n:Int) (s:List UInt8) (kids:List BV) (keys:List (List UInt8)) (H:AHeap) (cs:List Value) (hR:RdV H (.mk k n s kids keys) cs):
  ARet Tryz.prog 80 [.agg ⟨cs⟩] H (.bool ((n==0)&&(s==[])&&(keys.length==0))) H:=by
 have hfl:=RdV_flat hR
 have hr5:=hR.len
 unfold RdV at hR
 obtain ⟨vk,vs,css,rfl,h1,hL,h3⟩:=hR
 have hkl:(keyC keys).length=keys.length:=by unfold keyC;simp
 have q2:∀H' K,lenW Tryz.prog 22 vs H' K=K (.int .i64 (keys.length:Nat)) H':=fun H' K=>by rw [h3.lenT (by simp only [go_sem,sevalprocAttr,reduceCtorEq]),hkl]
 have he:=natEq0 keys.length
 refine AC.enter Tryz.func80 rfl (by kernel_rfl) 17 rfl [.tmp 2] rfl (by simp) fun hsc B=> ?_
 cases hs:(n==0)<;> cases ht:(s==[])
 ·repeat first|with_reducible refine finD hsc (NRel.of_plain rfl)|with_reducible refine kc ?_|((with_reducible first|refine kr ?_ ?_|refine kt ?_ ?_);exact rfl)|((with_reducible refine kf ?_ ?_);exact rfl)|simp only [go_sem,sevalprocAttr,reduceCtorEq,hfl,hr5,hs,ht,q2,he,Bool.false_and,Bool.true_and]|simp (disch:=omega) only [wz]|with_reducible_and_instances exact finR|((with_reducible refine finR' ?_ ?_)<;> rfl)|((with_reducible refine finD hsc (NRel.of_plain ?_));exact rfl)
  done
 ·repeat first|with_reducible refine finD hsc (NRel.of_plain rfl)|with_reducible refine kc ?_|((with_reducible first|refine kr ?_ ?_|refine kt ?_ ?_);exact rfl)|((with_reducible refine kf ?_ ?_);exact rfl)|simp only [go_sem,sevalprocAttr,reduceCtorEq,hfl,hr5,hs,ht,q2,he,Bool.false_and,Bool.true_and]|simp (disch:=omega) only [wz]|with_reducible_and_instances exact finR|((with_reducible refine finR' ?_ ?_)<;> rfl)|((with_reducible refine finD hsc (NRel.of_plain ?_));exact rfl)
  done
 ·repeat first|with_reducible refine finD hsc (NRel.of_plain rfl)|with_reducible refine kc ?_|((with_reducible first|refine kr ?_ ?_|refine kt ?_ ?_);exact rfl)|((with_reducible refine kf ?_ ?_);exact rfl)|simp only [go_sem,sevalprocAttr,reduceCtorEq,hfl,hr5,hs,ht,q2,he,Bool.false_and,Bool.true_and]|simp (disch:=omega) only [wz]|with_reducible_and_instances exact finR|((with_reducible refine finR' ?_ ?_)<;> rfl)|((with_reducible refine finD hsc (NRel.of_plain ?_));exact rfl)
  done
 ·repeat first|with_reducible refine finD hsc (NRel.of_plain rfl)|with_reducible refine kc ?_|((with_reducible first|refine kr ?_ ?_|refine kt ?_ ?_);exact rfl)|((with_reducible refine kf ?_ ?_);exact rfl)|simp only [go_sem,sevalprocAttr,reduceCtorEq,hfl,hr5,hs,ht,q2,he,Bool.false_and,Bool.true_and]|simp (disch:=omega) only [wz]|with_reducible_and_instances exact finR|((with_reducible refine finR' ?_ ?_)<;> rfl)|((with_reducible refine finD hsc (NRel.of_plain ?_));exact rfl)
  done
theorem shF (H:AHeap):ARet Tryz.prog 62 [] H (.agg ⟨[.nilFunc,.func (.func 78) ⟨[]⟩ ⟨[]⟩,.func (.func 79) ⟨[]⟩ ⟨[]⟩,.func (.func 80) ⟨[]⟩ ⟨[]⟩,.func (.func 81) ⟨[]⟩ ⟨[]⟩]⟩) H:=by
 refine AC.enter Tryz.func62 rfl (by kernel_rfl) 2 rfl [.cell 0 76] rfl (by simp) fun hsc B=> ?_
 repeat first|with_reducible refine kc ?_|((with_reducible first|refine kr ?_ ?_|refine kt ?_ ?_);exact rfl)|((with_reducible refine kf ?_ ?_);exact rfl)|simp only [go_sem,sevalprocAttr,reduceCtorEq]|simp (disch:=omega) only [wz]|with_reducible_and_instances exact finR|((with_reducible refine finR' ?_ ?_)<;> rfl)|((with_reducible refine finD hsc (NRel.of_plain ?_));exact rfl)
 exact finD hsc (by simp [nr_agg,nrs_cons,nrs_nil,nr_nilFunc,nr_func])
end Go.Proofs.YthcdjconlfdidaaGreatDoor
