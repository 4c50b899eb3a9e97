/-
  A part of the proof of a statement of this seat.
-/
import Derived.Test.YthcdjconlfdidaaGreatDoorDJM
set_option linter.unusedVariables false
set_option linter.unusedSimpArgs false
set_option maxHeartbeats 4000000
set_option maxRecDepth 20000
namespace Go.Proofs.YthcdjconlfdidaaGreatDoor
open Go Go.Aw Go.Proofs
theorem isNaN (a:List UInt8) (H:AHeap):ARet Tryz.prog 73 [.string (bs a)] H (.bool false) H:=by
 refine AC.enter Tryz.func73 rfl (by kernel_rfl) 6 rfl [.tmp 2] rfl (by simp) fun hsc B=> ?_
 repeat first|with_reducible refine kc ?_|((with_reducible first|refine kr ?_ ?_|refine kt ?_ ?_);exact rfl)|((with_reducible refine kf ?_ ?_);exact rfl)|simp only [go_sem,sevalprocAttr,reduceCtorEq]|simp (disch:=omega) only [wz]|with_reducible_and_instances exact finR|((with_reducible refine finR' ?_ ?_)<;> rfl)|((with_reducible refine finD hsc (NRel.of_plain ?_));exact rfl)
theorem Less (a b:List UInt8) (H:AHeap):ARet Tryz.prog 52 [.string (bs a),.string (bs b)] H (.bool (Op.bytesLess a b)) H:=by
 have h1:=isNaN a
 refine AC.enter Tryz.func52 rfl (by kernel_rfl) 17 rfl [.tmp 4] rfl (by simp) fun hsc B=> ?_
 cases h:Op.bytesLess a b
 ·repeat first|with_reducible refine kc ?_|((with_reducible first|refine kr ?_ ?_|refine kt ?_ ?_);exact rfl)|((with_reducible refine kf ?_ ?_);exact rfl)|with_reducible refine (h1 _).use ?_|simp only [go_sem,sevalprocAttr,reduceCtorEq,h]|simp (disch:=omega) only [wz]|with_reducible_and_instances exact finR|((with_reducible refine finR' ?_ ?_)<;> rfl)|((with_reducible refine finD hsc (NRel.of_plain ?_));exact rfl)
 ·repeat first|with_reducible refine kc ?_|((with_reducible first|refine kr ?_ ?_|refine kt ?_ ?_);exact rfl)|((with_reducible refine kf ?_ ?_);exact rfl)|with_reducible refine (h1 _).use ?_|simp only [go_sem,sevalprocAttr,reduceCtorEq,h]|simp (disch:=omega) only [wz]|with_reducible_and_instances exact finR|((with_reducible refine finR' ?_ ?_)<;> rfl)|((with_reducible refine finD hsc (NRel.of_plain ?_));exact rfl)
def srt (l:List (List UInt8)):Nat→Bool
 |0=>true
 |i+1=>if Op.bytesLess (l.getD (i+1) []) (l.getD i []) then false else srt l i
theorem IsSorted (l:List (List UInt8)) (v:Value) (hl:l.length≤1099511627776) (H:AHeap) (hv:RdK H 1 v (keyC l)):ARet Tryz.prog 82 [v] H (.bool (srt l (l.length - 1))) H:=by
 have hkl:(keyC l).length=l.length:=by unfold keyC;simp
 have q1:∀H' K,lenW Tryz.prog 22 v H' K=K (.int .i64 (l.length:Nat)) H':=fun H' K=>by rw [hv.lenT (by simp only [go_sem,sevalprocAttr,reduceCtorEq]),hkl]
 rcases Nat.eq_zero_or_pos l.length with h0|h0
 ·rw [h0]
  have hw:IntKind.i64.wrap (((0:Nat):Int) - 1)= -1:=by decide
  rw [h0] at q1
  refine AC.enter Tryz.func82 rfl (by kernel_rfl) 21 rfl [.tmp 2] rfl (by simp) fun hsc B=> ?_
  repeat first|with_reducible refine kc ?_|((with_reducible first|refine kr ?_ ?_|refine kt ?_ ?_);exact rfl)|((with_reducible refine kf ?_ ?_);exact rfl)|simp only [go_sem,sevalprocAttr,reduceCtorEq,q1]|simp (disch:=omega) only [wz]|with_reducible_and_instances exact finR|((with_reducible refine finR' ?_ ?_)<;> rfl)|((with_reducible refine finD hsc (NRel.of_plain ?_));exact rfl)
  refine AWP.loopP (fun _:Unit=>⟨[(0,v),(3,.int .i64 (-1))],[],H⟩) (fun _=>True) (fun _=>0) () ?_ trivial ?_
  ·exact Weak.env (by simp [envIn,lk_cons,wth_some])
  rintro - -
  repeat first|with_reducible refine kc ?_|((with_reducible first|refine kr ?_ ?_|refine kt ?_ ?_);exact rfl)|((with_reducible refine kf ?_ ?_);exact rfl)|simp only [go_sem,sevalprocAttr,reduceCtorEq]|simp (disch:=omega) only [wz]|with_reducible_and_instances exact finR|((with_reducible refine finR' ?_ ?_)<;> rfl)|((with_reducible refine finD hsc (NRel.of_plain ?_));exact rfl)
 ·obtain ⟨N,hN⟩:∃N,l.length=N+1:=⟨l.length - 1,by omega⟩
  rw [hN] at q1 ⊢
  have hw:IntKind.i64.wrap (((N+1:Nat):Int) - 1)=(N:Int):=by rw [wi64 (by omega)];omega
  show ARet Tryz.prog 82 [v] H (.bool (srt l N)) H
  rcases hv with ⟨rfl,e⟩|⟨bi,off,cap,cs,k,rfl,hcap,hbi,hown,hesz,hle,hr⟩
  ·rw [e] at hkl;simp at hkl;omega
  have hat:∀(j:Nat) (h:j<l.length),cs[off+j]? =some (.string (bs l[j])):=fun j h=>by
   have h1:=congrArg (fun l=>l[0]?) (hr j _ (keyC_at h))
   simpa using h1
  refine AC.enter Tryz.func82 rfl (by kernel_rfl) 21 rfl [.tmp 2] rfl (by simp) fun hsc B=> ?_
  repeat first|with_reducible refine kc ?_|((with_reducible first|refine kr ?_ ?_|refine kt ?_ ?_);exact rfl)|((with_reducible refine kf ?_ ?_);exact rfl)|simp only [go_sem,sevalprocAttr,reduceCtorEq,q1,hw]|simp (disch:=omega) only [wz]|with_reducible_and_instances exact finR|((with_reducible refine finR' ?_ ?_)<;> rfl)|((with_reducible refine finD hsc (NRel.of_plain ?_));exact rfl)
  refine AWP.loopP (fun i:Nat=>⟨[(0,.slice (some ⟨bi,off,none⟩) (keyC l).length cap),(3,.int .i64 (i:Nat))],[],H⟩) (fun i=>i≤N∧srt l i=srt l N) (fun i=>i) N ?_ ⟨Nat.le_refl _,rfl⟩ ?_
  ·exact Weak.env (by simp [envIn,lk_cons,wth_some])
  rintro i ⟨hi,he⟩
  simp only at hi he ⊢
  rcases Nat.eq_zero_or_pos i with hz|hz
  ·subst hz
   have he':srt l N=true:=he.symm
   rw [he']
   have hc':¬((0:Nat):Int)>0:=by decide
   repeat first|with_reducible refine kc ?_|((with_reducible first|refine kr ?_ ?_|refine kt ?_ ?_);exact rfl)|((with_reducible refine kf ?_ ?_);exact rfl)|simp only [go_sem,sevalprocAttr,reduceCtorEq,hc']|simp (disch:=omega) only [wz]|with_reducible_and_instances exact finR|((with_reducible refine finR' ?_ ?_)<;> rfl)|((with_reducible refine finD hsc (NRel.of_plain ?_));exact rfl)
  ·obtain ⟨m,rfl⟩:∃m,i=m+1:=⟨i - 1,by omega⟩
   have hc':((m+1:Nat):Int)>0:=by omega
   have hwm:IntKind.i64.wrap (((m+1:Nat):Int) - 1)=(m:Int):=by rw [wi64 (by omega)];omega
   have hm1:m+1<l.length:=by omega
   have hm0:m<l.length:=by omega
   have hat1:=hat (m+1) hm1
   have hat0:=hat m hm0
   have hL:=Less l[m+1] l[m] H
   have hs1:srt l (m+1)=if Op.bytesLess l[m+1] l[m] then false else srt l m:=by
    conv=>lhs;unfold srt
    rw [List.getD_eq_getElem?_getD,List.getD_eq_getElem?_getD,List.getElem?_eq_getElem hm1,List.getElem?_eq_getElem hm0];rfl
   have z0:(0:Int)≤((m+1:Nat):Int):=by omega
   have z1:((m+1:Nat):Int)<((keyC l).length:Int):=by omega
   have y0:(0:Int)≤(m:Int):=by omega
   have y1:(m:Int)<((keyC l).length:Int):=by omega
   rw [hs1] at he
   rw [← he]
   generalize l[m+1]=x at*
   generalize l[m]=y at*
   cases hb:Op.bytesLess x y
   ·rw [hb] at hL
    repeat first|with_reducible refine kc ?_|((with_reducible first|refine kr ?_ ?_|refine kt ?_ ?_);exact rfl)|((with_reducible refine kf ?_ ?_);exact rfl)|simp only [go_sem,sevalprocAttr,reduceCtorEq,hc']|simp (disch:=omega) only [wz]|with_reducible_and_instances exact finR|((with_reducible refine finR' ?_ ?_)<;> rfl)|((with_reducible refine finD hsc (NRel.of_plain ?_));exact rfl)
    refine AWP.regionK 9 (by kernel_rfl) (by decide) (by kernel_rfl) ?_
    repeat first|with_reducible refine kc ?_|((with_reducible first|refine kr ?_ ?_|refine kt ?_ ?_);exact rfl)|((with_reducible refine kf ?_ ?_);exact rfl)|with_reducible refine hL.use ?_|simp only [go_sem,sevalprocAttr,reduceCtorEq,hbi,hat1,hat0,z0,z1,y0,y1,hwm,Int.toNat_natCast]|simp (disch:=omega) only [wz]|with_reducible_and_instances exact finR|((with_reducible refine finR' ?_ ?_)<;> rfl)|((with_reducible refine finD hsc (NRel.of_plain ?_));exact rfl)
    exact ⟨m,Weak.env (by simp [envIn,lk_cons,wth_some]),by omega,rfl,by omega⟩
   ·rw [hb] at hL
    repeat first|with_reducible refine kc ?_|((with_reducible first|refine kr ?_ ?_|refine kt ?_ ?_);exact rfl)|((with_reducible refine kf ?_ ?_);exact rfl)|simp only [go_sem,sevalprocAttr,reduceCtorEq,hc']|simp (disch:=omega) only [wz]|with_reducible_and_instances exact finR|((with_reducible refine finR' ?_ ?_)<;> rfl)|((with_reducible refine finD hsc (NRel.of_plain ?_));exact rfl)
    refine AWP.regionK 9 (by kernel_rfl) (by decide) (by kernel_rfl) ?_
    repeat first|with_reducible refine kc ?_|((with_reducible first|refine kr ?_ ?_|refine kt ?_ ?_);exact rfl)|((with_reducible refine kf ?_ ?_);exact rfl)|with_reducible refine hL.use ?_|simp only [go_sem,sevalprocAttr,reduceCtorEq,hbi,hat1,hat0,z0,z1,y0,y1,hwm,Int.toNat_natCast]|simp (disch:=omega) only [wz]|with_reducible_and_instances exact finR|((with_reducible refine finR' ?_ ?_)<;> rfl)|((with_reducible refine finD hsc (NRel.of_plain ?_));exact rfl)
end Go.Proofs.YthcdjconlfdidaaGreatDoor

set_option linter.unusedVariables false
set_option linter.unusedSimpArgs false
set_option maxHeartbeats 4000000
set_option maxRecDepth 20000
namespace Go.Proofs.YthcdjconlfdidaaGreatDoor
open Go Go.Aw Go.Proofs
def strsC (l:List (List UInt8)):List Value:=l.map fun s=> .string (bs s)
theorem strsC_len (l:List (List UInt8)):(strsC l).length=l.length:=by simp [strsC]
theorem strsC_flat (l:List (List UInt8)):(strsC l).all flat=true:=by
 unfold strsC
 rw [List.all_eq_true]
 intro x hx
 obtain ⟨u,hu,rfl⟩:=List.mem_map.1 hx
 rfl
def CopyK (H:AHeap) (l:List (List UInt8)) (v:Value) (H1:AHeap):Prop:=
 (l=[]∧(v= .slice none 0 0∨∃i,v= .slice (some ⟨i,0,none⟩) 0 0)∧Frm [] H H1)∨
 (l≠[]∧∃b,v= .slice (some ⟨b,0,none⟩) l.length l.length∧H1[b]? =some (.cells (strsC l) ⟨9,1,true,0,none⟩)∧H.length≤b∧Frm [] H H1)
def CloneP (H:AHeap) (l:List (List UInt8)) (r:ARes) (H1:AHeap):Prop:=∃v',r= .ret v'∧CopyK H l v' H1
theorem CloneK (l:List (List UInt8)) (hl:l.length≤1099511627776) (v:Value) (H:AHeap) (hv:RdK H 1 v (keyC l)):AC Tryz.prog 59 [v] H (CloneP H l):=by
 have hkl:(keyC l).length=l.length:=by unfold keyC;simp
 rcases hv with ⟨rfl,e⟩|⟨i,o,cap,cs,k,rfl,hcap,hi,hown,hz,hle,hr⟩
 ·have hl0:l=[]:=by rw [e] at hkl;exact List.eq_nil_of_length_eq_zero hkl.symm
  refine AC.enter Tryz.func59 rfl (by kernel_rfl) 8 rfl [.tmp 2] rfl (by simp) fun hsc B=> ?_
  repeat first|with_reducible refine kc ?_|((with_reducible first|refine kr ?_ ?_|refine kt ?_ ?_);exact rfl)|((with_reducible refine kf ?_ ?_);exact rfl)|simp only [go_sem,sevalprocAttr,reduceCtorEq]|simp (disch:=omega) only [wz]
  exact ⟨_,_,.refl _ _ _,_,rfl,.inl ⟨hl0,.inl rfl,.refl _ _⟩⟩
 ·have hil:=lt_of_get hi
  rw [hkl] at hle hcap ⊢
  have hz0:repZ 0 [Value.string (bs [])]=[]:=rfl
  rcases Nat.eq_zero_or_pos l.length with h0|h0
  ·have hl0:=List.eq_nil_of_length_eq_zero h0
   subst hl0
   refine AC.enter Tryz.func59 rfl (by kernel_rfl) 8 rfl [.tmp 2] rfl (by simp) fun hsc B=> ?_
   have ho:o≤cs.length:=by simpa using hle
   repeat first|with_reducible refine kc ?_|((with_reducible first|refine kr ?_ ?_|refine kt ?_ ?_);exact rfl)|((with_reducible refine kf ?_ ?_);exact rfl)|simp only [go_sem,sevalprocAttr,reduceCtorEq,hi,hil,hgetl,hz0]|simp (disch:=omega) only [wz]
   refine ⟨ho,appendTo_e0 (e':=9) (fz:=0) (own:=true) (hget0 rfl) ?_⟩
   repeat first|with_reducible refine kc ?_|((with_reducible first|refine kr ?_ ?_|refine kt ?_ ?_);exact rfl)|((with_reducible refine kf ?_ ?_);exact rfl)|simp only [go_sem,sevalprocAttr,reduceCtorEq]|simp (disch:=omega) only [wz]
   exact ⟨_,_,.refl _ _ _,_,rfl,.inl ⟨rfl,.inr ⟨H.length,rfl⟩,Frm.app⟩⟩
  ·have hne:l≠[]:=fun e=>by rw [e] at h0;simp at h0
   have hcells:(cs.drop o).take l.length=strsC l:=by
    refine List.ext_getElem? fun q=> ?_
    by_cases hq:q<l.length
    ·have h1:=congrArg (fun l=>l[0]?) (hr q _ (keyC_at hq))
     have h2:cs[o+q]? =some (.string (bs l[q])):=by simpa using h1
     rw [List.getElem?_take_of_lt hq,List.getElem?_drop,h2]
     unfold strsC
     rw [List.getElem?_map,List.getElem?_eq_getElem hq];rfl
    ·rw [List.getElem?_eq_none (by rw [List.length_take];omega),List.getElem?_eq_none (by rw [strsC_len];omega)]
   have hfl:=strsC_flat l
   have hcl:=strsC_len l
   have hle':o+l.length≤cs.length:=by omega
   refine AC.enter Tryz.func59 rfl (by kernel_rfl) 8 rfl [.tmp 2] rfl (by simp) fun hsc B=> ?_
   repeat first|with_reducible refine kc ?_|((with_reducible first|refine kr ?_ ?_|refine kt ?_ ?_);exact rfl)|((with_reducible refine kf ?_ ?_);exact rfl)|simp only [go_sem,sevalprocAttr,reduceCtorEq,hi,hil,hgetl,hz0,hcells,hfl,hcl]|simp (disch:=omega) only [wz]
   refine ⟨hle',appendTo_e (e':=9) (fz:=0) (own:=true) (hget0 rfl) (by omega) (by omega) (by omega) ?_⟩
   repeat first|with_reducible refine kc ?_|((with_reducible first|refine kr ?_ ?_|refine kt ?_ ?_);exact rfl)|((with_reducible refine kf ?_ ?_);exact rfl)|simp only [go_sem,sevalprocAttr,reduceCtorEq]|simp (disch:=omega) only [wz]
   refine ⟨_,_,.refl _ _ _,_,rfl,.inr ⟨hne,H.length+1,rfl,?_,by omega,Frm.app⟩⟩
   rw [hgetk (n:=H.length) (k:=1) rfl]
   rfl
end Go.Proofs.YthcdjconlfdidaaGreatDoor
