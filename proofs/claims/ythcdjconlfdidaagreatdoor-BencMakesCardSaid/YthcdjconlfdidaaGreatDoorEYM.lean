/-
  A part of the proof of a statement of this seat.
-/
import Derived.Test.YthcdjconlfdidaaGreatDoorE4M
import Derived.Test.YthcdjconlfdidaaGreatDoorEAM
import Derived.Test.YthcdjconlfdidaaGreatDoorEG
import Derived.Test.YthcdjconlfdidaaGreatDoorQ2M
import Derived.Test.YthcdjconlfdidaaGreatDoorEH
set_option linter.unusedVariables false
set_option linter.unusedSimpArgs false
set_option maxRecDepth 20000
set_option maxHeartbeats 8000000
namespace Go.Proofs.YthcdjconlfdidaaGreatDoor
open Go Go.Aw Go.Proofs
end Go.Proofs.YthcdjconlfdidaaGreatDoor

set_option linter.unusedVariables false
set_option linter.unusedSimpArgs false
set_option maxRecDepth 20000
set_option maxHeartbeats 4000000
namespace Go.Proofs.YthcdjconlfdidaaGreatDoor
open Go Go.Aw Go.Proofs
theorem RdK.row {H:AHeap} {m:Nat} {v:Value} {l:List (List Value)} (h:RdK H m v l) (hl:0<l.length):
  ∃i off cap cs k,v= .slice (some ⟨i,off,none⟩) l.length cap∧l.length≤cap∧H[i]? =some (.cells cs k)∧k.own=false∧(k.esz=m∨k.esz=0)∧∀j r,l[j]? =some r→off+(j*m+m)≤cs.length∧(cs.drop (off+j*m)).take m=r:=by
 rcases h with ⟨rfl,rfl⟩|⟨i,off,cap,cs,k,e,hc,hi,ho,hz,hl,hr⟩
 ·cases hl
 ·refine ⟨i,off,cap,cs,k,e,hc,hi,ho,hz,fun j r hj=> ⟨?_,hr j r hj⟩⟩
  have hlt:=(List.getElem?_eq_some_iff.1 hj).1
  have:(j+1)*m≤l.length*m:=Nat.mul_le_mul_right m hlt
  rw [Nat.add_mul] at this
  omega
structure OkV (v:BV):Prop where
 form:v.form=true
 nums:v.nums
 cnt:v.count≤1000
 len:v.write.length≤65536
theorem countL_mem:∀{l:List BV} {c:BV},c∈l→c.count≤BV.countL l
 |v::l,c,h=>by
  rw [BV.countL]
  rcases List.mem_cons.1 h with rfl|h
  ·omega
  ·have:=countL_mem h;omega
theorem OkV.kid {v:BV} (h:OkV v) (hk:v.kind=3∨v.kind=4) {i:Nat} (hi:i<v.kids.length):OkV v.kids[i]∧preW v i+kW v i+(v.kids[i]).write.length≤v.write.length:=by
 obtain ⟨A,B,hw,hA⟩:=kid_at h.form hk hi
 have hl:=congrArg List.length hw
 rw [List.length_append,List.length_append] at hl
 have hlen:=h.len
 refine ⟨⟨form_kid h.form (List.getElem_mem hi),?_,?_,by omega⟩,by omega⟩
 ·obtain ⟨k,n,s,kids,keys⟩:=v
  have:=h.nums
  unfold BV.nums at this
  exact BV.numsL_iff.1 this.2 _ (List.getElem_mem hi)
 ·obtain ⟨k,n,s,kids,keys⟩:=v
  have:=h.cnt
  rw [BV.count] at this
  have h2:=countL_mem (List.getElem_mem hi)
  show (kids[i]).count≤1000
  have h3:(kids[i]).count≤BV.countL kids:=h2
  omega
end Go.Proofs.YthcdjconlfdidaaGreatDoor

set_option linter.unusedVariables false
set_option linter.unusedSimpArgs false
set_option maxRecDepth 20000
set_option maxHeartbeats 4000000
namespace Go.Proofs.YthcdjconlfdidaaGreatDoor
open Go Go.Aw Go.Proofs
end Go.Proofs.YthcdjconlfdidaaGreatDoor

set_option linter.unusedVariables false
set_option linter.unusedSimpArgs false
set_option maxRecDepth 20000
set_option maxHeartbeats 4000000
namespace Go.Proofs.YthcdjconlfdidaaGreatDoor
open Go Go.Aw Go.Proofs
end Go.Proofs.YthcdjconlfdidaaGreatDoor

set_option linter.unusedVariables false
set_option linter.unusedSimpArgs false
set_option maxRecDepth 20000
set_option maxHeartbeats 4000000
namespace Go.Proofs.YthcdjconlfdidaaGreatDoor
open Go Go.Aw Go.Proofs
def shortB (path:List Tx):Bool:=path.all (fun t=>decide (t.length≤300))&&decide (path.length≤20)
theorem short (path:List Tx) (hpl:path.length<140737488355328) (H:AHeap) (vp:Value) (hP:RdK H 1 vp (keyC path)):ARet Tryz.prog 5 [vp] H (.bool (shortB path)) H:=by
 have hkl:(keyC path).length=path.length:=by unfold keyC;simp
 have q1:∀H' K,lenW Tryz.prog 22 vp H' K=K (.int .i64 (path.length:Nat)) H':=fun H' K=>by rw [hP.lenT (by simp only [go_sem,sevalprocAttr,reduceCtorEq]),hkl]
 refine AC.enter Tryz.func5 rfl (by kernel_rfl) 18 rfl [.tmp 2] rfl (by simp) fun hsc B=> ?_
 repeat first|with_reducible refine kc ?_|((with_reducible first|refine kr ?_ ?_|refine kt ?_ ?_);exact rfl)|((with_reducible refine kf ?_ ?_);exact rfl)|simp only [go_sem,sevalprocAttr,reduceCtorEq,q1]|simp (disch:=omega) only [wz]|with_reducible_and_instances exact finR|((with_reducible refine finR' ?_ ?_)<;> rfl)|((with_reducible refine finD hsc (NRel.of_plain ?_));exact rfl)
 refine AWP.loopP (fun j:Nat=>⟨[(0,vp),(5,vp),(6,.int .i64 (path.length:Nat)),(7,.int .i64 (j:Nat))],[],H⟩)
  (fun j=>j≤path.length∧(path.take j).all (fun t=>decide (t.length≤300))=true) (fun j=>path.length - j) 0 ?_ ⟨Nat.zero_le _,rfl⟩ ?_
 ·exact Weak.env (by simp [envIn,lk_cons,wth_some])
 rintro j ⟨hj,hall⟩
 dsimp only at hj hall ⊢
 by_cases hlt:j<path.length
 ·have hlt':(j:Int)<(path.length:Int):=by omega
  obtain ⟨bi,off,cap,cs',k',rfl,hcap,hbi,hown,hesz,hle,htk⟩:=hP.at_ (keyC_at hlt)
  have hlt2:(j:Int)<((keyC path).length:Int):=by omega
  have hwj:IntKind.i64.wrap ((j:Int)+1)=((j+1:Nat):Int):=by rw [wi64 (by omega)];omega
  have hat2:cs'[off+j]? =some (.string (bs path[j])):=by
   have h1:=congrArg (fun l=>l[0]?) htk
   simpa using h1
  by_cases h3:path[j].length≤300
  ·have h3':¬(path[j].length:Int)>300:=by omega
   repeat first|with_reducible refine kc ?_|((with_reducible first|refine kr ?_ ?_|refine kt ?_ ?_);exact rfl)|((with_reducible refine kf ?_ ?_);exact rfl)|simp only [go_sem,sevalprocAttr,reduceCtorEq,hlt',hlt2,hbi,hat2,h3',hwj]|simp (disch:=omega) only [wz]|with_reducible_and_instances exact finR|((with_reducible refine finR' ?_ ?_)<;> rfl)|((with_reducible refine finD hsc (NRel.of_plain ?_));exact rfl)
   refine ⟨j+1,Weak.env (by simp [envIn,lk_cons,wth_some]),by omega,?_,by omega⟩
   rw [List.take_add_one,List.getElem?_eq_getElem hlt,List.all_append,hall]
   simpa using h3
  ·have h3':(path[j].length:Int)>300:=by omega
   have hF:shortB path=false:=by
    unfold shortB
    rw [Bool.and_eq_false_iff]
    refine .inl (List.all_eq_false.2 ⟨path[j],List.getElem_mem hlt,by simpa using h3⟩)
   rw [hF]
   repeat first|with_reducible refine kc ?_|((with_reducible first|refine kr ?_ ?_|refine kt ?_ ?_);exact rfl)|((with_reducible refine kf ?_ ?_);exact rfl)|simp only [go_sem,sevalprocAttr,reduceCtorEq,hlt',hlt2,hbi,hat2,h3',hwj]|simp (disch:=omega) only [wz]|with_reducible_and_instances exact finR|((with_reducible refine finR' ?_ ?_)<;> rfl)|((with_reducible refine finD hsc (NRel.of_plain ?_));exact rfl)
 ·have hlt':¬(j:Int)<(path.length:Int):=by omega
  rw [List.take_of_length_le (by omega)] at hall
  have hF:shortB path=decide ((path.length:Int)≤20):=by
   unfold shortB
   rw [hall,Bool.true_and]
   rw [Bool.eq_iff_iff,decide_eq_true_iff,decide_eq_true_iff]
   omega
  rw [hF]
  repeat first|with_reducible refine kc ?_|((with_reducible first|refine kr ?_ ?_|refine kt ?_ ?_);exact rfl)|((with_reducible refine kf ?_ ?_);exact rfl)|simp only [go_sem,sevalprocAttr,reduceCtorEq,hlt',q1]|simp (disch:=omega) only [wz]|with_reducible_and_instances exact finR|((with_reducible refine finR' ?_ ?_)<;> rfl)|((with_reducible refine finD hsc (NRel.of_plain ?_));exact rfl)
end Go.Proofs.YthcdjconlfdidaaGreatDoor
