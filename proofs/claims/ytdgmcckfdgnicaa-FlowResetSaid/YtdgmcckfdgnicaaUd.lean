/-
 How packets are taken by their kinds;whether all are valid.
-/
import Derived.Test.YtdgmcckfdgnicaaUc
set_option linter.unusedVariables false
set_option linter.unusedSimpArgs false
set_option maxRecDepth 20000
set_option maxHeartbeats 8000000
namespace Go.Proofs.Ytdgmcckfdgnicaa
open Go Go.Aw Go.Proofs
def Sg.ok (p:Sg):Prop:=okP p.kind p.conn p.seq p.ack p.window p.marks p.body p.time p.late
theorem ok_true (p:Sg) (h:p.ok) (H:AHeap):ARet Try.prog 44 [p.v] H (.bool false) H:=by
 haveI:Decidable (okP p.kind p.conn p.seq p.ack p.window p.marks p.body p.time p.late):= .isTrue h
 have hv:=fun H=>Valid p.kind p.conn p.seq p.ack p.window p.marks p.body p.time p.late H
 simp only [decide_eq_true (show okP p.kind p.conn p.seq p.ack p.window p.marks p.body p.time p.late from h)] at hv
 unfold Sg.v Sg.c sgC at*
 refine AC.enter Try.func44 rfl (by kernel_rfl) 6 rfl [.tmp 2] rfl (by simp) fun hsc B=> ?_
 repeat first|with_reducible refine kc ?_|((with_reducible first|refine kr ?_ ?_|refine kt ?_ ?_);exact rfl)|((with_reducible refine kf ?_ ?_);exact rfl)|with_reducible refine (hv _).use ?_|simp only [go_sem,sevalprocAttr,reduceCtorEq]|simp (disch:=omega) only [wz]|with_reducible_and_instances exact finR|((with_reducible refine finR' ?_ ?_)<;> rfl)|((with_reducible refine finD hsc (NRel.of_plain ?_));exact rfl)
theorem IndexFuncS {H:AHeap} {v:Value} {l:List Sg} {js:List Nat} (hr:RowS H v l js) (hl:l.length<1099511627776) (hok:∀p∈l,p.ok):ARet Try.prog 62 [v,.func (.func 44) ⟨[]⟩ ⟨[]⟩] H (.int .i64 (-1)) H:=by
 have q1:∀H' K,lenW Try.prog 31 v H' K=K (.int .i64 (l.length:Nat)) H':=fun H' K=>hr.lenW
 refine AC.enter Try.func62 rfl (by kernel_rfl) 19 rfl [.tmp 4] rfl (by simp) fun hsc B=> ?_
 repeat first|with_reducible refine kc ?_|((with_reducible first|refine kr ?_ ?_|refine kt ?_ ?_);exact rfl)|((with_reducible refine kf ?_ ?_);exact rfl)|simp only [go_sem,sevalprocAttr,reduceCtorEq,q1]|simp (disch:=omega) only [wz]|with_reducible_and_instances exact finR|((with_reducible refine finR' ?_ ?_)<;> rfl)|((with_reducible refine finD hsc (NRel.of_plain ?_));exact rfl)
 refine AWP.loopP (fun k:Nat=>⟨[(0,v),(1,.func (.func 44) ⟨[]⟩ ⟨[]⟩),(7,.int .i64 (l.length:Nat)),(8,.int .i64 (k:Nat))],[],H⟩) (fun k=>k≤l.length) (fun k=>l.length - k) 0 ?_ (Nat.zero_le _) ?_
 ·exact Weak.env (by simp [envIn,lk_cons,wth_some])
 intro k hk
 by_cases hc:k<l.length
 ·have hc':(k:Int)<(l.length:Int):=by omega
  obtain ⟨j,off,cap,cs,es,rfl,_,hj,hcap,hle,hg⟩:=hr.get (List.getElem?_eq_getElem hc)
  have hO:=ok_true l[k] (hok _ (List.getElem_mem hc)) H
  have hwn:IntKind.i64.wrap ((k:Int)+1)=((k+1:Nat):Int):=by rw [wi64 (by omega)];omega
  unfold Sg.v at hO
  have hle2:off+k*9+9≤cs.length:=by omega
  repeat first|with_reducible refine kc ?_|((with_reducible first|refine kr ?_ ?_|refine kt ?_ ?_);exact rfl)|((with_reducible refine kf ?_ ?_);exact rfl)|with_reducible refine hO.use ?_|simp only [go_sem,sevalprocAttr,reduceCtorEq,hc',hj,hg,hwn,hle,hle2,Sg.c9]|simp (disch:=omega) only [wz]|with_reducible_and_instances exact finR|((with_reducible refine finR' ?_ ?_)<;> rfl)|((with_reducible refine finD hsc (NRel.of_plain ?_));exact rfl)
  exact ⟨k+1,Weak.env (by simp [envIn,lk_cons,wth_some]),by omega,by omega⟩
 ·have:k=l.length:=by omega
  subst this
  have hc':¬(l.length:Int)<(l.length:Int):=by omega
  repeat first|with_reducible refine kc ?_|((with_reducible first|refine kr ?_ ?_|refine kt ?_ ?_);exact rfl)|((with_reducible refine kf ?_ ?_);exact rfl)|simp only [go_sem,sevalprocAttr,reduceCtorEq,hc']|simp (disch:=omega) only [wz]|with_reducible_and_instances exact finR|((with_reducible refine finR' ?_ ?_)<;> rfl)|((with_reducible refine finD hsc (NRel.of_plain ?_));exact rfl)
theorem ContainsFunc {H:AHeap} {v:Value} {l:List Sg} {js:List Nat} (hr:RowS H v l js) (hl:l.length<1099511627776) (hok:∀p∈l,p.ok):ARet Try.prog 43 [v,.func (.func 44) ⟨[]⟩ ⟨[]⟩] H (.bool false) H:=by
 have hI:=IndexFuncS hr hl hok
 refine AC.enter Try.func43 rfl (by kernel_rfl) 9 rfl [.tmp 4] rfl (by simp) fun hsc B=> ?_
 repeat first|with_reducible refine kc ?_|((with_reducible first|refine kr ?_ ?_|refine kt ?_ ?_);exact rfl)|((with_reducible refine kf ?_ ?_);exact rfl)|with_reducible refine hI.use ?_|simp only [go_sem,sevalprocAttr,reduceCtorEq]|simp (disch:=omega) only [wz]|with_reducible_and_instances exact finR|((with_reducible refine finR' ?_ ?_)<;> rfl)|((with_reducible refine finD hsc (NRel.of_plain ?_));exact rfl)
def takesV:Value:= .agg ⟨[.func (.func 64) ⟨[]⟩ ⟨[]⟩,.func (.func 65) ⟨[]⟩ ⟨[]⟩,.func (.func 66) ⟨[]⟩ ⟨[]⟩,.func (.func 65) ⟨[]⟩ ⟨[]⟩,.func (.func 67) ⟨[]⟩ ⟨[]⟩]⟩
theorem takes (H:AHeap):ARet Try.prog 46 [] H takesV H:=by
 unfold takesV
 refine AC.enter Try.func46 rfl (by kernel_rfl) 2 rfl [.cell 0 88] rfl (by simp) fun hsc B=> ?_
 repeat first|with_reducible refine kc ?_|((with_reducible first|refine kr ?_ ?_|refine kt ?_ ?_);exact rfl)|((with_reducible refine kf ?_ ?_);exact rfl)|simp only [go_sem,sevalprocAttr,reduceCtorEq]|simp (disch:=omega) only [wz]|with_reducible_and_instances exact finR|((with_reducible refine finR' ?_ ?_)<;> rfl)|((with_reducible refine finD hsc (NRel.of_plain ?_));exact rfl)
 exact ⟨_,H,WeakV.drop rfl hsc (by simp [nr_agg,nrs_cons,nrs_nil,nr_func]),rfl,rfl⟩
def byKind (s:E) (p:Sg):E:=if p.kind=1 then openT s p else if p.kind=2 then carryR s p else if p.kind=3 then aloneR s p else if p.kind=4 then carryR s p else dropT s
def closeT (s:E):E:=if s.state=3∧s.ended=true∧s.done=true then {s with state:=4} else s
def takeOne (s:E) (p:Sg):E:=if p.conn≠s.conn∨s.state=5 then s else
 closeT (byKind {s with late:=p.time,some:=true,window:=if p.kind=5 then s.window else p.window} p)
def takeR (s:E) (now:Int) (l:List Sg):Int×E:=if atR s now=0 then (0,l.foldl takeOne {s with now:=now}) else (atR s now,s)
end Go.Proofs.Ytdgmcckfdgnicaa
