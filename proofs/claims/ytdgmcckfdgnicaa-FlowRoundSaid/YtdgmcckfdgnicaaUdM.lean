/-
  A part of the proof of a statement of this seat.
-/
import Derived.Test.YtdgmcckfdgnicaaUc
set_option linter.unusedVariables false
set_option linter.unusedSimpArgs false
set_option maxRecDepth 20000
set_option maxHeartbeats 8000000
namespace Go.Proofs.Ytdgmcckfdgnicaa
open Go Go.Aw Go.Proofs
def Sg.ok (p:Sg):Prop:=okP p.kind p.conn p.seq p.ack p.window p.marks p.body p.time p.late
theorem ok_true (p:Sg) (h:p.ok) (H:AHeap):ARet Try.prog 44 [p.v] H (.bool false) H:=by
 haveI:Decidable (okP p.kind p.conn p.seq p.ack p.window p.marks p.body p.time p.late):= .isTrue h
 have hv:=fun H=>Valid p.kind p.conn p.seq p.ack p.window p.marks p.body p.time p.late H
 simp only [decide_eq_true (show okP p.kind p.conn p.seq p.ack p.window p.marks p.body p.time p.late from h)] at hv
 unfold Sg.v Sg.c sgC at*
 refine AC.enter Try.func44 rfl (by kernel_rfl) 6 rfl [.tmp 2] rfl (by simp) fun hsc B=> ?_
 repeat first|with_reducible refine kc ?_|((with_reducible first|refine kr ?_ ?_|refine kt ?_ ?_);exact rfl)|((with_reducible refine kf ?_ ?_);exact rfl)|with_reducible refine (hv _).use ?_|simp only [go_sem,sevalprocAttr,reduceCtorEq]|simp (disch:=omega) only [wz]|with_reducible_and_instances exact finR|((with_reducible refine finR' ?_ ?_)<;> rfl)|((with_reducible refine finD hsc (NRel.of_plain ?_));exact rfl)
theorem IndexFuncS {H:AHeap} {v:Value} {l:List Sg} {js:List Nat} (hr:RowS H v l js) (hl:l.length<1099511627776) (hok:∀p∈l,p.ok):ARet Try.prog 62 [v,.func (.func 44) ⟨[]⟩ ⟨[]⟩] H (.int .i64 (-1)) H:=by
 have q1:∀H' K,lenW Try.prog 31 v H' K=K (.int .i64 (l.length:Nat)) H':=fun H' K=>hr.lenW
 refine AC.enter Try.func62 rfl (by kernel_rfl) 19 rfl [.tmp 4] rfl (by simp) fun hsc B=> ?_
 repeat first|with_reducible refine kc ?_|((with_reducible first|refine kr ?_ ?_|refine kt ?_ ?_);exact rfl)|((with_reducible refine kf ?_ ?_);exact rfl)|simp only [go_sem,sevalprocAttr,reduceCtorEq,q1]|simp (disch:=omega) only [wz]|with_reducible_and_instances exact finR|((with_reducible refine finR' ?_ ?_)<;> rfl)|((with_reducible refine finD hsc (NRel.of_plain ?_));exact rfl)
 refine AWP.loopP (fun k:Nat=>⟨[(0,v),(1,.func (.func 44) ⟨[]⟩ ⟨[]⟩),(7,.int .i64 (l.length:Nat)),(8,.int .i64 (k:Nat))],[],H⟩) (fun k=>k≤l.length) (fun k=>l.length - k) 0 ?_ (Nat.zero_le _) ?_
 ·exact Weak.env (by simp [envIn,lk_cons,wth_some])
 intro k hk
 by_cases hc:k<l.length
 ·have hc':(k:Int)<(l.length:Int):=by omega
  obtain ⟨j,off,cap,cs,es,rfl,_,hj,hcap,hle,hg⟩:=hr.get (List.getElem?_eq_getElem hc)
  have hO:=ok_true l[k] (hok _ (List.getElem_mem hc)) H
  have hwn:IntKind.i64.wrap ((k:Int)+1)=((k+1:Nat):Int):=by rw [wi64 (by omega)];omega
  unfold Sg.v at hO
  have hle2:off+k*9+9≤cs.length:=by omega
  repeat first|with_reducible refine kc ?_|((with_reducible first|refine kr ?_ ?_|refine kt ?_ ?_);exact rfl)|((with_reducible refine kf ?_ ?_);exact rfl)|with_reducible refine hO.use ?_|simp only [go_sem,sevalprocAttr,reduceCtorEq,hc',hj,hg,hwn,hle,hle2,Sg.c9]|simp (disch:=omega) only [wz]|with_reducible_and_instances exact finR|((with_reducible refine finR' ?_ ?_)<;> rfl)|((with_reducible refine finD hsc (NRel.of_plain ?_));exact rfl)
  exact ⟨k+1,Weak.env (by simp [envIn,lk_cons,wth_some]),by omega,by omega⟩
 ·have:k=l.length:=by omega
  subst this
  have hc':¬(l.length:Int)<(l.length:Int):=by omega
  repeat first|with_reducible refine kc ?_|((with_reducible first|refine kr ?_ ?_|refine kt ?_ ?_);exact rfl)|((with_reducible refine kf ?_ ?_);exact rfl)|simp only [go_sem,sevalprocAttr,reduceCtorEq,hc']|simp (disch:=omega) only [wz]|with_reducible_and_instances exact finR|((with_reducible refine finR' ?_ ?_)<;> rfl)|((with_reducible refine finD hsc (NRel.of_plain ?_));exact rfl)
theorem ContainsFunc {H:AHeap} {v:Value} {l:List Sg} {js:List Nat} (hr:RowS H v l js) (hl:l.length<1099511627776) (hok:∀p∈l,p.ok):ARet Try.prog 43 [v,.func (.func 44) ⟨[]⟩ ⟨[]⟩] H (.bool false) H:=by
 have hI:=IndexFuncS hr hl hok
 refine AC.enter Try.func43 rfl (by kernel_rfl) 9 rfl [.tmp 4] rfl (by simp) fun hsc B=> ?_
 repeat first|with_reducible refine kc ?_|((with_reducible first|refine kr ?_ ?_|refine kt ?_ ?_);exact rfl)|((with_reducible refine kf ?_ ?_);exact rfl)|with_reducible refine hI.use ?_|simp only [go_sem,sevalprocAttr,reduceCtorEq]|simp (disch:=omega) only [wz]|with_reducible_and_instances exact finR|((with_reducible refine finR' ?_ ?_)<;> rfl)|((with_reducible refine finD hsc (NRel.of_plain ?_));exact rfl)
def takesV:Value:= .agg ⟨[.func (.func 64) ⟨[]⟩ ⟨[]⟩,.func (.func 65) ⟨[]⟩ ⟨[]⟩,.func (.func 66) ⟨[]⟩ ⟨[]⟩,.func (.func 65) ⟨[]⟩ ⟨[]⟩,.func (.func 67) ⟨[]⟩ ⟨[]⟩]⟩
theorem takes (H:AHeap):ARet Try.prog 46 [] H takesV H:=by
 unfold takesV
 refine AC.enter Try.func46 rfl (by kernel_rfl) 2 rfl [.cell 0 88] rfl (by simp) fun hsc B=> ?_
 repeat first|with_reducible refine kc ?_|((with_reducible first|refine kr ?_ ?_|refine kt ?_ ?_);exact rfl)|((with_reducible refine kf ?_ ?_);exact rfl)|simp only [go_sem,sevalprocAttr,reduceCtorEq]|simp (disch:=omega) only [wz]|with_reducible_and_instances exact finR|((with_reducible refine finR' ?_ ?_)<;> rfl)|((with_reducible refine finD hsc (NRel.of_plain ?_));exact rfl)
 exact ⟨_,H,WeakV.drop rfl hsc (by simp [nr_agg,nrs_cons,nrs_nil,nr_func]),rfl,rfl⟩
def byKind (s:E) (p:Sg):E:=if p.kind=1 then openT s p else if p.kind=2 then carryR s p else if p.kind=3 then aloneR s p else if p.kind=4 then carryR s p else dropT s
def closeT (s:E):E:=if s.state=3∧s.ended=true∧s.done=true then {s with state:=4} else s
def takeOne (s:E) (p:Sg):E:=if p.conn≠s.conn∨s.state=5 then s else
 closeT (byKind {s with late:=p.time,some:=true,window:=if p.kind=5 then s.window else p.window} p)
def takeR (s:E) (now:Int) (l:List Sg):Int×E:=if atR s now=0 then (0,l.foldl takeOne {s with now:=now}) else (atR s now,s)
end Go.Proofs.Ytdgmcckfdgnicaa

set_option linter.unusedVariables false
set_option linter.unusedSimpArgs false
namespace Go.Proofs.Ytdgmcckfdgnicaa
open Go Go.Aw Go.Proofs
theorem kept_mem {l:List (Int×Sg)} {k:Int} {p:Sg} (h:kept? l k=some p):(k,p)∈l:=by
 unfold kept? at h
 rw [Option.map_eq_some_iff] at h
 obtain ⟨x,hx,rfl⟩:=h
 have:=List.find?_some hx
 have hk:x.1=k:=by simpa using this
 rw [← hk]
 exact List.mem_of_find?_eq_some hx
theorem passGo_props:∀(f:Nat) (s:E),(0≤s.base∧s.base<65536)→(passGo f s).ready.length+keptB (passGo f s).kept≤s.ready.length+keptB s.kept∧(passGo f s).kept.length≤s.kept.length∧ (∀ x∈(passGo f s).kept,x∈s.kept)∧(0≤(passGo f s).base∧(passGo f s).base<65536)∧
  ∃b k r d,passGo f s={s with base:=b,kept:=k,ready:=r,ended:=d}
 |0,s,hb=>⟨Nat.le_refl _,Nat.le_refl _,fun x h=>h,hb,_,_,_,_,rfl⟩
 | f +1,s,hb=>by
  unfold passGo
  cases hk:kept? s.kept ((s.base+1)%65536) with
  |none=>exact ⟨Nat.le_refl _,Nat.le_refl _,fun x h=>h,hb,_,_,_,_,rfl⟩
  | some p=>
   dsimp only
   split
   ·exact ⟨Nat.le_refl _,Nat.le_refl _,fun x h=>h,hb,_,_,_,_,rfl⟩
   ·obtain ⟨i1,i2,i3,i4,b,k,r,d,i5⟩:=passGo_props f (passStep s p) (by simp only [passStep];omega)
    have g1:=keptB_filter hk
    have g2:=kept_filter hk
    refine ⟨?_,?_,fun x hx=> ?_,i4,b,k,r,d,?_⟩
    ·refine Nat.le_trans i1 ?_
     simp only [passStep,List.length_append]
     omega
    ·refine Nat.le_trans i2 ?_
     simp only [passStep]
     omega
    ·have:=i3 x hx
     simp only [passStep] at this
     exact (List.mem_filter.1 this).1
    ·rw [i5];rfl
theorem TakeOk.of {B K B2 K2:Nat} {s s':E} (h:TakeOk B K s) (hB:B≤B2) (hK:K≤K2) (h1:s'.flight.length≤s.flight.length) (h2:s'.acked=s.acked) (h3:s'.next=s.next) (h4:s'.base=s.base) (h5:s'.room=s.room) (h6:s'.ready=s.ready) (h7:s'.kept=s.kept):TakeOk B2 K2 s':=
 ⟨Nat.lt_of_le_of_lt h1 h.fl,by rw [h2];exact h.ack,by rw [h3];exact h.next,by rw [h4];exact h.base,by rw [h5];exact h.room,by rw [h6,h7];exact Nat.le_trans h.ready hB,by rw [h7];exact Nat.le_trans h.kept hK,by rw [h7];exact h.bodies⟩
theorem TakeOk.ackR {B K:Nat} {s:E} (h:TakeOk B K s) (ack:Int) (marks:List UInt8):TakeOk B K (ackR s ack marks):=by
 have ha:=ackR_acked s ack marks
 obtain ⟨fl,o,d,a,he,hl⟩:=ackR_ackS s ack marks
 have hn:=h.next
 have hb:=h.ack
 rw [he] at ha ⊢
 simp only at ha
 exact ⟨Nat.lt_of_le_of_lt hl h.fl,by show -1099511627776≤a∧a≤1099511627776;rcases ha with ha|⟨ha,hb2⟩<;> omega,h.next,h.base,h.room,h.ready,h.kept,h.bodies⟩
theorem TakeOk.keep {B K:Nat} {s:E} (h:TakeOk B K s) (p:Sg) (hp:p.body.length≤1400):TakeOk (B+1400) (K+1) (keepR s p):=by
 unfold keepR
 split
 ·exact h.of (by omega) (by omega) (Nat.le_refl _) rfl rfl rfl rfl rfl rfl
 ·split
  ·exact h.of (by omega) (by omega) (Nat.le_refl _) rfl rfl rfl rfl rfl rfl
  ·have hkB:keptB (s.kept++[(p.seq,p)])=keptB s.kept+p.body.length:=by simp [keptB]
   obtain ⟨i1,i2,i3,i4,b,k,r,d,i5⟩:=passGo_props ((s.kept++[(p.seq,p)]).length+1) {s with answer:=true,kept:=s.kept++[(p.seq,p)]} h.base
   have h1:=h.ready
   have h2:=h.kept
   unfold passR
   simp only at i1 i2 i3 i4 i5 ⊢
   refine ⟨by rw [i5];exact h.fl,by rw [i5];exact h.ack,by rw [i5];exact h.next,i4,by rw [i5];exact h.room,by omega,?_,fun x hx=> ?_⟩
   ·refine Nat.le_trans i2 ?_
    rw [List.length_append];simp only [List.length_cons,List.length_nil];omega
   ·rcases List.mem_append.1 (i3 x hx) with hm|hm
    ·exact h.bodies x hm
    ·rw [List.mem_singleton.1 hm];show p.body.length≤_;omega
theorem TakeOk.take {B K:Nat} {s:E} (h:TakeOk B K s) (p:Sg) (hp:p.ok):TakeOk (B+1400) (K+1) (takeOne s p):=by
 obtain ⟨p1,p2,p3,p4,p5,p6,p7,p8,p9,_⟩:=hp
 have up:∀{s:E},TakeOk B K s→TakeOk (B+1400) (K+1) s:=fun h=>h.of (by omega) (by omega) (Nat.le_refl _) rfl rfl rfl rfl rfl rfl
 have hc:∀{s:E},TakeOk (B+1400) (K+1) s→TakeOk (B+1400) (K+1) (closeT s):=fun h=>by
  unfold closeT
  split
  ·exact h.of (Nat.le_refl _) (Nat.le_refl _) (Nat.le_refl _) rfl rfl rfl rfl rfl rfl
  ·exact h
 unfold takeOne
 split
 ·exact up h
 ·refine hc ?_
  have h1:TakeOk B K {s with late:=p.time,some:=true,window:=if p.kind=5 then s.window else p.window}:=h.of (Nat.le_refl _) (Nat.le_refl _) (Nat.le_refl _) rfl rfl rfl rfl rfl rfl
  generalize ({s with late:=p.time,some:=true,window:=if p.kind=5 then s.window else p.window}:E)=s1 at h1
  have hcar:TakeOk (B+1400) (K+1) (carryR s1 p):=by
   unfold carryR
   split
   ·exact up (h1.of (Nat.le_refl _) (Nat.le_refl _) (Nat.le_refl _) rfl rfl rfl rfl rfl rfl)
   ·split
    ·have h2:TakeOk B K {s1 with heard:=true}:=h1.of (Nat.le_refl _) (Nat.le_refl _) (Nat.le_refl _) rfl rfl rfl rfl rfl rfl
     exact (h2.ackR p.ack p.marks).keep p p9
    ·exact up h1
  unfold byKind
  split
  ·refine up ?_
   unfold openT
   split
   ·exact h1
   ·split
    ·exact ⟨h1.fl,h1.ack,h1.next,⟨p4.1,p4.2⟩,h1.room,h1.ready,h1.kept,h1.bodies⟩
    ·exact h1.of (Nat.le_refl _) (Nat.le_refl _) (Nat.le_refl _) rfl rfl rfl rfl rfl rfl
  ·split
   ·exact hcar
   ·split
    ·refine up ?_
     unfold aloneR
     split
     ·exact h1.of (Nat.le_refl _) (Nat.le_refl _) (Nat.le_refl _) rfl rfl rfl rfl rfl rfl
     ·split
      ·unfold alone1
       split
       ·unfold aloneUp
        split
        ·have h2:TakeOk B K {s1 with state:=2,base:=(p.seq - 1)%65536}:=⟨h1.fl,h1.ack,h1.next,⟨by show 0≤(p.seq - 1)%65536;omega,by show (p.seq - 1)%65536<65536;omega⟩,h1.room,h1.ready,h1.kept,h1.bodies⟩
         exact (h2.ackR p.ack p.marks).of (Nat.le_refl _) (Nat.le_refl _) (Nat.le_refl _) rfl rfl rfl rfl rfl rfl
        ·exact h1
       ·exact h1
      ·split
       ·have h2:TakeOk B K {s1 with heard:=true}:=h1.of (Nat.le_refl _) (Nat.le_refl _) (Nat.le_refl _) rfl rfl rfl rfl rfl rfl
        exact h2.ackR p.ack p.marks
       ·exact h1
    ·split
     ·exact hcar
     ·unfold dropT
      split
      ·exact up (h1.of (Nat.le_refl _) (Nat.le_refl _) (Nat.le_refl _) rfl rfl rfl rfl rfl rfl)
      ·exact up h1
end Go.Proofs.Ytdgmcckfdgnicaa
