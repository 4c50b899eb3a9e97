/-
  A part of the proof of a statement of this seat.
-/
import Derived.Test.YtdgmcckfdgnicaaUn
import Derived.Test.YtdgmcckfdgnicaaU6
set_option linter.unusedVariables false
set_option linter.unusedSimpArgs false
set_option maxRecDepth 20000
set_option maxHeartbeats 8000000
namespace Go.Proofs.Ytdgmcckfdgnicaa
open Go Go.Aw Go.Proofs
theorem small_t (a b c:Int) (ha:0≤a∧a≤65535) (hb:0≤b∧b≤65535) (hc:0≤c∧c≤65535) (H:AHeap):ARet Try.prog 8 [.int .i64 a,.int .i64 b,.int .i64 c,.int .i64 1400,.int .i64 4200,.int .i64 100,.slice none 0 0,.slice none 0 0] H (.bool true) H:=by
 refine AC.enter Try.func8 rfl (by kernel_rfl) 74 rfl [.tmp 16] rfl (by simp) fun hsc B=> ?_
 repeat first|with_reducible refine kc ?_|((with_reducible first|refine kr ?_ ?_|refine kt ?_ ?_);exact rfl)|((with_reducible refine kf ?_ ?_);exact rfl)|with_reducible (first|refine (within_t ha).use ?_|refine (within_t hb).use ?_|refine (within_t hc).use ?_|refine (within_t (show (1400:Int)≤1400∧(1400:Int)≤20000 by omega)).use ?_|refine (within_t (show (1:Int)≤4200∧(4200:Int)≤20000 by omega)).use ?_|refine (within_t (show (1:Int)≤100∧(100:Int)≤1400 by omega)).use ?_)|simp only [go_sem,sevalprocAttr,reduceCtorEq]|simp (disch:=omega) only [wz]|with_reducible_and_instances exact finR|((with_reducible refine finR' ?_ ?_)<;> rfl)|((with_reducible refine finD hsc (NRel.of_plain ?_));exact rfl)
 refine AWP.loopP (fun n:Nat=>⟨[(57,.slice none 0 0),(58,.int .i64 0),(59,.int .i64 0)],[],H⟩) (fun _=>True) (fun n=>n) 0 ?_ trivial ?_
 ·exact Weak.env (by simp [envIn,lk_cons,wth_some])
 intro n _
 repeat first|with_reducible refine kc ?_|((with_reducible first|refine kr ?_ ?_|refine kt ?_ ?_);exact rfl)|((with_reducible refine kf ?_ ?_);exact rfl)|simp only [go_sem,sevalprocAttr,reduceCtorEq]|simp (disch:=omega) only [wz]|with_reducible_and_instances exact finR|((with_reducible refine finR' ?_ ?_)<;> rfl)|((with_reducible refine finD hsc (NRel.of_plain ?_));exact rfl)
theorem WriteNo {H:AHeap} {e:Nat} {s:E} {q:Q} (h:EndI H e s q) (now:Int) (text:List UInt8) (hl:text.length≤1000) (hat:atR s now=0) (hs:s.state=5):ARet Try.prog 15 [ptr e,.int .i64 now,.string (bs text)] H (.int .i64 9) H:=by
 have hc:=h.cell
 have ha:=at_ h now
 simp only [endC] at hc
 rw [hat] at ha
 have hl':¬(text.length:Int)>65536:=by omega
 have h1':(s.state != 1)=true:=by rw [hs];rfl
 have h2':(s.state != 2)=true:=by rw [hs];rfl
 cases hcl:s.closing with
 |true=>
  rw [hcl] at hc
  refine AC.enter Try.func15 rfl (by kernel_rfl) 81 rfl [.tmp 6] rfl (by simp) fun hsc B=> ?_
  repeat first|with_reducible refine kc ?_|((with_reducible first|refine kr ?_ ?_|refine kt ?_ ?_);exact rfl)|((with_reducible refine kf ?_ ?_);exact rfl)|with_reducible refine ha.use ?_|simp only [go_sem,sevalprocAttr,reduceCtorEq,hc,hl',h1',h2']|simp (disch:=omega) only [wz]|with_reducible_and_instances exact finR|((with_reducible refine finR' ?_ ?_)<;> rfl)|((with_reducible refine finD hsc (NRel.of_plain ?_));exact rfl)
 |false=>
  rw [hcl] at hc
  refine AC.enter Try.func15 rfl (by kernel_rfl) 81 rfl [.tmp 6] rfl (by simp) fun hsc B=> ?_
  repeat first|with_reducible refine kc ?_|((with_reducible first|refine kr ?_ ?_|refine kt ?_ ?_);exact rfl)|((with_reducible refine kf ?_ ?_);exact rfl)|with_reducible refine ha.use ?_|simp only [go_sem,sevalprocAttr,reduceCtorEq,hc,hl',h1',h2']|simp (disch:=omega) only [wz]|with_reducible_and_instances exact finR|((with_reducible refine finR' ?_ ?_)<;> rfl)|((with_reducible refine finD hsc (NRel.of_plain ?_));exact rfl)
theorem small_f (a b c:Int) (h:¬((0≤a∧a≤65535)∧(0≤b∧b≤65535)∧(0≤c∧c≤65535))) (H:AHeap):ARet Try.prog 8 [.int .i64 a,.int .i64 b,.int .i64 c,.int .i64 1400,.int .i64 4200,.int .i64 100,.slice none 0 0,.slice none 0 0] H (.bool false) H:=by
 by_cases ha:0≤a∧a≤65535
 ·by_cases hb:0≤b∧b≤65535
  ·have hc:¬(0≤c∧c≤65535):=fun hc=>h ⟨ha,hb,hc⟩
   refine AC.enter Try.func8 rfl (by kernel_rfl) 74 rfl [.tmp 16] rfl (by simp) fun hsc B=> ?_
   repeat first|with_reducible refine kc ?_|((with_reducible first|refine kr ?_ ?_|refine kt ?_ ?_);exact rfl)|((with_reducible refine kf ?_ ?_);exact rfl)|with_reducible (first|refine (within_t ha).use ?_|refine (within_t hb).use ?_|refine (within_f hc).use ?_)|simp only [go_sem,sevalprocAttr,reduceCtorEq]|simp (disch:=omega) only [wz]|with_reducible_and_instances exact finR|((with_reducible refine finR' ?_ ?_)<;> rfl)|((with_reducible refine finD hsc (NRel.of_plain ?_));exact rfl)
  ·
   refine AC.enter Try.func8 rfl (by kernel_rfl) 74 rfl [.tmp 16] rfl (by simp) fun hsc B=> ?_
   repeat first|with_reducible refine kc ?_|((with_reducible first|refine kr ?_ ?_|refine kt ?_ ?_);exact rfl)|((with_reducible refine kf ?_ ?_);exact rfl)|with_reducible (first|refine (within_t ha).use ?_|refine (within_f hb).use ?_)|simp only [go_sem,sevalprocAttr,reduceCtorEq]|simp (disch:=omega) only [wz]|with_reducible_and_instances exact finR|((with_reducible refine finR' ?_ ?_)<;> rfl)|((with_reducible refine finD hsc (NRel.of_plain ?_));exact rfl)
 ·
  refine AC.enter Try.func8 rfl (by kernel_rfl) 74 rfl [.tmp 16] rfl (by simp) fun hsc B=> ?_
  repeat first|with_reducible refine kc ?_|((with_reducible first|refine kr ?_ ?_|refine kt ?_ ?_);exact rfl)|((with_reducible refine kf ?_ ?_);exact rfl)|with_reducible refine (within_f ha).use ?_|simp only [go_sem,sevalprocAttr,reduceCtorEq]|simp (disch:=omega) only [wz]|with_reducible_and_instances exact finR|((with_reducible refine finR' ?_ ?_)<;> rfl)|((with_reducible refine finD hsc (NRel.of_plain ?_));exact rfl)
end Go.Proofs.Ytdgmcckfdgnicaa

set_option linter.unusedVariables false
set_option linter.unusedSimpArgs false
set_option linter.unusedSectionVars false
set_option maxRecDepth 20000
namespace Go.Proofs.Ytdgmcckfdgnicaa
open Go Go.Aw Go.Proofs
def rst (s:E):E:={s with state:=5,replies:=true}
def gon (s:E):E:={s with replies:=false,answer:=false}
def got5 (s:E):E:={s with late:=0,some:=true,state:=5,replies:=false}
section
variable (conn first other:Int)
def sgA5:Sg:=⟨5,conn,(first+1)%65536,(other - 1)%65536,5000,[],[],0,0⟩
def sgB5:Sg:=⟨5,conn,other%65536,first%65536,5000,[],[],0,0⟩
def sgD:Sg:=⟨2,conn,first,0,0,[],[120],0,0⟩
def rC0:E:=newE false conn other 1400
def rC1:E:={rC0 conn other with late:=0,some:=true,window:=0,replies:=true}
def sgC5:Sg:=⟨5,conn,other%65536,0,1400,[],[],0,0⟩
theorem en1:sendR (rst (rA3 conn first other)) 0=(0,gon (rst (rA3 conn first other)),[sgA5 conn first other]):=by kernel_rfl
theorem en2:sendR (rst (rB3 conn first other)) 0=(0,gon (rst (rB3 conn first other)),[sgB5 conn first other]):=by kernel_rfl
theorem en3:takeR (rB3 conn first other) 0 [sgA5 conn first other]=(0,got5 (rB3 conn first other)):=by
 show (0,takeOne (rB3 conn first other) (sgA5 conn first other))=_
 rw [takeOne_in rfl (by show (2:Int)≠5;decide)]
 kernel_rfl
theorem en4:takeR (rA3 conn first other) 0 [sgB5 conn first other]=(0,got5 (rA3 conn first other)):=by
 show (0,takeOne (rA3 conn first other) (sgB5 conn first other))=_
 rw [takeOne_in rfl (by show (2:Int)≠5;decide)]
 kernel_rfl
theorem en5:sendR (got5 (rA3 conn first other)) 0=(0,{got5 (rA3 conn first other) with answer:=false},[]):=by kernel_rfl
theorem en6:sendR (got5 (rB3 conn first other)) 0=(0,{got5 (rB3 conn first other) with answer:=false},[]):=by kernel_rfl
theorem en7:takeR (rC0 conn other) 0 [sgD conn first]=(0,rC1 conn other):=by
 show (0,takeOne (rC0 conn other) (sgD conn first))=_
 rw [takeOne_in rfl (by show (0:Int)≠5;decide)]
 kernel_rfl
theorem en8:sendR (rC1 conn other) 0=(0,gon (rC1 conn other),[sgC5 conn other]):=by kernel_rfl
theorem okD (hc:0≤conn∧conn<65536) (hf:0≤first∧first<65536):(sgD conn first).ok:=by
 unfold Sg.ok okP sgD
 simp
 omega
end
structure Idle (s:E):Prop where
 flight:s.flight=[]
 waiting:s.waiting=[]
 kept:s.kept=[]
 ready:s.ready=[]
 outs:s.outs=0
 room:0≤s.room∧s.room≤1000000
 acked: -1≤s.acked∧s.acked≤65536
 next:s.next≤65536
 base:0≤s.base∧s.base<65536
theorem Idle.due {s:E} (h:Idle s):DueOk s:=dEmpty h.flight h.waiting
theorem Idle.made {s:E} (h:Idle s):MadeOk s:=⟨by have:=h.room;omega,by rw [h.ready];simp,by rw [h.kept];simp,by rw [h.kept];simp,by unfold FarOk;rw [h.kept];simp⟩
theorem Idle.few {s:E} (h:Idle s):s.flight.length+s.waiting.length<100000:=by rw [h.flight,h.waiting];simp
theorem Idle.take {s:E} (h:Idle s):TakeOk 1000 1000 s:=⟨by rw [h.flight];simp,by have:=h.acked;omega,by have:=h.next;omega,h.base,by have:=h.room;omega,by rw [h.ready,h.kept];simp [keptB],by rw [h.kept];simp,by rw [h.kept];simp⟩
theorem idleA3 (conn first other:Int) (hf:0≤first∧first<65536):Idle (rA3 conn first other):=⟨rfl,rfl,rfl,rfl,rfl,by show (0:Int)≤5000∧(5000:Int)≤1000000;omega,by show -1≤first∧first≤65536;omega,by show first+1≤65536;omega,by show 0≤(other - 1)%65536∧(other - 1)%65536<65536;omega⟩
theorem idleB3 (conn first other:Int) (ho:0≤other∧other<65536):Idle (rB3 conn first other):=⟨rfl,rfl,rfl,rfl,rfl,by show (0:Int)≤5000∧(5000:Int)≤1000000;omega,by show -1≤other - 1∧other - 1≤65536;omega,by show other≤65536;omega,by show 0≤first%65536∧first%65536<65536;omega⟩
theorem idleC0 (conn other:Int) (ho:0≤other∧other<65536):Idle (rC0 conn other):=⟨rfl,rfl,rfl,rfl,rfl,by show (0:Int)≤1400∧(1400:Int)≤1000000;omega,by show -1≤other - 1∧other - 1≤65536;omega,by show other≤65536;omega,by show (0:Int)≤0∧(0:Int)<65536;omega⟩
theorem Idle.of {s s':E} (h:Idle s) (h1:s'.flight=s.flight) (h2:s'.waiting=s.waiting) (h3:s'.kept=s.kept) (h4:s'.ready=s.ready) (h5:s'.outs=s.outs) (h6:s'.room=s.room) (h7:s'.acked=s.acked) (h8:s'.next=s.next) (h9:s'.base=s.base):Idle s':=
 ⟨h1.trans h.flight,h2.trans h.waiting,h3.trans h.kept,h4.trans h.ready,h5.trans h.outs,by rw [h6];exact h.room,by rw [h7];exact h.acked,by rw [h8];exact h.next,by rw [h9];exact h.base⟩
theorem Idle.rst {s:E} (h:Idle s):Idle (rst s):=h.of rfl rfl rfl rfl rfl rfl rfl rfl rfl
theorem Idle.got5 {s:E} (h:Idle s):Idle (got5 s):=h.of rfl rfl rfl rfl rfl rfl rfl rfl rfl
end Go.Proofs.Ytdgmcckfdgnicaa
