/-
 Two ends that open (plain): three rounds without data.
-/
import Derived.Test.YtdgmcckfdgnicaaUk
set_option linter.unusedVariables false
set_option linter.unusedSimpArgs false
set_option maxRecDepth 20000
namespace Go.Proofs.Ytdgmcckfdgnicaa
open Go Go.Aw Go.Proofs
theorem takeOne_in {s:E} {p:Sg} (h:p.conn=s.conn) (h5:s.state≠5):takeOne s p=closeT (byKind {s with late:=p.time,some:=true,window:=if p.kind=5 then s.window else p.window} p):=by
 unfold takeOne
 rw [if_neg]
 rintro (g|g)
 ·exact g h
 ·exact h5 g
theorem goneR_one {s:E} {f:Pk} {n:Int} (h:s.flight=[f]) (hn:f.number=n):goneR s n={s with flight:=[],outs:=0,done:=s.done||f.kind==4}:=by
 unfold goneR
 rw [h]
 have:([f].findIdx? fun p=>p.number==n)=some 0:=by simp [List.findIdx?_cons,hn]
 rw [this]
 simp [goneAt,h]
theorem ackD_eq {s:E} {ack d:Int} (h:(ack - s.acked)%65536=d) (hd:d<32768):ackD s ack=d:=by
 unfold ackD
 rw [h,if_neg (by omega)]
theorem ackR_one {s:E} {f:Pk} {ack:Int} (h:s.flight=[f]) (hn:f.number=s.acked+1) (hx:s.next=s.acked+2) (ha:(ack - s.acked)%65536=1):ackR s ack []={s with flight:=[],outs:=0,done:=s.done||f.kind==4,acked:=s.acked+1}:=by
 have hd:=ackD_eq ha (by omega)
 have ht:ackTo s ack=s.acked+1:=by unfold ackTo;rw [hd]
 unfold ackR
 rw [ht,if_neg (by omega),show (s.acked+1 - s.acked).toNat=1 by omega]
 have hg:goneUp s 1={s with flight:=[],outs:=0,done:=s.done||f.kind==4}:=by
  rw [show (1:Nat)=0+1 from rfl,goneUp_succ]
  exact goneR_one h (by rw [hn];simp)
 rw [hg,show max s.acked (s.acked+1)=s.acked+1 by omega]
 rfl
theorem ackR_none {s:E} {ack:Int} (hx:s.acked<s.next) (ha:(ack - s.acked)%65536=0):ackR s ack []=s:=by
 have hd:=ackD_eq ha (by omega)
 have ht:ackTo s ack=s.acked:=by unfold ackTo;rw [hd];omega
 unfold ackR
 rw [ht,if_neg (by omega),Int.sub_self]
 show goneMk {s with acked:=max s.acked s.acked} s.acked []=s
 rw [Int.max_self]
 rfl
def mk2 {α :Type} (a b d:α):Nat→α:=fun W=>if W=0 then a else if W=1 then b else d
theorem mk2_0 {α :Type} {a b d c:α}:upd (mk2 a b d) 0 c=mk2 c b d:=by
 funext W;unfold upd mk2
 by_cases h:W=0
 ·rw [if_pos h,if_pos h]
 ·rw [if_neg h,if_neg h,if_neg h]
theorem mk2_1 {α :Type} {a b d c:α}:upd (mk2 a b d) 1 c=mk2 a c d:=by
 funext W;unfold upd mk2
 by_cases h:W=1
 ·rw [if_pos h,if_neg (by omega),if_pos h]
 ·by_cases h0:W=0
  ·rw [if_neg h,if_pos h0,if_pos h0]
  ·rw [if_neg h,if_neg h0,if_neg h,if_neg h0,if_neg h]
section
variable (conn first other:Int)
def rA0:E:=(openR (begE true conn first 5000 4200 100) 0).2
def rB0:E:=begE false conn other 5000 4200 100
def rA1:E:={rA0 conn first with waiting:=[],flight:=[⟨1,first,[],0,1,0,false,false⟩],next:=IntKind.i64.wrap (first+1),count:=1}
def rA2:E:={rA0 conn first with waiting:=[],flight:=[],next:=first+1,count:=1,acked:=first,window:=5000,late:=0,some:=true,state:=2,base:=(other - 1)%65536,answer:=true}
def rA3:E:={rA2 conn first other with answer:=false}
def rB1:E:={rB0 conn other with state:=2,base:=first%65536,answer:=true,late:=0,some:=true,window:=5000}
def rB2:E:={rB1 conn first other with answer:=false}
def rB3:E:={rB2 conn first other with heard:=true}
def sg1:Sg:=⟨1,conn,first%65536,0,5000,[],[],0,0⟩
def sg2:Sg:=⟨3,conn,other%65536,first%65536,5000,[],[],0,0⟩
def sg3:Sg:=⟨3,conn,(first+1)%65536,(other - 1)%65536,5000,[],[],0,0⟩
theorem st1:sendR (rA0 conn first) 0=(0,rA1 conn first,[sg1 conn first]):=by kernel_rfl
theorem st2:takeR (rB0 conn other) 0 [sg1 conn first]=(0,rB1 conn first other):=by
 show (0,takeOne (rB0 conn other) (sg1 conn first))=_
 rw [takeOne_in rfl (by show (0:Int)≠5;decide)]
 kernel_rfl
theorem st3:sendR (rB1 conn first other) 0=(0,rB2 conn first other,[sg2 conn first other]):=by kernel_rfl
theorem st4 (hf:0≤first∧first<65536) (ho:0≤other∧other<65536):takeR (rA1 conn first) 0 [sg2 conn first other]=(0,rA2 conn first other):=by
 have h1:first%65536=first:=Int.emod_eq_of_lt hf.1 hf.2
 have h2:other%65536=other:=Int.emod_eq_of_lt ho.1 ho.2
 have hw:IntKind.i64.wrap (first+1)=first+1:=IntWalk.i64_in _ (by omega)
 have ht:first.tmod 65536=first:=by rw [Int.tmod_eq_emod_of_nonneg hf.1];exact h1
 show (0,takeOne (rA1 conn first) (sg2 conn first other))=_
 rw [takeOne_in rfl (by show (1:Int)≠5;decide)]
 show (0,closeT (aloneUp {rA1 conn first with late:=0,some:=true,window:=5000} (sg2 conn first other) ⟨1,first,[],0,1,0,false,false⟩))=_
 unfold aloneUp
 rw [if_pos (by show first%65536=first.tmod 65536;rw [ht,h1])]
 rw [show (sg2 conn first other).marks=[] from rfl,ackR_one (f:=⟨1,first,[],0,1,0,false,false⟩) rfl (by show first=first - 1+1;omega) (by show IntKind.i64.wrap (first+1)=first - 1+2;rw [hw];omega) (by show (first%65536 - (first - 1))%65536=1;rw [h1];omega)]
 have e1:rA2 conn first other=closeT (ansS {rA1 conn first with late:=0,some:=true,window:=5000,state:=2,base:=(other%65536 - 1)%65536,flight:=[],outs:=0,done:=false,acked:=first - 1+1}):=by
  rw [h2,Int.sub_add_cancel]
  show rA2 conn first other=ansS {rA0 conn first with waiting:=[],flight:=[],next:=IntKind.i64.wrap (first+1),count:=1,late:=0,some:=true,window:=5000,state:=2,base:=(other - 1)%65536,outs:=0,done:=false,acked:=first}
  rw [hw]
  rfl
 rw [e1]
 rfl
theorem st5:sendR (rA2 conn first other) 0=(0,rA3 conn first other,[sg3 conn first other]):=by kernel_rfl
theorem st6 (ho:0≤other∧other<65536):takeR (rB2 conn first other) 0 [sg3 conn first other]=(0,rB3 conn first other):=by
 show (0,takeOne (rB2 conn first other) (sg3 conn first other))=_
 rw [takeOne_in rfl (by show (2:Int)≠5;decide)]
 show (0,closeT (ackR {rB2 conn first other with late:=0,some:=true,window:=5000,heard:=true} ((other - 1)%65536) []))=_
 rw [ackR_none (by show other - 1<other;omega) (by show ((other - 1)%65536 - (other - 1))%65536=0;omega)]
 rfl
theorem st7:sendR (rB3 conn first other) 0=(0,rB3 conn first other,[]):=by kernel_rfl
theorem st8:sendR (rA3 conn first other) 0=(0,rA3 conn first other,[]):=by kernel_rfl
theorem st9:takeR (rA3 conn first other) 0 []=(0,rA3 conn first other):=by kernel_rfl
theorem st10:takeR (rB3 conn first other) 0 []=(0,rB3 conn first other):=by kernel_rfl
theorem st11:readS 10 (rB1 conn first other)=rB1 conn first other∧readS 10 (rA2 conn first other)=rA2 conn first other∧readS 10 (rB3 conn first other)=rB3 conn first other∧readS 10 (rA3 conn first other)=rA3 conn first other:=⟨rfl,rfl,rfl,rfl⟩
end
end Go.Proofs.Ytdgmcckfdgnicaa
