/-
  A part of the proof of a statement of this seat.
-/
import Derived.Test.YtdgmcckfdgnicaaUkM
import Derived.Test.YtdgmcckfdgnicaaU5M
import Derived.Test.YtdgmcckfdgnicaaUzM
set_option linter.unusedVariables false
set_option linter.unusedSimpArgs false
set_option maxRecDepth 20000
namespace Go.Proofs.Ytdgmcckfdgnicaa
open Go Go.Aw Go.Proofs
theorem takeOne_in {s:E} {p:Sg} (h:p.conn=s.conn) (h5:s.state≠5):takeOne s p=closeT (byKind {s with late:=p.time,some:=true,window:=if p.kind=5 then s.window else p.window} p):=by
 unfold takeOne
 rw [if_neg]
 rintro (g|g)
 ·exact g h
 ·exact h5 g
section
variable (conn first other:Int)
def rA0:E:=(openR (begE true conn first 5000 4200 100) 0).2
def rB0:E:=begE false conn other 5000 4200 100
def rA1:E:={rA0 conn first with waiting:=[],flight:=[⟨1,first,[],0,1,0,false,false⟩],next:=IntKind.i64.wrap (first+1),count:=1}
def rA2:E:={rA0 conn first with waiting:=[],flight:=[],next:=first+1,count:=1,acked:=first,window:=5000,late:=0,some:=true,state:=2,base:=(other - 1)%65536,answer:=true}
def rA3:E:={rA2 conn first other with answer:=false}
def rB1:E:={rB0 conn other with state:=2,base:=first%65536,answer:=true,late:=0,some:=true,window:=5000}
def sg1:Sg:=⟨1,conn,first%65536,0,5000,[],[],0,0⟩
def sg3:Sg:=⟨3,conn,(first+1)%65536,(other - 1)%65536,5000,[],[],0,0⟩
theorem st1:sendR (rA0 conn first) 0=(0,rA1 conn first,[sg1 conn first]):=by kernel_rfl
theorem st2:takeR (rB0 conn other) 0 [sg1 conn first]=(0,rB1 conn first other):=by
 show (0,takeOne (rB0 conn other) (sg1 conn first))=_
 rw [takeOne_in rfl (by show (0:Int)≠5;decide)]
 kernel_rfl
theorem st5:sendR (rA2 conn first other) 0=(0,rA3 conn first other,[sg3 conn first other]):=by kernel_rfl
end
end Go.Proofs.Ytdgmcckfdgnicaa

set_option linter.unusedVariables false
set_option linter.unusedSimpArgs false
set_option maxRecDepth 20000
namespace Go.Proofs.Ytdgmcckfdgnicaa
open Go Go.Aw Go.Proofs
section
variable (conn first other:Int)
end
end Go.Proofs.Ytdgmcckfdgnicaa

set_option linter.unusedVariables false
set_option linter.unusedSimpArgs false
set_option maxRecDepth 20000
namespace Go.Proofs.Ytdgmcckfdgnicaa
open Go Go.Aw Go.Proofs
section
variable (conn first other:Int)
end
end Go.Proofs.Ytdgmcckfdgnicaa

set_option linter.unusedVariables false
set_option linter.unusedSimpArgs false
set_option maxRecDepth 20000
set_option maxHeartbeats 8000000
namespace Go.Proofs.Ytdgmcckfdgnicaa
open Go Go.Aw Go.Proofs
end Go.Proofs.Ytdgmcckfdgnicaa

set_option linter.unusedVariables false
set_option linter.unusedSimpArgs false
set_option maxRecDepth 20000
set_option maxHeartbeats 8000000
namespace Go.Proofs.Ytdgmcckfdgnicaa
open Go Go.Aw Go.Proofs
def Ac.light (x:Ac):Prop:=x.text.length≤300∧0≤x.later∧x.later≤100000
instance (x:Ac):Decidable x.light:=by unfold Ac.light;infer_instance
structure SmallN (a b c room limit body:Int) (nn:Nat):Prop where
 ha:0≤a∧a≤65535
 hb:0≤b∧b≤65535
 hc:0≤c∧c≤65535
 hr:1400≤room∧room≤20000
 hl:1≤limit∧limit≤20000
 hy:1≤body∧body≤1400
 hn:¬(nn:Int)>300
structure SmallA (a b c room limit body:Int) (nn:Nat) (l:List Ac):Prop where
 num:SmallN a b c room limit body nn
 hm:¬(l.length:Int)>120
 all_:∀x∈l,x.light
theorem acs_at {H:AHeap} {v:Value} {l:List Ac} (h:RdN H 5 v (l.map Ac.c)) {n:Nat} (hn:n<l.length):
  ∃i off cap cs k,v= .slice (some ⟨i,off,none⟩) l.length cap∧H[i]? =some (.cells cs k)∧(cs.drop (off+n*5)).take 5=l[n].c∧off+(n*5+5)≤cs.length:=by
 rcases h with ⟨_,e⟩|⟨i,off,cap,cs,k,e,hi,hl,hr⟩
 ·cases l with
  |nil=>simp at hn
  |cons a b=>simp at e
 ·rw [List.length_map] at*
  have h1:=hl (by cases l with|nil=>simp at hn|cons a b=>simp)
  refine ⟨i,off,cap,cs,k,e,hi,hr n _ (by rw [List.getElem?_map,List.getElem?_eq_getElem hn];rfl),?_⟩
  omega
theorem small_no (a b c room limit body:Int) (vn:Value) (nn:Nat) (l:List Ac) (v:Value) (H:AHeap) (hv:RdN H 5 v (l.map Ac.c)) (hq:∀H' K,lenW Try.prog 34 vn H' K=K (.int .i64 (nn:Nat)) H') (h:¬SmallA a b c room limit body nn l):ARet Try.prog 8 [.int .i64 a,.int .i64 b,.int .i64 c,.int .i64 room,.int .i64 limit,.int .i64 body,vn,v] H (.bool false) H:=by
 have q1:∀H' K,lenW Try.prog 49 v H' K=K (.int .i64 (l.length:Nat)) H':=fun H' K=>by rw [hv.lenT (by simp only [go_sem,sevalprocAttr,reduceCtorEq]),List.length_map]
 by_cases ha:0≤a∧a≤65535
 rotate_left
 ·skip
  refine AC.enter Try.func8 rfl (by kernel_rfl) 74 rfl [.tmp 16] rfl (by simp) fun hsc B=> ?_
  repeat first|with_reducible refine (within_f ha).use ?_|refine kw0 ?_|exact kwz
 by_cases hb:0≤b∧b≤65535
 rotate_left
 ·skip
  refine AC.enter Try.func8 rfl (by kernel_rfl) 74 rfl [.tmp 16] rfl (by simp) fun hsc B=> ?_
  repeat first|with_reducible (first|refine (within_t ha).use ?_|refine (within_f hb).use ?_)|refine kw0 ?_|exact kwz
 by_cases hc:0≤c∧c≤65535
 rotate_left
 ·skip
  refine AC.enter Try.func8 rfl (by kernel_rfl) 74 rfl [.tmp 16] rfl (by simp) fun hsc B=> ?_
  repeat first|with_reducible (first|refine (within_t ha).use ?_|refine (within_t hb).use ?_|refine (within_f hc).use ?_)|refine kw0 ?_|exact kwz
 by_cases hr:1400≤room∧room≤20000
 rotate_left
 ·skip
  refine AC.enter Try.func8 rfl (by kernel_rfl) 74 rfl [.tmp 16] rfl (by simp) fun hsc B=> ?_
  repeat first|with_reducible (first|refine (within_t ha).use ?_|refine (within_t hb).use ?_|refine (within_t hc).use ?_|refine (within_f hr).use ?_)|refine kw0 ?_|exact kwz
 by_cases hl:1≤limit∧limit≤20000
 rotate_left
 ·skip
  refine AC.enter Try.func8 rfl (by kernel_rfl) 74 rfl [.tmp 16] rfl (by simp) fun hsc B=> ?_
  repeat first|with_reducible (first|refine (within_t ha).use ?_|refine (within_t hb).use ?_|refine (within_t hc).use ?_|refine (within_t hr).use ?_|refine (within_f hl).use ?_)|refine kw0 ?_|exact kwz
 by_cases hy:1≤body∧body≤1400
 rotate_left
 ·skip
  refine AC.enter Try.func8 rfl (by kernel_rfl) 74 rfl [.tmp 16] rfl (by simp) fun hsc B=> ?_
  repeat first|with_reducible (first|refine (within_t ha).use ?_|refine (within_t hb).use ?_|refine (within_t hc).use ?_|refine (within_t hr).use ?_|refine (within_t hl).use ?_|refine (within_f hy).use ?_)|refine kw0 ?_|exact kwz
 by_cases hn:¬(nn:Int)>300
 rotate_left
 ·rw [Classical.not_not] at hn
  refine AC.enter Try.func8 rfl (by kernel_rfl) 74 rfl [.tmp 16] rfl (by simp) fun hsc B=> ?_
  repeat first|with_reducible (first|refine (within_t ha).use ?_|refine (within_t hb).use ?_|refine (within_t hc).use ?_|refine (within_t hr).use ?_|refine (within_t hl).use ?_|refine (within_t hy).use ?_)|refine kw2 hq hn ?_|exact kwz
 by_cases hm:¬(l.length:Int)>120
 rotate_left
 ·rw [Classical.not_not] at hm
  refine AC.enter Try.func8 rfl (by kernel_rfl) 74 rfl [.tmp 16] rfl (by simp) fun hsc B=> ?_
  repeat first|with_reducible refine kc ?_|((with_reducible first|refine kr ?_ ?_|refine kt ?_ ?_);exact rfl)|((with_reducible refine kf ?_ ?_);exact rfl)|with_reducible (first|refine (within_t ha).use ?_|refine (within_t hb).use ?_|refine (within_t hc).use ?_|refine (within_t hr).use ?_|refine (within_t hl).use ?_|refine (within_t hy).use ?_)|simp only [go_sem,sevalprocAttr,reduceCtorEq,hq,hn,q1,hm]|simp (disch:=omega) only [wz]|with_reducible_and_instances exact finR|((with_reducible refine finR' ?_ ?_)<;> rfl)|((with_reducible refine finD hsc (NRel.of_plain ?_));exact rfl)
 have hex:¬ ∀x∈l,x.light:=fun g=>h ⟨⟨ha,hb,hc,hr,hl,hy,hn⟩,hm,g⟩
 refine AC.enter Try.func8 rfl (by kernel_rfl) 74 rfl [.tmp 16] rfl (by simp) fun hsc B=> ?_
 repeat first|with_reducible refine kc ?_|((with_reducible first|refine kr ?_ ?_|refine kt ?_ ?_);exact rfl)|((with_reducible refine kf ?_ ?_);exact rfl)|with_reducible (first|refine (within_t ha).use ?_|refine (within_t hb).use ?_|refine (within_t hc).use ?_|refine (within_t hr).use ?_|refine (within_t hl).use ?_|refine (within_t hy).use ?_)|simp only [go_sem,sevalprocAttr,reduceCtorEq,hq,hn,q1,hm]|simp (disch:=omega) only [wz]|with_reducible_and_instances exact finR|((with_reducible refine finR' ?_ ?_)<;> rfl)|((with_reducible refine finD hsc (NRel.of_plain ?_));exact rfl)
 refine AWP.loopP (fun s:Nat×AHeap=>⟨[(57,v),(58,.int .i64 (l.length:Nat)),(59,.int .i64 (s.1:Nat))],[],H++s.2⟩) (fun s=>s.1≤l.length∧∀x∈l.take s.1,x.light) (fun s=>l.length - s.1) (0,[]) ?_ ⟨Nat.zero_le _,by simp⟩ ?_
 ·simp only [List.append_nil]
  exact Weak.env (by simp [envIn,lk_cons,wth_some])
 rintro ⟨n,X⟩ ⟨hle,hall⟩
 simp only at hle hall ⊢
 by_cases hx:n<l.length
 ·have hx':(n:Int)<(l.length:Int):=by omega
  obtain ⟨j,o,cap,cs,k,rfl,hj,hg,hlo⟩:=acs_at hv hx
  have hjl:=lt_of_get hj
  have hwn:IntKind.i64.wrap ((n:Int)+1)=((n+1:Nat):Int):=by rw [wi64 (by omega)];omega
  have htk:∀P:Ac→Prop,(∀ x∈l.take n,P x)→P l[n]→∀x∈l.take (n+1),P x:=fun P h1 h2 x hx2=>by
   rw [List.take_add_one,List.getElem?_eq_getElem hx] at hx2
   rcases List.mem_append.1 hx2 with g|g
   ·exact h1 x g
   ·have:x=l[n]:=by simpa using g
    rw [this];exact h2
  have hmem:l[n]∈l:=List.getElem_mem hx
  generalize l[n]=y at*
  unfold Ac.c at hg
  by_cases g1:(y.text.length:Int)>300
  ·repeat first|refine kw7 hx' hj hjl @hgetl hg hlo g1 ?_|exact kwz
  by_cases g2:0≤y.later∧y.later≤100000
  ·repeat first|with_reducible refine (within_t g2).use ?_|refine kw8 hx' hj hjl @hgetl hg hlo g1 hwn ?_|exact kwz
   exact ⟨(n+1,X++ [.cells y.c ⟨51,0,true,0,none⟩]),Weak.env (by simp [envIn,lk_cons,wth_some,Ac.c]),by show n+1≤_;omega,htk _ hall ⟨by omega,g2⟩,by show l.length - (n+1)<_;omega⟩
  ·repeat first|with_reducible refine (within_f g2).use ?_|refine kw7 hx' hj hjl @hgetl hg hlo g1 ?_|exact kwz
 ·exact absurd (by rw [List.take_of_length_le (by omega)] at hall;exact hall) hex
theorem small_yes (a b c room limit body:Int) (vn:Value) (nn:Nat) (l:List Ac) (v:Value) (H:AHeap) (hv:RdN H 5 v (l.map Ac.c)) (hq:∀H' K,lenW Try.prog 34 vn H' K=K (.int .i64 (nn:Nat)) H') (h:SmallA a b c room limit body nn l):ARet Try.prog 8 [.int .i64 a,.int .i64 b,.int .i64 c,.int .i64 room,.int .i64 limit,.int .i64 body,vn,v] H (.bool true) H:=by
 obtain ⟨⟨ha,hb,hc,hr,hl,hy,hn⟩,hm,hall0⟩:=h
 have q1:∀H' K,lenW Try.prog 49 v H' K=K (.int .i64 (l.length:Nat)) H':=fun H' K=>by rw [hv.lenT (by simp only [go_sem,sevalprocAttr,reduceCtorEq]),List.length_map]
 refine AC.enter Try.func8 rfl (by kernel_rfl) 74 rfl [.tmp 16] rfl (by simp) fun hsc B=> ?_
 repeat first|with_reducible refine kc ?_|((with_reducible first|refine kr ?_ ?_|refine kt ?_ ?_);exact rfl)|((with_reducible refine kf ?_ ?_);exact rfl)|with_reducible (first|refine (within_t ha).use ?_|refine (within_t hb).use ?_|refine (within_t hc).use ?_|refine (within_t hr).use ?_|refine (within_t hl).use ?_|refine (within_t hy).use ?_)|simp only [go_sem,sevalprocAttr,reduceCtorEq,hq,hn,q1,hm]|simp (disch:=omega) only [wz]|with_reducible_and_instances exact finR|((with_reducible refine finR' ?_ ?_)<;> rfl)|((with_reducible refine finD hsc (NRel.of_plain ?_));exact rfl)
 refine AWP.loopP (fun s:Nat×AHeap=>⟨[(57,v),(58,.int .i64 (l.length:Nat)),(59,.int .i64 (s.1:Nat))],[],H++s.2⟩) (fun s=>s.1≤l.length∧∀x∈l.take s.1,x.light) (fun s=>l.length - s.1) (0,[]) ?_ ⟨Nat.zero_le _,by simp⟩ ?_
 ·simp only [List.append_nil]
  exact Weak.env (by simp [envIn,lk_cons,wth_some])
 rintro ⟨n,X⟩ ⟨hle,hall⟩
 simp only at hle hall ⊢
 by_cases hx:n<l.length
 ·have hx':(n:Int)<(l.length:Int):=by omega
  obtain ⟨j,o,cap,cs,k,rfl,hj,hg,hlo⟩:=acs_at hv hx
  have hjl:=lt_of_get hj
  have hwn:IntKind.i64.wrap ((n:Int)+1)=((n+1:Nat):Int):=by rw [wi64 (by omega)];omega
  have htk:∀P:Ac→Prop,(∀ x∈l.take n,P x)→P l[n]→∀x∈l.take (n+1),P x:=fun P h1 h2 x hx2=>by
   rw [List.take_add_one,List.getElem?_eq_getElem hx] at hx2
   rcases List.mem_append.1 hx2 with g|g
   ·exact h1 x g
   ·have:x=l[n]:=by simpa using g
    rw [this];exact h2
  have hmem:l[n]∈l:=List.getElem_mem hx
  generalize l[n]=y at*
  unfold Ac.c at hg
  have hli:=hall0 _ hmem
  have hli2:0≤y.later∧y.later≤100000:=hli.2
  have g1:¬(y.text.length:Int)>300:=by have:=hli.1;omega
  repeat first|with_reducible refine (within_t hli2).use ?_|refine kw8 hx' hj hjl @hgetl hg hlo g1 hwn ?_|exact kwz
  exact ⟨(n+1,X++ [.cells y.c ⟨51,0,true,0,none⟩]),Weak.env (by simp [envIn,lk_cons,wth_some,Ac.c]),by show n+1≤_;omega,htk _ hall hli,by show l.length - (n+1)<_;omega⟩
 ·have hx':¬(n:Int)<(l.length:Int):=by omega
  repeat first|refine kw1 hx' ?_|exact kwz
end Go.Proofs.Ytdgmcckfdgnicaa

set_option linter.unusedVariables false
set_option linter.unusedSimpArgs false
set_option maxRecDepth 20000
set_option maxHeartbeats 8000000
namespace Go.Proofs.Ytdgmcckfdgnicaa
open Go Go.Aw Go.Proofs
def isI (z:Int):Prop:= -9223372036854775808≤z∧z≤9223372036854775807
end Go.Proofs.Ytdgmcckfdgnicaa
