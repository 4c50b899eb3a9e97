/-
 Two ends that open (plain): each round of the pair.
-/
import Derived.Test.YtdgmcckfdgnicaaUl
set_option linter.unusedVariables false
set_option linter.unusedSimpArgs false
set_option maxRecDepth 20000
namespace Go.Proofs.Ytdgmcckfdgnicaa
open Go Go.Aw Go.Proofs
structure Round (W:Nat) (s s2:PS) (limit n most:Int):Prop where
 due:DueOk (s.e W)
 made:MadeOk (s.e W)
 outs:(s.e W).outs<1000
 few:(s.e W).flight.length+(s.e W).waiting.length<100000
 err:(sendR (s.e W) s.now).1=0
 ok:∀p∈(sendR (s.e W) s.now).2.2,p.ok
 due2:DueOk (sendR (s.e W) s.now).2.1
 under:¬((underR (sendR (s.e W) s.now).2.1).2>limit∧(underR (sendR (s.e W) s.now).2.1).1>1)
 out:(sendR (s.e W) s.now).2.2.length<1000000
 pos:s.pos<1000000000
 numbers:s.numbers.length<1099511627776
 way:(s.way W).length<1000000000
 take:∃m:PS,m=(sendR (s.e W) s.now).2.2.foldl (sendOne W) {s with e:=upd s.e W (sendR (s.e W) s.now).2.1}∧TakeOk 1000 1000 (m.e (1 - W))∧ (∀ p∈m.way W,p.ok)∧atR (m.e (1 - W)) m.now=0∧(m.way W).length<100∧(m.read (1 - W)).length<1000000000∧(arrT m (1 - W) n).ready.length<1000000000∧arriveR m (1 - W) n most=s2∧soundR s2 (1 - W)=true
section
variable (conn first other:Int)
def mkS (A B:E) (pos:Nat):PS where
 e:=mk2 A B (rB0 conn other)
 way:=fun _=>[]
 wrote:=fun _=>[]
 read:=fun _=>[]
 now:=0
 numbers:=[]
 pos:=pos
theorem upd_const {α :Type} {a b:α} {i:Nat}:upd (upd (fun _=>a) i b) i a=fun _=>a:=by
 funext j;unfold upd;split<;> rfl
theorem upd_const1 {α :Type} {a:α} {i:Nat}:upd (fun _=>a) i a=fun _=>a:=by
 funext j;unfold upd;split<;> rfl
theorem begin_mk:beginS conn first other 5000 4200 100 []=mkS conn other (rA0 conn first) (rB0 conn other) 0:=by
 unfold beginS mkS
 congr 1
 funext W
 unfold mk2
 by_cases h:W=0
 ·rw [if_pos h,if_pos h];rfl
 ·rw [if_neg h,if_neg h]
  split<;> rfl
theorem smallD {s:E} (h1:s.flight.length≤1) (h2:s.waiting.length≤1) (h3:∀p∈s.flight,p.body=[]) (h4:∀p∈s.waiting,p.body=[]):DueOk s:=
 ⟨by omega,by omega,fun p hp=>by rw [h3 p hp];simp,fun p hp=>by rw [h4 p hp];simp⟩
theorem smallM {s:E} (h1:s.room=5000) (h2:s.ready=[]) (h3:s.kept=[]):MadeOk s:=
 ⟨by rw [h1];omega,by rw [h2];simp,by rw [h3];simp,by rw [h3];simp,by unfold FarOk;rw [h3];simp⟩
theorem smallT {s:E} (h1:s.flight.length≤1) (h2: -1≤s.acked∧s.acked<65536) (h3:s.next≤65536) (h4:0≤s.base∧s.base<65536) (h5:s.room=5000) (h6:s.ready=[]) (h7:s.kept=[]):TakeOk 1000 1000 s:=
 ⟨by omega,by omega,by omega,h4,by rw [h5];omega,by rw [h6,h7];simp [keptB],by rw [h7];simp,by rw [h7];simp⟩
theorem arrN_all {out:List Sg} (h:out.length≤1):arrN 100 out=out.length:=by unfold arrN;omega
theorem soundE {A B:E} {pos W:Nat}:soundR (mkS conn other A B pos) W=true:=by
 show (([]:List UInt8).take ([]:List UInt8).length==[])=true
 rfl
theorem roundA {A A' B B':E} {out:List Sg} {pos:Nat} (hp:pos<1000) (h1:sendR A 0=(0,A',out)) (h2:takeR B 0 out=(0,B')) (h3:readS 10 B'=B') (h4:B'.ready=[]) (hl:out.length≤1) (hd:DueOk A) (hm:MadeOk A) (ho:A.outs<1000) (hf:A.flight.length+A.waiting.length<100000) (hok:∀p∈out,p.ok) (hd2:DueOk A') (hu:¬((underR A').2>4200∧(underR A').1>1)) (hT:TakeOk 1000 1000 B) (hat:atR B 0=0):
  Round 0 (mkS conn other A B pos) (mkS conn other A' B' (pos+out.length)) 4200 100 10:=by
 have hm1:out.foldl (sendOne 0) {mkS conn other A B pos with e:=upd (mkS conn other A B pos).e 0 A'}={mkS conn other A' B (pos+out.length) with way:=upd (fun _=>[]) 0 out}:=by
  show out.foldl (sendOne 0) ({mkS conn other A B pos with e:=upd (mk2 A B (rB0 conn other)) 0 A'}:PS)=_
  rw [mk2_0]
  rcases out with _|⟨x,_|⟨y,l⟩⟩
  ·show _=({mkS conn other A' B pos with way:=upd (fun _=>[]) 0 []}:PS)
   rw [upd_const1];rfl
  ·rfl
  ·simp at hl
 refine ⟨hd,hm,ho,hf,?_,?_,?_,?_,?_,by show pos<_;omega,by show (0:Nat)<_;omega,by show (0:Nat)<_;omega,?_⟩
 ·show (sendR A 0).1=0;rw [h1]
 ·show ∀p∈(sendR A 0).2.2,p.ok;rw [h1];exact hok
 ·show DueOk (sendR A 0).2.1;rw [h1];exact hd2
 ·show ¬((underR (sendR A 0).2.1).2>4200∧(underR (sendR A 0).2.1).1>1);rw [h1];exact hu
 ·show (sendR A 0).2.2.length<1000000;rw [h1];show out.length<_;omega
 ·refine ⟨{mkS conn other A' B (pos+out.length) with way:=upd (fun _=>[]) 0 out},?_,hT,?_,hat,?_,by show (0:Nat)<_;omega,?_,?_,soundE conn other⟩
  ·show _=(sendR A 0).2.2.foldl (sendOne 0) {mkS conn other A B pos with e:=upd (mkS conn other A B pos).e 0 (sendR A 0).2.1}
   rw [h1];exact hm1.symm
  ·show ∀p∈upd (fun _=>[]) 0 out 0,p.ok
   rw [upd_self];exact hok
  ·show (upd (fun _=>[]) 0 out 0).length<100
   rw [upd_self];omega
  ·show (takeR B 0 ((upd (fun _=>[]) 0 out 0).take (arrN 100 (upd (fun _=>[]) 0 out 0)))).2.ready.length<_
   rw [upd_self,arrN_all hl,List.take_length,h2]
   show B'.ready.length<_
   rw [h4];simp
  ·show ({mkS conn other A' B (pos+out.length) with e:=upd (mk2 A' B (rB0 conn other)) 1 (readS 10 (takeR B 0 ((upd (fun _=>[]) 0 out 0).take (arrN 100 (upd (fun _=>[]) 0 out 0)))).2),way:=upd (upd (fun _=>[]) 0 out) 0 ((upd (fun _=>[]) 0 out 0).drop (arrN 100 (upd (fun _=>[]) 0 out 0))),read:=upd (fun _=>[]) 1 ([]++readOut 10 (takeR B 0 ((upd (fun _=>[]) 0 out 0).take (arrN 100 (upd (fun _=>[]) 0 out 0)))).2)}:PS)=_
   have hro:readOut 10 B'=[]:=by unfold readOut;rw [h4];simp
   rw [upd_self,arrN_all hl,List.take_length,h2,List.drop_length,upd_const]
   show ({mkS conn other A' B (pos+out.length) with e:=upd (mk2 A' B (rB0 conn other)) 1 (readS 10 B'),way:=fun _=>[],read:=upd (fun _=>[]) 1 ([]++readOut 10 B')}:PS)=_
   rw [h3,mk2_1,hro,List.nil_append,upd_const1]
   rfl
theorem roundB {A A' B B':E} {out:List Sg} {pos:Nat} (hp:pos<1000) (h1:sendR B 0=(0,B',out)) (h2:takeR A 0 out=(0,A')) (h3:readS 10 A'=A') (h4:A'.ready=[]) (hl:out.length≤1) (hd:DueOk B) (hm:MadeOk B) (ho:B.outs<1000) (hf:B.flight.length+B.waiting.length<100000) (hok:∀p∈out,p.ok) (hd2:DueOk B') (hu:¬((underR B').2>4200∧(underR B').1>1)) (hT:TakeOk 1000 1000 A) (hat:atR A 0=0):
  Round 1 (mkS conn other A B pos) (mkS conn other A' B' (pos+out.length)) 4200 100 10:=by
 have hm1:out.foldl (sendOne 1) {mkS conn other A B pos with e:=upd (mkS conn other A B pos).e 1 B'}={mkS conn other A B' (pos+out.length) with way:=upd (fun _=>[]) 1 out}:=by
  show out.foldl (sendOne 1) ({mkS conn other A B pos with e:=upd (mk2 A B (rB0 conn other)) 1 B'}:PS)=_
  rw [mk2_1]
  rcases out with _|⟨x,_|⟨y,l⟩⟩
  ·show _=({mkS conn other A B' pos with way:=upd (fun _=>[]) 1 []}:PS)
   rw [upd_const1];rfl
  ·rfl
  ·simp at hl
 refine ⟨hd,hm,ho,hf,?_,?_,?_,?_,?_,by show pos<_;omega,by show (0:Nat)<_;omega,by show (0:Nat)<_;omega,?_⟩
 ·show (sendR B 0).1=0;rw [h1]
 ·show ∀p∈(sendR B 0).2.2,p.ok;rw [h1];exact hok
 ·show DueOk (sendR B 0).2.1;rw [h1];exact hd2
 ·show ¬((underR (sendR B 0).2.1).2>4200∧(underR (sendR B 0).2.1).1>1);rw [h1];exact hu
 ·show (sendR B 0).2.2.length<1000000;rw [h1];show out.length<_;omega
 ·refine ⟨{mkS conn other A B' (pos+out.length) with way:=upd (fun _=>[]) 1 out},?_,hT,?_,hat,?_,by show (0:Nat)<_;omega,?_,?_,soundE conn other⟩
  ·show _=(sendR B 0).2.2.foldl (sendOne 1) {mkS conn other A B pos with e:=upd (mkS conn other A B pos).e 1 (sendR B 0).2.1}
   rw [h1];exact hm1.symm
  ·show ∀p∈upd (fun _=>[]) 1 out 1,p.ok
   rw [upd_self];exact hok
  ·show (upd (fun _=>[]) 1 out 1).length<100
   rw [upd_self];omega
  ·show (takeR A 0 ((upd (fun _=>[]) 1 out 1).take (arrN 100 (upd (fun _=>[]) 1 out 1)))).2.ready.length<_
   rw [upd_self,arrN_all hl,List.take_length,h2]
   show A'.ready.length<_
   rw [h4];simp
  ·show ({mkS conn other A B' (pos+out.length) with e:=upd (mk2 A B' (rB0 conn other)) 0 (readS 10 (takeR A 0 ((upd (fun _=>[]) 1 out 1).take (arrN 100 (upd (fun _=>[]) 1 out 1)))).2),way:=upd (upd (fun _=>[]) 1 out) 1 ((upd (fun _=>[]) 1 out 1).drop (arrN 100 (upd (fun _=>[]) 1 out 1))),read:=upd (fun _=>[]) 0 ([]++readOut 10 (takeR A 0 ((upd (fun _=>[]) 1 out 1).take (arrN 100 (upd (fun _=>[]) 1 out 1)))).2)}:PS)=_
   have hro:readOut 10 A'=[]:=by unfold readOut;rw [h4];simp
   rw [upd_self,arrN_all hl,List.take_length,h2,List.drop_length,upd_const]
   show ({mkS conn other A B' (pos+out.length) with e:=upd (mk2 A B' (rB0 conn other)) 0 (readS 10 A'),way:=fun _=>[],read:=upd (fun _=>[]) 0 ([]++readOut 10 A')}:PS)=_
   rw [h3,mk2_0,hro,List.nil_append,upd_const1]
   rfl
end
end Go.Proofs.Ytdgmcckfdgnicaa
