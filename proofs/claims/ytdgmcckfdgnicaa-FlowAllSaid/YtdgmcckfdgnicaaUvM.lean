/-
  A part of the proof of a statement of this seat.
-/
import Derived.Test.YtdgmcckfdgnicaaUu
set_option linter.unusedVariables false
set_option linter.unusedSimpArgs false
set_option maxRecDepth 20000
namespace Go.Proofs.Ytdgmcckfdgnicaa
open Go Go.Aw Go.Proofs
theorem goneR_outs (e:E) (n:Int):(goneR e n).outs≤e.outs:=by
 unfold goneR
 split
 ·exact Nat.le_refl _
 ·split
  ·exact Nat.le_refl _
  ·exact Nat.zero_le _
theorem goneUp_outs (e:E):∀n,(goneUp e n).outs≤e.outs
 |0=>Nat.le_refl _
 |n+1=>by rw [goneUp_succ];exact Nat.le_trans (goneR_outs _ _) (goneUp_outs e n)
theorem goneMk_outs (b:Int):∀(l:List Int) (e:E),(goneMk e b l).outs≤e.outs
 |[],e=>Nat.le_refl _
 |x::l,e=>Nat.le_trans (goneMk_outs b l (goneR e (b+x))) (goneR_outs _ _)
theorem ackR_outs (e:E) (ack:Int) (marks:List UInt8):(ackR e ack marks).outs≤e.outs:=by
 unfold ackR
 split
 ·exact Nat.le_refl _
 ·exact Nat.le_trans (goneMk_outs _ _ _) (goneUp_outs e _)
structure TakeF (a b:E):Prop where
 of_:∃fl ac wd ou dn bs hd kp rd en an lt sm rp st db,b={a with flight:=fl,acked:=ac,window:=wd,outs:=ou,done:=dn,base:=bs,heard:=hd,kept:=kp,ready:=rd,ended:=en,answer:=an,late:=lt,some:=sm,replies:=rp,state:=st,doubles:=db}
 outs:b.outs≤a.outs
 five:a.state=5→b.state=5
 zero:a.state≠0→b.state≠0
 one:a.state≠1→b.state≠1
theorem TakeF.refl (a:E):TakeF a a:=⟨⟨_,_,_,_,_,_,_,_,_,_,_,_,_,_,_,_,rfl⟩,Nat.le_refl _,id,id,id⟩
theorem TakeF.trans {a b c:E} (h:TakeF a b) (k:TakeF b c):TakeF a c:=by
 refine ⟨?_,Nat.le_trans k.outs h.outs,fun g=>k.five (h.five g),fun g=>k.zero (h.zero g),fun g=>k.one (h.one g)⟩
 obtain ⟨_,_,_,_,_,_,_,_,_,_,_,_,_,_,_,_,rfl⟩:=h.of_
 obtain ⟨_,_,_,_,_,_,_,_,_,_,_,_,_,_,_,_,rfl⟩:=k.of_
 exact ⟨_,_,_,_,_,_,_,_,_,_,_,_,_,_,_,_,rfl⟩
theorem TakeF.ack (a:E) (ack:Int) (marks:List UInt8):TakeF a (ackR a ack marks):=by
 have ho:=ackR_outs a ack marks
 obtain ⟨fl,o,d,ac,he,_⟩:=ackR_ackS a ack marks
 rw [he] at ho ⊢
 exact ⟨⟨_,_,_,_,_,_,_,_,_,_,_,_,_,_,_,_,rfl⟩,ho,id,id,id⟩
theorem TakeF.keep (a:E) (p:Sg) (hb:0≤a.base∧a.base<65536):TakeF a (keepR a p):=by
 obtain ⟨_,_,_,_,_,_,he⟩:=keepR_form a p hb
 rw [he]
 exact ⟨⟨_,_,_,_,_,_,_,_,_,_,_,_,_,_,_,_,rfl⟩,Nat.le_refl _,id,id,id⟩
theorem TakeF.put {a b:E} (h1:∃fl ac wd ou dn bs hd kp rd en an lt sm rp st db,b={a with flight:=fl,acked:=ac,window:=wd,outs:=ou,done:=dn,base:=bs,heard:=hd,kept:=kp,ready:=rd,ended:=en,answer:=an,late:=lt,some:=sm,replies:=rp,state:=st,doubles:=db}) (h2:b.outs=a.outs) (h3:b.state=a.state):TakeF a b:=
 ⟨h1,by rw [h2];exact Nat.le_refl _,fun g=>h3.trans g,fun g=>by rw [h3];exact g,fun g=>by rw [h3];exact g⟩
theorem TakeF.putS {a b:E} (h1:∃fl ac wd ou dn bs hd kp rd en an lt sm rp st db,b={a with flight:=fl,acked:=ac,window:=wd,outs:=ou,done:=dn,base:=bs,heard:=hd,kept:=kp,ready:=rd,ended:=en,answer:=an,late:=lt,some:=sm,replies:=rp,state:=st,doubles:=db}) (h2:b.outs=a.outs) (h3:a.state≠5∨b.state=5) (h4:b.state≠0∧b.state≠1):TakeF a b:=
 ⟨h1,by rw [h2];exact Nat.le_refl _,fun g=>by rcases h3 with h|h;exact absurd g h;exact h,fun _=>h4.1,fun _=>h4.2⟩
theorem TakeF.carry (a:E) (p:Sg) (hb:0≤a.base∧a.base<65536):TakeF a (carryR a p):=by
 unfold carryR
 split
 ·exact .put ⟨_,_,_,_,_,_,_,_,_,_,_,_,_,_,_,_,rfl⟩ rfl rfl
 ·split
  ·have h1:TakeF a {a with heard:=true}:= .put ⟨_,_,_,_,_,_,_,_,_,_,_,_,_,_,_,_,rfl⟩ rfl rfl
   exact (h1.trans (.ack _ _ _)).trans (.keep _ _ (by rw [(ackR_state _ _ _).2];exact hb))
  ·exact .refl a
theorem TakeF.kind_ (a:E) (p:Sg) (hb:0≤a.base∧a.base<65536) (h5:a.state≠5):TakeF a (byKind a p):=by
 unfold byKind
 split
 ·unfold openT
  split
  ·exact .refl a
  ·split
   ·exact .putS ⟨_,_,_,_,_,_,_,_,_,_,_,_,_,_,_,_,rfl⟩ rfl (.inl h5) (by show (2:Int)≠0∧(2:Int)≠1;omega)
   ·exact .put ⟨_,_,_,_,_,_,_,_,_,_,_,_,_,_,_,_,rfl⟩ rfl rfl
 ·split
  ·exact .carry a p hb
  ·split
   ·unfold aloneR
    split
    ·exact .put ⟨_,_,_,_,_,_,_,_,_,_,_,_,_,_,_,_,rfl⟩ rfl rfl
    ·split
     ·unfold alone1
      split
      ·unfold aloneUp
       split
       ·have h1:TakeF a {a with state:=2,base:=(p.seq - 1)%65536}:= .putS ⟨_,_,_,_,_,_,_,_,_,_,_,_,_,_,_,_,rfl⟩ rfl (.inl h5) (by show (2:Int)≠0∧(2:Int)≠1;omega)
        exact (h1.trans (.ack _ _ _)).trans (.put ⟨_,_,_,_,_,_,_,_,_,_,_,_,_,_,_,_,rfl⟩ rfl rfl)
       ·exact .refl a
      ·exact .refl a
     ·split
      ·have h1:TakeF a {a with heard:=true}:= .put ⟨_,_,_,_,_,_,_,_,_,_,_,_,_,_,_,_,rfl⟩ rfl rfl
       exact h1.trans (.ack _ _ _)
      ·exact .refl a
   ·split
    ·exact .carry a p hb
    ·unfold dropT
     split
     ·exact .putS ⟨_,_,_,_,_,_,_,_,_,_,_,_,_,_,_,_,rfl⟩ rfl (.inl h5) (by show (5:Int)≠0∧(5:Int)≠1;omega)
     ·exact .refl a
theorem TakeF.close (a:E):TakeF a (closeT a):=by
 unfold closeT
 split
 ·rename_i h6
  exact .putS ⟨_,_,_,_,_,_,_,_,_,_,_,_,_,_,_,_,rfl⟩ rfl (.inl (by omega)) (by show (4:Int)≠0∧(4:Int)≠1;omega)
 ·exact .refl _
theorem TakeF.take (a:E) (p:Sg) (hb:0≤a.base∧a.base<65536):TakeF a (takeOne a p):=by
 unfold takeOne
 split
 ·exact .refl a
 ·rename_i hc
  have h1:TakeF a {a with late:=p.time,some:=true,window:=if p.kind=5 then a.window else p.window}:= .put ⟨_,_,_,_,_,_,_,_,_,_,_,_,_,_,_,_,rfl⟩ rfl rfl
  have h2:=h1.trans (.kind_ {a with late:=p.time,some:=true,window:=if p.kind=5 then a.window else p.window} p hb fun g=>hc (.inr g))
  exact h2.trans (.close _)
theorem take_one (a:E) (p:Sg) (ho:a.opener=true) (h1:a.state=1):(takeOne a p).state=1→(takeOne a p).flight=a.flight∧(takeOne a p).answer=a.answer:=by
 unfold takeOne
 split
 ·exact fun _=>⟨rfl,rfl⟩
 ·have hct:∀e:E,e.state≠3→closeT e=e:=fun e he=>by unfold closeT;rw [if_neg (fun g=>he g.1)]
  generalize hb:({a with late:=p.time,some:=true,window:=if p.kind=5 then a.window else p.window}:E)=b
  have hb1:b.state=1∧b.opener=true∧b.flight=a.flight∧b.answer=a.answer:=by rw [← hb];exact ⟨h1,ho,rfl,rfl⟩
  unfold byKind
  split
  ·unfold openT
   rw [if_pos (.inl hb1.2.1),hct _ (by omega)]
   exact fun _=>hb1.2.2
  ·split
   ·unfold carryR
    rw [if_neg (by omega),if_neg (by omega),hct _ (by omega)]
    exact fun _=>hb1.2.2
   ·split
    ·unfold aloneR
     rw [if_neg (by omega),if_pos hb1.1]
     unfold alone1
     split
     ·unfold aloneUp
      split
      ·intro h2
       exfalso
       have h3:(ansS (ackR {b with state:=2,base:=(p.seq - 1)%65536} p.ack p.marks)).state=2:=(ackR_state _ _ _).1
       rw [hct _ (by omega)] at h2
       omega
      ·rw [hct _ (by omega)];exact fun _=>hb1.2.2
     ·rw [hct _ (by omega)];exact fun _=>hb1.2.2
    ·split
     ·unfold carryR
      rw [if_neg (by omega),if_neg (by omega),hct _ (by omega)]
      exact fun _=>hb1.2.2
     ·unfold dropT
      rw [if_pos (by omega)]
      intro h2
      exfalso
      rw [hct _ (by show (5:Int)≠3;omega)] at h2
      have h2:(5:Int)=1:=h2
      omega
theorem take_quiet (a:E) (p:Sg) (hk:p.kind=1∨p.kind=5):(takeOne a p).heard=a.heard:=by
 unfold takeOne
 split
 ·rfl
 ·have hct:∀e:E,(closeT e).heard=e.heard:=fun e=>by unfold closeT;split<;> rfl
  rw [hct]
  generalize hb:({a with late:=p.time,some:=true,window:=if p.kind=5 then a.window else p.window}:E)=b
  have hb1:b.heard=a.heard:=by rw [← hb]
  unfold byKind
  rcases hk with hk|hk
  ·rw [if_pos hk]
   unfold openT
   split
   ·exact hb1
   ·split<;> exact hb1
  ·rw [if_neg (by omega),if_neg (by omega),if_neg (by omega),if_neg (by omega)]
   unfold dropT
   split<;> exact hb1
end Go.Proofs.Ytdgmcckfdgnicaa

set_option linter.unusedVariables false
set_option linter.unusedSimpArgs false
set_option maxRecDepth 20000
namespace Go.Proofs.Ytdgmcckfdgnicaa
open Go Go.Aw Go.Proofs
structure PInv (s:PS) (f:Nat→Int) (conn room limit:Int) (L:Nat→List Msg) (c:Nat):Prop where
 both:∀W,W<2→Both (s.e W) (f W) (L W) (s.wrote W) (f (1 - W)) (L (1 - W)) (s.read W)
 way:∀W,W<2→∀p∈s.way W,SgOk (f W) (L W) p
 fix:∀W,W<2→Fix (s.e W) (decide (W=0)) conn room limit s.now
 lostW:∀W,W<2→∀p∈(s.e W).waiting,p.lost=false
 start:(s.e 0).state=1→(s.e 1).heard=false∧L 1=[]∧ (∀ p∈s.way 1,p.kind=3→p.seq=f 1%65536)∧ (∀ p∈s.way 0,p.kind=1∨p.kind=5)∧(s.e 0).answer=false∧ (∀ p∈(s.e 0).flight,p.kind=1)
 st0:(s.e 0).state≠0∧(s.e 1).state≠1
 ne:L 0++(s.e 0).waiting.map msg≠[]
 now:0≤s.now
 wr:(s.wrote 0).length+(s.wrote 1).length≤3300
 pos:s.pos≤3400*c
 ways:∀W,W<2→(s.way W).length≤s.pos+min s.pos s.numbers.length
 keptn:∀W,W<2→(s.e W).kept.length≤40*c
structure Par (f:Nat→Int) (conn room limit:Int) (numbers:List Int):Prop where
 f:∀W,W<2→0≤f W∧f W<65536
 conn:0≤conn∧conn<65536
 room:1400≤room∧room≤20000
 limit:1≤limit∧limit≤20000
 numbers:numbers.length≤300
theorem PInv.len {s:PS} {f:Nat→Int} {conn room limit:Int} {L:Nat→List Msg} {c:Nat} (h:PInv s f conn room limit L c) {W:Nat} (hW:W<2):(s.wrote W).length≤3300∧(L W).length+(s.e W).waiting.length≤3302∧(s.e W).flight.length≤(L W).length:=by
 have h1:=h.wr
 have h2:=(h.both W hW).snd.len
 have h3:=(h.both W hW).snd.fll
 rcases (by omega:W=0∨W=1) with rfl|rfl<;> omega
theorem PInv.oth {s:PS} {f:Nat→Int} {conn room limit:Int} {L:Nat→List Msg} {c:Nat} (h:PInv s f conn room limit L c) {W:Nat} (hW:W<2):Oth (L W):=by
 have hS:=(h.both W hW).snd
 have h1:=h.len hW
 have hg:∀i m,(L W)[i]? =some m→((L W)++(s.e W).waiting.map msg)[i]? =some m:=fun i m hi=>prefix_get ⟨_,rfl⟩ hi
 refine ⟨by omega,fun i m hi hk=>⟨((hS.tok.first i m (hg i m hi)).1 hk).1,?_⟩,fun i m hi hk=> ?_⟩
 ·have:=(hS.tok.kinds m (List.mem_of_getElem? (hg i m hi))).2.1
  by_cases hb:m.2=[]
  ·exact hb
  ·have:=this.2 hb;omega
 ·have:=(hS.tok.last i m (hg i m hi) hk).1
  rw [List.length_append] at this
  have:=(List.getElem?_eq_some_iff.1 hi).1
  omega
theorem Rcv.far {e:E} {f:Int} {L:List Msg} {rd:List UInt8} (h:Rcv e f L rd):FarOk e:=by
 intro x hx
 rcases h.got with ⟨g,_⟩|⟨k,hG,_⟩
 ·rw [g] at hx;cases hx
 ·obtain ⟨j,a,b,_,d,_⟩:=hG.kept x hx
  rw [d,hG.base];omega
theorem keptB_each {l:List (Int×Sg)} {x:Int×Sg} (h:x∈l):x.2.body.length≤keptB l:=by
 induction l with
 |nil=>cases h
 |cons y l ih=>
  rw [keptB_cons]
  rcases List.mem_cons.1 h with rfl|h
  ·omega
  ·have:=ih h;omega
section
variable {s:PS} {f:Nat→Int} {conn room limit:Int} {L:Nat→List Msg} {c:Nat} (h:PInv s f conn room limit L c) (hP:Par f conn room limit s.numbers) (hc:c≤9000) (ht:s.now≤1000000000) {W:Nat} (hW:W<2)
include h hW
theorem PInv.due:DueOk (s.e W):=by
 have h1:=h.len hW
 have hS:=(h.both W hW).snd
 exact ⟨by omega,by omega,fun p hp=>by have:=(hS.msgF hp).2.2;omega,fun p hp=>by have:=(hS.msgW hp).2.2;omega⟩
include hP hc in
theorem PInv.made:MadeOk (s.e W):=by
 have hR:=(h.both W hW).rcv
 have hF:=h.fix W hW
 have h1:=hP.room
 have h2:=hR.room
 have h3:=h.keptn W hW
 rw [hF.room] at h2
 exact ⟨by rw [hF.room];omega,by omega,by omega,fun x hx=>by have:=keptB_each hx;omega,hR.far⟩
include hP in
theorem PInv.takes:TakeOk 20000 (40*c) (s.e W):=by
 have h1:=h.len hW
 have hS:=(h.both W hW).snd
 have hR:=(h.both W hW).rcv
 have hF:=h.fix W hW
 have h4:=hP.room
 have h2:=hR.room
 have h3:=h.keptn W hW
 have h5:=hS.acked
 have h6:=hS.next
 have h7:=hP.f W hW
 rw [hF.room] at h2
 exact ⟨by omega,by omega,by omega,hR.base,by rw [hF.room];omega,by omega,h3,fun x hx=>by have:=keptB_each hx;omega⟩
include ht in
theorem PInv.at_:atR (s.e W) s.now=0:=by
 have h1:=(h.fix W hW).now
 have h2:=h.now
 unfold atR
 rw [if_neg (by omega)]
end
theorem fateR_seven {numbers:List Int} {n:Nat} (h:fateR numbers n=7):n<numbers.length:=by
 unfold fateR at h
 split at h
 ·assumption
 ·omega
structure WayP (W:Nat) (a b:PS) (l:List Sg):Prop where
 e:b.e=a.e
 wrote:b.wrote=a.wrote
 read:b.read=a.read
 now:b.now=a.now
 numbers:b.numbers=a.numbers
 pos:b.pos=a.pos+l.length
 other:∀V,V≠W→b.way V=a.way V
 mem:∀p∈b.way W,p∈a.way W∨p∈l
 len:(b.way W).length+(a.pos+min a.pos a.numbers.length)≤(a.way W).length+(b.pos+min b.pos a.numbers.length)
theorem WayP.one (W:Nat) (a:PS) (p:Sg):WayP W a (sendOne W a p) [p]:=by
 unfold sendOne
 split
 ·exact ⟨rfl,rfl,rfl,rfl,rfl,rfl,fun _ _=>rfl,fun p h=> .inl h,by show (a.way W).length+_≤_+(a.pos+1+min (a.pos+1) _);omega⟩
 ·refine ⟨rfl,rfl,rfl,rfl,rfl,rfl,fun V hV=>upd_ne hV,fun q hq=> ?_,?_⟩
  ·have hq:q∈upd a.way W (wayR (fateR a.numbers a.pos) p (a.way W)) W:=hq
   rw [upd_self] at hq
   unfold wayR at hq
   split at hq
   ·rcases List.mem_cons.1 hq with rfl|hq
    ·exact .inr (List.mem_singleton.2 rfl)
    ·exact .inl hq
   ·split at hq
    ·rcases List.mem_append.1 hq with hq|hq
     ·exact .inl hq
     ·simp only [List.mem_cons,List.not_mem_nil,or_false,or_self] at hq
      exact .inr (List.mem_singleton.2 hq)
    ·rcases List.mem_append.1 hq with hq|hq
     ·exact .inl hq
     ·exact .inr hq
  ·show (upd a.way W (wayR (fateR a.numbers a.pos) p (a.way W)) W).length+_≤_+(a.pos+1+min (a.pos+1) _)
   rw [upd_self]
   unfold wayR
   split
   ·rw [List.length_cons];omega
   ·split
    ·have:=fateR_seven (by assumption)
     rw [List.length_append]
     simp only [List.length_cons,List.length_nil]
     omega
    ·rw [List.length_append,List.length_singleton];omega
theorem WayP.all (W:Nat):∀(l:List Sg) (a:PS),WayP W a (l.foldl (sendOne W) a) l
 |[],a=>⟨rfl,rfl,rfl,rfl,rfl,rfl,fun _ _=>rfl,fun p h=> .inl h,Nat.le_refl _⟩
 | p::l,a=>by
  have h1:=WayP.one W a p
  have h2:=WayP.all W l (sendOne W a p)
  rw [List.foldl_cons]
  generalize sendOne W a p=b at*
  generalize l.foldl (sendOne W) b=d at*
  refine ⟨h2.e.trans h1.e,h2.wrote.trans h1.wrote,h2.read.trans h1.read,h2.now.trans h1.now,h2.numbers.trans h1.numbers,?_,fun V hV=>(h2.other V hV).trans (h1.other V hV),fun q hq=> ?_,?_⟩
  ·have:=h1.pos;have:=h2.pos
   simp only [List.length_cons,List.length_nil] at*
   omega
  ·rcases h2.mem q hq with g|g
   ·rcases h1.mem q g with g|g
    ·exact .inl g
    ·exact .inr (by rw [List.mem_singleton.1 g];exact List.mem_cons_self ..)
   ·exact .inr (List.mem_cons_of_mem _ g)
  ·have:=h1.len;have:=h2.len
   rw [h1.numbers] at this
   omega
def sendS (s:PS) (W:Nat):PS:=(sendR (s.e W) s.now).2.2.foldl (sendOne W) {s with e:=upd s.e W (sendR (s.e W) s.now).2.1}
structure SendOk (s:PS) (W:Nat) (limit:Int):Prop where
 due:DueOk (s.e W)
 made:MadeOk (s.e W)
 outs:(s.e W).outs<1000
 few:(s.e W).flight.length+(s.e W).waiting.length<100000
 err:(sendR (s.e W) s.now).1=0
 ok:∀p∈(sendR (s.e W) s.now).2.2,p.ok
 due2:DueOk (sendR (s.e W) s.now).2.1
 under:¬((underR (sendR (s.e W) s.now).2.1).2>limit∧(underR (sendR (s.e W) s.now).2.1).1>1)
 out:(sendR (s.e W) s.now).2.2.length<1000000
 pos:s.pos<1000000000
 numbers:s.numbers.length<1099511627776
 way:(s.way W).length<1000000000
theorem Snd.due {e:E} {f:Int} {L:List Msg} {w:List UInt8} (h:Snd e f L w) (hw:w.length<100000):DueOk e:=by
 have h1:=h.len
 have h2:=h.fll
 exact ⟨by omega,by omega,fun p hp=>by have:=(h.msgF hp).2.2;omega,fun p hp=>by have:=(h.msgW hp).2.2;omega⟩
theorem Snd.underOk {e:E} {f:Int} {L:List Msg} {w:List UInt8} (h:Snd e f L w) (hl:0≤e.limit):¬((underR e).2>e.limit∧(underR e).1>1):=by
 rintro ⟨h1,h2⟩
 have hu:=h.under
 unfold UOkZ at hu
 unfold underR at h1 h2
 split at h1
 ·have h1:(0:Int)>e.limit:=h1;omega
 ·rename_i h5
  rw [if_neg h5] at h2
  dsimp only at h1 h2
  rw [flyN_zs] at h2
  rw [flyB_zs] at h1
  omega
theorem PInv.sendL {s:PS} {f:Nat→Int} {conn room limit:Int} {L:Nat→List Msg} {c:Nat} (h:PInv s f conn room limit L c) (hP:Par f conn room limit s.numbers) (hc:c≤9000) (ht:s.now≤1000000000) {W:Nat} (hW:W<2):
  SendOk s W limit∧(sendS s W).numbers=s.numbers∧(sendS s W).now=s.now∧∃L',L'++((sendS s W).e W).waiting.map msg=L W++(s.e W).waiting.map msg∧PInv (sendS s W) f conn room limit (upd L W L') (c+1):=by
 have hF:=h.fix W hW
 have hB:=h.both W hW
 have hat:=h.at_ ht hW
 have hl:=h.len hW
 have hn:=h.now
 have hps:=h.pos
 have hwy:=h.ways W hW
 have hR:sendR (s.e W) s.now=(0,send1 (over2 {s.e W with now:=s.now})):=by unfold sendR;rw [if_pos hat]
 have hf:=hP.f W hW
 have hcn:=hP.conn
 have hrm:=hP.room
 have hlm:=hP.limit
 have hnb:=hP.numbers
 have hsp:=sent_P (a:=s.e W) (f:=f W) (now:=s.now) (L:=L W) (w:=s.wrote W) hf (by omega) (by rw [hF.conn];exact hcn) (by rw [hF.room];omega) hB.rcv.base hn hB.snd (h.lostW W hW)
 obtain ⟨L',hL,hS',ho',hh,hT⟩:=hsp.ex
 have hlen:=hsp.len
 have hws:=WayP.all W (send1 (over2 {s.e W with now:=s.now})).2 {s with e:=upd s.e W (send1 (over2 {s.e W with now:=s.now})).1}
 have hss:sendS s W=(send1 (over2 {s.e W with now:=s.now})).2.foldl (sendOne W) {s with e:=upd s.e W (send1 (over2 {s.e W with now:=s.now})).1}:=by unfold sendS;rw [hR]
 refine ⟨⟨h.due hW,h.made hP hc hW,by have:=hF.outs;omega,by omega,by rw [hR],?_,?_,?_,?_,by omega,by omega,by omega⟩,?_⟩
 ·rw [hR];exact fun p hp=>(ho' p hp).ok
 ·rw [hR];exact hS'.due (by omega)
 ·rw [hR]
  have hlim:(send1 (over2 {s.e W with now:=s.now})).1.limit=limit:=by
   obtain ⟨_,_,_,_,_,_,_,_,_,he,_⟩:=hsp.of_
   rw [he];exact hF.limit
  have:=hS'.underOk (by rw [hlim];omega)
  rw [hlim] at this
  exact this
 ·rw [hR];dsimp only;omega
 rw [hss]
 generalize (send1 (over2 {s.e W with now:=s.now})).1=b at*
 generalize (send1 (over2 {s.e W with now:=s.now})).2=out at*
 generalize hd:out.foldl (sendOne W) {s with e:=upd s.e W b}=d at*
 have hde:d.e=upd s.e W b:=hws.e
 have hdw:d.wrote=s.wrote:=hws.wrote
 have hdr:d.read=s.read:=hws.read
 have hdn:d.now=s.now:=hws.now
 have hdm:d.numbers=s.numbers:=hws.numbers
 have hdp:d.pos=s.pos+out.length:=hws.pos
 have hdo:∀V,V≠W→d.way V=s.way V:=hws.other
 have hdi:∀p∈d.way W,p∈s.way W∨p∈out:=hws.mem
 have hdl:(d.way W).length+(s.pos+min s.pos s.numbers.length)≤(s.way W).length+(d.pos+min d.pos s.numbers.length):=hws.len
 obtain ⟨bw,bfl,bn,bc,bg,bst,bou,br,ban,hbe,hbs,hba⟩:=hsp.of_
 have hbW:d.e W=b:=by rw [hde,upd_self]
 refine ⟨hdm,hdn,L',by rw [hbW];exact hT,?_⟩
 have hbV:∀V,V≠W→d.e V=s.e V:=fun V hV=>by rw [hde,upd_ne hV]
 have hbstate:b.state=bst:=by rw [hbe]
 have hB':Both b (f W) L' (s.wrote W) (f (1 - W)) (L (1 - W)) (s.read W):=by
  refine ⟨hS',hB.rcv.of ?_ ?_ ?_ ?_ ?_ ?_⟩
  all_goals try (rw [hbe])
  rw [show (({s.e W with waiting:=bw,flight:=bfl,next:=bn,count:=bc,again:=bg,state:=bst,outs:=bou,replies:=br,answer:=ban,now:=s.now}:E)).state=bst from rfl]
  omega
 refine ⟨fun V hV=> ?_,fun V hV=> ?_,fun V hV=> ?_,fun V hV=> ?_,fun hs1=> ?_,?_,?_,by rw [hdn];exact hn,by rw [hdw];exact h.wr,by omega,fun V hV=> ?_,fun V hV=> ?_⟩
 ·rw [hdw,hdr]
  by_cases hVW:V=W
  ·subst hVW
   rw [hbW,upd_self,upd_ne (by omega)]
   exact hB'
  ·have hV1:1 - V=W:=by omega
   rw [hbV V hVW,upd_ne hVW,hV1,upd_self]
   have:=h.both V hV
   rw [hV1] at this
   exact ⟨this.snd,this.rcv.mono hL⟩
 ·by_cases hVW:V=W
  ·subst hVW
   rw [upd_self]
   intro p hp
   rcases hdi p hp with g|g
   ·exact (h.way V hV p g).mono hL
   ·exact ho' p g
  ·rw [hdo V hVW,upd_ne hVW];exact h.way V hV
 ·rw [hdn]
  by_cases hVW:V=W
  ·subst hVW
   rw [hbW]
   have h1:=hsp.outs hF.outs
   refine ⟨?_,?_,?_,?_,?_,?_,h1⟩
   ·rw [hbe];exact hF.opener
   ·rw [hbe];exact hF.conn
   ·rw [hbe];exact hF.room
   ·rw [hbe];exact hF.limit
   ·rw [hbe];exact hF.body
   ·rw [hbe];exact ⟨hn,Int.le_refl _⟩
  ·rw [hbV V hVW];exact h.fix V hV
 ·by_cases hVW:V=W
  ·subst hVW
   rw [hbW];exact hsp.lostW
  ·rw [hbV V hVW];exact h.lostW V hV
 ·rcases (by omega:W=0∨W=1) with rfl|rfl
  ·rw [hbW] at hs1
   have h1:(s.e 0).state=1:=by omega
   obtain ⟨a1,a2,a3,a4,a5,a6⟩:=h.start h1
   have h2:=hsp.low h1 a5 a6
   rw [hbV 1 (by omega),hbW,upd_ne (by omega),hdo 1 (by omega)]
   refine ⟨a1,a2,a3,fun p hp=> ?_,?_,h2.2⟩
   ·rcases hdi p hp with g|g
    ·exact a4 p g
    ·exact h2.1 p g
   ·cases hx:b.answer with
    |false=>rfl
    |true=>
     rw [hbe] at hx
     have:=hba hx
     rw [a5] at this
     cases this
  ·rw [hbV 0 (by omega)] at hs1
   obtain ⟨a1,a2,a3,a4,a5,a6⟩:=h.start hs1
   rw [hbV 0 (by omega),hbW,upd_self,hdo 0 (by omega)]
   have hL1:L'=L 1:=hh (by rw [hF.opener];rfl) a1
   refine ⟨by rw [hbe];exact a1,by rw [hL1];exact a2,fun p hp hk=> ?_,a4,a5,a6⟩
   rcases hdi p hp with g|g
   ·exact a3 p g hk
   ·rw [hsp.three p g hk,hS'.next,hL1,a2]
    simp
 ·rcases (by omega:W=0∨W=1) with rfl|rfl
  ·rw [hbW,hbV 1 (by omega)]
   have:=h.st0
   omega
  ·rw [hbW,hbV 0 (by omega)]
   have:=h.st0
   omega
 ·by_cases hW0:W=0
  ·subst hW0
   rw [hbW,upd_self]
   rw [hT];exact h.ne
  ·rw [hbV 0 (fun h=>hW0 h.symm),upd_ne (fun h=>hW0 h.symm)];exact h.ne
 ·by_cases hVW:V=W
  ·subst hVW
   rw [hdm];omega
  ·rw [hdo V hVW,hdm,hdp]
   have:=h.ways V hV
   omega
 ·by_cases hVW:V=W
  ·subst hVW
   rw [hbW,hbe]
   have:=h.keptn V hV
   show (s.e V).kept.length≤_
   omega
  ·rw [hbV V hVW]
   have:=h.keptn V hV
   omega
theorem PInv.send {s:PS} {f:Nat→Int} {conn room limit:Int} {L:Nat→List Msg} {c:Nat} (h:PInv s f conn room limit L c) (hP:Par f conn room limit s.numbers) (hc:c≤9000) (ht:s.now≤1000000000) {W:Nat} (hW:W<2):
  SendOk s W limit∧(sendS s W).numbers=s.numbers∧(sendS s W).now=s.now∧∃L',PInv (sendS s W) f conn room limit L' (c+1):=by
 obtain ⟨a,b,d,L',_,g⟩:=h.sendL hP hc ht hW
 exact ⟨a,b,d,_,g⟩
end Go.Proofs.Ytdgmcckfdgnicaa
