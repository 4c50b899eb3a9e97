/-
  A part of the proof of a statement of this seat.
-/
import Derived.Test.YtdgmcckfdgnicaaUvM
set_option linter.unusedVariables false
set_option linter.unusedSimpArgs false
set_option maxRecDepth 20000
namespace Go.Proofs.Ytdgmcckfdgnicaa
open Go Go.Aw Go.Proofs
theorem TakeF.fix {a b:E} (h:TakeF a b) {op:Bool} {conn room limit now:Int} (hF:Fix a op conn room limit now):Fix b op conn room limit now:=by
 have h1:=h.outs
 have h2:=h.five
 obtain ⟨_,_,_,_,_,_,_,_,_,_,_,_,_,_,_,_,hb⟩:=h.of_
 have h3:=hF.outs
 refine ⟨?_,?_,?_,?_,?_,?_,by omega,fun g=> ?_⟩
 ·rw [hb];exact hF.opener
 ·rw [hb];exact hF.conn
 ·rw [hb];exact hF.room
 ·rw [hb];exact hF.limit
 ·rw [hb];exact hF.body
 ·rw [hb];exact hF.now
 ·have:a.state≠5:=fun g2=>g (h2 g2)
  have:=h3.2 this
  omega
theorem takes_P {f f':Int} {L L':List Msg} {w rd:List UInt8} (hO:Oth L'):∀(l:List Sg) (a:E) {B K:Nat},Both a f L w f' L' rd→TakeOk B K a→ (∀ p∈l,SgOk f' L' p)→(a.state=1→∀p∈l,p.kind=3→p.seq=f'%65536)→
  Both (l.foldl takeOne a) f L w f' L' rd∧TakeF a (l.foldl takeOne a)∧TakeOk (B+1400*l.length) (K+l.length) (l.foldl takeOne a)∧((∀ p∈l,p.kind=1∨p.kind=5)→(l.foldl takeOne a).heard=a.heard)∧
  (a.opener=true→(l.foldl takeOne a).state=1→a.state=1∧(l.foldl takeOne a).flight=a.flight∧(l.foldl takeOne a).answer=a.answer)
 |[],a,B,K,hB,hT,_,_=>⟨hB,.refl a,hT,fun _=>rfl,fun _ h=>⟨h,rfl,rfl⟩⟩
 | p::l,a,B,K,hB,hT,hok,h3=>by
  have hp:=hok p (List.mem_cons_self ..)
  have h1:=hB.take hO hp fun h=>h3 h p (List.mem_cons_self ..)
  have hf1:=TakeF.take a p hB.rcv.base
  have hT1:=hT.take p hp.ok
  have hst:(takeOne a p).state=1→a.state=1:=fun h=>by
   by_cases g:a.state=1
   ·exact g
   ·exact absurd h (hf1.one g)
  obtain ⟨r1,r2,r3,r4,r5⟩:=takes_P hO l (takeOne a p) h1 hT1 (fun q hq=>hok q (List.mem_cons_of_mem _ hq)) (fun h q hq=>h3 (hst h) q (List.mem_cons_of_mem _ hq))
  rw [List.foldl_cons,List.length_cons]
  refine ⟨r1,hf1.trans r2,by rw [show B+1400*(l.length+1)=B+1400+1400*l.length by omega,show K+(l.length+1)=K+1+l.length by omega];exact r3,fun hq=> ?_,fun ho hs=> ?_⟩
  ·rw [r4 fun q hq'=>hq q (List.mem_cons_of_mem _ hq'),take_quiet a p (hq p (List.mem_cons_self ..))]
  ·have ho2:(takeOne a p).opener=true:=by
    obtain ⟨_,_,_,_,_,_,_,_,_,_,_,_,_,_,_,_,hb⟩:=hf1.of_
    rw [hb];exact ho
   obtain ⟨s1,s2,s3⟩:=r5 ho2 hs
   obtain ⟨t1,t2⟩:=take_one a p ho (hst s1) s1
   exact ⟨hst s1,s2.trans t1,s3.trans t2⟩
theorem Rcv.read {e:E} {f:Int} {L:List Msg} {rd:List UInt8} (h:Rcv e f L rd) (most:Int):Rcv (readS most e) f L (rd++readOut most e):=by
 have hsp:readOut most e++e.ready.drop (readN most e)=e.ready:=List.take_append_drop _ _
 refine ⟨h.base,?_,?_⟩
 ·have:=h.room
  show (((e.ready.drop (readN most e)).length:Nat):Int)+_≤e.room
  rw [List.length_drop]
  show ((e.ready.length - readN most e:Nat):Int)+(keptB e.kept:Int)≤e.room
  omega
 ·rcases h.got with ⟨g1,g2,g3,g4,g5⟩|⟨k,hG,g⟩
  ·refine .inl ⟨g1,?_,?_,g4,g5⟩
   ·show e.ready.drop _=[]
    rw [g2];simp
   ·unfold readOut
    rw [g3,g2];simp
  ·refine .inr ⟨k,⟨hG.le,hG.base,?_,hG.ended,hG.kept⟩,g⟩
   show (rd++readOut most e)++e.ready.drop _=_
   rw [List.append_assoc,hsp]
   exact hG.text
theorem Rcv.sound {e:E} {f:Int} {L:List Msg} {rd:List UInt8} (h:Rcv e f L rd) {T:List Msg} {w:List UInt8} (hw:bodies (L++T)=w):w.take rd.length=rd:=by
 rcases h.got with ⟨_,_,g3,_,_⟩|⟨k,hG,_⟩
 ·rw [g3];simp
 ·have h1:=hG.text
  have h2:w=rd++(e.ready++(bodies (L.drop k)++bodies T)):=by
   rw [← hw,bodies_append]
   conv=>lhs;rw [← List.take_append_drop k L]
   rw [bodies_append,←h1]
   simp
  rw [h2,List.take_left]
structure ArrOk (s:PS) (W:Nat) (n:Int) (B K:Nat):Prop where
 take:TakeOk B K (s.e W)
 ok:∀p∈s.way (1 - W),p.ok
 at_:atR (s.e W) s.now=0
 B:B+1400*(s.way (1 - W)).length<1000000000
 K:K+(s.way (1 - W)).length<1000000
 read:(s.read W).length<1000000000
 ready:(arrT s W n).ready.length<1000000000
theorem PInv.arrive {s:PS} {f:Nat→Int} {conn room limit:Int} {L:Nat→List Msg} {c:Nat} (h:PInv s f conn room limit L c) (hP:Par f conn room limit s.numbers) (hc:c≤120) (ht:s.now≤1000000000) {W:Nat} (hW:W<2) (n most:Int) (hn:0≤n∧n≤40):
  ArrOk s W n 20000 (40*c)∧soundR (arriveR s W n most) W=true∧PInv (arriveR s W n most) f conn room limit L (c+1):=by
 have hV:1 - W<2:=by omega
 have hB:=h.both W hW
 have hF:=h.fix W hW
 have hat:=h.at_ ht hW
 have hT:=h.takes hP hW
 have hO:=h.oth hV
 have hn2:=h.now
 have hps:=h.pos
 have hwy:=h.ways _ hV
 have hnb:=hP.numbers
 have hrm:=hP.room
 have hwr:=h.wr
 have hVV:1 - (1 - W)=W:=by omega
 obtain ⟨k,hk⟩:∃k,k=arrN n (s.way (1 - W)):=⟨_,rfl⟩
 have hk40:k≤40:=by rw [hk];unfold arrN;omega
 have hl40:((s.way (1 - W)).take k).length≤40:=by rw [List.length_take];omega
 have hmem:∀p∈(s.way (1 - W)).take k,p∈s.way (1 - W):=fun p hp=>List.mem_of_mem_take hp
 have hB0:Both {s.e W with now:=s.now} (f W) (L W) (s.wrote W) (f (1 - W)) (L (1 - W)) (s.read W):=hB.of rfl rfl rfl rfl rfl rfl rfl rfl rfl rfl rfl rfl (.inl rfl)
 have hT0:TakeOk 20000 (40*c) {s.e W with now:=s.now}:=hT.of (Nat.le_refl _) (Nat.le_refl _) (Nat.le_refl _) rfl rfl rfl rfl rfl rfl
 have h3:({s.e W with now:=s.now}:E).state=1→∀p∈(s.way (1 - W)).take k,p.kind=3→p.seq=f (1 - W)%65536:=fun hs p hp hk3=>by
  have hs:(s.e W).state=1:=hs
  rcases (by omega:W=0∨W=1) with rfl|rfl
  ·exact (h.start hs).2.2.1 p (hmem p hp) hk3
  ·exact absurd hs h.st0.2
 obtain ⟨r1,r2,r3,r4,r5⟩:=takes_P hO ((s.way (1 - W)).take k) {s.e W with now:=s.now} hB0 hT0 (fun p hp=>h.way _ hV p (hmem p hp)) h3
 have hat2:arrT s W n=((s.way (1 - W)).take k).foldl takeOne {s.e W with now:=s.now}:=by
  unfold arrT takeR
  rw [if_pos hat,hk]
 have har:arriveR s W n most={s with e:=upd s.e W (readS most (arrT s W n)),way:=upd s.way (1 - W) ((s.way (1 - W)).drop k),read:=upd s.read W (s.read W++readOut most (arrT s W n))}:=by
  unfold arriveR
  rw [hk]
 rw [← hat2] at r1 r2 r3 r4 r5
 have hR2:=r1.rcv.read most
 have hF2:=r2.fix (a:={s.e W with now:=s.now}) (now:=s.now) (op:=decide (W=0)) (conn:=conn) (room:=room) (limit:=limit) ⟨hF.opener,hF.conn,hF.room,hF.limit,hF.body,⟨hn2,Int.le_refl _⟩,hF.outs⟩
 have hform:=r2.of_
 have hzero:=r2.zero
 have hone:=r2.one
 generalize hd:arrT s W n=d at*
 have hrl:d.ready.length<1000000000:=by
  have h1:=r1.rcv.room
  rw [hF2.room] at h1
  omega
 have hwf:d.waiting=(s.e W).waiting:=by
  obtain ⟨_,_,_,_,_,_,_,_,_,_,_,_,_,_,_,_,hb⟩:=hform
  rw [hb]
 rw [har]
 refine ⟨⟨hT,fun p hp=>(h.way _ hV p hp).ok,hat,by omega,by omega,?_,by rw [hd];exact hrl⟩,?_,?_⟩
 ·have h1:=hB.rcv.sound (h.both _ hV).snd.text
  have h2:=congrArg List.length h1
  rw [List.length_take] at h2
  rcases (by omega:W=0∨W=1) with rfl|rfl
  ·have h2:min (s.read 0).length (s.wrote 1).length=(s.read 0).length:=h2;omega
  ·have h2:min (s.read 1).length (s.wrote 0).length=(s.read 1).length:=h2;omega
 ·unfold soundR
  dsimp only
  rw [upd_self]
  have h1:=hR2.sound (h.both _ hV).snd.text
  rw [h1]
  simp
 ·refine ⟨fun V hV2=> ?_,fun V hV2=> ?_,fun V hV2=> ?_,fun V hV2=> ?_,fun hs1=> ?_,?_,?_,hn2,hwr,by show s.pos≤_;omega,fun V hV2=> ?_,fun V hV2=> ?_⟩
  ·dsimp only
   by_cases hVW:V=W
   ·subst hVW
    rw [upd_self,upd_self]
    exact ⟨r1.snd.of rfl rfl rfl rfl rfl rfl rfl,hR2⟩
   ·rw [upd_ne hVW,upd_ne hVW]
    exact h.both V hV2
  ·dsimp only
   intro p hp
   by_cases hVW:V=1 - W
   ·subst hVW
    rw [upd_self] at hp
    exact h.way _ hV2 p (List.mem_of_mem_drop hp)
   ·rw [upd_ne hVW] at hp
    exact h.way V hV2 p hp
  ·dsimp only
   by_cases hVW:V=W
   ·subst hVW
    rw [upd_self]
    exact ⟨hF2.opener,hF2.conn,hF2.room,hF2.limit,hF2.body,hF2.now,hF2.outs⟩
   ·rw [upd_ne hVW];exact h.fix V hV2
  ·dsimp only
   by_cases hVW:V=W
   ·subst hVW
    rw [upd_self]
    show ∀p∈d.waiting,_
    rw [hwf];exact h.lostW V hV2
   ·rw [upd_ne hVW];exact h.lostW V hV2
  ·dsimp only at hs1 ⊢
   rcases (by omega:W=0∨W=1) with rfl|rfl
   ·rw [upd_self] at hs1
    have ho:({s.e 0 with now:=s.now}:E).opener=true:=hF.opener
    obtain ⟨q1,q2,q3⟩:=r5 ho hs1
    obtain ⟨a1,a2,a3,a4,a5,a6⟩:=h.start q1
    rw [upd_self,upd_ne (by omega)]
    refine ⟨a1,a2,fun p hp=> ?_,fun p hp=> ?_,q3.trans a5,?_⟩
    ·exact a3 p (List.mem_of_mem_drop hp)
    ·rw [upd_ne (by omega)] at hp;exact a4 p hp
    ·show ∀p∈d.flight,_
     rw [q2];exact a6
   ·rw [upd_ne (by omega)] at hs1
    obtain ⟨a1,a2,a3,a4,a5,a6⟩:=h.start hs1
    rw [upd_self,upd_ne (by omega)]
    refine ⟨?_,a2,fun p hp=> ?_,fun p hp=> ?_,a5,a6⟩
    ·show d.heard=false
     rw [r4 fun p hp=>a4 p (hmem p hp)];exact a1
    ·exact a3 p hp
    ·have hp:p∈upd s.way 0 ((s.way 0).drop k) 0:=hp
     rw [upd_self] at hp;exact a4 p (List.mem_of_mem_drop hp)
  ·dsimp only
   rcases (by omega:W=0∨W=1) with rfl|rfl
   ·rw [upd_self,upd_ne (by omega)]
    exact ⟨hzero h.st0.1,h.st0.2⟩
   ·rw [upd_self,upd_ne (by omega)]
    exact ⟨h.st0.1,hone h.st0.2⟩
  ·dsimp only
   by_cases hW0:W=0
   ·subst hW0
    rw [upd_self]
    show L 0++d.waiting.map msg≠[]
    rw [hwf];exact h.ne
   ·rw [upd_ne (fun h=>hW0 h.symm)];exact h.ne
  ·dsimp only
   by_cases hVW:V=1 - W
   ·subst hVW
    rw [upd_self,List.length_drop]
    omega
   ·rw [upd_ne hVW];exact h.ways V hV2
  ·dsimp only
   by_cases hVW:V=W
   ·subst hVW
    rw [upd_self]
    have:=r3.kept
    show d.kept.length≤_
    omega
   ·rw [upd_ne hVW]
    have:=h.keptn V hV2
    omega
end Go.Proofs.Ytdgmcckfdgnicaa

set_option linter.unusedVariables false
set_option linter.unusedSimpArgs false
set_option maxRecDepth 20000
namespace Go.Proofs.Ytdgmcckfdgnicaa
open Go Go.Aw Go.Proofs
theorem chunks_ok {n:Nat} (hn:1≤n):∀(f:Nat) (t:List UInt8),t.length≤f→(chunks n f t).flatten=t∧∀b∈chunks n f t,b≠[]∧b.length≤n
 |0,t,h=>by
  have:t=[]:=List.eq_nil_of_length_eq_zero (by omega)
  subst this
  exact ⟨rfl,by simp [chunks]⟩
 | f+1,t,h=>by
  unfold chunks
  split
  ·rename_i h1
   rw [h1];simp
  ·rename_i h1
   have h2:=List.length_pos_iff.2 h1
   obtain ⟨h3,h4⟩:=chunks_ok hn f (t.drop n) (by rw [List.length_drop];omega)
   refine ⟨by rw [List.flatten_cons,h3,List.take_append_drop],fun b hb=> ?_⟩
   rcases List.mem_cons.1 hb with rfl|hb
   ·refine ⟨?_,by rw [List.length_take];omega⟩
    intro h5
    have:=congrArg List.length h5
    rw [List.length_take] at this
    simp only [List.length_nil] at this
    omega
   ·exact h4 b hb
theorem bodies_map (d:List (List UInt8)):bodies ((d.map (newP 2)).map msg)=d.flatten:=by
 unfold bodies
 rw [List.map_map,List.map_map]
 congr 1
 conv=>rhs;rw [← List.map_id d]
 rfl
theorem Snd.write {e:E} {f:Int} {L:List Msg} {w:List UInt8} (h:Snd e f L w) (hne:e.opener=true→L++e.waiting.map msg≠[]) (hcl:e.closing=false) (now:Int) (d:List (List UInt8)) (hd:∀b∈d,b≠[]∧b.length≤1400):Snd (writeGo e now d) f L (w++d.flatten):=by
 have hT:L++(writeGo e now d).waiting.map msg=(L++e.waiting.map msg)++(d.map (newP 2)).map msg:=by
  show L++(e.waiting++d.map (newP 2)).map msg=_
  rw [List.map_append,List.append_assoc]
 have hm:∀m∈(d.map (newP 2)).map msg,m.1=2∧m.2≠[]∧m.2.length≤1400:=fun m hm=>by
  obtain ⟨x,hx,rfl⟩:=List.mem_map.1 hm
  obtain ⟨b,hb,rfl⟩:=List.mem_map.1 hx
  exact ⟨rfl,hd b hb⟩
 refine ⟨h.next,h.acked,h.fl,h.fll,?_,by rw [hT,bodies_append,h.text,bodies_map],h.under⟩
 rw [hT]
 show TOk _ e.opener e.closing
 refine ⟨fun m hm2=> ?_,fun i m hi=> ?_,fun i m hi hk=> ?_⟩
 ·rcases List.mem_append.1 hm2 with g|g
  ·exact h.tok.kinds m g
  ·obtain ⟨a,b,c⟩:=hm m g
   exact ⟨by omega,⟨fun _=>b,fun _=>a⟩,c⟩
 ·rcases Nat.lt_or_ge i (L++e.waiting.map msg).length with g|g
  ·rw [List.getElem?_append_left g] at hi
   exact h.tok.first i m hi
  ·rw [List.getElem?_append_right g] at hi
   obtain ⟨a,b,c⟩:=hm m (List.mem_of_getElem? hi)
   refine ⟨fun g2=>by omega,fun g2=> ?_⟩
   have:=List.length_pos_iff.2 (hne g2.2)
   omega
 ·exfalso
  rcases Nat.lt_or_ge i (L++e.waiting.map msg).length with g|g
  ·rw [List.getElem?_append_left g] at hi
   have:=(h.tok.last i m hi hk).2
   rw [hcl] at this;cases this
  ·rw [List.getElem?_append_right g] at hi
   obtain ⟨a,b,c⟩:=hm m (List.mem_of_getElem? hi)
   omega
theorem Snd.close {e e':E} {f:Int} {L:List Msg} {w:List UInt8} (h:Snd e f L w) (hne:e.opener=true→L++e.waiting.map msg≠[]) (hcl:e.closing=false) (h1:e'.next=e.next) (h2:e'.acked=e.acked) (h3:e'.flight=e.flight) (h4:e'.waiting=e.waiting++[newP 4 []]) (h5:e'.opener=e.opener) (h6:e'.closing=true) (h7:e'.limit=e.limit):Snd e' f L w:=by
 have hT:L++e'.waiting.map msg=(L++e.waiting.map msg)++[((4:Int),[])]:=by
  rw [h4,List.map_append,List.append_assoc]
  rfl
 refine ⟨h1 ▸ h.next,by rw [h1,h2];exact h.acked,by rw [h3];exact h.fl,by rw [h3];exact h.fll,?_,by rw [hT,bodies_append,h.text];simp [bodies],by rw [h7,h3];exact h.under⟩
 rw [hT,h5,h6]
 refine ⟨fun m hm2=> ?_,fun i m hi=> ?_,fun i m hi hk=> ?_⟩
 ·rcases List.mem_append.1 hm2 with g|g
  ·exact h.tok.kinds m g
  ·rw [List.mem_singleton.1 g]
   exact ⟨by omega,by simp,by simp⟩
 ·rcases Nat.lt_or_ge i (L++e.waiting.map msg).length with g|g
  ·rw [List.getElem?_append_left g] at hi
   exact h.tok.first i m hi
  ·rw [List.getElem?_append_right g] at hi
   have hm:=List.mem_singleton.1 (List.mem_of_getElem? hi)
   rw [hm]
   refine ⟨fun g2=>by omega,fun g2=> ?_⟩
   have:=List.length_pos_iff.2 (hne g2.2)
   omega
 ·rcases Nat.lt_or_ge i (L++e.waiting.map msg).length with g|g
  ·rw [List.getElem?_append_left g] at hi
   have:=(h.tok.last i m hi hk).2
   rw [hcl] at this;cases this
  ·have:=(List.getElem?_eq_some_iff.1 hi).1
   rw [List.length_append,List.length_singleton] at this ⊢
   exact ⟨by omega,rfl⟩
theorem PInv.putE {s:PS} {f:Nat→Int} {conn room limit:Int} {L:Nat→List Msg} {c:Nat} (h:PInv s f conn room limit L c) {W:Nat} (hW:W<2) {e':E} {w':List UInt8} (hB:Both e' (f W) (L W) w' (f (1 - W)) (L (1 - W)) (s.read W)) (hF:Fix e' (decide (W=0)) conn room limit s.now) (hl:∀p∈e'.waiting,p.lost=false)
  (h1:e'.state=(s.e W).state) (h2:e'.heard=(s.e W).heard) (h3:e'.answer=(s.e W).answer) (h4:e'.flight=(s.e W).flight) (h5:e'.kept=(s.e W).kept) (h6:∃X,e'.waiting=(s.e W).waiting++X) (hw:(upd s.wrote W w' 0).length+(upd s.wrote W w' 1).length≤3300)
  {s':PS} (g1:s'.e=upd s.e W e') (g2:s'.wrote=upd s.wrote W w') (g3:s'.way=s.way) (g4:s'.read=s.read) (g5:s'.now=s.now) (g6:s'.numbers=s.numbers) (g7:s'.pos=s.pos):PInv s' f conn room limit L (c+1):=by
 have hn2:=h.now
 have hps:=h.pos
 refine ⟨fun V hV=> ?_,fun V hV=> ?_,fun V hV=> ?_,fun V hV=> ?_,fun hs1=> ?_,?_,?_,by rw [g5];exact hn2,by rw [g2];exact hw,by rw [g7];omega,fun V hV=>by rw [g3,g6,g7];exact h.ways V hV,fun V hV=> ?_⟩
 ·rw [g1,g2,g4]
  by_cases hVW:V=W
  ·subst hVW;rw [upd_self,upd_self];exact hB
  ·rw [upd_ne hVW,upd_ne hVW];exact h.both V hV
 ·rw [g3];exact h.way V hV
 ·rw [g1,g5]
  by_cases hVW:V=W
  ·subst hVW;rw [upd_self];exact hF
  ·rw [upd_ne hVW];exact h.fix V hV
 ·rw [g1]
  by_cases hVW:V=W
  ·subst hVW;rw [upd_self];exact hl
  ·rw [upd_ne hVW];exact h.lostW V hV
 ·rw [g1] at hs1 ⊢
  rw [g3]
  rcases (by omega:W=0∨W=1) with rfl|rfl
  ·rw [upd_self] at hs1 ⊢
   rw [upd_ne (by omega),h3,h4]
   exact h.start (h1 ▸ hs1)
  ·have hs1:(s.e 0).state=1:=hs1
   rw [upd_self,h2]
   exact h.start hs1
 ·rw [g1]
  rcases (by omega:W=0∨W=1) with rfl|rfl
  ·rw [upd_self,upd_ne (by omega),h1];exact h.st0
  ·rw [upd_self,upd_ne (by omega),h1];exact h.st0
 ·rw [g1]
  by_cases hW0:W=0
  ·subst hW0
   rw [upd_self]
   obtain ⟨X,hX⟩:=h6
   rw [hX,List.map_append,←List.append_assoc]
   exact fun hx=>h.ne (List.append_eq_nil_iff.1 hx).1
  ·rw [upd_ne (fun h=>hW0 h.symm)];exact h.ne
 ·rw [g1]
  have:=h.keptn V hV
  by_cases hVW:V=W
  ·subst hVW;rw [upd_self,h5];omega
  ·rw [upd_ne hVW];omega
theorem PInv.nop {s:PS} {f:Nat→Int} {conn room limit:Int} {L:Nat→List Msg} {c:Nat} (h:PInv s f conn room limit L c):PInv s f conn room limit L (c+1):=
 ⟨h.both,h.way,h.fix,h.lostW,h.start,h.st0,h.ne,h.now,h.wr,by have:=h.pos;omega,h.ways,fun V hV=>by have:=h.keptn V hV;omega⟩
theorem PInv.later {s:PS} {f:Nat→Int} {conn room limit:Int} {L:Nat→List Msg} {c:Nat} (h:PInv s f conn room limit L c) (t:Int) (ht:0≤t):PInv {s with now:=s.now+t} f conn room limit L c:=
 ⟨h.both,h.way,fun W hW=>by
  have hF:=h.fix W hW
  exact ⟨hF.opener,hF.conn,hF.room,hF.limit,hF.body,by have:=hF.now;show 0≤(s.e W).now∧(s.e W).now≤s.now+t;omega,hF.outs⟩,h.lostW,h.start,h.st0,h.ne,by have:=h.now;show 0≤s.now+t;omega,h.wr,h.pos,h.ways,h.keptn⟩
structure Ac where
 kind:Int
 who:Int
 n:Int
 later:Int
 text:List UInt8
def Ac.c (x:Ac):List Value:= [.int .i64 x.kind,.int .i64 x.who,.int .i64 x.n,.int .i64 x.later,.string (bs x.text)]
def whoR (x:Ac):Nat:=(((x.who.tmod 2+2).tmod 2)).toNat
def nR (x:Ac):Int:=1+(x.n.tmod 40+40).tmod 40
theorem whoR_ok (x:Ac):whoR x<2∧((x.who.tmod 2+2).tmod 2)=(whoR x:Nat):=by
 unfold whoR
 have h1: -2<x.who.tmod 2∧x.who.tmod 2<2:=⟨Int.lt_tmod_of_pos _ (by omega),Int.tmod_lt_of_pos _ (by omega)⟩
 have h2:0≤(x.who.tmod 2+2).tmod 2∧(x.who.tmod 2+2).tmod 2<2:=by
  rw [Int.tmod_eq_emod_of_nonneg (by omega)];omega
 omega
theorem nR_ok (x:Ac):1≤nR x∧nR x≤40:=by
 unfold nR
 have h1: -40<x.n.tmod 40∧x.n.tmod 40<40:=⟨Int.lt_tmod_of_pos _ (by omega),Int.tmod_lt_of_pos _ (by omega)⟩
 have h2:0≤(x.n.tmod 40+40).tmod 40∧(x.n.tmod 40+40).tmod 40<40:=by
  rw [Int.tmod_eq_emod_of_nonneg (by omega)];omega
 omega
def writeS (s:PS) (W:Nat) (t:List UInt8):PS:=
 {s with e:=upd s.e W (writeR (s.e W) s.now t).2,wrote:=if (writeR (s.e W) s.now t).1=0 then upd s.wrote W (s.wrote W++t) else s.wrote}
def closeS (s:PS) (W:Nat):PS:={s with e:=upd s.e W (closeR (s.e W) s.now).2}
def doNow (s:PS) (x:Ac):PS:={s with now:=s.now+x.later}
def doR (s:PS) (x:Ac):PS:=
 if x.kind=1∨x.kind=2 then (if ((s.wrote 0).length:Int)+(s.wrote 1).length>3000 then doNow s x else writeS (doNow s x) (whoR x) x.text)
 else if x.kind=3∨x.kind=4∨x.kind=5 then sendS (doNow s x) (whoR x)
 else if x.kind=6 then closeS (doNow s x) (whoR x)
 else arriveR (doNow s x) (whoR x) (nR x) (nR x*10)
theorem upd_id {α :Type} {f:Nat→α} {i:Nat}:upd f i (f i)=f:=by
 funext j
 unfold upd
 split
 ·rename_i h;rw [h]
 ·rfl
theorem PInv.write {s:PS} {f:Nat→Int} {conn room limit:Int} {L:Nat→List Msg} {c:Nat} (h:PInv s f conn room limit L c) (hT:s.now≤1000000000) {W:Nat} (hW:W<2) (t:List UInt8) (ht:t.length≤300) (hw:(s.wrote 0).length+(s.wrote 1).length≤3000):
  ((writeR (s.e W) s.now t).1=0∨(writeR (s.e W) s.now t).1=9∨(writeR (s.e W) s.now t).1=4)∧PInv (writeS s W t) f conn room limit L (c+1):=by
 have hB:=h.both W hW
 have hF:=h.fix W hW
 have hat:=h.at_ hT hW
 unfold writeS writeR
 rw [if_pos hat]
 by_cases h1:(s.e W).closing=false∧((s.e W).state=1∨(s.e W).state=2)
 ·rw [if_pos h1]
  by_cases h2:queuedR (s.e W)+(t.length:Int)>100000
  ·rw [if_pos h2]
   refine ⟨.inr (.inr rfl),?_⟩
   dsimp only
   rw [if_neg (by omega),upd_id]
   exact h.nop
  ·rw [if_neg h2]
   refine ⟨.inl rfl,?_⟩
   dsimp only
   rw [if_pos rfl]
   have hbd:=hF.body
   obtain ⟨k1,k2⟩:=chunks_ok (n:=(s.e W).body.toNat) (by omega) t.length t (Nat.le_refl _)
   have hne:(s.e W).opener=true→L W++(s.e W).waiting.map msg≠[]:=fun ho=>by
    rw [hF.opener] at ho
    have:W=0:=by simpa using ho
    subst this
    exact h.ne
   have hS:=hB.snd.write hne h1.1 s.now (chunks (s.e W).body.toNat t.length t) fun b hb=>⟨(k2 b hb).1,by have:=(k2 b hb).2;omega⟩
   rw [k1] at hS
   refine h.putE hW (e':=writeGo (s.e W) s.now (chunks (s.e W).body.toNat t.length t)) (w':=s.wrote W++t) ⟨hS,hB.rcv.of rfl rfl rfl rfl rfl (.inl rfl)⟩ ⟨hF.opener,hF.conn,hF.room,hF.limit,hF.body,⟨h.now,Int.le_refl _⟩,hF.outs⟩ (fun p hp=> ?_) rfl rfl rfl rfl rfl ⟨_,rfl⟩ ?_ rfl rfl rfl rfl rfl rfl rfl
   ·have hp:p∈(s.e W).waiting++(chunks (s.e W).body.toNat t.length t).map (newP 2):=hp
    rcases List.mem_append.1 hp with hp|hp
    ·exact h.lostW W hW p hp
    ·obtain ⟨b,_,rfl⟩:=List.mem_map.1 hp
     rfl
   ·rcases (by omega:W=0∨W=1) with rfl|rfl
    ·rw [upd_self,upd_ne (by omega),List.length_append];omega
    ·rw [upd_self,upd_ne (by omega),List.length_append];omega
 ·rw [if_neg h1]
  refine ⟨.inr (.inl rfl),?_⟩
  dsimp only
  rw [if_neg (by omega),upd_id]
  exact h.nop
theorem PInv.close {s:PS} {f:Nat→Int} {conn room limit:Int} {L:Nat→List Msg} {c:Nat} (h:PInv s f conn room limit L c) (hT:s.now≤1000000000) {W:Nat} (hW:W<2):PInv (closeS s W) f conn room limit L (c+1):=by
 have hB:=h.both W hW
 have hF:=h.fix W hW
 have hat:=h.at_ hT hW
 unfold closeS closeR
 rw [if_pos hat]
 by_cases h1:(s.e W).closing=false∧((s.e W).state=1∨(s.e W).state=2)
 ·rw [if_pos h1]
  have hne:(s.e W).opener=true→L W++(s.e W).waiting.map msg≠[]:=fun ho=>by
   rw [hF.opener] at ho
   have:W=0:=by simpa using ho
   subst this
   exact h.ne
  refine h.putE hW (e':={s.e W with now:=s.now,closing:=true,waiting:=(s.e W).waiting++[newP 4 []]}) (w':=s.wrote W) ⟨hB.snd.close hne h1.1 rfl rfl rfl rfl rfl rfl rfl,hB.rcv.of rfl rfl rfl rfl rfl (.inl rfl)⟩ ⟨hF.opener,hF.conn,hF.room,hF.limit,hF.body,⟨h.now,Int.le_refl _⟩,hF.outs⟩ (fun p hp=> ?_) rfl rfl rfl rfl rfl ⟨_,rfl⟩ ?_ rfl ?_ rfl rfl rfl rfl rfl
  ·have hp:p∈(s.e W).waiting++[newP 4 []]:=hp
   rcases List.mem_append.1 hp with hp|hp
   ·exact h.lostW W hW p hp
   ·rw [List.mem_singleton.1 hp];rfl
  ·rw [upd_id];exact h.wr
  ·rw [upd_id]
 ·rw [if_neg h1]
  dsimp only
  rw [upd_id]
  exact h.nop
structure DoOk (s:PS) (x:Ac) (limit:Int):Prop where
 write:¬((s.wrote 0).length:Int)+(s.wrote 1).length>3000→((writeR ((doNow s x).e (whoR x)) (doNow s x).now x.text).1=0∨(writeR ((doNow s x).e (whoR x)) (doNow s x).now x.text).1=9∨(writeR ((doNow s x).e (whoR x)) (doNow s x).now x.text).1=4)
 send:SendOk (doNow s x) (whoR x) limit
 arr:∃B K,ArrOk (doNow s x) (whoR x) (nR x) B K
 sound:soundR (arriveR (doNow s x) (whoR x) (nR x) (nR x*10)) (whoR x)=true
theorem PInv.do_ {s:PS} {f:Nat→Int} {conn room limit:Int} {L:Nat→List Msg} {c:Nat} (h:PInv s f conn room limit L c) (hP:Par f conn room limit s.numbers) (hc:c<120) (x:Ac) (hx:x.text.length≤300∧0≤x.later∧x.later≤100000) (hT:s.now≤100000*c):DoOk s x limit∧(doR s x).numbers=s.numbers∧(doR s x).now=s.now+x.later∧∃L',PInv (doR s x) f conn room limit L' (c+1):=by
 have hw2:=(whoR_ok x).1
 have hn:=nR_ok x
 have hL:PInv (doNow s x) f conn room limit L c:=h.later x.later hx.2.1
 have hT2:(doNow s x).now≤1000000000:=by show s.now+x.later≤_;omega
 have hPd:Par f conn room limit (doNow s x).numbers:=hP
 have hsd:=hL.send hPd (by omega) hT2 hw2
 have har:=hL.arrive hPd (by omega) hT2 hw2 (nR x) (nR x*10) (by omega)
 refine ⟨⟨fun hw=>(hL.write hT2 hw2 x.text hx.1 (by show (s.wrote 0).length+(s.wrote 1).length≤3000;omega)).1,hsd.1,⟨_,_,har.1⟩,har.2.1⟩,?_⟩
 unfold doR
 split
 ·split
  ·exact ⟨rfl,rfl,L,hL.nop⟩
  ·exact ⟨rfl,rfl,L,(hL.write hT2 hw2 x.text hx.1 (by show (s.wrote 0).length+(s.wrote 1).length≤3000;omega)).2⟩
 ·split
  ·exact ⟨hsd.2.1,hsd.2.2.1,hsd.2.2.2⟩
  ·split
   ·exact ⟨rfl,rfl,L,hL.close hT2 hw2⟩
   ·exact ⟨rfl,rfl,L,har.2.2⟩
end Go.Proofs.Ytdgmcckfdgnicaa
