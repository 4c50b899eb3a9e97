/-
 What stands of a pair of ends:an end takes what came and reads;writes;closes (plain).
-/
import Derived.Test.YtdgmcckfdgnicaaUvM
set_option linter.unusedVariables false
set_option linter.unusedSimpArgs false
set_option maxRecDepth 20000
namespace Go.Proofs.Ytdgmcckfdgnicaa
open Go Go.Aw Go.Proofs
theorem TakeF.fix {a b:E} (h:TakeF a b) {op:Bool} {conn room limit now:Int} (hF:Fix a op conn room limit now):Fix b op conn room limit now:=by
 have h1:=h.outs
 have h2:=h.five
 obtain ⟨_,_,_,_,_,_,_,_,_,_,_,_,_,_,_,_,hb⟩:=h.of_
 have h3:=hF.outs
 refine ⟨?_,?_,?_,?_,?_,?_,by omega,fun g=> ?_⟩
 ·rw [hb];exact hF.opener
 ·rw [hb];exact hF.conn
 ·rw [hb];exact hF.room
 ·rw [hb];exact hF.limit
 ·rw [hb];exact hF.body
 ·rw [hb];exact hF.now
 ·have:a.state≠5:=fun g2=>g (h2 g2)
  have:=h3.2 this
  omega
theorem takes_P {f f':Int} {L L':List Msg} {w rd:List UInt8} (hO:Oth L'):∀(l:List Sg) (a:E) {B K:Nat},Both a f L w f' L' rd→TakeOk B K a→ (∀ p∈l,SgOk f' L' p)→(a.state=1→∀p∈l,p.kind=3→p.seq=f'%65536)→
  Both (l.foldl takeOne a) f L w f' L' rd∧TakeF a (l.foldl takeOne a)∧TakeOk (B+1400*l.length) (K+l.length) (l.foldl takeOne a)∧((∀ p∈l,p.kind=1∨p.kind=5)→(l.foldl takeOne a).heard=a.heard)∧
  (a.opener=true→(l.foldl takeOne a).state=1→a.state=1∧(l.foldl takeOne a).flight=a.flight∧(l.foldl takeOne a).answer=a.answer)
 |[],a,B,K,hB,hT,_,_=>⟨hB,.refl a,hT,fun _=>rfl,fun _ h=>⟨h,rfl,rfl⟩⟩
 | p::l,a,B,K,hB,hT,hok,h3=>by
  have hp:=hok p (List.mem_cons_self ..)
  have h1:=hB.take hO hp fun h=>h3 h p (List.mem_cons_self ..)
  have hf1:=TakeF.take a p hB.rcv.base
  have hT1:=hT.take p hp.ok
  have hst:(takeOne a p).state=1→a.state=1:=fun h=>by
   by_cases g:a.state=1
   ·exact g
   ·exact absurd h (hf1.one g)
  obtain ⟨r1,r2,r3,r4,r5⟩:=takes_P hO l (takeOne a p) h1 hT1 (fun q hq=>hok q (List.mem_cons_of_mem _ hq)) (fun h q hq=>h3 (hst h) q (List.mem_cons_of_mem _ hq))
  rw [List.foldl_cons,List.length_cons]
  refine ⟨r1,hf1.trans r2,by rw [show B+1400*(l.length+1)=B+1400+1400*l.length by omega,show K+(l.length+1)=K+1+l.length by omega];exact r3,fun hq=> ?_,fun ho hs=> ?_⟩
  ·rw [r4 fun q hq'=>hq q (List.mem_cons_of_mem _ hq'),take_quiet a p (hq p (List.mem_cons_self ..))]
  ·have ho2:(takeOne a p).opener=true:=by
    obtain ⟨_,_,_,_,_,_,_,_,_,_,_,_,_,_,_,_,hb⟩:=hf1.of_
    rw [hb];exact ho
   obtain ⟨s1,s2,s3⟩:=r5 ho2 hs
   obtain ⟨t1,t2⟩:=take_one a p ho (hst s1) s1
   exact ⟨hst s1,s2.trans t1,s3.trans t2⟩
theorem Rcv.read {e:E} {f:Int} {L:List Msg} {rd:List UInt8} (h:Rcv e f L rd) (most:Int):Rcv (readS most e) f L (rd++readOut most e):=by
 have hsp:readOut most e++e.ready.drop (readN most e)=e.ready:=List.take_append_drop _ _
 refine ⟨h.base,?_,?_⟩
 ·have:=h.room
  show (((e.ready.drop (readN most e)).length:Nat):Int)+_≤e.room
  rw [List.length_drop]
  show ((e.ready.length - readN most e:Nat):Int)+(keptB e.kept:Int)≤e.room
  omega
 ·rcases h.got with ⟨g1,g2,g3,g4,g5⟩|⟨k,hG,g⟩
  ·refine .inl ⟨g1,?_,?_,g4,g5⟩
   ·show e.ready.drop _=[]
    rw [g2];simp
   ·unfold readOut
    rw [g3,g2];simp
  ·refine .inr ⟨k,⟨hG.le,hG.base,?_,hG.ended,hG.kept⟩,g⟩
   show (rd++readOut most e)++e.ready.drop _=_
   rw [List.append_assoc,hsp]
   exact hG.text
theorem Rcv.sound {e:E} {f:Int} {L:List Msg} {rd:List UInt8} (h:Rcv e f L rd) {T:List Msg} {w:List UInt8} (hw:bodies (L++T)=w):w.take rd.length=rd:=by
 rcases h.got with ⟨_,_,g3,_,_⟩|⟨k,hG,_⟩
 ·rw [g3];simp
 ·have h1:=hG.text
  have h2:w=rd++(e.ready++(bodies (L.drop k)++bodies T)):=by
   rw [← hw,bodies_append]
   conv=>lhs;rw [← List.take_append_drop k L]
   rw [bodies_append,←h1]
   simp
  rw [h2,List.take_left]
structure ArrOk (s:PS) (W:Nat) (n:Int) (B K:Nat):Prop where
 take:TakeOk B K (s.e W)
 ok:∀p∈s.way (1 - W),p.ok
 at_:atR (s.e W) s.now=0
 B:B+1400*(s.way (1 - W)).length<1000000000
 K:K+(s.way (1 - W)).length<1000000
 read:(s.read W).length<1000000000
 ready:(arrT s W n).ready.length<1000000000
theorem PInv.arrive {s:PS} {f:Nat→Int} {conn room limit:Int} {L:Nat→List Msg} {c:Nat} (h:PInv s f conn room limit L c) (hP:Par f conn room limit s.numbers) (hc:c≤120) (ht:s.now≤1000000000) {W:Nat} (hW:W<2) (n most:Int) (hn:0≤n∧n≤40):
  ArrOk s W n 20000 (40*c)∧soundR (arriveR s W n most) W=true∧PInv (arriveR s W n most) f conn room limit L (c+1):=by
 have hV:1 - W<2:=by omega
 have hB:=h.both W hW
 have hF:=h.fix W hW
 have hat:=h.at_ ht hW
 have hT:=h.takes hP hW
 have hO:=h.oth hV
 have hn2:=h.now
 have hps:=h.pos
 have hwy:=h.ways _ hV
 have hnb:=hP.numbers
 have hrm:=hP.room
 have hwr:=h.wr
 have hVV:1 - (1 - W)=W:=by omega
 obtain ⟨k,hk⟩:∃k,k=arrN n (s.way (1 - W)):=⟨_,rfl⟩
 have hk40:k≤40:=by rw [hk];unfold arrN;omega
 have hl40:((s.way (1 - W)).take k).length≤40:=by rw [List.length_take];omega
 have hmem:∀p∈(s.way (1 - W)).take k,p∈s.way (1 - W):=fun p hp=>List.mem_of_mem_take hp
 have hB0:Both {s.e W with now:=s.now} (f W) (L W) (s.wrote W) (f (1 - W)) (L (1 - W)) (s.read W):=hB.of rfl rfl rfl rfl rfl rfl rfl rfl rfl rfl rfl rfl (.inl rfl)
 have hT0:TakeOk 20000 (40*c) {s.e W with now:=s.now}:=hT.of (Nat.le_refl _) (Nat.le_refl _) (Nat.le_refl _) rfl rfl rfl rfl rfl rfl
 have h3:({s.e W with now:=s.now}:E).state=1→∀p∈(s.way (1 - W)).take k,p.kind=3→p.seq=f (1 - W)%65536:=fun hs p hp hk3=>by
  have hs:(s.e W).state=1:=hs
  rcases (by omega:W=0∨W=1) with rfl|rfl
  ·exact (h.start hs).2.2.1 p (hmem p hp) hk3
  ·exact absurd hs h.st0.2
 obtain ⟨r1,r2,r3,r4,r5⟩:=takes_P hO ((s.way (1 - W)).take k) {s.e W with now:=s.now} hB0 hT0 (fun p hp=>h.way _ hV p (hmem p hp)) h3
 have hat2:arrT s W n=((s.way (1 - W)).take k).foldl takeOne {s.e W with now:=s.now}:=by
  unfold arrT takeR
  rw [if_pos hat,hk]
 have har:arriveR s W n most={s with e:=upd s.e W (readS most (arrT s W n)),way:=upd s.way (1 - W) ((s.way (1 - W)).drop k),read:=upd s.read W (s.read W++readOut most (arrT s W n))}:=by
  unfold arriveR
  rw [hk]
 rw [← hat2] at r1 r2 r3 r4 r5
 have hR2:=r1.rcv.read most
 have hF2:=r2.fix (a:={s.e W with now:=s.now}) (now:=s.now) (op:=decide (W=0)) (conn:=conn) (room:=room) (limit:=limit) ⟨hF.opener,hF.conn,hF.room,hF.limit,hF.body,⟨hn2,Int.le_refl _⟩,hF.outs⟩
 have hform:=r2.of_
 have hzero:=r2.zero
 have hone:=r2.one
 generalize hd:arrT s W n=d at*
 have hrl:d.ready.length<1000000000:=by
  have h1:=r1.rcv.room
  rw [hF2.room] at h1
  omega
 have hwf:d.waiting=(s.e W).waiting:=by
  obtain ⟨_,_,_,_,_,_,_,_,_,_,_,_,_,_,_,_,hb⟩:=hform
  rw [hb]
 rw [har]
 refine ⟨⟨hT,fun p hp=>(h.way _ hV p hp).ok,hat,by omega,by omega,?_,by rw [hd];exact hrl⟩,?_,?_⟩
 ·have h1:=hB.rcv.sound (h.both _ hV).snd.text
  have h2:=congrArg List.length h1
  rw [List.length_take] at h2
  rcases (by omega:W=0∨W=1) with rfl|rfl
  ·have h2:min (s.read 0).length (s.wrote 1).length=(s.read 0).length:=h2;omega
  ·have h2:min (s.read 1).length (s.wrote 0).length=(s.read 1).length:=h2;omega
 ·unfold soundR
  dsimp only
  rw [upd_self]
  have h1:=hR2.sound (h.both _ hV).snd.text
  rw [h1]
  simp
 ·refine ⟨fun V hV2=> ?_,fun V hV2=> ?_,fun V hV2=> ?_,fun V hV2=> ?_,fun hs1=> ?_,?_,?_,hn2,hwr,by show s.pos≤_;omega,fun V hV2=> ?_,fun V hV2=> ?_⟩
  ·dsimp only
   by_cases hVW:V=W
   ·subst hVW
    rw [upd_self,upd_self]
    exact ⟨r1.snd.of rfl rfl rfl rfl rfl rfl rfl,hR2⟩
   ·rw [upd_ne hVW,upd_ne hVW]
    exact h.both V hV2
  ·dsimp only
   intro p hp
   by_cases hVW:V=1 - W
   ·subst hVW
    rw [upd_self] at hp
    exact h.way _ hV2 p (List.mem_of_mem_drop hp)
   ·rw [upd_ne hVW] at hp
    exact h.way V hV2 p hp
  ·dsimp only
   by_cases hVW:V=W
   ·subst hVW
    rw [upd_self]
    exact ⟨hF2.opener,hF2.conn,hF2.room,hF2.limit,hF2.body,hF2.now,hF2.outs⟩
   ·rw [upd_ne hVW];exact h.fix V hV2
  ·dsimp only
   by_cases hVW:V=W
   ·subst hVW
    rw [upd_self]
    show ∀p∈d.waiting,_
    rw [hwf];exact h.lostW V hV2
   ·rw [upd_ne hVW];exact h.lostW V hV2
  ·dsimp only at hs1 ⊢
   rcases (by omega:W=0∨W=1) with rfl|rfl
   ·rw [upd_self] at hs1
    have ho:({s.e 0 with now:=s.now}:E).opener=true:=hF.opener
    obtain ⟨q1,q2,q3⟩:=r5 ho hs1
    obtain ⟨a1,a2,a3,a4,a5,a6⟩:=h.start q1
    rw [upd_self,upd_ne (by omega)]
    refine ⟨a1,a2,fun p hp=> ?_,fun p hp=> ?_,q3.trans a5,?_⟩
    ·exact a3 p (List.mem_of_mem_drop hp)
    ·rw [upd_ne (by omega)] at hp;exact a4 p hp
    ·show ∀p∈d.flight,_
     rw [q2];exact a6
   ·rw [upd_ne (by omega)] at hs1
    obtain ⟨a1,a2,a3,a4,a5,a6⟩:=h.start hs1
    rw [upd_self,upd_ne (by omega)]
    refine ⟨?_,a2,fun p hp=> ?_,fun p hp=> ?_,a5,a6⟩
    ·show d.heard=false
     rw [r4 fun p hp=>a4 p (hmem p hp)];exact a1
    ·exact a3 p hp
    ·have hp:p∈upd s.way 0 ((s.way 0).drop k) 0:=hp
     rw [upd_self] at hp;exact a4 p (List.mem_of_mem_drop hp)
  ·dsimp only
   rcases (by omega:W=0∨W=1) with rfl|rfl
   ·rw [upd_self,upd_ne (by omega)]
    exact ⟨hzero h.st0.1,h.st0.2⟩
   ·rw [upd_self,upd_ne (by omega)]
    exact ⟨h.st0.1,hone h.st0.2⟩
  ·dsimp only
   by_cases hW0:W=0
   ·subst hW0
    rw [upd_self]
    show L 0++d.waiting.map msg≠[]
    rw [hwf];exact h.ne
   ·rw [upd_ne (fun h=>hW0 h.symm)];exact h.ne
  ·dsimp only
   by_cases hVW:V=1 - W
   ·subst hVW
    rw [upd_self,List.length_drop]
    omega
   ·rw [upd_ne hVW];exact h.ways V hV2
  ·dsimp only
   by_cases hVW:V=W
   ·subst hVW
    rw [upd_self]
    have:=r3.kept
    show d.kept.length≤_
    omega
   ·rw [upd_ne hVW]
    have:=h.keptn V hV2
    omega
end Go.Proofs.Ytdgmcckfdgnicaa
