/-
 FlowAll (plain): what taking one packet does to an end,whole.
-/
import Derived.Test.Ytdgmcckfdgnicaah4M
set_option linter.unusedVariables false
set_option linter.unusedSimpArgs false
set_option maxRecDepth 20000
namespace Go.Proofs.Ytdgmcckfdgnicaa
open Go Go.Aw Go.Proofs
def Opn (e:E):Prop:=e.state=2∨e.state=3∨e.state=4
structure TkA (e e':E) (p:Sg) (f:Int) (L:List Msg) (f':Int) (L':List Msg) (rd:List UInt8) (k:Nat):Prop where
 s:TkS e e' p f L
 r:∃k',KOk e' f' L' rd k'∧AccLe L' f' e e' k k'∧ (∀ j:Nat,L'[j]? =some (p.kind,p.body)→p.seq=(f'+j)%65536→(p.kind=2∨p.kind=4)→Opn e→j≤k→(j=k→(p.body.length:Int)≤spaceR e)→j<k')∧(k'=k∨e'.answer=true)∧(EndC e L' k→EndC e' L' k')∧(e.state=0→p.kind=1→1≤k')
 st5:e'.state≠5∧e'.replies=false
 win:e'.window=p.window
 ended:e.ended=true→e'.ended=true
 state:e'.state=e.state∨(e.state=0∧e'.state=2∧p.kind=1)∨(e.state=1∧e'.state=2∧p.kind=3)
 answer:(e.answer=true→e'.answer=true)∧((p.kind=2∨p.kind=4)→Opn e→e'.answer=true)∧(p.kind=3→Opn e→e'.answer=e.answer)∧(p.kind=1→e.opener=true→e'.answer=e.answer)
 heard:(e.heard=true→e'.heard=true)∧((p.kind=2∨p.kind=3∨p.kind=4)→Opn e→e'.heard=true)
 opens0:e.state=0→p.kind=1→e'.state=2∧e'.answer=true
 opens1:e.state=1→p.kind=3→∀fl,e.flight=[fl]→p.ack=fl.number.tmod 65536→e'.state=2∧e'.answer=true∧(ackTo e p.ack<e.next→ackTo e p.ack≤e'.acked)
 opensC:e.state=1→e'.state≠1→∃fl,e.flight=[fl]∧p.ack=fl.number.tmod 65536∧p.kind=3
 stays1:e.state=1→e'.state=1→e'.flight=e.flight∧e'.answer=e.answer
 keep:e'.waiting=e.waiting∧e'.next=e.next∧e'.closing=e.closing∧e'.now=e.now∧e'.opener=e.opener∧e'.conn=e.conn∧e'.room=e.room∧e'.limit=e.limit∧e'.body=e.body∧e'.out=e.out
structure TkHyp (e:E) (p:Sg) (f:Int) (L:List Msg) (f':Int) (L':List Msg) (rd:List UInt8) (k:Nat):Prop where
 oth:Oth L'
 ok:SgOk f' L' p
 kk:KOk e f' L' rd k
 fls:FlS e
 endp:EndP e f L
 k5:p.kind≠5
 st5:e.state≠5∧e.replies=false
 b0:e.state=0→p.kind=1∧e.opener=false
 b1:e.state=1→e.opener=true∧(p.kind=3→p.seq=f'%65536)
 four:e.state=4→e.ended=true
 rng:0≤e.state∧e.state≤5
theorem passGo_ended:∀(n:Nat) (e:E),e.ended=true→(passGo n e).ended=true
 |0,e,h=>h
 |n+1,e,h=>by
  unfold passGo
  split
  ·exact h
  ·rw [if_pos h];exact h
theorem keepR_more (e:E) (p:Sg) (hb:0≤e.base∧e.base<65536):(e.ended=true→(keepR e p).ended=true)∧(keepR e p).answer=true:=by
 unfold keepR
 split
 ·exact ⟨id,rfl⟩
 ·split
  ·exact ⟨id,rfl⟩
  ·unfold passR
   refine ⟨fun h=>passGo_ended _ _ h,?_⟩
   obtain ⟨_,_,_,_,b,kk,r,d,q5⟩:=passGo_props (({e with answer:=true,kept:=e.kept++[(p.seq,p)]}:E).kept.length+1) {e with answer:=true,kept:=e.kept++[(p.seq,p)]} hb
   rw [q5]
theorem byKind_A {e:E} {p:Sg} {f:Int} {L:List Msg} {f':Int} {L':List Msg} {rd:List UInt8} {k:Nat} (h:TkHyp e p f L f' L' rd k) (hw:e.window=p.window):TkA e (byKind e p) p f L f' L' rd k:=by
 have hpk:1≤p.kind∧p.kind≤5:=⟨h.ok.ok.1,h.ok.ok.2.1⟩
 have h5:=h.k5
 have hself:TkS e e p f L→TkA e e p f L f' L' rd k→TkA e e p f L f' L' rd k:=fun _ h=>h
 have hnop:¬((p.kind=2∨p.kind=3∨p.kind=4)∧Opn e)→(e.state=0→p.kind≠1)→(e.state=1→p.kind=3→∀fl,e.flight=[fl]→p.ack≠fl.number.tmod 65536)→TkA e e p f L f' L' rd k:=fun g1 g2 g3=>
  ⟨.refl h.fls h.endp g1,⟨k,h.kk,.same rfl,fun j _ _ a b=>absurd ⟨by omega,b⟩ g1,.inl rfl,id,fun a b=>absurd b (g2 a)⟩,h.st5,hw,id,.inl rfl,⟨id,fun a b=>absurd ⟨by omega,b⟩ g1,fun _ _=>rfl,fun _ _=>rfl⟩,⟨id,fun a b=>absurd ⟨a,b⟩ g1⟩,fun a b=>absurd b (g2 a),fun a b fl c d=>absurd d (g3 a b fl c),fun a b=>absurd a b,fun _ _=>⟨rfl,rfl⟩,⟨rfl,rfl,rfl,rfl,rfl,rfl,rfl,rfl,rfl,rfl⟩⟩
 have hcarry:p.kind=2∨p.kind=4→TkA e (carryR e p) p f L f' L' rd k:=fun hk=>by
  unfold carryR
  by_cases c0:e.state=0
  ·have:=(h.b0 c0).1;omega
  ·rw [if_neg c0]
   by_cases c1:e.state=2∨e.state=3∨e.state=4
   ·rw [if_pos c1]
    have hG:Got e f' L' rd k:=by
     rcases h.kk.got with ⟨_,_,_,_,_,g⟩|⟨g,_⟩
     ·omega
     ·exact g
    have hb:0≤e.base∧e.base<65536:=by rw [hG.base];omega
    have hA:=TkS.ack (e0:={e with heard:=true}) (p:=p) h.fls h.endp rfl rfl rfl rfl rfl (by omega) c0
    obtain ⟨fl,o,dn,ac,hae,_⟩:=ackR_ackS {e with heard:=true} p.ack p.marks
    have hK1:KOk (ackR {e with heard:=true} p.ack p.marks) f' L' rd k:=by rw [hae];exact h.kk.of rfl rfl rfl rfl (.inl rfl)
    obtain ⟨j0,hj0,hs0⟩:=h.ok.in_ (by omega)
    have hsp:spaceR (ackR {e with heard:=true} p.ack p.marks)=spaceR e:=by rw [hae];rfl
    have hst:(ackR {e with heard:=true} p.ack p.marks).state=e.state:=by rw [hae]
    have hkp:(ackR {e with heard:=true} p.ack p.marks).kept=e.kept:=by rw [hae]
    have hen:(ackR {e with heard:=true} p.ack p.marks).ended=e.ended:=by rw [hae]
    have hbb:(ackR {e with heard:=true} p.ack p.marks).base=e.base:=by rw [hae]
    obtain ⟨k',r1,r2,r3,r4⟩:=hK1.keep h.oth.len h.oth.last (by rw [hst];omega) (by rw [hst,hen];exact h.four) hj0 hs0 hk
    obtain ⟨hm1,hm2⟩:=keepR_more (ackR {e with heard:=true} p.ack p.marks) p (by rw [hbb];exact hb)
    obtain ⟨fan,fdb,fb,fk,fr,fe,hform⟩:=keepR_form (ackR {e with heard:=true} p.ack p.marks) p (by rw [hbb];exact hb)
    have hS:=hA.put (e2:=keepR (ackR {e with heard:=true} p.ack p.marks) p) (by rw [hform]) (by rw [hform]) (by rw [hform]) (by rw [hform])
    rw [hsp] at r3
    rw [hen] at hm1
    generalize keepR (ackR {e with heard:=true} p.ack p.marks) p=z at*
    have hzst:z.state=e.state:=by rw [hform,hae]
    refine ⟨hS,⟨k',r1,⟨r2.1,fun i hi hik=>r2.2 i hi (by rw [hkp];exact hik)⟩,fun j hj hjs _ _ hjk hsp2=> ?_,.inr hm2,fun g=>r4 fun m a b d=>by rw [hae];exact g m a b d,fun a=>absurd a c0⟩,⟨by rw [hzst];exact h.st5.1,by rw [hform,hae];exact h.st5.2⟩,by rw [hform,hae];exact hw,hm1,.inl hzst,⟨fun _=>hm2,fun _ _=>hm2,fun g=>by omega,fun g=>by omega⟩,⟨fun _=>by rw [hform,hae],fun _ _=>by rw [hform,hae]⟩,fun g=>absurd g c0,fun _ g=>by omega,fun g=>by omega,fun g=>by omega,by rw [hform,hae];exact ⟨rfl,rfl,rfl,rfl,rfl,rfl,rfl,rfl,rfl,rfl⟩⟩
    have hjl:=(List.getElem?_eq_some_iff.1 hj).1
    have hjl0:=(List.getElem?_eq_some_iff.1 hj0).1
    have hlen:=h.oth.len
    have:j=j0:=by omega
    subst this
    exact r3 hjk hsp2
   ·rw [if_neg c1]
    exact hnop (fun g=>c1 g.2) (fun g=>absurd g c0) (fun _ g=>by omega)
 unfold byKind
 by_cases k1:p.kind=1
 ·rw [if_pos k1]
  unfold openT
  by_cases c1:e.opener=true∨e.state=1∨e.state=5
  ·rw [if_pos c1]
   refine hnop (fun g=>by omega) (fun g=> ?_) (fun _ g=>by omega)
   have:=(h.b0 g).2
   rcases c1 with c1|c1
   ·rw [this] at c1;cases c1
   ·omega
  ·rw [if_neg c1]
   by_cases c2:e.state=0
   ·rw [if_pos c2]
    obtain ⟨i,hi,hseq⟩:=h.ok.in_ (.inl k1)
    obtain ⟨rfl,hbd⟩:=h.oth.first _ _ hi k1
    have hbd:p.body=[]:=hbd
    refine ⟨(TkS.refl h.fls h.endp (fun g=>by omega)).put rfl rfl rfl rfl,⟨1,⟨h.kk.nodup,.inr ⟨?_,by show (2:Int)≠0;omega,by show (2:Int)≠1;omega⟩⟩,⟨?_,fun i _ g=> .inr g⟩,fun j _ _ a=>by omega,.inr rfl,fun _ m _ hm h4=> ?_,fun _ _=>Nat.le_refl _⟩,⟨by show (2:Int)≠5;omega,h.st5.2⟩,hw,id,.inr (.inl ⟨c2,rfl,k1⟩),⟨fun _=>rfl,fun g=>by omega,fun g=>by omega,fun _ g=>absurd (.inl g) c1⟩,⟨id,fun g=>by omega⟩,fun _ _=>⟨rfl,rfl⟩,fun g=>by omega,fun g=>by omega,fun g=>by omega,⟨rfl,rfl,rfl,rfl,rfl,rfl,rfl,rfl,rfl,rfl⟩⟩
    ·rcases h.kk.got with ⟨g1,g2,g3,g4,g5,_⟩|⟨_,g,_⟩
     ·refine ⟨(List.getElem?_eq_some_iff.1 hi).1,?_,?_,fun he=> ?_,fun x hx=> ?_⟩
      ·show p.seq=_;rw [hseq];omega
      ·show rd++e.ready=_
       rw [g3,g4]
       cases hl:L' with
       |nil=>rfl
       |cons m l=>
        rw [hl] at hi
        have:m=(p.kind,p.body):=by simpa using hi
        rw [this]
        simp [bodies,hbd]
      ·have he:e.ended=true:=he
       rw [g5] at he;cases he
      ·have hx:x∈e.kept:=hx
       rw [g2] at hx;cases hx
     ·omega
    ·rcases h.kk.got with ⟨g1,_⟩|⟨_,g,_⟩
     ·omega
     ·omega
    ·rw [Nat.sub_self,hi] at hm
     have:p.kind=4:=by rw [← h4,←Option.some.inj hm]
     omega
   ·rw [if_neg c2]
    refine ⟨(TkS.refl h.fls h.endp (fun g=>by omega)).put rfl rfl rfl rfl,⟨k,h.kk.of rfl rfl rfl rfl (.inl rfl),.same rfl,fun j _ _ a=>by omega,.inl rfl,id,fun a=>absurd a c2⟩,h.st5,hw,id,.inl rfl,⟨fun _=>rfl,fun g=>by omega,fun g=>by omega,fun _ g=>absurd (.inl g) c1⟩,⟨id,fun g=>by omega⟩,fun g=>absurd g c2,fun g=>by omega,fun g=>absurd (.inr (.inl g)) c1,fun g=>absurd (.inr (.inl g)) c1,⟨rfl,rfl,rfl,rfl,rfl,rfl,rfl,rfl,rfl,rfl⟩⟩
 ·rw [if_neg k1]
  by_cases k2:p.kind=2
  ·rw [if_pos k2];exact hcarry (.inl k2)
  ·rw [if_neg k2]
   by_cases k3:p.kind=3
   ·rw [if_pos k3]
    unfold aloneR
    by_cases c0:e.state=0
    ·have:=(h.b0 c0).1;omega
    ·rw [if_neg c0]
     by_cases c1:e.state=1
     ·rw [if_pos c1]
      by_cases hfl:e.flight.length=1
      ·obtain ⟨fl,hfl⟩:=List.length_eq_one_iff.1 hfl
       rw [alone1_one hfl]
       unfold aloneUp
       by_cases c2:p.ack=fl.number.tmod 65536
       ·rw [if_pos c2]
        have hseq:=(h.b1 c1).2 k3
        have hA:=TkS.ack (e0:={e with state:=2,base:=(p.seq - 1)%65536}) (p:=p) h.fls h.endp rfl rfl rfl rfl rfl (by omega) c0
        obtain ⟨fl',o,dn,ac,hae,_⟩:=ackR_ackS {e with state:=2,base:=(p.seq - 1)%65536} p.ack p.marks
        have hS:=hA.put (e2:=ansS (ackR {e with state:=2,base:=(p.seq - 1)%65536} p.ack p.marks)) rfl rfl rfl rfl
        obtain ⟨_,hq2,_⟩:=ackR_nums (e:={e with state:=2,base:=(p.seq - 1)%65536}) (h.fls.of rfl rfl) p.ack p.marks
        have hTo:ackTo {e with state:=2,base:=(p.seq - 1)%65536} p.ack=ackTo e p.ack:=rfl
        rw [hae] at hq2
        have hq2:ac=(if ackTo e p.ack≥e.next then e.acked else max e.acked (ackTo e p.ack)):=hq2
        have hz:ansS (ackR {e with state:=2,base:=(p.seq - 1)%65536} p.ack p.marks)={e with state:=2,base:=(p.seq - 1)%65536,flight:=fl',outs:=o,done:=dn,acked:=ac,answer:=true}:=by rw [hae];rfl
        rw [hz] at hS ⊢
        refine ⟨hS,⟨0,⟨h.kk.nodup,.inr ⟨?_,by show (2:Int)≠0;omega,by show (2:Int)≠1;omega⟩⟩,⟨?_,fun i _ g=> .inr g⟩,fun j _ _ a=>by omega,.inr rfl,fun _ m hm=>by omega,fun a=>absurd a c0⟩,⟨by show (2:Int)≠5;omega,h.st5.2⟩,hw,id,.inr (.inr ⟨c1,rfl,k3⟩),⟨fun _=>rfl,fun g=>by omega,fun _ g=>by unfold Opn at g;omega,fun g=>by omega⟩,⟨id,fun _ g=>by unfold Opn at g;omega⟩,fun g=>by omega,fun _ _ _ _ _=>⟨rfl,rfl,fun g=>by show ackTo e p.ack≤ac;rw [hq2,if_neg (by omega)];omega⟩,fun _ _=>⟨fl,hfl,c2,k3⟩,fun _ g=>absurd g (by show ¬(2:Int)=1;omega),⟨rfl,rfl,rfl,rfl,rfl,rfl,rfl,rfl,rfl,rfl⟩⟩
        ·rcases h.kk.got with ⟨g1,g2,g3,g4,g5,_⟩|⟨_,_,g⟩
         ·refine ⟨Nat.zero_le _,?_,?_,fun he=> ?_,fun x hx=> ?_⟩
          ·show (p.seq - 1)%65536=_;rw [hseq];omega
          ·show rd++e.ready=_
           rw [g3,g4];rfl
          ·have he:e.ended=true:=he
           rw [g5] at he;cases he
          ·have hx:x∈e.kept:=hx
           rw [g2] at hx;cases hx
         ·omega
        ·rcases h.kk.got with ⟨g1,_⟩|⟨_,_,g⟩
         ·omega
         ·omega
       ·rw [if_neg c2]
        refine hnop (fun g=>by have:=g.2;unfold Opn at this;omega) (fun g=>by omega) (fun _ _ fl2 g=> ?_)
        rw [hfl] at g
        have:fl=fl2:=by simpa using g
        rw [← this];exact c2
      ·rw [alone1_no hfl]
       exact hnop (fun g=>by have:=g.2;unfold Opn at this;omega) (fun g=>by omega) (fun _ _ fl2 g=>by rw [g] at hfl;simp at hfl)
     ·rw [if_neg c1]
      by_cases c2:e.state=2∨e.state=3∨e.state=4
      ·rw [if_pos c2]
       have hA:=TkS.ack (e0:={e with heard:=true}) (p:=p) h.fls h.endp rfl rfl rfl rfl rfl (by omega) c0
       obtain ⟨fl,o,dn,ac,hae,_⟩:=ackR_ackS {e with heard:=true} p.ack p.marks
       rw [hae] at hA ⊢
       exact ⟨hA,⟨k,h.kk.of rfl rfl rfl rfl (.inl rfl),.same rfl,fun j _ _ a=>by omega,.inl rfl,id,fun a=>absurd a c0⟩,h.st5,hw,id,.inl rfl,⟨id,fun g=>by omega,fun _ _=>rfl,fun g=>by omega⟩,⟨fun _=>rfl,fun _ _=>rfl⟩,fun g=>absurd g c0,fun g=>absurd g c1,fun g=>absurd g c1,fun g=>absurd g c1,⟨rfl,rfl,rfl,rfl,rfl,rfl,rfl,rfl,rfl,rfl⟩⟩
      ·rw [if_neg c2]
       exact hnop (fun g=>c2 g.2) (fun g=>absurd g c0) (fun g=>absurd g c1)
   ·rw [if_neg k3]
    by_cases k4:p.kind=4
    ·rw [if_pos k4];exact hcarry (.inr k4)
    ·omega
theorem takeOne_A {e:E} {p:Sg} {f:Int} {L:List Msg} {f':Int} {L':List Msg} {rd:List UInt8} {k:Nat} (h:TkHyp e p f L f' L' rd k) (hc:p.conn=e.conn) (hE:EndOk e f L):
  ∃z,TkA e z p f L f' L' rd k∧takeOne e p=closeT z∧EndOk (takeOne e p) f L:=by
 have h5:=h.st5.1
 unfold takeOne
 rw [if_neg (fun g=>by rcases g with g|g;exact g hc;exact h5 g)]
 have hb:({e with late:=p.time,some:=true,window:=if p.kind=5 then e.window else p.window}:E)={e with late:=p.time,some:=true,window:=p.window}:=by rw [if_neg h.k5]
 rw [hb]
 have h0:TkHyp {e with late:=p.time,some:=true,window:=p.window} p f L f' L' rd k:=⟨h.oth,h.ok,h.kk.of rfl rfl rfl rfl (.inl rfl),h.fls.of rfl rfl,h.endp.of rfl rfl,h.k5,h.st5,h.b0,h.b1,h.four,h.rng⟩
 have hA:=byKind_A h0 rfl
 refine ⟨_,?_,rfl,?_⟩
 ·refine ⟨⟨hA.s.fls,hA.s.sub,hA.s.gone,hA.s.prog,hA.s.endp,hA.s.nd,hA.s.outs,hA.s.acked,hA.s.sents,hA.s.fl⟩,?_,hA.st5,hA.win,hA.ended,hA.state,hA.answer,hA.heard,hA.opens0,hA.opens1,hA.opensC,hA.stays1,hA.keep⟩
  obtain ⟨k',r1,r2,r3,r4,r5,r6⟩:=hA.r
  exact ⟨k',r1,r2,r3,r4,fun g=>r5 fun m a b d=>g m a b d,r6⟩
 ·generalize hz:byKind {e with late:=p.time,some:=true,window:=p.window} p=z at*
  have hsz:z.state=e.state∨(e.state=0∧z.state=2)∨(e.state=1∧z.state=2):=by
   rcases hA.state with g|⟨g1,g2,_⟩|⟨g1,g2,_⟩
   ·exact .inl g
   ·exact .inr (.inl ⟨g1,g2⟩)
   ·exact .inr (.inr ⟨g1,g2⟩)
  have hfour:z.state=4→z.ended=true:=fun g=>hA.ended (hE.four (by omega))
  have hsent:∀(i:Nat) (m:Msg),L[i]? =some m→m.1=4→z.state=3∨z.state=4:=fun i m a b=>by
   have:=hE.sent i m a b
   omega
  unfold closeT
  split
  ·rename_i c
   exact ⟨hA.s.endp.gone,hA.s.endp.done,fun i m a b=> .inr rfl,fun g=>absurd g.1 (by show ¬(4:Int)=3;omega),fun _=>c.2.1⟩
  ·rename_i c
   exact ⟨hA.s.endp.gone,hA.s.endp.done,hsent,c,hfour⟩
end Go.Proofs.Ytdgmcckfdgnicaa
