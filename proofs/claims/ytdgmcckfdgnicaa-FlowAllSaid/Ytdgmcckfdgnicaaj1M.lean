/-
  A part of the proof of a statement of this seat.
-/
import Derived.Test.Ytdgmcckfdgnicaai8M
set_option linter.unusedVariables false
set_option linter.unusedSimpArgs false
set_option maxRecDepth 20000
namespace Go.Proofs.Ytdgmcckfdgnicaa
open Go Go.Aw Go.Proofs
theorem zs_none {l:List Pk} (h:∀p∈l,p.lost=true):(zs l).length=0:=by
 unfold zs
 rw [List.filter_eq_nil_iff.2 fun p hp=>by rw [h p hp];simp]
 rfl
theorem Blk.idle {e:E} (hB:Blk e) (hz:∀p∈e.flight,p.lost=true):e.flight=[]∧(e.waiting=[]∨∃p ws,e.waiting=p::ws∧mayR e p=false):=by
 have hfit:∀p,fitsR e p=true:=fun p=>by unfold fitsR;rw [flyN_zs,zs_none hz];simp
 rcases hB with ⟨i,p,hp,hl,hf,_⟩|⟨hc,hh⟩
 ·rw [hfit] at hf;cases hf
 ·refine ⟨?_,?_⟩
  ·cases hx:e.flight with
   |nil=>rfl
   |cons p l=>
    have hm:p∈e.flight:=by rw [hx];exact List.mem_cons_self ..
    have a:=hc p hm
    rw [hz p hm] at a;cases a
  ·rcases hh with g|⟨p,ws,g1,g2⟩
   ·exact .inl g
   ·rw [hfit,Bool.and_true] at g2
    exact .inr ⟨p,ws,g1,g2⟩
section
variable {s:PS} {f:Nat→Int} {conn room limit:Int} {L:Nat→List Msg} {k:Nat→Nat} {c:Nat}
theorem SV.waitNil (h:SV s f conn room limit L c k) {W:Nat} (hW:W<2) (h34:(s.e W).state=3∨(s.e W).state=4):(s.e W).waiting=[]:=by
 obtain ⟨i,m,hm,h4⟩:=h.x.x3 W hW h34
 have htk:=(h.a.base.both W hW).snd.tok
 have hl:=htk.last i m (prefix_get ⟨_,rfl⟩ hm) h4
 have:=(List.getElem?_eq_some_iff.1 hm).1
 have h2:=hl.1
 rw [List.length_append,List.length_map] at h2
 exact List.length_eq_zero_iff.1 (by omega)
theorem SV.idle (h:SV s f conn room limit L c k) {W:Nat} (hW:W<2) (hB:Blk (s.e W)) (hz:∀p∈(s.e W).flight,p.lost=true) (hh:(s.e 1).heard=true):(s.e W).flight=[]∧(s.e W).waiting=[]:=by
 obtain ⟨h1,h2⟩:=hB.idle hz
 refine ⟨h1,?_⟩
 rcases h.opn W hW with hs|hs|hs
 ·rcases h2 with g|⟨p,ws,g1,g2⟩
  ·exact g
  ·exfalso
   have htk:=(h.a.base.both W hW).snd.tok
   have hi:(L W++(s.e W).waiting.map msg)[(L W).length]? =some (msg p):=by rw [g1];simp
   have hk1:p.kind≠1:=fun hk=>by
    have:=(htk.first _ _ hi).1 hk
    rw [(h.a.base.fix W hW).opener] at this
    have hW0:W=0:=by simpa using this.2
    subst hW0
    exact (h.x.x2 (by omega)).1 (List.length_eq_zero_iff.1 this.1)
   unfold mayR at g2
   rw [if_neg hk1,hs] at g2
   have hop:((s.e W).opener||(s.e W).heard)=true:=by
    rcases (by omega:W=0∨W=1) with rfl|rfl
    ·rw [(h.a.base.fix 0 hW).opener];rfl
    ·rw [hh];simp
   rw [hop] at g2
   exact absurd g2 (by decide)
 ·exact h.waitNil hW (.inl hs)
 ·exact h.waitNil hW (.inr hs)
theorem SV.gone (h:SV s f conn room limit L c k) {W:Nat} (hW:W<2) {i:Nat} (hi:i<(L W).length) (hn:f W+(i:Int)∉nums (s.e W)):i<k W∨(k W<i∧keyP (f W) (s.e (1 - W)).kept i=true):=by
 have hD:=h.a.dir W hW
 obtain ⟨st0,hch,hT⟩:=hD.chain
 have hlv:=h.a.base.len hW
 rcases nowSt_acc.1 (hch.fin_le.acc i (hT.gone i hi hn)) with g|⟨_,g⟩
 ·exact .inl g
 ·exact .inr ⟨(hD.kk.inf.key (by omega) hi g).1,g⟩
theorem SV.kall (h:SV s f conn room limit L c k) {W:Nat} (hW:W<2) (hf:(s.e W).flight=[]):k W=(L W).length:=by
 have hle:=(h.a.dir W hW).kk.inf.le
 by_cases g:k W<(L W).length
 ·exfalso
  have hn:f W+((k W:Nat):Int)∉nums (s.e W):=by unfold nums;rw [hf];simp
  have:=h.gone hW g hn
  omega
 ·omega
theorem SV.four (h:SV s f conn room limit L c k) (hf:∀W,W<2→(s.e W).flight=[]) (hw:∀W,W<2→(s.e W).waiting=[]):∀W,W<2→(s.e W).state=4:=by
 have key:∀W,W<2→(s.e W).done=true∧((s.e W).state=3∨(s.e W).state=4)∧(s.e (1 - W)).ended=true:=fun W hW=>by
  obtain ⟨i,m,hm,h4⟩:=h.x.x7 W hW (h.cl W hW)
  have htk:=(h.a.base.both W hW).snd.tok
  have hl:=(htk.last i m hm h4).1
  rw [hw W hW,List.map_nil,List.append_nil] at hm hl
  have hD:=h.a.dir W hW
  refine ⟨?_,hD.ends.sent i m hm h4,?_⟩
  ·rcases hD.ends.gone i m hm h4 with g|g
   ·unfold nums at g;rw [hf W hW] at g;cases g
   ·exact g
  ·have hk:=h.kall hW (hf W hW)
   exact h.x.x8 W hW m (by omega) (by rw [hk,show (L W).length - 1=i by omega];exact hm) h4
 intro W hW
 obtain ⟨a1,a2,_⟩:=key W hW
 obtain ⟨_,_,a3⟩:=key (1 - W) (by omega)
 rw [show 1 - (1 - W)=W by omega] at a3
 rcases a2 with g|g
 ·exact absurd ⟨g,a3,a1⟩ (h.a.dir W hW).ends.not3
 ·exact g
structure DoneP (s:PS) (W:Nat):Prop where
 state:(s.e W).state=4
 read:s.read W=s.wrote (1 - W)
 ended:(s.e W).ended=true
 flight:(s.e W).flight=[]
 waiting:(s.e W).waiting=[]
 ready:(s.e W).ready=[]
theorem SV.done (h:SV s f conn room limit L c k) (ha:∀W,W<2→(s.e W).answer=false) (hw:∀W,W<2→s.way W=[]) (h4:∀W,W<2→(s.e W).state≥4):∀W,W<2→DoneP s W:=by
 have hs:∀W,W<2→(s.e W).state=4:=fun W hW=>by have a:=h.opn W hW;have b:=h4 W hW;unfold Opn at a;omega
 have key:∀W,W<2→(s.e W).flight=[]∧s.read (1 - W)=s.wrote W:=fun W hW=>by
  have hV:1 - W<2:=by omega
  have hD:=h.a.dir W hW
  have hE:(s.e (1 - W)).ended=true:=(h.a.dir _ hV).ends.four (hs _ hV)
  have hwn:=h.waitNil hW (.inr (hs W hW))
  have htk:=(h.a.base.both W hW).snd
  rcases hD.kk.got with ⟨_,_,_,_,g,_⟩|⟨hG,_⟩
  ·rw [hE] at g;cases g
  ·obtain ⟨_,hk1,m,hm,hm4⟩:=hG.ended hE
   have hl:=(htk.tok.last _ m (prefix_get ⟨_,rfl⟩ hm) hm4).1
   rw [hwn,List.map_nil,List.append_nil] at hl
   have hkl:k W=(L W).length:=by omega
   refine ⟨?_,?_⟩
   ·cases hx:(s.e W).flight with
    |nil=>rfl
    |cons p l=>
     exfalso
     have hm:p∈(s.e W).flight:=by rw [hx];exact List.mem_cons_self ..
     obtain ⟨i,hi,hin⟩:=htk.fl p hm
     have hil:=(List.getElem?_eq_some_iff.1 hi).1
     have hab:=hD.fls.above p.number (List.mem_map_of_mem hm)
     rcases h.x.lag W hW with g|g|⟨q,hq,_⟩
     ·omega
     ·rw [ha _ hV] at g;cases g
     ·rw [hw _ hV] at hq;cases hq
   ·have h1:=hD.kk.text
    have h2:=htk.text
    rw [h.rdy _ hV,List.append_nil,hkl,List.take_length] at h1
    rw [hwn,List.map_nil,List.append_nil] at h2
    exact h1.trans h2
 intro W hW
 have hV:1 - W<2:=by omega
 have h2:=(key (1 - W) hV).2
 rw [show 1 - (1 - W)=W by omega] at h2
 exact ⟨hs W hW,h2,(h.a.dir W hW).ends.four (hs W hW),(key W hW).1,h.waitNil hW (.inr (hs W hW)),h.rdy W hW⟩
end
end Go.Proofs.Ytdgmcckfdgnicaa

set_option linter.unusedVariables false
set_option linter.unusedSimpArgs false
set_option maxRecDepth 20000
namespace Go.Proofs.Ytdgmcckfdgnicaa
open Go Go.Aw Go.Proofs
def turnS (s:PS):PS:=arriveR (arriveR s 0 1000 100000) 1 1000 100000
def roundS (s:PS):PS:=sendS (sendS (turnS s) 0) 1
structure TW (a b:E) (B t:List Sg) (fW fV:Int) (LW LV:List Msg) (kV kV':Nat):Prop where
 tt:t=B.take (arrN 1000 B)
 kmono:kV≤kV'
 fl:FlX a b
 sents:SubFl a b
 keep:b.waiting=a.waiting∧b.limit=a.limit∧b.opener=a.opener
 state:b.state=a.state∨(a.state=3∧b.state=4)
 ansM:a.answer=true→b.answer=true
 heardM:a.heard=true→b.heard=true
 kans:kV'=kV∨b.answer=true
 acc:AccLe LV fV a b kV kV'
 win:b.window=(match t.getLast? with|some q=>q.window|none=>a.window)
 acks:∀q∈t,Ackd q→∀kp:Nat,q.ack=(fW+kp - 1)%65536→kp≤LW.length→∀y∈nums b,fW+kp - 1<y
 ans1:∀q∈t,(q.kind=2∨q.kind=4)→b.answer=true
 ans3: (∀ q∈t,q.kind=3)→b.answer=a.answer
 heard:∀q∈t,Ackd q→b.heard=true
 data:∀q∈t,(q.kind=2∨q.kind=4)→∀j:Nat,LV[j]? =some (q.kind,q.body)→q.seq=(fV+j)%65536→j≤kV→j<kV'
structure SW (b e:E) (o:List Sg) (now:Int) (w:List UInt8) (fW fV:Int) (LW LW':List Msg) (kV':Nat):Prop where
 ans:e.answer=false
 blk:Blk e
 sA:∃acc R,SendA b fW LW w acc R now e o LW'
 len:o.length≤292
 acks:∀q∈o,Ackd q∧q.ack=(fV+kV' - 1)%65536
 wins:∀q∈o,q.window=spaceR b
 eq:e=(send1 (over2 {b with now:=now})).1
 oeq:o=(send1 (over2 {b with now:=now})).2
theorem AR.tw {s s':PS} {W:Nat} {f:Nat→Int} {conn room limit:Int} {L:Nat→List Msg} {c:Nat} {k k':Nat→Nat} {t:List Sg} (h:AR s s' W f conn room limit L c k k' 1000 t):
  TW (s.e W) (s'.e W) (s.way (1 - W)) t (f W) (f (1 - W)) (L W) (L (1 - W)) (k (1 - W)) (k' (1 - W)):=
 ⟨h.tt,h.kmono,h.fl,h.sents,h.keep,h.state,h.ansM,h.heardM,h.kans,h.acc,h.win,h.acks,h.ans1,h.ans3,h.heard,h.data⟩
theorem SR.sw {s s':PS} {W:Nat} {f:Nat→Int} {conn room limit:Int} {L:Nat→List Msg} {c:Nat} {k:Nat→Nat} {L':List Msg} {o:List Sg} (h:SR s s' W f conn room limit L c k L' o):
  SW (s.e W) (s'.e W) o s.now (s.wrote W) (f W) (f (1 - W)) (L W) L' (k (1 - W)):=⟨h.ans,h.blk,h.sA,h.len,h.acks,h.wins,h.eq,h.oeq⟩
structure RoundOk (s:PS) (limit:Int):Prop where
 a0:∃B K,ArrOk s 0 1000 B K
 s0:soundR (arriveR s 0 1000 100000) 0=true
 a1:∃B K,ArrOk (arriveR s 0 1000 100000) 1 1000 B K
 s1:soundR (turnS s) 1=true
 o0:SendOk (turnS s) 0 limit
 o1:SendOk (sendS (turnS s) 0) 1 limit
section
variable {s:PS} {f:Nat→Int} {conn room limit:Int} {L:Nat→List Msg} {k:Nat→Nat} {c:Nat}
structure Tn (s m:PS) (f:Nat→Int) (conn room limit:Int) (L:Nat→List Msg) (c:Nat) (k k':Nat→Nat) (t:Nat→List Sg):Prop where
 sv:SV m f conn room limit L c k'
 now:m.now=s.now∧m.wrote=s.wrote
 tw:∀W,W<2→TW (s.e W) (m.e W) (s.way (1 - W)) (t W) (f W) (f (1 - W)) (L W) (L (1 - W)) (k (1 - W)) (k' (1 - W))
 way:∀W,W<2→m.way W=(s.way W).drop (arrN 1000 (s.way W))
theorem SV.turn (h:SV s f conn room limit L c k) (hc:1≤c∧c≤9000) (ht:s.now≤1000000000) (hw:∀W,W<2→(s.way W).length≤400000):
  (∃ B K,ArrOk s 0 1000 B K)∧soundR (arriveR s 0 1000 100000) 0=true∧ (∃ B K,ArrOk (arriveR s 0 1000 100000) 1 1000 B K)∧soundR (turnS s) 1=true∧
  ∃k' t,Tn s (turnS s) f conn room limit L c k k' t:=by
 have h1:=hw 1 (by omega)
 have h0:=hw 0 (by omega)
 obtain ⟨a1,a2,k1,t0,A⟩:=h.arr hc ht (W:=0) (by omega) (by show (s.way 1).length≤_;omega) 1000 (by omega)
 have w0:(arriveR s 0 1000 100000).way 0=s.way 0:=A.wW
 have w1:(arriveR s 0 1000 100000).way 1=(s.way 1).drop (arrN 1000 (s.way 1)):=A.wV
 obtain ⟨b1,b2,k2,t1,B⟩:=A.sv.arr hc ht (W:=1) (by omega) (by show ((arriveR s 0 1000 100000).way 0).length≤_;rw [w0];omega) 1000 (by omega)
 have e1:(arriveR s 0 1000 100000).e 1=s.e 1:=A.eV
 have e0:(turnS s).e 0=(arriveR s 0 1000 100000).e 0:=B.eV
 have kk0:k1 0=k 0:=A.kW
 have kk1:k2 1=k1 1:=B.kW
 refine ⟨⟨_,_,a1⟩,a2,⟨_,_,b1⟩,b2,k2,fun W=>if W=0 then t0 else t1,B.sv,⟨rfl,rfl⟩,fun W hW=> ?_,fun W hW=> ?_⟩
 ·rcases (by omega:W=0∨W=1) with rfl|rfl
  ·have:=A.tw
   rw [← e0,show k1 (1 - 0)=k2 (1 - 0) from kk1.symm] at this
   exact this
  ·have:=B.tw
   rw [e1,show (arriveR s 0 1000 100000).way (1 - 1)=s.way (1 - 1) from w0,show k1 (1 - 1)=k (1 - 1) from kk0] at this
   exact this
 ·rcases (by omega:W=0∨W=1) with rfl|rfl
  ·have:(turnS s).way 0=((arriveR s 0 1000 100000).way 0).drop (arrN 1000 ((arriveR s 0 1000 100000).way 0)):=B.wV
   rw [this,w0]
  ·have:(turnS s).way 1=(arriveR s 0 1000 100000).way 1:=B.wW
   rw [this,w1]
structure Sn (m z:PS) (f:Nat→Int) (conn room limit:Int) (L L':Nat→List Msg) (c:Nat) (k':Nat→Nat) (o:Nat→List Sg):Prop where
 sv:SV z f conn room limit L' c k'
 now:z.now=m.now∧z.wrote=m.wrote
 sw:∀W,W<2→SW (m.e W) (z.e W) (o W) m.now (m.wrote W) (f W) (f (1 - W)) (L W) (L' W) (k' (1 - W))
 way:∀W,W<2→z.way W=m.way W++o W
theorem SV.sendBoth {m:PS} (h:SV m f conn room limit L c k) (hc:c≤8998) (ht:m.now≤1000000000) (hov:∀W,W<2→(over2 {m.e W with now:=m.now}).state≠5):
  SendOk m 0 limit∧SendOk (sendS m 0) 1 limit∧∃L' o,Sn m (sendS (sendS m 0) 1) f conn room limit L L' (c+2) k o:=by
 obtain ⟨a1,L0,o0,A⟩:=h.snd (by omega) ht (W:=0) (by omega) (hov 0 (by omega))
 have e1:(sendS m 0).e 1=m.e 1:=A.eV 1 (by omega)
 have w1:(sendS m 0).way 1=m.way 1:=A.wV 1 (by omega)
 obtain ⟨b1,L1,o1,B⟩:=A.sv.snd (by omega) (by rw [A.now.1];exact ht) (W:=1) (by omega) (by rw [e1,A.now.1];exact hov 1 (by omega))
 have e0:(sendS (sendS m 0) 1).e 0=(sendS m 0).e 0:=B.eV 0 (by omega)
 have w0:(sendS (sendS m 0) 1).way 0=(sendS m 0).way 0:=B.wV 0 (by omega)
 refine ⟨a1,b1,upd (upd L 0 L0) 1 L1,fun W=>if W=0 then o0 else o1,B.sv,⟨B.now.1.trans A.now.1,B.now.2.2.trans A.now.2.2⟩,fun W hW=> ?_,fun W hW=> ?_⟩
 ·rcases (by omega:W=0∨W=1) with rfl|rfl
  ·have:=A.sw
   rw [← e0] at this
   rw [upd_ne (by omega),upd_self]
   exact this
  ·have:=B.sw
   rw [e1,A.now.1,A.now.2.2,upd_ne (by omega)] at this
   rw [upd_self]
   exact this
 ·rcases (by omega:W=0∨W=1) with rfl|rfl
  ·rw [w0];exact A.wW
  ·have:=B.wW
   rw [w1] at this
   exact this
end
end Go.Proofs.Ytdgmcckfdgnicaa
