/-
  A part of the proof of a statement of this seat.
-/
import Derived.Test.Ytdgmcckfdgnicaah8M
set_option linter.unusedVariables false
set_option linter.unusedSimpArgs false
set_option maxRecDepth 20000
namespace Go.Proofs.Ytdgmcckfdgnicaa
open Go Go.Aw Go.Proofs
structure PkSt (cn f:Int) (L:List Msg) (R:Int) (p:Sg) (st:St):Prop where
 kp:∀i,i<st.kp→st.acc i=true
 win:p.window+accB L st.acc≤R
 conn:p.conn=cn
 k5:p.kind≠5
 ack:p.kind=2∨p.kind=3∨p.kind=4→p.ack=(f+st.kp - 1)%65536∧∀y∈namedI p.marks,∃i:Nat,(st.kp:Int) - 1+y=i∧st.acc i=true
structure Dir (cn room:Int) (s r:E) (f:Int) (L:List Msg) (rd:List UInt8) (k:Nat) (B:List Sg):Prop where
 kk:KOk r f L rd k
 chain:∃st0:St,Chn (PkSt cn f L (room+rd.length)) (nowSt r f L k) st0 B∧Told0 s f L st0.acc (room+rd.length)
 fls:FlS s
 ends:EndOk s f L
 win:((bodies L).length:Int)≤room+rd.length∨∀i,i+1<L.length→(nowSt r f L k).acc i=true
structure AInv (s:PS) (f:Nat→Int) (conn room limit:Int) (L:Nat→List Msg) (c:Nat) (k:Nat→Nat):Prop where
 base:PInv s f conn room limit L c
 par:Par f conn room limit []
 num:s.numbers=[]
 dir:∀W,W<2→Dir conn room (s.e W) (s.e (1 - W)) (f W) (L W) (s.read (1 - W)) (k W) (s.way (1 - W))
 st5:∀W,W<2→(s.e W).state≠5∧(s.e W).replies=false∧0≤(s.e W).state∧(s.e W).state≤5
 begun:(s.e 1).state=0→(s.e 0).state=1∧s.way 1=[]
theorem nowSt_lt {r:E} {f:Int} {L:List Msg} {k i:Nat} (hk:k≤L.length) (h:(nowSt r f L k).acc i=true):i<L.length:=by
 rcases nowSt_acc.1 h with g|g
 ·omega
 ·exact g.1
theorem Chn.lt {cn f:Int} {L:List Msg} {R:Int} {r:E} {k:Nat} {l:List Sg} {st0:St} (h:Chn (PkSt cn f L R) (nowSt r f L k) st0 l) (hk:k≤L.length):∀i,st0.acc i=true→i<L.length:=fun i hi=>nowSt_lt hk (h.fin_le.acc i hi)
theorem ackTo_eq {e:E} {f:Int} {n kp:Nat} {ack:Int} (ha:ack=(f+kp - 1)%65536) (h1:f - 1≤e.acked∧e.acked<f+n) (h2:kp≤n) (h3:n≤30000):ackTo e ack=f+kp - 1:=by
 unfold ackTo ackD
 rw [ha]
 split<;> omega
theorem TkHyp.ofA {s:PS} {f:Nat→Int} {conn room limit:Int} {L:Nat→List Msg} {c:Nat} {k:Nat→Nat} (h:AInv s f conn room limit L c k) {W:Nat} (hW:W<2) {p:Sg} (hp:p∈s.way (1 - W)) (h5:p.kind≠5):TkHyp {s.e W with now:=s.now} p (f W) (L W) (f (1 - W)) (L (1 - W)) (s.read W) (k (1 - W)):=by
 have hV:1 - W<2:=by omega
 have hVV:1 - (1 - W)=W:=by omega
 have hD:=h.dir W hW
 have hD2:=h.dir _ hV
 rw [hVV] at hD2
 have hs:=h.st5 W hW
 have hF:=h.base.fix W hW
 refine ⟨h.base.oth hV,h.base.way _ hV p hp,hD2.kk.of rfl rfl rfl rfl (.inl rfl),hD.fls.of rfl rfl,⟨(h.base.both W hW).snd.fl,hD.ends.gone,hD.ends.done⟩,h5,⟨hs.1,hs.2.1⟩,fun g=> ?_,fun g=> ?_,hD.ends.four,hs.2.2⟩
 ·have g:(s.e W).state=0:=g
  rcases (by omega:W=0∨W=1) with rfl|rfl
  ·exact absurd g h.base.st0.1
  ·have h1:=(h.begun g).1
   have:=(h.base.start h1).2.2.2.1 p hp
   exact ⟨by omega,by show (s.e 1).opener=false;rw [hF.opener];rfl⟩
 ·have g:(s.e W).state=1:=g
  rcases (by omega:W=0∨W=1) with rfl|rfl
  ·exact ⟨by show (s.e 0).opener=true;rw [hF.opener];rfl,fun hk=>(h.base.start g).2.2.1 p hp hk⟩
  ·exact absurd g h.base.st0.2
theorem closeT_same (z:E):(closeT z).flight=z.flight∧(closeT z).acked=z.acked∧(closeT z).next=z.next∧(closeT z).window=z.window∧(closeT z).kept=z.kept∧(closeT z).base=z.base∧(closeT z).ready=z.ready∧(closeT z).ended=z.ended∧(closeT z).replies=z.replies∧(closeT z).answer=z.answer∧(closeT z).heard=z.heard∧(closeT z).waiting=z.waiting∧(closeT z).done=z.done∧(closeT z).outs=z.outs∧((closeT z).state=z.state∨(z.state=3∧(closeT z).state=4)):=by
 unfold closeT
 split
 ·rename_i h
  exact ⟨rfl,rfl,rfl,rfl,rfl,rfl,rfl,rfl,rfl,rfl,rfl,rfl,rfl,rfl,.inr ⟨h.1,rfl⟩⟩
 ·exact ⟨rfl,rfl,rfl,rfl,rfl,rfl,rfl,rfl,rfl,rfl,rfl,rfl,rfl,rfl,.inl rfl⟩
theorem tk1_eq {s:PS} {W:Nat} (hW:W<2) {p:Sg} {l:List Sg} (hw:s.way (1 - W)=p::l) (hat:(s.e W).now≤s.now∧s.now≤1000000000):tk1 s W={s with e:=upd s.e W (takeOne {s.e W with now:=s.now} p),way:=upd s.way (1 - W) l}:=by
 have h1:arrT s W 1=takeOne {s.e W with now:=s.now} p:=by
  unfold arrT takeR
  rw [if_pos (atR_ok hat),hw,arrN_one]
  rfl
 have hz:=readS_zero (arrT s W 1)
 unfold tk1 arriveR
 rw [hz.1,hz.2,h1,hw,arrN_one,List.append_nil,upd_id]
 rfl
theorem AInv.tk {s:PS} {f:Nat→Int} {conn room limit:Int} {L:Nat→List Msg} {c:Nat} {k:Nat→Nat} (h:AInv s f conn room limit L c k) (hc:1≤c∧c≤9000) (ht:s.now≤1000000000) {W:Nat} (hW:W<2) (hwl:(s.way (1 - W)).length≤500000) {p:Sg} {l:List Sg} (hw:s.way (1 - W)=p::l):
  ∃k',AInv (tk1 s W) f conn room limit L c (upd k (1 - W) k')∧k (1 - W)≤k'∧ (∃ z,TkA {s.e W with now:=s.now} z p (f W) (L W) (f (1 - W)) (L (1 - W)) (s.read W) (k (1 - W))∧(tk1 s W).e W=closeT z)∧
  (∀ j:Nat,(L (1 - W))[j]? =some (p.kind,p.body)→p.seq=(f (1 - W)+j)%65536→(p.kind=2∨p.kind=4)→Opn (s.e W)→j≤k (1 - W)→(j=k (1 - W)→(p.body.length:Int)≤spaceR (s.e W))→j<k')∧
  (∃ st,PkSt conn (f W) (L W) (room+(s.read (1 - W)).length) p st∧st.kp≤k W)∧(k'=k (1 - W)∨((tk1 s W).e W).answer=true)∧(EndC (s.e W) (L (1 - W)) (k (1 - W))→EndC ((tk1 s W).e W) (L (1 - W)) k')∧((s.e W).state=0→p.kind=1→1≤k'):=by
 have hV:1 - W<2:=by omega
 have hVV:1 - (1 - W)=W:=by omega
 have hWV:W≠1 - W:=by omega
 have hF:=h.base.fix W hW
 have hat:(s.e W).now≤s.now∧s.now≤1000000000:=⟨hF.now.2,ht⟩
 have hpm:p∈s.way (1 - W):=by rw [hw];exact List.mem_cons_self ..
 have hD:=h.dir W hW
 have hD2:=h.dir _ hV
 rw [hVV] at hD2
 obtain ⟨st0,hch,hT0⟩:=hD.chain
 rw [hw] at hch
 obtain ⟨st1,hle,hst1,hch1⟩:=hch
 have hlen:=h.base.len hW
 have hkk:=hD.kk.inf.le
 have hlt1:∀i,st1.acc i=true→i<(L W).length:=hch1.lt hkk
 have hkp1:st1.kp≤k W:=hch1.fin_le.kp
 have hE0:EndOk {s.e W with now:=s.now} (f W) (L W):=⟨hD.ends.gone,hD.ends.done,hD.ends.sent,hD.ends.not3,hD.ends.four⟩
 have hTk:=TkHyp.ofA h hW hpm hst1.k5
 obtain ⟨z,hA,hz,hE'⟩:=takeOne_A hTk (by rw [hst1.conn];exact hF.conn.symm) hE0
 have heq:=tk1_eq hW hw hat
 obtain ⟨c1,c2,c3,c4,c5,c6,c7,c8,c9,c10,c11,c12,c13,c14,c15⟩:=closeT_same z
 obtain ⟨k',hK',hAc,hpr,hka,hec,hk1⟩:=hA.r
 have heW:(tk1 s W).e W=closeT z:=by rw [heq,←hz];exact upd_self
 have heV:(tk1 s W).e (1 - W)=s.e (1 - W):=by rw [heq];exact upd_ne (fun g=>hWV g.symm)
 have hwV:(tk1 s W).way (1 - W)=l:=by rw [heq];exact upd_self
 have hwW:(tk1 s W).way W=s.way W:=by rw [heq];exact upd_ne hWV
 have hrd:(tk1 s W).read=s.read:=by rw [heq]
 have hKc:KOk (closeT z) (f (1 - W)) (L (1 - W)) (s.read W) k':=by
  refine hK'.of c6 c7 c5 c8 ?_
  rcases c15 with g|⟨g1,g2⟩
  ·exact .inl g
  ·exact .inr ⟨by omega,by omega,by omega,by omega⟩
 have hbase:PInv (tk1 s W) f conn room limit L c:=by
  refine (h.base.arriveG (by rw [h.num];exact h.par) hc.2 ht hW 1 0 (by omega) hwl).2.2 ?_
  have:arrT s W 1=closeT z:=by
   rw [← hz]
   unfold arrT takeR
   rw [if_pos (atR_ok hat),hw,arrN_one]
   rfl
  rw [this]
  have:=hKc.inf.few
  omega
 have hAc2:AccLe (L (1 - W)) (f (1 - W)) (s.e W) (closeT z) (k (1 - W)) k':=⟨hAc.1,fun i hi g=>by rw [c5];exact hAc.2 i hi g⟩
 refine ⟨k',⟨hbase,h.par,by rw [heq];exact h.num,fun V hV2=> ?_,fun V hV2=> ?_,fun g=> ?_⟩,hAc.1,⟨z,hA,heW⟩,fun j a b c d e1 e2=>hpr j a b c d e1 e2,⟨st1,hst1,hkp1⟩,by rw [heW,c10];exact hka,fun g=>by rw [heW];intro m a b d;rw [c8];exact hec (fun m a b d=>g m a b d) m a b d,hk1⟩
 ·rw [hrd]
  by_cases hVW:V=W
  ·subst hVW
   rw [heW,heV,hwV,upd_ne hWV]
   have hack:=hst1.ack
   have hac:=(h.base.both V hV2).snd.acked
   have hnx:=(h.base.both V hV2).snd.next
   refine ⟨hD.kk,⟨st1,hch1,⟨fun i hi hn=> ?_,by rw [c4,hA.win];exact hst1.win,hlt1⟩⟩,hA.s.fls.of c1 c2,by rw [← hz];exact hE',hD.win⟩
   rw [nums_same c1] at hn
   by_cases hin:f V+(i:Int)∈nums (s.e V)
   ·obtain ⟨g1,_,g2⟩:=hA.s.gone _ hin hn
    obtain ⟨a1,a2⟩:=hack g1
    have hto:ackTo {s.e V with now:=s.now} p.ack=f V+st1.kp - 1:=ackTo_eq (n:=(L V).length) a1 (by show f V - 1≤(s.e V).acked∧(s.e V).acked<_;omega) (by omega) (by omega)
    rw [hto] at g2
    rcases g2 with g2|⟨y,hy,g2⟩
    ·exact hst1.kp i (by omega)
    ·obtain ⟨i2,b1,b2⟩:=a2 y hy
     have:i=i2:=by omega
     rw [this];exact b2
   ·exact hle.acc i (hT0.gone i hi hin)
  ·have hV1:V=1 - W:=by omega
   subst hV1
   rw [hVV,heW,heV,hwW,upd_self]
   obtain ⟨sv,hcv,hTv⟩:=hD2.chain
   have hst:=hAc2.st
   refine ⟨hKc,⟨sv,hcv.mono hst fun p st _ g=>g,hTv⟩,hD2.fls,hD2.ends,?_⟩
   rcases hD2.win with g|g
   ·exact .inl g
   ·exact .inr fun i hi=>hst.acc i (g i hi)
 ·by_cases hVW:V=W
  ·subst hVW
   rw [heW]
   have hs:=h.st5 V hV2
   have hstz:z.state=(s.e V).state∨((s.e V).state=0∧z.state=2)∨((s.e V).state=1∧z.state=2):=by
    rcases hA.state with g|⟨g1,g2,_⟩|⟨g1,g2,_⟩
    ·exact .inl g
    ·exact .inr (.inl ⟨g1,g2⟩)
    ·exact .inr (.inr ⟨g1,g2⟩)
   refine ⟨by omega,by rw [c9];exact hA.st5.2,by omega,by omega⟩
  ·have hV1:V=1 - W:=by omega
   subst hV1
   rw [heV];exact h.st5 _ hV
 ·rcases (by omega:W=0∨W=1) with rfl|rfl
  ·have heV:(tk1 s 0).e 1=s.e 1:=heV
   rw [heV] at g
   have:=(h.begun g).2
   have hw:s.way 1=p::l:=hw
   rw [this] at hw
   cases hw
  ·rw [heW] at g
   have hst:z.state=0:=by omega
   have hstz:(s.e 1).state=0:=by
    rcases hA.state with g|⟨g1,g2,_⟩|⟨g1,g2,_⟩
    ·have g:z.state=(s.e 1).state:=g
     omega
    ·omega
    ·omega
   have hk1:=(hTk.b0 hstz).1
   have:=(hA.opens0 hstz hk1).1
   omega
end Go.Proofs.Ytdgmcckfdgnicaa

set_option linter.unusedVariables false
set_option linter.unusedSimpArgs false
set_option maxRecDepth 20000
namespace Go.Proofs.Ytdgmcckfdgnicaa
open Go Go.Aw Go.Proofs
theorem PkSt.grow {cn f:Int} {L:List Msg} {R R':Int} {p:Sg} {st:St} (h:PkSt cn f L R p st) (hR:R≤R'):PkSt cn f L R' p st:=⟨h.kp,by have:=h.win;omega,h.conn,h.k5,h.ack⟩
theorem Told0.grow {a:E} {f:Int} {L:List Msg} {acc:Nat→Bool} {R R':Int} (h:Told0 a f L acc R) (hR:R≤R'):Told0 a f L acc R':=⟨h.gone,by have:=h.wd;omega,h.lt⟩
theorem Told0.of {a b:E} {f:Int} {L:List Msg} {acc:Nat→Bool} {R:Int} (h:Told0 a f L acc R) (h1:b.flight=a.flight) (h2:b.window=a.window):Told0 b f L acc R:=⟨by rw [nums_same h1];exact h.gone,by rw [h2];exact h.wd,h.lt⟩
theorem EndOk.of {a b:E} {f:Int} {L:List Msg} (h:EndOk a f L) (h1:b.flight=a.flight) (h2:b.done=a.done) (h3:b.state=a.state) (h4:b.ended=a.ended):EndOk b f L:=
 ⟨by rw [nums_same h1,h2];exact h.gone,by rw [h2];exact h.done,by rw [h3];exact h.sent,by rw [h3,h4,h2];exact h.not3,by rw [h3,h4];exact h.four⟩
theorem Dir.recv {cn room:Int} {s r r':E} {f:Int} {L:List Msg} {rd rd':List UInt8} {k:Nat} {B:List Sg} (h:Dir cn room s r f L rd k B) (hk:KOk r' f L rd' k) (h1:r'.kept=r.kept) (h2:rd.length≤rd'.length):Dir cn room s r' f L rd' k B:=by
 have hn:nowSt r' f L k=nowSt r f L k:=by unfold nowSt;rw [h1]
 obtain ⟨st0,hc,hT⟩:=h.chain
 refine ⟨hk,⟨st0,by rw [hn];exact hc.mono (St.le_refl _) fun p st _ g=>g.grow (by omega),hT.grow (by omega)⟩,h.fls,h.ends,?_⟩
 rw [hn]
 exact h.win.imp (fun g=>by omega) id
theorem Dir.send {cn room:Int} {s s' r:E} {f:Int} {L:List Msg} {rd:List UInt8} {k:Nat} {B:List Sg} (h:Dir cn room s r f L rd k B) (h1:s'.flight=s.flight) (h2:s'.acked=s.acked) (h3:s'.window=s.window) (h4:s'.done=s.done) (h5:s'.state=s.state) (h6:s'.ended=s.ended):Dir cn room s' r f L rd k B:=by
 obtain ⟨st0,hc,hT⟩:=h.chain
 exact ⟨h.kk,⟨st0,hc,hT.of h1 h3⟩,h.fls.of h1 h2,h.ends.of h1 h4 h5 h6,h.win⟩
theorem KOk.read {e:E} {f:Int} {L:List Msg} {rd:List UInt8} {k:Nat} (h:KOk e f L rd k) (most:Int):KOk (readS most e) f L (rd++readOut most e) k:=by
 have hsp:readOut most e++e.ready.drop (readN most e)=e.ready:=List.take_append_drop _ _
 refine ⟨h.nodup,?_⟩
 rcases h.got with ⟨g0,g1,g2,g3,g4,g5⟩|⟨hG,g⟩
 ·refine .inl ⟨g0,g1,?_,?_,g4,g5⟩
  ·show e.ready.drop _=[]
   rw [g2];simp
  ·unfold readOut
   rw [g3,g2];simp
 ·refine .inr ⟨⟨hG.le,hG.base,?_,hG.ended,hG.kept⟩,g⟩
  show (rd++readOut most e)++e.ready.drop _=_
  rw [List.append_assoc,hsp]
  exact hG.text
theorem rd0_eq {s:PS} {W:Nat} (most:Int) (hat:(s.e W).now≤s.now∧s.now≤1000000000):rd0 s W most={s with e:=upd s.e W (readS most {s.e W with now:=s.now}),read:=upd s.read W (s.read W++readOut most {s.e W with now:=s.now})}:=by
 have h1:arrT s W 0={s.e W with now:=s.now}:=by
  unfold arrT takeR
  rw [if_pos (atR_ok hat),arrN_zero]
  rfl
 unfold rd0 arriveR
 rw [h1,arrN_zero,List.drop_zero,upd_id]
theorem AInv.rd {s:PS} {f:Nat→Int} {conn room limit:Int} {L:Nat→List Msg} {c:Nat} {k:Nat→Nat} (h:AInv s f conn room limit L c k) (hc:1≤c∧c≤9000) (ht:s.now≤1000000000) {W:Nat} (hW:W<2) (hwl:(s.way (1 - W)).length≤500000) (most:Int):AInv (rd0 s W most) f conn room limit L c k:=by
 have hV:1 - W<2:=by omega
 have hVV:1 - (1 - W)=W:=by omega
 have hWV:W≠1 - W:=by omega
 have hF:=h.base.fix W hW
 have hat:(s.e W).now≤s.now∧s.now≤1000000000:=⟨hF.now.2,ht⟩
 have heq:=rd0_eq (s:=s) (W:=W) most hat
 have hD2:=h.dir _ hV
 rw [hVV] at hD2
 have heW:(rd0 s W most).e W=readS most {s.e W with now:=s.now}:=by rw [heq];exact upd_self
 have heV:(rd0 s W most).e (1 - W)=s.e (1 - W):=by rw [heq];exact upd_ne (fun g=>hWV g.symm)
 have hrW:(rd0 s W most).read W=s.read W++readOut most {s.e W with now:=s.now}:=by rw [heq];exact upd_self
 have hrV:(rd0 s W most).read (1 - W)=s.read (1 - W):=by rw [heq];exact upd_ne (fun g=>hWV g.symm)
 have hway:(rd0 s W most).way=s.way:=by rw [heq]
 refine ⟨?_,h.par,by rw [heq];exact h.num,fun V hV2=> ?_,fun V hV2=> ?_,fun g=> ?_⟩
 ·refine (h.base.arriveG (by rw [h.num];exact h.par) hc.2 ht hW 0 most (by omega) hwl).2.2 ?_
  have:arrT s W 0={s.e W with now:=s.now}:=by
   unfold arrT takeR
   rw [if_pos (atR_ok hat),arrN_zero]
   rfl
  rw [this]
  exact h.base.keptn W hW
 ·rw [hway]
  by_cases hVW:V=W
  ·subst hVW
   rw [heW,heV,hrV]
   exact (h.dir V hV2).send rfl rfl rfl rfl rfl rfl
  ·have hV1:V=1 - W:=by omega
   subst hV1
   rw [hVV,heW,heV,hrW]
   have hk0:KOk {s.e W with now:=s.now} (f (1 - W)) (L (1 - W)) (s.read W) (k (1 - W)):=hD2.kk.of rfl rfl rfl rfl (.inl rfl)
   exact hD2.recv (hk0.read most) rfl (by rw [List.length_append];omega)
 ·by_cases hVW:V=W
  ·subst hVW;rw [heW];exact h.st5 V hV2
  ·have hV1:V=1 - W:=by omega
   subst hV1
   rw [heV];exact h.st5 _ hV
 ·rw [hway]
  rcases (by omega:W=0∨W=1) with rfl|rfl
  ·have heV:(rd0 s 0 most).e 1=s.e 1:=heV
   rw [heV] at g
   rw [heW];exact h.begun g
  ·have heV:(rd0 s 1 most).e 0=s.e 0:=heV
   rw [heW] at g
   rw [heV];exact h.begun g
theorem AInv.later {s:PS} {f:Nat→Int} {conn room limit:Int} {L:Nat→List Msg} {c:Nat} {k:Nat→Nat} (h:AInv s f conn room limit L c k) (t:Int) (ht:0≤t):AInv {s with now:=s.now+t} f conn room limit L c k:=
 ⟨h.base.later t ht,h.par,h.num,h.dir,h.st5,h.begun⟩
theorem AInv.putE {s s':PS} {f:Nat→Int} {conn room limit:Int} {L:Nat→List Msg} {c c':Nat} {k:Nat→Nat} (h:AInv s f conn room limit L c k) {W:Nat} (hW:W<2) {e':E} (hb:PInv s' f conn room limit L c') (g1:s'.e=upd s.e W e') (g3:s'.way=s.way) (g4:s'.read=s.read) (g6:s'.numbers=s.numbers)
  (h1:e'.flight=(s.e W).flight) (h2:e'.acked=(s.e W).acked) (h3:e'.window=(s.e W).window) (h4:e'.done=(s.e W).done) (h5:e'.state=(s.e W).state) (h6:e'.ended=(s.e W).ended) (h7:e'.base=(s.e W).base) (h8:e'.ready=(s.e W).ready) (h9:e'.kept=(s.e W).kept) (h10:e'.replies=(s.e W).replies):AInv s' f conn room limit L c' k:=by
 have hV:1 - W<2:=by omega
 have hVV:1 - (1 - W)=W:=by omega
 have hWV:W≠1 - W:=by omega
 refine ⟨hb,h.par,by rw [g6];exact h.num,fun V hV2=> ?_,fun V hV2=> ?_,fun g=> ?_⟩
 ·rw [g1,g3,g4]
  by_cases hVW:V=W
  ·subst hVW
   rw [upd_self,upd_ne (fun g=>hWV g.symm)]
   exact (h.dir V hV2).send h1 h2 h3 h4 h5 h6
  ·have hV1:V=1 - W:=by omega
   subst hV1
   rw [hVV,upd_self,upd_ne (fun g=>hWV g.symm)]
   have hD2:=h.dir _ hV
   rw [hVV] at hD2
   exact hD2.recv (hD2.kk.of h7 h8 h9 h6 (.inl h5)) h9 (Nat.le_refl _)
 ·rw [g1]
  by_cases hVW:V=W
  ·subst hVW;rw [upd_self,h5,h10];exact h.st5 V hV2
  ·rw [upd_ne hVW];exact h.st5 V hV2
 ·rw [g1] at g ⊢
  rw [g3]
  rcases (by omega:W=0∨W=1) with rfl|rfl
  ·rw [upd_self,h5]
   exact h.begun g
  ·rw [upd_self,h5] at g
   exact h.begun g
theorem AInv.write {s:PS} {f:Nat→Int} {conn room limit:Int} {L:Nat→List Msg} {c:Nat} {k:Nat→Nat} (h:AInv s f conn room limit L c k) (hT:s.now≤1000000000) {W:Nat} (hW:W<2) (t:List UInt8) (ht:t.length≤300) (hw:(s.wrote 0).length+(s.wrote 1).length≤3000):AInv (writeS s W t) f conn room limit L (c+1) k:=by
 have hb:=(h.base.write hT hW t ht hw).2
 have hs:(writeR (s.e W) s.now t).2.flight=(s.e W).flight∧(writeR (s.e W) s.now t).2.acked=(s.e W).acked∧(writeR (s.e W) s.now t).2.window=(s.e W).window∧(writeR (s.e W) s.now t).2.done=(s.e W).done∧(writeR (s.e W) s.now t).2.state=(s.e W).state∧(writeR (s.e W) s.now t).2.ended=(s.e W).ended∧(writeR (s.e W) s.now t).2.base=(s.e W).base∧(writeR (s.e W) s.now t).2.ready=(s.e W).ready∧(writeR (s.e W) s.now t).2.kept=(s.e W).kept∧(writeR (s.e W) s.now t).2.replies=(s.e W).replies:=by
  unfold writeR
  split
  ·split
   ·split<;> exact ⟨rfl,rfl,rfl,rfl,rfl,rfl,rfl,rfl,rfl,rfl⟩
   ·exact ⟨rfl,rfl,rfl,rfl,rfl,rfl,rfl,rfl,rfl,rfl⟩
  ·exact ⟨rfl,rfl,rfl,rfl,rfl,rfl,rfl,rfl,rfl,rfl⟩
 obtain ⟨a1,a2,a3,a4,a5,a6,a7,a8,a9,a10⟩:=hs
 exact h.putE hW hb rfl rfl rfl rfl a1 a2 a3 a4 a5 a6 a7 a8 a9 a10
theorem AInv.close {s:PS} {f:Nat→Int} {conn room limit:Int} {L:Nat→List Msg} {c:Nat} {k:Nat→Nat} (h:AInv s f conn room limit L c k) (hT:s.now≤1000000000) {W:Nat} (hW:W<2):AInv (closeS s W) f conn room limit L (c+1) k:=by
 have hb:=h.base.close hT hW
 have hs:(closeR (s.e W) s.now).2.flight=(s.e W).flight∧(closeR (s.e W) s.now).2.acked=(s.e W).acked∧(closeR (s.e W) s.now).2.window=(s.e W).window∧(closeR (s.e W) s.now).2.done=(s.e W).done∧(closeR (s.e W) s.now).2.state=(s.e W).state∧(closeR (s.e W) s.now).2.ended=(s.e W).ended∧(closeR (s.e W) s.now).2.base=(s.e W).base∧(closeR (s.e W) s.now).2.ready=(s.e W).ready∧(closeR (s.e W) s.now).2.kept=(s.e W).kept∧(closeR (s.e W) s.now).2.replies=(s.e W).replies:=by
  unfold closeR
  split
  ·split<;> exact ⟨rfl,rfl,rfl,rfl,rfl,rfl,rfl,rfl,rfl,rfl⟩
  ·exact ⟨rfl,rfl,rfl,rfl,rfl,rfl,rfl,rfl,rfl,rfl⟩
 obtain ⟨a1,a2,a3,a4,a5,a6,a7,a8,a9,a10⟩:=hs
 exact h.putE hW hb rfl rfl rfl rfl a1 a2 a3 a4 a5 a6 a7 a8 a9 a10
theorem way_all {W:Nat}:∀(l:List Sg) {a:PS},a.numbers=[]→(l.foldl (sendOne W) a).way W=a.way W++l
 |[],a,_=>by simp
 | p::l,a,hn=>by
  have hf:fateR a.numbers a.pos=1:=by unfold fateR;rw [hn];rfl
  have h1:sendOne W a p={a with pos:=a.pos+1,way:=upd a.way W (a.way W++[p])}:=by
   unfold sendOne
   rw [hf,if_neg (by omega)]
   rfl
  rw [List.foldl_cons,h1,way_all l (a:={a with pos:=a.pos+1,way:=upd a.way W (a.way W++[p])}) hn]
  show upd a.way W (a.way W++[p]) W++l=_
  rw [upd_self]
  simp
theorem PkSt.growL {cn f:Int} {L L':List Msg} {R:Int} {p:Sg} {st:St} (h:PkSt cn f L R p st) (hp:L <+: L') (hlt:∀i,st.acc i=true→i<L.length):PkSt cn f L' R p st:=
 ⟨h.kp,by rw [accB_pre hp hlt];exact h.win,h.conn,h.k5,h.ack⟩
theorem nowSt_grow {r:E} {f:Int} {L L':List Msg} {k:Nat} (hp:L <+: L'):(nowSt r f L k).le (nowSt r f L' k):=by
 obtain ⟨X,rfl⟩:=hp
 refine ⟨Nat.le_refl _,fun i hi=>nowSt_acc.2 ?_⟩
 rcases nowSt_acc.1 hi with g|⟨g1,g2⟩
 ·exact .inl g
 ·exact .inr ⟨by rw [List.length_append];omega,g2⟩
theorem AInv.send {s:PS} {f:Nat→Int} {conn room limit:Int} {L:Nat→List Msg} {c:Nat} {k:Nat→Nat} (h:AInv s f conn room limit L c k) (hc:c≤9000) (ht:s.now≤1000000000) {W:Nat} (hW:W<2) (hov:(over2 {s.e W with now:=s.now}).state≠5):
  SendOk s W limit∧(sendS s W).now=s.now∧(sendS s W).read=s.read∧(sendS s W).wrote=s.wrote∧(sendS s W).e=upd s.e W (send1 (over2 {s.e W with now:=s.now})).1∧(sendS s W).way=upd s.way W (s.way W++(send1 (over2 {s.e W with now:=s.now})).2)∧
  ∃L' acc,AInv (sendS s W) f conn room limit (upd L W L') (c+1) k∧SendA (s.e W) (f W) (L W) (s.wrote W) acc (room+(s.read (1 - W)).length) s.now (send1 (over2 {s.e W with now:=s.now})).1 (send1 (over2 {s.e W with now:=s.now})).2 L'∧((s.e W).state≠0→Blk (send1 (over2 {s.e W with now:=s.now})).1):=by
 have hV:1 - W<2:=by omega
 have hVV:1 - (1 - W)=W:=by omega
 have hWV:W≠1 - W:=by omega
 have hF:=h.base.fix W hW
 have hB:=h.base.both W hW
 have hat:=h.base.at_ ht hW
 have hn:=h.base.now
 have hlen:=h.base.len hW
 have hpar:=h.par
 have hr:=hpar.room
 have hf:=hpar.f W hW
 have hs5:=h.st5 W hW
 have hR:sendR (s.e W) s.now=(0,send1 (over2 {s.e W with now:=s.now})):=by unfold sendR;rw [if_pos hat]
 obtain ⟨b1,b2,b3,L1,b4,b5⟩:=h.base.sendL (by rw [h.num];exact hpar) hc ht hW
 have hD:=h.dir W hW
 have hD2:=h.dir _ hV
 rw [hVV] at hD2
 obtain ⟨st0,hch,hT0⟩:=hD.chain
 have hkk:=hD.kk.inf.le
 have hrng:Rng {s.e W with now:=s.now}:=⟨by show 0≤(s.e W).conn∧_;rw [hF.conn];exact hpar.conn,by show 0≤(s.e W).room∧(s.e W).room≤_;rw [hF.room];omega,hB.rcv.base,hn⟩
 obtain ⟨L',hA,hBl⟩:=sent_A (acc:=st0.acc) (accN:=(nowSt (s.e (1 - W)) (f W) (L W) (k W)).acc) (R:=room+(s.read (1 - W)).length) (now:=s.now) hrng hT0 hch.fin_le.acc hf (by omega) hB.snd hD.fls ⟨hB.snd.fl,hD.ends.gone,hD.ends.done⟩ hD.ends.sent hD.win (h.base.lostW W hW) hs5.1 hs5.2.1 hov
 have hws:=WayP.all W (send1 (over2 {s.e W with now:=s.now})).2 {s with e:=upd s.e W (send1 (over2 {s.e W with now:=s.now})).1}
 have hss:sendS s W=(send1 (over2 {s.e W with now:=s.now})).2.foldl (sendOne W) {s with e:=upd s.e W (send1 (over2 {s.e W with now:=s.now})).1}:=by unfold sendS;rw [hR]
 have hwy:=way_all (W:=W) (send1 (over2 {s.e W with now:=s.now})).2 (a:={s with e:=upd s.e W (send1 (over2 {s.e W with now:=s.now})).1}) h.num
 have hlow:=(sent_P (a:=s.e W) (f:=f W) (now:=s.now) (L:=L W) (w:=s.wrote W) hf (by omega) (by rw [hF.conn];exact hpar.conn) (by rw [hF.room];omega) hB.rcv.base hn hB.snd (h.base.lostW W hW)).low
 rw [← hss] at hws hwy
 generalize (send1 (over2 {s.e W with now:=s.now})).1=b at*
 generalize (send1 (over2 {s.e W with now:=s.now})).2=o at*
 clear hss hR
 have hde:(sendS s W).e=upd s.e W b:=hws.e
 have hdw:(sendS s W).wrote=s.wrote:=hws.wrote
 have hdr:(sendS s W).read=s.read:=hws.read
 have hdo:∀V,V≠W→(sendS s W).way V=s.way V:=hws.other
 have hwy:(sendS s W).way W=s.way W++o:=hwy
 have hway:(sendS s W).way=upd s.way W (s.way W++o):=by
  funext V
  by_cases hVW:V=W
  ·subst hVW;rw [upd_self];exact hwy
  ·rw [upd_ne hVW];exact hdo V hVW
 have heW:(sendS s W).e W=b:=by rw [hde,upd_self]
 have heV:(sendS s W).e (1 - W)=s.e (1 - W):=by rw [hde,upd_ne (fun g=>hWV g.symm)]
 have hL1:L1=L':=by
  rw [heW] at b4
  exact List.append_cancel_right (b4.trans hA.tot.symm)
 subst hL1
 obtain ⟨bw,bfl,bn,bc,bg,bst,bou,hbe,hbs⟩:=hA.of_
 refine ⟨b1,b3,hdr,hdw,hde,hway,L1,_,⟨b5,hpar,by rw [b2];exact h.num,fun V hV2=> ?_,fun V hV2=> ?_,fun g=> ?_⟩,hA,hBl⟩
 ·rw [hdr]
  by_cases hVW:V=W
  ·subst hVW
   rw [heW,heV,hdo (1 - V) (fun g=>hWV g.symm),upd_self]
   have hfin:=nowSt_grow (r:=s.e (1 - V)) (f:=f V) (k:=k V) hA.pre
   have hlt0:=hch.lt hkk
   refine ⟨hD.kk.mono hA.pre,⟨st0,hch.mono hfin fun p st hst g=>g.growL hA.pre fun i hi=>nowSt_lt hkk (hst.acc i hi),⟨fun i hi hx=> ?_,?_,fun i hi=> ?_⟩⟩,hA.fls,⟨hA.endp.gone,hA.endp.done,hA.sent,?_,?_⟩,?_⟩
   ·rcases Nat.lt_or_ge i (L V).length with g|g
    ·exact hT0.gone i g fun hm=>hx (hA.mem _ hm)
    ·exact absurd (hA.new i g hi) hx
   ·rw [accB_pre hA.pre hlt0,hbe]
    exact hT0.wd
   ·have:=hlt0 i hi
    have:=hA.pre.length_le
    omega
   ·rintro ⟨g1,g2,g3⟩
    rw [hbe] at g1 g2 g3
    have g1:bst=3:=g1
    have g2:(s.e V).ended=true:=g2
    have g3:(s.e V).done=true:=g3
    obtain ⟨i,m,hi,hk4⟩:=hD.ends.done g3
    rcases hD.ends.sent i m hi hk4 with g4|g4
    ·exact hD.ends.not3 ⟨g4,g2,g3⟩
    ·omega
   ·intro g
    rw [hbe] at g ⊢
    have g:bst=4:=g
    exact hD.ends.four (by omega)
   ·refine hA.win.imp id fun g i hi=>hfin.acc i (g i hi)
  ·have hV1:V=1 - W:=by omega
   subst hV1
   rw [hVV,heW,heV,hwy,upd_ne (fun g=>hWV g.symm)]
   have hbk:b.base=(s.e W).base∧b.ready=(s.e W).ready∧b.kept=(s.e W).kept∧b.ended=(s.e W).ended:=by rw [hbe];exact ⟨rfl,rfl,rfl,rfl⟩
   have hbst:b.state=bst:=by rw [hbe]
   have hK':KOk b (f (1 - W)) (L (1 - W)) (s.read W) (k (1 - W)):=hD2.kk.of hbk.1 hbk.2.1 hbk.2.2.1 hbk.2.2.2 (by rw [hbst];omega)
   have hn2:nowSt b (f (1 - W)) (L (1 - W)) (k (1 - W))=nowSt (s.e W) (f (1 - W)) (L (1 - W)) (k (1 - W)):=by unfold nowSt;rw [hbk.2.2.1]
   have hKi:=hD2.kk.inf
   have hle2:=h.base.len hV
   have hby:=hKi.bytes (by omega)
   have htx:=congrArg List.length hD2.kk.text
   rw [List.length_append] at htx
   have hro:=hB.rcv.room
   obtain ⟨sv,hcv,hTv⟩:=hD2.chain
   refine ⟨hK',⟨sv,?_,hTv⟩,hD2.fls,hD2.ends,by rw [hn2];exact hD2.win⟩
   rw [hn2]
   refine Chn.append (fun p hp=> ?_) hcv
   obtain ⟨a1,a2,a3,a4,a5,a6,_⟩:=hA.outs p hp
   refine ⟨fun i hi=>nowSt_acc.2 (.inl hi),?_,a1.trans hF.conn,a5,fun hk=> ?_⟩
   ·rw [a2,hby]
    unfold spaceR
    rw [hF.room] at hro ⊢
    omega
   ·have hz:(s.e W).state≠0:=fun g=>by
     have:=hA.zero g
     rw [this] at hp
     cases hp
    have h1:(s.e W).state≠1:=fun g=>by
     rcases (by omega:W=0∨W=1) with rfl|rfl
     ·obtain ⟨_,_,_,_,a5',a6'⟩:=h.base.start g
      have:=(hlow g a5' a6').1 p hp
      omega
     ·exact h.base.st0.2 g
    rcases hD2.kk.got with ⟨_,_,_,_,_,g⟩|⟨hG,_⟩
    ·omega
    ·refine ⟨by rw [a3,hG.base];rfl,fun y hy=> ?_⟩
     rw [a4] at hy
     obtain ⟨n,hn1,rfl⟩:=marks_far hy
     obtain ⟨x,hx,hxn⟩:=List.mem_map.1 hn1
     obtain ⟨j,g1,g2,g3,g4,_⟩:=hG.kept x hx
     have hjl:=(List.getElem?_eq_some_iff.1 g3).1
     refine ⟨j,?_,nowSt_acc.2 (.inr ⟨hjl,keyP_true.2 ⟨x,hx,g4⟩⟩)⟩
     rw [← hxn,g4,hG.base]
     show ((k (1 - W):Nat):Int) - 1+_=_
     omega
 ·by_cases hVW:V=W
  ·subst hVW
   rw [heW,hbe]
   refine ⟨?_,hs5.2.1,?_,?_⟩
   ·show bst≠5;omega
   ·show 0≤bst;omega
   ·show bst≤5;omega
  ·have hV1:V=1 - W:=by omega
   subst hV1
   rw [heV];exact h.st5 _ hV
 ·rcases (by omega:W=0∨W=1) with rfl|rfl
  ·have heV:(sendS s 0).e 1=s.e 1:=heV
   rw [heV] at g
   obtain ⟨g1,g2⟩:=h.begun g
   rw [heW,hdo 1 (by omega)]
   have:b.state=bst:=by rw [hbe]
   exact ⟨by omega,g2⟩
  ·have heV:(sendS s 1).e 0=s.e 0:=heV
   rw [heW] at g
   have hb0:b.state=bst:=by rw [hbe]
   have hz:(s.e 1).state=0:=by omega
   obtain ⟨g1,g2⟩:=h.begun hz
   rw [heV,hwy,g2,hA.zero hz]
   exact ⟨g1,rfl⟩
end Go.Proofs.Ytdgmcckfdgnicaa
