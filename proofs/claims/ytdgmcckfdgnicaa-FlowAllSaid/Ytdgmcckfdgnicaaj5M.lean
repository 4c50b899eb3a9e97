/-
  A part of the proof of a statement of this seat.
-/
import Derived.Test.Ytdgmcckfdgnicaaj3M
set_option linter.unusedVariables false
set_option linter.unusedSimpArgs false
set_option maxRecDepth 20000
namespace Go.Proofs.Ytdgmcckfdgnicaa
open Go Go.Aw Go.Proofs
def PhA (s:PS) (W a:Nat):Prop:=(a=0∧spaceR (s.e (1 - W))≤(s.e W).window)∨a=2
def PhB (s:PS) (W b:Nat):Prop:=(b=0∧∀q∈s.way W,q.kind=3)∨b=1
def Ripe (s:PS):Prop:=∀W,W<2→s.way W=[]∧∀p∈(s.e W).flight,p.lost=false→p.sent≤s.now - 60250
def Rk (s:PS) (f:Nat→Int) (L:Nat→List Msg) (k:Nat→Nat) (r:Nat):Prop:=
 (r=1∧∃W,W<2∧Pend2 s f L W)∨(r=2∧∃W,W<2∧Pend1 s f L k W)∨(r=3∧Ripe s)∨
 ∃a0 b0 a1 b1,PhA s 0 a0∧PhB s 0 b0∧PhA s 1 a1∧PhB s 1 b1∧r=4+(a0+b0+(a1+b1))
def finS (s:PS):Prop:=(s.e 0).state≥4∧(s.e 1).state≥4∧s.way 0=[]∧s.way 1=[]
section
variable {s m z:PS} {f:Nat→Int} {conn room limit:Int} {L L':Nat→List Msg} {k k':Nat→Nat} {c:Nat} {t o:Nat→List Sg}
theorem Rk.top:Rk s f L k 10:= .inr (.inr (.inr ⟨2,1,2,1,.inr rfl,.inr rfl,.inr rfl,.inr rfl,rfl⟩))
theorem phi_next (h:ST s f conn room limit L c k) (hT:Tn s m f conn room limit L c k k' t) (hS:Sn m z f conn room limit L L' (c+2) k' o) {W:Nat} (hW:W<2) (hfl:(m.e W).flight=(s.e W).flight) (hk:k' W=k W) (hA:OvA (m.e W) m.now) {a b:Nat} (ha:PhA s W a) (hb:PhB s W b):
  ∃a' b',PhA z W a'∧PhB z W b'∧(a'+b'<a+b∨(a'+b'≤a+b∧ (∀ q∈s.way W,q.kind=3)∧Blk (m.e W))):=by
 have hV:1 - W<2:=by omega
 have hsp:=space_le h hT hW hk
 have hz1:=(hS.keep hV).1
 have hz2:=(hS.keep hW).2.1
 have hway:z.way W=o W:=by rw [hS.way W hW,(h.t_eq hT hW).2];rfl
 have hwin:=(hT.tw W hW).win
 have fin:∀a',PhA z W a'→a'≤a→Blk (m.e W)→∃a' b',PhA z W a'∧PhB z W b'∧(a'+b'<a+b∨(a'+b'≤a+b∧ (∀ q∈s.way W,q.kind=3)∧Blk (m.e W))):=fun a' h1 h2 hB=>by
  refine ⟨a',0,h1,.inl ⟨rfl,by rw [hway];exact (still_out hT hS hW hA hB).1⟩,?_⟩
  rcases hb with ⟨g1,g2⟩|g
  ·exact .inr ⟨by omega,g2,hB⟩
  ·left;omega
 cases hg:(t W).getLast? with
 |none=>
  rw [hg] at hwin
  have hB:=blk_keep h hT hW hfl (by rw [hwin];exact Int.le_refl _)
  rcases ha with ⟨g1,g2⟩|g
  ·exact fin 0 (.inl ⟨rfl,by rw [hz1,hz2,hwin];dsimp only;omega⟩) (by omega) hB
  ·exact fin 2 (.inr rfl) (by omega) hB
 |some q=>
  rw [hg] at hwin
  dsimp only at hwin
  have hqm:=List.mem_of_getLast? hg
  rw [(h.t_eq hT hW).1] at hqm
  have hqw:=h.wins _ hV q hqm
  have hf:PhA z W 0:= .inl ⟨rfl,by rw [hz1,hz2,hwin,hqw];exact hsp⟩
  rcases ha with ⟨g1,g2⟩|g
  ·exact fin 0 hf (by omega) (blk_keep h hT hW hfl (by rw [hwin,hqw];exact g2))
  ·exact ⟨0,1,hf,.inr rfl,.inl (by omega)⟩
theorem ST.rank (h:ST s f conn room limit L c k) (hT:Tn s m f conn room limit L c k k' t) (hS:Sn m z f conn room limit L L' (c+2) k' o) (ht:s.now≤1000000000):
  finS z∨MM z<MM s∨∀r,Rk s f L k r→∃r',r'<r∧Rk (nextS z) f L' k' r':=by
 by_cases hp:∃W,W<2∧(m.e W).flight.length<(s.e W).flight.length
 ·obtain ⟨W,hW,g⟩:=hp
  exact .inr (.inl ((MM_le hT hS).2 W hW g))
 have hfl:∀W,W<2→(m.e W).flight=(s.e W).flight:=fun W hW=>by
  rcases (hT.tw W hW).fl with ⟨g,_⟩|⟨_,g⟩
  ·exact g
  ·exact absurd ⟨W,hW,g⟩ hp
 have hway:∀W,W<2→z.way W=o W:=fun W hW=>by rw [hS.way W hW,(h.t_eq hT hW).2];rfl
 by_cases hB:∃W,W<2∧OvB (m.e W) m.now
 ·obtain ⟨W,hW,hB⟩:=hB
  have hP:=timeout_pend1 h hT hS hW hB
  right;right
  intro r hr
  rcases hr with ⟨_,V,hV,g⟩|⟨g0,V,hV,g⟩|⟨g0,g⟩|⟨a0,b0,a1,b1,_,_,_,_,g0⟩
  ·have:=(g.prog h hT hV).2
   exact absurd ⟨V,hV,this⟩ hp
  ·exact ⟨1,by omega,.inl ⟨rfl,V,hV,g.next h hT hS hV (hfl V hV)⟩⟩
  ·exact ⟨2,by omega,.inr (.inl ⟨rfl,W,hW,hP⟩)⟩
  ·exact ⟨2,by omega,.inr (.inl ⟨rfl,W,hW,hP⟩)⟩
 have hA:∀W,W<2→OvA (m.e W) m.now:=fun W hW=>by
  rcases h.ov hT ht hW with g|g
  ·exact g
  ·exact absurd ⟨W,hW,g⟩ hB
 by_cases hr:Ripe s
 ·-- nothing is under way:all is done
  left
  have hlost:∀W,W<2→∀p∈(s.e W).flight,p.lost=true:=fun W hW p hp=>by
   cases g:p.lost with
   |true=>rfl
   | false=>
    exfalso
    obtain ⟨q,hq,hql,hqs⟩:=(hA W hW).2 p (by rw [hfl W hW];exact hp) g
    rw [hfl W hW] at hq
    have h1:=(hr W hW).2 q hq hql
    have h2:=hT.now.1
    have ho:(m.e W).outs≤5:=by
     have h6:=hT.sv.a.base.fix W hW
     have:=hT.sv.a.st5 W hW
     exact h6.outs.2 this.1
    have:=(waitR_eq (e:=m.e W) (hT.sv.x.out W hW) ho)
    omega
  have hid:∀W,W<2→(s.e W).flight=[]∧(s.e W).waiting=[]:=fun W hW=>h.sv.idle hW (h.blk W hW) (hlost W hW) h.heard
  have h4:=h.sv.four (fun W hW=>(hid W hW).1) (fun W hW=>(hid W hW).2)
  have key:∀W,W<2→(z.e W).state≥4∧z.way W=[]:=fun W hW=>by
   have hV:1 - W<2:=by omega
   have htw:=hT.tw W hW
   have htn:t W=[]:=by rw [(h.t_eq hT hW).1];exact (hr _ hV).1
   have hwin:=htw.win
   rw [htn] at hwin
   have hans:(m.e W).answer=false:=by rw [htw.ans3 (by rw [htn];simp)];exact h.ans W hW
   have hBm:=blk_keep h hT hW (hfl W hW) (by rw [hwin];exact Int.le_refl _)
   refine ⟨?_,by rw [hway W hW];exact (still_out hT hS hW (hA W hW) hBm).2 hans⟩
   have h5:=h4 W hW
   have h6:=(hS.keep hW).2.2.2.1
   have h7:=htw.state
   omega
  exact ⟨(key 0 (by omega)).1,(key 1 (by omega)).1,(key 0 (by omega)).2,(key 1 (by omega)).2⟩
 right;right
 intro r hrk
 rcases hrk with ⟨_,V,hV,g⟩|⟨g0,V,hV,g⟩|⟨g0,g⟩|⟨a0,b0,a1,b1,x0,y0,x1,y1,g0⟩
 ·have:=(g.prog h hT hV).2
  exact absurd ⟨V,hV,this⟩ hp
 ·exact ⟨1,by omega,.inl ⟨rfl,V,hV,g.next h hT hS hV (hfl V hV)⟩⟩
 ·exact absurd g hr
 ·by_cases hk:∃W,W<2∧k' W≠k W
  ·obtain ⟨W,hW,hk⟩:=hk
   have hV:1 - W<2:=by omega
   have hVV:1 - (1 - W)=W:=by omega
   have htw:=hT.tw _ hV
   have hmo:=htw.kmono
   have hka:=htw.kans
   rw [hVV] at hmo hka
   have hle:=(hT.sv.a.dir W hW).kk.inf.le
   have han:(m.e (1 - W)).answer=true:=by
    rcases hka with q|q
    ·exact absurd q hk
    ·exact q
   have hin:f W+((k W:Nat):Int)∈nums (s.e W):=by
    by_cases q:f W+((k W:Nat):Int)∈nums (s.e W)
    ·exact q
    ·have:=h.sv.gone hW (by omega:k W<(L W).length) q
     omega
   exact ⟨1,by omega,.inl ⟨rfl,W,hW,pend2_next h hT hS hW (hfl W hW) han hin (by omega)⟩⟩
  ·have hke:∀W,W<2→k' W=k W:=fun W hW=>by
    by_cases g:k' W=k W
    ·exact g
    ·exact absurd ⟨W,hW,g⟩ hk
   obtain ⟨a2,b2,u1,u2,u3⟩:=phi_next h hT hS (W:=0) (by omega) (hfl 0 (by omega)) (hke 0 (by omega)) (hA 0 (by omega)) x0 y0
   obtain ⟨a3,b3,v1,v2,v3⟩:=phi_next h hT hS (W:=1) (by omega) (hfl 1 (by omega)) (hke 1 (by omega)) (hA 1 (by omega)) x1 y1
   have four:a2+b2+(a3+b3)<a0+b0+(a1+b1)→∃r',r'<r∧Rk (nextS z) f L' k' r':=fun g=>
    ⟨4+(a2+b2+(a3+b3)),by omega,.inr (.inr (.inr ⟨a2,b2,a3,b3,u1,u2,v1,v2,rfl⟩))⟩
   rcases u3 with u3|⟨u3,u4,u5⟩
   ·refine four ?_
    rcases v3 with v3|⟨v3,_⟩<;> omega
   ·rcases v3 with v3|⟨v3,v4,v5⟩
    ·exact four (by omega)
    ·-- all is quiet
     have q0:z.way 0=[]:=by
      rw [hway 0 (by omega)]
      refine (still_out hT hS (by omega) (hA 0 (by omega)) u5).2 ?_
      rw [(hT.tw 0 (by omega)).ans3 (by rw [(h.t_eq hT (by omega)).1];exact v4)]
      exact h.ans 0 (by omega)
     have q1:z.way 1=[]:=by
      rw [hway 1 (by omega)]
      refine (still_out hT hS (by omega) (hA 1 (by omega)) v5).2 ?_
      rw [(hT.tw 1 (by omega)).ans3 (by rw [(h.t_eq hT (by omega)).1];exact u4)]
      exact h.ans 1 (by omega)
     have hpa:pauseR z=60250:=by unfold pauseR;rw [if_pos ⟨q0,q1⟩]
     refine ⟨3,by omega,.inr (.inr (.inl ⟨rfl,fun W hW=> ⟨?_,fun p hp hl=> ?_⟩⟩))⟩
     ·rcases (by omega:W=0∨W=1) with rfl|rfl
      ·exact q0
      ·exact q1
     ·show p.sent≤z.now+pauseR z - 60250
      have:=(hS.sv.sent W hW p hp hl).2
      rw [hpa];omega
def Goes (limit:Int):Nat→PS→Prop
 |0,_=>False
 |n+1,s=>RoundOk s limit∧((finS (roundS s)∧∀W,W<2→DoneP (roundS s) W)∨ (¬ finS (roundS s)∧Goes limit n (nextS (roundS s))))
theorem finS_done {z:PS} {k:Nat→Nat} (h:SV z f conn room limit L c k) (ha:∀W,W<2→(z.e W).answer=false) (hf:finS z):∀W,W<2→DoneP z W:=by
 refine h.done ha (fun W hW=> ?_) (fun W hW=> ?_)
 ·rcases (by omega:W=0∨W=1) with rfl|rfl
  ·exact hf.2.2.1
  ·exact hf.2.2.2
 ·rcases (by omega:W=0∨W=1) with rfl|rfl
  ·exact hf.1
  ·exact hf.2.1
end
theorem ST.goes {f:Nat→Int} {conn room limit:Int}:∀(n:Nat) (s:PS) (L:Nat→List Msg) (k:Nat→Nat) (c r:Nat),ST s f conn room limit L c k→Rk s f L k r→12*MM s+r<n→1≤c→c+2*n≤9000→s.now+60250*n≤1000000000→Goes limit n s
 |0,s,L,k,c,r,h,hr,hn,hc,hc2,ht=>by omega
 | n+1,s,L,k,c,r,h,hr,hn,hc,hc2,ht=>by
  have hnow:s.now≤1000000000:=by omega
  obtain ⟨a0,s0,a1,s1,k',t,hT⟩:=h.sv.turn ⟨hc,by omega⟩ hnow (fun W hW=>by have:=h.ways W hW;omega)
  obtain ⟨o0,o1,L',o,hS⟩:=hT.sv.sendBoth (by omega) (by rw [hT.now.1];exact hnow) (fun W hW=>OvA.ne (h.ov hT hnow hW) (hT.sv.a.st5 W hW).1)
  have hR:RoundOk s limit:=⟨a0,s0,a1,s1,o0,o1⟩
  refine ⟨hR,?_⟩
  by_cases hf:finS (roundS s)
  ·exact .inl ⟨hf,finS_done hS.sv (fun W hW=>(hS.sw W hW).ans) hf⟩
  ·refine .inr ⟨hf,?_⟩
   have hN:=h.next hT hS hnow
   have hpr:=pauseR_rng (roundS s)
   have hzn:(nextS (roundS s)).now=s.now+pauseR (roundS s):=by
    show (roundS s).now+pauseR (roundS s)=_
    rw [show (roundS s).now=(turnS s).now from hS.now.1,hT.now.1]
   have hMM:MM (nextS (roundS s))=MM (roundS s):=rfl
   rcases h.rank hT hS hnow with g|g|g
   ·exact absurd g hf
   ·have g:MM (roundS s)<MM s:=g
    exact ST.goes n _ L' k' (c+2) 10 hN Rk.top (by rw [hMM];omega) (by omega) (by omega) (by rw [hzn];omega)
   ·obtain ⟨r',hr',hrk⟩:=g r hr
    have h2:=(MM_le hT hS).1
    have h2:MM (roundS s)≤MM s:=h2
    exact ST.goes n _ L' k' (c+2) r' hN hrk (by rw [hMM];omega) (by omega) (by omega) (by rw [hzn];omega)
end Go.Proofs.Ytdgmcckfdgnicaa

set_option linter.unusedVariables false
set_option linter.unusedSimpArgs false
set_option maxRecDepth 20000
namespace Go.Proofs.Ytdgmcckfdgnicaa
open Go Go.Aw Go.Proofs
structure PA (s:PS) (f:Nat→Int) (conn room limit:Int) (L:Nat→List Msg) (c:Nat) (k:Nat→Nat):Prop where
 sv:SV s f conn room limit L c k
 ti:∀W,W<2→TI (s.e W) s.now
section
variable {s m z:PS} {f:Nat→Int} {conn room limit:Int} {L L':Nat→List Msg} {k k':Nat→Nat} {c n:Nat} {t o:Nat→List Sg}
structure PR (s:PS) (f:Nat→Int) (conn room limit:Int) (L L':Nat→List Msg) (c:Nat) (k k':Nat→Nat) (t o:Nat→List Sg):Prop where
 ok:RoundOk s limit
 tn:Tn s (turnS s) f conn room limit L c k k' t
 sn:Sn (turnS s) (roundS s) f conn room limit L L' (c+2) k' o
 ti:∀W,W<2→TI ((roundS s).e W) s.now
 now:(roundS s).now=s.now
 way:∀W,W<2→(roundS s).way W=(s.way W).drop (arrN 1000 (s.way W))++o W
theorem PA.round (h:PA s f conn room limit L c k) (hc:1≤c∧c≤8998) (ht:s.now≤31000) (hw:∀W,W<2→(s.way W).length≤400000):∃L' k' t o,PR s f conn room limit L L' c k k' t o:=by
 obtain ⟨a0,s0,a1,s1,k',t,hT⟩:=h.sv.turn ⟨hc.1,by omega⟩ (by omega) hw
 have key:∀W,W<2→(over2 {(turnS s).e W with now:=(turnS s).now}).state≠5∧TI (send1 (over2 {(turnS s).e W with now:=(turnS s).now})).1 (turnS s).now:=fun W hW=>by
  have htw:=hT.tw W hW
  have hti:TI ((turnS s).e W) (turnS s).now:=by
   rw [hT.now.1]
   exact (h.ti W hW).sub htw.sents (by rcases htw.fl with ⟨_,g⟩|⟨g,_⟩;exact .inl g;exact .inr g)
  have hs5:=hT.sv.a.st5 W hW
  exact hti.send (hT.sv.x.out W hW) hs5.1 hs5.2.1 (by rw [hT.now.1];exact ht)
 obtain ⟨o0,o1,L',o,hS⟩:=hT.sv.sendBoth (by omega) (by rw [hT.now.1];omega) fun W hW=>(key W hW).1
 exact ⟨L',k',t,o,⟨a0,s0,a1,s1,o0,o1⟩,hT,hS,fun W hW=>by
  have:=(key W hW).2
  rw [← (hS.sw W hW).eq,hT.now.1] at this
  exact this,hS.now.1.trans hT.now.1,fun W hW=>by
  have a:=hS.way W hW
  rw [hT.way W hW] at a
  exact a⟩
theorem PR.goes (h:PR s f conn room limit L L' c k k' t o) (hn:¬finS (roundS s)→Goes limit n (nextS (roundS s))):Goes limit (n+1) s:=by
 refine ⟨h.ok,?_⟩
 by_cases hf:finS (roundS s)
 ·exact .inl ⟨hf,finS_done h.sn.sv (fun W hW=>(h.sn.sw W hW).ans) hf⟩
 ·exact .inr ⟨hf,hn hf⟩
theorem PR.st (h:PR s f conn room limit L L' c k k' t o) (hw:∀W,W<2→(roundS s).way W=o W∨(roundS s).way W=[]) (hh:((roundS s).e 1).heard=true):ST (nextS (roundS s)) f conn room limit L' (c+2) k':=by
 have hpr:=pauseR_rng (roundS s)
 have hmem:∀W,W<2→∀q∈(roundS s).way W,q∈o W:=fun W hW q hq=>by
  rcases hw W hW with g|g
  ·rw [← g];exact hq
  ·rw [g] at hq;cases hq
 refine ⟨h.sn.sv.later _ (by omega),fun W hW=> ?_,fun W hW=>(h.sn.sw W hW).ans,fun W hW=>(h.sn.sw W hW).blk,hh,fun W hW q hq=>((h.sn.sw W hW).acks q (hmem W hW q hq)).1,fun W hW q hq=>((h.sn.sw W hW).wins q (hmem W hW q hq)).trans (h.sn.keep hW).1.symm,fun W hW=> .inl (h.ti W hW).outs⟩
 show ((roundS s).way W).length≤1000
 have:=(h.sn.sw W hW).len
 rcases hw W hW with g|g
 ·rw [g];omega
 ·rw [g];simp
theorem PR.stGoes (h:PR s f conn room limit L L' c k k' t o) (hw:∀W,W<2→(roundS s).way W=o W∨(roundS s).way W=[]) (hh:((roundS s).e 1).heard=true) (hn:3490<n) (hc:c+2+2*n≤9000) (ht:s.now≤31000) (hn2:n≤4000):Goes limit (n+1) s:=
 h.goes fun _=>by
  have hS:=h.st hw hh
  have hpr:=pauseR_rng (roundS s)
  have htot:=hS.sv.tot
  have f0:=(hS.sv.a.base.len (by omega:0<2)).2.2
  have f1:=(hS.sv.a.base.len (by omega:1<2)).2.2
  refine hS.goes n _ L' k' (c+2) 10 Rk.top ?_ (by omega) (by omega) ?_
  ·unfold MM
   unfold totT at htot
   omega
  ·show (roundS s).now+pauseR (roundS s)+60250*(n:Int)≤_
   rw [h.now];omega
theorem PR.heard (h:PR s f conn room limit L L' c k k' t o) (hw:(s.way 0).length≤1000) (hh:(s.e 1).heard=true∨∃q∈s.way 0,Ackd q):((roundS s).e 1).heard=true:=by
 have htw:=h.tn.tw 1 (by omega)
 rw [(h.sn.keep (by omega:1<2)).2.2.1]
 rcases hh with g|⟨q,hq,g⟩
 ·exact htw.heardM g
 ·refine htw.heard q ?_ g
  rw [htw.tt,show s.way (1 - 1)=s.way 0 from rfl,(take_all hw).1]
  exact hq
theorem PR.x4 (h:PR s f conn room limit L L' c k k' t o):((roundS s).e 1).heard=true∨∃q∈(roundS s).way 0,Ackd q:=by
 have hO:=h.sn.sv.opn 0 (by omega)
 rcases h.sn.sv.x.x4 with g|g|g|g
 ·exact .inl g
 ·unfold Opn at hO;omega
 ·rw [(h.sn.sw 0 (by omega)).ans] at g;cases g
 ·exact .inr g
theorem PR.pa (h:PR s f conn room limit L L' c k k' t o) (hne:pauseR (roundS s)=250):PA (nextS (roundS s)) f conn room limit L' (c+2) k'∧(nextS (roundS s)).now=s.now+250:=by
 have hpr:=pauseR_rng (roundS s)
 refine ⟨⟨h.sn.sv.later _ (by omega),fun W hW=> ?_⟩,?_⟩
 ·show TI ((roundS s).e W) ((roundS s).now+pauseR (roundS s))
  rw [h.now]
  exact (h.ti W hW).later (by omega)
 ·show (roundS s).now+pauseR (roundS s)=_
  rw [h.now,hne]
theorem PR.wayO (h:PR s f conn room limit L L' c k k' t o) {W:Nat} (hW:W<2) (hw:(s.way W).length≤1000):(roundS s).way W=o W:=by
 rw [h.way W hW,(take_all hw).2];rfl
theorem PA.goes1 (h:PA s f conn room limit L c k) (hw:∀W,W<2→(s.way W).length≤1000) (hh:(s.e 1).heard=true∨∃q∈s.way 0,Ackd q) (hn:3490<n) (hc:1≤c∧c+2+2*n≤9000) (ht:s.now≤31000) (hn2:n≤4000):Goes limit (n+1) s:=by
 obtain ⟨L',k',t,o,hR⟩:=h.round ⟨hc.1,by omega⟩ ht fun W hW=>by have:=hw W hW;omega
 exact hR.stGoes (fun W hW=> .inl (hR.wayO hW (hw W hW))) (hR.heard (hw 0 (by omega)) hh) hn hc.2 ht hn2
theorem PA.goes2 (h:PA s f conn room limit L c k) (hw:∀W,W<2→(s.way W).length≤1000) (hn:3491<n) (hc:1≤c∧c+2+2*n≤9000) (ht:s.now≤30750) (hn2:n≤4000):Goes limit (n+1) s:=by
 obtain ⟨L',k',t,o,hR⟩:=h.round ⟨hc.1,by omega⟩ (by omega) fun W hW=>by have:=hw W hW;omega
 rcases hR.x4 with g|⟨q,hq,g⟩
 ·exact hR.stGoes (fun W hW=> .inl (hR.wayO hW (hw W hW))) g (by omega) hc.2 (by omega) hn2
 ·have hpa:pauseR (roundS s)=250:=by
   unfold pauseR
   rw [if_neg]
   rintro ⟨g0,_⟩
   rw [g0] at hq;cases hq
  refine hR.goes fun _=> ?_
  obtain ⟨p1,p2⟩:=hR.pa hpa
  have hn1:n=(n - 1)+1:=by omega
  rw [hn1]
  refine p1.goes1 (fun W hW=> ?_) (.inr ⟨q,hq,g⟩) (by omega) (by omega) (by omega) (by omega)
  show ((roundS s).way W).length≤1000
  have:=(hR.sn.sw W hW).len
  rw [hR.wayO hW (hw W hW)];omega
end
theorem PA.goes {f:Nat→Int} {conn room limit:Int}:∀(j n:Nat) (s:PS) (L:Nat→List Msg) (k:Nat→Nat) (c:Nat),PA s f conn room limit L c k→ (∀ W,W<2→(s.way W).length≤1000+708*j)→3491+j<n→1≤c→c+2+2*n≤9000→s.now+250*j≤30750→n≤4000→j≤500→Goes limit (n+1) s
 |0,n,s,L,k,c,h,hw,hn,hc,hc2,ht,hn2,hj=>h.goes2 (fun W hW=>by have:=hw W hW;omega) (by omega) ⟨hc,hc2⟩ (by omega) hn2
 | j+1,n,s,L,k,c,h,hw,hn,hc,hc2,ht,hn2,hj=>by
  obtain ⟨L',k',t,o,hR⟩:=h.round ⟨hc,by omega⟩ (by omega) fun W hW=>by have:=hw W hW;omega
  by_cases he:(roundS s).way 0=[]∧(roundS s).way 1=[]
  ·have hh:((roundS s).e 1).heard=true:=by
    rcases hR.x4 with g|⟨q,hq,_⟩
    ·exact g
    ·rw [he.1] at hq;cases hq
   exact hR.stGoes (fun W hW=>by
    rcases (by omega:W=0∨W=1) with rfl|rfl
    ·exact .inr he.1
    ·exact .inr he.2) hh (by omega) (by omega) (by omega) hn2
  ·have hpa:pauseR (roundS s)=250:=by unfold pauseR;rw [if_neg he]
   refine hR.goes fun _=> ?_
   obtain ⟨p1,p2⟩:=hR.pa hpa
   have hn1:n=(n - 1)+1:=by omega
   rw [hn1]
   refine PA.goes j (n - 1) _ L' k' (c+2) p1 (fun W hW=> ?_) (by omega) (by omega) (by omega) (by omega) (by omega) (by omega)
   show ((roundS s).way W).length≤1000+708*j
   have h1:=(hR.sn.sw W hW).len
   have h2:=hw W hW
   rw [hR.way W hW,List.length_append,List.length_drop]
   unfold arrN
   omega
end Go.Proofs.Ytdgmcckfdgnicaa
