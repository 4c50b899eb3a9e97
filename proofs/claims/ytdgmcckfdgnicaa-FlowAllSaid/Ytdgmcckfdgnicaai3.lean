/-
 FlowAll (plain): further facts that stand:acks,what is answered,the opening,the end.
-/
import Derived.Test.Ytdgmcckfdgnicaai1M
set_option linter.unusedVariables false
set_option linter.unusedSimpArgs false
set_option maxRecDepth 20000
namespace Go.Proofs.Ytdgmcckfdgnicaa
open Go Go.Aw Go.Proofs
def Ackd (p:Sg):Prop:=p.kind=2∨p.kind=3∨p.kind=4
def Lag (s r:E) (f:Int) (k:Nat) (B:List Sg):Prop:=s.acked=f+k - 1∨r.answer=true∨∃q∈B,Ackd q∧q.ack=(f+k - 1)%65536
structure XInv (s:PS) (f:Nat→Int) (L:Nat→List Msg) (k:Nat→Nat):Prop where
 ak:∀W,W<2→(s.e W).acked≤f W+k W - 1
 lag:∀W,W<2→Lag (s.e W) (s.e (1 - W)) (f W) (k W) (s.way (1 - W))
 x2:(s.e 0).state≠1→L 0≠[]∧∀x∈nums (s.e 0),f 0<x
 x3:∀W,W<2→((s.e W).state=3∨(s.e W).state=4)→∃(i:Nat) (m:Msg),(L W)[i]? =some m∧m.1=4
 x4:(s.e 1).heard=true∨(s.e 0).state=1∨(s.e 0).answer=true∨∃q∈s.way 0,Ackd q
 x5a:(s.e 0).state=1→L 0=[]∨((L 0).length=1∧∃fl,(s.e 0).flight=[fl]∧fl.number=f 0)
 x5b:(s.e 1).state=0→L 0=[]∨s.way 0≠[]
 x5c:(s.e 0).state=1→∀q∈s.way 1,q.ack=f 0%65536
 x5d:(s.e 0).state=1→(s.e 1).state≠0→1≤k 0
 x8:∀W,W<2→EndC (s.e (1 - W)) (L W) (k W)
 x7:∀W,W<2→(s.e W).closing=true→∃(i:Nat) (m:Msg),(L W++(s.e W).waiting.map msg)[i]? =some m∧m.1=4
 out:∀W,W<2→(s.e W).out=1000
theorem opn_of {e:E} (h0:e.state≠0) (h1:e.state≠1) (h5:e.state≠5) (hr:0≤e.state∧e.state≤5):Opn e:=by unfold Opn;omega
theorem XInv.tk {s:PS} {f:Nat→Int} {conn room limit:Int} {L:Nat→List Msg} {c:Nat} {k:Nat→Nat} (h:AInv s f conn room limit L c k) (x:XInv s f L k) (hc:1≤c∧c≤9000) (ht:s.now≤1000000000) {W:Nat} (hW:W<2) (hwl:(s.way (1 - W)).length≤500000) {p:Sg} {l:List Sg} (hw:s.way (1 - W)=p::l):
  ∃k',AInv (tk1 s W) f conn room limit L c (upd k (1 - W) k')∧XInv (tk1 s W) f L (upd k (1 - W) k')∧k (1 - W)≤k'∧ (∃ z,TkA {s.e W with now:=s.now} z p (f W) (L W) (f (1 - W)) (L (1 - W)) (s.read W) (k (1 - W))∧(tk1 s W).e W=closeT z)∧
  (∀ j:Nat,(L (1 - W))[j]? =some (p.kind,p.body)→p.seq=(f (1 - W)+j)%65536→(p.kind=2∨p.kind=4)→Opn (s.e W)→j≤k (1 - W)→(j=k (1 - W)→(p.body.length:Int)≤spaceR (s.e W))→j<k')∧
  (k'=k (1 - W)∨((tk1 s W).e W).answer=true)∧ (∃ st,PkSt conn (f W) (L W) (room+(s.read (1 - W)).length) p st∧st.kp≤k W):=by
 obtain ⟨k',hA',hkk,⟨z,hA,hz⟩,hpr,⟨st,hst,hkp⟩,hka,hec,hk1⟩:=h.tk hc ht hW hwl hw
 have hV:1 - W<2:=by omega
 have hVV:1 - (1 - W)=W:=by omega
 have hWV:W≠1 - W:=by omega
 have hat:(s.e W).now≤s.now∧s.now≤1000000000:=⟨(h.base.fix W hW).now.2,ht⟩
 have heq:=tk1_eq hW hw hat
 have hpm:p∈s.way (1 - W):=by rw [hw];exact List.mem_cons_self ..
 have heV:(tk1 s W).e (1 - W)=s.e (1 - W):=by rw [heq];exact upd_ne (fun g=>hWV g.symm)
 have hwV:(tk1 s W).way (1 - W)=l:=by rw [heq];exact upd_self
 have hwW:(tk1 s W).way W=s.way W:=by rw [heq];exact upd_ne hWV
 obtain ⟨c1,c2,c3,c4,c5,c6,c7,c8,c9,c10,c11,c12,c13,c14,c15⟩:=closeT_same z
 obtain ⟨n1,n2,n3,n4,n5,n6,n7,n8,n9,n10⟩:=hA.keep
 have hs5:=h.st5 W hW
 have hD:=h.dir W hW
 have hkle:=hD.kk.inf.le
 have hlen:=h.base.len hW
 have hac:=(h.base.both W hW).snd.acked
 have hnx:=(h.base.both W hW).snd.next
 have hTk:=TkHyp.ofA h hW hpm hst.k5
 have hto:Ackd p→ackTo {s.e W with now:=s.now} p.ack=f W+st.kp - 1:=fun hk=>ackTo_eq (n:=(L W).length) (hst.ack hk).1 (by show f W - 1≤(s.e W).acked∧(s.e W).acked<_;omega) (by omega) (by omega)
 have hlt:Ackd p→ackTo {s.e W with now:=s.now} p.ack<({s.e W with now:=s.now}:E).next:=fun hk=>by
  rw [hto hk]
  show _<(s.e W).next
  rw [hnx];omega
 have hb0:(s.e W).state=0→W=1∧p.kind=1:=fun g=>by
  rcases (by omega:W=0∨W=1) with rfl|rfl
  ·exact absurd g h.base.st0.1
  ·exact ⟨rfl,(hTk.b0 g).1⟩
 have hb1:(s.e W).state=1→W=0∧p.kind=3:=fun g=>by
  rcases (by omega:W=0∨W=1) with rfl|rfl
  ·refine ⟨rfl,?_⟩
   have hL1:=(h.base.start g).2.1
   have hok:=h.base.way 1 (by omega) p hpm
   have hpk:=hok.ok.1
   have hpk2:=hok.ok.2.1
   have:=hst.k5
   by_cases h124:p.kind=1∨p.kind=2∨p.kind=4
   ·obtain ⟨i,hi,_⟩:=hok.in_ h124
    rw [hL1] at hi
    simp at hi
   ·omega
  ·exact absurd g h.base.st0.2
 have hop:Ackd p→(s.e W).state≠1→Opn ({s.e W with now:=s.now}:E):=fun hk h1=>by
  refine opn_of (fun g=> ?_) h1 hs5.1 hs5.2.2
  have:=(hb0 g).2
  unfold Ackd at hk
  omega
 have hlag:Ackd p→p.ack=(f W+k W - 1)%65536→z.acked=f W+k W - 1∨k W=0:=fun hk hpa=>by
  have h1:=hto hk
  have h2:ackTo {s.e W with now:=s.now} p.ack=f W+k W - 1:=ackTo_eq (n:=(L W).length) hpa (by show f W - 1≤(s.e W).acked∧(s.e W).acked<_;omega) hkle (by omega)
  have hle:z.acked≤f W+k W - 1:=by
   rcases hA.s.acked.2.1 with g|⟨g,_⟩
   ·have:=x.ak W hW
    have g:z.acked=(s.e W).acked:=g
    omega
   ·omega
  by_cases h1':(s.e W).state=1
  ·obtain ⟨rfl,hk3⟩:=hb1 h1'
   rcases x.x5a h1' with g|⟨_,fl,hfl,hfn⟩
   ·right
    rw [g] at hkle
    simpa using hkle
   ·have hf0:=(h.par.f 0 (by omega)).1
    have hq:=x.x5c h1' p hpm
    have:=(hA.opens1 h1' hk3 fl hfl (by rw [hq,hfn,Int.tmod_eq_emod_of_nonneg hf0])).2.2 (hlt hk)
    left;omega
  ·have:=hA.s.acked.2.2 hk (hop hk h1') (hlt hk)
   left;omega
 refine ⟨k',hA',?_,hkk,⟨z,hA,hz⟩,hpr,hka,⟨st,hst,hkp⟩⟩
 refine ⟨fun V hV2=> ?_,fun V hV2=> ?_,fun hs=> ?_,fun V hV2 hs=> ?_,?_,fun hs=> ?_,fun hs=> ?_,fun hs=> ?_,fun hs hs1=> ?_,fun V hV2=> ?_,fun V hV2 hc2=> ?_,fun V hV2=> ?_⟩
 ·-- ak
  by_cases hVW:V=W
  ·subst hVW
   rw [hz,upd_ne hWV,c2]
   rcases hA.s.acked.2.1 with g|⟨g,g2,_⟩
   ·have g:z.acked=(s.e V).acked:=g
    rw [g];exact x.ak V hV2
   ·rw [g,hto g2];omega
  ·have hV1:V=1 - W:=by omega
   subst hV1
   rw [heV,upd_self]
   have:=x.ak _ hV
   omega
 ·-- lag
  by_cases hVW:V=W
  ·subst hVW
   rw [hz,heV,hwV,upd_ne hWV]
   have hle:z.acked≤f V+k V - 1:=by
    rcases hA.s.acked.2.1 with g|⟨g,g2,_⟩
    ·have:=x.ak V hV2
     have g:z.acked=(s.e V).acked:=g
     omega
    ·rw [g,hto g2];omega
   have hmono:(s.e V).acked≤z.acked:=hA.s.acked.1
   unfold Lag
   rw [c2]
   rcases x.lag V hV2 with g|g|⟨q,hq,hqk,hqa⟩
   ·left;omega
   ·exact .inr (.inl g)
   ·rw [hw] at hq
    rcases List.mem_cons.1 hq with rfl|hq
    ·rcases hlag hqk hqa with g|g
     ·exact .inl g
     ·left
      rw [g] at hle ⊢
      omega
    ·exact .inr (.inr ⟨q,hq,hqk,hqa⟩)
  ·have hV1:V=1 - W:=by omega
   subst hV1
   rw [hVV,hz,heV,hwW,upd_self]
   have hL:=x.lag _ hV
   rw [hVV] at hL
   unfold Lag at hL ⊢
   rcases hka with g|g
   ·rw [g]
    rcases hL with g1|g1|g1
    ·exact .inl g1
    ·exact .inr (.inl (by rw [c10];exact hA.answer.1 g1))
    ·exact .inr (.inr g1)
   ·exact .inr (.inl (by rw [← hz];exact g))
 ·-- x2
  rcases (by omega:W=0∨W=1) with rfl|rfl
  ·rw [hz] at hs ⊢
   rw [nums_same c1]
   have hzs:z.state≠1:=by omega
   by_cases h1:(s.e 0).state=1
   ·obtain ⟨fl,hfl,hpa,hk3⟩:=hA.opensC h1 hzs
    have hfl:(s.e 0).flight=[fl]:=hfl
    have hak:Ackd p:= .inr (.inl hk3)
    have h2:=(hA.opens1 h1 hk3 fl hfl hpa).2.2 (hlt hak)
    rcases x.x5a h1 with g|⟨g,fl2,hfl2,hfn⟩
    ·have hff:=(h.base.len (W:=0) (by omega)).2.2
     rw [g,hfl] at hff
     simp at hff
    ·refine ⟨fun g2=>by rw [g2] at g;simp at g,fun y hy=> ?_⟩
     have hab:=hA.s.fls.above y hy
     have:fl=fl2:=by rw [hfl] at hfl2;simpa using hfl2
     subst this
     have hf0:=h.par.f 0 (by omega)
     have h3:ackTo {s.e 0 with now:=s.now} p.ack=f 0:=by
      have:p.ack=(f 0+(1:Nat) - 1)%65536:=by rw [hpa,hfn,Int.tmod_eq_emod_of_nonneg hf0.1];omega
      have h4:=ackTo_eq (e:={s.e 0 with now:=s.now}) (n:=(L 0).length) this (by show f 0 - 1≤(s.e 0).acked∧(s.e 0).acked<_;omega) (by omega) (by omega)
      rw [h4];omega
     omega
   ·obtain ⟨g1,g2⟩:=x.x2 h1
    exact ⟨g1,fun y hy=>g2 y (hA.s.sub y hy)⟩
  ·have heV:(tk1 s 1).e 0=s.e 0:=heV
   rw [heV] at hs ⊢
   exact x.x2 hs
 ·-- x3
  by_cases hVW:V=W
  ·subst hVW
   rw [hz] at hs
   refine x.x3 V hV2 ?_
   rcases hA.state with g|⟨g1,g2,_⟩|⟨g1,g2,_⟩
   ·have g:z.state=(s.e V).state:=g
    omega
   ·omega
   ·omega
  ·have hV1:V=1 - W:=by omega
   subst hV1
   rw [heV] at hs
   exact x.x3 _ hV hs
 ·-- x4
  rcases (by omega:W=0∨W=1) with rfl|rfl
  ·have heV:(tk1 s 0).e 1=s.e 1:=heV
   rw [heV,hz,hwW,c10]
   rcases x.x4 with g|g|g|g
   ·exact .inl g
   ·by_cases h2:z.state=1
    ·right;left;omega
    ·obtain ⟨fl,hfl,hpa,hk3⟩:=hA.opensC g h2
     exact .inr (.inr (.inl (hA.opens1 g hk3 fl hfl hpa).2.1))
   ·exact .inr (.inr (.inl (hA.answer.1 g)))
   ·exact .inr (.inr (.inr g))
  ·have heV:(tk1 s 1).e 0=s.e 0:=heV
   have hwV:(tk1 s 1).way 0=l:=hwV
   rw [heV,hz,hwV,c11]
   rcases x.x4 with g|g|g|⟨q,hq,hqk⟩
   ·exact .inl (hA.heard.1 g)
   ·exact .inr (.inl g)
   ·exact .inr (.inr (.inl g))
   ·have hw:s.way 0=p::l:=hw
    rw [hw] at hq
    rcases List.mem_cons.1 hq with rfl|hq
    ·exact .inl (hA.heard.2 hqk (hop hqk h.base.st0.2))
    ·exact .inr (.inr (.inr ⟨q,hq,hqk⟩))
 ·-- x5a
  rcases (by omega:W=0∨W=1) with rfl|rfl
  ·rw [hz] at hs ⊢
   have hzs:z.state=1:=by omega
   have h1:(s.e 0).state=1:=by
    rcases hA.state with g|⟨g1,g2,_⟩|⟨g1,g2,_⟩
    ·have g:z.state=(s.e 0).state:=g
     omega
    ·omega
    ·omega
   rw [c1,(hA.stays1 h1 hzs).1]
   exact x.x5a h1
  ·have heV:(tk1 s 1).e 0=s.e 0:=heV
   rw [heV] at hs ⊢
   exact x.x5a hs
 ·-- x5b
  rcases (by omega:W=0∨W=1) with rfl|rfl
  ·have heV:(tk1 s 0).e 1=s.e 1:=heV
   rw [heV] at hs
   have:=(h.begun hs).2
   have hw:s.way 1=p::l:=hw
   rw [this] at hw;cases hw
  ·rw [hz] at hs
   have hzs:z.state=0:=by omega
   have h0:(s.e 1).state=0:=by
    rcases hA.state with g|⟨g1,g2,_⟩|⟨g1,g2,_⟩
    ·have g:z.state=(s.e 1).state:=g
     omega
    ·omega
    ·omega
   have:=(hA.opens0 h0 (hb0 h0).2).1
   omega
 ·-- x5c
  rcases (by omega:W=0∨W=1) with rfl|rfl
  ·rw [hz] at hs
   have hzs:z.state=1:=by omega
   have h1:(s.e 0).state=1:=by
    rcases hA.state with g|⟨g1,g2,_⟩|⟨g1,g2,_⟩
    ·have g:z.state=(s.e 0).state:=g
     omega
    ·omega
    ·omega
   have hwV:(tk1 s 0).way 1=l:=hwV
   rw [hwV]
   intro q hq
   refine x.x5c h1 q ?_
   have hw:s.way 1=p::l:=hw
   rw [hw];exact List.mem_cons_of_mem _ hq
  ·have heV:(tk1 s 1).e 0=s.e 0:=heV
   rw [heV] at hs
   rw [hwW];exact x.x5c hs
 ·-- x5d
  rcases (by omega:W=0∨W=1) with rfl|rfl
  ·have heV:(tk1 s 0).e 1=s.e 1:=heV
   rw [heV] at hs1
   rw [hz] at hs
   have hzs:z.state=1:=by omega
   have h1:(s.e 0).state=1:=by
    rcases hA.state with g|⟨g1,g2,_⟩|⟨g1,g2,_⟩
    ·have g:z.state=(s.e 0).state:=g
     omega
    ·omega
    ·omega
   show 1≤upd k 1 k' 0
   rw [upd_ne (by omega)]
   exact x.x5d h1 hs1
  ·have heV:(tk1 s 1).e 0=s.e 0:=heV
   rw [heV] at hs
   show 1≤upd k 0 k' 0
   rw [upd_self]
   by_cases h0:(s.e 1).state=0
   ·exact hk1 h0 (hb0 h0).2
   ·have h2:=x.x5d hs h0
    have hkk:k 0≤k':=hkk
    omega
 ·-- x8
  by_cases hVW:V=W
  ·subst hVW
   rw [heV,upd_ne hWV]
   exact x.x8 V hV2
  ·have hV1:V=1 - W:=by omega
   subst hV1
   have h2:=x.x8 _ hV
   rw [hVV] at h2 ⊢
   rw [upd_self]
   exact hec h2
 ·-- x7
  by_cases hVW:V=W
  ·subst hVW
   have hcl:(closeT z).closing=(s.e V).closing:=by
    have:(closeT z).closing=z.closing:=by unfold closeT;split<;> rfl
    rw [this,n3]
   have hwt:(closeT z).waiting=(s.e V).waiting:=by rw [c12,n1]
   rw [hz] at hc2 ⊢
   rw [hwt]
   exact x.x7 V hV2 (by rw [← hcl];exact hc2)
  ·have hV1:V=1 - W:=by omega
   subst hV1
   rw [heV] at hc2 ⊢
   exact x.x7 _ hV hc2
 ·-- out
  by_cases hVW:V=W
  ·subst hVW
   have:(closeT z).out=z.out:=by unfold closeT;split<;> rfl
   rw [hz,this,n10]
   exact x.out V hV2
  ·have hV1:V=1 - W:=by omega
   subst hV1
   rw [heV];exact x.out _ hV
end Go.Proofs.Ytdgmcckfdgnicaa
