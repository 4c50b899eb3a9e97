/-
  A part of the proof of a statement of this seat.
-/
import Derived.Test.Ytdgmcckfdgnicaai6M
set_option linter.unusedVariables false
set_option linter.unusedSimpArgs false
set_option maxRecDepth 20000
namespace Go.Proofs.Ytdgmcckfdgnicaa
open Go Go.Aw Go.Proofs
structure MIt (s0 s':PS) (W:Nat) (f:Nat→Int) (L:Nat→List Msg) (k0 k':Nat→Nat) (t:List Sg):Prop where
 way:s0.way (1 - W)=t++s'.way (1 - W)
 win:(s'.e W).window=(match t.getLast? with|some q=>q.window|none=>(s0.e W).window)
 acks:∀q∈t,Ackd q→∀kp:Nat,q.ack=(f W+kp - 1)%65536→kp≤(L W).length→∀y∈nums (s'.e W),f W+kp - 1<y
 ans1:∀q∈t,(q.kind=2∨q.kind=4)→(s'.e W).answer=true
 ans3: (∀ q∈t,q.kind=3)→(s'.e W).answer=(s0.e W).answer
 heard:∀q∈t,Ackd q→(s'.e W).heard=true
 data:∀q∈t,(q.kind=2∨q.kind=4)→∀j:Nat,(L (1 - W))[j]? =some (q.kind,q.body)→q.seq=(f (1 - W)+j)%65536→j≤k0 (1 - W)→(s0.e W).ready=[]→j<k' (1 - W)
structure MI (s0 s':PS) (W:Nat) (f:Nat→Int) (conn room limit:Int) (L:Nat→List Msg) (c:Nat) (k0 k':Nat→Nat):Prop where
 a:AInv s' f conn room limit L c k'
 x:XInv s' f L k'
 now:s'.now=s0.now∧s'.wrote=s0.wrote∧s'.read=s0.read∧s'.pos=s0.pos
 eV:s'.e (1 - W)=s0.e (1 - W)
 wW:s'.way W=s0.way W
 kW:k' W=k0 W
 kmono:k0 (1 - W)≤k' (1 - W)
 fl:FlX (s0.e W) (s'.e W)
 sents:SubFl (s0.e W) (s'.e W)
 keep:(s'.e W).waiting=(s0.e W).waiting∧(s'.e W).closing=(s0.e W).closing∧(s'.e W).limit=(s0.e W).limit∧(s'.e W).opener=(s0.e W).opener
 state:(s'.e W).state=(s0.e W).state∨((s0.e W).state=3∧(s'.e W).state=4)
 ansM:(s0.e W).answer=true→(s'.e W).answer=true
 heardM:(s0.e W).heard=true→(s'.e W).heard=true
 kans:k' (1 - W)=k0 (1 - W)∨(s'.e W).answer=true
 acc:AccLe (L (1 - W)) (f (1 - W)) (s0.e W) (s'.e W) (k0 (1 - W)) (k' (1 - W))
 t:∃t,MIt s0 s' W f L k0 k' t
theorem KOk.uniq {r:E} {f:Int} {L:List Msg} {rd rd':List UInt8} {k k':Nat} (h:KOk r f L rd k) (h':KOk r f L rd' k') (h0:r.state≠0) (h1:r.state≠1) (hL:L.length<30000):k=k':=by
 rcases h.got with ⟨_,_,_,_,_,g⟩|⟨g,_⟩
 ·omega
 rcases h'.got with ⟨_,_,_,_,_,g'⟩|⟨g',_⟩
 ·omega
 have a:=g.base
 have b:=g'.base
 have c:=g.le
 have d:=g'.le
 omega
theorem KOk.readySame {r r':E} {f:Int} {L:List Msg} {rd:List UInt8} {k:Nat} (h:KOk r f L rd k) (h':KOk r' f L rd k):r'.ready=r.ready:=by
 have:=h.text.trans h'.text.symm
 exact (List.append_cancel_left this).symm
theorem Dir.room {cn room:Int} {s r:E} {f:Int} {L:List Msg} {rd:List UInt8} {k:Nat} {B:List Sg} (h:Dir cn room s r f L rd k B) (hr:r.ready=[]) (hrm:r.room=room) (h14:1400≤room) (hL:L.length≤30000) (hb:∀m∈L,m.2.length≤1400) {m:Msg} (hm:L[k]? =some m):(m.2.length:Int)≤spaceR r:=by
 have hkl:=(List.getElem?_eq_some_iff.1 hm).1
 have hK:=h.kk.inf
 have hby:=hK.bytes (by omega)
 have htx:=congrArg List.length h.kk.text
 rw [List.length_append,hr] at htx
 simp only [List.length_nil,Nat.add_zero] at htx
 unfold spaceR
 rw [hr,hrm]
 simp only [List.length_nil]
 rcases h.win with g|g
 ·-- all that was sent has room
  have hna:¬(nowSt r f L k).acc k=true:=fun q=>by
   rcases nowSt_acc.1 q with q|⟨_,q⟩
   ·omega
   ·have:=hK.key (by omega) hkl q;omega
  have h1:accB L (nowSt r f L k).acc+lenM L k≤(bodies L).length:=by
   rw [bodies_all]
   unfold accB
   rw [← sumN_single (g:=lenM L) hkl,←sumN_add]
   refine sumN_le fun i hi=> ?_
   by_cases hik:i=k
   ·subst hik
    rw [if_neg hna,if_pos rfl];omega
   ·rw [if_neg hik]
    split<;> omega
  rw [lenM_some hm] at h1
  omega
 ·have hkk:k+1=L.length:=by
   by_cases q:k+1<L.length
   ·exfalso
    have:=g k q
    rcases nowSt_acc.1 this with q2|⟨_,q2⟩
    ·omega
    ·have:=hK.key (by omega) hkl q2;omega
   ·omega
  have hke:r.kept=[]:=by
   cases hx:r.kept with
   |nil=>rfl
   |cons y l=>
    obtain ⟨j,a,_,b,_⟩:=hK.kept y (by rw [hx];exact List.mem_cons_self ..)
    have:=(List.getElem?_eq_some_iff.1 b).1
    omega
  rw [hke]
  have:=hb m (List.mem_of_getElem? hm)
  simp only [keptB,List.map_nil,List.sum_nil]
  omega
theorem MI.refl {s:PS} {f:Nat→Int} {conn room limit:Int} {L:Nat→List Msg} {c:Nat} {k:Nat→Nat} (h:AInv s f conn room limit L c k) (x:XInv s f L k) (W:Nat):MI s s W f conn room limit L c k k:=
 ⟨h,x,⟨rfl,rfl,rfl,rfl⟩,rfl,rfl,rfl,Nat.le_refl _,.inl ⟨rfl,rfl⟩,.refl _,⟨rfl,rfl,rfl,rfl⟩,.inl rfl,id,id,.inl rfl,.same rfl,⟨[],by simp,rfl,by simp,by simp,fun _=>rfl,by simp,by simp⟩⟩
theorem MI.step {s0 s:PS} {f:Nat→Int} {conn room limit:Int} {L:Nat→List Msg} {c:Nat} {k0 k:Nat→Nat} {W:Nat} (h:MI s0 s W f conn room limit L c k0 k) (h0:AInv s0 f conn room limit L c k0) (hW:W<2) (hc:1≤c∧c≤9000) (ht:s.now≤1000000000) (hO:Opn (s0.e W)) (hwl:(s.way (1 - W)).length≤500000) {p:Sg} {l:List Sg} (hw:s.way (1 - W)=p::l):∃k',MI s0 (tk1 s W) W f conn room limit L c k0 k':=by
 have hV:1 - W<2:=by omega
 have hVV:1 - (1 - W)=W:=by omega
 have hWV:W≠1 - W:=by omega
 have hat:(s.e W).now≤s.now∧s.now≤1000000000:=⟨(h.a.base.fix W hW).now.2,ht⟩
 have heq:=tk1_eq hW hw hat
 obtain ⟨k',hA,hX,hkk,⟨z,hz,hzc⟩,hpr,hka,⟨st,hst,hkp⟩⟩:=XInv.tk h.a h.x hc ht hW hwl hw
 obtain ⟨c1,c2,c3,c4,c5,c6,c7,c8,c9,c10,c11,c12,c13,c14,c15⟩:=closeT_same z
 obtain ⟨d1,d2,d3⟩:=closeT_keep z
 obtain ⟨n1,n2,n3,n4,n5,n6,n7,n8,n9,n10⟩:=hz.keep
 have hOs:Opn (s.e W):=by
  rcases h.state with g|⟨_,g⟩
  ·unfold Opn at hO ⊢;omega
  ·unfold Opn;omega
 have hzs:z.state=(s.e W).state:=by
  unfold Opn at hOs
  rcases hz.state with g|⟨g,_⟩|⟨g,_⟩
  ·exact g
  ·have g:(s.e W).state=0:=g
   omega
  ·have g:(s.e W).state=1:=g
   omega
 have hOe:Opn ({s.e W with now:=s.now}:E):=hOs
 have hDw:=h.a.dir W hW
 have hlen:=h.a.base.len hW
 have hac:=(h.a.base.both W hW).snd.acked
 have hnx:=(h.a.base.both W hW).snd.next
 have hrd:(tk1 s W).read=s.read:=by rw [heq]
 obtain ⟨t,ht1⟩:=h.t
 refine ⟨_,hA,hX,⟨by rw [heq];exact h.now.1,by rw [heq];exact h.now.2.1,by rw [heq];exact h.now.2.2.1,by rw [heq];exact h.now.2.2.2⟩,?_,?_,?_,?_,?_,?_,?_,?_,fun g=> ?_,fun g=> ?_,?_,?_,t++[p],?_⟩
 ·rw [heq];exact (upd_ne (fun g=>hWV g.symm)).trans h.eV
 ·rw [heq];exact (upd_ne hWV).trans h.wW
 ·rw [upd_ne hWV];exact h.kW
 ·rw [upd_self];exact Nat.le_trans h.kmono hkk
 ·rw [hzc]
  refine h.fl.trans ?_
  have:=hz.s.fl
  unfold FlX
  rw [c1,c14]
  exact this
 ·rw [hzc]
  refine h.sents.trans ?_
  intro q hq
  rw [c1] at hq
  exact hz.s.sents q hq
 ·rw [hzc,c12,n1,d1,n3,d3,n8,d2,n5];exact h.keep
 ·rw [hzc]
  rcases h.state with g|⟨g1,g2⟩
  ·rcases c15 with q|⟨q1,q2⟩
   ·left;omega
   ·right;omega
  ·right
   rcases c15 with q|⟨q1,q2⟩
   ·omega
   ·omega
 ·rw [hzc,c10];exact hz.answer.1 (h.ansM g)
 ·rw [hzc,c11];exact hz.heard.1 (h.heardM g)
 ·rw [upd_self]
  rcases hka with g|g
  ·rw [g]
   rcases h.kans with q|q
   ·exact .inl q
   ·right;rw [hzc,c10];exact hz.answer.1 q
  ·exact .inr g
 ·rw [upd_self]
  obtain ⟨k2,hk2,hacc,_⟩:=hz.r
  have hD2:=hA.dir _ hV
  rw [hVV] at hD2
  have hK:=hD2.kk
  rw [upd_self,hzc] at hK
  have h23:z.state=2∨z.state=3∨z.state=4:=by rw [hzs];exact hOs
  have hK2:KOk (closeT z) (f (1 - W)) (L (1 - W)) (s.read W) k2:=hk2.of c6 c7 c5 c8 (.inr (by omega))
  have hlv:=h.a.base.len hV
  have hkk2:k'=k2:=hK.uniq hK2 (by omega) (by omega) (by omega)
  subst hkk2
  have h3:AccLe (L (1 - W)) (f (1 - W)) (s.e W) ((tk1 s W).e W) (k (1 - W)) k':=by
   rw [hzc]
   refine ⟨hacc.1,fun i hi hik=> ?_⟩
   rw [c5]
   exact hacc.2 i hi hik
  exact h.acc.trans h3
 ·have hwV:(tk1 s W).way (1 - W)=l:=by rw [heq];exact upd_self
  have hsubn:∀y∈nums (closeT z),y∈nums (s.e W):=fun y hy=>by rw [nums_same c1] at hy;exact hz.s.sub y hy
  refine ⟨?_,?_,fun q hq hk kp hqa hkp2 y hy=> ?_,fun q hq hk=> ?_,fun hq=> ?_,fun q hq hk=> ?_,fun q hq hk j hj hjs hjk hrdy=> ?_⟩
  ·rw [hwV,ht1.way,hw];simp
  ·rw [List.getLast?_append,hzc,c4,hz.win];rfl
  ·rw [hzc] at hy
   rcases List.mem_append.1 hq with hq|hq
   ·exact ht1.acks q hq hk kp hqa hkp2 y (hsubn y hy)
   ·rw [List.mem_singleton.1 hq] at hk hqa
    have hto:ackTo {s.e W with now:=s.now} p.ack=f W+kp - 1:=ackTo_eq (n:=(L W).length) hqa (by show f W - 1≤(s.e W).acked∧(s.e W).acked<_;omega) hkp2 (by omega)
    rw [nums_same c1] at hy
    have:=hz.s.prog hk hOe (by rw [hto];show _<(s.e W).next;rw [hnx];omega) y hy
    omega
  ·rw [hzc,c10]
   rcases List.mem_append.1 hq with hq|hq
   ·exact hz.answer.1 (ht1.ans1 q hq hk)
   ·rw [List.mem_singleton.1 hq] at hk
    exact hz.answer.2.1 hk hOe
  ·rw [hzc,c10,hz.answer.2.2.1 (hq p (List.mem_append_right _ (List.mem_singleton.2 rfl))) hOe]
   exact ht1.ans3 fun q hq2=>hq q (List.mem_append_left _ hq2)
  ·rw [hzc,c11]
   rcases List.mem_append.1 hq with hq|hq
   ·exact hz.heard.1 (ht1.heard q hq hk)
   ·rw [List.mem_singleton.1 hq] at hk
    exact hz.heard.2 hk hOe
  ·rw [upd_self]
   rcases List.mem_append.1 hq with hq|hq
   ·have:=ht1.data q hq hk j hj hjs hjk hrdy
    omega
   ·rw [List.mem_singleton.1 hq] at hk hj hjs
    have hkm:=h.kmono
    refine Nat.lt_of_lt_of_le (?_:j<k') (Nat.le_refl _)
    by_cases hkc:k (1 - W)=k0 (1 - W)
    ·refine hpr j hj hjs hk hOs (by omega) fun hje=> ?_
     have hD2:=h.a.dir _ hV
     have hD0:=h0.dir _ hV
     rw [hVV] at hD2 hD0
     have hk1:=hD2.kk
     have hk2:=hD0.kk
     rw [hkc,h.now.2.2.1] at hk1
     have hrs:=hk2.readySame hk1
     rw [hrdy] at hrs
     have hF:=h.a.base.fix W hW
     have hro:=h.a.par.room
     have hlv:=h.a.base.len hV
     have htk:=(h.a.base.both _ hV).snd.tok
     exact hD2.room hrs hF.room hro.1 (by omega) (fun m hm=>(htk.kinds m (List.mem_append_left _ hm)).2.2) (by rw [← hje];exact hj)
    ·have h3:j<k (1 - W):=by omega
     omega
end Go.Proofs.Ytdgmcckfdgnicaa

set_option linter.unusedVariables false
set_option linter.unusedSimpArgs false
set_option maxRecDepth 20000
namespace Go.Proofs.Ytdgmcckfdgnicaa
open Go Go.Aw Go.Proofs
structure SV (s:PS) (f:Nat→Int) (conn room limit:Int) (L:Nat→List Msg) (c:Nat) (k:Nat→Nat):Prop where
 a:AInv s f conn room limit L c k
 x:XInv s f L k
 opn:∀W,W<2→Opn (s.e W)
 cl:∀W,W<2→(s.e W).closing=true
 tot:totT L s≤290
 rdy:∀W,W<2→(s.e W).ready=[]
 sent:∀W,W<2→∀p∈(s.e W).flight,p.lost=false→0≤p.sent∧p.sent≤s.now
theorem SV.few {s:PS} {f:Nat→Int} {conn room limit:Int} {L:Nat→List Msg} {k:Nat→Nat} {c:Nat} (h:SV s f conn room limit L c k) {W:Nat} (hW:W<2):(L W).length+(s.e W).waiting.length≤290:=by
 have:=h.tot
 unfold totT at this
 rcases (by omega:W=0∨W=1) with rfl|rfl<;> omega
structure AR (s s':PS) (W:Nat) (f:Nat→Int) (conn room limit:Int) (L:Nat→List Msg) (c:Nat) (k k':Nat→Nat) (n:Int) (t:List Sg):Prop where
 sv:SV s' f conn room limit L c k'
 now:s'.now=s.now∧s'.wrote=s.wrote∧s'.pos=s.pos
 eV:s'.e (1 - W)=s.e (1 - W)
 wW:s'.way W=s.way W
 wV:s'.way (1 - W)=(s.way (1 - W)).drop (arrN n (s.way (1 - W)))
 tt:t=(s.way (1 - W)).take (arrN n (s.way (1 - W)))
 kW:k' W=k W
 kmono:k (1 - W)≤k' (1 - W)
 fl:FlX (s.e W) (s'.e W)
 sents:SubFl (s.e W) (s'.e W)
 keep:(s'.e W).waiting=(s.e W).waiting∧(s'.e W).limit=(s.e W).limit∧(s'.e W).opener=(s.e W).opener
 state:(s'.e W).state=(s.e W).state∨((s.e W).state=3∧(s'.e W).state=4)
 ansM:(s.e W).answer=true→(s'.e W).answer=true
 heardM:(s.e W).heard=true→(s'.e W).heard=true
 kans:k' (1 - W)=k (1 - W)∨(s'.e W).answer=true
 acc:AccLe (L (1 - W)) (f (1 - W)) (s.e W) (s'.e W) (k (1 - W)) (k' (1 - W))
 win:(s'.e W).window=(match t.getLast? with|some q=>q.window|none=>(s.e W).window)
 acks:∀q∈t,Ackd q→∀kp:Nat,q.ack=(f W+kp - 1)%65536→kp≤(L W).length→∀y∈nums (s'.e W),f W+kp - 1<y
 ans1:∀q∈t,(q.kind=2∨q.kind=4)→(s'.e W).answer=true
 ans3: (∀ q∈t,q.kind=3)→(s'.e W).answer=(s.e W).answer
 heard:∀q∈t,Ackd q→(s'.e W).heard=true
 data:∀q∈t,(q.kind=2∨q.kind=4)→∀j:Nat,(L (1 - W))[j]? =some (q.kind,q.body)→q.seq=(f (1 - W)+j)%65536→j≤k (1 - W)→j<k' (1 - W)
theorem SV.arr {s:PS} {f:Nat→Int} {conn room limit:Int} {L:Nat→List Msg} {k:Nat→Nat} {c:Nat} (h:SV s f conn room limit L c k) (hc:1≤c∧c≤9000) (ht:s.now≤1000000000) {W:Nat} (hW:W<2) (hwl:(s.way (1 - W)).length≤500000) (n:Int) (hn:0≤n):
  ArrOk s W n 20000 (40*c)∧soundR (arriveR s W n 100000) W=true∧∃k' t,AR s (arriveR s W n 100000) W f conn room limit L c k k' n t:=by
 have hV:1 - W<2:=by omega
 have hWV:W≠1 - W:=by omega
 obtain ⟨a1,a2,_⟩:=h.a.base.arriveG (by rw [h.a.num];exact h.a.par) hc.2 ht hW n 100000 hn hwl
 refine ⟨a1,a2,?_⟩
 obtain ⟨s',k',hM,hs'⟩:=arr_ind (P:=fun s'=>∃k',MI s s' W f conn room limit L c k k') (Q:=fun z=>∃s' k',MI s s' W f conn room limit L c k k'∧z=rd0 s' W 100000) hW 100000
  (fun s' ⟨k',g⟩=>⟨(g.a.base.fix W hW).now.2,by rw [g.now.1];exact ht⟩)
  (fun s' p l ⟨k',g⟩ hw=>by
   obtain ⟨t,g2⟩:=g.t
   have hle:(s'.way (1 - W)).length≤500000:=by
    have:=congrArg List.length g2.way
    rw [List.length_append] at this
    omega
   exact g.step h.a hW hc (by rw [g.now.1];exact ht) (h.opn W hW) hle hw)
  (fun s' ⟨k',g⟩=>⟨s',k',g,rfl⟩) _ s rfl ⟨k,.refl h.a h.x W⟩ n hn
 obtain ⟨t,hT⟩:=hM.t
 have hat:(s'.e W).now≤s'.now∧s'.now≤1000000000:=⟨(hM.a.base.fix W hW).now.2,by rw [hM.now.1];exact ht⟩
 have heq:=rd0_eq (s:=s') (W:=W) 100000 hat
 have hle:(s'.way (1 - W)).length≤500000:=by
  have:=congrArg List.length hT.way
  rw [List.length_append] at this
  omega
 have hAr:=hM.a.rd hc (by rw [hM.now.1];exact ht) hW hle 100000
 have hXr:=hM.x.rd hW 100000 hat
 have heW:(rd0 s' W 100000).e W=readS 100000 {s'.e W with now:=s'.now}:=by rw [heq];exact upd_self
 have heV:(rd0 s' W 100000).e (1 - W)=s.e (1 - W):=by rw [heq];exact (upd_ne (fun g=>hWV g.symm)).trans hM.eV
 have hway:(rd0 s' W 100000).way=s'.way:=by rw [heq]
 have hwV:(arriveR s W n 100000).way (1 - W)=(s.way (1 - W)).drop (arrN n (s.way (1 - W))):=upd_self
 have hrl:(s'.e W).ready.length≤20000:=by
  have h1:=(hM.a.base.both W hW).rcv.room
  rw [(hM.a.base.fix W hW).room] at h1
  have:=h.a.par.room
  omega
 rw [hs'] at hwV ⊢
 have hwV2:s'.way (1 - W)=(s.way (1 - W)).drop (arrN n (s.way (1 - W))):=by rw [← hwV,hway]
 have htt:t=(s.way (1 - W)).take (arrN n (s.way (1 - W))):=by
  have h1:=hT.way
  rw [hwV2] at h1
  conv at h1=>lhs;rw [← List.take_append_drop (arrN n (s.way (1 - W))) (s.way (1 - W))]
  exact (List.append_cancel_right h1).symm
 have hwt:∀V,V<2→((rd0 s' W 100000).e V).waiting=(s.e V).waiting:=fun V hV2=>by
  by_cases hVW:V=W
  ·subst hVW;rw [heW];exact hM.keep.1
  ·have hV1:V=1 - W:=by omega
   subst hV1
   rw [heV]
 refine ⟨k',t,⟨hAr,hXr,fun V hV2=> ?_,fun V hV2=> ?_,?_,fun V hV2=> ?_,fun V hV2=> ?_⟩,by rw [heq];exact ⟨hM.now.1,hM.now.2.1,hM.now.2.2.2⟩,heV,by rw [hway];exact hM.wW,hwV,htt,hM.kW,hM.kmono,by rw [heW];exact hM.fl,by rw [heW];exact hM.sents,by rw [heW];exact ⟨hM.keep.1,hM.keep.2.2.1,hM.keep.2.2.2⟩,by rw [heW];exact hM.state,by rw [heW];exact hM.ansM,by rw [heW];exact hM.heardM,by rw [heW];exact hM.kans,by rw [heW];exact hM.acc,by rw [heW];exact hT.win,by rw [heW];exact hT.acks,by rw [heW];exact hT.ans1,by rw [heW];exact hT.ans3,by rw [heW];exact hT.heard,fun q hq hk j hj hjs hjk=>hT.data q hq hk j hj hjs hjk (h.rdy W hW)⟩
 ·by_cases hVW:V=W
  ·subst hVW
   rw [heW]
   have h1:=h.opn V hV2
   have h2:=hM.state
   show Opn (s'.e V)
   unfold Opn at h1 ⊢
   omega
  ·have hV1:V=1 - W:=by omega
   subst hV1
   rw [heV];exact h.opn _ hV
 ·by_cases hVW:V=W
  ·subst hVW
   rw [heW]
   show (s'.e V).closing=true
   rw [hM.keep.2.1];exact h.cl V hV2
  ·have hV1:V=1 - W:=by omega
   subst hV1
   rw [heV];exact h.cl _ hV
 ·have:=h.tot
  unfold totT at this ⊢
  rw [hwt 0 (by omega),hwt 1 (by omega)]
  exact this
 ·by_cases hVW:V=W
  ·subst hVW
   rw [heW]
   show (s'.e V).ready.drop (readN 100000 {s'.e V with now:=s'.now})=[]
   refine List.drop_eq_nil_of_le ?_
   unfold readN
   show (s'.e V).ready.length≤(min (100000:Int) ((s'.e V).ready.length:Int)).toNat
   omega
  ·have hV1:V=1 - W:=by omega
   subst hV1
   rw [heV];exact h.rdy _ hV
 ·have hnow:(rd0 s' W 100000).now=s.now:=by rw [heq];exact hM.now.1
  rw [hnow]
  by_cases hVW:V=W
  ·subst hVW
   rw [heW]
   intro p hp hl
   obtain ⟨q,hq,g1,g2⟩:=hM.sents p hp
   rw [g1]
   exact h.sent V hV2 q hq (g2 hl)
  ·have hV1:V=1 - W:=by omega
   subst hV1
   rw [heV];exact h.sent _ hV
structure SR (s s':PS) (W:Nat) (f:Nat→Int) (conn room limit:Int) (L:Nat→List Msg) (c:Nat) (k:Nat→Nat) (L':List Msg) (o:List Sg):Prop where
 sv:SV s' f conn room limit (upd L W L') (c+1) k
 now:s'.now=s.now∧s'.read=s.read∧s'.wrote=s.wrote
 eV:∀V,V≠W→s'.e V=s.e V
 wV:∀V,V≠W→s'.way V=s.way V
 wW:s'.way W=s.way W++o
 ans:(s'.e W).answer=false
 blk:Blk (s'.e W)
 sA:∃acc R,SendA (s.e W) (f W) (L W) (s.wrote W) acc R s.now (s'.e W) o L'
 len:o.length≤292
 acks:∀q∈o,Ackd q∧q.ack=(f (1 - W)+k (1 - W) - 1)%65536
 wins:∀q∈o,q.window=spaceR (s.e W)
 eq:s'.e W=(send1 (over2 {s.e W with now:=s.now})).1
 oeq:o=(send1 (over2 {s.e W with now:=s.now})).2
theorem SV.snd {s:PS} {f:Nat→Int} {conn room limit:Int} {L:Nat→List Msg} {k:Nat→Nat} {c:Nat} (h:SV s f conn room limit L c k) (hc:c≤9000) (ht:s.now≤1000000000) {W:Nat} (hW:W<2) (hov:(over2 {s.e W with now:=s.now}).state≠5):
  SendOk s W limit∧∃L' o,SR s (sendS s W) W f conn room limit L c k L' o:=by
 have hV:1 - W<2:=by omega
 have hVV:1 - (1 - W)=W:=by omega
 have hs5:=h.a.st5 W hW
 have hO:=h.opn W hW
 have hF:=h.a.base.fix W hW
 have hB:=h.a.base.both W hW
 have hpar:=h.a.par
 have hr:=hpar.room
 have hlen0:=h.a.base.len hW
 have hfew:=h.few hW
 have hsp:=sent_P (a:=s.e W) (f:=f W) (now:=s.now) (L:=L W) (w:=s.wrote W) (hpar.f W hW) (by omega) (by rw [hF.conn];exact hpar.conn) (by rw [hF.room];omega) hB.rcv.base h.a.base.now hB.snd (h.a.base.lostW W hW)
 obtain ⟨b1,b2,b3,b4,b5,b6,L',acc,b7,b8,b9⟩:=h.a.send hc ht hW hov
 have hX:=XInv.send h.a h.x hW b5 b6 b8 hsp.low
 have hl:(send1 (over2 {s.e W with now:=s.now})).2.length≤(s.e W).flight.length+(s.e W).waiting.length+2:=hsp.len
 have hne0:(s.e W).state≠0∧(s.e W).state≠1:=by unfold Opn at hO;omega
 have heW:(sendS s W).e W=(send1 (over2 {s.e W with now:=s.now})).1:=by rw [b5,upd_self]
 have heV:∀V,V≠W→(sendS s W).e V=s.e V:=fun V hV=>by rw [b5,upd_ne hV]
 obtain ⟨bw,bfl,bn,bc,bg,bst,bou,hbe,hbs⟩:=b8.of_
 have hov2:=hov
 have hrp:(over2 {s.e W with now:=s.now}).replies=false∧(over2 {s.e W with now:=s.now}).now=s.now:=by
  have hP:=over2_P {s.e W with now:=s.now}
  obtain ⟨_,_,_,_,e⟩:=hP.of_
  rcases hP.cases_ with g|g
  ·exact ⟨by rw [g.2.1];exact hs5.2.1,by rw [e]⟩
  ·exact absurd g.1 hov
 have hacks:∀q∈(send1 (over2 {s.e W with now:=s.now})).2,Ackd q∧q.ack=(f (1 - W)+k (1 - W) - 1)%65536:=fun q hq=>by
  obtain ⟨a1,a2,a3,a4,a5,a6,a7⟩:=b8.outs q hq
  have hk1:q.kind≠1:=fun hk=>by
   rcases (by omega:W=0∨W=1) with rfl|rfl
   ·rcases a7 hk with g|g
    ·have:=(h.x.x2 hne0.2).2 _ g;omega
    ·exact hne0.2 g
   ·obtain ⟨i,hi,_⟩:=a6.in_ (.inl hk)
    have hop:((sendS s 1).e 1).opener=false:=by rw [heW,hbe];exact (h.a.base.fix 1 (by omega)).opener
    have:=((b8.snd.tok.first i _ (prefix_get ⟨_,rfl⟩ hi)).1 hk).2
    rw [← heW,hop] at this;cases this
  have hpk:=a6.ok.1
  have hpk2:=a6.ok.2.1
  refine ⟨by unfold Ackd;omega,?_⟩
  have hD2:=h.a.dir _ hV
  rw [hVV] at hD2
  rcases hD2.kk.got with ⟨_,_,_,_,_,g⟩|⟨hG,_⟩
  ·omega
  ·rw [a3,hG.base]
 refine ⟨b1,L',_,⟨b7,hX,fun V hV2=> ?_,fun V hV2=> ?_,?_,fun V hV2=> ?_,fun V hV2=> ?_⟩,⟨b2,b3,b4⟩,heV,fun V hV=>by rw [b6,upd_ne hV],by rw [b6,upd_self],?_,by rw [heW];exact b9 hne0.1,⟨_,_,by rw [heW];exact b8⟩,by omega,hacks,fun q hq=>(b8.outs q hq).2.1,heW,rfl⟩
 ·by_cases hVW:V=W
  ·subst hVW
   rw [heW,hbe]
   show bst=2∨bst=3∨bst=4
   unfold Opn at hO
   omega
  ·rw [heV V hVW];exact h.opn V hV2
 ·by_cases hVW:V=W
  ·subst hVW;rw [heW,hbe];exact h.cl V hV2
  ·rw [heV V hVW];exact h.cl V hV2
 ·have h1:=h.tot
  have h2:=congrArg List.length b8.tot
  rw [List.length_append,List.length_append,List.length_map,List.length_map] at h2
  unfold totT at h1 ⊢
  rw [b5]
  rcases (by omega:W=0∨W=1) with rfl|rfl
  ·rw [upd_self,upd_self,upd_ne (by omega),upd_ne (by omega)];omega
  ·rw [upd_self,upd_self,upd_ne (by omega),upd_ne (by omega)];omega
 ·by_cases hVW:V=W
  ·subst hVW;rw [heW,hbe];exact h.rdy V hV2
  ·rw [heV V hVW];exact h.rdy V hV2
 ·rw [b2]
  by_cases hVW:V=W
  ·subst hVW
   rw [heW]
   intro p hp hl
   have hnw:=h.a.base.now
   rcases send1_sent hrp.1 p hp hl with g|⟨q,hq,hql,g⟩
   ·rw [g,hrp.2];omega
   ·have hP:=over2_P {s.e V with now:=s.now}
    rw [← g]
    rcases hP.cases_ with q2|q2
    ·rcases q2.2.2 with q3|q3
     ·rw [q3] at hq;exact h.sent V hV2 q hq hql
     ·rw [q3] at hq
      obtain ⟨y,_,rfl⟩:=List.mem_map.1 hq
      cases hql
    ·exact absurd q2.1 hov
  ·rw [heV V hVW];exact h.sent V hV2
 ·rw [heW,hbe]
end Go.Proofs.Ytdgmcckfdgnicaa
