/-
  A part of the proof of a statement of this seat.
-/
import Derived.Test.Ytdgmcckfdgnicaaj1M
set_option linter.unusedVariables false
set_option linter.unusedSimpArgs false
set_option maxRecDepth 20000
namespace Go.Proofs.Ytdgmcckfdgnicaa
open Go Go.Aw Go.Proofs
def Pend1 (s:PS) (f:Nat→Int) (L:Nat→List Msg) (k:Nat→Nat) (W:Nat):Prop:=
 ∃q∈s.way W,(q.kind=2∨q.kind=4)∧∃j:Nat,(L W)[j]? =some (q.kind,q.body)∧q.seq=(f W+j)%65536∧f W+(j:Int)∈nums (s.e W)∧j≤k W
def Pend2 (s:PS) (f:Nat→Int) (L:Nat→List Msg) (W:Nat):Prop:=
 ∃q∈s.way (1 - W),Ackd q∧∃kp:Nat,q.ack=(f W+kp - 1)%65536∧kp≤(L W).length∧∃x∈nums (s.e W),x≤f W+kp - 1
structure ST (s:PS) (f:Nat→Int) (conn room limit:Int) (L:Nat→List Msg) (c:Nat) (k:Nat→Nat):Prop where
 sv:SV s f conn room limit L c k
 ways:∀W,W<2→(s.way W).length≤1000
 ans:∀W,W<2→(s.e W).answer=false
 blk:∀W,W<2→Blk (s.e W)
 heard:(s.e 1).heard=true
 acks:∀W,W<2→∀q∈s.way W,Ackd q
 wins:∀W,W<2→∀q∈s.way W,q.window=spaceR (s.e W)
 outs:∀W,W<2→(s.e W).outs≤4∨((s.e W).outs=5∧(Pend2 s f L W∨(Pend1 s f L k W∧∀p∈(s.e W).flight,p.lost=false→s.now - 250≤p.sent)))
def OvA (e:E) (now:Int):Prop:=over2 {e with now:=now}={e with now:=now}∧∀p∈e.flight,p.lost=false→∃q∈e.flight,q.lost=false∧now - q.sent≤1000*pw2 e.outs
def OvB (e:E) (now:Int):Prop:=e.outs≤4∧ (∃ p,p∈e.flight)∧over2 {e with now:=now}={e with now:=now,outs:=e.outs+1,flight:=allLost e.flight}
section
variable {s m z:PS} {f:Nat→Int} {conn room limit:Int} {L L':Nat→List Msg} {k k':Nat→Nat} {c:Nat} {t o:Nat→List Sg}
theorem take_all {l:List Sg} (h:l.length≤1000):l.take (arrN 1000 l)=l∧l.drop (arrN 1000 l)=[]:=by
 have:arrN 1000 l=l.length:=by unfold arrN;omega
 rw [this]
 exact ⟨List.take_length,List.drop_length⟩
theorem ST.t_eq (h:ST s f conn room limit L c k) (hT:Tn s m f conn room limit L c k k' t) {W:Nat} (hW:W<2):t W=s.way (1 - W)∧m.way W=[]:=
 ⟨(hT.tw W hW).tt.trans (take_all (h.ways _ (by omega))).1,(hT.way W hW).trans (take_all (h.ways W hW)).2⟩
theorem Pend2.prog (h:ST s f conn room limit L c k) (hT:Tn s m f conn room limit L c k k' t) {W:Nat} (hW:W<2) (hP:Pend2 s f L W):(m.e W).outs=0∧(m.e W).flight.length<(s.e W).flight.length:=by
 obtain ⟨q,hq,hk,kp,ha,hkp,x,hx,hle⟩:=hP
 rcases (hT.tw W hW).fl with ⟨g,_⟩|g
 ·have:=(hT.tw W hW).acks q (by rw [(h.t_eq hT hW).1];exact hq) hk kp ha hkp x (by rw [nums_same g];exact hx)
  omega
 ·exact g
theorem ST.ov (h:ST s f conn room limit L c k) (hT:Tn s m f conn room limit L c k k' t) (ht:s.now≤1000000000) {W:Nat} (hW:W<2):OvA (m.e W) m.now∨OvB (m.e W) m.now:=by
 have hout:=hT.sv.x.out W hW
 have hs5:=hT.sv.a.st5 W hW
 have hse:=hT.sv.sent W hW
 have hnn:=hT.sv.a.base.now
 have hmn:m.now=s.now:=hT.now.1
 have ho:(m.e W).outs≤4∨((m.e W).outs=5∧∀p∈(m.e W).flight,p.lost=false→m.now - 250≤p.sent):=by
  rcases (hT.tw W hW).fl with ⟨g1,g2⟩|g
  ·rcases h.outs W hW with a|⟨a,b⟩
   ·left;omega
   ·rcases b with b|⟨_,b⟩
    ·have:=(b.prog h hT hW).1;omega
    ·right
     exact ⟨by omega,fun p hp hl=>by rw [g1] at hp;rw [hmn];exact b p hp hl⟩
  ·left;omega
 rcases over_cases (e:={m.e W with now:=m.now}) hout (by show (m.e W).outs≤5;omega) hs5.1 (by show 0≤m.now∧m.now≤_;omega) hse with ⟨g1,g2⟩|⟨⟨p,hp,hl,g1⟩,g2⟩
 ·left
  refine ⟨g1,fun p hp hl=> ?_⟩
  rcases g2 p hp hl with q|⟨x,hx,hxl,q,_⟩
  ·exact ⟨p,hp,hl,q⟩
  ·exact ⟨x,hx,hxl,q⟩
 ·rcases ho with q|⟨q1,q2⟩
  ·right
   exact ⟨q,⟨p,hp⟩,g2 (by show (m.e W).outs<5;omega)⟩
  ·exfalso
   have a:=q2 p hp hl
   have b:m.now - p.sent>1000*pw2 (m.e W).outs:=g1
   rw [q1] at b
   have:pw2 5=32:=by decide
   omega
theorem OvA.ne {e:E} {now:Int} (h:OvA e now∨OvB e now) (h5:e.state≠5):(over2 {e with now:=now}).state≠5:=by
 rcases h with ⟨g,_⟩|⟨_,_,g⟩
 ·rw [g];exact h5
 ·rw [g];exact h5
theorem pend2_next (h:ST s f conn room limit L c k) (hT:Tn s m f conn room limit L c k k' t) (hS:Sn m z f conn room limit L L' (c+2) k' o) {W:Nat} (hW:W<2) (hfl:(m.e W).flight=(s.e W).flight) (ha:(m.e (1 - W)).answer=true) {i:Nat} (hi:f W+(i:Int)∈nums (s.e W)) (hik:i<k' W):Pend2 z f L' W:=by
 have hV:1 - W<2:=by omega
 have hVV:1 - (1 - W)=W:=by omega
 obtain ⟨acc,R,sA⟩:=(hS.sw W hW).sA
 obtain ⟨acc2,R2,sB⟩:=(hS.sw _ hV).sA
 have hO:=hT.sv.opn _ hV
 have hne:=sB.ansO ha (by unfold Opn at hO;omega)
 have hw:z.way (1 - W)=o (1 - W):=by rw [hS.way _ hV,(h.t_eq hT hV).2];rfl
 cases hx:o (1 - W) with
 |nil=>exact absurd hx hne
 |cons q l=>
  have hq:q∈o (1 - W):=by rw [hx];exact List.mem_cons_self ..
  obtain ⟨g1,g2⟩:=(hS.sw _ hV).acks q hq
  rw [hVV] at g2
  exact ⟨q,by rw [hw];exact hq,g1,k' W,g2,(hS.sv.a.dir W hW).kk.inf.le,_,sA.mem _ (by rw [nums_same hfl];exact hi),by omega⟩
theorem Pend1.next (h:ST s f conn room limit L c k) (hT:Tn s m f conn room limit L c k k' t) (hS:Sn m z f conn room limit L L' (c+2) k' o) {W:Nat} (hW:W<2) (hfl:(m.e W).flight=(s.e W).flight) (hP:Pend1 s f L k W):Pend2 z f L' W:=by
 have hV:1 - W<2:=by omega
 have hVV:1 - (1 - W)=W:=by omega
 obtain ⟨q,hq,hk,j,hj,hjs,hjn,hjk⟩:=hP
 have htw:=hT.tw _ hV
 have hteq:=(h.t_eq hT hV).1
 rw [hVV] at htw hteq
 have hqt:q∈t (1 - W):=by rw [hteq];exact hq
 exact pend2_next h hT hS hW hfl (htw.ans1 q hqt hk) hjn (htw.data q hqt hk j hj hjs hjk)
theorem send1_out {b:E} (hr:b.replies=false) (h5:b.state≠5) (h0:b.state≠0) (hne:(dueGo b []).2≠[]):(send1 b).2=(dueGo b []).2:=by
 unfold send1
 rw [if_neg (by rw [hr];simp)]
 unfold send2
 rw [if_neg (by omega)]
 unfold send3
 rw [if_neg (by simp [hne]),if_neg hne]
theorem timeout_pend1 (h:ST s f conn room limit L c k) (hT:Tn s m f conn room limit L c k k' t) (hS:Sn m z f conn room limit L L' (c+2) k' o) {W:Nat} (hW:W<2) (hB:OvB (m.e W) m.now):Pend1 z f L' k' W:=by
 obtain ⟨_,⟨p1,hp1⟩,hov⟩:=hB
 obtain ⟨acc,R,sA⟩:=(hS.sw W hW).sA
 have hO:=hT.sv.opn W hW
 have hs5:=hT.sv.a.st5 W hW
 have hD:=hT.sv.a.dir W hW
 have hSn:=(hT.sv.a.base.both W hW).snd
 cases hx:(m.e W).flight with
 |nil=>rw [hx] at hp1;cases hp1
 | cons p l=>
  have hpm:p∈(m.e W).flight:=by rw [hx];exact List.mem_cons_self ..
  obtain ⟨i,hi,hin⟩:=hSn.fl p hpm
  have hpn:f W+(i:Int)∈nums (m.e W):=by rw [← hin];exact List.mem_map_of_mem hpm
  obtain ⟨bb,hbb⟩:∃bb,bb=over2 {m.e W with now:=m.now}:=⟨_,rfl⟩
  have hbf:bb.flight={p with lost:=true}::allLost l:=by rw [hbb,hov];show allLost (m.e W).flight=_;rw [hx];rfl
  have hbs:bb.state=(m.e W).state∧bb.replies=false:=by rw [hbb,hov];exact ⟨rfl,hs5.2.1⟩
  obtain ⟨q,hq,hqk,hqb,hqs⟩:=due_first hbf (zs_none fun y hy=>by
   rw [hbf] at hy
   rcases List.mem_cons.1 hy with rfl|hy
   ·rfl
   ·obtain ⟨x,_,rfl⟩:=List.mem_map.1 hy;rfl)
  have hne:(dueGo bb []).2≠[]:=fun g=>by rw [g] at hq;cases hq
  have hso:=send1_out hbs.2 (by rw [hbs.1];exact hs5.1) (by rw [hbs.1];unfold Opn at hO;omega) hne
  have hoW:q∈o W:=by rw [(hS.sw W hW).oeq,←hbb,hso];exact hq
  have hqk:q.kind=p.kind:=hqk
  have hqb:q.body=p.body:=hqb
  have hqs:q.seq=p.number%65536:=hqs
  have hpre:L W++(m.e W).waiting.map msg=L W++(m.e W).waiting.map msg:=rfl
  have hit:=prefix_get (L':=L W++(m.e W).waiting.map msg) ⟨_,rfl⟩ hi
  have hk24:p.kind=2∨p.kind=4:=by
   have h1:=(hSn.tok.kinds _ (List.mem_of_getElem? hit)).1
   have h2:=hSn.tok.first i _ hit
   have h1:p.kind=1∨p.kind=2∨p.kind=4:=h1
   rcases h1 with g|g
   ·exfalso
    have h3:=h2.1 g
    rw [(hT.sv.a.base.fix W hW).opener] at h3
    have hW0:W=0:=by simpa using h3.2
    subst hW0
    have:=(hT.sv.x.x2 (by unfold Opn at hO;omega)).2 _ hpn
    omega
   ·exact g
  refine ⟨q,by rw [hS.way W hW];exact List.mem_append_right _ hoW,by rw [hqk];exact hk24,i,?_,by rw [hqs,hin],sA.mem _ hpn,?_⟩
  ·rw [hqk,hqb];exact prefix_get sA.pre hi
  ·-- all before it was taken
   by_cases g:i≤k' W
   ·exact g
   ·exfalso
    have hil:=(List.getElem?_eq_some_iff.1 hi).1
    have hn:f W+((k' W:Nat):Int)∉nums (m.e W):=fun hm=>by
     have hsrt:=hD.fls.srt
     unfold Srt nums at hsrt
     unfold nums at hm
     rw [hx,List.map_cons] at hsrt hm
     rcases List.mem_cons.1 hm with a|a
     ·omega
     ·have:=(List.pairwise_cons.1 hsrt).1 _ a
      omega
    have:=hT.sv.gone hW (by omega:k' W<(L W).length) hn
    omega
end
end Go.Proofs.Ytdgmcckfdgnicaa

set_option linter.unusedVariables false
set_option linter.unusedSimpArgs false
set_option maxRecDepth 20000
namespace Go.Proofs.Ytdgmcckfdgnicaa
open Go Go.Aw Go.Proofs
def pauseR (s:PS):Int:=if s.way 0=[]∧s.way 1=[] then 60250 else 250
def nextS (s:PS):PS:={s with now:=s.now+pauseR s}
theorem pauseR_rng (s:PS):250≤pauseR s∧pauseR s≤60250:=by unfold pauseR;split<;> omega
theorem fits_mono {a b:E} (h1:b.flight=a.flight) (h2:b.limit=a.limit) (h3:b.window≤a.window) {p:Pk} (h:fitsR b p=true):fitsR a p=true:=by
 unfold fitsR at h ⊢
 rw [h1,h2] at h
 rcases Bool.or_eq_true_iff.1 h with g|g
 ·rw [g];rfl
 ·have g:=of_decide_eq_true g
  rw [Bool.or_eq_true_iff]
  right
  exact decide_eq_true (by omega)
theorem Blk.mono {a b:E} (h:Blk a) (h1:b.flight=a.flight) (h2:b.limit=a.limit) (h3:b.window≤a.window) (h4:b.waiting=a.waiting) (hm:∀p,mayR b p=true→mayR a p=true):Blk b:=by
 rcases h with ⟨i,p,hp,hl,hf,hj⟩|⟨hc,hh⟩
 ·left
  refine ⟨i,p,by rw [h1];exact hp,hl,?_,fun j q hji hq=>hj j q hji (by rw [← h1];exact hq)⟩
  cases g:fitsR b p with
  |false=>rfl
  |true=>rw [fits_mono h1 h2 h3 g] at hf;cases hf
 ·right
  refine ⟨fun q hq=>hc q (by rw [← h1];exact hq),?_⟩
  rcases hh with g|⟨p,ws,g1,g2⟩
  ·exact .inl (h4.trans g)
  ·refine .inr ⟨p,ws,h4.trans g1,?_⟩
   cases g:mayR b p with
   |false=>rfl
   |true=>
    cases g':fitsR b p with
    |false=>rfl
    |true=>rw [hm p g,fits_mono h1 h2 h3 g'] at g2;cases g2
theorem send1_blk {b:E} (hr:b.replies=false) (h5:b.state≠5) (h0:b.state≠0) (hB:Blk b): (∀ q∈(send1 b).2,q.kind=3)∧(b.answer=false→(send1 b).2=[]):=by
 unfold send1
 rw [if_neg (by rw [hr];simp)]
 unfold send2
 rw [if_neg (by omega),hB.due]
 unfold send3
 dsimp only
 by_cases ha:b.answer=true
 ·rw [if_pos ⟨rfl,ha⟩]
  exact ⟨fun q hq=>by rw [List.mem_singleton.1 hq];rfl,fun g=>by rw [ha] at g;cases g⟩
 ·rw [if_neg (by simp [ha]),if_pos rfl]
  exact ⟨by simp,fun _=>rfl⟩
section
variable {s m z:PS} {f:Nat→Int} {conn room limit:Int} {L L':Nat→List Msg} {k k':Nat→Nat} {c:Nat} {t o:Nat→List Sg}
theorem still_out (hT:Tn s m f conn room limit L c k k' t) (hS:Sn m z f conn room limit L L' (c+2) k' o) {W:Nat} (hW:W<2) (hA:OvA (m.e W) m.now) (hB:Blk (m.e W)): (∀ q∈o W,q.kind=3)∧((m.e W).answer=false→o W=[]):=by
 have hs5:=hT.sv.a.st5 W hW
 have hO:=hT.sv.opn W hW
 have:=send1_blk (b:={m.e W with now:=m.now}) hs5.2.1 hs5.1 (by show (m.e W).state≠0;unfold Opn at hO;omega) hB
 rw [← hA.1,←(hS.sw W hW).oeq] at this
 refine ⟨this.1,fun g=>this.2 ?_⟩
 rw [hA.1];exact g
theorem blk_keep (h:ST s f conn room limit L c k) (hT:Tn s m f conn room limit L c k k' t) {W:Nat} (hW:W<2) (hfl:(m.e W).flight=(s.e W).flight) (hw:(m.e W).window≤(s.e W).window):Blk (m.e W):=by
 have htw:=hT.tw W hW
 have hO:=h.sv.opn W hW
 refine (h.blk W hW).mono hfl htw.keep.2.1 hw htw.keep.1 fun p hp=> ?_
 have hop:((s.e W).opener||(s.e W).heard)=true:=by
  rcases (by omega:W=0∨W=1) with rfl|rfl
  ·rw [(h.sv.a.base.fix 0 hW).opener];rfl
  ·rw [h.heard];simp
 unfold mayR at hp ⊢
 unfold Opn at hO
 by_cases hk:p.kind=1
 ·rw [if_pos hk] at hp
  have:=of_decide_eq_true hp
  rcases htw.state with g|⟨g1,g2⟩<;> omega
 ·rw [if_neg hk] at hp ⊢
  rw [hop,Bool.and_true]
  have hp:=(Bool.and_eq_true_iff.1 hp).1
  rcases Bool.or_eq_true_iff.1 hp with g|g
  ·have g:=of_decide_eq_true g
   rw [show (s.e W).state=2 by rcases htw.state with q|⟨q1,q2⟩<;> omega];rfl
  ·have g:=of_decide_eq_true g
   rw [show (s.e W).state=3 by rcases htw.state with q|⟨q1,q2⟩<;> omega];rfl
theorem keyB_le {r r':E} {f0:Int} {l:List Msg} {k0:Nat} (h:KInf r f0 l k0) (h':KInf r' f0 l k0) (hL:l.length≤60000) (ha:AccLe l f0 r r' k0 k0):keptB r.kept≤keptB r'.kept:=by
 rw [← keyB_eq hL h.ok,←keyB_eq hL h'.ok]
 refine sumN_le fun i hi=> ?_
 by_cases g:keyP f0 r.kept i=true
 ·rw [if_pos g]
  rcases ha.2 i hi g with q|q
  ·have:=h.key hL hi g;omega
  ·rw [if_pos q];exact Nat.le_refl _
 ·rw [if_neg g];exact Nat.zero_le _
theorem space_le (h:ST s f conn room limit L c k) (hT:Tn s m f conn room limit L c k k' t) {W:Nat} (hW:W<2) (hk:k' W=k W):spaceR (m.e (1 - W))≤spaceR (s.e (1 - W)):=by
 have hV:1 - W<2:=by omega
 have hVV:1 - (1 - W)=W:=by omega
 have ha:=(hT.tw _ hV).acc
 rw [hVV,hk] at ha
 have h1:=(h.sv.a.dir W hW).kk.inf
 have h2:=(hT.sv.a.dir W hW).kk.inf
 rw [hk] at h2
 have hlv:=h.sv.a.base.len hW
 have:=keyB_le h1 h2 (by omega) ha
 have r1:=(h.sv.a.base.fix _ hV).room
 have r2:=(hT.sv.a.base.fix _ hV).room
 unfold spaceR
 rw [h.sv.rdy _ hV,hT.sv.rdy _ hV,r1,r2]
 simp only [List.length_nil]
 omega
theorem SV.later (h:SV s f conn room limit L c k) (d:Int) (hd:0≤d):SV {s with now:=s.now+d} f conn room limit L c k:=
 ⟨h.a.later d hd,h.x.later d,h.opn,h.cl,h.tot,h.rdy,fun W hW p hp hl=>by have:=h.sent W hW p hp hl;show 0≤p.sent∧p.sent≤s.now+d;omega⟩
theorem Sn.keep (hS:Sn m z f conn room limit L L' (c+2) k' o) {W:Nat} (hW:W<2):spaceR (z.e W)=spaceR (m.e W)∧(z.e W).window=(m.e W).window∧(z.e W).heard=(m.e W).heard∧((z.e W).state=(m.e W).state∨((z.e W).state=3∧((m.e W).state=2∨(m.e W).state=3)))∧(z.e W).flight.length+(z.e W).waiting.length=(m.e W).flight.length+(m.e W).waiting.length:=by
 obtain ⟨acc,R,sA⟩:=(hS.sw W hW).sA
 have hcnt:=sA.cnt
 have htot:=congrArg List.length sA.tot
 rw [List.length_append,List.length_append,List.length_map,List.length_map] at htot
 obtain ⟨bw,bfl,bn,bc,bg,bst,bou,hbe,hbs⟩:=sA.of_
 have h1:spaceR (z.e W)=spaceR (m.e W)∧(z.e W).window=(m.e W).window∧(z.e W).heard=(m.e W).heard∧((z.e W).state=(m.e W).state∨((z.e W).state=3∧((m.e W).state=2∨(m.e W).state=3))):=by
  rw [hbe]
  exact ⟨rfl,rfl,rfl,hbs⟩
 exact ⟨h1.1,h1.2.1,h1.2.2.1,h1.2.2.2,by omega⟩
theorem ST.next (h:ST s f conn room limit L c k) (hT:Tn s m f conn room limit L c k k' t) (hS:Sn m z f conn room limit L L' (c+2) k' o) (ht:s.now≤1000000000):ST (nextS z) f conn room limit L' (c+2) k':=by
 have hpr:=pauseR_rng z
 have hway:∀W,W<2→z.way W=o W:=fun W hW=>by rw [hS.way W hW,(h.t_eq hT hW).2];rfl
 refine ⟨hS.sv.later _ (by omega),fun W hW=> ?_,fun W hW=>(hS.sw W hW).ans,fun W hW=>(hS.sw W hW).blk,?_,fun W hW q hq=> ?_,fun W hW q hq=> ?_,fun W hW=> ?_⟩
 ·show (z.way W).length≤1000
  have:=(hS.sw W hW).len
  rw [hway W hW];omega
 ·exact (hS.keep (by omega:1<2)).2.2.1.trans ((hT.tw 1 (by omega)).heardM h.heard)
 ·have hq:q∈z.way W:=hq
  rw [hway W hW] at hq
  exact ((hS.sw W hW).acks q hq).1
 ·have hq:q∈z.way W:=hq
  rw [hway W hW] at hq
  exact ((hS.sw W hW).wins q hq).trans (hS.keep hW).1.symm
 ·have hs5:=hT.sv.a.st5 W hW
  rcases h.ov hT ht hW with hA|hB
  ·have hou:(z.e W).outs=(m.e W).outs:=by
    rw [(hS.sw W hW).eq,(send1_due (by rw [hA.1];exact hs5.2.1)).2,hA.1]
   rcases (hT.tw W hW).fl with ⟨g1,g2⟩|⟨g,_⟩
   ·rcases h.outs W hW with a|⟨a,b⟩
    ·left
     show (z.e W).outs≤4
     omega
    ·right
     refine ⟨?_,.inl ?_⟩
     ·show (z.e W).outs=5
      omega
     ·rcases b with b|⟨b,_⟩
      ·have:=(b.prog h hT hW).1;omega
      ·exact b.next h hT hS hW g1
   ·left
    show (z.e W).outs≤4
    omega
  ·have hP:=timeout_pend1 h hT hS hW hB
   have hou:(z.e W).outs=(m.e W).outs+1:=by
    rw [(hS.sw W hW).eq,(send1_due (by rw [hB.2.2];exact hs5.2.1)).2,hB.2.2]
   have h4:=hB.1
   by_cases g:(z.e W).outs≤4
   ·exact .inl g
   ·right
    refine ⟨?_,.inr ⟨hP,fun p hp hl=> ?_⟩⟩
    ·show (z.e W).outs=5
     omega
    ·have hp:p∈(z.e W).flight:=hp
     have hps:p.sent=m.now:=by
      rw [(hS.sw W hW).eq] at hp
      rcases send1_sent (by rw [hB.2.2];exact hs5.2.1) p hp hl with g|⟨q,hq,hql,_⟩
      ·rw [g,hB.2.2]
      ·rw [hB.2.2] at hq
       obtain ⟨y,_,rfl⟩:=List.mem_map.1 hq
       cases hql
     have hpa:pauseR z=250:=by
      unfold pauseR
      rw [if_neg]
      rintro ⟨g0,g1⟩
      obtain ⟨q,hq,_⟩:=hP
      rcases (by omega:W=0∨W=1) with rfl|rfl
      ·rw [g0] at hq;cases hq
      ·rw [g1] at hq;cases hq
     show z.now+pauseR z - 250≤p.sent
     rw [hpa,hps,hS.now.1];omega
def MM (s:PS):Nat:=(s.e 0).flight.length+(s.e 0).waiting.length+((s.e 1).flight.length+(s.e 1).waiting.length)
theorem MM_le (hT:Tn s m f conn room limit L c k k' t) (hS:Sn m z f conn room limit L L' (c+2) k' o):MM z≤MM s∧∀W,W<2→(m.e W).flight.length<(s.e W).flight.length→MM z<MM s:=by
 have key:∀W,W<2→(z.e W).flight.length+(z.e W).waiting.length=(m.e W).flight.length+(s.e W).waiting.length∧(m.e W).flight.length≤(s.e W).flight.length:=fun W hW=>by
  have h1:=(hS.keep hW).2.2.2.2
  have h2:=(hT.tw W hW).keep.1
  rw [h2] at h1
  refine ⟨h1,?_⟩
  rcases (hT.tw W hW).fl with ⟨g,_⟩|⟨_,g⟩
  ·rw [g];omega
  ·omega
 have a:=key 0 (by omega)
 have b:=key 1 (by omega)
 unfold MM
 refine ⟨by omega,fun W hW g=> ?_⟩
 rcases (by omega:W=0∨W=1) with rfl|rfl<;> omega
end
end Go.Proofs.Ytdgmcckfdgnicaa
