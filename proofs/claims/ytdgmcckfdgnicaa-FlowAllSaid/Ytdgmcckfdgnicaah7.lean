/-
 FlowAll (plain): sending keeps within what was told.
-/
import Derived.Test.Ytdgmcckfdgnicaah6
set_option linter.unusedVariables false
set_option linter.unusedSimpArgs false
set_option maxRecDepth 20000
namespace Go.Proofs.Ytdgmcckfdgnicaa
open Go Go.Aw Go.Proofs
def flB (l:List Pk):Nat:=(l.map fun p=>p.body.length).sum
theorem flB_cons (p:Pk) (l:List Pk):flB (p::l)=p.body.length+flB l:=by simp [flB]
theorem inFl_bytes {f:Int} {L:List Msg}:∀(l:List Pk),(∀ p∈l,∃i:Nat,L[i]? =some (msg p)∧p.number=f+i)→sumN L.length (fun i=>if f+i∈l.map (fun p=>p.number) then lenM L i else 0)≤flB l
 |[],_=>by
  rw [sumN_zero fun i _=>if_neg (by simp)]
  exact Nat.zero_le _
 | p::l,h=>by
  obtain ⟨j,hj,hn⟩:=h p (List.mem_cons_self ..)
  have hjl:=(List.getElem?_eq_some_iff.1 hj).1
  have ih:=inFl_bytes (L:=L) l fun q hq=>h q (List.mem_cons_of_mem _ hq)
  have h1:sumN L.length (fun i=>if f+i∈(p::l).map (fun p=>p.number) then lenM L i else 0)≤sumN L.length (fun i=>(if i=j then lenM L i else 0)+(if f+i∈l.map (fun p=>p.number) then lenM L i else 0)):=by
   refine sumN_le fun i hi=> ?_
   by_cases hm:f+(i:Int)∈(p::l).map (fun p=>p.number)
   ·rw [if_pos hm]
    rw [List.map_cons,List.mem_cons] at hm
    rcases hm with hm|hm
    ·rw [if_pos (show i=j by omega)];omega
    ·rw [if_pos hm];omega
   ·rw [if_neg hm];exact Nat.zero_le _
  rw [sumN_add,sumN_single hjl] at h1
  rw [flB_cons]
  have:lenM L j=p.body.length:=lenM_some hj
  omega
theorem zs_all:∀{l:List Pk},(∀ p∈l,p.lost=false)→(zs l).length=l.length∧(flB l:Int)≤(zs l).sum
 |[],_=>⟨rfl,by simp [flB,zs]⟩
 |p::l,h=>by
  have ih:=zs_all (l:=l) fun q hq=>h q (List.mem_cons_of_mem _ hq)
  rw [zs_cons,if_neg (by rw [h p (List.mem_cons_self ..)];simp),flB_cons,List.length_cons,List.length_cons,List.sum_cons]
  have:(p.body.length:Int)≤szP p:=by unfold szP;omega
  omega
structure SQ (a:E) (f:Int) (L:List Msg) (w:List UInt8) (acc:Nat→Bool) (R:Int) (e:E) (o:List Sg) (L':List Msg):Prop where
 pre:L <+: L'
 snd:Snd e f L' w
 tot:L'++e.waiting.map msg=L++a.waiting.map msg
 of_:SentOf a e
 fls:FlS e
 mem:∀x∈nums a,x∈nums e
 new:∀i:Nat,L.length≤i→i<L'.length→f+i∈nums e
 endp:EndP e f L'
 sent:∀(i:Nat) (m:Msg),L'[i]? =some m→m.1=4→e.state=3∨e.state=4
 win:((bodies L').length:Int)≤R∨∀i,i+1<L'.length→acc i=true
 lostW:∀p∈e.waiting,p.lost=false
 sub:∀x∈nums e,x∈nums a∨f+L.length≤x
 conv:(e.state=3∨e.state=4)→(a.state=3∨a.state=4)∨∃(i:Nat) (m:Msg),L'[i]? =some m∧m.1=4
 one:a.opener=true→f∈nums e→f∈nums a∨a.state=1
 outn:L.length<L'.length→o≠[]
 cnt:e.flight.length+L.length=a.flight.length+L'.length
 outs:∀p∈o,p.conn=a.conn∧p.window=spaceR a∧p.ack=a.base∧p.marks=markB (lowF (farR a.base a.kept))∧(p.kind=1∨p.kind=2∨p.kind=4)∧SgOk f L' p∧(p.kind=1→f∈nums a∨a.state=1)
structure Told0 (a:E) (f:Int) (L:List Msg) (acc:Nat→Bool) (R:Int):Prop where
 gone:∀i,i<L.length→f+(i:Int)∉nums a→acc i=true
 wd:a.window+accB L acc≤R
 lt:∀i,acc i=true→i<L.length
theorem SQ.knows {a:E} {f:Int} {L:List Msg} {w:List UInt8} {acc accN:Nat→Bool} {R:Int} {e:E} {o:List Sg} {L':List Msg} (h:SQ a f L w accN R e o L') (hT:Told0 a f L acc R) {i:Nat} (hi:i<L'.length) (hn:f+(i:Int)∉nums e):acc i=true:=by
 rcases Nat.lt_or_ge i L.length with g|g
 ·exact hT.gone i g fun hm=>hn (h.mem _ hm)
 ·exact absurd (h.new i g hi) hn
theorem accB_app {acc:Nat→Bool}:∀(X L:List Msg),(∀ i,acc i=true→i<L.length)→accB (L++X) acc=accB L acc
 |[],L,_=>by rw [List.append_nil]
 |m::X,L,h=>by
  rw [show L++m::X=(L++[m])++X by simp,accB_app X (L++[m]) (fun i hi=>by have:=h i hi;rw [List.length_append];omega),accB_grow]
  cases hx:acc L.length with
  |false=>rfl
  |true=>exact absurd (h _ hx) (Nat.lt_irrefl _)
theorem accB_pre {L L':List Msg} {acc:Nat→Bool} (hp:L <+: L') (hlt:∀i,acc i=true→i<L.length):accB L' acc=accB L acc:=by
 obtain ⟨X,rfl⟩:=hp
 exact accB_app X L hlt
theorem SQ.bytes {a:E} {f:Int} {L:List Msg} {w:List UInt8} {acc accN:Nat→Bool} {R:Int} {e:E} {o:List Sg} {L':List Msg} (h:SQ a f L w accN R e o L') (hT:Told0 a f L acc R):(bodies L').length≤accB L acc+flB e.flight:=by
 rw [bodies_all,←accB_pre h.pre hT.lt]
 have h1:=inFl_bytes e.flight h.snd.fl
 have h2:sumN L'.length (lenM L')≤sumN L'.length (fun i=>(if acc i=true then lenM L' i else 0)+(if f+i∈e.flight.map (fun p=>p.number) then lenM L' i else 0)):=by
  refine sumN_le fun i hi=> ?_
  by_cases ha:acc i=true
  ·rw [if_pos ha];omega
  ·have:f+(i:Int)∈e.flight.map (fun p=>p.number):=by
    by_cases hm:f+(i:Int)∈nums e
    ·exact hm
    ·exact absurd (h.knows hT hi hm) ha
   rw [if_pos this];omega
 rw [sumN_add] at h2
 unfold accB
 omega
theorem SQ.again {a:E} {f:Int} {L:List Msg} {w:List UInt8} {acc:Nat→Bool} {R:Int} {e:E} {o:List Sg} {L':List Msg} (h:SQ a f L w acc R e o L') {i:Nat} {p:Pk} (hp:e.flight[i]? =some p) (hl:p.lost=true) (hf:fitsR e p=true)
  (hok:SgOk f L' (madeR (againS e i p) p.kind p.number p.body)):SQ a f L w acc R (againS e i p) (o++[madeR (againS e i p) p.kind p.number p.body]) L':=by
 have hfl:(againS e i p).flight=e.flight.set i {p with lost:=false,sent:=e.now,times:=IntKind.i64.wrap (p.times+1)}:=by
  show ((e.flight.set i {p with lost:=false}).set i {p with lost:=false,sent:=e.now,times:=IntKind.i64.wrap (p.times+1)})=_
  rw [List.set_set]
 have hn:nums (againS e i p)=nums e:=by
  unfold nums
  rw [hfl,List.map_set]
  have:(e.flight.map fun p=>p.number)[i]? =some p.number:=by rw [List.getElem?_map,hp];rfl
  show (e.flight.map fun p=>p.number).set i p.number=_
  rw [← (List.getElem?_eq_some_iff.1 this).2,List.set_getElem_self]
 have hsame:spaceR (againS e i p)=spaceR a∧(againS e i p).base=a.base∧(againS e i p).kept=a.kept∧(againS e i p).conn=a.conn:=by
  obtain ⟨w',fl,n,c,g,st,he,hs⟩:=h.of_.again i p
  rw [he];exact ⟨rfl,rfl,rfl,rfl⟩
 refine ⟨h.pre,h.snd.again hp hl hf,h.tot,h.of_.again i p,⟨by unfold Srt;rw [hn];exact h.fls.srt,by rw [hn];exact h.fls.above⟩,by rw [hn];exact h.mem,by rw [hn];exact h.new,⟨(h.snd.again hp hl hf).fl,by rw [hn];exact h.endp.gone,h.endp.done⟩,h.sent,h.win,h.lostW,by rw [hn];exact h.sub,h.conv,by rw [hn];exact h.one,fun g=>by simp,by rw [hfl,List.length_set];exact h.cnt,fun q hq=> ?_⟩
 rcases List.mem_append.1 hq with hq|hq
 ·exact h.outs q hq
 ·rw [List.mem_singleton.1 hq]
  refine ⟨hsame.2.2.2,hsame.1,hsame.2.1,?_,?_,hok,fun hk=> ?_⟩
  ·show markB (lowF (farR (againS e i p).base (againS e i p).kept))=_
   rw [hsame.2.1,hsame.2.2.1]
  ·exact (h.snd.msgF (List.mem_of_getElem? hp)).1
  ·have hk:p.kind=1:=hk
   obtain ⟨i0,hi0,hin⟩:=h.snd.fl p (List.mem_of_getElem? hp)
   obtain ⟨hz,hop⟩:=(h.snd.tok.first i0 (msg p) (prefix_get ⟨_,rfl⟩ hi0)).1 hk
   have hpn:p.number∈nums e:=List.mem_map.2 ⟨p,List.mem_of_getElem? hp,rfl⟩
   have hao:a.opener=true:=by
    obtain ⟨w',fl,n,c,g,st,he,hs⟩:=h.of_
    rw [he] at hop;exact hop
   refine h.one hao ?_
   rw [hin,hz] at hpn
   simpa using hpn
theorem SQ.fresh {a:E} {f:Int} {L:List Msg} {w:List UInt8} {acc accN:Nat→Bool} {R:Int} {e:E} {o:List Sg} {L':List Msg} (h:SQ a f L w accN R e o L') (hT:Told0 a f L acc R) (hN:∀i,acc i=true→accN i=true) (hf0:0≤f∧f<65536) (hw:w.length<100000) {p:Pk} {ws:List Pk} (hwt:e.waiting=p::ws) (hm:mayR e p=true) (hf:fitsR e p=true) (hcl:∀q∈e.flight,q.lost=false)
  (hok:SgOk f (L'++[msg p]) (madeR (freshS e p ws) p.kind e.next p.body)):SQ a f L w accN R (freshS e p ws) (o++[madeR (freshS e p ws) p.kind e.next p.body]) (L'++[msg p])∧∀q∈(freshS e p ws).flight,q.lost=false:=by
 have hpw:p∈e.waiting:=by rw [hwt];exact List.mem_cons_self ..
 have hlen:=h.snd.len
 have hfl:(freshS e p ws).flight=e.flight++[{p with number:=e.next,sent:=e.now,times:=IntKind.i64.wrap (p.times+1)}]:=by
  show (e.flight++[{p with number:=e.next}]).set e.flight.length {p with number:=e.next,sent:=e.now,times:=IntKind.i64.wrap (p.times+1)}=_
  rw [List.set_append_right _ _ (Nat.le_refl _),Nat.sub_self]
  rfl
 have hn:nums (freshS e p ws)=nums e++[e.next]:=by unfold nums;rw [hfl,List.map_append];rfl
 have hS:=h.snd.fresh hf0 (by omega) hwt (h.lostW p hpw) hf
 have hlt:∀x∈nums e,x<e.next:=fun x hx=>by
  obtain ⟨q,hq,rfl⟩:=List.mem_map.1 hx
  obtain ⟨i,hi,hin⟩:=h.snd.fl q hq
  have:=(List.getElem?_eq_some_iff.1 hi).1
  rw [hin,h.snd.next];omega
 have h4:p.kind=4→e.state=2∨e.state=3:=fun hk=>by
  unfold mayR at hm
  rw [if_neg (by omega)] at hm
  simp at hm
  exact hm.1
 have hst:(freshS e p ws).state=if p.kind=4 then 3 else e.state:=rfl
 have hsame:spaceR (freshS e p ws)=spaceR a∧(freshS e p ws).base=a.base∧(freshS e p ws).kept=a.kept∧(freshS e p ws).conn=a.conn∧e.window=a.window∧e.acked=a.acked∧e.done=a.done:=by
  have ho:=h.of_
  obtain ⟨w',fl,n,c,g,st,he,hs⟩:=h.of_.fresh p ws h4
  rw [he]
  obtain ⟨w1,fl1,n1,c1,g1,st1,he1,hs1⟩:=ho
  rw [he1];exact ⟨rfl,rfl,rfl,rfl,rfl,rfl,rfl⟩
 have hap:∀i m,(L'++[msg p])[i]? =some m→(L'[i]? =some m)∨(i=L'.length∧m=msg p):=fun i m hi=>by
  rcases Nat.lt_or_ge i L'.length with g|g
  ·rw [List.getElem?_append_left g] at hi;exact .inl hi
  ·have hl:=(List.getElem?_eq_some_iff.1 hi).1
   rw [List.length_append,List.length_singleton] at hl
   have:i=L'.length:=by omega
   subst this
   right
   rw [List.getElem?_append_right (Nat.le_refl _),Nat.sub_self] at hi
   exact ⟨rfl,(by simpa using hi.symm)⟩
 refine ⟨⟨h.pre.trans ⟨_,rfl⟩,hS,?_,h.of_.fresh p ws h4,⟨?_,?_⟩,fun x hx=>by rw [hn];exact List.mem_append_left _ (h.mem x hx),fun i hi hil=> ?_,⟨hS.fl,fun i m hi hk=> ?_,fun hd=> ?_⟩,fun i m hi hk=> ?_,?_,fun q hq=>h.lostW q ?_,fun x hx=> ?_,fun hs=> ?_,fun hop hx=> ?_,fun _=>by simp,by rw [hfl,List.length_append,List.length_append,List.length_singleton,List.length_singleton];have:=h.cnt;omega,fun q hq=> ?_⟩,fun q hq=> ?_⟩
 ·rw [← h.tot,hwt]
  show (L'++[msg p])++ws.map msg=_
  simp
 ·unfold Srt
  rw [hn,List.pairwise_append]
  exact ⟨h.fls.srt,List.pairwise_singleton _ _,fun x hx y hy=>by rw [List.mem_singleton.1 hy];exact hlt x hx⟩
 ·intro x hx
  rw [hn] at hx
  show e.acked<x
  rcases List.mem_append.1 hx with hx|hx
  ·exact h.fls.above x hx
  ·rw [List.mem_singleton.1 hx];exact h.snd.acked.2
 ·rw [hn]
  rw [List.length_append,List.length_singleton] at hil
  by_cases hi2:i<L'.length
  ·exact List.mem_append_left _ (h.new i hi hi2)
  ·have:i=L'.length:=by omega
   subst this
   exact List.mem_append_right _ (List.mem_singleton.2 h.snd.next.symm)
 ·rcases hap i m hi with hi|⟨rfl,rfl⟩
  ·rcases h.endp.gone i m hi hk with g|g
   ·left;rw [hn];exact List.mem_append_left _ g
   ·exact .inr g
  ·left
   rw [hn]
   exact List.mem_append_right _ (List.mem_singleton.2 h.snd.next.symm)
 ·obtain ⟨i,m,hi,hk⟩:=h.endp.done hd
  exact ⟨i,m,prefix_get ⟨_,rfl⟩ hi,hk⟩
 ·rw [hst]
  rcases hap i m hi with hi|⟨rfl,rfl⟩
  ·have:=h.sent i m hi hk
   split
   ·exact .inl rfl
   ·exact this
  ·have hk:p.kind=4:=hk
   rw [if_pos hk];exact .inl rfl
 ·have hfo:=fits_ok hf
  obtain ⟨z1,z2⟩:=zs_all hcl
  unfold fitsR at hf
  rw [flyN_zs,flyB_zs] at hf
  simp only [Bool.or_eq_true,decide_eq_true_eq] at hf
  rcases hf with hf|hf
  ·right
   intro i hi
   rw [List.length_append,List.length_singleton] at hi
   refine hN _ (h.knows hT (by omega) fun hx=> ?_)
   have:e.flight=[]:=List.eq_nil_of_length_eq_zero (by omega)
   unfold nums at hx
   rw [this] at hx
   cases hx
  ·left
   have hb:=h.bytes hT
   have hwd:=hT.wd
   rw [bodies_append,List.length_append]
   have h5:(bodies [msg p]).length=p.body.length:=by simp [bodies,msg]
   have h6:(p.body.length:Int)≤szP p:=by unfold szP;omega
   rw [hsame.2.2.2.2.1] at hf
   omega
 ·have hq:q∈ws:=hq
  rw [hwt];exact List.mem_cons_of_mem _ hq
 ·rw [hn] at hx
  rcases List.mem_append.1 hx with hx|hx
  ·exact h.sub x hx
  ·right
   rw [List.mem_singleton.1 hx,h.snd.next]
   have:=h.pre.length_le
   omega
 ·rw [hst] at hs
  by_cases hk:p.kind=4
  ·exact .inr ⟨L'.length,msg p,by simp,hk⟩
  ·rw [if_neg hk] at hs
   rcases h.conv hs with g|⟨i,m,g1,g2⟩
   ·exact .inl g
   ·exact .inr ⟨i,m,prefix_get ⟨_,rfl⟩ g1,g2⟩
 ·rw [hn] at hx
  rcases List.mem_append.1 hx with hx|hx
  ·exact h.one hop hx
  ·right
   have h0:=List.mem_singleton.1 hx
   rw [h.snd.next] at h0
   have hl0:L'.length=0:=by omega
   have heo:e.opener=true∧e.state=a.state∨e.opener=true∧e.state=3:=by
    obtain ⟨w',fl,n,c,g,st,he,hs⟩:=h.of_
    rw [he]
    rcases hs with hs|hs
    ·exact .inl ⟨hop,hs⟩
    ·exact .inr ⟨hop,hs.1⟩
   have heo1:e.opener=true:=by rcases heo with g|g<;> exact g.1
   have hk1:p.kind=1:=by
    have:=(h.snd.tok.first 0 (msg p) (by rw [List.eq_nil_of_length_eq_zero hl0,hwt];rfl)).2 ⟨rfl,heo1⟩
    exact this
   unfold mayR at hm
   rw [if_pos hk1] at hm
   have hm:e.state=1:=by simpa using hm
   rcases heo with g|g
   ·omega
   ·omega
 ·rcases List.mem_append.1 hq with hq|hq
  ·obtain ⟨a1,a2,a3,a4,a5,a6,a7⟩:=h.outs q hq
   exact ⟨a1,a2,a3,a4,a5,a6.mono ⟨_,rfl⟩,a7⟩
  ·rw [List.mem_singleton.1 hq]
   refine ⟨hsame.2.2.2.1,hsame.1,hsame.2.1,?_,(h.snd.msgW hpw).1,hok,fun hk=> ?_⟩
   rotate_left
   ·have hk:p.kind=1:=hk
    unfold mayR at hm
    rw [if_pos hk] at hm
    have hm:e.state=1:=by simpa using hm
    right
    obtain ⟨w',fl,n,c,g,st,he,hs⟩:=h.of_
    rw [he] at hm
    have hm:st=1:=hm
    omega
   show markB (lowF (farR (freshS e p ws).base (freshS e p ws).kept))=_
   rw [hsame.2.1,hsame.2.2.1]
 ·rw [hfl] at hq
  rcases List.mem_append.1 hq with hq|hq
  ·exact hcl q hq
  ·rw [List.mem_singleton.1 hq];exact h.lostW p hpw
end Go.Proofs.Ytdgmcckfdgnicaa
