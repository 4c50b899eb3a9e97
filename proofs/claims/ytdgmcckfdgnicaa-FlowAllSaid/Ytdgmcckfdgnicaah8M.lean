/-
  A part of the proof of a statement of this seat.
-/
import Derived.Test.Ytdgmcckfdgnicaah7
set_option linter.unusedVariables false
set_option linter.unusedSimpArgs false
set_option maxRecDepth 20000
namespace Go.Proofs.Ytdgmcckfdgnicaa
open Go Go.Aw Go.Proofs
def Clean (e:E):Prop:=∀q∈e.flight,q.lost=false
def HeadNo (e:E):Prop:=e.waiting=[]∨∃p ws,e.waiting=p::ws∧(mayR e p&&fitsR e p)=false
def LostNo (e:E):Prop:=∃(i:Nat) (p:Pk),e.flight[i]? =some p∧p.lost=true∧fitsR e p=false∧∀(j:Nat) (q:Pk),j<i→e.flight[j]? =some q→q.lost=false
def Blk (e:E):Prop:=LostNo e∨(Clean e∧HeadNo e)
structure Rng (a:E):Prop where
 conn:0≤a.conn∧a.conn<65536
 room:0≤a.room∧a.room≤1000000
 base:0≤a.base∧a.base<65536
 now:0≤a.now
section
variable {a:E} {f:Int} {L:List Msg} {w:List UInt8} {acc accN:Nat→Bool} {R:Int} (hr:Rng a)
include hr
theorem made_again {e:E} {L':List Msg} (hS:Snd e f L' w) (hof:SentOf a e) {i:Nat} {p:Pk} (hp:e.flight[i]? =some p):SgOk f L' (madeR (againS e i p) p.kind p.number p.body):=by
 have hpm:=hS.msgF (List.mem_of_getElem? hp)
 obtain ⟨j,hj,hjn⟩:=hS.fl p (List.mem_of_getElem? hp)
 refine ⟨?_,fun _=>⟨j,hj,by show p.number%65536=_;rw [hjn]⟩⟩
 obtain ⟨w',fl,n,c,g,st,he,hs⟩:=hof.again i p
 rw [he]
 exact made_ok (by omega) hpm.2.2 (hpm.2.1.trans lenpos) hr.conn hr.room hr.base hr.now
theorem made_fresh {e:E} {L':List Msg} (hS:Snd e f L' w) (hof:SentOf a e) {p:Pk} {ws:List Pk} (hwt:e.waiting=p::ws) (hm:mayR e p=true):SgOk f (L'++[msg p]) (madeR (freshS e p ws) p.kind e.next p.body):=by
 have hpm:=hS.msgW (p:=p) (by rw [hwt];exact List.mem_cons_self ..)
 have h4:p.kind=4→e.state=2∨e.state=3:=fun hk=>by
  unfold mayR at hm
  rw [if_neg (by omega)] at hm
  simp at hm
  exact hm.1
 refine ⟨?_,fun _=>⟨L'.length,by simp [msg,madeR],by show e.next%65536=_;rw [hS.next]⟩⟩
 obtain ⟨w',fl,n,c,g,st,he,hs⟩:=hof.fresh p ws h4
 rw [he]
 exact made_ok (by omega) hpm.2.2 (hpm.2.1.trans lenpos) hr.conn hr.room hr.base hr.now
theorem againGo_SQ {L':List Msg}:∀(k i:Nat) (s:E) (o:List Sg),SQ a f L w accN R s o L'→ (∀ (j:Nat) (q:Pk),j<i→s.flight[j]? =some q→q.lost=false)→s.flight.length≤i+k→
  SQ a f L w accN R (againGo k i s o).2.1 (againGo k i s o).2.2 L'∧((againGo k i s o).1=true→Clean (againGo k i s o).2.1)∧((againGo k i s o).1=false→LostNo (againGo k i s o).2.1)
 |0,i,s,o,h,hcl,hl=>by
  refine ⟨h,fun _ q hq=> ?_,fun g=>by cases g⟩
  obtain ⟨j,hj⟩:=List.getElem?_of_mem hq
  have hj:s.flight[j]? =some q:=hj
  have hjl:=(List.getElem?_eq_some_iff.1 hj).1
  exact hcl j q (by omega) hj
 | k +1,i,s,o,h,hcl,hl=>by
  unfold againGo
  cases hp:s.flight[i]? with
  |none=>
   refine ⟨h,fun _ q hq=> ?_,fun g=>by cases g⟩
   obtain ⟨j,hj⟩:=List.getElem?_of_mem hq
   have hj:s.flight[j]? =some q:=hj
   have hjl:=(List.getElem?_eq_some_iff.1 hj).1
   have:=List.getElem?_eq_none_iff.1 hp
   exact hcl j q (by omega) hj
  | some p=>
   dsimp only
   have hil:=(List.getElem?_eq_some_iff.1 hp).1
   split
   ·rename_i hlo
    split
    ·rename_i hf
     have hfl:(againS s i p).flight=s.flight.set i {p with lost:=false,sent:=s.now,times:=IntKind.i64.wrap (p.times+1)}:=by
      show ((s.flight.set i {p with lost:=false}).set i {p with lost:=false,sent:=s.now,times:=IntKind.i64.wrap (p.times+1)})=_
      rw [List.set_set]
     refine againGo_SQ k (i+1) _ _ (h.again hp hlo hf (made_again hr h.snd h.of_ hp)) (fun j q hj hq=> ?_) (by rw [hfl,List.length_set];omega)
     rw [hfl,List.getElem?_set] at hq
     by_cases hij:i=j
     ·rw [if_pos hij,if_pos hil] at hq
      rw [← Option.some.inj hq]
     ·rw [if_neg hij] at hq
      exact hcl j q (by omega) hq
    ·rename_i hf
     exact ⟨h,(fun g=>by cases g),fun _=>⟨i,p,hp,hlo,by simpa using hf,hcl⟩⟩
   ·rename_i hlo
    refine againGo_SQ k (i+1) s o h (fun j q hj hq=> ?_) (by omega)
    by_cases hij:j=i
    ·subst hij
     rw [hp] at hq
     rw [← Option.some.inj hq]
     simpa using hlo
    ·exact hcl j q (by omega) hq
theorem newGo_SQ (hT:Told0 a f L acc R) (hN:∀i,acc i=true→accN i=true) (hf0:0≤f∧f<65536) (hw:w.length<100000):∀(k:Nat) (s:E) (o:List Sg) (L':List Msg),SQ a f L w accN R s o L'→Clean s→s.waiting.length≤k→
  ∃L2,SQ a f L w accN R (newGo k s o).1 (newGo k s o).2 L2∧Clean (newGo k s o).1∧HeadNo (newGo k s o).1
 |0,s,o,L',h,hcl,hl=>⟨L',h,hcl,.inl (List.eq_nil_of_length_eq_zero (by show s.waiting.length=0;omega))⟩
 | k+1,s,o,L',h,hcl,hl=>by
  unfold newGo
  cases hws:s.waiting with
  |nil=>exact ⟨L',h,hcl,.inl hws⟩
  | cons p ws=>
   dsimp only
   split
   ·rename_i hc
    rw [Bool.and_eq_true] at hc
    obtain ⟨h2,hcl2⟩:=h.fresh hT hN hf0 hw hws hc.1 hc.2 hcl (made_fresh hr h.snd h.of_ hws hc.1)
    refine newGo_SQ hT hN hf0 hw k _ _ _ h2 hcl2 ?_
    show ws.length≤k
    rw [hws,List.length_cons] at hl
    omega
   ·rename_i hc
    exact ⟨L',h,hcl,.inr ⟨p,ws,hws,by simpa using hc⟩⟩
theorem dueGo_SQ (hT:Told0 a f L acc R) (hN:∀i,acc i=true→accN i=true) (hf0:0≤f∧f<65536) (hw:w.length<100000) {s:E} {o:List Sg} {L':List Msg} (h:SQ a f L w accN R s o L'):∃L2,SQ a f L w accN R (dueGo s o).1 (dueGo s o).2 L2∧Blk (dueGo s o).1:=by
 unfold dueGo goC
 obtain ⟨h1,h2,h3⟩:=againGo_SQ hr (s.flight.length - 0) 0 s o h (fun j q hj=>by omega) (by omega)
 rcases hx:againGo (s.flight.length - 0) 0 s o with ⟨b,s1,o1⟩
 rw [hx] at h1 h2 h3
 simp only [hx]
 dsimp only at h1 h2 h3
 cases b with
 |false=>exact ⟨L',h1,.inl (h3 rfl)⟩
 |true=>
  obtain ⟨L2,g1,g2,g3⟩:=newGo_SQ hr hT hN hf0 hw s1.waiting.length s1 o1 L' h1 (h2 rfl) (Nat.le_refl _)
  exact ⟨L2,g1,.inr ⟨g2,g3⟩⟩
end
theorem againGo_skip:∀(k i:Nat) (s:E) (o:List Sg),(∀ (j:Nat) (q:Pk),i≤j→j<i+k→s.flight[j]? =some q→q.lost=false)→againGo k i s o=(true,s,o)
 |0,i,s,o,_=>rfl
 | k+1,i,s,o,h=>by
  unfold againGo
  cases hp:s.flight[i]? with
  |none=>rfl
  |some p=>
   dsimp only
   rw [if_neg (by rw [h i p (Nat.le_refl _) (by omega) hp];simp)]
   exact againGo_skip k (i+1) s o fun j q h1 h2=>h j q (by omega) (by omega)
theorem againGo_stop:∀(k i n:Nat) (s:E) (o:List Sg) (p:Pk),s.flight[i+n]? =some p→p.lost=true→fitsR s p=false→ (∀ (j:Nat) (q:Pk),i≤j→j<i+n→s.flight[j]? =some q→q.lost=false)→n<k→againGo k i s o=(false,s,o)
 |0,i,n,s,o,p,_,_,_,_,hk=>by omega
 |k+1,i,0,s,o,p,hp,hl,hf,_,_=>by
  unfold againGo
  rw [Nat.add_zero] at hp
  rw [hp]
  dsimp only
  rw [if_pos hl,if_neg (by rw [hf];simp)]
 | k+1,i,n+1,s,o,p,hp,hl,hf,hc,hk=>by
  unfold againGo
  cases hq:s.flight[i]? with
  |none=>
   have h1:=List.getElem?_eq_none_iff.1 hq
   have h2:=(List.getElem?_eq_some_iff.1 hp).1
   omega
  |some q=>
   dsimp only
   rw [if_neg (by rw [hc i q (Nat.le_refl _) (by omega) hq];simp)]
   exact againGo_stop k (i+1) n s o p (by rw [← hp];congr 1;omega) hl hf (fun j q h1 h2=>hc j q (by omega) (by omega)) (by omega)
theorem Blk.due {e:E} (h:Blk e) (o:List Sg):dueGo e o=(e,o):=by
 unfold dueGo goC
 dsimp only
 rcases h with ⟨i,p,hp,hl,hf,hc⟩|⟨hc,hh⟩
 ·have hil:=(List.getElem?_eq_some_iff.1 hp).1
  rw [againGo_stop (e.flight.length - 0) 0 i e o p (by rw [Nat.zero_add];exact hp) hl hf (fun j q _ h2 hq=>hc j q (by omega) hq) (by omega)]
 ·rw [againGo_skip (e.flight.length - 0) 0 e o fun j q _ _ hq=>hc q (List.mem_of_getElem? hq)]
  dsimp only
  rcases hh with hh|⟨p,ws,hw,hm⟩
  ·rw [hh];rfl
  ·rw [hw]
   show newGo (ws.length+1) e o=_
   unfold newGo
   rw [hw]
   dsimp only
   rw [if_neg (by rw [hm];simp)]
theorem againGo_pre:∀(k i:Nat) (s:E) (o:List Sg),o <+: (againGo k i s o).2.2
 |0,i,s,o=>⟨[],by simp [againGo]⟩
 | k+1,i,s,o=>by
  unfold againGo
  cases hp:s.flight[i]? with
  |none=>exact ⟨[],by simp⟩
  | some p=>
   dsimp only
   split
   ·split
    ·exact List.IsPrefix.trans ⟨_,rfl⟩ (againGo_pre k _ _ _)
    ·exact ⟨[],by simp⟩
   ·exact againGo_pre k _ _ _
theorem newGo_pre:∀(k:Nat) (s:E) (o:List Sg),o <+: (newGo k s o).2
 |0,s,o=>⟨[],by simp [newGo]⟩
 | k+1,s,o=>by
  unfold newGo
  cases hws:s.waiting with
  |nil=>exact ⟨[],by simp⟩
  |cons p ws=>
   dsimp only
   split
   ·exact List.IsPrefix.trans ⟨_,rfl⟩ (newGo_pre k _ _)
   ·exact ⟨[],by simp⟩
theorem due_first {e:E} {p:Pk} {fl:List Pk} (hf:e.flight=p::fl) (hz:(zs e.flight).length=0):∃q∈(dueGo e []).2,q.kind=p.kind∧q.body=p.body∧q.seq=p.number%65536:=by
 have hl:p.lost=true:=by
  rw [hf,zs_cons] at hz
  cases hp:p.lost with
  |true=>rfl
  |false=>rw [hp,if_neg (by simp)] at hz;simp at hz
 have hfit:fitsR e p=true:=by unfold fitsR;rw [flyN_zs,hz];simp
 unfold dueGo goC
 dsimp only
 have hlen:e.flight.length - 0=fl.length+1:=by rw [hf];rfl
 rw [hlen]
 have h0:againGo (fl.length+1) 0 e []=againGo fl.length 1 (againS e 0 p) [madeR (againS e 0 p) p.kind p.number p.body]:=by
  conv=>lhs;unfold againGo
  rw [show e.flight[0]? =some p from by rw [hf];rfl]
  dsimp only
  rw [if_pos hl,if_pos hfit]
  rfl
 have h1:=againGo_pre fl.length 1 (againS e 0 p) [madeR (againS e 0 p) p.kind p.number p.body]
 rw [← h0] at h1
 rcases hx:againGo (fl.length+1) 0 e [] with ⟨b,s1,o1⟩
 rw [hx] at h1
 dsimp only at h1 ⊢
 have hm:madeR (againS e 0 p) p.kind p.number p.body∈o1:=h1.subset (List.mem_singleton.2 rfl)
 cases b with
 |false=>exact ⟨_,hm,rfl,rfl,rfl⟩
 |true=>exact ⟨_,(newGo_pre s1.waiting.length s1 o1).subset hm,rfl,rfl,rfl⟩
end Go.Proofs.Ytdgmcckfdgnicaa

set_option linter.unusedVariables false
set_option linter.unusedSimpArgs false
set_option maxRecDepth 20000
namespace Go.Proofs.Ytdgmcckfdgnicaa
open Go Go.Aw Go.Proofs
structure SendA (a:E) (f:Int) (L:List Msg) (w:List UInt8) (acc:Nat→Bool) (R:Int) (now:Int) (e:E) (o:List Sg) (L':List Msg):Prop where
 pre:L <+: L'
 snd:Snd e f L' w
 tot:L'++e.waiting.map msg=L++a.waiting.map msg
 of_:∃w fl n c g st ou,e={a with waiting:=w,flight:=fl,next:=n,count:=c,again:=g,state:=st,outs:=ou,answer:=false,now:=now}∧(st=a.state∨(st=3∧(a.state=2∨a.state=3)))
 fls:FlS e
 mem:∀x∈nums a,x∈nums e
 new:∀i:Nat,L.length≤i→i<L'.length→f+i∈nums e
 endp:EndP e f L'
 sent:∀(i:Nat) (m:Msg),L'[i]? =some m→m.1=4→e.state=3∨e.state=4
 win:((bodies L').length:Int)≤R∨∀i,i+1<L'.length→acc i=true
 lostW:∀p∈e.waiting,p.lost=false
 outs:∀p∈o,p.conn=a.conn∧p.window=spaceR a∧p.ack=a.base∧p.marks=markB (lowF (farR a.base a.kept))∧p.kind≠5∧SgOk f L' p∧(p.kind=1→f∈nums a∨a.state=1)
 ansO:a.answer=true→a.state≠0→o≠[]
 three:∀p∈o,p.kind=3→a.answer=true
 zero:a.state=0→o=[]
 sub:∀x∈nums e,x∈nums a∨f+L.length≤x
 conv:(e.state=3∨e.state=4)→(a.state=3∨a.state=4)∨∃(i:Nat) (m:Msg),L'[i]? =some m∧m.1=4
 outn:L.length<L'.length→o≠[]
 cnt:e.flight.length+L.length=a.flight.length+L'.length
theorem SentOf.st {a e:E} (h:SentOf a e):(e.state=a.state∨(e.state=3∧(a.state=2∨a.state=3)))∧e.answer=a.answer∧e.conn=a.conn∧spaceR e=spaceR a∧e.base=a.base∧e.kept=a.kept∧e.done=a.done∧e.acked=a.acked:=by
 obtain ⟨w,fl,n,c,g,st,rfl,hs⟩:=h
 exact ⟨hs,rfl,rfl,rfl,rfl,rfl,rfl,rfl⟩
theorem sent_A {a:E} {f now:Int} {L:List Msg} {w:List UInt8} {acc accN:Nat→Bool} {R:Int} (hr:Rng {a with now:=now}) (hT:Told0 a f L acc R) (hN:∀i,acc i=true→accN i=true) (hf0:0≤f∧f<65536) (hw:w.length<100000) (hS:Snd a f L w) (hfl:FlS a) (hE:EndP a f L) (hsn:∀(i:Nat) (m:Msg),L[i]? =some m→m.1=4→a.state=3∨a.state=4) (hwin:((bodies L).length:Int)≤R∨∀i,i+1<L.length→accN i=true) (hlw:∀p∈a.waiting,p.lost=false) (hst:a.state≠5) (hrp:a.replies=false)
  (hov:(over2 {a with now:=now}).state≠5):∃L',SendA a f L w accN R now (send1 (over2 {a with now:=now})).1 (send1 (over2 {a with now:=now})).2 L'∧(a.state≠0→Blk (send1 (over2 {a with now:=now})).1):=by
 have hP:=over2_P {a with now:=now}
 have hS0:Snd {a with now:=now} f L w:=hS.of rfl rfl rfl rfl rfl rfl rfl
 have hS1:=hS0.over
 have hb0:(over2 {a with now:=now}).state=a.state∧(over2 {a with now:=now}).replies=false∧((over2 {a with now:=now}).flight=a.flight∨(over2 {a with now:=now}).flight=allLost a.flight):=by
  rcases hP.cases_ with g|g
  ·exact ⟨g.1,by rw [g.2.1];exact hrp,g.2.2⟩
  ·exact absurd g.1 hov
 have hb1:∃fl ou,over2 {a with now:=now}={a with flight:=fl,outs:=ou,now:=now}:=by
  obtain ⟨ou,fl,st,r,he⟩:=hP.of_
  have h1:=hb0.1
  have h2:=hb0.2.1
  rw [he] at h1 h2
  have h1:st=a.state:=h1
  have h2:r=false:=h2
  refine ⟨fl,ou,?_⟩
  rw [he,h1,h2,←hrp]
 generalize over2 {a with now:=now}=b at*
 obtain ⟨flb,oub,hb⟩:=hb1
 have hnb:nums b=nums a:=by
  unfold nums
  rcases hb0.2.2 with g|g
  ·rw [g]
  ·rw [g];unfold allLost;rw [List.map_map];rfl
 have hbfl:b.flight.length=a.flight.length:=by
  rcases hb0.2.2 with g|g
  ·rw [g]
  ·rw [g];simp [allLost]
 have hflb:FlS b:=⟨by unfold Srt;rw [hnb];exact hfl.srt,by rw [hnb,hb];exact hfl.above⟩
 have hEb:EndP b f L:=⟨hS1.fl,by rw [hnb,hb];exact hE.gone,by rw [hb];exact hE.done⟩
 have hTb:Told0 b f L acc R:=⟨by rw [hnb];exact hT.gone,by rw [hb];exact hT.wd,hT.lt⟩
 have hrb:Rng b:=by rw [hb];exact ⟨hr.conn,hr.room,hr.base,hr.now⟩
 have hrst:b.state=a.state:=hb0.1
 have hQ0:SQ b f L w accN R b [] L:=⟨⟨[],by simp⟩,hS1,rfl,.refl b,hflb,fun _ h=>h,fun i h1 h2=>by omega,hEb,by rw [hrst];exact hsn,hwin,by rw [hb];exact hlw,fun x hx=> .inl hx,fun hs=> .inl hs,fun _ hx=> .inl hx,fun g=>by omega,rfl,by simp⟩
 unfold send1
 rw [if_neg (by rw [hb0.2.1];simp)]
 unfold send2
 by_cases c0:b.state=5∨b.state=0
 ·rw [if_pos c0]
  have c1:a.state=0:=by rcases c0 with c|c<;> omega
  refine ⟨L,⟨⟨[],by simp⟩,hS1.of rfl rfl rfl rfl rfl rfl rfl,by rw [hb],⟨_,_,_,_,_,_,_,by rw [hb],.inl rfl⟩,⟨hflb.srt,hflb.above⟩,by rw [← hnb];exact fun _ h=>h,fun i h1 h2=>by omega,⟨hEb.fl,hEb.gone,hEb.done⟩,?_,hwin,by show ∀p∈b.waiting,_;rw [hb];exact hlw,by simp,fun _ g=>absurd c1 g,by simp,fun _=>rfl,fun x hx=> .inl (by rw [← hnb];exact hx),fun hs=> .inl ?_,fun g=>by omega,?_⟩,fun g=>absurd c1 g⟩
  ·show ∀(i:Nat) (m:Msg),L[i]? =_→_→b.state=3∨b.state=4
   rw [hrst];exact hsn
  ·have hs:b.state=3∨b.state=4:=hs
   rw [hrst] at hs
   exact hs
  ·show b.flight.length+_=_
   rw [hbfl]
 ·rw [if_neg c0]
  obtain ⟨L2,hQ,hBl⟩:=dueGo_SQ hrb hTb hN hf0 hw hQ0
  generalize (dueGo b []).1=d at*
  generalize (dueGo b []).2=o at*
  have hds:=hQ.of_.st
  have hspb:spaceR b=spaceR a∧b.base=a.base∧b.kept=a.kept∧b.conn=a.conn∧b.answer=a.answer:=by rw [hb];exact ⟨rfl,rfl,rfl,rfl,rfl⟩
  have hform:∀z:E,z={d with answer:=false}→∃w fl n c g st ou,z={a with waiting:=w,flight:=fl,next:=n,count:=c,again:=g,state:=st,outs:=ou,answer:=false,now:=now}∧(st=a.state∨(st=3∧(a.state=2∨a.state=3))):=by
   rintro z rfl
   obtain ⟨w1,fl1,n1,c1,g1,st1,hde,hs1⟩:=hQ.of_
   refine ⟨w1,fl1,n1,c1,g1,st1,oub,by rw [hde,hb],?_⟩
   rw [hrst] at hs1
   exact hs1
  have houts:∀p∈o,p.conn=a.conn∧p.window=spaceR a∧p.ack=a.base∧p.marks=markB (lowF (farR a.base a.kept))∧p.kind≠5∧SgOk f L2 p∧(p.kind=1→f∈nums a∨a.state=1):=fun p hp=>by
   obtain ⟨a1,a2,a3,a4,a5,a6,a7⟩:=hQ.outs p hp
   rw [hspb.2.2.2.1] at a1
   rw [hspb.1] at a2
   rw [hspb.2.1] at a3
   rw [hspb.2.1,hspb.2.2.1] at a4
   rw [hnb,hrst] at a7
   exact ⟨a1,a2,a3,a4,by omega,a6,a7⟩
  have hblk:∀z:E,z={d with answer:=false}→Blk z:=by
   rintro z rfl
   have hfit:∀p,fitsR {d with answer:=false} p=fitsR d p:=fun p=>rfl
   have hmay:∀p,mayR {d with answer:=false} p=mayR d p:=fun p=>rfl
   rcases hBl with ⟨i,p,h1,h2,h3,h4⟩|⟨h1,h2⟩
   ·exact .inl ⟨i,p,h1,h2,h3,h4⟩
   ·refine .inr ⟨h1,?_⟩
    rcases h2 with h2|⟨p,ws,h3,h4⟩
    ·exact .inl h2
    ·exact .inr ⟨p,ws,h3,h4⟩
  have hmk:∀(z:E) (o':List Sg),z={d with answer:=false}→ (∀ p∈o',p.conn=a.conn∧p.window=spaceR a∧p.ack=a.base∧p.marks=markB (lowF (farR a.base a.kept))∧p.kind≠5∧SgOk f L2 p∧(p.kind=1→f∈nums a∨a.state=1))→(a.answer=true→a.state≠0→o'≠[])→ (∀ p∈o',p.kind=3→a.answer=true)→(o≠[]→o'≠[])→SendA a f L w accN R now z o' L2:=by
   rintro z o' hz h1 h2 h3 h4o
   have hz2:=hz
   subst hz
   refine ⟨hQ.pre,hQ.snd.of rfl rfl rfl rfl rfl rfl rfl,?_,hform _ rfl,⟨hQ.fls.srt,hQ.fls.above⟩,by rw [← hnb];exact hQ.mem,hQ.new,⟨hQ.endp.fl,hQ.endp.gone,hQ.endp.done⟩,hQ.sent,hQ.win,hQ.lostW,h1,h2,h3,fun g=>absurd (.inr (hrst.trans g)) c0,by rw [← hnb];exact hQ.sub,fun hs=> ?_,fun g=>h4o (hQ.outn g),?_⟩
   ·show L2++d.waiting.map msg=_
    rw [hQ.tot,hb]
   ·rw [← hrst]
    exact hQ.conv hs
   ·show d.flight.length+_=_
    rw [hQ.cnt,hbfl]
  have h3o:∀p∈o,p.kind=3→a.answer=true:=fun p hp hk=>by
   have:=(hQ.outs p hp).2.2.2.2.1
   omega
  have han:d.answer=a.answer:=by rw [hds.2.1,hspb.2.2.2.2]
  unfold send3
  by_cases c1:o=[]∧d.answer=true
  ·rw [if_pos c1]
   refine ⟨L2,hmk _ _ rfl (fun p hp=> ?_) (fun _ _=>by simp) (fun _ _ _=>by rw [← han];exact c1.2) (fun _=>by simp),fun _=>hblk _ rfl⟩
   rw [List.mem_singleton.1 hp]
   refine ⟨?_,?_,?_,?_,by show (3:Int)≠5;omega,⟨?_,fun g=>absurd g (by show ¬((3:Int)=1∨(3:Int)=2∨(3:Int)=4);omega)⟩,fun g=>absurd g (by show ¬(3:Int)=1;omega)⟩
   ·show d.conn=_;rw [hds.2.2.1,hspb.2.2.2.1]
   ·show spaceR d=_;rw [hds.2.2.2.1,hspb.1]
   ·show d.base=_;rw [hds.2.2.2.2.1,hspb.2.1]
   ·show markB (lowF (farR d.base d.kept))=_;rw [hds.2.2.2.2.1,hds.2.2.2.2.2.1,hspb.2.1,hspb.2.2.1]
   ·obtain ⟨w1,fl1,n1,c1',g1,st1,hde,hs1⟩:=hQ.of_
    rw [hde]
    exact made_ok (by omega) (by simp) (by simp) hrb.conn hrb.room hrb.base hrb.now
  ·rw [if_neg c1]
   by_cases c2:o=[]
   ·rw [if_pos c2]
    have hd0:d.answer=false:=by
     cases hx:d.answer with
     |false=>rfl
     |true=>exact absurd ⟨c2,hx⟩ c1
    have hde:d={d with answer:=false}:=by rw [← hd0]
    refine ⟨L2,hmk _ _ hde (by simp) (fun g=> ?_) (by simp) (fun g=>absurd c2 g),fun _=>hblk _ hde⟩
    rw [← han,hd0] at g
    cases g
   ·rw [if_neg c2]
    exact ⟨L2,hmk _ _ rfl houts (fun _ _=>c2) h3o id,fun _=>hblk _ rfl⟩
end Go.Proofs.Ytdgmcckfdgnicaa
