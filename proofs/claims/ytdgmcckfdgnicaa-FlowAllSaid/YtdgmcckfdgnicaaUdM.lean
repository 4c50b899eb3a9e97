/-
  A part of the proof of a statement of this seat.
-/
import Derived.Test.YtdgmcckfdgnicaaUbM
set_option linter.unusedVariables false
set_option linter.unusedSimpArgs false
set_option maxRecDepth 20000
set_option maxHeartbeats 8000000
namespace Go.Proofs.Ytdgmcckfdgnicaa
open Go Go.Aw Go.Proofs
def Sg.ok (p:Sg):Prop:=okP p.kind p.conn p.seq p.ack p.window p.marks p.body p.time p.late
theorem ok_true (p:Sg) (h:p.ok) (H:AHeap):ARet Try.prog 44 [p.v] H (.bool false) H:=by
 haveI:Decidable (okP p.kind p.conn p.seq p.ack p.window p.marks p.body p.time p.late):= .isTrue h
 have hv:=fun H=>Valid p.kind p.conn p.seq p.ack p.window p.marks p.body p.time p.late H
 simp only [decide_eq_true (show okP p.kind p.conn p.seq p.ack p.window p.marks p.body p.time p.late from h)] at hv
 unfold Sg.v Sg.c sgC at*
 refine AC.enter Try.func44 rfl (by kernel_rfl) 6 rfl [.tmp 2] rfl (by simp) fun hsc B=> ?_
 repeat first|with_reducible refine (hv _).use ?_|refine kw0 ?_|exact kwz
theorem IndexFuncS {H:AHeap} {v:Value} {l:List Sg} {js:List Nat} (hr:RowS H v l js) (hl:l.length<1099511627776) (hok:∀p∈l,p.ok):ARet Try.prog 62 [v,.func (.func 44) ⟨[]⟩ ⟨[]⟩] H (.int .i64 (-1)) H:=by
 have q1:∀H' K,lenW Try.prog 31 v H' K=K (.int .i64 (l.length:Nat)) H':=fun H' K=>hr.lenW
 refine AC.enter Try.func62 rfl (by kernel_rfl) 19 rfl [.tmp 4] rfl (by simp) fun hsc B=> ?_
 repeat first|with_reducible refine kc ?_|((with_reducible first|refine kr ?_ ?_|refine kt ?_ ?_);exact rfl)|((with_reducible refine kf ?_ ?_);exact rfl)|simp only [go_sem,sevalprocAttr,reduceCtorEq,q1]|simp (disch:=omega) only [wz]|with_reducible_and_instances exact finR|((with_reducible refine finR' ?_ ?_)<;> rfl)|((with_reducible refine finD hsc (NRel.of_plain ?_));exact rfl)
 refine AWP.loopP (fun k:Nat=>⟨[(0,v),(1,.func (.func 44) ⟨[]⟩ ⟨[]⟩),(7,.int .i64 (l.length:Nat)),(8,.int .i64 (k:Nat))],[],H⟩) (fun k=>k≤l.length) (fun k=>l.length - k) 0 ?_ (Nat.zero_le _) ?_
 ·exact Weak.env (by simp [envIn,lk_cons,wth_some])
 intro k hk
 by_cases hc:k<l.length
 ·have hc':(k:Int)<(l.length:Int):=by omega
  obtain ⟨j,off,cap,cs,es,rfl,_,hj,hcap,hle,hg⟩:=hr.get (List.getElem?_eq_getElem hc)
  have hO:=ok_true l[k] (hok _ (List.getElem_mem hc)) H
  have hwn:IntKind.i64.wrap ((k:Int)+1)=((k+1:Nat):Int):=by rw [wi64 (by omega)];omega
  unfold Sg.v at hO
  have hle2:off+k*9+9≤cs.length:=by omega
  repeat first|with_reducible refine hO.use ?_|refine kw7 hc' hj hg hwn hle hle2 @Sg.c9 ?_|exact kwz
  exact ⟨k+1,Weak.env (by simp [envIn,lk_cons,wth_some]),by omega,by omega⟩
 ·have:k=l.length:=by omega
  subst this
  have hc':¬(l.length:Int)<(l.length:Int):=by omega
  repeat first|refine kw1 hc' ?_|exact kwz
theorem ContainsFunc {H:AHeap} {v:Value} {l:List Sg} {js:List Nat} (hr:RowS H v l js) (hl:l.length<1099511627776) (hok:∀p∈l,p.ok):ARet Try.prog 43 [v,.func (.func 44) ⟨[]⟩ ⟨[]⟩] H (.bool false) H:=by
 have hI:=IndexFuncS hr hl hok
 refine AC.enter Try.func43 rfl (by kernel_rfl) 9 rfl [.tmp 4] rfl (by simp) fun hsc B=> ?_
 repeat first|with_reducible refine hI.use ?_|refine kw0 ?_|exact kwz
def takesV:Value:= .agg ⟨[.func (.func 64) ⟨[]⟩ ⟨[]⟩,.func (.func 65) ⟨[]⟩ ⟨[]⟩,.func (.func 66) ⟨[]⟩ ⟨[]⟩,.func (.func 65) ⟨[]⟩ ⟨[]⟩,.func (.func 67) ⟨[]⟩ ⟨[]⟩]⟩
theorem takes (H:AHeap):ARet Try.prog 46 [] H takesV H:=by
 unfold takesV
 refine AC.enter Try.func46 rfl (by kernel_rfl) 2 rfl [.cell 0 88] rfl (by simp) fun hsc B=> ?_
 repeat first|refine kw0 ?_|exact kwz
 exact ⟨_,H,WeakV.drop rfl hsc (by simp [nr_agg,nrs_cons,nrs_nil,nr_func]),rfl,rfl⟩
def byKind (s:E) (p:Sg):E:=if p.kind=1 then openT s p else if p.kind=2 then carryR s p else if p.kind=3 then aloneR s p else if p.kind=4 then carryR s p else dropT s
def closeT (s:E):E:=if s.state=3∧s.ended=true∧s.done=true then {s with state:=4} else s
def takeOne (s:E) (p:Sg):E:=if p.conn≠s.conn∨s.state=5 then s else
 closeT (byKind {s with late:=p.time,some:=true,window:=if p.kind=5 then s.window else p.window} p)
def takeR (s:E) (now:Int) (l:List Sg):Int×E:=if atR s now=0 then (0,l.foldl takeOne {s with now:=now}) else (atR s now,s)
end Go.Proofs.Ytdgmcckfdgnicaa

set_option linter.unusedVariables false
set_option linter.unusedSimpArgs false
namespace Go.Proofs.Ytdgmcckfdgnicaa
open Go Go.Aw Go.Proofs
theorem kept_mem {l:List (Int×Sg)} {k:Int} {p:Sg} (h:kept? l k=some p):(k,p)∈l:=by
 unfold kept? at h
 rw [Option.map_eq_some_iff] at h
 obtain ⟨x,hx,rfl⟩:=h
 have:=List.find?_some hx
 have hk:x.1=k:=by simpa using this
 rw [← hk]
 exact List.mem_of_find?_eq_some hx
theorem passGo_props:∀(f:Nat) (s:E),(0≤s.base∧s.base<65536)→(passGo f s).ready.length+keptB (passGo f s).kept≤s.ready.length+keptB s.kept∧(passGo f s).kept.length≤s.kept.length∧ (∀ x∈(passGo f s).kept,x∈s.kept)∧(0≤(passGo f s).base∧(passGo f s).base<65536)∧
  ∃b k r d,passGo f s={s with base:=b,kept:=k,ready:=r,ended:=d}
 |0,s,hb=>⟨Nat.le_refl _,Nat.le_refl _,fun x h=>h,hb,_,_,_,_,rfl⟩
 | f +1,s,hb=>by
  unfold passGo
  cases hk:kept? s.kept ((s.base+1)%65536) with
  |none=>exact ⟨Nat.le_refl _,Nat.le_refl _,fun x h=>h,hb,_,_,_,_,rfl⟩
  | some p=>
   dsimp only
   split
   ·exact ⟨Nat.le_refl _,Nat.le_refl _,fun x h=>h,hb,_,_,_,_,rfl⟩
   ·obtain ⟨i1,i2,i3,i4,b,k,r,d,i5⟩:=passGo_props f (passStep s p) (by simp only [passStep];omega)
    have g1:=keptB_filter hk
    have g2:=kept_filter hk
    refine ⟨?_,?_,fun x hx=> ?_,i4,b,k,r,d,?_⟩
    ·refine Nat.le_trans i1 ?_
     simp only [passStep,List.length_append]
     omega
    ·refine Nat.le_trans i2 ?_
     simp only [passStep]
     omega
    ·have:=i3 x hx
     simp only [passStep] at this
     exact (List.mem_filter.1 this).1
    ·rw [i5];rfl
theorem TakeOk.of {B K B2 K2:Nat} {s s':E} (h:TakeOk B K s) (hB:B≤B2) (hK:K≤K2) (h1:s'.flight.length≤s.flight.length) (h2:s'.acked=s.acked) (h3:s'.next=s.next) (h4:s'.base=s.base) (h5:s'.room=s.room) (h6:s'.ready=s.ready) (h7:s'.kept=s.kept):TakeOk B2 K2 s':=
 ⟨Nat.lt_of_le_of_lt h1 h.fl,by rw [h2];exact h.ack,by rw [h3];exact h.next,by rw [h4];exact h.base,by rw [h5];exact h.room,by rw [h6,h7];exact Nat.le_trans h.ready hB,by rw [h7];exact Nat.le_trans h.kept hK,by rw [h7];exact h.bodies⟩
theorem TakeOk.ackR {B K:Nat} {s:E} (h:TakeOk B K s) (ack:Int) (marks:List UInt8):TakeOk B K (ackR s ack marks):=by
 have ha:=ackR_acked s ack marks
 obtain ⟨fl,o,d,a,he,hl⟩:=ackR_ackS s ack marks
 have hn:=h.next
 have hb:=h.ack
 rw [he] at ha ⊢
 simp only at ha
 exact ⟨Nat.lt_of_le_of_lt hl h.fl,by show -1099511627776≤a∧a≤1099511627776;rcases ha with ha|⟨ha,hb2⟩<;> omega,h.next,h.base,h.room,h.ready,h.kept,h.bodies⟩
theorem TakeOk.keep {B K:Nat} {s:E} (h:TakeOk B K s) (p:Sg) (hp:p.body.length≤1400):TakeOk (B+1400) (K+1) (keepR s p):=by
 unfold keepR
 split
 ·exact h.of (by omega) (by omega) (Nat.le_refl _) rfl rfl rfl rfl rfl rfl
 ·split
  ·exact h.of (by omega) (by omega) (Nat.le_refl _) rfl rfl rfl rfl rfl rfl
  ·have hkB:keptB (s.kept++[(p.seq,p)])=keptB s.kept+p.body.length:=by simp [keptB]
   obtain ⟨i1,i2,i3,i4,b,k,r,d,i5⟩:=passGo_props ((s.kept++[(p.seq,p)]).length+1) {s with answer:=true,kept:=s.kept++[(p.seq,p)]} h.base
   have h1:=h.ready
   have h2:=h.kept
   unfold passR
   simp only at i1 i2 i3 i4 i5 ⊢
   refine ⟨by rw [i5];exact h.fl,by rw [i5];exact h.ack,by rw [i5];exact h.next,i4,by rw [i5];exact h.room,by omega,?_,fun x hx=> ?_⟩
   ·refine Nat.le_trans i2 ?_
    rw [List.length_append];simp only [List.length_cons,List.length_nil];omega
   ·rcases List.mem_append.1 (i3 x hx) with hm|hm
    ·exact h.bodies x hm
    ·rw [List.mem_singleton.1 hm];show p.body.length≤_;omega
theorem TakeOk.take {B K:Nat} {s:E} (h:TakeOk B K s) (p:Sg) (hp:p.ok):TakeOk (B+1400) (K+1) (takeOne s p):=by
 obtain ⟨p1,p2,p3,p4,p5,p6,p7,p8,p9,_⟩:=hp
 have up:∀{s:E},TakeOk B K s→TakeOk (B+1400) (K+1) s:=fun h=>h.of (by omega) (by omega) (Nat.le_refl _) rfl rfl rfl rfl rfl rfl
 have hc:∀{s:E},TakeOk (B+1400) (K+1) s→TakeOk (B+1400) (K+1) (closeT s):=fun h=>by
  unfold closeT
  split
  ·exact h.of (Nat.le_refl _) (Nat.le_refl _) (Nat.le_refl _) rfl rfl rfl rfl rfl rfl
  ·exact h
 unfold takeOne
 split
 ·exact up h
 ·refine hc ?_
  have h1:TakeOk B K {s with late:=p.time,some:=true,window:=if p.kind=5 then s.window else p.window}:=h.of (Nat.le_refl _) (Nat.le_refl _) (Nat.le_refl _) rfl rfl rfl rfl rfl rfl
  generalize ({s with late:=p.time,some:=true,window:=if p.kind=5 then s.window else p.window}:E)=s1 at h1
  have hcar:TakeOk (B+1400) (K+1) (carryR s1 p):=by
   unfold carryR
   split
   ·exact up (h1.of (Nat.le_refl _) (Nat.le_refl _) (Nat.le_refl _) rfl rfl rfl rfl rfl rfl)
   ·split
    ·have h2:TakeOk B K {s1 with heard:=true}:=h1.of (Nat.le_refl _) (Nat.le_refl _) (Nat.le_refl _) rfl rfl rfl rfl rfl rfl
     exact (h2.ackR p.ack p.marks).keep p p9
    ·exact up h1
  unfold byKind
  split
  ·refine up ?_
   unfold openT
   split
   ·exact h1
   ·split
    ·exact ⟨h1.fl,h1.ack,h1.next,⟨p4.1,p4.2⟩,h1.room,h1.ready,h1.kept,h1.bodies⟩
    ·exact h1.of (Nat.le_refl _) (Nat.le_refl _) (Nat.le_refl _) rfl rfl rfl rfl rfl rfl
  ·split
   ·exact hcar
   ·split
    ·refine up ?_
     unfold aloneR
     split
     ·exact h1.of (Nat.le_refl _) (Nat.le_refl _) (Nat.le_refl _) rfl rfl rfl rfl rfl rfl
     ·split
      ·unfold alone1
       split
       ·unfold aloneUp
        split
        ·have h2:TakeOk B K {s1 with state:=2,base:=(p.seq - 1)%65536}:=⟨h1.fl,h1.ack,h1.next,⟨by show 0≤(p.seq - 1)%65536;omega,by show (p.seq - 1)%65536<65536;omega⟩,h1.room,h1.ready,h1.kept,h1.bodies⟩
         exact (h2.ackR p.ack p.marks).of (Nat.le_refl _) (Nat.le_refl _) (Nat.le_refl _) rfl rfl rfl rfl rfl rfl
        ·exact h1
       ·exact h1
      ·split
       ·have h2:TakeOk B K {s1 with heard:=true}:=h1.of (Nat.le_refl _) (Nat.le_refl _) (Nat.le_refl _) rfl rfl rfl rfl rfl rfl
        exact h2.ackR p.ack p.marks
       ·exact h1
    ·split
     ·exact hcar
     ·unfold dropT
      split
      ·exact up (h1.of (Nat.le_refl _) (Nat.le_refl _) (Nat.le_refl _) rfl rfl rfl rfl rfl rfl)
      ·exact up h1
end Go.Proofs.Ytdgmcckfdgnicaa

set_option linter.unusedVariables false
set_option linter.unusedSimpArgs false
set_option maxRecDepth 20000
set_option maxHeartbeats 8000000
namespace Go.Proofs.Ytdgmcckfdgnicaa
open Go Go.Aw Go.Proofs
def TakeJ (H:AHeap) (e:Nat) (q:Q) (s:E) (env:List (Nat×Value)) (st:ASt):Prop:=∃H2 q2,AJ H e q s H2 q2 []∧st=⟨env,[],H2⟩
theorem AJ.drop {H:AHeap} {e:Nat} {q:Q} {s':E} {H':AHeap} {q':Q} {bl:List (Nat×AObj)} (h:AJ H e q s' H' q' bl):AJ H e q s' H' q' []:=⟨h.end_,h.frm,h.names,by simp⟩
theorem Take {H:AHeap} {e:Nat} {s:E} {q:Q} (h:EndI H e s q) (now:Int) {v:Value} {l:List Sg} {js:List Nat} (hr:RowS H v l js) (hjs:∀j∈js,j∉q.names e) (hok:∀p∈l,p.ok) {Bd K:Nat} (hT:TakeOk Bd K s) (hB:Bd+1400*l.length<1000000000) (hK:K+l.length<1000000):
  AC Try.prog 17 [ptr e,.int .i64 now,v] H (fun r H2=>r= .ret (.int .i64 (takeR s now l).1)∧Steps H e q (takeR s now l).2 H2):=by
 have hll:l.length<1099511627776:=by omega
 have hcn:=ContainsFunc hr hll hok
 have hte:=tell h now
 have hcl:=lt_of_get h.cell
 unfold takeR
 by_cases h0:atR s now=0
 ·rw [if_pos h0]
  rw [if_pos h0,h0] at hte
  have hJ0:=(AJ.of h).put {s with now:=now} rfl rfl rfl
  have hT0:TakeOk Bd K {s with now:=now}:=hT.of (Nat.le_refl _) (Nat.le_refl _) (Nat.le_refl _) rfl rfl rfl rfl rfl rfl
  generalize ({s with now:=now}:E)=s0 at hJ0 hT0 hte ⊢
  generalize H.set e (.cells (endC s0 q) kE)=H0 at hJ0 hte
  have q1:∀H' K,lenW Try.prog 31 v H' K=K (.int .i64 (l.length:Nat)) H':=fun H' K=>hr.lenW
  refine AC.enter Try.func17 rfl (by kernel_rfl) 92 rfl [.tmp 6] rfl (by simp) fun hsc B=> ?_
  repeat first|with_reducible refine kc ?_|((with_reducible first|refine kr ?_ ?_|refine kt ?_ ?_);exact rfl)|((with_reducible refine kf ?_ ?_);exact rfl)|with_reducible (first|refine hcn.use ?_|refine hte.use ?_)|simp only [go_sem,sevalprocAttr,reduceCtorEq,q1]|simp (disch:=omega) only [wz]
  refine AWP.loopP (fun s2:Nat×AHeap=>⟨[(0,ptr e),(22,v),(23,.int .i64 (l.length:Nat)),(24,.int .i64 (s2.1:Nat))],[],s2.2⟩) (fun s2=>s2.1≤l.length∧TakeOk (Bd+1400*s2.1) (K+s2.1) ((l.take s2.1).foldl takeOne s0)∧∃q2,AJ H e q ((l.take s2.1).foldl takeOne s0) s2.2 q2 []) (fun s2=>l.length - s2.1) (0,H0) ?_ ⟨Nat.zero_le _,hT0,q,hJ0⟩ ?_
  ·exact Weak.env (by simp [envIn,lk_cons,wth_some])
  clear hJ0 hT0 hte hcn
  rintro ⟨k,H1⟩ ⟨hk,hT1,q1',hJ1⟩
  simp only at hk hT1 hJ1
  by_cases hkl:k<l.length
  ·have hkl':(k:Int)<(l.length:Int):=by omega
   have hkg:l[k]? =some l[k]:=List.getElem?_eq_getElem hkl
   have hpok:=hok l[k] (List.getElem_mem hkl)
   generalize l[k]=p at hkg hpok
   have hr1:=hr.frm hJ1.frm hjs
   obtain ⟨j,off,cap,cs,es,hv,_,hj,hcap,hle,hg⟩:=hr1.get hkg
   have hle2:off+k*9+9≤cs.length:=by omega
   have hfold:(l.take (k+1)).foldl takeOne s0=takeOne ((l.take k).foldl takeOne s0) p:=by
    rw [List.take_add_one,hkg,List.foldl_append];rfl
   have hTn:TakeOk (Bd+1400*(k+1)) (K+(k+1)) (takeOne ((l.take k).foldl takeOne s0) p):=(hT1.take p hpok).of (by omega) (by omega) (Nat.le_refl _) rfl rfl rfl rfl rfl rfl
   generalize (l.take k).foldl takeOne s0=s1 at hT1 hJ1 hfold hTn
   have hwk:IntKind.i64.wrap ((k:Int)+1)=((k+1:Nat):Int):=by rw [wi64 (by omega)];omega
   have hc1:=hJ1.end_.cell
   have hcl1:=lt_of_get hc1
   simp only [endC] at hc1
   have hJ2:=hJ1.add (.cells p.c ⟨44,0,true,0,none⟩)
   have hpc:p.c= [.int .i64 p.kind,.int .i64 p.conn,.int .i64 p.seq,.int .i64 p.ack,.int .i64 p.window,.string (bs p.marks),.string (bs p.body),.int .i64 p.time,.int .i64 p.late]:=rfl
   rw [hpc] at hg
   have goal2:∀H2 q2,AJ H e q (takeOne s1 p) H2 q2 []→(k+1≤l.length∧TakeOk (Bd+1400*(k+1)) (K+(k+1)) ((l.take (k+1)).foldl takeOne s0)∧∃q2,AJ H e q ((l.take (k+1)).foldl takeOne s0) H2 q2 []):=fun H2 q2 hx=>⟨by omega,by rw [hfold];exact hTn,q2,by rw [hfold];exact hx⟩
   by_cases hcn:p.conn=s1.conn
   ·have hcn':(p.conn != s1.conn)=false:=by simp [hcn]
    by_cases h5:s1.state=5
    ·have h5':(s1.state==5)=true:=by simp [h5]
     have ht1:takeOne s1 p=s1:=by unfold takeOne;rw [if_pos (.inr h5)]
     rw [ht1] at goal2
     have g:=goal2 _ _ (hJ1.more [.cells p.c ⟨44,0,true,0,none⟩])
     rw [hpc] at g
     repeat first|refine kw8 hkl' hv hj hle hle2 hg @Sg.c9 @Sg.cput ?_|exact kwy
     apply AWP.regionX [] [(0,0),(0,0),(0,0),(0,0),(0,0),(0,0),(0,0),(0,0),(0,0),(0,0),(0,0),(0,0),(0,0),(0,0)] [28,29,30,31,32,33,34,35,36,37,38,39,40,41] [] [(28,_),(29,_),(30,_),(31,_),(32,_),(33,_),(34,_),(35,_),(36,_),(37,_),(38,_),(39,_),(40,_),(41,_)]
     ·kernel_rfl
     ·kernel_rfl
     ·kernel_rfl
     ·kernel_rfl
     ·rfl
     ·simp only [eachB,runB]
      repeat' with_reducible refine And.intro ?_ ?_
      iterate 2 all_goals try ((repeat' first|with_reducible refine And.intro ?_ ?_|refine kx5 hc1 hcl1 @hgetl hcn' h5' ?_|exact kwy|exact rfl);done)
     repeat first|refine kw1 hwk ?_|exact kwy
     exact ⟨(k+1,_),Weak.env (by simp [envIn,lk_cons,wth_some,hv]),g.1,g.2.1,g.2.2,by omega⟩
    ·have h5':(s1.state==5)=false:=by simp [h5]
     have ht1:takeOne s1 p=closeT (byKind {s1 with late:=p.time,some:=true,window:=if p.kind=5 then s1.window else p.window} p):=by
      unfold takeOne
      rw [if_neg (by rintro (h|h);exact h hcn;exact h5 h)]
     rw [ht1] at goal2
     clear ht1
     repeat first|refine kw8 hkl' hv hj hle hle2 hg @Sg.c9 @Sg.cput ?_|exact kwy
     apply AWP.regionX [] [(0,0),(0,0),(0,0),(0,0),(0,0),(0,0),(0,0),(0,0),(0,0),(0,0),(0,0),(0,0),(0,0),(0,0)] [28,29,30,31,32,33,34,35,36,37,38,39,40,41] [] [(28,_),(29,_),(30,_),(31,_),(32,_),(33,_),(34,_),(35,_),(36,_),(37,_),(38,_),(39,_),(40,_),(41,_)]
     ·kernel_rfl
     ·kernel_rfl
     ·kernel_rfl
     ·kernel_rfl
     ·rfl
     ·simp only [eachB,runB]
      repeat' with_reducible refine And.intro ?_ ?_
      iterate 2 all_goals try ((repeat' first|with_reducible refine And.intro ?_ ?_|refine kx5 hc1 hcl1 @hgetl hcn' h5' ?_|exact kwy|exact rfl);done)
     have hJ3:=hJ2.put {s1 with late:=p.time,some:=true,window:=if p.kind=5 then s1.window else p.window} rfl rfl rfl
     generalize hs3:({s1 with late:=p.time,some:=true,window:=if p.kind=5 then s1.window else p.window}:E)=s3 at hJ3 goal2
     have hT3:TakeOk (Bd+1400*k) (K+k) s3:=hT1.of (Nat.le_refl _) (Nat.le_refl _) (by rw [← hs3];exact Nat.le_refl _) (by rw [← hs3]) (by rw [← hs3]) (by rw [← hs3]) (by rw [← hs3]) (by rw [← hs3]) (by rw [← hs3])
     obtain ⟨H3,hH3⟩:∃H3,H3=(H1++[AObj.cells p.c ⟨44,0,true,0,none⟩]).set e (.cells (endC s3 q1') kE):=⟨_,rfl⟩
     rw [← hH3] at hJ3
     have hH3':=hH3.symm
     rw [hpc,←hs3] at hH3'
     simp only [endC] at hH3'
     clear hH3
     have hcl2:e<(H1++[AObj.cells p.c ⟨44,0,true,0,none⟩]).length:=by rw [List.length_append];omega
     have hsb:∀o,((H1++[AObj.cells [.int .i64 p.kind,.int .i64 p.conn,.int .i64 p.seq,.int .i64 p.ack,.int .i64 p.window,.string (bs p.marks),.string (bs p.body),.int .i64 p.time,.int .i64 p.late] ⟨44,0,true,0,none⟩]).set e o)[H1.length]? =some (AObj.cells [.int .i64 p.kind,.int .i64 p.conn,.int .i64 p.seq,.int .i64 p.ack,.int .i64 p.window,.string (bs p.marks),.string (bs p.body),.int .i64 p.time,.int .i64 p.late] ⟨44,0,true,0,none⟩):=fun o=>by rw [List.getElem?_set_ne (by omega)];simp
     have hbx3:=(hJ3.box _ (List.mem_cons_self ..)).1
     simp only at hbx3
     rw [hpc] at hbx3
     repeat first|with_reducible refine AWP.seqJ (x:= .seq (.region 11 _ _) _) ⟨[(0,ptr e),(9,ptr H1.length),(22,v),(23,.int .i64 (l.length:Nat)),(24,.int .i64 (k:Nat))],[],H3⟩ ?_ ?_|refine kw4 @hgetl hcl1 hcl2 hc1 ?_|exact kwy
     ·by_cases hk5:p.kind=5
      ·have hk5':(p.kind != 5)=false:=by simp [hk5]
       rw [if_pos hk5] at hH3'
       repeat first|refine kw6 @hgetl hcl1 hcl2 hc1 hk5' hsb ?_|exact kwy
       rw [hH3']
       exact Weak.env (by simp [envIn,lk_cons,wth_some,hv])
      ·have hk5':(p.kind != 5)=true:=by simp [hk5]
       rw [if_neg hk5] at hH3'
       repeat first|refine kw6 @hgetl hcl1 hcl2 hc1 hk5' hsb ?_|exact kwy
       rw [hH3']
       exact Weak.env (by simp [envIn,lk_cons,wth_some,hv])
     ·clear hsb hH3' hj hg hc1 hs3
      have hc3:=hJ3.end_.cell
      have hcl3:=lt_of_get hc3
      refine AWP.seqE (x:= .region 13 _ _) (TakeJ H e q (byKind s3 p) [(0,ptr e),(22,v),(23,.int .i64 (l.length:Nat)),(24,.int .i64 (k:Nat))]) ?_ ?_
      ·have htk:=takes H3
       unfold takesV at htk
       obtain ⟨p1,p2,p3,p4,p5,p6,p7,p8,p9,_⟩:=hpok
       have hrd:=hT3.ready
       have hkp:=hT3.kept
       unfold byKind
       by_cases k1:p.kind=1
       ·have hw:IntKind.i64.wrap (p.kind - 1)=0:=by rw [k1];decide
        rw [if_pos k1]
        refine AWP.regionK 7 (by kernel_rfl) (by decide) (by kernel_rfl) ?_
        repeat first|refine kw0 ?_|exact kwy
        refine ARet.exq (htk) (by simp only [go_sem,sevalprocAttr,reduceCtorEq]) ?_
        repeat first|refine kw2 hbx3 hw ?_|exact kwy
        refine AC.mono (takeOpen hJ3.end_ p) ?_
        rintro r H4 ⟨rfl,hS⟩
        obtain ⟨q4,hJ4⟩:=hJ3.drop.steps hS
        repeat first|refine kw0 ?_|exact kwy
        exact ⟨_,⟨H4,q4,hJ4,rfl⟩,Weak.env (by simp [envIn,lk_cons,wth_some])⟩
       by_cases k2:p.kind=2
       ·have hw:IntKind.i64.wrap (p.kind - 1)=1:=by rw [k2];decide
        rw [if_neg k1,if_pos k2]
        refine AWP.regionK 7 (by kernel_rfl) (by decide) (by kernel_rfl) ?_
        repeat first|refine kw0 ?_|exact kwy
        refine ARet.exq (htk) (by simp only [go_sem,sevalprocAttr,reduceCtorEq]) ?_
        repeat first|refine kw2 hbx3 hw ?_|exact kwy
        refine AC.mono (carry hJ3.end_ p hT3 (by omega) (by omega) (by omega) (by omega)) ?_
        rintro r H4 ⟨rfl,hS⟩
        obtain ⟨q4,hJ4⟩:=hJ3.drop.steps hS
        repeat first|refine kw0 ?_|exact kwy
        exact ⟨_,⟨H4,q4,hJ4,rfl⟩,Weak.env (by simp [envIn,lk_cons,wth_some])⟩
       by_cases k3:p.kind=3
       ·have hw:IntKind.i64.wrap (p.kind - 1)=2:=by rw [k3];decide
        rw [if_neg k1,if_neg k2,if_pos k3]
        refine AWP.regionK 7 (by kernel_rfl) (by decide) (by kernel_rfl) ?_
        repeat first|refine kw0 ?_|exact kwy
        refine ARet.exq (htk) (by simp only [go_sem,sevalprocAttr,reduceCtorEq]) ?_
        repeat first|refine kw2 hbx3 hw ?_|exact kwy
        refine AC.mono (alone hJ3.end_ p hT3 (by omega)) ?_
        rintro r H4 ⟨rfl,hS⟩
        obtain ⟨q4,hJ4⟩:=hJ3.drop.steps hS
        repeat first|refine kw0 ?_|exact kwy
        exact ⟨_,⟨H4,q4,hJ4,rfl⟩,Weak.env (by simp [envIn,lk_cons,wth_some])⟩
       by_cases k4:p.kind=4
       ·have hw:IntKind.i64.wrap (p.kind - 1)=3:=by rw [k4];decide
        rw [if_neg k1,if_neg k2,if_neg k3,if_pos k4]
        refine AWP.regionK 7 (by kernel_rfl) (by decide) (by kernel_rfl) ?_
        repeat first|refine kw0 ?_|exact kwy
        refine ARet.exq (htk) (by simp only [go_sem,sevalprocAttr,reduceCtorEq]) ?_
        repeat first|refine kw2 hbx3 hw ?_|exact kwy
        refine AC.mono (carry hJ3.end_ p hT3 (by omega) (by omega) (by omega) (by omega)) ?_
        rintro r H4 ⟨rfl,hS⟩
        obtain ⟨q4,hJ4⟩:=hJ3.drop.steps hS
        repeat first|refine kw0 ?_|exact kwy
        exact ⟨_,⟨H4,q4,hJ4,rfl⟩,Weak.env (by simp [envIn,lk_cons,wth_some])⟩
       have k5:p.kind=5:=by omega
       have hw:IntKind.i64.wrap (p.kind - 1)=4:=by rw [k5];decide
       rw [if_neg k1,if_neg k2,if_neg k3,if_neg k4]
       refine AWP.regionK 7 (by kernel_rfl) (by decide) (by kernel_rfl) ?_
       repeat first|refine kw0 ?_|exact kwy
       refine ARet.exq (htk) (by simp only [go_sem,sevalprocAttr,reduceCtorEq]) ?_
       repeat first|refine kw2 hbx3 hw ?_|exact kwy
       refine AC.mono (takeDrop hJ3.end_ p) ?_
       rintro r H4 ⟨rfl,hS⟩
       obtain ⟨q4,hJ4⟩:=hJ3.drop.steps hS
       repeat first|refine kw0 ?_|exact kwy
       exact ⟨_,⟨H4,q4,hJ4,rfl⟩,Weak.env (by simp [envIn,lk_cons,wth_some])⟩
      ·rintro _ ⟨H4,q4,hJ4,rfl⟩
       have hc4:=hJ4.end_.cell
       have hcl4:=lt_of_get hc4
       simp only [endC] at hc4
       generalize byKind s3 p=s4 at hJ4 hc4 goal2
       unfold closeT at goal2
       by_cases g3:s4.state=3
       ·have g3':(s4.state==3)=true:=by simp [g3]
        cases g4:s4.ended with
        |false=>
         rw [if_neg (by rw [g4];simp)] at goal2
         have g:=goal2 _ _ hJ4
         rw [g4] at hc4
         repeat first|refine kw4 hc4 hcl4 g3' hwk ?_|exact kwy
         exact ⟨(k+1,_),Weak.env (by simp [envIn,lk_cons,wth_some,hv]),g.1,g.2.1,g.2.2,by omega⟩
        | true=>
         cases g5:s4.done with
         |false=>
          rw [if_neg (by rw [g5];simp)] at goal2
          have g:=goal2 _ _ hJ4
          rw [g4,g5] at hc4
          repeat first|refine kw4 hc4 hcl4 g3' hwk ?_|exact kwy
          exact ⟨(k+1,_),Weak.env (by simp [envIn,lk_cons,wth_some,hv]),g.1,g.2.1,g.2.2,by omega⟩
         |true=>
          rw [if_pos ⟨g3,g4,g5⟩] at goal2
          have g:=goal2 _ _ (hJ4.put {s4 with state:=4} rfl rfl rfl)
          simp only [endC] at g
          rw [g4,g5] at hc4
          simp only [g4,g5] at g
          repeat first|refine kw4 hc4 hcl4 g3' hwk ?_|exact kwy
          exact ⟨(k+1,_),Weak.env (by simp [envIn,lk_cons,wth_some,hv]),g.1,g.2.1,g.2.2,by omega⟩
       ·have g3':(s4.state==3)=false:=by simp [g3]
        rw [if_neg (fun h=>g3 h.1)] at goal2
        have g:=goal2 _ _ hJ4
        repeat first|refine kw4 hc4 hcl4 g3' hwk ?_|exact kwy
        exact ⟨(k+1,_),Weak.env (by simp [envIn,lk_cons,wth_some,hv]),g.1,g.2.1,g.2.2,by omega⟩
   ·have hcn':(p.conn != s1.conn)=true:=by simp [hcn]
    have ht1:takeOne s1 p=s1:=by unfold takeOne;rw [if_pos (.inl hcn)]
    rw [ht1] at goal2
    have g:=goal2 _ _ (hJ1.more [.cells p.c ⟨44,0,true,0,none⟩])
    rw [hpc] at g
    repeat first|refine kw8 hkl' hv hj hle hle2 hg @Sg.c9 @Sg.cput ?_|exact kwy
    apply AWP.regionX [] [(0,0),(0,0),(0,0),(0,0),(0,0),(0,0),(0,0),(0,0),(0,0),(0,0),(0,0),(0,0),(0,0),(0,0)] [28,29,30,31,32,33,34,35,36,37,38,39,40,41] [] [(28,_),(29,_),(30,_),(31,_),(32,_),(33,_),(34,_),(35,_),(36,_),(37,_),(38,_),(39,_),(40,_),(41,_)]
    ·kernel_rfl
    ·kernel_rfl
    ·kernel_rfl
    ·kernel_rfl
    ·rfl
    ·simp only [eachB,runB]
     repeat' with_reducible refine And.intro ?_ ?_
     iterate 2 all_goals try ((repeat' first|with_reducible refine And.intro ?_ ?_|refine kx4 hc1 hcl1 @hgetl hcn' ?_|exact kwy|exact rfl);done)
    repeat first|refine kw1 hwk ?_|exact kwy
    exact ⟨(k+1,_),Weak.env (by simp [envIn,lk_cons,wth_some,hv]),g.1,g.2.1,g.2.2,by omega⟩
  ·have:k=l.length:=by omega
   subst this
   have hkl':¬(l.length:Int)<(l.length:Int):=by omega
   rw [List.take_length] at hJ1
   repeat first|refine kw1 hkl' ?_|exact kwy
   exact ⟨_,_,.refl _ _ _,rfl,hJ1.done⟩
 ·rw [if_neg h0]
  rw [if_neg h0] at hte
  have h0':(atR s now != 0)=true:=by simp [h0]
  refine AC.enter Try.func17 rfl (by kernel_rfl) 92 rfl [.tmp 6] rfl (by simp) fun hsc B=> ?_
  repeat first|with_reducible (first|refine hcn.use ?_|refine hte.use ?_)|refine kw1 h0' ?_|exact kwy
  exact ⟨_,_,.refl _ _ _,rfl,Steps.refl h⟩
end Go.Proofs.Ytdgmcckfdgnicaa
