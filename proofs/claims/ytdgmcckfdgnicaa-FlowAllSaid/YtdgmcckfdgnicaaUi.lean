/-
 A pair's end sends.
-/
import Derived.Test.YtdgmcckfdgnicaaUgM
set_option linter.unusedVariables false
set_option linter.unusedSimpArgs false
set_option maxRecDepth 20000
set_option maxHeartbeats 8000000
namespace Go.Proofs.Ytdgmcckfdgnicaa
open Go Go.Aw Go.Proofs
theorem upd01 {α :Type} {f:Nat→α} {v:α}:upd f 0 v 1=f 1:=rfl
theorem upd10 {α :Type} {f:Nat→α} {v:α}:upd f 1 v 0=f 0:=rfl
structure PJ (H:AHeap) (pp:Nat) (x:PQ) (s':PS) (H':AHeap) (x':PQ):Prop where
 pair:PairI H' pp s' x'
 frm:Frm (x.names pp) H H'
 names:∀j∈x'.names pp,j∈x.names pp∨H.length≤j
 nv:x'.nv=x.nv
theorem PJ.of {H:AHeap} {pp:Nat} {s:PS} {x:PQ} (h:PairI H pp s x):PJ H pp x s H x:=⟨h,Frm.refl _ _,fun j hj=> .inl hj,rfl⟩
theorem PJ.trans {H H1 H2:AHeap} {pp:Nat} {s1 s2:PS} {x x1 x2:PQ} (h:PJ H pp x s1 H1 x1) (k:PJ H1 pp x1 s2 H2 x2):PJ H pp x s2 H2 x2 where
 pair:=k.pair
 frm:=h.frm.trans k.frm (fun j hj=>h.names j hj)
 names:=fun j hj=>by
  rcases k.names j hj with g|g
  ·exact h.names j g
  ·have:=h.frm.1;exact .inr (by omega)
 nv:=k.nv.trans h.nv
theorem PJ.more {H H1:AHeap} {pp:Nat} {s1:PS} {x x1:PQ} (h:PJ H pp x s1 H1 x1) (X:AHeap):PJ H pp x s1 (H1++X) x1:=⟨h.pair.more X,h.frm.more,h.names,h.nv⟩
theorem PairI.jE {H H2:AHeap} {pp:Nat} {s:PS} {x:PQ} (h:PairI H pp s x) {W:Nat} (hW:W<2) {s':E} {q':Q} (h1:EndI H2 (x.es W) s' q') (hF:Frm (x.en W) H H2) (hn:∀j∈q'.names (x.es W),j∈x.en W∨H.length≤j):PJ H pp x {s with e:=upd s.e W s'} H2 {x with q:=upd x.q W q'} where
 pair:=h.stepE hW h1 hF hn
 frm:=hF.mono fun j hj=>PQ.mem.2 (.inr (.inl ⟨W,hW,hj⟩))
 names:=fun j hj=>by
  rcases PQ.mem.1 hj with g|⟨V,hV,g⟩|⟨V,hV,g⟩
  ·exact .inl (PQ.mem.2 (.inl g))
  ·by_cases hVW:V=W
   ·subst hVW
    unfold PQ.en at g
    simp only [upd_self] at g
    exact (hn j g).imp (fun g=>PQ.mem.2 (.inr (.inl ⟨V,hV,g⟩))) id
   ·unfold PQ.en at g
    simp only [upd_ne hVW] at g
    exact .inl (PQ.mem.2 (.inr (.inl ⟨V,hV,g⟩)))
  ·exact .inl (PQ.mem.2 (.inr (.inr ⟨V,hV,g⟩)))
 nv:=rfl
theorem PairI.jP {H:AHeap} {pp:Nat} {s:PS} {x:PQ} (h:PairI H pp s x) (s':PS) (h1:s'.e=s.e) (h2:s'.way=s.way) (h3:s'.numbers=s.numbers):PJ H pp x s' (H.set pp (.cells (pairC s' x) kW)) x:=
 ⟨h.put s' h1 h2 h3,Frm.set (Frm.refl _ _) (.inl (PQ.mem.2 (.inl rfl))),fun j hj=> .inl hj,rfl⟩
theorem PairI.jW {H H2:AHeap} {pp:Nat} {s:PS} {x:PQ} (h:PairI H pp s x) {W:Nat} (hW:W<2) {l:List Sg} {v:Value} {js:List Nat} (h1:RowS H2 v l js) (hF:Frm (x.wj W) H H2) (hj:∀j∈js,j∈x.wj W∨H.length≤j):
  PJ H pp x {s with way:=upd s.way W l} (H2.set pp (.cells (pairC {s with way:=upd s.way W l} {x with wv:=upd x.wv W v,wj:=upd x.wj W js}) kW)) {x with wv:=upd x.wv W v,wj:=upd x.wj W js} where
 pair:=h.stepW hW h1 hF hj
 frm:=(hF.mono fun j hj=>PQ.mem.2 (.inr (.inr ⟨W,hW,hj⟩))).set (.inl (PQ.mem.2 (.inl rfl)))
 names:=fun j hm=>by
  rcases PQ.mem.1 hm with g|⟨V,hV,g⟩|⟨V,hV,g⟩
  ·exact .inl (PQ.mem.2 (.inl g))
  ·exact .inl (PQ.mem.2 (.inr (.inl ⟨V,hV,g⟩)))
  ·by_cases hVW:V=W
   ·subst hVW
    rw [show ({x with wv:=upd x.wv V v,wj:=upd x.wj V js}:PQ).wj V=js from upd_self] at g
    exact (hj j g).imp (fun g=>PQ.mem.2 (.inr (.inr ⟨V,hV,g⟩))) id
   ·rw [show ({x with wv:=upd x.wv W v,wj:=upd x.wj W js}:PQ).wj V=x.wj V from upd_ne hVW] at g
    exact .inl (PQ.mem.2 (.inr (.inr ⟨V,hV,g⟩)))
 nv:=rfl
def wayR (f:Int) (p:Sg) (l:List Sg):List Sg:=if f=6 then p::l else if f=7 then l++[p,p] else l++[p]
def sendOne (W:Nat) (s:PS) (p:Sg):PS:=
 if fateR s.numbers s.pos=0 then {s with pos:=s.pos+1} else {s with pos:=s.pos+1,way:=upd s.way W (wayR (fateR s.numbers s.pos) p (s.way W))}
theorem right_true (p:Sg) (h:p.ok) (H:AHeap):ARet Try.prog 34 [p.v] H (.bool true) H:=by
 haveI:Decidable (okP p.kind p.conn p.seq p.ack p.window p.marks p.body p.time p.late):= .isTrue h
 have hv:=right p.kind p.conn p.seq p.ack p.window p.marks p.body p.time p.late H
 simp only [decide_eq_true (show okP p.kind p.conn p.seq p.ack p.window p.marks p.body p.time p.late from h)] at hv
 exact hv
theorem sgF_flat:∀l:List Sg,(sgF l).all flat=true
 |[]=>rfl
 |x::l=>by rw [sgF_cons,List.all_append,sgF_flat l];rfl
theorem RowS.one (H:AHeap) (p:Sg):RowS (H++ [.cells p.c ⟨44,0,true,0,none⟩]) (.slice (some ⟨H.length,0,none⟩) 1 1) [p] [H.length]:= .inr ⟨H.length,0,1,p.c,0,rfl,rfl,by simp,.inr rfl,rfl,Nat.le_refl _,rfl⟩
theorem PairI.fresh {H:AHeap} {pp:Nat} {s:PS} {x:PQ} (h:PairI H pp s x) {W:Nat} (hW:W<2) {q2:Q} {js:List Nat} (hj:∀j∈js,H.length≤j∧j∉q2.names (x.es W)):∀j∈js,j∉PQ.names pp {x with q:=upd x.q W q2}:=fun j hm hn=>by
 obtain ⟨h1,h2⟩:=hj j hm
 have hlt:=h.lt
 rcases PQ.mem.1 hn with g|⟨V,hV,g⟩|⟨V,hV,g⟩
 ·have:=lt_of_get h.cell;omega
 ·by_cases hVW:V=W
  ·subst hVW
   unfold PQ.en at g
   simp only [upd_self] at g
   exact h2 g
  ·unfold PQ.en at g
   simp only [upd_ne hVW] at g
   have:=(h.end_ V hV).lt j g;omega
 ·have:=(h.way V hV).lt j g;omega
structure SdI (H:AHeap) (pp:Nat) (x:PQ) (W:Nat) (s1:PS) (v:Value) (out:List Sg) (js:List Nat) (k:Nat) (s2:PS) (x2:PQ) (H2:AHeap):Prop where
 pj:PJ H pp x s2 H2 x2
 goes:s2=(out.take k).foldl (sendOne W) s1
 row:RowS H2 v out js
 jd:∀j∈js,j∉x2.names pp
 pos:s2.pos=s1.pos+k
 num:s2.numbers=s1.numbers
 way:(s2.way W).length≤(s1.way W).length+2*k
theorem SdI.step {H:AHeap} {pp:Nat} {x:PQ} {W:Nat} {s1:PS} {v:Value} {out:List Sg} {js:List Nat} {k:Nat} {s2 s3:PS} {x2 x3:PQ} {H2 H3:AHeap} {p:Sg} (h:SdI H pp x W s1 v out js k s2 x2 H2) (hp:out[k]? =some p) (hs:sendOne W s2 p=s3) (hJ:PJ H2 pp x2 s3 H3 x3):SdI H pp x W s1 v out js (k+1) s3 x3 H3 where
 pj:=h.pj.trans hJ
 goes:=by rw [List.take_add_one,hp,List.foldl_append,←h.goes,←hs];rfl
 row:=h.row.frm hJ.frm h.jd
 jd:=fun j hj hm=>by
  rcases hJ.names j hm with g|g
  ·exact h.jd j hj g
  ·have:=h.row.lt j hj;omega
 pos:=by rw [← hs];unfold sendOne;split<;> simp only [h.pos]<;> omega
 num:=by rw [← hs];unfold sendOne;split<;> exact h.num
 way:=by
  have:=h.way
  rw [← hs];unfold sendOne
  split
  ·simp only;omega
  ·simp only [upd_self]
   unfold wayR
   split
   ·rw [List.length_cons];omega
   ·split
    ·rw [List.length_append];simp;omega
    ·rw [List.length_append];simp;omega
def SndJ (H:AHeap) (pp:Nat) (x:PQ) (W:Nat) (limit:Int) (R:Int×E×List Sg) (st:ASt):Prop:=
 ∃H1 v,SendP H (x.es W) (x.q W) R (.ret (.tuple ⟨[v,.int .i64 R.1]⟩)) H1∧st=⟨[(0,ptr pp),(1,.int .i64 (W:Nat)),(2,.int .i64 limit),(7,v),(8,.int .i64 R.1)],[],H1⟩
theorem send {H:AHeap} {pp:Nat} {s:PS} {x:PQ} (h:PairI H pp s x) {W:Nat} (hW:W<2) (limit:Int) (hD:DueOk (s.e W)) (hM:MadeOk (s.e W)) (ho:(s.e W).outs<1000) (hl:(s.e W).flight.length+(s.e W).waiting.length<100000)
  (herr:(sendR (s.e W) s.now).1=0) (hok:∀p∈(sendR (s.e W) s.now).2.2,p.ok) (hD2:DueOk (sendR (s.e W) s.now).2.1) (hun:¬((underR (sendR (s.e W) s.now).2.1).2>limit∧(underR (sendR (s.e W) s.now).2.1).1>1))
  (hol:(sendR (s.e W) s.now).2.2.length<1000000) (hpos:s.pos<1000000000) (hnl:s.numbers.length<1099511627776) (hwl:(s.way W).length<1000000000):
  AC Try.prog 11 [ptr pp,.int .i64 (W:Nat),.int .i64 limit] H (fun r H2=>r= .ret (.bool true)∧∃x',PJ H pp x ((sendR (s.e W) s.now).2.2.foldl (sendOne W) {s with e:=upd s.e W (sendR (s.e W) s.now).2.1}) H2 x'):=by
 have hsend:=Send (h.end_ W hW) s.now hD hM ho hl
 generalize sendR (s.e W) s.now=R at*
 obtain ⟨err,e1,out⟩:=R
 simp only at herr hok hD2 hun hol hsend ⊢
 subst herr
 have hc:=h.cell
 simp only [pairC] at hc
 have hgu:(underR e1).2>limit→¬(underR e1).1>1:=fun h1 h2=>hun ⟨h1,h2⟩
 obtain ⟨WN,hWN⟩:∃WN:Nat,WN=W:=⟨_,rfl⟩
 rcases (by omega:W=0∨W=1) with rfl|rfl
 all_goals
  refine AC.enter Try.func11 rfl (by kernel_rfl) 107 rfl [.tmp 6] rfl (by simp) fun hsc B=> ?_
  repeat first|with_reducible refine AWP.seqE (x:= .region 1 _ _) (SndJ H pp x WN limit (0,e1,out)) ?_ ?_|refine kw0 ?_|exact kwy
  ·refine AWP.regionM 15 [5,9,10,11,12,13,14] [] (.both (.step 5 (.step 9 (.step 10 (.step 11 (.both (.step 12 (.both (.run [13,14]) (.run [14,13]))) (.run [13,12,14])))))) (.step 9 (.step 5 (.step 10 (.step 11 (.both (.step 12 (.both (.run [13,14]) (.run [14,13]))) (.run [13,12,14]))))))) (by kernel_rfl) (by decide) (by kernel_rfl) (by kernel_rfl) (by kernel_rfl) ?_
   repeat' first|with_reducible refine canW_n ?_|with_reducible refine canW_m (by decide) ?_|((with_reducible apply canW_p (by decide));focus (intro H;(simp only [go_sem,sevalprocAttr,reduceCtorEq,hc,List.map_cons,List.map_nil]);exact rfl))|with_reducible refine memW_b ?_ ?_|with_reducible refine memW_s rfl ?_|with_reducible refine memW_r rfl ?_|with_reducible refine memW_e ?_|simp only [List.take_succ_cons,List.take_zero,List.drop_succ_cons,List.drop_zero]|omega|with_reducible refine And.intro ?_ ?_|refine kw3 hc @List.map_cons.{0,0} @List.map_nil.{0,0} ?_|exact kwy|fail
   all_goals
    refine AC.mono hsend ?_
    rintro r H1 ⟨q2,v,js,rfl,hE1⟩
    have hE2:SendP H _ _ (0,e1,out) (.ret (.tuple ⟨[v,.int .i64 0]⟩)) H1:=⟨q2,v,js,rfl,hE1⟩
    clear hE1 hsend hok hD2 hun hgu hD hM ho hl
    repeat' first|with_reducible refine canW_n ?_|with_reducible refine canW_m (by decide) ?_|((with_reducible apply canW_p (by decide));focus (intro H;(simp only [go_sem,sevalprocAttr,reduceCtorEq,List.map_cons,List.map_nil]);exact rfl))|with_reducible refine memW_b ?_ ?_|with_reducible refine memW_s rfl ?_|with_reducible refine memW_r rfl ?_|with_reducible refine memW_e ?_|simp only [List.take_succ_cons,List.take_zero,List.drop_succ_cons,List.drop_zero]|omega|with_reducible refine And.intro ?_ ?_|refine kw2 @List.map_cons.{0,0} @List.map_nil.{0,0} ?_|exact kwy|fail
    all_goals exact ⟨_,⟨H1,v,by rw [hWN];exact hE2,rfl⟩,Weak.env (by simp [envIn,lk_cons,wth_some,hWN])⟩
  rintro _ ⟨H1,v,⟨q2,v',js,hvv,hE1,hF1,hn1,hrow,hjs⟩,rfl⟩
  obtain rfl:v=v':=by
   have:=ARes.ret.inj hvv
   simpa using this
  clear hvv
  rw [hWN] at hE1 hF1 hn1 hjs
  simp only [hWN]
  have hJ1:=h.jE hW hE1 hF1 hn1
  have hjd:=h.fresh hW hjs
  have hUn:=Under hE1 hD2.fl hD2.fb
  have hc1:=hJ1.pair.cell
  simp only [pairC] at hc1
  have hlw:∀H' K,lenW Try.prog 31 v H' K=K (.int .i64 (out.length:Nat)) H':=fun H' K=>hrow.lenW
  repeat first|with_reducible refine AWP.seqJ (x:= .seq (.region 5 _ _) _) ⟨[(0,ptr pp),(1,.int .i64 (WN:Nat)),(2,.int .i64 limit),(7,v)],[],H1⟩ ?_ ?_|with_reducible refine hUn.use ?_|refine kw1 hc1 ?_|exact kwy
  ·by_cases hb:(underR e1).2>limit
   ·have hb2:=hgu hb
    repeat first|refine kw2 hb hb2 ?_|exact kwy
    exact Weak.env (by simp [envIn,lk_cons,wth_some,hWN])
   ·repeat first|refine kw1 hb ?_|exact kwy
    exact Weak.env (by simp [envIn,lk_cons,wth_some,hWN])
  ·simp only [hWN]
   repeat first|refine kw1 hlw ?_|exact kwy
   refine AWP.loopP (fun s2:Nat×PS×PQ×AHeap=>⟨[(0,ptr pp),(1,.int .i64 (WN:Nat)),(46,v),(47,.int .i64 (out.length:Nat)),(48,.int .i64 (s2.1:Nat))],[],s2.2.2.2⟩) (fun s2=>s2.1≤out.length∧SdI H pp x WN {s with e:=upd s.e WN e1} v out js s2.1 s2.2.1 s2.2.2.1 s2.2.2.2) (fun s2=>out.length - s2.1) (0,_,_,H1) ?_ ⟨Nat.zero_le _,by subst hWN;exact ⟨hJ1,rfl,hrow,hjd,by simp,rfl,by simp⟩⟩ ?_
   ·exact Weak.env (by simp [envIn,lk_cons,wth_some,hWN])
   rintro ⟨k,s2,x2,H2⟩ ⟨hk,hI⟩
   simp only at hk hI
   by_cases hkl:k<out.length
   ·have hkl':(k:Int)<(out.length:Int):=by omega
    have hkg:out[k]? =some out[k]:=List.getElem?_eq_getElem hkl
    have hpok:=hok out[k] (List.getElem_mem hkl)
    generalize out[k]=p at hkg hpok
    obtain ⟨j,off,cap,cs,es,hv,_,hj,hcap,hle,hg⟩:=hI.row.get hkg
    have hle2:off+k*9+9≤cs.length:=by omega
    have hwk:IntKind.i64.wrap ((k:Int)+1)=((k+1:Nat):Int):=by rw [wi64 (by omega)];omega
    have hpc:p.c= [.int .i64 p.kind,.int .i64 p.conn,.int .i64 p.seq,.int .i64 p.ack,.int .i64 p.window,.string (bs p.marks),.string (bs p.body),.int .i64 p.time,.int .i64 p.late]:=rfl
    have hrt:=right_true p hpok
    have hP2:=hI.pj.pair.more [.cells p.c ⟨44,0,true,0,none⟩]
    have hnum:=hI.num
    have hpos2:=hI.pos
    have hway2:=hI.way
    simp only at hnum hpos2 hway2
    have hfa:=fate hP2 (by omega) (by rw [hnum];exact hnl)
    have hJ3:=(PJ.of hI.pj.pair).more [.cells p.c ⟨44,0,true,0,none⟩] |>.trans (hP2.jP {s2 with pos:=s2.pos+1} rfl rfl rfl)
    have hbox:∀o,((H2++[AObj.cells p.c ⟨44,0,true,0,none⟩]).set pp o)[H2.length]? =some (.cells p.c ⟨44,0,true,0,none⟩):=fun o=>by
     rw [List.getElem?_set_ne (by have:=lt_of_get hI.pj.pair.cell;omega)];simp
    have hbox3:=hbox (.cells (pairC {s2 with pos:=s2.pos+1} x2) kW)
    have hstep:∀s3 x3 H3,sendOne WN s2 p=s3→PJ H2 pp x2 s3 H3 x3→SdI H pp x WN {s with e:=upd s.e WN e1} v out js (k+1) s3 x3 H3:=fun s3 x3 H3 hs hJ=>hI.step hkg hs hJ
    obtain ⟨wl,hwl0⟩:∃wl,wl=s2.way WN:=⟨_,rfl⟩
    subst hWN
    unfold sendOne at hstep
    generalize hH3:(H2++[AObj.cells p.c ⟨44,0,true,0,none⟩]).set pp (.cells (pairC {s2 with pos:=s2.pos+1} x2) kW)=H3 at hJ3 hfa hbox3
    clear hbox
    generalize fateR s2.numbers s2.pos=f at hfa hstep
    unfold Sg.v at hrt
    have hc3:=hJ3.pair.cell
    have hcl3:=lt_of_get hc3
    have hbl3:=lt_of_get hbox3
    simp only [pairC] at hc3
    subst hv
    by_cases f0:f=0
    ·have f0':(f==0)=true:=by simp [f0]
     have hS:=hstep {s2 with pos:=s2.pos+1} x2 H3 (if_pos f0) hJ3
     rw [hpc] at hbox3 hfa hg hrt
     repeat first|with_reducible (first|refine (hrt _).use ?_|refine hfa.use ?_)|refine kw8 hkl' hj hle hle2 hg @Sg.c9 f0' hwk ?_|exact kwy
     exact ⟨(k+1,_,_,H3),Weak.env (by simp [envIn,lk_cons,wth_some]),by omega,hS,by omega⟩
    ·have f0':(f==0)=false:=by simp [f0]
     rw [if_neg f0] at hstep
     have hrw:=hJ3.pair.way _ hW
     simp only at hrw
     by_cases f6:f=6
     ·have f6':(f==6)=true:=by simp [f6]
      unfold wayR at hstep
      rw [if_pos f6] at hstep
      rw [hpc] at hbox3 hfa hg hrt
      repeat first|with_reducible (first|refine (hrt _).use ?_|refine hfa.use ?_)|refine kw9 hkl' hj hle hle2 hg @Sg.c9 f0' f6' hwk ?_|exact kwy
      rw [← hwl0] at hrw hstep hway2
      obtain ⟨v4,H4,js4,a1,a2,a3,a4⟩:=(RowS.one H3 p).appendD wl (by simp;omega)
      rcases hrw with ⟨g1,g2,g3⟩|⟨jw,ow,cw,csw,ew,g1,g2,g3,g4,g5,g6,g7⟩
      ·subst g2
       have hS:=hstep _ _ _ rfl (hJ3.trans (hJ3.pair.jW hW a1 (Frm.trans Frm.app a2 (fun j hj=> .inr (by rw [List.mem_singleton.1 hj];exact Nat.le_refl _))) (fun j hj=>(a3 j hj).elim (fun g=> .inr (by rw [List.mem_singleton.1 g];exact Nat.le_refl _)) (fun g=> .inr (by rw [g,List.length_append];omega)))))
       simp only [pairC,upd_self,upd01,upd10] at hS
       have hc4:=a2.get (show (H3++_)[pp]? =_ from by rw [hgetl hcl3];exact hc3) (fun hm=>by have:=List.mem_singleton.1 hm;omega)
       have hcl4:=lt_of_get hc4
       obtain ⟨hv4,hv4f⟩:=a1.cells
       unfold flat at hv4f
       simp only [sgF,List.map_cons,List.map_nil,List.flatten_cons,List.flatten_nil,List.append_nil,List.length_cons,List.length_nil,Nat.zero_add,Nat.reduceAdd] at a4
       rw [hpc] at a4
       clear hI hP2 hJ3 hfa hrt hg hle hle2 hj hstep hpok hok hD hM ho hl hD2 hun hgu hol a1 a2 a3 hnum hpos2 hway2 hUn hlw hE1 hF1 hn1 hrow hjs hJ1 hjd hnl hwl hpos hc hc1 hcap hkg
       refine AWP.regionM 13 [2,3,9,10] [] (.both (.step 2 (.both (.run [3,9,10]) (.run [9,3,10]))) (.run [9,2,3,10])) (by kernel_rfl) (by decide) (by kernel_rfl) (by kernel_rfl) (by kernel_rfl) ?_
       repeat' first|with_reducible refine canW_n ?_|with_reducible refine canW_m (by decide) ?_|((with_reducible apply canW_p (by decide));focus (intro H;(simp only [go_sem,sevalprocAttr,reduceCtorEq,hbox3,hc3,hgetl,hcl3,hbl3,hc4,hcl4,hv4,hv4f,g1,List.map_cons,List.map_nil]);exact rfl))|with_reducible refine memW_b ?_ ?_|with_reducible refine memW_s rfl ?_|with_reducible refine memW_r rfl ?_|with_reducible refine memW_e ?_|simp only [List.take_succ_cons,List.take_zero,List.drop_succ_cons,List.drop_zero]|omega|with_reducible refine And.intro ?_ ?_|with_reducible refine a4 _ ?_|refine kw12 hbox3 hc3 @hgetl hcl3 hbl3 hc4 hcl4 hv4 hv4f g1 @List.map_cons.{0,0} @List.map_nil.{0,0} ?_|exact kwy|fail
       all_goals
        repeat first|refine kw1 hwk ?_|exact kwy
        exact ⟨(k+1,_,_,_),Weak.env (by simp [envIn,lk_cons,wth_some]),by omega,hS,by omega⟩
      ·have hjwl:=lt_of_get g3
       have hsl:=sgF_len wl
       have hsf:=sgF_flat wl
       have hle4:ow+wl.length*9≤csw.length:=by omega
       have hS:=hstep _ _ _ rfl (hJ3.trans (hJ3.pair.jW hW a1 (Frm.trans Frm.app a2 (fun j hj=> .inr (by rw [List.mem_singleton.1 hj];exact Nat.le_refl _))) (fun j hj=>(a3 j hj).elim (fun g=> .inr (by rw [List.mem_singleton.1 g];exact Nat.le_refl _)) (fun g=> .inr (by rw [g,List.length_append];omega)))))
       simp only [pairC,upd_self,upd01,upd10] at hS
       have hc4:=a2.get (show (H3++_)[pp]? =_ from by rw [hgetl hcl3];exact hc3) (fun hm=>by have:=List.mem_singleton.1 hm;omega)
       have hcl4:=lt_of_get hc4
       obtain ⟨hv4,hv4f⟩:=a1.cells
       unfold flat at hv4f
       try simp only [List.map_cons,List.map_nil,List.flatten_cons,List.flatten_nil,List.append_nil,List.length_cons,List.length_nil,Nat.zero_add,Nat.reduceAdd] at a4
       rw [hpc] at a4
       clear hI hP2 hJ3 hfa hrt hg hle hle2 hj hstep hpok hok hD hM ho hl hD2 hun hgu hol a1 a2 a3 hnum hpos2 hway2 hUn hlw hE1 hF1 hn1 hrow hjs hJ1 hjd hnl hwl hpos hc hc1 hcap hkg
       refine AWP.regionM 13 [2,3,9,10] [] (.both (.step 2 (.both (.run [3,9,10]) (.run [9,3,10]))) (.run [9,2,3,10])) (by kernel_rfl) (by decide) (by kernel_rfl) (by kernel_rfl) (by kernel_rfl) ?_
       repeat' first|with_reducible refine canW_n ?_|with_reducible refine canW_m (by decide) ?_|((with_reducible apply canW_p (by decide));focus (intro H;(simp only [go_sem,sevalprocAttr,reduceCtorEq,hbox3,hc3,hgetl,hcl3,hbl3,hc4,hcl4,hv4,hv4f,g1,g3,hjwl,g7,hsl,hsf,hle4,List.map_cons,List.map_nil]);exact rfl))|with_reducible refine memW_b ?_ ?_|with_reducible refine memW_s rfl ?_|with_reducible refine memW_r rfl ?_|with_reducible refine memW_e ?_|simp only [List.take_succ_cons,List.take_zero,List.drop_succ_cons,List.drop_zero]|omega|with_reducible refine And.intro ?_ ?_|with_reducible refine kc ?_|((with_reducible first|refine kr ?_ ?_|refine kt ?_ ?_);exact rfl)|((with_reducible refine kf ?_ ?_);exact rfl)|with_reducible refine a4 _ ?_|simp only [go_sem,sevalprocAttr,reduceCtorEq,hbox3,hc3,hgetl,hcl3,hbl3,hc4,hcl4,hv4,hv4f,g1,g3,hjwl,g7,hsl,hsf,hle4,List.map_cons,List.map_nil]|simp (disch:=omega) only [wz]
       all_goals
        repeat first|refine kw1 hwk ?_|exact kwy
        exact ⟨(k+1,_,_,_),Weak.env (by simp [envIn,lk_cons,wth_some]),by omega,hS,by omega⟩
     ·have f6':(f==6)=false:=by simp [f6]
      by_cases f7:f=7
      ·have f7':(f==7)=true:=by simp [f7]
       unfold wayR at hstep
       rw [if_neg f6,if_pos f7] at hstep
       rw [hpc] at hbox3 hfa hg hrt
       repeat first|with_reducible (first|refine (hrt _).use ?_|refine hfa.use ?_)|refine kw10 hkl' hj hle hle2 hg @Sg.c9 f0' f6' f7' hwk ?_|exact kwy
       obtain ⟨v4,H4,js4,a1,a2,a3,a4⟩:=(hrw.more [.cells (p.c++p.c) ⟨44,0,true,0,none⟩]).appendD [p,p] (by simp;omega)
       have hS:=hstep _ _ _ rfl (hJ3.trans (hJ3.pair.jW hW a1 (Frm.trans Frm.app a2 (fun j hj=> .inl hj)) (fun j hj=>(a3 j hj).imp id (fun g=>by rw [g,List.length_append];omega))))
       simp only [pairC,upd_self,upd01,upd10] at hS
       have hc4:=a2.get (show (H3++_)[pp]? =_ from by rw [hgetl hcl3];exact hc3) (hJ3.pair.pw _ hW)
       have hcl4:=lt_of_get hc4
       obtain ⟨hv4,hv4f⟩:=a1.cells
       unfold flat at hv4f
       simp only [sgF,List.map_cons,List.map_nil,List.flatten_cons,List.flatten_nil,List.append_nil,List.length_cons,List.length_nil,Nat.zero_add,Nat.reduceAdd] at a4
       rw [hpc] at a4
       simp only [List.cons_append,List.nil_append] at a4
       clear hI hP2 hJ3 hfa hrt hg hle hle2 hj hrw hstep hpok hok hD hM ho hl hD2 hun hgu hol a1 a2 a3 hnum hpos2 hway2 hUn hlw hE1 hF1 hn1 hrow hjs hJ1 hjd hnl hwl hpos hc hc1 hcap hkg
       refine AWP.regionM 14 [7,8,9,10,11] [] (.both (.step 7 (.both (.run [8,9,10,11]) (.run [9,8,10,11]))) (.both (.step 8 (.both (.run [7,9,10,11]) (.step 9 (.both (.run [7,10,11]) (.run [10,7,11]))))) (.step 9 (.both (.run [7,8,10,11]) (.step 8 (.both (.run [7,10,11]) (.run [10,7,11]))))))) (by kernel_rfl) (by decide) (by kernel_rfl) (by kernel_rfl) (by kernel_rfl) ?_
       repeat' first|with_reducible refine canW_n ?_|with_reducible refine canW_m (by decide) ?_|((with_reducible apply canW_p (by decide));focus (intro H;(simp only [go_sem,sevalprocAttr,reduceCtorEq,hbox3,hc3,hgetl,hcl3,hbl3,hc4,hcl4,hv4,hv4f,List.map_cons,List.map_nil]);exact rfl))|with_reducible refine memW_b ?_ ?_|with_reducible refine memW_s rfl ?_|with_reducible refine memW_r rfl ?_|with_reducible refine memW_e ?_|simp only [List.take_succ_cons,List.take_zero,List.drop_succ_cons,List.drop_zero]|omega|with_reducible refine And.intro ?_ ?_|with_reducible refine a4 _ ?_|refine kw11 hbox3 hc3 @hgetl hcl3 hbl3 hc4 hcl4 hv4 hv4f @List.map_cons.{0,0} @List.map_nil.{0,0} ?_|exact kwy|fail
       all_goals
        repeat first|refine kw1 hwk ?_|exact kwy
        exact ⟨(k+1,_,_,_),Weak.env (by simp [envIn,lk_cons,wth_some]),by omega,hS,by omega⟩
      ·have f7':(f==7)=false:=by simp [f7]
       unfold wayR at hstep
       rw [if_neg f6,if_neg f7] at hstep
       rw [hpc] at hbox3 hfa hg hrt
       repeat first|with_reducible (first|refine (hrt _).use ?_|refine hfa.use ?_)|refine kw10 hkl' hj hle hle2 hg @Sg.c9 f0' f6' f7' hwk ?_|exact kwy
       obtain ⟨v4,H4,js4,a1,a2,a3,a4⟩:=(hrw.more [.cells p.c ⟨44,0,true,0,none⟩]).appendD [p] (by simp;omega)
       have hS:=hstep _ _ _ rfl (hJ3.trans (hJ3.pair.jW hW a1 (Frm.trans Frm.app a2 (fun j hj=> .inl hj)) (fun j hj=>(a3 j hj).imp id (fun g=>by rw [g,List.length_append];omega))))
       simp only [pairC,upd_self,upd01,upd10] at hS
       have hc4:=a2.get (show (H3++_)[pp]? =_ from by rw [hgetl hcl3];exact hc3) (hJ3.pair.pw _ hW)
       have hcl4:=lt_of_get hc4
       obtain ⟨hv4,hv4f⟩:=a1.cells
       unfold flat at hv4f
       simp only [sgF,List.map_cons,List.map_nil,List.flatten_cons,List.flatten_nil,List.append_nil,List.length_cons,List.length_nil,Nat.zero_add,Nat.reduceAdd] at a4
       rw [hpc] at a4
       clear hI hP2 hJ3 hfa hrt hg hle hle2 hj hrw hstep hpok hok hD hM ho hl hD2 hun hgu hol a1 a2 a3 hnum hpos2 hway2 hUn hlw hE1 hF1 hn1 hrow hjs hJ1 hjd hnl hwl hpos hc hc1 hcap hkg
       refine AWP.regionM 13 [7,8,9,10] [] (.both (.run [7,8,9,10]) (.step 8 (.both (.run [7,9,10]) (.run [9,7,10])))) (by kernel_rfl) (by decide) (by kernel_rfl) (by kernel_rfl) (by kernel_rfl) ?_
       repeat' first|with_reducible refine canW_n ?_|with_reducible refine canW_m (by decide) ?_|((with_reducible apply canW_p (by decide));focus (intro H;(simp only [go_sem,sevalprocAttr,reduceCtorEq,hbox3,hc3,hgetl,hcl3,hbl3,hc4,hcl4,hv4,hv4f,List.map_cons,List.map_nil]);exact rfl))|with_reducible refine memW_b ?_ ?_|with_reducible refine memW_s rfl ?_|with_reducible refine memW_r rfl ?_|with_reducible refine memW_e ?_|simp only [List.take_succ_cons,List.take_zero,List.drop_succ_cons,List.drop_zero]|omega|with_reducible refine And.intro ?_ ?_|with_reducible refine a4 _ ?_|refine kw11 hbox3 hc3 @hgetl hcl3 hbl3 hc4 hcl4 hv4 hv4f @List.map_cons.{0,0} @List.map_nil.{0,0} ?_|exact kwy|fail
       all_goals
        repeat first|refine kw1 hwk ?_|exact kwy
        exact ⟨(k+1,_,_,_),Weak.env (by simp [envIn,lk_cons,wth_some]),by omega,hS,by omega⟩
   ·have:k=out.length:=by omega
    subst this
    have hkl':¬(out.length:Int)<(out.length:Int):=by omega
    have hgo:=hI.goes
    rw [List.take_length] at hgo
    subst hWN
    repeat first|refine kw1 hkl' ?_|exact kwy
    exact ⟨_,_,.refl _ _ _,rfl,x2,by rw [← hgo];exact hI.pj⟩
end Go.Proofs.Ytdgmcckfdgnicaa
