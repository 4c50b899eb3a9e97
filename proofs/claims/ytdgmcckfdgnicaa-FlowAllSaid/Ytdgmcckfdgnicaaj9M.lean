/-
  A part of the proof of a statement of this seat.
-/
import Derived.Test.Ytdgmcckfdgnicaaj7M
import Derived.Test.YtdgmcckfdgnicaaUlM
import Derived.Test.YtdgmcckfdgnicaaAwC
set_option linter.unusedVariables false
set_option linter.unusedSimpArgs false
set_option maxRecDepth 20000
set_option maxHeartbeats 8000000
namespace Go.Proofs.Ytdgmcckfdgnicaa
open Go Go.Aw Go.Proofs
structure RunA (f:Nat→Int) (conn room limit:Int) (H:AHeap) (pp n:Nat) (H2:AHeap):Prop where
 ex:∃s x L k,PairI H2 pp s x∧FA s f conn room limit L k (n+1)∧s.now≤99*((n+1:Nat):Int)∧ (∀ W,W<2→(s.e W).closing=false)∧∀j∈x.names pp,H.length≤j
 frm:Frm [] H H2
def stC (s:PS):Nat→PS
 |0=>s
 |1=>arriveR (sendS s 0) 1 1000 100000
 |_=>arriveR (sendS (arriveR (sendS s 0) 1 1000 100000) 1) 0 1000 100000
structure OpenR (s:PS) (limit:Int) (W:Nat):Prop where
 snd:SendOk (stC s W) W limit
 arr:∃B K,ArrOk (sendS (stC s W) W) (1 - W) 1000 B K
 sound:soundR (arriveR (sendS (stC s W) W) (1 - W) 1000 100000) (1 - W)=true
 eq:arriveR (sendS (stC s W) W) (1 - W) 1000 100000=stC s (W+1)
theorem FA.openR {s:PS} {f:Nat→Int} {conn room limit:Int} {L:Nat→List Msg} {k:Nat→Nat} {c:Nat} (h:FA s f conn room limit L k c) (hc:1≤c∧c≤121) (ht:s.now≤15000) (hcl:∀W,W<2→(s.e W).closing=false):
  (∀ W,W<2→OpenR s limit W)∧((stC s 2).e 0).state=2∧((stC s 2).e 1).state=2∧ (∀ W,W<2→((stC s 2).e W).closing=false)∧(stC s 2).now=s.now∧ (∀ W,W<2→((stC s 2).e W).ready=[])∧∃L' k',FA (stC s 2) f conn room limit L' k' (c+2):=by
 obtain ⟨s1,s2,s3,s4,e1,e2,e3,e4,o1,a1,d1,o2,a2,d2,n4,g0,g1,g2,g3⟩:=h.opens hc (by omega) hcl
 subst e1 e2 e3 e4
 refine ⟨fun W hW=> ?_,g0,g1,g2,n4,h.openReady hc (by omega),g3⟩
 rcases (by omega:W=0∨W=1) with rfl|rfl
 ·exact ⟨o1,a1,d1,rfl⟩
 ·exact ⟨o2,a2,d2,rfl⟩
def stD (s:PS):Nat→PS
 |0=>s
 |1=>closeS s 0
 |_=>closeS (closeS s 0) 1
theorem lawAll (conn first other room limit body:Int) (l:List Ac) (hi:∀x∈l,isI x.n∧isI x.who) (v:Value) (H:AHeap) (hv:RdN H 5 v (l.map Ac.c)):
  AC Try.prog 7 [.int .i64 conn,.int .i64 first,.int .i64 other,.int .i64 room,.int .i64 limit,.int .i64 body,v] H (fun r _=>r= .ret (.bool true)):=by
 have haw:=fun H=>awake H
 have hvn:Rd H (.slice none 0 0) (intsC []):=Rd.nil
 have hq:∀H' K,lenW Try.prog 34 (.slice none 0 0) H' K=K (.int .i64 ((0:Nat):Nat)) H':=fun H' K=>by rw [hvn.lenT (by simp only [go_sem,sevalprocAttr,reduceCtorEq])];rfl
 have hq1:∀H' K,lenW Try.prog 49 v H' K=K (.int .i64 (l.length:Nat)) H':=fun H' K=>by rw [hv.lenT (by simp only [go_sem,sevalprocAttr,reduceCtorEq]),List.length_map]
 by_cases hA:SmallA conn first other room limit body 0 l
 ·have hsm:=small_yes conn first other room limit body (.slice none 0 0) 0 l v H hv hq hA
  obtain ⟨⟨ha,hb,hc,hr,hl,hy,hn⟩,hm,hall⟩:=hA
  by_cases h20:body<20
  ·
   refine AC.enter Try.func7 rfl (by kernel_rfl) 188 rfl [.tmp 14] rfl (by simp) fun hsc B=> ?_
   repeat first|with_reducible (first|refine hsm.use ?_|refine (haw _).use ?_)|refine kw1 h20 ?_|exact kwy
   exact ⟨_,_,.refl _ _ _,rfl⟩
  have hPar:Par (fsR first other) conn room limit []:=⟨fun W hW=>by unfold fsR;split<;> omega,by omega,hr,hl,by simp⟩
  have hP0:=FA.begin_ hPar (by omega:20≤body∧body≤1400)
  refine AC.enter Try.func7 rfl (by kernel_rfl) 188 rfl [.tmp 14] rfl (by simp) fun hsc B=> ?_
  repeat first|with_reducible refine hsm.use ?_|refine kw1 h20 ?_|exact kwy
  refine AC.mono (begin_ conn first other room limit body [] _ (by omega) (by omega) (by omega) (by omega) (by omega) hy H hvn) ?_
  rintro r H1 ⟨pp,x1,rfl,hP1,hF1,hn1,hnv1⟩
  repeat first|with_reducible refine AWP.seqE (x:= .seq (.region 6 _ _) _) (fun st=>∃H2,RunA (fsR first other) conn room limit H pp l.length H2∧st=⟨[(15,ptr pp),(4,.int .i64 limit)],[],H2⟩) ?_ ?_|refine kw0 ?_|exact kwy
  ·
   repeat first|refine kw1 hq1 ?_|exact kwy
   refine AWP.loopP (fun s2:Nat×AHeap=>⟨[(15,ptr pp),(4,.int .i64 limit),(52,v),(53,.int .i64 (l.length:Nat)),(54,.int .i64 (s2.1:Nat))],[],s2.2⟩) (fun s2=>s2.1≤l.length∧RunA (fsR first other) conn room limit H pp s2.1 s2.2) (fun s2=>l.length - s2.1) (0,H1) ?_ ⟨by omega,⟨⟨_,x1,_,_,hP1,hP0,by show (0:Int)≤_;omega,fun W hW=>by rcases (by omega:W=0∨W=1) with rfl|rfl<;> rfl,hn1⟩,hF1⟩⟩ ?_
   ·exact Weak.env (by simp [envIn,lk_cons,wth_some])
   clear hP1 hP0 hF1 hn1 hsm
   rintro ⟨n,H2⟩ ⟨hle,⟨s,x,L,k,hP,hI,hnow,hcl,hnm⟩,hF⟩
   simp only at hle hP hI hF hnow
   by_cases hx:n<l.length
   ·have hx':(n:Int)<(l.length:Int):=by omega
    have hv2:RdN H2 5 v (l.map Ac.c):=hv.frm hF (by simp)
    obtain ⟨j,o,cap,cs,kk,rfl,hj,hg,hlo⟩:=acs_at hv2 hx
    have hjl:=lt_of_get hj
    have hwn:IntKind.i64.wrap ((n:Int)+1)=((n+1:Nat):Int):=by rw [wi64 (by omega)];omega
    have hlt:l[n].light:=hall _ (List.getElem_mem hx)
    have hix:=hi _ (List.getElem_mem hx)
    generalize l[n]=a at*
    have hskip:RunA (fsR first other) conn room limit H pp (n+1) (H2++ [.cells a.c ⟨51,0,true,0,none⟩]):=⟨⟨s,x,L,k,hP.more _,hI.nop,by omega,hcl,hnm⟩,by simpa using hF.trans (S':=[]) (Frm.app (X:= [.cells a.c ⟨51,0,true,0,none⟩])) (by simp)⟩
    by_cases h6:a.kind=6
    ·unfold Ac.c at hg hskip
     rw [h6] at hg hskip
     repeat first|refine kw7 hx' hj hjl @hgetl hg hlo hwn ?_|exact kwy
     exact ⟨(n+1,_),Weak.env (by simp [envIn,lk_cons,wth_some]),by show n+1≤_;omega,hskip,by show l.length - (n+1)<_;omega⟩
    ·have h6':(a.kind != 6)=true:=by simpa using h6
     by_cases h100:a.later<100
     ·obtain ⟨hdo,hd3,⟨L2,k2,hI2⟩,hcl2⟩:=hI.do_ (by omega) a h6 ⟨hlt.1,hlt.2.1,h100⟩ hnow hcl
      have hDo:=do_ (hP.more [.cells a.c ⟨51,0,true,0,none⟩]) a limit hdo (hI.a.base.small a hlt (by omega) hix.1 hix.2)
      unfold Ac.c at hg hDo
      repeat first|refine kw8 hx' hj hjl @hgetl hg hlo h6' h100 ?_|exact kwy
      refine AC.mono hDo ?_
      rintro r H3 ⟨rfl,x3,hJ3⟩
      repeat first|refine kw1 hwn ?_|exact kwy
      have hltx:=hP.lt
      refine ⟨(n+1,H3),Weak.env (by simp [envIn,lk_cons,wth_some]),by show n+1≤_;omega,⟨⟨_,x3,L2,k2,hJ3.pair,hI2,?_,hcl2,fun j hj=> ?_⟩,?_⟩,by show l.length - (n+1)<_;omega⟩
      ·show (doR s a).now≤99*((n+1+1:Nat):Int)
       rw [hd3];omega
      ·have:=hF.1
       rcases hJ3.names j hj with g|g
       ·exact hnm j g
       ·rw [List.length_append] at g;omega
      ·exact (hF.trans (S':=[]) (Frm.app (X:= [.cells a.c ⟨51,0,true,0,none⟩])) (by simp)).trans hJ3.frm fun j hj=> .inr (hnm j hj)
     ·unfold Ac.c at hg hskip
      repeat first|refine kw9 hx' hj hjl @hgetl hg hlo h6' h100 hwn ?_|exact kwy
      exact ⟨(n+1,_),Weak.env (by simp [envIn,lk_cons,wth_some]),by show n+1≤_;omega,hskip,by show l.length - (n+1)<_;omega⟩
   ·have hx':¬(n:Int)<(l.length:Int):=by omega
    obtain rfl:n=l.length:=by omega
    repeat first|refine kw1 hx' ?_|exact kwy
    exact ⟨_,⟨H2,⟨⟨s,x,L,k,hP,hI,hnow,hcl,hnm⟩,hF⟩,rfl⟩,Weak.env (by simp [envIn,lk_cons,wth_some])⟩
  ·rintro _ ⟨H2,⟨⟨s,x,L,k,hP,hI,hnow,hcl,hnm⟩,hF⟩,rfl⟩
   clear hF hnm hP1 hP0 hF1 hn1 hsm hv hvn hq hq1 hall hi
   obtain ⟨ho,h0,h1,hcl2,hn2,hrd,L2,k2,hI2⟩:=hI.openR (limit:=limit) (by omega) (by omega) hcl
   have hnow2:(stC s 2).now≤15000:=by omega
   clear hI hcl hnow hn2
   repeat first|with_reducible refine AWP.seqE (x:= .seq (.region 12 _ _) _) (fun st=>∃x H2,PairI H2 pp (stC s 2) x∧st=⟨[(15,ptr pp),(4,.int .i64 limit)],[],H2⟩) ?_ ?_|refine kw0 ?_|exact kwy
   ·
    repeat first|refine kw0 ?_|exact kwy
    refine AWP.loopP (fun s2:Nat×AHeap=>⟨[(15,ptr pp),(4,.int .i64 limit),(74,.int .i64 0)],[],s2.2⟩) (fun s2=>s2.1=0∧s2.2=H2) (fun s2=>0) (0,H2) ?_ ⟨rfl,rfl⟩ ?_
    ·exact Weak.env (by simp [envIn,lk_cons,wth_some])
    rintro ⟨n,H3⟩ ⟨hn0,hH3⟩
    simp only at hn0 hH3
    subst hn0 hH3
    repeat first|refine kw0 ?_|exact kwy
    refine AWP.loopP (fun s2:Nat×PQ×AHeap=>⟨[(15,ptr pp),(4,.int .i64 limit),(74,.int .i64 0),(76,.int .i64 (s2.1:Nat))],[],s2.2.2⟩) (fun s2=>s2.1≤2∧PairI s2.2.2 pp (stC s s2.1) s2.2.1) (fun s2=>2 - s2.1) (0,x,H3) ?_ ⟨by omega,hP⟩ ?_
    ·exact Weak.env (by simp [envIn,lk_cons,wth_some])
    clear hP
    rintro ⟨W,x2,H2⟩ ⟨hW2,hP2⟩
    simp only at hW2 hP2
    by_cases hW:W<2
    ·have hW':(W:Int)<2:=by omega
     have hwW:IntKind.i64.wrap ((W:Int)+1)=((W+1:Nat):Int):=by rw [wi64 (by omega)];omega
     have hw1:IntKind.i64.wrap (1 - (W:Int))=((1 - W:Nat):Int):=by rw [wi64 (by omega)];omega
     obtain ⟨hS,⟨B,K,hA⟩,hs,he⟩:=ho W hW
     have hsd:=send hP2 hW limit hS.due hS.made hS.outs hS.few hS.err hS.ok hS.due2 hS.under hS.out hS.pos hS.numbers hS.way
     rw [show ((sendR ((stC s W).e W) (stC s W).now).2.2.foldl (sendOne W) {stC s W with e:=upd (stC s W).e W (sendR ((stC s W).e W) (stC s W).now).2.1})=sendS (stC s W) W from rfl] at hsd
     repeat first|refine kw1 hW' ?_|exact kwy
     refine AC.mono hsd ?_
     rintro r H4 ⟨rfl,x4,hJ4⟩
     have har:=arrive hJ4.pair (W:=1 - W) (by omega) 1000 100000 (by omega) (by omega) hA.take hA.ok hA.at_ hA.B hA.K hA.read hA.ready
     rw [hs,he] at har
     repeat first|refine kw1 hw1 ?_|exact kwy
     refine AC.mono har ?_
     rintro r H5 ⟨rfl,x5,hJ5⟩
     repeat first|refine kw1 hwW ?_|exact kwy
     exact ⟨(W+1,x5,H5),Weak.env (by simp [envIn,lk_cons,wth_some]),by show W+1≤2;omega,hJ5.pair,by show 2 - (W+1)<2 - W;omega⟩
    obtain rfl:W=2:=by omega
    have hst0:=State (hP2.end_ 0 (by omega))
    have hst1:=State (hP2.end_ 1 (by omega))
    rw [h0] at hst0
    rw [h1] at hst1
    have hc:=hP2.cell
    simp only [pairC] at hc
    repeat first|with_reducible (first|refine hst0.use ?_|refine hst1.use ?_)|refine kw1 hc ?_|exact kwy
    exact ⟨_,⟨x2,H2,hP2,rfl⟩,Weak.env (by simp [envIn,lk_cons,wth_some])⟩
   ·rintro _ ⟨x2,H2,hP2,rfl⟩
    clear hP ho
    have hst:∀W,W<2→((stC s 2).e W).state=2:=fun W hW=>by
     rcases (by omega:W=0∨W=1) with rfl|rfl
     ·exact h0
     ·exact h1
    have hset:=hI2.settles (by omega) hnow2 hcl2 hst hrd
    obtain ⟨c0,c1,n0,n1,_,nn,hPA⟩:=hI2.closed (by omega) (by omega) hcl2 hst hrd
    have hnn:0≤(stC s 2).now:=hI2.a.base.now
    have hwl:∀W,W<2→((stD (stC s 2) W).e W).waiting.length<1099511627776:=fun W hW=>by
     have a0:=hI2.a.base.len (W:=0) (by omega)
     have a1:=hI2.a.base.len (W:=1) (by omega)
     rcases (by omega:W=0∨W=1) with rfl|rfl
     ·show ((stC s 2).e 0).waiting.length<_;omega
     ·show ((stC s 2).e 1).waiting.length<_;omega
    have hlim:=hl
    clear hI2 hPA hcl2 hrd hst h0 h1
    generalize stC s 2=z at*
    repeat first|with_reducible refine AWP.seqE (x:= .seq (.region 22 _ _) _) (fun st=>∃x H2,PairI H2 pp (stD z 2) x∧st=⟨[(15,ptr pp),(4,.int .i64 limit)],[],H2⟩) ?_ ?_|refine kw0 ?_|exact kwy
    ·
     repeat first|refine kw0 ?_|exact kwy
     refine AWP.loopP (fun s2:Nat×PQ×AHeap=>⟨[(15,ptr pp),(4,.int .i64 limit),(109,.int .i64 (s2.1:Nat))],[],s2.2.2⟩) (fun s2=>s2.1≤2∧PairI s2.2.2 pp (stD z s2.1) s2.2.1) (fun s2=>2 - s2.1) (0,x2,H2) ?_ ⟨by omega,hP2⟩ ?_
     ·exact Weak.env (by simp [envIn,lk_cons,wth_some])
     clear hP2
     rintro ⟨W,x2,H2⟩ ⟨hW2,hP2⟩
     simp only at hW2 hP2
     by_cases hW:W<2
     ·have hW':(W:Int)<2:=by omega
      have hwW:IntKind.i64.wrap ((W:Int)+1)=((W+1:Nat):Int):=by rw [wi64 (by omega)];omega
      have hCl:=Close (hP2.end_ W hW) (stD z W).now (hwl W hW)
      have hc:=hP2.cell
      simp only [pairC] at hc
      rcases (by omega:W=0∨W=1) with rfl|rfl
      ·simp only [Int.natCast_zero] at hwW hW' hCl ⊢
       rw [show (closeR ((stD z 0).e 0) (stD z 0).now).1=0 from c0] at hCl
       repeat first|refine kw0 ?_|exact kwy
       apply AWP.regionZ (T:=AHeap×Q) 10 0 (fun t=>EndI t.1 (x2.es 0) (closeR ((stD z 0).e 0) (stD z 0).now).2 t.2∧Frm ((x2.q 0).names (x2.es 0)) H2 t.1∧∀j∈t.2.names (x2.es 0),j∈(x2.q 0).names (x2.es 0)∨H2.length≤j) [10] [(0,0),(0,0),(0,0),(0,0),(0,0),(0,0),(0,0),(0,0),(0,0),(0,0),(0,0),(1,0)] [112,113,114,115,116,117,118,119,120,121] [122,21] [] (fun t=>[t.1]) [(112,_),(113,_),(114,_),(115,_),(116,_),(117,_),(118,_),(119,_),(120,_),(121,_)] (fun t=>[(122,.int .i64 0),(21,.int .i64 0)])
       ·kernel_rfl
       ·kernel_rfl
       ·kernel_rfl
       ·rfl
       ·rfl
       ·kernel_rfl
       ·kernel_rfl
       ·rfl
       ·intro t;rfl
       ·
        simp only [List.take_succ_cons,List.take_zero,List.drop_succ_cons,List.drop_zero,eachB,runB]
        repeat' with_reducible refine And.intro ?_ ?_
        iterate 2 all_goals try ((repeat' first|with_reducible refine And.intro ?_ ?_|refine kx1 hc ?_|exact kwy|exact rfl);done)
       ·
        repeat first|with_reducible refine kc ?_|((with_reducible first|refine kr ?_ ?_|refine kt ?_ ?_);exact rfl)|((with_reducible refine kf ?_ ?_);exact rfl)|simp only [go_sem,sevalprocAttr,reduceCtorEq,stepZ,hpL,List.getD_cons_zero,List.getD_cons_succ,hc]|simp (disch:=omega) only [wz]
        refine AC.mono hCl ?_
        rintro r H5 ⟨rfl,q5,k1,k2,k3⟩
        repeat first|refine kw0 ?_|exact kwy
        exact ⟨⟨H5,q5⟩,k1,k2,k3,rfl⟩
       ·rintro ⟨H5,q5⟩ ⟨k1,k2,k3⟩
        simp only [List.take_succ_cons,List.take_zero,List.drop_succ_cons,List.drop_zero,eachB,runB]
        repeat' with_reducible refine And.intro ?_ ?_
        iterate 2 all_goals try ((repeat' first|with_reducible refine And.intro ?_ ?_|refine kx0 ?_|exact kwy|exact rfl);done)
       ·rintro ⟨H5,q5⟩ ⟨k1,k2,k3⟩
        have hJ5:=hP2.jE (W:=0) (by omega) k1 k2 k3
        repeat first|refine kw1 hwW ?_|exact kwy
        have hP5:PairI H5 pp (stD z 1) _:=hJ5.pair
        exact ⟨(1,_,H5),Weak.env (by simp [envIn,lk_cons,wth_some]),by show 1≤2;omega,hP5,by show 2 - 1<2 - 0;omega⟩
      ·simp only [Int.natCast_one] at hwW hW' hCl ⊢
       rw [show (closeR ((stD z 1).e 1) (stD z 1).now).1=0 from c1] at hCl
       repeat first|refine kw0 ?_|exact kwy
       apply AWP.regionZ (T:=AHeap×Q) 10 0 (fun t=>EndI t.1 (x2.es 1) (closeR ((stD z 1).e 1) (stD z 1).now).2 t.2∧Frm ((x2.q 1).names (x2.es 1)) H2 t.1∧∀j∈t.2.names (x2.es 1),j∈(x2.q 1).names (x2.es 1)∨H2.length≤j) [10] [(0,0),(0,0),(0,0),(0,0),(0,0),(0,0),(0,0),(0,0),(0,0),(0,0),(0,0),(1,0)] [112,113,114,115,116,117,118,119,120,121] [122,21] [] (fun t=>[t.1]) [(112,_),(113,_),(114,_),(115,_),(116,_),(117,_),(118,_),(119,_),(120,_),(121,_)] (fun t=>[(122,.int .i64 0),(21,.int .i64 0)])
       ·kernel_rfl
       ·kernel_rfl
       ·kernel_rfl
       ·rfl
       ·rfl
       ·kernel_rfl
       ·kernel_rfl
       ·rfl
       ·intro t;rfl
       ·
        simp only [List.take_succ_cons,List.take_zero,List.drop_succ_cons,List.drop_zero,eachB,runB]
        repeat' with_reducible refine And.intro ?_ ?_
        iterate 2 all_goals try ((repeat' first|with_reducible refine And.intro ?_ ?_|refine kx1 hc ?_|exact kwy|exact rfl);done)
       ·
        repeat first|with_reducible refine kc ?_|((with_reducible first|refine kr ?_ ?_|refine kt ?_ ?_);exact rfl)|((with_reducible refine kf ?_ ?_);exact rfl)|simp only [go_sem,sevalprocAttr,reduceCtorEq,stepZ,hpL,List.getD_cons_zero,List.getD_cons_succ,hc]|simp (disch:=omega) only [wz]
        refine AC.mono hCl ?_
        rintro r H5 ⟨rfl,q5,k1,k2,k3⟩
        repeat first|refine kw0 ?_|exact kwy
        exact ⟨⟨H5,q5⟩,k1,k2,k3,rfl⟩
       ·rintro ⟨H5,q5⟩ ⟨k1,k2,k3⟩
        simp only [List.take_succ_cons,List.take_zero,List.drop_succ_cons,List.drop_zero,eachB,runB]
        repeat' with_reducible refine And.intro ?_ ?_
        iterate 2 all_goals try ((repeat' first|with_reducible refine And.intro ?_ ?_|refine kx0 ?_|exact kwy|exact rfl);done)
       ·rintro ⟨H5,q5⟩ ⟨k1,k2,k3⟩
        have hJ5:=hP2.jE (W:=1) (by omega) k1 k2 k3
        repeat first|refine kw1 hwW ?_|exact kwy
        have hP5:PairI H5 pp (stD z 2) _:=hJ5.pair
        exact ⟨(2,_,H5),Weak.env (by simp [envIn,lk_cons,wth_some]),by show 2≤2;omega,hP5,by show 2 - 2<2 - 1;omega⟩
     obtain rfl:W=2:=by omega
     repeat first|refine kw0 ?_|exact kwy
     exact ⟨_,⟨x2,H2,hP2,rfl⟩,Weak.env (by simp [envIn,lk_cons,wth_some])⟩
    ·rintro _ ⟨x3,H3,hP3,rfl⟩
     have hP3:PairI H3 pp (closeS (closeS z 0) 1) x3:=hP3
     have hse:=settle hP3 limit nn hset (by rw [n1];omega)
     repeat first|refine kw0 ?_|exact kwy
     refine AC.mono hse ?_
     clear hse hset nn n0 n1 c0 c1 hP3 hwl hP2
     rintro r H4 ⟨rfl,y,x4,hP4,hD⟩
     repeat first|refine kw0 ?_|exact kwy
     refine AWP.loopP (fun n:Nat=>⟨[(15,ptr pp),(130,.int .i64 (n:Nat))],[],H4⟩) (fun n=>n≤2) (fun n=>2 - n) 0 ?_ (by omega) ?_
     ·exact Weak.env (by simp [envIn,lk_cons,wth_some])
     intro W hW2
     by_cases hW:W<2
     ·have hW':(W:Int)<2:=by omega
      have hwW:IntKind.i64.wrap ((W:Int)+1)=((W+1:Nat):Int):=by rw [wi64 (by omega)];omega
      have hE:=hP4.end_ W hW
      have hDW:=hD W hW
      have hf0:∀p∈(y.e W).flight,p.body.length≤100000:=by rw [hDW.flight];simp
      have hw0:∀p∈(y.e W).waiting,p.body.length≤100000:=by rw [hDW.waiting];simp
      have hUn:=Under hE (by rw [hDW.flight];simp) hf0
      have hSt:=State hE
      have hEn:=Ended hE
      have hRe:=Ready hE
      have hWa:=Waiting hE (by rw [hDW.waiting];simp) hw0 (by rw [hDW.flight];simp) hf0
      have u1:underR (y.e W)=(0,0):=by unfold underR;rw [hDW.state,hDW.flight];rfl
      have u2:waitingR (y.e W)=0:=by unfold waitingR queuedR;rw [hDW.waiting,hDW.flight];rfl
      rw [u1] at hUn
      rw [u2] at hWa
      rw [hDW.state] at hSt
      rw [hDW.ended] at hEn
      rw [hDW.ready] at hRe
      have hc:=hP4.cell
      have r0:y.read 0=y.wrote 1:=(hD 0 (by omega)).read
      have r1:y.read 1=y.wrote 0:=(hD 1 (by omega)).read
      simp only [pairC] at hc
      rw [r0,r1] at hc
      clear hE hDW u1 u2 hf0 hw0 r0 r1
      rcases (by omega:W=0∨W=1) with rfl|rfl
      ·simp only [Int.natCast_zero] at hwW hW' ⊢
       repeat first|with_reducible refine hUn.use ?_|refine kw1 hc ?_|exact kwy
       apply AWP.regionX [] [(0,0),(0,0),(0,0),(0,0),(0,0),(0,0),(0,0),(0,0),(0,0),(0,0),(0,0),(0,0),(0,0),(0,0),(0,0),(0,0),(0,0),(0,0),(0,0),(0,0),(0,0),(0,0),(0,0),(0,0),(0,0),(0,0),(0,0),(0,0),(0,0),(0,0),(0,0),(0,0),(0,0),(0,0),(0,0),(0,0),(0,0),(0,0),(0,0),(0,0),(0,0),(0,0)] [144,145,146,147,148,149,150,151,152,153,154,155,156,157,158,159,160,161,162,163,164,165,166,167,168,169,170,171,172,173,174,175,176,177,178,179,180,181,182,183,184,185] [] [(144,_),(145,_),(146,_),(147,_),(148,_),(149,_),(150,_),(151,_),(152,_),(153,_),(154,_),(155,_),(156,_),(157,_),(158,_),(159,_),(160,_),(161,_),(162,_),(163,_),(164,_),(165,_),(166,_),(167,_),(168,_),(169,_),(170,_),(171,_),(172,_),(173,_),(174,_),(175,_),(176,_),(177,_),(178,_),(179,_),(180,_),(181,_),(182,_),(183,_),(184,_),(185,_)]
       ·kernel_rfl
       ·kernel_rfl
       ·kernel_rfl
       ·kernel_rfl
       ·rfl
       ·simp only [eachB,runB]
        repeat' with_reducible refine And.intro ?_ ?_
        iterate 2 all_goals try ((repeat' first|with_reducible refine And.intro ?_ ?_|with_reducible (first|refine hSt.use ?_|refine hEn.use ?_|refine hWa.use ?_|refine hRe.use ?_)|refine kx1 hc ?_|exact kwy|exact rfl);done)
       repeat first|refine kw1 hwW ?_|exact kwy
       exact ⟨1,Weak.env (by simp [envIn,lk_cons,wth_some]),by omega,by omega⟩
      ·simp only [Int.natCast_one] at hwW hW' ⊢
       repeat first|with_reducible refine hUn.use ?_|refine kw1 hc ?_|exact kwy
       apply AWP.regionX [] [(0,0),(0,0),(0,0),(0,0),(0,0),(0,0),(0,0),(0,0),(0,0),(0,0),(0,0),(0,0),(0,0),(0,0),(0,0),(0,0),(0,0),(0,0),(0,0),(0,0),(0,0),(0,0),(0,0),(0,0),(0,0),(0,0),(0,0),(0,0),(0,0),(0,0),(0,0),(0,0),(0,0),(0,0),(0,0),(0,0),(0,0),(0,0),(0,0),(0,0),(0,0),(0,0)] [144,145,146,147,148,149,150,151,152,153,154,155,156,157,158,159,160,161,162,163,164,165,166,167,168,169,170,171,172,173,174,175,176,177,178,179,180,181,182,183,184,185] [] [(144,_),(145,_),(146,_),(147,_),(148,_),(149,_),(150,_),(151,_),(152,_),(153,_),(154,_),(155,_),(156,_),(157,_),(158,_),(159,_),(160,_),(161,_),(162,_),(163,_),(164,_),(165,_),(166,_),(167,_),(168,_),(169,_),(170,_),(171,_),(172,_),(173,_),(174,_),(175,_),(176,_),(177,_),(178,_),(179,_),(180,_),(181,_),(182,_),(183,_),(184,_),(185,_)]
       ·kernel_rfl
       ·kernel_rfl
       ·kernel_rfl
       ·kernel_rfl
       ·rfl
       ·simp only [eachB,runB]
        repeat' with_reducible refine And.intro ?_ ?_
        iterate 2 all_goals try ((repeat' first|with_reducible refine And.intro ?_ ?_|with_reducible (first|refine hSt.use ?_|refine hEn.use ?_|refine hWa.use ?_|refine hRe.use ?_)|refine kx1 hc ?_|exact kwy|exact rfl);done)
       repeat first|refine kw1 hwW ?_|exact kwy
       exact ⟨2,Weak.env (by simp [envIn,lk_cons,wth_some]),by omega,by omega⟩
     obtain rfl:W=2:=by omega
     repeat first|with_reducible refine (haw _).use ?_|refine kw0 ?_|exact kwy
     exact ⟨_,_,.refl _ _ _,rfl⟩
 ·have hsm:=small_no conn first other room limit body (.slice none 0 0) 0 l v H hv hq hA
  refine AC.enter Try.func7 rfl (by kernel_rfl) 188 rfl [.tmp 14] rfl (by simp) fun hsc B=> ?_
  repeat first|with_reducible (first|refine hsm.use ?_|refine (haw _).use ?_)|refine kw0 ?_|exact kwy
  exact ⟨_,_,.refl _ _ _,rfl⟩
end Go.Proofs.Ytdgmcckfdgnicaa

set_option linter.unusedVariables false
set_option linter.unusedSimpArgs false
set_option maxRecDepth 20000
namespace Go.Proofs.Ytdgmcckfdgnicaa
open Go Go.Aw Go.Proofs
theorem acOf {bnd:Nat} {cs:List Value} (h:Fits bnd [.i .i64,.i .i64,.i .i64,.i .i64,.s] cs):∃a:Ac,cs=a.c∧isI a.n∧isI a.who:=by
 cases h with|cons h1 h=>
 cases h with|cons h2 h=>
 cases h with|cons h3 h=>
 cases h with|cons h4 h=>
 cases h with|cons h5 h=>
 cases h
 obtain ⟨z1,rfl,_⟩:=h1
 obtain ⟨z2,rfl,w2⟩:=h2
 obtain ⟨z3,rfl,w3⟩:=h3
 obtain ⟨z4,rfl,_⟩:=h4
 obtain ⟨z5,rfl,_⟩:=h5
 exact ⟨⟨z1,z2,z3,z4,z5⟩,rfl,wf_i64 w3,wf_i64 w2⟩
theorem acsOf {bnd:Nat}:∀l:List (List Value),(∀ r∈l,Fits bnd [.i .i64,.i .i64,.i .i64,.i .i64,.s] r)→∃xs:List Ac,l=xs.map Ac.c∧∀x∈xs,isI x.n∧isI x.who:=by
 intro l
 induction l with
 |nil=>intro _;exact ⟨[],rfl,by simp⟩
 |cons r l ih=>
  intro h
  obtain ⟨x,e,w⟩:=acOf (h r (List.mem_cons_self ..))
  obtain ⟨xs,e2,w2⟩:=ih fun r hr=>h r (List.mem_cons_of_mem _ hr)
  exact ⟨x::xs,by rw [e,e2];rfl,fun y hy=>by rcases List.mem_cons.1 hy with rfl|hy;exact w;exact w2 y hy⟩
end Go.Proofs.Ytdgmcckfdgnicaa
