/-
 An act.
-/
import Derived.Test.YtdgmcckfdgnicaaUy
import Derived.Test.YtdgmcckfdgnicaaUj
set_option linter.unusedVariables false
set_option linter.unusedSimpArgs false
set_option maxRecDepth 20000
set_option maxHeartbeats 8000000
namespace Go.Proofs.Ytdgmcckfdgnicaa
open Go Go.Aw Go.Proofs
structure SmallP (s:PS) (a:Ac):Prop where
 text:a.text.length≤300
 later:0≤a.later∧a.later≤100000
 now:0≤s.now∧s.now≤900000000
 w0:(s.wrote 0).length≤100000
 w1:(s.wrote 1).length≤100000
 n: -9223372036854775808≤a.n∧a.n≤9223372036854775807
 who: -9223372036854775808≤a.who∧a.who≤9223372036854775807
 few:∀W,W<2→(s.e W).waiting.length<100000∧ (∀ p∈(s.e W).waiting,p.body.length≤100000)∧1≤(s.e W).body∧(s.e W).body≤1400
theorem do_ {H:AHeap} {pp:Nat} {s:PS} {x:PQ} (h:PairI H pp s x) (a:Ac) (limit:Int) (hD:DoOk s a limit) (hm:SmallP s a):
  AC Try.prog 19 [ptr pp,.agg ⟨a.c⟩,.int .i64 limit] H (fun r H2=>r= .ret (.bool true)∧∃x',PJ H pp x (doR s a) H2 x'):=by
 have hJ0:PJ H pp x s (H++[AObj.cells a.c ⟨51,0,true,0,none⟩]) x:=(PJ.of h).more _
 have hJ1:PJ H pp x (doNow s a) ((H++[AObj.cells a.c ⟨51,0,true,0,none⟩]).set pp (.cells (pairC (doNow s a) x) kW)) x:=hJ0.trans (hJ0.pair.jP (doNow s a) rfl rfl rfl)
 have hb:(H++[AObj.cells a.c ⟨51,0,true,0,none⟩])[H.length]? =some (.cells a.c ⟨51,0,true,0,none⟩):=by simp
 have hne:pp≠H.length:=by have:=lt_of_get h.cell;omega
 have hb1:((H++[AObj.cells a.c ⟨51,0,true,0,none⟩]).set pp (.cells (pairC (doNow s a) x) kW))[H.length]? =some (.cells a.c ⟨51,0,true,0,none⟩):=by rw [List.getElem?_set_ne hne];exact hb
 have hc0:=hJ0.pair.cell
 have hc1:=hJ1.pair.cell
 obtain ⟨hW,hwe⟩:=whoR_ok a
 obtain ⟨W,hWd⟩:∃W,W=whoR a:=⟨_,rfl⟩
 rw [← hWd] at hW hwe
 obtain ⟨n,hnd⟩:∃n,n=nR a:=⟨_,rfl⟩
 have hnb:=nR_ok a
 rw [← hnd] at hnb
 have hbl:=lt_of_get hb
 have hcl0:=lt_of_get hc0
 have hw0:=hm.w0
 have hw1:=hm.w1
 obtain ⟨H0,hH0⟩:∃H0,H0=H++[AObj.cells a.c ⟨51,0,true,0,none⟩]:=⟨_,rfl⟩
 obtain ⟨H1,hH1⟩:∃H1,H1=H0.set pp (.cells (pairC (doNow s a) x) kW):=⟨_,rfl⟩
 rw [← hH0] at hJ0 hb hc0 hbl hcl0
 rw [← hH0,←hH1] at hJ1 hb1 hc1
 have hcl1:=lt_of_get hc1
 have hbl1:=lt_of_get hb1
 have hac:a.c= [.int .i64 a.kind,.int .i64 a.who,.int .i64 a.n,.int .i64 a.later,.string (bs a.text)]:=rfl
 have hH0':=hH0
 have hH1':=hH1
 rw [hac] at hH0' hb hb1
 simp only [pairC] at hc0 hc1 hH1'
 simp only [doNow] at hc1 hH1'
 have hw1':(IntKind.i64.wrap (a.who.tmod 2+2)).tmod 2=(W:Nat):=by
  have h1: -2<a.who.tmod 2∧a.who.tmod 2<2:=⟨Int.lt_tmod_of_pos _ (by omega),Int.tmod_lt_of_pos _ (by omega)⟩
  rw [wi64 (by omega),hwe]
 have hn1':IntKind.i64.wrap (1+(IntKind.i64.wrap (a.n.tmod 40+40)).tmod 40)=n:=by
  have h1: -40<a.n.tmod 40∧a.n.tmod 40<40:=⟨Int.lt_tmod_of_pos _ (by omega),Int.tmod_lt_of_pos _ (by omega)⟩
  have h2:nR a=n:=hnd.symm
  unfold nR at h2
  rw [wi64 (by omega: -9223372036854775808≤a.n.tmod 40+40∧a.n.tmod 40+40<9223372036854775808),wi64 (by omega),h2]
 have hnw:IntKind.i64.wrap (s.now+a.later)=s.now+a.later:=by
  have:=hm.now;have:=hm.later
  exact wi64 (by omega)
 have hmx:IntKind.i64.wrap (n*10)=n*10:=wi64 (by omega)
 rw [hac]
 refine AC.enter Try.func19 rfl (by kernel_rfl) 109 rfl [.tmp 6] rfl (by simp) fun hsc B=> ?_
 repeat first|with_reducible refine kc ?_|((with_reducible first|refine kr ?_ ?_|refine kt ?_ ?_);exact rfl)|((with_reducible refine kf ?_ ?_);exact rfl)|simp only [go_sem,sevalprocAttr,reduceCtorEq,hb,hbl]|simp (disch:=omega) only [wz]
 rw [← hH0']
 repeat first|with_reducible refine kc ?_|((with_reducible first|refine kr ?_ ?_|refine kt ?_ ?_);exact rfl)|((with_reducible refine kf ?_ ?_);exact rfl)|simp only [go_sem,sevalprocAttr,reduceCtorEq,hb,hbl,hc0,hcl0,hw1',hn1']|simp (disch:=omega) only [wz]
 refine AWP.regionK 6 (by kernel_rfl) (by decide) (by kernel_rfl) ?_
 repeat first|with_reducible refine kc ?_|((with_reducible first|refine kr ?_ ?_|refine kt ?_ ?_);exact rfl)|((with_reducible refine kf ?_ ?_);exact rfl)|simp only [go_sem,sevalprocAttr,reduceCtorEq,hb,hbl,hc0,hcl0,hnw]|simp (disch:=omega) only [wz]
 rw [← hH1']
 repeat first|with_reducible refine AWP.seqJ (x:= .seq (.region 5 _ _) _) ⟨[(32,.bool (decide (a.kind=1∨a.kind=2))),(31,.int .i64 a.kind),(8,.int .i64 n),(7,.int .i64 (W:Nat)),(4,ptr H.length),(0,ptr pp),(2,.int .i64 limit)],[],H1⟩ ?_ ?_|with_reducible refine kc ?_|((with_reducible first|refine kr ?_ ?_|refine kt ?_ ?_);exact rfl)|((with_reducible refine kf ?_ ?_);exact rfl)|simp only [go_sem,sevalprocAttr,reduceCtorEq,hb1,hbl1]|simp (disch:=omega) only [wz]
 ·by_cases h1:a.kind=1
  ·rw [h1]
   repeat first|with_reducible refine kc ?_|((with_reducible first|refine kr ?_ ?_|refine kt ?_ ?_);exact rfl)|((with_reducible refine kf ?_ ?_);exact rfl)|simp only [go_sem,sevalprocAttr,reduceCtorEq]|simp (disch:=omega) only [wz]
   exact Weak.env (by simp [envIn,lk_cons,wth_some])
  ·have h1':(a.kind==1)=false:=by simpa using h1
   by_cases h2:a.kind=2
   ·rw [h2]
    repeat first|with_reducible refine kc ?_|((with_reducible first|refine kr ?_ ?_|refine kt ?_ ?_);exact rfl)|((with_reducible refine kf ?_ ?_);exact rfl)|simp only [go_sem,sevalprocAttr,reduceCtorEq]|simp (disch:=omega) only [wz]
    exact Weak.env (by simp [envIn,lk_cons,wth_some])
   ·have h2':(a.kind==2)=false:=by simpa using h2
    repeat first|with_reducible refine kc ?_|((with_reducible first|refine kr ?_ ?_|refine kt ?_ ?_);exact rfl)|((with_reducible refine kf ?_ ?_);exact rfl)|simp only [go_sem,sevalprocAttr,reduceCtorEq,h1',h2']|simp (disch:=omega) only [wz]
    exact Weak.env (by simp [envIn,lk_cons,wth_some,h1,h2])
 by_cases hk:a.kind=1∨a.kind=2
 ·rw [show decide (a.kind=1∨a.kind=2)=true from by simp [hk]]
  have hdo:doR s a=if ((s.wrote 0).length:Int)+(s.wrote 1).length>3000 then doNow s a else writeS (doNow s a) W a.text:=by unfold doR;rw [if_pos hk,hWd]
  repeat first|with_reducible refine kc ?_|((with_reducible first|refine kr ?_ ?_|refine kt ?_ ?_);exact rfl)|((with_reducible refine kf ?_ ?_);exact rfl)|simp only [go_sem,sevalprocAttr,reduceCtorEq]|simp (disch:=omega) only [wz]
  refine AWP.regionK 12 (by kernel_rfl) (by decide) (by kernel_rfl) ?_
  by_cases hbig:((s.wrote 0).length:Int)+(s.wrote 1).length>3000
  ·rw [if_pos hbig] at hdo
   rw [hdo]
   repeat first|with_reducible refine kc ?_|((with_reducible first|refine kr ?_ ?_|refine kt ?_ ?_);exact rfl)|((with_reducible refine kf ?_ ?_);exact rfl)|simp only [go_sem,sevalprocAttr,reduceCtorEq,hc1,hbig]|simp (disch:=omega) only [wz]
   exact ⟨_,_,.refl _ _ _,rfl,_,hJ1⟩
  ·rw [if_neg hbig] at hdo
   rw [hdo]
   repeat first|with_reducible refine kc ?_|((with_reducible first|refine kr ?_ ?_|refine kt ?_ ?_);exact rfl)|((with_reducible refine kf ?_ ?_);exact rfl)|simp only [go_sem,sevalprocAttr,reduceCtorEq,hc1,hbig]|simp (disch:=omega) only [wz]
   have hWr:=Write (hJ1.pair.end_ W hW) (s.now+a.later) a.text (by have:=hm.text;omega) (by have:=(hm.few W hW).1;have:=hm.text;show (s.e W).waiting.length+_<_;omega) (hm.few W hW).2.1 (by have:=(hm.few W hW).2.2;show 1≤(s.e W).body∧(s.e W).body≤_;omega)
   have hcode:=hD.write hbig
   rw [← hWd] at hcode
   obtain ⟨WN,hWN⟩:∃WN:Nat,WN=W:=⟨_,rfl⟩
   have hWS:writeS (doNow s a) W a.text={doNow s a with e:=upd s.e W (writeR (s.e W) (s.now+a.later) a.text).2,wrote:=if (writeR (s.e W) (s.now+a.later) a.text).1=0 then upd s.wrote W (s.wrote W++a.text) else s.wrote}:=rfl
   have hcode:(writeR (s.e W) (s.now+a.later) a.text).1=0∨(writeR (s.e W) (s.now+a.later) a.text).1=9∨(writeR (s.e W) (s.now+a.later) a.text).1=4:=hcode
   have hWr:AC Try.prog 15 [ptr (x.es W),.int .i64 (s.now+a.later),.string (bs a.text)] H1 (fun r H2=>r= .ret (.int .i64 (writeR (s.e W) (s.now+a.later) a.text).1)∧Steps H1 (x.es W) (x.q W) (writeR (s.e W) (s.now+a.later) a.text).2 H2):=hWr
   rw [hWS]
   clear hWS
   have hbn:H.length∉(x.q W).names (x.es W):=fun hm=>by have:=(h.end_ W hW).lt _ hm;omega
   generalize hy:writeR (s.e W) (s.now+a.later) a.text=y at*
   rcases (by omega:W=0∨W=1) with rfl|rfl
   all_goals
    repeat first|with_reducible refine kc ?_|((with_reducible first|refine kr ?_ ?_|refine kt ?_ ?_);exact rfl)|((with_reducible refine kf ?_ ?_);exact rfl)|simp only [go_sem,sevalprocAttr,reduceCtorEq]|simp (disch:=omega) only [wz]
    refine AWP.regionK 12 (by kernel_rfl) (by decide) (by kernel_rfl) ?_
    repeat first|with_reducible refine kc ?_|((with_reducible first|refine kr ?_ ?_|refine kt ?_ ?_);exact rfl)|((with_reducible refine kf ?_ ?_);exact rfl)|simp only [go_sem,sevalprocAttr,reduceCtorEq,hc1,hb1]|simp (disch:=omega) only [wz]
    refine AC.mono hWr ?_
    rintro r H2 ⟨rfl,q2,k1,k2,k3⟩
    have hJ2:=hJ1.trans (hJ1.pair.jE hW k1 k2 k3)
    have hb2:=k2.get hb1 hbn
    have hbl2:=lt_of_get hb2
    have hc2:=hJ2.pair.cell
    have hcl2:=lt_of_get hc2
    simp only [pairC] at hc2
    simp only [doNow] at hc2
    obtain ⟨code,y2⟩:=y
    dsimp only at hcode hJ2 ⊢
    rcases hcode with rfl|rfl|rfl
    ·have hJ3:=hJ2.trans (hJ2.pair.jP {doNow s a with e:=upd s.e WN y2,wrote:=upd s.wrote WN (s.wrote WN++a.text)} (by rw [hWN];rfl) rfl rfl)
     rw [hWN] at hJ3
     have hlen2:(s.wrote 0).length+a.text.length≤9223372036854775807∧(s.wrote 1).length+a.text.length≤9223372036854775807:=by have:=hm.text;omega
     obtain ⟨hl20,hl21⟩:=hlen2
     simp only [pairC,upd_self,upd01,upd10] at hJ3
     simp only [doNow] at hJ3
     repeat first|with_reducible refine kc ?_|((with_reducible first|refine kr ?_ ?_|refine kt ?_ ?_);exact rfl)|((with_reducible refine kf ?_ ?_);exact rfl)|simp only [go_sem,sevalprocAttr,reduceCtorEq]|simp (disch:=omega) only [wz]
     apply AWP.regionX [12] [(0,0),(0,0),(0,0),(0,0),(0,0),(0,0),(0,0),(0,0),(0,0),(0,0),(0,0),(0,0),(0,0)] [64,65,66,67,68,69,70,71,72,73,74,75] [_] [(64,_),(65,_),(66,_),(67,_),(68,_),(69,_),(70,_),(71,_),(72,_),(73,_),(74,_),(75,_)]
     ·kernel_rfl
     ·kernel_rfl
     ·kernel_rfl
     ·kernel_rfl
     ·rfl
     ·simp only [eachB,runB]
      repeat' with_reducible refine And.intro ?_ ?_
      all_goals try (
       repeat' first
        |with_reducible refine And.intro ?_ ?_|with_reducible refine kc ?_|((with_reducible first|refine kr ?_ ?_|refine kt ?_ ?_);exact rfl)|((with_reducible refine kf ?_ ?_);exact rfl)|simp only [go_sem,sevalprocAttr,reduceCtorEq,hc2,hcl2,hb2,hbl2,hl20,hl21,stepS,hpL,List.getD_cons_zero,List.getD_cons_succ,List.contains_cons,List.contains_nil,and_imp,forall_eq,implies_true,List.map_cons,List.map_nil]|simp (disch:=omega) only [wz]
        |exact rfl
       done)
      all_goals (
       repeat' first
        |with_reducible refine And.intro ?_ ?_|with_reducible refine kc ?_|((with_reducible first|refine kr ?_ ?_|refine kt ?_ ?_);exact rfl)|((with_reducible refine kf ?_ ?_);exact rfl)|simp only [go_sem,sevalprocAttr,reduceCtorEq,hc2,hcl2,hb2,hbl2,hl20,hl21,stepS,hpL,List.getD_cons_zero,List.getD_cons_succ,List.contains_cons,List.contains_nil,and_imp,forall_eq,implies_true,List.map_cons,List.map_nil]|simp (disch:=omega) only [wz]
        |exact rfl)
     repeat first|with_reducible refine kc ?_|((with_reducible first|refine kr ?_ ?_|refine kt ?_ ?_);exact rfl)|((with_reducible refine kf ?_ ?_);exact rfl)|simp only [go_sem,sevalprocAttr,reduceCtorEq]|simp (disch:=omega) only [wz]
     exact ⟨_,_,.refl _ _ _,rfl,_,hJ3⟩
    ·repeat first|with_reducible refine kc ?_|((with_reducible first|refine kr ?_ ?_|refine kt ?_ ?_);exact rfl)|((with_reducible refine kf ?_ ?_);exact rfl)|simp only [go_sem,sevalprocAttr,reduceCtorEq]|simp (disch:=omega) only [wz]
     exact ⟨_,_,.refl _ _ _,rfl,_,hJ2⟩
    ·repeat first|with_reducible refine kc ?_|((with_reducible first|refine kr ?_ ?_|refine kt ?_ ?_);exact rfl)|((with_reducible refine kf ?_ ?_);exact rfl)|simp only [go_sem,sevalprocAttr,reduceCtorEq]|simp (disch:=omega) only [wz]
     exact ⟨_,_,.refl _ _ _,rfl,_,hJ2⟩
 ·rw [show decide (a.kind=1∨a.kind=2)=false from by simp [hk]]
  repeat first|with_reducible refine AWP.seqJ (x:= .seq (.region 15 _ _) _) ⟨[(82,.bool (decide (a.kind=3∨a.kind=4∨a.kind=5))),(31,.int .i64 a.kind),(8,.int .i64 n),(7,.int .i64 (W:Nat)),(4,ptr H.length),(0,ptr pp),(2,.int .i64 limit)],[],H1⟩ ?_ ?_|with_reducible refine kc ?_|((with_reducible first|refine kr ?_ ?_|refine kt ?_ ?_);exact rfl)|((with_reducible refine kf ?_ ?_);exact rfl)|simp only [go_sem,sevalprocAttr,reduceCtorEq]|simp (disch:=omega) only [wz]
  ·by_cases h1:a.kind=3
   ·rw [h1]
    repeat first|with_reducible refine kc ?_|((with_reducible first|refine kr ?_ ?_|refine kt ?_ ?_);exact rfl)|((with_reducible refine kf ?_ ?_);exact rfl)|simp only [go_sem,sevalprocAttr,reduceCtorEq]|simp (disch:=omega) only [wz]
    exact Weak.env (by simp [envIn,lk_cons,wth_some])
   ·have h1':(a.kind==3)=false:=by simpa using h1
    by_cases h2:a.kind=4
    ·rw [h2]
     repeat first|with_reducible refine kc ?_|((with_reducible first|refine kr ?_ ?_|refine kt ?_ ?_);exact rfl)|((with_reducible refine kf ?_ ?_);exact rfl)|simp only [go_sem,sevalprocAttr,reduceCtorEq]|simp (disch:=omega) only [wz]
     exact Weak.env (by simp [envIn,lk_cons,wth_some])
    ·have h2':(a.kind==4)=false:=by simpa using h2
     by_cases h3:a.kind=5
     ·rw [h3]
      repeat first|with_reducible refine kc ?_|((with_reducible first|refine kr ?_ ?_|refine kt ?_ ?_);exact rfl)|((with_reducible refine kf ?_ ?_);exact rfl)|simp only [go_sem,sevalprocAttr,reduceCtorEq]|simp (disch:=omega) only [wz]
      exact Weak.env (by simp [envIn,lk_cons,wth_some])
     ·have h3':(a.kind==5)=false:=by simpa using h3
      repeat first|with_reducible refine kc ?_|((with_reducible first|refine kr ?_ ?_|refine kt ?_ ?_);exact rfl)|((with_reducible refine kf ?_ ?_);exact rfl)|simp only [go_sem,sevalprocAttr,reduceCtorEq,h1',h2',h3']|simp (disch:=omega) only [wz]
      exact Weak.env (by simp [envIn,lk_cons,wth_some,h1,h2,h3])
  by_cases hk3:a.kind=3∨a.kind=4∨a.kind=5
  ·rw [show decide (a.kind=3∨a.kind=4∨a.kind=5)=true from by simp [hk3]]
   have hdo:doR s a=sendS (doNow s a) W:=by unfold doR;rw [if_neg hk,if_pos hk3,hWd]
   have hS:=hD.send
   rw [← hWd] at hS
   have hSd:=send hJ1.pair hW limit hS.due hS.made hS.outs hS.few hS.err hS.ok hS.due2 hS.under hS.out hS.pos hS.numbers hS.way
   rw [hdo]
   repeat first|with_reducible refine kc ?_|((with_reducible first|refine kr ?_ ?_|refine kt ?_ ?_);exact rfl)|((with_reducible refine kf ?_ ?_);exact rfl)|simp only [go_sem,sevalprocAttr,reduceCtorEq]|simp (disch:=omega) only [wz]
   refine AC.mono hSd ?_
   rintro r H2 ⟨rfl,x2,hJ2⟩
   repeat first|with_reducible refine kc ?_|((with_reducible first|refine kr ?_ ?_|refine kt ?_ ?_);exact rfl)|((with_reducible refine kf ?_ ?_);exact rfl)|simp only [go_sem,sevalprocAttr,reduceCtorEq]|simp (disch:=omega) only [wz]
   exact ⟨_,_,.refl _ _ _,rfl,_,hJ1.trans hJ2⟩
  ·rw [show decide (a.kind=3∨a.kind=4∨a.kind=5)=false from by simp [hk3]]
   by_cases h6:a.kind=6
   ·have hdo:doR s a=closeS (doNow s a) W:=by unfold doR;rw [if_neg hk,if_neg hk3,if_pos h6,hWd]
    have hCl:=Close (hJ1.pair.end_ W hW) (s.now+a.later) (by have:=(hm.few W hW).1;show (s.e W).waiting.length<_;omega)
    obtain ⟨WN,hWN⟩:∃WN:Nat,WN=W:=⟨_,rfl⟩
    rw [hdo,h6]
    rcases (by omega:W=0∨W=1) with rfl|rfl
    all_goals
     repeat first|with_reducible refine kc ?_|((with_reducible first|refine kr ?_ ?_|refine kt ?_ ?_);exact rfl)|((with_reducible refine kf ?_ ?_);exact rfl)|simp only [go_sem,sevalprocAttr,reduceCtorEq]|simp (disch:=omega) only [wz]
     refine AWP.regionK 10 (by kernel_rfl) (by decide) (by kernel_rfl) ?_
     repeat first|with_reducible refine kc ?_|((with_reducible first|refine kr ?_ ?_|refine kt ?_ ?_);exact rfl)|((with_reducible refine kf ?_ ?_);exact rfl)|simp only [go_sem,sevalprocAttr,reduceCtorEq,hc1]|simp (disch:=omega) only [wz]
     refine AC.mono hCl ?_
     rintro r H2 ⟨rfl,q2,k1,k2,k3⟩
     have hJ2:=hJ1.trans (hJ1.pair.jE hW k1 k2 k3)
     repeat first|with_reducible refine kc ?_|((with_reducible first|refine kr ?_ ?_|refine kt ?_ ?_);exact rfl)|((with_reducible refine kf ?_ ?_);exact rfl)|simp only [go_sem,sevalprocAttr,reduceCtorEq]|simp (disch:=omega) only [wz]
     exact ⟨_,_,.refl _ _ _,rfl,_,hJ2⟩
   ·have hdo:doR s a=arriveR (doNow s a) W n (n*10):=by unfold doR;rw [if_neg hk,if_neg hk3,if_neg h6,hWd,hnd]
    have h6':(a.kind==6)=false:=by simpa using h6
    obtain ⟨Bd,Kd,hA⟩:=hD.arr
    have hsn:=hD.sound
    rw [← hWd,←hnd] at hA hsn
    have hAr:=arrive hJ1.pair hW n (n*10) (by omega) (by omega) hA.take hA.ok hA.at_ hA.B hA.K hA.read hA.ready
    rw [hsn] at hAr
    rw [hdo]
    repeat first|with_reducible refine kc ?_|((with_reducible first|refine kr ?_ ?_|refine kt ?_ ?_);exact rfl)|((with_reducible refine kf ?_ ?_);exact rfl)|simp only [go_sem,sevalprocAttr,reduceCtorEq,h6',hmx]|simp (disch:=omega) only [wz]
    refine AC.mono hAr ?_
    rintro r H2 ⟨rfl,x2,hJ2⟩
    repeat first|with_reducible refine kc ?_|((with_reducible first|refine kr ?_ ?_|refine kt ?_ ?_);exact rfl)|((with_reducible refine kf ?_ ?_);exact rfl)|simp only [go_sem,sevalprocAttr,reduceCtorEq]|simp (disch:=omega) only [wz]
    exact ⟨_,_,.refl _ _ _,rfl,_,hJ1.trans hJ2⟩
end Go.Proofs.Ytdgmcckfdgnicaa
