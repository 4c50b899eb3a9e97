/-
 FlowRound:two pairs in one memory.
-/
import Derived.Test.Ytdgmcckfdgnicaaf2M
import Derived.Test.Ytdgmcckfdgnicaaf1M
import Derived.Test.YtdgmcckfdgnicaaAwB
set_option linter.unusedVariables false
set_option linter.unusedSimpArgs false
set_option maxRecDepth 20000
set_option maxHeartbeats 8000000
namespace Go.Proofs.Ytdgmcckfdgnicaa
open Go Go.Aw Go.Proofs
structure TwoI (H:AHeap) (nv:Value) (pp qq:Nat) (s t:PS) (x y:PQ) (H2:AHeap):Prop where
 p:PairI H2 pp s x
 q:PairI H2 qq t y
 ap:∀j∈x.names pp,j∉y.names qq
 px:∀j∈x.names pp,H.length≤j
 qx:∀j∈y.names qq,H.length≤j
 xn:x.nv=nv
 yn:y.nv=nv
 old:∀i o n c,nv= .slice (some ⟨i,o,none⟩) n c→i<H.length
 frm:Frm [] H H2
theorem TwoI.more {H:AHeap} {nv:Value} {pp qq:Nat} {s t:PS} {x y:PQ} {H2:AHeap} (h:TwoI H nv pp qq s t x y H2) (X:AHeap):TwoI H nv pp qq s t x y (H2++X):=
 ⟨h.p.more X,h.q.more X,h.ap,h.px,h.qx,h.xn,h.yn,h.old,h.frm.more⟩
theorem TwoI.stepP {H:AHeap} {nv:Value} {pp qq:Nat} {s s' t:PS} {x x' y:PQ} {H2 H3:AHeap} (h:TwoI H nv pp qq s t x y H2) (hJ:PJ H2 pp x s' H3 x'):TwoI H nv pp qq s' t x' y H3:=by
 have hl:=h.frm.1
 have hlt:=h.q.lt
 refine ⟨hJ.pair,h.q.frm hJ.frm (fun j hj hm=>h.ap j hm hj) (fun i o n c he hm=> ?_),fun j hj hm=> ?_,fun j hj=> ?_,h.qx,hJ.nv.trans h.xn,h.yn,h.old,h.frm.trans hJ.frm fun j hj=> .inr (h.px j hj)⟩
 ·have:=h.old i o n c (h.yn ▸ he)
  have:=h.px i hm
  omega
 ·rcases hJ.names j hj with g|g
  ·exact h.ap j g hm
  ·have:=hlt j hm;omega
 ·rcases hJ.names j hj with g|g
  ·exact h.px j g
  ·omega
theorem TwoI.stepQ {H:AHeap} {nv:Value} {pp qq:Nat} {s t t':PS} {x y y':PQ} {H2 H3:AHeap} (h:TwoI H nv pp qq s t x y H2) (hJ:PJ H2 qq y t' H3 y'):TwoI H nv pp qq s t' x y' H3:=by
 have hl:=h.frm.1
 have hlt:=h.p.lt
 refine ⟨h.p.frm hJ.frm (fun j hj hm=>h.ap j hj hm) (fun i o n c he hm=> ?_),hJ.pair,fun j hj hm=> ?_,h.px,fun j hj=> ?_,h.xn,hJ.nv.trans h.yn,h.old,h.frm.trans hJ.frm fun j hj=> .inr (h.qx j hj)⟩
 ·have:=h.old i o n c (h.xn ▸ he)
  have:=h.qx i hm
  omega
 ·rcases hJ.names j hm with g|g
  ·exact h.ap j hj g
  ·have:=hlt j hj;omega
 ·rcases hJ.names j hj with g|g
  ·exact h.qx j g
  ·omega
theorem rd_old {H:AHeap} {v:Value} {l:List Value} (h:Rd H v l):∀i o n c,v= .slice (some ⟨i,o,none⟩) n c→i<H.length:=by
 intro i o n c he
 rcases h with ⟨h,_⟩|⟨j,off,cap,cs,k,h,hg,_⟩
 ·rw [h] at he;cases he
 ·rw [h] at he
  cases he
  exact lt_of_get hg
structure RunR (H:AHeap) (nv:Value) (f g d:Nat→Int) (by_ conn room limit:Int) (numbers:List Int) (pp qq n:Nat) (H2:AHeap):Prop where
 ex:∃s t x y L M,TwoI H nv pp qq s t x y H2∧PSim by_ d s t∧PInv s f conn room limit L n∧PInv t g conn room limit M n∧s.numbers=numbers∧s.now≤100000*n
theorem lawRound (conn first other by_ room limit body:Int) (numbers:List Int) (l:List Ac) (hi:∀x∈l,isI x.n∧isI x.who) (vn v:Value) (H:AHeap) (hvn:Rd H vn (intsC numbers)) (hv:RdN H 5 v (l.map Ac.c)):
  AC Try.prog 5 [.int .i64 conn,.int .i64 first,.int .i64 other,.int .i64 by_,.int .i64 room,.int .i64 limit,.int .i64 body,vn,v] H (fun r _=>r= .ret (.bool true)):=by
 have haw:=fun H=>awake H
 have hq:∀H' K,lenW Try.prog 34 vn H' K=K (.int .i64 (numbers.length:Nat)) H':=fun H' K=>by rw [hvn.lenT (by simp only [go_sem,sevalprocAttr,reduceCtorEq])];simp [intsC]
 have hq1:∀H' K,lenW Try.prog 49 v H' K=K (.int .i64 (l.length:Nat)) H':=fun H' K=>by rw [hv.lenT (by simp only [go_sem,sevalprocAttr,reduceCtorEq]),List.length_map]
 by_cases hA:SmallA conn first other room limit body numbers.length l
 ·have hsm:=small_yes conn first other room limit body vn numbers.length l v H hv hq hA
  by_cases hby:0≤by_∧by_≤65535
  ·obtain ⟨⟨ha,hb,hc,hr,hl,hy,hn⟩,hm,hall⟩:=hA
   obtain ⟨first2,hf2⟩:∃z,z=(first+by_)%65536:=⟨_,rfl⟩
   obtain ⟨other2,ho2⟩:∃z,z=(other+by_)%65536:=⟨_,rfl⟩
   have hPar:Par (fsR first other) conn room limit numbers:=⟨fun W hW=>by unfold fsR;split<;> omega,by omega,hr,hl,by omega⟩
   have hPar2:Par (fsR first2 other2) conn room limit numbers:=⟨fun W hW=>by unfold fsR;split<;> omega,by omega,hr,hl,by omega⟩
   have hP0:=begin_P hPar hy
   have hQ0:=begin_P hPar2 hy
   have hS0:=begin_sim conn first other first2 other2 room limit body numbers by_
   obtain ⟨d,hd⟩:∃d:Nat→Int,d=fun W=>if W=0 then first2 - first else other2 - other:=⟨_,rfl⟩
   rw [← hd] at hS0
   have hByP:ByP by_ d (fsR first other):=by
    rw [hd]
    refine ⟨fun W hW=> ?_,fun W hW=> ?_⟩
    ·unfold ByOk
     split<;> omega
    ·unfold fsR
     split<;> omega
   have hw1:IntKind.i64.wrap (first+by_)=first+by_:=wi64 (by omega)
   have hw2:IntKind.i64.wrap (other+by_)=other+by_:=wi64 (by omega)
   have ht1:(first+by_).tmod 65536=first2:=by rw [Int.tmod_eq_emod_of_nonneg (by omega),hf2]
   have ht2:(other+by_).tmod 65536=other2:=by rw [Int.tmod_eq_emod_of_nonneg (by omega),ho2]
   refine AC.enter Try.func5 rfl (by kernel_rfl) 276 rfl [.tmp 18] rfl (by simp) fun hsc B=> ?_
   repeat first|with_reducible refine kc ?_|((with_reducible first|refine kr ?_ ?_|refine kt ?_ ?_);exact rfl)|((with_reducible refine kf ?_ ?_);exact rfl)|with_reducible (first|refine hsm.use ?_|refine (within_t hby).use ?_)|simp only [go_sem,sevalprocAttr,reduceCtorEq]|simp (disch:=omega) only [wz]
   refine AC.mono (begin_ conn first other room limit body numbers vn (by omega) (by omega) (by omega) (by omega) (by omega) hy H hvn) ?_
   rintro r H1 ⟨pp,x1,rfl,hP1,hF1,hn1,hnv1⟩
   repeat first|with_reducible refine kc ?_|((with_reducible first|refine kr ?_ ?_|refine kt ?_ ?_);exact rfl)|((with_reducible refine kf ?_ ?_);exact rfl)|simp only [go_sem,sevalprocAttr,reduceCtorEq,hw1,hw2,ht1,ht2]|simp (disch:=omega) only [wz]
   refine AC.mono (begin_ conn first2 other2 room limit body numbers vn (by omega) (by omega) (by omega) (by omega) (by omega) hy H1 (hvn.frm hF1 (by simp))) ?_
   rintro r H2 ⟨qq,y1,rfl,hQ1,hF2,hn2,hnv2⟩
   have hT0:TwoI H vn pp qq _ _ x1 y1 H2:=⟨hP1.frm hF2 (by simp) (by simp),hQ1,fun j hj hm=>by have:=hP1.lt j hj;have:=hn2 j hm;omega,hn1,fun j hj=>Nat.le_trans hF1.1 (hn2 j hj),hnv1,hnv2,rd_old hvn,hF1.trans hF2 (by simp)⟩
   repeat first|with_reducible refine kc ?_|((with_reducible first|refine kr ?_ ?_|refine kt ?_ ?_);exact rfl)|((with_reducible refine kf ?_ ?_);exact rfl)|simp only [go_sem,sevalprocAttr,reduceCtorEq,hq1]|simp (disch:=omega) only [wz]
   refine AWP.loopP (fun s2:Nat×AHeap=>⟨[(3,.int .i64 by_),(5,.int .i64 limit),(19,ptr pp),(21,ptr qq),(91,v),(92,.int .i64 (l.length:Nat)),(93,.int .i64 (s2.1:Nat))],[],s2.2⟩) (fun s2=>s2.1≤l.length∧RunR H vn (fsR first other) (fsR first2 other2) d by_ conn room limit numbers pp qq s2.1 s2.2) (fun s2=>l.length - s2.1) (0,H2) ?_ ⟨by omega,⟨⟨_,_,x1,y1,_,_,hT0,hS0,hP0,hQ0,rfl,Int.le_refl _⟩⟩⟩ ?_
   ·exact Weak.env (by simp [envIn,lk_cons,wth_some])
   clear hP0 hQ0 hS0 hT0 hP1 hQ1 hn1 hn2 hnv1 hnv2 hF1 hF2 x1 y1
   rintro ⟨n,H3⟩ ⟨hle,⟨s,t,x,y,L,M,hT,hS,hI,hK,hnum,hnow⟩⟩
   simp only at hle hT
   have hPs:Par (fsR first other) conn room limit s.numbers:=by rw [hnum];exact hPar
   have hPt:Par (fsR first2 other2) conn room limit t.numbers:=by rw [hS.numbers,hnum];exact hPar2
   by_cases hx:n<l.length
   ·have hx':(n:Int)<(l.length:Int):=by omega
    have hv2:RdN H3 5 v (l.map Ac.c):=hv.frm hT.frm (by simp)
    obtain ⟨j,o,cap,cs,k,rfl,hj,hg,hlo⟩:=acs_at hv2 hx
    have hjl:=lt_of_get hj
    have hwn:IntKind.i64.wrap ((n:Int)+1)=((n+1:Nat):Int):=by rw [wi64 (by omega)];omega
    have hlt:l[n].light:=hall _ (List.getElem_mem hx)
    have hix:=hi _ (List.getElem_mem hx)
    generalize l[n]=a at*
    obtain ⟨hdo,hd2,hd3,L2,hI2⟩:=hI.do_ hPs (by omega) a hlt hnow
    obtain ⟨hdoq,hd2q,hd3q,M2,hK2⟩:=hK.do_ hPt (by omega) a hlt (by rw [hS.now];exact hnow)
    have hS2:=hS.do_ hByP hI hPs a hlt.2.1
    have hT1:=hT.more [.cells a.c ⟨51,0,true,0,none⟩]
    have hb1:(H3++ [.cells a.c ⟨51,0,true,0,none⟩])[H3.length]? =some (.cells a.c ⟨51,0,true,0,none⟩):=by simp
    have hDo:=do_ hT1.p a limit hdo (hI.small a hlt (by omega) hix.1 hix.2)
    have hsmq:=hK.small a hlt (by rw [hS.now];omega) hix.1 hix.2
    have hbn:H3.length∉x.names pp:=fun hm=>by have:=hT.p.lt _ hm;omega
    have hlt2:=hlt.2.2
    clear hlt hix
    have hac:a.c= [.int .i64 a.kind,.int .i64 a.who,.int .i64 a.n,.int .i64 a.later,.string (bs a.text)]:=rfl
    rw [hac] at hg hDo hb1
    repeat first|with_reducible refine kc ?_|((with_reducible first|refine kr ?_ ?_|refine kt ?_ ?_);exact rfl)|((with_reducible refine kf ?_ ?_);exact rfl)|simp only [go_sem,sevalprocAttr,reduceCtorEq,hx',hj,hjl,hgetl,hg,hlo]|simp (disch:=omega) only [wz]
    refine AC.mono hDo ?_
    rintro r H4 ⟨rfl,x4,hJ4⟩
    have hT4:=hT1.stepP hJ4
    have hb4:=hJ4.frm.get hb1 hbn
    have hbl4:=lt_of_get hb4
    have hDq:=do_ hT4.q a limit hdoq hsmq
    rw [hac] at hDq
    repeat first|with_reducible refine kc ?_|((with_reducible first|refine kr ?_ ?_|refine kt ?_ ?_);exact rfl)|((with_reducible refine kf ?_ ?_);exact rfl)|simp only [go_sem,sevalprocAttr,reduceCtorEq,hb4,hbl4]|simp (disch:=omega) only [wz]
    refine AC.mono hDq ?_
    rintro r H5 ⟨rfl,y5,hJ5⟩
    have hT5:=hT4.stepQ hJ5
    obtain ⟨s5,hs5⟩:∃s5,s5=doR s a:=⟨_,rfl⟩
    obtain ⟨t5,ht5⟩:∃t5,t5=doR t a:=⟨_,rfl⟩
    rw [← hs5] at hT5 hI2 hS2 hd2 hd3
    rw [← ht5] at hT5 hK2 hS2
    clear hJ4 hJ5 hT4 hDq hDo hT hT1 hI hK hS hdo hdoq hsmq hg hlo hb1 hb4 hbl4 hbn
    repeat first|with_reducible refine kc ?_|((with_reducible first|refine kr ?_ ?_|refine kt ?_ ?_);exact rfl)|((with_reducible refine kf ?_ ?_);exact rfl)|simp only [go_sem,sevalprocAttr,reduceCtorEq]|simp (disch:=omega) only [wz]
    refine AWP.loopP (fun s2:Nat×AHeap=>⟨[(3,.int .i64 by_),(5,.int .i64 limit),(19,ptr pp),(21,ptr qq),(91,.slice (some ⟨j,o,none⟩) l.length cap),(92,.int .i64 (l.length:Nat)),(93,.int .i64 (n:Nat)),(109,.int .i64 (s2.1:Nat))],[],H5++s2.2⟩) (fun s2=>s2.1≤2) (fun s2=>2 - s2.1) (0,[]) ?_ (by omega) ?_
    ·simp only [List.append_nil]
     exact Weak.env (by simp [envIn,lk_cons,wth_some])
    rintro ⟨W,X⟩ hW2
    simp only at hW2 ⊢
    have hTX:=hT5.more X
    by_cases hW:W<2
    ·have hW':(W:Int)<2:=by omega
     have hwW:IntKind.i64.wrap ((W:Int)+1)=((W+1:Nat):Int):=by rw [wi64 (by omega)];omega
     obtain ⟨e1,e2,e3,e4,e5,e6,e7,e8,e9⟩:=hS2.same hW
     have hcp:=hTX.p.cell
     have hcq:=hTX.q.cell
     simp only [pairC] at hcp hcq
     rw [hS2.read] at hcq
     have hEp:=hTX.p.end_ W hW
     have hEq:=hTX.q.end_ W hW
     have hDp:=hI2.due hW
     have hDq:=hK2.due hW
     have hCp:=Counts hEp
     have hCq:=Counts hEq
     rw [e2,e3,e4] at hCq
     have hUp:=Under hEp hDp.fl hDp.fb
     have hUq:=Under hEq hDq.fl hDq.fb
     rw [e5] at hUq
     have hSp:=State hEp
     have hSq:=State hEq
     rw [e1] at hSq
     have hWp:=Waiting hEp hDp.wl hDp.wb hDp.fl hDp.fb
     have hWq:=Waiting hEq hDq.wl hDq.wb hDq.fl hDq.fb
     rw [e6] at hWq
     have hRp:=Ready hEp
     have hRq:=Ready hEq
     rw [e7] at hRq
     have hrp:=hTX.p.way W hW
     have hrq:=hTX.q.way W hW
     have hwl:=hS2.way W hW
     have qp:∀H' K,lenW Try.prog 31 (x4.wv W) H' K=K (.int .i64 ((s5.way W).length:Nat)) H':=fun H' K=>hrp.lenW
     have qq':∀H' K,lenW Try.prog 31 (y5.wv W) H' K=K (.int .i64 ((s5.way W).length:Nat)) H':=fun H' K=>by rw [hrq.lenW,e9]
     have p1:∀z:Int,(z != z)=false:=fun z=>by simp
     have p2:∀z:List UInt8,(z != z)=false:=fun z=>by simp
     obtain ⟨WN,hWN⟩:∃WN:Nat,WN=W:=⟨_,rfl⟩
     rcases (by omega:W=0∨W=1) with rfl|rfl
     all_goals
      repeat first|with_reducible refine kc ?_|((with_reducible first|refine kr ?_ ?_|refine kt ?_ ?_);exact rfl)|((with_reducible refine kf ?_ ?_);exact rfl)|simp only [go_sem,sevalprocAttr,reduceCtorEq,hW']|simp (disch:=omega) only [wz]
      apply AWP.regionX [] [(0,0),(0,0),(0,0),(0,0),(0,0),(0,0),(0,0),(0,0),(0,0),(0,0),(0,0),(0,0),(0,0),(0,0)] [112,113,114,115,116,117,118,119,120,121,122,123,26,27] [] [(112,_),(113,_),(114,_),(115,_),(116,_),(117,_),(118,_),(119,_),(120,_),(121,_),(122,_),(123,_),(26,_),(27,_)]
      ·kernel_rfl
      ·kernel_rfl
      ·kernel_rfl
      ·kernel_rfl
      ·rfl
      ·simp only [eachB,runB]
       repeat' with_reducible refine And.intro ?_ ?_
       all_goals try (
        repeat' first
         |with_reducible refine And.intro ?_ ?_|with_reducible refine kc ?_|((with_reducible first|refine kr ?_ ?_|refine kt ?_ ?_);exact rfl)|((with_reducible refine kf ?_ ?_);exact rfl)|simp only [go_sem,sevalprocAttr,reduceCtorEq,hcp,hcq,stepS,hpL,List.getD_cons_zero,List.getD_cons_succ,List.contains_cons,List.contains_nil,and_imp,forall_eq,implies_true,List.map_cons,List.map_nil]|simp (disch:=omega) only [wz]
         |exact rfl
        done)
       all_goals (
        repeat' first
         |with_reducible refine And.intro ?_ ?_|with_reducible refine kc ?_|((with_reducible first|refine kr ?_ ?_|refine kt ?_ ?_);exact rfl)|((with_reducible refine kf ?_ ?_);exact rfl)|simp only [go_sem,sevalprocAttr,reduceCtorEq,hcp,hcq,stepS,hpL,List.getD_cons_zero,List.getD_cons_succ,List.contains_cons,List.contains_nil,and_imp,forall_eq,implies_true,List.map_cons,List.map_nil]|simp (disch:=omega) only [wz]
         |exact rfl)
      repeat first|with_reducible refine AWP.seqJ (x:= .seq (.region 20 _ _) _) ⟨[(3,.int .i64 by_),(5,.int .i64 limit),(19,ptr pp),(21,ptr qq),(91,.slice (some ⟨j,o,none⟩) l.length cap),(92,.int .i64 (l.length:Nat)),(93,.int .i64 (n:Nat)),(109,.int .i64 (WN:Nat)),(25,.int .i64 (WN:Nat))],[],H5++X⟩ ?_ ?_|with_reducible refine kc ?_|((with_reducible first|refine kr ?_ ?_|refine kt ?_ ?_);exact rfl)|((with_reducible refine kf ?_ ?_);exact rfl)|with_reducible (first|refine hCp.use ?_|refine hCq.use ?_|refine hUp.use ?_|refine hUq.use ?_)|simp only [go_sem,sevalprocAttr,reduceCtorEq]|simp (disch:=omega) only [wz]
      ·
       clear hEp hEq hDp hDq hrp hrq hwl hTX hT5 hS2 hI2 hK2 hPs hPt hPar hPar2 hByP hall hi hm hsm hv hvn hq hq1
       apply AWP.regionX [] [(0,0),(0,0),(0,0),(0,0),(0,0),(0,0),(0,0),(0,0),(0,0),(0,0),(0,0),(0,0),(0,0),(0,0),(0,0),(0,0),(0,0),(0,0),(0,0),(0,0),(0,0),(0,0),(0,0),(0,0),(0,0),(0,0),(0,0),(0,0),(0,0),(0,0),(0,0),(0,0),(0,0),(0,0),(0,0),(0,0),(0,0),(0,0),(0,0),(0,0),(0,0),(0,0),(0,0),(0,0),(0,0),(0,0),(0,0),(0,0),(0,0),(0,0),(0,0),(0,0),(0,0),(0,0),(0,0),(0,0),(0,0),(0,0),(0,0),(0,0),(0,0),(0,0),(0,0),(0,0),(0,0),(0,0),(0,0),(0,0),(0,0),(0,0),(0,0),(0,0),(0,0),(0,0),(0,0),(0,0)] [146,147,148,149,150,151,152,153,154,155,156,157,158,159,160,161,162,163,164,165,166,167,168,169,170,171,172,173,174,175,176,177,178,179,180,181,182,183,184,185,186,187,188,189,190,191,192,193,194,195,196,197,198,199,200,201,202,203,204,205,206,207,208,209,210,211,212,213,214,215,216,217,218,219,220,221] [] [(146,_),(147,_),(148,_),(149,_),(150,_),(151,_),(152,_),(153,_),(154,_),(155,_),(156,_),(157,_),(158,_),(159,_),(160,_),(161,_),(162,_),(163,_),(164,_),(165,_),(166,_),(167,_),(168,_),(169,_),(170,_),(171,_),(172,_),(173,_),(174,_),(175,_),(176,_),(177,_),(178,_),(179,_),(180,_),(181,_),(182,_),(183,_),(184,_),(185,_),(186,_),(187,_),(188,_),(189,_),(190,_),(191,_),(192,_),(193,_),(194,_),(195,_),(196,_),(197,_),(198,_),(199,_),(200,_),(201,_),(202,_),(203,_),(204,_),(205,_),(206,_),(207,_),(208,_),(209,_),(210,_),(211,_),(212,_),(213,_),(214,_),(215,_),(216,_),(217,_),(218,_),(219,_),(220,_),(221,_)]
       ·kernel_rfl
       ·kernel_rfl
       ·kernel_rfl
       ·kernel_rfl
       ·rfl
       ·simp only [eachB,runB,List.append_eq,List.cons_append,List.nil_append]
        repeat' with_reducible refine And.intro ?_ ?_
        all_goals try (
         repeat' first
          |with_reducible refine And.intro ?_ ?_|with_reducible refine kc ?_|((with_reducible first|refine kr ?_ ?_|refine kt ?_ ?_);exact rfl)|((with_reducible refine kf ?_ ?_);exact rfl)|with_reducible (first|refine hSp.use ?_|refine hSq.use ?_|refine hWp.use ?_|refine hWq.use ?_|refine hRp.use ?_|refine hRq.use ?_)|simp only [go_sem,sevalprocAttr,reduceCtorEq,hcp,hcq,qp,qq',p1,p2,stepS,hpL,List.getD_cons_zero,List.getD_cons_succ,List.contains_cons,List.contains_nil,and_imp,forall_eq,implies_true,List.map_cons,List.map_nil]|simp (disch:=omega) only [wz]
          |exact rfl
         done)
        all_goals (
         repeat' first
          |with_reducible refine And.intro ?_ ?_|with_reducible refine kc ?_|((with_reducible first|refine kr ?_ ?_|refine kt ?_ ?_);exact rfl)|((with_reducible refine kf ?_ ?_);exact rfl)|with_reducible (first|refine hSp.use ?_|refine hSq.use ?_|refine hWp.use ?_|refine hWq.use ?_|refine hRp.use ?_|refine hRq.use ?_)|simp only [go_sem,sevalprocAttr,reduceCtorEq,hcp,hcq,qp,qq',p1,p2,stepS,hpL,List.getD_cons_zero,List.getD_cons_succ,List.contains_cons,List.contains_nil,and_imp,forall_eq,implies_true,List.map_cons,List.map_nil]|simp (disch:=omega) only [wz]
          |exact rfl)
       repeat first|with_reducible refine kc ?_|((with_reducible first|refine kr ?_ ?_|refine kt ?_ ?_);exact rfl)|((with_reducible refine kf ?_ ?_);exact rfl)|simp only [go_sem,sevalprocAttr,reduceCtorEq]|simp (disch:=omega) only [wz]
       exact Weak.env (by simp [envIn,lk_cons,wth_some,hWN])
      simp only [hWN,Int.natCast_zero,Int.natCast_one]
      repeat first|with_reducible refine kc ?_|((with_reducible first|refine kr ?_ ?_|refine kt ?_ ?_);exact rfl)|((with_reducible refine kf ?_ ?_);exact rfl)|simp only [go_sem,sevalprocAttr,reduceCtorEq,hcp,qp]|simp (disch:=omega) only [wz]
      refine AWP.loopP (fun s2:Nat×AHeap=>⟨[(3,.int .i64 by_),(5,.int .i64 limit),(19,ptr pp),(21,ptr qq),(91,.slice (some ⟨j,o,none⟩) l.length cap),(92,.int .i64 (l.length:Nat)),(93,.int .i64 (n:Nat)),(109,.int .i64 (WN:Nat)),(25,.int .i64 (WN:Nat)),(227,x4.wv WN),(228,.int .i64 ((s5.way WN).length:Nat)),(229,.int .i64 (s2.1:Nat))],[],H5++X++s2.2⟩) (fun s2=>s2.1≤(s5.way WN).length) (fun s2=>(s5.way WN).length - s2.1) (0,[]) ?_ (Nat.zero_le _) ?_
      ·simp only [List.append_nil]
       exact Weak.env (by simp [envIn,lk_cons,wth_some,hWN])
      rintro ⟨kk,Y⟩ hkl0
      simp only at hkl0 ⊢
      have hTY:=hTX.more Y
      generalize hH6:H5++X++Y=H6 at hTY ⊢
      by_cases hkl:kk<(s5.way WN).length
      ·
       have hkl':(kk:Int)<((s5.way WN).length:Int):=by omega
       have hwy:=hI2.ways WN (by omega)
       have hwp:=hI2.pos
       have hnm2:s5.numbers.length≤300:=by rw [hd2,hnum];omega
       have hwk:IntKind.i64.wrap ((kk:Int)+1)=((kk+1:Nat):Int):=by rw [wi64 (by omega)];omega
       have hWL:WN<2:=by omega
       have hcq2:=hTY.q.cell
       have hcq2l:=lt_of_get hcq2
       simp only [pairC] at hcq2
       have hwl2:=hS2.way WN hWL
       have hg1:(s5.way WN)[kk]? =some (s5.way WN)[kk]:=List.getElem?_eq_getElem hkl
       have hg2:(t5.way WN)[kk]? =some ((t5.way WN)[kk]'(by rw [← hwl2.len];exact hkl)):=List.getElem?_eq_getElem _
       have hsim:=hwl2.get hg1 hg2
       obtain ⟨j1,off1,cap1,cs1,es1,hv1,_,hj1,hcap1,hle1,hr1⟩:=(hTY.p.way WN hWL).get hg1
       obtain ⟨j2,off2,cap2,cs2,es2,hv2',_,hj2,hcap2,hle2,hr2⟩:=(hTY.q.way WN hWL).get hg2
       have hokp:=(hI2.way WN hWL _ (List.getElem_mem hkl)).ok.2.2.2.1
       have hlq:(t5.way WN).length=(s5.way WN).length:=hwl2.len.symm
       generalize (s5.way WN)[kk]=a1 at*
       generalize (t5.way WN)[kk]'(by rw [← hwl2.len];exact hkl)=a2 at*
       have hle1':off1+(kk*9+9)≤cs1.length:=by omega
       have hle2':off2+(kk*9+9)≤cs2.length:=by omega
       have hkq:(kk:Int)<((t5.way WN).length:Int):=by omega
       have hsq:=hsim.seq
       have hwb:IntKind.i64.wrap (a1.seq+by_)=a1.seq+by_:=wi64 (by omega)
       have htb:(a1.seq+by_).tmod 65536=(a1.seq+by_)%65536:=Int.tmod_eq_emod_of_nonneg (by omega)
       have c1:a1.c= [.int .i64 a1.kind,.int .i64 a1.conn,.int .i64 a1.seq,.int .i64 a1.ack,.int .i64 a1.window,.string (bs a1.marks),.string (bs a1.body),.int .i64 a1.time,.int .i64 a1.late]:=rfl
       have c2:a2.c= [.int .i64 a1.kind,.int .i64 a2.conn,.int .i64 ((a1.seq+by_)%65536),.int .i64 a2.ack,.int .i64 a2.window,.string (bs a1.marks),.string (bs a1.body),.int .i64 a2.time,.int .i64 a2.late]:=by
        rw [← hsim.kind,←hsim.seq,←hsim.marks,←hsim.body];rfl
       rw [c1] at hr1
       rw [c2] at hr2
       have hj1l:=lt_of_get hj1
       have hj2l:=lt_of_get hj2
       clear hCp hCq hUp hUq hSp hSq hWp hWq hRp hRq
       simp only [hWN,Int.natCast_zero,Int.natCast_one] at hv1 hv2' hkl' hkq ⊢
       rw [hv1]
       repeat first|with_reducible refine kc ?_|((with_reducible first|refine kr ?_ ?_|refine kt ?_ ?_);exact rfl)|((with_reducible refine kf ?_ ?_);exact rfl)|simp only [go_sem,sevalprocAttr,reduceCtorEq,hkl',hj1,hj1l,hgetl,hle1',hr1,hcq2,hcq2l,hv2',hkq,hj2,hj2l,hle2',hr2]|simp (disch:=omega) only [wz]
       have hap:∀Z,H6++Z=H5++(X++(Y++Z)):=fun Z=>by rw [← hH6,List.append_assoc,List.append_assoc]
       rw [hap]
       rw [hWN] at hkl
       refine ⟨(kk+1,Y++_),Weak.env ?_,?_,?_⟩
       ·simp [envIn,lk_cons,wth_some,Int.natCast_add]
       ·show kk+1≤_
        omega
       ·dsimp only
        omega
      ·have hkl':¬(kk:Int)<((s5.way WN).length:Int):=by omega
       simp only [hWN,Int.natCast_zero,Int.natCast_one] at hkl' ⊢
       repeat first|with_reducible refine kc ?_|((with_reducible first|refine kr ?_ ?_|refine kt ?_ ?_);exact rfl)|((with_reducible refine kf ?_ ?_);exact rfl)|simp only [go_sem,sevalprocAttr,reduceCtorEq,hkl',hwW]|simp (disch:=omega) only [wz]
       rw [← hH6,List.append_assoc]
       exact ⟨(WN+1,X++Y),Weak.env (by simp [envIn,lk_cons,wth_some,hWN]),by show WN+1≤2;omega,by show 2 - (WN+1)<_;omega⟩
    ·have hW':¬(W:Int)<2:=by omega
     repeat first|with_reducible refine kc ?_|((with_reducible first|refine kr ?_ ?_|refine kt ?_ ?_);exact rfl)|((with_reducible refine kf ?_ ?_);exact rfl)|simp only [go_sem,sevalprocAttr,reduceCtorEq,hW',hwn]|simp (disch:=omega) only [wz]
     refine ⟨(n+1,H5++X),Weak.env (by simp [envIn,lk_cons,wth_some]),by show n+1≤_;omega,⟨⟨_,_,_,_,L2,M2,hTX,hS2,hI2,hK2,hd2.trans hnum,?_⟩⟩,by show l.length - (n+1)<_;omega⟩
     rw [hd3];omega
   ·have hx':¬(n:Int)<(l.length:Int):=by omega
    repeat first|with_reducible refine kc ?_|((with_reducible first|refine kr ?_ ?_|refine kt ?_ ?_);exact rfl)|((with_reducible refine kf ?_ ?_);exact rfl)|with_reducible refine (haw _).use ?_|simp only [go_sem,sevalprocAttr,reduceCtorEq,hx']|simp (disch:=omega) only [wz]
    exact ⟨_,_,.refl _ _ _,rfl⟩
  ·
   refine AC.enter Try.func5 rfl (by kernel_rfl) 276 rfl [.tmp 18] rfl (by simp) fun hsc B=> ?_
   repeat first|with_reducible refine kc ?_|((with_reducible first|refine kr ?_ ?_|refine kt ?_ ?_);exact rfl)|((with_reducible refine kf ?_ ?_);exact rfl)|with_reducible (first|refine hsm.use ?_|refine (within_f hby).use ?_|refine (haw _).use ?_)|simp only [go_sem,sevalprocAttr,reduceCtorEq]|simp (disch:=omega) only [wz]
   exact ⟨_,_,.refl _ _ _,rfl⟩
 ·have hsm:=small_no conn first other room limit body vn numbers.length l v H hv hq hA
  refine AC.enter Try.func5 rfl (by kernel_rfl) 276 rfl [.tmp 18] rfl (by simp) fun hsc B=> ?_
  repeat first|with_reducible refine kc ?_|((with_reducible first|refine kr ?_ ?_|refine kt ?_ ?_);exact rfl)|((with_reducible refine kf ?_ ?_);exact rfl)|with_reducible (first|refine hsm.use ?_|refine (haw _).use ?_)|simp only [go_sem,sevalprocAttr,reduceCtorEq]|simp (disch:=omega) only [wz]
  exact ⟨_,_,.refl _ _ _,rfl⟩
end Go.Proofs.Ytdgmcckfdgnicaa
