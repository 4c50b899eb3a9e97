/-
 What is on the way to an end arrives;it reads.
-/
import Derived.Test.YtdgmcckfdgnicaaUi
set_option linter.unusedVariables false
set_option linter.unusedSimpArgs false
set_option maxRecDepth 20000
set_option maxHeartbeats 8000000
namespace Go.Proofs.Ytdgmcckfdgnicaa
open Go Go.Aw Go.Proofs
def readOut (most:Int) (s:E):List UInt8:=s.ready.take (readN most s)
def readS (most:Int) (s:E):E:={s with ready:=s.ready.drop (readN most s)}
theorem Read {s:E} {H:AHeap} {e:Nat} {q:Q} (h:EndI H e s q) (most:Int) (hm:0≤most):AC Try.prog 36 [ptr e,.int .i64 most] H (fun r H2=>∃er:Int,(er=0∨er=8)∧r= .ret (.tuple ⟨[.string (bs (readOut most s)),.int .i64 er]⟩)∧Steps H e q (readS most s) H2):=by
 haveI:Decidable (readNo s):=by unfold readNo;infer_instance
 by_cases hn:readNo s
 ·refine AC.mono (readEnd h most hm hn) ?_
  rintro r H2 ⟨rfl,rfl⟩
  have h1:readOut most s=[]:=by unfold readOut;rw [hn.1];simp
  have h2:readS most s=s:=by unfold readS;rw [show s.ready.drop (readN most s)=s.ready from by rw [hn.1];simp]
  exact ⟨8,.inr rfl,by rw [h1],by rw [h2];exact Steps.refl h⟩
 ·refine AC.mono (readGo h most hm hn) ?_
  rintro r H2 ⟨rfl,rfl⟩
  exact ⟨0,.inl rfl,rfl,Steps.put h (readS most s) q.told rfl rfl rfl⟩
theorem upd_upd {α :Type} {f:Nat→α} {i:Nat} {a b:α}:upd (upd f i a) i b=upd f i b:=by
 funext j
 unfold upd
 split<;> rfl
def arrN (n:Int) (l:List Sg):Nat:=(min n (l.length:Int)).toNat
def arrT (s:PS) (W:Nat) (n:Int):E:=(takeR (s.e W) s.now ((s.way (1 - W)).take (arrN n (s.way (1 - W))))).2
def arriveR (s:PS) (W:Nat) (n most:Int):PS:=
 {s with e:=upd s.e W (readS most (arrT s W n)),way:=upd s.way (1 - W) ((s.way (1 - W)).drop (arrN n (s.way (1 - W)))),read:=upd s.read W (s.read W++readOut most (arrT s W n))}
def ArJ (H:AHeap) (pp:Nat) (x:PQ) (W:Nat) (s1:PS) (env:List (Nat×Value)) (st:ASt):Prop:=∃q1 H1,PJ H pp x s1 H1 {x with q:=upd x.q W q1}∧st=⟨env,[],H1⟩
def ArK (H:AHeap) (pp:Nat) (x:PQ) (s1:PS) (env:List (Nat×Value)) (st:ASt):Prop:=∃x1 H1,PJ H pp x s1 H1 x1∧st=⟨env,[],H1⟩
theorem arrive {H:AHeap} {pp:Nat} {s:PS} {x:PQ} (h:PairI H pp s x) {W:Nat} (hW:W<2) (n most:Int) (hn:0≤n) (hmost:0≤most) {Bd Kd:Nat} (hT:TakeOk Bd Kd (s.e W)) (hok:∀p∈s.way (1 - W),p.ok) (hat:atR (s.e W) s.now=0)
  (hB:Bd+1400*(s.way (1 - W)).length<1000000000) (hK:Kd+(s.way (1 - W)).length<1000000) (hrd:(s.read W).length<1000000000) (hrl:(arrT s W n).ready.length<1000000000):
  AC Try.prog 12 [ptr pp,.int .i64 (W:Nat),.int .i64 n,.int .i64 most] H (fun r H2=>r= .ret (.bool (soundR (arriveR s W n most) W))∧∃x',PJ H pp x (arriveR s W n most) H2 x'):=by
 have hV:1 - W<2:=by omega
 obtain ⟨l,hl⟩:∃l,l=s.way (1 - W):=⟨_,rfl⟩
 obtain ⟨v,hv⟩:∃v,v=x.wv (1 - W):=⟨_,rfl⟩
 have hrow:=h.way (1 - W) hV
 have hjsd:∀j∈x.wj (1 - W),j∉x.en W:=h.nw (1 - W) W hV hW
 rw [← hl,←hv] at hrow
 rw [← hl] at hok hB hK
 obtain ⟨m,hm⟩:∃m,m=arrN n l:=⟨_,rfl⟩
 have hml:m≤l.length:=by rw [hm];unfold arrN;omega
 have hmi:min n (l.length:Int)=(m:Nat):=by rw [hm];unfold arrN;omega
 have hmi2:(m:Int)≤(l.length:Int):=by omega
 obtain ⟨tk,htk⟩:∃tk,tk=arrT s W n:=⟨_,rfl⟩
 have hfin:arriveR s W n most={s with e:=upd s.e W (readS most tk),way:=upd s.way (1 - W) (l.drop m),read:=upd s.read W (s.read W++readOut most tk)}:=by unfold arriveR;rw [← htk,←hl,←hm]
 rw [hfin]
 rw [← htk] at hrl
 have hro:(readOut most tk).length≤1000000000:=by unfold readOut;rw [List.length_take];omega
 have htk2:(takeR (s.e W) s.now (l.take m))=(0,tk):=by
  rw [htk];unfold arrT;rw [← hl,←hm];unfold takeR;rw [if_pos hat]
 clear htk hfin
 have hTake:∀v',RowS H v' (l.take m) (x.wj (1 - W))→AC Try.prog 17 [ptr (x.es W),.int .i64 s.now,v'] H (fun r H2=>r= .ret (.int .i64 0)∧Steps H (x.es W) (x.q W) tk H2):=fun v' hr=>by
  have:=Take (h.end_ W hW) s.now hr hjsd (fun p hp=>hok p (List.mem_of_mem_take hp)) hT (by rw [List.length_take];omega) (by rw [List.length_take];omega)
  rw [htk2] at this
  exact this
 have hlw:∀H' K,lenW Try.prog 31 v H' K=K (.int .i64 (l.length:Nat)) H':=fun H' K=>hrow.lenW
 have hc:=h.cell
 simp only [pairC] at hc
 obtain ⟨WN,hWN⟩:∃WN:Nat,WN=W:=⟨_,rfl⟩
 have fin:∀H1,Steps H (x.es W) (x.q W) tk H1→ArJ H pp x WN {s with e:=upd s.e WN tk} [(0,ptr pp),(1,.int .i64 (WN:Nat)),(2,.int .i64 (m:Nat)),(3,.int .i64 most),(9,v)] ⟨[(0,ptr pp),(1,.int .i64 (WN:Nat)),(2,.int .i64 (m:Nat)),(3,.int .i64 most),(9,v)],[],H1⟩:=by
  subst hWN
  rintro H1 ⟨q1,k1,k2,k3⟩
  exact ⟨q1,H1,h.jE hW k1 k2 k3,rfl⟩
 rcases (by omega:W=0∨W=1) with rfl|rfl
 all_goals
  simp only [Nat.sub_zero,Nat.sub_self] at hl hv hrow hjsd hTake hV
  rw [← hv] at hc
  simp only [Nat.sub_zero,Nat.sub_self]
  refine AC.enter Try.func12 rfl (by kernel_rfl) 78 rfl [.tmp 8] rfl (by simp) fun hsc B=> ?_
  repeat first|with_reducible refine AWP.seqE (x:= .seq (.region 3 _ _) _) (ArJ H pp x WN {s with e:=upd s.e WN tk} [(0,ptr pp),(1,.int .i64 (WN:Nat)),(2,.int .i64 (m:Nat)),(3,.int .i64 most),(9,v)]) ?_ ?_|with_reducible refine kc ?_|((with_reducible first|refine kr ?_ ?_|refine kt ?_ ?_);exact rfl)|((with_reducible refine kf ?_ ?_);exact rfl)|simp only [go_sem,sevalprocAttr,reduceCtorEq,hc,hlw,minMaxW,hmi]|simp (disch:=omega) only [wz]
  ·have hrow2:=hrow
   rcases hrow with ⟨g1,g2,g3⟩|⟨jw,ow,cw,csw,ew,g1,g2,g3,g4,g5,g6,g7⟩
   ·obtain rfl:m=0:=by rw [g2] at hml;simpa using hml
    have hTk:=hTake (.slice none 0 0) (by rw [g1,g2] at hrow2;simpa using hrow2)
    clear hTake hT hok hB hK
    subst g1
    refine AWP.regionK 13 (by kernel_rfl) (by decide) (by kernel_rfl) ?_
    repeat first|refine kw3 hc @Option.isSome_none.{0} @Option.isSome_some.{0} ?_|exact kwy
    refine AC.mono hTk ?_
    rintro r H1 ⟨rfl,hS⟩
    repeat first|refine kw0 ?_|exact kwy
    exact ⟨_,fin H1 hS,Weak.env (by simp [envIn,lk_cons,wth_some,hWN])⟩
   ·have hcut:=RowS.cut (by rw [g1] at hrow2;exact hrow2) hml
    have hTk:=hTake _ hcut.2
    have hmc:(m:Int)≤(cw:Int):=by omega
    have hes:ew=9∨ew=0:=g4
    clear hTake hT hok hB hK
    subst g1
    refine AWP.regionK 13 (by kernel_rfl) (by decide) (by kernel_rfl) ?_
    repeat first|refine kw4 hc g3 hmc hes ?_|exact kwy
    refine AC.mono hTk ?_
    rintro r H1 ⟨rfl,hS⟩
    repeat first|refine kw0 ?_|exact kwy
    exact ⟨_,fin H1 hS,Weak.env (by simp [envIn,lk_cons,wth_some,hWN])⟩
  ·rintro _ ⟨q1,H1,hJ1,rfl⟩
   repeat first|with_reducible refine AWP.seqE (x:= .region 5 _ _) (ArK H pp x {s with e:=upd s.e WN tk,way:=upd s.way (1 - WN) (l.drop m)} [(0,ptr pp),(1,.int .i64 (WN:Nat)),(3,.int .i64 most)]) ?_ ?_|refine kw0 ?_|exact kwy
   ·subst hWN
    clear fin hrow hTake hT hok hB hK
    have hrow1:=hJ1.pair.way _ hV
    have hc1:=hJ1.pair.cell
    have hcl1:=lt_of_get hc1
    simp only [pairC] at hc1
    simp only at hrow1
    rw [← hl,←hv] at hrow1
    rw [← hv] at hc1
    simp only [Nat.sub_zero,Nat.sub_self]
    have fin2:=fun v2 (hr:RowS H1 v2 (l.drop m) _)=>hJ1.trans (hJ1.pair.jW hV hr (Frm.refl _ _) (fun j hj=> .inl hj))
    simp only [pairC,upd_self,upd01,upd10] at fin2
    have hrow2:=hrow1
    rcases hrow1 with ⟨g1,g2,g3⟩|⟨jw,ow,cw,csw,ew,g1,g2,g3,g4,g5,g6,g7⟩
    ·obtain rfl:m=0:=by rw [g2] at hml;simpa using hml
     have f2:=fin2 (.slice none 0 0) (by rw [g1] at hrow2;simpa using hrow2)
     subst g1
     apply AWP.regionX [9] [(0,0),(0,0),(0,0),(0,0),(0,0),(0,0),(0,0),(0,0),(0,0),(0,0)] [38,39,40,41,42,43,44,45,46] [_] [(38,_),(39,_),(40,_),(41,_),(42,_),(43,_),(44,_),(45,_),(46,_)]
     ·kernel_rfl
     ·kernel_rfl
     ·kernel_rfl
     ·kernel_rfl
     ·rfl
     ·simp only [eachB,runB]
      repeat' with_reducible refine And.intro ?_ ?_
      iterate 2 all_goals try ((repeat' first|with_reducible refine And.intro ?_ ?_|refine kx4 hc1 hcl1 @Option.isSome_none.{0} @Option.isSome_some.{0} ?_|exact kwy|exact rfl);done)
     repeat first|refine kw0 ?_|exact kwy
     exact ⟨_,⟨_,_,f2,rfl⟩,Weak.env (by simp [envIn,lk_cons,wth_some])⟩
    ·have hcut:=RowS.cut (by rw [g1] at hrow2;exact hrow2) hml
     have f2:=fin2 _ hcut.1
     have hmc:(m:Int)≤(cw:Int):=by omega
     have hlc:(l.length:Int)≤(cw:Int):=by omega
     have hes:ew=9∨ew=0:=g4
     subst g1
     apply AWP.regionX [9] [(0,0),(0,0),(0,0),(0,0),(0,0),(0,0),(0,0),(0,0),(0,0),(0,0)] [38,39,40,41,42,43,44,45,46] [_] [(38,_),(39,_),(40,_),(41,_),(42,_),(43,_),(44,_),(45,_),(46,_)]
     ·kernel_rfl
     ·kernel_rfl
     ·kernel_rfl
     ·kernel_rfl
     ·rfl
     ·simp only [eachB,runB]
      repeat' with_reducible refine And.intro ?_ ?_
      iterate 2 all_goals try ((repeat' first|with_reducible refine And.intro ?_ ?_|refine kx7 hc1 hcl1 g3 hmc hlc hes hmi2 ?_|exact kwy|exact rfl);done)
     repeat first|refine kw0 ?_|exact kwy
     exact ⟨_,⟨_,_,f2,rfl⟩,Weak.env (by simp [envIn,lk_cons,wth_some])⟩
   ·rintro _ ⟨x2,H2,hJ2,rfl⟩
    obtain ⟨rd,hrd2⟩:∃rd,rd=upd s.read WN (s.read WN++readOut most tk):=⟨_,rfl⟩
    subst hWN
    clear fin hrow hTake hT hok hB hK hc hlw
    simp only [Nat.sub_zero,Nat.sub_self] at hJ2
    have hP2:=hJ2.pair
    have hc2:=hP2.cell
    simp only [pairC] at hc2
    have hRd:=Read (hP2.end_ _ hW) most hmost
    simp only [upd_self] at hRd
    repeat first|refine kw1 hc2 ?_|exact kwy
    refine AC.mono hRd ?_
    rintro r H3 ⟨er,her,rfl,q3,k1,k2,k3⟩
    have hJ3:=hJ2.trans (hP2.jE hW k1 k2 k3)
    simp only [upd_upd] at hJ3
    have hc3:=hJ3.pair.cell
    have hcl3:=lt_of_get hc3
    simp only [pairC] at hc3
    have hJ4:=hJ3.trans (hJ3.pair.jP {s with e:=upd s.e _ (readS most tk),way:=upd s.way _ (l.drop m),read:=rd} rfl rfl rfl)
    subst hrd2
    have hsnd:=sound hJ4.pair hW (by simp only [upd_self,List.length_append];omega)
    have hlen2:=Nat.le_trans (Nat.add_le_add (Nat.le_of_lt hrd) hro) (by decide:1000000000+1000000000≤9223372036854775807)
    simp only [pairC,upd_self,upd01,upd10] at hJ4
    simp only [pairC,upd_self,upd01,upd10,Int.natCast_zero,Int.natCast_one] at hsnd
    rcases her with rfl|rfl
    all_goals
     repeat first|refine kw1 hc3 ?_|exact kwy
     apply AWP.regionX [11] [(0,0),(0,0),(0,0),(0,0),(0,0),(0,0),(0,0),(0,0),(0,0),(0,0),(0,0),(0,0)] [64,65,66,67,68,69,70,71,72,73,74] [_] [(64,_),(65,_),(66,_),(67,_),(68,_),(69,_),(70,_),(71,_),(72,_),(73,_),(74,_)]
     ·kernel_rfl
     ·kernel_rfl
     ·kernel_rfl
     ·kernel_rfl
     ·rfl
     ·simp only [eachB,runB]
      repeat' with_reducible refine And.intro ?_ ?_
      iterate 2 all_goals try ((repeat' first|with_reducible refine And.intro ?_ ?_|refine kx3 hc3 hcl3 hlen2 ?_|exact kwy|exact rfl);done)
     repeat first|with_reducible refine hsnd.use ?_|refine kw0 ?_|exact kwy
     exact ⟨_,_,.refl _ _ _,rfl,_,hJ4⟩
end Go.Proofs.Ytdgmcckfdgnicaa
