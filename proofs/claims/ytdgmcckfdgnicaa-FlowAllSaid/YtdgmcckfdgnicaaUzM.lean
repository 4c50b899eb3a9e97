/-
  A part of the proof of a statement of this seat.
-/
import Derived.Test.YtdgmcckfdgnicaaUxM
import Derived.Test.YtdgmcckfdgnicaaUj
set_option linter.unusedVariables false
set_option linter.unusedSimpArgs false
set_option maxRecDepth 20000
set_option maxHeartbeats 8000000
namespace Go.Proofs.Ytdgmcckfdgnicaa
open Go Go.Aw Go.Proofs
structure SmallP (s:PS) (a:Ac):Prop where
 text:a.text.length≤300
 later:0≤a.later∧a.later≤100000
 now:0≤s.now∧s.now≤900000000
 w0:(s.wrote 0).length≤100000
 w1:(s.wrote 1).length≤100000
 n: -9223372036854775808≤a.n∧a.n≤9223372036854775807
 who: -9223372036854775808≤a.who∧a.who≤9223372036854775807
 few:∀W,W<2→(s.e W).waiting.length<100000∧ (∀ p∈(s.e W).waiting,p.body.length≤100000)∧1≤(s.e W).body∧(s.e W).body≤1400
theorem do_ {H:AHeap} {pp:Nat} {s:PS} {x:PQ} (h:PairI H pp s x) (a:Ac) (limit:Int) (hD:DoOk s a limit) (hm:SmallP s a):
  AC Try.prog 19 [ptr pp,.agg ⟨a.c⟩,.int .i64 limit] H (fun r H2=>r= .ret (.bool true)∧∃x',PJ H pp x (doR s a) H2 x'):=by
 have hJ0:PJ H pp x s (H++[AObj.cells a.c ⟨51,0,true,0,none⟩]) x:=(PJ.of h).more _
 have hJ1:PJ H pp x (doNow s a) ((H++[AObj.cells a.c ⟨51,0,true,0,none⟩]).set pp (.cells (pairC (doNow s a) x) kW)) x:=hJ0.trans (hJ0.pair.jP (doNow s a) rfl rfl rfl)
 have hb:(H++[AObj.cells a.c ⟨51,0,true,0,none⟩])[H.length]? =some (.cells a.c ⟨51,0,true,0,none⟩):=by simp
 have hne:pp≠H.length:=by have:=lt_of_get h.cell;omega
 have hb1:((H++[AObj.cells a.c ⟨51,0,true,0,none⟩]).set pp (.cells (pairC (doNow s a) x) kW))[H.length]? =some (.cells a.c ⟨51,0,true,0,none⟩):=by rw [List.getElem?_set_ne hne];exact hb
 have hc0:=hJ0.pair.cell
 have hc1:=hJ1.pair.cell
 obtain ⟨hW,hwe⟩:=whoR_ok a
 obtain ⟨W,hWd⟩:∃W,W=whoR a:=⟨_,rfl⟩
 rw [← hWd] at hW hwe
 obtain ⟨n,hnd⟩:∃n,n=nR a:=⟨_,rfl⟩
 have hnb:=nR_ok a
 rw [← hnd] at hnb
 have hbl:=lt_of_get hb
 have hcl0:=lt_of_get hc0
 have hw0:=hm.w0
 have hw1:=hm.w1
 obtain ⟨H0,hH0⟩:∃H0,H0=H++[AObj.cells a.c ⟨51,0,true,0,none⟩]:=⟨_,rfl⟩
 obtain ⟨H1,hH1⟩:∃H1,H1=H0.set pp (.cells (pairC (doNow s a) x) kW):=⟨_,rfl⟩
 rw [← hH0] at hJ0 hb hc0 hbl hcl0
 rw [← hH0,←hH1] at hJ1 hb1 hc1
 have hcl1:=lt_of_get hc1
 have hbl1:=lt_of_get hb1
 have hac:a.c= [.int .i64 a.kind,.int .i64 a.who,.int .i64 a.n,.int .i64 a.later,.string (bs a.text)]:=rfl
 have hH0':=hH0
 have hH1':=hH1
 rw [hac] at hH0' hb hb1
 simp only [pairC] at hc0 hc1 hH1'
 simp only [doNow] at hc1 hH1'
 have hw1':(IntKind.i64.wrap (a.who.tmod 2+2)).tmod 2=(W:Nat):=by
  have h1: -2<a.who.tmod 2∧a.who.tmod 2<2:=⟨Int.lt_tmod_of_pos _ (by omega),Int.tmod_lt_of_pos _ (by omega)⟩
  rw [wi64 (by omega),hwe]
 have hn1':IntKind.i64.wrap (1+(IntKind.i64.wrap (a.n.tmod 40+40)).tmod 40)=n:=by
  have h1: -40<a.n.tmod 40∧a.n.tmod 40<40:=⟨Int.lt_tmod_of_pos _ (by omega),Int.tmod_lt_of_pos _ (by omega)⟩
  have h2:nR a=n:=hnd.symm
  unfold nR at h2
  rw [wi64 (by omega: -9223372036854775808≤a.n.tmod 40+40∧a.n.tmod 40+40<9223372036854775808),wi64 (by omega),h2]
 have hnw:IntKind.i64.wrap (s.now+a.later)=s.now+a.later:=by
  have:=hm.now;have:=hm.later
  exact wi64 (by omega)
 have hmx:IntKind.i64.wrap (n*10)=n*10:=wi64 (by omega)
 rw [hac]
 refine AC.enter Try.func19 rfl (by kernel_rfl) 109 rfl [.tmp 6] rfl (by simp) fun hsc B=> ?_
 repeat first|refine kw2 hb hbl ?_|exact kwy
 rw [← hH0']
 repeat first|refine kw6 hb hbl hc0 hcl0 hw1' hn1' ?_|exact kwy
 refine AWP.regionK 6 (by kernel_rfl) (by decide) (by kernel_rfl) ?_
 repeat first|refine kw5 hb hbl hc0 hcl0 hnw ?_|exact kwy
 rw [← hH1']
 repeat first|with_reducible refine AWP.seqJ (x:= .seq (.region 5 _ _) _) ⟨[(32,.bool (decide (a.kind=1∨a.kind=2))),(31,.int .i64 a.kind),(8,.int .i64 n),(7,.int .i64 (W:Nat)),(4,ptr H.length),(0,ptr pp),(2,.int .i64 limit)],[],H1⟩ ?_ ?_|refine kw2 hb1 hbl1 ?_|exact kwy
 ·by_cases h1:a.kind=1
  ·rw [h1]
   repeat first|refine kw0 ?_|exact kwy
   exact Weak.env (by simp [envIn,lk_cons,wth_some])
  ·have h1':(a.kind==1)=false:=by simpa using h1
   by_cases h2:a.kind=2
   ·rw [h2]
    repeat first|refine kw0 ?_|exact kwy
    exact Weak.env (by simp [envIn,lk_cons,wth_some])
   ·have h2':(a.kind==2)=false:=by simpa using h2
    repeat first|refine kw2 h1' h2' ?_|exact kwy
    exact Weak.env (by simp [envIn,lk_cons,wth_some,h1,h2])
 by_cases hk:a.kind=1∨a.kind=2
 ·rw [show decide (a.kind=1∨a.kind=2)=true from by simp [hk]]
  have hdo:doR s a=if ((s.wrote 0).length:Int)+(s.wrote 1).length>3000 then doNow s a else writeS (doNow s a) W a.text:=by unfold doR;rw [if_pos hk,hWd]
  repeat first|refine kw0 ?_|exact kwy
  refine AWP.regionK 12 (by kernel_rfl) (by decide) (by kernel_rfl) ?_
  by_cases hbig:((s.wrote 0).length:Int)+(s.wrote 1).length>3000
  ·rw [if_pos hbig] at hdo
   rw [hdo]
   repeat first|refine kw2 hc1 hbig ?_|exact kwy
   exact ⟨_,_,.refl _ _ _,rfl,_,hJ1⟩
  ·rw [if_neg hbig] at hdo
   rw [hdo]
   repeat first|refine kw2 hc1 hbig ?_|exact kwy
   have hWr:=Write (hJ1.pair.end_ W hW) (s.now+a.later) a.text (by have:=hm.text;omega) (by have:=(hm.few W hW).1;have:=hm.text;show (s.e W).waiting.length+_<_;omega) (hm.few W hW).2.1 (by have:=(hm.few W hW).2.2;show 1≤(s.e W).body∧(s.e W).body≤_;omega)
   have hcode:=hD.write hbig
   rw [← hWd] at hcode
   obtain ⟨WN,hWN⟩:∃WN:Nat,WN=W:=⟨_,rfl⟩
   have hWS:writeS (doNow s a) W a.text={doNow s a with e:=upd s.e W (writeR (s.e W) (s.now+a.later) a.text).2,wrote:=if (writeR (s.e W) (s.now+a.later) a.text).1=0 then upd s.wrote W (s.wrote W++a.text) else s.wrote}:=rfl
   have hcode:(writeR (s.e W) (s.now+a.later) a.text).1=0∨(writeR (s.e W) (s.now+a.later) a.text).1=9∨(writeR (s.e W) (s.now+a.later) a.text).1=4:=hcode
   have hWr:AC Try.prog 15 [ptr (x.es W),.int .i64 (s.now+a.later),.string (bs a.text)] H1 (fun r H2=>r= .ret (.int .i64 (writeR (s.e W) (s.now+a.later) a.text).1)∧Steps H1 (x.es W) (x.q W) (writeR (s.e W) (s.now+a.later) a.text).2 H2):=hWr
   rw [hWS]
   clear hWS
   have hbn:H.length∉(x.q W).names (x.es W):=fun hm=>by have:=(h.end_ W hW).lt _ hm;omega
   generalize hy:writeR (s.e W) (s.now+a.later) a.text=y at*
   rcases (by omega:W=0∨W=1) with rfl|rfl
   all_goals
    repeat first|refine kw0 ?_|exact kwy
    refine AWP.regionK 12 (by kernel_rfl) (by decide) (by kernel_rfl) ?_
    repeat first|refine kw2 hc1 hb1 ?_|exact kwy
    refine AC.mono hWr ?_
    rintro r H2 ⟨rfl,q2,k1,k2,k3⟩
    have hJ2:=hJ1.trans (hJ1.pair.jE hW k1 k2 k3)
    have hb2:=k2.get hb1 hbn
    have hbl2:=lt_of_get hb2
    have hc2:=hJ2.pair.cell
    have hcl2:=lt_of_get hc2
    simp only [pairC] at hc2
    simp only [doNow] at hc2
    obtain ⟨code,y2⟩:=y
    dsimp only at hcode hJ2 ⊢
    rcases hcode with rfl|rfl|rfl
    ·have hJ3:=hJ2.trans (hJ2.pair.jP {doNow s a with e:=upd s.e WN y2,wrote:=upd s.wrote WN (s.wrote WN++a.text)} (by rw [hWN];rfl) rfl rfl)
     rw [hWN] at hJ3
     have hlen2:(s.wrote 0).length+a.text.length≤9223372036854775807∧(s.wrote 1).length+a.text.length≤9223372036854775807:=by have:=hm.text;omega
     obtain ⟨hl20,hl21⟩:=hlen2
     simp only [pairC,upd_self,upd01,upd10] at hJ3
     simp only [doNow] at hJ3
     repeat first|refine kw0 ?_|exact kwy
     apply AWP.regionX [12] [(0,0),(0,0),(0,0),(0,0),(0,0),(0,0),(0,0),(0,0),(0,0),(0,0),(0,0),(0,0),(0,0)] [64,65,66,67,68,69,70,71,72,73,74,75] [_] [(64,_),(65,_),(66,_),(67,_),(68,_),(69,_),(70,_),(71,_),(72,_),(73,_),(74,_),(75,_)]
     ·kernel_rfl
     ·kernel_rfl
     ·kernel_rfl
     ·kernel_rfl
     ·rfl
     ·simp only [eachB,runB]
      repeat' with_reducible refine And.intro ?_ ?_
      iterate 2 all_goals try ((repeat' first|with_reducible refine And.intro ?_ ?_|refine kx6 hc2 hcl2 hb2 hbl2 hl20 hl21 ?_|exact kwy|exact rfl);done)
     repeat first|refine kw0 ?_|exact kwy
     exact ⟨_,_,.refl _ _ _,rfl,_,hJ3⟩
    ·repeat first|refine kw0 ?_|exact kwy
     exact ⟨_,_,.refl _ _ _,rfl,_,hJ2⟩
    ·repeat first|refine kw0 ?_|exact kwy
     exact ⟨_,_,.refl _ _ _,rfl,_,hJ2⟩
 ·rw [show decide (a.kind=1∨a.kind=2)=false from by simp [hk]]
  repeat first|with_reducible refine AWP.seqJ (x:= .seq (.region 15 _ _) _) ⟨[(82,.bool (decide (a.kind=3∨a.kind=4∨a.kind=5))),(31,.int .i64 a.kind),(8,.int .i64 n),(7,.int .i64 (W:Nat)),(4,ptr H.length),(0,ptr pp),(2,.int .i64 limit)],[],H1⟩ ?_ ?_|refine kw0 ?_|exact kwy
  ·by_cases h1:a.kind=3
   ·rw [h1]
    repeat first|refine kw0 ?_|exact kwy
    exact Weak.env (by simp [envIn,lk_cons,wth_some])
   ·have h1':(a.kind==3)=false:=by simpa using h1
    by_cases h2:a.kind=4
    ·rw [h2]
     repeat first|refine kw0 ?_|exact kwy
     exact Weak.env (by simp [envIn,lk_cons,wth_some])
    ·have h2':(a.kind==4)=false:=by simpa using h2
     by_cases h3:a.kind=5
     ·rw [h3]
      repeat first|refine kw0 ?_|exact kwy
      exact Weak.env (by simp [envIn,lk_cons,wth_some])
     ·have h3':(a.kind==5)=false:=by simpa using h3
      repeat first|refine kw3 h1' h2' h3' ?_|exact kwy
      exact Weak.env (by simp [envIn,lk_cons,wth_some,h1,h2,h3])
  by_cases hk3:a.kind=3∨a.kind=4∨a.kind=5
  ·rw [show decide (a.kind=3∨a.kind=4∨a.kind=5)=true from by simp [hk3]]
   have hdo:doR s a=sendS (doNow s a) W:=by unfold doR;rw [if_neg hk,if_pos hk3,hWd]
   have hS:=hD.send
   rw [← hWd] at hS
   have hSd:=send hJ1.pair hW limit hS.due hS.made hS.outs hS.few hS.err hS.ok hS.due2 hS.under hS.out hS.pos hS.numbers hS.way
   rw [hdo]
   repeat first|refine kw0 ?_|exact kwy
   refine AC.mono hSd ?_
   rintro r H2 ⟨rfl,x2,hJ2⟩
   repeat first|refine kw0 ?_|exact kwy
   exact ⟨_,_,.refl _ _ _,rfl,_,hJ1.trans hJ2⟩
  ·rw [show decide (a.kind=3∨a.kind=4∨a.kind=5)=false from by simp [hk3]]
   by_cases h6:a.kind=6
   ·have hdo:doR s a=closeS (doNow s a) W:=by unfold doR;rw [if_neg hk,if_neg hk3,if_pos h6,hWd]
    have hCl:=Close (hJ1.pair.end_ W hW) (s.now+a.later) (by have:=(hm.few W hW).1;show (s.e W).waiting.length<_;omega)
    obtain ⟨WN,hWN⟩:∃WN:Nat,WN=W:=⟨_,rfl⟩
    rw [hdo,h6]
    rcases (by omega:W=0∨W=1) with rfl|rfl
    all_goals
     repeat first|refine kw0 ?_|exact kwy
     refine AWP.regionK 10 (by kernel_rfl) (by decide) (by kernel_rfl) ?_
     repeat first|refine kw1 hc1 ?_|exact kwy
     refine AC.mono hCl ?_
     rintro r H2 ⟨rfl,q2,k1,k2,k3⟩
     have hJ2:=hJ1.trans (hJ1.pair.jE hW k1 k2 k3)
     repeat first|refine kw0 ?_|exact kwy
     exact ⟨_,_,.refl _ _ _,rfl,_,hJ2⟩
   ·have hdo:doR s a=arriveR (doNow s a) W n (n*10):=by unfold doR;rw [if_neg hk,if_neg hk3,if_neg h6,hWd,hnd]
    have h6':(a.kind==6)=false:=by simpa using h6
    obtain ⟨Bd,Kd,hA⟩:=hD.arr
    have hsn:=hD.sound
    rw [← hWd,←hnd] at hA hsn
    have hAr:=arrive hJ1.pair hW n (n*10) (by omega) (by omega) hA.take hA.ok hA.at_ hA.B hA.K hA.read hA.ready
    rw [hsn] at hAr
    rw [hdo]
    repeat first|refine kw2 h6' hmx ?_|exact kwy
    refine AC.mono hAr ?_
    rintro r H2 ⟨rfl,x2,hJ2⟩
    repeat first|refine kw0 ?_|exact kwy
    exact ⟨_,_,.refl _ _ _,rfl,_,hJ1.trans hJ2⟩
end Go.Proofs.Ytdgmcckfdgnicaa

set_option linter.unusedVariables false
set_option linter.unusedSimpArgs false
set_option maxRecDepth 20000
namespace Go.Proofs.Ytdgmcckfdgnicaa
open Go Go.Aw Go.Proofs
def fsR (first other:Int):Nat→Int:=fun W=>if W=0 then first else other
theorem beg_Snd (op:Bool) (conn first room limit body:Int):Snd (begE op conn first room limit body) first [] []∨op=true:=by
 cases op with
 |true=>exact .inr rfl
 |false=>
  refine .inl ⟨?_,?_,(by intro p hp;cases hp),Nat.le_refl _,⟨by simp [begE,limE,newE],by simp [begE,limE,newE],by simp [begE,limE,newE]⟩,rfl,.inl (Nat.zero_le _)⟩
  ·show first=first+0;omega
  ·show first - 1≤first - 1∧first - 1<first;omega
theorem begin_P {conn first other room limit body:Int} {numbers:List Int} (hP:Par (fsR first other) conn room limit numbers) (hb:1≤body∧body≤1400):PInv (beginS conn first other room limit body numbers) (fsR first other) conn room limit (fun _=>[]) 0:=by
 have hr:=hP.room
 have h0:(beginS conn first other room limit body numbers).e 0={begE true conn first room limit body with now:=0,state:=1,waiting:=[newP 1 []]}:=rfl
 have h1:(beginS conn first other room limit body numbers).e 1=begE false conn other room limit body:=rfl
 have hR:∀(e:E) (f:Int),e.base=0→e.ready=[]→e.kept=[]→e.room=room→e.ended=false→(e.state=0∨e.state=1∨e.state=5)→Rcv e f [] []:=fun e f a b c d g k=>⟨by omega,by rw [b,c,d];show (0:Int)+0≤room;omega,.inl ⟨c,b,rfl,g,k⟩⟩
 refine ⟨fun W hW=> ?_,fun W hW p hp=>(by cases hp),fun W hW=> ?_,fun W hW=> ?_,fun _=> ?_,?_,?_,Int.le_refl _,Nat.zero_le _,Nat.le_refl _,fun W hW=>Nat.zero_le _,fun W hW=> ?_⟩
 ·rcases (by omega:W=0∨W=1) with rfl|rfl
  ·rw [h0]
   refine ⟨⟨?_,?_,(by intro p hp;cases hp),Nat.le_refl _,?_,rfl,.inl (Nat.zero_le _)⟩,hR _ _ rfl rfl rfl rfl rfl (.inr (.inl rfl))⟩
   ·show first=first+0;omega
   ·show first - 1≤first - 1∧first - 1<first;omega
   ·show TOk [((1:Int),[])] true false
    refine ⟨fun m hm=> ?_,fun i m hi=> ?_,fun i m hi hk=> ?_⟩
    ·rw [List.mem_singleton.1 hm]
     simp
    ·have hl:=(List.getElem?_eq_some_iff.1 hi).1
     have:i=0:=by simpa using hl
     subst this
     have:m=(1,[]):=by simpa using hi.symm
     rw [this];simp
    ·have hl:=(List.getElem?_eq_some_iff.1 hi).1
     have:i=0:=by simpa using hl
     subst this
     have:m=(1,[]):=by simpa using hi.symm
     rw [this] at hk
     simp at hk
  ·rw [h1]
   refine ⟨?_,hR _ _ rfl rfl rfl rfl rfl (.inl rfl)⟩
   rcases beg_Snd false conn other room limit body with h|h
   ·exact h
   ·cases h
 ·rcases (by omega:W=0∨W=1) with rfl|rfl
  ·rw [h0];exact ⟨rfl,rfl,rfl,rfl,hb,⟨Int.le_refl _,Int.le_refl _⟩,⟨Nat.zero_le _,fun _=>Nat.zero_le _⟩⟩
  ·rw [h1];exact ⟨rfl,rfl,rfl,rfl,hb,⟨Int.le_refl _,Int.le_refl _⟩,⟨Nat.zero_le _,fun _=>Nat.zero_le _⟩⟩
 ·rcases (by omega:W=0∨W=1) with rfl|rfl
  ·rw [h0];intro p hp;rw [List.mem_singleton.1 hp];rfl
  ·rw [h1];intro p hp;cases hp
 ·exact ⟨rfl,rfl,(by intro p hp;cases hp),(by intro p hp;cases hp),rfl,(by intro p hp;cases hp)⟩
 ·exact ⟨by show (1:Int)≠0;omega,by show (0:Int)≠1;omega⟩
 ·show [((1:Int),([]:List UInt8))]≠[]
  simp
 ·rcases (by omega:W=0∨W=1) with rfl|rfl<;> exact Nat.le_refl _
theorem PInv.small {s:PS} {f:Nat→Int} {conn room limit:Int} {L:Nat→List Msg} {c:Nat} (h:PInv s f conn room limit L c) (x:Ac) (hx:x.text.length≤300∧0≤x.later∧x.later≤100000) (hT:s.now≤900000000) (hn: -9223372036854775808≤x.n∧x.n≤9223372036854775807) (hw: -9223372036854775808≤x.who∧x.who≤9223372036854775807):SmallP s x:=by
 have h0:=h.len (W:=0) (by omega)
 have h1:=h.len (W:=1) (by omega)
 refine ⟨hx.1,hx.2,⟨h.now,hT⟩,by omega,by omega,hn,hw,fun W hW=> ?_⟩
 have h2:=h.len hW
 have hF:=h.fix W hW
 exact ⟨by omega,fun p hp=>by have:=((h.both W hW).snd.msgW hp).2.2;omega,hF.body.1,hF.body.2⟩
end Go.Proofs.Ytdgmcckfdgnicaa

set_option linter.unusedVariables false
set_option linter.unusedSimpArgs false
set_option maxRecDepth 20000
namespace Go.Proofs.Ytdgmcckfdgnicaa
open Go Go.Aw Go.Proofs
theorem PInv.arriveG {s:PS} {f:Nat→Int} {conn room limit:Int} {L:Nat→List Msg} {c:Nat} (h:PInv s f conn room limit L c) (hP:Par f conn room limit s.numbers) (hc:c≤9000) (ht:s.now≤1000000000) {W:Nat} (hW:W<2) (n most:Int) (hn:0≤n) (hwl:(s.way (1 - W)).length≤500000):
  ArrOk s W n 20000 (40*c)∧soundR (arriveR s W n most) W=true∧((arrT s W n).kept.length≤40*c→PInv (arriveR s W n most) f conn room limit L c):=by
 have hV:1 - W<2:=by omega
 have hB:=h.both W hW
 have hF:=h.fix W hW
 have hat:=h.at_ ht hW
 have hT:=h.takes hP hW
 have hO:=h.oth hV
 have hn2:=h.now
 have hps:=h.pos
 have hwy:=h.ways _ hV
 have hnb:=hP.numbers
 have hrm:=hP.room
 have hwr:=h.wr
 have hVV:1 - (1 - W)=W:=by omega
 obtain ⟨k,hk⟩:∃k,k=arrN n (s.way (1 - W)):=⟨_,rfl⟩
 have hmem:∀p∈(s.way (1 - W)).take k,p∈s.way (1 - W):=fun p hp=>List.mem_of_mem_take hp
 have hB0:Both {s.e W with now:=s.now} (f W) (L W) (s.wrote W) (f (1 - W)) (L (1 - W)) (s.read W):=hB.of rfl rfl rfl rfl rfl rfl rfl rfl rfl rfl rfl rfl (.inl rfl)
 have hT0:TakeOk 20000 (40*c) {s.e W with now:=s.now}:=hT.of (Nat.le_refl _) (Nat.le_refl _) (Nat.le_refl _) rfl rfl rfl rfl rfl rfl
 have h3:({s.e W with now:=s.now}:E).state=1→∀p∈(s.way (1 - W)).take k,p.kind=3→p.seq=f (1 - W)%65536:=fun hs p hp hk3=>by
  have hs:(s.e W).state=1:=hs
  rcases (by omega:W=0∨W=1) with rfl|rfl
  ·exact (h.start hs).2.2.1 p (hmem p hp) hk3
  ·exact absurd hs h.st0.2
 obtain ⟨r1,r2,r3,r4,r5⟩:=takes_P hO ((s.way (1 - W)).take k) {s.e W with now:=s.now} hB0 hT0 (fun p hp=>h.way _ hV p (hmem p hp)) h3
 have hat2:arrT s W n=((s.way (1 - W)).take k).foldl takeOne {s.e W with now:=s.now}:=by
  unfold arrT takeR
  rw [if_pos hat,hk]
 have har:arriveR s W n most={s with e:=upd s.e W (readS most (arrT s W n)),way:=upd s.way (1 - W) ((s.way (1 - W)).drop k),read:=upd s.read W (s.read W++readOut most (arrT s W n))}:=by
  unfold arriveR
  rw [hk]
 rw [← hat2] at r1 r2 r3 r4 r5
 have hR2:=r1.rcv.read most
 have hF2:=r2.fix (a:={s.e W with now:=s.now}) (now:=s.now) (op:=decide (W=0)) (conn:=conn) (room:=room) (limit:=limit) ⟨hF.opener,hF.conn,hF.room,hF.limit,hF.body,⟨hn2,Int.le_refl _⟩,hF.outs⟩
 have hform:=r2.of_
 have hzero:=r2.zero
 have hone:=r2.one
 generalize hd:arrT s W n=d at*
 have hrl:d.ready.length<1000000000:=by
  have h1:=r1.rcv.room
  rw [hF2.room] at h1
  omega
 have hwf:d.waiting=(s.e W).waiting:=by
  obtain ⟨_,_,_,_,_,_,_,_,_,_,_,_,_,_,_,_,hb⟩:=hform
  rw [hb]
 rw [har]
 refine ⟨⟨hT,fun p hp=>(h.way _ hV p hp).ok,hat,by omega,by omega,?_,by rw [hd];exact hrl⟩,?_,?_⟩
 ·have h1:=hB.rcv.sound (h.both _ hV).snd.text
  have h2:=congrArg List.length h1
  rw [List.length_take] at h2
  rcases (by omega:W=0∨W=1) with rfl|rfl
  ·have h2:min (s.read 0).length (s.wrote 1).length=(s.read 0).length:=h2;omega
  ·have h2:min (s.read 1).length (s.wrote 0).length=(s.read 1).length:=h2;omega
 ·unfold soundR
  dsimp only
  rw [upd_self]
  have h1:=hR2.sound (h.both _ hV).snd.text
  rw [h1]
  simp
 ·intro hkb
  refine ⟨fun V hV2=> ?_,fun V hV2=> ?_,fun V hV2=> ?_,fun V hV2=> ?_,fun hs1=> ?_,?_,?_,hn2,hwr,by show s.pos≤_;omega,fun V hV2=> ?_,fun V hV2=> ?_⟩
  ·dsimp only
   by_cases hVW:V=W
   ·subst hVW
    rw [upd_self,upd_self]
    exact ⟨r1.snd.of rfl rfl rfl rfl rfl rfl rfl,hR2⟩
   ·rw [upd_ne hVW,upd_ne hVW]
    exact h.both V hV2
  ·dsimp only
   intro p hp
   by_cases hVW:V=1 - W
   ·subst hVW
    rw [upd_self] at hp
    exact h.way _ hV2 p (List.mem_of_mem_drop hp)
   ·rw [upd_ne hVW] at hp
    exact h.way V hV2 p hp
  ·dsimp only
   by_cases hVW:V=W
   ·subst hVW
    rw [upd_self]
    exact ⟨hF2.opener,hF2.conn,hF2.room,hF2.limit,hF2.body,hF2.now,hF2.outs⟩
   ·rw [upd_ne hVW];exact h.fix V hV2
  ·dsimp only
   by_cases hVW:V=W
   ·subst hVW
    rw [upd_self]
    show ∀p∈d.waiting,_
    rw [hwf];exact h.lostW V hV2
   ·rw [upd_ne hVW];exact h.lostW V hV2
  ·dsimp only at hs1 ⊢
   rcases (by omega:W=0∨W=1) with rfl|rfl
   ·rw [upd_self] at hs1
    have ho:({s.e 0 with now:=s.now}:E).opener=true:=hF.opener
    obtain ⟨q1,q2,q3⟩:=r5 ho hs1
    obtain ⟨a1,a2,a3,a4,a5,a6⟩:=h.start q1
    rw [upd_self,upd_ne (by omega)]
    refine ⟨a1,a2,fun p hp=> ?_,fun p hp=> ?_,q3.trans a5,?_⟩
    ·exact a3 p (List.mem_of_mem_drop hp)
    ·rw [upd_ne (by omega)] at hp;exact a4 p hp
    ·show ∀p∈d.flight,_
     rw [q2];exact a6
   ·rw [upd_ne (by omega)] at hs1
    obtain ⟨a1,a2,a3,a4,a5,a6⟩:=h.start hs1
    rw [upd_self,upd_ne (by omega)]
    refine ⟨?_,a2,fun p hp=> ?_,fun p hp=> ?_,a5,a6⟩
    ·show d.heard=false
     rw [r4 fun p hp=>a4 p (hmem p hp)];exact a1
    ·exact a3 p hp
    ·have hp:p∈upd s.way 0 ((s.way 0).drop k) 0:=hp
     rw [upd_self] at hp;exact a4 p (List.mem_of_mem_drop hp)
  ·dsimp only
   rcases (by omega:W=0∨W=1) with rfl|rfl
   ·rw [upd_self,upd_ne (by omega)]
    exact ⟨hzero h.st0.1,h.st0.2⟩
   ·rw [upd_self,upd_ne (by omega)]
    exact ⟨h.st0.1,hone h.st0.2⟩
  ·dsimp only
   by_cases hW0:W=0
   ·subst hW0
    rw [upd_self]
    show L 0++d.waiting.map msg≠[]
    rw [hwf];exact h.ne
   ·rw [upd_ne (fun h=>hW0 h.symm)];exact h.ne
  ·dsimp only
   by_cases hVW:V=1 - W
   ·subst hVW
    rw [upd_self,List.length_drop]
    omega
   ·rw [upd_ne hVW];exact h.ways V hV2
  ·dsimp only
   by_cases hVW:V=W
   ·subst hVW
    rw [upd_self]
    show d.kept.length≤_
    omega
   ·rw [upd_ne hVW]
    have:=h.keptn V hV2
    omega
def tk1 (s:PS) (W:Nat):PS:=arriveR s W 1 0
def rd0 (s:PS) (W:Nat) (most:Int):PS:=arriveR s W 0 most
theorem readS_zero (e:E):readS 0 e=e∧readOut 0 e=[]:=by
 have:readN 0 e=0:=by unfold readN;omega
 unfold readS readOut
 rw [this]
 exact ⟨by simp,by simp⟩
theorem arrN_one {l:List Sg} {p:Sg}:arrN 1 (p::l)=1:=by unfold arrN;rw [List.length_cons];omega
theorem arrN_zero {l:List Sg}:arrN 0 l=0:=by unfold arrN;omega
theorem atR_ok {e:E} {now:Int} (h:e.now≤now∧now≤1000000000):atR e now=0:=by unfold atR;rw [if_neg (by omega)]
theorem ackR_now (e:E) (a:Int) (m:List UInt8):(ackR e a m).now=e.now:=by
 obtain ⟨_,_,_,_,h,_⟩:=ackR_ackS e a m
 rw [h]
theorem passGo_now:∀(n:Nat) (e:E),(passGo n e).now=e.now
 |0,e=>rfl
 | n+1,e=>by
  unfold passGo
  split
  ·rfl
  ·split
   ·rfl
   ·exact passGo_now n _
theorem keepR_now (e:E) (p:Sg):(keepR e p).now=e.now:=by
 unfold keepR
 split
 ·rfl
 ·split
  ·rfl
  ·unfold passR
   rw [passGo_now]
theorem takeOne_now (e:E) (p:Sg):(takeOne e p).now=e.now:=by
 unfold takeOne
 split
 ·rfl
 ·have hc:∀x:E,(closeT x).now=x.now:=fun x=>by unfold closeT;split<;> rfl
  rw [hc]
  generalize hb:({e with late:=p.time,some:=true,window:=if p.kind=5 then e.window else p.window}:E)=b
  have hb1:b.now=e.now:=by rw [← hb]
  rw [← hb1]
  clear hb hb1
  have hcar:(carryR b p).now=b.now:=by
   unfold carryR
   split
   ·rfl
   ·split
    ·rw [keepR_now,ackR_now]
    ·rfl
  unfold byKind
  split
  ·unfold openT
   split
   ·rfl
   ·split<;> rfl
  ·split
   ·exact hcar
   ·split
    ·unfold aloneR
     split
     ·rfl
     ·split
      ·unfold alone1
       split
       ·unfold aloneUp
        split
        ·exact ackR_now _ _ _
        ·rfl
       ·rfl
      ·split
       ·exact ackR_now _ _ _
       ·rfl
    ·split
     ·exact hcar
     ·unfold dropT
      split<;> rfl
theorem arr_step {s:PS} {W:Nat} (hW:W<2) {p:Sg} {l:List Sg} (hw:s.way (1 - W)=p::l) (hat:(s.e W).now≤s.now∧s.now≤1000000000) (n most:Int) (hn:0≤n):arriveR s W (n+1) most=arriveR (tk1 s W) W n most:=by
 have hVW:W≠1 - W:=by omega
 have hat0:=atR_ok hat
 have h1:arrT s W 1=takeOne {s.e W with now:=s.now} p:=by
  unfold arrT takeR
  rw [if_pos hat0,hw,arrN_one]
  rfl
 have hz:=readS_zero (arrT s W 1)
 have h2:tk1 s W={s with e:=upd s.e W (takeOne {s.e W with now:=s.now} p),way:=upd s.way (1 - W) l}:=by
  unfold tk1 arriveR
  rw [hz.1,hz.2,h1,hw,arrN_one,List.append_nil,upd_id]
  rfl
 have hN:arrN (n+1) (p::l)=arrN n l+1:=by unfold arrN;rw [List.length_cons];omega
 have hnow:(takeOne {s.e W with now:=s.now} p).now=s.now:=takeOne_now _ _
 have h3:arrT (tk1 s W) W n=arrT s W (n+1):=by
  have e1:(tk1 s W).e W=takeOne {s.e W with now:=s.now} p:=by rw [h2];exact upd_self
  have e2:(tk1 s W).way (1 - W)=l:=by rw [h2];exact upd_self
  have e3:(tk1 s W).now=s.now:=by rw [h2]
  have e4:arrT (tk1 s W) W n=(takeR (takeOne {s.e W with now:=s.now} p) s.now (l.take (arrN n l))).2:=by
   unfold arrT
   rw [e1,e2,e3]
  rw [e4]
  unfold arrT
  rw [hw,hN]
  unfold takeR
  rw [if_pos hat0,if_pos (atR_ok (e:=takeOne {s.e W with now:=s.now} p) (by rw [hnow];exact ⟨Int.le_refl _,hat.2⟩))]
  dsimp only
  rw [List.take_succ_cons,List.foldl_cons]
  generalize takeOne {s.e W with now:=s.now} p=z at hnow ⊢
  rw [← hnow]
 unfold arriveR
 rw [h3,h2]
 dsimp only
 rw [upd_self,upd_upd,upd_upd,hw,hN,List.drop_succ_cons]
end Go.Proofs.Ytdgmcckfdgnicaa
