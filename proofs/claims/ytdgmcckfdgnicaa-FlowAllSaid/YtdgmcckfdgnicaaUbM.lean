/-
  A part of the proof of a statement of this seat.
-/
import Derived.Test.YtdgmcckfdgnicaaUa
set_option linter.unusedVariables false
set_option linter.unusedSimpArgs false
set_option maxRecDepth 20000
set_option maxHeartbeats 8000000
namespace Go.Proofs.Ytdgmcckfdgnicaa
open Go Go.Aw Go.Proofs
def AckS (s s':E):Prop:=∃fl o d a,s'={s with flight:=fl,outs:=o,done:=d,acked:=a}∧fl.length≤s.flight.length
theorem AckS.refl (s:E):AckS s s:=⟨_,_,_,_,rfl,Nat.le_refl _⟩
theorem AckS.trans {a b c:E} (h:AckS a b) (k:AckS b c):AckS a c:=by
 obtain ⟨f1,o1,d1,a1,rfl,l1⟩:=h
 obtain ⟨f2,o2,d2,a2,rfl,l2⟩:=k
 exact ⟨_,_,_,_,rfl,Nat.le_trans l2 l1⟩
theorem goneR_ackS (s:E) (n:Int):AckS s (goneR s n):=by
 have h:=(goneR_same s n).2.2
 unfold goneR at*
 split at h
 ·exact .refl s
 ·split at h
  ·exact .refl s
  ·exact ⟨_,_,_,s.acked,rfl,h⟩
theorem goneUp_ackS (s:E) (n:Nat):AckS s (goneUp s n):=by
 induction n with
 |zero=>exact .refl s
 |succ n ih=>rw [goneUp_succ];exact ih.trans (goneR_ackS _ _)
theorem goneMk_ackS (to:Int):∀(l:List Int) (s:E),AckS s (goneMk s to l)
 |[],s=> .refl s
 |x::l,s=>(goneR_ackS s (to+x)).trans (goneMk_ackS to l (goneR s (to+x)))
theorem ackR_ackS (s:E) (ack:Int) (marks:List UInt8):AckS s (ackR s ack marks):=by
 unfold ackR
 split
 ·exact .refl s
 ·exact AckS.trans (AckS.trans (b:=goneUp s (ackTo s ack - s.acked).toNat) (goneUp_ackS s _) ⟨_,_,_,_,rfl,Nat.le_refl _⟩) (goneMk_ackS _ _ _)
theorem ackR_acked (s:E) (ack:Int) (marks:List UInt8):(ackR s ack marks).acked=s.acked∨(ackTo s ack<s.next∧(ackR s ack marks).acked=max s.acked (ackTo s ack)):=by
 unfold ackR
 split
 ·exact .inl rfl
 ·rename_i h
  exact .inr ⟨by omega,(goneMk_same _ _ _).1⟩
def carryR (s:E) (p:Sg):E:=if s.state=0 then {s with replies:=true} else if s.state=2∨s.state=3∨s.state=4 then keepR (ackR {s with heard:=true} p.ack p.marks) p else s
def ansS (s:E):E:={s with answer:=true}
def aloneUp (s:E) (p:Sg) (f:Pk):E:=if p.ack=f.number.tmod 65536 then ansS (ackR {s with state:=2,base:=(p.seq - 1)%65536} p.ack p.marks) else s
def alone1 (s:E) (p:Sg):E:=match s.flight with
 |[f]=>aloneUp s p f
 |_=>s
theorem alone1_one {s:E} {p:Sg} {f:Pk} (h:s.flight=[f]):alone1 s p=aloneUp s p f:=by unfold alone1;rw [h]
theorem alone1_no {s:E} {p:Sg} (h:s.flight.length≠1):alone1 s p=s:=by
 unfold alone1
 split
 ·rename_i f hf;rw [hf] at h;exact absurd rfl h
 ·rfl
def aloneR (s:E) (p:Sg):E:=
 if s.state=0 then {s with replies:=true} else if s.state=1 then alone1 s p
 else if s.state=2∨s.state=3∨s.state=4 then ackR {s with heard:=true} p.ack p.marks else s
structure TakeOk (B K:Nat) (s:E):Prop where
 fl:s.flight.length<1099511627776
 ack: -1099511627776≤s.acked∧s.acked≤1099511627776
 next:s.next≤1099511627776
 base:0≤s.base∧s.base<65536
 room:0≤s.room∧s.room≤1099511627776
 ready:s.ready.length+keptB s.kept≤B
 kept:s.kept.length≤K
 bodies:∀x∈s.kept,x.2.body.length≤100000
theorem carry {H:AHeap} {e:Nat} {s:E} {q:Q} (h:EndI H e s q) (p:Sg) {B K:Nat} (hT:TakeOk B K s) (hB:B<1000000000) (hK:K<1000000) (hpb:p.body.length≤100000) (hpm:p.marks.length≤100):
  AC Try.prog 65 [ptr e,p.v] H (fun r H2=>r= .ret noVal∧Steps H e q (carryR s p) H2):=by
 have hJ0:=(AJ.of h).add (.cells p.c ⟨44,0,true,0,none⟩)
 have hcl:=lt_of_get h.cell
 have hc0:=h.cell
 have hbx:=(hJ0.box _ (List.mem_cons_self ..)).1
 have hcl0:=lt_of_get hJ0.end_.cell
 simp only [endC] at hc0
 simp only at hbx
 unfold carryR
 by_cases h0:s.state=0
 ·rw [if_pos h0]
  have h0':(s.state==0)=true:=by simp [h0]
  have hS:=(hJ0.put {s with replies:=true} rfl rfl rfl).done
  unfold Sg.c sgC at hS
  unfold Sg.v Sg.c sgC
  simp only [endC] at hS
  refine AC.enter Try.func65 rfl (by kernel_rfl) 31 rfl [] rfl (by simp) fun hsc B=> ?_
  repeat first|refine kw5 hc0 @hgetl hcl hcl0 h0' ?_|exact kwy
  exact ⟨_,_,.refl _ _ _,rfl,hS⟩
 ·rw [if_neg h0]
  have h0':(s.state==0)=false:=by simp [h0]
  by_cases h2:s.state=2∨s.state=3∨s.state=4
  ·rw [if_pos h2]
   have hJ1:=hJ0.put {s with heard:=true} rfl rfl rfl
   obtain ⟨H1,hH1⟩:∃H1,H1=(H++[AObj.cells p.c ⟨44,0,true,0,none⟩]).set e (.cells (endC {s with heard:=true} q) kE):=⟨_,rfl⟩
   rw [← hH1] at hJ1
   have hH1':=hH1.symm
   clear hH1
   have hbx1:=(hJ1.box _ (List.mem_cons_self ..)).1
   simp only at hbx1
   have hack:=acknowledge hJ1.end_ p.ack p.marks hT.fl hT.ack hpm
   have hkr:∀{H2:AHeap} {q2:Q},EndI H2 e (ackR {s with heard:=true} p.ack p.marks) q2→AC Try.prog 71 [ptr e,p.v] H2 (fun r H3=>r= .ret noVal∧Steps H2 e q2 (keepR (ackR {s with heard:=true} p.ack p.marks) p) H3):=fun hE2=>by
    obtain ⟨fl,o,d,a,he,_⟩:=ackR_ackS {s with heard:=true} p.ack p.marks
    refine keep hE2 p ?_ ?_ ?_ ?_ ?_ hpb
    ·rw [he];exact hT.base
    ·rw [he];exact hT.room
    ·rw [he];exact Nat.lt_of_le_of_lt hT.ready hB
    ·rw [he];exact Nat.lt_of_le_of_lt hT.kept hK
    ·rw [he];exact hT.bodies
   generalize ackR {s with heard:=true} p.ack p.marks=s2 at hack hkr ⊢
   have fin:∀H2,Steps H1 e q s2 H2→∃q2,AJ H e q s2 H2 q2 [(H.length,.cells p.c ⟨44,0,true,0,none⟩)]:=fun H2 hS=>hJ1.steps hS
   unfold Sg.c sgC at hbx1 hH1' fin
   unfold Sg.v Sg.c sgC at hkr
   unfold Sg.v Sg.c sgC
   simp only [endC] at hH1'
   refine AC.mono (K:=fun r H3=>∃H2 q2,AJ H e q s2 H2 q2 []∧r= .ret noVal∧Steps H2 e q2 (keepR s2 p) H3) ?_ ?_
   ·rcases h2 with h2|h2|h2
    ·have h2':(s.state==2)=true:=by simp [h2]
     refine AC.enter Try.func65 rfl (by kernel_rfl) 31 rfl [] rfl (by simp) fun hsc B=> ?_
     repeat first|refine kw8 hc0 @hgetl hcl hcl0 h0' h2' hH1' hbx1 ?_|exact kwy
     refine AC.mono hack ?_
     rintro r H2 ⟨rfl,hS⟩
     obtain ⟨q2,hJ2⟩:=fin H2 hS
     have hbx2:=(hJ2.box _ (List.mem_cons_self ..)).1
     simp only at hbx2
     repeat first|refine kw1 hbx2 ?_|exact kwy
     refine AC.mono (hkr hJ2.end_) ?_
     rintro r H3 ⟨rfl,hS3⟩
     repeat first|refine kw0 ?_|exact kwy
     exact ⟨_,_,.refl _ _ _,H2,q2,⟨hJ2.end_,hJ2.frm,hJ2.names,by simp⟩,rfl,hS3⟩
    ·have h2':(s.state==2)=false:=by simp [h2]
     have h3':(s.state==3)=true:=by simp [h2]
     refine AC.enter Try.func65 rfl (by kernel_rfl) 31 rfl [] rfl (by simp) fun hsc B=> ?_
     repeat first|refine kw9 hc0 @hgetl hcl hcl0 h0' h2' h3' hH1' hbx1 ?_|exact kwy
     refine AC.mono hack ?_
     rintro r H2 ⟨rfl,hS⟩
     obtain ⟨q2,hJ2⟩:=fin H2 hS
     have hbx2:=(hJ2.box _ (List.mem_cons_self ..)).1
     simp only at hbx2
     repeat first|refine kw1 hbx2 ?_|exact kwy
     refine AC.mono (hkr hJ2.end_) ?_
     rintro r H3 ⟨rfl,hS3⟩
     repeat first|refine kw0 ?_|exact kwy
     exact ⟨_,_,.refl _ _ _,H2,q2,⟨hJ2.end_,hJ2.frm,hJ2.names,by simp⟩,rfl,hS3⟩
    ·have h2':(s.state==2)=false:=by simp [h2]
     have h3':(s.state==3)=false:=by simp [h2]
     have h4':(s.state==4)=true:=by simp [h2]
     refine AC.enter Try.func65 rfl (by kernel_rfl) 31 rfl [] rfl (by simp) fun hsc B=> ?_
     repeat first|refine kw10 hc0 @hgetl hcl hcl0 h0' h2' h3' h4' hH1' hbx1 ?_|exact kwy
     refine AC.mono hack ?_
     rintro r H2 ⟨rfl,hS⟩
     obtain ⟨q2,hJ2⟩:=fin H2 hS
     have hbx2:=(hJ2.box _ (List.mem_cons_self ..)).1
     simp only at hbx2
     repeat first|refine kw1 hbx2 ?_|exact kwy
     refine AC.mono (hkr hJ2.end_) ?_
     rintro r H3 ⟨rfl,hS3⟩
     repeat first|refine kw0 ?_|exact kwy
     exact ⟨_,_,.refl _ _ _,H2,q2,⟨hJ2.end_,hJ2.frm,hJ2.names,by simp⟩,rfl,hS3⟩
   ·rintro r H3 ⟨H2,q2,hJ2,hr,hS⟩
    obtain ⟨q3,hJ3⟩:=hJ2.steps hS
    exact ⟨hr,hJ3.done⟩
  ·rw [if_neg h2]
   have h2':(s.state==2)=false:=by simp;omega
   have h3':(s.state==3)=false:=by simp;omega
   have h4':(s.state==4)=false:=by simp;omega
   have hS:=hJ0.done
   unfold Sg.c sgC at hS
   unfold Sg.v Sg.c sgC
   refine AC.enter Try.func65 rfl (by kernel_rfl) 31 rfl [] rfl (by simp) fun hsc B=> ?_
   repeat first|refine kw8 hc0 @hgetl hcl hcl0 h0' h2' h3' h4' ?_|exact kwy
   exact ⟨_,_,.refl _ _ _,rfl,hS⟩
end Go.Proofs.Ytdgmcckfdgnicaa

set_option linter.unusedVariables false
set_option linter.unusedSimpArgs false
set_option maxRecDepth 20000
set_option maxHeartbeats 8000000
namespace Go.Proofs.Ytdgmcckfdgnicaa
open Go Go.Aw Go.Proofs
theorem alone {H:AHeap} {e:Nat} {s:E} {q:Q} (h:EndI H e s q) (p:Sg) {B K:Nat} (hT:TakeOk B K s) (hpm:p.marks.length≤100):
  AC Try.prog 66 [ptr e,p.v] H (fun r H2=>r= .ret noVal∧Steps H e q (aloneR s p) H2):=by
 have hJ0:=(AJ.of h).add (.cells p.c ⟨44,0,true,0,none⟩)
 have hcl:=lt_of_get h.cell
 have hc0:=h.cell
 have hbx:=(hJ0.box _ (List.mem_cons_self ..)).1
 have hcl0:=lt_of_get hJ0.end_.cell
 simp only [endC] at hc0
 simp only at hbx
 unfold aloneR
 by_cases h0:s.state=0
 ·rw [if_pos h0]
  have h0':(s.state==0)=true:=by simp [h0]
  have hS:=(hJ0.put {s with replies:=true} rfl rfl rfl).done
  unfold Sg.c sgC at hS
  unfold Sg.v Sg.c sgC
  simp only [endC] at hS
  refine AC.enter Try.func66 rfl (by kernel_rfl) 73 rfl [] rfl (by simp) fun hsc B=> ?_
  repeat first|refine kw5 hc0 @hgetl hcl hcl0 h0' ?_|exact kwz
  exact ⟨_,_,.refl _ _ _,rfl,hS⟩
 ·rw [if_neg h0]
  have h0':(s.state==0)=false:=by simp [h0]
  by_cases h1:s.state=1
  ·rw [if_pos h1]
   have h1':(s.state==1)=true:=by simp [h1]
   have hlw:∀H' K,lenW Try.prog 69 q.fv H' K=K (.int .i64 (q.fn.length:Nat)) H':=fun H' K=>h.frow.lenW
   have hfl:=h.fpk.1
   have hS:=hJ0.done
   have hc1:=hJ0.end_.cell
   have hr1:=h.frow
   simp only [endC] at hc1
   by_cases hone:s.flight.length=1
   ·obtain ⟨f,hf⟩:∃f,s.flight=[f]:=List.length_eq_one_iff.1 hone
    rw [alone1_one hf]
    unfold aloneUp
    obtain ⟨n,hn,hpn,_,hne⟩:=h.fname (i:=0) (p:=f) (by rw [hf];rfl)
    obtain ⟨ji,off,cap,cs,hv,_,hji,_,_,_,hg⟩:=hr1.get hn
    have hl1:q.fn.length=1:=by omega
    have hjil:=lt_of_get hji
    have hnil:=lt_of_get hpn
    rw [hl1] at hv hlw
    unfold pkC at hpn
    rw [Nat.add_zero] at hg
    by_cases hak:p.ack=f.number.tmod 65536
    ·rw [if_pos hak]
     have hak':(p.ack==f.number.tmod 65536)=true:=by simp [hak]
     have hJ1:=hJ0.put {s with state:=2,base:=(p.seq - 1)%65536} rfl rfl rfl
     obtain ⟨H1,hH1⟩:∃H1,H1=(H++[AObj.cells p.c ⟨44,0,true,0,none⟩]).set e (.cells (endC {s with state:=2,base:=(p.seq - 1)%65536} q) kE):=⟨_,rfl⟩
     rw [← hH1] at hJ1
     have hH1':=hH1.symm
     clear hH1
     have hbx1:=(hJ1.box _ (List.mem_cons_self ..)).1
     simp only at hbx1
     have hack:=acknowledge hJ1.end_ p.ack p.marks hT.fl hT.ack hpm
     generalize ackR {s with state:=2,base:=(p.seq - 1)%65536} p.ack p.marks=s2 at hack ⊢
     have fin:∀H2,Steps H1 e q s2 H2→∃q2,AJ H e q s2 H2 q2 [(H.length,.cells p.c ⟨44,0,true,0,none⟩)]:=fun H2 hS=>hJ1.steps hS
     refine AC.mono (K:=fun r H3=>∃H2 q2,AJ H e q s2 H2 q2 []∧r= .ret noVal∧H3=H2.set e (.cells (endC (ansS s2) q2) kE)) ?_ ?_
     ·unfold Sg.c sgC at hbx1 hH1' fin hbx
      simp only [endC] at hH1'
      unfold Sg.v Sg.c sgC
      refine AC.enter Try.func66 rfl (by kernel_rfl) 73 rfl [] rfl (by simp) fun hsc B=> ?_
      repeat first|refine kw6 hc0 @hgetl hcl hcl0 h0' h1' ?_|exact kwz
      apply AWP.regionX [] [(0,0),(0,0),(0,0),(0,0),(0,0),(0,0),(0,0),(0,0),(0,0),(0,0),(0,0),(0,0),(0,0),(0,0),(0,0),(0,0),(0,0),(0,0),(0,0),(0,0),(0,0),(0,0),(0,0)] [16,17,18,19,20,21,22,23,24,25,26,27,28,29,30,31,32,33,34,35,36,37,38] [] [(16,_),(17,_),(18,_),(19,_),(20,_),(21,_),(22,_),(23,_),(24,_),(25,_),(26,_),(27,_),(28,_),(29,_),(30,_),(31,_),(32,_),(33,_),(34,_),(35,_),(36,_),(37,_),(38,_)]
      ·kernel_rfl
      ·kernel_rfl
      ·kernel_rfl
      ·kernel_rfl
      ·rfl
      ·simp only [eachB,runB]
       repeat' with_reducible refine And.intro ?_ ?_
       iterate 2 all_goals try ((repeat' first|with_reducible refine And.intro ?_ ?_|refine kx13 hc0 @hgetl hcl hcl0 hlw hbx hv hji hjil hnil hg hpn hak' ?_|exact kwy|exact rfl);done)
      repeat first|with_reducible refine (ahead _ _ _).use ?_|refine kw7 hc0 @hgetl hcl hcl0 hbx hH1' hbx1 ?_|exact kwz
      refine AC.mono hack ?_
      rintro r H2 ⟨rfl,hS⟩
      obtain ⟨q2,hJ2⟩:=fin H2 hS
      have hc2:=hJ2.end_.cell
      have hcl2:=lt_of_get hc2
      simp only [endC] at hc2
      repeat first|refine kw2 hc2 hcl2 ?_|exact kwz
      exact ⟨_,_,.refl _ _ _,H2,q2,⟨hJ2.end_,hJ2.frm,hJ2.names,by simp⟩,rfl,by simp only [endC,ansS]⟩
     ·rintro r H3 ⟨H2,q2,hJ2,hr,rfl⟩
      exact ⟨hr,(hJ2.put (ansS s2) rfl rfl rfl).done⟩
    ·rw [if_neg hak]
     have hak':(p.ack==f.number.tmod 65536)=false:=by simp [hak]
     unfold Sg.c sgC at hS hbx
     unfold Sg.v Sg.c sgC
     refine AC.enter Try.func66 rfl (by kernel_rfl) 73 rfl [] rfl (by simp) fun hsc B=> ?_
     repeat first|refine kw6 hc0 @hgetl hcl hcl0 h0' h1' ?_|exact kwz
     apply AWP.regionX [] [(0,0),(0,0),(0,0),(0,0),(0,0),(0,0),(0,0),(0,0),(0,0),(0,0),(0,0),(0,0),(0,0),(0,0),(0,0),(0,0),(0,0),(0,0),(0,0),(0,0),(0,0),(0,0),(0,0)] [16,17,18,19,20,21,22,23,24,25,26,27,28,29,30,31,32,33,34,35,36,37,38] [] [(16,_),(17,_),(18,_),(19,_),(20,_),(21,_),(22,_),(23,_),(24,_),(25,_),(26,_),(27,_),(28,_),(29,_),(30,_),(31,_),(32,_),(33,_),(34,_),(35,_),(36,_),(37,_),(38,_)]
     ·kernel_rfl
     ·kernel_rfl
     ·kernel_rfl
     ·kernel_rfl
     ·rfl
     ·simp only [eachB,runB]
      repeat' with_reducible refine And.intro ?_ ?_
      iterate 2 all_goals try ((repeat' first|with_reducible refine And.intro ?_ ?_|refine kx13 hc0 @hgetl hcl hcl0 hlw hbx hv hji hjil hnil hg hpn hak' ?_|exact kwy|exact rfl);done)
     repeat first|refine kw0 ?_|exact kwz
     exact ⟨_,_,.refl _ _ _,rfl,hS⟩
   ·rw [alone1_no hone]
    have hl1:((q.fn.length:Int)==1)=false:=by simp;omega
    unfold Sg.c sgC at hS hbx
    unfold Sg.v Sg.c sgC
    refine AC.enter Try.func66 rfl (by kernel_rfl) 73 rfl [] rfl (by simp) fun hsc B=> ?_
    repeat first|refine kw6 hc0 @hgetl hcl hcl0 h0' h1' ?_|exact kwz
    apply AWP.regionX [] [(0,0),(0,0),(0,0),(0,0),(0,0),(0,0),(0,0),(0,0),(0,0),(0,0),(0,0),(0,0),(0,0),(0,0),(0,0),(0,0),(0,0),(0,0),(0,0),(0,0),(0,0),(0,0),(0,0)] [16,17,18,19,20,21,22,23,24,25,26,27,28,29,30,31,32,33,34,35,36,37,38] [] [(16,_),(17,_),(18,_),(19,_),(20,_),(21,_),(22,_),(23,_),(24,_),(25,_),(26,_),(27,_),(28,_),(29,_),(30,_),(31,_),(32,_),(33,_),(34,_),(35,_),(36,_),(37,_),(38,_)]
    ·kernel_rfl
    ·kernel_rfl
    ·kernel_rfl
    ·kernel_rfl
    ·rfl
    ·simp only [eachB,runB]
     repeat' with_reducible refine And.intro ?_ ?_
     iterate 2 all_goals try ((repeat' first|with_reducible refine And.intro ?_ ?_|refine kx7 hc0 @hgetl hcl hcl0 hlw hbx hl1 ?_|exact kwy|exact rfl);done)
    repeat first|refine kw0 ?_|exact kwz
    exact ⟨_,_,.refl _ _ _,rfl,hS⟩
  ·rw [if_neg h1]
   have h1':(s.state==1)=false:=by simp [h1]
   by_cases h2:s.state=2∨s.state=3∨s.state=4
   ·rw [if_pos h2]
    have hJ1:=hJ0.put {s with heard:=true} rfl rfl rfl
    obtain ⟨H1,hH1⟩:∃H1,H1=(H++[AObj.cells p.c ⟨44,0,true,0,none⟩]).set e (.cells (endC {s with heard:=true} q) kE):=⟨_,rfl⟩
    rw [← hH1] at hJ1
    have hH1':=hH1.symm
    clear hH1
    have hbx1:=(hJ1.box _ (List.mem_cons_self ..)).1
    simp only at hbx1
    have hack:=acknowledge hJ1.end_ p.ack p.marks hT.fl hT.ack hpm
    generalize ackR {s with heard:=true} p.ack p.marks=s2 at hack ⊢
    have fin:∀H2,Steps H1 e q s2 H2→∃q2,AJ H e q s2 H2 q2 [(H.length,.cells p.c ⟨44,0,true,0,none⟩)]:=fun H2 hS=>hJ1.steps hS
    unfold Sg.c sgC at hbx1 hH1' fin
    unfold Sg.v Sg.c sgC
    simp only [endC] at hH1'
    rcases h2 with h2|h2|h2
    ·have h2':(s.state==2)=true:=by simp [h2]
     refine AC.enter Try.func66 rfl (by kernel_rfl) 73 rfl [] rfl (by simp) fun hsc B=> ?_
     repeat first|refine kw9 hc0 @hgetl hcl hcl0 h0' h1' h2' hH1' hbx1 ?_|exact kwz
     refine AC.mono hack ?_
     rintro r H2 ⟨rfl,hS⟩
     obtain ⟨q2,hJ2⟩:=fin H2 hS
     repeat first|refine kw0 ?_|exact kwz
     exact ⟨_,_,.refl _ _ _,rfl,hJ2.done⟩
    ·have h2':(s.state==2)=false:=by simp [h2]
     have h3':(s.state==3)=true:=by simp [h2]
     refine AC.enter Try.func66 rfl (by kernel_rfl) 73 rfl [] rfl (by simp) fun hsc B=> ?_
     repeat first|refine kw10 hc0 @hgetl hcl hcl0 h0' h1' h2' h3' hH1' hbx1 ?_|exact kwz
     refine AC.mono hack ?_
     rintro r H2 ⟨rfl,hS⟩
     obtain ⟨q2,hJ2⟩:=fin H2 hS
     repeat first|refine kw0 ?_|exact kwz
     exact ⟨_,_,.refl _ _ _,rfl,hJ2.done⟩
    ·have h2':(s.state==2)=false:=by simp [h2]
     have h3':(s.state==3)=false:=by simp [h2]
     have h4':(s.state==4)=true:=by simp [h2]
     refine AC.enter Try.func66 rfl (by kernel_rfl) 73 rfl [] rfl (by simp) fun hsc B=> ?_
     repeat first|refine kw11 hc0 @hgetl hcl hcl0 h0' h1' h2' h3' h4' hH1' hbx1 ?_|exact kwz
     refine AC.mono hack ?_
     rintro r H2 ⟨rfl,hS⟩
     obtain ⟨q2,hJ2⟩:=fin H2 hS
     repeat first|refine kw0 ?_|exact kwz
     exact ⟨_,_,.refl _ _ _,rfl,hJ2.done⟩
   ·rw [if_neg h2]
    have h2':(s.state==2)=false:=by simp;omega
    have h3':(s.state==3)=false:=by simp;omega
    have h4':(s.state==4)=false:=by simp;omega
    have hS:=hJ0.done
    unfold Sg.c sgC at hS
    unfold Sg.v Sg.c sgC
    refine AC.enter Try.func66 rfl (by kernel_rfl) 73 rfl [] rfl (by simp) fun hsc B=> ?_
    repeat first|refine kw9 hc0 @hgetl hcl hcl0 h0' h1' h2' h3' h4' ?_|exact kwz
    exact ⟨_,_,.refl _ _ _,rfl,hS⟩
end Go.Proofs.Ytdgmcckfdgnicaa
