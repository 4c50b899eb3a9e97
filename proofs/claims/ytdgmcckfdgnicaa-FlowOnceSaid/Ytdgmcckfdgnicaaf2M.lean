/-
  A part of the proof of a statement of this seat.
-/
import Derived.Test.YtdgmcckfdgnicaaUz
import Derived.Test.YtdgmcckfdgnicaaUlM
import Derived.Test.YtdgmcckfdgnicaaAwC
set_option linter.unusedVariables false
set_option linter.unusedSimpArgs false
set_option maxRecDepth 20000
namespace Go.Proofs.Ytdgmcckfdgnicaa
open Go Go.Aw Go.Proofs
def fsR (first other:Int):Nat→Int:=fun W=>if W=0 then first else other
theorem beg_Snd (op:Bool) (conn first room limit body:Int):Snd (begE op conn first room limit body) first [] []∨op=true:=by
 cases op with
 |true=>exact .inr rfl
 |false=>
  refine .inl ⟨?_,?_,(by intro p hp;cases hp),Nat.le_refl _,⟨by simp [begE,limE,newE],by simp [begE,limE,newE],by simp [begE,limE,newE]⟩,rfl,.inl (Nat.zero_le _)⟩
  ·show first=first+0;omega
  ·show first - 1≤first - 1∧first - 1<first;omega
theorem begin_P {conn first other room limit body:Int} {numbers:List Int} (hP:Par (fsR first other) conn room limit numbers) (hb:1≤body∧body≤1400):PInv (beginS conn first other room limit body numbers) (fsR first other) conn room limit (fun _=>[]) 0:=by
 have hr:=hP.room
 have h0:(beginS conn first other room limit body numbers).e 0={begE true conn first room limit body with now:=0,state:=1,waiting:=[newP 1 []]}:=rfl
 have h1:(beginS conn first other room limit body numbers).e 1=begE false conn other room limit body:=rfl
 have hR:∀(e:E) (f:Int),e.base=0→e.ready=[]→e.kept=[]→e.room=room→e.ended=false→(e.state=0∨e.state=1∨e.state=5)→Rcv e f [] []:=fun e f a b c d g k=>⟨by omega,by rw [b,c,d];show (0:Int)+0≤room;omega,.inl ⟨c,b,rfl,g,k⟩⟩
 refine ⟨fun W hW=> ?_,fun W hW p hp=>(by cases hp),fun W hW=> ?_,fun W hW=> ?_,fun _=> ?_,?_,?_,Int.le_refl _,Nat.zero_le _,Nat.le_refl _,fun W hW=>Nat.zero_le _,fun W hW=> ?_⟩
 ·rcases (by omega:W=0∨W=1) with rfl|rfl
  ·rw [h0]
   refine ⟨⟨?_,?_,(by intro p hp;cases hp),Nat.le_refl _,?_,rfl,.inl (Nat.zero_le _)⟩,hR _ _ rfl rfl rfl rfl rfl (.inr (.inl rfl))⟩
   ·show first=first+0;omega
   ·show first - 1≤first - 1∧first - 1<first;omega
   ·show TOk [((1:Int),[])] true false
    refine ⟨fun m hm=> ?_,fun i m hi=> ?_,fun i m hi hk=> ?_⟩
    ·rw [List.mem_singleton.1 hm]
     simp
    ·have hl:=(List.getElem?_eq_some_iff.1 hi).1
     have:i=0:=by simpa using hl
     subst this
     have:m=(1,[]):=by simpa using hi.symm
     rw [this];simp
    ·have hl:=(List.getElem?_eq_some_iff.1 hi).1
     have:i=0:=by simpa using hl
     subst this
     have:m=(1,[]):=by simpa using hi.symm
     rw [this] at hk
     simp at hk
  ·rw [h1]
   refine ⟨?_,hR _ _ rfl rfl rfl rfl rfl (.inl rfl)⟩
   rcases beg_Snd false conn other room limit body with h|h
   ·exact h
   ·cases h
 ·rcases (by omega:W=0∨W=1) with rfl|rfl
  ·rw [h0];exact ⟨rfl,rfl,rfl,rfl,hb,⟨Int.le_refl _,Int.le_refl _⟩,⟨Nat.zero_le _,fun _=>Nat.zero_le _⟩⟩
  ·rw [h1];exact ⟨rfl,rfl,rfl,rfl,hb,⟨Int.le_refl _,Int.le_refl _⟩,⟨Nat.zero_le _,fun _=>Nat.zero_le _⟩⟩
 ·rcases (by omega:W=0∨W=1) with rfl|rfl
  ·rw [h0];intro p hp;rw [List.mem_singleton.1 hp];rfl
  ·rw [h1];intro p hp;cases hp
 ·exact ⟨rfl,rfl,(by intro p hp;cases hp),(by intro p hp;cases hp),rfl,(by intro p hp;cases hp)⟩
 ·exact ⟨by show (1:Int)≠0;omega,by show (0:Int)≠1;omega⟩
 ·show [((1:Int),([]:List UInt8))]≠[]
  simp
 ·rcases (by omega:W=0∨W=1) with rfl|rfl<;> exact Nat.le_refl _
theorem PInv.small {s:PS} {f:Nat→Int} {conn room limit:Int} {L:Nat→List Msg} {c:Nat} (h:PInv s f conn room limit L c) (x:Ac) (hx:x.text.length≤300∧0≤x.later∧x.later≤100000) (hT:s.now≤900000000) (hn: -9223372036854775808≤x.n∧x.n≤9223372036854775807) (hw: -9223372036854775808≤x.who∧x.who≤9223372036854775807):SmallP s x:=by
 have h0:=h.len (W:=0) (by omega)
 have h1:=h.len (W:=1) (by omega)
 refine ⟨hx.1,hx.2,⟨h.now,hT⟩,by omega,by omega,hn,hw,fun W hW=> ?_⟩
 have h2:=h.len hW
 have hF:=h.fix W hW
 exact ⟨by omega,fun p hp=>by have:=((h.both W hW).snd.msgW hp).2.2;omega,hF.body.1,hF.body.2⟩
theorem PInv.sounds {s:PS} {f:Nat→Int} {conn room limit:Int} {L:Nat→List Msg} {c:Nat} (h:PInv s f conn room limit L c) {W:Nat} (hW:W<2):soundR s W=true∧(s.read W).length<1099511627776:=by
 have h1:=(h.both W hW).rcv.sound (h.both (1 - W) (by omega)).snd.text
 refine ⟨by unfold soundR;rw [h1];simp,?_⟩
 have h2:=congrArg List.length h1
 rw [List.length_take] at h2
 have h3:=h.wr
 rcases (by omega:W=0∨W=1) with rfl|rfl
 ·have h2:min (s.read 0).length (s.wrote 1).length=(s.read 0).length:=h2;omega
 ·have h2:min (s.read 1).length (s.wrote 0).length=(s.read 1).length:=h2;omega
end Go.Proofs.Ytdgmcckfdgnicaa

set_option linter.unusedVariables false
set_option linter.unusedSimpArgs false
set_option maxRecDepth 20000
set_option maxHeartbeats 8000000
namespace Go.Proofs.Ytdgmcckfdgnicaa
open Go Go.Aw Go.Proofs
def isI (z:Int):Prop:= -9223372036854775808≤z∧z≤9223372036854775807
structure RunI (H:AHeap) (f:Nat→Int) (conn room limit:Int) (numbers:List Int) (pp n:Nat) (H2:AHeap):Prop where
 ex:∃s x L,PairI H2 pp s x∧PInv s f conn room limit L n∧s.numbers=numbers∧s.now≤100000*n∧∀j∈x.names pp,H.length≤j
 frm:Frm [] H H2
theorem lawOnce (conn first other room limit body:Int) (numbers:List Int) (l:List Ac) (hi:∀x∈l,isI x.n∧isI x.who) (vn v:Value) (H:AHeap) (hvn:Rd H vn (intsC numbers)) (hv:RdN H 5 v (l.map Ac.c)):
  AC Try.prog 4 [.int .i64 conn,.int .i64 first,.int .i64 other,.int .i64 room,.int .i64 limit,.int .i64 body,vn,v] H (fun r _=>r= .ret (.bool true)):=by
 have haw:=fun H=>awake H
 have hq:∀H' K,lenW Try.prog 34 vn H' K=K (.int .i64 (numbers.length:Nat)) H':=fun H' K=>by rw [hvn.lenT (by simp only [go_sem,sevalprocAttr,reduceCtorEq])];simp [intsC]
 have hq1:∀H' K,lenW Try.prog 49 v H' K=K (.int .i64 (l.length:Nat)) H':=fun H' K=>by rw [hv.lenT (by simp only [go_sem,sevalprocAttr,reduceCtorEq]),List.length_map]
 by_cases hA:SmallA conn first other room limit body numbers.length l
 ·have hsm:=small_yes conn first other room limit body vn numbers.length l v H hv hq hA
  obtain ⟨⟨ha,hb,hc,hr,hl,hy,hn⟩,hm,hall⟩:=hA
  have hPar:Par (fsR first other) conn room limit numbers:=⟨fun W hW=>by unfold fsR;split<;> omega,by omega,hr,hl,by omega⟩
  have hP0:=begin_P hPar hy
  refine AC.enter Try.func4 rfl (by kernel_rfl) 66 rfl [.tmp 16] rfl (by simp) fun hsc B=> ?_
  repeat first|with_reducible refine kc ?_|((with_reducible first|refine kr ?_ ?_|refine kt ?_ ?_);exact rfl)|((with_reducible refine kf ?_ ?_);exact rfl)|with_reducible refine hsm.use ?_|simp only [go_sem,sevalprocAttr,reduceCtorEq]|simp (disch:=omega) only [wz]
  refine AC.mono (begin_ conn first other room limit body numbers vn (by omega) (by omega) (by omega) (by omega) (by omega) hy H hvn) ?_
  rintro r H1 ⟨pp,x1,rfl,hP1,hF1,hn1⟩
  repeat first|with_reducible refine kc ?_|((with_reducible first|refine kr ?_ ?_|refine kt ?_ ?_);exact rfl)|((with_reducible refine kf ?_ ?_);exact rfl)|simp only [go_sem,sevalprocAttr,reduceCtorEq,hq1]|simp (disch:=omega) only [wz]
  refine AWP.loopP (fun s2:Nat×AHeap=>⟨[(17,ptr pp),(4,.int .i64 limit),(45,v),(46,.int .i64 (l.length:Nat)),(47,.int .i64 (s2.1:Nat))],[],s2.2⟩) (fun s2=>s2.1≤l.length∧RunI H (fsR first other) conn room limit numbers pp s2.1 s2.2) (fun s2=>l.length - s2.1) (0,H1) ?_ ⟨by omega,⟨⟨_,x1,_,hP1,hP0,rfl,Int.le_refl _,hn1⟩,hF1⟩⟩ ?_
  ·exact Weak.env (by simp [envIn,lk_cons,wth_some])
  rintro ⟨n,H2⟩ ⟨hle,⟨s,x,L,hP,hI,hnum,hnow,hnm⟩,hF⟩
  simp only at hle hP hI hF
  have hPs:Par (fsR first other) conn room limit s.numbers:=by rw [hnum];exact hPar
  by_cases hx:n<l.length
  ·have hx':(n:Int)<(l.length:Int):=by omega
   have hv2:RdN H2 5 v (l.map Ac.c):=hv.frm hF (by simp)
   obtain ⟨j,o,cap,cs,k,rfl,hj,hg,hlo⟩:=acs_at hv2 hx
   have hjl:=lt_of_get hj
   have hwn:IntKind.i64.wrap ((n:Int)+1)=((n+1:Nat):Int):=by rw [wi64 (by omega)];omega
   have hlt:l[n].light:=hall _ (List.getElem_mem hx)
   have hix:=hi _ (List.getElem_mem hx)
   generalize l[n]=a at*
   obtain ⟨hdo,hd2,hd3,L2,hI2⟩:=hI.do_ hPs (by omega) a hlt hnow
   have hDo:=do_ (hP.more [.cells a.c ⟨51,0,true,0,none⟩]) a limit hdo (hI.small a hlt (by omega) hix.1 hix.2)
   unfold Ac.c at hg hDo
   repeat first|with_reducible refine kc ?_|((with_reducible first|refine kr ?_ ?_|refine kt ?_ ?_);exact rfl)|((with_reducible refine kf ?_ ?_);exact rfl)|simp only [go_sem,sevalprocAttr,reduceCtorEq,hx',hj,hjl,hgetl,hg,hlo]|simp (disch:=omega) only [wz]
   refine AC.mono hDo ?_
   rintro r H3 ⟨rfl,x3,hJ3⟩
   repeat first|with_reducible refine kc ?_|((with_reducible first|refine kr ?_ ?_|refine kt ?_ ?_);exact rfl)|((with_reducible refine kf ?_ ?_);exact rfl)|simp only [go_sem,sevalprocAttr,reduceCtorEq,hwn]|simp (disch:=omega) only [wz]
   have hltx:=hP.lt
   refine ⟨(n+1,H3),Weak.env (by simp [envIn,lk_cons,wth_some]),by show n+1≤_;omega,⟨⟨_,x3,L2,hJ3.pair,hI2,hd2.trans hnum,?_,fun j hj=> ?_⟩,?_⟩,by show l.length - (n+1)<_;omega⟩
   ·have:=hlt.2.2
    show (doR s a).now≤100000*((n+1:Nat):Int)
    rw [hd3];omega
   ·have:=hF.1
    rcases hJ3.names j hj with g|g
    ·exact hnm j g
    ·rw [List.length_append] at g;omega
   ·exact (hF.trans (S':=[]) (Frm.app (X:= [.cells a.c ⟨51,0,true,0,none⟩])) (by simp)).trans hJ3.frm fun j hj=> .inr (hnm j hj)
  ·have hx':¬(n:Int)<(l.length:Int):=by omega
   have s0:=hI.sounds (W:=0) (by omega)
   have s1:=hI.sounds (W:=1) (by omega)
   have hs0:=sound hP (W:=0) (by omega) s0.2
   have hs1:=sound hP (W:=1) (by omega) s1.2
   rw [s0.1] at hs0
   rw [s1.1] at hs1
   simp only [Int.natCast_zero,Int.natCast_one] at hs0 hs1
   repeat first|with_reducible refine kc ?_|((with_reducible first|refine kr ?_ ?_|refine kt ?_ ?_);exact rfl)|((with_reducible refine kf ?_ ?_);exact rfl)|with_reducible (first|refine hs0.use ?_|refine hs1.use ?_|refine (haw _).use ?_)|simp only [go_sem,sevalprocAttr,reduceCtorEq,hx']|simp (disch:=omega) only [wz]
   exact ⟨_,_,.refl _ _ _,rfl⟩
 ·have hsm:=small_no conn first other room limit body vn numbers.length l v H hv hq hA
  refine AC.enter Try.func4 rfl (by kernel_rfl) 66 rfl [.tmp 16] rfl (by simp) fun hsc B=> ?_
  repeat first|with_reducible refine kc ?_|((with_reducible first|refine kr ?_ ?_|refine kt ?_ ?_);exact rfl)|((with_reducible refine kf ?_ ?_);exact rfl)|with_reducible (first|refine hsm.use ?_|refine (haw _).use ?_)|simp only [go_sem,sevalprocAttr,reduceCtorEq]|simp (disch:=omega) only [wz]
  exact ⟨_,_,.refl _ _ _,rfl⟩
end Go.Proofs.Ytdgmcckfdgnicaa

set_option linter.unusedVariables false
set_option linter.unusedSimpArgs false
set_option maxRecDepth 20000
namespace Go.Proofs.Ytdgmcckfdgnicaa
open Go Go.Aw Go.Proofs
theorem acOf {bnd:Nat} {cs:List Value} (h:Fits bnd [.i .i64,.i .i64,.i .i64,.i .i64,.s] cs):∃a:Ac,cs=a.c∧isI a.n∧isI a.who:=by
 cases h with|cons h1 h=>
 cases h with|cons h2 h=>
 cases h with|cons h3 h=>
 cases h with|cons h4 h=>
 cases h with|cons h5 h=>
 cases h
 obtain ⟨z1,rfl,_⟩:=h1
 obtain ⟨z2,rfl,w2⟩:=h2
 obtain ⟨z3,rfl,w3⟩:=h3
 obtain ⟨z4,rfl,_⟩:=h4
 obtain ⟨z5,rfl,_⟩:=h5
 exact ⟨⟨z1,z2,z3,z4,z5⟩,rfl,wf_i64 w3,wf_i64 w2⟩
theorem acsOf {bnd:Nat}:∀l:List (List Value),(∀ r∈l,Fits bnd [.i .i64,.i .i64,.i .i64,.i .i64,.s] r)→∃xs:List Ac,l=xs.map Ac.c∧∀x∈xs,isI x.n∧isI x.who:=by
 intro l
 induction l with
 |nil=>intro _;exact ⟨[],rfl,by simp⟩
 |cons r l ih=>
  intro h
  obtain ⟨x,e,w⟩:=acOf (h r (List.mem_cons_self ..))
  obtain ⟨xs,e2,w2⟩:=ih fun r hr=>h r (List.mem_cons_of_mem _ hr)
  exact ⟨x::xs,by rw [e,e2];rfl,fun y hy=>by rcases List.mem_cons.1 hy with rfl|hy;exact w;exact w2 y hy⟩
end Go.Proofs.Ytdgmcckfdgnicaa
