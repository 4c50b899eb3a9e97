/-
  A part of the proof of a statement of this seat.
-/
import Derived.Test.Ytdgmcckfdgnicaai3
import Derived.KernelRfl
set_option linter.unusedVariables false
set_option linter.unusedSimpArgs false
set_option maxRecDepth 20000
namespace Go.Proofs.Ytdgmcckfdgnicaa
open Go Go.Aw Go.Proofs
theorem XInv.putE {s s':PS} {f:Nat→Int} {L:Nat→List Msg} {k:Nat→Nat} (x:XInv s f L k) {W:Nat} (hW:W<2) {e':E} (g1:s'.e=upd s.e W e') (g3:s'.way=s.way)
  (h1:e'.flight=(s.e W).flight) (h2:e'.acked=(s.e W).acked) (h3:e'.answer=(s.e W).answer) (h4:e'.heard=(s.e W).heard) (h5:e'.state=(s.e W).state) (h6:e'.ended=(s.e W).ended) (h7:e'.out=(s.e W).out)
  (h8:e'.closing=true→∃(i:Nat) (m:Msg),(L W++e'.waiting.map msg)[i]? =some m∧m.1=4):XInv s' f L k:=by
 have hV:1 - W<2:=by omega
 have hVV:1 - (1 - W)=W:=by omega
 have hWV:W≠1 - W:=by omega
 have hn:=nums_same h1
 have e0:∀V,V<2→(s'.e V).state=(s.e V).state∧(s'.e V).flight=(s.e V).flight∧(s'.e V).acked=(s.e V).acked∧(s'.e V).answer=(s.e V).answer∧(s'.e V).heard=(s.e V).heard∧(s'.e V).ended=(s.e V).ended∧(s'.e V).out=(s.e V).out:=fun V hV=>by
  rw [g1]
  by_cases hVW:V=W
  ·subst hVW;rw [upd_self];exact ⟨h5,h1,h2,h3,h4,h6,h7⟩
  ·rw [upd_ne hVW];exact ⟨rfl,rfl,rfl,rfl,rfl,rfl,rfl⟩
 have z0:=e0 0 (by omega)
 have z1:=e0 1 (by omega)
 refine ⟨fun V hV=>by rw [(e0 V hV).2.2.1];exact x.ak V hV,fun V hV=> ?_,fun g=> ?_,fun V hV g=>x.x3 V hV (by rw [← (e0 V hV).1];exact g),?_,fun g=> ?_,fun g=> ?_,fun g=> ?_,fun g g2=>x.x5d (z0.1 ▸ g) (z1.1 ▸ g2),fun V hV=> ?_,fun V hV g=> ?_,fun V hV=>by rw [(e0 V hV).2.2.2.2.2.2];exact x.out V hV⟩
 ·have:=x.lag V hV
  unfold Lag at this ⊢
  rw [(e0 V hV).2.2.1,(e0 (1 - V) (by omega)).2.2.2.1,g3]
  exact this
 ·rw [z0.1] at g
  rw [nums_same z0.2.1]
  exact x.x2 g
 ·rw [z1.2.2.2.2.1,z0.1,z0.2.2.2.1,g3];exact x.x4
 ·rw [z0.2.1];exact x.x5a (z0.1 ▸ g)
 ·rw [g3];exact x.x5b (z1.1 ▸ g)
 ·rw [g3];exact x.x5c (z0.1 ▸ g)
 ·have:=x.x8 V hV
  unfold EndC at this ⊢
  rw [(e0 (1 - V) (by omega)).2.2.2.2.2.1]
  exact this
 ·rw [g1] at g ⊢
  by_cases hVW:V=W
  ·subst hVW;rw [upd_self] at g ⊢;exact h8 g
  ·rw [upd_ne hVW] at g ⊢;exact x.x7 V hV g
theorem XInv.rd {s:PS} {f:Nat→Int} {L:Nat→List Msg} {k:Nat→Nat} (x:XInv s f L k) {W:Nat} (hW:W<2) (most:Int) (hat:(s.e W).now≤s.now∧s.now≤1000000000):XInv (rd0 s W most) f L k:=by
 have heq:=rd0_eq (s:=s) (W:=W) most hat
 exact x.putE hW (e':=readS most {s.e W with now:=s.now}) (by rw [heq]) (by rw [heq]) rfl rfl rfl rfl rfl rfl rfl (fun g=>x.x7 W hW g)
theorem XInv.write {s:PS} {f:Nat→Int} {L:Nat→List Msg} {k:Nat→Nat} (x:XInv s f L k) {W:Nat} (hW:W<2) (t:List UInt8):XInv (writeS s W t) f L k:=by
 have hs:(writeR (s.e W) s.now t).2.flight=(s.e W).flight∧(writeR (s.e W) s.now t).2.acked=(s.e W).acked∧(writeR (s.e W) s.now t).2.answer=(s.e W).answer∧(writeR (s.e W) s.now t).2.heard=(s.e W).heard∧(writeR (s.e W) s.now t).2.state=(s.e W).state∧(writeR (s.e W) s.now t).2.ended=(s.e W).ended∧(writeR (s.e W) s.now t).2.out=(s.e W).out∧(writeR (s.e W) s.now t).2.closing=(s.e W).closing∧∃X,(writeR (s.e W) s.now t).2.waiting=(s.e W).waiting++X:=by
  unfold writeR
  split
  ·split
   ·split
    ·exact ⟨rfl,rfl,rfl,rfl,rfl,rfl,rfl,rfl,[],by simp⟩
    ·exact ⟨rfl,rfl,rfl,rfl,rfl,rfl,rfl,rfl,_,rfl⟩
   ·exact ⟨rfl,rfl,rfl,rfl,rfl,rfl,rfl,rfl,[],by simp⟩
  ·exact ⟨rfl,rfl,rfl,rfl,rfl,rfl,rfl,rfl,[],by simp⟩
 obtain ⟨a1,a2,a3,a4,a5,a6,a7,a8,X,a9⟩:=hs
 refine x.putE hW (e':=(writeR (s.e W) s.now t).2) rfl rfl a1 a2 a3 a4 a5 a6 a7 fun g=> ?_
 rw [a8] at g
 obtain ⟨i,m,h1,h2⟩:=x.x7 W hW g
 refine ⟨i,m,?_,h2⟩
 rw [a9,List.map_append,←List.append_assoc]
 exact prefix_get ⟨_,rfl⟩ h1
theorem XInv.close {s:PS} {f:Nat→Int} {L:Nat→List Msg} {k:Nat→Nat} (x:XInv s f L k) {W:Nat} (hW:W<2):XInv (closeS s W) f L k:=by
 have hs:(closeR (s.e W) s.now).2.flight=(s.e W).flight∧(closeR (s.e W) s.now).2.acked=(s.e W).acked∧(closeR (s.e W) s.now).2.answer=(s.e W).answer∧(closeR (s.e W) s.now).2.heard=(s.e W).heard∧(closeR (s.e W) s.now).2.state=(s.e W).state∧(closeR (s.e W) s.now).2.ended=(s.e W).ended∧(closeR (s.e W) s.now).2.out=(s.e W).out∧
   (((closeR (s.e W) s.now).2.closing=(s.e W).closing∧(closeR (s.e W) s.now).2.waiting=(s.e W).waiting)∨(closeR (s.e W) s.now).2.waiting=(s.e W).waiting++[newP 4 []]):=by
  unfold closeR
  split
  ·split
   ·exact ⟨rfl,rfl,rfl,rfl,rfl,rfl,rfl,.inr rfl⟩
   ·exact ⟨rfl,rfl,rfl,rfl,rfl,rfl,rfl,.inl ⟨rfl,rfl⟩⟩
  ·exact ⟨rfl,rfl,rfl,rfl,rfl,rfl,rfl,.inl ⟨rfl,rfl⟩⟩
 obtain ⟨a1,a2,a3,a4,a5,a6,a7,a8⟩:=hs
 refine x.putE hW (e':=(closeR (s.e W) s.now).2) rfl rfl a1 a2 a3 a4 a5 a6 a7 fun g=> ?_
 rcases a8 with ⟨b1,b2⟩|b
 ·rw [b1] at g
  rw [b2];exact x.x7 W hW g
 ·rw [b,List.map_append,←List.append_assoc]
  exact ⟨(L W++(s.e W).waiting.map msg).length,(4,[]),by rw [List.getElem?_append_right (Nat.le_refl _),Nat.sub_self];rfl,rfl⟩
theorem XInv.later {s:PS} {f:Nat→Int} {L:Nat→List Msg} {k:Nat→Nat} (x:XInv s f L k) (t:Int):XInv {s with now:=s.now+t} f L k:=
 ⟨x.ak,x.lag,x.x2,x.x3,x.x4,x.x5a,x.x5b,x.x5c,x.x5d,x.x8,x.x7,x.out⟩
theorem XInv.send {s:PS} {f:Nat→Int} {conn room limit:Int} {L:Nat→List Msg} {c:Nat} {k:Nat→Nat} (h:AInv s f conn room limit L c k) (x:XInv s f L k) {W:Nat} (hW:W<2) {b:E} {o:List Sg} {L':List Msg} {acc:Nat→Bool} {R:Int}
  (he:(sendS s W).e=upd s.e W b) (hway:(sendS s W).way=upd s.way W (s.way W++o)) (hA:SendA (s.e W) (f W) (L W) (s.wrote W) acc R s.now b o L') (hlow:(s.e W).state=1→(s.e W).answer=false→ (∀ p∈(s.e W).flight,p.kind=1)→ (∀ p∈o,p.kind=1∨p.kind=5)∧ (∀ p∈b.flight,p.kind=1)):XInv (sendS s W) f (upd L W L') k:=by
 have hV:1 - W<2:=by omega
 have hVV:1 - (1 - W)=W:=by omega
 have hWV:W≠1 - W:=by omega
 have heW:(sendS s W).e W=b:=by rw [he,upd_self]
 have heV:(sendS s W).e (1 - W)=s.e (1 - W):=by rw [he,upd_ne (fun g=>hWV g.symm)]
 have hwW:(sendS s W).way W=s.way W++o:=by rw [hway,upd_self]
 have hwV:(sendS s W).way (1 - W)=s.way (1 - W):=by rw [hway,upd_ne (fun g=>hWV g.symm)]
 obtain ⟨bw,bfl,bn,bc,bg,bst,bou,hbe,hbs⟩:=hA.of_
 have hbb:b.acked=(s.e W).acked∧b.heard=(s.e W).heard∧b.ended=(s.e W).ended∧b.out=(s.e W).out∧b.closing=(s.e W).closing∧b.state=bst:=by rw [hbe];exact ⟨rfl,rfl,rfl,rfl,rfl,rfl⟩
 have hs5:=h.st5 W hW
 have hD2:=h.dir _ hV
 rw [hVV] at hD2
 have hout:∀q∈o,(s.e W).state≠1→Ackd q∧q.ack=(f (1 - W)+k (1 - W) - 1)%65536:=fun q hq h1=>by
  obtain ⟨a1,a2,a3,a4,a5,a6,a7⟩:=hA.outs q hq
  have h0:(s.e W).state≠0:=fun g=>by rw [hA.zero g] at hq;cases hq
  have hk1:q.kind≠1:=fun hk=>by
   rcases (by omega:W=0∨W=1) with rfl|rfl
   ·rcases a7 hk with g|g
    ·have:=(x.x2 h1).2 _ g;omega
    ·exact h1 g
   ·obtain ⟨i,hi,_⟩:=a6.in_ (.inl hk)
    have hop:b.opener=false:=by rw [hbe];exact (h.base.fix 1 (by omega)).opener
    have:=((hA.snd.tok.first i _ (prefix_get ⟨_,rfl⟩ hi)).1 hk).2
    rw [hop] at this;cases this
  have hpk:=a6.ok.1
  have hpk2:=a6.ok.2.1
  refine ⟨by unfold Ackd;omega,?_⟩
  rcases hD2.kk.got with ⟨_,_,_,_,_,g⟩|⟨hG,_⟩
  ·omega
  ·rw [a3,hG.base]
 refine ⟨fun V hV2=> ?_,fun V hV2=> ?_,fun hs=> ?_,fun V hV2 hs=> ?_,?_,fun hs=> ?_,fun hs=> ?_,fun hs=> ?_,fun hs hs1=> ?_,fun V hV2=> ?_,fun V hV2 hc2=> ?_,fun V hV2=> ?_⟩
 ·by_cases hVW:V=W
  ·subst hVW;rw [heW,hbb.1];exact x.ak V hV2
  ·have hV1:V=1 - W:=by omega
   subst hV1
   rw [heV];exact x.ak _ hV
 ·by_cases hVW:V=W
  ·subst hVW
   rw [heW,heV,hwV]
   have:=x.lag V hV2
   unfold Lag at this ⊢
   rw [hbb.1];exact this
  ·have hV1:V=1 - W:=by omega
   subst hV1
   rw [hVV,heV,heW,hwW]
   have hL:=x.lag _ hV
   rw [hVV] at hL
   unfold Lag at hL ⊢
   rcases hL with g|g|⟨q,hq,g1,g2⟩
   ·exact .inl g
   ·have h1:(s.e W).state≠1:=fun g1=>by
     rcases (by omega:W=0∨W=1) with rfl|rfl
     ·have:=(h.base.start g1).2.2.2.2.1
      rw [this] at g;cases g
     ·exact h.base.st0.2 g1
    by_cases h0:(s.e W).state=0
    ·-- an end that has not begun took nothing
     left
     rcases hD2.kk.got with ⟨hk0,_⟩|⟨_,g3,_⟩
     ·have h2:=x.ak _ hV
      have h3:=(h.base.both _ hV).snd.acked.1
      rw [hk0] at h2 ⊢
      omega
     ·exact absurd h0 g3
    ·have hne:=hA.ansO g h0
     obtain ⟨q,hq⟩:=List.exists_mem_of_ne_nil _ hne
     obtain ⟨b1,b2⟩:=hout q hq h1
     exact .inr (.inr ⟨q,List.mem_append_right _ hq,b1,b2⟩)
   ·exact .inr (.inr ⟨q,List.mem_append_left _ hq,g1,g2⟩)
 ·rcases (by omega:W=0∨W=1) with rfl|rfl
  ·rw [heW] at hs ⊢
   rw [upd_self]
   have h1:(s.e 0).state≠1:=by omega
   obtain ⟨g1,g2⟩:=x.x2 h1
   have hl0:1≤(L 0).length:=List.length_pos_iff.2 g1
   refine ⟨fun g=> ?_,fun y hy=> ?_⟩
   ·have:=hA.pre.length_le
    rw [g] at this
    simp at this
    exact g1 (by simpa using this)
   ·rcases hA.sub y hy with g|g
    ·exact g2 y g
    ·omega
  ·have heV:(sendS s 1).e 0=s.e 0:=heV
   rw [heV] at hs ⊢
   rw [upd_ne (by omega)]
   exact x.x2 hs
 ·by_cases hVW:V=W
  ·subst hVW
   rw [heW] at hs
   rw [upd_self]
   rcases hA.conv hs with g|g
   ·obtain ⟨i,m,g1,g2⟩:=x.x3 V hV2 g
    exact ⟨i,m,prefix_get hA.pre g1,g2⟩
   ·exact g
  ·have hV1:V=1 - W:=by omega
   subst hV1
   rw [heV] at hs
   rw [upd_ne (fun g=>hWV g.symm)]
   exact x.x3 _ hV hs
 ·rcases (by omega:W=0∨W=1) with rfl|rfl
  ·have heV:(sendS s 0).e 1=s.e 1:=heV
   rw [heV,heW,hwW,hbb.2.2.2.2.2]
   rcases x.x4 with g|g|g|⟨q,hq,g⟩
   ·exact .inl g
   ·exact .inr (.inl (by omega))
   ·by_cases h1:(s.e 0).state=1
    ·exact .inr (.inl (by omega))
    ·have hne:=hA.ansO g h.base.st0.1
     obtain ⟨q,hq⟩:=List.exists_mem_of_ne_nil _ hne
     exact .inr (.inr (.inr ⟨q,List.mem_append_right _ hq,(hout q hq h1).1⟩))
   ·exact .inr (.inr (.inr ⟨q,List.mem_append_left _ hq,g⟩))
  ·have heV:(sendS s 1).e 0=s.e 0:=heV
   have hwV:(sendS s 1).way 0=s.way 0:=hwV
   rw [heV,heW,hwV,hbb.2.1]
   exact x.x4
 ·rcases (by omega:W=0∨W=1) with rfl|rfl
  ·rw [heW] at hs ⊢
   rw [upd_self]
   have h1:(s.e 0).state=1:=by omega
   obtain ⟨_,_,_,_,a5,a6⟩:=h.base.start h1
   obtain ⟨_,hfk⟩:=hlow h1 a5 a6
   have hop:b.opener=true:=by rw [hbe];exact (h.base.fix 0 (by omega)).opener
   have hall:∀y∈nums b,y=f 0:=fun y hy=>by
    obtain ⟨q,hq,rfl⟩:=List.mem_map.1 hy
    obtain ⟨i,hi,hin⟩:=hA.snd.fl q hq
    have:=((hA.snd.tok.first i _ (prefix_get ⟨_,rfl⟩ hi)).1 (hfk q hq)).1
    rw [hin,this];simp
   have hlen:∀i:Nat,(L 0).length≤i→i<L'.length→i=0:=fun i g1 g2=>by
    have:=hall _ (hA.new i g1 g2)
    omega
   have hfl1:f 0∈nums b→∃fl,b.flight=[fl]∧fl.number=f 0:=fun hm=>by
    have hnd:=hA.fls.srt.nodup
    have hl1:(nums b).length≤1:=by
     match hnb:nums b with
     |[]=>exact Nat.zero_le _
     |[_]=>exact Nat.le_refl _
     |a1::a2::t=>
      rw [hnb] at hnd hall
      rw [List.nodup_cons] at hnd
      exfalso
      have e1:=hall a1 (List.mem_cons_self ..)
      have e2:=hall a2 (List.mem_cons_of_mem _ (List.mem_cons_self ..))
      exact hnd.1 (by rw [e1,←e2];exact List.mem_cons_self ..)
    have hl2:0<(nums b).length:=List.length_pos_of_mem hm
    have hl3:b.flight.length=1:=by
     have:(nums b).length=b.flight.length:=by unfold nums;rw [List.length_map]
     omega
    obtain ⟨fl,hfl⟩:=List.length_eq_one_iff.1 hl3
    refine ⟨fl,hfl,hall _ ?_⟩
    unfold nums
    rw [hfl];simp
   rcases x.x5a h1 with g|⟨g1,fl,g2,g3⟩
   ·by_cases hL:L'.length=0
    ·exact .inl (List.eq_nil_of_length_eq_zero hL)
    ·right
     have h0:=hA.new 0 (by rw [g];simp) (by omega)
     refine ⟨?_,hfl1 (by simpa using h0)⟩
     by_cases h2:1<L'.length
     ·have:=hlen 1 (by rw [g];simp) h2
      omega
     ·omega
   ·right
    have hm:f 0∈nums b:=hA.mem _ (by unfold nums;rw [g2,←g3];simp)
    refine ⟨?_,hfl1 hm⟩
    have hple:=hA.pre.length_le
    by_cases h2:1<L'.length
    ·have:=hlen 1 (by omega) h2
     omega
    ·omega
  ·have heV:(sendS s 1).e 0=s.e 0:=heV
   rw [heV] at hs ⊢
   rw [upd_ne (by omega)]
   exact x.x5a hs
 ·rcases (by omega:W=0∨W=1) with rfl|rfl
  ·have heV:(sendS s 0).e 1=s.e 1:=heV
   rw [heV] at hs
   rw [hwW,upd_self]
   rcases x.x5b hs with g|g
   ·by_cases hL:L'.length=0
    ·exact .inl (List.eq_nil_of_length_eq_zero hL)
    ·right
     have:=hA.outn (by rw [g];show 0<L'.length;omega)
     intro g2
     exact this (List.append_eq_nil_iff.1 g2).2
   ·exact .inr fun g2=>g (List.append_eq_nil_iff.1 g2).1
  ·have hwV:(sendS s 1).way 0=s.way 0:=hwV
   rw [heW] at hs
   rw [hwV,upd_ne (by omega)]
   exact x.x5b (by omega)
 ·rcases (by omega:W=0∨W=1) with rfl|rfl
  ·have hwV:(sendS s 0).way 1=s.way 1:=hwV
   rw [heW] at hs
   rw [hwV];exact x.x5c (by omega)
  ·have heV:(sendS s 1).e 0=s.e 0:=heV
   rw [heV] at hs
   rw [hwW]
   intro q hq
   rcases List.mem_append.1 hq with hq|hq
   ·exact x.x5c hs q hq
   ·have h0:(s.e 1).state≠0:=fun g=>by rw [hA.zero g] at hq;cases hq
    have h2:=(hout q hq h.base.st0.2).2
    have h3:=x.x5d hs h0
    have h4:k 0≤(L 0).length:=hD2.kk.inf.le
    rw [h2]
    show (f 0+(k 0:Nat) - 1)%65536=_
    rcases x.x5a hs with g|⟨g,_⟩
    ·rw [g] at h4;simp at h4;omega
    ·have:k 0=1:=by omega
     rw [this];simp
 ·rcases (by omega:W=0∨W=1) with rfl|rfl
  ·have heV:(sendS s 0).e 1=s.e 1:=heV
   rw [heV] at hs1
   rw [heW] at hs
   exact x.x5d (by omega) hs1
  ·have heV:(sendS s 1).e 0=s.e 0:=heV
   rw [heV] at hs
   rw [heW] at hs1
   exact x.x5d hs (by omega)
 ·by_cases hVW:V=W
  ·subst hVW
   rw [heV,upd_self]
   intro m h1 hm h4
   have hkl:=(h.dir V hV2).kk.inf.le
   refine x.x8 V hV2 m h1 ?_ h4
   have hlt:k V - 1<(L V).length:=by omega
   have:=prefix_get hA.pre (List.getElem?_eq_getElem hlt)
   rw [this] at hm
   rw [← Option.some.inj hm]
   exact List.getElem?_eq_getElem hlt
  ·have hV1:V=1 - W:=by omega
   subst hV1
   have h2:=x.x8 _ hV
   rw [hVV] at h2 ⊢
   rw [upd_ne (fun g=>hWV g.symm),heW]
   intro m a1 a2 a3
   rw [hbb.2.2.1]
   exact h2 m a1 a2 a3
 ·by_cases hVW:V=W
  ·subst hVW
   rw [heW] at hc2 ⊢
   rw [upd_self,hA.tot]
   exact x.x7 V hV2 (by rw [← hbb.2.2.2.2.1];exact hc2)
  ·have hV1:V=1 - W:=by omega
   subst hV1
   rw [heV] at hc2 ⊢
   rw [upd_ne (fun g=>hWV g.symm)]
   exact x.x7 _ hV hc2
 ·by_cases hVW:V=W
  ·subst hVW;rw [heW,hbb.2.2.2.1];exact x.out V hV2
  ·have hV1:V=1 - W:=by omega
   subst hV1
   rw [heV];exact x.out _ hV
end Go.Proofs.Ytdgmcckfdgnicaa

set_option linter.unusedVariables false
set_option linter.unusedSimpArgs false
set_option maxRecDepth 20000
namespace Go.Proofs.Ytdgmcckfdgnicaa
open Go Go.Aw Go.Proofs
theorem under_pk:∀l:List Pk,(underN l).map (fun i=>l.getD i default)=l.filter fun p=> !p.lost
 |[]=>rfl
 | p::l=>by
  have ih:=under_pk l
  have h2:(fun i=>(p::l).getD i default)∘Nat.succ=fun i=>l.getD i default:=by
   funext i
   simp
  rw [underN_cons,List.filter_cons]
  cases hp:p.lost with
  |true=>simp only [if_true,Bool.not_true,Bool.false_eq_true,if_false];rw [List.map_map,h2,ih]
  |false=>simp only [Bool.false_eq_true,if_false,Bool.not_false,if_true];rw [List.map_cons,List.map_map,h2,ih];rfl
theorem earl_eq (l:List Pk):earl l=(l.filter fun p=> !p.lost).foldl eStep (0,false):=by
 unfold earl earlN
 rw [List.take_of_length_le (Nat.le_refl _),under_pk]
theorem eStep_fold:∀(l:List Pk) (a:Int),((l.foldl eStep (a,true)).2=true)∧(l.foldl eStep (a,true)).1≤a∧ (∀ p∈l,(l.foldl eStep (a,true)).1≤p.sent)∧((l.foldl eStep (a,true)).1=a∨∃p∈l,p.sent=(l.foldl eStep (a,true)).1)
 |[],a=>⟨rfl,Int.le_refl _,by simp,.inl rfl⟩
 | p::l,a=>by
  rw [List.foldl_cons]
  have hs:eStep (a,true) p=(min a p.sent,true):=by
   unfold eStep
   split
   ·rename_i h
    rcases h with h|h
    ·cases h
    ·rw [show min a p.sent=p.sent by omega]
   ·rename_i h
    have:¬p.sent<a:=fun g=>h (.inr g)
    rw [show min a p.sent=a by omega]
  rw [hs]
  obtain ⟨h1,h2,h3,h4⟩:=eStep_fold l (min a p.sent)
  refine ⟨h1,by omega,fun q hq=> ?_,?_⟩
  ·rcases List.mem_cons.1 hq with rfl|hq
   ·omega
   ·exact h3 q hq
  ·rcases h4 with h4|⟨q,hq,h4⟩
   ·by_cases ha:a≤p.sent
    ·left;omega
    ·exact .inr ⟨p,List.mem_cons_self ..,by omega⟩
   ·exact .inr ⟨q,List.mem_cons_of_mem _ hq,h4⟩
theorem earl_none {l:List Pk} (h:∀p∈l,p.lost=true):(earl l).2=false:=by
 rw [earl_eq,List.filter_eq_nil_iff.2 fun p hp=>by rw [h p hp];simp]
 rfl
theorem earl_some {l:List Pk} {p:Pk} (hp:p∈l) (hl:p.lost=false):(earl l).2=true∧ (∀ q∈l,q.lost=false→(earl l).1≤q.sent)∧∃q∈l,q.lost=false∧q.sent=(earl l).1:=by
 rw [earl_eq]
 have hm:∀q,q∈l.filter (fun p=> !p.lost)↔q∈l∧q.lost=false:=fun q=>by rw [List.mem_filter];simp
 have hpm:=(hm p).2 ⟨hp,hl⟩
 cases hf:l.filter (fun p=> !p.lost) with
 |nil=>rw [hf] at hpm;cases hpm
 | cons a t=>
  rw [List.foldl_cons]
  have:eStep (0,false) a=(a.sent,true):=rfl
  rw [this]
  obtain ⟨h1,h2,h3,h4⟩:=eStep_fold t a.sent
  refine ⟨h1,fun q hq hql=> ?_,?_⟩
  ·have:=(hm q).2 ⟨hq,hql⟩
   rw [hf] at this
   rcases List.mem_cons.1 this with rfl|hq2
   ·exact h2
   ·exact h3 q hq2
  ·rcases h4 with h4|⟨q,hq,h4⟩
   ·have ha:=(hm a).1 (by rw [hf];exact List.mem_cons_self ..)
    exact ⟨a,ha.1,ha.2,h4.symm⟩
   ·have ha:=(hm q).1 (by rw [hf];exact List.mem_cons_of_mem _ hq)
    exact ⟨q,ha.1,ha.2,h4⟩
def pw2:Nat→Int
 |0=>1
 |n+1=>2*pw2 n
def Gt (n:Nat):Int:=1000*pw2 n - 1000
theorem pw2_pos:∀n,1≤pw2 n
 |0=>Int.le_refl _
 |n+1=>by have:=pw2_pos n;unfold pw2;omega
theorem Gt_succ (n:Nat):Gt (n+1)=Gt n+1000*pw2 n:=by unfold Gt;show 1000*(2*pw2 n) - 1000=_;omega
theorem Gt_pos (n:Nat):0≤Gt n:=by have:=pw2_pos n;unfold Gt;omega
theorem Gt_mono {n m:Nat} (h:n≤m):Gt n≤Gt m:=by
 induction m with
 |zero=>
  have:n=0:=by omega
  subst this;exact Int.le_refl _
 | succ m ih=>
  by_cases hn:n=m+1
  ·subst hn;exact Int.le_refl _
  ·have h2:=ih (by omega)
   have:=pw2_pos m
   rw [Gt_succ];omega
theorem waitR_eq {e:E} (ho:e.out=1000) (h:e.outs≤5):waitR e=1000*pw2 e.outs∧waitR e≤60000:=by
 unfold waitR
 rw [ho]
 rcases (by omega:e.outs=0∨e.outs=1∨e.outs=2∨e.outs=3∨e.outs=4∨e.outs=5) with h|h|h|h|h|h<;> rw [h]<;> exact ⟨by decide,by decide⟩
theorem over_cases {e:E} (ho:e.out=1000) (h:e.outs≤5) (h5:e.state≠5) (hn:0≤e.now∧e.now≤1000000000) (hs:∀p∈e.flight,p.lost=false→0≤p.sent∧p.sent≤e.now):
  (over2 e=e∧∀p∈e.flight,p.lost=false→e.now - p.sent≤1000*pw2 e.outs∨∃q∈e.flight,q.lost=false∧e.now - q.sent≤1000*pw2 e.outs∧q.sent≤p.sent)∨
  ((∃ p∈e.flight,p.lost=false∧e.now - p.sent>1000*pw2 e.outs)∧(e.outs<5→over2 e={e with outs:=e.outs+1,flight:=allLost e.flight})):=by
 have hw:=(waitR_eq ho h).1
 unfold over2
 rw [if_neg h5]
 unfold overdueR
 by_cases hu:∃p∈e.flight,p.lost=false
 ·obtain ⟨p,hp,hl⟩:=hu
  obtain ⟨e1,e2,q,hq,hql,e3⟩:=earl_some hp hl
  have hqs:=hs q hq hql
  have hwr:IntKind.i64.wrap (e.now - (earl e.flight).1)=e.now - (earl e.flight).1:=wi64 (by omega)
  rw [hwr,hw,e1]
  by_cases hc:e.now - (earl e.flight).1≤1000*pw2 e.outs
  ·left
   rw [if_pos (.inr hc)]
   exact ⟨rfl,fun p' hp' hl'=> .inr ⟨q,hq,hql,by omega,by have:=e2 p' hp' hl';omega⟩⟩
  ·right
   refine ⟨⟨q,hq,hql,by omega⟩,fun h4=> ?_⟩
   rw [if_neg (by rintro (g|g);cases g;exact hc g),if_neg (by omega)]
 ·left
  have hall:∀p∈e.flight,p.lost=true:=fun p hp=>by
   cases hl:p.lost with
   |true=>rfl
   |false=>exact absurd ⟨p,hp,hl⟩ hu
  rw [if_pos (.inl (earl_none hall))]
  exact ⟨rfl,fun p hp hl=>absurd ⟨p,hp,hl⟩ hu⟩
theorem due_sent (a:E) (o:List Sg):∀p∈(dueGo a o).1.flight,p.lost=false→p.sent=a.now∨∃q∈a.flight,q.lost=false∧q.sent=p.sent:=by
 have h:=dueGo_ind (P:=fun e _=>e.now=a.now∧∀p∈e.flight,p.lost=false→p.sent=a.now∨∃q∈a.flight,q.lost=false∧q.sent=p.sent)
  (fun e o i p ⟨hn,hP⟩ hp hl hf=>by
   refine ⟨hn,fun q hq hql=> ?_⟩
   have hfl:(againS e i p).flight=(e.flight.set i {p with lost:=false}).set i {p with lost:=false,sent:=e.now,times:=IntKind.i64.wrap (p.times+1)}:=rfl
   rw [hfl,List.set_set] at hq
   rcases List.mem_or_eq_of_mem_set hq with hq|rfl
   ·exact hP q hq hql
   ·exact .inl hn)
  (fun e o p ws ⟨hn,hP⟩ hw hm hf=>by
   refine ⟨hn,fun q hq hql=> ?_⟩
   have hfl:(freshS e p ws).flight=e.flight++[{p with number:=e.next,sent:=e.now,times:=IntKind.i64.wrap (p.times+1)}]:=by
    show (e.flight++[{p with number:=e.next}]).set e.flight.length {p with number:=e.next,sent:=e.now,times:=IntKind.i64.wrap (p.times+1)}=_
    rw [List.set_append_right _ _ (Nat.le_refl _),Nat.sub_self]
    rfl
   rw [hfl] at hq
   rcases List.mem_append.1 hq with hq|hq
   ·exact hP q hq hql
   ·rw [List.mem_singleton.1 hq];exact .inl hn) a o ⟨rfl,fun p hp hl=> .inr ⟨p,hp,hl,rfl⟩⟩
 exact h.2
theorem due_outs (a:E) (o:List Sg):(dueGo a o).1.outs=a.outs:=dueGo_ind (P:=fun e _=>e.outs=a.outs) (fun _ _ _ _ h _ _ _=>h) (fun _ _ _ _ h _ _ _=>h) a o rfl
theorem send1_due {b:E} (hr:b.replies=false):(send1 b).1.flight=(if b.state=5∨b.state=0 then b.flight else (dueGo b []).1.flight)∧(send1 b).1.outs=b.outs:=by
 unfold send1
 rw [if_neg (by rw [hr];simp)]
 unfold send2
 split
 ·exact ⟨rfl,rfl⟩
 ·unfold send3
  split
  ·exact ⟨rfl,due_outs b []⟩
  ·split
   ·exact ⟨rfl,due_outs b []⟩
   ·exact ⟨rfl,due_outs b []⟩
theorem send1_sent {b:E} (hr:b.replies=false):∀p∈(send1 b).1.flight,p.lost=false→p.sent=b.now∨∃q∈b.flight,q.lost=false∧q.sent=p.sent:=by
 rw [(send1_due hr).1]
 split
 ·exact fun p hp hl=> .inr ⟨p,hp,hl,rfl⟩
 ·exact due_sent b []
structure TI (e:E) (now:Int):Prop where
 outs:e.outs≤4
 le:Gt e.outs≤now
 sent:∀p∈e.flight,p.lost=false→Gt e.outs≤p.sent∧p.sent≤now
theorem TI.of {e e':E} {now:Int} (h:TI e now) (h1:e'.flight=e.flight) (h2:e'.outs=e.outs):TI e' now:=⟨by rw [h2];exact h.outs,by rw [h2];exact h.le,by rw [h1,h2];exact h.sent⟩
theorem TI.later {e:E} {now t:Int} (h:TI e now) (ht:0≤t):TI e (now+t):=⟨h.outs,by have:=h.le;omega,fun p hp hl=>by have:=h.sent p hp hl;omega⟩
theorem TI.sub {e e':E} {now:Int} (h:TI e now) (hs:∀q'∈e'.flight,∃q∈e.flight,q'.sent=q.sent∧(q'.lost=false→q.lost=false)) (ho:e'.outs=e.outs∨e'.outs=0):TI e' now:=by
 have hg:Gt e'.outs≤Gt e.outs:=by
  rcases ho with g|g
  ·rw [g];exact Int.le_refl _
  ·rw [g];exact Gt_mono (Nat.zero_le _)
 refine ⟨by have:=h.outs;omega,by have:=h.le;omega,fun p hp hl=> ?_⟩
 obtain ⟨q,hq,h1,h2⟩:=hs p hp
 have:=h.sent q hq (h2 hl)
 omega
theorem TI.send {e:E} {now:Int} (h:TI e now) (ho:e.out=1000) (h5:e.state≠5) (hrp:e.replies=false) (hn:now≤31000):(over2 {e with now:=now}).state≠5∧TI (send1 (over2 {e with now:=now})).1 now:=by
 have h0:=h.outs
 have hle:=h.le
 have hg0:=Gt_pos e.outs
 have key:(over2 {e with now:=now}).state≠5∧TI (over2 {e with now:=now}) now∧(over2 {e with now:=now}).replies=false∧(over2 {e with now:=now}).now=now:=by
  rcases over_cases (e:={e with now:=now}) ho (by show e.outs≤5;omega) h5 (by show 0≤now∧now≤_;omega) (fun p hp hl=>by have:=h.sent p hp hl;show 0≤p.sent∧p.sent≤now;omega) with ⟨g,_⟩|⟨⟨p,hp,hl,g1⟩,g2⟩
  ·rw [g];exact ⟨h5,h.of rfl rfl,hrp,rfl⟩
  ·have hps:=h.sent p hp hl
   have g1:now - p.sent>1000*pw2 e.outs:=g1
   have hgs:=Gt_succ e.outs
   have hlt:e.outs+1≤4:=by
    by_cases c:e.outs+1≤4
    ·exact c
    ·exfalso
     have h2:=Gt_mono (show 5≤e.outs+1 by omega)
     have h3:Gt 5=31000:=by decide
     omega
   have g2:=g2 (by show e.outs<5;omega)
   rw [g2]
   refine ⟨h5,⟨hlt,by show Gt (e.outs+1)≤now;omega,fun q hq hql=> ?_⟩,hrp,rfl⟩
   have hq:q∈allLost e.flight:=hq
   obtain ⟨x,_,rfl⟩:=List.mem_map.1 hq
   cases hql
 obtain ⟨k1,k2,k3,k4⟩:=key
 refine ⟨k1,?_⟩
 have hso:=(send1_due k3).2
 refine ⟨by rw [hso];exact k2.outs,by rw [hso];exact k2.le,fun p hp hl=> ?_⟩
 rw [hso]
 rcases send1_sent k3 p hp hl with g|⟨q,hq,hql,g⟩
 ·rw [g,k4]
  have:=k2.le
  omega
 ·have:=k2.sent q hq hql
  omega
end Go.Proofs.Ytdgmcckfdgnicaa
