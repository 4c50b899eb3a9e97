/-
 What stands of a pair of ends whatever happens to them (plain).
-/
import Derived.Test.YtdgmcckfdgnicaaUu
set_option linter.unusedVariables false
set_option linter.unusedSimpArgs false
set_option maxRecDepth 20000
namespace Go.Proofs.Ytdgmcckfdgnicaa
open Go Go.Aw Go.Proofs
theorem goneR_outs (e:E) (n:Int):(goneR e n).outs≤e.outs:=by
 unfold goneR
 split
 ·exact Nat.le_refl _
 ·split
  ·exact Nat.le_refl _
  ·exact Nat.zero_le _
theorem goneUp_outs (e:E):∀n,(goneUp e n).outs≤e.outs
 |0=>Nat.le_refl _
 |n+1=>by rw [goneUp_succ];exact Nat.le_trans (goneR_outs _ _) (goneUp_outs e n)
theorem goneMk_outs (b:Int):∀(l:List Int) (e:E),(goneMk e b l).outs≤e.outs
 |[],e=>Nat.le_refl _
 |x::l,e=>Nat.le_trans (goneMk_outs b l (goneR e (b+x))) (goneR_outs _ _)
theorem ackR_outs (e:E) (ack:Int) (marks:List UInt8):(ackR e ack marks).outs≤e.outs:=by
 unfold ackR
 split
 ·exact Nat.le_refl _
 ·exact Nat.le_trans (goneMk_outs _ _ _) (goneUp_outs e _)
structure TakeF (a b:E):Prop where
 of_:∃fl ac wd ou dn bs hd kp rd en an lt sm rp st db,b={a with flight:=fl,acked:=ac,window:=wd,outs:=ou,done:=dn,base:=bs,heard:=hd,kept:=kp,ready:=rd,ended:=en,answer:=an,late:=lt,some:=sm,replies:=rp,state:=st,doubles:=db}
 outs:b.outs≤a.outs
 five:a.state=5→b.state=5
 zero:a.state≠0→b.state≠0
 one:a.state≠1→b.state≠1
theorem TakeF.refl (a:E):TakeF a a:=⟨⟨_,_,_,_,_,_,_,_,_,_,_,_,_,_,_,_,rfl⟩,Nat.le_refl _,id,id,id⟩
theorem TakeF.trans {a b c:E} (h:TakeF a b) (k:TakeF b c):TakeF a c:=by
 refine ⟨?_,Nat.le_trans k.outs h.outs,fun g=>k.five (h.five g),fun g=>k.zero (h.zero g),fun g=>k.one (h.one g)⟩
 obtain ⟨_,_,_,_,_,_,_,_,_,_,_,_,_,_,_,_,rfl⟩:=h.of_
 obtain ⟨_,_,_,_,_,_,_,_,_,_,_,_,_,_,_,_,rfl⟩:=k.of_
 exact ⟨_,_,_,_,_,_,_,_,_,_,_,_,_,_,_,_,rfl⟩
theorem TakeF.ack (a:E) (ack:Int) (marks:List UInt8):TakeF a (ackR a ack marks):=by
 have ho:=ackR_outs a ack marks
 obtain ⟨fl,o,d,ac,he,_⟩:=ackR_ackS a ack marks
 rw [he] at ho ⊢
 exact ⟨⟨_,_,_,_,_,_,_,_,_,_,_,_,_,_,_,_,rfl⟩,ho,id,id,id⟩
theorem TakeF.keep (a:E) (p:Sg) (hb:0≤a.base∧a.base<65536):TakeF a (keepR a p):=by
 obtain ⟨_,_,_,_,_,_,he⟩:=keepR_form a p hb
 rw [he]
 exact ⟨⟨_,_,_,_,_,_,_,_,_,_,_,_,_,_,_,_,rfl⟩,Nat.le_refl _,id,id,id⟩
theorem TakeF.put {a b:E} (h1:∃fl ac wd ou dn bs hd kp rd en an lt sm rp st db,b={a with flight:=fl,acked:=ac,window:=wd,outs:=ou,done:=dn,base:=bs,heard:=hd,kept:=kp,ready:=rd,ended:=en,answer:=an,late:=lt,some:=sm,replies:=rp,state:=st,doubles:=db}) (h2:b.outs=a.outs) (h3:b.state=a.state):TakeF a b:=
 ⟨h1,by rw [h2];exact Nat.le_refl _,fun g=>h3.trans g,fun g=>by rw [h3];exact g,fun g=>by rw [h3];exact g⟩
theorem TakeF.putS {a b:E} (h1:∃fl ac wd ou dn bs hd kp rd en an lt sm rp st db,b={a with flight:=fl,acked:=ac,window:=wd,outs:=ou,done:=dn,base:=bs,heard:=hd,kept:=kp,ready:=rd,ended:=en,answer:=an,late:=lt,some:=sm,replies:=rp,state:=st,doubles:=db}) (h2:b.outs=a.outs) (h3:a.state≠5∨b.state=5) (h4:b.state≠0∧b.state≠1):TakeF a b:=
 ⟨h1,by rw [h2];exact Nat.le_refl _,fun g=>by rcases h3 with h|h;exact absurd g h;exact h,fun _=>h4.1,fun _=>h4.2⟩
theorem TakeF.carry (a:E) (p:Sg) (hb:0≤a.base∧a.base<65536):TakeF a (carryR a p):=by
 unfold carryR
 split
 ·exact .put ⟨_,_,_,_,_,_,_,_,_,_,_,_,_,_,_,_,rfl⟩ rfl rfl
 ·split
  ·have h1:TakeF a {a with heard:=true}:= .put ⟨_,_,_,_,_,_,_,_,_,_,_,_,_,_,_,_,rfl⟩ rfl rfl
   exact (h1.trans (.ack _ _ _)).trans (.keep _ _ (by rw [(ackR_state _ _ _).2];exact hb))
  ·exact .refl a
theorem TakeF.kind_ (a:E) (p:Sg) (hb:0≤a.base∧a.base<65536) (h5:a.state≠5):TakeF a (byKind a p):=by
 unfold byKind
 split
 ·unfold openT
  split
  ·exact .refl a
  ·split
   ·exact .putS ⟨_,_,_,_,_,_,_,_,_,_,_,_,_,_,_,_,rfl⟩ rfl (.inl h5) (by show (2:Int)≠0∧(2:Int)≠1;omega)
   ·exact .put ⟨_,_,_,_,_,_,_,_,_,_,_,_,_,_,_,_,rfl⟩ rfl rfl
 ·split
  ·exact .carry a p hb
  ·split
   ·unfold aloneR
    split
    ·exact .put ⟨_,_,_,_,_,_,_,_,_,_,_,_,_,_,_,_,rfl⟩ rfl rfl
    ·split
     ·unfold alone1
      split
      ·unfold aloneUp
       split
       ·have h1:TakeF a {a with state:=2,base:=(p.seq - 1)%65536}:= .putS ⟨_,_,_,_,_,_,_,_,_,_,_,_,_,_,_,_,rfl⟩ rfl (.inl h5) (by show (2:Int)≠0∧(2:Int)≠1;omega)
        exact (h1.trans (.ack _ _ _)).trans (.put ⟨_,_,_,_,_,_,_,_,_,_,_,_,_,_,_,_,rfl⟩ rfl rfl)
       ·exact .refl a
      ·exact .refl a
     ·split
      ·have h1:TakeF a {a with heard:=true}:= .put ⟨_,_,_,_,_,_,_,_,_,_,_,_,_,_,_,_,rfl⟩ rfl rfl
       exact h1.trans (.ack _ _ _)
      ·exact .refl a
   ·split
    ·exact .carry a p hb
    ·unfold dropT
     split
     ·exact .putS ⟨_,_,_,_,_,_,_,_,_,_,_,_,_,_,_,_,rfl⟩ rfl (.inl h5) (by show (5:Int)≠0∧(5:Int)≠1;omega)
     ·exact .refl a
theorem TakeF.close (a:E):TakeF a (closeT a):=by
 unfold closeT
 split
 ·rename_i h6
  exact .putS ⟨_,_,_,_,_,_,_,_,_,_,_,_,_,_,_,_,rfl⟩ rfl (.inl (by omega)) (by show (4:Int)≠0∧(4:Int)≠1;omega)
 ·exact .refl _
theorem TakeF.take (a:E) (p:Sg) (hb:0≤a.base∧a.base<65536):TakeF a (takeOne a p):=by
 unfold takeOne
 split
 ·exact .refl a
 ·rename_i hc
  have h1:TakeF a {a with late:=p.time,some:=true,window:=if p.kind=5 then a.window else p.window}:= .put ⟨_,_,_,_,_,_,_,_,_,_,_,_,_,_,_,_,rfl⟩ rfl rfl
  have h2:=h1.trans (.kind_ {a with late:=p.time,some:=true,window:=if p.kind=5 then a.window else p.window} p hb fun g=>hc (.inr g))
  exact h2.trans (.close _)
theorem take_one (a:E) (p:Sg) (ho:a.opener=true) (h1:a.state=1):(takeOne a p).state=1→(takeOne a p).flight=a.flight∧(takeOne a p).answer=a.answer:=by
 unfold takeOne
 split
 ·exact fun _=>⟨rfl,rfl⟩
 ·have hct:∀e:E,e.state≠3→closeT e=e:=fun e he=>by unfold closeT;rw [if_neg (fun g=>he g.1)]
  generalize hb:({a with late:=p.time,some:=true,window:=if p.kind=5 then a.window else p.window}:E)=b
  have hb1:b.state=1∧b.opener=true∧b.flight=a.flight∧b.answer=a.answer:=by rw [← hb];exact ⟨h1,ho,rfl,rfl⟩
  unfold byKind
  split
  ·unfold openT
   rw [if_pos (.inl hb1.2.1),hct _ (by omega)]
   exact fun _=>hb1.2.2
  ·split
   ·unfold carryR
    rw [if_neg (by omega),if_neg (by omega),hct _ (by omega)]
    exact fun _=>hb1.2.2
   ·split
    ·unfold aloneR
     rw [if_neg (by omega),if_pos hb1.1]
     unfold alone1
     split
     ·unfold aloneUp
      split
      ·intro h2
       exfalso
       have h3:(ansS (ackR {b with state:=2,base:=(p.seq - 1)%65536} p.ack p.marks)).state=2:=(ackR_state _ _ _).1
       rw [hct _ (by omega)] at h2
       omega
      ·rw [hct _ (by omega)];exact fun _=>hb1.2.2
     ·rw [hct _ (by omega)];exact fun _=>hb1.2.2
    ·split
     ·unfold carryR
      rw [if_neg (by omega),if_neg (by omega),hct _ (by omega)]
      exact fun _=>hb1.2.2
     ·unfold dropT
      rw [if_pos (by omega)]
      intro h2
      exfalso
      rw [hct _ (by show (5:Int)≠3;omega)] at h2
      have h2:(5:Int)=1:=h2
      omega
theorem take_quiet (a:E) (p:Sg) (hk:p.kind=1∨p.kind=5):(takeOne a p).heard=a.heard:=by
 unfold takeOne
 split
 ·rfl
 ·have hct:∀e:E,(closeT e).heard=e.heard:=fun e=>by unfold closeT;split<;> rfl
  rw [hct]
  generalize hb:({a with late:=p.time,some:=true,window:=if p.kind=5 then a.window else p.window}:E)=b
  have hb1:b.heard=a.heard:=by rw [← hb]
  unfold byKind
  rcases hk with hk|hk
  ·rw [if_pos hk]
   unfold openT
   split
   ·exact hb1
   ·split<;> exact hb1
  ·rw [if_neg (by omega),if_neg (by omega),if_neg (by omega),if_neg (by omega)]
   unfold dropT
   split<;> exact hb1
end Go.Proofs.Ytdgmcckfdgnicaa
