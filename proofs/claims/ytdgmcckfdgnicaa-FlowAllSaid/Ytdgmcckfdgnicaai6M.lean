/-
  A part of the proof of a statement of this seat.
-/
import Derived.Test.Ytdgmcckfdgnicaai4M
set_option linter.unusedVariables false
set_option linter.unusedSimpArgs false
set_option maxRecDepth 20000
namespace Go.Proofs.Ytdgmcckfdgnicaa
open Go Go.Aw Go.Proofs
theorem arr_nil {s:PS} {W:Nat} (hw:s.way (1 - W)=[]) (n most:Int):arriveR s W n most=rd0 s W most:=by
 have h1:arrN n (s.way (1 - W))=0:=by unfold arrN;rw [hw];show (min n (0:Int)).toNat=0;omega
 have h2:arrN 0 (s.way (1 - W))=0:=arrN_zero
 have h3:arrT s W n=arrT s W 0:=by unfold arrT;rw [h1,h2]
 unfold rd0 arriveR
 rw [h3,h1,h2]
theorem arr_ind {P:PS→Prop} {W:Nat} (hW:W<2) (most:Int) (hat:∀s,P s→(s.e W).now≤s.now∧s.now≤1000000000) (ht:∀s p l,P s→s.way (1 - W)=p::l→P (tk1 s W)) {Q:PS→Prop} (hr:∀s,P s→Q (rd0 s W most)):∀(m:Nat) (s:PS),(s.way (1 - W)).length=m→P s→∀n:Int,0≤n→Q (arriveR s W n most)
 |0,s,hm,h,n,hn=>by rw [arr_nil (List.eq_nil_of_length_eq_zero hm)];exact hr s h
 | m+1,s,hm,h,n,hn=>by
  cases hw:s.way (1 - W) with
  |nil=>rw [hw] at hm;cases hm
  | cons p l=>
   by_cases h0:n=0
   ·subst h0;exact hr s h
   ·have h1:=arr_step hW hw (hat s h) (n - 1) most (by omega)
    rw [show n - 1+1=n by omega] at h1
    rw [h1]
    refine arr_ind hW most hat ht hr m (tk1 s W) ?_ (ht s p l h hw) (n - 1) (by omega)
    rw [tk1_eq hW hw (hat s h)]
    show (upd s.way (1 - W) l (1 - W)).length=m
    rw [upd_self]
    rw [hw] at hm
    simpa using hm
def totT (L:Nat→List Msg) (s:PS):Nat:=(L 0).length+(s.e 0).waiting.length+((L 1).length+(s.e 1).waiting.length)
structure FA (s:PS) (f:Nat→Int) (conn room limit:Int) (L:Nat→List Msg) (k:Nat→Nat) (c:Nat):Prop where
 a:AInv s f conn room limit L c k
 x:XInv s f L k
 ti:∀W,W<2→TI (s.e W) s.now
 body:∀W,W<2→20≤(s.e W).body
 tot:20*totT L s≤(s.wrote 0).length+(s.wrote 1).length+20*c
 pos:s.pos≤290*c
theorem FA.few {s:PS} {f:Nat→Int} {conn room limit:Int} {L:Nat→List Msg} {k:Nat→Nat} {c:Nat} (h:FA s f conn room limit L k c) {W:Nat} (hW:W<2):(s.way W).length≤290*c∧20*((L W).length+(s.e W).waiting.length)≤3300+20*c:=by
 have h1:=h.a.base.ways W hW
 have h2:=h.pos
 rw [h.a.num] at h1
 have h3:=h.tot
 have h4:=h.a.base.wr
 unfold totT at h3
 refine ⟨by simp at h1;omega,?_⟩
 rcases (by omega:W=0∨W=1) with rfl|rfl<;> omega
theorem FA.nowOk {s:PS} {f:Nat→Int} {conn room limit:Int} {L:Nat→List Msg} {k:Nat→Nat} {c:Nat} (h:FA s f conn room limit L k c) (ht:s.now≤1000000000) {W:Nat} (hW:W<2):(s.e W).now≤s.now∧s.now≤1000000000:=⟨(h.a.base.fix W hW).now.2,ht⟩
theorem FA.tk {s:PS} {f:Nat→Int} {conn room limit:Int} {L:Nat→List Msg} {k:Nat→Nat} {c:Nat} (h:FA s f conn room limit L k c) (hc:1≤c∧c≤1000) (ht:s.now≤1000000000) {W:Nat} (hW:W<2) {p:Sg} {l:List Sg} (hw:s.way (1 - W)=p::l):
  ∃k',FA (tk1 s W) f conn room limit L k' c:=by
 have hV:1 - W<2:=by omega
 have hWV:W≠1 - W:=by omega
 have hwl:=(h.few hV).1
 obtain ⟨k',hA,hX,_,⟨z,hz,hzc⟩,_,_,_⟩:=XInv.tk h.a h.x (by omega) ht hW (by omega) hw
 have heq:=tk1_eq hW hw (h.nowOk ht hW)
 have heV:∀V,V≠W→(tk1 s W).e V=s.e V:=fun V hV=>by rw [heq];exact upd_ne hV
 obtain ⟨c1,c2,c3,c4,c5,c6,c7,c8,c9,c10,c11,c12,c13,c14,c15⟩:=closeT_same z
 obtain ⟨n1,n2,n3,n4,n5,n6,n7,n8,n9,n10⟩:=hz.keep
 have hbz:(closeT z).body=z.body:=by unfold closeT;split<;> rfl
 refine ⟨_,hA,hX,fun V hV2=> ?_,fun V hV2=> ?_,?_,by rw [heq];exact h.pos⟩
 ·have hnow:(tk1 s W).now=s.now:=by rw [heq]
  rw [hnow]
  by_cases hVW:V=W
  ·subst hVW
   rw [hzc]
   exact (h.ti V hV2).sub (e':=closeT z) (by rw [c1];exact hz.s.sents) (by rw [c14];exact hz.s.outs.1)
  ·rw [heV V hVW];exact h.ti V hV2
 ·by_cases hVW:V=W
  ·subst hVW;rw [hzc,hbz,n9];exact h.body V hV2
  ·rw [heV V hVW];exact h.body V hV2
 ·have hwt:∀V,V<2→((tk1 s W).e V).waiting=(s.e V).waiting:=fun V hV2=>by
   by_cases hVW:V=W
   ·subst hVW;rw [hzc,c12,n1]
   ·rw [heV V hVW]
  have:=h.tot
  unfold totT at this ⊢
  rw [hwt 0 (by omega),hwt 1 (by omega)]
  have hwr:(tk1 s W).wrote=s.wrote:=by rw [heq]
  rw [hwr]
  exact this
theorem FA.rd {s:PS} {f:Nat→Int} {conn room limit:Int} {L:Nat→List Msg} {k:Nat→Nat} {c:Nat} (h:FA s f conn room limit L k c) (hc:1≤c∧c≤1000) (ht:s.now≤1000000000) {W:Nat} (hW:W<2) (most:Int):FA (rd0 s W most) f conn room limit L k c:=by
 have hV:1 - W<2:=by omega
 have hwl:=(h.few hV).1
 have hat:=h.nowOk ht hW
 have heq:=rd0_eq (s:=s) (W:=W) most hat
 have heV:∀V,V≠W→(rd0 s W most).e V=s.e V:=fun V hV=>by rw [heq];exact upd_ne hV
 have heW:(rd0 s W most).e W=readS most {s.e W with now:=s.now}:=by rw [heq];exact upd_self
 refine ⟨h.a.rd (by omega) ht hW (by omega) most,h.x.rd hW most hat,fun V hV2=> ?_,fun V hV2=> ?_,?_,by rw [heq];exact h.pos⟩
 ·have hnow:(rd0 s W most).now=s.now:=by rw [heq]
  rw [hnow]
  by_cases hVW:V=W
  ·subst hVW;rw [heW];exact (h.ti V hV2).of rfl rfl
  ·rw [heV V hVW];exact h.ti V hV2
 ·by_cases hVW:V=W
  ·subst hVW;rw [heW];exact h.body V hV2
  ·rw [heV V hVW];exact h.body V hV2
 ·have hwt:∀V,V<2→((rd0 s W most).e V).waiting=(s.e V).waiting:=fun V hV2=>by
   by_cases hVW:V=W
   ·subst hVW;rw [heW];rfl
   ·rw [heV V hVW]
  have:=h.tot
  unfold totT at this ⊢
  rw [hwt 0 (by omega),hwt 1 (by omega)]
  have hwr:(rd0 s W most).wrote=s.wrote:=by rw [heq]
  rw [hwr]
  exact this
theorem FA.arr {s:PS} {f:Nat→Int} {conn room limit:Int} {L:Nat→List Msg} {k:Nat→Nat} {c:Nat} (h:FA s f conn room limit L k c) (hc:1≤c∧c≤1000) (ht:s.now≤1000000000) {W:Nat} (hW:W<2) (n most:Int) (hn:0≤n):∃k',FA (arriveR s W n most) f conn room limit L k' c:=by
 refine arr_ind (P:=fun s'=>s'.now=s.now∧∃k',FA s' f conn room limit L k' c) (Q:=fun s'=>∃k',FA s' f conn room limit L k' c) hW most (fun s' ⟨g1,k',g⟩=>g.nowOk (by rw [g1];exact ht) hW) (fun s' p l ⟨g1,k',g⟩ hw=> ?_) (fun s' ⟨g1,k',g⟩=>⟨k',g.rd hc (by rw [g1];exact ht) hW most⟩) _ s rfl ⟨rfl,k,h⟩ n hn
 refine ⟨?_,g.tk hc (by rw [g1];exact ht) hW hw⟩
 rw [tk1_eq hW hw (g.nowOk (by rw [g1];exact ht) hW)]
 exact g1
theorem FA.arrOk {s:PS} {f:Nat→Int} {conn room limit:Int} {L:Nat→List Msg} {k:Nat→Nat} {c:Nat} (h:FA s f conn room limit L k c) (hc:1≤c∧c≤1000) (ht:s.now≤1000000000) {W:Nat} (hW:W<2) (n most:Int) (hn:0≤n):ArrOk s W n 20000 (40*c)∧soundR (arriveR s W n most) W=true:=by
 have hV:1 - W<2:=by omega
 have hwl:=(h.few hV).1
 obtain ⟨a,b,_⟩:=h.a.base.arriveG (by rw [h.a.num];exact h.a.par) (by omega) ht hW n most hn (by omega)
 exact ⟨a,b⟩
theorem FA.later {s:PS} {f:Nat→Int} {conn room limit:Int} {L:Nat→List Msg} {k:Nat→Nat} {c:Nat} (h:FA s f conn room limit L k c) (t:Int) (ht:0≤t):FA {s with now:=s.now+t} f conn room limit L k c:=
 ⟨h.a.later t ht,h.x.later t,fun W hW=>(h.ti W hW).later ht,h.body,h.tot,h.pos⟩
theorem FA.send {s:PS} {f:Nat→Int} {conn room limit:Int} {L:Nat→List Msg} {k:Nat→Nat} {c:Nat} (h:FA s f conn room limit L k c) (hc:1≤c∧c≤122) (ht:s.now≤31000) {W:Nat} (hW:W<2):
  SendOk s W limit∧(sendS s W).now=s.now∧(sendS s W).e=upd s.e W (send1 (over2 {s.e W with now:=s.now})).1∧(sendS s W).way=upd s.way W (s.way W++(send1 (over2 {s.e W with now:=s.now})).2)∧
  ∃L' acc,FA (sendS s W) f conn room limit (upd L W L') k (c+1)∧SendA (s.e W) (f W) (L W) (s.wrote W) acc (room+(s.read (1 - W)).length) s.now (send1 (over2 {s.e W with now:=s.now})).1 (send1 (over2 {s.e W with now:=s.now})).2 L'∧((s.e W).state≠0→Blk (send1 (over2 {s.e W with now:=s.now})).1):=by
 have hs5:=h.a.st5 W hW
 obtain ⟨ht1,ht2⟩:=(h.ti W hW).send (h.x.out W hW) hs5.1 hs5.2.1 ht
 have hfew:=(h.few hW).2
 have hF:=h.a.base.fix W hW
 have hB:=h.a.base.both W hW
 have hpar:=h.a.par
 have hr:=hpar.room
 have hlen0:=h.a.base.len hW
 have hsp:=sent_P (a:=s.e W) (f:=f W) (now:=s.now) (L:=L W) (w:=s.wrote W) (hpar.f W hW) (by omega) (by rw [hF.conn];exact hpar.conn) (by rw [hF.room];omega) hB.rcv.base h.a.base.now hB.snd (h.a.base.lostW W hW)
 obtain ⟨b1,b2,b3,b4,b5,b6,L',acc,b7,b8,b9⟩:=h.a.send (by omega) (by omega) hW ht1
 have hws:=WayP.all W (sendR (s.e W) s.now).2.2 {s with e:=upd s.e W (sendR (s.e W) s.now).2.1}
 have hR:sendR (s.e W) s.now=(0,send1 (over2 {s.e W with now:=s.now})):=by unfold sendR;rw [if_pos (h.a.base.at_ (by omega) hW)]
 have hpos:(sendS s W).pos=s.pos+(send1 (over2 {s.e W with now:=s.now})).2.length:=by
  have:=hws.pos
  rw [hR] at this
  unfold sendS
  rw [hR]
  exact this
 have hX:=XInv.send h.a h.x hW b5 b6 b8 hsp.low
 have hl:(send1 (over2 {s.e W with now:=s.now})).2.length≤(s.e W).flight.length+(s.e W).waiting.length+2:=hsp.len
 have hl3:=hlen0.2.2
 have hl4:(send1 (over2 {s.e W with now:=s.now})).2.length≤290:=by omega
 obtain ⟨bw,bfl,bn,bc,bg,bst,bou,hbe,hbs⟩:=b8.of_
 refine ⟨b1,b2,b5,b6,L',acc,⟨b7,hX,fun V hV2=> ?_,fun V hV2=> ?_,?_,?_⟩,b8,b9⟩
 ·rw [b2,b5]
  by_cases hVW:V=W
  ·subst hVW;rw [upd_self];exact ht2
  ·rw [upd_ne hVW];exact h.ti V hV2
 ·rw [b5]
  by_cases hVW:V=W
  ·subst hVW;rw [upd_self,hbe];exact h.body V hV2
  ·rw [upd_ne hVW];exact h.body V hV2
 ·have h1:=h.tot
  have h2:=congrArg List.length b8.tot
  rw [List.length_append,List.length_append,List.length_map,List.length_map] at h2
  unfold totT at h1 ⊢
  rw [b4,b5]
  rcases (by omega:W=0∨W=1) with rfl|rfl
  ·rw [upd_self,upd_self,upd_ne (by omega),upd_ne (by omega)];omega
  ·rw [upd_self,upd_self,upd_ne (by omega),upd_ne (by omega)];omega
 ·rw [hpos]
  have:=h.pos
  omega
theorem chunks_len {n:Nat} (hn:20≤n):∀(f:Nat) (t:List UInt8),t.length≤f→20*(chunks n f t).length≤t.length+20
 |0,t,h=>by simp [chunks]
 | f +1,t,h=>by
  unfold chunks
  split
  ·simp
  ·rename_i h1
   have h2:=List.length_pos_iff.2 h1
   have ih:=chunks_len hn f (t.drop n) (by rw [List.length_drop];omega)
   rw [List.length_drop] at ih
   rw [List.length_cons]
   by_cases hle:t.length≤n
   ·have h3:chunks n f (t.drop n)=[]:=by
     have:t.drop n=[]:=List.drop_eq_nil_of_le hle
     rw [this]
     cases f<;> simp [chunks]
    rw [h3]
    simp
   ·omega
theorem FA.write {s:PS} {f:Nat→Int} {conn room limit:Int} {L:Nat→List Msg} {k:Nat→Nat} {c:Nat} (h:FA s f conn room limit L k c) (hT:s.now≤1000000000) {W:Nat} (hW:W<2) (t:List UInt8) (ht:t.length≤300) (hw:(s.wrote 0).length+(s.wrote 1).length≤3000):FA (writeS s W t) f conn room limit L k (c+1):=by
 have hb:=h.body W hW
 have hs:(writeR (s.e W) s.now t).2.flight=(s.e W).flight∧(writeR (s.e W) s.now t).2.outs=(s.e W).outs∧(writeR (s.e W) s.now t).2.body=(s.e W).body∧
   20*(writeR (s.e W) s.now t).2.waiting.length+(s.wrote W).length≤20*(s.e W).waiting.length+20+(if (writeR (s.e W) s.now t).1=0 then s.wrote W++t else s.wrote W).length:=by
  unfold writeR
  split
  ·split
   ·split
    ·exact ⟨rfl,rfl,rfl,by simp⟩
    ·refine ⟨rfl,rfl,rfl,?_⟩
     have:=chunks_len (n:=(s.e W).body.toNat) (by omega) t.length t (Nat.le_refl _)
     dsimp only
     rw [if_pos rfl,List.length_append]
     show 20*((s.e W).waiting++(chunks (s.e W).body.toNat t.length t).map (newP 2)).length+_≤_
     rw [List.length_append,List.length_map]
     omega
   ·exact ⟨rfl,rfl,rfl,by simp⟩
  ·rename_i g
   refine ⟨rfl,rfl,rfl,?_⟩
   dsimp only
   omega
 obtain ⟨a1,a2,a3,a4⟩:=hs
 have he:(writeS s W t).e=upd s.e W (writeR (s.e W) s.now t).2:=rfl
 refine ⟨h.a.write hT hW t ht hw,h.x.write hW t,fun V hV2=> ?_,fun V hV2=> ?_,?_,by show s.pos≤_;have:=h.pos;omega⟩
 ·show TI ((writeS s W t).e V) s.now
  rw [he]
  by_cases hVW:V=W
  ·subst hVW;rw [upd_self];exact (h.ti V hV2).of a1 a2
  ·rw [upd_ne hVW];exact h.ti V hV2
 ·rw [he]
  by_cases hVW:V=W
  ·subst hVW;rw [upd_self,a3];exact h.body V hV2
  ·rw [upd_ne hVW];exact h.body V hV2
 ·have h1:=h.tot
  have hwW:(writeS s W t).wrote W=if (writeR (s.e W) s.now t).1=0 then s.wrote W++t else s.wrote W:=by
   show (if (writeR (s.e W) s.now t).1=0 then upd s.wrote W (s.wrote W++t) else s.wrote) W=_
   split
   ·exact upd_self
   ·rfl
  have hwV:∀V,V≠W→(writeS s W t).wrote V=s.wrote V:=fun V hV=>by
   show (if (writeR (s.e W) s.now t).1=0 then upd s.wrote W (s.wrote W++t) else s.wrote) V=_
   split
   ·exact upd_ne hV
   ·rfl
  rw [← hwW] at a4
  unfold totT at h1 ⊢
  rw [he]
  rcases (by omega:W=0∨W=1) with rfl|rfl
  ·rw [upd_self,upd_ne (by omega),hwV 1 (by omega)];omega
  ·rw [upd_self,upd_ne (by omega),hwV 0 (by omega)];omega
theorem FA.nop {s:PS} {f:Nat→Int} {conn room limit:Int} {L:Nat→List Msg} {k:Nat→Nat} {c:Nat} (h:FA s f conn room limit L k c):FA s f conn room limit L k (c+1):=
 ⟨⟨h.a.base.nop,h.a.par,h.a.num,h.a.dir,h.a.st5,h.a.begun⟩,h.x,h.ti,h.body,by have:=h.tot;omega,by have:=h.pos;omega⟩
theorem FA.do_ {s:PS} {f:Nat→Int} {conn room limit:Int} {L:Nat→List Msg} {k:Nat→Nat} {c:Nat} (h:FA s f conn room limit L k c) (hc:1≤c∧c≤120) (x:Ac) (hk:x.kind≠6) (hx:x.text.length≤300∧0≤x.later∧x.later<100) (ht:s.now≤99*c) (hcl:∀W,W<2→(s.e W).closing=false):
  DoOk s x limit∧(doR s x).now=s.now+x.later∧ (∃ L' k',FA (doR s x) f conn room limit L' k' (c+1))∧∀W,W<2→((doR s x).e W).closing=false:=by
 have hw2:=(whoR_ok x).1
 have hn:=nR_ok x
 have hL:FA (doNow s x) f conn room limit L k c:=h.later x.later hx.2.1
 have hT2:(doNow s x).now≤31000:=by show s.now+x.later≤_;omega
 obtain ⟨b1,b2,b5,b6,L',acc,b7,b8,_⟩:=hL.send ⟨hc.1,by omega⟩ hT2 hw2
 obtain ⟨a1,a2⟩:=hL.arrOk ⟨hc.1,by omega⟩ (by omega) hw2 (nR x) (nR x*10) (by omega)
 obtain ⟨k',a3⟩:=hL.arr ⟨hc.1,by omega⟩ (by omega) hw2 (nR x) (nR x*10) (by omega)
 have hcl0:∀W,W<2→((doNow s x).e W).closing=false:=hcl
 refine ⟨⟨fun hw=>(hL.a.base.write (by omega) hw2 x.text hx.1 (by show (s.wrote 0).length+(s.wrote 1).length≤3000;omega)).1,b1,⟨_,_,a1⟩,a2⟩,?_⟩
 unfold doR
 split
 ·split
  ·exact ⟨rfl,⟨L,k,hL.nop⟩,hcl0⟩
  ·refine ⟨rfl,⟨L,k,hL.write (by omega) hw2 x.text hx.1 (by show (s.wrote 0).length+(s.wrote 1).length≤3000;omega)⟩,fun W hW=> ?_⟩
   show ((writeS (doNow s x) (whoR x) x.text).e W).closing=false
   have he:(writeS (doNow s x) (whoR x) x.text).e=upd (doNow s x).e (whoR x) (writeR ((doNow s x).e (whoR x)) (doNow s x).now x.text).2:=rfl
   rw [he]
   by_cases hVW:W=whoR x
   ·subst hVW
    rw [upd_self]
    have:=hcl0 _ hw2
    unfold writeR
    split
    ·split
     ·split
      ·exact this
      ·exact this
     ·exact this
    ·exact this
   ·rw [upd_ne hVW];exact hcl0 W hW
 ·split
  ·refine ⟨b2,⟨_,_,b7⟩,fun W hW=> ?_⟩
   rw [b5]
   by_cases hVW:W=whoR x
   ·subst hVW
    obtain ⟨bw,bfl,bn,bc,bg,bst,bou,hbe,hbs⟩:=b8.of_
    rw [upd_self,hbe];exact hcl0 _ hw2
   ·rw [upd_ne hVW];exact hcl0 W hW
  ·skip
   ·refine ⟨rfl,⟨L,k',a3.nop⟩,fun W hW=> ?_⟩
    refine arr_ind (P:=fun s'=>s'.now=(doNow s x).now∧ (∃ k',FA s' f conn room limit L k' c)∧∀W,W<2→(s'.e W).closing=false) (Q:=fun s'=>∀W,W<2→(s'.e W).closing=false) hw2 (nR x*10) (fun s' ⟨g1,⟨k',g⟩,_⟩=>g.nowOk (by omega) hw2) (fun s' p l ⟨g1,⟨k1,g⟩,g2⟩ hw=> ?_) (fun s' ⟨g1,⟨k',g⟩,g2⟩ V hV=> ?_) _ (doNow s x) rfl ⟨rfl,⟨k,hL⟩,hcl0⟩ (nR x) (by omega) W hW
    ·have heq:=tk1_eq hw2 hw (g.nowOk (by omega) hw2)
     obtain ⟨_,_,_,_,⟨z,hz,hzc⟩,_⟩:=XInv.tk g.a g.x (by omega) (by omega) hw2 (by have:=(g.few (W:=1 - whoR x) (by omega)).1;omega) hw
     refine ⟨by rw [heq];exact g1,g.tk ⟨hc.1,by omega⟩ (by omega) hw2 hw,fun V hV=> ?_⟩
     by_cases hVW:V=whoR x
     ·subst hVW
      have hcz:(closeT z).closing=z.closing:=by unfold closeT;split<;> rfl
      rw [hzc,hcz,hz.keep.2.2.1]
      exact g2 _ hV
     ·rw [heq]
      show (upd s'.e (whoR x) _ V:E).closing=false
      rw [upd_ne hVW];exact g2 V hV
    ·rw [rd0_eq _ (g.nowOk (by omega) hw2)]
     show (upd s'.e (whoR x) _ V:E).closing=false
     by_cases hVW:V=whoR x
     ·subst hVW;rw [upd_self];exact g2 _ hV
     ·rw [upd_ne hVW];exact g2 V hV
end Go.Proofs.Ytdgmcckfdgnicaa

set_option linter.unusedVariables false
set_option linter.unusedSimpArgs false
set_option maxRecDepth 20000
namespace Go.Proofs.Ytdgmcckfdgnicaa
open Go Go.Aw Go.Proofs
theorem closeT_keep (z:E):(closeT z).closing=z.closing∧(closeT z).opener=z.opener∧(closeT z).limit=z.limit:=by
 unfold closeT
 split<;> exact ⟨rfl,rfl,rfl⟩
theorem FA.arrX {s:PS} {f:Nat→Int} {conn room limit:Int} {L:Nat→List Msg} {k:Nat→Nat} {c:Nat} (h:FA s f conn room limit L k c) (hc:1≤c∧c≤1000) (ht:s.now≤1000000000) {W:Nat} (hW:W<2) (n most:Int) (hn:0≤n):
  ∃k',FA (arriveR s W n most) f conn room limit L k' c∧ (∀ V,V≠W→(arriveR s W n most).e V=s.e V)∧((s.e W).state=2→((arriveR s W n most).e W).state=2)∧((arriveR s W n most).e W).closing=(s.e W).closing∧ (∀ V,V≠1 - W→(arriveR s W n most).way V=s.way V):=by
 have key:=arr_ind (P:=fun s'=>s'.now=s.now∧ (∃ k',FA s' f conn room limit L k' c)∧((s.e W).state=2→(s'.e W).state=2)∧(s'.e W).closing=(s.e W).closing) (Q:=fun s'=> (∃ k',FA s' f conn room limit L k' c)∧((s.e W).state=2→(s'.e W).state=2)∧(s'.e W).closing=(s.e W).closing) hW most
  (fun s' ⟨g1,⟨k',g⟩,_⟩=>g.nowOk (by rw [g1];exact ht) hW)
  (fun s' p l ⟨g1,⟨k',g⟩,g2,g3⟩ hw=>by
   have ht':s'.now≤1000000000:=by rw [g1];exact ht
   have heq:=tk1_eq hW hw (g.nowOk ht' hW)
   obtain ⟨_,_,_,_,⟨z,hz,hzc⟩,_⟩:=XInv.tk g.a g.x (by omega) ht' hW (by have:=(g.few (W:=1 - W) (by omega)).1;omega) hw
   refine ⟨by rw [heq];exact g1,g.tk hc ht' hW hw,fun g4=> ?_,?_⟩
   ·have g5:=g2 g4
    rw [hzc]
    have hzs:z.state=2:=by
     rcases hz.state with q|⟨q,_⟩|⟨q,_⟩
     ·have q:z.state=(s'.e W).state:=q
      omega
     ·have q:(s'.e W).state=0:=q
      omega
     ·have q:(s'.e W).state=1:=q
      omega
    unfold closeT
    rw [if_neg (by rintro ⟨q,_⟩;omega)]
    exact hzs
   ·rw [hzc,(closeT_keep z).1,hz.keep.2.2.1];exact g3)
  (fun s' ⟨g1,⟨k',g⟩,g2,g3⟩=>by
   have ht':s'.now≤1000000000:=by rw [g1];exact ht
   refine ⟨⟨k',g.rd hc ht' hW most⟩,fun g4=> ?_,?_⟩
   ·rw [rd0_eq _ (g.nowOk ht' hW)]
    show (upd s'.e W _ W:E).state=2
    rw [upd_self];exact g2 g4
   ·rw [rd0_eq _ (g.nowOk ht' hW)]
    show (upd s'.e W _ W:E).closing=_
    rw [upd_self];exact g3) _ s rfl ⟨rfl,⟨k,h⟩,id,rfl⟩ n hn
 obtain ⟨⟨k',k1⟩,k2,k3⟩:=key
 exact ⟨k',k1,fun V hV=>upd_ne hV,k2,k3,fun V hV=>upd_ne hV⟩
theorem FA.low {s:PS} {f:Nat→Int} {conn room limit:Int} {L:Nat→List Msg} {k:Nat→Nat} {c:Nat} (h:FA s f conn room limit L k c) {W:Nat} (hW:W<2) (hcl:(s.e W).closing=false):(s.e W).state≠3∧(s.e W).state≠4:=by
 have hno:¬((s.e W).state=3∨(s.e W).state=4):=fun g=>by
  obtain ⟨i,m,h1,h2⟩:=h.x.x3 W hW g
  have:=((h.a.base.both W hW).snd.tok.last i m (prefix_get ⟨_,rfl⟩ h1) h2).2
  rw [hcl] at this;cases this
 omega
theorem FA.sendX {s:PS} {f:Nat→Int} {conn room limit:Int} {L:Nat→List Msg} {k:Nat→Nat} {c:Nat} (h:FA s f conn room limit L k c) (hc:1≤c∧c≤122) (ht:s.now≤31000) {W:Nat} (hW:W<2) (hcl:(s.e W).closing=false):
  SendOk s W limit∧(sendS s W).now=s.now∧ (∀ V,V≠W→(sendS s W).e V=s.e V)∧((sendS s W).e W).state=(s.e W).state∧((sendS s W).e W).closing=false∧ (∀ V,V≠W→(sendS s W).way V=s.way V)∧
  ∃L' o,FA (sendS s W) f conn room limit (upd L W L') k (c+1)∧(sendS s W).way W=s.way W++o∧((s.e W).answer=true→(s.e W).state≠0→o≠[])∧((L W).length<L'.length→o≠[])∧((s.e W).state≠0→Blk ((sendS s W).e W)):=by
 obtain ⟨b1,b2,b5,b6,L',acc,b7,b8,b9⟩:=h.send hc ht hW
 have heW:(sendS s W).e W=(send1 (over2 {s.e W with now:=s.now})).1:=by rw [b5,upd_self]
 obtain ⟨bw,bfl,bn,bc,bg,bst,bou,hbe,hbs⟩:=b8.of_
 have hcl2:((sendS s W).e W).closing=false:=by rw [heW,hbe];exact hcl
 have hlow:=b7.low hW hcl2
 have hst:((sendS s W).e W).state=bst:=by rw [heW,hbe]
 refine ⟨b1,b2,fun V hV=>by rw [b5,upd_ne hV],by rw [hst];omega,hcl2,fun V hV=>by rw [b6,upd_ne hV],L',_,b7,by rw [b6,upd_self],b8.ansO,b8.outn,fun g=>by rw [heW];exact b9 g⟩
theorem FA.opens {s:PS} {f:Nat→Int} {conn room limit:Int} {L:Nat→List Msg} {k:Nat→Nat} {c:Nat} (h:FA s f conn room limit L k c) (hc:1≤c∧c≤121) (ht:s.now≤31000) (hcl:∀W,W<2→(s.e W).closing=false):
  ∃s1 s2 s3 s4,s1=sendS s 0∧s2=arriveR s1 1 1000 100000∧s3=sendS s2 1∧s4=arriveR s3 0 1000 100000∧SendOk s 0 limit∧ (∃ B K,ArrOk s1 1 1000 B K)∧soundR s2 1=true∧SendOk s2 1 limit∧ (∃ B K,ArrOk s3 0 1000 B K)∧soundR s4 0=true∧
  s4.now=s.now∧(s4.e 0).state=2∧(s4.e 1).state=2∧ (∀ W,W<2→(s4.e W).closing=false)∧∃L' k',FA s4 f conn room limit L' k' (c+2):=by
 obtain ⟨a1,a2,a3,a4,a5,a6,L1,o1,a7,a8,a9,a10,a11⟩:=h.sendX ⟨hc.1,by omega⟩ ht (W:=0) (by omega) (hcl 0 (by omega))
 have he1:(sendS s 0).e 1=s.e 1:=a3 1 (by omega)
 have hc1:((sendS s 0).e 1).closing=false:=by rw [he1];exact hcl 1 (by omega)
 have ht1:(sendS s 0).now≤1000000000:=by rw [a2];omega
 obtain ⟨b1,b2⟩:=a7.arrOk ⟨by omega,by omega⟩ ht1 (W:=1) (by omega) 1000 100000 (by omega)
 obtain ⟨k2,b3,b4,b5,b6,b7⟩:=a7.arrX ⟨by omega,by omega⟩ ht1 (W:=1) (by omega) 1000 100000 (by omega)
 have hopen1:((arriveR (sendS s 0) 1 1000 100000).e 1).state=2:=by
  by_cases h0:((sendS s 0).e 1).state=0
  ·-- an open packet is on the way
   have hway:(sendS s 0).way 0≠[]:=by
    rcases a7.x.x5b h0 with g|g
    ·exfalso
     have g:L1=[]:=by
      have:upd L 0 L1 0=L1:=upd_self
      rw [← this];exact g
     have hs1:((sendS s 0).e 0).state=1:=(a7.a.begun h0).1
     have hbl:=a11 (by rw [← a4,hs1];omega)
     have hne:=a7.a.base.ne
     rw [show upd L 0 L1 0=L1 from upd_self,g,List.nil_append] at hne
     have hfl:((sendS s 0).e 0).flight=[]:=by
      have:=(a7.a.base.len (W:=0) (by omega)).2.2
      rw [show upd L 0 L1 0=L1 from upd_self,g] at this
      exact List.eq_nil_of_length_eq_zero (by simpa using this)
     have hop:((sendS s 0).e 0).opener=true:=(a7.a.base.fix 0 (by omega)).opener
     have htok:=(a7.a.base.both 0 (by omega)).snd.tok
     rw [show upd L 0 L1 0=L1 from upd_self,g,List.nil_append] at htok
     generalize (sendS s 0).e 0=e at*
     rcases hbl with ⟨i,p,q1,_⟩|⟨_,q|⟨p,ws,q1,q2⟩⟩
     ·rw [hfl] at q1;simp at q1
     ·rw [q] at hne;exact hne rfl
     ·have hk:p.kind=1:=(htok.first 0 (msg p) (by rw [q1];rfl)).2 ⟨rfl,hop⟩
      have hm:mayR e p=true:=by unfold mayR;rw [if_pos hk,hs1];rfl
      have hf:fitsR e p=true:=by unfold fitsR;rw [flyN_zs,hfl];rfl
      rw [hm,hf] at q2;cases q2
    ·exact g
   obtain ⟨p,l,hw⟩:=List.exists_cons_of_ne_nil hway
   have hw':(sendS s 0).way (1 - 1)=p::l:=hw
   have hat:=a7.nowOk ht1 (W:=1) (by omega)
   have heq:=arr_step (W:=1) (by omega) hw' hat 999 100000 (by omega)
   have heq:arriveR (sendS s 0) 1 1000 100000=arriveR (tk1 (sendS s 0) 1) 1 999 100000:=heq
   obtain ⟨_,_,_,_,⟨z,hz,hzc⟩,_⟩:=XInv.tk a7.a a7.x (by omega) ht1 (W:=1) (by omega) (by have:=(a7.few (W:=0) (by omega)).1;show ((sendS s 0).way 0).length≤_;omega) hw'
   obtain ⟨k3,c1⟩:=a7.tk ⟨by omega,by omega⟩ ht1 (W:=1) (by omega) hw'
   have hk1:=(TkHyp.ofA a7.a (W:=1) (by omega) (p:=p) (by rw [hw'];exact List.mem_cons_self ..) (by
    have:=(a7.a.base.start (a7.a.begun h0).1).2.2.2.1 p (by rw [hw];exact List.mem_cons_self ..)
    have h2:=(a7.a.dir 1 (by omega)).chain
    obtain ⟨st0,hch,_⟩:=h2
    have hch:Chn _ _ st0 ((sendS s 0).way 0):=hch
    rw [hw] at hch
    obtain ⟨st1,_,q,_⟩:=hch
    exact q.k5)).b0 h0
   have hst2:((tk1 (sendS s 0) 1).e 1).state=2:=by
    rw [hzc]
    have:=(hz.opens0 h0 hk1.1).1
    unfold closeT
    rw [if_neg (by rintro ⟨q,_⟩;omega)]
    exact this
   obtain ⟨k4,c2,c3,c4,c5,c6⟩:=c1.arrX ⟨by omega,by omega⟩ (by rw [tk1_eq (W:=1) (by omega) hw' hat];exact ht1) (W:=1) (by omega) 999 100000 (by omega)
   rw [heq]
   exact c4 hst2
  ·refine b5 ?_
   have q1:=a7.low (W:=1) (by omega) hc1
   have q2:=a7.a.st5 1 (by omega)
   have q3:=a7.a.base.st0.2
   omega
 have hcl2:((arriveR (sendS s 0) 1 1000 100000).e 1).closing=false:=b6.trans hc1
 have he0:(arriveR (sendS s 0) 1 1000 100000).e 0=(sendS s 0).e 0:=b4 0 (by omega)
 generalize hs2:arriveR (sendS s 0) 1 1000 100000=s2 at*
 have hn2:s2.now=s.now:=by rw [← hs2,←a2];rfl
 obtain ⟨d1,d2,d3,d4,d5,d6,L3,o3,d7,d8,d9,d10,d11⟩:=b3.sendX ⟨by omega,by omega⟩ (by rw [hn2];exact ht) (W:=1) (by omega) hcl2
 have he3:(sendS s2 1).e 0=s2.e 0:=d3 0 (by omega)
 have ht3:(sendS s2 1).now≤1000000000:=by rw [d2,hn2];omega
 obtain ⟨f1,f2⟩:=d7.arrOk ⟨by omega,by omega⟩ ht3 (W:=0) (by omega) 1000 100000 (by omega)
 obtain ⟨k5,f3,f4,f5,f6,f7⟩:=d7.arrX ⟨by omega,by omega⟩ ht3 (W:=0) (by omega) 1000 100000 (by omega)
 have hc3:((sendS s2 1).e 0).closing=false:=by rw [he3,he0];exact a5
 have hopen0:((arriveR (sendS s2 1) 0 1000 100000).e 0).state=2:=by
  by_cases h1:((sendS s2 1).e 0).state=1
  ·have hway:(sendS s2 1).way 1≠[]:=by
    have h1':(s2.e 0).state=1:=by rw [← he3];exact h1
    rcases b3.x.lag 0 (by omega) with g|g|⟨q,hq,_⟩
    ·exfalso
     have hk:=b3.x.x5d h1' (by rw [hopen1];omega)
     rcases b3.x.x5a h1' with g2|⟨g2,fl,g3,g4⟩
     ·have:=(b3.a.dir 0 (by omega)).kk.inf.le
      rw [g2] at this
      simp at this
      omega
     ·have h5:=(b3.a.dir 0 (by omega)).fls.above (f 0) (by unfold nums;rw [g3,←g4];simp)
      have h6:=(b3.a.dir 0 (by omega)).kk.inf.le
      omega
    ·have:=d9 g (by rw [hopen1];omega)
     rw [d8]
     exact fun q=>this (List.append_eq_nil_iff.1 q).2
    ·rw [d8]
     intro q2
     rw [(List.append_eq_nil_iff.1 q2).1] at hq
     cases hq
   obtain ⟨p,l,hw⟩:=List.exists_cons_of_ne_nil hway
   have hw':(sendS s2 1).way (1 - 0)=p::l:=hw
   have hat:=d7.nowOk ht3 (W:=0) (by omega)
   have heq:arriveR (sendS s2 1) 0 1000 100000=arriveR (tk1 (sendS s2 1) 0) 0 999 100000:=arr_step (W:=0) (by omega) hw' hat 999 100000 (by omega)
   obtain ⟨_,_,_,_,⟨z,hz,hzc⟩,_,_,⟨st,hst,_⟩⟩:=XInv.tk d7.a d7.x (by omega) ht3 (W:=0) (by omega) (by have:=(d7.few (W:=1) (by omega)).1;show ((sendS s2 1).way 1).length≤_;omega) hw'
   obtain ⟨k3,c1⟩:=d7.tk ⟨by omega,by omega⟩ ht3 (W:=0) (by omega) hw'
   have hk3:p.kind=3:=by
    have hL1:=(d7.a.base.start h1).2.1
    have hok:=d7.a.base.way 1 (by omega) p (by rw [hw];exact List.mem_cons_self ..)
    have hpk:=hok.ok.1
    have hpk2:=hok.ok.2.1
    have:=hst.k5
    by_cases h124:p.kind=1∨p.kind=2∨p.kind=4
    ·obtain ⟨i,hi,_⟩:=hok.in_ h124
     rw [hL1] at hi
     simp at hi
    ·omega
   have hst2:((tk1 (sendS s2 1) 0).e 0).state=2:=by
    rw [hzc]
    have hz2:z.state=2:=by
     rcases d7.x.x5a h1 with g2|⟨g2,fl,g3,g4⟩
     ·exfalso
      have h5:=d7.x.x5d h1 (by rw [d4,hopen1];omega)
      have h6:=(d7.a.dir 0 (by omega)).kk.inf.le
      rw [g2] at h6
      simp at h6
      omega
     ·refine (hz.opens1 h1 hk3 fl g3 ?_).1
      rw [d7.x.x5c h1 p (by rw [hw];exact List.mem_cons_self ..),g4,Int.tmod_eq_emod_of_nonneg (h.a.par.f 0 (by omega)).1]
    unfold closeT
    rw [if_neg (by rintro ⟨q,_⟩;omega)]
    exact hz2
   obtain ⟨k4,c2,c3,c4,c5,c6⟩:=c1.arrX ⟨by omega,by omega⟩ (by rw [tk1_eq (W:=0) (by omega) hw' hat];exact ht3) (W:=0) (by omega) 999 100000 (by omega)
   rw [heq]
   exact c4 hst2
  ·refine f5 ?_
   have q1:=d7.low (W:=0) (by omega) hc3
   have q2:=d7.a.st5 0 (by omega)
   have q3:=d7.a.base.st0.1
   omega
 refine ⟨_,_,_,_,rfl,rfl,rfl,rfl,a1,⟨_,_,b1⟩,by rw [hs2];exact b2,by rw [hs2];exact d1,⟨_,_,by rw [hs2];exact f1⟩,by rw [hs2];exact f2,?_,by rw [hs2];exact hopen0,?_,fun W hW=> ?_,?_⟩
 ·rw [hs2]
  show (sendS s2 1).now=s.now
  rw [d2,hn2]
 ·rw [hs2,f4 1 (by omega),d4];exact hopen1
 ·rw [hs2]
  rcases (by omega:W=0∨W=1) with rfl|rfl
  ·rw [f6];exact hc3
  ·rw [f4 1 (by omega)];exact d5
 ·rw [hs2]
  exact ⟨_,_,f3⟩
end Go.Proofs.Ytdgmcckfdgnicaa
