/-
  A part of the proof of a statement of this seat.
-/
import Derived.Test.YtdgmcckfdgnicaaUz
import Derived.Test.Ytdgmcckfdgnicaag3
import Derived.Test.YtdgmcckfdgnicaaUIM
import Derived.Test.YtdgmcckfdgnicaaUkM
import Derived.Test.YtdgmcckfdgnicaaU5M
set_option linter.unusedVariables false
set_option linter.unusedSimpArgs false
set_option maxRecDepth 20000
namespace Go.Proofs.Ytdgmcckfdgnicaa
open Go Go.Aw Go.Proofs
def fsR (first other:Int):Nat→Int:=fun W=>if W=0 then first else other
theorem beg_Snd (op:Bool) (conn first room limit body:Int):Snd (begE op conn first room limit body) first [] []∨op=true:=by
 cases op with
 |true=>exact .inr rfl
 |false=>
  refine .inl ⟨?_,?_,(by intro p hp;cases hp),Nat.le_refl _,⟨by simp [begE,limE,newE],by simp [begE,limE,newE],by simp [begE,limE,newE]⟩,rfl,.inl (Nat.zero_le _)⟩
  ·show first=first+0;omega
  ·show first - 1≤first - 1∧first - 1<first;omega
theorem begin_P {conn first other room limit body:Int} {numbers:List Int} (hP:Par (fsR first other) conn room limit numbers) (hb:1≤body∧body≤1400):PInv (beginS conn first other room limit body numbers) (fsR first other) conn room limit (fun _=>[]) 0:=by
 have hr:=hP.room
 have h0:(beginS conn first other room limit body numbers).e 0={begE true conn first room limit body with now:=0,state:=1,waiting:=[newP 1 []]}:=rfl
 have h1:(beginS conn first other room limit body numbers).e 1=begE false conn other room limit body:=rfl
 have hR:∀(e:E) (f:Int),e.base=0→e.ready=[]→e.kept=[]→e.room=room→e.ended=false→(e.state=0∨e.state=1∨e.state=5)→Rcv e f [] []:=fun e f a b c d g k=>⟨by omega,by rw [b,c,d];show (0:Int)+0≤room;omega,.inl ⟨c,b,rfl,g,k⟩⟩
 refine ⟨fun W hW=> ?_,fun W hW p hp=>(by cases hp),fun W hW=> ?_,fun W hW=> ?_,fun _=> ?_,?_,?_,Int.le_refl _,Nat.zero_le _,Nat.le_refl _,fun W hW=>Nat.zero_le _,fun W hW=> ?_⟩
 ·rcases (by omega:W=0∨W=1) with rfl|rfl
  ·rw [h0]
   refine ⟨⟨?_,?_,(by intro p hp;cases hp),Nat.le_refl _,?_,rfl,.inl (Nat.zero_le _)⟩,hR _ _ rfl rfl rfl rfl rfl (.inr (.inl rfl))⟩
   ·show first=first+0;omega
   ·show first - 1≤first - 1∧first - 1<first;omega
   ·show TOk [((1:Int),[])] true false
    refine ⟨fun m hm=> ?_,fun i m hi=> ?_,fun i m hi hk=> ?_⟩
    ·rw [List.mem_singleton.1 hm]
     simp
    ·have hl:=(List.getElem?_eq_some_iff.1 hi).1
     have:i=0:=by simpa using hl
     subst this
     have:m=(1,[]):=by simpa using hi.symm
     rw [this];simp
    ·have hl:=(List.getElem?_eq_some_iff.1 hi).1
     have:i=0:=by simpa using hl
     subst this
     have:m=(1,[]):=by simpa using hi.symm
     rw [this] at hk
     simp at hk
  ·rw [h1]
   refine ⟨?_,hR _ _ rfl rfl rfl rfl rfl (.inl rfl)⟩
   rcases beg_Snd false conn other room limit body with h|h
   ·exact h
   ·cases h
 ·rcases (by omega:W=0∨W=1) with rfl|rfl
  ·rw [h0];exact ⟨rfl,rfl,rfl,rfl,hb,⟨Int.le_refl _,Int.le_refl _⟩,⟨Nat.zero_le _,fun _=>Nat.zero_le _⟩⟩
  ·rw [h1];exact ⟨rfl,rfl,rfl,rfl,hb,⟨Int.le_refl _,Int.le_refl _⟩,⟨Nat.zero_le _,fun _=>Nat.zero_le _⟩⟩
 ·rcases (by omega:W=0∨W=1) with rfl|rfl
  ·rw [h0];intro p hp;rw [List.mem_singleton.1 hp];rfl
  ·rw [h1];intro p hp;cases hp
 ·exact ⟨rfl,rfl,(by intro p hp;cases hp),(by intro p hp;cases hp),rfl,(by intro p hp;cases hp)⟩
 ·exact ⟨by show (1:Int)≠0;omega,by show (0:Int)≠1;omega⟩
 ·show [((1:Int),([]:List UInt8))]≠[]
  simp
 ·rcases (by omega:W=0∨W=1) with rfl|rfl<;> exact Nat.le_refl _
theorem PInv.small {s:PS} {f:Nat→Int} {conn room limit:Int} {L:Nat→List Msg} {c:Nat} (h:PInv s f conn room limit L c) (x:Ac) (hx:x.text.length≤300∧0≤x.later∧x.later≤100000) (hT:s.now≤900000000) (hn: -9223372036854775808≤x.n∧x.n≤9223372036854775807) (hw: -9223372036854775808≤x.who∧x.who≤9223372036854775807):SmallP s x:=by
 have h0:=h.len (W:=0) (by omega)
 have h1:=h.len (W:=1) (by omega)
 refine ⟨hx.1,hx.2,⟨h.now,hT⟩,by omega,by omega,hn,hw,fun W hW=> ?_⟩
 have h2:=h.len hW
 have hF:=h.fix W hW
 exact ⟨by omega,fun p hp=>by have:=((h.both W hW).snd.msgW hp).2.2;omega,hF.body.1,hF.body.2⟩
end Go.Proofs.Ytdgmcckfdgnicaa

set_option linter.unusedVariables false
set_option linter.unusedSimpArgs false
set_option maxRecDepth 20000
namespace Go.Proofs.Ytdgmcckfdgnicaa
open Go Go.Aw Go.Proofs
structure PSim (by_:Int) (d:Nat→Int) (s t:PS):Prop where
 e:∀W,W<2→ES (d W) by_ (s.e W) (t.e W)
 way:∀W,W<2→All2 (SgS by_) (s.way W) (t.way W)
 wrote:t.wrote=s.wrote
 read:t.read=s.read
 now:t.now=s.now
 numbers:t.numbers=s.numbers
 pos:t.pos=s.pos
structure ByP (by_:Int) (d:Nat→Int) (f:Nat→Int):Prop where
 ok:∀W,W<2→ByOk (d W) by_
 rng:∀W,W<2→0≤f W∧f W<65536∧0≤f W+d W∧f W+d W<65536
theorem sent_five {a:E} (h:a.state=0∨a.state=5) (now:Int):∀p∈(send1 (over2 {a with now:=now})).2,p.kind=5:=by
 have hP:=over2_P {a with now:=now}
 have hst:(over2 {a with now:=now}).state=0∨(over2 {a with now:=now}).state=5:=by
  rcases hP.cases_ with g|g
  ·rw [g.1];exact h
  ·exact .inr g.1
 generalize over2 {a with now:=now}=b at*
 have hb:b.state=5∨b.state=0:=hst.symm
 intro p hp
 unfold send1 at hp
 split at hp
 ·unfold send2 at hp
  rw [if_pos (show ({b with replies:=false}:E).state=5∨({b with replies:=false}:E).state=0 from hb)] at hp
  rw [List.mem_singleton.1 hp]
  rfl
 ·unfold send2 at hp
  rw [if_pos hb] at hp
  cases hp
theorem sendOne_sim {by_:Int} {d:Nat→Int} {s t:PS} (h:PSim by_ d s t) {W:Nat} {p q:Sg} (hp:SgS by_ p q):PSim by_ d (sendOne W s p) (sendOne W t q):=by
 unfold sendOne
 rw [h.numbers,h.pos]
 split
 ·exact ⟨h.e,h.way,h.wrote,h.read,h.now,rfl,rfl⟩
 ·refine ⟨h.e,fun V hV=> ?_,h.wrote,h.read,h.now,rfl,rfl⟩
  dsimp only
  by_cases hVW:V=W
  ·subst hVW
   rw [upd_self,upd_self]
   unfold wayR
   split
   ·exact .cons hp (h.way V hV)
   ·split
    ·exact (h.way V hV).append (.cons hp (.cons hp .nil))
    ·exact (h.way V hV).append (.cons hp .nil)
  ·rw [upd_ne hVW,upd_ne hVW];exact h.way V hV
theorem sendAll_sim {by_:Int} {d:Nat→Int} {W:Nat} {l m:List Sg} (hl:All2 (SgS by_) l m):∀{s t:PS},PSim by_ d s t→PSim by_ d (l.foldl (sendOne W) s) (m.foldl (sendOne W) t):=by
 induction hl with
 |nil=>exact fun h=>h
 |cons hp _ ih=>exact fun h=>ih (sendOne_sim h hp)
theorem PSim.putE {by_:Int} {d:Nat→Int} {s t:PS} (h:PSim by_ d s t) {W:Nat} {a b:E} (hab:W<2→ES (d W) by_ a b):PSim by_ d {s with e:=upd s.e W a} {t with e:=upd t.e W b}:=by
 refine ⟨fun V hV=> ?_,h.way,h.wrote,h.read,h.now,h.numbers,h.pos⟩
 dsimp only
 by_cases hVW:V=W
 ·subst hVW;rw [upd_self,upd_self];exact hab hV
 ·rw [upd_ne hVW,upd_ne hVW];exact h.e V hV
section
variable {by_:Int} {d:Nat→Int} {s t:PS} {f:Nat→Int} {conn room limit:Int} {L:Nat→List Msg} {c:Nat} (h:PSim by_ d s t) (hB:ByP by_ d f) (hI:PInv s f conn room limit L c) (hP:Par f conn room limit s.numbers) {W:Nat} (hW:W<2)
include h hB hI hP hW
theorem PSim.send:PSim by_ d (sendS s W) (sendS t W):=by
 have hb:=hI.both W hW
 have hF:=hI.fix W hW
 have hl:=hI.len hW
 have hr:=hB.rng W hW
 have hcn:=hP.conn
 have hrm:=hP.room
 have hn:=hI.now
 have hnx:=hb.snd.next
 obtain ⟨h1,h2,h3⟩:=(h.e W hW).send (hB.ok W hW) (by omega) (by omega) s.now
 unfold sendS
 rw [h.now]
 have h5:=h.putE (W:=W) fun _=>h2
 refine sendAll_sim (h3.mono fun p q hp _ hpq=> ?_) ⟨h5.e,h5.way,h5.wrote,h5.read,rfl,h5.numbers,h5.pos⟩
 refine hpq.mono fun hk=> ?_
 rcases (h.e W hW).base with ⟨g1,g2,g3⟩|g
 ·exfalso
  have hpm:p∈(send1 (over2 {s.e W with now:=s.now})).2:=by
   unfold sendR at hp
   split at hp
   ·exact hp
   ·cases hp
  rcases (by omega:((s.e W).state=0∨(s.e W).state=5)∨(s.e W).state=1) with g4|g4
  ·have:=sent_five g4 s.now p hpm;omega
  ·have hW0:W=0:=by
    rcases (by omega:W=0∨W=1) with rfl|rfl
    ·rfl
    ·exact absurd g4 hI.st0.2
   subst hW0
   obtain ⟨_,_,_,_,a5,a6⟩:=hI.start g4
   have hsp:=sent_P (a:=s.e 0) (f:=f 0) (now:=s.now) (L:=L 0) (w:=s.wrote 0) (by omega) (by omega) (by rw [hF.conn];exact hcn) (by rw [hF.room];omega) hb.rcv.base hn hb.snd (hI.lostW 0 hW)
   have:=(hsp.low g4 a5 a6).1 p hpm
   omega
 ·exact g
end
theorem Both.bes {e:E} {f d:Int} {L:List Msg} {w:List UInt8} {f':Int} {L':List Msg} {rd:List UInt8} (h:Both e f L w f' L' rd) (hf:0≤f∧0≤f+d):Bes d e:=by
 refine ⟨fun x hx=> ?_,h.rcv.base,fun x hx=> ?_,fun hs=> ?_⟩
 ·rcases h.rcv.got with ⟨g,_⟩|⟨k,hG,_⟩
  ·rw [g] at hx;cases hx
  ·obtain ⟨j,_,_,_,hj,_⟩:=hG.kept x hx
   rw [hj];omega
 ·obtain ⟨i,_,hi⟩:=h.snd.fl x hx
  rw [hi];omega
 ·rcases h.rcv.got with ⟨g,_⟩|⟨k,_,hG⟩
  ·exact g
  ·omega
theorem takes_ES {d by_:Int} (hd:ByOk d by_) {f f':Int} (hf:0≤f∧0≤f+d) {L L':List Msg} {w rd:List UInt8} (hO:Oth L') {l m:List Sg} (hl:All2 (SgS by_) l m):∀{a b:E},ES d by_ a b→Both a f L w f' L' rd→ (∀ p∈l,SgOk f' L' p)→(a.state=1→∀p∈l,p.kind=3→p.seq=f'%65536)→ES d by_ (l.foldl takeOne a) (m.foldl takeOne b):=by
 induction hl with
 |nil=>exact fun h _ _ _=>h
 | @cons p q l m hp _ ih=>
  intro a b h hB hok h3
  have hpo:=hok p (List.mem_cons_self ..)
  have hf1:=TakeF.take a p hB.rcv.base
  refine ih (h.take hd hp (hB.bes hf) hpo.ok) (hB.take hO hpo fun h=>h3 h p (List.mem_cons_self ..)) (fun x hx=>hok x (List.mem_cons_of_mem _ hx)) fun hs x hx=>h3 ?_ x (List.mem_cons_of_mem _ hx)
  by_cases g:a.state=1
  ·exact g
  ·exact absurd hs (hf1.one g)
theorem ES.read {d by_:Int} {s t:E} (h:ES d by_ s t) (most:Int):ES d by_ (readS most s) (readS most t)∧readOut most t=readOut most s:=by
 have hf:=h.form
 have hr:t.ready=s.ready:=by rw [hf]
 have hn:readN most t=readN most s:=by unfold readN;rw [hr]
 have h1:=h.put (fun x=>readS most x) (fun _=>rfl) (by
  have e:(readS most t).ready=(readS most s).ready:=by
   show t.ready.drop _=s.ready.drop _
   rw [hn,hr]
  refine ⟨?_,?_,?_,?_,?_,?_,e,?_,?_,?_,?_,?_,?_,?_⟩
  all_goals
   show _=_
   rw [hf]
   rfl) (.inl rfl)
 exact ⟨h1,by unfold readOut;rw [hr,hn]⟩
section
variable {by_:Int} {d:Nat→Int} {s t:PS} {f:Nat→Int} {conn room limit:Int} {L:Nat→List Msg} {c:Nat} (h:PSim by_ d s t) (hB:ByP by_ d f) (hI:PInv s f conn room limit L c) {W:Nat} (hW:W<2)
include h hB hI hW
theorem PSim.arrive (n most:Int):PSim by_ d (arriveR s W n most) (arriveR t W n most):=by
 have hV:1 - W<2:=by omega
 have hr:=hB.rng W hW
 have hway:=h.way (1 - W) hV
 have hn:arrN n (t.way (1 - W))=arrN n (s.way (1 - W)):=by unfold arrN;rw [hway.len]
 have hat:atR (t.e W) s.now=atR (s.e W) s.now:=by unfold atR;rw [show (t.e W).now=(s.e W).now from by rw [(h.e W hW).form]]
 have hT:ES (d W) by_ (arrT s W n) (arrT t W n):=by
  unfold arrT takeR
  rw [hn,h.now,hat]
  split
  ·have hE:=h.e W hW
   have hf:=hE.form
   have h0:ES (d W) by_ {s.e W with now:=s.now} {t.e W with now:=s.now}:=hE.put (fun x=>{x with now:=s.now}) (fun _=>rfl) (by rw [hf];exact ⟨rfl,rfl,rfl,rfl,rfl,rfl,rfl,rfl,rfl,rfl,rfl,rfl,rfl,rfl⟩) (.inl rfl)
   refine takes_ES (hB.ok W hW) (f:=f W) (f':=f (1 - W)) (L:=L W) (L':=L (1 - W)) (w:=s.wrote W) (rd:=s.read W) (by omega) (hI.oth hV) (hway.take _) h0 ((hI.both W hW).of rfl rfl rfl rfl rfl rfl rfl rfl rfl rfl rfl rfl (.inl rfl)) (fun p hp=>hI.way _ hV p (List.mem_of_mem_take hp)) fun hs p hp hk=> ?_
   have hs:(s.e W).state=1:=hs
   rcases (by omega:W=0∨W=1) with rfl|rfl
   ·exact (hI.start hs).2.2.1 p (List.mem_of_mem_take hp) hk
   ·exact absurd hs hI.st0.2
  ·exact h.e W hW
 obtain ⟨h1,h2⟩:=hT.read most
 unfold arriveR
 rw [h2,hn,h.read]
 refine ⟨fun V hV2=> ?_,fun V hV2=> ?_,h.wrote,rfl,h.now,h.numbers,h.pos⟩
 ·dsimp only
  by_cases hVW:V=W
  ·subst hVW;rw [upd_self,upd_self];exact h1
  ·rw [upd_ne hVW,upd_ne hVW];exact h.e V hV2
 ·dsimp only
  by_cases hVW:V=1 - W
  ·subst hVW;rw [upd_self,upd_self];exact hway.drop _
  ·rw [upd_ne hVW,upd_ne hVW];exact h.way V hV2
omit hB hI
theorem PSim.write (x:List UInt8):PSim by_ d (writeS s W x) (writeS t W x):=by
 have hE:=h.e W hW
 have hf:=hE.form
 have hat:atR (t.e W) s.now=atR (s.e W) s.now:=by unfold atR;rw [show (t.e W).now=(s.e W).now from by rw [hf]]
 have hq:queuedR (t.e W)=queuedR (s.e W):=by unfold queuedR;rw [show (t.e W).waiting=(s.e W).waiting from by rw [hf]]
 have hc:((t.e W).closing=false∧((t.e W).state=1∨(t.e W).state=2))↔((s.e W).closing=false∧((s.e W).state=1∨(s.e W).state=2)):=by rw [hf]
 have key:(writeR (t.e W) s.now x).1=(writeR (s.e W) s.now x).1∧ES (d W) by_ (writeR (s.e W) s.now x).2 (writeR (t.e W) s.now x).2:=by
  unfold writeR
  rw [hat,hq]
  by_cases c0:atR (s.e W) s.now=0
  ·rw [if_pos c0,if_pos c0]
   by_cases c1:(s.e W).closing=false∧((s.e W).state=1∨(s.e W).state=2)
   ·rw [if_pos c1,if_pos (hc.2 c1)]
    split
    ·exact ⟨rfl,hE⟩
    ·have hbd:(t.e W).body=(s.e W).body:=by rw [hf]
     rw [hbd]
     refine ⟨rfl,?_⟩
     have:=hE.put (fun y=>writeGo y s.now (chunks (s.e W).body.toNat x.length x)) (fun _=>rfl) (by rw [hf];exact ⟨rfl,rfl,rfl,rfl,rfl,rfl,rfl,rfl,rfl,rfl,rfl,rfl,rfl,rfl⟩) (.inl rfl)
     exact this
   ·rw [if_neg c1,if_neg (fun g=>c1 (hc.1 g))];exact ⟨rfl,hE⟩
  ·rw [if_neg c0,if_neg c0];exact ⟨rfl,hE⟩
 unfold writeS
 rw [h.now,key.1,h.wrote]
 have h2:=h.putE (W:=W) fun _=>key.2
 exact ⟨h2.e,h2.way,rfl,h2.read,rfl,h2.numbers,h2.pos⟩
theorem PSim.close:PSim by_ d (closeS s W) (closeS t W):=by
 have hE:=h.e W hW
 have hf:=hE.form
 have hat:atR (t.e W) s.now=atR (s.e W) s.now:=by unfold atR;rw [show (t.e W).now=(s.e W).now from by rw [hf]]
 have hc:((t.e W).closing=false∧((t.e W).state=1∨(t.e W).state=2))↔((s.e W).closing=false∧((s.e W).state=1∨(s.e W).state=2)):=by rw [hf]
 unfold closeS
 rw [h.now]
 have h2:=h.putE (W:=W) (a:=(closeR (s.e W) s.now).2) (b:=(closeR (t.e W) s.now).2) fun _=>by
  unfold closeR
  rw [hat]
  by_cases c0:atR (s.e W) s.now=0
  ·rw [if_pos c0,if_pos c0]
   by_cases c1:(s.e W).closing=false∧((s.e W).state=1∨(s.e W).state=2)
   ·rw [if_pos c1,if_pos (hc.2 c1)]
    have:=hE.put (fun y=>{y with now:=s.now,closing:=true,waiting:=y.waiting++[newP 4 []]}) (fun _=>rfl) (by rw [hf];exact ⟨rfl,rfl,rfl,rfl,rfl,rfl,rfl,rfl,rfl,rfl,rfl,rfl,rfl,rfl⟩) (.inl rfl)
    exact this
   ·rw [if_neg c1,if_neg (fun g=>c1 (hc.1 g))];exact hE
  ·rw [if_neg c0,if_neg c0];exact hE
 exact ⟨h2.e,h2.way,h2.wrote,h2.read,rfl,h2.numbers,h2.pos⟩
end
theorem PSim.do_ {by_:Int} {d:Nat→Int} {s t:PS} {f:Nat→Int} {conn room limit:Int} {L:Nat→List Msg} {c:Nat} (h:PSim by_ d s t) (hB:ByP by_ d f) (hI:PInv s f conn room limit L c) (hP:Par f conn room limit s.numbers) (x:Ac) (hx:0≤x.later):PSim by_ d (doR s x) (doR t x):=by
 have hw2:=(whoR_ok x).1
 have hL:PInv (doNow s x) f conn room limit L c:=hI.later x.later hx
 have hs:PSim by_ d (doNow s x) (doNow t x):=⟨h.e,h.way,h.wrote,h.read,by show t.now+x.later=s.now+x.later;rw [h.now],h.numbers,h.pos⟩
 unfold doR
 rw [h.wrote]
 split
 ·split
  ·exact hs
  ·exact hs.write hw2 x.text
 ·split
  ·exact hs.send hB hL hP hw2
  ·split
   ·exact hs.close hw2
   ·exact hs.arrive hB hL hw2 (nR x) (nR x*10)
theorem PSim.same {by_:Int} {d:Nat→Int} {s t:PS} (h:PSim by_ d s t) {W:Nat} (hW:W<2):
  (t.e W).state=(s.e W).state∧(t.e W).count=(s.e W).count∧(t.e W).again=(s.e W).again∧(t.e W).doubles=(s.e W).doubles∧underR (t.e W)=underR (s.e W)∧waitingR (t.e W)=waitingR (s.e W)∧(t.e W).ready=(s.e W).ready∧t.read W=s.read W∧(t.way W).length=(s.way W).length:=by
 have hE:=h.e W hW
 have hf:=hE.form
 have hfl:=hE.flight
 have hst:(t.e W).state=(s.e W).state:=by rw [hf]
 refine ⟨hst,by rw [hf],by rw [hf],by rw [hf],?_,?_,by rw [hf],by rw [h.read],(h.way W hW).len.symm⟩
 ·unfold underR
  rw [hst,hfl,flyN_zs,flyN_zs,flyB_zs,flyB_zs,zs_sh]
 ·unfold waitingR queuedR
  rw [hfl,show (t.e W).waiting=(s.e W).waiting from by rw [hf]]
  unfold lostL
  rw [List.map_map]
  rfl
theorem begin_sim (conn first other first2 other2 room limit body:Int) (numbers:List Int) (by_:Int):PSim by_ (fun W=>if W=0 then first2 - first else other2 - other) (beginS conn first other room limit body numbers) (beginS conn first2 other2 room limit body numbers):=by
 refine ⟨fun W hW=> ?_,fun W hW=> .nil,rfl,rfl,rfl,rfl,rfl⟩
 rcases (by omega:W=0∨W=1) with rfl|rfl
 ·refine ⟨?_,.inl ⟨rfl,rfl,.inr (.inl rfl)⟩,.nil⟩
  show ({begE true conn first2 room limit body with now:=0,state:=1,waiting:=[newP 1 []]}:E)={({begE true conn first room limit body with now:=0,state:=1,waiting:=[newP 1 []]}:E) with flight:=[],next:=first+(first2 - first),acked:=first - 1+(first2 - first),base:=0,kept:=[]}
  rw [show first+(first2 - first)=first2 by omega,show first - 1+(first2 - first)=first2 - 1 by omega]
  rfl
 ·refine ⟨?_,.inl ⟨rfl,rfl,.inl rfl⟩,.nil⟩
  show begE false conn other2 room limit body={begE false conn other room limit body with flight:=[],next:=other+(other2 - other),acked:=other - 1+(other2 - other),base:=0,kept:=[]}
  rw [show other+(other2 - other)=other2 by omega,show other - 1+(other2 - other)=other2 - 1 by omega]
  rfl
end Go.Proofs.Ytdgmcckfdgnicaa

set_option linter.unusedVariables false
set_option linter.unusedSimpArgs false
set_option maxRecDepth 20000
namespace Go.Proofs.Ytdgmcckfdgnicaa
open Go Go.Aw Go.Proofs
theorem takeOne_in {s:E} {p:Sg} (h:p.conn=s.conn) (h5:s.state≠5):takeOne s p=closeT (byKind {s with late:=p.time,some:=true,window:=if p.kind=5 then s.window else p.window} p):=by
 unfold takeOne
 rw [if_neg]
 rintro (g|g)
 ·exact g h
 ·exact h5 g
section
variable (conn first other:Int)
def rA0:E:=(openR (begE true conn first 5000 4200 100) 0).2
def rB0:E:=begE false conn other 5000 4200 100
def rA1:E:={rA0 conn first with waiting:=[],flight:=[⟨1,first,[],0,1,0,false,false⟩],next:=IntKind.i64.wrap (first+1),count:=1}
def rB1:E:={rB0 conn other with state:=2,base:=first%65536,answer:=true,late:=0,some:=true,window:=5000}
def sg1:Sg:=⟨1,conn,first%65536,0,5000,[],[],0,0⟩
theorem st1:sendR (rA0 conn first) 0=(0,rA1 conn first,[sg1 conn first]):=by kernel_rfl
theorem st2:takeR (rB0 conn other) 0 [sg1 conn first]=(0,rB1 conn first other):=by
 show (0,takeOne (rB0 conn other) (sg1 conn first))=_
 rw [takeOne_in rfl (by show (0:Int)≠5;decide)]
 kernel_rfl
end
end Go.Proofs.Ytdgmcckfdgnicaa

set_option linter.unusedVariables false
set_option linter.unusedSimpArgs false
set_option maxRecDepth 20000
namespace Go.Proofs.Ytdgmcckfdgnicaa
open Go Go.Aw Go.Proofs
section
variable (conn first other:Int)
end
end Go.Proofs.Ytdgmcckfdgnicaa

set_option linter.unusedVariables false
set_option linter.unusedSimpArgs false
set_option maxRecDepth 20000
namespace Go.Proofs.Ytdgmcckfdgnicaa
open Go Go.Aw Go.Proofs
section
variable (conn first other:Int)
end
end Go.Proofs.Ytdgmcckfdgnicaa

set_option linter.unusedVariables false
set_option linter.unusedSimpArgs false
set_option maxRecDepth 20000
set_option maxHeartbeats 8000000
namespace Go.Proofs.Ytdgmcckfdgnicaa
open Go Go.Aw Go.Proofs
end Go.Proofs.Ytdgmcckfdgnicaa
