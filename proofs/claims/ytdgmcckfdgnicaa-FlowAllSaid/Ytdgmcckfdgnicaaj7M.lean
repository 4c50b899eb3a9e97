/-
  A part of the proof of a statement of this seat.
-/
import Derived.Test.Ytdgmcckfdgnicaaj5M
import Derived.Test.YtdgmcckfdgnicaaUzM
import Derived.Test.YtdgmcckfdgnicaaUkM
import Derived.Test.YtdgmcckfdgnicaaAwC
set_option linter.unusedVariables false
set_option linter.unusedSimpArgs false
set_option maxRecDepth 20000
namespace Go.Proofs.Ytdgmcckfdgnicaa
open Go Go.Aw Go.Proofs
theorem FA.begin_ {conn first other room limit body:Int} (hP:Par (fsR first other) conn room limit []) (hb:20≤body∧body≤1400):FA (beginS conn first other room limit body []) (fsR first other) conn room limit (fun _=>[]) (fun _=>0) 1:=by
 have hr:=hP.room
 have h0:(beginS conn first other room limit body []).e 0={begE true conn first room limit body with now:=0,state:=1,waiting:=[newP 1 []]}:=rfl
 have h1:(beginS conn first other room limit body []).e 1=begE false conn other room limit body:=rfl
 have hB:=(begin_P (numbers:=[]) hP (by omega:1≤body∧body≤1400)).nop
 have hK:∀(e:E) (f:Int),e.ready=[]→e.kept=[]→e.ended=false→(e.state=0∨e.state=1)→KOk e f [] [] 0:=fun e f a b g d=>⟨by rw [b];exact List.nodup_nil,.inl ⟨rfl,b,a,rfl,g,d⟩⟩
 have hD:∀(e r:E) (f:Int),KOk r f [] [] 0→e.flight=[]→e.done=false→e.window=1400→¬e.state=4→e.ended=false→Dir conn room e r f [] [] 0 []:=fun e r f hk a b g d i=>by
  refine ⟨hk,⟨⟨0,fun _=>false⟩,⟨Nat.le_refl _,fun i g=>by cases g⟩,fun i hi=>(by cases hi),by rw [g];show (1400:Int)+0≤room+0;omega,fun i g=>(by cases g)⟩,⟨?_,?_⟩,⟨fun i m hm=>(by cases hm),fun q=>(by rw [b] at q;cases q),fun i m hm=>(by cases hm),?_,fun q=>absurd q d⟩,.inl ?_⟩
  ·unfold Srt nums;rw [a];exact List.Pairwise.nil
  ·unfold nums;rw [a];intro x hx;cases hx
  ·rintro ⟨_,_,q⟩;rw [b] at q;cases q
  ·show (0:Int)≤room+0;omega
 refine ⟨⟨hB,hP,rfl,fun W hW=> ?_,fun W hW=> ?_,fun _=>⟨rfl,rfl⟩⟩,⟨fun W hW=> ?_,fun W hW=> ?_,fun g=>absurd rfl g,fun W hW g=> ?_,.inr (.inl rfl),fun _=> .inl rfl,fun _=> .inl rfl,fun _ q hq=>(by cases hq),fun _ g=>absurd rfl g,fun W hW m h1=>(by omega),fun W hW g=> ?_,fun W hW=> ?_⟩,fun W hW=> ?_,fun W hW=> ?_,?_,Nat.zero_le _⟩
 ·rcases (by omega:W=0∨W=1) with rfl|rfl
  ·exact hD _ _ _ (hK _ _ rfl rfl rfl (.inl rfl)) rfl rfl rfl (by rw [h0];show ¬(1:Int)=4;omega) rfl
  ·exact hD _ _ _ (hK _ _ rfl rfl rfl (.inr rfl)) rfl rfl rfl (by rw [h1];show ¬(0:Int)=4;omega) rfl
 ·rcases (by omega:W=0∨W=1) with rfl|rfl
  ·rw [h0];refine ⟨?_,rfl,?_,?_⟩
   ·show (1:Int)≠5;omega
   ·show (0:Int)≤1;omega
   ·show (1:Int)≤5;omega
  ·rw [h1];refine ⟨?_,rfl,?_,?_⟩
   ·show (0:Int)≠5;omega
   ·show (0:Int)≤0;omega
   ·show (0:Int)≤5;omega
 ·rcases (by omega:W=0∨W=1) with rfl|rfl
  ·rw [h0];show first - 1≤first+0 - 1;omega
  ·rw [h1];show other - 1≤other+0 - 1;omega
 ·left
  rcases (by omega:W=0∨W=1) with rfl|rfl
  ·rw [h0];show first - 1=first+0 - 1;omega
  ·rw [h1];show other - 1=other+0 - 1;omega
 ·exfalso
  rcases (by omega:W=0∨W=1) with rfl|rfl
  ·rw [h0] at g
   have g:(1:Int)=3∨(1:Int)=4:=g
   omega
  ·rw [h1] at g
   have g:(0:Int)=3∨(0:Int)=4:=g
   omega
 ·rcases (by omega:W=0∨W=1) with rfl|rfl
  ·rw [h0] at g;cases g
  ·rw [h1] at g;cases g
 ·rcases (by omega:W=0∨W=1) with rfl|rfl<;> rfl
 ·have hG:Gt 0=0:=by decide
  rcases (by omega:W=0∨W=1) with rfl|rfl
  ·exact ⟨Nat.zero_le _,by show Gt 0≤0;omega,fun p hp=>(by cases hp)⟩
  ·exact ⟨Nat.zero_le _,by show Gt 0≤0;omega,fun p hp=>(by cases hp)⟩
 ·rcases (by omega:W=0∨W=1) with rfl|rfl
  ·exact hb.1
  ·exact hb.1
 ·show 20*(0+1+(0+0))≤0+0+20*1
  omega
section
variable {s:PS} {f:Nat→Int} {conn room limit:Int} {L:Nat→List Msg} {k:Nat→Nat} {c:Nat}
theorem FA.readyNil (h:FA s f conn room limit L k c) (hc:1≤c∧c≤1000) (ht:s.now≤1000000000) {W:Nat} (hW:W<2) (n:Int) (hn:0≤n):((arriveR s W n 100000).e W).ready=[]:=by
 obtain ⟨k',g⟩:=h.arr hc ht hW n 0 hn
 have h1:=(g.a.base.both W hW).rcv.room
 rw [(g.a.base.fix W hW).room] at h1
 have h2:=h.a.par.room
 have e0:(arriveR s W n 0).e W=arrT s W n:=by
  show upd s.e W (readS 0 (arrT s W n)) W=_
  rw [upd_self];exact (readS_zero _).1
 rw [e0] at h1
 have e1:(arriveR s W n 100000).e W=readS 100000 (arrT s W n):=by
  show upd s.e W (readS 100000 (arrT s W n)) W=_
  rw [upd_self]
 rw [e1]
 show (arrT s W n).ready.drop (readN 100000 (arrT s W n))=[]
 refine List.drop_eq_nil_of_le ?_
 unfold readN
 omega
theorem FA.sendReady (h:FA s f conn room limit L k c) (hc:1≤c∧c≤122) (ht:s.now≤31000) {W:Nat} (hW:W<2) (V:Nat):((sendS s W).e V).ready=(s.e V).ready:=by
 obtain ⟨_,_,g,_,L',acc,_,sA,_⟩:=h.send hc ht hW
 obtain ⟨w,fl,n,cc,gg,st,ou,hbe,_⟩:=sA.of_
 rw [g]
 by_cases hV:V=W
 ·subst hV;rw [upd_self,hbe]
 ·rw [upd_ne hV]
theorem FA.openReady (h:FA s f conn room limit L k c) (hc:1≤c∧c≤121) (ht:s.now≤31000):∀W,W<2→((arriveR (sendS (arriveR (sendS s 0) 1 1000 100000) 1) 0 1000 100000).e W).ready=[]:=by
 obtain ⟨_,n1,_,_,L1,_,F1,_⟩:=h.send (by omega) ht (W:=0) (by omega)
 obtain ⟨k2,F2⟩:=F1.arr (by omega) (by rw [n1];omega) (W:=1) (by omega) 1000 100000 (by omega)
 have n2:(arriveR (sendS s 0) 1 1000 100000).now=s.now:=n1
 have r2:=F1.readyNil (by omega) (by rw [n1];omega) (W:=1) (by omega) 1000 (by omega)
 obtain ⟨_,n3,_,_,L3,_,F3,_⟩:=F2.send (by omega) (by rw [n2];exact ht) (W:=1) (by omega)
 have r3:=F2.sendReady (by omega) (by rw [n2];exact ht) (W:=1) (by omega) 1
 rw [r2] at r3
 have r4:=F3.readyNil (by omega) (by rw [n3,n2];omega) (W:=0) (by omega) 1000 (by omega)
 intro W hW
 rcases (by omega:W=0∨W=1) with rfl|rfl
 ·exact r4
 ·have:(arriveR (sendS (arriveR (sendS s 0) 1 1000 100000) 1) 0 1000 100000).e 1=(sendS (arriveR (sendS s 0) 1 1000 100000) 1).e 1:=rfl
  rw [this];exact r3
theorem closeR_open {e:E} {now:Int} (hat:atR e now=0) (hcl:e.closing=false) (hs:e.state=2):closeR e now=(0,{e with now:=now,closing:=true,waiting:=e.waiting++[newP 4 []]}):=by
 unfold closeR
 rw [if_pos hat,if_pos ⟨hcl,.inr hs⟩]
theorem FA.closed (h:FA s f conn room limit L k c) (hc:1≤c∧c≤123) (ht:s.now≤31000) (hcl:∀W,W<2→(s.e W).closing=false) (hs:∀W,W<2→(s.e W).state=2) (hr:∀W,W<2→(s.e W).ready=[]):
  (closeR (s.e 0) s.now).1=0∧(closeR ((closeS s 0).e 1) (closeS s 0).now).1=0∧(closeS s 0).now=s.now∧(closeS (closeS s 0) 1).now=s.now∧(closeS (closeS s 0) 1).way=s.way∧(closeS (closeS s 0) 1).numbers=[]∧PA (closeS (closeS s 0) 1) f conn room limit L (c+1+1) k:=by
 have h1:(1:Nat)<2:=by omega
 have h0:(0:Nat)<2:=by omega
 have c0:=closeR_open (h.a.base.at_ (by omega) h0) (hcl 0 h0) (hs 0 h0)
 have c1:=closeR_open (h.a.base.at_ (by omega) h1) (hcl 1 h1) (hs 1 h1)
 have e1:(closeS s 0).e 1=s.e 1:=rfl
 have e0:(closeS (closeS s 0) 1).e 0={s.e 0 with now:=s.now,closing:=true,waiting:=(s.e 0).waiting++[newP 4 []]}:=by
  have g1:(closeS (closeS s 0) 1).e 0=(closeS s 0).e 0:=rfl
  have g2:(closeS s 0).e 0=(closeR (s.e 0) s.now).2:=rfl
  rw [g1,g2,c0]
 have e2:(closeS (closeS s 0) 1).e 1={s.e 1 with now:=s.now,closing:=true,waiting:=(s.e 1).waiting++[newP 4 []]}:=by
  have g1:(closeS (closeS s 0) 1).e 1=(closeR ((closeS s 0).e 1) s.now).2:=rfl
  rw [g1,e1,c1]
 have ee:∀W,W<2→(closeS (closeS s 0) 1).e W={s.e W with now:=s.now,closing:=true,waiting:=(s.e W).waiting++[newP 4 []]}:=fun W hW=>by
  rcases (by omega:W=0∨W=1) with rfl|rfl
  ·exact e0
  ·exact e2
 have hA:=(h.a.close (by omega) h0).close (by show s.now≤_;omega) h1
 have hX:=(h.x.close h0).close (s:=closeS s 0) h1
 refine ⟨by rw [c0],by rw [e1];show (closeR (s.e 1) s.now).1=0;rw [c1],rfl,rfl,rfl,h.a.num,⟨hA,hX,fun W hW=> ?_,fun W hW=>by rw [ee W hW],?_,fun W hW=>by rw [ee W hW];exact hr W hW,fun W hW p hp hl=> ?_⟩,fun W hW=> ?_⟩
 ·have:=hs W hW
  unfold Opn
  rw [ee W hW]
  exact .inl this
 ·have:=h.tot
  have hw:=h.a.base.wr
  unfold totT at this ⊢
  rw [e0,e2]
  simp only [List.length_append,List.length_cons,List.length_nil]
  omega
 ·rw [ee W hW] at hp
  have:=(h.ti W hW).sent p hp hl
  have:=Gt_pos (s.e W).outs
  show 0≤p.sent∧p.sent≤s.now
  omega
 ·rw [ee W hW]
  exact (h.ti W hW).of rfl rfl
def sh (P:Nat) (s:PS):PS:={s with pos:=s.pos+P}
theorem sendOne_sh {P:Nat} {W:Nat} {a:PS} {p:Sg} (hn:a.numbers=[]):sendOne W (sh P a) p=sh P (sendOne W a p)∧(sendOne W a p).numbers=[]:=by
 have h1:∀n,fateR a.numbers n=1:=fun n=>by rw [hn];rfl
 unfold sendOne sh
 dsimp only
 rw [h1,h1,if_neg (by omega),if_neg (by omega)]
 refine ⟨?_,hn⟩
 simp only [PS.mk.injEq,true_and]
 omega
theorem sendAll_sh {P W:Nat}:∀(l:List Sg) {a:PS},a.numbers=[]→l.foldl (sendOne W) (sh P a)=sh P (l.foldl (sendOne W) a)∧(l.foldl (sendOne W) a).numbers=[]
 |[],a,h=>⟨rfl,h⟩
 |p::l,a,h=>by
  have h1:=sendOne_sh (P:=P) (W:=W) (p:=p) h
  rw [List.foldl_cons,List.foldl_cons,h1.1]
  exact sendAll_sh l h1.2
theorem sendS_sh {P W:Nat} {s:PS} (hn:s.numbers=[]):sendS (sh P s) W=sh P (sendS s W)∧(sendS s W).numbers=[]:=
 sendAll_sh (sendR (s.e W) s.now).2.2 (a:={s with e:=upd s.e W (sendR (s.e W) s.now).2.1}) hn
theorem SendOk.sh {P W:Nat} {s:PS} (h:SendOk (sh P s) W limit):SendOk s W limit:=
 ⟨h.due,h.made,h.outs,h.few,h.err,h.ok,h.due2,h.under,h.out,by have:=h.pos;unfold Ytdgmcckfdgnicaa.sh at this;dsimp only at this;omega,h.numbers,h.way⟩
theorem ArrOk.sh {P W:Nat} {s:PS} {n:Int} {B K:Nat} (h:ArrOk (sh P s) W n B K):ArrOk s W n B K:=
 ⟨h.take,h.ok,h.at_,h.B,h.K,h.read,h.ready⟩
theorem roundS_sh {P:Nat} {s:PS} (hn:s.numbers=[]):roundS (sh P s)=sh P (roundS s)∧(roundS s).numbers=[]:=by
 have h1:=sendS_sh (P:=P) (W:=0) (s:=turnS s) hn
 have h2:=sendS_sh (P:=P) (W:=1) (s:=sendS (turnS s) 0) h1.2
 have ht:turnS (sh P s)=sh P (turnS s):=rfl
 unfold roundS
 rw [ht,h1.1,h2.1]
 exact ⟨rfl,h2.2⟩
theorem Goes.sh {P:Nat}:∀(n:Nat) (s:PS),s.numbers=[]→Goes limit n (sh P s)→Goes limit n s
 |0,_,_,h=>h
 |n+1,s,hn,⟨hR,h⟩=>by
  have h1:=sendS_sh (P:=P) (W:=0) (s:=turnS s) hn
  have hr:=roundS_sh (P:=P) hn
  obtain ⟨a0,s0,a1,s1,o0,o1⟩:=hR
  obtain ⟨B,K,a0⟩:=a0
  obtain ⟨B',K',a1⟩:=a1
  have o1:SendOk (sendS (Ytdgmcckfdgnicaa.sh P (turnS s)) 0) 1 limit:=o1
  rw [h1.1] at o1
  refine ⟨⟨⟨B,K,a0.sh⟩,s0,⟨B',K',(ArrOk.sh (P:=P) a1)⟩,s1,SendOk.sh (P:=P) o0,o1.sh⟩,?_⟩
  rw [hr.1] at h
  rcases h with ⟨g1,g2⟩|⟨g1,g2⟩
  ·exact .inl ⟨g1,fun W hW=>by have q:=g2 W hW;exact ⟨q.1,q.2,q.3,q.4,q.5,q.6⟩⟩
  ·exact .inr ⟨g1,Goes.sh n (nextS (roundS s)) hr.2 g2⟩
theorem FA.settles (h:FA s f conn room limit L k c) (hc:1≤c∧c≤123) (ht:s.now≤15000) (hcl:∀W,W<2→(s.e W).closing=false) (hs:∀W,W<2→(s.e W).state=2) (hr:∀W,W<2→(s.e W).ready=[]):
  Goes limit 4000 {closeS (closeS s 0) 1 with pos:=0}:=by
 obtain ⟨_,_,_,n2,w2,nn,hP⟩:=h.closed hc (by omega) hcl hs hr
 have hw:∀W,W<2→((closeS (closeS s 0) 1).way W).length≤1000+708*49:=fun W hW=>by
  have:=(h.few hW).1
  rw [w2];omega
 have hg:=PA.goes 49 3999 _ L k (c+1+1) hP hw (by omega) (by omega) (by omega) (by rw [n2];omega) (by omega) (by omega)
 refine Goes.sh (P:=(closeS (closeS s 0) 1).pos) 4000 _ nn ?_
 unfold sh
 dsimp only
 rw [Nat.zero_add]
 exact hg
end
end Go.Proofs.Ytdgmcckfdgnicaa

set_option linter.unusedVariables false
set_option linter.unusedSimpArgs false
set_option maxRecDepth 20000
set_option maxHeartbeats 8000000
namespace Go.Proofs.Ytdgmcckfdgnicaa
open Go Go.Aw Go.Proofs
def stA (s:PS):Nat→PS
 |0=>s
 |1=>arriveR s 0 1000 100000
 |_=>turnS s
def stB (s:PS):Nat→PS
 |0=>turnS s
 |1=>sendS (turnS s) 0
 |_=>roundS s
theorem RoundOk.arr {s:PS} {limit:Int} (h:RoundOk s limit) {W:Nat} (hW:W<2): (∃ B K,ArrOk (stA s W) W 1000 B K)∧soundR (arriveR (stA s W) W 1000 100000) W=true∧arriveR (stA s W) W 1000 100000=stA s (W+1):=by
 rcases (by omega:W=0∨W=1) with rfl|rfl
 ·exact ⟨h.a0,h.s0,rfl⟩
 ·exact ⟨h.a1,h.s1,rfl⟩
theorem RoundOk.snd {s:PS} {limit:Int} (h:RoundOk s limit) {W:Nat} (hW:W<2):SendOk (stB s W) W limit∧sendS (stB s W) W=stB s (W+1):=by
 rcases (by omega:W=0∨W=1) with rfl|rfl
 ·exact ⟨h.o0,rfl⟩
 ·exact ⟨h.o1,rfl⟩
theorem roundS_now {s:PS} {limit:Int} (h:RoundOk s limit):(roundS s).now=s.now∧True:=by
 have key:∀(W:Nat) (l:List Sg) (a:PS),(l.foldl (sendOne W) a).now=a.now:=fun W l=>by
  induction l with
  |nil=>intro a;rfl
  |cons p l ih=>
   intro a
   rw [List.foldl_cons,ih]
   unfold sendOne
   split<;> rfl
 refine ⟨?_,trivial⟩
 unfold roundS
 unfold sendS
 rw [key,key]
 rfl
theorem Goes.lens {limit:Int}:∀{n:Nat} {s:PS},Goes limit n s→(s.way 0).length<1000000000∧(s.way 1).length<1000000000
 |0,_,h=>h.elim
 |n+1,s,⟨hR,_⟩=>by
  obtain ⟨B,K,a0⟩:=hR.a0
  obtain ⟨B',K',a1⟩:=hR.a1
  have h0:=a0.B
  have h1:=a1.B
  have h0:B+1400*(s.way 1).length<1000000000:=h0
  have h1:B'+1400*(s.way 0).length<1000000000:=h1
  omega
theorem settle {H:AHeap} {pp:Nat} {s:PS} {x:PQ} (h:PairI H pp s x) (limit:Int) (hn:s.numbers=[]) (hG:Goes limit 4000 {s with pos:=0}) (hb:0≤s.now∧s.now≤31000):
  AC Try.prog 27 [ptr pp,.int .i64 limit] H (fun r H2=>r= .ret (.bool true)∧∃s' x',PairI H2 pp s' x'∧∀W,W<2→DoneP s' W):=by
 have hc:=h.cell
 have hput:=h.put {s with pos:=0} rfl rfl rfl
 have hq:∀H' K,lenW Try.prog 34 x.nv H' K=K (.int .i64 0) H':=fun H' K=>by
  have:=h.num
  rw [hn] at this
  rw [this.lenT (by simp only [go_sem,sevalprocAttr,reduceCtorEq])];rfl
 simp only [pairC] at hc hput
 have hcl:=lt_of_get hc
 refine AC.enter Try.func27 rfl (by kernel_rfl) 95 rfl [.tmp 4] rfl (by simp) fun hsc B=> ?_
 repeat first|refine kw3 hc hcl hq ?_|exact kwy
 refine AWP.loopP (fun s2:Nat×AHeap=>⟨[(0,ptr pp),(1,.int .i64 limit),(15,.int .i64 (s2.1:Nat))],[],s2.2⟩) (fun s2=>s2.1≤4000∧∃s x,PairI s2.2 pp s x∧Goes limit (4000 - s2.1) s∧0≤s.now∧s.now≤31000+60250*s2.1) (fun s2=>4000 - s2.1) (0,_) ?_ ⟨by omega,_,_,hput,hG,hb.1,by show s.now≤_;omega⟩ ?_
 ·exact Weak.env (by simp [envIn,lk_cons,wth_some])
 clear hc hput hq hcl hG hb hn h
 rintro ⟨i,H1⟩ ⟨hi,s,x,hP,hG,hb,hb2⟩
 simp only at hi hP hG
 have hi4:i<4000:=by
  by_cases g:i<4000
  ·exact g
  ·rw [show 4000 - i=0 by omega] at hG;exact hG.elim
 have hi4':(i:Int)<4000:=by omega
 have hwi:IntKind.i64.wrap ((i:Int)+1)=((i+1:Nat):Int):=by rw [wi64 (by omega)];omega
 rw [show 4000 - i=(4000 - (i+1))+1 by omega] at hG
 obtain ⟨hR,hG⟩:=hG
 repeat first|refine kw1 hi4' ?_|exact kwy
 refine AWP.loopP (fun s2:Nat×PQ×AHeap=>⟨[(0,ptr pp),(1,.int .i64 limit),(15,.int .i64 (i:Nat)),(17,.int .i64 (s2.1:Nat))],[],s2.2.2⟩) (fun s2=>s2.1≤2∧PairI s2.2.2 pp (stA s s2.1) s2.2.1) (fun s2=>2 - s2.1) (0,x,H1) ?_ ⟨by omega,hP⟩ ?_
 ·exact Weak.env (by simp [envIn,lk_cons,wth_some])
 clear hP
 rintro ⟨W,x2,H2⟩ ⟨hW2,hP2⟩
 simp only at hW2 hP2
 by_cases hW:W<2
 ·have hW':(W:Int)<2:=by omega
  have hwW:IntKind.i64.wrap ((W:Int)+1)=((W+1:Nat):Int):=by rw [wi64 (by omega)];omega
  obtain ⟨⟨B,K,hA⟩,hs,he⟩:=hR.arr hW
  have har:=arrive hP2 hW 1000 100000 (by omega) (by omega) hA.take hA.ok hA.at_ hA.B hA.K hA.read hA.ready
  rw [hs,he] at har
  repeat first|refine kw1 hW' ?_|exact kwy
  refine AC.mono har ?_
  rintro r H3 ⟨rfl,x3,hJ3⟩
  repeat first|refine kw1 hwW ?_|exact kwy
  exact ⟨(W+1,x3,H3),Weak.env (by simp [envIn,lk_cons,wth_some]),by show W+1≤2;omega,hJ3.pair,by show 2 - (W+1)<2 - W;omega⟩
 obtain rfl:W=2:=by omega
 have hP2:PairI H2 pp (stB s 0) x2:=hP2
 repeat first|refine kw0 ?_|exact kwy
 refine AWP.loopP (fun s2:Nat×PQ×AHeap=>⟨[(0,ptr pp),(1,.int .i64 limit),(15,.int .i64 (i:Nat)),(25,.int .i64 (s2.1:Nat))],[],s2.2.2⟩) (fun s2=>s2.1≤2∧PairI s2.2.2 pp (stB s s2.1) s2.2.1) (fun s2=>2 - s2.1) (0,x2,H2) ?_ ⟨by omega,hP2⟩ ?_
 ·exact Weak.env (by simp [envIn,lk_cons,wth_some])
 clear hP2 hW2 hW
 rintro ⟨W,x2,H2⟩ ⟨hW2,hP2⟩
 simp only at hW2 hP2
 by_cases hW:W<2
 ·have hW':(W:Int)<2:=by omega
  have hwW:IntKind.i64.wrap ((W:Int)+1)=((W+1:Nat):Int):=by rw [wi64 (by omega)];omega
  obtain ⟨hS,he⟩:=hR.snd hW
  have hsd:=send hP2 hW limit hS.due hS.made hS.outs hS.few hS.err hS.ok hS.due2 hS.under hS.out hS.pos hS.numbers hS.way
  rw [show ((sendR ((stB s W).e W) (stB s W).now).2.2.foldl (sendOne W) {stB s W with e:=upd (stB s W).e W (sendR ((stB s W).e W) (stB s W).now).2.1})=stB s (W+1) from he] at hsd
  repeat first|refine kw1 hW' ?_|exact kwy
  refine AC.mono hsd ?_
  rintro r H3 ⟨rfl,x3,hJ3⟩
  repeat first|refine kw1 hwW ?_|exact kwy
  exact ⟨(W+1,x3,H3),Weak.env (by simp [envIn,lk_cons,wth_some]),by show W+1≤2;omega,hJ3.pair,by show 2 - (W+1)<2 - W;omega⟩
 obtain rfl:W=2:=by omega
 have hP2:PairI H2 pp (roundS s) x2:=hP2
 clear hW2 hW
 have hzn:(roundS s).now=s.now:=(roundS_now hR).1
 clear hR
 have hlen:((roundS s).way 0).length<1000000000∧((roundS s).way 1).length<1000000000:=by
  rcases hG with ⟨hf,_⟩|⟨_,hg⟩
  ·rw [hf.2.2.1,hf.2.2.2];simp
  ·exact hg.lens
 generalize roundS s=z at*
 have hc:=hP2.cell
 simp only [pairC] at hc
 have hcl:=lt_of_get hc
 have hst0:=State (hP2.end_ 0 (by omega))
 have hst1:=State (hP2.end_ 1 (by omega))
 have hw0:∀H' K,lenW Try.prog 31 (x2.wv 0) H' K=K (.int .i64 ((z.way 0).length:Nat)) H':=fun H' K=>(hP2.way 0 (by omega)).lenW
 have hw1:∀H' K,lenW Try.prog 31 (x2.wv 1) H' K=K (.int .i64 ((z.way 1).length:Nat)) H':=fun H' K=>(hP2.way 1 (by omega)).lenW
 have hws:IntKind.i64.wrap (((z.way 0).length:Int)+((z.way 1).length:Int))=(((z.way 0).length+(z.way 1).length:Nat):Int):=by rw [wi64 (by omega)];omega
 rcases hG with ⟨hf,hd⟩|⟨hf,hg⟩
 ·obtain ⟨g0,g1,g2,g3⟩:=hf
  rw [g2] at hw0
  rw [g3] at hw1
  have g0:4≤(z.e 0).state:=g0
  have g1:4≤(z.e 1).state:=g1
  clear hws hlen
  repeat first|refine kw0 ?_|exact kwy
  apply AWP.regionX [] [(0,0),(0,0),(0,0),(0,0),(0,0),(0,0),(0,0),(0,0),(0,0),(0,0),(0,0),(0,0),(0,0),(0,0),(0,0),(0,0),(0,0),(0,0),(0,0),(0,0),(0,0),(0,0),(0,0),(0,0),(0,0),(0,0),(0,0),(0,0),(0,0),(0,0),(0,0),(0,0)] [34,35,36,37,38,39,40,41,42,43,44,45,46,47,48,49,50,51,52,53,54,55,56,57,58,59,60,61,62,63,64,65] [] [(34,_),(35,_),(36,_),(37,_),(38,_),(39,_),(40,_),(41,_),(42,_),(43,_),(44,_),(45,_),(46,_),(47,_),(48,_),(49,_),(50,_),(51,_),(52,_),(53,_),(54,_),(55,_),(56,_),(57,_),(58,_),(59,_),(60,_),(61,_),(62,_),(63,_),(64,_),(65,_)]
  ·kernel_rfl
  ·kernel_rfl
  ·kernel_rfl
  ·kernel_rfl
  ·rfl
  ·simp only [eachB,runB]
   repeat' with_reducible refine And.intro ?_ ?_
   iterate 2 all_goals try ((repeat' first|with_reducible refine And.intro ?_ ?_|with_reducible (first|refine hst0.use ?_|refine hst1.use ?_)|refine kx5 hc hw0 hw1 g0 g1 ?_|exact kwy|exact rfl);done)
  repeat first|refine kw0 ?_|exact kwy
  exact ⟨_,_,.refl _ _ _,rfl,z,x2,hP2,hd⟩
 ·have hn1:IntKind.i64.wrap (z.now+250)=z.now+250:=wi64 (by omega)
  have hn2:IntKind.i64.wrap (z.now+250+60000)=z.now+250+60000:=wi64 (by omega)
  repeat first|with_reducible refine AWP.seqE (x:= .seq (.region 16 _ _) _) (fun st=>st=⟨[(0,ptr pp),(1,.int .i64 limit),(15,.int .i64 (i:Nat))],[],H2⟩) ?_ ?_|refine kw0 ?_|exact kwy
  ·by_cases g0:4≤(z.e 0).state
   ·by_cases g1:4≤(z.e 1).state
    ·have g2:¬((z.way 0).length+(z.way 1).length=0):=fun g=>hf ⟨g0,g1,List.length_eq_zero_iff.1 (by omega),List.length_eq_zero_iff.1 (by omega)⟩
     generalize (z.way 0).length=l0 at*
     generalize (z.way 1).length=l1 at*
     have g3:(((l0+l1:Nat):Int)==0)=false:=by simp;omega
     apply AWP.regionX [] [(0,0),(0,0),(0,0),(0,0),(0,0),(0,0),(0,0),(0,0),(0,0),(0,0),(0,0),(0,0),(0,0),(0,0),(0,0),(0,0),(0,0),(0,0),(0,0),(0,0),(0,0),(0,0),(0,0),(0,0),(0,0),(0,0),(0,0),(0,0),(0,0),(0,0),(0,0),(0,0)] [34,35,36,37,38,39,40,41,42,43,44,45,46,47,48,49,50,51,52,53,54,55,56,57,58,59,60,61,62,63,64,65] [] [(34,_),(35,_),(36,_),(37,_),(38,_),(39,_),(40,_),(41,_),(42,_),(43,_),(44,_),(45,_),(46,_),(47,_),(48,_),(49,_),(50,_),(51,_),(52,_),(53,_),(54,_),(55,_),(56,_),(57,_),(58,_),(59,_),(60,_),(61,_),(62,_),(63,_),(64,_),(65,_)]
     ·kernel_rfl
     ·kernel_rfl
     ·kernel_rfl
     ·kernel_rfl
     ·rfl
     ·simp only [eachB,runB]
      repeat' with_reducible refine And.intro ?_ ?_
      iterate 2 all_goals try ((repeat' first|with_reducible refine And.intro ?_ ?_|with_reducible (first|refine hst0.use ?_|refine hst1.use ?_)|refine kx7 hc hw0 hw1 g0 g1 hws g3 ?_|exact kwy|exact rfl);done)
     repeat first|refine kw0 ?_|exact kwy
     exact ⟨_,rfl,Weak.env (by simp [envIn,lk_cons,wth_some])⟩
    ·apply AWP.regionX [] [(0,0),(0,0),(0,0),(0,0),(0,0),(0,0),(0,0),(0,0),(0,0),(0,0),(0,0),(0,0),(0,0),(0,0),(0,0),(0,0),(0,0),(0,0),(0,0),(0,0),(0,0),(0,0),(0,0),(0,0),(0,0),(0,0),(0,0),(0,0),(0,0),(0,0),(0,0),(0,0)] [34,35,36,37,38,39,40,41,42,43,44,45,46,47,48,49,50,51,52,53,54,55,56,57,58,59,60,61,62,63,64,65] [] [(34,_),(35,_),(36,_),(37,_),(38,_),(39,_),(40,_),(41,_),(42,_),(43,_),(44,_),(45,_),(46,_),(47,_),(48,_),(49,_),(50,_),(51,_),(52,_),(53,_),(54,_),(55,_),(56,_),(57,_),(58,_),(59,_),(60,_),(61,_),(62,_),(63,_),(64,_),(65,_)]
     ·kernel_rfl
     ·kernel_rfl
     ·kernel_rfl
     ·kernel_rfl
     ·rfl
     ·simp only [eachB,runB]
      repeat' with_reducible refine And.intro ?_ ?_
      iterate 2 all_goals try ((repeat' first|with_reducible refine And.intro ?_ ?_|with_reducible (first|refine hst0.use ?_|refine hst1.use ?_)|refine kx5 hc hw0 hw1 g0 g1 ?_|exact kwy|exact rfl);done)
     repeat first|refine kw0 ?_|exact kwy
     exact ⟨_,rfl,Weak.env (by simp [envIn,lk_cons,wth_some])⟩
   ·apply AWP.regionX [] [(0,0),(0,0),(0,0),(0,0),(0,0),(0,0),(0,0),(0,0),(0,0),(0,0),(0,0),(0,0),(0,0),(0,0),(0,0),(0,0),(0,0),(0,0),(0,0),(0,0),(0,0),(0,0),(0,0),(0,0),(0,0),(0,0),(0,0),(0,0),(0,0),(0,0),(0,0),(0,0)] [34,35,36,37,38,39,40,41,42,43,44,45,46,47,48,49,50,51,52,53,54,55,56,57,58,59,60,61,62,63,64,65] [] [(34,_),(35,_),(36,_),(37,_),(38,_),(39,_),(40,_),(41,_),(42,_),(43,_),(44,_),(45,_),(46,_),(47,_),(48,_),(49,_),(50,_),(51,_),(52,_),(53,_),(54,_),(55,_),(56,_),(57,_),(58,_),(59,_),(60,_),(61,_),(62,_),(63,_),(64,_),(65,_)]
    ·kernel_rfl
    ·kernel_rfl
    ·kernel_rfl
    ·kernel_rfl
    ·rfl
    ·simp only [eachB,runB]
     repeat' with_reducible refine And.intro ?_ ?_
     iterate 2 all_goals try ((repeat' first|with_reducible refine And.intro ?_ ?_|with_reducible (first|refine hst0.use ?_|refine hst1.use ?_)|refine kx4 hc hw0 hw1 g0 ?_|exact kwy|exact rfl);done)
    repeat first|refine kw0 ?_|exact kwy
    exact ⟨_,rfl,Weak.env (by simp [envIn,lk_cons,wth_some])⟩
  ·rintro _ rfl
   have hput:=hP2.put {z with now:=z.now+250} rfl rfl rfl
   obtain ⟨H3,hH3⟩:∃H3,H3=H2.set pp (.cells (pairC {z with now:=z.now+250} x2) kW):=⟨_,rfl⟩
   rw [← hH3] at hput
   have hput2:=hput.put {z with now:=z.now+250+60000} rfl rfl rfl
   have hc3:=hput.cell
   simp only [pairC] at hc3 hput2 hH3
   have hcl3:=lt_of_get hc3
   repeat first|refine kw3 hc hcl hn1 ?_|exact kwy
   rw [← hH3]
   clear hc hcl hH3
   by_cases he:z.way 0=[]∧z.way 1=[]
   ·have hnx:({z with now:=z.now+250+60000}:PS)=nextS z:=by
     unfold nextS pauseR;rw [if_pos he,Int.add_assoc];rfl
    have hpa:pauseR z=60250:=by unfold pauseR;rw [if_pos he]
    rw [he.1] at hw0
    rw [he.2] at hw1
    clear hws
    apply AWP.regionX [] [(0,0),(0,0),(0,0),(0,0),(0,0),(0,0),(0,0),(0,0),(0,0),(0,0),(0,0),(0,0),(0,0),(0,0)] [73,74,75,76,77,78,79,80,81,82,83,84,85,86] [] [(73,_),(74,_),(75,_),(76,_),(77,_),(78,_),(79,_),(80,_),(81,_),(82,_),(83,_),(84,_),(85,_),(86,_)]
    ·kernel_rfl
    ·kernel_rfl
    ·kernel_rfl
    ·kernel_rfl
    ·rfl
    ·simp only [eachB,runB]
     repeat' with_reducible refine And.intro ?_ ?_
     iterate 2 all_goals try ((repeat' first|with_reducible refine And.intro ?_ ?_|refine kx3 hc3 hw0 hw1 ?_|exact kwy|exact rfl);done)
    repeat first|refine kw4 hc3 hcl3 hn2 hwi ?_|exact kwy
    refine ⟨(i+1,_),Weak.env (by simp [envIn,lk_cons,wth_some]),by show i+1≤4000;omega,⟨nextS z,x2,by rw [← hnx];exact hput2,hg,?_,?_⟩,by show 4000 - (i+1)<4000 - i;omega⟩
    ·show 0≤z.now+pauseR z;omega
    ·show z.now+pauseR z≤31000+60250*((i+1:Nat):Int);omega
   ·have hnx:({z with now:=z.now+250}:PS)=nextS z:=by
     unfold nextS pauseR;rw [if_neg he]
    have hpa:pauseR z=250:=by unfold pauseR;rw [if_neg he]
    have g2:¬((z.way 0).length+(z.way 1).length=0):=fun g=>he ⟨List.length_eq_zero_iff.1 (by omega),List.length_eq_zero_iff.1 (by omega)⟩
    have g3:((((z.way 0).length+(z.way 1).length:Nat):Int)==0)=false:=by simp only [beq_eq_false_iff_ne,ne_eq];omega
    apply AWP.regionX [] [(0,0),(0,0),(0,0),(0,0),(0,0),(0,0),(0,0),(0,0),(0,0),(0,0),(0,0),(0,0),(0,0),(0,0)] [73,74,75,76,77,78,79,80,81,82,83,84,85,86] [] [(73,_),(74,_),(75,_),(76,_),(77,_),(78,_),(79,_),(80,_),(81,_),(82,_),(83,_),(84,_),(85,_),(86,_)]
    ·kernel_rfl
    ·kernel_rfl
    ·kernel_rfl
    ·kernel_rfl
    ·rfl
    ·simp only [eachB,runB]
     repeat' with_reducible refine And.intro ?_ ?_
     iterate 2 all_goals try ((repeat' first|with_reducible refine And.intro ?_ ?_|refine kx5 hc3 hw0 hw1 hws g3 ?_|exact kwy|exact rfl);done)
    repeat first|refine kw1 hwi ?_|exact kwy
    refine ⟨(i+1,_),Weak.env (by simp [envIn,lk_cons,wth_some]),by show i+1≤4000;omega,⟨nextS z,x2,by rw [← hnx];exact hput,hg,?_,?_⟩,by show 4000 - (i+1)<4000 - i;omega⟩
    ·show 0≤z.now+pauseR z;omega
    ·show z.now+pauseR z≤31000+60250*((i+1:Nat):Int);omega
end Go.Proofs.Ytdgmcckfdgnicaa
