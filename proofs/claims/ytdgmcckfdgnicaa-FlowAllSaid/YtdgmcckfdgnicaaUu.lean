/-
 What an end takes keeps what is said of it (plain).
-/
import Derived.Test.YtdgmcckfdgnicaaUt
set_option linter.unusedVariables false
set_option linter.unusedSimpArgs false
set_option maxRecDepth 20000
namespace Go.Proofs.Ytdgmcckfdgnicaa
open Go Go.Aw Go.Proofs
theorem Snd.gone {e:E} {f:Int} {L:List Msg} {w:List UInt8} (h:Snd e f L w) (n:Int):Snd (goneR e n) f L w:=by
 unfold goneR
 split
 ·exact h
 ·split
  ·exact h
  ·rename_i i _ _ p hp
   have hfl:(goneAt e i p).flight=(e.flight.take i).map bumpP++e.flight.drop (i+1):=rfl
   refine ⟨h.next,h.acked,fun q hq=> ?_,?_,h.tok,h.text,?_⟩
   ·rw [hfl] at hq
    rcases List.mem_append.1 hq with hq|hq
    ·obtain ⟨x,hx,rfl⟩:=List.mem_map.1 hq
     obtain ⟨h1,h2,h3,_⟩:=bump_body x
     obtain ⟨j,h4,h5⟩:=h.fl x (List.mem_of_mem_take hx)
     exact ⟨j,by rw [h4];unfold msg;rw [h1,h2],by rw [h3];exact h5⟩
    ·exact h.fl q (List.mem_of_mem_drop hq)
   ·rw [hfl,List.length_append,List.length_map,List.length_take,List.length_drop]
    have:=h.fll
    omega
   ·refine UOkZ.sub h.under ?_
    rw [hfl,zs_append]
    have h1:(zs (e.flight.take i++e.flight.drop (i+1))).Sublist (zs e.flight):=by
     refine zs_sub ?_
     have:=List.take_append_drop i e.flight
     conv=>rhs;rw [← this]
     refine List.Sublist.append_left ?_ _
     rw [← List.drop_drop]
     exact List.drop_sublist _ _
    rw [zs_append] at h1
    exact ((zs_bump _).append_right _).trans h1
theorem Snd.ackedTo {e:E} {f:Int} {L:List Msg} {w:List UInt8} (h:Snd e f L w) (a:Int) (ha:f - 1≤a∧a<e.next):Snd {e with acked:=a} f L w:=⟨h.next,ha,h.fl,h.fll,h.tok,h.text,h.under⟩
theorem Snd.goneUp {e:E} {f:Int} {L:List Msg} {w:List UInt8} (h:Snd e f L w):∀n,Snd (goneUp e n) f L w
 |0=>h
 |n+1=>by rw [goneUp_succ];exact (Snd.goneUp h n).gone _
theorem Snd.goneMk {f:Int} {L:List Msg} {w:List UInt8} (b:Int):∀(l:List Int) {e:E},Snd e f L w→Snd (goneMk e b l) f L w
 |[],e,h=>h
 |x::l,e,h=>Snd.goneMk b l (h.gone (b+x))
theorem Snd.ack {e:E} {f:Int} {L:List Msg} {w:List UInt8} (h:Snd e f L w) (ack:Int) (marks:List UInt8):Snd (ackR e ack marks) f L w:=by
 unfold ackR
 split
 ·exact h
 ·refine Snd.goneMk _ _ (Snd.ackedTo (h.goneUp _) _ ?_)
  have:=(goneUp_same e (ackTo e ack - e.acked).toNat).2.1
  rw [this]
  have:=h.acked
  omega
structure GotL (e:E) (f:Int) (L:List Msg) (rd:List UInt8) (k:Nat):Prop where
 le:k≤L.length
 base:e.base=(f+k - 1)%65536
 text:rd++e.ready=bodies (L.take k)
 ended:e.ended=true→e.kept=[]∧1≤k∧∃m,L[k - 1]? =some m∧m.1=4
 kept:∀x∈e.kept,∃j:Nat,k≤j∧j<k+34∧L[j]? =some (x.2.kind,x.2.body)∧x.1=(f+j)%65536∧(x.2.kind=2∨x.2.kind=4)
theorem kept_none {l:List (Int×Sg)} {k:Int} (h:kept? l k=none):∀x∈l,x.1≠k:=by
 unfold kept? at h
 rw [Option.map_eq_none_iff,List.find?_eq_none] at h
 intro x hx he
 exact h x hx (by simp [he])
theorem GotL.pass {f:Int} {L:List Msg} {rd:List UInt8} (hL:L.length<30000) (h4:∀(i:Nat) (m:Msg),L[i]? =some m→m.1=4→i+1=L.length):∀(n:Nat) (e:E) (k:Nat),e.kept.length<n→GotL e f L rd k→∃k',Got (passGo n e) f L rd k'
 |0,e,k,hn,_=>by omega
 | n +1,e,k,hn,h=>by
  unfold passGo
  have hb:=h.base
  have hle:=h.le
  cases hk:kept? e.kept ((e.base+1)%65536) with
  |none=>
   refine ⟨k,h.le,h.base,h.text,h.ended,fun x hx=> ?_⟩
   obtain ⟨j,a,b,c,d,g⟩:=h.kept x hx
   refine ⟨j,?_,b,c,d,g⟩
   rcases Nat.lt_or_eq_of_le a with a|rfl
   ·exact a
   ·exact absurd (by rw [d,hb];omega) (kept_none hk x hx)
  | some p=>
   dsimp only
   split
   ·rename_i hen
    have:=(h.ended hen).1
    rw [this] at hk
    cases hk
   ·rename_i hen
    obtain ⟨j,a,b,c,d,g⟩:=h.kept _ (kept_mem hk)
    dsimp only at c d g
    have hjl:=(List.getElem?_eq_some_iff.1 c).1
    have hjk:j=k:=by rw [hb] at d;omega
    subst hjk
    have hlt:=kept_filter hk
    refine GotL.pass hL h4 n (passStep e p) (j+1) (by show (e.kept.filter fun x=>x.1 != (e.base+1)%65536).length<n;omega) ?_
    refine ⟨hjl,?_,?_,fun he=> ?_,fun x hx=> ?_⟩
    ·show (e.base+1)%65536=_
     rw [hb];omega
    ·show rd++(e.ready++p.body)=_
     rw [← List.append_assoc,h.text,List.take_add_one,c,bodies_append]
     simp [bodies]
    ·have he:(p.kind==4)=true:=he
     have hk4:p.kind=4:=by simpa using he
     have hlast:=h4 _ _ c hk4
     refine ⟨?_,by omega,_,c,hk4⟩
     refine List.eq_nil_iff_forall_not_mem.2 fun x hx=> ?_
     obtain ⟨hx1,hx2⟩:=List.mem_filter.1 hx
     obtain ⟨i,a2,b2,c2,d2,_⟩:=h.kept x hx1
     have hil:=(List.getElem?_eq_some_iff.1 c2).1
     have:i=j:=by omega
     subst this
     have:x.1=(e.base+1)%65536:=by rw [d2,hb];omega
     simp [this] at hx2
    ·obtain ⟨hx1,hx2⟩:=List.mem_filter.1 hx
     obtain ⟨i,a2,b2,c2,d2,g2⟩:=h.kept x hx1
     refine ⟨i,?_,by omega,c2,d2,g2⟩
     rcases Nat.lt_or_eq_of_le a2 with a2|rfl
     ·exact a2
     ·have:x.1=(e.base+1)%65536:=by rw [d2,hb];omega
      simp [this] at hx2
theorem keptB_cons (x:Int×Sg) (l:List (Int×Sg)):keptB (x::l)=x.2.body.length+keptB l:=by simp [keptB]
theorem Rcv.keep {e:E} {f:Int} {L:List Msg} {rd:List UInt8} (h:Rcv e f L rd) (hL:L.length<30000) (h4:∀(i:Nat) (m:Msg),L[i]? =some m→m.1=4→i+1=L.length) (hs:e.state≠0∧e.state≠1∧e.state≠5) {p:Sg} (hp:SgOk f L p) (hk:p.kind=2∨p.kind=4):Rcv (keepR e p) f L rd:=by
 unfold keepR
 split
 ·exact h.of rfl rfl rfl rfl rfl (.inl rfl)
 ·rename_i hold
  split
  ·exact h.of rfl rfl rfl rfl rfl (.inl rfl)
  ·rename_i hno
   rcases h.got with ⟨_,_,_,_,g⟩|⟨k,hG,g⟩
   ·omega
   ·obtain ⟨j,hj,hseq⟩:=hp.in_ (by omega)
    have hjl:=(List.getElem?_eq_some_iff.1 hj).1
    have hle:=hG.le
    unfold keepOld keepD at hold
    unfold keepNo keepD at hno
    rw [hseq,hG.base] at hold hno
    have h1:¬((f+ ↑j)%65536 - (f+ ↑k - 1)%65536)%65536=0:=fun g=>hold (.inl g)
    have h2:¬((f+ ↑j)%65536 - (f+ ↑k - 1)%65536)%65536≥32768:=fun g=>hold (.inr (.inl g))
    have h3:¬e.ended=true:=fun g=>hno (.inr (.inl g))
    have h5:¬((f+ ↑j)%65536 - (f+ ↑k - 1)%65536)%65536>34:=fun g=>hno (.inr (.inr (.inl g)))
    have h6:¬(p.body.length:Int)>spaceR e:=fun g=>hno (.inr (.inr (.inr g)))
    have hjk:k≤j∧j<k+34:=by omega
    have hbase:=h.base
    have hroom:=h.room
    have hsp:(p.body.length:Int)+(e.ready.length:Int)+(keptB e.kept:Int)≤e.room:=by
     unfold spaceR at h6
     omega
    have hL0:GotL {e with answer:=true,kept:=e.kept++[(p.seq,p)]} f L rd k:=by
     refine ⟨hle,hG.base,hG.text,fun he=>absurd he h3,fun x hx=> ?_⟩
     rcases List.mem_append.1 hx with hx|hx
     ·obtain ⟨i,a,b,c,d,g⟩:=hG.kept x hx
      exact ⟨i,by omega,b,c,d,g⟩
     ·rw [List.mem_singleton.1 hx]
      exact ⟨j,hjk.1,hjk.2,hj,hseq,hk⟩
    unfold passR
    obtain ⟨q1,q2,q3,q4,b,kk,r,d,q5⟩:=passGo_props (({e with answer:=true,kept:=e.kept++[(p.seq,p)]}:E).kept.length+1) {e with answer:=true,kept:=e.kept++[(p.seq,p)]} hbase
    obtain ⟨k',hG'⟩:=GotL.pass hL h4 _ _ k (Nat.lt_succ_self _) hL0
    generalize passGo (({e with answer:=true,kept:=e.kept++[(p.seq,p)]}:E).kept.length+1) {e with answer:=true,kept:=e.kept++[(p.seq,p)]}=z at*
    refine ⟨q4,?_,.inr ⟨k',hG',?_⟩⟩
    ·have e1:z.room=e.room:=by rw [q5]
     have e2:keptB (e.kept++[(p.seq,p)])=keptB e.kept+p.body.length:=keptB_snoc _ _
     have q1:z.ready.length+keptB z.kept≤e.ready.length+keptB (e.kept++[(p.seq,p)]):=q1
     rw [e1];omega
    ·have e1:z.state=e.state:=by rw [q5]
     rw [e1];exact g
theorem keepR_form (e:E) (p:Sg) (hb:0≤e.base∧e.base<65536):∃an db b k r d,keepR e p={e with answer:=an,doubles:=db,base:=b,kept:=k,ready:=r,ended:=d}:=by
 unfold keepR
 split
 ·exact ⟨_,_,_,_,_,_,rfl⟩
 ·split
  ·exact ⟨_,_,_,_,_,_,rfl⟩
  ·unfold passR
   obtain ⟨_,_,_,_,b,kk,r,d,q5⟩:=passGo_props (({e with answer:=true,kept:=e.kept++[(p.seq,p)]}:E).kept.length+1) {e with answer:=true,kept:=e.kept++[(p.seq,p)]} hb
   rw [q5]
   exact ⟨_,_,_,_,_,_,rfl⟩
theorem Snd.keep {e:E} {f:Int} {L:List Msg} {w:List UInt8} (h:Snd e f L w) (p:Sg) (hb:0≤e.base∧e.base<65536):Snd (keepR e p) f L w:=by
 obtain ⟨_,_,_,_,_,_,he⟩:=keepR_form e p hb
 rw [he]
 exact h.of rfl rfl rfl rfl rfl rfl rfl
theorem Rcv.ack {e:E} {f:Int} {L:List Msg} {rd:List UInt8} (h:Rcv e f L rd) (ack:Int) (marks:List UInt8):Rcv (ackR e ack marks) f L rd:=by
 obtain ⟨fl,o,d,a,he,_⟩:=ackR_ackS e ack marks
 rw [he]
 exact h.of rfl rfl rfl rfl rfl (.inl rfl)
structure Both (e:E) (f:Int) (L:List Msg) (w:List UInt8) (f':Int) (L':List Msg) (rd:List UInt8):Prop where
 snd:Snd e f L w
 rcv:Rcv e f' L' rd
theorem Both.of {e e':E} {f:Int} {L:List Msg} {w:List UInt8} {f':Int} {L':List Msg} {rd:List UInt8} (h:Both e f L w f' L' rd) (h1:e'.next=e.next) (h2:e'.acked=e.acked) (h3:e'.flight=e.flight) (h4:e'.waiting=e.waiting) (h5:e'.opener=e.opener) (h6:e'.closing=e.closing) (h7:e'.limit=e.limit)
  (k1:e'.base=e.base) (k2:e'.ready=e.ready) (k3:e'.kept=e.kept) (k4:e'.room=e.room) (k5:e'.ended=e.ended) (k6:e'.state=e.state∨e'.state=5∨(e.state≠0∧e.state≠1∧e.state≠5∧e'.state≠0∧e'.state≠1)):Both e' f L w f' L' rd:=
 ⟨h.snd.of h1 h2 h3 h4 h5 h6 h7,h.rcv.of k1 k2 k3 k4 k5 k6⟩
theorem Both.ack {e:E} {f:Int} {L:List Msg} {w:List UInt8} {f':Int} {L':List Msg} {rd:List UInt8} (h:Both e f L w f' L' rd) (ack:Int) (marks:List UInt8):Both (ackR e ack marks) f L w f' L' rd:=⟨h.snd.ack ack marks,h.rcv.ack ack marks⟩
structure Oth (L':List Msg):Prop where
 len:L'.length<30000
 first:∀(i:Nat) (m:Msg),L'[i]? =some m→m.1=1→i=0∧m.2=[]
 last:∀(i:Nat) (m:Msg),L'[i]? =some m→m.1=4→i+1=L'.length
theorem ackR_state (e:E) (ack:Int) (marks:List UInt8):(ackR e ack marks).state=e.state∧(ackR e ack marks).base=e.base:=by
 obtain ⟨fl,o,d,a,he,_⟩:=ackR_ackS e ack marks
 rw [he]
 exact ⟨rfl,rfl⟩
theorem Both.kind_ {e:E} {f:Int} {L:List Msg} {w:List UInt8} {f':Int} {L':List Msg} {rd:List UInt8} (h:Both e f L w f' L' rd) (hO:Oth L') {p:Sg} (hp:SgOk f' L' p) (h5:e.state≠5) (h3:e.state=1→p.kind=3→p.seq=f'%65536):Both (byKind e p) f L w f' L' rd:=by
 have hb:=h.rcv.base
 have hcarry:p.kind=2∨p.kind=4→Both (carryR e p) f L w f' L' rd:=fun hk=>by
  unfold carryR
  split
  ·exact h.of rfl rfl rfl rfl rfl rfl rfl rfl rfl rfl rfl rfl (.inl rfl)
  ·split
   ·rename_i h1 h2
    have hA:Both (ackR {e with heard:=true} p.ack p.marks) f L w f' L' rd:=(h.of rfl rfl rfl rfl rfl rfl rfl rfl rfl rfl rfl rfl (.inl rfl):Both {e with heard:=true} f L w f' L' rd).ack _ _
    have hst:(ackR {e with heard:=true} p.ack p.marks).state=e.state:=(ackR_state _ _ _).1
    exact ⟨hA.snd.keep p hA.rcv.base,hA.rcv.keep hO.len hO.last (by rw [hst];omega) hp hk⟩
   ·exact h
 unfold byKind
 split
 ·rename_i hk
  unfold openT
  split
  ·exact h
  ·split
   ·rename_i h1 h2
    obtain ⟨i,hi,hseq⟩:=hp.in_ (.inl hk)
    obtain ⟨rfl,hbd⟩:=hO.first _ _ hi hk
    refine ⟨h.snd.of rfl rfl rfl rfl rfl rfl rfl,⟨by show 0≤p.seq∧p.seq<65536;rw [hseq];omega,h.rcv.room,.inr ⟨1,?_,by show (2:Int)≠0∧(2:Int)≠1;omega⟩⟩⟩
    rcases h.rcv.got with ⟨g1,g2,g3,g4,_⟩|⟨k,hG,g⟩
    ·refine ⟨(List.getElem?_eq_some_iff.1 hi).1,?_,?_,fun he=> ?_,fun x hx=> ?_⟩
     ·show p.seq=_;rw [hseq];omega
     ·show rd++e.ready=_
      rw [g3,g2]
      cases hl:L' with
      |nil=>rfl
      |cons m l=>
       rw [hl] at hi
       have:m=(p.kind,p.body):=by simpa using hi
       rw [this]
       have hbd:p.body=[]:=hbd
       simp [bodies,hbd]
     ·have he:e.ended=true:=he
      rw [g4] at he;cases he
     ·have hx:x∈e.kept:=hx
      rw [g1] at hx;cases hx
    ·omega
   ·exact h.of rfl rfl rfl rfl rfl rfl rfl rfl rfl rfl rfl rfl (.inl rfl)
 ·split
  ·exact hcarry (.inl (by assumption))
  ·split
   ·rename_i hk
    unfold aloneR
    split
    ·exact h.of rfl rfl rfl rfl rfl rfl rfl rfl rfl rfl rfl rfl (.inl rfl)
    ·split
     ·rename_i h1
      unfold alone1
      split
      ·unfold aloneUp
       split
       ·have hseq:=h3 h1 hk
        have hB:Both {e with state:=2,base:=(p.seq - 1)%65536} f L w f' L' rd:=by
         refine ⟨h.snd.of rfl rfl rfl rfl rfl rfl rfl,⟨by show 0≤(p.seq - 1)%65536∧(p.seq - 1)%65536<65536;omega,h.rcv.room,.inr ⟨0,?_,by show (2:Int)≠0∧(2:Int)≠1;omega⟩⟩⟩
         rcases h.rcv.got with ⟨g1,g2,g3,g4,_⟩|⟨k,hG,g⟩
         ·refine ⟨Nat.zero_le _,?_,?_,fun he=> ?_,fun x hx=> ?_⟩
          ·show (p.seq - 1)%65536=_;rw [hseq];omega
          ·show rd++e.ready=_
           rw [g3,g2];rfl
          ·have he:e.ended=true:=he
           rw [g4] at he;cases he
          ·have hx:x∈e.kept:=hx
           rw [g1] at hx;cases hx
         ·omega
        exact (hB.ack _ _).of rfl rfl rfl rfl rfl rfl rfl rfl rfl rfl rfl rfl (.inl rfl)
       ·exact h
      ·exact h
     ·split
      ·exact ((h.of rfl rfl rfl rfl rfl rfl rfl rfl rfl rfl rfl rfl (.inl rfl):Both {e with heard:=true} f L w f' L' rd)).ack _ _
      ·exact h
   ·split
    ·exact hcarry (.inr (by assumption))
    ·unfold dropT
     split
     ·exact h.of rfl rfl rfl rfl rfl rfl rfl rfl rfl rfl rfl rfl (.inr (.inl rfl))
     ·exact h
theorem Both.take {e:E} {f:Int} {L:List Msg} {w:List UInt8} {f':Int} {L':List Msg} {rd:List UInt8} (h:Both e f L w f' L' rd) (hO:Oth L') {p:Sg} (hp:SgOk f' L' p) (h3:e.state=1→p.kind=3→p.seq=f'%65536):Both (takeOne e p) f L w f' L' rd:=by
 unfold takeOne
 split
 ·exact h
 ·rename_i hc
  have h5:e.state≠5:=fun g=>hc (.inr g)
  have h1:Both (byKind {e with late:=p.time,some:=true,window:=if p.kind=5 then e.window else p.window} p) f L w f' L' rd:=
   Both.kind_ (e:={e with late:=p.time,some:=true,window:=if p.kind=5 then e.window else p.window}) (h.of rfl rfl rfl rfl rfl rfl rfl rfl rfl rfl rfl rfl (.inl rfl)) hO hp h5 h3
  generalize byKind {e with late:=p.time,some:=true,window:=if p.kind=5 then e.window else p.window} p=b at h1 ⊢
  unfold closeT
  split
  ·rename_i h6
   refine h1.of rfl rfl rfl rfl rfl rfl rfl rfl rfl rfl rfl rfl (.inr (.inr ⟨by omega,by omega,by omega,by show (4:Int)≠0;omega,by show (4:Int)≠1;omega⟩))
  ·exact h1
end Go.Proofs.Ytdgmcckfdgnicaa
