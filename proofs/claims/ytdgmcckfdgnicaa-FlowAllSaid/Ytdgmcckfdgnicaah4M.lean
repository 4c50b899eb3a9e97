/-
  A part of the proof of a statement of this seat.
-/
import Derived.Test.Ytdgmcckfdgnicaah2M
set_option linter.unusedVariables false
set_option linter.unusedSimpArgs false
set_option maxRecDepth 20000
namespace Go.Proofs.Ytdgmcckfdgnicaa
open Go Go.Aw Go.Proofs
structure KOk (r:E) (f:Int) (L:List Msg) (rd:List UInt8) (k:Nat):Prop where
 nodup:(r.kept.map (·.1)).Nodup
 got:(k=0∧r.kept=[]∧r.ready=[]∧rd=[]∧r.ended=false∧(r.state=0∨r.state=1))∨(Got r f L rd k∧r.state≠0∧r.state≠1)
theorem KOk.inf {r:E} {f:Int} {L:List Msg} {rd:List UInt8} {k:Nat} (h:KOk r f L rd k):KInf r f L k:=by
 rcases h.got with ⟨h1,h2,_⟩|⟨hG,_⟩
 ·exact ⟨by omega,by rw [h2];simp,h.nodup⟩
 ·exact ⟨hG.le,fun x hx=>by obtain ⟨j,a,b,c,d,_⟩:=hG.kept x hx;exact ⟨j,a,b,c,d⟩,h.nodup⟩
theorem KOk.text {r:E} {f:Int} {L:List Msg} {rd:List UInt8} {k:Nat} (h:KOk r f L rd k):rd++r.ready=bodies (L.take k):=by
 rcases h.got with ⟨h1,_,h2,h3,_⟩|⟨hG,_⟩
 ·rw [h1,h2,h3];rfl
 ·exact hG.text
theorem KOk.of {e e':E} {f:Int} {L:List Msg} {rd:List UInt8} {k:Nat} (h:KOk e f L rd k) (h1:e'.base=e.base) (h2:e'.ready=e.ready) (h3:e'.kept=e.kept) (h5:e'.ended=e.ended) (h6:e'.state=e.state∨(e.state≠0∧e.state≠1∧e'.state≠0∧e'.state≠1)):KOk e' f L rd k:=by
 refine ⟨by rw [h3];exact h.nodup,?_⟩
 rcases h.got with ⟨a,b,c,d,g,q⟩|⟨hk,g1,g2⟩
 ·refine .inl ⟨a,h3.trans b,h2.trans c,d,h5.trans g,?_⟩
  rcases h6 with h6|h6
  ·rw [h6];exact q
  ·omega
 ·exact .inr ⟨⟨hk.le,h1.trans hk.base,by rw [h2];exact hk.text,by rw [h5,h3];exact hk.ended,by rw [h3];exact hk.kept⟩,by omega⟩
theorem KOk.mono {e:E} {f:Int} {L L':List Msg} {rd:List UInt8} {k:Nat} (h:KOk e f L rd k) (hL:L <+: L'):KOk e f L' rd k:=by
 refine ⟨h.nodup,h.got.imp id fun ⟨hk,g⟩=> ?_⟩
 obtain ⟨X,rfl⟩:=hL
 have hg:∀i m,L[i]? =some m→(L++X)[i]? =some m:=fun i m hi=>by rw [List.getElem?_append_left (List.getElem?_eq_some_iff.1 hi).1];exact hi
 refine ⟨⟨by have:=hk.le;rw [List.length_append];omega,hk.base,by rw [List.take_append_of_le_length hk.le];exact hk.text,fun he=> ?_,fun x hx=> ?_⟩,g⟩
 ·obtain ⟨a,b,m,c,d⟩:=hk.ended he
  exact ⟨a,b,m,hg _ _ c,d⟩
 ·obtain ⟨j,a,b,c,d⟩:=hk.kept x hx
  exact ⟨j,a,b,hg _ _ c,d⟩
theorem keyP_filter {f c:Int} {kept:List (Int×Sg)} {i:Nat} (h:keyP f kept i=true) (hc:(f+i)%65536≠c):keyP f (kept.filter fun x=>x.1 != c) i=true:=by
 obtain ⟨x,hx,he⟩:=keyP_true.1 h
 exact keyP_true.2 ⟨x,List.mem_filter.2 ⟨hx,by rw [he];simpa using hc⟩,he⟩
theorem nodup_filter {kept:List (Int×Sg)} {p:Int×Sg→Bool} (h:(kept.map (·.1)).Nodup):((kept.filter p).map (·.1)).Nodup:=h.sublist ((List.filter_sublist ..).map _)
def EndC (r:E) (L:List Msg) (k:Nat):Prop:=∀m:Msg,1≤k→L[k - 1]? =some m→m.1=4→r.ended=true
theorem GotL.passK {f:Int} {L:List Msg} {rd:List UInt8} (hL:L.length<30000) (h4:∀(i:Nat) (m:Msg),L[i]? =some m→m.1=4→i+1=L.length):∀(n:Nat) (e:E) (k:Nat),e.kept.length<n→GotL e f L rd k→(e.kept.map (·.1)).Nodup→
  ∃k',Got (passGo n e) f L rd k'∧k≤k'∧((passGo n e).kept.map (·.1)).Nodup∧ (∀ i,i<L.length→keyP f e.kept i=true→i<k'∨keyP f (passGo n e).kept i=true)∧(keyP f e.kept k=true→e.ended=false→k<k')∧(EndC e L k→EndC (passGo n e) L k')
 |0,e,k,hn,_,_=>by omega
 | n + 1,e,k,hn,h,hnd=>by
  unfold passGo
  have hb:=h.base
  have hle:=h.le
  cases hk:kept? e.kept ((e.base+1)%65536) with
  | none=>
   refine ⟨k,⟨h.le,h.base,h.text,h.ended,fun x hx=> ?_⟩,Nat.le_refl _,hnd,fun i _ g=> .inr g,fun g _=> ?_,id⟩
   ·obtain ⟨j,a,b,c,d,g⟩:=h.kept x hx
    refine ⟨j,?_,b,c,d,g⟩
    rcases Nat.lt_or_eq_of_le a with a|rfl
    ·exact a
    ·exact absurd (by rw [d,hb];omega) (kept_none hk x hx)
   ·obtain ⟨x,hx,he⟩:=keyP_true.1 g
    exact absurd (by rw [he,hb];omega) (kept_none hk x hx)
  | some p=>
   dsimp only
   split
   ·rename_i hen
    have:=(h.ended hen).1
    rw [this] at hk
    cases hk
   ·rename_i hen
    obtain ⟨j,a,b,c,d,g⟩:=h.kept _ (kept_mem hk)
    dsimp only at c d g
    have hjl:=(List.getElem?_eq_some_iff.1 c).1
    have hjk:j=k:=by rw [hb] at d;omega
    subst hjk
    have hlt:=kept_filter hk
    have hstep:GotL (passStep e p) f L rd (j+1):=by
     refine ⟨hjl,?_,?_,fun he=> ?_,fun x hx=> ?_⟩
     ·show (e.base+1)%65536=_
      rw [hb];omega
     ·show rd++(e.ready++p.body)=_
      rw [← List.append_assoc,h.text,List.take_add_one,c,bodies_append]
      simp [bodies]
     ·have he:(p.kind==4)=true:=he
      have hk4:p.kind=4:=by simpa using he
      have hlast:=h4 _ _ c hk4
      refine ⟨?_,by omega,_,c,hk4⟩
      refine List.eq_nil_iff_forall_not_mem.2 fun x hx=> ?_
      obtain ⟨hx1,hx2⟩:=List.mem_filter.1 hx
      obtain ⟨i,a2,b2,c2,d2,_⟩:=h.kept x hx1
      have hil:=(List.getElem?_eq_some_iff.1 c2).1
      have:i=j:=by omega
      subst this
      have:x.1=(e.base+1)%65536:=by rw [d2,hb];omega
      simp [this] at hx2
     ·obtain ⟨hx1,hx2⟩:=List.mem_filter.1 hx
      obtain ⟨i,a2,b2,c2,d2,g2⟩:=h.kept x hx1
      refine ⟨i,?_,by omega,c2,d2,g2⟩
      rcases Nat.lt_or_eq_of_le a2 with a2|rfl
      ·exact a2
      ·have:x.1=(e.base+1)%65536:=by rw [d2,hb];omega
       simp [this] at hx2
    have hec:EndC (passStep e p) L (j+1):=fun m _ hm hm4=>by
     rw [Nat.add_sub_cancel,c] at hm
     have:p.kind=4:=by rw [← hm4,←Option.some.inj hm]
     show (p.kind==4)=true
     rw [this];rfl
    obtain ⟨k',r1,r2,r3,r4,r5,r6⟩:=GotL.passK hL h4 n (passStep e p) (j+1) (by show (e.kept.filter fun x=>x.1 != (e.base+1)%65536).length<n;omega) hstep (nodup_filter hnd)
    refine ⟨k',r1,by omega,r3,fun i hi hik=> ?_,fun _ _=>by omega,fun _=>r6 hec⟩
    by_cases hij:i=j
    ·left;omega
    ·refine r4 i hi ?_
     exact keyP_filter hik (by rw [hb];omega)
def AccLe (L:List Msg) (f:Int) (r r':E) (k k':Nat):Prop:=k≤k'∧∀i,i<L.length→keyP f r.kept i=true→i<k'∨keyP f r'.kept i=true
theorem AccLe.same {L:List Msg} {f:Int} {r r':E} {k:Nat} (h:r'.kept=r.kept):AccLe L f r r' k k:=⟨Nat.le_refl _,fun i _ g=> .inr (by rw [h];exact g)⟩
theorem AccLe.trans {L:List Msg} {f:Int} {r r' r2:E} {k k' k2:Nat} (h:AccLe L f r r' k k') (g:AccLe L f r' r2 k' k2):AccLe L f r r2 k k2:=⟨Nat.le_trans h.1 g.1,fun i hi hk=>by
 rcases h.2 i hi hk with a|a
 ·exact .inl (by have:=g.1;omega)
 ·exact g.2 i hi a⟩
theorem AccLe.st {L:List Msg} {f:Int} {r r':E} {k k':Nat} (h:AccLe L f r r' k k'):(nowSt r f L k).le (nowSt r' f L k'):=by
 refine ⟨h.1,fun i hi=>nowSt_acc.2 ?_⟩
 rcases nowSt_acc.1 hi with g|⟨g1,g2⟩
 ·exact .inl (by have:=h.1;omega)
 ·exact (h.2 i g1 g2).imp id fun g=>⟨g1,g⟩
theorem KOk.keep {e:E} {f:Int} {L:List Msg} {rd:List UInt8} {k:Nat} (h:KOk e f L rd k) (hL:L.length<30000) (h4:∀(i:Nat) (m:Msg),L[i]? =some m→m.1=4→i+1=L.length) (hs:e.state≠0∧e.state≠1) (hs4:e.state=4→e.ended=true) {p:Sg} {j:Nat} (hj:L[j]? =some (p.kind,p.body)) (hseq:p.seq=(f+j)%65536) (hk:p.kind=2∨p.kind=4):
  ∃k',KOk (keepR e p) f L rd k'∧AccLe L f e (keepR e p) k k'∧(j≤k→(j=k→(p.body.length:Int)≤spaceR e)→j<k')∧(EndC e L k→EndC (keepR e p) L k'):=by
 have hjl:=(List.getElem?_eq_some_iff.1 hj).1
 rcases h.got with ⟨_,_,_,_,_,g⟩|⟨hG,g⟩
 ·omega
 ·have hle:=hG.le
  unfold keepR
  split
  ·rename_i hold
   refine ⟨k,h.of rfl rfl rfl rfl (.inl rfl),.same rfl,fun h1 h2=> ?_,id⟩
   unfold keepOld keepD at hold
   rw [hseq,hG.base] at hold
   rcases Nat.lt_or_eq_of_le h1 with h1|rfl
   ·exact h1
   ·exfalso
    rcases hold with g1|g1|g1
    ·omega
    ·omega
    ·rw [Option.isSome_iff_exists] at g1
     obtain ⟨q,hq⟩:=g1
     obtain ⟨i,a,b,c,d,_⟩:=hG.kept _ (kept_mem hq)
     have:=(List.getElem?_eq_some_iff.1 c).1
     dsimp only at d
     omega
  ·rename_i hold
   split
   ·rename_i hno
    refine ⟨k,h.of rfl rfl rfl rfl (.inl rfl),.same rfl,fun h1 h2=> ?_,id⟩
    unfold keepNo keepD at hno
    rw [hseq,hG.base] at hno
    rcases Nat.lt_or_eq_of_le h1 with h1|rfl
    ·exact h1
    ·exfalso
     have hend:¬e.ended=true:=fun he=>by
      obtain ⟨_,a,m,b,c⟩:=hG.ended he
      have:=h4 _ _ b c
      omega
     have h3:=h2 rfl
     rcases hno with g1|g1|g1|g1
     ·exact hend (hs4 g1)
     ·exact hend g1
     ·omega
     ·omega
   ·rename_i hno
    unfold keepOld keepD at hold
    unfold keepNo keepD at hno
    rw [hseq,hG.base] at hold hno
    have h1:¬((f+ ↑j)%65536 - (f+ ↑k - 1)%65536)%65536=0:=fun g=>hold (.inl g)
    have h2:¬((f+ ↑j)%65536 - (f+ ↑k - 1)%65536)%65536≥32768:=fun g=>hold (.inr (.inl g))
    have h7:¬(kept? e.kept ((f+ ↑j)%65536)).isSome=true:=fun g=>hold (.inr (.inr g))
    have h3:¬e.ended=true:=fun g=>hno (.inr (.inl g))
    have h5:¬((f+ ↑j)%65536 - (f+ ↑k - 1)%65536)%65536>34:=fun g=>hno (.inr (.inr (.inl g)))
    have hjk:k≤j∧j<k+34:=by omega
    have hL0:GotL {e with answer:=true,kept:=e.kept++[(p.seq,p)]} f L rd k:=by
     refine ⟨hle,hG.base,hG.text,fun he=>absurd he h3,fun x hx=> ?_⟩
     rcases List.mem_append.1 hx with hx|hx
     ·obtain ⟨i,a,b,c,d,g⟩:=hG.kept x hx
      exact ⟨i,by omega,b,c,d,g⟩
     ·rw [List.mem_singleton.1 hx]
      exact ⟨j,hjk.1,hjk.2,hj,hseq,hk⟩
    have hnd:((({e with answer:=true,kept:=e.kept++[(p.seq,p)]}:E).kept).map (·.1)).Nodup:=by
     show ((e.kept++[(p.seq,p)]).map (·.1)).Nodup
     rw [List.map_append,List.nodup_append]
     refine ⟨h.nodup,by simp,fun a ha b hb=> ?_⟩
     obtain ⟨x,hx,rfl⟩:=List.mem_map.1 ha
     have hb:b=p.seq:=by simpa using hb
     rw [hb,hseq]
     have h8:kept? e.kept ((f+ ↑j)%65536)=none:=by
      cases hq:kept? e.kept ((f+ ↑j)%65536) with
      |none=>rfl
      |some z=>rw [hq] at h7;exact absurd rfl h7
     exact kept_none h8 x hx
    unfold passR
    obtain ⟨k',r1,r2,r3,r4,r5,r6⟩:=GotL.passK hL h4 (({e with answer:=true,kept:=e.kept++[(p.seq,p)]}:E).kept.length+1) {e with answer:=true,kept:=e.kept++[(p.seq,p)]} k (Nat.lt_succ_self _) hL0 hnd
    obtain ⟨fb,fk,fr,fd,hform⟩:∃b k r d,passGo (({e with answer:=true,kept:=e.kept++[(p.seq,p)]}:E).kept.length+1) {e with answer:=true,kept:=e.kept++[(p.seq,p)]}={e with answer:=true,base:=b,kept:=k,ready:=r,ended:=d}:=by
     obtain ⟨_,_,_,_,b,kk,r,d,q5⟩:=passGo_props (({e with answer:=true,kept:=e.kept++[(p.seq,p)]}:E).kept.length+1) {e with answer:=true,kept:=e.kept++[(p.seq,p)]} (by show 0≤e.base∧e.base<65536;rw [hG.base];omega)
     rw [q5]
     exact ⟨_,_,_,_,rfl⟩
    generalize passGo (({e with answer:=true,kept:=e.kept++[(p.seq,p)]}:E).kept.length+1) {e with answer:=true,kept:=e.kept++[(p.seq,p)]}=z at*
    have hz:z.state=e.state:=by rw [hform]
    refine ⟨k',⟨r3,.inr ⟨r1,by rw [hz];exact g⟩⟩,⟨r2,fun i hi hik=>r4 i hi ?_⟩,fun h8 _=> ?_,fun g=>r6 g⟩
    ·obtain ⟨x,hx,he⟩:=keyP_true.1 hik
     exact keyP_true.2 ⟨x,List.mem_append_left _ hx,he⟩
    ·have hjk2:j=k:=by omega
     subst hjk2
     refine r5 (keyP_true.2 ⟨(p.seq,p),List.mem_append_right _ (List.mem_singleton.2 rfl),hseq⟩) ?_
     cases hx:e.ended with
     |false=>rfl
     |true=>exact absurd hx h3
end Go.Proofs.Ytdgmcckfdgnicaa

set_option linter.unusedVariables false
set_option linter.unusedSimpArgs false
set_option maxRecDepth 20000
namespace Go.Proofs.Ytdgmcckfdgnicaa
open Go Go.Aw Go.Proofs
structure EndOk (e:E) (f:Int) (L:List Msg):Prop where
 gone:∀(i:Nat) (m:Msg),L[i]? =some m→m.1=4→f+i∈nums e∨e.done=true
 done:e.done=true→∃(i:Nat) (m:Msg),L[i]? =some m∧m.1=4
 sent:∀(i:Nat) (m:Msg),L[i]? =some m→m.1=4→e.state=3∨e.state=4
 not3:¬(e.state=3∧e.ended=true∧e.done=true)
 four:e.state=4→e.ended=true
def FlM (e:E) (f:Int) (L:List Msg):Prop:=∀p∈e.flight,∃i:Nat,L[i]? =some (msg p)∧p.number=f+i
structure EndP (e:E) (f:Int) (L:List Msg):Prop where
 fl:FlM e f L
 gone:∀(i:Nat) (m:Msg),L[i]? =some m→m.1=4→f+i∈nums e∨e.done=true
 done:e.done=true→∃(i:Nat) (m:Msg),L[i]? =some m∧m.1=4
theorem EndP.goneR {e:E} {f:Int} {L:List Msg} (h:EndP e f L) (n:Int):EndP (goneR e n) f L:=by
 have hn:=nums_gone e n
 unfold Go.Proofs.Ytdgmcckfdgnicaa.goneR at hn ⊢
 cases hi:e.flight.findIdx? (fun p=>p.number==n) with
 |none=>exact h
 | some i=>
  have hl:i<e.flight.length:=(List.findIdx?_eq_some_iff_findIdx_eq.1 hi).1
  rw [hi] at hn
  dsimp only at hn ⊢
  rw [List.getElem?_eq_getElem hl] at hn ⊢
  dsimp only at hn ⊢
  have hpn:e.flight[i].number=n:=by
   have:=(List.findIdx?_eq_some_iff_findIdx_eq.1 hi).2
   have h2:=List.findIdx_getElem (xs:=e.flight) (p:=fun p=>p.number==n) (w:=by rw [this];exact hl)
   simp only [this] at h2
   simpa using h2
  obtain ⟨j,hj,hjn⟩:=h.fl _ (List.getElem_mem hl)
  generalize e.flight[i]=p at*
  refine ⟨fun q hq=> ?_,fun i' m hm h4=> ?_,fun hd=> ?_⟩
  ·have hq:q∈(e.flight.take i).map bumpP++e.flight.drop (i+1):=hq
   rcases List.mem_append.1 hq with hq|hq
   ·obtain ⟨x,hx,rfl⟩:=List.mem_map.1 hq
    obtain ⟨h1,h2,h3,_⟩:=bump_body x
    obtain ⟨j,h4,h5⟩:=h.fl x (List.mem_of_mem_take hx)
    exact ⟨j,by rw [h4];unfold msg;rw [h1,h2],by rw [h3];exact h5⟩
   ·exact h.fl q (List.mem_of_mem_drop hq)
  ·rcases h.gone i' m hm h4 with g|g
   ·by_cases hx:f+(i':Int)=n
    ·right
     have:i'=j:=by omega
     subst this
     rw [hj] at hm
     have hk:p.kind=4:=by rw [← h4,←Option.some.inj hm];rfl
     show (e.done||p.kind==4)=true
     rw [hk];simp
    ·left
     rw [hn]
     exact (List.mem_erase_of_ne hx).2 g
   ·right
    show (e.done||p.kind==4)=true
    rw [g];rfl
  ·have hd:(e.done||p.kind==4)=true:=hd
   rw [Bool.or_eq_true] at hd
   rcases hd with hd|hd
   ·exact h.done hd
   ·exact ⟨j,_,hj,by unfold msg;simpa using hd⟩
theorem EndP.up {e:E} {f:Int} {L:List Msg} (h:EndP e f L):∀n,EndP (goneUp e n) f L
 |0=>h
 |n+1=>by rw [goneUp_succ];exact (EndP.up h n).goneR _
theorem EndP.mk_ {f:Int} {L:List Msg} (b:Int):∀(l:List Int) {e:E},EndP e f L→EndP (goneMk e b l) f L
 |[],e,h=>h
 |x::l,e,h=>EndP.mk_ b l (h.goneR (b+x))
theorem EndP.of {e e':E} {f:Int} {L:List Msg} (h:EndP e f L) (h1:e'.flight=e.flight) (h2:e'.done=e.done):EndP e' f L:=
 ⟨by unfold FlM;rw [h1];exact h.fl,by rw [nums_same h1,h2];exact h.gone,by rw [h2];exact h.done⟩
theorem EndP.ack {e:E} {f:Int} {L:List Msg} (h:EndP e f L) (ack:Int) (marks:List UInt8):EndP (ackR e ack marks) f L:=by
 unfold ackR
 split
 ·exact h
 ·exact EndP.mk_ _ _ ((h.up _).of rfl rfl)
structure TkS (e e':E) (p:Sg) (f:Int) (L:List Msg):Prop where
 fls:FlS e'
 sub:∀x∈nums e',x∈nums e
 gone:∀x∈nums e,x∉nums e'→(p.kind=2∨p.kind=3∨p.kind=4)∧e.state≠0∧(x≤ackTo e p.ack∨∃y∈namedI p.marks,x=ackTo e p.ack+y)
 prog:(p.kind=2∨p.kind=3∨p.kind=4)→(e.state=2∨e.state=3∨e.state=4)→ackTo e p.ack<e.next→∀x∈nums e',ackTo e p.ack<x
 endp:EndP e' f L
 nd:e'.done=false→e.done=false
 outs:(e'.outs=e.outs∨e'.outs=0)∧ (∀ x∈nums e,x∉nums e'→e'.outs=0)
 acked:e.acked≤e'.acked∧(e'.acked=e.acked∨(e'.acked=ackTo e p.ack∧(p.kind=2∨p.kind=3∨p.kind=4)∧ackTo e p.ack<e.next))∧((p.kind=2∨p.kind=3∨p.kind=4)→(e.state=2∨e.state=3∨e.state=4)→ackTo e p.ack<e.next→ackTo e p.ack≤e'.acked)
 sents:∀q'∈e'.flight,∃q∈e.flight,q'.sent=q.sent∧(q'.lost=false→q.lost=false)
 fl:(e'.flight=e.flight∧e'.outs=e.outs)∨(e'.outs=0∧e'.flight.length<e.flight.length)
theorem TkS.refl {e:E} {p:Sg} {f:Int} {L:List Msg} (h:FlS e) (hE:EndP e f L) (hk:¬((p.kind=2∨p.kind=3∨p.kind=4)∧(e.state=2∨e.state=3∨e.state=4))):TkS e e p f L:=
 ⟨h,fun _ h=>h,fun x h1 h2=>absurd h1 h2,fun h1 h2=>absurd ⟨h1,h2⟩ hk,hE,id,⟨.inl rfl,fun x h1 h2=>absurd h1 h2⟩,⟨Int.le_refl _,.inl rfl,fun h1 h2=>absurd ⟨h1,h2⟩ hk⟩,fun q hq=>⟨q,hq,rfl,id⟩,.inl ⟨rfl,rfl⟩⟩
theorem goneR_nd (e:E) (n:Int):(goneR e n).done=false→e.done=false:=by
 unfold goneR
 split
 ·exact id
 ·split
  ·exact id
  ·rename_i q _
   intro h
   have h:(e.done||q.kind==4)=false:=h
   rw [Bool.or_eq_false_iff] at h
   exact h.1
theorem ackR_nd (e:E) (a:Int) (m:List UInt8):(ackR e a m).done=false→e.done=false:=by
 have h1:∀n,(goneUp e n).done=false→e.done=false:=by
  intro n
  induction n with
  |zero=>exact id
  |succ n ih=>rw [goneUp_succ];exact fun h=>ih (goneR_nd _ _ h)
 have h2:∀(l:List Int) (b:Int) (x:E),(goneMk x b l).done=false→x.done=false:=by
  intro l
  induction l with
  |nil=>exact fun _ _=>id
  |cons y l ih=>exact fun b x h=>goneR_nd _ _ (ih b (goneR x (b+y)) h)
 unfold ackR
 split
 ·exact id
 ·intro h
  have h3:=h2 _ _ _ h
  exact h1 _ h3
def SubFl (e e':E):Prop:=∀q'∈e'.flight,∃q∈e.flight,q'.sent=q.sent∧(q'.lost=false→q.lost=false)
theorem SubFl.refl (e:E):SubFl e e:=fun q hq=>⟨q,hq,rfl,id⟩
theorem SubFl.trans {a b c:E} (h:SubFl a b) (g:SubFl b c):SubFl a c:=fun q hq=>by
 obtain ⟨q1,h1,h2,h3⟩:=g q hq
 obtain ⟨q2,g1,g2,g3⟩:=h q1 h1
 exact ⟨q2,g1,h2.trans g2,fun x=>g3 (h3 x)⟩
theorem goneR_sub (e:E) (n:Int):SubFl e (goneR e n):=by
 unfold goneR
 split
 ·exact .refl e
 ·split
  ·exact .refl e
  ·rename_i i _ _ p _
   intro q hq
   have hq:q∈(e.flight.take i).map bumpP++e.flight.drop (i+1):=hq
   rcases List.mem_append.1 hq with hq|hq
   ·obtain ⟨x,hx,rfl⟩:=List.mem_map.1 hq
    refine ⟨x,List.mem_of_mem_take hx,?_,fun h=> ?_⟩
    ·unfold bumpP;split<;> rfl
    ·cases hl:x.lost with
     |false=>rfl
     |true=>rw [(bump_body x).2.2.2 hl] at h;cases h
   ·exact ⟨q,List.mem_of_mem_drop hq,rfl,id⟩
theorem ackR_sub (e:E) (a:Int) (m:List UInt8):SubFl e (ackR e a m):=by
 have h1:∀n,SubFl e (goneUp e n):=by
  intro n
  induction n with
  |zero=>exact .refl e
  |succ n ih=>rw [goneUp_succ];exact ih.trans (goneR_sub _ _)
 have h2:∀(l:List Int) (b:Int) (x:E),SubFl x (goneMk x b l):=by
  intro l
  induction l with
  |nil=>exact fun _ x=> .refl x
  |cons y l ih=>exact fun b x=>(goneR_sub x (b+y)).trans (ih b (goneR x (b+y)))
 unfold ackR
 split
 ·exact .refl e
 ·have h3:=h1 (ackTo e a - e.acked).toNat
  have h4:=h2 (namedI m) (ackTo e a) {goneUp e (ackTo e a - e.acked).toNat with acked:=max e.acked (ackTo e a)}
  exact SubFl.trans (b:={goneUp e (ackTo e a - e.acked).toNat with acked:=max e.acked (ackTo e a)}) h3 h4
def OutZ (e e':E):Prop:=(e'.outs=e.outs∧nums e'=nums e)∨e'.outs=0
theorem OutZ.trans {a b c:E} (h:OutZ a b) (g:OutZ b c):OutZ a c:=by
 rcases g with ⟨g1,g2⟩|g
 ·rcases h with ⟨h1,h2⟩|h
  ·exact .inl ⟨g1.trans h1,g2.trans h2⟩
  ·exact .inr (g1.trans h)
 ·exact .inr g
def FlX (e e':E):Prop:=(e'.flight=e.flight∧e'.outs=e.outs)∨(e'.outs=0∧e'.flight.length<e.flight.length)
theorem FlX.trans {a b c:E} (h:FlX a b) (g:FlX b c):FlX a c:=by
 rcases g with ⟨g1,g2⟩|⟨g1,g2⟩
 ·rcases h with ⟨h1,h2⟩|⟨h1,h2⟩
  ·exact .inl ⟨g1.trans h1,g2.trans h2⟩
  ·exact .inr ⟨g2.trans h1,by rw [g1];exact h2⟩
 ·rcases h with ⟨h1,h2⟩|⟨h1,h2⟩
  ·exact .inr ⟨g1,by rw [← h1];exact g2⟩
  ·exact .inr ⟨g1,by omega⟩
theorem goneR_flx (e:E) (n:Int):FlX e (goneR e n):=by
 unfold goneR
 split
 ·exact .inl ⟨rfl,rfl⟩
 ·split
  ·exact .inl ⟨rfl,rfl⟩
  ·rename_i i _ _ q hq
   have hi:=(List.getElem?_eq_some_iff.1 hq).1
   refine .inr ⟨rfl,?_⟩
   show ((e.flight.take i).map bumpP++e.flight.drop (i+1)).length<_
   rw [List.length_append,List.length_map,List.length_take,List.length_drop]
   omega
theorem ackR_flx (e:E) (a:Int) (m:List UInt8):FlX e (ackR e a m):=by
 have h1:∀n,FlX e (goneUp e n):=by
  intro n
  induction n with
  |zero=>exact .inl ⟨rfl,rfl⟩
  |succ n ih=>rw [goneUp_succ];exact ih.trans (goneR_flx _ _)
 have h2:∀(l:List Int) (b:Int) (x:E),FlX x (goneMk x b l):=by
  intro l
  induction l with
  |nil=>exact fun _ x=> .inl ⟨rfl,rfl⟩
  |cons y l ih=>exact fun b x=>(goneR_flx x (b+y)).trans (ih b (goneR x (b+y)))
 unfold ackR
 split
 ·exact .inl ⟨rfl,rfl⟩
 ·exact FlX.trans (b:={goneUp e (ackTo e a - e.acked).toNat with acked:=max e.acked (ackTo e a)}) (h1 _) (h2 _ _ _)
theorem goneR_outz (e:E) (n:Int):OutZ e (goneR e n):=by
 unfold goneR
 split
 ·exact .inl ⟨rfl,rfl⟩
 ·split
  ·exact .inl ⟨rfl,rfl⟩
  ·exact .inr rfl
theorem ackR_outz (e:E) (a:Int) (m:List UInt8):OutZ e (ackR e a m):=by
 have h1:∀n,OutZ e (goneUp e n):=by
  intro n
  induction n with
  |zero=>exact .inl ⟨rfl,rfl⟩
  |succ n ih=>rw [goneUp_succ];exact ih.trans (goneR_outz _ _)
 have h2:∀(l:List Int) (b:Int) (x:E),OutZ x (goneMk x b l):=by
  intro l
  induction l with
  |nil=>exact fun _ x=> .inl ⟨rfl,rfl⟩
  |cons y l ih=>exact fun b x=>(goneR_outz x (b+y)).trans (ih b (goneR x (b+y)))
 unfold ackR
 split
 ·exact .inl ⟨rfl,rfl⟩
 ·exact OutZ.trans (b:={goneUp e (ackTo e a - e.acked).toNat with acked:=max e.acked (ackTo e a)}) (h1 _) (h2 _ _ _)
theorem TkS.ack {e e0:E} {p:Sg} {f:Int} {L:List Msg} (h:FlS e) (hE:EndP e f L) (h1:e0.flight=e.flight) (h2:e0.acked=e.acked) (h3:e0.next=e.next) (h4:e0.done=e.done) (h6:e0.outs=e.outs) (hk:p.kind=2∨p.kind=3∨p.kind=4) (hs:e.state≠0):TkS e (ackR e0 p.ack p.marks) p f L:=by
 have hT:ackTo e0 p.ack=ackTo e p.ack:=by unfold ackTo ackD;rw [h2]
 obtain ⟨g1,g2,g3⟩:=ackR_nums (h.of h1 h2) p.ack p.marks
 rw [nums_same h1,hT,h3] at g3
 refine ⟨g1,fun x hx=>((g3 x).1 hx).1,fun x hx hn=>⟨hk,hs,?_⟩,fun _ _ h5 x hx=> ?_,(hE.of h1 h4).ack _ _,fun g=>by rw [← h4];exact ackR_nd _ _ _ g,⟨?_,fun x hx hn=> ?_⟩,⟨?_,?_,fun _ _ g=> ?_⟩,fun q hq=> ?_,?_⟩
 ·by_cases c:ackTo e p.ack<e.next
  ·by_cases c1:x≤ackTo e p.ack
   ·exact .inl c1
   ·right
    by_cases c2:∃y∈namedI p.marks,x=ackTo e p.ack+y
    ·exact c2
    ·exact absurd ((g3 x).2 ⟨hx,fun _=>⟨c1,fun y hy he=>c2 ⟨y,hy,he⟩⟩⟩) hn
  ·exact absurd ((g3 x).2 ⟨hx,fun g=>absurd g c⟩) hn
 ·have:=(((g3 x).1 hx).2 h5).1
  omega
 ·rcases ackR_outz e0 p.ack p.marks with ⟨g,_⟩|g
  ·exact .inl (g.trans h6)
  ·exact .inr g
 ·rcases ackR_outz e0 p.ack p.marks with ⟨_,g⟩|g
  ·rw [g,nums_same h1] at hn;exact absurd hx hn
  ·exact g
 ·rw [g2,h2,hT,h3];split<;> omega
 ·rw [g2,h2,hT,h3]
  split
  ·exact .inl rfl
  ·rename_i c
   by_cases c2:e.acked≤ackTo e p.ack
   ·exact .inr ⟨by omega,hk,by omega⟩
   ·exact .inl (by omega)
 ·rw [g2,h2,hT,h3,if_neg (by omega)];omega
 ·obtain ⟨x,a,b⟩:=ackR_sub e0 p.ack p.marks q hq
  rw [h1] at a
  exact ⟨x,a,b⟩
 ·have:=ackR_flx e0 p.ack p.marks
  unfold FlX at this
  rw [h1,h6] at this
  exact this
theorem TkS.put {e e' e2:E} {p:Sg} {f:Int} {L:List Msg} (h:TkS e e' p f L) (h1:e2.flight=e'.flight) (h2:e2.acked=e'.acked) (h3:e2.done=e'.done) (h4:e2.outs=e'.outs):TkS e e2 p f L:=by
 have hn:=nums_same h1
 exact ⟨h.fls.of h1 h2,by rw [hn];exact h.sub,by rw [hn];exact h.gone,by rw [hn];exact h.prog,h.endp.of h1 h3,by rw [h3];exact h.nd,by rw [hn,h4];exact h.outs,by rw [h2];exact h.acked,by rw [h1];exact h.sents,by rw [h1,h4];exact h.fl⟩
end Go.Proofs.Ytdgmcckfdgnicaa
