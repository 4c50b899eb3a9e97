/-
  A part of the proof of a statement of this seat.
-/
import Derived.Test.YtdgmcckfdgnicaaUzM
set_option linter.unusedVariables false
set_option linter.unusedSimpArgs false
set_option maxRecDepth 20000
namespace Go.Proofs.Ytdgmcckfdgnicaa
open Go Go.Aw Go.Proofs
def sumN:Nat→(Nat→Nat)→Nat
 |0,_=>0
 |n+1,g=>sumN n g+g n
theorem sumN_succ {n:Nat} {g:Nat→Nat}:sumN (n+1) g=sumN n g+g n:=rfl
theorem sumN_congr {n:Nat} {g h:Nat→Nat} (e:∀i,i<n→g i=h i):sumN n g=sumN n h:=by
 induction n with
 |zero=>rfl
 |succ n ih=>
  rw [sumN_succ,sumN_succ,ih fun i hi=>e i (by omega),e n (by omega)]
theorem sumN_le {n:Nat} {g h:Nat→Nat} (e:∀i,i<n→g i≤h i):sumN n g≤sumN n h:=by
 induction n with
 |zero=>exact Nat.le_refl _
 |succ n ih=>
  rw [sumN_succ,sumN_succ]
  have:=ih fun i hi=>e i (by omega)
  have:=e n (by omega)
  omega
theorem sumN_add {n:Nat} {g h:Nat→Nat}:sumN n (fun i=>g i+h i)=sumN n g+sumN n h:=by
 induction n with
 |zero=>rfl
 |succ n ih=>rw [sumN_succ,sumN_succ,sumN_succ,ih];omega
theorem sumN_zero {n:Nat} {g:Nat→Nat} (e:∀i,i<n→g i=0):sumN n g=0:=by
 induction n with
 |zero=>rfl
 |succ n ih=>rw [sumN_succ,ih fun i hi=>e i (by omega),e n (by omega)]
theorem sumN_single {n j:Nat} {g:Nat→Nat} (hj:j<n):sumN n (fun i=>if i=j then g i else 0)=g j:=by
 induction n with
 |zero=>omega
 | succ n ih=>
  rw [sumN_succ]
  by_cases h:j=n
  ·subst h
   rw [if_pos rfl,sumN_zero fun i hi=>if_neg (by omega)]
   omega
  ·rw [ih (by omega),if_neg (show ¬n=j from fun e=>h e.symm)]
   omega
def lenM (L:List Msg) (i:Nat):Nat:=(L.getD i (0,[])).2.length
theorem lenM_some {L:List Msg} {i:Nat} {m:Msg} (h:L[i]? =some m):lenM L i=m.2.length:=by
 unfold lenM
 rw [List.getD_eq_getElem?_getD,h]
 rfl
theorem lenM_append {L X:List Msg} {i:Nat} (h:i<L.length):lenM (L++X) i=lenM L i:=by
 unfold lenM
 rw [List.getD_eq_getElem?_getD,List.getD_eq_getElem?_getD,List.getElem?_append_left h]
theorem bodies_take (L:List Msg):∀k,k≤L.length→(bodies (L.take k)).length=sumN k (lenM L)
 |0,_=>by simp [bodies,sumN]
 |k+1,h=>by
  rw [sumN_succ,←bodies_take L k (by omega),List.take_add_one,List.getElem?_eq_getElem (by omega),bodies_append,List.length_append,lenM_some (List.getElem?_eq_getElem (by omega:k<L.length))]
  simp [bodies]
theorem bodies_all (L:List Msg):(bodies L).length=sumN L.length (lenM L):=by
 rw [← bodies_take L L.length (Nat.le_refl _),List.take_length]
structure St where
 kp:Nat
 acc:Nat→Bool
structure St.le (a b:St):Prop where
 kp:a.kp≤b.kp
 acc:∀i,a.acc i=true→b.acc i=true
theorem St.le_refl (a:St):a.le a:=⟨Nat.le_refl _,fun _ h=>h⟩
theorem St.le.trans {a b c:St} (h:a.le b) (k:b.le c):a.le c:=⟨Nat.le_trans h.1 k.1,fun i g=>k.2 i (h.2 i g)⟩
def accB (L:List Msg) (acc:Nat→Bool):Nat:=sumN L.length fun i=>if acc i=true then lenM L i else 0
theorem accB_grow {L:List Msg} {m:Msg} {a:Nat→Bool} (h:a L.length=false):accB (L++[m]) a=accB L a:=by
 unfold accB
 rw [List.length_append,List.length_singleton]
 rw [sumN_succ]
 rw [h,if_neg (by simp)]
 rw [sumN_congr (h:=fun i=>if a i=true then lenM L i else 0) fun i hi=>by rw [lenM_append hi]]
 rfl
def keyP (f:Int) (kept:List (Int×Sg)) (i:Nat):Bool:=kept.any fun x=>x.1==(f+i)%65536
structure KeptOk (f:Int) (L:List Msg) (kept:List (Int×Sg)):Prop where
 mem:∀x∈kept,∃j:Nat,L[j]? =some (x.2.kind,x.2.body)∧x.1=(f+j)%65536
 nodup:(kept.map (·.1)).Nodup
theorem keyP_true {f:Int} {kept:List (Int×Sg)} {i:Nat}:keyP f kept i=true↔∃x∈kept,x.1=(f+i)%65536:=by
 unfold keyP
 rw [List.any_eq_true]
 constructor
 ·rintro ⟨x,hx,h⟩;exact ⟨x,hx,by simpa using h⟩
 ·rintro ⟨x,hx,h⟩;exact ⟨x,hx,by simpa using h⟩
theorem keyB_eq {f:Int} {L:List Msg} (hL:L.length≤60000):∀{kept:List (Int×Sg)},KeptOk f L kept→sumN L.length (fun i=>if keyP f kept i=true then lenM L i else 0)=keptB kept
 |[],h=>sumN_zero fun i _=>if_neg (by simp [keyP])
 | x ::t,h=>by
  obtain ⟨j,hj,hxj⟩:=h.mem x (List.mem_cons_self ..)
  have hjl:=(List.getElem?_eq_some_iff.1 hj).1
  have hn:=h.nodup
  rw [List.map_cons,List.nodup_cons] at hn
  have ih:=keyB_eq hL (kept:=t) ⟨fun y hy=>h.mem y (List.mem_cons_of_mem _ hy),hn.2⟩
  have hsplit:∀i,i<L.length→(if keyP f (x::t) i=true then lenM L i else 0)=(if i=j then lenM L i else 0)+(if keyP f t i=true then lenM L i else 0):=fun i hi=>by
   by_cases hij:i=j
   ·subst hij
    have h1:keyP f (x::t) i=true:=keyP_true.2 ⟨x,List.mem_cons_self ..,hxj⟩
    have h2:¬keyP f t i=true:=fun g=>by
     obtain ⟨y,hy,hyi⟩:=keyP_true.1 g
     exact hn.1 (List.mem_map.2 ⟨y,hy,by rw [hyi,hxj]⟩)
    rw [if_pos h1,if_pos rfl,if_neg h2];omega
   ·have h1:keyP f (x::t) i=keyP f t i:=by
     unfold keyP
     rw [List.any_cons]
     have:(x.1==(f+(i:Int))%65536)=false:=by
      rw [hxj]
      simp only [beq_eq_false_iff_ne,ne_eq]
      omega
     rw [this,Bool.false_or]
    rw [h1,if_neg hij];omega
  rw [sumN_congr hsplit,sumN_add,ih,sumN_single hjl,keptB_cons,lenM_some hj]
def nowSt (r:E) (f:Int) (L:List Msg) (k:Nat):St:=⟨k,fun i=>decide (i<k)||(decide (i<L.length)&&keyP f r.kept i)⟩
theorem nowSt_acc {r:E} {f:Int} {L:List Msg} {k i:Nat}:(nowSt r f L k).acc i=true↔i<k∨(i<L.length∧keyP f r.kept i=true):=by
 unfold nowSt
 simp
structure KInf (r:E) (f:Int) (L:List Msg) (k:Nat):Prop where
 le:k≤L.length
 kept:∀x∈r.kept,∃j:Nat,k<j∧j<k+34∧L[j]? =some (x.2.kind,x.2.body)∧x.1=(f+j)%65536
 nodup:(r.kept.map (·.1)).Nodup
theorem KInf.ok {r:E} {f:Int} {L:List Msg} {k:Nat} (h:KInf r f L k):KeptOk f L r.kept:=⟨fun x hx=>by obtain ⟨j,_,_,a,b⟩:=h.kept x hx;exact ⟨j,a,b⟩,h.nodup⟩
theorem KInf.key {r:E} {f:Int} {L:List Msg} {k i:Nat} (h:KInf r f L k) (hL:L.length≤60000) (hi:i<L.length) (hk:keyP f r.kept i=true):k<i∧i<k+34:=by
 obtain ⟨x,hx,he⟩:=keyP_true.1 hk
 obtain ⟨j,a,b,c,d⟩:=h.kept x hx
 have hjl:=(List.getElem?_eq_some_iff.1 c).1
 have:i=j:=by omega
 subst this
 exact ⟨a,b⟩
theorem KInf.bytes {r:E} {f:Int} {L:List Msg} {k:Nat} (h:KInf r f L k) (hL:L.length≤60000):accB L (nowSt r f L k).acc=(bodies (L.take k)).length+keptB r.kept:=by
 rw [bodies_take L k h.le,←keyB_eq hL h.ok]
 unfold accB
 have h1:sumN k (lenM L)=sumN L.length (fun i=>if i<k then lenM L i else 0):=by
  have hle:=h.le
  have:∀n,k≤n→sumN k (lenM L)=sumN n (fun i=>if i<k then lenM L i else 0):=by
   intro n
   induction n with
   |zero=>
    intro hk
    have:k=0:=by omega
    subst this;rfl
   | succ n ih=>
    intro hk
    by_cases hkn:k=n+1
    ·subst hkn
     exact sumN_congr fun i hi=>by rw [if_pos hi]
    ·rw [sumN_succ,ih (by omega)]
     rw [if_neg (by omega)]
     rfl
  exact this _ hle
 rw [h1,←sumN_add]
 refine sumN_congr fun i hi=> ?_
 by_cases hik:i<k
 ·have h2:¬keyP f r.kept i=true:=fun g=>by have:=h.key hL hi g;omega
  rw [if_pos (nowSt_acc.2 (.inl hik)),if_pos hik,if_neg h2];omega
 ·rw [if_neg hik]
  by_cases hk2:keyP f r.kept i=true
  ·rw [if_pos (nowSt_acc.2 (.inr ⟨hi,hk2⟩)),if_pos hk2];omega
  ·rw [if_neg (fun g=>by
    rcases nowSt_acc.1 g with g|g
    ·exact hik g
    ·exact hk2 g.2),if_neg hk2]
theorem nodup_lt:∀(n:Nat) (l:List Nat),l.Nodup→ (∀ x∈l,x<n)→l.length≤n
 |0,l,_,h=>by
  cases l with
  |nil=>exact Nat.le_refl _
  |cons x l=>exact absurd (h x (List.mem_cons_self ..)) (Nat.not_lt_zero _)
 | n+1,l,hn,h=>by
  have h1:=nodup_lt n (l.erase n) (hn.erase n) fun x hx=>by
   have hm:=(hn.mem_erase_iff).1 hx
   have:=h x hm.2
   have:=hm.1
   omega
  by_cases hm:n∈l
  ·have:=List.length_erase_of_mem hm;omega
  ·rw [List.erase_of_not_mem hm] at h1;omega
theorem KInf.few {r:E} {f:Int} {L:List Msg} {k:Nat} (h:KInf r f L k):r.kept.length≤34:=by
 have h1:(r.kept.map fun x=>((x.1 - (f+k))%65536).toNat).Nodup:=by
  have h2:=h.nodup
  have h3:∀(l:List (Int×Sg)),(l.map (·.1)).Nodup→ (∀ x∈l,0≤x.1∧x.1<65536)→(l.map fun x=>((x.1 - (f+k))%65536).toNat).Nodup:=by
   intro l
   induction l with
   |nil=>intro _ _;exact .nil
   |cons x l ih=>
    intro hn hr
    rw [List.map_cons,List.nodup_cons] at hn ⊢
    refine ⟨fun hm=>hn.1 ?_,ih hn.2 fun y hy=>hr y (List.mem_cons_of_mem _ hy)⟩
    obtain ⟨y,hy,he⟩:=List.mem_map.1 hm
    refine List.mem_map.2 ⟨y,hy,?_⟩
    have:=hr x (List.mem_cons_self ..)
    have:=hr y (List.mem_cons_of_mem _ hy)
    omega
  refine h3 _ h2 fun x hx=> ?_
  obtain ⟨j,_,_,_,hj⟩:=h.kept x hx
  rw [hj];omega
 have h2:=nodup_lt 34 _ h1 fun z hz=>by
  obtain ⟨x,hx,rfl⟩:=List.mem_map.1 hz
  obtain ⟨j,a,b,_,hj⟩:=h.kept x hx
  rw [hj]
  omega
 simpa using h2
def Chn (R:Sg→St→Prop) (fin:St):St→List Sg→Prop
 |s0,[]=>s0.le fin
 |s0,p::l=>∃st,s0.le st∧R p st∧Chn R fin st l
theorem Chn.fin_le {R:Sg→St→Prop} {fin:St}:∀{l:List Sg} {s0:St},Chn R fin s0 l→s0.le fin
 |[],s0,h=>h
 |p::l,s0,⟨st,h1,_,h3⟩=>h1.trans (Chn.fin_le h3)
theorem Chn.mono {R R':Sg→St→Prop} {fin fin':St} (hf:fin.le fin') (hR:∀p st,st.le fin→R p st→R' p st):∀{l:List Sg} {s0:St},Chn R fin s0 l→Chn R' fin' s0 l
 |[],s0,h=>h.trans hf
 |p::l,s0,⟨st,h1,h2,h3⟩=>⟨st,h1,hR p st (Chn.fin_le h3) h2,Chn.mono hf hR h3⟩
theorem Chn.snoc {R:Sg→St→Prop} {fin:St} {p:Sg} (hp:R p fin):∀{l:List Sg} {s0:St},Chn R fin s0 l→Chn R fin s0 (l++[p])
 |[],s0,h=>⟨fin,h,hp,fin.le_refl⟩
 |q::l,s0,⟨st,h1,h2,h3⟩=>⟨st,h1,h2,Chn.snoc hp h3⟩
theorem Chn.append {R:Sg→St→Prop} {fin:St}:∀{m l:List Sg} {s0:St},(∀ p∈m,R p fin)→Chn R fin s0 l→Chn R fin s0 (l++m)
 |[],l,s0,_,h=>by rw [List.append_nil];exact h
 |p::m,l,s0,hm,h=>by
  rw [show l++p::m=(l++[p])++m by simp]
  exact Chn.append (fun q hq=>hm q (List.mem_cons_of_mem _ hq)) (Chn.snoc (hm p (List.mem_cons_self ..)) h)
end Go.Proofs.Ytdgmcckfdgnicaa

set_option linter.unusedVariables false
set_option linter.unusedSimpArgs false
set_option maxRecDepth 20000
namespace Go.Proofs.Ytdgmcckfdgnicaa
open Go Go.Aw Go.Proofs
theorem lbit_set {c:List UInt8} {i n:Nat} (h:lbit (setB c i) n=true):lbit c n=true∨n=i:=by
 unfold lbit setB at h
 rw [List.getD_eq_getElem?_getD,List.getElem?_set] at h
 by_cases hd:i / 8=n / 8
 ·rw [if_pos hd] at h
  by_cases hl:i / 8<c.length
  ·rw [if_pos hl] at h
   simp only [Option.getD_some] at h
   have h256:(c.getD (i / 8) 0).toNat<256:=(c.getD (i / 8) 0).toNat_lt
   have hp:2 ^ (i%8)<256:=by
    have:i%8<8:=Nat.mod_lt _ (by omega)
    exact Nat.pow_lt_pow_right (by omega) this
   rw [orOf h256 hp,Nat.testBit_or,Bool.or_eq_true] at h
   rcases h with h|h
   ·left
    unfold lbit
    rw [← hd];exact h
   ·right
    rw [Nat.testBit_two_pow] at h
    simp at h
    omega
  ·rw [if_neg hl] at h
   simp at h
 ·rw [if_neg hd] at h
  left
  unfold lbit
  rw [List.getD_eq_getElem?_getD]
  exact h
theorem lbit_fold {n:Nat}:∀(far:List Nat) (c:List UInt8),lbit (far.foldl setB c) n=true→lbit c n=true∨n∈far
 |[],c,h=> .inl h
 | i::far,c,h=>by
  rcases lbit_fold far (setB c i) h with g|g
  ·rcases lbit_set g with g|g
   ·exact .inl g
   ·exact .inr (by rw [g];exact List.mem_cons_self ..)
  ·exact .inr (List.mem_cons_of_mem _ g)
theorem lbit_zero (n:Nat):lbit [0,0,0,0] n=false:=by
 have:([0,0,0,0]:List UInt8).getD (n / 8) 0=0:=by
  rcases (by omega:n / 8=0∨n / 8=1∨n / 8=2∨n / 8=3∨4≤n / 8) with h|h|h|h|h
  ·rw [h];rfl
  ·rw [h];rfl
  ·rw [h];rfl
  ·rw [h];rfl
  ·rw [List.getD_eq_getElem?_getD,List.getElem?_eq_none (by simpa using h)];rfl
 unfold lbit
 rw [this]
 simp
theorem marks_far {far:List Nat} {x:Int} (h:x∈namedI (markB (lowF far))):∃j∈far,x=(j:Int)+2:=by
 unfold namedI at h
 obtain ⟨n,hn,rfl⟩:=List.mem_map.1 h
 unfold namedN at hn
 rw [List.mem_filter,List.mem_range] at hn
 obtain ⟨h1,h2⟩:=hn
 have h3:lbit (bytes4 (lowF far)) n=true:=by
  have hl:n / 8<(markB (lowF far)).length:=by omega
  unfold lbit at h2 ⊢
  unfold markB at h2 hl
  rw [List.length_take] at hl
  rw [List.getD_eq_getElem?_getD,List.getElem?_take_of_lt (by omega)] at h2
  rw [List.getD_eq_getElem?_getD]
  exact h2
 rcases lbit_fold _ _ h3 with g|g
 ·rw [lbit_zero] at g;cases g
 ·unfold lowF at g
  exact ⟨n,(List.mem_filter.1 g).1,rfl⟩
def nums (e:E):List Int:=e.flight.map fun p=>p.number
theorem nums_gone (e:E) (n:Int):nums (goneR e n)=(nums e).erase n:=by
 have h0:(nums e).erase n=match e.flight.findIdx? (fun p=>p.number==n) with|none=>nums e|some i=>(nums e).eraseIdx i:=by
  rw [List.erase_eq_eraseP,List.eraseP_eq_eraseIdx]
  unfold nums
  rw [List.findIdx?_map]
  have:((fun x=>n==x)∘fun p:Pk=>p.number)=fun p:Pk=>p.number==n:=by
   funext p
   show (n==p.number)=(p.number==n)
   by_cases hp:n=p.number
   ·rw [hp]
   ·rw [beq_false_of_ne hp,beq_false_of_ne (fun g=>hp g.symm)]
  rw [this]
  cases e.flight.findIdx? (fun p=>p.number==n)<;> rfl
 rw [h0]
 unfold goneR
 cases hi:e.flight.findIdx? (fun p=>p.number==n) with
 |none=>rfl
 | some i=>
  have hl:i<e.flight.length:=by
   have:=List.findIdx?_eq_some_iff_findIdx_eq.1 hi
   exact this.1
  dsimp only
  rw [List.getElem?_eq_getElem hl]
  dsimp only
  unfold nums goneAt
  rw [List.map_append,List.map_map,List.eraseIdx_eq_take_drop_succ,←List.map_take,←List.map_drop]
  congr 2
  funext p
  exact (bump_body p).2.2.1
theorem nums_same {e e':E} (h:e'.flight=e.flight):nums e'=nums e:=by unfold nums;rw [h]
def Srt (e:E):Prop:=(nums e).Pairwise (· < ·)
theorem Srt.nodup {e:E} (h:Srt e):(nums e).Nodup:=h.imp fun h g=>by omega
theorem Srt.gone {e:E} (h:Srt e) (n:Int):Srt (goneR e n):=by
 unfold Srt
 rw [nums_gone]
 exact h.sublist (List.erase_sublist ..)
theorem mem_gone {e:E} (h:Srt e) {n x:Int}:x∈nums (goneR e n)↔x≠n∧x∈nums e:=by
 rw [nums_gone]
 exact h.nodup.mem_erase_iff
theorem Srt.up {e:E} (h:Srt e):∀n,Srt (goneUp e n)
 |0=>h
 |n+1=>by rw [goneUp_succ];exact (Srt.up h n).gone _
theorem mem_up {e:E} (h:Srt e) {x:Int}:∀n:Nat,x∈nums (goneUp e n)↔x∈nums e∧¬(e.acked<x∧x≤e.acked+n)
 |0=>by
  constructor
  ·intro g;exact ⟨g,by omega⟩
  ·intro g;exact g.1
 |n+1=>by
  rw [goneUp_succ,mem_gone (h.up n),mem_up h n]
  constructor
  ·rintro ⟨a,b,c⟩;exact ⟨b,by omega⟩
  ·rintro ⟨a,b⟩;exact ⟨by omega,a,by omega⟩
theorem Srt.mk_ (b:Int):∀(l:List Int) {e:E},Srt e→Srt (goneMk e b l)
 |[],e,h=>h
 |x::l,e,h=>Srt.mk_ b l (h.gone (b+x))
theorem mem_mk (b:Int) {x:Int}:∀(l:List Int) {e:E},Srt e→(x∈nums (goneMk e b l)↔x∈nums e∧∀y∈l,x≠b+y)
 |[],e,h=>by
  constructor
  ·intro g;exact ⟨g,by simp⟩
  ·intro g;exact g.1
 | y::l,e,h=>by
  have ih:=mem_mk b (x:=x) l (e:=goneR e (b+y)) (h.gone _)
  show x∈nums (goneMk (goneR e (b+y)) b l)↔_
  rw [ih,mem_gone h]
  constructor
  ·rintro ⟨⟨a,c⟩,d⟩
   refine ⟨c,fun z hz=> ?_⟩
   rcases List.mem_cons.1 hz with rfl|hz
   ·exact a
   ·exact d z hz
  ·rintro ⟨a,c⟩
   exact ⟨⟨c y (List.mem_cons_self ..),a⟩,fun z hz=>c z (List.mem_cons_of_mem _ hz)⟩
structure FlS (e:E):Prop where
 srt:Srt e
 above:∀x∈nums e,e.acked<x
theorem FlS.of {e e':E} (h:FlS e) (h1:e'.flight=e.flight) (h2:e'.acked=e.acked):FlS e':=by
 have:=nums_same h1
 exact ⟨by unfold Srt;rw [this];exact h.srt,by rw [this,h2];exact h.above⟩
theorem ackR_nums {e:E} (h:FlS e) (ack:Int) (marks:List UInt8):FlS (ackR e ack marks)∧(ackR e ack marks).acked=(if ackTo e ack≥e.next then e.acked else max e.acked (ackTo e ack))∧
  ∀x,x∈nums (ackR e ack marks)↔x∈nums e∧(ackTo e ack<e.next→¬x≤ackTo e ack∧∀y∈namedI marks,x≠ackTo e ack+y):=by
 unfold ackR
 by_cases c:ackTo e ack≥e.next
 ·rw [if_pos c,if_pos c]
  exact ⟨h,rfl,fun x=>⟨fun g=>⟨g,fun g2=>by omega⟩,fun g=>g.1⟩⟩
 ·rw [if_neg c,if_neg c]
  have h1:=h.srt.up (ackTo e ack - e.acked).toNat
  have h2:Srt {goneUp e (ackTo e ack - e.acked).toNat with acked:=max e.acked (ackTo e ack)}:=h1
  have h3:=fun x=>mem_mk (ackTo e ack) (x:=x) (namedI marks) h2
  have h4:=fun x=>mem_up h.srt (x:=x) (ackTo e ack - e.acked).toNat
  have hac:(goneMk {goneUp e (ackTo e ack - e.acked).toNat with acked:=max e.acked (ackTo e ack)} (ackTo e ack) (namedI marks)).acked=max e.acked (ackTo e ack):=(goneMk_same _ _ _).1
  have h5:∀x,x∈nums (goneMk {goneUp e (ackTo e ack - e.acked).toNat with acked:=max e.acked (ackTo e ack)} (ackTo e ack) (namedI marks))↔x∈nums e∧(ackTo e ack<e.next→¬x≤ackTo e ack∧∀y∈namedI marks,x≠ackTo e ack+y):=fun x=>by
   rw [h3 x]
   show (x∈nums (goneUp e (ackTo e ack - e.acked).toNat)∧_)↔_
   rw [h4 x]
   constructor
   ·rintro ⟨⟨a,b⟩,d⟩
    have:=h.above x a
    exact ⟨a,fun _=>⟨by omega,d⟩⟩
   ·rintro ⟨a,b⟩
    obtain ⟨b1,b2⟩:=b (by omega)
    exact ⟨⟨a,by omega⟩,b2⟩
  refine ⟨⟨Srt.mk_ _ _ h2,fun x hx=> ?_⟩,hac,h5⟩
  rw [hac]
  obtain ⟨a,b⟩:=(h5 x).1 hx
  have:=h.above x a
  have:=(b (by omega)).1
  omega
end Go.Proofs.Ytdgmcckfdgnicaa
