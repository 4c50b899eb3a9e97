/-
  A part of the proof of a statement of this seat.
-/
import Derived.Test.YthcdjconlfdidaaGreatDoorQL
import Derived.Test.YthcdjconlfdidaaGreatDoorEYM
import Derived.Test.YthcdjconlfdidaaGreatDoorEK
import Derived.Test.YthcdjconlfdidaaGreatDoorQM
import Derived.Test.YthcdjconlfdidaaGreatDoorAwC
set_option linter.unusedVariables false
set_option linter.unusedSimpArgs false
set_option maxRecDepth 20000
namespace Go.Proofs.YthcdjconlfdidaaGreatDoor
open Go Go.Aw Go.Proofs
mutual
def msr:BV→Nat
 | .mk _ _ s kids keys=>30+(BV.wText s).length+keysW keys+msrL kids
def msrL:List BV→Nat
 |[]=>0
 |v::l=>msr v+msrL l
end
theorem msr_mk (k n:Int) (s:List UInt8) (kids:List BV) (keys:List Tx):msr (.mk k n s kids keys)=30+(BV.wText s).length+keysW keys+msrL kids:=by rw [msr]
theorem msr_withL (v:BV) (kids:List BV) (keys:List Tx):msr (withL v kids keys)+keysW v.keys+msrL v.kids=msr v+keysW keys+msrL kids:=by
 obtain ⟨k,n,s,l,m⟩:=v
 unfold withL
 rw [msr_mk,msr_mk]
 show 30+(BV.wText s).length+keysW keys+msrL kids+keysW m+msrL l=30+(BV.wText s).length+keysW m+msrL l+keysW keys+msrL kids
 omega
theorem msrL_app:∀(l m:List BV),msrL (l++m)=msrL l+msrL m
 |[],m=>by rw [List.nil_append,msrL];omega
 |v::l,m=>by rw [List.cons_append,msrL,msrL,msrL_app l m];omega
theorem msrL_set:∀(l:List BV) (i:Nat) (x:BV) (h:i<l.length),msrL (l.set i x)+msr l[i]=msrL l+msr x
 |v::l,0,x,h=>by rw [List.set_cons_zero,msrL,msrL];show msr x+msrL l+msr v=_;omega
 |v::l,i+1,x,h=>by
  rw [List.set_cons_succ,msrL,msrL]
  have:=msrL_set l i x (by simpa using h)
  show msr v+msrL (l.set i x)+msr (l[i]'(by simpa using h))=_
  omega
theorem msrL_ins (l:List BV) (i:Nat) (x:BV):msrL (insAt l i x)=msrL l+msr x:=by
 unfold insAt
 rw [msrL_app,msrL]
 have:=msrL_app (l.take i) (l.drop i)
 rw [List.take_append_drop] at this
 omega
theorem keysW_app (l m:List Tx):keysW (l++m)=keysW l+keysW m:=by
 unfold keysW;rw [List.map_append,List.sum_append]
theorem keysW_ins (l:List Tx) (i:Nat) (t:Tx):keysW (insAt l i t)=keysW l+(BV.wText t).length:=by
 unfold insAt
 rw [keysW_app]
 have:=keysW_app (l.take i) (l.drop i)
 rw [List.take_append_drop] at this
 have h2:keysW (t::l.drop i)=(BV.wText t).length+keysW (l.drop i):=by unfold keysW;rw [List.map_cons,List.sum_cons]
 omega
theorem msrL_mem:∀{l:List BV} {c:BV},c∈l→msr c≤msrL l
 |v::l,c,h=>by
  rw [msrL]
  rcases List.mem_cons.1 h with rfl|h
  ·omega
  ·have:=msrL_mem h;omega
theorem msrL_ge:∀(l:List BV),l.length≤msrL l
 |[]=>by simp
 |v::l=>by
  rw [msrL,List.length_cons]
  have:=msrL_ge l
  obtain ⟨k,n,s,kids,keys⟩:=v
  rw [msr_mk];omega
theorem keysW_ge (keys:List Tx):keys.length≤keysW keys:=by
 unfold keysW
 induction keys with
 |nil=>simp
 |cons x l ih=>
  rw [List.map_cons,List.sum_cons,List.length_cons,wText_len]
  omega
mutual
theorem write_msr:∀(v:BV),v.nums→v.write.length≤msr v
 | .mk k n s kids keys,h=>by
  unfold BV.nums at h
  rw [msr_mk,BV.write]
  have hL:=writeL_msr kids h.2
  have hD:=writeD_bound keys kids
  have hi:=itoa_le n h.1.1 h.1.2
  split
  ·simp only [List.length_cons,List.length_append,List.length_nil];omega
  ·split
   ·omega
   ·split
    ·simp only [List.length_cons,List.length_append,List.length_nil];omega
    ·simp only [List.length_cons,List.length_append,List.length_nil];omega
theorem writeL_msr:∀(l:List BV),BV.numsL l→(BV.writeL l).length≤msrL l
 |[],_=>by simp [BV.writeL]
 |v::l,h=>by
  unfold BV.numsL at h
  rw [BV.writeL,msrL,List.length_append]
  have:=write_msr v h.1
  have:=writeL_msr l h.2
  omega
end
theorem msr_write (v:BV):v.form=true→msr v≤40*v.write.length:=by
 refine BV.ind (P:=fun v=>v.form=true→msr v≤40*v.write.length) (fun k n s kids keys ih hf=> ?_) v
 rw [form_shape,Bool.and_eq_true] at hf
 have hw:=write_len k n s kids keys hf.1
 have hL:msrL kids≤40*(BV.writeL kids).length:=by
  have hfl:=BV.formL_iff.1 hf.2
  clear hw hf
  induction kids with
  |nil=>simp [msrL]
  |cons v l ihl=>
   rw [msrL,BV.writeL,List.length_append]
   have h1:=ih v (by simp) (hfl v (by simp))
   have h2:=ihl (fun c hc=>ih c (by simp [hc])) (fun c hc=>hfl c (by simp [hc]))
   omega
 rw [msr_mk]
 have hs:=hf.1
 unfold shapeB at hs
 dsimp only at hs
 by_cases h2:k=2
 ·subst h2
  have hd:kids=[]∧keys=[]:=by
   rw [if_neg (by decide),if_pos rfl] at hs
   simp only [Bool.and_eq_true,decide_eq_true_eq,List.isEmpty_iff] at hs
   simp_all
  have e:(BV.mk 2 n s kids keys).write=BV.wText s:=by rw [BV.write,if_neg (by decide),if_pos rfl]
  rw [e] at hw ⊢
  have:1≤(BV.wText s).length:=by rw [wText_len];omega
  have hk:keysW keys=0:=by rw [hd.2];rfl
  have hm0:msrL kids=0:=by rw [hd.1,msrL]
  omega
 ·have hs0:s=[]∨(BV.wText s).length≤own k n s+2:=by
   by_cases h1:k=1
   ·rw [if_pos h1] at hs;simp at hs;simp_all
   ·rw [if_neg h1,if_neg h2] at hs
    by_cases h3:k=3
    ·rw [if_pos h3] at hs;simp at hs;simp_all
    ·rw [if_neg h3] at hs
     by_cases h4:k=4
     ·rw [if_pos h4] at hs;unfold dictB at hs;simp at hs;simp_all
     ·rw [if_neg h4] at hs;cases hs
  have h3:(BV.wText s).length≤own k n s+2:=by
   rcases hs0 with rfl|h
   ·have:(BV.wText []).length=2:=by kernel_rfl
    omega
   ·exact h
  omega
theorem sz_msr (v:BV):msr v≤1099511627775→szV v:=by
 refine BV.ind (P:=fun v=>msr v≤1099511627775→szV v) (fun k n s kids keys ih h=> ?_) v
 rw [msr_mk] at h
 have h1:=msrL_ge kids
 have h2:=keysW_ge keys
 unfold szV
 exact ⟨by omega,by omega,szL_iff.2 fun c hc=>ih c hc (by have:=msrL_mem hc;omega)⟩
theorem Fine.of_msr {v:BV} (hn:v.nums) (h:msr v≤1099511627775):Fine v:=⟨sz_msr v h,hn,by have:=write_msr v hn;omega⟩
theorem nums_kids {v:BV}:v.nums↔ (-9223372036854775808≤v.num∧v.num≤9223372036854775807)∧∀c∈v.kids,c.nums:=by
 obtain ⟨k,n,s,kids,keys⟩:=v
 have e:(BV.mk k n s kids keys).nums=((-9223372036854775808≤n∧n≤9223372036854775807)∧BV.numsL kids):=by rw [BV.nums]
 rw [e,BV.numsL_iff]
 exact Iff.rfl
theorem nums_withL {v:BV} {kids:List BV} {keys:List Tx} (h:v.nums) (hk:∀c∈kids,c.nums):(withL v kids keys).nums:=by
 rw [nums_kids] at h ⊢
 exact ⟨h.1,hk⟩
theorem setL_bound (x v:BV) (t:Tx) (hg:Good v) (hn:v.nums) (hx:x.nums):msr (setL x v t).1≤msr v+msr x+(BV.wText t).length∧(setL x v t).1.nums:=by
 have hk:=(nums_kids.1 hn).2
 unfold setL
 by_cases e0:(stepR v t).2=0
 ·obtain ⟨i,hi,hie⟩:=stepR_ok hg.form e0
  rw [if_pos e0,hie,Int.toNat_natCast]
  have h1:=msr_withL v (v.kids.set i x) v.keys
  have h2:=msrL_set v.kids i x hi
  refine ⟨by dsimp only;omega,nums_withL hn fun c hc=> ?_⟩
  rcases List.mem_or_eq_of_mem_set hc with h|rfl
  ·exact hk c h
  ·exact hx
 rw [if_neg e0]
 split
 ·have h1:=msr_withL v (insAt v.kids (lowAt v.keys t) x) (insAt v.keys (lowAt v.keys t) t)
  rw [msrL_ins,keysW_ins] at h1
  refine ⟨by dsimp only;omega,nums_withL hn fun c hc=> ?_⟩
  unfold insAt at hc
  rcases List.mem_append.1 hc with h|h
  ·exact hk c (List.mem_of_mem_take h)
  ·rcases List.mem_cons.1 h with rfl|h
   ·exact hx
   ·exact hk c (List.mem_of_mem_drop h)
 ·split
  ·have h1:=msr_withL v (v.kids++[x]) v.keys
   rw [msrL_app] at h1
   have h2:msrL [x]=msr x:=by rw [msrL,msrL];omega
   refine ⟨by dsimp only;omega,nums_withL hn fun c hc=> ?_⟩
   rcases List.mem_append.1 hc with h|h
   ·exact hk c h
   ·rw [List.mem_singleton.1 h];exact hx
  ·exact ⟨by dsimp only;omega,hn⟩
theorem chR_bound (x:BV) (hx:x.nums):∀(p:List Tx) (v:BV),Good v→v.nums→msr (chR (setL x) v p).1≤msr v+msr x+keysW p∧(chR (setL x) v p).1.nums
 |[],v,hg,hn=>by rw [chR];exact ⟨by dsimp only;omega,hn⟩
 | t::p,v,hg,hn=>by
  have hkt:keysW (t::p)=(BV.wText t).length+keysW p:=by unfold keysW;rw [List.map_cons,List.sum_cons]
  rw [chR]
  by_cases hp:p=[]
  ·rw [if_pos hp]
   have:=setL_bound x v t hg hn hx
   exact ⟨by omega,this.2⟩
  ·rw [if_neg hp]
   by_cases e0:(stepR v t).2=0
   ·obtain ⟨i,hi,hie⟩:=stepR_ok hg.form e0
    rw [if_pos e0,hie,Int.toNat_natCast,getD_mem hi]
    have hk:=(nums_kids.1 hn).2
    have ih:=chR_bound x hx p v.kids[i] (hg.kid (List.getElem_mem hi)) (hk _ (List.getElem_mem hi))
    have h1:=msr_withL v (v.kids.set i (chR (setL x) v.kids[i] p).1) v.keys
    have h2:=msrL_set v.kids i (chR (setL x) v.kids[i] p).1 hi
    refine ⟨by dsimp only;omega,nums_withL hn fun c hc=> ?_⟩
    rcases List.mem_or_eq_of_mem_set hc with h|rfl
    ·exact hk c h
    ·exact ih.2
   ·rw [if_neg e0]
    exact ⟨by dsimp only;omega,hn⟩
theorem put_fine {x v:BV} {p:List Tx} (hv:v.valid=true) (hx:x.valid=true) (nv:v.nums) (nx:x.nums) (hp:keysW p≤1000000):Fine (putR x v p).1:=by
 have kv:=OkV.of_valid hv nv
 have kx:=OkV.of_valid hx nx
 have mv:=msr_write v kv.form
 have mx:=msr_write x kx.form
 have lv:=kv.len
 have lx:=kx.len
 unfold putR
 split
 ·exact kx.fine
 ·have:=chR_bound x nx p v ⟨kv.fine.sz,kv.form⟩ nv
  exact Fine.of_msr this.2 (by omega)
theorem short_keysW {p:List Tx} (h:shortB p=true):keysW p≤6420:=by
 unfold shortB at h
 rw [Bool.and_eq_true,decide_eq_true_eq,List.all_eq_true] at h
 have:=keysW_bound p (by
  rw [List.any_eq_false]
  intro t ht
  have:=h.1 t ht
  simp at this ⊢
  omega)
 omega
end Go.Proofs.YthcdjconlfdidaaGreatDoor

set_option linter.unusedVariables false
set_option linter.unusedSimpArgs false
set_option maxRecDepth 20000
set_option maxHeartbeats 4000000
namespace Go.Proofs.YthcdjconlfdidaaGreatDoor
open Go Go.Aw Go.Proofs
def PartP (lo:Nat) (H:AHeap) (p:List Tx) (v:Value):Prop:=
 ∃q z,v= .slice (some ⟨q,0,none⟩) p.length p.length∧H[q]? =some (.cells (strsC p) ⟨9,z,true,0,none⟩)∧((z=1∧p≠[])∨(z=0∧p=[]))∧lo≤q
def RQ (lo:Nat) (vp:Value) (p:List Tx) (k:Tx) (cx:List Value) (w:BV) (e:Int) (i:Nat) (E:List (Nat×Value)) (H:AHeap):Prop:=
 match i with
 |0=>lk 105 E=some (.agg ⟨cx⟩)
 |1=>∃q,lk 106 E=some (.slice (some ⟨q,0,none⟩) 0 0)∧H[q]? =some (.cells [] ⟨9,0,true,0,none⟩)∧lo≤q
 |2=>lk 107 E=some vp
 |3=>∃v,lk 108 E=some v∧PartP lo H p v
 |4=>lk 109 E=some (.string (bs k))
 |5=>∃q,lk 110 E=some (.slice (some ⟨q,0,none⟩) 1 1)∧H[q]? =some (.cells [.string (bs k)] ⟨9,0,true,0,none⟩)∧lo≤q
 |6=>∃q,lk 111 E=some (.slice (some ⟨q,0,none⟩) (p.length+1) (p.length+1))∧H[q]? =some (.cells (strsC (p++[k])) ⟨9,1,true,0,none⟩)∧lo≤q
 |7=>∃cz,lk 112 E=some (.tuple ⟨[.agg ⟨cz⟩,.int .i64 e]⟩)∧RdV H w cz
 |8=>∃cz,lk 104 E=some (.tuple ⟨[.agg ⟨cz⟩,.int .i64 e]⟩)∧RdV H w cz
 |9=>∃cz,lk 113 E=some (.agg ⟨cz⟩)∧RdV H w cz
 |10=>lk 114 E=some (.int .i64 e)
 |11=>∃q cs,lk 18 E=some (.pointer (some ⟨q,0,none⟩))∧H[q]? =some (.cells cs ⟨27,0,true,0,none⟩)∧cs.length=5∧lo≤q
 |12=>∃q cz,lk 18 E=some (.pointer (some ⟨q,0,none⟩))∧H[q]? =some (.cells cz ⟨27,0,true,0,none⟩)∧RdV H w cz∧lo≤q
 |13=>lk 19 E=some (.int .i64 e)
 |_=>True
def spQ:Nat→Option Nat
 |1=>some 3
 |3=>some 6
 |5=>some 6
 |6=>some 7
 |11=>some 12
 |_=>none
def tmQ:Nat→Nat
 |0=>105|1=>106|2=>107|3=>108|4=>109|5=>110|6=>111|7=>112|8=>104|9=>113|10=>114|11=>18|12=>18|_=>19
theorem RQ.pres {lo:Nat} {vp:Value} {p:List Tx} {k:Tx} {cx:List Value} {w:BV} {e:Int} {i:Nat} {E E2:List (Nat×Value)} {H H2:AHeap} (h:RQ lo vp p k cx w e i E H) (hl:∀v,lk (tmQ i) E=some v→lk (tmQ i) E2=some v) (hk:Kept H H2)
  (h9:i=1∨i=5→∀(q:Nat) (cs:List Value),H[q]? =some (.cells cs ⟨9,0,true,0,none⟩)→H2[q]? =some (.cells cs ⟨9,0,true,0,none⟩)) (h91:i=3→∀(q z:Nat),H[q]? =some (.cells (strsC p) ⟨9,z,true,0,none⟩)→H2[q]? =some (.cells (strsC p) ⟨9,z,true,0,none⟩)) (h92:i=6→∀(q:Nat),H[q]? =some (.cells (strsC (p++[k])) ⟨9,1,true,0,none⟩)→H2[q]? =some (.cells (strsC (p++[k])) ⟨9,1,true,0,none⟩))
  (h26:i=11∨i=12→∀(q:Nat) (cs:List Value),H[q]? =some (.cells cs ⟨27,0,true,0,none⟩)→H2[q]? =some (.cells cs ⟨27,0,true,0,none⟩)):RQ lo vp p k cx w e i E2 H2:=by
 match i with
 |0=>exact hl _ h
 |1=>obtain ⟨q,h1,h2,h3⟩:=h;exact ⟨q,hl _ h1,h9 (.inl rfl) _ _ h2,h3⟩
 |2=>exact hl _ h
 |3=>obtain ⟨v,h1,q,z,h2,h3,h4⟩:=h;exact ⟨v,hl _ h1,q,z,h2,h91 rfl _ _ h3,h4⟩
 |4=>exact hl _ h
 |5=>obtain ⟨q,h1,h2,h3⟩:=h;exact ⟨q,hl _ h1,h9 (.inr rfl) _ _ h2,h3⟩
 |6=>obtain ⟨q,h1,h2,h3⟩:=h;exact ⟨q,hl _ h1,h92 rfl _ h2,h3⟩
 |7=>obtain ⟨cz,h1,h2⟩:=h;exact ⟨cz,hl _ h1,h2.kept hk⟩
 |8=>obtain ⟨cz,h1,h2⟩:=h;exact ⟨cz,hl _ h1,h2.kept hk⟩
 |9=>obtain ⟨cz,h1,h2⟩:=h;exact ⟨cz,hl _ h1,h2.kept hk⟩
 |10=>exact hl _ h
 |11=>obtain ⟨q,cs,h1,h2,h3⟩:=h;exact ⟨q,cs,hl _ h1,h26 (.inl rfl) _ _ h2,h3⟩
 |12=>obtain ⟨q,cs,h1,h2,h3,h4⟩:=h;exact ⟨q,cs,hl _ h1,h26 (.inr rfl) _ _ h2,h3.kept hk,h4⟩
 |13=>exact hl _ h
 |_+14=>trivial
theorem lk_other {d t:Nat} {v:Value} {E:List (Nat×Value)} (h:t≠d):lk t ((d,v)::E)=lk t E:=by
 rw [lk_cons,if_neg (fun e=>h e.symm)]
theorem RQ.frm {lo:Nat} {vp:Value} {p:List Tx} {k:Tx} {cx:List Value} {w:BV} {e:Int} {i d:Nat} {v:Value} {E:List (Nat×Value)} {H H2:AHeap} (h:RQ lo vp p k cx w e i E H) (hd:tmQ i≠d) (hf:Frm [] H H2):RQ lo vp p k cx w e i ((d,v)::E) H2:=
 h.pres (fun v' hv=>by rw [lk_other hd];exact hv) (Kept.frm hf (fun x hx=>by cases hx)) (fun _ q cs hq=>hf.get hq (by simp)) (fun _ q z hq=>hf.get hq (by simp)) (fun _ q hq=>hf.get hq (by simp)) (fun _ q cs hq=>hf.get hq (by simp))
def BQ (l:List (Nat×Value)) (Hc:AHeap) (E:List (Nat×Value)) (H:AHeap):Prop:= (∀ t v,(t,v)∈l→lk t E=some v)∧Frm [] Hc H
theorem lk_self {d:Nat} {v:Value} {E:List (Nat×Value)}:lk d ((d,v)::E)=some v:=by rw [lk_cons,if_pos rfl]
theorem BQ.of {l:List (Nat×Value)} {Hc:AHeap} {E:List (Nat×Value)} {H:AHeap} (h:envIn E (fun v u=>u=v) l) (hf:Frm [] Hc H):BQ l Hc E H:=by
 refine ⟨?_,hf⟩
 induction l with
 |nil=>intro t v h;cases h
 | cons x l ih=>
  obtain ⟨y,u⟩:=x
  unfold envIn at h
  intro t v hm
  rcases List.mem_cons.1 hm with e|hm
  ·cases e
   have h1:=h.1
   cases hl:lk y E with
   |none=>rw [hl] at h1;exact h1.elim
   |some v2=>rw [hl] at h1;exact congrArg some h1
  ·exact ih h.2 t v hm
theorem BQ.put {l:List (Nat×Value)} {Hc:AHeap} {E:List (Nat×Value)} {H H2:AHeap} {d:Nat} {v:Value} (h:BQ l Hc E H) (hd:∀x∈l,x.1≠d) (hf:Frm [] Hc H2):BQ l Hc ((d,v)::E) H2:=
 ⟨fun t u hm=>by rw [lk_other (hd _ hm)];exact h.1 t u hm,hf⟩
theorem tmQ_ne:∀i j:Nat,i<14→j<14→i≠j→¬(i=11∧j=12)→¬(i=12∧j=11)→tmQ i≠tmQ j:=by
 have h:∀i:Fin 14,∀j:Fin 14,i.val≠j.val→¬(i.val=11∧j.val=12)→¬(i.val=12∧j.val=11)→tmQ i.val≠tmQ j.val:=by decide
 intro i j hi hj
 exact h ⟨i,hi⟩ ⟨j,hj⟩
theorem RQ.big {lo:Nat} {vp:Value} {p:List Tx} {k:Tx} {cx:List Value} {w:BV} {e:Int} {i:Nat} {E:List (Nat×Value)} {H:AHeap} (h:14≤i):RQ lo vp p k cx w e i E H:=by
 obtain ⟨m,rfl⟩:∃m,i=m+14:=⟨i - 14,by omega⟩
 trivial
theorem RQ.post {ops:List Oper} {lo:Nat} {vp:Value} {p:List Tx} {k:Tx} {cx:List Value} {w:BV} {e:Int} {l:List (Nat×Value)} {Hc:AHeap} {j:Nat} {E:List (Nat×Value)} {H H2:AHeap} {v:Value} (hb12:∀o,ops[12]? =some o→11∈binding o) (hj:j<14) (hj12:j≠12) (hB:BQ l Hc E H) (hl:∀x∈l,x.1≠tmQ j)
  (hf:Frm [] H H2∨((j=6∨j=7)∧Frm [] Hc H2∧Kept H H2∧ (∀ (q:Nat) (cs:List Value),H[q]? =some (.cells cs ⟨27,0,true,0,none⟩)→H2[q]? =some (.cells cs ⟨27,0,true,0,none⟩))∧ (∀ (q:Nat) (cs:List Value),H[q]? =some (.cells cs ⟨9,0,true,0,none⟩)→H2[q]? =some (.cells cs ⟨9,0,true,0,none⟩))∧(j=7→∀(q z:Nat),H[q]? =some (.cells (strsC p) ⟨9,z,true,0,none⟩)→H2[q]? =some (.cells (strsC p) ⟨9,z,true,0,none⟩)))) (hR:RQ lo vp p k cx w e j ((tmQ j,v)::E) H2):
  RPost ops spQ (BQ l Hc) (RQ lo vp p k cx w e) j E H ⟨(tmQ j,v)::E,[],H2⟩:=by
 have hfc:Frm [] Hc H2:=by
  rcases hf with hf|⟨_,hf,_⟩
  ·exact hB.2.trans hf (fun x hx=>by cases hx)
  ·exact hf
 refine ⟨rfl,hB.put hl hfc,hR,fun i oi hi hij hsp hbd h=> ?_⟩
 by_cases h14:i<14
 ·have hne:tmQ i≠tmQ j:=tmQ_ne i j h14 hj hij (fun h=>hj12 h.2) (fun h=>by
   obtain ⟨rfl,rfl⟩:=h
   exact hbd (hb12 _ hi))
  rcases hf with hf|⟨hj67,_,h1,h2,h3,h4⟩
  ·exact h.frm hne hf
  ·refine h.pres (fun v' hv=>by rw [lk_other hne];exact hv) h1 (fun _=>h3) (fun h=> ?_) (fun h=> ?_) (fun _=>h2)
   ·rcases hj67 with rfl|rfl
    ·subst h;exact absurd rfl hsp
    ·exact h4 rfl
   ·rcases hj67 with rfl|rfl
    ·exact absurd h hij
    ·subst h;exact absurd rfl hsp
 ·exact RQ.big (by omega)
end Go.Proofs.YthcdjconlfdidaaGreatDoor
