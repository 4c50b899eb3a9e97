/-
  A part of the proof of a statement of this seat.
-/
import Derived.Test.YthcdjconlfdidaaGreatDoorQ2M
import Derived.Test.YthcdjconlfdidaaGreatDoorEYM
import Derived.Test.YthcdjconlfdidaaGreatDoorEK
import Derived.Test.YthcdjconlfdidaaGreatDoorV2
import Derived.Test.YthcdjconlfdidaaGreatDoorAwC
set_option linter.unusedVariables false
set_option linter.unusedSimpArgs false
set_option maxRecDepth 20000
namespace Go.Proofs.YthcdjconlfdidaaGreatDoor
open Go Go.Aw Go.Proofs
end Go.Proofs.YthcdjconlfdidaaGreatDoor

set_option linter.unusedVariables false
set_option linter.unusedSimpArgs false
set_option maxRecDepth 20000
set_option maxHeartbeats 4000000
namespace Go.Proofs.YthcdjconlfdidaaGreatDoor
open Go Go.Aw Go.Proofs
def dictGo:List Tx→List BV→List (Tx×BV)→Option (List Tx×List BV)
 |ks,vs,[]=>some (ks,vs)
 |ks,vs,(k,x)::l=>if k∈ks then none else dictGo (insAt ks (lowAt ks k) k) (insAt vs (lowAt ks k) x) l
def dictR (keys:List Tx) (l:List BV):BV×Int:=
 if keys.length=l.length then
  match dictGo [] [] (keys.zip l) with
  |none=> (.zero,6)
  |some (ks,vs)=>if (BV.mk 4 0 [] vs ks).valid=true then (.mk 4 0 [] vs ks,0) else (.zero,4)
 else (.zero,11)
theorem dictGo_app:∀(l m:List (Tx×BV)) (ks:List Tx) (vs:List BV),dictGo ks vs (l++m)=match dictGo ks vs l with|none=>none|some (ks',vs')=>dictGo ks' vs' m
 |[],m,ks,vs=>by rfl
 |(k,x)::l,m,ks,vs=>by
  simp only [List.cons_append,dictGo]
  split
  ·rfl
  ·exact dictGo_app l m _ _
theorem dictGo_snoc {l:List (Tx×BV)} {j:Nat} {k:Tx} {x:BV} {ks:List Tx} {vs:List BV} (hj:l[j]? =some (k,x)) (h:dictGo [] [] (l.take j)=some (ks,vs)):
  dictGo [] [] (l.take (j+1))=if k∈ks then none else some (insAt ks (lowAt ks k) k,insAt vs (lowAt ks k) x):=by
 rw [List.take_add_one,hj,Option.toList_some,dictGo_app,h]
 simp only [dictGo]
theorem dictGo_none {l:List (Tx×BV)} {j:Nat} (h:dictGo [] [] (l.take j)=none):dictGo [] [] l=none:=by
 rw [← List.take_append_drop j l,dictGo_app,h]
theorem asc_ins {l:List Tx} {t:Tx} (h:BV.asc l=true) (hn:t∉l):BV.asc (insAt l (lowAt l t) t)=true:=by
 have hlow:=low_lowAt t h
 have hle:=hlow.le
 generalize lowAt l t=i at*
 unfold BV.asc
 rw [ascF_iff]
 refine ⟨fun b x e=>(by cases e),fun a x y hx hy=> ?_⟩
 rcases Nat.lt_trichotomy (a+1) i with h1|h1|h1
 ·rw [ins_lo l i t a (by omega) hle] at hx
  rw [ins_lo l i t (a+1) h1 hle] at hy
  exact asc_at h a (a+1) x y (by omega) hx hy
 ·rw [ins_lo l i t a (by omega) hle] at hx
  rw [h1,ins_get l i t hle] at hy
  cases hy
  exact hlow.lo a x (by omega) hx
 ·rcases Nat.lt_or_ge i a with h2|h2
  ·obtain ⟨m,rfl⟩:∃m,a=m+1:=⟨a - 1,by omega⟩
   rw [ins_hi l i t m (by omega) hle] at hx
   rw [ins_hi l i t (m+1) (by omega) hle] at hy
   exact asc_at h m (m+1) x y (by omega) hx hy
  ·obtain rfl:a=i:=by omega
   rw [ins_get l a t hle] at hx
   rw [ins_hi l a t a (Nat.le_refl _) hle] at hy
   cases hx
   have h3:=hlow.hi a y (Nat.le_refl _) hy
   cases h4:Op.bytesLess t y with
   |true=>rfl
   |false=>
    have:=lt_tri _ _ h4 h3
    subst this
    exact absurd (List.mem_of_getElem? hy) hn
theorem low_mem {l:List Tx} {t:Tx} (h:BV.asc l=true):l[lowAt l t]? =some t↔t∈l:=by
 constructor
 ·exact fun e=>List.mem_of_getElem? e
 ·intro hm
  obtain ⟨j,hj⟩:=List.getElem?_of_mem hm
  have hlow:=low_lowAt t h
  rcases Nat.lt_trichotomy j (lowAt l t) with h1|h1|h1
  ·have:=hlow.lo j t h1 hj
   rw [lt_irr] at this;cases this
  ·rw [← h1];exact hj
  ·have hjl:=(List.getElem?_eq_some_iff.1 hj).1
   have e:=List.getElem?_eq_getElem (l:=l) (i:=lowAt l t) (by omega)
   have h2:=hlow.hi _ _ (Nat.le_refl _) e
   have h3:=asc_at h _ _ _ _ h1 e hj
   rw [h2] at h3;cases h3
theorem dictGo_inv:∀(l:List (Tx×BV)) (ks ks':List Tx) (vs vs':List BV),BV.asc ks=true→ks.length=vs.length→dictGo ks vs l=some (ks',vs')→
  BV.asc ks'=true∧ks'.length=ks.length+l.length∧vs'.length=vs.length+l.length∧ (∀ k∈ks',k∈ks∨∃p∈l,p.1=k)∧∀v∈vs',v∈vs∨∃p∈l,p.2=v
 |[],ks,ks',vs,vs',ha,hl,h=>by
  cases h
  exact ⟨ha,by simp,by simp,fun k hk=> .inl hk,fun v hv=> .inl hv⟩
 | (k,x)::l,ks,ks',vs,vs',ha,hl,h=>by
  simp only [dictGo] at h
  split at h
  ·cases h
  ·rename_i hk
   have hle:=lowAt_le ks k
   obtain ⟨h1,h2,h3,h4,h5⟩:=dictGo_inv l _ _ _ _ (asc_ins ha hk) (by rw [ins_len _ _ _ hle,ins_len _ _ _ (by omega),hl]) h
   rw [ins_len _ _ _ hle] at h2
   rw [ins_len _ _ _ (by omega)] at h3
   refine ⟨h1,by rw [h2,List.length_cons];omega,by rw [h3,List.length_cons];omega,fun a hm=> ?_,fun v hv=> ?_⟩
   ·rcases h4 a hm with h6|⟨p,hp,e⟩
    ·unfold insAt at h6
     rcases List.mem_append.1 h6 with h7|h7
     ·exact .inl (List.mem_of_mem_take h7)
     ·rcases List.mem_cons.1 h7 with rfl|h7
      ·exact .inr ⟨_,List.mem_cons_self,rfl⟩
      ·exact .inl (List.mem_of_mem_drop h7)
    ·exact .inr ⟨p,List.mem_cons_of_mem _ hp,e⟩
   ·rcases h5 v hv with h6|⟨p,hp,e⟩
    ·unfold insAt at h6
     rcases List.mem_append.1 h6 with h7|h7
     ·exact .inl (List.mem_of_mem_take h7)
     ·rcases List.mem_cons.1 h7 with rfl|h7
      ·exact .inr ⟨_,List.mem_cons_self,rfl⟩
      ·exact .inl (List.mem_of_mem_drop h7)
    ·exact .inr ⟨p,List.mem_cons_of_mem _ hp,e⟩
end Go.Proofs.YthcdjconlfdidaaGreatDoor

set_option linter.unusedVariables false
set_option linter.unusedSimpArgs false
set_option maxRecDepth 20000
set_option maxHeartbeats 4000000
namespace Go.Proofs.YthcdjconlfdidaaGreatDoor
open Go Go.Aw Go.Proofs
end Go.Proofs.YthcdjconlfdidaaGreatDoor

set_option linter.unusedVariables false
set_option linter.unusedSimpArgs false
set_option maxRecDepth 20000
set_option maxHeartbeats 4000000
namespace Go.Proofs.YthcdjconlfdidaaGreatDoor
open Go Go.Aw Go.Proofs
end Go.Proofs.YthcdjconlfdidaaGreatDoor

set_option linter.unusedVariables false
set_option linter.unusedSimpArgs false
set_option maxRecDepth 20000
set_option maxHeartbeats 4000000
namespace Go.Proofs.YthcdjconlfdidaaGreatDoor
open Go Go.Aw Go.Proofs
def PartP (lo:Nat) (H:AHeap) (p:List Tx) (v:Value):Prop:=
 ∃q z,v= .slice (some ⟨q,0,none⟩) p.length p.length∧H[q]? =some (.cells (strsC p) ⟨9,z,true,0,none⟩)∧((z=1∧p≠[])∨(z=0∧p=[]))∧lo≤q
def RQ (lo:Nat) (vp:Value) (p:List Tx) (k:Tx) (cx:List Value) (w:BV) (e:Int) (i:Nat) (E:List (Nat×Value)) (H:AHeap):Prop:=
 match i with
 |0=>lk 105 E=some (.agg ⟨cx⟩)
 |1=>∃q,lk 106 E=some (.slice (some ⟨q,0,none⟩) 0 0)∧H[q]? =some (.cells [] ⟨9,0,true,0,none⟩)∧lo≤q
 |2=>lk 107 E=some vp
 |3=>∃v,lk 108 E=some v∧PartP lo H p v
 |4=>lk 109 E=some (.string (bs k))
 |5=>∃q,lk 110 E=some (.slice (some ⟨q,0,none⟩) 1 1)∧H[q]? =some (.cells [.string (bs k)] ⟨9,0,true,0,none⟩)∧lo≤q
 |6=>∃q,lk 111 E=some (.slice (some ⟨q,0,none⟩) (p.length+1) (p.length+1))∧H[q]? =some (.cells (strsC (p++[k])) ⟨9,1,true,0,none⟩)∧lo≤q
 |7=>∃cz,lk 112 E=some (.tuple ⟨[.agg ⟨cz⟩,.int .i64 e]⟩)∧RdV H w cz
 |8=>∃cz,lk 104 E=some (.tuple ⟨[.agg ⟨cz⟩,.int .i64 e]⟩)∧RdV H w cz
 |9=>∃cz,lk 113 E=some (.agg ⟨cz⟩)∧RdV H w cz
 |10=>lk 114 E=some (.int .i64 e)
 |11=>∃q cs,lk 18 E=some (.pointer (some ⟨q,0,none⟩))∧H[q]? =some (.cells cs ⟨27,0,true,0,none⟩)∧cs.length=5∧lo≤q
 |12=>∃q cz,lk 18 E=some (.pointer (some ⟨q,0,none⟩))∧H[q]? =some (.cells cz ⟨27,0,true,0,none⟩)∧RdV H w cz∧lo≤q
 |13=>lk 19 E=some (.int .i64 e)
 |_=>True
def spQ:Nat→Option Nat
 |1=>some 3
 |3=>some 6
 |5=>some 6
 |6=>some 7
 |11=>some 12
 |_=>none
def tmQ:Nat→Nat
 |0=>105|1=>106|2=>107|3=>108|4=>109|5=>110|6=>111|7=>112|8=>104|9=>113|10=>114|11=>18|12=>18|_=>19
theorem RQ.pres {lo:Nat} {vp:Value} {p:List Tx} {k:Tx} {cx:List Value} {w:BV} {e:Int} {i:Nat} {E E2:List (Nat×Value)} {H H2:AHeap} (h:RQ lo vp p k cx w e i E H) (hl:∀v,lk (tmQ i) E=some v→lk (tmQ i) E2=some v) (hk:Kept H H2)
  (h9:i=1∨i=5→∀(q:Nat) (cs:List Value),H[q]? =some (.cells cs ⟨9,0,true,0,none⟩)→H2[q]? =some (.cells cs ⟨9,0,true,0,none⟩)) (h91:i=3→∀(q z:Nat),H[q]? =some (.cells (strsC p) ⟨9,z,true,0,none⟩)→H2[q]? =some (.cells (strsC p) ⟨9,z,true,0,none⟩)) (h92:i=6→∀(q:Nat),H[q]? =some (.cells (strsC (p++[k])) ⟨9,1,true,0,none⟩)→H2[q]? =some (.cells (strsC (p++[k])) ⟨9,1,true,0,none⟩))
  (h26:i=11∨i=12→∀(q:Nat) (cs:List Value),H[q]? =some (.cells cs ⟨27,0,true,0,none⟩)→H2[q]? =some (.cells cs ⟨27,0,true,0,none⟩)):RQ lo vp p k cx w e i E2 H2:=by
 match i with
 |0=>exact hl _ h
 |1=>obtain ⟨q,h1,h2,h3⟩:=h;exact ⟨q,hl _ h1,h9 (.inl rfl) _ _ h2,h3⟩
 |2=>exact hl _ h
 |3=>obtain ⟨v,h1,q,z,h2,h3,h4⟩:=h;exact ⟨v,hl _ h1,q,z,h2,h91 rfl _ _ h3,h4⟩
 |4=>exact hl _ h
 |5=>obtain ⟨q,h1,h2,h3⟩:=h;exact ⟨q,hl _ h1,h9 (.inr rfl) _ _ h2,h3⟩
 |6=>obtain ⟨q,h1,h2,h3⟩:=h;exact ⟨q,hl _ h1,h92 rfl _ h2,h3⟩
 |7=>obtain ⟨cz,h1,h2⟩:=h;exact ⟨cz,hl _ h1,h2.kept hk⟩
 |8=>obtain ⟨cz,h1,h2⟩:=h;exact ⟨cz,hl _ h1,h2.kept hk⟩
 |9=>obtain ⟨cz,h1,h2⟩:=h;exact ⟨cz,hl _ h1,h2.kept hk⟩
 |10=>exact hl _ h
 |11=>obtain ⟨q,cs,h1,h2,h3⟩:=h;exact ⟨q,cs,hl _ h1,h26 (.inl rfl) _ _ h2,h3⟩
 |12=>obtain ⟨q,cs,h1,h2,h3,h4⟩:=h;exact ⟨q,cs,hl _ h1,h26 (.inr rfl) _ _ h2,h3.kept hk,h4⟩
 |13=>exact hl _ h
 |_+14=>trivial
theorem lk_other {d t:Nat} {v:Value} {E:List (Nat×Value)} (h:t≠d):lk t ((d,v)::E)=lk t E:=by
 rw [lk_cons,if_neg (fun e=>h e.symm)]
theorem RQ.frm {lo:Nat} {vp:Value} {p:List Tx} {k:Tx} {cx:List Value} {w:BV} {e:Int} {i d:Nat} {v:Value} {E:List (Nat×Value)} {H H2:AHeap} (h:RQ lo vp p k cx w e i E H) (hd:tmQ i≠d) (hf:Frm [] H H2):RQ lo vp p k cx w e i ((d,v)::E) H2:=
 h.pres (fun v' hv=>by rw [lk_other hd];exact hv) (Kept.frm hf (fun x hx=>by cases hx)) (fun _ q cs hq=>hf.get hq (by simp)) (fun _ q z hq=>hf.get hq (by simp)) (fun _ q hq=>hf.get hq (by simp)) (fun _ q cs hq=>hf.get hq (by simp))
def BQ (l:List (Nat×Value)) (Hc:AHeap) (E:List (Nat×Value)) (H:AHeap):Prop:= (∀ t v,(t,v)∈l→lk t E=some v)∧Frm [] Hc H
theorem lk_self {d:Nat} {v:Value} {E:List (Nat×Value)}:lk d ((d,v)::E)=some v:=by rw [lk_cons,if_pos rfl]
theorem BQ.of {l:List (Nat×Value)} {Hc:AHeap} {E:List (Nat×Value)} {H:AHeap} (h:envIn E (fun v u=>u=v) l) (hf:Frm [] Hc H):BQ l Hc E H:=by
 refine ⟨?_,hf⟩
 induction l with
 |nil=>intro t v h;cases h
 | cons x l ih=>
  obtain ⟨y,u⟩:=x
  unfold envIn at h
  intro t v hm
  rcases List.mem_cons.1 hm with e|hm
  ·cases e
   have h1:=h.1
   cases hl:lk y E with
   |none=>rw [hl] at h1;exact h1.elim
   |some v2=>rw [hl] at h1;exact congrArg some h1
  ·exact ih h.2 t v hm
theorem BQ.put {l:List (Nat×Value)} {Hc:AHeap} {E:List (Nat×Value)} {H H2:AHeap} {d:Nat} {v:Value} (h:BQ l Hc E H) (hd:∀x∈l,x.1≠d) (hf:Frm [] Hc H2):BQ l Hc ((d,v)::E) H2:=
 ⟨fun t u hm=>by rw [lk_other (hd _ hm)];exact h.1 t u hm,hf⟩
theorem tmQ_ne:∀i j:Nat,i<14→j<14→i≠j→¬(i=11∧j=12)→¬(i=12∧j=11)→tmQ i≠tmQ j:=by
 have h:∀i:Fin 14,∀j:Fin 14,i.val≠j.val→¬(i.val=11∧j.val=12)→¬(i.val=12∧j.val=11)→tmQ i.val≠tmQ j.val:=by decide
 intro i j hi hj
 exact h ⟨i,hi⟩ ⟨j,hj⟩
theorem RQ.big {lo:Nat} {vp:Value} {p:List Tx} {k:Tx} {cx:List Value} {w:BV} {e:Int} {i:Nat} {E:List (Nat×Value)} {H:AHeap} (h:14≤i):RQ lo vp p k cx w e i E H:=by
 obtain ⟨m,rfl⟩:∃m,i=m+14:=⟨i - 14,by omega⟩
 trivial
theorem RQ.post {ops:List Oper} {lo:Nat} {vp:Value} {p:List Tx} {k:Tx} {cx:List Value} {w:BV} {e:Int} {l:List (Nat×Value)} {Hc:AHeap} {j:Nat} {E:List (Nat×Value)} {H H2:AHeap} {v:Value} (hb12:∀o,ops[12]? =some o→11∈binding o) (hj:j<14) (hj12:j≠12) (hB:BQ l Hc E H) (hl:∀x∈l,x.1≠tmQ j)
  (hf:Frm [] H H2∨((j=6∨j=7)∧Frm [] Hc H2∧Kept H H2∧ (∀ (q:Nat) (cs:List Value),H[q]? =some (.cells cs ⟨27,0,true,0,none⟩)→H2[q]? =some (.cells cs ⟨27,0,true,0,none⟩))∧ (∀ (q:Nat) (cs:List Value),H[q]? =some (.cells cs ⟨9,0,true,0,none⟩)→H2[q]? =some (.cells cs ⟨9,0,true,0,none⟩))∧(j=7→∀(q z:Nat),H[q]? =some (.cells (strsC p) ⟨9,z,true,0,none⟩)→H2[q]? =some (.cells (strsC p) ⟨9,z,true,0,none⟩)))) (hR:RQ lo vp p k cx w e j ((tmQ j,v)::E) H2):
  RPost ops spQ (BQ l Hc) (RQ lo vp p k cx w e) j E H ⟨(tmQ j,v)::E,[],H2⟩:=by
 have hfc:Frm [] Hc H2:=by
  rcases hf with hf|⟨_,hf,_⟩
  ·exact hB.2.trans hf (fun x hx=>by cases hx)
  ·exact hf
 refine ⟨rfl,hB.put hl hfc,hR,fun i oi hi hij hsp hbd h=> ?_⟩
 by_cases h14:i<14
 ·have hne:tmQ i≠tmQ j:=tmQ_ne i j h14 hj hij (fun h=>hj12 h.2) (fun h=>by
   obtain ⟨rfl,rfl⟩:=h
   exact hbd (hb12 _ hi))
  rcases hf with hf|⟨hj67,_,h1,h2,h3,h4⟩
  ·exact h.frm hne hf
  ·refine h.pres (fun v' hv=>by rw [lk_other hne];exact hv) h1 (fun _=>h3) (fun h=> ?_) (fun h=> ?_) (fun _=>h2)
   ·rcases hj67 with rfl|rfl
    ·subst h;exact absurd rfl hsp
    ·exact h4 rfl
   ·rcases hj67 with rfl|rfl
    ·exact absurd h hij
    ·subst h;exact absurd rfl hsp
 ·exact RQ.big (by omega)
end Go.Proofs.YthcdjconlfdidaaGreatDoor

set_option linter.unusedVariables false
set_option linter.unusedSimpArgs false
set_option maxRecDepth 20000
set_option maxHeartbeats 4000000
namespace Go.Proofs.YthcdjconlfdidaaGreatDoor
open Go Go.Aw Go.Proofs
def PartR (lo e m:Nat) (H:AHeap) (l:List (List Value)) (v:Value):Prop:=
 ∃q z,v= .slice (some ⟨q,0,none⟩) l.length l.length∧H[q]? =some (.cells l.flatten ⟨e,z,true,0,none⟩)∧((z=m∧l≠[])∨(z=0∧l=[]))∧lo≤q
theorem app_rows {P:Program} {e m y q lo n:Nat} {l:List (List Value)} {news:List Value} {H:AHeap} {K:Value→AHeap→Prop} (hm:0<m) (hq:H[q]? =some (.cells [] ⟨e,0,true,0,none⟩)) (hlo:lo≤q) (hl:lo≤H.length) (hn:n=l.length) (hnews:news=l.flatten) (h1:l.length*y≤140737488355328) (h2:l.length≤1099511627776)
  (hk:∀v X,PartR lo e m (H++X) l v→flat v=true→cellsOf v=[v]→K v (H++X)):appendTo P e m y (.slice (some ⟨q,0,none⟩) 0 0) n news H K:=by
 subst hn
 by_cases hp:l=[]
 ·subst hp
  unfold appendTo
  simp only [hq]
  refine ⟨fun _=>⟨fun _=> ?_,fun h=>absurd rfl h⟩,fun h=>absurd (Nat.le_refl 0) h⟩
  have:=hk (.slice (some ⟨q,0,none⟩) 0 0) [] ⟨q,0,rfl,by rw [List.append_nil];exact hq,.inr ⟨rfl,rfl⟩,hlo⟩ rfl rfl
  rw [List.append_nil] at this
  exact this
 ·have hpl:0<l.length:=List.length_pos_iff.2 hp
  refine appendTo_x hq rfl (by omega) (by simp) (by rw [Nat.zero_add];exact h1) (by omega) ?_
  have e':List.take (0*m) (List.drop 0 ([]:List Value))++news=l.flatten:=by rw [hnews];simp
  rw [e',Nat.zero_add]
  exact hk _ _ ⟨H.length,m,rfl,by rw [hget0 rfl];rfl,.inl ⟨rfl,hp⟩,hl⟩ rfl rfl
theorem PartR.more {lo e m:Nat} {H:AHeap} {l:List (List Value)} {v:Value} (h:PartR lo e m H l v) (X:AHeap):PartR lo e m (H++X) l v:=by
 obtain ⟨q,z,h1,h2,h3⟩:=h
 exact ⟨q,z,h1,by rw [hgetl (lt_of_get h2)];exact h2,h3⟩
theorem PartR.frm {lo e m:Nat} {H H2:AHeap} {l:List (List Value)} {v:Value} (h:PartR lo e m H l v) (hf:Frm [] H H2):PartR lo e m H2 l v:=by
 obtain ⟨q,z,h1,h2,h3⟩:=h
 exact ⟨q,z,h1,hf.get h2 (by simp),h3⟩
theorem rows_cells {m:Nat} {cs:List Value} {off:Nat} {l:List (List Value)} (hm:∀r∈l,r.length=m) (hle:off+l.length*m≤cs.length) (h:∀j r,l[j]? =some r→(cs.drop (off+j*m)).take m=r):(cs.drop off).take (l.length*m)=l.flatten:=by
 have key:∀(l:List (List Value)) (off:Nat),(∀ r∈l,r.length=m)→off+l.length*m≤cs.length→ (∀ j r,l[j]? =some r→(cs.drop (off+j*m)).take m=r)→(cs.drop off).take (l.length*m)=l.flatten:=fun l=>by
  induction l with
  |nil=>intro off _ _ _;simp
  | cons x l ih=>
   intro off hm hle h
   have h0:=h 0 x rfl
   rw [Nat.zero_mul,Nat.add_zero] at h0
   have hs:(l.length+1)*m=m+l.length*m:=by rw [Nat.add_mul,Nat.one_mul];omega
   rw [List.length_cons,hs] at hle
   have:=ih (off+m) (fun r hr=>hm r (List.mem_cons_of_mem _ hr)) (by omega) (fun j r hj=>by
    have:=h (j+1) r (by simpa using hj)
    rw [show off+(j+1)*m=off+m+j*m by rw [Nat.add_mul];omega] at this
    exact this)
   rw [List.length_cons,hs,List.flatten_cons,List.take_add,h0,List.drop_drop,this]
 exact key l off hm hle h
theorem PartR.flat {lo e m:Nat} {H:AHeap} {l:List (List Value)} {v:Value} (h:PartR lo e m H l v):Go.Aw.flat v=true:=by
 obtain ⟨q,z,rfl,_⟩:=h;rfl
theorem PartR.cell {lo e m:Nat} {H:AHeap} {l:List (List Value)} {v:Value} (h:PartR lo e m H l v):cellsOf v=[v]:=by
 obtain ⟨q,z,rfl,_⟩:=h;rfl
theorem PartR.sub {lo lo2 e m:Nat} {H:AHeap} {l:List (List Value)} {v:Value} (h:PartR lo e m H l v) (hl:lo2≤lo):PartR lo2 e m H l v:=by
 obtain ⟨q,z,h1,h2,h3,h4⟩:=h
 exact ⟨q,z,h1,h2,h3,by omega⟩
theorem PartR.set {lo e m:Nat} {H:AHeap} {l:List (List Value)} {v:Value} (h:PartR lo e m H l v) {b:Nat} (hb:b<lo) (o:AObj):PartR lo e m (H.set b o) l v:=by
 obtain ⟨q,z,h1,h2,h3,h4⟩:=h
 exact ⟨q,z,h1,by rw [List.getElem?_set_ne (by omega)];exact h2,h3,h4⟩
theorem keyC_len1 (keys:List Tx):∀r∈keyC keys,r.length=1:=fun r hr=>by
 unfold keyC at hr
 obtain ⟨x,_,rfl⟩:=List.mem_map.1 hr
 rfl
def OwnS (lo:Nat) (H:AHeap) (v:BV) (cs:List Value):Prop:=
 ∃vk vs css,cs= [.int .i64 v.kind,.int .i64 v.num,.string (bs v.text),vk,vs]∧PartR lo 27 5 H css vk∧RdL H v.kids css∧PartR lo 9 1 H (keyC v.keys) vs
theorem RdL_flats {H:AHeap}:∀{l:List BV} {css:List (List Value)},RdL H l css→css.flatten.all Go.Aw.flat=true
 |[],css,h=>by unfold RdL at h;rw [h];rfl
 |v::l,css,h=>by
  unfold RdL at h
  obtain ⟨cs,r,e,h1,h2⟩:=h
  rw [e,List.flatten_cons,List.all_append,RdV_flat h1,RdL_flats h2]
  rfl
end Go.Proofs.YthcdjconlfdidaaGreatDoor
