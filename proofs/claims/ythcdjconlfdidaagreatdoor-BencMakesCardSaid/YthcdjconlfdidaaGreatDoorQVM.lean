/-
  A part of the proof of a statement of this seat.
-/
import Derived.Test.YthcdjconlfdidaaGreatDoorQSM
set_option linter.unusedVariables false
set_option linter.unusedSimpArgs false
set_option maxRecDepth 20000
set_option maxHeartbeats 4000000
namespace Go.Proofs.YthcdjconlfdidaaGreatDoor
open Go Go.Aw Go.Proofs
theorem app_head {P:Program} {e m y q lo n:Nat} {r news:List Value} {H:AHeap} {K:Value→AHeap→Prop} (hm:0<m) (hq:H[q]? =some (.cells r ⟨e,0,true,0,none⟩)) (hr:r.length=m) (hlo:lo≤q) (hl:lo≤H.length) (hn:news.length=n*m) (h1:(1+n)*y≤140737488355328) (h2:n≤1099511627776)
  (hk:∀(q' z:Nat) (X:AHeap),(z=m∨z=0)→lo≤q'→(H++X)[q']? =some (.cells (r++news) ⟨e,z,true,0,none⟩)→K (.slice (some ⟨q',0,none⟩) (n+1) (n+1)) (H++X)):appendTo P e m y (.slice (some ⟨q,0,none⟩) 1 1) n news H K:=by
 by_cases hn0:n=0
 ·subst hn0
  have hnil:news=[]:=List.eq_nil_of_length_eq_zero (by rw [hn,Nat.zero_mul])
  subst hnil
  unfold appendTo
  simp only [hq]
  refine ⟨fun _=>⟨fun _=> ?_,fun h=>absurd rfl h⟩,fun h=>absurd (Nat.le_refl 1) h⟩
  have:=hk q 0 [] (.inr rfl) hlo (by rw [List.append_nil,List.append_nil];exact hq)
  rw [List.append_nil] at this
  exact this
 ·refine appendTo_x hq rfl (by omega) (by rw [Nat.zero_add,Nat.one_mul,hr];exact Nat.le_refl _) h1 (by omega) ?_
  have e':List.take (1*m) (List.drop 0 r)++news=r++news:=by rw [Nat.one_mul,List.drop_zero,List.take_of_length_le (by omega)]
  rw [e',Nat.add_comm 1 n]
  exact hk H.length m _ (.inl rfl) hl (by rw [hget0 rfl];rfl)
theorem app_cut {P:Program} {e m y q z a n:Nat} {C news:List Value} {H:AHeap} {K:Value→AHeap→Prop} (hm:0<m) (hq:H[q]? =some (.cells C ⟨e,z,true,0,none⟩)) (hz:z=m∨z=0) (ha:a*m≤C.length) (hn0:0<n) (h1:(a+n)*y≤140737488355328) (h2:a+n≤1099511627776)
  (hk:∀H2,(H2=H∨H2=H.set q .dead)→K (.slice (some ⟨H.length,0,none⟩) (a+n) (a+n)) (H2++ [.cells (C.take (a*m)++news) ⟨e,m,true,0,none⟩])):appendTo P e m y (.slice (some ⟨q,0,none⟩) a a) n news H K:=by
 unfold appendTo
 simp only [hq]
 refine ⟨fun h=>by omega,fun _=>⟨⟨by rw [Nat.zero_add];exact ha,h1,by omega⟩,fun h=>⟨⟨trivial,?_,Nat.zero_le _,trivial⟩,?_⟩,fun _=> ?_⟩⟩
 ·rcases hz with rfl|rfl
  ·rfl
  ·exact absurd rfl h.1
 ·rw [List.drop_zero]
  exact hk _ (.inr rfl)
 ·rw [List.drop_zero]
  exact hk _ (.inl rfl)
theorem strs_ins' (l:List Tx) (i:Nat) (t:Tx):(strsC l).take (i*1)++([Value.string (bs t)]++(strsC l).drop i)=strsC (insAt l i t):=by
 rw [Nat.mul_one,strs_ins]
 rfl
def QI (lo b i0 o0 a q2:Nat) (vp:Value) (keys:List Tx) (t:Tx) (bx:Value→List Value) (i:Nat) (v:Value) (H:AHeap):Prop:=
 match i with
 |0=>v= .pointer (some ⟨b,4,none⟩)
 |1=>v= .slice (some ⟨q2,0,none⟩) (keyC keys).length (keyC keys).length
 |2=>v= .int .i64 (a:Nat)
 |3=>v= .int .i64 (a:Nat)
 |4=>v= .slice (some ⟨q2,0,none⟩) a a
 |5=>v=vp
 |6=>v= .pointer (some ⟨i0,o0,none⟩)
 |7=>v= .string (bs t)
 |8=>∃q,v= .slice (some ⟨q,0,none⟩) 1 1∧H[q]? =some (.cells [.string (bs t)] ⟨9,0,true,0,none⟩)∧lo≤q
 |9=>v= .pointer (some ⟨b,4,none⟩)
 |10=>v= .slice (some ⟨q2,0,none⟩) (keyC keys).length (keyC keys).length
 |11=>v= .int .i64 (a:Nat)
 |12=>v= .slice (some ⟨q2,a,none⟩) (keys.length - a) (keys.length - a)
 |13=>∃q z,v= .slice (some ⟨q,0,none⟩) (keys.length - a+1) (keys.length - a+1)∧H[q]? =some (.cells ([.string (bs t)]++(strsC keys).drop a) ⟨9,z,true,0,none⟩)∧(z=1∨z=0)∧lo≤q
 |14=>∃q,v= .slice (some ⟨q,0,none⟩) (keys.length+1) (keys.length+1)∧H[q]? =some (.cells (strsC (insAt keys a t)) ⟨9,1,true,0,none⟩)∧lo≤q
 |15=>v= .pointer (some ⟨b,4,none⟩)
 |16=>∃q,v= .slice (some ⟨q,0,none⟩) (keys.length+1) (keys.length+1)∧H[q]? =some (.cells (strsC (insAt keys a t)) ⟨9,1,true,0,none⟩)∧lo≤q∧H[b]? =some (.cells (bx v) ⟨27,0,true,0,none⟩)
 |_=>True
def tmI:Nat→Nat
 |0=>97|1=>98|2=>99|3=>100|4=>101|5=>102|6=>103|7=>104|8=>105|9=>106|10=>107|11=>108|12=>109|13=>110|14=>111|15=>112|_=>111
def UI (b q2:Nat) (keyO boxO:AObj) (i:Nat) (E:List (Nat×Value)) (H:AHeap):Prop:=
 match i with
 |14=>H[q2]? =some keyO
 |16=>H[b]? =some boxO
 |_=>True
theorem QI.pres {lo b i0 o0 a q2:Nat} {vp:Value} {keys:List Tx} {t:Tx} {bx:Value→List Value} {i:Nat} {v:Value} {H H2:AHeap} (hi:i≠16) (h:QI lo b i0 o0 a q2 vp keys t bx i v H) (hs:∀(q:Nat) (o:AObj),lo≤q→H[q]? =some o→H2[q]? =some o):QI lo b i0 o0 a q2 vp keys t bx i v H2:=by
 match i with
 |0=>exact h
 |1=>exact h
 |2=>exact h
 |3=>exact h
 |4=>exact h
 |5=>exact h
 |6=>exact h
 |7=>exact h
 |8=>obtain ⟨q,h1,h2,h3⟩:=h;exact ⟨q,h1,hs _ _ h3 h2,h3⟩
 |9=>exact h
 |10=>exact h
 |11=>exact h
 |12=>exact h
 |13=>obtain ⟨q,z,h1,h2,h3,h4⟩:=h;exact ⟨q,z,h1,hs _ _ h4 h2,h3,h4⟩
 |14=>obtain ⟨q,h1,h2,h3⟩:=h;exact ⟨q,h1,hs _ _ h3 h2,h3⟩
 |15=>exact h
 |16=>exact absurd rfl hi
 |_+17=>trivial
theorem UI.pres {b q2:Nat} {keyO boxO:AObj} {i:Nat} {E E2:List (Nat×Value)} {H H2:AHeap} (h:UI b q2 keyO boxO i E H) (h1:i=14→H[q2]? =some keyO→H2[q2]? =some keyO) (h2:i=16→H[b]? =some boxO→H2[b]? =some boxO):UI b q2 keyO boxO i E2 H2:=by
 by_cases e1:i=14
 ·subst e1;exact h1 rfl h
 ·by_cases e2:i=16
  ·subst e2;exact h2 rfl h
  ·unfold UI
   split
   ·exact absurd rfl e1
   ·exact absurd rfl e2
   ·trivial
theorem QI.more {ops:List Oper} {f:Nat} {l:List (Nat×Value)} {S:List Nat} {Hc:AHeap} {lo b i0 o0 a q2:Nat} {vp:Value} {keys:List Tx} {t:Tx} {bx:Value→List Value} {keyO boxO:AObj} {j:Nat} {E:List (Nat×Value)} {H H2:AHeap} {v:Value}
  (hj:j<16) (h16:bfr ops f 16 |>.contains j) (htm:tmOk ops f (fun _=>none) tmI j=true) (hB:BL l S Hc E H) (hl:l.all (fun x=>x.1 != tmI j)=true) (hf:Frm [] H H2) (hQ:QI lo b i0 o0 a q2 vp keys t bx j v H2):
  UPost ops f (fun _=>none) (BL l S Hc) (RV tmI (QI lo b i0 o0 a q2 vp keys t bx)) (UI b q2 keyO boxO) j E H ⟨(tmI j,v)::E,[],H2⟩:=
 .put htm hB hl (Frm.trans hB.2 hf (fun x hx=>by cases hx)) hQ (fun i w _ _ _ hb h=>QI.pres (fun e=>by rw [e] at hb;exact hb (by simpa using h16)) h (fun q o _ hq=>hf.get hq (by simp))) (fun i _ _ h=>h.pres (fun _ hq=>hf.get hq (by simp)) (fun _ hq=>hf.get hq (by simp)))
def QJ (lo b a q1:Nat) (css:List (List Value)) (csx:List Value) (bx:Value→List Value) (i:Nat) (v:Value) (H:AHeap):Prop:=
 match i with
 |0=>v= .pointer (some ⟨b,3,none⟩)
 |1=>v= .slice (some ⟨q1,0,none⟩) css.length css.length
 |2=>v= .int .i64 (a:Nat)
 |3=>v= .int .i64 (a:Nat)
 |4=>v= .slice (some ⟨q1,0,none⟩) a a
 |5=>v= .agg ⟨csx⟩
 |6=>∃q,v= .slice (some ⟨q,0,none⟩) 1 1∧H[q]? =some (.cells csx ⟨27,0,true,0,none⟩)∧lo≤q
 |7=>v= .pointer (some ⟨b,3,none⟩)
 |8=>v= .slice (some ⟨q1,0,none⟩) css.length css.length
 |9=>v= .int .i64 (a:Nat)
 |10=>v= .slice (some ⟨q1,a*5,none⟩) (css.length - a) (css.length - a)
 |11=>∃q z,v= .slice (some ⟨q,0,none⟩) (css.length - a+1) (css.length - a+1)∧H[q]? =some (.cells (csx++css.flatten.drop (a*5)) ⟨27,z,true,0,none⟩)∧(z=5∨z=0)∧lo≤q
 |12=>∃q,v= .slice (some ⟨q,0,none⟩) (css.length+1) (css.length+1)∧H[q]? =some (.cells (insAt css a csx).flatten ⟨27,5,true,0,none⟩)∧lo≤q
 |13=>v= .pointer (some ⟨b,3,none⟩)
 |14=>∃q,v= .slice (some ⟨q,0,none⟩) (css.length+1) (css.length+1)∧H[q]? =some (.cells (insAt css a csx).flatten ⟨27,5,true,0,none⟩)∧lo≤q∧H[b]? =some (.cells (bx v) ⟨27,0,true,0,none⟩)
 |_=>True
def tmJ:Nat→Nat
 |0=>113|1=>114|2=>115|3=>116|4=>117|5=>118|6=>119|7=>120|8=>121|9=>122|10=>123|11=>124|12=>125|13=>126|_=>125
def UJ (b q1:Nat) (kidO boxO:AObj) (i:Nat) (E:List (Nat×Value)) (H:AHeap):Prop:=
 match i with
 |12=>H[q1]? =some kidO
 |14=>H[b]? =some boxO
 |_=>True
theorem QJ.pres {lo b a q1:Nat} {css:List (List Value)} {csx:List Value} {bx:Value→List Value} {i:Nat} {v:Value} {H H2:AHeap} (hi:i≠14) (h:QJ lo b a q1 css csx bx i v H) (hs:∀(q:Nat) (o:AObj),lo≤q→H[q]? =some o→H2[q]? =some o):QJ lo b a q1 css csx bx i v H2:=by
 match i with
 |0=>exact h
 |1=>exact h
 |2=>exact h
 |3=>exact h
 |4=>exact h
 |5=>exact h
 |6=>obtain ⟨q,h1,h2,h3⟩:=h;exact ⟨q,h1,hs _ _ h3 h2,h3⟩
 |7=>exact h
 |8=>exact h
 |9=>exact h
 |10=>exact h
 |11=>obtain ⟨q,z,h1,h2,h3,h4⟩:=h;exact ⟨q,z,h1,hs _ _ h4 h2,h3,h4⟩
 |12=>obtain ⟨q,h1,h2,h3⟩:=h;exact ⟨q,h1,hs _ _ h3 h2,h3⟩
 |13=>exact h
 |14=>exact absurd rfl hi
 |_+15=>trivial
theorem UJ.pres {b q1:Nat} {kidO boxO:AObj} {i:Nat} {E E2:List (Nat×Value)} {H H2:AHeap} (h:UJ b q1 kidO boxO i E H) (h1:i=12→H[q1]? =some kidO→H2[q1]? =some kidO) (h2:i=14→H[b]? =some boxO→H2[b]? =some boxO):UJ b q1 kidO boxO i E2 H2:=by
 by_cases e1:i=12
 ·subst e1;exact h1 rfl h
 ·by_cases e2:i=14
  ·subst e2;exact h2 rfl h
  ·unfold UJ
   split
   ·exact absurd rfl e1
   ·exact absurd rfl e2
   ·trivial
theorem QJ.more {ops:List Oper} {f:Nat} {l:List (Nat×Value)} {S:List Nat} {Hc:AHeap} {lo b a q1:Nat} {css:List (List Value)} {csx:List Value} {bx:Value→List Value} {kidO boxO:AObj} {j:Nat} {E:List (Nat×Value)} {H H2:AHeap} {v:Value}
  (hj:j<14) (h14:bfr ops f 14 |>.contains j) (htm:tmOk ops f (fun _=>none) tmJ j=true) (hB:BL l S Hc E H) (hl:l.all (fun x=>x.1 != tmJ j)=true) (hf:Frm [] H H2) (hQ:QJ lo b a q1 css csx bx j v H2):
  UPost ops f (fun _=>none) (BL l S Hc) (RV tmJ (QJ lo b a q1 css csx bx)) (UJ b q1 kidO boxO) j E H ⟨(tmJ j,v)::E,[],H2⟩:=
 .put htm hB hl (Frm.trans hB.2 hf (fun x hx=>by cases hx)) hQ (fun i w _ _ _ hb h=>QJ.pres (fun e=>by rw [e] at hb;exact hb (by simpa using h14)) h (fun q o _ hq=>hf.get hq (by simp))) (fun i _ _ h=>h.pres (fun _ hq=>hf.get hq (by simp)) (fun _ hq=>hf.get hq (by simp)))
end Go.Proofs.YthcdjconlfdidaaGreatDoor

set_option linter.unusedVariables false
set_option linter.unusedSimpArgs false
set_option maxRecDepth 20000
set_option maxHeartbeats 4000000
namespace Go.Proofs.YthcdjconlfdidaaGreatDoor
open Go Go.Aw Go.Proofs
def QA (lo b a:Nat) (kv kc kt:Value) (keys:List Tx) (t:Tx) (bx:Value→List Value) (i:Nat) (v:Value) (H:AHeap):Prop:=
 match i with
 |0=>v= .pointer (some ⟨b,4,none⟩)
 |1=>v=kv
 |2=>v= .int .i64 (a:Nat)
 |3=>v= .int .i64 (a:Nat)
 |4=>v=kc
 |5=>v= .string (bs t)
 |6=>∃q,v= .slice (some ⟨q,0,none⟩) 1 1∧H[q]? =some (.cells [.string (bs t)] ⟨9,0,true,0,none⟩)∧lo≤q
 |7=>v= .pointer (some ⟨b,4,none⟩)
 |8=>v=kv
 |9=>v= .int .i64 (a:Nat)
 |10=>v=kt
 |11=>∃q z,v= .slice (some ⟨q,0,none⟩) (keys.length - a+1) (keys.length - a+1)∧H[q]? =some (.cells ([.string (bs t)]++(strsC keys).drop a) ⟨9,z,true,0,none⟩)∧(z=1∨z=0)∧lo≤q
 |12=>∃q,v= .slice (some ⟨q,0,none⟩) (keys.length+1) (keys.length+1)∧H[q]? =some (.cells (strsC (insAt keys a t)) ⟨9,1,true,0,none⟩)∧lo≤q
 |13=>v= .pointer (some ⟨b,4,none⟩)
 |14=>∃q,v= .slice (some ⟨q,0,none⟩) (keys.length+1) (keys.length+1)∧H[q]? =some (.cells (strsC (insAt keys a t)) ⟨9,1,true,0,none⟩)∧lo≤q∧H[b]? =some (.cells (bx v) ⟨27,0,true,0,none⟩)
 |_=>True
def tmA:Nat→Nat
 |0=>55|1=>56|2=>57|3=>58|4=>59|5=>60|6=>61|7=>62|8=>63|9=>64|10=>65|11=>66|12=>67|13=>68|_=>67
def UA (b:Nat) (kI:AHeap→Prop) (boxO:AObj) (i:Nat) (E:List (Nat×Value)) (H:AHeap):Prop:=
 match i with
 |12=>kI H
 |14=>H[b]? =some boxO
 |_=>True
theorem QA.pres {lo b a:Nat} {kv kc kt:Value} {keys:List Tx} {t:Tx} {bx:Value→List Value} {i:Nat} {v:Value} {H H2:AHeap} (hi:i≠14) (h:QA lo b a kv kc kt keys t bx i v H) (hs:∀(q:Nat) (o:AObj),lo≤q→H[q]? =some o→H2[q]? =some o):QA lo b a kv kc kt keys t bx i v H2:=by
 match i with
 |0=>exact h
 |1=>exact h
 |2=>exact h
 |3=>exact h
 |4=>exact h
 |5=>exact h
 |6=>obtain ⟨q,h1,h2,h3⟩:=h;exact ⟨q,h1,hs _ _ h3 h2,h3⟩
 |7=>exact h
 |8=>exact h
 |9=>exact h
 |10=>exact h
 |11=>obtain ⟨q,z,h1,h2,h3,h4⟩:=h;exact ⟨q,z,h1,hs _ _ h4 h2,h3,h4⟩
 |12=>obtain ⟨q,h1,h2,h3⟩:=h;exact ⟨q,h1,hs _ _ h3 h2,h3⟩
 |13=>exact h
 |14=>exact absurd rfl hi
 |_+15=>trivial
theorem UA.pres {b:Nat} {kI:AHeap→Prop} {boxO:AObj} {i:Nat} {E E2:List (Nat×Value)} {H H2:AHeap} (h:UA b kI boxO i E H) (h1:i=12→kI H→kI H2) (h2:i=14→H[b]? =some boxO→H2[b]? =some boxO):UA b kI boxO i E2 H2:=by
 by_cases e1:i=12
 ·subst e1;exact h1 rfl h
 ·by_cases e2:i=14
  ·subst e2;exact h2 rfl h
  ·unfold UA
   split
   ·exact absurd rfl e1
   ·exact absurd rfl e2
   ·trivial
theorem QA.more {ops:List Oper} {f:Nat} {l:List (Nat×Value)} {S:List Nat} {Hc:AHeap} {lo b a:Nat} {kv kc kt:Value} {keys:List Tx} {t:Tx} {bx:Value→List Value} {kI:AHeap→Prop} {boxO:AObj} {j:Nat} {E:List (Nat×Value)} {H H2:AHeap} {v:Value}
  (hkI:∀Ha Hb,Frm [] Ha Hb→kI Ha→kI Hb) (hj:j<14) (h14:bfr ops f 14 |>.contains j) (htm:tmOk ops f (fun _=>none) tmA j=true) (hB:BL l S Hc E H) (hl:l.all (fun x=>x.1 != tmA j)=true) (hf:Frm [] H H2) (hQ:QA lo b a kv kc kt keys t bx j v H2):
  UPost ops f (fun _=>none) (BL l S Hc) (RV tmA (QA lo b a kv kc kt keys t bx)) (UA b kI boxO) j E H ⟨(tmA j,v)::E,[],H2⟩:=
 .put htm hB hl (Frm.trans hB.2 hf (fun x hx=>by cases hx)) hQ (fun i w _ _ _ hb h=>QA.pres (fun e=>by rw [e] at hb;exact hb (by simpa using h14)) h (fun q o _ hq=>hf.get hq (by simp))) (fun i _ _ h=>h.pres (fun _ hq=>hkI _ _ hf hq) (fun _ hq=>hf.get hq (by simp)))
def QB (lo b a:Nat) (sv sc st:Value) (vp:Value) (j bo:Nat) (px:Nat) (css:List (List Value)) (csx:List Value) (bx:Value→List Value) (i:Nat) (v:Value) (H:AHeap):Prop:=
 match i with
 |0=>v= .pointer (some ⟨b,3,none⟩)
 |1=>v=sv
 |2=>v= .int .i64 (a:Nat)
 |3=>v= .int .i64 (a:Nat)
 |4=>v=sc
 |5=>v=vp
 |6=>v= .int .i64 (j:Nat)
 |7=>v= .pointer (some ⟨bo,px,none⟩)
 |8=>v= .agg ⟨csx⟩
 |9=>∃q,v= .slice (some ⟨q,0,none⟩) 1 1∧H[q]? =some (.cells csx ⟨27,0,true,0,none⟩)∧lo≤q
 |10=>v= .pointer (some ⟨b,3,none⟩)
 |11=>v=sv
 |12=>v= .int .i64 (a:Nat)
 |13=>v=st
 |14=>∃q z,v= .slice (some ⟨q,0,none⟩) (css.length - a+1) (css.length - a+1)∧H[q]? =some (.cells (csx++css.flatten.drop (a*5)) ⟨27,z,true,0,none⟩)∧(z=5∨z=0)∧lo≤q
 |15=>∃q,v= .slice (some ⟨q,0,none⟩) (css.length+1) (css.length+1)∧H[q]? =some (.cells (insAt css a csx).flatten ⟨27,5,true,0,none⟩)∧lo≤q
 |16=>v= .pointer (some ⟨b,3,none⟩)
 |17=>∃q,v= .slice (some ⟨q,0,none⟩) (css.length+1) (css.length+1)∧H[q]? =some (.cells (insAt css a csx).flatten ⟨27,5,true,0,none⟩)∧lo≤q∧H[b]? =some (.cells (bx v) ⟨27,0,true,0,none⟩)
 |_=>True
def tmB:Nat→Nat
 |0=>69|1=>70|2=>71|3=>72|4=>73|5=>74|6=>75|7=>76|8=>77|9=>78|10=>79|11=>80|12=>81|13=>82|14=>83|15=>84|16=>85|_=>84
def UB (b:Nat) (kI:AHeap→Prop) (boxO:AObj) (i:Nat) (E:List (Nat×Value)) (H:AHeap):Prop:=
 match i with
 |15=>kI H
 |17=>H[b]? =some boxO
 |_=>True
theorem QB.pres {lo b a:Nat} {sv sc st vp:Value} {jj bo px:Nat} {css:List (List Value)} {csx:List Value} {bx:Value→List Value} {i:Nat} {v:Value} {H H2:AHeap} (hi:i≠17) (h:QB lo b a sv sc st vp jj bo px css csx bx i v H) (hs:∀(q:Nat) (o:AObj),lo≤q→H[q]? =some o→H2[q]? =some o):QB lo b a sv sc st vp jj bo px css csx bx i v H2:=by
 match i with
 |0=>exact h
 |1=>exact h
 |2=>exact h
 |3=>exact h
 |4=>exact h
 |5=>exact h
 |6=>exact h
 |7=>exact h
 |8=>exact h
 |9=>obtain ⟨q,h1,h2,h3⟩:=h;exact ⟨q,h1,hs _ _ h3 h2,h3⟩
 |10=>exact h
 |11=>exact h
 |12=>exact h
 |13=>exact h
 |14=>obtain ⟨q,z,h1,h2,h3,h4⟩:=h;exact ⟨q,z,h1,hs _ _ h4 h2,h3,h4⟩
 |15=>obtain ⟨q,h1,h2,h3⟩:=h;exact ⟨q,h1,hs _ _ h3 h2,h3⟩
 |16=>exact h
 |17=>exact absurd rfl hi
 |_+18=>trivial
theorem UB.pres {b:Nat} {kI:AHeap→Prop} {boxO:AObj} {i:Nat} {E E2:List (Nat×Value)} {H H2:AHeap} (h:UB b kI boxO i E H) (h1:i=15→kI H→kI H2) (h2:i=17→H[b]? =some boxO→H2[b]? =some boxO):UB b kI boxO i E2 H2:=by
 by_cases e1:i=15
 ·subst e1;exact h1 rfl h
 ·by_cases e2:i=17
  ·subst e2;exact h2 rfl h
  ·unfold UB
   split
   ·exact absurd rfl e1
   ·exact absurd rfl e2
   ·trivial
theorem QB.more {ops:List Oper} {f:Nat} {l:List (Nat×Value)} {S:List Nat} {Hc:AHeap} {lo b a:Nat} {sv sc st vp:Value} {jj bo px:Nat} {css:List (List Value)} {csx:List Value} {bx:Value→List Value} {kI:AHeap→Prop} {boxO:AObj} {j:Nat} {E:List (Nat×Value)} {H H2:AHeap} {v:Value}
  (hkI:∀Ha Hb,Frm [] Ha Hb→kI Ha→kI Hb) (hj:j<17) (h17:bfr ops f 17 |>.contains j) (htm:tmOk ops f (fun _=>none) tmB j=true) (hB:BL l S Hc E H) (hl:l.all (fun x=>x.1 != tmB j)=true) (hf:Frm [] H H2) (hQ:QB lo b a sv sc st vp jj bo px css csx bx j v H2):
  UPost ops f (fun _=>none) (BL l S Hc) (RV tmB (QB lo b a sv sc st vp jj bo px css csx bx)) (UB b kI boxO) j E H ⟨(tmB j,v)::E,[],H2⟩:=
 .put htm hB hl (Frm.trans hB.2 hf (fun x hx=>by cases hx)) hQ (fun i w _ _ _ hb h=>QB.pres (fun e=>by rw [e] at hb;exact hb (by simpa using h17)) h (fun q o _ hq=>hf.get hq (by simp))) (fun i _ _ h=>h.pres (fun _ hq=>hkI _ _ hf hq) (fun _ hq=>hf.get hq (by simp)))
def KV (H:AHeap) (e:TypeId) (m:Nat) (C:List Value) (n:Nat) (v:Value) (S:List Nat):Prop:=
 C.length=n*m∧((v= .slice none 0 0∧n=0∧S=[])∨∃q,v= .slice (some ⟨q,0,none⟩) n n∧0<n∧S=[q]∧H[q]? =some (.cells C ⟨e,m,true,0,none⟩))
end Go.Proofs.YthcdjconlfdidaaGreatDoor
