/-
  A part of the proof of a statement of this seat.
-/
import Derived.Test.YthcdjconlfdidaaGreatDoorQR
import Derived.Test.YthcdjconlfdidaaGreatDoorQNM
import Derived.Test.YthcdjconlfdidaaGreatDoorAwC
set_option linter.unusedVariables false
set_option linter.unusedSimpArgs false
set_option maxRecDepth 20000
set_option maxHeartbeats 4000000
namespace Go.Proofs.YthcdjconlfdidaaGreatDoor
open Go Go.Aw Go.Proofs
theorem putR_nil (x v:BV):putR x v []=(x,0):=by unfold putR;rw [if_pos rfl]
theorem putR_cons (x v:BV) (t:Tx) (p:List Tx):putR x v (t::p)=if (stepR v t).2=0 then (withL v (v.kids.set (stepR v t).1.toNat (putR x (v.kids.getD (stepR v t).1.toNat .zero) p).1) v.keys,(putR x (v.kids.getD (stepR v t).1.toNat .zero) p).2) else if p=[] then setL x v t else (v,(stepR v t).2):=by
 unfold putR
 rw [if_neg (by simp),chR]
 by_cases hp:p=[]
 ·rw [if_pos hp,if_pos hp,if_pos hp]
  split
  ·rename_i h
   unfold setL
   rw [if_pos h]
  ·rfl
 ·rw [if_neg hp,if_neg hp,if_neg hp]
theorem PartR.rd {lo e m:Nat} {H H2:AHeap} {l:List (List Value)} {v:Value} {T:List Nat} (h:PartR lo e m H l v) (hm:∀r∈l,r.length=m) (hsame:∀q,lo≤q→q<H.length→H2[q]? =H[q]?) (hT:∀q z:Nat,v= .slice (some ⟨q,0,none⟩) l.length l.length→q∈T):RdK (fz H2 T) m v l:=by
 obtain ⟨q,z,rfl,h2,h3,h4⟩:=h
 have h2':H2[q]? =some (.cells (l.flatten++[]) ⟨e,z,true,0,none⟩):=by rw [List.append_nil,hsame q h4 (lt_of_get h2)];exact h2
 exact rd_rows h2' (by rcases h3 with ⟨h,_⟩|⟨h,_⟩<;> simp [h]) (hT q z rfl) hm rfl (Nat.le_refl _)
theorem app_one {P:Program} {e m y lo:Nat} {l:List (List Value)} {r:List Value} {v:Value} {H:AHeap} {K:Value→AHeap→Prop} (hm:0<m) (hv:PartR lo e m H l v) (hr:∀c∈l,c.length=m) (hl:lo≤H.length) (h1:(l.length+1)*y≤140737488355328) (h2:l.length≤1099511627776)
  (hk:∀H2,(H2=H∨∃q cs,lo≤q∧H[q]? =some (.cells cs ⟨e,m,true,0,none⟩)∧H2=H.set q .dead)→K (.slice (some ⟨H.length,0,none⟩) (l.length+1) (l.length+1)) (H2++ [.cells (l.flatten++r) ⟨e,m,true,0,none⟩])):appendTo P e m y v 1 r H K:=by
 obtain ⟨q,z,rfl,hq,hz,hlo⟩:=hv
 rcases hz with ⟨rfl,hp⟩|⟨rfl,hp⟩
 ·exact appendTo_own hq (by omega) (flat_len hr) (by decide) h1 (by omega) (hk _ (.inr ⟨q,_,hlo,hq,rfl⟩))
 ·subst hp
  refine appendTo_x hq rfl (by simp) (by simp) h1 (by simp) ?_
  have:=hk _ (.inl rfl)
  simpa using this
theorem OwnS.rd {lo:Nat} {H:AHeap} {v:BV} {cs:List Value} (h:OwnS lo H v cs):∃T:List Nat,(∀ s∈T,lo≤s∧s<H.length)∧∀(H2:AHeap),Kept H H2→ (∀ q,lo≤q→q<H.length→H2[q]? =H[q]?)→RdV (fz H2 T) v cs:=by
 obtain ⟨vk,vs,css,rfl,h1,h2,h3⟩:=h
 have h5:=h2.all5
 have hl:=h2.len
 obtain ⟨q1,z1,e1,g1,g2,g3⟩:=id h1
 obtain ⟨q2,z2,e2,g4,g5,g6⟩:=id h3
 refine ⟨[q1,q2],fun s hs=> ?_,fun H2 hk hs=> ?_⟩
 ·simp only [List.mem_cons,List.not_mem_nil,or_false] at hs
  rcases hs with rfl|rfl
  ·exact ⟨g3,lt_of_get g1⟩
  ·exact ⟨g6,lt_of_get g4⟩
 ·obtain ⟨k,n,s,kids,keys⟩:=v
  unfold RdV
  have hk1:=h1.rd (T:=[q1,q2]) h5 hs (fun q z e=>by
   rw [e1] at e
   injection e with e
   injection e with e
   injection e with e
   simp [e])
  have hk2:=h3.rd (T:=[q1,q2]) (keyC_len1 keys) hs (fun q z e=>by
   rw [e2] at e
   injection e with e
   injection e with e
   injection e with e
   simp [e])
  exact ⟨vk,vs,css,rfl,hk1,RdL.kept (hk.trans (fz_kept _ _)) h2,hk2⟩
theorem OwnS.len {lo:Nat} {H:AHeap} {v:BV} {cs:List Value} (h:OwnS lo H v cs):cs.length=5:=by
 obtain ⟨vk,vs,css,rfl,_⟩:=h;rfl
theorem OwnS.flat {lo:Nat} {H:AHeap} {v:BV} {cs:List Value} (h:OwnS lo H v cs):cs.all Go.Aw.flat=true:=by
 obtain ⟨vk,vs,css,rfl,h1,_,h3⟩:=h
 simp only [List.all_cons,List.all_nil,h1.flat,h3.flat,Bool.and_true]
 rfl
theorem OwnS.frm {lo:Nat} {H H2:AHeap} {v:BV} {cs:List Value} (h:OwnS lo H v cs) (hf:Frm [] H H2):OwnS lo H2 v cs:=by
 obtain ⟨vk,vs,css,e,h1,h2,h3⟩:=h
 exact ⟨vk,vs,css,e,h1.frm hf,h2.kept (Kept.frm hf (fun x hx=>by cases hx)),h3.frm hf⟩
theorem OwnS.set {lo:Nat} {H:AHeap} {v:BV} {cs:List Value} (h:OwnS lo H v cs) {b:Nat} (hb:b<lo) {c:List Value} {k:CK} (hc:H[b]? =some (.cells c k)) (hk:k.own=true) (o:AObj):OwnS lo (H.set b o) v cs:=by
 obtain ⟨vk,vs,css,e,h1,h2,h3⟩:=h
 exact ⟨vk,vs,css,e,h1.set hb o,h2.kept (Kept.set hc hk _),h3.set hb o⟩
theorem rStepO {lo:Nat} {v:BV} (hok:OkV v) {t:Tx} (ht:t.length≤1099511627776) {H:AHeap} {cs:List Value} (h:OwnS lo H v cs):
  ∃z,ARet Tryz.prog 65 [.agg ⟨cs⟩,.string (bs t)] H (.tuple ⟨[.int .i64 z,.int .i64 (stepR v t).2]⟩) H∧StepP v t z:=by
 obtain ⟨T,hT,hR⟩:=h.rd
 have hR:=hR H (.refl _) (fun _ _ _=>rfl)
 have h1:=hok.kids_le
 have h2:=hok.keys_le
 obtain ⟨k,n,s,kids,keys⟩:=v
 obtain ⟨z,hz,hp⟩:=rStep k n s kids keys h1 (by have:keys.length≤1000:=h2;omega) t ht (fz H T) cs hR
 exact ⟨z,ARet.thawS T H hz,hp⟩
def zeroO:AObj:= .cells [.int .i64 0,.int .i64 0,.string (bs []),.slice none 0 0,.slice none 0 0] ⟨27,0,true,0,none⟩
structure PutS (H:AHeap) (v:BV) (csx cs':List Value) (H3:AHeap):Prop where
 own:OwnS (H.length+3) H3 v cs'
 frm:Frm [] H H3
 hb:H3[H.length]? =some (.cells cs' ⟨27,0,true,0,none⟩)
 hx:H3[H.length+1]? =some (.cells csx ⟨27,0,true,0,none⟩)
 hr:H3[H.length+2]? =some zeroO
def PutJ (H:AHeap) (v:BV) (t:Tx) (vp:Value) (csx:List Value) (st:ASt):Prop:=
 ∃cs' H3 z,PutS H v csx cs' H3∧StepP v t z∧st=⟨[(1,vp),(3,.pointer (some ⟨H.length,0,none⟩)),(5,.pointer (some ⟨H.length+1,0,none⟩)),(6,.pointer (some ⟨H.length+2,0,none⟩)),(7,.int .i64 0),(8,.int .i64 z),(9,.int .i64 (stepR v t).2)],[],H3⟩
theorem fz_frm {H HF:AHeap} {T:List Nat} (hf:Frm [] H HF) (hT:∀s∈T,H.length≤s):Frm [] H (fz HF T):=
 ⟨by rw [fz_length];exact hf.1,fun j hj hn=>by rw [fz_get,if_neg (fun h=>by have:=hT j h;omega)];exact hf.2 j hj hn⟩
end Go.Proofs.YthcdjconlfdidaaGreatDoor

set_option linter.unusedVariables false
set_option linter.unusedSimpArgs false
set_option maxRecDepth 20000
set_option maxHeartbeats 4000000
namespace Go.Proofs.YthcdjconlfdidaaGreatDoor
open Go Go.Aw Go.Proofs
theorem app_head {P:Program} {e m y q lo n:Nat} {r news:List Value} {H:AHeap} {K:Value→AHeap→Prop} (hm:0<m) (hq:H[q]? =some (.cells r ⟨e,0,true,0,none⟩)) (hr:r.length=m) (hlo:lo≤q) (hl:lo≤H.length) (hn:news.length=n*m) (h1:(1+n)*y≤140737488355328) (h2:n≤1099511627776)
  (hk:∀(q' z:Nat) (X:AHeap),(z=m∨z=0)→lo≤q'→(H++X)[q']? =some (.cells (r++news) ⟨e,z,true,0,none⟩)→K (.slice (some ⟨q',0,none⟩) (n+1) (n+1)) (H++X)):appendTo P e m y (.slice (some ⟨q,0,none⟩) 1 1) n news H K:=by
 by_cases hn0:n=0
 ·subst hn0
  have hnil:news=[]:=List.eq_nil_of_length_eq_zero (by rw [hn,Nat.zero_mul])
  subst hnil
  unfold appendTo
  simp only [hq]
  refine ⟨fun _=>⟨fun _=> ?_,fun h=>absurd rfl h⟩,fun h=>absurd (Nat.le_refl 1) h⟩
  have:=hk q 0 [] (.inr rfl) hlo (by rw [List.append_nil,List.append_nil];exact hq)
  rw [List.append_nil] at this
  exact this
 ·refine appendTo_x hq rfl (by omega) (by rw [Nat.zero_add,Nat.one_mul,hr];exact Nat.le_refl _) h1 (by omega) ?_
  have e':List.take (1*m) (List.drop 0 r)++news=r++news:=by rw [Nat.one_mul,List.drop_zero,List.take_of_length_le (by omega)]
  rw [e',Nat.add_comm 1 n]
  exact hk H.length m _ (.inl rfl) hl (by rw [hget0 rfl];rfl)
theorem app_cut {P:Program} {e m y q z a n:Nat} {C news:List Value} {H:AHeap} {K:Value→AHeap→Prop} (hm:0<m) (hq:H[q]? =some (.cells C ⟨e,z,true,0,none⟩)) (hz:z=m∨z=0) (ha:a*m≤C.length) (hn0:0<n) (h1:(a+n)*y≤140737488355328) (h2:a+n≤1099511627776)
  (hk:∀H2,(H2=H∨H2=H.set q .dead)→K (.slice (some ⟨H.length,0,none⟩) (a+n) (a+n)) (H2++ [.cells (C.take (a*m)++news) ⟨e,m,true,0,none⟩])):appendTo P e m y (.slice (some ⟨q,0,none⟩) a a) n news H K:=by
 unfold appendTo
 simp only [hq]
 refine ⟨fun h=>by omega,fun _=>⟨⟨by rw [Nat.zero_add];exact ha,h1,by omega⟩,fun h=>⟨⟨trivial,?_,Nat.zero_le _,trivial⟩,?_⟩,fun _=> ?_⟩⟩
 ·rcases hz with rfl|rfl
  ·rfl
  ·exact absurd rfl h.1
 ·rw [List.drop_zero]
  exact hk _ (.inr rfl)
 ·rw [List.drop_zero]
  exact hk _ (.inl rfl)
theorem strs_ins' (l:List Tx) (i:Nat) (t:Tx):(strsC l).take (i*1)++([Value.string (bs t)]++(strsC l).drop i)=strsC (insAt l i t):=by
 rw [Nat.mul_one,strs_ins]
 rfl
def QI (lo b i0 o0 a q2:Nat) (vp:Value) (keys:List Tx) (t:Tx) (bx:Value→List Value) (i:Nat) (v:Value) (H:AHeap):Prop:=
 match i with
 |0=>v= .pointer (some ⟨b,4,none⟩)
 |1=>v= .slice (some ⟨q2,0,none⟩) (keyC keys).length (keyC keys).length
 |2=>v= .int .i64 (a:Nat)
 |3=>v= .int .i64 (a:Nat)
 |4=>v= .slice (some ⟨q2,0,none⟩) a a
 |5=>v=vp
 |6=>v= .pointer (some ⟨i0,o0,none⟩)
 |7=>v= .string (bs t)
 |8=>∃q,v= .slice (some ⟨q,0,none⟩) 1 1∧H[q]? =some (.cells [.string (bs t)] ⟨9,0,true,0,none⟩)∧lo≤q
 |9=>v= .pointer (some ⟨b,4,none⟩)
 |10=>v= .slice (some ⟨q2,0,none⟩) (keyC keys).length (keyC keys).length
 |11=>v= .int .i64 (a:Nat)
 |12=>v= .slice (some ⟨q2,a,none⟩) (keys.length - a) (keys.length - a)
 |13=>∃q z,v= .slice (some ⟨q,0,none⟩) (keys.length - a+1) (keys.length - a+1)∧H[q]? =some (.cells ([.string (bs t)]++(strsC keys).drop a) ⟨9,z,true,0,none⟩)∧(z=1∨z=0)∧lo≤q
 |14=>∃q,v= .slice (some ⟨q,0,none⟩) (keys.length+1) (keys.length+1)∧H[q]? =some (.cells (strsC (insAt keys a t)) ⟨9,1,true,0,none⟩)∧lo≤q
 |15=>v= .pointer (some ⟨b,4,none⟩)
 |16=>∃q,v= .slice (some ⟨q,0,none⟩) (keys.length+1) (keys.length+1)∧H[q]? =some (.cells (strsC (insAt keys a t)) ⟨9,1,true,0,none⟩)∧lo≤q∧H[b]? =some (.cells (bx v) ⟨27,0,true,0,none⟩)
 |_=>True
def tmI:Nat→Nat
 |0=>97|1=>98|2=>99|3=>100|4=>101|5=>102|6=>103|7=>104|8=>105|9=>106|10=>107|11=>108|12=>109|13=>110|14=>111|15=>112|_=>111
def UI (b q2:Nat) (keyO boxO:AObj) (i:Nat) (E:List (Nat×Value)) (H:AHeap):Prop:=
 match i with
 |14=>H[q2]? =some keyO
 |16=>H[b]? =some boxO
 |_=>True
theorem QI.pres {lo b i0 o0 a q2:Nat} {vp:Value} {keys:List Tx} {t:Tx} {bx:Value→List Value} {i:Nat} {v:Value} {H H2:AHeap} (hi:i≠16) (h:QI lo b i0 o0 a q2 vp keys t bx i v H) (hs:∀(q:Nat) (o:AObj),lo≤q→H[q]? =some o→H2[q]? =some o):QI lo b i0 o0 a q2 vp keys t bx i v H2:=by
 match i with
 |0=>exact h
 |1=>exact h
 |2=>exact h
 |3=>exact h
 |4=>exact h
 |5=>exact h
 |6=>exact h
 |7=>exact h
 |8=>obtain ⟨q,h1,h2,h3⟩:=h;exact ⟨q,h1,hs _ _ h3 h2,h3⟩
 |9=>exact h
 |10=>exact h
 |11=>exact h
 |12=>exact h
 |13=>obtain ⟨q,z,h1,h2,h3,h4⟩:=h;exact ⟨q,z,h1,hs _ _ h4 h2,h3,h4⟩
 |14=>obtain ⟨q,h1,h2,h3⟩:=h;exact ⟨q,h1,hs _ _ h3 h2,h3⟩
 |15=>exact h
 |16=>exact absurd rfl hi
 |_+17=>trivial
theorem UI.pres {b q2:Nat} {keyO boxO:AObj} {i:Nat} {E E2:List (Nat×Value)} {H H2:AHeap} (h:UI b q2 keyO boxO i E H) (h1:i=14→H[q2]? =some keyO→H2[q2]? =some keyO) (h2:i=16→H[b]? =some boxO→H2[b]? =some boxO):UI b q2 keyO boxO i E2 H2:=by
 by_cases e1:i=14
 ·subst e1;exact h1 rfl h
 ·by_cases e2:i=16
  ·subst e2;exact h2 rfl h
  ·unfold UI
   split
   ·exact absurd rfl e1
   ·exact absurd rfl e2
   ·trivial
theorem QI.more {ops:List Oper} {f:Nat} {l:List (Nat×Value)} {S:List Nat} {Hc:AHeap} {lo b i0 o0 a q2:Nat} {vp:Value} {keys:List Tx} {t:Tx} {bx:Value→List Value} {keyO boxO:AObj} {j:Nat} {E:List (Nat×Value)} {H H2:AHeap} {v:Value}
  (hj:j<16) (h16:bfr ops f 16 |>.contains j) (htm:tmOk ops f (fun _=>none) tmI j=true) (hB:BL l S Hc E H) (hl:l.all (fun x=>x.1 != tmI j)=true) (hf:Frm [] H H2) (hQ:QI lo b i0 o0 a q2 vp keys t bx j v H2):
  UPost ops f (fun _=>none) (BL l S Hc) (RV tmI (QI lo b i0 o0 a q2 vp keys t bx)) (UI b q2 keyO boxO) j E H ⟨(tmI j,v)::E,[],H2⟩:=
 .put htm hB hl (Frm.trans hB.2 hf (fun x hx=>by cases hx)) hQ (fun i w _ _ _ hb h=>QI.pres (fun e=>by rw [e] at hb;exact hb (by simpa using h16)) h (fun q o _ hq=>hf.get hq (by simp))) (fun i _ _ h=>h.pres (fun _ hq=>hf.get hq (by simp)) (fun _ hq=>hf.get hq (by simp)))
def QJ (lo b a q1:Nat) (css:List (List Value)) (csx:List Value) (bx:Value→List Value) (i:Nat) (v:Value) (H:AHeap):Prop:=
 match i with
 |0=>v= .pointer (some ⟨b,3,none⟩)
 |1=>v= .slice (some ⟨q1,0,none⟩) css.length css.length
 |2=>v= .int .i64 (a:Nat)
 |3=>v= .int .i64 (a:Nat)
 |4=>v= .slice (some ⟨q1,0,none⟩) a a
 |5=>v= .agg ⟨csx⟩
 |6=>∃q,v= .slice (some ⟨q,0,none⟩) 1 1∧H[q]? =some (.cells csx ⟨27,0,true,0,none⟩)∧lo≤q
 |7=>v= .pointer (some ⟨b,3,none⟩)
 |8=>v= .slice (some ⟨q1,0,none⟩) css.length css.length
 |9=>v= .int .i64 (a:Nat)
 |10=>v= .slice (some ⟨q1,a*5,none⟩) (css.length - a) (css.length - a)
 |11=>∃q z,v= .slice (some ⟨q,0,none⟩) (css.length - a+1) (css.length - a+1)∧H[q]? =some (.cells (csx++css.flatten.drop (a*5)) ⟨27,z,true,0,none⟩)∧(z=5∨z=0)∧lo≤q
 |12=>∃q,v= .slice (some ⟨q,0,none⟩) (css.length+1) (css.length+1)∧H[q]? =some (.cells (insAt css a csx).flatten ⟨27,5,true,0,none⟩)∧lo≤q
 |13=>v= .pointer (some ⟨b,3,none⟩)
 |14=>∃q,v= .slice (some ⟨q,0,none⟩) (css.length+1) (css.length+1)∧H[q]? =some (.cells (insAt css a csx).flatten ⟨27,5,true,0,none⟩)∧lo≤q∧H[b]? =some (.cells (bx v) ⟨27,0,true,0,none⟩)
 |_=>True
def tmJ:Nat→Nat
 |0=>113|1=>114|2=>115|3=>116|4=>117|5=>118|6=>119|7=>120|8=>121|9=>122|10=>123|11=>124|12=>125|13=>126|_=>125
def UJ (b q1:Nat) (kidO boxO:AObj) (i:Nat) (E:List (Nat×Value)) (H:AHeap):Prop:=
 match i with
 |12=>H[q1]? =some kidO
 |14=>H[b]? =some boxO
 |_=>True
theorem QJ.pres {lo b a q1:Nat} {css:List (List Value)} {csx:List Value} {bx:Value→List Value} {i:Nat} {v:Value} {H H2:AHeap} (hi:i≠14) (h:QJ lo b a q1 css csx bx i v H) (hs:∀(q:Nat) (o:AObj),lo≤q→H[q]? =some o→H2[q]? =some o):QJ lo b a q1 css csx bx i v H2:=by
 match i with
 |0=>exact h
 |1=>exact h
 |2=>exact h
 |3=>exact h
 |4=>exact h
 |5=>exact h
 |6=>obtain ⟨q,h1,h2,h3⟩:=h;exact ⟨q,h1,hs _ _ h3 h2,h3⟩
 |7=>exact h
 |8=>exact h
 |9=>exact h
 |10=>exact h
 |11=>obtain ⟨q,z,h1,h2,h3,h4⟩:=h;exact ⟨q,z,h1,hs _ _ h4 h2,h3,h4⟩
 |12=>obtain ⟨q,h1,h2,h3⟩:=h;exact ⟨q,h1,hs _ _ h3 h2,h3⟩
 |13=>exact h
 |14=>exact absurd rfl hi
 |_+15=>trivial
theorem UJ.pres {b q1:Nat} {kidO boxO:AObj} {i:Nat} {E E2:List (Nat×Value)} {H H2:AHeap} (h:UJ b q1 kidO boxO i E H) (h1:i=12→H[q1]? =some kidO→H2[q1]? =some kidO) (h2:i=14→H[b]? =some boxO→H2[b]? =some boxO):UJ b q1 kidO boxO i E2 H2:=by
 by_cases e1:i=12
 ·subst e1;exact h1 rfl h
 ·by_cases e2:i=14
  ·subst e2;exact h2 rfl h
  ·unfold UJ
   split
   ·exact absurd rfl e1
   ·exact absurd rfl e2
   ·trivial
theorem QJ.more {ops:List Oper} {f:Nat} {l:List (Nat×Value)} {S:List Nat} {Hc:AHeap} {lo b a q1:Nat} {css:List (List Value)} {csx:List Value} {bx:Value→List Value} {kidO boxO:AObj} {j:Nat} {E:List (Nat×Value)} {H H2:AHeap} {v:Value}
  (hj:j<14) (h14:bfr ops f 14 |>.contains j) (htm:tmOk ops f (fun _=>none) tmJ j=true) (hB:BL l S Hc E H) (hl:l.all (fun x=>x.1 != tmJ j)=true) (hf:Frm [] H H2) (hQ:QJ lo b a q1 css csx bx j v H2):
  UPost ops f (fun _=>none) (BL l S Hc) (RV tmJ (QJ lo b a q1 css csx bx)) (UJ b q1 kidO boxO) j E H ⟨(tmJ j,v)::E,[],H2⟩:=
 .put htm hB hl (Frm.trans hB.2 hf (fun x hx=>by cases hx)) hQ (fun i w _ _ _ hb h=>QJ.pres (fun e=>by rw [e] at hb;exact hb (by simpa using h14)) h (fun q o _ hq=>hf.get hq (by simp))) (fun i _ _ h=>h.pres (fun _ hq=>hf.get hq (by simp)) (fun _ hq=>hf.get hq (by simp)))
end Go.Proofs.YthcdjconlfdidaaGreatDoor
