/-
  A part of the proof of a statement of this seat.
-/
import Derived.Test.YthcdjconlfdidaaGreatDoorQEM
import Derived.Test.YthcdjconlfdidaaGreatDoorQ2
import Derived.Test.YthcdjconlfdidaaGreatDoorE2M
import Derived.Test.YthcdjconlfdidaaGreatDoorAwC
set_option linter.unusedVariables false
set_option linter.unusedSimpArgs false
set_option maxRecDepth 20000
namespace Go.Proofs.YthcdjconlfdidaaGreatDoor
open Go Go.Aw Go.Proofs
def lowAt (l:List Tx) (t:Tx):Nat:=(l.takeWhile (fun x=>Op.bytesLess x t)).length
theorem lowAt_le (l:List Tx) (t:Tx):lowAt l t≤l.length:=(List.takeWhile_prefix _).length_le
theorem low_at {l:List Tx} {t:Tx} {i:Nat} (h:Low l t i):i=lowAt l t:=by
 unfold lowAt
 have h1:l.takeWhile (fun x=>Op.bytesLess x t)=l.take i:=by
  have e:l=l.take i++l.drop i:=(List.take_append_drop i l).symm
  have hp:∀x∈l.take i,Op.bytesLess x t=true:=fun x hx=>by
   obtain ⟨j,hj,rfl⟩:=List.getElem_of_mem hx
   rw [List.length_take] at hj
   rw [List.getElem_take]
   exact h.lo j _ (by omega) (List.getElem?_eq_getElem (by omega))
  rw [show l.takeWhile (fun x=>Op.bytesLess x t)=(l.take i++l.drop i).takeWhile (fun x=>Op.bytesLess x t) by rw [List.take_append_drop]]
  rw [List.takeWhile_append_of_pos hp]
  cases hd:l.drop i with
  |nil=>simp
  | cons x r=>
   have hx:l[i]? =some x:=by
    have:=congrArg (fun l=>l[0]?) hd
    simpa using this
   rw [List.takeWhile_cons_of_neg (by rw [h.hi i x (Nat.le_refl _) hx];decide),List.append_nil]
 rw [h1,List.length_take]
 have:=h.le
 omega
def withL (v:BV) (kids:List BV) (keys:List Tx):BV:= .mk v.kind v.num v.text kids keys
def setL (x:BV) (v:BV) (t:Tx):BV×Int:=
 if (stepR v t).2=0 then (withL v (v.kids.set (stepR v t).1.toNat x) v.keys,0)
 else if (stepR v t).2=8∧v.kind=4 then (withL v (insAt v.kids (lowAt v.keys t) x) (insAt v.keys (lowAt v.keys t) t),0)
 else if (stepR v t).2=8∧t=Lib.decDigits v.kids.length then (withL v (v.kids++[x]) v.keys,0)
 else (v,(stepR v t).2)
def dropL (v:BV) (t:Tx):BV×Int:=
 if (stepR v t).2=0 then (withL v (v.kids.eraseIdx (stepR v t).1.toNat) (if v.kind=4 then v.keys.eraseIdx (stepR v t).1.toNat else v.keys),0)
 else (v,(stepR v t).2)
def chR (last:BV→Tx→BV×Int):BV→List Tx→BV×Int
 |v,[]=>(v,0)
 |v,t::p=>if p=[] then last v t else
  if (stepR v t).2=0 then (withL v (v.kids.set (stepR v t).1.toNat (chR last (v.kids.getD (stepR v t).1.toNat .zero) p).1) v.keys,(chR last (v.kids.getD (stepR v t).1.toNat .zero) p).2)
  else (v,(stepR v t).2)
def putR (x v:BV) (p:List Tx):BV×Int:=if p=[] then (x,0) else chR (setL x) v p
def setR (v:BV) (p:List Tx) (x:BV):BV×Int:=
 if v.valid=true∧x.valid=true then if (putR x v p).2=0 then if (putR x v p).1.valid=true then ((putR x v p).1,0) else (.zero,4) else (.zero,(putR x v p).2) else (.zero,1)
def dropR (v:BV) (p:List Tx):BV×Int:=
 if v.valid=true then if p=[] then (.zero,7) else if (chR dropL v p).2=0 then ((chR dropL v p).1,0) else (.zero,(chR dropL v p).2) else (.zero,1)
theorem stepR_withL {v:BV} {t:Tx} {kids:List BV} (h:kids.length=v.kids.length):stepR (withL v kids v.keys) t=stepR v t:=by
 unfold stepR withL
 simp only [BV.kind,BV.keys,BV.kids,h]
 cases v
 rfl
theorem ins_get {α :Type} (l:List α) (i:Nat) (x:α) (hi:i≤l.length):(insAt l i x)[i]? =some x:=by
 unfold insAt
 rw [List.getElem?_append_right (by rw [List.length_take];omega)]
 rw [List.length_take,Nat.min_eq_left hi,Nat.sub_self]
 rfl
theorem ins_lo {α :Type} (l:List α) (i:Nat) (x:α) (j:Nat) (hj:j<i) (hi:i≤l.length):(insAt l i x)[j]? =l[j]? :=by
 unfold insAt
 rw [List.getElem?_append_left (by rw [List.length_take];omega),List.getElem?_take,if_pos hj]
theorem ins_len {α :Type} (l:List α) (i:Nat) (x:α) (hi:i≤l.length):(insAt l i x).length=l.length+1:=by
 unfold insAt;simp;omega
theorem low_lowAt {l:List Tx} (t:Tx) (h:BV.asc l=true):Low l t (lowAt l t):=by
 obtain ⟨i,hi⟩:=low_ex l t h
 rw [← low_at hi];exact hi
theorem kAt_none_iff {l:List Tx} {t:Tx}:kAt l t=none↔t∉l:=by
 unfold kAt
 rw [List.findIdx?_eq_none_iff]
 constructor
 ·intro h hm
  have:=h t hm
  simp at this
 ·intro h x hx
  rw [beq_eq_false_iff_ne]
  rintro rfl
  exact h hx
theorem kAt_of {l:List Tx} {t:Tx} {i:Nat} (h:l[i]? =some t) (hlo:∀j,j<i→l[j]? ≠some t):kAt l t=some i:=by
 unfold kAt
 rw [List.findIdx?_eq_some_iff_getElem]
 obtain ⟨hi,e⟩:=List.getElem?_eq_some_iff.1 h
 refine ⟨hi,by simp [e],fun j hj=> ?_⟩
 have:=hlo j hj
 rw [List.getElem?_eq_getElem (by omega)] at this
 simpa using this
theorem kAt_ins {l:List Tx} {t:Tx} {i:Nat} (hi:i≤l.length) (hn:t∉l):kAt (insAt l i t) t=some i:=
 kAt_of (ins_get l i t hi) fun j hj e=>by
  rw [ins_lo l i t j hj hi] at e
  exact hn (List.mem_of_getElem? e)
theorem stepR_dict {v:BV} (h:v.kind=4) (t:Tx):stepR v t=match kAt v.keys t with|some i=>((i:Nat),0)|none=>(0,8):=by
 unfold stepR;rw [if_pos h];cases kAt v.keys t<;> rfl
theorem stepR_list {v:BV} (h:v.kind=3) (t:Tx):stepR v t=match nAt v.kids.length t with|some i=>((i:Nat),0)|none=>(0,8):=by
 unfold stepR;rw [if_neg (by rw [h];decide),if_pos h];cases nAt v.kids.length t<;> rfl
theorem form_asc' {v:BV} (h:v.form=true) (hk:v.kind=4):BV.asc v.keys=true∧v.keys.length=v.kids.length:=by
 obtain ⟨k,n,s,kids,keys⟩:=v
 exact form_asc h hk
end Go.Proofs.YthcdjconlfdidaaGreatDoor

set_option linter.unusedVariables false
set_option linter.unusedSimpArgs false
set_option maxRecDepth 20000
set_option maxHeartbeats 4000000
namespace Go.Proofs.YthcdjconlfdidaaGreatDoor
open Go Go.Aw Go.Proofs
theorem GlobB.kept {H H1:AHeap} (h:GlobB H) (hk:Kept H H1):GlobB H1:=by
 obtain ⟨⟨e,h1⟩,⟨a4,a5,a6,h3⟩,⟨a7,a8,a9,h4⟩⟩:=h
 exact ⟨⟨e,hk _ _ _ h1 rfl⟩,⟨a4,a5,a6,hk _ _ _ h3 rfl⟩,⟨a7,a8,a9,hk _ _ _ h4 rfl⟩⟩
theorem OwnL.put {ex:Bool} {H:AHeap}:∀{l:List BV} {css:List (List Value)} {S:List Nat} {i:Nat} {v:BV},OwnL ex H l css S→l[i]? =some v→∃cs S1,css[i]? =some cs∧OwnV ex H v cs S1∧ (∀ s∈S1,s∈S)∧(S.Nodup→S1.Nodup)∧
  ∀(T:List Nat) (H2:AHeap) (v2:BV) (cs2:List Value),Kept H H2→ (∀ s,s∈S→(S.Nodup→s∉S1)→H2[s]? =H[s]?)→S.Nodup→ (∀ s∈S,s∉S1→s∈T)→RdV (fz H2 T) v2 cs2→RdL (fz H2 T) (l.set i v2) (css.set i cs2)
 |[],css,S,i,v,h,e=>by simp at e
 |u::l,css,S,0,v,h,e=>by
  unfold OwnL at h
  obtain ⟨c,r,S1,S2,rfl,h1,h2,rfl⟩:=h
  cases e
  refine ⟨c,S1,rfl,h1,fun s hs=>by simp [hs],fun hn=>(List.nodup_append.1 hn).1,fun T H2 v2 cs2 hk hsame hn hT hR=> ?_⟩
  have hd:=(List.nodup_append.1 hn).2.2
  have hni:∀s∈S2,s∉S1:=fun s hs h=>hd s h s hs rfl
  rw [List.set_cons_zero,List.set_cons_zero]
  unfold RdL
  exact ⟨cs2,r,rfl,hR,(h2.same hk (fun s hs=>hsame s (by simp [hs]) (fun _=>hni s hs))).rd (fun s hs=>hT s (by simp [hs]) (hni s hs))⟩
 |u::l,css,S,i+1,v,h,e=>by
  unfold OwnL at h
  obtain ⟨c,r,S1,S2,rfl,h1,h2,rfl⟩:=h
  obtain ⟨cs,T1,k1,k2,k3,k5,k4⟩:=h2.put (i:=i) (v:=v) (by simpa using e)
  refine ⟨cs,T1,by simpa using k1,k2,fun s hs=>by simp [k3 s hs],fun hn=>k5 (List.nodup_append.1 hn).2.1,fun T H2 v2 cs2 hk hsame hn hT hR=> ?_⟩
  have hd:=(List.nodup_append.1 hn).2.2
  have hn2:=(List.nodup_append.1 hn).2.1
  have hni:∀s∈S1,s∉T1:=fun s hs h=>hd s hs s (k3 s h) rfl
  rw [List.set_cons_succ,List.set_cons_succ]
  unfold RdL
  exact ⟨c,r.set i cs2,rfl,(h1.same hk (fun s hs=>hsame s (by simp [hs]) (fun _=>hni s hs))).rd (fun s hs=>hT s (by simp [hs]) (hni s hs)),k4 T H2 v2 cs2 hk (fun s hs h=>hsame s (by simp [hs]) (fun _=>h hn2)) hn2 (fun s hs h=>hT s (by simp [hs]) h) hR⟩
theorem split5 {cb cs:List Value} {off:Nat} (h:(cb.drop off).take 5=cs) (hl:off+5≤cb.length):∃A B,cb=A++(cs++B)∧A.length=off:=by
 refine ⟨cb.take off,(cb.drop off).drop 5,?_,by rw [List.length_take];omega⟩
 rw [← h,List.take_append_drop,List.take_append_drop]
theorem put_mid {A X B new:List Value} {off j:Nat} (hA:A.length=off) (h:j+new.length≤X.length):putCells (A++(X++B)) (off+j) new=A++(putCells X j new++B):=by
 rw [putCells_eq _ _ _ (by simp;omega),putCells_eq _ _ _ (by omega)]
 subst hA
 rw [List.take_length_add_append,Nat.add_assoc,List.drop_length_add_append,List.take_append_of_le_length (by omega),List.drop_append_of_le_length (by omega)]
 simp
theorem put_mid0 {A X B new:List Value} {off:Nat} (hA:A.length=off) (h:new.length=X.length):putCells (A++(X++B)) off new=A++(new++B):=by
 have:=put_mid (A:=A) (X:=X) (B:=B) (new:=new) (off:=off) (j:=0) hA (by omega)
 rw [Nat.add_zero] at this
 rw [this,putCells_all h.symm]
theorem mid_get {A X B:List Value} {off j:Nat} (hA:A.length=off) (h:j<X.length):(A++(X++B))[off+j]? =X[j]? :=by
 subst hA
 rw [List.getElem?_append_right (by omega),show A.length+j - A.length=j by omega,List.getElem?_append_left h]
theorem flat_set {m:Nat} {css:List (List Value)} {i:Nat} {r:List Value} (h:∀c∈css,c.length=m) (hr:r.length=m) (hi:i<css.length):putCells css.flatten (i*m) r=(css.set i r).flatten:=by
 have e:css=css.take i++css[i]::css.drop (i+1):=by rw [← List.drop_eq_getElem_cons hi,List.take_append_drop]
 have hl:((css.take i).flatten).length=i*m:=by
  rw [flat_len (m:=m) (fun c hc=>h c (List.mem_of_mem_take hc)),List.length_take,Nat.min_eq_left (by omega)]
 have h5:=h css[i] (List.getElem_mem hi)
 have e1:css.flatten=(css.take i).flatten++(css[i]++(css.drop (i+1)).flatten):=by
  rw [← List.flatten_cons,←List.flatten_append,←e]
 rw [e1,put_mid0 hl (by omega),List.set_eq_take_append_cons_drop,if_pos hi,List.flatten_append,List.flatten_cons]
theorem rd_rows {H:AHeap} {T:List Nat} {a n cap m:Nat} {css:List (List Value)} {C:List Value} {k:CK} (h:H[a]? =some (.cells (css.flatten++C) k)) (hk:k.esz=m∨k.esz=0) (hT:a∈T) (h5:∀c∈css,c.length=m) (hn:css.length=n) (hc:n≤cap):RdK (fz H T) m (.slice (some ⟨a,0,none⟩) n cap) css:=by
 obtain ⟨k2,g1,g2,g3,g4,g5⟩:=fz_cells (S:=T) h
 refine .inr ⟨a,0,cap,_,k2,by rw [hn],by omega,g1,g4 hT,by rw [g3];exact hk,by rw [List.length_append,flat_len h5];omega,fun j r hj=> ?_⟩
 rw [Nat.zero_add]
 have hj2:=(List.getElem?_eq_some_iff.1 hj).1
 have hle:(j+1)*m≤css.length*m:=Nat.mul_le_mul_right m hj2
 have hfl:=flat_len h5
 rw [Nat.add_mul,Nat.one_mul] at hle
 rw [List.drop_append_of_le_length (by omega),List.take_append_of_le_length (by rw [List.length_drop];omega)]
 exact flat_at h5 hj
def ChP (R:BV×Int) (stay:Prop) (H:AHeap) (b off:Nat) (cb cs:List Value) (kb:CK) (S:List Nat) (r:ARes) (H2:AHeap):Prop:=
 ∃(cs':List Value) (S':List Nat),r= .ret (.int .i64 R.2)∧cs'.length=5∧cs'.all flat=true∧H2[b]? =some (.cells (putCells cb off cs') kb)∧ (∀ s∈S',s∈S∨(H.length≤s∧s<H2.length))∧
  Kept H H2∧H.length≤H2.length∧ (∀ j,j<H.length→j≠b→j∉S→H2[j]? =H[j]?)∧(stay→cs'=cs)∧(R.2=0→∀T,(∀ s∈S',s∈T)→RdV (fz H2 T) R.1 cs')
structure AtV (ex:Bool) (lo:Nat) (H:AHeap) (v:BV) (b off:Nat) (cb cs:List Value) (kb:CK) (S:List Nat):Prop where
 good:Good v
 hb:H[b]? =some (.cells cb kb)
 own:kb.own=true
 fz:kb.fz=0
 esz:kb.esz=0
 cells:(cb.drop off).take 5=cs
 len:off+5≤cb.length
 val:OwnV ex H v cs S
 nd:S.Nodup
 nb:b∉S
 lob:lo≤b
 lo:∀s∈S,lo≤s
 hi:∀s∈S,s<H.length
theorem AtV.frm {ex:Bool} {lo:Nat} {H H2:AHeap} {v:BV} {b off:Nat} {cb cs:List Value} {kb:CK} {S:List Nat} (h:AtV ex lo H v b off cb cs kb S) (hf:Frm [] H H2):AtV ex lo H2 v b off cb cs kb S:=
 {h with hb:=hf.get h.hb (by simp),val:=h.val.same (Kept.frm hf (fun x hx=>by cases hx)) (fun s hs=>hf.2 s (h.hi s hs) (by simp)),hi:=fun s hs=>Nat.lt_of_lt_of_le (h.hi s hs) hf.1}
theorem indexO {ex:Bool} {v:BV} (hg:Good v) (t:Tx) (ht:t.length≤1099511627776) (H:AHeap) (hG:GlobB H) (cs:List Value) (S:List Nat) (hO:OwnV ex H v cs S):
  ARet Tryz.prog 40 [.agg ⟨cs⟩,.string (bs t)] H (.tuple ⟨[.int .i64 (stepR v t).1,.int .i64 (stepR v t).2]⟩) H:=by
 refine ARet.thawS S H ?_
 obtain ⟨k,n,s,kids,keys⟩:=v
 have hsz:=hg.sz
 unfold szV at hsz
 exact AC.forget rfl (index k n s kids keys hsz.1 (by omega) (fun h=>(form_asc hg.form h).1) t ht _ (hG.kept (fz_kept S H)) cs (hO.rd (fun s hs=>hs)))
theorem RdK.tail {H:AHeap} {t:Tx} {p:List Tx} {v:Value} (h:RdK H 1 v (keyC (t::p))):∃i off cap cs' k,v= .slice (some ⟨i,off,none⟩) (p.length+1) cap∧p.length+1≤cap∧H[i]? =some (.cells cs' k)∧k.own=false∧cs'[off]? =some (.string (bs t))∧
  (k.esz=1∨k.esz=0)∧RdK H 1 (.slice (some ⟨i,off+1,none⟩) p.length (cap - 1)) (keyC p):=by
 rcases h with ⟨_,h⟩|⟨i,off,cap,cs,k,e,hc,hi,ho,hz,hl,hr⟩
 ·simp [keyC] at h
 ·rw [keyC_len,List.length_cons] at e hc hl
  have h0:=hr 0 [.string (bs t)] rfl
  refine ⟨i,off,cap,cs,k,e,hc,hi,ho,?_,hz,.inr ⟨i,off+1,cap - 1,cs,k,by rw [keyC_len],by rw [keyC_len];omega,hi,ho,hz,by rw [keyC_len];omega,fun j r hj=> ?_⟩⟩
  ·have h1:=congrArg (fun l=>l[0]?) h0
   simpa using h1
  ·have:=hr (j+1) r (by simpa [keyC] using hj)
   rw [show off+1+j*1=off+(j+1)*1 by omega]
   exact this
structure GoC (ex:Bool) (lo:Nat) (J:AHeap→Prop) (f:FuncId) (cap:List Value) (last:BV→Tx→BV×Int) (stay:BV→Tx→Prop):Prop where
 frm:∀H H2,J H→Frm [] H H2→J H2
 glob:∀H,J H→GlobB H
 call:∀(v:BV) (t:Tx) (H:AHeap) (b off:Nat) (cb cs:List Value) (kb:CK) (S:List Nat),J H→AtV ex lo H v b off cb cs kb S→t.length≤1099511627776→
  AC Tryz.prog f (.pointer (some ⟨b,off,none⟩):: .string (bs t)::cap) H (ChP (last v t) (stay v t) H b off cb cs kb S)
def stayP (stay:BV→Tx→Prop) (v:BV):List Tx→Prop
 |[t]=>stay v t
 |_=>True
theorem go1 {ex:Bool} {lo:Nat} {J:AHeap→Prop} {f:FuncId} {cap:List Value} {last:BV→Tx→BV×Int} {stay:BV→Tx→Prop} (hC:GoC ex lo J f cap last stay) (L G eL eG:Nat):∀(p:List Tx) (t:Tx) (v:BV) (H:AHeap) (b off:Nat) (cb cs:List Value) (kb:CK) (S:List Nat) (vp:Value),
  J H→AtV ex lo H v b off cb cs kb S→ (∀ u∈t::p,u.length≤1099511627776)→p.length≤1099511627776→RdK H 1 vp (keyC (t::p))→H[L]? =some (.cells [.func (.func f) ⟨[]⟩ ⟨cap⟩] ⟨eL,0,true,0,none⟩)→H[G]? =some (.cells [.func (.func 66) ⟨[]⟩ ⟨[.pointer (some ⟨L,0,none⟩),.pointer (some ⟨G,0,none⟩)]⟩] ⟨eG,0,true,0,none⟩)→
  AC Tryz.prog 66 [.pointer (some ⟨b,off,none⟩),vp,.pointer (some ⟨L,0,none⟩),.pointer (some ⟨G,0,none⟩)] H (ChP (chR last v (t::p)) (stayP stay v (t::p)) H b off cb cs kb S)
 |[],t,v,H,b,off,cb,cs,kb,S,vp,hJ,hA,ht,hpl,hP,hL,hG=>by
  obtain ⟨i,o2,cap2,cs',k,rfl,hcap,hi,hown,hat,hz,hP2⟩:=RdK.tail hP
  have hl:=hC.call v t H b off cb cs kb S hJ hA (ht t (by simp))
  have hch:chR last v [t]=last v t:=by rw [chR,if_pos rfl]
  rw [hch]
  refine AC.enter Tryz.func66 rfl (by kernel_rfl) 41 rfl [.tmp 6] rfl (by simp) fun hsc B=> ?_
  repeat first|with_reducible refine kc ?_|((with_reducible first|refine kr ?_ ?_|refine kt ?_ ?_);exact rfl)|((with_reducible refine kf ?_ ?_);exact rfl)|simp only [go_sem,sevalprocAttr,reduceCtorEq,hL,hi,hat]|simp (disch:=omega) only [wz]
  refine AWP.regionK 5 (by kernel_rfl) (by decide) (by kernel_rfl) ?_
  repeat first|with_reducible refine kc ?_|((with_reducible first|refine kr ?_ ?_|refine kt ?_ ?_);exact rfl)|((with_reducible refine kf ?_ ?_);exact rfl)|simp only [go_sem,sevalprocAttr,reduceCtorEq,hL,hi,hat]|simp (disch:=omega) only [wz]
  refine AC.mono hl ?_
  rintro res H5 ⟨cs2,S2,rfl,q1,q2,q3,q4,q5,q6,q7,q8,q9⟩
  repeat first|with_reducible refine kc ?_|((with_reducible first|refine kr ?_ ?_|refine kt ?_ ?_);exact rfl)|((with_reducible refine kf ?_ ?_);exact rfl)|simp only [go_sem,sevalprocAttr,reduceCtorEq]|simp (disch:=omega) only [wz]
  exact ⟨_,_,.refl _ _ _,cs2,S2,rfl,q1,q2,q3,q4,q5,q6,q7,q8,q9⟩
 | u ::p,t,v,H,b,off,cb,cs,kb,S,vp,hJ,hA,ht,hpl,hP,hL,hG=>by
  obtain ⟨i,o2,cap2,cs',k,rfl,hcap,hi,hown,hat,hz,hP2⟩:=RdK.tail hP
  have hI:=indexO hA.good t (ht t (by simp)) H (hC.glob H hJ) _ _ hA.val
  have hne:((((u::p).length+1:Nat):Int)==1)=false:=by rw [beq_eq_false_iff_ne,List.length_cons];omega
  have hA':=hA
  obtain ⟨hg,hb,hown2,hfz,hesz,hcells,hlen,hO,hnd,hnb,hlb,hlo,hhi⟩:=hA
  have hfl:=hO.flat
  have hc5:=hO.len
  obtain ⟨A,B,rfl,hAl⟩:=split5 hcells hlen
  have hput0:∀new:List Value,new.length=5→putCells (A++(cs++B)) off new=A++(new++B):=fun new h=>put_mid0 hAl (by omega)
  have hsame:putCells (A++(cs++B)) off cs=A++(cs++B):=hput0 cs hc5
  have hat2:∀j,j<5→(A++(cs++B))[off+j]? =cs[j]? :=fun j hj=>mid_get hAl (by omega)
  have hpl1:(u::p).length=p.length+1:=rfl
  by_cases e0:(stepR v t).2=0
  ·obtain ⟨n,hn,hie⟩:=stepR_ok hg.form e0
   have hch:chR last v (t::u::p)=(withL v (v.kids.set n (chR last (v.kids.getD n .zero) (u::p)).1) v.keys,(chR last (v.kids.getD n .zero) (u::p)).2):=by
    rw [chR,if_neg (by simp),if_pos e0,hie];rfl
   rw [hch,getD_mem hn]
   rw [hie,e0] at hI
   obtain ⟨kk,nn,ss,kids,keys⟩:=v
   have hn':n<kids.length:=hn
   show AC _ _ _ _ (ChP (withL (.mk kk nn ss kids keys) (kids.set n (chR last kids[n] (u::p)).1) keys,(chR last kids[n] (u::p)).2) _ _ _ _ _ _ _ _)
   unfold OwnV at hO
   obtain ⟨vs,a,css,Sb,Sk,rfl,h1,h2,h3,rfl⟩:=hO
   have hat3:=hat2 3 (by omega)
   simp only [List.getElem?_cons_zero,List.getElem?_cons_succ] at hat3
   obtain ⟨ci,S1,k1,k2,k3,k5,k4⟩:=h3.put (List.getElem?_eq_getElem hn')
   have hc55:=h3.all5
   have hcl:=h3.len
   have hcfl:=flat_len hc55
   have hle5:n*5+5≤css.flatten.length:=by rw [hcfl];omega
   have hlt:(n:Int)<(kids.length:Int):=by omega
   rw [List.nodup_cons,List.nodup_append] at hnd
   have hak:a∉Sk:=fun h=>hnd.1 (by simp [h])
   have hndk:=hnd.2.2.1
   have hA2:AtV ex lo H kids[n] a (n*5) css.flatten ci ⟨27,0,true,0,none⟩ S1:=
    ⟨hg.kid (List.getElem_mem hn'),h1,rfl,rfl,rfl,flat_at hc55 k1,hle5,k2,k5 hndk,fun h=>hak (k3 a h),hlo a (by simp),fun s hs=>hlo s (by simp [k3 s hs]),fun s hs=>hhi s (by simp [k3 s hs])⟩
   have hgo:=go1 hC L G eL eG p u kids[n] H a (n*5) css.flatten ci _ S1 _ hJ hA2 (fun x hx=>ht x (by simp at hx ⊢;exact .inr hx)) (by omega) hP2 hL hG
   generalize kids[n]=w at*
   generalize chR last w (u::p)=R at*
   generalize hCB:A++([.int .i64 kk,.int .i64 nn,.string (bs ss),.slice (some ⟨a,0,none⟩) kids.length kids.length,vs]++B)=CB at*
   refine AC.enter Tryz.func66 rfl (by kernel_rfl) 41 rfl [.tmp 6] rfl (by simp) fun hsc B=> ?_
   repeat first|with_reducible refine kc ?_|((with_reducible first|refine kr ?_ ?_|refine kt ?_ ?_);exact rfl)|((with_reducible refine kf ?_ ?_);exact rfl)|simp only [go_sem,sevalprocAttr,reduceCtorEq,hL,hi,hat,hne]|simp (disch:=omega) only [wz]
   refine AWP.regionK 11 (by kernel_rfl) (by decide) (by kernel_rfl) ?_
   repeat first|with_reducible refine kc ?_|((with_reducible first|refine kr ?_ ?_|refine kt ?_ ?_);exact rfl)|((with_reducible refine kf ?_ ?_);exact rfl)|simp only [go_sem,sevalprocAttr,reduceCtorEq,hb,hcells,hlen,hi,hat,hfl,hc5]|simp (disch:=omega) only [wz]
   refine ⟨by omega,?_⟩
   refine ARet.exq (hI) (by simp only [go_sem,sevalprocAttr,reduceCtorEq]) ?_
   repeat first|with_reducible refine kc ?_|((with_reducible first|refine kr ?_ ?_|refine kt ?_ ?_);exact rfl)|((with_reducible refine kf ?_ ?_);exact rfl)|simp only [go_sem,sevalprocAttr,reduceCtorEq]|simp (disch:=omega) only [wz]
   refine AWP.regionK 9 (by kernel_rfl) (by decide) (by kernel_rfl) ?_
   repeat first|with_reducible refine kc ?_|((with_reducible first|refine kr ?_ ?_|refine kt ?_ ?_);exact rfl)|((with_reducible refine kf ?_ ?_);exact rfl)|simp only [go_sem,sevalprocAttr,reduceCtorEq,hb,hat3,hG,hlt,hi,hz,tight]|simp (disch:=omega) only [wz]
   rw [List.length_cons] at hcap hgo
   refine ⟨by omega,by omega,AC.mono hgo ?_⟩
   rintro res H5 ⟨ci2,S2,rfl,q1,q2,q3,q4,q5,q6,q7,q8,q9⟩
   repeat first|with_reducible refine kc ?_|((with_reducible first|refine kr ?_ ?_|refine kt ?_ ?_);exact rfl)|((with_reducible refine kf ?_ ?_);exact rfl)|simp only [go_sem,sevalprocAttr,reduceCtorEq]|simp (disch:=omega) only [wz]
   have hbH:=lt_of_get hb
   have hba:b≠a:=fun e=>hnb (by simp [e])
   have hbs:b∉S1:=fun h=>hnb (by simp [k3 b h])
   have hps:putCells css.flatten (n*5) ci2=(css.set n ci2).flatten:=flat_set hc55 q1 (by omega)
   have h5s:∀c∈css.set n ci2,c.length=5:=fun c hc=>by
    rcases List.mem_or_eq_of_mem_set hc with h|rfl
    ·exact hc55 c h
    ·exact q1
   refine ⟨_,_,.refl _ _ _,_,a::(Sb++(Sk++S2)),rfl,rfl,hfl,?_,fun s hs=> ?_,q5,q6,fun j hj h1 h2=> ?_,fun _=>rfl,fun hR T hT=> ?_⟩
   ·rw [hsame,q7 b hbH hba hbs];exact hb
   ·simp only [List.mem_cons,List.mem_append] at hs ⊢
    rcases hs with h|h|h|h
    ·exact .inl (.inl h)
    ·exact .inl (.inr (.inl h))
    ·exact .inl (.inr (.inr h))
    ·rcases q4 s h with h|h
     ·exact .inl (.inr (.inr (k3 s h)))
     ·exact .inr h
   ·simp only [List.mem_cons,List.mem_append,not_or] at h2
    exact q7 j hj h2.1 (fun h=>h2.2.2 (k3 j h))
   ·unfold withL
    unfold RdV
    refine ⟨_,vs,css.set n ci2,rfl,rd_rows (C:=[]) (k:=⟨27,0,true,0,none⟩) (by rw [List.append_nil,←hps];exact q3) (.inr rfl) (hT a (by simp)) h5s (by simp [hcl]) (Nat.le_refl _),?_,?_⟩
    ·exact k4 T H5 R.1 ci2 q5 (fun s hs hni=>q7 s (hhi s (by simp [hs])) (fun e=>hak (e ▸ hs)) (hni hndk)) hndk (fun s hs _=>hT s (by simp [hs])) (q9 hR T (fun s hs=>hT s (by simp [hs])))
    ·exact (h2.same (fun s hs=>q7 s (hhi s (by simp [hs])) (fun e=>hnd.1 (by simp [← e,hs])) (fun h=>hnd.2.2.2 s hs s (k3 s h) rfl)) q5).rd (fun s hs=>hT s (by simp [hs]))
  ·have hch:chR last v (t::u::p)=(v,(stepR v t).2):=by
    rw [chR,if_neg (by simp),if_neg e0]
   rw [hch]
   obtain ⟨e,he⟩:∃e,e=(stepR v t).2:=⟨_,rfl⟩
   rw [← he] at e0 hI ⊢
   have he':(e != 0)=true:=by simpa using e0
   generalize hCB:A++(cs++B)=CB at*
   refine AC.enter Tryz.func66 rfl (by kernel_rfl) 41 rfl [.tmp 6] rfl (by simp) fun hsc B=> ?_
   repeat first|with_reducible refine kc ?_|((with_reducible first|refine kr ?_ ?_|refine kt ?_ ?_);exact rfl)|((with_reducible refine kf ?_ ?_);exact rfl)|simp only [go_sem,sevalprocAttr,reduceCtorEq,hL,hi,hat,hne]|simp (disch:=omega) only [wz]
   refine AWP.regionK 11 (by kernel_rfl) (by decide) (by kernel_rfl) ?_
   repeat first|with_reducible refine kc ?_|((with_reducible first|refine kr ?_ ?_|refine kt ?_ ?_);exact rfl)|((with_reducible refine kf ?_ ?_);exact rfl)|simp only [go_sem,sevalprocAttr,reduceCtorEq,hb,hcells,hlen,hi,hat,hfl,hc5]|simp (disch:=omega) only [wz]
   refine ⟨by omega,?_⟩
   refine ARet.exq (hI) (by simp only [go_sem,sevalprocAttr,reduceCtorEq]) ?_
   repeat first|with_reducible refine kc ?_|((with_reducible first|refine kr ?_ ?_|refine kt ?_ ?_);exact rfl)|((with_reducible refine kf ?_ ?_);exact rfl)|simp only [go_sem,sevalprocAttr,reduceCtorEq,he']|simp (disch:=omega) only [wz]
   exact ⟨_,_,.refl _ _ _,cs,S,rfl,hc5,hfl,by rw [hsame];exact hb,fun s hs=> .inl hs,Kept.refl H,Nat.le_refl _,fun _ _ _ _=>rfl,fun _=>rfl,fun h=>absurd h e0⟩
end Go.Proofs.YthcdjconlfdidaaGreatDoor
