/-
  A part of the proof of a statement of this seat.
-/
import Derived.Test.YthcdjconlfdidaaGreatDoorE4M
import Derived.Test.YthcdjconlfdidaaGreatDoorAwC
import Derived.Test.YthcdjconlfdidaaGreatDoorQFM
import Derived.Test.YthcdjconlfdidaaGreatDoorQAM
set_option linter.unusedVariables false
set_option linter.unusedSimpArgs false
set_option maxRecDepth 20000
set_option maxHeartbeats 4000000
namespace Go.Proofs.YthcdjconlfdidaaGreatDoor
open Go Go.Aw Go.Proofs
end Go.Proofs.YthcdjconlfdidaaGreatDoor

set_option linter.unusedVariables false
set_option linter.unusedSimpArgs false
set_option maxRecDepth 20000
namespace Go.Proofs.YthcdjconlfdidaaGreatDoor
open Go Go.Aw Go.Proofs
def lowAt (l:List Tx) (t:Tx):Nat:=(l.takeWhile (fun x=>Op.bytesLess x t)).length
theorem lowAt_le (l:List Tx) (t:Tx):lowAt l t≤l.length:=(List.takeWhile_prefix _).length_le
theorem low_at {l:List Tx} {t:Tx} {i:Nat} (h:Low l t i):i=lowAt l t:=by
 unfold lowAt
 have h1:l.takeWhile (fun x=>Op.bytesLess x t)=l.take i:=by
  have e:l=l.take i++l.drop i:=(List.take_append_drop i l).symm
  have hp:∀x∈l.take i,Op.bytesLess x t=true:=fun x hx=>by
   obtain ⟨j,hj,rfl⟩:=List.getElem_of_mem hx
   rw [List.length_take] at hj
   rw [List.getElem_take]
   exact h.lo j _ (by omega) (List.getElem?_eq_getElem (by omega))
  rw [show l.takeWhile (fun x=>Op.bytesLess x t)=(l.take i++l.drop i).takeWhile (fun x=>Op.bytesLess x t) by rw [List.take_append_drop]]
  rw [List.takeWhile_append_of_pos hp]
  cases hd:l.drop i with
  |nil=>simp
  | cons x r=>
   have hx:l[i]? =some x:=by
    have:=congrArg (fun l=>l[0]?) hd
    simpa using this
   rw [List.takeWhile_cons_of_neg (by rw [h.hi i x (Nat.le_refl _) hx];decide),List.append_nil]
 rw [h1,List.length_take]
 have:=h.le
 omega
def withL (v:BV) (kids:List BV) (keys:List Tx):BV:= .mk v.kind v.num v.text kids keys
def setL (x:BV) (v:BV) (t:Tx):BV×Int:=
 if (stepR v t).2=0 then (withL v (v.kids.set (stepR v t).1.toNat x) v.keys,0)
 else if (stepR v t).2=8∧v.kind=4 then (withL v (insAt v.kids (lowAt v.keys t) x) (insAt v.keys (lowAt v.keys t) t),0)
 else if (stepR v t).2=8∧t=Lib.decDigits v.kids.length then (withL v (v.kids++[x]) v.keys,0)
 else (v,(stepR v t).2)
def chR (last:BV→Tx→BV×Int):BV→List Tx→BV×Int
 |v,[]=>(v,0)
 |v,t::p=>if p=[] then last v t else
  if (stepR v t).2=0 then (withL v (v.kids.set (stepR v t).1.toNat (chR last (v.kids.getD (stepR v t).1.toNat .zero) p).1) v.keys,(chR last (v.kids.getD (stepR v t).1.toNat .zero) p).2)
  else (v,(stepR v t).2)
def putR (x v:BV) (p:List Tx):BV×Int:=if p=[] then (x,0) else chR (setL x) v p
def setR (v:BV) (p:List Tx) (x:BV):BV×Int:=
 if v.valid=true∧x.valid=true then if (putR x v p).2=0 then if (putR x v p).1.valid=true then ((putR x v p).1,0) else (.zero,4) else (.zero,(putR x v p).2) else (.zero,1)
theorem ins_get {α :Type} (l:List α) (i:Nat) (x:α) (hi:i≤l.length):(insAt l i x)[i]? =some x:=by
 unfold insAt
 rw [List.getElem?_append_right (by rw [List.length_take];omega)]
 rw [List.length_take,Nat.min_eq_left hi,Nat.sub_self]
 rfl
theorem ins_lo {α :Type} (l:List α) (i:Nat) (x:α) (j:Nat) (hj:j<i) (hi:i≤l.length):(insAt l i x)[j]? =l[j]? :=by
 unfold insAt
 rw [List.getElem?_append_left (by rw [List.length_take];omega),List.getElem?_take,if_pos hj]
theorem ins_hi {α :Type} (l:List α) (i:Nat) (x:α) (j:Nat) (hj:i≤j) (hi:i≤l.length):(insAt l i x)[j+1]? =l[j]? :=by
 unfold insAt
 rw [List.getElem?_append_right (by rw [List.length_take];omega),List.length_take,Nat.min_eq_left hi,show j+1 - i=(j - i)+1 by omega,List.getElem?_cons_succ,List.getElem?_drop]
 congr 1;omega
theorem ins_len {α :Type} (l:List α) (i:Nat) (x:α) (hi:i≤l.length):(insAt l i x).length=l.length+1:=by
 unfold insAt;simp;omega
theorem low_lowAt {l:List Tx} (t:Tx) (h:BV.asc l=true):Low l t (lowAt l t):=by
 obtain ⟨i,hi⟩:=low_ex l t h
 rw [← low_at hi];exact hi
end Go.Proofs.YthcdjconlfdidaaGreatDoor

set_option linter.unusedVariables false
set_option linter.unusedSimpArgs false
set_option maxRecDepth 20000
set_option maxHeartbeats 4000000
namespace Go.Proofs.YthcdjconlfdidaaGreatDoor
open Go Go.Aw Go.Proofs
theorem GlobB.kept {H H1:AHeap} (h:GlobB H) (hk:Kept H H1):GlobB H1:=by
 obtain ⟨⟨e,h1⟩,⟨a4,a5,a6,h3⟩,⟨a7,a8,a9,h4⟩⟩:=h
 exact ⟨⟨e,hk _ _ _ h1 rfl⟩,⟨a4,a5,a6,hk _ _ _ h3 rfl⟩,⟨a7,a8,a9,hk _ _ _ h4 rfl⟩⟩
theorem OwnL.put {ex:Bool} {H:AHeap}:∀{l:List BV} {css:List (List Value)} {S:List Nat} {i:Nat} {v:BV},OwnL ex H l css S→l[i]? =some v→∃cs S1,css[i]? =some cs∧OwnV ex H v cs S1∧ (∀ s∈S1,s∈S)∧(S.Nodup→S1.Nodup)∧
  ∀(T:List Nat) (H2:AHeap) (v2:BV) (cs2:List Value),Kept H H2→ (∀ s,s∈S→(S.Nodup→s∉S1)→H2[s]? =H[s]?)→S.Nodup→ (∀ s∈S,s∉S1→s∈T)→RdV (fz H2 T) v2 cs2→RdL (fz H2 T) (l.set i v2) (css.set i cs2)
 |[],css,S,i,v,h,e=>by simp at e
 |u::l,css,S,0,v,h,e=>by
  unfold OwnL at h
  obtain ⟨c,r,S1,S2,rfl,h1,h2,rfl⟩:=h
  cases e
  refine ⟨c,S1,rfl,h1,fun s hs=>by simp [hs],fun hn=>(List.nodup_append.1 hn).1,fun T H2 v2 cs2 hk hsame hn hT hR=> ?_⟩
  have hd:=(List.nodup_append.1 hn).2.2
  have hni:∀s∈S2,s∉S1:=fun s hs h=>hd s h s hs rfl
  rw [List.set_cons_zero,List.set_cons_zero]
  unfold RdL
  exact ⟨cs2,r,rfl,hR,(h2.same hk (fun s hs=>hsame s (by simp [hs]) (fun _=>hni s hs))).rd (fun s hs=>hT s (by simp [hs]) (hni s hs))⟩
 |u::l,css,S,i+1,v,h,e=>by
  unfold OwnL at h
  obtain ⟨c,r,S1,S2,rfl,h1,h2,rfl⟩:=h
  obtain ⟨cs,T1,k1,k2,k3,k5,k4⟩:=h2.put (i:=i) (v:=v) (by simpa using e)
  refine ⟨cs,T1,by simpa using k1,k2,fun s hs=>by simp [k3 s hs],fun hn=>k5 (List.nodup_append.1 hn).2.1,fun T H2 v2 cs2 hk hsame hn hT hR=> ?_⟩
  have hd:=(List.nodup_append.1 hn).2.2
  have hn2:=(List.nodup_append.1 hn).2.1
  have hni:∀s∈S1,s∉T1:=fun s hs h=>hd s hs s (k3 s h) rfl
  rw [List.set_cons_succ,List.set_cons_succ]
  unfold RdL
  exact ⟨c,r.set i cs2,rfl,(h1.same hk (fun s hs=>hsame s (by simp [hs]) (fun _=>hni s hs))).rd (fun s hs=>hT s (by simp [hs]) (hni s hs)),k4 T H2 v2 cs2 hk (fun s hs h=>hsame s (by simp [hs]) (fun _=>h hn2)) hn2 (fun s hs h=>hT s (by simp [hs]) h) hR⟩
theorem rd_rows {H:AHeap} {T:List Nat} {a n cap m:Nat} {css:List (List Value)} {C:List Value} {k:CK} (h:H[a]? =some (.cells (css.flatten++C) k)) (hk:k.esz=m∨k.esz=0) (hT:a∈T) (h5:∀c∈css,c.length=m) (hn:css.length=n) (hc:n≤cap):RdK (fz H T) m (.slice (some ⟨a,0,none⟩) n cap) css:=by
 obtain ⟨k2,g1,g2,g3,g4,g5⟩:=fz_cells (S:=T) h
 refine .inr ⟨a,0,cap,_,k2,by rw [hn],by omega,g1,g4 hT,by rw [g3];exact hk,by rw [List.length_append,flat_len h5];omega,fun j r hj=> ?_⟩
 rw [Nat.zero_add]
 have hj2:=(List.getElem?_eq_some_iff.1 hj).1
 have hle:(j+1)*m≤css.length*m:=Nat.mul_le_mul_right m hj2
 have hfl:=flat_len h5
 rw [Nat.add_mul,Nat.one_mul] at hle
 rw [List.drop_append_of_le_length (by omega),List.take_append_of_le_length (by rw [List.length_drop];omega)]
 exact flat_at h5 hj
structure AtV (ex:Bool) (lo:Nat) (H:AHeap) (v:BV) (b off:Nat) (cb cs:List Value) (kb:CK) (S:List Nat):Prop where
 good:Good v
 hb:H[b]? =some (.cells cb kb)
 own:kb.own=true
 fz:kb.fz=0
 esz:kb.esz=0
 cells:(cb.drop off).take 5=cs
 len:off+5≤cb.length
 val:OwnV ex H v cs S
 nd:S.Nodup
 nb:b∉S
 lob:lo≤b
 lo:∀s∈S,lo≤s
 hi:∀s∈S,s<H.length
theorem AtV.frm {ex:Bool} {lo:Nat} {H H2:AHeap} {v:BV} {b off:Nat} {cb cs:List Value} {kb:CK} {S:List Nat} (h:AtV ex lo H v b off cb cs kb S) (hf:Frm [] H H2):AtV ex lo H2 v b off cb cs kb S:=
 {h with hb:=hf.get h.hb (by simp),val:=h.val.same (Kept.frm hf (fun x hx=>by cases hx)) (fun s hs=>hf.2 s (h.hi s hs) (by simp)),hi:=fun s hs=>Nat.lt_of_lt_of_le (h.hi s hs) hf.1}
theorem RdK.tail {H:AHeap} {t:Tx} {p:List Tx} {v:Value} (h:RdK H 1 v (keyC (t::p))):∃i off cap cs' k,v= .slice (some ⟨i,off,none⟩) (p.length+1) cap∧p.length+1≤cap∧H[i]? =some (.cells cs' k)∧k.own=false∧cs'[off]? =some (.string (bs t))∧
  (k.esz=1∨k.esz=0)∧RdK H 1 (.slice (some ⟨i,off+1,none⟩) p.length (cap - 1)) (keyC p):=by
 rcases h with ⟨_,h⟩|⟨i,off,cap,cs,k,e,hc,hi,ho,hz,hl,hr⟩
 ·simp [keyC] at h
 ·rw [keyC_len,List.length_cons] at e hc hl
  have h0:=hr 0 [.string (bs t)] rfl
  refine ⟨i,off,cap,cs,k,e,hc,hi,ho,?_,hz,.inr ⟨i,off+1,cap - 1,cs,k,by rw [keyC_len],by rw [keyC_len];omega,hi,ho,hz,by rw [keyC_len];omega,fun j r hj=> ?_⟩⟩
  ·have h1:=congrArg (fun l=>l[0]?) h0
   simpa using h1
  ·have:=hr (j+1) r (by simpa [keyC] using hj)
   rw [show off+1+j*1=off+(j+1)*1 by omega]
   exact this
end Go.Proofs.YthcdjconlfdidaaGreatDoor

set_option linter.unusedVariables false
set_option linter.unusedSimpArgs false
set_option maxRecDepth 20000
set_option maxHeartbeats 4000000
namespace Go.Proofs.YthcdjconlfdidaaGreatDoor
open Go Go.Aw Go.Proofs
theorem RdL.set {H:AHeap}:∀{l:List BV} {css:List (List Value)} {i:Nat} {x:BV} {c:List Value},RdL H l css→RdV H x c→RdL H (l.set i x) (css.set i c)
 |[],css,i,x,c,h,hx=>by unfold RdL at h;rw [h];simp;unfold RdL;rfl
 |v::l,css,0,x,c,h,hx=>by
  unfold RdL at h
  obtain ⟨cs,r,rfl,h1,h2⟩:=h
  rw [List.set_cons_zero,List.set_cons_zero];unfold RdL
  exact ⟨c,r,rfl,hx,h2⟩
 |v::l,css,i+1,x,c,h,hx=>by
  unfold RdL at h
  obtain ⟨cs,r,rfl,h1,h2⟩:=h
  rw [List.set_cons_succ,List.set_cons_succ];unfold RdL
  exact ⟨cs,r.set i c,rfl,h1,RdL.set h2 hx⟩
theorem RdL.ins {H:AHeap}:∀{l:List BV} {css:List (List Value)} {i:Nat} {x:BV} {c:List Value},RdL H l css→RdV H x c→RdL H (insAt l i x) (insAt css i c)
 |[],css,i,x,c,h,hx=>by
  unfold RdL at h;rw [h];unfold insAt;simp;unfold RdL;exact ⟨c,[],rfl,hx,by unfold RdL;rfl⟩
 |v::l,css,0,x,c,h,hx=>by
  show RdL H (x::v::l) (insAt css 0 c)
  unfold insAt;rw [List.take_zero,List.drop_zero,List.nil_append]
  unfold RdL;exact ⟨c,css,rfl,hx,h⟩
 |v::l,css,i+1,x,c,h,hx=>by
  unfold RdL at h
  obtain ⟨cs,r,rfl,h1,h2⟩:=h
  have:=RdL.ins (i:=i) h2 hx
  unfold insAt at this ⊢
  rw [List.take_succ_cons,List.take_succ_cons,List.drop_succ_cons,List.drop_succ_cons,List.cons_append,List.cons_append]
  unfold RdL;exact ⟨cs,_,rfl,h1,this⟩
theorem RdL.erase {H:AHeap}:∀{l:List BV} {css:List (List Value)} {i:Nat},RdL H l css→RdL H (l.eraseIdx i) (css.eraseIdx i)
 |[],css,i,h=>by unfold RdL at h;rw [h];simp;unfold RdL;rfl
 |v::l,css,0,h=>by
  unfold RdL at h
  obtain ⟨cs,r,rfl,h1,h2⟩:=h
  exact h2
 |v::l,css,i+1,h=>by
  unfold RdL at h
  obtain ⟨cs,r,rfl,h1,h2⟩:=h
  rw [List.eraseIdx_cons_succ,List.eraseIdx_cons_succ];unfold RdL
  exact ⟨cs,r.eraseIdx i,rfl,h1,RdL.erase h2⟩
end Go.Proofs.YthcdjconlfdidaaGreatDoor

set_option linter.unusedVariables false
set_option linter.unusedSimpArgs false
set_option maxRecDepth 20000
set_option maxHeartbeats 4000000
namespace Go.Proofs.YthcdjconlfdidaaGreatDoor
open Go Go.Aw Go.Proofs
end Go.Proofs.YthcdjconlfdidaaGreatDoor

set_option linter.unusedVariables false
set_option linter.unusedSimpArgs false
set_option maxRecDepth 20000
set_option maxHeartbeats 4000000
namespace Go.Proofs.YthcdjconlfdidaaGreatDoor
open Go Go.Aw Go.Proofs
end Go.Proofs.YthcdjconlfdidaaGreatDoor

set_option linter.unusedVariables false
set_option linter.unusedSimpArgs false
set_option maxRecDepth 20000
set_option maxHeartbeats 4000000
namespace Go.Proofs.YthcdjconlfdidaaGreatDoor
open Go Go.Aw Go.Proofs
def oneV (v:BV):BV:= .mk 3 0 [] [v] []
theorem Good.one {v:BV} (h:Good v):Good (oneV v) where
 sz:=by
  unfold oneV szV
  exact ⟨by simp,by simp,szL_iff.2 (fun c hc=>by rw [List.mem_singleton.1 hc];exact h.sz)⟩
 form:=by
  unfold oneV
  rw [form_shape,Bool.and_eq_true]
  exact ⟨rfl,BV.formL_iff.2 (fun c hc=>by rw [List.mem_singleton.1 hc];exact h.form)⟩
end Go.Proofs.YthcdjconlfdidaaGreatDoor
