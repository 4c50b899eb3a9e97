/-
 Acknowledging.
-/
import Derived.Test.YtdgmcckfdgnicaaUX
set_option linter.unusedVariables false
set_option linter.unusedSimpArgs false
set_option maxRecDepth 20000
set_option maxHeartbeats 8000000
namespace Go.Proofs.Ytdgmcckfdgnicaa
open Go Go.Aw Go.Proofs
structure AJ (H:AHeap) (e:Nat) (q:Q) (s':E) (H':AHeap) (q':Q) (bl:List (Nat×AObj)):Prop where
 end_:EndI H' e s' q'
 frm:Frm (q.names e) H H'
 names:∀j∈q'.names e,j∈q.names e∨H.length≤j
 box:∀x∈bl,H'[x.1]? =some x.2∧x.1∉q'.names e∧H.length≤x.1
theorem AJ.of {H:AHeap} {e:Nat} {s:E} {q:Q} (h:EndI H e s q):AJ H e q s H q []:=⟨h,Frm.refl _ _,fun j hj=> .inl hj,by simp⟩
theorem AJ.step {H:AHeap} {e:Nat} {q:Q} {s' s2:E} {H' H2:AHeap} {q' q2:Q} {bl:List (Nat×AObj)} (h:AJ H e q s' H' q' bl) (h1:EndI H2 e s2 q2) (h2:Frm (q'.names e) H' H2) (h3:∀j∈q2.names e,j∈q'.names e∨H'.length≤j):AJ H e q s2 H2 q2 bl where
 end_:=h1
 frm:=h.frm.trans h2 (fun j hj=>h.names j hj)
 names:=fun j hj=>by
  rcases h3 j hj with g|g
  ·exact h.names j g
  ·have:=h.frm.1;exact .inr (by omega)
 box:=fun x hx=>by
  obtain ⟨a,b,c⟩:=h.box x hx
  refine ⟨h2.get a b,fun hm=> ?_,c⟩
  rcases h3 _ hm with g|g
  ·exact b g
  ·have:=lt_of_get a;omega
theorem AJ.steps {H:AHeap} {e:Nat} {q:Q} {s' s2:E} {H' H2:AHeap} {q':Q} {bl:List (Nat×AObj)} (h:AJ H e q s' H' q' bl) (k:Steps H' e q' s2 H2):∃q2,AJ H e q s2 H2 q2 bl:=by
 obtain ⟨q2,k1,k2,k3⟩:=k
 exact ⟨q2,h.step k1 k2 k3⟩
theorem AJ.done {H:AHeap} {e:Nat} {q:Q} {s':E} {H':AHeap} {q':Q} {bl:List (Nat×AObj)} (h:AJ H e q s' H' q' bl):Steps H e q s' H':=⟨q',h.end_,h.frm,h.names⟩
theorem AJ.add {H:AHeap} {e:Nat} {q:Q} {s':E} {H':AHeap} {q':Q} {bl:List (Nat×AObj)} (h:AJ H e q s' H' q' bl) (o:AObj):AJ H e q s' (H'++[o]) q' ((H'.length,o)::bl) where
 end_:=h.end_.more _
 frm:=h.frm.more
 names:=h.names
 box:=fun x hx=>by
  rcases List.mem_cons.1 hx with rfl|hx
  ·exact ⟨by simp,fun hm=>by have:=h.end_.lt _ hm;omega,h.frm.1⟩
  ·obtain ⟨a,b,c⟩:=h.box x hx
   exact ⟨by rw [hgetl (lt_of_get a)];exact a,b,c⟩
theorem AJ.more {H:AHeap} {e:Nat} {q:Q} {s':E} {H':AHeap} {q':Q} {bl:List (Nat×AObj)} (h:AJ H e q s' H' q' bl) (X:AHeap):AJ H e q s' (H'++X) q' bl:=h.step (h.end_.more X) Frm.app (fun j hj=> .inl hj)
theorem AJ.other {H:AHeap} {e x:Nat} {q:Q} {s':E} {H' H2:AHeap} {q':Q} {bl:List (Nat×AObj)} (h:AJ H e q s' H' q' bl) (hF:Frm [x] H' H2) (h1:x∉q'.names e) (h2:∀y∈bl,y.1≠x) (h3:H.length≤x):AJ H e q s' H2 q' bl where
 end_:=h.end_.frm hF fun j hj hm=>h1 (by rw [← List.mem_singleton.1 hm];exact hj)
 frm:=h.frm.trans hF fun j hj=> .inr (by rw [List.mem_singleton.1 hj];exact h3)
 names:=h.names
 box:=fun y hy=>by
  obtain ⟨a,b,c⟩:=h.box y hy
  exact ⟨hF.get a fun hm=>h2 y hy (List.mem_singleton.1 hm),b,c⟩
theorem AJ.set {H:AHeap} {e x:Nat} {q:Q} {s':E} {H':AHeap} {q':Q} {o:AObj} {bl:List (Nat×AObj)} (h:AJ H e q s' H' q' ((x,o)::bl)) (hne:∀y∈bl,y.1≠x) (o2:AObj):AJ H e q s' (H'.set x o2) q' ((x,o2)::bl):=by
 obtain ⟨a,b,c⟩:=h.box _ (List.mem_cons_self ..)
 have h':AJ H e q s' H' q' bl:=⟨h.end_,h.frm,h.names,fun y hy=>h.box y (List.mem_cons_of_mem _ hy)⟩
 have h2:=h'.other (x:=x) (Frm.set (o:=o2) (Frm.refl [x] H') (.inl (List.mem_singleton.2 rfl))) b hne c
 refine ⟨h2.end_,h2.frm,h2.names,fun y hy=> ?_⟩
 rcases List.mem_cons.1 hy with rfl|hy
 ·exact ⟨List.getElem?_set_self (lt_of_get a),b,c⟩
 ·exact h2.box y hy
theorem AJ.put {H:AHeap} {e:Nat} {q:Q} {s:E} {H':AHeap} {q':Q} {bl:List (Nat×AObj)} (h:AJ H e q s H' q' bl) (s':E) (hw:s'.waiting=s.waiting) (hf:s'.flight=s.flight) (hk:s'.kept=s.kept):AJ H e q s' (H'.set e (.cells (endC s' q') kE)) q' bl:=
 h.step (h.end_.put s' q'.told hw hf hk) (Frm.set (Frm.refl _ _) (.inl (by simp [Q.names]))) (fun j hj=> .inl hj)
def ackD (s:E) (ack:Int):Int:=if (ack - s.acked)%65536≥32768 then (ack - s.acked)%65536 - 65536 else (ack - s.acked)%65536
def ackTo (s:E) (ack:Int):Int:=s.acked+ackD s ack
def goneUp (s:E) (n:Nat):E:=(List.range n).foldl (fun s' (k:Nat)=>goneR s' (s.acked+1+k)) s
def namedI (s:List UInt8):List Int:=(namedN s).map fun (i:Nat)=>(i:Int)+2
def goneMk (s:E) (to:Int) (l:List Int):E:=l.foldl (fun s' far=>goneR s' (to+far)) s
def ackR (s:E) (ack:Int) (marks:List UInt8):E:=
 if ackTo s ack≥s.next then s else
 goneMk {goneUp s (ackTo s ack - s.acked).toNat with acked:=max s.acked (ackTo s ack)} (ackTo s ack) (namedI marks)
theorem goneR_same (s:E) (n:Int):(goneR s n).acked=s.acked∧(goneR s n).next=s.next∧(goneR s n).flight.length≤s.flight.length:=by
 unfold goneR
 split
 ·exact ⟨rfl,rfl,Nat.le_refl _⟩
 ·split
  ·exact ⟨rfl,rfl,Nat.le_refl _⟩
  ·refine ⟨rfl,rfl,?_⟩
   simp only [goneAt,List.length_append,List.length_map,List.length_take,List.length_drop]
   omega
theorem goneUp_succ (s:E) (n:Nat):goneUp s (n+1)=goneR (goneUp s n) (s.acked+1+n):=by
 unfold goneUp
 rw [List.range_succ,List.foldl_append]
 rfl
theorem goneUp_same (s:E) (n:Nat):(goneUp s n).acked=s.acked∧(goneUp s n).next=s.next∧(goneUp s n).flight.length≤s.flight.length:=by
 induction n with
 |zero=>exact ⟨rfl,rfl,Nat.le_refl _⟩
 |succ n ih=>
  rw [goneUp_succ]
  have h:=goneR_same (goneUp s n) (s.acked+1+n)
  exact ⟨h.1.trans ih.1,h.2.1.trans ih.2.1,Nat.le_trans h.2.2 ih.2.2⟩
theorem goneMk_same (to:Int):∀(l:List Int) (s:E),(goneMk s to l).acked=s.acked∧(goneMk s to l).next=s.next∧(goneMk s to l).flight.length≤s.flight.length
 |[],s=>⟨rfl,rfl,Nat.le_refl _⟩
 |x::l,s=>by
  have h:=goneR_same s (to+x)
  have ih:=goneMk_same to l (goneR s (to+x))
  exact ⟨ih.1.trans h.1,ih.2.1.trans h.2.1,Nat.le_trans ih.2.2 h.2.2⟩
end Go.Proofs.Ytdgmcckfdgnicaa
