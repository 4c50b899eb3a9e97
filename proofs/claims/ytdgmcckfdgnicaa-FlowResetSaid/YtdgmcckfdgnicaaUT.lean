/-
 Send:up to what is due.
-/
import Derived.Test.YtdgmcckfdgnicaaUS
set_option linter.unusedVariables false
set_option linter.unusedSimpArgs false
set_option maxRecDepth 20000
set_option maxHeartbeats 8000000
namespace Go.Proofs.Ytdgmcckfdgnicaa
open Go Go.Aw Go.Proofs
theorem Sg.c9 (x:Sg):x.c.length=9:=rfl
theorem Sg.cput (x:Sg):putCells [.int .i64 0,.int .i64 0,.int .i64 0,.int .i64 0,.int .i64 0,.string (bs []),.string (bs []),.int .i64 0,.int .i64 0] 0 x.c=x.c:=rfl
theorem Sg.ctake (x:Sg):x.c.take 9=x.c:=rfl
theorem Sg.cflat (x:Sg):x.c.all flat=true:=rfl
structure SJ (H:AHeap) (e bx r:Nat) (q:Q) (s:E) (o:List Sg) (H4:AHeap) (q4:Q) (v:Value) (js:List Nat):Prop where
 end_:EndI H4 e s q4
 frm:Frm (q.names e) H H4
 names:∀j∈q4.names e,j∈q.names e∨H.length≤j
 bxo:H4[bx]? =some (.cells [ptr e] ⟨29,0,true,0,none⟩)
 ro:H4[r]? =some (.cells [v] ⟨31,0,true,0,none⟩)
 row:RowS H4 v o js
 jsn:∀j∈js,H.length≤j∧j∉q4.names e∧j≠bx∧j≠r
 bxn:bx∉q4.names e
 rn:r∉q4.names e
 br:bx≠r
 old:H.length≤bx∧H.length≤r
theorem SJ.step {H:AHeap} {e bx r:Nat} {q:Q} {s s':E} {o:List Sg} {H4 H5:AHeap} {q4 q5:Q} {v:Value} {js:List Nat} (h:SJ H e bx r q s o H4 q4 v js) (h1:EndI H5 e s' q5) (h2:Frm (q4.names e) H4 H5) (h3:∀j∈q5.names e,j∈q4.names e∨H4.length≤j):SJ H e bx r q s' o H5 q5 v js where
 end_:=h1
 frm:=h.frm.trans h2 (fun j hj=>h.names j hj)
 names:=fun j hj=>by
  rcases h3 j hj with g|g
  ·exact h.names j g
  ·have:=h.frm.1;exact .inr (by omega)
 bxo:=h2.get h.bxo h.bxn
 ro:=h2.get h.ro h.rn
 row:=h.row.frm h2 fun j hj=>(h.jsn j hj).2.1
 jsn:=fun j hj=>⟨(h.jsn j hj).1,fun hm=>by
  rcases h3 j hm with g|g
  ·exact (h.jsn j hj).2.1 g
  ·have:=h.row.lt j hj;omega,(h.jsn j hj).2.2⟩
 bxn:=fun hm=>by
  rcases h3 _ hm with g|g
  ·exact h.bxn g
  ·have:=lt_of_get h.bxo;omega
 rn:=fun hm=>by
  rcases h3 _ hm with g|g
  ·exact h.rn g
  ·have:=lt_of_get h.ro;omega
 br:=h.br
 old:=h.old
theorem SJ.put {H:AHeap} {e bx r:Nat} {q:Q} {s:E} {o:List Sg} {H4:AHeap} {q4:Q} {v:Value} {js:List Nat} (h:SJ H e bx r q s o H4 q4 v js) (s':E) (hw:s'.waiting=s.waiting) (hf:s'.flight=s.flight) (hk:s'.kept=s.kept):SJ H e bx r q s' o (H4.set e (.cells (endC s' q4) kE)) q4 v js:=
 h.step (h.end_.put s' q4.told hw hf hk) (Frm.set (Frm.refl _ _) (.inl (by simp [Q.names]))) (fun j hj=> .inl hj)
theorem SJ.more {H:AHeap} {e bx r:Nat} {q:Q} {s:E} {o:List Sg} {H4:AHeap} {q4:Q} {v:Value} {js:List Nat} (h:SJ H e bx r q s o H4 q4 v js) (X:AHeap):SJ H e bx r q s o (H4++X) q4 v js:=
 h.step (h.end_.more X) Frm.app (fun j hj=> .inl hj)
theorem SJ.other {H:AHeap} {e bx r x:Nat} {q:Q} {s:E} {o:List Sg} {H4 H5:AHeap} {q4:Q} {v:Value} {js:List Nat} (h:SJ H e bx r q s o H4 q4 v js) (hF:Frm [x] H4 H5) (h1:x∉q4.names e) (h2:x≠bx) (h3:x≠r) (h4:x∉js) (h5:H.length≤x):SJ H e bx r q s o H5 q4 v js where
 end_:=h.end_.frm hF fun j hj hm=>h1 (by rw [← List.mem_singleton.1 hm];exact hj)
 frm:=h.frm.trans hF fun j hj=> .inr (by rw [List.mem_singleton.1 hj];exact h5)
 names:=h.names
 bxo:=hF.get h.bxo fun hm=>h2 (List.mem_singleton.1 hm).symm
 ro:=hF.get h.ro fun hm=>h3 (List.mem_singleton.1 hm).symm
 row:=h.row.frm hF fun j hj hm=>h4 (by rw [← List.mem_singleton.1 hm];exact hj)
 jsn:=h.jsn
 bxn:=h.bxn
 rn:=h.rn
 br:=h.br
 old:=h.old
theorem SJ.push {H:AHeap} {e bx r:Nat} {q:Q} {s:E} {o o2:List Sg} {H4 H5:AHeap} {q4:Q} {v v2:Value} {js js2:List Nat} (h:SJ H e bx r q s o H4 q4 v js) (hr:RowS H5 v2 o2 js2) (hF:Frm js H4 H5) (hj:∀j∈js2,j∈js∨j=H4.length):SJ H e bx r q s o2 (H5.set r (.cells [v2] ⟨31,0,true,0,none⟩)) q4 v2 js2 where
 end_:=(h.end_.frm hF fun j hj hm=>(h.jsn j hm).2.1 hj).frm (S:=[r]) (Frm.set (Frm.refl _ _) (.inl (List.mem_singleton.2 rfl))) fun j hj hm=>h.rn (by rw [← List.mem_singleton.1 hm];exact hj)
 frm:=(h.frm.trans hF (fun j hj=> .inr (h.jsn j hj).1)).set (.inr h.old.2)
 names:=h.names
 bxo:=by
  rw [List.getElem?_set_ne (fun g=>h.br g.symm)]
  exact hF.get h.bxo fun hm=>(h.jsn _ hm).2.2.1 rfl
 ro:=List.getElem?_set_self (by have:=hF.1;have:=lt_of_get h.ro;omega)
 row:=hr.frm (S:=[r]) (Frm.set (Frm.refl _ _) (.inl (List.mem_singleton.2 rfl))) fun j hj' hm=>by
  rw [List.mem_singleton] at hm
  subst hm
  rcases hj j hj' with g|g
  ·exact (h.jsn j g).2.2.2 rfl
  ·have:=lt_of_get h.ro;omega
 jsn:=fun j hj'=>by
  rcases hj j hj' with g|g
  ·exact h.jsn j g
  ·subst g
   have h1:=h.frm.1
   exact ⟨h1,fun hm=>by have:=h.end_.lt _ hm;omega,fun g=>by have:=lt_of_get h.bxo;omega,fun g=>by have:=lt_of_get h.ro;omega⟩
 bxn:=h.bxn
 rn:=h.rn
 br:=h.br
 old:=h.old
theorem SJ.pushX {H:AHeap} {e bx r:Nat} {q:Q} {s:E} {o:List Sg} {H4:AHeap} {q4:Q} {v:Value} {js:List Nat} (h:SJ H e bx r q s o H4 q4 v js) (x:Sg) (X:AHeap) (hl:o.length<1000000):
  ∃v2 H5 js2,SJ H e bx r q s (o++[x]) (H5.set r (.cells [v2] ⟨31,0,true,0,none⟩)) q4 v2 js2∧Frm js (H4++X) H5∧ (∀ j∈js2,j∈js∨H4.length≤j)∧H5[r]? =some (.cells [v] ⟨31,0,true,0,none⟩)∧cellsOf v2=[v2]∧flat v2=true∧r<H5.length∧∀K:Value→AHeap→Prop,K v2 H5→appendTo Try.prog 44 9 88 v 1 x.c (H4++X) K:=by
 have h':=h.more X
 obtain ⟨v2,H5,js2,a1,a2,a3,a4⟩:=h'.row.appendD [x] (by simp;omega)
 refine ⟨v2,H5,js2,h'.push a1 a2 a3,a2,fun j hj=>(a3 j hj).imp id (fun g=>by rw [g,List.length_append];omega),a2.get h'.ro (fun hm=>(h'.jsn _ hm).2.2.2 rfl),a1.cells.1,a1.cells.2,by have:=a2.1;have:=lt_of_get h'.ro;omega,fun K hK=> ?_⟩
 have:=a4 K hK
 simpa only [sgF,List.map_cons,List.map_nil,List.flatten_cons,List.flatten_nil,List.append_nil,List.length_cons,List.length_nil,Nat.zero_add] using this
end Go.Proofs.Ytdgmcckfdgnicaa
