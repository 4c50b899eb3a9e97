/-
  A part of the proof of a statement of this seat.
-/
import Derived.Test.YtdgmcckfdgnicaaUX
set_option linter.unusedVariables false
set_option linter.unusedSimpArgs false
set_option maxRecDepth 20000
set_option maxHeartbeats 8000000
namespace Go.Proofs.Ytdgmcckfdgnicaa
open Go Go.Aw Go.Proofs
structure AJ (H:AHeap) (e:Nat) (q:Q) (s':E) (H':AHeap) (q':Q) (bl:List (Nat×AObj)):Prop where
 end_:EndI H' e s' q'
 frm:Frm (q.names e) H H'
 names:∀j∈q'.names e,j∈q.names e∨H.length≤j
 box:∀x∈bl,H'[x.1]? =some x.2∧x.1∉q'.names e∧H.length≤x.1
theorem AJ.of {H:AHeap} {e:Nat} {s:E} {q:Q} (h:EndI H e s q):AJ H e q s H q []:=⟨h,Frm.refl _ _,fun j hj=> .inl hj,by simp⟩
theorem AJ.step {H:AHeap} {e:Nat} {q:Q} {s' s2:E} {H' H2:AHeap} {q' q2:Q} {bl:List (Nat×AObj)} (h:AJ H e q s' H' q' bl) (h1:EndI H2 e s2 q2) (h2:Frm (q'.names e) H' H2) (h3:∀j∈q2.names e,j∈q'.names e∨H'.length≤j):AJ H e q s2 H2 q2 bl where
 end_:=h1
 frm:=h.frm.trans h2 (fun j hj=>h.names j hj)
 names:=fun j hj=>by
  rcases h3 j hj with g|g
  ·exact h.names j g
  ·have:=h.frm.1;exact .inr (by omega)
 box:=fun x hx=>by
  obtain ⟨a,b,c⟩:=h.box x hx
  refine ⟨h2.get a b,fun hm=> ?_,c⟩
  rcases h3 _ hm with g|g
  ·exact b g
  ·have:=lt_of_get a;omega
theorem AJ.steps {H:AHeap} {e:Nat} {q:Q} {s' s2:E} {H' H2:AHeap} {q':Q} {bl:List (Nat×AObj)} (h:AJ H e q s' H' q' bl) (k:Steps H' e q' s2 H2):∃q2,AJ H e q s2 H2 q2 bl:=by
 obtain ⟨q2,k1,k2,k3⟩:=k
 exact ⟨q2,h.step k1 k2 k3⟩
theorem AJ.done {H:AHeap} {e:Nat} {q:Q} {s':E} {H':AHeap} {q':Q} {bl:List (Nat×AObj)} (h:AJ H e q s' H' q' bl):Steps H e q s' H':=⟨q',h.end_,h.frm,h.names⟩
theorem AJ.add {H:AHeap} {e:Nat} {q:Q} {s':E} {H':AHeap} {q':Q} {bl:List (Nat×AObj)} (h:AJ H e q s' H' q' bl) (o:AObj):AJ H e q s' (H'++[o]) q' ((H'.length,o)::bl) where
 end_:=h.end_.more _
 frm:=h.frm.more
 names:=h.names
 box:=fun x hx=>by
  rcases List.mem_cons.1 hx with rfl|hx
  ·exact ⟨by simp,fun hm=>by have:=h.end_.lt _ hm;omega,h.frm.1⟩
  ·obtain ⟨a,b,c⟩:=h.box x hx
   exact ⟨by rw [hgetl (lt_of_get a)];exact a,b,c⟩
theorem AJ.more {H:AHeap} {e:Nat} {q:Q} {s':E} {H':AHeap} {q':Q} {bl:List (Nat×AObj)} (h:AJ H e q s' H' q' bl) (X:AHeap):AJ H e q s' (H'++X) q' bl:=h.step (h.end_.more X) Frm.app (fun j hj=> .inl hj)
theorem AJ.other {H:AHeap} {e x:Nat} {q:Q} {s':E} {H' H2:AHeap} {q':Q} {bl:List (Nat×AObj)} (h:AJ H e q s' H' q' bl) (hF:Frm [x] H' H2) (h1:x∉q'.names e) (h2:∀y∈bl,y.1≠x) (h3:H.length≤x):AJ H e q s' H2 q' bl where
 end_:=h.end_.frm hF fun j hj hm=>h1 (by rw [← List.mem_singleton.1 hm];exact hj)
 frm:=h.frm.trans hF fun j hj=> .inr (by rw [List.mem_singleton.1 hj];exact h3)
 names:=h.names
 box:=fun y hy=>by
  obtain ⟨a,b,c⟩:=h.box y hy
  exact ⟨hF.get a fun hm=>h2 y hy (List.mem_singleton.1 hm),b,c⟩
theorem AJ.set {H:AHeap} {e x:Nat} {q:Q} {s':E} {H':AHeap} {q':Q} {o:AObj} {bl:List (Nat×AObj)} (h:AJ H e q s' H' q' ((x,o)::bl)) (hne:∀y∈bl,y.1≠x) (o2:AObj):AJ H e q s' (H'.set x o2) q' ((x,o2)::bl):=by
 obtain ⟨a,b,c⟩:=h.box _ (List.mem_cons_self ..)
 have h':AJ H e q s' H' q' bl:=⟨h.end_,h.frm,h.names,fun y hy=>h.box y (List.mem_cons_of_mem _ hy)⟩
 have h2:=h'.other (x:=x) (Frm.set (o:=o2) (Frm.refl [x] H') (.inl (List.mem_singleton.2 rfl))) b hne c
 refine ⟨h2.end_,h2.frm,h2.names,fun y hy=> ?_⟩
 rcases List.mem_cons.1 hy with rfl|hy
 ·exact ⟨List.getElem?_set_self (lt_of_get a),b,c⟩
 ·exact h2.box y hy
theorem AJ.put {H:AHeap} {e:Nat} {q:Q} {s:E} {H':AHeap} {q':Q} {bl:List (Nat×AObj)} (h:AJ H e q s H' q' bl) (s':E) (hw:s'.waiting=s.waiting) (hf:s'.flight=s.flight) (hk:s'.kept=s.kept):AJ H e q s' (H'.set e (.cells (endC s' q') kE)) q' bl:=
 h.step (h.end_.put s' q'.told hw hf hk) (Frm.set (Frm.refl _ _) (.inl (by simp [Q.names]))) (fun j hj=> .inl hj)
def ackD (s:E) (ack:Int):Int:=if (ack - s.acked)%65536≥32768 then (ack - s.acked)%65536 - 65536 else (ack - s.acked)%65536
def ackTo (s:E) (ack:Int):Int:=s.acked+ackD s ack
def goneUp (s:E) (n:Nat):E:=(List.range n).foldl (fun s' (k:Nat)=>goneR s' (s.acked+1+k)) s
def namedI (s:List UInt8):List Int:=(namedN s).map fun (i:Nat)=>(i:Int)+2
def goneMk (s:E) (to:Int) (l:List Int):E:=l.foldl (fun s' far=>goneR s' (to+far)) s
def ackR (s:E) (ack:Int) (marks:List UInt8):E:=
 if ackTo s ack≥s.next then s else
 goneMk {goneUp s (ackTo s ack - s.acked).toNat with acked:=max s.acked (ackTo s ack)} (ackTo s ack) (namedI marks)
theorem goneR_same (s:E) (n:Int):(goneR s n).acked=s.acked∧(goneR s n).next=s.next∧(goneR s n).flight.length≤s.flight.length:=by
 unfold goneR
 split
 ·exact ⟨rfl,rfl,Nat.le_refl _⟩
 ·split
  ·exact ⟨rfl,rfl,Nat.le_refl _⟩
  ·refine ⟨rfl,rfl,?_⟩
   simp only [goneAt,List.length_append,List.length_map,List.length_take,List.length_drop]
   omega
theorem goneUp_succ (s:E) (n:Nat):goneUp s (n+1)=goneR (goneUp s n) (s.acked+1+n):=by
 unfold goneUp
 rw [List.range_succ,List.foldl_append]
 rfl
theorem goneUp_same (s:E) (n:Nat):(goneUp s n).acked=s.acked∧(goneUp s n).next=s.next∧(goneUp s n).flight.length≤s.flight.length:=by
 induction n with
 |zero=>exact ⟨rfl,rfl,Nat.le_refl _⟩
 |succ n ih=>
  rw [goneUp_succ]
  have h:=goneR_same (goneUp s n) (s.acked+1+n)
  exact ⟨h.1.trans ih.1,h.2.1.trans ih.2.1,Nat.le_trans h.2.2 ih.2.2⟩
theorem goneMk_same (to:Int):∀(l:List Int) (s:E),(goneMk s to l).acked=s.acked∧(goneMk s to l).next=s.next∧(goneMk s to l).flight.length≤s.flight.length
 |[],s=>⟨rfl,rfl,Nat.le_refl _⟩
 |x::l,s=>by
  have h:=goneR_same s (to+x)
  have ih:=goneMk_same to l (goneR s (to+x))
  exact ⟨ih.1.trans h.1,ih.2.1.trans h.2.1,Nat.le_trans ih.2.2 h.2.2⟩
end Go.Proofs.Ytdgmcckfdgnicaa

set_option linter.unusedVariables false
set_option linter.unusedSimpArgs false
set_option maxRecDepth 20000
set_option maxHeartbeats 8000000
namespace Go.Proofs.Ytdgmcckfdgnicaa
open Go Go.Aw Go.Proofs
theorem namedA_eq (s:List UInt8):namedA s=(namedI s).map fun x=> [.int .i64 x]:=by simp [namedA,namedI]
theorem namedI_le (s:List UInt8):∀x∈namedI s,2≤x∧x<8*(s.length:Int)+2:=by
 intro x hx
 unfold namedI namedN at hx
 rw [List.mem_map] at hx
 obtain ⟨i,hi,rfl⟩:=hx
 have:=(List.mem_filter.1 hi).1
 rw [List.mem_range] at this
 omega
theorem acknowledge {H:AHeap} {e:Nat} {s:E} {q:Q} (h:EndI H e s q) (ack:Int) (marks:List UInt8) (hl:s.flight.length<1099511627776) (hA: -1099511627776≤s.acked∧s.acked≤1099511627776) (hm:marks.length≤100):
  AC Try.prog 70 [ptr e,.int .i64 ack,.string (bs marks)] H (fun r H2=>r= .ret noVal∧Steps H e q (ackR s ack marks) H2):=by
 have hJ0:=((AJ.of h).add (.cells [ptr e] ⟨29,0,true,0,none⟩)).add (.cells [.int .i64 (ackTo s ack)] ⟨3,0,true,0,none⟩)
 have hlen:(H++[AObj.cells [ptr e] ⟨29,0,true,0,none⟩]).length=H.length+1:=by simp
 rw [hlen] at hJ0
 have hc0:=h.cell
 have hcl0:=lt_of_get hc0
 simp only [endC] at hc0
 have hd: -32768≤ackD s ack∧ackD s ack<32768:=by unfold ackD;split<;> omega
 unfold ackR
 by_cases hn:ackTo s ack≥s.next
 ·rw [if_pos hn]
  unfold ackTo ackD at*
  by_cases hh:(ack - s.acked)%65536≥32768
  ·rw [if_pos hh] at*
   refine AC.enter Try.func70 rfl (by kernel_rfl) 68 rfl [] rfl (by simp) fun hsc B=> ?_
   repeat first|with_reducible refine (ahead _ _ _).use ?_|refine kw4 hc0 hcl0 @hgetl hh ?_|exact kwy
   apply AWP.regionX [] [(0,0),(0,0),(0,0),(0,0),(0,0),(0,0),(0,0)] [28,29,30,31,32,33,34] [] [(28,_),(29,_),(30,_),(31,_),(32,_),(33,_),(34,_)]
   ·kernel_rfl
   ·kernel_rfl
   ·kernel_rfl
   ·kernel_rfl
   ·rfl
   ·simp only [eachB,runB]
    repeat' with_reducible refine And.intro ?_ ?_
    iterate 2 all_goals try ((repeat' first|with_reducible refine And.intro ?_ ?_|refine kx4 hc0 hcl0 @hgetl hn ?_|exact kwy|exact rfl);done)
   repeat first|refine kw0 ?_|exact kwy
   exact ⟨_,_,.refl _ _ _,rfl,(by simpa using hJ0.done)⟩
  ·rw [if_neg hh] at*
   refine AC.enter Try.func70 rfl (by kernel_rfl) 68 rfl [] rfl (by simp) fun hsc B=> ?_
   repeat first|with_reducible refine (ahead _ _ _).use ?_|refine kw4 hc0 hcl0 @hgetl hh ?_|exact kwy
   apply AWP.regionX [] [(0,0),(0,0),(0,0),(0,0),(0,0),(0,0),(0,0)] [28,29,30,31,32,33,34] [] [(28,_),(29,_),(30,_),(31,_),(32,_),(33,_),(34,_)]
   ·kernel_rfl
   ·kernel_rfl
   ·kernel_rfl
   ·kernel_rfl
   ·rfl
   ·simp only [eachB,runB]
    repeat' with_reducible refine And.intro ?_ ?_
    iterate 2 all_goals try ((repeat' first|with_reducible refine And.intro ?_ ?_|refine kx4 hc0 hcl0 @hgetl hn ?_|exact kwy|exact rfl);done)
   repeat first|refine kw0 ?_|exact kwy
   exact ⟨_,_,.refl _ _ _,rfl,(by simpa using hJ0.done)⟩
 ·rw [if_neg hn]
  refine AC.enter Try.func70 rfl (by kernel_rfl) 68 rfl [] rfl (by simp) fun hsc B=> ?_
  repeat first|with_reducible refine AWP.seqJ (x:= .seq (.region 2 _ _) _) ⟨[(2,.string (bs marks)),(3,ptr H.length),(6,.int .i64 (ackD s ack))],[],H++ [.cells [ptr e] ⟨29,0,true,0,none⟩]⟩ ?_ ?_|with_reducible refine (ahead _ _ _).use ?_|refine kw3 hc0 hcl0 @hgetl ?_|exact kwy
  ·unfold ackD
   by_cases hh:(ack - s.acked)%65536≥32768
   ·rw [if_pos hh] at*
    repeat first|refine kw1 hh ?_|exact kwy
    exact Weak.env (by simp [envIn,lk_cons,wth_some])
   ·rw [if_neg hh] at*
    repeat first|refine kw1 hh ?_|exact kwy
    exact Weak.env (by simp [envIn,lk_cons,wth_some])
  ·have hw:IntKind.i64.wrap (s.acked+ackD s ack)=ackTo s ack:=IntWalk.i64_in _ (by omega)
   have hto: -1099511727776≤ackTo s ack∧ackTo s ack≤1099511727776:=by unfold ackTo;omega
   have hdt:(ackTo s ack - s.acked).toNat≤32768:=by unfold ackTo;omega
   generalize hT:ackTo s ack=T at*
   repeat first|refine kw4 hc0 hcl0 @hgetl hw ?_|exact kwy
   apply AWP.regionX [] [(0,0),(0,0),(0,0),(0,0),(0,0),(0,0),(0,0)] [28,29,30,31,32,33,34] [] [(28,_),(29,_),(30,_),(31,_),(32,_),(33,_),(34,_)]
   ·kernel_rfl
   ·kernel_rfl
   ·kernel_rfl
   ·kernel_rfl
   ·rfl
   ·simp only [eachB,runB]
    repeat' with_reducible refine And.intro ?_ ?_
    iterate 2 all_goals try ((repeat' first|with_reducible refine And.intro ?_ ?_|refine kx4 hc0 hcl0 @hgetl hn ?_|exact kwy|exact rfl);done)
   repeat first|refine kw3 hc0 hcl0 @hgetl ?_|exact kwy
   have hbl:(H++[AObj.cells [ptr e] ⟨29,0,true,0,none⟩]++[AObj.cells [.int .i64 T] ⟨3,0,true,0,none⟩])=H++[AObj.cells [ptr e] ⟨29,0,true,0,none⟩,AObj.cells [.int .i64 T] ⟨3,0,true,0,none⟩]:=by simp
   rw [hbl] at hJ0
   refine AWP.loopP (fun s2:Nat×AHeap=>⟨[(2,.string (bs marks)),(3,ptr H.length),(7,ptr (H.length+1)),(8,.int .i64 (s.acked+1+(s2.1:Nat)))],[],s2.2⟩) (fun s2=>s2.1≤(T - s.acked).toNat∧∃q2,AJ H e q (goneUp s s2.1) s2.2 q2 [(H.length+1,.cells [.int .i64 T] ⟨3,0,true,0,none⟩),(H.length,.cells [ptr e] ⟨29,0,true,0,none⟩)]) (fun s2=>(T - s.acked).toNat - s2.1) (0,_) ?_ ⟨Nat.zero_le _,q,hJ0⟩ ?_
   ·exact Weak.env (by simp [envIn,lk_cons,wth_some])
   clear hJ0
   rintro ⟨k,H1⟩ ⟨hk,q1,hJ1⟩
   simp only at hk hJ1
   have hb1:=(hJ1.box _ (List.mem_cons_self ..)).1
   have hb2:=(hJ1.box _ (List.mem_cons_of_mem _ (List.mem_cons_self ..))).1
   simp only at hb1 hb2
   have hsame:=goneUp_same s k
   by_cases hkt:k<(T - s.acked).toNat
   ·have hle:s.acked+1+(k:Int)≤T:=by omega
    have hwk:IntKind.i64.wrap (s.acked+1+(k:Int)+1)=s.acked+1+((k+1:Nat):Int):=by rw [IntWalk.i64_in _ (by omega)];omega
    repeat first|refine kw3 hb1 hb2 hle ?_|exact kwy
    refine AC.mono (gone hJ1.end_ (s.acked+1+(k:Int)) (by omega)) ?_
    rintro r H2 ⟨rfl,hS⟩
    obtain ⟨q2,hJ2⟩:=hJ1.steps hS
    repeat first|refine kw1 hwk ?_|exact kwy
    exact ⟨(k+1,H2),Weak.env (by simp [envIn,lk_cons,wth_some]),by omega,⟨q2,by rw [goneUp_succ];exact hJ2⟩,by omega⟩
   ·have hke:k=(T - s.acked).toNat:=by omega
    have hle:¬s.acked+1+(k:Int)≤T:=by omega
    rw [← hke]
    have hc1:=hJ1.end_.cell
    have hcl1:=lt_of_get hc1
    simp only [endC] at hc1
    rw [hsame.1] at hc1
    have hJ2:=hJ1.put {goneUp s k with acked:=max s.acked T} rfl rfl rfl
    obtain ⟨H2,hH2⟩:∃H2,H2=H1.set e (.cells (endC {goneUp s k with acked:=max s.acked T} q1) kE):=⟨_,rfl⟩
    rw [← hH2] at hJ2
    have hH2':=hH2.symm
    simp only [endC] at hH2'
    clear hH2
    repeat first|refine kw3 hb1 hb2 hle ?_|exact kwy
    apply AWP.regionX [11] [(0,0),(0,0),(0,0),(0,0),(0,0),(0,0),(0,0),(0,0),(0,0),(0,0),(0,0),(0,0)] [49,50,51,52,53,54,55,56,57,58,59] [_] [(49,_),(50,_),(51,_),(52,_),(53,_),(54,_),(55,_),(56,_),(57,_),(58,_),(59,_)]
    ·kernel_rfl
    ·kernel_rfl
    ·kernel_rfl
    ·kernel_rfl
    ·rfl
    ·simp only [eachB,runB]
     repeat' with_reducible refine And.intro ?_ ?_
     all_goals try (
      repeat' first
       |with_reducible refine And.intro ?_ ?_|with_reducible refine kc ?_|((with_reducible first|refine kr ?_ ?_|refine kt ?_ ?_);exact rfl)|((with_reducible refine kf ?_ ?_);exact rfl)|simp only [go_sem,sevalprocAttr,reduceCtorEq,hb1,hb2,hc1,hcl1,minMaxW,hH2',stepS,hpL,List.getD_cons_zero,List.getD_cons_succ,List.contains_cons,List.contains_nil,and_imp,forall_eq,implies_true,List.map_cons,List.map_nil]|simp (disch:=omega) only [wz]
       |exact rfl
      done)
     all_goals (
      repeat' first
       |with_reducible refine And.intro ?_ ?_|with_reducible refine kc ?_|((with_reducible first|refine kr ?_ ?_|refine kt ?_ ?_);exact rfl)|((with_reducible refine kf ?_ ?_);exact rfl)|simp only [go_sem,sevalprocAttr,reduceCtorEq,hb1,hb2,hc1,hcl1,minMaxW,hH2',stepS,hpL,List.getD_cons_zero,List.getD_cons_succ,List.contains_cons,List.contains_nil,and_imp,forall_eq,implies_true,List.map_cons,List.map_nil]|simp (disch:=omega) only [wz]
       |exact rfl)
    repeat first|with_reducible refine (named _ _).use ?_|refine kw0 ?_|exact kwy
    have hJ3:=hJ2.add (.cells [.string (bs marks)] ⟨9,0,true,0,none⟩)
    have hl2:H2.length=H1.length:=by rw [← hH2',List.length_set]
    have hlb1:=lt_of_get hb1
    have hHl:H.length≤H2.length:=hJ2.frm.1
    have hl3:(H2++[AObj.cells [.string (bs marks)] ⟨9,0,true,0,none⟩]).length=H2.length+1:=by simp
    have hAl:(namedA marks).length=(namedI marks).length:=by rw [namedA_eq,List.length_map]
    generalize hs10:({goneUp s k with acked:=max s.acked T}:E)=s10 at hJ3 ⊢
    have hf10:s10.flight.length≤s.flight.length:=by rw [← hs10];exact hsame.2.2
    refine AWP.rangeS (named1 marks (by omega) H2.length) rfl (by simp;omega) (by simp only [go_sem,sevalprocAttr,reduceCtorEq]) fun L hL=>⟨fun n H3=>n≤(namedI marks).length∧∃q3,AJ H e q (goneMk s10 T ((namedI marks).take n)) H3 q3 [(H2.length+1,.loop L),(H2.length,.cells [.string (bs marks)] ⟨9,0,true,0,none⟩),(H.length+1,.cells [.int .i64 T] ⟨3,0,true,0,none⟩),(H.length,.cells [ptr e] ⟨29,0,true,0,none⟩)],fun _=>False,⟨Nat.zero_le _,q1,by have:=hJ3.add (.loop L);rw [hl3] at this;exact this⟩,?_,?_,?_,?_⟩
    ·rintro n H3 ⟨hn3,q3,hJ⟩
     exact ⟨_,(hJ.box _ (List.mem_cons_of_mem _ (List.mem_cons_self ..))).1⟩
    ·rintro n H3 X ⟨hn3,q3,hJ⟩
     exact ⟨hn3,q3,hJ.more X⟩
    ·rintro n args H3 ha ⟨hn3,q3,hJ⟩
     rw [namedA_eq,List.getElem?_map,Option.map_eq_some_iff] at ha
     obtain ⟨far,hfar,rfl⟩:=ha
     have hnl:=(List.getElem?_eq_some_iff.1 hfar).1
     have hfb:=namedI_le marks far (List.mem_of_getElem? hfar)
     have hlp:=(hJ.box _ (List.mem_cons_self ..)).1
     simp only at hlp
     rw [hl3]
     refine AY.of (L:=L) hlp (by rw [hL]) (by rw [hL];rfl) (by rw [hL];simp) fun hsc2 lr B2=> ?_
     obtain ⟨Lb,hLb⟩:∃Lb:ALoop,Lb={L with state:= .busy}:=⟨_,rfl⟩
     have hJB:=hJ.set (by simp;omega) (.loop Lb)
     obtain ⟨Hb,hHb⟩:∃Hb,Hb=H3.set (H2.length+1) (.loop Lb):=⟨_,rfl⟩
     rw [← hHb] at hJB
     subst hL
     simp only [zipEnv]
     repeat first|refine kw0 ?_|exact kwy
     refine ⟨_,hlp,rfl,?_⟩
     simp only at hLb
     rw [show List.set H3 (H2.length+1) _=Hb from by rw [hHb,hLb]]
     have hbx:=(hJB.box _ (List.mem_cons_of_mem _ (List.mem_cons_of_mem _ (List.mem_cons_of_mem _ (List.mem_cons_self ..))))).1
     have hbt:=(hJB.box _ (List.mem_cons_of_mem _ (List.mem_cons_of_mem _ (List.mem_cons_self ..)))).1
     simp only at hbx hbt
     have hwf:IntKind.i64.wrap (T+far)=T+far:=IntWalk.i64_in _ (by omega)
     have hfl3:=(goneMk_same T ((namedI marks).take n) s10).2.2
     repeat first|refine kw3 hbx hbt hwf ?_|exact kwy
     refine AC.mono (gone hJB.end_ (T+far) (by omega)) ?_
     rintro r H4 ⟨rfl,hS⟩
     obtain ⟨q4,hJ4⟩:=hJB.steps hS
     have hlp4:=(hJ4.box _ (List.mem_cons_self ..)).1
     simp only at hlp4
     repeat first|refine kw0 ?_|exact kwy
     refine ⟨_,hlp4,?_⟩
     subst hLb
     repeat first|refine kw0 ?_|exact kwy
     refine ⟨_,.refl _ _ _,true,rfl,fun _=>⟨by omega,q4,?_⟩,fun h=>by cases h⟩
     have hfold:goneMk s10 T ((namedI marks).take (n+1))=goneR (goneMk s10 T ((namedI marks).take n)) (T+far):=by
      unfold goneMk
      rw [List.take_add_one,hfar,List.foldl_append]
      rfl
     rw [hfold]
     exact hJ4.set (by simp;omega) _
    ·rintro H3 (⟨hn3,q3,hJ⟩|h)
     ·subst hL
      have hlp:=(hJ.box _ (List.mem_cons_self ..)).1
      simp only at hlp
      have hJD:=hJ.set (by simp;omega) .dead
      rw [hAl,List.take_length] at hJD
      repeat first|refine kw0 ?_|exact kwy
      refine ⟨_,hlp,(fun h=>by cases h),?_⟩
      dsimp only
      exact ⟨_,_,.refl _ _ _,rfl,hJD.done⟩
     ·exact h.elim
end Go.Proofs.Ytdgmcckfdgnicaa
