/-
  A part of the proof of a statement of this seat.
-/
import Derived.Test.YtdgmcckfdgnicaaUGM
set_option linter.unusedVariables false
set_option linter.unusedSimpArgs false
set_option maxRecDepth 20000
set_option maxHeartbeats 8000000
namespace Go.Proofs.Ytdgmcckfdgnicaa
open Go Go.Aw Go.Proofs
def closeR (s:E) (now:Int):Int×E:=
 if atR s now=0 then (if s.closing=false∧(s.state=1∨s.state=2) then (0,{s with now:=now,closing:=true,waiting:=s.waiting++[newP 4 []]}) else (9,s)) else (atR s now,s)
theorem Close {H:AHeap} {e:Nat} {s:E} {q:Q} (h:EndI H e s q) (now:Int) (hl:s.waiting.length<1099511627776):
  AC Try.prog 26 [ptr e,.int .i64 now] H (fun r H2=>r= .ret (.int .i64 (closeR s now).1)∧Steps H e q (closeR s now).2 H2):=by
 have hc:=h.cell
 have ha:=at_ h now
 have hll:=h.wpk.1
 simp only [endC] at hc
 have hcl:=lt_of_get hc
 unfold closeR
 by_cases h0:atR s now=0
 ·have h0':(atR s now != 0)=false:=by simp [h0]
  rw [if_pos h0]
  cases hop:s.closing with
  |true=>
   rw [if_neg (by simp)]
   refine AC.enter Try.func26 rfl (by kernel_rfl) 52 rfl [.tmp 4] rfl (by simp) fun hsc B=> ?_
   repeat first|with_reducible refine kc ?_|((with_reducible first|refine kr ?_ ?_|refine kt ?_ ?_);exact rfl)|((with_reducible refine kf ?_ ?_);exact rfl)|with_reducible refine ha.use ?_|simp only [go_sem,sevalprocAttr,reduceCtorEq,hc,h0',hop]|simp (disch:=omega) only [wz]
   exact ⟨_,_,.refl _ _ _,rfl,Steps.refl h⟩
  | false=>
   by_cases hs:s.state=1∨s.state=2
   ·rw [if_pos ⟨rfl,hs⟩]
    by_cases h1:s.state=1
    ·have h1':(s.state != 1)=false:=by simp [h1]
     have h2':(s.state != 2)=true:=by simp [h1]
     clear h1
     have h1:=h.put {s with now:=now,closing:=true} q.told rfl rfl rfl
     obtain ⟨H1,hH1⟩:∃H1,H1=H.set e (.cells (endC {s with now:=now,closing:=true} q) kE):=⟨_,rfl⟩
     rw [← hH1] at h1
     have hF1:Frm (q.names e) H H1:=by rw [hH1];exact Frm.set (Frm.refl _ _) (.inl (by simp [Q.names]))
     have hlen:H1.length=H.length:=by rw [hH1,List.length_set]
     have hH1':=hH1.symm
     simp only [endC] at hH1'
     have hc1:=h1.cell
     simp only [endC] at hc1
     have hcl1:=lt_of_get hc1
     clear hH1
     refine AC.enter Try.func26 rfl (by kernel_rfl) 52 rfl [.tmp 4] rfl (by simp) fun hsc B=> ?_
     repeat first|with_reducible refine kc ?_|((with_reducible first|refine kr ?_ ?_|refine kt ?_ ?_);exact rfl)|((with_reducible refine kf ?_ ?_);exact rfl)|with_reducible refine ha.use ?_|simp only [go_sem,sevalprocAttr,reduceCtorEq,hc,h0',hop,h1',h2',hcl,hH1',hc1,hgetl,hcl1,hlen,List.map_cons,List.map_nil]|simp (disch:=omega) only [wz]
     refine (h1.wrow.add _).append (n:=H.length) (by dsimp only;omega) fun v2 H2 js2 hr hF hj=> ?_
     have he2:=hF.get (show (H1++_)[e]? =_ from by rw [hgetl hcl1];exact hc1) (fun hm=>h1.ne (j:=e) (by simp [hm]) rfl)
     have hel2:=lt_of_get he2
     obtain ⟨hv1,hv2⟩:=hr.cells
     repeat first|with_reducible refine kc ?_|((with_reducible first|refine kr ?_ ?_|refine kt ?_ ?_);exact rfl)|((with_reducible refine kf ?_ ?_);exact rfl)|simp only [go_sem,sevalprocAttr,reduceCtorEq,he2,hel2,hv1]|simp (disch:=omega) only [wz]
     refine ⟨hv2,?_⟩
     repeat first|with_reducible refine kc ?_|((with_reducible first|refine kr ?_ ?_|refine kt ?_ ?_);exact rfl)|((with_reducible refine kf ?_ ?_);exact rfl)|simp only [go_sem,sevalprocAttr,reduceCtorEq]|simp (disch:=omega) only [wz]
     have hF1l:=hF.1
     have hwlt:=h1.wrow.lt
     have hpush:=h1.pushW (H2:=H2) (v2:=v2) (js2:=js2) (n:=H.length) (p:=newP 4 []) (Frm.trans Frm.app hF (fun j hj=> .inl hj)) hr (fun j hj2=>by
      rcases hj j hj2 with h|h
      ·exact .inl h
      ·exact .inr (by rw [h];simp)) (by omega) (fun hm=>by
      rcases hj _ hm with h|h
      ·have:=hwlt _ h;omega
      ·simp at h;omega) (hF.get (by rw [← hlen];simp [newP,pkC]) (fun hm=>by have:=hwlt _ hm;omega)) {s with now:=now,closing:=true,waiting:=s.waiting++[newP 4 []]} q.told rfl rfl rfl
     simp only [endC] at hpush
     refine ⟨_,_,.refl _ _ _,rfl,_,hpush.1,hF1.trans hpush.2 (fun j hj=> .inl hj),fun j hj3=> ?_⟩
     simp only [Q.names,List.mem_cons,List.mem_append,List.not_mem_nil,or_false] at hj3 ⊢
     rcases hj3 with h|h|h|h|(h|h)|h
     ·exact .inl (.inl h)
     ·exact .inl (.inr (.inl h))
     ·rcases hj j h with h|h
      ·exact .inl (.inr (.inr (.inl h)))
      ·exact .inr (by rw [h,List.length_append];omega)
     ·exact .inl (.inr (.inr (.inr (.inl h))))
     ·exact .inl (.inr (.inr (.inr (.inr (.inl h)))))
     ·exact .inr (by omega)
     ·exact .inl (.inr (.inr (.inr (.inr (.inr h)))))
    ·have h1':(s.state != 1)=true:=by simp [h1]
     have h2':(s.state != 2)=false:=by simp;omega
     clear h1
     have h1:=h.put {s with now:=now,closing:=true} q.told rfl rfl rfl
     obtain ⟨H1,hH1⟩:∃H1,H1=H.set e (.cells (endC {s with now:=now,closing:=true} q) kE):=⟨_,rfl⟩
     rw [← hH1] at h1
     have hF1:Frm (q.names e) H H1:=by rw [hH1];exact Frm.set (Frm.refl _ _) (.inl (by simp [Q.names]))
     have hlen:H1.length=H.length:=by rw [hH1,List.length_set]
     have hH1':=hH1.symm
     simp only [endC] at hH1'
     have hc1:=h1.cell
     simp only [endC] at hc1
     have hcl1:=lt_of_get hc1
     clear hH1
     refine AC.enter Try.func26 rfl (by kernel_rfl) 52 rfl [.tmp 4] rfl (by simp) fun hsc B=> ?_
     repeat first|with_reducible refine kc ?_|((with_reducible first|refine kr ?_ ?_|refine kt ?_ ?_);exact rfl)|((with_reducible refine kf ?_ ?_);exact rfl)|with_reducible refine ha.use ?_|simp only [go_sem,sevalprocAttr,reduceCtorEq,hc,h0',hop,h1',h2',hcl,hH1',hc1,hgetl,hcl1,hlen,List.map_cons,List.map_nil]|simp (disch:=omega) only [wz]
     refine (h1.wrow.add _).append (n:=H.length) (by dsimp only;omega) fun v2 H2 js2 hr hF hj=> ?_
     have he2:=hF.get (show (H1++_)[e]? =_ from by rw [hgetl hcl1];exact hc1) (fun hm=>h1.ne (j:=e) (by simp [hm]) rfl)
     have hel2:=lt_of_get he2
     obtain ⟨hv1,hv2⟩:=hr.cells
     repeat first|with_reducible refine kc ?_|((with_reducible first|refine kr ?_ ?_|refine kt ?_ ?_);exact rfl)|((with_reducible refine kf ?_ ?_);exact rfl)|simp only [go_sem,sevalprocAttr,reduceCtorEq,he2,hel2,hv1]|simp (disch:=omega) only [wz]
     refine ⟨hv2,?_⟩
     repeat first|with_reducible refine kc ?_|((with_reducible first|refine kr ?_ ?_|refine kt ?_ ?_);exact rfl)|((with_reducible refine kf ?_ ?_);exact rfl)|simp only [go_sem,sevalprocAttr,reduceCtorEq]|simp (disch:=omega) only [wz]
     have hF1l:=hF.1
     have hwlt:=h1.wrow.lt
     have hpush:=h1.pushW (H2:=H2) (v2:=v2) (js2:=js2) (n:=H.length) (p:=newP 4 []) (Frm.trans Frm.app hF (fun j hj=> .inl hj)) hr (fun j hj2=>by
      rcases hj j hj2 with h|h
      ·exact .inl h
      ·exact .inr (by rw [h];simp)) (by omega) (fun hm=>by
      rcases hj _ hm with h|h
      ·have:=hwlt _ h;omega
      ·simp at h;omega) (hF.get (by rw [← hlen];simp [newP,pkC]) (fun hm=>by have:=hwlt _ hm;omega)) {s with now:=now,closing:=true,waiting:=s.waiting++[newP 4 []]} q.told rfl rfl rfl
     simp only [endC] at hpush
     refine ⟨_,_,.refl _ _ _,rfl,_,hpush.1,hF1.trans hpush.2 (fun j hj=> .inl hj),fun j hj3=> ?_⟩
     simp only [Q.names,List.mem_cons,List.mem_append,List.not_mem_nil,or_false] at hj3 ⊢
     rcases hj3 with h|h|h|h|(h|h)|h
     ·exact .inl (.inl h)
     ·exact .inl (.inr (.inl h))
     ·rcases hj j h with h|h
      ·exact .inl (.inr (.inr (.inl h)))
      ·exact .inr (by rw [h,List.length_append];omega)
     ·exact .inl (.inr (.inr (.inr (.inl h))))
     ·exact .inl (.inr (.inr (.inr (.inr (.inl h)))))
     ·exact .inr (by omega)
     ·exact .inl (.inr (.inr (.inr (.inr (.inr h)))))
   ·have h1':(s.state != 1)=true:=by simp;omega
    have h2':(s.state != 2)=true:=by simp;omega
    rw [if_neg (fun h=>hs h.2)]
    refine AC.enter Try.func26 rfl (by kernel_rfl) 52 rfl [.tmp 4] rfl (by simp) fun hsc B=> ?_
    repeat first|with_reducible refine kc ?_|((with_reducible first|refine kr ?_ ?_|refine kt ?_ ?_);exact rfl)|((with_reducible refine kf ?_ ?_);exact rfl)|with_reducible refine ha.use ?_|simp only [go_sem,sevalprocAttr,reduceCtorEq,hc,h0',hop,h1',h2']|simp (disch:=omega) only [wz]
    exact ⟨_,_,.refl _ _ _,rfl,Steps.refl h⟩
 ·have h0':(atR s now != 0)=true:=by simp [h0]
  rw [if_neg h0]
  refine AC.enter Try.func26 rfl (by kernel_rfl) 52 rfl [.tmp 4] rfl (by simp) fun hsc B=> ?_
  repeat first|with_reducible refine kc ?_|((with_reducible first|refine kr ?_ ?_|refine kt ?_ ?_);exact rfl)|((with_reducible refine kf ?_ ?_);exact rfl)|with_reducible refine ha.use ?_|simp only [go_sem,sevalprocAttr,reduceCtorEq,hc,h0']|simp (disch:=omega) only [wz]
  exact ⟨_,_,.refl _ _ _,rfl,Steps.refl h⟩
end Go.Proofs.Ytdgmcckfdgnicaa

set_option linter.unusedVariables false
set_option linter.unusedSimpArgs false
set_option maxRecDepth 20000
set_option maxHeartbeats 8000000
namespace Go.Proofs.Ytdgmcckfdgnicaa
open Go Go.Aw Go.Proofs
def newE (opener:Bool) (conn first room:Int):E where
 waiting:=[]
 flight:=[]
 next:=first
 acked:=first - 1
 window:=1400
 limit:=4200
 body:=1400
 out:=1000
 outs:=0
 closing:=false
 done:=false
 room:=room
 base:=0
 heard:=false
 kept:=[]
 ready:=[]
 ended:=false
 answer:=false
 late:=0
 some:=false
 replies:=false
 opener:=opener
 conn:=conn
 state:=0
 now:=0
 count:=0
 again:=0
 doubles:=0
def newQ (m:Nat):Q:= ⟨.slice none 0 0,.slice none 0 0,[],[],[],[],m,[],0,⟨0,0,0,0,0,false⟩⟩
theorem New (opener:Bool) (conn first room:Int) (hc:0≤conn∧conn<65536) (hf:0≤first∧first<65536) (hr:1400≤room∧room≤1000000) (H:AHeap):
  ARet Try.prog 18 [.bool opener,.int .i64 conn,.int .i64 first,.int .i64 room] H (.tuple ⟨[ptr H.length,.int .i64 0]⟩) (H++ [.cells (endC (newE opener conn first room) (newQ (H.length+1))) kE,.amap [] 0 true]):=by
 have h1:¬room<1400:=by omega
 have h2:¬room>1000000:=by omega
 simp only [endC,newE,newQ]
 refine AC.enter Try.func18 rfl (by kernel_rfl) 45 rfl [.tmp 8,.tmp 9] rfl (by simp) fun hsc B=> ?_
 repeat first|with_reducible refine kc ?_|((with_reducible first|refine kr ?_ ?_|refine kt ?_ ?_);exact rfl)|((with_reducible refine kf ?_ ?_);exact rfl)|with_reducible (first|refine (round_t hc).use ?_|refine (round_t hf).use ?_)|simp only [go_sem,sevalprocAttr,reduceCtorEq,h1,h2,makeMapW]|simp (disch:=omega) only [wz]|with_reducible_and_instances exact finR|((with_reducible refine finR' ?_ ?_)<;> rfl)|((with_reducible refine finD hsc (NRel.of_plain ?_));exact rfl)
theorem New_end (opener:Bool) (conn first room:Int) (H:AHeap):EndI (H++ [.cells (endC (newE opener conn first room) (newQ (H.length+1))) kE,.amap [] 0 true]) H.length (newE opener conn first room) (newQ (H.length+1)) where
 cell:=by simp
 wrow:= .inl ⟨rfl,rfl,rfl⟩
 frow:= .inl ⟨rfl,rfl,rfl⟩
 wpk:=⟨rfl,fun i n p h=>by simp [newQ] at h⟩
 fpk:=⟨rfl,fun i n p h=>by simp [newQ] at h⟩
 map:=by simp [newQ,newE,esOf]
 mis:=⟨rfl,by simp [newQ],fun x h=>by simp [newQ] at h,by simp [newE]⟩
 nodup:=by simp [Q.names,newQ]
end Go.Proofs.Ytdgmcckfdgnicaa

set_option linter.unusedVariables false
set_option linter.unusedSimpArgs false
set_option maxRecDepth 20000
set_option maxHeartbeats 8000000
namespace Go.Proofs.Ytdgmcckfdgnicaa
open Go Go.Aw Go.Proofs
def lostL (l:List Pk):Int:=(l.map fun p=>if p.lost=true then (p.body.length:Int) else 0).sum
def waitingR (s:E):Int:=queuedR s+lostL s.flight
theorem sumL_le {l:List Pk} (hb:∀p∈l,p.body.length≤100000):0≤sumL l∧sumL l≤(l.length:Int)*100000:=by
 induction l with
 |nil=>simp [sumL]
 |cons a l ih=>
  have:=hb a (List.mem_cons_self ..)
  have:=ih fun p hp=>hb p (List.mem_cons_of_mem _ hp)
  unfold sumL at*
  rw [List.map_cons,List.sum_cons,List.length_cons]
  omega
theorem lostL_le {l:List Pk} (hb:∀p∈l,p.body.length≤100000):0≤lostL l∧lostL l≤(l.length:Int)*100000:=by
 induction l with
 |nil=>simp [lostL]
 |cons a l ih=>
  have:=hb a (List.mem_cons_self ..)
  have:=ih fun p hp=>hb p (List.mem_cons_of_mem _ hp)
  unfold lostL at*
  rw [List.map_cons,List.sum_cons,List.length_cons]
  split<;> omega
theorem Waiting {H:AHeap} {e:Nat} {s:E} {q:Q} (h:EndI H e s q) (hl:s.waiting.length<1099511627776) (hb:∀p∈s.waiting,p.body.length≤100000) (hl2:s.flight.length<1099511627776) (hb2:∀p∈s.flight,p.body.length≤100000):ARet Try.prog 24 [ptr e] H (.int .i64 (waitingR s)) H:=by
 have hc:=h.cell
 simp only [endC] at hc
 have hq:=queued h hl hb
 have q1:∀H' K,lenW Try.prog 69 q.fv H' K=K (.int .i64 (q.fn.length:Nat)) H':=fun H' K=>h.frow.lenW
 have hll:=h.fpk.1
 have hqb:0≤queuedR s∧queuedR s≤(s.waiting.length:Int)*100000:=sumL_le hb
 refine AC.enter Try.func24 rfl (by kernel_rfl) 33 rfl [.tmp 2] rfl (by simp) fun hsc B=> ?_
 repeat first|with_reducible refine kc ?_|((with_reducible first|refine kr ?_ ?_|refine kt ?_ ?_);exact rfl)|((with_reducible refine kf ?_ ?_);exact rfl)|with_reducible refine hq.use ?_|simp only [go_sem,sevalprocAttr,reduceCtorEq,hc,q1]|simp (disch:=omega) only [wz]|with_reducible_and_instances exact finR|((with_reducible refine finR' ?_ ?_)<;> rfl)|((with_reducible refine finD hsc (NRel.of_plain ?_));exact rfl)
 refine AWP.loopP (fun n:Nat=>⟨[(3,.int .i64 (queuedR s+lostL (s.flight.take n))),(14,q.fv),(15,.int .i64 (q.fn.length:Nat)),(16,.int .i64 (n:Nat))],[],H⟩) (fun n=>n≤q.fn.length) (fun n=>q.fn.length - n) 0 ?_ (by simp) ?_
 ·exact Weak.env (by simp [envIn,lk_cons,wth_some,lostL])
 intro n hn
 by_cases hlt:n<q.fn.length
 ·have hlt':(n:Int)<(q.fn.length:Int):=by omega
  obtain ⟨ji,off,cap,cs,hv,_,hji,_,_,_,hg⟩:=h.frow.get (List.getElem?_eq_getElem hlt)
  have hpn:=h.fpk.2 n _ _ (List.getElem?_eq_getElem hlt) (List.getElem?_eq_getElem (by omega))
  unfold pkC at hpn
  have hs:=lostL_le (l:=s.flight.take n) fun p hp=>hb2 p (List.mem_of_mem_take hp)
  rw [List.length_take] at hs
  have hb1:=hb2 s.flight[n] (List.getElem_mem (by omega))
  have he:lostL (s.flight.take (n+1))=lostL (s.flight.take n)+if s.flight[n].lost=true then (s.flight[n].body.length:Int) else 0:=by
   rw [List.take_add_one,List.getElem?_eq_getElem (by omega)]
   simp only [lostL,Option.toList_some,List.map_append,List.map_cons,List.map_nil,List.sum_append,List.sum_cons,List.sum_nil]
   omega
  rw [hv]
  cases hb3:s.flight[n].lost with
  |true=>
   rw [hb3,if_pos rfl] at he
   rw [hb3] at hpn
   repeat first|with_reducible refine kc ?_|((with_reducible first|refine kr ?_ ?_|refine kt ?_ ?_);exact rfl)|((with_reducible refine kf ?_ ?_);exact rfl)|simp only [go_sem,sevalprocAttr,reduceCtorEq,hlt',hji,hg,hpn]|simp (disch:=omega) only [wz]|with_reducible_and_instances exact finR|((with_reducible refine finR' ?_ ?_)<;> rfl)|((with_reducible refine finD hsc (NRel.of_plain ?_));exact rfl)
   exact ⟨n+1,Weak.env (by simp [envIn,lk_cons,wth_some,he,hv];omega),by omega,by omega⟩
  |false=>
   rw [hb3,if_neg (by decide)] at he
   rw [hb3] at hpn
   repeat first|with_reducible refine kc ?_|((with_reducible first|refine kr ?_ ?_|refine kt ?_ ?_);exact rfl)|((with_reducible refine kf ?_ ?_);exact rfl)|simp only [go_sem,sevalprocAttr,reduceCtorEq,hlt',hji,hg,hpn]|simp (disch:=omega) only [wz]|with_reducible_and_instances exact finR|((with_reducible refine finR' ?_ ?_)<;> rfl)|((with_reducible refine finD hsc (NRel.of_plain ?_));exact rfl)
   exact ⟨n+1,Weak.env (by simp [envIn,lk_cons,wth_some,he,hv]),by omega,by omega⟩
 ·have:n=q.fn.length:=by omega
  subst this
  have hlt':¬(q.fn.length:Int)<(q.fn.length:Int):=by omega
  have:waitingR s=queuedR s+lostL (s.flight.take q.fn.length):=by unfold waitingR;rw [hll,List.take_length]
  rw [this]
  repeat first|with_reducible refine kc ?_|((with_reducible first|refine kr ?_ ?_|refine kt ?_ ?_);exact rfl)|((with_reducible refine kf ?_ ?_);exact rfl)|simp only [go_sem,sevalprocAttr,reduceCtorEq,hlt']|simp (disch:=omega) only [wz]|with_reducible_and_instances exact finR|((with_reducible refine finR' ?_ ?_)<;> rfl)|((with_reducible refine finD hsc (NRel.of_plain ?_));exact rfl)
end Go.Proofs.Ytdgmcckfdgnicaa
