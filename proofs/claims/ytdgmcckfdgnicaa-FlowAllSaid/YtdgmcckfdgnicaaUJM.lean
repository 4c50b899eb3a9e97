/-
  A part of the proof of a statement of this seat.
-/
import Derived.Test.YtdgmcckfdgnicaaUHM
set_option linter.unusedVariables false
set_option linter.unusedSimpArgs false
set_option maxRecDepth 20000
set_option maxHeartbeats 8000000
namespace Go.Proofs.Ytdgmcckfdgnicaa
open Go Go.Aw Go.Proofs
def newE (opener:Bool) (conn first room:Int):E where
 waiting:=[]
 flight:=[]
 next:=first
 acked:=first - 1
 window:=1400
 limit:=4200
 body:=1400
 out:=1000
 outs:=0
 closing:=false
 done:=false
 room:=room
 base:=0
 heard:=false
 kept:=[]
 ready:=[]
 ended:=false
 answer:=false
 late:=0
 some:=false
 replies:=false
 opener:=opener
 conn:=conn
 state:=0
 now:=0
 count:=0
 again:=0
 doubles:=0
def newQ (m:Nat):Q:= ⟨.slice none 0 0,.slice none 0 0,[],[],[],[],m,[],0,⟨0,0,0,0,0,false⟩⟩
theorem New (opener:Bool) (conn first room:Int) (hc:0≤conn∧conn<65536) (hf:0≤first∧first<65536) (hr:1400≤room∧room≤1000000) (H:AHeap):
  ARet Try.prog 18 [.bool opener,.int .i64 conn,.int .i64 first,.int .i64 room] H (.tuple ⟨[ptr H.length,.int .i64 0]⟩) (H++ [.cells (endC (newE opener conn first room) (newQ (H.length+1))) kE,.amap [] 0 true]):=by
 have h1:¬room<1400:=by omega
 have h2:¬room>1000000:=by omega
 simp only [endC,newE,newQ]
 refine AC.enter Try.func18 rfl (by kernel_rfl) 45 rfl [.tmp 8,.tmp 9] rfl (by simp) fun hsc B=> ?_
 repeat first|with_reducible refine kc ?_|((with_reducible first|refine kr ?_ ?_|refine kt ?_ ?_);exact rfl)|((with_reducible refine kf ?_ ?_);exact rfl)|with_reducible (first|refine (round_t hc).use ?_|refine (round_t hf).use ?_)|simp only [go_sem,sevalprocAttr,reduceCtorEq,h1,h2,makeMapW]|simp (disch:=omega) only [wz]|with_reducible_and_instances exact finR|((with_reducible refine finR' ?_ ?_)<;> rfl)|((with_reducible refine finD hsc (NRel.of_plain ?_));exact rfl)
theorem New_end (opener:Bool) (conn first room:Int) (H:AHeap):EndI (H++ [.cells (endC (newE opener conn first room) (newQ (H.length+1))) kE,.amap [] 0 true]) H.length (newE opener conn first room) (newQ (H.length+1)) where
 cell:=by simp
 wrow:= .inl ⟨rfl,rfl,rfl⟩
 frow:= .inl ⟨rfl,rfl,rfl⟩
 wpk:=⟨rfl,fun i n p h=>by simp [newQ] at h⟩
 fpk:=⟨rfl,fun i n p h=>by simp [newQ] at h⟩
 map:=by simp [newQ,newE,esOf]
 mis:=⟨rfl,by simp [newQ],fun x h=>by simp [newQ] at h,by simp [newE]⟩
 nodup:=by simp [Q.names,newQ]
end Go.Proofs.Ytdgmcckfdgnicaa

set_option linter.unusedVariables false
set_option linter.unusedSimpArgs false
set_option maxRecDepth 20000
set_option maxHeartbeats 8000000
namespace Go.Proofs.Ytdgmcckfdgnicaa
open Go Go.Aw Go.Proofs
def lostL (l:List Pk):Int:=(l.map fun p=>if p.lost=true then (p.body.length:Int) else 0).sum
def waitingR (s:E):Int:=queuedR s+lostL s.flight
theorem sumL_le {l:List Pk} (hb:∀p∈l,p.body.length≤100000):0≤sumL l∧sumL l≤(l.length:Int)*100000:=by
 induction l with
 |nil=>simp [sumL]
 |cons a l ih=>
  have:=hb a (List.mem_cons_self ..)
  have:=ih fun p hp=>hb p (List.mem_cons_of_mem _ hp)
  unfold sumL at*
  rw [List.map_cons,List.sum_cons,List.length_cons]
  omega
theorem lostL_le {l:List Pk} (hb:∀p∈l,p.body.length≤100000):0≤lostL l∧lostL l≤(l.length:Int)*100000:=by
 induction l with
 |nil=>simp [lostL]
 |cons a l ih=>
  have:=hb a (List.mem_cons_self ..)
  have:=ih fun p hp=>hb p (List.mem_cons_of_mem _ hp)
  unfold lostL at*
  rw [List.map_cons,List.sum_cons,List.length_cons]
  split<;> omega
theorem Waiting {H:AHeap} {e:Nat} {s:E} {q:Q} (h:EndI H e s q) (hl:s.waiting.length<1099511627776) (hb:∀p∈s.waiting,p.body.length≤100000) (hl2:s.flight.length<1099511627776) (hb2:∀p∈s.flight,p.body.length≤100000):ARet Try.prog 24 [ptr e] H (.int .i64 (waitingR s)) H:=by
 have hc:=h.cell
 simp only [endC] at hc
 have hq:=queued h hl hb
 have q1:∀H' K,lenW Try.prog 69 q.fv H' K=K (.int .i64 (q.fn.length:Nat)) H':=fun H' K=>h.frow.lenW
 have hll:=h.fpk.1
 have hqb:0≤queuedR s∧queuedR s≤(s.waiting.length:Int)*100000:=sumL_le hb
 refine AC.enter Try.func24 rfl (by kernel_rfl) 33 rfl [.tmp 2] rfl (by simp) fun hsc B=> ?_
 repeat first|with_reducible refine kc ?_|((with_reducible first|refine kr ?_ ?_|refine kt ?_ ?_);exact rfl)|((with_reducible refine kf ?_ ?_);exact rfl)|with_reducible refine hq.use ?_|simp only [go_sem,sevalprocAttr,reduceCtorEq,hc,q1]|simp (disch:=omega) only [wz]|with_reducible_and_instances exact finR|((with_reducible refine finR' ?_ ?_)<;> rfl)|((with_reducible refine finD hsc (NRel.of_plain ?_));exact rfl)
 refine AWP.loopP (fun n:Nat=>⟨[(3,.int .i64 (queuedR s+lostL (s.flight.take n))),(14,q.fv),(15,.int .i64 (q.fn.length:Nat)),(16,.int .i64 (n:Nat))],[],H⟩) (fun n=>n≤q.fn.length) (fun n=>q.fn.length - n) 0 ?_ (by simp) ?_
 ·exact Weak.env (by simp [envIn,lk_cons,wth_some,lostL])
 intro n hn
 by_cases hlt:n<q.fn.length
 ·have hlt':(n:Int)<(q.fn.length:Int):=by omega
  obtain ⟨ji,off,cap,cs,hv,_,hji,_,_,_,hg⟩:=h.frow.get (List.getElem?_eq_getElem hlt)
  have hpn:=h.fpk.2 n _ _ (List.getElem?_eq_getElem hlt) (List.getElem?_eq_getElem (by omega))
  unfold pkC at hpn
  have hs:=lostL_le (l:=s.flight.take n) fun p hp=>hb2 p (List.mem_of_mem_take hp)
  rw [List.length_take] at hs
  have hb1:=hb2 s.flight[n] (List.getElem_mem (by omega))
  have he:lostL (s.flight.take (n+1))=lostL (s.flight.take n)+if s.flight[n].lost=true then (s.flight[n].body.length:Int) else 0:=by
   rw [List.take_add_one,List.getElem?_eq_getElem (by omega)]
   simp only [lostL,Option.toList_some,List.map_append,List.map_cons,List.map_nil,List.sum_append,List.sum_cons,List.sum_nil]
   omega
  rw [hv]
  cases hb3:s.flight[n].lost with
  |true=>
   rw [hb3,if_pos rfl] at he
   rw [hb3] at hpn
   repeat first|refine kw4 hlt' hji hg hpn ?_|exact kwz
   exact ⟨n+1,Weak.env (by simp [envIn,lk_cons,wth_some,he,hv];omega),by omega,by omega⟩
  |false=>
   rw [hb3,if_neg (by decide)] at he
   rw [hb3] at hpn
   repeat first|refine kw4 hlt' hji hg hpn ?_|exact kwz
   exact ⟨n+1,Weak.env (by simp [envIn,lk_cons,wth_some,he,hv]),by omega,by omega⟩
 ·have:n=q.fn.length:=by omega
  subst this
  have hlt':¬(q.fn.length:Int)<(q.fn.length:Int):=by omega
  have:waitingR s=queuedR s+lostL (s.flight.take q.fn.length):=by unfold waitingR;rw [hll,List.take_length]
  rw [this]
  repeat first|refine kw1 hlt' ?_|exact kwz
end Go.Proofs.Ytdgmcckfdgnicaa

set_option linter.unusedVariables false
set_option linter.unusedSimpArgs false
set_option maxRecDepth 20000
set_option maxHeartbeats 8000000
namespace Go.Proofs.Ytdgmcckfdgnicaa
open Go Go.Aw Go.Proofs
def chunks (n:Nat):Nat→List UInt8→List (List UInt8)
 |0,_=>[]
 |f+1,t=>if t=[] then [] else t.take n::chunks n f (t.drop n)
theorem chunks_fuel {n:Nat} (hn:1≤n):∀{f g:Nat} {t:List UInt8},t.length≤f→t.length≤g→chunks n f t=chunks n g t
 |0,0,t,_,_=>rfl
 |0,g+1,t,h,_=>by
  have:t=[]:=List.eq_nil_of_length_eq_zero (by omega)
  rw [this];simp [chunks]
 |f+1,0,t,_,h=>by
  have:t=[]:=List.eq_nil_of_length_eq_zero (by omega)
  rw [this];simp [chunks]
 | f+1,g+1,t,h1,h2=>by
  unfold chunks
  by_cases ht:t=[]
  ·rw [if_pos ht,if_pos ht]
  ·have:=List.length_pos_iff.2 ht
   rw [if_neg ht,if_neg ht,chunks_fuel hn (f:=f) (g:=g) (by rw [List.length_drop];omega) (by rw [List.length_drop];omega)]
theorem chunks_step {n:Nat} (hn:1≤n) {t:List UInt8} (ht:t≠[]):chunks n t.length t=t.take n::chunks n (t.drop n).length (t.drop n):=by
 have hp:=List.length_pos_iff.2 ht
 obtain ⟨f,hf⟩:∃f,t.length=f+1:=⟨t.length - 1,by omega⟩
 rw [hf,chunks,if_neg ht,chunks_fuel hn (f:=f) (g:=(t.drop n).length) (by rw [List.length_drop];omega) (Nat.le_refl _)]
theorem EndI.pushS {H:AHeap} {e:Nat} {s:E} {q:Q} (h:EndI H e s q) {X:AHeap} {p:Pk} {H2:AHeap} {v2:Value} {js2:List Nat} (hX:X[0]? =some (.cells (pkC p) kP)) (hr:RowP H2 v2 (q.wn++[H.length]) js2) (hF:Frm q.wj (H++X) H2) (hj:∀j∈js2,j∈q.wj∨j=(H++X).length) (s':E) (t:Told) (hw:s'.waiting=s.waiting++[p]) (hf:s'.flight=s.flight) (hk:s'.kept=s.kept):
  Steps H e q s' (H2.set e (.cells (endC s' {q with wv:=v2,wn:=q.wn++[H.length],wj:=js2,told:=t}) kE)):=by
 have hwlt:=h.wrow.lt
 have hXl:=lt_of_get hX
 have hpush:=h.pushW (H2:=H2) (v2:=v2) (js2:=js2) (n:=H.length) (p:=p) (Frm.trans Frm.app hF (fun j hj=> .inl hj)) hr (fun j hj2=>by
  rcases hj j hj2 with h|h
  ·exact .inl h
  ·exact .inr (by rw [h];simp)) (Nat.le_refl _) (fun hm=>by
  rcases hj _ hm with h|h
  ·have:=hwlt _ h;omega
  ·simp at h;rw [h] at hXl;simp at hXl) (hF.get (by rw [List.getElem?_append_right (Nat.le_refl _),Nat.sub_self];exact hX) (fun hm=>by have:=hwlt _ hm;omega)) s' t hw hf hk
 refine ⟨_,hpush.1,hpush.2,fun j hj3=> ?_⟩
 simp only [Q.names,List.mem_cons,List.mem_append,List.not_mem_nil,or_false] at hj3 ⊢
 rcases hj3 with h|h|h|h|(h|h)|h
 ·exact .inl (.inl h)
 ·exact .inl (.inr (.inl h))
 ·rcases hj j h with h|h
  ·exact .inl (.inr (.inr (.inl h)))
  ·exact .inr (by rw [h,List.length_append];omega)
 ·exact .inl (.inr (.inr (.inr (.inl h))))
 ·exact .inl (.inr (.inr (.inr (.inr (.inl h)))))
 ·exact .inr (by omega)
 ·exact .inl (.inr (.inr (.inr (.inr (.inr h)))))
def writeGo (s:E) (now:Int) (d:List (List UInt8)):E:={s with now:=now,waiting:=s.waiting++d.map (newP 2)}
def writeR (s:E) (now:Int) (text:List UInt8):Int×E:=
 if atR s now=0 then
  if s.closing=false∧(s.state=1∨s.state=2) then
   if queuedR s+(text.length:Int)>100000 then (4,s) else (0,writeGo s now (chunks s.body.toNat text.length text))
  else (9,s)
 else (atR s now,s)
theorem Write {H:AHeap} {e:Nat} {s:E} {q:Q} (h:EndI H e s q) (now:Int) (text:List UInt8) (ht:text.length≤65536) (hl:s.waiting.length+text.length<1099511627776) (hb:∀p∈s.waiting,p.body.length≤100000) (hbd:1≤s.body∧s.body≤1099511627776):
  AC Try.prog 15 [ptr e,.int .i64 now,.string (bs text)] H (fun r H2=>r= .ret (.int .i64 (writeR s now text).1)∧Steps H e q (writeR s now text).2 H2):=by
 have hc:=h.cell
 have ha:=at_ h now
 have hq:=queued h (by omega) hb
 have hqb:0≤queuedR s∧queuedR s≤(s.waiting.length:Int)*100000:=sumL_le hb
 have hcl:=lt_of_get hc
 have ht':¬(text.length:Int)>65536:=by omega
 simp only [endC] at hc
 unfold writeR
 by_cases h0:atR s now=0
 rotate_left
 ·have h0':(atR s now != 0)=true:=by simp [h0]
  rw [if_neg h0]
  refine AC.enter Try.func15 rfl (by kernel_rfl) 81 rfl [.tmp 6] rfl (by simp) fun hsc B=> ?_
  repeat first|with_reducible refine ha.use ?_|refine kw3 hc h0' ht' ?_|exact kwy
  exact ⟨_,_,.refl _ _ _,rfl,Steps.refl h⟩
 have h0':(atR s now != 0)=false:=by simp [h0]
 rw [if_pos h0]
 by_cases hs:s.closing=false∧(s.state=1∨s.state=2)
 rotate_left
 ·rw [if_neg hs]
  cases hop:s.closing with
  |true=>
   refine AC.enter Try.func15 rfl (by kernel_rfl) 81 rfl [.tmp 6] rfl (by simp) fun hsc B=> ?_
   repeat first|with_reducible refine ha.use ?_|refine kw4 hc h0' hop ht' ?_|exact kwy
   exact ⟨_,_,.refl _ _ _,rfl,Steps.refl h⟩
  |false=>
   have hss:¬(s.state=1∨s.state=2):=fun hx=>hs ⟨hop,hx⟩
   have h1':(s.state != 1)=true:=by simp;omega
   have h2':(s.state != 2)=true:=by simp;omega
   refine AC.enter Try.func15 rfl (by kernel_rfl) 81 rfl [.tmp 6] rfl (by simp) fun hsc B=> ?_
   repeat first|with_reducible refine ha.use ?_|refine kw6 hc h0' hop ht' h1' h2' ?_|exact kwy
   exact ⟨_,_,.refl _ _ _,rfl,Steps.refl h⟩
 rw [if_pos hs]
 obtain ⟨hop,hst⟩:=hs
 by_cases hbig:queuedR s+(text.length:Int)>100000
 ·rw [if_pos hbig]
  by_cases h1:s.state=1
  ·have h1':(s.state != 1)=false:=by simp [h1]
   refine AC.enter Try.func15 rfl (by kernel_rfl) 81 rfl [.tmp 6] rfl (by simp) fun hsc B=> ?_
   repeat first|with_reducible (first|refine ha.use ?_|refine hq.use ?_)|refine kw6 hc h0' hop ht' h1' hbig ?_|exact kwy
   exact ⟨_,_,.refl _ _ _,rfl,Steps.refl h⟩
  ·have h1':(s.state != 1)=true:=by simp [h1]
   have h2':(s.state != 2)=false:=by simp;omega
   refine AC.enter Try.func15 rfl (by kernel_rfl) 81 rfl [.tmp 6] rfl (by simp) fun hsc B=> ?_
   repeat first|with_reducible (first|refine ha.use ?_|refine hq.use ?_)|refine kw7 hc h0' hop ht' h1' h2' hbig ?_|exact kwy
   exact ⟨_,_,.refl _ _ _,rfl,Steps.refl h⟩
 rw [if_neg hbig]
 have hS0:Steps H e q (writeGo s now []) (H.set e (.cells (endC (writeGo s now []) q) kE)):=Steps.put h _ q.told (by simp [writeGo]) rfl rfl
 obtain ⟨H0,hH0⟩:∃H0,H0=H.set e (.cells (endC (writeGo s now []) q) kE):=⟨_,rfl⟩
 rw [← hH0] at hS0
 have hH0':=hH0.symm
 simp only [endC,writeGo] at hH0'
 clear hH0
 have hkey:∀g:Cfg,True:=fun _=>trivial
 refine AC.enter Try.func15 rfl (by kernel_rfl) 81 rfl [.tmp 6] rfl (by simp) fun hsc B=> ?_
 repeat first|with_reducible refine AWP.seqJ (x:= .seq (.region 6 _ _) _) ⟨[(0,ptr e),(1,.int .i64 now),(2,.string (bs text))],[],H⟩ ?_ ?_|with_reducible refine ha.use ?_|refine kw3 hc h0' ht' ?_|exact kwy
 ·by_cases h1:s.state=1
  ·have h1':(s.state != 1)=false:=by simp [h1]
   repeat first|refine kw3 hc hop h1' ?_|exact kwy
   exact Weak.env (by simp [envIn,lk_cons,wth_some])
  ·have h1':(s.state != 1)=true:=by simp [h1]
   have h2':(s.state != 2)=false:=by simp;omega
   repeat first|refine kw4 hc hop h1' h2' ?_|exact kwy
   exact Weak.env (by simp [envIn,lk_cons,wth_some])
 repeat first|with_reducible refine hq.use ?_|refine kw4 hc hbig hcl hH0' ?_|exact kwy
 have hb1:1≤s.body.toNat:=by omega
 refine AWP.loopP (fun s2:List UInt8×List (List UInt8)×AHeap=>⟨[(0,ptr e),(2,.string (bs s2.1))],[],s2.2.2⟩) (fun s2=>Steps H e q (writeGo s now s2.2.1) s2.2.2∧chunks s.body.toNat text.length text=s2.2.1++chunks s.body.toNat s2.1.length s2.1∧s2.2.1.length+s2.1.length≤text.length) (fun s2=>s2.1.length) (text,[],H0) ?_ ⟨hS0,rfl,by simp⟩ ?_
 ·exact Weak.env (by simp [envIn,lk_cons,wth_some])
 rintro ⟨t,d,H1⟩ ⟨⟨q1,h1,hF1,hn1⟩,hch,hdl⟩
 simp only at h1 hF1 hch hdl
 have hc1:=h1.cell
 have hcl1:=lt_of_get hc1
 simp only [endC,writeGo] at hc1
 by_cases htn:t=[]
 ·subst htn
  repeat first|refine kw0 ?_|exact kwy
  refine ⟨_,_,.refl _ _ _,rfl,?_⟩
  rw [hch]
  simp only [List.length_nil,chunks,List.append_nil]
  exact ⟨q1,h1,hF1,hn1⟩
 ·have htp:=List.length_pos_iff.2 htn
  have htp':(t.length:Int)>0:=by omega
  have hmin:min (t.length:Int) s.body=(min t.length s.body.toNat:Nat):=by omega
  have hml:min t.length s.body.toNat≤t.length:=Nat.min_le_left ..
  have hml':((min t.length s.body.toNat:Nat):Int)≤t.length:=by omega
  have e1:t.take (min t.length s.body.toNat)=t.take s.body.toNat:=by
   rcases Nat.le_total t.length s.body.toNat with h|h
   ·rw [Nat.min_eq_left h,List.take_length,List.take_of_length_le h]
   ·rw [Nat.min_eq_right h]
  have e2:t.drop (min t.length s.body.toNat)=t.drop s.body.toNat:=by
   rcases Nat.le_total t.length s.body.toNat with h|h
   ·rw [Nat.min_eq_left h,List.drop_length,List.drop_eq_nil_of_le h]
   ·rw [Nat.min_eq_right h]
  repeat first|with_reducible refine kc ?_|((with_reducible first|refine kr ?_ ?_|refine kt ?_ ?_);exact rfl)|((with_reducible refine kf ?_ ?_);exact rfl)|simp only [go_sem,sevalprocAttr,reduceCtorEq,hc1,htp',hmin,minMaxW]|simp (disch:=omega) only [wz]
  refine AWP.regionM 13 [5,8,9,10,11,12] [] (.both (.run [5,8,9,10,11,12]) (.step 8 (.both (.run [5,9,10,11,12]) (.step 9 (.both (.run [5,10,11,12]) (.step 10 (.both (.run [5,11,12]) (.run [11,5,12])))))))) (by kernel_rfl) (by decide) (by kernel_rfl) (by kernel_rfl) (by kernel_rfl) ?_
  repeat' first|with_reducible refine canW_n ?_|with_reducible refine canW_m (by decide) ?_|((with_reducible apply canW_p (by decide));focus (intro H;(simp only [go_sem,sevalprocAttr,reduceCtorEq,hc1,hcl1,hgetl,hml,hml',List.map_cons,List.map_nil]);exact rfl))|with_reducible refine memW_b ?_ ?_|with_reducible refine memW_s rfl ?_|with_reducible refine memW_r rfl ?_|with_reducible refine memW_e ?_|simp only [List.take_succ_cons,List.take_zero,List.drop_succ_cons,List.drop_zero]|omega|with_reducible refine And.intro ?_ ?_|refine kw7 hc1 hcl1 @hgetl hml hml' @List.map_cons.{0,0} @List.map_nil.{0,0} ?_|exact kwy|fail
  all_goals
   refine (h1.wrow.add _).append (n:=H1.length) (by have:=h1.wpk.1;simp only [writeGo,List.length_append,List.length_map] at this;omega) fun v2 H2 js2 hr hF hj=> ?_
   have he2:=hF.get (show (H1++_)[e]? =_ from by rw [hgetl hcl1];exact hc1) (fun hm=>h1.ne (j:=e) (by simp [hm]) rfl)
   have hel2:=lt_of_get he2
   obtain ⟨hv1,hv2⟩:=hr.cells
   repeat' first|with_reducible refine canW_n ?_|with_reducible refine canW_m (by decide) ?_|((with_reducible apply canW_p (by decide));focus (intro H;(simp only [go_sem,sevalprocAttr,reduceCtorEq,he2,hel2,hv1,List.map_cons,List.map_nil]);exact rfl))|with_reducible refine memW_b ?_ ?_|with_reducible refine memW_s rfl ?_|with_reducible refine memW_r rfl ?_|with_reducible refine memW_e ?_|simp only [List.take_succ_cons,List.take_zero,List.drop_succ_cons,List.drop_zero]|omega|with_reducible refine And.intro ?_ ?_|refine kw5 he2 hel2 hv1 @List.map_cons.{0,0} @List.map_nil.{0,0} ?_|exact kwy|fail
   ·exact hv2
   ·have hP:=h1.pushS (p:=newP 2 (t.take (min t.length s.body.toNat))) rfl hr hF hj (writeGo s now (d++[t.take (min t.length s.body.toNat)])) q1.told (by simp [writeGo]) rfl rfl
    simp only [endC,writeGo] at hP
    refine ⟨(t.drop (min t.length s.body.toNat),d++[t.take (min t.length s.body.toNat)],_),Weak.env (by simp [envIn,lk_cons,wth_some]),Steps.trans h1 hF1 hn1 hP,?_,?_,?_⟩
    ·rw [hch,chunks_step hb1 htn,e1,e2,List.append_assoc];rfl
    ·simp only [List.length_append,List.length_drop,List.length_cons,List.length_nil];omega
    ·simp only [List.length_drop];omega
end Go.Proofs.Ytdgmcckfdgnicaa
