/-
 An end's small functions:the time out,whether a packet fits and may go,times,what is queued.
-/
import Derived.Test.YtdgmcckfdgnicaaUA
set_option linter.unusedVariables false
set_option linter.unusedSimpArgs false
set_option maxRecDepth 20000
set_option maxHeartbeats 4000000
namespace Go.Proofs.Ytdgmcckfdgnicaa
open Go Go.Aw Go.Proofs
def atR (s:E) (now:Int):Int:=if now<s.now∨now>1000000000 then 7 else 0
theorem at_ {H:AHeap} {e:Nat} {s:E} {q:Q} (h:EndI H e s q) (now:Int):ARet Try.prog 37 [ptr e,.int .i64 now] H (.int .i64 (atR s now)) H:=by
 have hc:=h.cell
 simp only [endC] at hc
 unfold atR
 by_cases h1:now<s.now
 ·rw [if_pos (.inl h1)]
  refine AC.enter Try.func37 rfl (by kernel_rfl) 19 rfl [.tmp 4] rfl (by simp) fun hsc B=> ?_
  repeat first|with_reducible refine kc ?_|((with_reducible first|refine kr ?_ ?_|refine kt ?_ ?_);exact rfl)|((with_reducible refine kf ?_ ?_);exact rfl)|simp only [go_sem,sevalprocAttr,reduceCtorEq,hc,h1]|simp (disch:=omega) only [wz]|with_reducible_and_instances exact finR|((with_reducible refine finR' ?_ ?_)<;> rfl)|((with_reducible refine finD hsc (NRel.of_plain ?_));exact rfl)
 ·by_cases h2:now>1000000000
  ·rw [if_pos (.inr h2)]
   refine AC.enter Try.func37 rfl (by kernel_rfl) 19 rfl [.tmp 4] rfl (by simp) fun hsc B=> ?_
   repeat first|with_reducible refine kc ?_|((with_reducible first|refine kr ?_ ?_|refine kt ?_ ?_);exact rfl)|((with_reducible refine kf ?_ ?_);exact rfl)|simp only [go_sem,sevalprocAttr,reduceCtorEq,hc,h1,h2]|simp (disch:=omega) only [wz]|with_reducible_and_instances exact finR|((with_reducible refine finR' ?_ ?_)<;> rfl)|((with_reducible refine finD hsc (NRel.of_plain ?_));exact rfl)
  ·rw [if_neg (by omega)]
   refine AC.enter Try.func37 rfl (by kernel_rfl) 19 rfl [.tmp 4] rfl (by simp) fun hsc B=> ?_
   repeat first|with_reducible refine kc ?_|((with_reducible first|refine kr ?_ ?_|refine kt ?_ ?_);exact rfl)|((with_reducible refine kf ?_ ?_);exact rfl)|simp only [go_sem,sevalprocAttr,reduceCtorEq,hc,h1,h2]|simp (disch:=omega) only [wz]|with_reducible_and_instances exact finR|((with_reducible refine finR' ?_ ?_)<;> rfl)|((with_reducible refine finD hsc (NRel.of_plain ?_));exact rfl)
def mayR (s:E) (p:Pk):Bool:=if p.kind=1 then decide (s.state=1) else (decide (s.state=2)||decide (s.state=3))&&(s.opener||s.heard)
theorem may {H:AHeap} {e:Nat} {s:E} {q:Q} (h:EndI H e s q) (n:Nat) (p:Pk) (hp:H[n]? =some (.cells (pkC p) kP)):ARet Try.prog 61 [ptr e,ptr n] H (.bool (mayR s p)) H:=by
 have hc:=h.cell
 simp only [endC] at hc
 unfold pkC at hp
 unfold mayR
 by_cases h1:p.kind=1
 ·have h1':(p.kind==1)=true:=by simp [h1]
  rw [if_pos h1]
  have h2:(s.state==1)=decide (s.state=1):=by by_cases h:s.state=1<;> simp [h]
  refine AC.enter Try.func61 rfl (by kernel_rfl) 40 rfl [.tmp 4] rfl (by simp) fun hsc B=> ?_
  repeat first|with_reducible refine kc ?_|((with_reducible first|refine kr ?_ ?_|refine kt ?_ ?_);exact rfl)|((with_reducible refine kf ?_ ?_);exact rfl)|simp only [go_sem,sevalprocAttr,reduceCtorEq,hc,h1',hp,h2]|simp (disch:=omega) only [wz]|with_reducible_and_instances exact finR|((with_reducible refine finR' ?_ ?_)<;> rfl)|((with_reducible refine finD hsc (NRel.of_plain ?_));exact rfl)
 ·have h1':(p.kind==1)=false:=by simp [h1]
  rw [if_neg h1]
  by_cases h2:s.state=2
  ·have h2':(s.state==2)=true:=by simp [h2]
   rw [decide_eq_true h2,Bool.true_or,Bool.true_and]
   cases h3:s.opener with
   |true=>
    refine AC.enter Try.func61 rfl (by kernel_rfl) 40 rfl [.tmp 4] rfl (by simp) fun hsc B=> ?_
    repeat first|with_reducible refine kc ?_|((with_reducible first|refine kr ?_ ?_|refine kt ?_ ?_);exact rfl)|((with_reducible refine kf ?_ ?_);exact rfl)|simp only [go_sem,sevalprocAttr,reduceCtorEq,hc,h1',hp,h2',h3]|simp (disch:=omega) only [wz]|with_reducible_and_instances exact finR|((with_reducible refine finR' ?_ ?_)<;> rfl)|((with_reducible refine finD hsc (NRel.of_plain ?_));exact rfl)
   |false=>
    refine AC.enter Try.func61 rfl (by kernel_rfl) 40 rfl [.tmp 4] rfl (by simp) fun hsc B=> ?_
    repeat first|with_reducible refine kc ?_|((with_reducible first|refine kr ?_ ?_|refine kt ?_ ?_);exact rfl)|((with_reducible refine kf ?_ ?_);exact rfl)|simp only [go_sem,sevalprocAttr,reduceCtorEq,hc,h1',hp,h2',h3]|simp (disch:=omega) only [wz]|with_reducible_and_instances exact finR|((with_reducible refine finR' ?_ ?_)<;> rfl)|((with_reducible refine finD hsc (NRel.of_plain ?_));exact rfl)
  ·have h2':(s.state==2)=false:=by simp [h2]
   rw [decide_eq_false h2,Bool.false_or]
   by_cases h4:s.state=3
   ·have h4':(s.state==3)=true:=by simp [h4]
    rw [decide_eq_true h4,Bool.true_and]
    cases h3:s.opener with
    |true=>
     refine AC.enter Try.func61 rfl (by kernel_rfl) 40 rfl [.tmp 4] rfl (by simp) fun hsc B=> ?_
     repeat first|with_reducible refine kc ?_|((with_reducible first|refine kr ?_ ?_|refine kt ?_ ?_);exact rfl)|((with_reducible refine kf ?_ ?_);exact rfl)|simp only [go_sem,sevalprocAttr,reduceCtorEq,hc,h1',hp,h2',h3,h4']|simp (disch:=omega) only [wz]|with_reducible_and_instances exact finR|((with_reducible refine finR' ?_ ?_)<;> rfl)|((with_reducible refine finD hsc (NRel.of_plain ?_));exact rfl)
    |false=>
     refine AC.enter Try.func61 rfl (by kernel_rfl) 40 rfl [.tmp 4] rfl (by simp) fun hsc B=> ?_
     repeat first|with_reducible refine kc ?_|((with_reducible first|refine kr ?_ ?_|refine kt ?_ ?_);exact rfl)|((with_reducible refine kf ?_ ?_);exact rfl)|simp only [go_sem,sevalprocAttr,reduceCtorEq,hc,h1',hp,h2',h3,h4']|simp (disch:=omega) only [wz]|with_reducible_and_instances exact finR|((with_reducible refine finR' ?_ ?_)<;> rfl)|((with_reducible refine finD hsc (NRel.of_plain ?_));exact rfl)
   ·have h4':(s.state==3)=false:=by simp [h4]
    rw [decide_eq_false h4,Bool.false_and]
    refine AC.enter Try.func61 rfl (by kernel_rfl) 40 rfl [.tmp 4] rfl (by simp) fun hsc B=> ?_
    repeat first|with_reducible refine kc ?_|((with_reducible first|refine kr ?_ ?_|refine kt ?_ ?_);exact rfl)|((with_reducible refine kf ?_ ?_);exact rfl)|simp only [go_sem,sevalprocAttr,reduceCtorEq,hc,h1',hp,h2',h4']|simp (disch:=omega) only [wz]|with_reducible_and_instances exact finR|((with_reducible refine finR' ?_ ?_)<;> rfl)|((with_reducible refine finD hsc (NRel.of_plain ?_));exact rfl)
def waitR (s:E):Int:=min (shlI .i64 s.out (s.outs:Nat)) 60000
theorem wait {H:AHeap} {e:Nat} {s:E} {q:Q} (h:EndI H e s q):ARet Try.prog 56 [ptr e] H (.int .i64 (waitR s)) H:=by
 have hc:=h.cell
 simp only [endC] at hc
 unfold waitR
 refine AC.enter Try.func56 rfl (by kernel_rfl) 15 rfl [.tmp 2] rfl (by simp) fun hsc B=> ?_
 repeat first|with_reducible refine kc ?_|((with_reducible first|refine kr ?_ ?_|refine kt ?_ ?_);exact rfl)|((with_reducible refine kf ?_ ?_);exact rfl)|simp only [go_sem,sevalprocAttr,reduceCtorEq]|simp (disch:=omega) only [wz]|with_reducible_and_instances exact finR|((with_reducible refine finR' ?_ ?_)<;> rfl)|((with_reducible refine finD hsc (NRel.of_plain ?_));exact rfl)
 refine AWP.regionM 10 [4,9] [] (.both (.run [4,9]) (.run [9,4])) (by kernel_rfl) (by decide) (by kernel_rfl) (by kernel_rfl) (by kernel_rfl) ?_
 repeat' first|with_reducible refine canW_n ?_|with_reducible refine canW_m (by decide) ?_|((with_reducible apply canW_p (by decide));focus (intro H;(simp only [go_sem,sevalprocAttr,reduceCtorEq,hc,minMaxW,List.map_cons,List.map_nil]);exact rfl))|with_reducible refine memW_b ?_ ?_|with_reducible refine memW_s rfl ?_|with_reducible refine memW_r rfl ?_|with_reducible refine memW_e ?_|simp only [List.take_succ_cons,List.take_zero,List.drop_succ_cons,List.drop_zero]|omega|with_reducible refine And.intro ?_ ?_|with_reducible refine kc ?_|((with_reducible first|refine kr ?_ ?_|refine kt ?_ ?_);exact rfl)|((with_reducible refine kf ?_ ?_);exact rfl)|simp only [go_sem,sevalprocAttr,reduceCtorEq,hc,minMaxW,List.map_cons,List.map_nil]|simp (disch:=omega) only [wz]|with_reducible_and_instances exact finR|((with_reducible refine finR' ?_ ?_)<;> rfl)|((with_reducible refine finD hsc (NRel.of_plain ?_));exact rfl)
def fitsR (s:E) (p:Pk):Bool:=decide (flyN s.flight=0)||decide (flyB s.flight+szP p≤min s.window s.limit)
theorem fits {H:AHeap} {e:Nat} {s:E} {q:Q} (h:EndI H e s q) (n:Nat) (p:Pk) (hp:H[n]? =some (.cells (pkC p) kP)) (hl:s.flight.length<1099511627776) (hb:∀p∈s.flight,p.body.length≤100000) (hpb:p.body.length≤100000):ARet Try.prog 60 [ptr e,ptr n] H (.bool (fitsR s p)) H:=by
 have hc:=h.cell
 simp only [endC] at hc
 have hfly:=flying e q.fv q.fn q.fj s.flight H h.u h.frow h.fpk hl hb
 have hsz:0≤szP p∧szP p≤100001:=by unfold szP;omega
 have hB:=szsU_le hb (underN s.flight).length
 have hn:(underN s.flight).length≤s.flight.length:=flyN_le s.flight
 have hBB:0≤flyB s.flight∧flyB s.flight<1099511627776*100002:=by unfold flyB;omega
 unfold fitsR
 by_cases h0:flyN s.flight=0
 ·have h0':((flyN s.flight:Int)==0)=true:=by simp [h0]
  rw [decide_eq_true h0,Bool.true_or]
  refine AC.enter Try.func60 rfl (by kernel_rfl) 34 rfl [.tmp 4] rfl (by simp) fun hsc B=> ?_
  repeat first|with_reducible refine kc ?_|((with_reducible first|refine kr ?_ ?_|refine kt ?_ ?_);exact rfl)|((with_reducible refine kf ?_ ?_);exact rfl)|with_reducible refine hfly.use ?_|simp only [go_sem,sevalprocAttr,reduceCtorEq]|simp (disch:=omega) only [wz]|with_reducible_and_instances exact finR|((with_reducible refine finR' ?_ ?_)<;> rfl)|((with_reducible refine finD hsc (NRel.of_plain ?_));exact rfl)
  refine AWP.regionM 18 [5,6,11,16,17] [] (.both (.step 5 (.both (.step 6 (.both (.run [11,16,17]) (.run [16,11,17]))) (.both (.step 11 (.both (.run [6,16,17]) (.step 16 (.both (.run [6,17]) (.run [17,6]))))) (.step 16 (.both (.run [6,11,17]) (.step 11 (.both (.run [6,17]) (.run [17,6])))))))) (.both (.step 11 (.both (.step 5 (.both (.run [6,16,17]) (.step 16 (.both (.run [6,17]) (.run [17,6]))))) (.step 16 (.both (.step 5 (.both (.run [6,17]) (.run [17,6]))) (.run [17,5,6]))))) (.step 16 (.both (.step 5 (.both (.run [6,11,17]) (.step 11 (.both (.run [6,17]) (.run [17,6]))))) (.step 11 (.both (.step 5 (.both (.run [6,17]) (.run [17,6]))) (.run [17,5,6]))))))) (by kernel_rfl) (by decide) (by kernel_rfl) (by kernel_rfl) (by kernel_rfl) ?_
  repeat' first|with_reducible refine canW_n ?_|with_reducible refine canW_m (by decide) ?_|((with_reducible apply canW_p (by decide));focus (intro H;(simp only [go_sem,sevalprocAttr,reduceCtorEq,hc,minMaxW,h0',List.map_cons,List.map_nil]);exact rfl))|with_reducible refine memW_b ?_ ?_|with_reducible refine memW_s rfl ?_|with_reducible refine memW_r rfl ?_|with_reducible refine memW_e ?_|simp only [List.take_succ_cons,List.take_zero,List.drop_succ_cons,List.drop_zero]|omega|with_reducible refine And.intro ?_ ?_|with_reducible refine kc ?_|((with_reducible first|refine kr ?_ ?_|refine kt ?_ ?_);exact rfl)|((with_reducible refine kf ?_ ?_);exact rfl)|with_reducible refine (size n p _ hp).use ?_|simp only [go_sem,sevalprocAttr,reduceCtorEq,hc,minMaxW,h0',List.map_cons,List.map_nil]|simp (disch:=omega) only [wz]|with_reducible_and_instances exact finR|((with_reducible refine finR' ?_ ?_)<;> rfl)|((with_reducible refine finD hsc (NRel.of_plain ?_));exact rfl)
 ·have h0':((flyN s.flight:Int)==0)=false:=by simp [h0]
  rw [decide_eq_false h0,Bool.false_or]
  refine AC.enter Try.func60 rfl (by kernel_rfl) 34 rfl [.tmp 4] rfl (by simp) fun hsc B=> ?_
  repeat first|with_reducible refine kc ?_|((with_reducible first|refine kr ?_ ?_|refine kt ?_ ?_);exact rfl)|((with_reducible refine kf ?_ ?_);exact rfl)|with_reducible refine hfly.use ?_|simp only [go_sem,sevalprocAttr,reduceCtorEq]|simp (disch:=omega) only [wz]|with_reducible_and_instances exact finR|((with_reducible refine finR' ?_ ?_)<;> rfl)|((with_reducible refine finD hsc (NRel.of_plain ?_));exact rfl)
  refine AWP.regionM 18 [5,6,11,16,17] [] (.both (.step 5 (.both (.step 6 (.both (.run [11,16,17]) (.run [16,11,17]))) (.both (.step 11 (.both (.run [6,16,17]) (.step 16 (.both (.run [6,17]) (.run [17,6]))))) (.step 16 (.both (.run [6,11,17]) (.step 11 (.both (.run [6,17]) (.run [17,6])))))))) (.both (.step 11 (.both (.step 5 (.both (.run [6,16,17]) (.step 16 (.both (.run [6,17]) (.run [17,6]))))) (.step 16 (.both (.step 5 (.both (.run [6,17]) (.run [17,6]))) (.run [17,5,6]))))) (.step 16 (.both (.step 5 (.both (.run [6,11,17]) (.step 11 (.both (.run [6,17]) (.run [17,6]))))) (.step 11 (.both (.step 5 (.both (.run [6,17]) (.run [17,6]))) (.run [17,5,6]))))))) (by kernel_rfl) (by decide) (by kernel_rfl) (by kernel_rfl) (by kernel_rfl) ?_
  repeat' first|with_reducible refine canW_n ?_|with_reducible refine canW_m (by decide) ?_|((with_reducible apply canW_p (by decide));focus (intro H;(simp only [go_sem,sevalprocAttr,reduceCtorEq,hc,minMaxW,h0',List.map_cons,List.map_nil]);exact rfl))|with_reducible refine memW_b ?_ ?_|with_reducible refine memW_s rfl ?_|with_reducible refine memW_r rfl ?_|with_reducible refine memW_e ?_|simp only [List.take_succ_cons,List.take_zero,List.drop_succ_cons,List.drop_zero]|omega|with_reducible refine And.intro ?_ ?_|with_reducible refine kc ?_|((with_reducible first|refine kr ?_ ?_|refine kt ?_ ?_);exact rfl)|((with_reducible refine kf ?_ ?_);exact rfl)|with_reducible refine (size n p _ hp).use ?_|simp only [go_sem,sevalprocAttr,reduceCtorEq,hc,minMaxW,h0',List.map_cons,List.map_nil]|simp (disch:=omega) only [wz]|with_reducible_and_instances exact finR|((with_reducible refine finR' ?_ ?_)<;> rfl)|((with_reducible refine finD hsc (NRel.of_plain ?_));exact rfl)
def sumL (l:List Pk):Int:=(l.map fun p=>(p.body.length:Int)).sum
def queuedR (s:E):Int:=sumL s.waiting
theorem queued {H:AHeap} {e:Nat} {s:E} {q:Q} (h:EndI H e s q) (hl:s.waiting.length<1099511627776) (hb:∀p∈s.waiting,p.body.length≤100000):ARet Try.prog 38 [ptr e] H (.int .i64 (queuedR s)) H:=by
 have hc:=h.cell
 simp only [endC] at hc
 have q1:∀H' K,lenW Try.prog 69 q.wv H' K=K (.int .i64 (q.wn.length:Nat)) H':=fun H' K=>h.wrow.lenW
 have hll:=h.wpk.1
 refine AC.enter Try.func38 rfl (by kernel_rfl) 25 rfl [.tmp 2] rfl (by simp) fun hsc B=> ?_
 repeat first|with_reducible refine kc ?_|((with_reducible first|refine kr ?_ ?_|refine kt ?_ ?_);exact rfl)|((with_reducible refine kf ?_ ?_);exact rfl)|simp only [go_sem,sevalprocAttr,reduceCtorEq,hc,q1]|simp (disch:=omega) only [wz]|with_reducible_and_instances exact finR|((with_reducible refine finR' ?_ ?_)<;> rfl)|((with_reducible refine finD hsc (NRel.of_plain ?_));exact rfl)
 have hsum:∀n,n≤s.waiting.length→0≤sumL (s.waiting.take n)∧sumL (s.waiting.take n)≤(n:Int)*100000:=fun n=>by
  induction n with
  |zero=>simp [sumL]
  |succ n ih=>
   intro hn
   have:=hb s.waiting[n] (List.getElem_mem (by omega))
   have:=ih (by omega)
   unfold sumL at this ⊢
   rw [List.take_add_one,List.getElem?_eq_getElem (by omega)]
   simp only [sumL,Option.toList_some,List.map_append,List.map_cons,List.map_nil,List.sum_append,List.sum_cons,List.sum_nil]
   omega
 refine AWP.loopP (fun n:Nat=>⟨[(3,.int .i64 (sumL (s.waiting.take n))),(10,q.wv),(11,.int .i64 (q.wn.length:Nat)),(12,.int .i64 (n:Nat))],[],H⟩) (fun n=>n≤q.wn.length) (fun n=>q.wn.length - n) 0 ?_ (by simp) ?_
 ·exact Weak.env (by simp [envIn,lk_cons,wth_some,sumL])
 intro n hn
 by_cases hlt:n<q.wn.length
 ·have hlt':(n:Int)<(q.wn.length:Int):=by omega
  obtain ⟨ji,off,cap,cs,hv,_,hji,_,_,_,hg⟩:=h.wrow.get (List.getElem?_eq_getElem hlt)
  have hpn:=h.wpk.2 n _ _ (List.getElem?_eq_getElem hlt) (List.getElem?_eq_getElem (by omega))
  unfold pkC at hpn
  have hs:=hsum n (by omega)
  have hb1:=hb s.waiting[n] (List.getElem_mem (by omega))
  have he:sumL (s.waiting.take (n+1))=sumL (s.waiting.take n)+(s.waiting[n].body.length:Int):=by
   rw [List.take_add_one,List.getElem?_eq_getElem (by omega)]
   simp only [sumL,Option.toList_some,List.map_append,List.map_cons,List.map_nil,List.sum_append,List.sum_cons,List.sum_nil]
   omega
  rw [hv]
  repeat first|with_reducible refine kc ?_|((with_reducible first|refine kr ?_ ?_|refine kt ?_ ?_);exact rfl)|((with_reducible refine kf ?_ ?_);exact rfl)|simp only [go_sem,sevalprocAttr,reduceCtorEq,hlt',hji,hg,hpn]|simp (disch:=omega) only [wz]|with_reducible_and_instances exact finR|((with_reducible refine finR' ?_ ?_)<;> rfl)|((with_reducible refine finD hsc (NRel.of_plain ?_));exact rfl)
  exact ⟨n+1,Weak.env (by simp [envIn,lk_cons,wth_some,he,hv]),by omega,by omega⟩
 ·have:n=q.wn.length:=by omega
  subst this
  have hlt':¬(q.wn.length:Int)<(q.wn.length:Int):=by omega
  have:queuedR s=sumL (s.waiting.take q.wn.length):=by unfold queuedR;rw [hll,List.take_length]
  rw [this]
  repeat first|with_reducible refine kc ?_|((with_reducible first|refine kr ?_ ?_|refine kt ?_ ?_);exact rfl)|((with_reducible refine kf ?_ ?_);exact rfl)|simp only [go_sem,sevalprocAttr,reduceCtorEq,hlt']|simp (disch:=omega) only [wz]|with_reducible_and_instances exact finR|((with_reducible refine finR' ?_ ?_)<;> rfl)|((with_reducible refine finD hsc (NRel.of_plain ?_));exact rfl)
end Go.Proofs.Ytdgmcckfdgnicaa
