/-
  A part of the proof of a statement of this seat.
-/
import Derived.Test.YtdgmcckfdgnicaaU8M
set_option linter.unusedVariables false
set_option linter.unusedSimpArgs false
set_option maxRecDepth 20000
set_option maxHeartbeats 4000000
namespace Go.Proofs.Ytdgmcckfdgnicaa
open Go Go.Aw Go.Proofs
structure Sg where
  kind:Int
  conn:Int
  seq:Int
  ack:Int
  window:Int
  marks:List UInt8
  body:List UInt8
  time:Int
  late:Int
def Sg.c (s:Sg):List Value:=sgC s.kind s.conn s.seq s.ack s.window s.marks s.body s.time s.late
def Sg.v (s:Sg):Value:= .agg ⟨s.c⟩
structure E where
  waiting:List Pk
  flight:List Pk
  next:Int
  acked:Int
  window:Int
  limit:Int
  body:Int
  out:Int
  outs:Nat
  closing:Bool
  done:Bool
  room:Int
  base:Int
  heard:Bool
  kept:List (Int×Sg)
  ready:List UInt8
  ended:Bool
  answer:Bool
  late:Int
  some:Bool
  replies:Bool
  opener:Bool
  conn:Int
  state:Int
  now:Int
  count:Int
  again:Int
  doubles:Int
structure Told where
  bytes:Int
  lost:Int
  outs:Int
  trip:Int
  newest:Int
  some:Bool
structure Q where
  wv:Value
  fv:Value
  wn:List Nat
  fn:List Nat
  wj:List Nat
  fj:List Nat
  m:Nat
  st:List Nat
  ck:Nat
  told:Told
def endC (s:E) (q:Q):List Value:=
  [q.wv,q.fv,.int .i64 s.next,.int .i64 s.acked,.int .i64 s.window,.int .i64 s.limit,.int .i64 s.body,.int .i64 s.out,.int .i64 (s.outs:Nat),.bool s.closing,.bool s.done,
   .int .i64 s.room,.int .i64 s.base,.bool s.heard,.map (some q.m),.string (bs s.ready),.bool s.ended,.bool s.answer,.int .i64 s.late,.bool s.some,.bool s.replies,
   .bool s.opener,.int .i64 s.conn,.int .i64 s.state,.int .i64 s.now,
   .int .i64 q.told.bytes,.int .i64 q.told.lost,.int .i64 q.told.outs,.int .i64 q.told.trip,.int .i64 q.told.newest,.bool q.told.some,
   .int .i64 s.count,.int .i64 s.again,.int .i64 s.doubles]
abbrev kE:CK:=⟨78,0,true,0,none⟩
def entV (x:(Int×Sg)×Nat):Value×Value×Nat:= (.int .i64 x.1.1,x.1.2.v,x.2)
def esOf (l:List (Int×Sg)) (st:List Nat):MEs:=(l.zip st).map entV
structure MapIs (st:List Nat) (ck:Nat) (l:List (Int×Sg)):Prop where
  len:st.length=l.length
  nodup:st.Nodup
  old:∀x∈st,x<ck
  keys:(l.map (·.1)).Nodup
def Q.names (e:Nat) (q:Q):List Nat:=e::q.m::(q.wj++(q.fj++(q.wn++q.fn)))
structure EndI (H:AHeap) (e:Nat) (s:E) (q:Q):Prop where
  cell:H[e]? =some (.cells (endC s q) kE)
  wrow:RowP H q.wv q.wn q.wj
  frow:RowP H q.fv q.fn q.fj
  wpk:PksAt H q.wn s.waiting
  fpk:PksAt H q.fn s.flight
  map:H[q.m]? =some (.amap (esOf s.kept q.st) q.ck true)
  mis:MapIs q.st q.ck s.kept
  nodup:(q.names e).Nodup
theorem EndI.frm {S:List Nat} {H H2:AHeap} {e:Nat} {s:E} {q:Q} (h:EndI H e s q) (hf:Frm S H H2) (hs:∀j∈q.names e,j∉S):EndI H2 e s q where
  cell:=hf.get h.cell (hs _ (by simp [Q.names]))
  wrow:=h.wrow.frm hf fun j hj=>hs _ (by simp [Q.names,hj])
  frow:=h.frow.frm hf fun j hj=>hs _ (by simp [Q.names,hj])
  wpk:=h.wpk.frm hf fun j hj=>hs _ (by simp [Q.names,hj])
  fpk:=h.fpk.frm hf fun j hj=>hs _ (by simp [Q.names,hj])
  map:=hf.get h.map (hs _ (by simp [Q.names]))
  mis:=h.mis
  nodup:=h.nodup
theorem EndI.more {H:AHeap} {e:Nat} {s:E} {q:Q} (h:EndI H e s q) (X:AHeap):EndI (H++X) e s q:=h.frm (S:=[]) Frm.app (by simp)
theorem EndI.u {H:AHeap} {e:Nat} {s:E} {q:Q} (h:EndI H e s q):∃cs kk,H[e]? =some (.cells cs kk)∧cs[1]? =some q.fv:=⟨_,_,h.cell,rfl⟩
def eStep (a:Int×Bool) (p:Pk):Int×Bool:=if a.2=false∨p.sent<a.1 then (p.sent,true) else a
def earlN (fl:List Pk) (n:Nat):Int×Bool:=(((underN fl).take n).map fun i=>fl.getD i default).foldl eStep (0,false)
def earl (fl:List Pk):Int×Bool:=earlN fl (underN fl).length
theorem earlN_succ {fl:List Pk} {n i:Nat} {p:Pk} (h:(underN fl)[n]? =some i) (hp:fl[i]? =some p):earlN fl (n+1)=eStep (earlN fl n) p:=by
  unfold earlN
  rw [List.take_add_one,h]
  simp [List.getD_eq_getElem?_getD,hp]
theorem earliest (e:Nat) (fv:Value) (fn fj:List Nat) (fl:List Pk) (H:AHeap) (he:∃cs kk,H[e]? =some (.cells cs kk)∧cs[1]? =some fv) (hr:RowP H fv fn fj) (hp:PksAt H fn fl) (hl:fl.length<1099511627776):
    ARet Try.prog 55 [ptr e] H (.tuple ⟨[.int .i64 (earl fl).1,.bool (earl fl).2]⟩) H:=by
  refine AC.enter Try.func55 rfl (by kernel_rfl) 28 rfl [.tmp 2,.tmp 3] rfl (by simp) fun hsc B=> ?_
  repeat first|with_reducible refine (under _ _).use ?_|refine kw0 ?_|exact kwz
  refine AWP.rangeI (under1 e (H.length+2) fv fn fj fl hl) rfl (by simp) (by simp only [go_sem,sevalprocAttr,reduceCtorEq]) fun L hL=>
    ⟨fun n H1=>∃R,n≤(underN fl).length∧H1=H++ (.cells [.int .i64 (earlN fl n).1] ⟨3,0,true,0,none⟩:: .cells [.bool (earlN fl n).2] ⟨4,0,true,0,none⟩:: .cells [ptr e] ⟨100,0,true,0,none⟩:: .loop L::R),fun _=>False,
    ⟨[],Nat.zero_le _,by simp only [List.append_assoc,List.cons_append,List.nil_append];rfl⟩,?_,?_,?_⟩
  · rintro n H1 ⟨R,h1,rfl⟩
    obtain ⟨cs,kk,h3,h4⟩:=he
    exact (hp.frm (S:=[]) Frm.app (by simp)).uok ⟨⟨100,0,true,0,none⟩,by simp⟩ ⟨cs,kk,by rw [hgetl (lt_of_get h3)];exact h3,h4⟩ (hr.frm (S:=[]) Frm.app (by simp)) n
  · rintro n args H1 ha ⟨R,hn,rfl⟩
    obtain ⟨i,m,p,h1,h2,h3,h4,rfl⟩:=underA_get hp.1 ha
    have hm:=hp.2 i m p h2 h3
    unfold pkC at hm
    have hml:=lt_of_get hm
    have hs:=earlN_succ h1 h3
    have hn2:=(List.getElem?_eq_some_iff.1 h1).1
    simp only [go_sem,sevalprocAttr,reduceCtorEq]
    refine AY.of (L:=L) (by simp only [go_sem,sevalprocAttr,reduceCtorEq]) (by rw [hL]) (by rw [hL];rfl) (by rw [hL];simp) fun hsc2 lr B2=> ?_
    subst hL
    simp only [zipEnv]
    rcases hE:earlN fl n with ⟨a0,sm⟩
    rw [hE] at hs
    cases sm with
    | false=>
      have hs2:earlN fl (n+1)=(p.sent,true):=by rw [hs];unfold eStep;rw [if_pos (.inl rfl)]
      repeat first|refine kw3 hm hml @hgetl ?_|exact kwz
      refine AWP.regionM 8 [0,6,7] [(0,.bool false)] (.step 0 (.both (.run [6,7]) (.run [7,6]))) (by kernel_rfl) (by decide) (by kernel_rfl) (by kernel_rfl) (by kernel_rfl) ?_
      repeat' first|with_reducible refine canW_n ?_|with_reducible refine canW_m (by decide) ?_|((with_reducible apply canW_p (by decide));focus (intro H;(simp only [go_sem,sevalprocAttr,reduceCtorEq,hm,hml,hgetl,List.map_cons,List.map_nil]);exact rfl))|with_reducible refine memW_b ?_ ?_|with_reducible refine memW_s rfl ?_|with_reducible refine memW_r rfl ?_|with_reducible refine memW_e ?_|simp only [List.take_succ_cons,List.take_zero,List.drop_succ_cons,List.drop_zero]|omega|with_reducible refine And.intro ?_ ?_|refine kw5 hm hml @hgetl @List.map_cons.{0,0} @List.map_nil.{0,0} ?_|exact kwz|fail
      all_goals exact ⟨_,.refl _ _ _,true,rfl,fun _=>⟨by omega,R,by rw [hs2]⟩,fun e=>by cases e⟩
    | true=>
      by_cases hlt:p.sent<a0
      · have hs2:earlN fl (n+1)=(p.sent,true):=by rw [hs];unfold eStep;rw [if_pos (.inr hlt)]
        repeat first|refine kw3 hm hml @hgetl ?_|exact kwz
        refine AWP.regionM 8 [0,6,7] [(0,.bool true)] (.step 0 (.both (.run [6,7]) (.run [7,6]))) (by kernel_rfl) (by decide) (by kernel_rfl) (by kernel_rfl) (by kernel_rfl) ?_
        repeat' first|with_reducible refine canW_n ?_|with_reducible refine canW_m (by decide) ?_|((with_reducible apply canW_p (by decide));focus (intro H;(simp only [go_sem,sevalprocAttr,reduceCtorEq,hm,hml,hgetl,hlt,List.map_cons,List.map_nil]);exact rfl))|with_reducible refine memW_b ?_ ?_|with_reducible refine memW_s rfl ?_|with_reducible refine memW_r rfl ?_|with_reducible refine memW_e ?_|simp only [List.take_succ_cons,List.take_zero,List.drop_succ_cons,List.drop_zero]|omega|with_reducible refine And.intro ?_ ?_|refine kw6 hm hml @hgetl hlt @List.map_cons.{0,0} @List.map_nil.{0,0} ?_|exact kwz|fail
        all_goals exact ⟨_,.refl _ _ _,true,rfl,fun _=>⟨by omega,R,by rw [hs2]⟩,fun e=>by cases e⟩
      · have hs2:earlN fl (n+1)=(a0,true):=by rw [hs];unfold eStep;rw [if_neg (by simp;omega)]
        repeat first|refine kw3 hm hml @hgetl ?_|exact kwz
        refine AWP.regionM 8 [0,6,7] [(0,.bool true)] (.step 0 (.both (.run [6,7]) (.run [7,6]))) (by kernel_rfl) (by decide) (by kernel_rfl) (by kernel_rfl) (by kernel_rfl) ?_
        repeat' first|with_reducible refine canW_n ?_|with_reducible refine canW_m (by decide) ?_|((with_reducible apply canW_p (by decide));focus (intro H;(simp only [go_sem,sevalprocAttr,reduceCtorEq,hm,hml,hgetl,hlt,List.map_cons,List.map_nil]);exact rfl))|with_reducible refine memW_b ?_ ?_|with_reducible refine memW_s rfl ?_|with_reducible refine memW_r rfl ?_|with_reducible refine memW_e ?_|simp only [List.take_succ_cons,List.take_zero,List.drop_succ_cons,List.drop_zero]|omega|with_reducible refine And.intro ?_ ?_|refine kw6 hm hml @hgetl hlt @List.map_cons.{0,0} @List.map_nil.{0,0} ?_|exact kwz|fail
        all_goals exact ⟨_,.refl _ _ _,true,rfl,fun _=>⟨by omega,R,by rw [hs2]⟩,fun e=>by cases e⟩
  · rintro H2 (⟨R,hn,rfl⟩|h)
    · subst hL
      have hul:(underA fn fl).length=(underN fl).length:=by unfold underA;rw [List.length_map]
      rw [hul]
      unfold earl
      repeat first|refine kw0 ?_|exact kwz
      refine AWP.regionM 3 [0,1,2] [] (.both (.step 0 (.both (.run [1,2]) (.run [2,1]))) (.run [1,0,2])) (by kernel_rfl) (by decide) (by kernel_rfl) (by kernel_rfl) (by kernel_rfl) ?_
      repeat' first|with_reducible refine canW_n ?_|with_reducible refine canW_m (by decide) ?_|((with_reducible apply canW_p (by decide));focus (intro H;(simp only [go_sem,sevalprocAttr,reduceCtorEq,List.map_cons,List.map_nil]);exact rfl))|with_reducible refine memW_b ?_ ?_|with_reducible refine memW_s rfl ?_|with_reducible refine memW_r rfl ?_|with_reducible refine memW_e ?_|simp only [List.take_succ_cons,List.take_zero,List.drop_succ_cons,List.drop_zero]|omega|with_reducible refine And.intro ?_ ?_|refine kw2 @List.map_cons.{0,0} @List.map_nil.{0,0} ?_|exact kwz|fail
    · exact h.elim
end Go.Proofs.Ytdgmcckfdgnicaa

set_option linter.unusedVariables false
set_option linter.unusedSimpArgs false
set_option maxRecDepth 20000
set_option maxHeartbeats 4000000
namespace Go.Proofs.Ytdgmcckfdgnicaa
open Go Go.Aw Go.Proofs
def atR (s:E) (now:Int):Int:=if now<s.now∨now>1000000000 then 7 else 0
theorem at_ {H:AHeap} {e:Nat} {s:E} {q:Q} (h:EndI H e s q) (now:Int):ARet Try.prog 37 [ptr e,.int .i64 now] H (.int .i64 (atR s now)) H:=by
 have hc:=h.cell
 simp only [endC] at hc
 unfold atR
 by_cases h1:now<s.now
 ·rw [if_pos (.inl h1)]
  refine AC.enter Try.func37 rfl (by kernel_rfl) 19 rfl [.tmp 4] rfl (by simp) fun hsc B=> ?_
  repeat first|refine kw2 hc h1 ?_|exact kwz
 ·by_cases h2:now>1000000000
  ·rw [if_pos (.inr h2)]
   refine AC.enter Try.func37 rfl (by kernel_rfl) 19 rfl [.tmp 4] rfl (by simp) fun hsc B=> ?_
   repeat first|refine kw3 hc h1 h2 ?_|exact kwz
  ·rw [if_neg (by omega)]
   refine AC.enter Try.func37 rfl (by kernel_rfl) 19 rfl [.tmp 4] rfl (by simp) fun hsc B=> ?_
   repeat first|refine kw3 hc h1 h2 ?_|exact kwz
def mayR (s:E) (p:Pk):Bool:=if p.kind=1 then decide (s.state=1) else (decide (s.state=2)||decide (s.state=3))&&(s.opener||s.heard)
theorem may {H:AHeap} {e:Nat} {s:E} {q:Q} (h:EndI H e s q) (n:Nat) (p:Pk) (hp:H[n]? =some (.cells (pkC p) kP)):ARet Try.prog 61 [ptr e,ptr n] H (.bool (mayR s p)) H:=by
 have hc:=h.cell
 simp only [endC] at hc
 unfold pkC at hp
 unfold mayR
 by_cases h1:p.kind=1
 ·have h1':(p.kind==1)=true:=by simp [h1]
  rw [if_pos h1]
  have h2:(s.state==1)=decide (s.state=1):=by by_cases h:s.state=1<;> simp [h]
  refine AC.enter Try.func61 rfl (by kernel_rfl) 40 rfl [.tmp 4] rfl (by simp) fun hsc B=> ?_
  repeat first|refine kw4 hc h1' hp h2 ?_|exact kwz
 ·have h1':(p.kind==1)=false:=by simp [h1]
  rw [if_neg h1]
  by_cases h2:s.state=2
  ·have h2':(s.state==2)=true:=by simp [h2]
   rw [decide_eq_true h2,Bool.true_or,Bool.true_and]
   cases h3:s.opener with
   |true=>
    refine AC.enter Try.func61 rfl (by kernel_rfl) 40 rfl [.tmp 4] rfl (by simp) fun hsc B=> ?_
    repeat first|refine kw5 hc h1' hp h2' h3 ?_|exact kwz
   |false=>
    refine AC.enter Try.func61 rfl (by kernel_rfl) 40 rfl [.tmp 4] rfl (by simp) fun hsc B=> ?_
    repeat first|refine kw5 hc h1' hp h2' h3 ?_|exact kwz
  ·have h2':(s.state==2)=false:=by simp [h2]
   rw [decide_eq_false h2,Bool.false_or]
   by_cases h4:s.state=3
   ·have h4':(s.state==3)=true:=by simp [h4]
    rw [decide_eq_true h4,Bool.true_and]
    cases h3:s.opener with
    |true=>
     refine AC.enter Try.func61 rfl (by kernel_rfl) 40 rfl [.tmp 4] rfl (by simp) fun hsc B=> ?_
     repeat first|refine kw6 hc h1' hp h2' h3 h4' ?_|exact kwz
    |false=>
     refine AC.enter Try.func61 rfl (by kernel_rfl) 40 rfl [.tmp 4] rfl (by simp) fun hsc B=> ?_
     repeat first|refine kw6 hc h1' hp h2' h3 h4' ?_|exact kwz
   ·have h4':(s.state==3)=false:=by simp [h4]
    rw [decide_eq_false h4,Bool.false_and]
    refine AC.enter Try.func61 rfl (by kernel_rfl) 40 rfl [.tmp 4] rfl (by simp) fun hsc B=> ?_
    repeat first|refine kw5 hc h1' hp h2' h4' ?_|exact kwz
def waitR (s:E):Int:=min (shlI .i64 s.out (s.outs:Nat)) 60000
theorem wait {H:AHeap} {e:Nat} {s:E} {q:Q} (h:EndI H e s q):ARet Try.prog 56 [ptr e] H (.int .i64 (waitR s)) H:=by
 have hc:=h.cell
 simp only [endC] at hc
 unfold waitR
 refine AC.enter Try.func56 rfl (by kernel_rfl) 15 rfl [.tmp 2] rfl (by simp) fun hsc B=> ?_
 repeat first|refine kw0 ?_|exact kwz
 refine AWP.regionM 10 [4,9] [] (.both (.run [4,9]) (.run [9,4])) (by kernel_rfl) (by decide) (by kernel_rfl) (by kernel_rfl) (by kernel_rfl) ?_
 repeat' first|with_reducible refine canW_n ?_|with_reducible refine canW_m (by decide) ?_|((with_reducible apply canW_p (by decide));focus (intro H;(simp only [go_sem,sevalprocAttr,reduceCtorEq,hc,minMaxW,List.map_cons,List.map_nil]);exact rfl))|with_reducible refine memW_b ?_ ?_|with_reducible refine memW_s rfl ?_|with_reducible refine memW_r rfl ?_|with_reducible refine memW_e ?_|simp only [List.take_succ_cons,List.take_zero,List.drop_succ_cons,List.drop_zero]|omega|with_reducible refine And.intro ?_ ?_|with_reducible refine kc ?_|((with_reducible first|refine kr ?_ ?_|refine kt ?_ ?_);exact rfl)|((with_reducible refine kf ?_ ?_);exact rfl)|simp only [go_sem,sevalprocAttr,reduceCtorEq,hc,minMaxW,List.map_cons,List.map_nil]|simp (disch:=omega) only [wz]|with_reducible_and_instances exact finR|((with_reducible refine finR' ?_ ?_)<;> rfl)|((with_reducible refine finD hsc (NRel.of_plain ?_));exact rfl)
def fitsR (s:E) (p:Pk):Bool:=decide (flyN s.flight=0)||decide (flyB s.flight+szP p≤min s.window s.limit)
theorem fits {H:AHeap} {e:Nat} {s:E} {q:Q} (h:EndI H e s q) (n:Nat) (p:Pk) (hp:H[n]? =some (.cells (pkC p) kP)) (hl:s.flight.length<1099511627776) (hb:∀p∈s.flight,p.body.length≤100000) (hpb:p.body.length≤100000):ARet Try.prog 60 [ptr e,ptr n] H (.bool (fitsR s p)) H:=by
 have hc:=h.cell
 simp only [endC] at hc
 have hfly:=flying e q.fv q.fn q.fj s.flight H h.u h.frow h.fpk hl hb
 have hsz:0≤szP p∧szP p≤100001:=by unfold szP;omega
 have hB:=szsU_le hb (underN s.flight).length
 have hn:(underN s.flight).length≤s.flight.length:=flyN_le s.flight
 have hBB:0≤flyB s.flight∧flyB s.flight<1099511627776*100002:=by unfold flyB;omega
 unfold fitsR
 by_cases h0:flyN s.flight=0
 ·have h0':((flyN s.flight:Int)==0)=true:=by simp [h0]
  rw [decide_eq_true h0,Bool.true_or]
  refine AC.enter Try.func60 rfl (by kernel_rfl) 34 rfl [.tmp 4] rfl (by simp) fun hsc B=> ?_
  repeat first|with_reducible refine hfly.use ?_|refine kw0 ?_|exact kwz
  refine AWP.regionM 18 [5,6,11,16,17] [] (.both (.step 5 (.both (.step 6 (.both (.run [11,16,17]) (.run [16,11,17]))) (.both (.step 11 (.both (.run [6,16,17]) (.step 16 (.both (.run [6,17]) (.run [17,6]))))) (.step 16 (.both (.run [6,11,17]) (.step 11 (.both (.run [6,17]) (.run [17,6])))))))) (.both (.step 11 (.both (.step 5 (.both (.run [6,16,17]) (.step 16 (.both (.run [6,17]) (.run [17,6]))))) (.step 16 (.both (.step 5 (.both (.run [6,17]) (.run [17,6]))) (.run [17,5,6]))))) (.step 16 (.both (.step 5 (.both (.run [6,11,17]) (.step 11 (.both (.run [6,17]) (.run [17,6]))))) (.step 11 (.both (.step 5 (.both (.run [6,17]) (.run [17,6]))) (.run [17,5,6]))))))) (by kernel_rfl) (by decide) (by kernel_rfl) (by kernel_rfl) (by kernel_rfl) ?_
  repeat' first|with_reducible refine canW_n ?_|with_reducible refine canW_m (by decide) ?_|((with_reducible apply canW_p (by decide));focus (intro H;(simp only [go_sem,sevalprocAttr,reduceCtorEq,hc,minMaxW,h0',List.map_cons,List.map_nil]);exact rfl))|with_reducible refine memW_b ?_ ?_|with_reducible refine memW_s rfl ?_|with_reducible refine memW_r rfl ?_|with_reducible refine memW_e ?_|simp only [List.take_succ_cons,List.take_zero,List.drop_succ_cons,List.drop_zero]|omega|with_reducible refine And.intro ?_ ?_|with_reducible refine kc ?_|((with_reducible first|refine kr ?_ ?_|refine kt ?_ ?_);exact rfl)|((with_reducible refine kf ?_ ?_);exact rfl)|with_reducible refine (size n p _ hp).use ?_|simp only [go_sem,sevalprocAttr,reduceCtorEq,hc,minMaxW,h0',List.map_cons,List.map_nil]|simp (disch:=omega) only [wz]|with_reducible_and_instances exact finR|((with_reducible refine finR' ?_ ?_)<;> rfl)|((with_reducible refine finD hsc (NRel.of_plain ?_));exact rfl)
 ·have h0':((flyN s.flight:Int)==0)=false:=by simp [h0]
  rw [decide_eq_false h0,Bool.false_or]
  refine AC.enter Try.func60 rfl (by kernel_rfl) 34 rfl [.tmp 4] rfl (by simp) fun hsc B=> ?_
  repeat first|with_reducible refine hfly.use ?_|refine kw0 ?_|exact kwz
  refine AWP.regionM 18 [5,6,11,16,17] [] (.both (.step 5 (.both (.step 6 (.both (.run [11,16,17]) (.run [16,11,17]))) (.both (.step 11 (.both (.run [6,16,17]) (.step 16 (.both (.run [6,17]) (.run [17,6]))))) (.step 16 (.both (.run [6,11,17]) (.step 11 (.both (.run [6,17]) (.run [17,6])))))))) (.both (.step 11 (.both (.step 5 (.both (.run [6,16,17]) (.step 16 (.both (.run [6,17]) (.run [17,6]))))) (.step 16 (.both (.step 5 (.both (.run [6,17]) (.run [17,6]))) (.run [17,5,6]))))) (.step 16 (.both (.step 5 (.both (.run [6,11,17]) (.step 11 (.both (.run [6,17]) (.run [17,6]))))) (.step 11 (.both (.step 5 (.both (.run [6,17]) (.run [17,6]))) (.run [17,5,6]))))))) (by kernel_rfl) (by decide) (by kernel_rfl) (by kernel_rfl) (by kernel_rfl) ?_
  repeat' first|with_reducible refine canW_n ?_|with_reducible refine canW_m (by decide) ?_|((with_reducible apply canW_p (by decide));focus (intro H;(simp only [go_sem,sevalprocAttr,reduceCtorEq,hc,minMaxW,h0',List.map_cons,List.map_nil]);exact rfl))|with_reducible refine memW_b ?_ ?_|with_reducible refine memW_s rfl ?_|with_reducible refine memW_r rfl ?_|with_reducible refine memW_e ?_|simp only [List.take_succ_cons,List.take_zero,List.drop_succ_cons,List.drop_zero]|omega|with_reducible refine And.intro ?_ ?_|with_reducible refine kc ?_|((with_reducible first|refine kr ?_ ?_|refine kt ?_ ?_);exact rfl)|((with_reducible refine kf ?_ ?_);exact rfl)|with_reducible refine (size n p _ hp).use ?_|simp only [go_sem,sevalprocAttr,reduceCtorEq,hc,minMaxW,h0',List.map_cons,List.map_nil]|simp (disch:=omega) only [wz]|with_reducible_and_instances exact finR|((with_reducible refine finR' ?_ ?_)<;> rfl)|((with_reducible refine finD hsc (NRel.of_plain ?_));exact rfl)
def sumL (l:List Pk):Int:=(l.map fun p=>(p.body.length:Int)).sum
def queuedR (s:E):Int:=sumL s.waiting
theorem queued {H:AHeap} {e:Nat} {s:E} {q:Q} (h:EndI H e s q) (hl:s.waiting.length<1099511627776) (hb:∀p∈s.waiting,p.body.length≤100000):ARet Try.prog 38 [ptr e] H (.int .i64 (queuedR s)) H:=by
 have hc:=h.cell
 simp only [endC] at hc
 have q1:∀H' K,lenW Try.prog 69 q.wv H' K=K (.int .i64 (q.wn.length:Nat)) H':=fun H' K=>h.wrow.lenW
 have hll:=h.wpk.1
 refine AC.enter Try.func38 rfl (by kernel_rfl) 25 rfl [.tmp 2] rfl (by simp) fun hsc B=> ?_
 repeat first|with_reducible refine kc ?_|((with_reducible first|refine kr ?_ ?_|refine kt ?_ ?_);exact rfl)|((with_reducible refine kf ?_ ?_);exact rfl)|simp only [go_sem,sevalprocAttr,reduceCtorEq,hc,q1]|simp (disch:=omega) only [wz]|with_reducible_and_instances exact finR|((with_reducible refine finR' ?_ ?_)<;> rfl)|((with_reducible refine finD hsc (NRel.of_plain ?_));exact rfl)
 have hsum:∀n,n≤s.waiting.length→0≤sumL (s.waiting.take n)∧sumL (s.waiting.take n)≤(n:Int)*100000:=fun n=>by
  induction n with
  |zero=>simp [sumL]
  |succ n ih=>
   intro hn
   have:=hb s.waiting[n] (List.getElem_mem (by omega))
   have:=ih (by omega)
   unfold sumL at this ⊢
   rw [List.take_add_one,List.getElem?_eq_getElem (by omega)]
   simp only [sumL,Option.toList_some,List.map_append,List.map_cons,List.map_nil,List.sum_append,List.sum_cons,List.sum_nil]
   omega
 refine AWP.loopP (fun n:Nat=>⟨[(3,.int .i64 (sumL (s.waiting.take n))),(10,q.wv),(11,.int .i64 (q.wn.length:Nat)),(12,.int .i64 (n:Nat))],[],H⟩) (fun n=>n≤q.wn.length) (fun n=>q.wn.length - n) 0 ?_ (by simp) ?_
 ·exact Weak.env (by simp [envIn,lk_cons,wth_some,sumL])
 intro n hn
 by_cases hlt:n<q.wn.length
 ·have hlt':(n:Int)<(q.wn.length:Int):=by omega
  obtain ⟨ji,off,cap,cs,hv,_,hji,_,_,_,hg⟩:=h.wrow.get (List.getElem?_eq_getElem hlt)
  have hpn:=h.wpk.2 n _ _ (List.getElem?_eq_getElem hlt) (List.getElem?_eq_getElem (by omega))
  unfold pkC at hpn
  have hs:=hsum n (by omega)
  have hb1:=hb s.waiting[n] (List.getElem_mem (by omega))
  have he:sumL (s.waiting.take (n+1))=sumL (s.waiting.take n)+(s.waiting[n].body.length:Int):=by
   rw [List.take_add_one,List.getElem?_eq_getElem (by omega)]
   simp only [sumL,Option.toList_some,List.map_append,List.map_cons,List.map_nil,List.sum_append,List.sum_cons,List.sum_nil]
   omega
  rw [hv]
  repeat first|refine kw4 hlt' hji hg hpn ?_|exact kwz
  exact ⟨n+1,Weak.env (by simp [envIn,lk_cons,wth_some,he,hv]),by omega,by omega⟩
 ·have:n=q.wn.length:=by omega
  subst this
  have hlt':¬(q.wn.length:Int)<(q.wn.length:Int):=by omega
  have:queuedR s=sumL (s.waiting.take q.wn.length):=by unfold queuedR;rw [hll,List.take_length]
  rw [this]
  repeat first|refine kw1 hlt' ?_|exact kwz
end Go.Proofs.Ytdgmcckfdgnicaa
