/-
  A part of the proof of a statement of this seat.
-/
import Derived.Test.YtdgmcckfdgnicaaU1M
set_option linter.unusedVariables false
set_option linter.unusedSimpArgs false
set_option maxRecDepth 20000
namespace Go.Proofs.Ytdgmcckfdgnicaa
open Go Go.Aw Go.Proofs
def okM (ack n:Int):Prop:=(0≤n∧n<65536)∧2≤(n - ack)%65536∧(n - ack)%65536≤33
instance (ack n:Int):Decidable (okM ack n):=by unfold okM;infer_instance
def farL (ack:Int) (came:List Int):List Nat:=came.map fun n=>((n - ack)%65536 - 2).toNat
def markedR (ack:Int) (came:List Int):Value:=if (∀ n∈came,okM ack n)∧0≤ack∧ack<65536 then .tuple ⟨[.string (bs (markB (farL ack came))),.int .i64 0]⟩ else .tuple ⟨[.string (bs []),.int .i64 7]⟩
theorem Marked (ack:Int) (came:List Int) (hcl:came.length<1099511627776) (v:Value) (H:AHeap) (hv:Rd H v (intsC came)):ARet Try.prog 30 [.int .i64 ack,v] H (markedR ack came) H:=by
 have q1:∀H' K,lenW Try.prog 34 v H' K=K (.int .i64 (came.length:Nat)) H':=fun H' K=>by rw [hv.lenW Try.underlying34,intsC_length]
 refine AC.enter Try.func30 rfl (by kernel_rfl) 41 rfl [.tmp 4,.tmp 5] rfl (by simp) fun hsc B=> ?_
 repeat first|with_reducible refine kc ?_|((with_reducible first|refine kr ?_ ?_|refine kt ?_ ?_);exact rfl)|((with_reducible refine kf ?_ ?_);exact rfl)|simp only [go_sem,sevalprocAttr,reduceCtorEq,q1]|simp (disch:=omega) only [wz]|with_reducible_and_instances exact finR|((with_reducible refine finR' ?_ ?_)<;> rfl)|((with_reducible refine finD hsc (NRel.of_plain ?_));exact rfl)
 refine AWP.loopP (fun n:Nat=>⟨[(0,.int .i64 ack),(6,gS H.length n),(10,v),(11,.int .i64 (came.length:Nat)),(12,.int .i64 (n:Nat))],[],H++[gO (farC ((farL ack came).take n)) ⟨3,1,true,0,none⟩]⟩) (fun n=>n≤came.length∧∀x∈came.take n,okM ack x) (fun n=>came.length - n) 0 ?_ ⟨Nat.zero_le _,by simp⟩ ?_
 ·have hz:gO (farC ((farL ack came).take 0)) ⟨3,1,true,0,none⟩= .dead:=rfl
  simp only [hz]
  exact Weak.pad1 (by simp [envIn,lk_cons,wth_some,gS_zero])
 rintro n ⟨hn,hok⟩
 by_cases hc:n<came.length
 ·have hc':(n:Int)<(came.length:Int):=by omega
  rcases hv with ⟨rfl,e1⟩|⟨i,o,cap,cs,k,rfl,hi,hg⟩
  ·have:came.length=0:=by rw [← intsC_length came,e1];rfl
   omega
  have hil:=lt_of_get hi
  have g1:cs[o+n]? =some (.int .i64 came[n]):=by
   rw [hg n (by rw [intsC_length];exact hc),intsC_get _ hc]
  by_cases hx:okM ack came[n]
  ·obtain ⟨hr,h2,h3⟩:=hx
   have hrd:∀H,ARet Try.prog 47 [.int .i64 came[n]] H (.bool true) H:=fun H=>by
    have:=round came[n] H
    rwa [decide_eq_true hr] at this
   have h2':¬(came[n] - ack)%65536<2:=by omega
   have h3':¬(came[n] - ack)%65536>33:=by omega
   repeat first|with_reducible (first|refine (ahead _ _ _).use ?_|refine (hrd _).use ?_)|refine kw8 hc' hi hil @hgetl g1 @intsC_length h2' h3' ?_|exact kwz
   have hfl:(farL ack came).length=came.length:=by simp [farL]
   have hln:(farC ((farL ack came).take n)).length=n:=by rw [farC_len,List.length_take];omega
   refine appendTo_gn (by simp only [go_sem,sevalprocAttr,reduceCtorEq]) hln (by omega) (by omega) ?_
   repeat first|refine kw0 ?_|exact kwz
   have hstep:farC ((farL ack came).take n)++ [.int .i64 ((came[n] - ack)%65536 - 2)]=farC ((farL ack came).take (n+1)):=by
    rw [List.take_add_one,List.getElem?_eq_getElem (by omega)]
    simp only [farC,Option.toList,List.map_append,List.map_cons,List.map_nil,intsC_snoc]
    congr 2
    simp only [farL,List.getElem_map]
    congr 1
    omega
   rw [hstep]
   refine ⟨n+1,?_,by omega,fun x hx=> ?_,by omega⟩
   ·refine Weak.pick [2] rfl hsc (by simp) ⟨?_,?_⟩
    ·have hne:farC ((farL ack came).take (n+1))≠[]:=List.ne_nil_of_length_pos (by rw [farC_len,List.length_take];omega)
     rw [gO_ne hne]
     simp [selW_cons,selW_nil,wth_some,onm_cells,nrs_refl (l:=farC ((farL ack came).take (n+1))) (intsC_scalar _)]
    ·simp [envIn,lk_cons,wth_some,nr_int,nr_gs,selN_0,selN_k,selN_lt hil,nr_slice,gS_succ]
   ·rw [List.take_add_one,List.getElem?_eq_getElem hc] at hx
    rcases List.mem_append.1 hx with hx|hx
    ·exact hok x hx
    ·have:x=came[n]:=by simpa using hx
     rw [this];exact ⟨hr,h2,h3⟩
  ·have hR:markedR ack came= .tuple ⟨[.string (bs []),.int .i64 7]⟩:=by
    unfold markedR;rw [if_neg]
    intro h;exact hx (h.1 _ (List.getElem_mem _))
   rw [hR]
   by_cases hr:0≤came[n]∧came[n]<65536
   ·have hrd:∀H,ARet Try.prog 47 [.int .i64 came[n]] H (.bool true) H:=fun H=>by
     have:=round came[n] H
     rwa [decide_eq_true hr] at this
    by_cases h2:(came[n] - ack)%65536<2
    ·repeat first|with_reducible (first|refine (ahead _ _ _).use ?_|refine (hrd _).use ?_)|refine kw7 hc' hi hil @hgetl g1 @intsC_length h2 ?_|exact kwz
    ·have h3:(came[n] - ack)%65536>33:=by
      unfold okM at hx
      omega
     repeat first|with_reducible (first|refine (ahead _ _ _).use ?_|refine (hrd _).use ?_)|refine kw8 hc' hi hil @hgetl g1 @intsC_length h2 h3 ?_|exact kwz
   ·have hrd:∀H,ARet Try.prog 47 [.int .i64 came[n]] H (.bool false) H:=fun H=>by
     have:=round came[n] H
     rwa [decide_eq_false hr] at this
    repeat first|with_reducible (first|refine (ahead _ _ _).use ?_|refine (hrd _).use ?_)|refine kw6 hc' hi hil @hgetl g1 @intsC_length ?_|exact kwz
 ·have:n=came.length:=by omega
  subst this
  have hc':¬(came.length:Int)<(came.length:Int):=by omega
  rw [List.take_length] at hok
  have hfl:(farL ack came).length=came.length:=by simp [farL]
  by_cases hr:0≤ack∧ack<65536
  ·have hrd:∀H,ARet Try.prog 47 [.int .i64 ack] H (.bool true) H:=fun H=>by
    have:=round ack H
    rwa [decide_eq_true hr] at this
   have hR:markedR ack came= .tuple ⟨[.string (bs (markB (farL ack came))),.int .i64 0]⟩:=by
    unfold markedR;rw [if_pos ⟨hok,hr⟩]
   rw [hR]
   have hm:=fun HX h=>marked (farL ack came) (fun i hi=>by
    simp only [farL,List.mem_map] at hi
    obtain ⟨x,hx,rfl⟩:=hi
    have:=hok x hx
    unfold okM at this
    omega) (by omega) (gS H.length came.length) HX h
   have hm:=hm (H++[gO (farC ((farL ack came).take came.length)) ⟨3,1,true,0,none⟩]) (Rd.g (i:=H.length) (k:=⟨3,1,true,0,none⟩) (by rw [List.take_of_length_le (by omega)];simp only [go_sem,sevalprocAttr,reduceCtorEq]) (by rw [farC_len,hfl]))
   repeat first|with_reducible (first|refine (hrd _).use ?_|refine hm.use ?_)|refine kw1 hc' ?_|exact kwz
  ·have hrd:∀H,ARet Try.prog 47 [.int .i64 ack] H (.bool false) H:=fun H=>by
    have:=round ack H
    rwa [decide_eq_false hr] at this
   have hR:markedR ack came= .tuple ⟨[.string (bs []),.int .i64 7]⟩:=by
    unfold markedR;rw [if_neg]
    intro h;exact hr h.2
   rw [hR]
   repeat first|with_reducible refine (hrd _).use ?_|refine kw1 hc' ?_|exact kwz
end Go.Proofs.Ytdgmcckfdgnicaa

set_option linter.unusedVariables false
set_option linter.unusedSimpArgs false
set_option maxRecDepth 20000
namespace Go.Proofs.Ytdgmcckfdgnicaa
open Go Go.Aw Go.Proofs
def onC (a:Int):Prop:=0≤a∧a<65536
instance (a:Int):Decidable (onC a):=by unfold onC;infer_instance
theorem roundD (a:Int) (H:AHeap):ARet Try.prog 47 [.int .i64 a] H (.bool (decide (onC a))) H:=round a H
def beforeR (a b:Int):Value:=if onC a∧onC b then .tuple ⟨[.bool (decide (1≤(b - a)%65536∧(b - a)%65536<32768)),.int .i64 0]⟩ else .tuple ⟨[.bool false,.int .i64 7]⟩
theorem Before (a b:Int) (H:AHeap):ARet Try.prog 29 [.int .i64 a,.int .i64 b] H (beforeR a b) H:=by
 unfold beforeR
 by_cases ha:onC a
 ·by_cases hb:onC b
  ·rw [if_pos ⟨ha,hb⟩]
   refine AC.enter Try.func29 rfl (by kernel_rfl) 17 rfl [.tmp 4,.tmp 5] rfl (by simp) fun hsc B=> ?_
   repeat first|with_reducible (first|refine (roundD _ _).use ?_|refine (before _ _ _).use ?_)|refine kw2 ha hb ?_|exact kwz
  ·rw [if_neg (fun h=>hb h.2)]
   refine AC.enter Try.func29 rfl (by kernel_rfl) 17 rfl [.tmp 4,.tmp 5] rfl (by simp) fun hsc B=> ?_
   repeat first|with_reducible (first|refine (roundD _ _).use ?_|refine (before _ _ _).use ?_)|refine kw2 ha hb ?_|exact kwz
 ·rw [if_neg (fun h=>ha h.1)]
  refine AC.enter Try.func29 rfl (by kernel_rfl) 17 rfl [.tmp 4,.tmp 5] rfl (by simp) fun hsc B=> ?_
  repeat first|with_reducible (first|refine (roundD _ _).use ?_|refine (before _ _ _).use ?_)|refine kw1 ha ?_|exact kwz
theorem awakeM:markedR 10 [12,14]= .tuple ⟨[.string (bs [5]),.int .i64 0]⟩:=by
 have h:farL 10 [12,14]=[0,2]:=by decide
 unfold markedR
 rw [if_pos (by decide),h]
 rfl
theorem awakeB:beforeR 65535 0= .tuple ⟨[.bool true,.int .i64 0]⟩:=by
 unfold beforeR
 rw [if_pos (by decide)]
 rfl
theorem awake (H:AHeap):ARet Try.prog 9 [] H (.bool true) H:=by
 have hB:=fun H=>Before 65535 0 H
 simp only [awakeB] at hB
 have hM:=fun H v h=>Marked 10 [12,14] (by decide) v H h
 simp only [awakeM] at hM
 have hM:=hM (H++ [.cells [.int .i64 12,.int .i64 14] ⟨3,0,true,0,none⟩]) (.slice (some ⟨H.length,0,none⟩) 2 2) (Rd.cells (k:=⟨3,0,true,0,none⟩) (hget0 rfl) rfl)
 refine AC.enter Try.func9 rfl (by kernel_rfl) 27 rfl [.tmp 0] rfl (by simp) fun hsc B=> ?_
 repeat first|with_reducible (first|refine (hB _).use ?_|refine hM.use ?_)|refine kw0 ?_|exact kwz
end Go.Proofs.Ytdgmcckfdgnicaa

set_option linter.unusedVariables false
set_option linter.unusedSimpArgs false
set_option maxRecDepth 20000
set_option maxHeartbeats 4000000
namespace Go.Proofs.Ytdgmcckfdgnicaa
open Go Go.Aw Go.Proofs
def sgC (k cn sq ak wd:Int) (m b:List UInt8) (tm lt:Int):List Value:= [.int .i64 k,.int .i64 cn,.int .i64 sq,.int .i64 ak,.int .i64 wd,.string (bs m),.string (bs b),.int .i64 tm,.int .i64 lt]
def okP (k cn sq ak wd:Int) (m b:List UInt8) (tm lt:Int):Prop:=1≤k∧k≤5∧(0≤cn∧cn<65536)∧(0≤sq∧sq<65536)∧(0≤ak∧ak<65536)∧0≤wd∧wd≤1000000∧m.length≤4∧b.length≤1400∧(k=2↔0<b.length)∧(0≤tm∧tm<4294967296)∧(0≤lt∧lt<4294967296)
theorem emptyB {b:List UInt8}:(b==[])=decide (b.length=0):=by cases b<;> simp
theorem within_t {n l m:Int} {H:AHeap} (h:l≤n∧n≤m):ARet Try.prog 21 [.int .i64 n,.int .i64 l,.int .i64 m] H (.bool true) H:=by have:=within n l m H;rwa [decide_eq_true h] at this
theorem within_f {n l m:Int} {H:AHeap} (h:¬(l≤n∧n≤m)):ARet Try.prog 21 [.int .i64 n,.int .i64 l,.int .i64 m] H (.bool false) H:=by have:=within n l m H;rwa [decide_eq_false h] at this
theorem round_t {n:Int} {H:AHeap} (h:0≤n∧n<65536):ARet Try.prog 47 [.int .i64 n] H (.bool true) H:=by have:=round n H;rwa [decide_eq_true h] at this
theorem word (n:Int) (H:AHeap):ARet Try.prog 63 [.int .i64 n] H (.bool (decide (0≤n∧n<4294967296))) H:=by
 by_cases h1:n≥0
 ·by_cases h2:n<4294967296
  ·rw [decide_eq_true (by omega)]
   refine AC.enter Try.func63 rfl (by kernel_rfl) 9 rfl [.tmp 2] rfl (by simp) fun hsc B=> ?_
   repeat first|refine kw2 h1 h2 ?_|exact kwz
  ·rw [decide_eq_false (by omega)]
   refine AC.enter Try.func63 rfl (by kernel_rfl) 9 rfl [.tmp 2] rfl (by simp) fun hsc B=> ?_
   repeat first|refine kw2 h1 h2 ?_|exact kwz
 ·rw [decide_eq_false (by omega)]
  refine AC.enter Try.func63 rfl (by kernel_rfl) 9 rfl [.tmp 2] rfl (by simp) fun hsc B=> ?_
  repeat first|refine kw1 h1 ?_|exact kwz
theorem Valid (k cn sq ak wd:Int) (m b:List UInt8) (tm lt:Int) (H:AHeap) [d:Decidable (okP k cn sq ak wd m b tm lt)]:ARet Try.prog 45 [.agg ⟨sgC k cn sq ak wd m b tm lt⟩] H (.bool (decide (okP k cn sq ak wd m b tm lt))) H:=by
 have hF:¬okP k cn sq ak wd m b tm lt→decide (okP k cn sq ak wd m b tm lt)=false:=fun h=>decide_eq_false h
 have hT:okP k cn sq ak wd m b tm lt→decide (okP k cn sq ak wd m b tm lt)=true:=fun h=>decide_eq_true h
 have hb:=emptyB (b:=b)
 unfold sgC
 obtain ⟨f,hf⟩:∃f:Bool,f=decide ((k=2→1≤b.length∧b.length≤1400)∧(k≠2→b.length=0)):=⟨_,rfl⟩
 refine AC.enter Try.func45 rfl (by kernel_rfl) 75 rfl [.tmp 2] rfl (by simp) fun hsc B=> ?_
 repeat first|with_reducible refine AWP.seqJ (x:= .seq (.region 2 _ _) _) ⟨[(1,.pointer (some ⟨H.length,0,none⟩)),(3,.bool f)],[],H++ [.cells [.int .i64 k,.int .i64 cn,.int .i64 sq,.int .i64 ak,.int .i64 wd,.string (bs m),.string (bs b),.int .i64 tm,.int .i64 lt] ⟨44,0,true,0,none⟩]⟩ ?_ ?_|refine kw1 hb ?_|exact kwz
 ·by_cases hk:k=2
  ·have hk':(k==2)=true:=by simp [hk]
   by_cases g1:(b.length:Int)≥1
   ·by_cases g2:(b.length:Int)≤1400
    ·have hv:f=true:=by rw [hf];exact decide_eq_true ⟨fun _=>by omega,fun h=>absurd hk h⟩
     subst hv
     repeat first|refine kw3 hk' g1 g2 ?_|exact kwz
     exact Weak.env (by simp [envIn,lk_cons,wth_some])
    ·have hv:f=false:=by rw [hf];exact decide_eq_false (fun h=>by have:=h.1 hk;omega)
     subst hv
     repeat first|refine kw3 hk' g1 g2 ?_|exact kwz
     exact Weak.env (by simp [envIn,lk_cons,wth_some])
   ·have hv:f=false:=by rw [hf];exact decide_eq_false (fun h=>by have:=h.1 hk;omega)
    subst hv
    repeat first|refine kw2 hk' g1 ?_|exact kwz
    exact Weak.env (by simp [envIn,lk_cons,wth_some])
  ·have hk':(k==2)=false:=by simp [hk]
   have hv:f=decide (b.length=0):=by rw [hf];by_cases g:b.length=0<;> simp [hk,g]
   subst hv
   repeat first|refine kw1 hk' ?_|exact kwz
   exact Weak.env (by simp [envIn,lk_cons,wth_some])
 have hf1:f=true→(k=2→1≤b.length∧b.length≤1400)∧(k≠2→b.length=0):=fun h=>by rw [hf] at h;exact of_decide_eq_true h
 have hf2:f=false→¬((k=2→1≤b.length∧b.length≤1400)∧(k≠2→b.length=0)):=fun h=>by rw [hf] at h;exact of_decide_eq_false h
 clear hf
 repeat first|with_reducible (first|refine (round _ _).use ?_|refine (word _ _).use ?_)|refine kw0 ?_|exact kwz
 rcases Decidable.em (k≥1) with h0|h0
 rotate_left
 ·rw [hF (by unfold okP;omega)]
  repeat first|with_reducible (first|refine (round _ _).use ?_|refine (word _ _).use ?_)|refine kw1 h0 ?_|exact kwz
 repeat first|with_reducible (first|refine (round _ _).use ?_|refine (word _ _).use ?_)|refine kw1 h0 ?_|exact kwz
 rcases Decidable.em (k≤5) with h1|h1
 rotate_left
 ·rw [hF (by unfold okP;omega)]
  repeat first|with_reducible (first|refine (round _ _).use ?_|refine (word _ _).use ?_)|refine kw1 h1 ?_|exact kwz
 repeat first|with_reducible (first|refine (round _ _).use ?_|refine (word _ _).use ?_)|refine kw1 h1 ?_|exact kwz
 rcases Decidable.em (0≤cn∧cn<65536) with h2|h2
 rotate_left
 ·rw [hF (by unfold okP;omega)]
  repeat first|with_reducible (first|refine (round _ _).use ?_|refine (word _ _).use ?_)|refine kw1 h2 ?_|exact kwz
 repeat first|with_reducible (first|refine (round _ _).use ?_|refine (word _ _).use ?_)|refine kw1 h2 ?_|exact kwz
 rcases Decidable.em (0≤sq∧sq<65536) with h3|h3
 rotate_left
 ·rw [hF (by unfold okP;omega)]
  repeat first|with_reducible (first|refine (round _ _).use ?_|refine (word _ _).use ?_)|refine kw1 h3 ?_|exact kwz
 repeat first|with_reducible (first|refine (round _ _).use ?_|refine (word _ _).use ?_)|refine kw1 h3 ?_|exact kwz
 rcases Decidable.em (0≤ak∧ak<65536) with h4|h4
 rotate_left
 ·rw [hF (by unfold okP;omega)]
  repeat first|with_reducible (first|refine (round _ _).use ?_|refine (word _ _).use ?_)|refine kw1 h4 ?_|exact kwz
 repeat first|with_reducible (first|refine (round _ _).use ?_|refine (word _ _).use ?_)|refine kw1 h4 ?_|exact kwz
 rcases Decidable.em (wd≥0) with h5|h5
 rotate_left
 ·rw [hF (by unfold okP;omega)]
  repeat first|with_reducible (first|refine (round _ _).use ?_|refine (word _ _).use ?_)|refine kw1 h5 ?_|exact kwz
 repeat first|with_reducible (first|refine (round _ _).use ?_|refine (word _ _).use ?_)|refine kw1 h5 ?_|exact kwz
 rcases Decidable.em (wd≤1000000) with h6|h6
 rotate_left
 ·rw [hF (by unfold okP;omega)]
  repeat first|with_reducible (first|refine (round _ _).use ?_|refine (word _ _).use ?_)|refine kw1 h6 ?_|exact kwz
 repeat first|with_reducible (first|refine (round _ _).use ?_|refine (word _ _).use ?_)|refine kw1 h6 ?_|exact kwz
 rcases Decidable.em (0≤tm∧tm<4294967296) with h7|h7
 rotate_left
 ·rw [hF (by unfold okP;omega)]
  repeat first|with_reducible (first|refine (round _ _).use ?_|refine (word _ _).use ?_)|refine kw1 h7 ?_|exact kwz
 repeat first|with_reducible (first|refine (round _ _).use ?_|refine (word _ _).use ?_)|refine kw1 h7 ?_|exact kwz
 rcases Decidable.em (0≤lt∧lt<4294967296) with h8|h8
 rotate_left
 ·rw [hF (by unfold okP;omega)]
  repeat first|with_reducible (first|refine (round _ _).use ?_|refine (word _ _).use ?_)|refine kw1 h8 ?_|exact kwz
 repeat first|with_reducible (first|refine (round _ _).use ?_|refine (word _ _).use ?_)|refine kw1 h8 ?_|exact kwz
 rcases Decidable.em ((m.length:Int)≤4) with h9|h9
 rotate_left
 ·rw [hF (by unfold okP;omega)]
  repeat first|refine kw1 h9 ?_|exact kwz
 cases f with
 |true=>
  have:=hf1 rfl
  rw [hT (by unfold okP;omega)]
  repeat first|refine kw1 h9 ?_|exact kwz
 |false=>
  have:=hf2 rfl
  rw [hF (by unfold okP;omega)]
  repeat first|refine kw1 h9 ?_|exact kwz
theorem right (k cn sq ak wd:Int) (m b:List UInt8) (tm lt:Int) (H:AHeap) [d:Decidable (okP k cn sq ak wd m b tm lt)]:ARet Try.prog 34 [.agg ⟨sgC k cn sq ak wd m b tm lt⟩] H (.bool (decide (okP k cn sq ak wd m b tm lt))) H:=by
 have hF:¬okP k cn sq ak wd m b tm lt→decide (okP k cn sq ak wd m b tm lt)=false:=fun h=>decide_eq_false h
 have hT:okP k cn sq ak wd m b tm lt→decide (okP k cn sq ak wd m b tm lt)=true:=fun h=>decide_eq_true h
 have hb:=emptyB (b:=b)
 unfold sgC
 refine AC.enter Try.func34 rfl (by kernel_rfl) 57 rfl [.tmp 2] rfl (by simp) fun hsc B=> ?_
 repeat first|with_reducible refine (within _ _ _ _).use ?_|refine kw1 hb ?_|exact kwz
 rcases Decidable.em (1≤k∧k≤5) with h0|h0
 rotate_left
 ·rw [hF (by unfold okP;omega)]
  repeat first|with_reducible refine (within _ _ _ _).use ?_|refine kw1 h0 ?_|exact kwz
 repeat first|with_reducible refine (within _ _ _ _).use ?_|refine kw1 h0 ?_|exact kwz
 rcases Decidable.em (0≤cn∧cn≤65535) with h1|h1
 rotate_left
 ·rw [hF (by unfold okP;omega)]
  repeat first|with_reducible refine (within _ _ _ _).use ?_|refine kw1 h1 ?_|exact kwz
 repeat first|with_reducible refine (within _ _ _ _).use ?_|refine kw1 h1 ?_|exact kwz
 rcases Decidable.em (0≤sq∧sq≤65535) with h2|h2
 rotate_left
 ·rw [hF (by unfold okP;omega)]
  repeat first|with_reducible refine (within _ _ _ _).use ?_|refine kw1 h2 ?_|exact kwz
 repeat first|with_reducible refine (within _ _ _ _).use ?_|refine kw1 h2 ?_|exact kwz
 rcases Decidable.em (0≤ak∧ak≤65535) with h3|h3
 rotate_left
 ·rw [hF (by unfold okP;omega)]
  repeat first|with_reducible refine (within _ _ _ _).use ?_|refine kw1 h3 ?_|exact kwz
 repeat first|with_reducible refine (within _ _ _ _).use ?_|refine kw1 h3 ?_|exact kwz
 rcases Decidable.em (0≤wd∧wd≤1000000) with h4|h4
 rotate_left
 ·rw [hF (by unfold okP;omega)]
  repeat first|with_reducible refine (within _ _ _ _).use ?_|refine kw1 h4 ?_|exact kwz
 repeat first|with_reducible refine (within _ _ _ _).use ?_|refine kw1 h4 ?_|exact kwz
 rcases Decidable.em ((m.length:Int)≤4) with h5|h5
 rotate_left
 ·rw [hF (by unfold okP;omega)]
  repeat first|with_reducible refine (within _ _ _ _).use ?_|refine kw1 h5 ?_|exact kwz
 repeat first|with_reducible refine (within _ _ _ _).use ?_|refine kw1 h5 ?_|exact kwz
 obtain ⟨q,hq⟩:∃q:Bool,q=((k==2)== !(decide (b.length=0))):=⟨_,rfl⟩
 have hq1:q=true→(k=2↔0<b.length):=fun h=>by
  rw [hq] at h
  by_cases hk:k=2<;> by_cases g:b.length=0<;> simp [hk,g] at h ⊢ <;> omega
 have hq2:q=false→¬(k=2↔0<b.length):=fun h=>by
  rw [hq] at h
  by_cases hk:k=2<;> by_cases g:b.length=0<;> simp [hk,g] at h ⊢ <;> omega
 rcases Decidable.em ((b.length:Int)≤1400) with h6|h6
 rotate_left
 ·rw [hF (by unfold okP;omega)]
  repeat first|with_reducible refine (within _ _ _ _).use ?_|refine kw1 h6 ?_|exact kwz
 repeat first|with_reducible refine (within _ _ _ _).use ?_|refine kw3 h6 hb hq.symm ?_|exact kwz
 cases q with
 |false=>
  have:=hq2 rfl
  rw [hF (by unfold okP;omega)]
  repeat first|with_reducible refine (within _ _ _ _).use ?_|refine kw0 ?_|exact kwz
 | true=>
  have:=hq1 rfl
  repeat first|with_reducible refine (within _ _ _ _).use ?_|refine kw0 ?_|exact kwz
  rcases Decidable.em (0≤tm∧tm≤4294967295) with h7|h7
  rotate_left
  ·rw [hF (by unfold okP;omega)]
   repeat first|with_reducible refine (within _ _ _ _).use ?_|refine kw1 h7 ?_|exact kwz
  repeat first|with_reducible refine (within _ _ _ _).use ?_|refine kw1 h7 ?_|exact kwz
  rcases Decidable.em (0≤lt∧lt≤4294967295) with h8|h8
  ·rw [hT (by unfold okP;omega)]
   repeat first|refine kw1 h8 ?_|exact kwz
  ·rw [hF (by unfold okP;omega)]
   repeat first|refine kw1 h8 ?_|exact kwz
end Go.Proofs.Ytdgmcckfdgnicaa
