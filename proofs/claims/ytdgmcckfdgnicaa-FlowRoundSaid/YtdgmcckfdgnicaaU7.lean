/-
 Packets:Valid,right;numbers in bytes;Encode.
-/
import Derived.Test.YtdgmcckfdgnicaaU5M
set_option linter.unusedVariables false
set_option linter.unusedSimpArgs false
set_option maxRecDepth 20000
set_option maxHeartbeats 4000000
namespace Go.Proofs.Ytdgmcckfdgnicaa
open Go Go.Aw Go.Proofs
def sgC (k cn sq ak wd:Int) (m b:List UInt8) (tm lt:Int):List Value:= [.int .i64 k,.int .i64 cn,.int .i64 sq,.int .i64 ak,.int .i64 wd,.string (bs m),.string (bs b),.int .i64 tm,.int .i64 lt]
def okP (k cn sq ak wd:Int) (m b:List UInt8) (tm lt:Int):Prop:=1≤k∧k≤5∧(0≤cn∧cn<65536)∧(0≤sq∧sq<65536)∧(0≤ak∧ak<65536)∧0≤wd∧wd≤1000000∧m.length≤4∧b.length≤1400∧(k=2↔0<b.length)∧(0≤tm∧tm<4294967296)∧(0≤lt∧lt<4294967296)
theorem emptyB {b:List UInt8}:(b==[])=decide (b.length=0):=by cases b<;> simp
theorem within_t {n l m:Int} {H:AHeap} (h:l≤n∧n≤m):ARet Try.prog 21 [.int .i64 n,.int .i64 l,.int .i64 m] H (.bool true) H:=by have:=within n l m H;rwa [decide_eq_true h] at this
theorem within_f {n l m:Int} {H:AHeap} (h:¬(l≤n∧n≤m)):ARet Try.prog 21 [.int .i64 n,.int .i64 l,.int .i64 m] H (.bool false) H:=by have:=within n l m H;rwa [decide_eq_false h] at this
theorem round_t {n:Int} {H:AHeap} (h:0≤n∧n<65536):ARet Try.prog 47 [.int .i64 n] H (.bool true) H:=by have:=round n H;rwa [decide_eq_true h] at this
theorem word (n:Int) (H:AHeap):ARet Try.prog 63 [.int .i64 n] H (.bool (decide (0≤n∧n<4294967296))) H:=by
 by_cases h1:n≥0
 ·by_cases h2:n<4294967296
  ·rw [decide_eq_true (by omega)]
   refine AC.enter Try.func63 rfl (by kernel_rfl) 9 rfl [.tmp 2] rfl (by simp) fun hsc B=> ?_
   repeat first|with_reducible refine kc ?_|((with_reducible first|refine kr ?_ ?_|refine kt ?_ ?_);exact rfl)|((with_reducible refine kf ?_ ?_);exact rfl)|simp only [go_sem,sevalprocAttr,reduceCtorEq,h1,h2]|simp (disch:=omega) only [wz]|with_reducible_and_instances exact finR|((with_reducible refine finR' ?_ ?_)<;> rfl)|((with_reducible refine finD hsc (NRel.of_plain ?_));exact rfl)
  ·rw [decide_eq_false (by omega)]
   refine AC.enter Try.func63 rfl (by kernel_rfl) 9 rfl [.tmp 2] rfl (by simp) fun hsc B=> ?_
   repeat first|with_reducible refine kc ?_|((with_reducible first|refine kr ?_ ?_|refine kt ?_ ?_);exact rfl)|((with_reducible refine kf ?_ ?_);exact rfl)|simp only [go_sem,sevalprocAttr,reduceCtorEq,h1,h2]|simp (disch:=omega) only [wz]|with_reducible_and_instances exact finR|((with_reducible refine finR' ?_ ?_)<;> rfl)|((with_reducible refine finD hsc (NRel.of_plain ?_));exact rfl)
 ·rw [decide_eq_false (by omega)]
  refine AC.enter Try.func63 rfl (by kernel_rfl) 9 rfl [.tmp 2] rfl (by simp) fun hsc B=> ?_
  repeat first|with_reducible refine kc ?_|((with_reducible first|refine kr ?_ ?_|refine kt ?_ ?_);exact rfl)|((with_reducible refine kf ?_ ?_);exact rfl)|simp only [go_sem,sevalprocAttr,reduceCtorEq,h1]|simp (disch:=omega) only [wz]|with_reducible_and_instances exact finR|((with_reducible refine finR' ?_ ?_)<;> rfl)|((with_reducible refine finD hsc (NRel.of_plain ?_));exact rfl)
theorem Valid (k cn sq ak wd:Int) (m b:List UInt8) (tm lt:Int) (H:AHeap) [d:Decidable (okP k cn sq ak wd m b tm lt)]:ARet Try.prog 45 [.agg ⟨sgC k cn sq ak wd m b tm lt⟩] H (.bool (decide (okP k cn sq ak wd m b tm lt))) H:=by
 have hF:¬okP k cn sq ak wd m b tm lt→decide (okP k cn sq ak wd m b tm lt)=false:=fun h=>decide_eq_false h
 have hT:okP k cn sq ak wd m b tm lt→decide (okP k cn sq ak wd m b tm lt)=true:=fun h=>decide_eq_true h
 have hb:=emptyB (b:=b)
 unfold sgC
 obtain ⟨f,hf⟩:∃f:Bool,f=decide ((k=2→1≤b.length∧b.length≤1400)∧(k≠2→b.length=0)):=⟨_,rfl⟩
 refine AC.enter Try.func45 rfl (by kernel_rfl) 75 rfl [.tmp 2] rfl (by simp) fun hsc B=> ?_
 repeat first|with_reducible refine AWP.seqJ (x:= .seq (.region 2 _ _) _) ⟨[(1,.pointer (some ⟨H.length,0,none⟩)),(3,.bool f)],[],H++ [.cells [.int .i64 k,.int .i64 cn,.int .i64 sq,.int .i64 ak,.int .i64 wd,.string (bs m),.string (bs b),.int .i64 tm,.int .i64 lt] ⟨44,0,true,0,none⟩]⟩ ?_ ?_|with_reducible refine kc ?_|((with_reducible first|refine kr ?_ ?_|refine kt ?_ ?_);exact rfl)|((with_reducible refine kf ?_ ?_);exact rfl)|simp only [go_sem,sevalprocAttr,reduceCtorEq,hb]|simp (disch:=omega) only [wz]|with_reducible_and_instances exact finR|((with_reducible refine finR' ?_ ?_)<;> rfl)|((with_reducible refine finD hsc (NRel.of_plain ?_));exact rfl)
 ·by_cases hk:k=2
  ·have hk':(k==2)=true:=by simp [hk]
   by_cases g1:(b.length:Int)≥1
   ·by_cases g2:(b.length:Int)≤1400
    ·have hv:f=true:=by rw [hf];exact decide_eq_true ⟨fun _=>by omega,fun h=>absurd hk h⟩
     subst hv
     repeat first|with_reducible refine kc ?_|((with_reducible first|refine kr ?_ ?_|refine kt ?_ ?_);exact rfl)|((with_reducible refine kf ?_ ?_);exact rfl)|simp only [go_sem,sevalprocAttr,reduceCtorEq,hk',g1,g2]|simp (disch:=omega) only [wz]|with_reducible_and_instances exact finR|((with_reducible refine finR' ?_ ?_)<;> rfl)|((with_reducible refine finD hsc (NRel.of_plain ?_));exact rfl)
     exact Weak.env (by simp [envIn,lk_cons,wth_some])
    ·have hv:f=false:=by rw [hf];exact decide_eq_false (fun h=>by have:=h.1 hk;omega)
     subst hv
     repeat first|with_reducible refine kc ?_|((with_reducible first|refine kr ?_ ?_|refine kt ?_ ?_);exact rfl)|((with_reducible refine kf ?_ ?_);exact rfl)|simp only [go_sem,sevalprocAttr,reduceCtorEq,hk',g1,g2]|simp (disch:=omega) only [wz]|with_reducible_and_instances exact finR|((with_reducible refine finR' ?_ ?_)<;> rfl)|((with_reducible refine finD hsc (NRel.of_plain ?_));exact rfl)
     exact Weak.env (by simp [envIn,lk_cons,wth_some])
   ·have hv:f=false:=by rw [hf];exact decide_eq_false (fun h=>by have:=h.1 hk;omega)
    subst hv
    repeat first|with_reducible refine kc ?_|((with_reducible first|refine kr ?_ ?_|refine kt ?_ ?_);exact rfl)|((with_reducible refine kf ?_ ?_);exact rfl)|simp only [go_sem,sevalprocAttr,reduceCtorEq,hk',g1]|simp (disch:=omega) only [wz]|with_reducible_and_instances exact finR|((with_reducible refine finR' ?_ ?_)<;> rfl)|((with_reducible refine finD hsc (NRel.of_plain ?_));exact rfl)
    exact Weak.env (by simp [envIn,lk_cons,wth_some])
  ·have hk':(k==2)=false:=by simp [hk]
   have hv:f=decide (b.length=0):=by rw [hf];by_cases g:b.length=0<;> simp [hk,g]
   subst hv
   repeat first|with_reducible refine kc ?_|((with_reducible first|refine kr ?_ ?_|refine kt ?_ ?_);exact rfl)|((with_reducible refine kf ?_ ?_);exact rfl)|simp only [go_sem,sevalprocAttr,reduceCtorEq,hk']|simp (disch:=omega) only [wz]|with_reducible_and_instances exact finR|((with_reducible refine finR' ?_ ?_)<;> rfl)|((with_reducible refine finD hsc (NRel.of_plain ?_));exact rfl)
   exact Weak.env (by simp [envIn,lk_cons,wth_some])
 have hf1:f=true→(k=2→1≤b.length∧b.length≤1400)∧(k≠2→b.length=0):=fun h=>by rw [hf] at h;exact of_decide_eq_true h
 have hf2:f=false→¬((k=2→1≤b.length∧b.length≤1400)∧(k≠2→b.length=0)):=fun h=>by rw [hf] at h;exact of_decide_eq_false h
 clear hf
 repeat first|with_reducible refine kc ?_|((with_reducible first|refine kr ?_ ?_|refine kt ?_ ?_);exact rfl)|((with_reducible refine kf ?_ ?_);exact rfl)|with_reducible (first|refine (round _ _).use ?_|refine (word _ _).use ?_)|simp only [go_sem,sevalprocAttr,reduceCtorEq]|simp (disch:=omega) only [wz]|with_reducible_and_instances exact finR|((with_reducible refine finR' ?_ ?_)<;> rfl)|((with_reducible refine finD hsc (NRel.of_plain ?_));exact rfl)
 rcases Decidable.em (k≥1) with h0|h0
 rotate_left
 ·rw [hF (by unfold okP;omega)]
  repeat first|with_reducible refine kc ?_|((with_reducible first|refine kr ?_ ?_|refine kt ?_ ?_);exact rfl)|((with_reducible refine kf ?_ ?_);exact rfl)|with_reducible (first|refine (round _ _).use ?_|refine (word _ _).use ?_)|simp only [go_sem,sevalprocAttr,reduceCtorEq,h0]|simp (disch:=omega) only [wz]|with_reducible_and_instances exact finR|((with_reducible refine finR' ?_ ?_)<;> rfl)|((with_reducible refine finD hsc (NRel.of_plain ?_));exact rfl)
 repeat first|with_reducible refine kc ?_|((with_reducible first|refine kr ?_ ?_|refine kt ?_ ?_);exact rfl)|((with_reducible refine kf ?_ ?_);exact rfl)|with_reducible (first|refine (round _ _).use ?_|refine (word _ _).use ?_)|simp only [go_sem,sevalprocAttr,reduceCtorEq,h0]|simp (disch:=omega) only [wz]|with_reducible_and_instances exact finR|((with_reducible refine finR' ?_ ?_)<;> rfl)|((with_reducible refine finD hsc (NRel.of_plain ?_));exact rfl)
 rcases Decidable.em (k≤5) with h1|h1
 rotate_left
 ·rw [hF (by unfold okP;omega)]
  repeat first|with_reducible refine kc ?_|((with_reducible first|refine kr ?_ ?_|refine kt ?_ ?_);exact rfl)|((with_reducible refine kf ?_ ?_);exact rfl)|with_reducible (first|refine (round _ _).use ?_|refine (word _ _).use ?_)|simp only [go_sem,sevalprocAttr,reduceCtorEq,h1]|simp (disch:=omega) only [wz]|with_reducible_and_instances exact finR|((with_reducible refine finR' ?_ ?_)<;> rfl)|((with_reducible refine finD hsc (NRel.of_plain ?_));exact rfl)
 repeat first|with_reducible refine kc ?_|((with_reducible first|refine kr ?_ ?_|refine kt ?_ ?_);exact rfl)|((with_reducible refine kf ?_ ?_);exact rfl)|with_reducible (first|refine (round _ _).use ?_|refine (word _ _).use ?_)|simp only [go_sem,sevalprocAttr,reduceCtorEq,h1]|simp (disch:=omega) only [wz]|with_reducible_and_instances exact finR|((with_reducible refine finR' ?_ ?_)<;> rfl)|((with_reducible refine finD hsc (NRel.of_plain ?_));exact rfl)
 rcases Decidable.em (0≤cn∧cn<65536) with h2|h2
 rotate_left
 ·rw [hF (by unfold okP;omega)]
  repeat first|with_reducible refine kc ?_|((with_reducible first|refine kr ?_ ?_|refine kt ?_ ?_);exact rfl)|((with_reducible refine kf ?_ ?_);exact rfl)|with_reducible (first|refine (round _ _).use ?_|refine (word _ _).use ?_)|simp only [go_sem,sevalprocAttr,reduceCtorEq,h2]|simp (disch:=omega) only [wz]|with_reducible_and_instances exact finR|((with_reducible refine finR' ?_ ?_)<;> rfl)|((with_reducible refine finD hsc (NRel.of_plain ?_));exact rfl)
 repeat first|with_reducible refine kc ?_|((with_reducible first|refine kr ?_ ?_|refine kt ?_ ?_);exact rfl)|((with_reducible refine kf ?_ ?_);exact rfl)|with_reducible (first|refine (round _ _).use ?_|refine (word _ _).use ?_)|simp only [go_sem,sevalprocAttr,reduceCtorEq,h2]|simp (disch:=omega) only [wz]|with_reducible_and_instances exact finR|((with_reducible refine finR' ?_ ?_)<;> rfl)|((with_reducible refine finD hsc (NRel.of_plain ?_));exact rfl)
 rcases Decidable.em (0≤sq∧sq<65536) with h3|h3
 rotate_left
 ·rw [hF (by unfold okP;omega)]
  repeat first|with_reducible refine kc ?_|((with_reducible first|refine kr ?_ ?_|refine kt ?_ ?_);exact rfl)|((with_reducible refine kf ?_ ?_);exact rfl)|with_reducible (first|refine (round _ _).use ?_|refine (word _ _).use ?_)|simp only [go_sem,sevalprocAttr,reduceCtorEq,h3]|simp (disch:=omega) only [wz]|with_reducible_and_instances exact finR|((with_reducible refine finR' ?_ ?_)<;> rfl)|((with_reducible refine finD hsc (NRel.of_plain ?_));exact rfl)
 repeat first|with_reducible refine kc ?_|((with_reducible first|refine kr ?_ ?_|refine kt ?_ ?_);exact rfl)|((with_reducible refine kf ?_ ?_);exact rfl)|with_reducible (first|refine (round _ _).use ?_|refine (word _ _).use ?_)|simp only [go_sem,sevalprocAttr,reduceCtorEq,h3]|simp (disch:=omega) only [wz]|with_reducible_and_instances exact finR|((with_reducible refine finR' ?_ ?_)<;> rfl)|((with_reducible refine finD hsc (NRel.of_plain ?_));exact rfl)
 rcases Decidable.em (0≤ak∧ak<65536) with h4|h4
 rotate_left
 ·rw [hF (by unfold okP;omega)]
  repeat first|with_reducible refine kc ?_|((with_reducible first|refine kr ?_ ?_|refine kt ?_ ?_);exact rfl)|((with_reducible refine kf ?_ ?_);exact rfl)|with_reducible (first|refine (round _ _).use ?_|refine (word _ _).use ?_)|simp only [go_sem,sevalprocAttr,reduceCtorEq,h4]|simp (disch:=omega) only [wz]|with_reducible_and_instances exact finR|((with_reducible refine finR' ?_ ?_)<;> rfl)|((with_reducible refine finD hsc (NRel.of_plain ?_));exact rfl)
 repeat first|with_reducible refine kc ?_|((with_reducible first|refine kr ?_ ?_|refine kt ?_ ?_);exact rfl)|((with_reducible refine kf ?_ ?_);exact rfl)|with_reducible (first|refine (round _ _).use ?_|refine (word _ _).use ?_)|simp only [go_sem,sevalprocAttr,reduceCtorEq,h4]|simp (disch:=omega) only [wz]|with_reducible_and_instances exact finR|((with_reducible refine finR' ?_ ?_)<;> rfl)|((with_reducible refine finD hsc (NRel.of_plain ?_));exact rfl)
 rcases Decidable.em (wd≥0) with h5|h5
 rotate_left
 ·rw [hF (by unfold okP;omega)]
  repeat first|with_reducible refine kc ?_|((with_reducible first|refine kr ?_ ?_|refine kt ?_ ?_);exact rfl)|((with_reducible refine kf ?_ ?_);exact rfl)|with_reducible (first|refine (round _ _).use ?_|refine (word _ _).use ?_)|simp only [go_sem,sevalprocAttr,reduceCtorEq,h5]|simp (disch:=omega) only [wz]|with_reducible_and_instances exact finR|((with_reducible refine finR' ?_ ?_)<;> rfl)|((with_reducible refine finD hsc (NRel.of_plain ?_));exact rfl)
 repeat first|with_reducible refine kc ?_|((with_reducible first|refine kr ?_ ?_|refine kt ?_ ?_);exact rfl)|((with_reducible refine kf ?_ ?_);exact rfl)|with_reducible (first|refine (round _ _).use ?_|refine (word _ _).use ?_)|simp only [go_sem,sevalprocAttr,reduceCtorEq,h5]|simp (disch:=omega) only [wz]|with_reducible_and_instances exact finR|((with_reducible refine finR' ?_ ?_)<;> rfl)|((with_reducible refine finD hsc (NRel.of_plain ?_));exact rfl)
 rcases Decidable.em (wd≤1000000) with h6|h6
 rotate_left
 ·rw [hF (by unfold okP;omega)]
  repeat first|with_reducible refine kc ?_|((with_reducible first|refine kr ?_ ?_|refine kt ?_ ?_);exact rfl)|((with_reducible refine kf ?_ ?_);exact rfl)|with_reducible (first|refine (round _ _).use ?_|refine (word _ _).use ?_)|simp only [go_sem,sevalprocAttr,reduceCtorEq,h6]|simp (disch:=omega) only [wz]|with_reducible_and_instances exact finR|((with_reducible refine finR' ?_ ?_)<;> rfl)|((with_reducible refine finD hsc (NRel.of_plain ?_));exact rfl)
 repeat first|with_reducible refine kc ?_|((with_reducible first|refine kr ?_ ?_|refine kt ?_ ?_);exact rfl)|((with_reducible refine kf ?_ ?_);exact rfl)|with_reducible (first|refine (round _ _).use ?_|refine (word _ _).use ?_)|simp only [go_sem,sevalprocAttr,reduceCtorEq,h6]|simp (disch:=omega) only [wz]|with_reducible_and_instances exact finR|((with_reducible refine finR' ?_ ?_)<;> rfl)|((with_reducible refine finD hsc (NRel.of_plain ?_));exact rfl)
 rcases Decidable.em (0≤tm∧tm<4294967296) with h7|h7
 rotate_left
 ·rw [hF (by unfold okP;omega)]
  repeat first|with_reducible refine kc ?_|((with_reducible first|refine kr ?_ ?_|refine kt ?_ ?_);exact rfl)|((with_reducible refine kf ?_ ?_);exact rfl)|with_reducible (first|refine (round _ _).use ?_|refine (word _ _).use ?_)|simp only [go_sem,sevalprocAttr,reduceCtorEq,h7]|simp (disch:=omega) only [wz]|with_reducible_and_instances exact finR|((with_reducible refine finR' ?_ ?_)<;> rfl)|((with_reducible refine finD hsc (NRel.of_plain ?_));exact rfl)
 repeat first|with_reducible refine kc ?_|((with_reducible first|refine kr ?_ ?_|refine kt ?_ ?_);exact rfl)|((with_reducible refine kf ?_ ?_);exact rfl)|with_reducible (first|refine (round _ _).use ?_|refine (word _ _).use ?_)|simp only [go_sem,sevalprocAttr,reduceCtorEq,h7]|simp (disch:=omega) only [wz]|with_reducible_and_instances exact finR|((with_reducible refine finR' ?_ ?_)<;> rfl)|((with_reducible refine finD hsc (NRel.of_plain ?_));exact rfl)
 rcases Decidable.em (0≤lt∧lt<4294967296) with h8|h8
 rotate_left
 ·rw [hF (by unfold okP;omega)]
  repeat first|with_reducible refine kc ?_|((with_reducible first|refine kr ?_ ?_|refine kt ?_ ?_);exact rfl)|((with_reducible refine kf ?_ ?_);exact rfl)|with_reducible (first|refine (round _ _).use ?_|refine (word _ _).use ?_)|simp only [go_sem,sevalprocAttr,reduceCtorEq,h8]|simp (disch:=omega) only [wz]|with_reducible_and_instances exact finR|((with_reducible refine finR' ?_ ?_)<;> rfl)|((with_reducible refine finD hsc (NRel.of_plain ?_));exact rfl)
 repeat first|with_reducible refine kc ?_|((with_reducible first|refine kr ?_ ?_|refine kt ?_ ?_);exact rfl)|((with_reducible refine kf ?_ ?_);exact rfl)|with_reducible (first|refine (round _ _).use ?_|refine (word _ _).use ?_)|simp only [go_sem,sevalprocAttr,reduceCtorEq,h8]|simp (disch:=omega) only [wz]|with_reducible_and_instances exact finR|((with_reducible refine finR' ?_ ?_)<;> rfl)|((with_reducible refine finD hsc (NRel.of_plain ?_));exact rfl)
 rcases Decidable.em ((m.length:Int)≤4) with h9|h9
 rotate_left
 ·rw [hF (by unfold okP;omega)]
  repeat first|with_reducible refine kc ?_|((with_reducible first|refine kr ?_ ?_|refine kt ?_ ?_);exact rfl)|((with_reducible refine kf ?_ ?_);exact rfl)|simp only [go_sem,sevalprocAttr,reduceCtorEq,h9]|simp (disch:=omega) only [wz]|with_reducible_and_instances exact finR|((with_reducible refine finR' ?_ ?_)<;> rfl)|((with_reducible refine finD hsc (NRel.of_plain ?_));exact rfl)
 cases f with
 |true=>
  have:=hf1 rfl
  rw [hT (by unfold okP;omega)]
  repeat first|with_reducible refine kc ?_|((with_reducible first|refine kr ?_ ?_|refine kt ?_ ?_);exact rfl)|((with_reducible refine kf ?_ ?_);exact rfl)|simp only [go_sem,sevalprocAttr,reduceCtorEq,h9]|simp (disch:=omega) only [wz]|with_reducible_and_instances exact finR|((with_reducible refine finR' ?_ ?_)<;> rfl)|((with_reducible refine finD hsc (NRel.of_plain ?_));exact rfl)
 |false=>
  have:=hf2 rfl
  rw [hF (by unfold okP;omega)]
  repeat first|with_reducible refine kc ?_|((with_reducible first|refine kr ?_ ?_|refine kt ?_ ?_);exact rfl)|((with_reducible refine kf ?_ ?_);exact rfl)|simp only [go_sem,sevalprocAttr,reduceCtorEq,h9]|simp (disch:=omega) only [wz]|with_reducible_and_instances exact finR|((with_reducible refine finR' ?_ ?_)<;> rfl)|((with_reducible refine finD hsc (NRel.of_plain ?_));exact rfl)
theorem right (k cn sq ak wd:Int) (m b:List UInt8) (tm lt:Int) (H:AHeap) [d:Decidable (okP k cn sq ak wd m b tm lt)]:ARet Try.prog 34 [.agg ⟨sgC k cn sq ak wd m b tm lt⟩] H (.bool (decide (okP k cn sq ak wd m b tm lt))) H:=by
 have hF:¬okP k cn sq ak wd m b tm lt→decide (okP k cn sq ak wd m b tm lt)=false:=fun h=>decide_eq_false h
 have hT:okP k cn sq ak wd m b tm lt→decide (okP k cn sq ak wd m b tm lt)=true:=fun h=>decide_eq_true h
 have hb:=emptyB (b:=b)
 unfold sgC
 refine AC.enter Try.func34 rfl (by kernel_rfl) 57 rfl [.tmp 2] rfl (by simp) fun hsc B=> ?_
 repeat first|with_reducible refine kc ?_|((with_reducible first|refine kr ?_ ?_|refine kt ?_ ?_);exact rfl)|((with_reducible refine kf ?_ ?_);exact rfl)|with_reducible refine (within _ _ _ _).use ?_|simp only [go_sem,sevalprocAttr,reduceCtorEq,hb]|simp (disch:=omega) only [wz]|with_reducible_and_instances exact finR|((with_reducible refine finR' ?_ ?_)<;> rfl)|((with_reducible refine finD hsc (NRel.of_plain ?_));exact rfl)
 rcases Decidable.em (1≤k∧k≤5) with h0|h0
 rotate_left
 ·rw [hF (by unfold okP;omega)]
  repeat first|with_reducible refine kc ?_|((with_reducible first|refine kr ?_ ?_|refine kt ?_ ?_);exact rfl)|((with_reducible refine kf ?_ ?_);exact rfl)|with_reducible refine (within _ _ _ _).use ?_|simp only [go_sem,sevalprocAttr,reduceCtorEq,h0]|simp (disch:=omega) only [wz]|with_reducible_and_instances exact finR|((with_reducible refine finR' ?_ ?_)<;> rfl)|((with_reducible refine finD hsc (NRel.of_plain ?_));exact rfl)
 repeat first|with_reducible refine kc ?_|((with_reducible first|refine kr ?_ ?_|refine kt ?_ ?_);exact rfl)|((with_reducible refine kf ?_ ?_);exact rfl)|with_reducible refine (within _ _ _ _).use ?_|simp only [go_sem,sevalprocAttr,reduceCtorEq,h0]|simp (disch:=omega) only [wz]|with_reducible_and_instances exact finR|((with_reducible refine finR' ?_ ?_)<;> rfl)|((with_reducible refine finD hsc (NRel.of_plain ?_));exact rfl)
 rcases Decidable.em (0≤cn∧cn≤65535) with h1|h1
 rotate_left
 ·rw [hF (by unfold okP;omega)]
  repeat first|with_reducible refine kc ?_|((with_reducible first|refine kr ?_ ?_|refine kt ?_ ?_);exact rfl)|((with_reducible refine kf ?_ ?_);exact rfl)|with_reducible refine (within _ _ _ _).use ?_|simp only [go_sem,sevalprocAttr,reduceCtorEq,h1]|simp (disch:=omega) only [wz]|with_reducible_and_instances exact finR|((with_reducible refine finR' ?_ ?_)<;> rfl)|((with_reducible refine finD hsc (NRel.of_plain ?_));exact rfl)
 repeat first|with_reducible refine kc ?_|((with_reducible first|refine kr ?_ ?_|refine kt ?_ ?_);exact rfl)|((with_reducible refine kf ?_ ?_);exact rfl)|with_reducible refine (within _ _ _ _).use ?_|simp only [go_sem,sevalprocAttr,reduceCtorEq,h1]|simp (disch:=omega) only [wz]|with_reducible_and_instances exact finR|((with_reducible refine finR' ?_ ?_)<;> rfl)|((with_reducible refine finD hsc (NRel.of_plain ?_));exact rfl)
 rcases Decidable.em (0≤sq∧sq≤65535) with h2|h2
 rotate_left
 ·rw [hF (by unfold okP;omega)]
  repeat first|with_reducible refine kc ?_|((with_reducible first|refine kr ?_ ?_|refine kt ?_ ?_);exact rfl)|((with_reducible refine kf ?_ ?_);exact rfl)|with_reducible refine (within _ _ _ _).use ?_|simp only [go_sem,sevalprocAttr,reduceCtorEq,h2]|simp (disch:=omega) only [wz]|with_reducible_and_instances exact finR|((with_reducible refine finR' ?_ ?_)<;> rfl)|((with_reducible refine finD hsc (NRel.of_plain ?_));exact rfl)
 repeat first|with_reducible refine kc ?_|((with_reducible first|refine kr ?_ ?_|refine kt ?_ ?_);exact rfl)|((with_reducible refine kf ?_ ?_);exact rfl)|with_reducible refine (within _ _ _ _).use ?_|simp only [go_sem,sevalprocAttr,reduceCtorEq,h2]|simp (disch:=omega) only [wz]|with_reducible_and_instances exact finR|((with_reducible refine finR' ?_ ?_)<;> rfl)|((with_reducible refine finD hsc (NRel.of_plain ?_));exact rfl)
 rcases Decidable.em (0≤ak∧ak≤65535) with h3|h3
 rotate_left
 ·rw [hF (by unfold okP;omega)]
  repeat first|with_reducible refine kc ?_|((with_reducible first|refine kr ?_ ?_|refine kt ?_ ?_);exact rfl)|((with_reducible refine kf ?_ ?_);exact rfl)|with_reducible refine (within _ _ _ _).use ?_|simp only [go_sem,sevalprocAttr,reduceCtorEq,h3]|simp (disch:=omega) only [wz]|with_reducible_and_instances exact finR|((with_reducible refine finR' ?_ ?_)<;> rfl)|((with_reducible refine finD hsc (NRel.of_plain ?_));exact rfl)
 repeat first|with_reducible refine kc ?_|((with_reducible first|refine kr ?_ ?_|refine kt ?_ ?_);exact rfl)|((with_reducible refine kf ?_ ?_);exact rfl)|with_reducible refine (within _ _ _ _).use ?_|simp only [go_sem,sevalprocAttr,reduceCtorEq,h3]|simp (disch:=omega) only [wz]|with_reducible_and_instances exact finR|((with_reducible refine finR' ?_ ?_)<;> rfl)|((with_reducible refine finD hsc (NRel.of_plain ?_));exact rfl)
 rcases Decidable.em (0≤wd∧wd≤1000000) with h4|h4
 rotate_left
 ·rw [hF (by unfold okP;omega)]
  repeat first|with_reducible refine kc ?_|((with_reducible first|refine kr ?_ ?_|refine kt ?_ ?_);exact rfl)|((with_reducible refine kf ?_ ?_);exact rfl)|with_reducible refine (within _ _ _ _).use ?_|simp only [go_sem,sevalprocAttr,reduceCtorEq,h4]|simp (disch:=omega) only [wz]|with_reducible_and_instances exact finR|((with_reducible refine finR' ?_ ?_)<;> rfl)|((with_reducible refine finD hsc (NRel.of_plain ?_));exact rfl)
 repeat first|with_reducible refine kc ?_|((with_reducible first|refine kr ?_ ?_|refine kt ?_ ?_);exact rfl)|((with_reducible refine kf ?_ ?_);exact rfl)|with_reducible refine (within _ _ _ _).use ?_|simp only [go_sem,sevalprocAttr,reduceCtorEq,h4]|simp (disch:=omega) only [wz]|with_reducible_and_instances exact finR|((with_reducible refine finR' ?_ ?_)<;> rfl)|((with_reducible refine finD hsc (NRel.of_plain ?_));exact rfl)
 rcases Decidable.em ((m.length:Int)≤4) with h5|h5
 rotate_left
 ·rw [hF (by unfold okP;omega)]
  repeat first|with_reducible refine kc ?_|((with_reducible first|refine kr ?_ ?_|refine kt ?_ ?_);exact rfl)|((with_reducible refine kf ?_ ?_);exact rfl)|with_reducible refine (within _ _ _ _).use ?_|simp only [go_sem,sevalprocAttr,reduceCtorEq,h5]|simp (disch:=omega) only [wz]|with_reducible_and_instances exact finR|((with_reducible refine finR' ?_ ?_)<;> rfl)|((with_reducible refine finD hsc (NRel.of_plain ?_));exact rfl)
 repeat first|with_reducible refine kc ?_|((with_reducible first|refine kr ?_ ?_|refine kt ?_ ?_);exact rfl)|((with_reducible refine kf ?_ ?_);exact rfl)|with_reducible refine (within _ _ _ _).use ?_|simp only [go_sem,sevalprocAttr,reduceCtorEq,h5]|simp (disch:=omega) only [wz]|with_reducible_and_instances exact finR|((with_reducible refine finR' ?_ ?_)<;> rfl)|((with_reducible refine finD hsc (NRel.of_plain ?_));exact rfl)
 obtain ⟨q,hq⟩:∃q:Bool,q=((k==2)== !(decide (b.length=0))):=⟨_,rfl⟩
 have hq1:q=true→(k=2↔0<b.length):=fun h=>by
  rw [hq] at h
  by_cases hk:k=2<;> by_cases g:b.length=0<;> simp [hk,g] at h ⊢ <;> omega
 have hq2:q=false→¬(k=2↔0<b.length):=fun h=>by
  rw [hq] at h
  by_cases hk:k=2<;> by_cases g:b.length=0<;> simp [hk,g] at h ⊢ <;> omega
 rcases Decidable.em ((b.length:Int)≤1400) with h6|h6
 rotate_left
 ·rw [hF (by unfold okP;omega)]
  repeat first|with_reducible refine kc ?_|((with_reducible first|refine kr ?_ ?_|refine kt ?_ ?_);exact rfl)|((with_reducible refine kf ?_ ?_);exact rfl)|with_reducible refine (within _ _ _ _).use ?_|simp only [go_sem,sevalprocAttr,reduceCtorEq,h6]|simp (disch:=omega) only [wz]|with_reducible_and_instances exact finR|((with_reducible refine finR' ?_ ?_)<;> rfl)|((with_reducible refine finD hsc (NRel.of_plain ?_));exact rfl)
 repeat first|with_reducible refine kc ?_|((with_reducible first|refine kr ?_ ?_|refine kt ?_ ?_);exact rfl)|((with_reducible refine kf ?_ ?_);exact rfl)|with_reducible refine (within _ _ _ _).use ?_|simp only [go_sem,sevalprocAttr,reduceCtorEq,h6,hb,hq.symm]|simp (disch:=omega) only [wz]|with_reducible_and_instances exact finR|((with_reducible refine finR' ?_ ?_)<;> rfl)|((with_reducible refine finD hsc (NRel.of_plain ?_));exact rfl)
 cases q with
 |false=>
  have:=hq2 rfl
  rw [hF (by unfold okP;omega)]
  repeat first|with_reducible refine kc ?_|((with_reducible first|refine kr ?_ ?_|refine kt ?_ ?_);exact rfl)|((with_reducible refine kf ?_ ?_);exact rfl)|with_reducible refine (within _ _ _ _).use ?_|simp only [go_sem,sevalprocAttr,reduceCtorEq]|simp (disch:=omega) only [wz]|with_reducible_and_instances exact finR|((with_reducible refine finR' ?_ ?_)<;> rfl)|((with_reducible refine finD hsc (NRel.of_plain ?_));exact rfl)
 | true=>
  have:=hq1 rfl
  repeat first|with_reducible refine kc ?_|((with_reducible first|refine kr ?_ ?_|refine kt ?_ ?_);exact rfl)|((with_reducible refine kf ?_ ?_);exact rfl)|with_reducible refine (within _ _ _ _).use ?_|simp only [go_sem,sevalprocAttr,reduceCtorEq]|simp (disch:=omega) only [wz]|with_reducible_and_instances exact finR|((with_reducible refine finR' ?_ ?_)<;> rfl)|((with_reducible refine finD hsc (NRel.of_plain ?_));exact rfl)
  rcases Decidable.em (0≤tm∧tm≤4294967295) with h7|h7
  rotate_left
  ·rw [hF (by unfold okP;omega)]
   repeat first|with_reducible refine kc ?_|((with_reducible first|refine kr ?_ ?_|refine kt ?_ ?_);exact rfl)|((with_reducible refine kf ?_ ?_);exact rfl)|with_reducible refine (within _ _ _ _).use ?_|simp only [go_sem,sevalprocAttr,reduceCtorEq,h7]|simp (disch:=omega) only [wz]|with_reducible_and_instances exact finR|((with_reducible refine finR' ?_ ?_)<;> rfl)|((with_reducible refine finD hsc (NRel.of_plain ?_));exact rfl)
  repeat first|with_reducible refine kc ?_|((with_reducible first|refine kr ?_ ?_|refine kt ?_ ?_);exact rfl)|((with_reducible refine kf ?_ ?_);exact rfl)|with_reducible refine (within _ _ _ _).use ?_|simp only [go_sem,sevalprocAttr,reduceCtorEq,h7]|simp (disch:=omega) only [wz]|with_reducible_and_instances exact finR|((with_reducible refine finR' ?_ ?_)<;> rfl)|((with_reducible refine finD hsc (NRel.of_plain ?_));exact rfl)
  rcases Decidable.em (0≤lt∧lt≤4294967295) with h8|h8
  ·rw [hT (by unfold okP;omega)]
   repeat first|with_reducible refine kc ?_|((with_reducible first|refine kr ?_ ?_|refine kt ?_ ?_);exact rfl)|((with_reducible refine kf ?_ ?_);exact rfl)|simp only [go_sem,sevalprocAttr,reduceCtorEq,h8]|simp (disch:=omega) only [wz]|with_reducible_and_instances exact finR|((with_reducible refine finR' ?_ ?_)<;> rfl)|((with_reducible refine finD hsc (NRel.of_plain ?_));exact rfl)
  ·rw [hF (by unfold okP;omega)]
   repeat first|with_reducible refine kc ?_|((with_reducible first|refine kr ?_ ?_|refine kt ?_ ?_);exact rfl)|((with_reducible refine kf ?_ ?_);exact rfl)|simp only [go_sem,sevalprocAttr,reduceCtorEq,h8]|simp (disch:=omega) only [wz]|with_reducible_and_instances exact finR|((with_reducible refine finR' ?_ ?_)<;> rfl)|((with_reducible refine finD hsc (NRel.of_plain ?_));exact rfl)
end Go.Proofs.Ytdgmcckfdgnicaa
