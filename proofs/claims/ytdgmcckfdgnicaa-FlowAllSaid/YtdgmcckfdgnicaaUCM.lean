/-
  A part of the proof of a statement of this seat.
-/
import Derived.Test.YtdgmcckfdgnicaaUAM
import Derived.Test.YtdgmcckfdgnicaaAwA
import Derived.Test.YtdgmcckfdgnicaaAwC
set_option linter.unusedVariables false
set_option linter.unusedSimpArgs false
set_option maxRecDepth 20000
set_option maxHeartbeats 4000000
namespace Go.Proofs.Ytdgmcckfdgnicaa
open Go Go.Aw Go.Proofs
theorem EndI.ne {H:AHeap} {e:Nat} {s:E} {q:Q} (h:EndI H e s q) {j:Nat} (hj:j∈q.m::(q.wj++(q.fj++(q.wn++q.fn)))):j≠e:=fun he=>by
 have:=h.nodup
 unfold Q.names at this
 rw [List.nodup_cons] at this
 subst he
 exact this.1 hj
theorem EndI.put {H:AHeap} {e:Nat} {s:E} {q:Q} (h:EndI H e s q) (s':E) (t:Told) (hw:s'.waiting=s.waiting) (hf:s'.flight=s.flight) (hk:s'.kept=s.kept):EndI (H.set e (.cells (endC s' {q with told:=t}) kE)) e s' {q with told:=t}:=by
 have hF:Frm [e] H (H.set e (.cells (endC s' {q with told:=t}) kE)):=Frm.set (Frm.refl _ _) (.inl (List.mem_singleton.2 rfl))
 have hn:∀j∈q.m::(q.wj++(q.fj++(q.wn++q.fn))),j∉[e]:=fun j hj hm=>h.ne hj (List.mem_singleton.1 hm)
 exact
 {cell:=List.getElem?_set_self (lt_of_get h.cell)
  wrow:=h.wrow.frm hF fun j hj=>hn j (by simp [hj])
  frow:=h.frow.frm hF fun j hj=>hn j (by simp [hj])
  wpk:=by rw [hw];exact h.wpk.frm hF fun j hj=>hn j (by simp [hj])
  fpk:=by rw [hf];exact h.fpk.frm hF fun j hj=>hn j (by simp [hj])
  map:=by rw [hk];exact hF.get h.map (hn _ (by simp))
  mis:=by rw [hk];exact h.mis
  nodup:=h.nodup}
theorem tell {H:AHeap} {e:Nat} {s:E} {q:Q} (h:EndI H e s q) (now:Int):ARet Try.prog 39 [ptr e,.int .i64 now] H (.int .i64 (atR s now)) (if atR s now=0 then H.set e (.cells (endC {s with now:=now} q) kE) else H):=by
 have hc:=h.cell
 have hl:=lt_of_get hc
 have ha:=at_ h now
 simp only [endC] at hc ⊢
 by_cases h1:atR s now=0
 ·have h1':(atR s now==0)=true:=by simp [h1]
  rw [if_pos h1]
  refine AC.enter Try.func39 rfl (by kernel_rfl) 16 rfl [.tmp 4] rfl (by simp) fun hsc B=> ?_
  repeat first|with_reducible refine ha.use ?_|refine kw2 hc h1' ?_|exact kwz
 ·have h1':(atR s now==0)=false:=by simp [h1]
  rw [if_neg h1]
  refine AC.enter Try.func39 rfl (by kernel_rfl) 16 rfl [.tmp 4] rfl (by simp) fun hsc B=> ?_
  repeat first|with_reducible refine ha.use ?_|refine kw2 hc h1' ?_|exact kwz
abbrev VEnt:=(Int×Sg)×Nat
theorem find_ent:∀{l:List VEnt} {x:VEnt},(l.map (·.2)).Nodup→x∈l→(l.map entV).find? (fun e=>e.2.2==x.2)=some (entV x)
 |[],x,_,h=>by cases h
 | y::l,x,hn,h=>by
  rw [List.map_cons,List.nodup_cons] at hn
  rw [List.map_cons,List.find?_cons]
  rcases List.mem_cons.1 h with rfl|h
  ·simp [entV]
  ·have:y.2≠x.2:=fun he=>hn.1 (he ▸ List.mem_map.2 ⟨x,h,rfl⟩)
   rw [show ((entV y).2.2==x.2)=false from by simp [entV,this]]
   exact find_ent hn.2 h
theorem zip_snd:∀{l:List (Int×Sg)} {st:List Nat},st.length=l.length→(l.zip st).map (·.2)=st∧(l.zip st).map (·.1)=l
 |[],[],_=>⟨rfl,rfl⟩
 |[],_::_,h=>by simp at h
 |_::_,[],h=>by simp at h
 |x::l,y::st,h=>by
  have:=zip_snd (l:=l) (st:=st) (by simpa using h)
  simp [this.1,this.2]
structure Vis (l:List (Int×Sg)) (st:List Nat) (vis:List VEnt):Prop where
 sub:∀x∈vis,x∈l.zip st
 nodup:(vis.map (·.2)).Nodup
theorem Vis.nil (l:List (Int×Sg)) (st:List Nat):Vis l st []:=⟨fun x h=>(by cases h),by simp⟩
theorem Vis.snoc {l:List (Int×Sg)} {st:List Nat} {vis:List VEnt} (h:Vis l st vis) {x:VEnt} (hx:x∈l.zip st) (hn:x.2∉vis.map (·.2)):Vis l st (vis++[x]):=
 ⟨fun y hy=>(List.mem_append.1 hy).elim (h.sub y) fun hy=>by rw [List.mem_singleton.1 hy];exact hx,by
  rw [List.map_append,List.nodup_append]
  refine ⟨h.nodup,by simp,fun a ha b hb he=> ?_⟩
  simp at hb
  subst hb;subst he
  exact hn ha⟩
theorem nodup_of_map {α β:Type} {f:α→β}:∀{l:List α},(l.map f).Nodup→l.Nodup
 |[],_=> .nil
 |x::l,h=>by
  rw [List.map_cons,List.nodup_cons] at h
  rw [List.nodup_cons]
  exact ⟨fun hm=>h.1 (List.mem_map.2 ⟨x,hm,rfl⟩),nodup_of_map h.2⟩
theorem inj_of_nodup {α β:Type} {f:α→β}:∀{l:List α},(l.map f).Nodup→∀{a b:α},a∈l→b∈l→f a=f b→a=b
 |[],_,a,b,h,_,_=>by cases h
 |x::l,hn,a,b,ha,hb,he=>by
  rw [List.map_cons,List.nodup_cons] at hn
  rcases List.mem_cons.1 ha with h1|h1<;> rcases List.mem_cons.1 hb with h2|h2
  ·rw [h1,h2]
  ·exact absurd (List.mem_map.2 ⟨b,h2,by rw [← he,h1]⟩) hn.1
  ·exact absurd (List.mem_map.2 ⟨a,h1,by rw [he,h2]⟩) hn.1
  ·exact inj_of_nodup hn.2 h1 h2 he
theorem Vis.perm {l:List (Int×Sg)} {st:List Nat} {vis:List VEnt} (h:Vis l st vis) (hl:st.length=l.length) (hn:st.Nodup) (hall:∀x∈l.zip st,x.2∈vis.map (·.2)):(vis.map (·.1)).Perm l:=by
 obtain ⟨z1,z2⟩:=zip_snd hl
 have hp:vis.Perm (l.zip st):=(List.perm_ext_iff_of_nodup (nodup_of_map h.nodup) (nodup_of_map (f:= (·.2)) (by rw [z1];exact hn))).2 fun x=>⟨h.sub x,fun hx=>by
  obtain ⟨y,hy,he⟩:=List.mem_map.1 (hall x hx)
  have:y=x:=inj_of_nodup (f:=fun q:VEnt=>q.2) (l:=l.zip st) (by rw [z1];exact hn) (h.sub y hy) hx he
  rw [← this];exact hy⟩
 have:=hp.map (·.1)
 rwa [z2] at this
theorem Vis.len {l:List (Int×Sg)} {st:List Nat} {vis:List VEnt} (h:Vis l st vis) (hl:st.length=l.length):vis.length≤l.length:=by
 have h1:vis.length≤(l.zip st).length:=(nodup_of_map h.nodup).length_le_of_subset fun x hx=>h.sub x hx
 rw [List.length_zip,hl,Nat.min_self] at h1
 exact h1
theorem MapIs.oldE {st:List Nat} {ck:Nat} {l:List (Int×Sg)} (h:MapIs st ck l):∀e∈esOf l st,e.2.2<ck:=fun e he=>by
 obtain ⟨x,hx,rfl⟩:=List.mem_map.1 he
 exact h.old _ (by rw [← (zip_snd h.len).1];exact List.mem_map.2 ⟨x,hx,rfl⟩)
def keptB (l:List (Int×Sg)):Nat:=(l.map fun x=>x.2.body.length).sum
theorem keptB_snoc (l:List (Int×Sg)) (x:Int×Sg):keptB (l++[x])=keptB l+x.2.body.length:=by unfold keptB;simp
theorem keptB_perm {l l':List (Int×Sg)} (h:l.Perm l'):keptB l=keptB l':=(h.map _).sum_nat
theorem keptB_le {l:List (Int×Sg)} (h:∀x∈l,x.2.body.length≤100000):keptB l≤l.length*100000:=by
 induction l with
 |nil=>simp [keptB]
 |cons x l ih=>
  have:=h x (List.mem_cons_self ..)
  have:=ih fun y hy=>h y (List.mem_cons_of_mem _ hy)
  unfold keptB at*
  rw [List.map_cons,List.sum_cons,List.length_cons,Nat.add_mul]
  omega
def spaceR (s:E):Int:=max (s.room - (s.ready.length:Int) - (keptB s.kept:Int)) 0
theorem space {H:AHeap} {e:Nat} {s:E} {q:Q} (h:EndI H e s q) (hr:0≤s.room∧s.room≤1099511627776) (hl:s.ready.length<1099511627776) (hk:s.kept.length<1099511627776) (hb:∀x∈s.kept,x.2.body.length≤100000):ARet Try.prog 58 [ptr e] H (.int .i64 (spaceR s)) H:=by
 have hc:=h.cell
 simp only [endC] at hc
 have hm:=h.map
 have hml:=lt_of_get hm
 obtain ⟨z1,z2⟩:=zip_snd h.mis.len
 have hbz:∀x∈s.kept.zip q.st,x.1.2.body.length≤100000:=fun x hx=>hb x.1 (by rw [← z2];exact List.mem_map.2 ⟨x,hx,rfl⟩)
 refine AC.enter Try.func58 rfl (by kernel_rfl) 35 rfl [.tmp 2] rfl (by simp) fun hsc B=> ?_
 repeat first|refine kw0 ?_|exact kwz
 refine AWP.regionM 11 [4,9,10] [] (.both (.run [4,9,10]) (.step 9 (.both (.run [4,10]) (.run [10,4])))) (by kernel_rfl) (by decide) (by kernel_rfl) (by kernel_rfl) (by kernel_rfl) ?_
 repeat' first|with_reducible refine canW_n ?_|with_reducible refine canW_m (by decide) ?_|((with_reducible apply canW_p (by decide));focus (intro H;(simp only [go_sem,sevalprocAttr,reduceCtorEq,hc,List.map_cons,List.map_nil]);exact rfl))|with_reducible refine memW_b ?_ ?_|with_reducible refine memW_s rfl ?_|with_reducible refine memW_r rfl ?_|with_reducible refine memW_e ?_|simp only [List.take_succ_cons,List.take_zero,List.drop_succ_cons,List.drop_zero]|omega|with_reducible refine And.intro ?_ ?_|refine kw3 hc @List.map_cons.{0,0} @List.map_nil.{0,0} ?_|exact kwz|fail
 all_goals
  repeat first|refine kw2 hc hm ?_|exact kwz
  refine AWP.loopP (fun s2:List VEnt×AHeap=>⟨[(0,ptr e),(3,.int .i64 (s.room - (s.ready.length:Int) - (keptB (s2.1.map (·.1)):Int))),(23,ptrTo H.length 0)],[],H++ (.iter (.map (some q.m)) q.ck (s2.1.map (·.2)) q.ck::s2.2)⟩) (fun s2=>Vis s.kept q.st s2.1) (fun s2=>s.kept.length - s2.1.length) ([],[]) ?_ (Vis.nil _ _) ?_
  ·exact Weak.env (by simp [envIn,lk_cons,wth_some,keptB])
  rintro ⟨vis,R⟩ hv
  simp only at hv
  have hkb:keptB (vis.map (·.1))≤vis.length*100000:=by
   have:=keptB_le (l:=vis.map (·.1)) fun y hy=>by
    obtain ⟨x,hx,rfl⟩:=List.mem_map.1 hy
    exact hbz x (hv.sub x hx)
   rwa [List.length_map] at this
  have hvl:=hv.len h.mis.len
  repeat first|refine kw3 @hgetl hml hm ?_|exact kwz
  refine ⟨h.mis.oldE,?_,?_⟩
  ·intro hall
   have hp:=keptB_perm (hv.perm h.mis.len h.mis.nodup fun x hx=>hall (entV x) (List.mem_map.2 ⟨x,hx,rfl⟩))
   rw [hp] at hkb ⊢
   unfold spaceR
   repeat first|with_reducible refine kc ?_|((with_reducible first|refine kr ?_ ?_|refine kt ?_ ?_);exact rfl)|((with_reducible refine kf ?_ ?_);exact rfl)|simp only [go_sem,sevalprocAttr,reduceCtorEq,minMaxW]|simp (disch:=omega) only [wz]|with_reducible_and_instances exact finR|((with_reducible refine finR' ?_ ?_)<;> rfl)|((with_reducible refine finD hsc (NRel.of_plain ?_));exact rfl)
  ·intro a ha hn
   obtain ⟨x,hx,rfl⟩:=List.mem_map.1 ha
   have hv2:=hv.snoc hx hn
   have hvl2:=hv2.len h.mis.len
   rw [List.length_append,List.length_singleton] at hvl2
   have hxb:=hbz x hx
   have hsn:(keptB (vis.map (·.1)++[x.1]):Int)=(keptB (vis.map (·.1)):Int)+(x.1.2.body.length:Int):=by rw [keptB_snoc,Int.natCast_add]
   have hfe:=find_ent (by rw [z1];exact h.mis.nodup) hx
   unfold esOf at hm
   repeat first|with_reducible refine kc ?_|((with_reducible first|refine kr ?_ ?_|refine kt ?_ ?_);exact rfl)|((with_reducible refine kf ?_ ?_);exact rfl)|simp only [go_sem,sevalprocAttr,reduceCtorEq,hgetl,hml,hm,hfe,entV,Sg.v,Sg.c,sgC,List.getLast?_concat]|simp (disch:=omega) only [wz]|with_reducible_and_instances exact finR|((with_reducible refine finR' ?_ ?_)<;> rfl)|((with_reducible refine finD hsc (NRel.of_plain ?_));exact rfl)
   refine ⟨(vis++[x],R++ [.cells [.int .i64 x.1.2.kind,.int .i64 x.1.2.conn,.int .i64 x.1.2.seq,.int .i64 x.1.2.ack,.int .i64 x.1.2.window,.string (bs x.1.2.marks),.string (bs x.1.2.body),.int .i64 x.1.2.time,.int .i64 x.1.2.late] ⟨44,0,true,0,none⟩]),?_,hv2,?_⟩
   ·simp only [List.map_append,List.map_cons,List.map_nil,hsn]
    exact Weak.env (by simp [envIn,lk_cons,wth_some];omega)
   ·simp;omega
end Go.Proofs.Ytdgmcckfdgnicaa

set_option linter.unusedVariables false
set_option linter.unusedSimpArgs false
set_option maxRecDepth 20000
set_option maxHeartbeats 8000000
namespace Go.Proofs.Ytdgmcckfdgnicaa
open Go Go.Aw Go.Proofs
theorem State {H:AHeap} {e:Nat} {s:E} {q:Q} (h:EndI H e s q):ARet Try.prog 13 [ptr e] H (.int .i64 s.state) H:=by
 have hc:=h.cell
 simp only [endC] at hc
 refine AC.enter Try.func13 rfl (by kernel_rfl) 9 rfl [.tmp 2] rfl (by simp) fun hsc B=> ?_
 repeat first|refine kw1 hc ?_|exact kwz
theorem Ready {H:AHeap} {e:Nat} {s:E} {q:Q} (h:EndI H e s q):ARet Try.prog 25 [ptr e] H (.int .i64 (s.ready.length:Nat)) H:=by
 have hc:=h.cell
 simp only [endC] at hc
 refine AC.enter Try.func25 rfl (by kernel_rfl) 11 rfl [.tmp 2] rfl (by simp) fun hsc B=> ?_
 repeat first|refine kw1 hc ?_|exact kwz
theorem Ended {H:AHeap} {e:Nat} {s:E} {q:Q} (h:EndI H e s q):ARet Try.prog 28 [ptr e] H (.bool s.ended) H:=by
 have hc:=h.cell
 simp only [endC] at hc
 refine AC.enter Try.func28 rfl (by kernel_rfl) 12 rfl [.tmp 2] rfl (by simp) fun hsc B=> ?_
 repeat first|refine kw1 hc ?_|exact kwz
def underR (s:E):Int×Int:=if s.state=5 then (0,0) else ((flyN s.flight:Nat),flyB s.flight)
theorem Under {H:AHeap} {e:Nat} {s:E} {q:Q} (h:EndI H e s q) (hl:s.flight.length<1099511627776) (hb:∀p∈s.flight,p.body.length≤100000):ARet Try.prog 23 [ptr e] H (.tuple ⟨[.int .i64 (underR s).1,.int .i64 (underR s).2]⟩) H:=by
 have hc:=h.cell
 simp only [endC] at hc
 have hfly:=flying e q.fv q.fn q.fj s.flight H h.u h.frow h.fpk hl hb
 unfold underR
 by_cases h5:s.state=5
 ·have h5':(s.state==5)=true:=by simp [h5]
  rw [if_pos h5]
  refine AC.enter Try.func23 rfl (by kernel_rfl) 19 rfl [.tmp 2,.tmp 3] rfl (by simp) fun hsc B=> ?_
  repeat first|with_reducible refine hfly.use ?_|refine kw2 hc h5' ?_|exact kwz
 ·have h5':(s.state==5)=false:=by simp [h5]
  rw [if_neg h5]
  refine AC.enter Try.func23 rfl (by kernel_rfl) 19 rfl [.tmp 2,.tmp 3] rfl (by simp) fun hsc B=> ?_
  repeat first|with_reducible refine hfly.use ?_|refine kw2 hc h5' ?_|exact kwz
def readN (most:Int) (s:E):Nat:=(min most (s.ready.length:Int)).toNat
def readNo (s:E):Prop:=s.ready=[]∧(s.ended=true∨s.state=5)
theorem readGo {s:E} {H:AHeap} {e:Nat} {q:Q} (h:EndI H e s q) (most:Int) (hm:0≤most) (hn:¬readNo s):ARet Try.prog 36 [ptr e,.int .i64 most] H (.tuple ⟨[.string (bs (s.ready.take (readN most s))),.int .i64 0]⟩) (H.set e (.cells (endC {s with ready:=s.ready.drop (readN most s)} q) kE)):=by
 have hc:=h.cell
 have hcl:=lt_of_get hc
 simp only [endC] at hc ⊢
 have hm':¬most<0:=by omega
 have hN:min most (s.ready.length:Int)=(readN most s:Nat):=by unfold readN;omega
 have hN2:readN most s≤s.ready.length:=by unfold readN;omega
 have hN3:(readN most s:Int)≤s.ready.length:=by omega
 have he:=emptyB (b:=s.ready)
 have hdt:s.ready.take s.ready.length=s.ready:=List.take_of_length_le (Nat.le_refl _)
 unfold readNo at hn
 by_cases h0:s.ready=[]
 ·have h0':decide (s.ready.length=0)=true:=by rw [h0];rfl
  cases h1:s.ended with
  |true=>exact absurd ⟨h0,.inl h1⟩ hn
  | false=>
   have h5':(s.state==5)=false:=by
    by_cases h5:s.state=5
    ·exact absurd ⟨h0,.inr h5⟩ hn
    ·simp [h5]
   refine AC.enter Try.func36 rfl (by kernel_rfl) 62 rfl [.tmp 4,.tmp 5] rfl (by simp) fun hsc B=> ?_
   repeat first|with_reducible refine kc ?_|((with_reducible first|refine kr ?_ ?_|refine kt ?_ ?_);exact rfl)|((with_reducible refine kf ?_ ?_);exact rfl)|simp only [go_sem,sevalprocAttr,reduceCtorEq,hc,hcl,h1,h5',he,h0',hm',hN,hN2,hN3,minMaxW]|simp (disch:=omega) only [wz]|with_reducible_and_instances exact finR|((with_reducible refine finR' ?_ ?_)<;> rfl)|((with_reducible refine finD hsc (NRel.of_plain ?_));exact rfl)
   refine ⟨Int.le_refl _,?_⟩
   repeat first|refine kw1 hdt ?_|exact kwz
 ·have h0':decide (s.ready.length=0)=false:=decide_eq_false (fun e=>h0 (List.eq_nil_of_length_eq_zero e))
  refine AC.enter Try.func36 rfl (by kernel_rfl) 62 rfl [.tmp 4,.tmp 5] rfl (by simp) fun hsc B=> ?_
  repeat first|with_reducible refine kc ?_|((with_reducible first|refine kr ?_ ?_|refine kt ?_ ?_);exact rfl)|((with_reducible refine kf ?_ ?_);exact rfl)|simp only [go_sem,sevalprocAttr,reduceCtorEq,hc,hcl,he,h0',hm',hN,hN2,hN3,minMaxW]|simp (disch:=omega) only [wz]|with_reducible_and_instances exact finR|((with_reducible refine finR' ?_ ?_)<;> rfl)|((with_reducible refine finD hsc (NRel.of_plain ?_));exact rfl)
  refine ⟨Int.le_refl _,?_⟩
  repeat first|refine kw1 hdt ?_|exact kwz
theorem readEnd {s:E} {H:AHeap} {e:Nat} {q:Q} (h:EndI H e s q) (most:Int) (hm:0≤most) (hn:readNo s):ARet Try.prog 36 [ptr e,.int .i64 most] H (.tuple ⟨[.string (bs []),.int .i64 8]⟩) H:=by
 have hc:=h.cell
 have hcl:=lt_of_get hc
 simp only [endC] at hc ⊢
 have hm':¬most<0:=by omega
 have he:=emptyB (b:=s.ready)
 have h0':decide (s.ready.length=0)=true:=by rw [hn.1];rfl
 cases h1:s.ended with
 |true=>
  refine AC.enter Try.func36 rfl (by kernel_rfl) 62 rfl [.tmp 4,.tmp 5] rfl (by simp) fun hsc B=> ?_
  repeat first|refine kw6 hc hcl h1 he h0' hm' ?_|exact kwz
 | false=>
  have h5':(s.state==5)=true:=by
   rcases hn.2 with h2|h2
   ·rw [h1] at h2;cases h2
   ·simp [h2]
  refine AC.enter Try.func36 rfl (by kernel_rfl) 62 rfl [.tmp 4,.tmp 5] rfl (by simp) fun hsc B=> ?_
  repeat first|refine kw7 hc hcl h1 h5' he h0' hm' ?_|exact kwz
theorem limit1 (e:Nat) (H:AHeap):ARet Try.prog 53 [ptr e] H (.pointer (some ⟨e,5,none⟩)) H:=by
 refine AC.enter Try.func53 rfl (by kernel_rfl) 7 rfl [.tmp 2] rfl (by simp) fun hsc B=> ?_
 repeat first|refine kw0 ?_|exact kwz
theorem body1 (e:Nat) (H:AHeap):ARet Try.prog 54 [ptr e] H (.pointer (some ⟨e,6,none⟩)) H:=by
 refine AC.enter Try.func54 rfl (by kernel_rfl) 7 rfl [.tmp 2] rfl (by simp) fun hsc B=> ?_
 repeat first|refine kw0 ?_|exact kwz
theorem setL {H:AHeap} {e:Nat} {s:E} {q:Q} (h:EndI H e s q) (n lo hi:Int) (hn:lo≤n∧n≤hi):ARet Try.prog 52 [ptr e,.int .i64 n,.int .i64 lo,.int .i64 hi,.func (.func 53) ⟨[]⟩ ⟨[]⟩] H (.int .i64 0) (H.set e (.cells (endC {s with limit:=n} q) kE)):=by
 have hc:=h.cell
 have hcl:=lt_of_get hc
 simp only [endC] at hc ⊢
 have h1:¬n<lo:=by omega
 have h2:¬n>hi:=by omega
 refine AC.enter Try.func52 rfl (by kernel_rfl) 28 rfl [.tmp 10] rfl (by simp) fun hsc B=> ?_
 repeat first|with_reducible refine (limit1 _ _).use ?_|refine kw4 hc hcl h1 h2 ?_|exact kwz
theorem setB_ {H:AHeap} {e:Nat} {s:E} {q:Q} (h:EndI H e s q) (n lo hi:Int) (hn:lo≤n∧n≤hi):ARet Try.prog 52 [ptr e,.int .i64 n,.int .i64 lo,.int .i64 hi,.func (.func 54) ⟨[]⟩ ⟨[]⟩] H (.int .i64 0) (H.set e (.cells (endC {s with body:=n} q) kE)):=by
 have hc:=h.cell
 have hcl:=lt_of_get hc
 simp only [endC] at hc ⊢
 have h1:¬n<lo:=by omega
 have h2:¬n>hi:=by omega
 refine AC.enter Try.func52 rfl (by kernel_rfl) 28 rfl [.tmp 10] rfl (by simp) fun hsc B=> ?_
 repeat first|with_reducible refine (body1 _ _).use ?_|refine kw4 hc hcl h1 h2 ?_|exact kwz
theorem Limit {H:AHeap} {e:Nat} {s:E} {q:Q} (h:EndI H e s q) (n:Int) (hn:1≤n∧n≤1000000):ARet Try.prog 31 [ptr e,.int .i64 n] H (.int .i64 0) (H.set e (.cells (endC {s with limit:=n} q) kE)):=by
 refine AC.enter Try.func31 rfl (by kernel_rfl) 8 rfl [.tmp 4] rfl (by simp) fun hsc B=> ?_
 repeat first|with_reducible refine (setL h n 1 1000000 hn).use ?_|refine kw0 ?_|exact kwz
theorem Body {H:AHeap} {e:Nat} {s:E} {q:Q} (h:EndI H e s q) (n:Int) (hn:1≤n∧n≤1400):ARet Try.prog 32 [ptr e,.int .i64 n] H (.int .i64 0) (H.set e (.cells (endC {s with body:=n} q) kE)):=by
 refine AC.enter Try.func32 rfl (by kernel_rfl) 8 rfl [.tmp 4] rfl (by simp) fun hsc B=> ?_
 repeat first|with_reducible refine (setB_ h n 1 1400 hn).use ?_|refine kw0 ?_|exact kwz
end Go.Proofs.Ytdgmcckfdgnicaa

set_option linter.unusedVariables false
set_option linter.unusedSimpArgs false
set_option maxRecDepth 20000
set_option maxHeartbeats 8000000
namespace Go.Proofs.Ytdgmcckfdgnicaa
open Go Go.Aw Go.Proofs
theorem RowP.lt {H:AHeap} {v:Value} {l js:List Nat} (h:RowP H v l js):∀j∈js,j<H.length:=by
 rcases h with ⟨_,_,rfl⟩|⟨j,off,cap,cs,h1,rfl,h3,_⟩
 ·intro j hj;cases hj
 ·intro i hi;rw [List.mem_singleton.1 hi];exact lt_of_get h3
theorem RowP.add {H:AHeap} {v:Value} {l js:List Nat} (h:RowP H v l js) (X:AHeap):RowP (H++X) v l js:=h.frm (S:=[]) Frm.app (by simp)
theorem RowP.cells {H:AHeap} {v:Value} {l js:List Nat} (h:RowP H v l js):cellsOf v=[v]∧flat v=true:=by
 rcases h with ⟨rfl,_,_⟩|⟨j,off,cap,cs,rfl,_⟩<;> exact ⟨rfl,rfl⟩
theorem RowP.jnodup {H:AHeap} {v:Value} {l js:List Nat} (h:RowP H v l js):js.Nodup:=by
 rcases h with ⟨_,_,rfl⟩|⟨j,off,cap,cs,h1,rfl,h3,_⟩<;> simp
theorem PksAt.lt {H:AHeap} {fn:List Nat} {fl:List Pk} (h:PksAt H fn fl):∀j∈fn,j<H.length:=fun j hj=>by
 obtain ⟨i,hi⟩:=List.getElem?_of_mem hj
 have hil:=(List.getElem?_eq_some_iff.1 hi).1
 have hp1:=h.1
 exact lt_of_get (h.2 i j _ hi (List.getElem?_eq_getElem (by omega)))
theorem EndI.lt {H:AHeap} {e:Nat} {s:E} {q:Q} (h:EndI H e s q):∀j∈q.names e,j<H.length:=fun j hj=>by
 simp only [Q.names,List.mem_cons,List.mem_append] at hj
 rcases hj with rfl|rfl|hj|hj|hj|hj
 ·exact lt_of_get h.cell
 ·exact lt_of_get h.map
 ·exact h.wrow.lt j hj
 ·exact h.frow.lt j hj
 ·exact h.wpk.lt j hj
 ·exact h.fpk.lt j hj
theorem RowP.append {H:AHeap} {v:Value} {l js:List Nat} {n:Nat} {K:Value→AHeap→Prop} (h:RowP H v l js) (hl:l.length<1099511627776)
  (hk:∀v2 H2 js2,RowP H2 v2 (l++[n]) js2→Frm js H H2→ (∀ j∈js2,j∈js∨j=H.length)→K v2 H2):appendTo Try.prog 79 1 8 v 1 [ptr n] H K:=by
 rcases h with ⟨rfl,rfl,rfl⟩|⟨j,off,cap,cs,rfl,rfl,h3,h4,h5,h6⟩
 ·refine appendTo_nil (by decide) (by decide) (by decide) (hk _ _ [H.length] (.inr ⟨H.length,0,1,[ptr n],rfl,rfl,hget0 rfl,rfl,by simp,by simp⟩) Frm.app fun j hj=> .inr (List.mem_singleton.1 hj))
 ·unfold appendTo
  simp only [h3]
  have hjl:=lt_of_get h3
  refine ⟨fun hc=>⟨fun h=>absurd h (by decide),fun _=>⟨⟨⟨rfl,Nat.zero_le _⟩,by omega⟩,?_⟩⟩,fun hc=>⟨by omega,fun _=>⟨⟨trivial,trivial,Nat.zero_le _,trivial⟩,?_⟩,fun hno=>absurd ⟨by decide,by omega⟩ hno⟩⟩
  ·refine hk _ _ [j] (.inr ⟨j,off,cap,putCells cs (off+l.length*1) [ptr n],by simp,rfl,List.getElem?_set_self hjl,?_,by simp;omega,?_⟩) (Frm.set (Frm.refl _ _) (.inl (List.mem_singleton.2 rfl))) fun i hi=> .inl hi
   ·rw [putCells_length];exact h4
   ·show ((cs.set (off+l.length*1) (ptr n)).drop off).take (l++[n]).length=_
    rw [Nat.mul_one,List.length_append,List.length_singleton,List.map_append,←h6,List.drop_set,if_neg (by omega),Nat.add_sub_cancel_left]
    rw [List.take_add_one,List.getElem?_set_self (by rw [List.length_drop];omega),List.take_set_of_le (Nat.le_refl _)]
    rfl
  ·rw [Nat.mul_one,h6,Nat.zero_sub]
   refine hk _ _ [H.length] (.inr ⟨H.length,0,l.length+1,l.map ptr++[ptr n],by simp,rfl,hget0 (by simp),by simp,by simp,by rw [List.drop_zero,List.take_of_length_le (by simp)];simp⟩) ((Frm.set (Frm.refl _ _) (.inl (List.mem_singleton.2 rfl))).more) fun i hi=> .inr (List.mem_singleton.1 hi)
theorem nodup_push {x y L n:Nat} {a b c d a2:List Nat} (h:(x::y::(a++(b++(c++d)))).Nodup) (hlt:∀j∈x::y::(a++(b++(c++d))),j<L) (ha:a2.Nodup) (ha2:∀j∈a2,j∈a∨L≤j) (hn:L≤n) (hna:n∉a2):(x::y::(a2++(b++((c++[n])++d)))).Nodup:=by
 have l1:∀j,j∈x::y::(b++(c++d))→j<L:=fun j hj=>hlt j (by
  simp only [List.mem_cons,List.mem_append] at hj ⊢
  rcases hj with h|h|h|h|h
  ·exact .inl h
  ·exact .inr (.inl h)
  ·exact .inr (.inr (.inr (.inl h)))
  ·exact .inr (.inr (.inr (.inr (.inl h))))
  ·exact .inr (.inr (.inr (.inr (.inr h)))))
 have hp:(x::y::(a2++(b++((c++[n])++d)))).Perm (n::(a2++(x::y::(b++(c++d))))):=by
  refine List.perm_iff_count.2 fun z=> ?_
  simp only [List.count_cons,List.count_append,List.count_nil]
  omega
 have hp0:(x::y::(a++(b++(c++d)))).Perm (a++(x::y::(b++(c++d)))):=by
  refine List.perm_iff_count.2 fun z=> ?_
  simp only [List.count_cons,List.count_append,List.count_nil]
  omega
 have h0:=hp0.nodup h
 rw [List.nodup_append] at h0
 refine hp.symm.nodup ?_
 rw [List.nodup_cons,List.nodup_append]
 refine ⟨fun hm=> ?_,ha,h0.2.1,fun i hi j hj=> ?_⟩
 ·rcases List.mem_append.1 hm with hm|hm
  ·exact hna hm
  ·have:=l1 n hm;omega
 ·rcases ha2 i hi with h|h
  ·exact h0.2.2 i h j hj
  ·have:=l1 j hj;omega
theorem EndI.pushW {H:AHeap} {e:Nat} {s:E} {q:Q} (h:EndI H e s q) {H2:AHeap} {v2:Value} {js2:List Nat} {n:Nat} {p:Pk} (hF:Frm q.wj H H2) (hr:RowP H2 v2 (q.wn++[n]) js2) (hj:∀j∈js2,j∈q.wj∨H.length≤j) (hn:H.length≤n) (hnj:n∉js2) (hp:H2[n]? =some (.cells (pkC p) kP))
  (s':E) (t:Told) (hw:s'.waiting=s.waiting++[p]) (hf:s'.flight=s.flight) (hk:s'.kept=s.kept):
  EndI (H2.set e (.cells (endC s' {q with wv:=v2,wn:=q.wn++[n],wj:=js2,told:=t}) kE)) e s' {q with wv:=v2,wn:=q.wn++[n],wj:=js2,told:=t}∧Frm (q.names e) H (H2.set e (.cells (endC s' {q with wv:=v2,wn:=q.wn++[n],wj:=js2,told:=t}) kE)):=by
 have hel:=lt_of_get h.cell
 have hF1:=hF.1
 have hnd:=h.nodup
 have hlt:=h.lt
 have hwj:∀j∈q.m::(q.fj++(q.wn++q.fn)),j∉e::q.wj:=fun j hj hm=>by
  rcases List.mem_cons.1 hm with rfl|hm
  ·refine h.ne (j:=j) ?_ rfl
   simp only [List.mem_cons,List.mem_append] at hj ⊢
   rcases hj with h|h|h|h
   ·exact .inl h
   ·exact .inr (.inr (.inl h))
   ·exact .inr (.inr (.inr (.inl h)))
   ·exact .inr (.inr (.inr (.inr h)))
  ·unfold Q.names at hnd
   rw [List.nodup_cons,List.nodup_cons,List.nodup_append] at hnd
   rcases List.mem_cons.1 hj with rfl|hj
   ·exact hnd.2.1 (List.mem_append_left _ hm)
   ·exact hnd.2.2.2.2 j hm j hj rfl
 have hFe:Frm (e::q.wj) H (H2.set e (.cells (endC s' {q with wv:=v2,wn:=q.wn++[n],wj:=js2,told:=t}) kE)):=(hF.mono fun j hj=>List.mem_cons_of_mem _ hj).set (.inl (List.mem_cons_self ..))
 have hFe2:Frm [e] H2 (H2.set e (.cells (endC s' {q with wv:=v2,wn:=q.wn++[n],wj:=js2,told:=t}) kE)):=(Frm.refl _ _).set (.inl (List.mem_singleton.2 rfl))
 refine ⟨⟨List.getElem?_set_self (by omega),hr.frm hFe2 fun j hj' hm=> ?_,h.frow.frm hFe fun j hj=>hwj j (by simp [hj]),⟨?_,fun i m p' k1 k2=> ?_⟩,by rw [hf];exact h.fpk.frm hFe fun j hj=>hwj j (by simp [hj]),by rw [hk];exact hFe.get h.map (hwj _ (by simp)),by rw [hk];exact h.mis,?_⟩,hFe.mono fun j hj=> ?_⟩
 ·rw [List.mem_singleton] at hm
  subst hm
  rcases hj j hj' with h2|h2
  ·exact h.ne (j:=j) (by simp [h2]) rfl
  ·omega
 ·rw [hw,List.length_append,List.length_append,h.wpk.1];rfl
 ·rw [hw] at k2
  have hll:=h.wpk.1
  by_cases hi:i<q.wn.length
  ·rw [List.getElem?_append_left hi] at k1
   rw [List.getElem?_append_left (by omega)] at k2
   exact (h.wpk.frm hFe fun j hj=>hwj j (by simp [hj])).2 i m p' k1 k2
  ·rw [List.getElem?_append_right (by omega)] at k1 k2
   have h0:i - q.wn.length=0:=by
    have:=(List.getElem?_eq_some_iff.1 k1).1
    simp at this;omega
   rw [h0] at k1
   rw [show i - s.waiting.length=0 by omega] at k2
   cases k1;cases k2
   rw [List.getElem?_set_ne (by omega)]
   exact hp
 ·exact nodup_push (L:=H.length) hnd hlt hr.jnodup hj hn hnj
 ·rcases List.mem_cons.1 hj with rfl|hj
  ·simp [Q.names]
  ·simp [Q.names,hj]
end Go.Proofs.Ytdgmcckfdgnicaa
