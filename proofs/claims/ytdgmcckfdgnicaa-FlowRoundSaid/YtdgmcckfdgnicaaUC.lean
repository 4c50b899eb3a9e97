/-
 An end whose cells change;ranging over what is kept;the window.
-/
import Derived.Test.YtdgmcckfdgnicaaUB
import Derived.Test.YtdgmcckfdgnicaaAwA
set_option linter.unusedVariables false
set_option linter.unusedSimpArgs false
set_option maxRecDepth 20000
set_option maxHeartbeats 4000000
namespace Go.Proofs.Ytdgmcckfdgnicaa
open Go Go.Aw Go.Proofs
theorem EndI.ne {H:AHeap} {e:Nat} {s:E} {q:Q} (h:EndI H e s q) {j:Nat} (hj:j∈q.m::(q.wj++(q.fj++(q.wn++q.fn)))):j≠e:=fun he=>by
 have:=h.nodup
 unfold Q.names at this
 rw [List.nodup_cons] at this
 subst he
 exact this.1 hj
theorem EndI.put {H:AHeap} {e:Nat} {s:E} {q:Q} (h:EndI H e s q) (s':E) (t:Told) (hw:s'.waiting=s.waiting) (hf:s'.flight=s.flight) (hk:s'.kept=s.kept):EndI (H.set e (.cells (endC s' {q with told:=t}) kE)) e s' {q with told:=t}:=by
 have hF:Frm [e] H (H.set e (.cells (endC s' {q with told:=t}) kE)):=Frm.set (Frm.refl _ _) (.inl (List.mem_singleton.2 rfl))
 have hn:∀j∈q.m::(q.wj++(q.fj++(q.wn++q.fn))),j∉[e]:=fun j hj hm=>h.ne hj (List.mem_singleton.1 hm)
 exact
 {cell:=List.getElem?_set_self (lt_of_get h.cell)
  wrow:=h.wrow.frm hF fun j hj=>hn j (by simp [hj])
  frow:=h.frow.frm hF fun j hj=>hn j (by simp [hj])
  wpk:=by rw [hw];exact h.wpk.frm hF fun j hj=>hn j (by simp [hj])
  fpk:=by rw [hf];exact h.fpk.frm hF fun j hj=>hn j (by simp [hj])
  map:=by rw [hk];exact hF.get h.map (hn _ (by simp))
  mis:=by rw [hk];exact h.mis
  nodup:=h.nodup}
theorem tell {H:AHeap} {e:Nat} {s:E} {q:Q} (h:EndI H e s q) (now:Int):ARet Try.prog 39 [ptr e,.int .i64 now] H (.int .i64 (atR s now)) (if atR s now=0 then H.set e (.cells (endC {s with now:=now} q) kE) else H):=by
 have hc:=h.cell
 have hl:=lt_of_get hc
 have ha:=at_ h now
 simp only [endC] at hc ⊢
 by_cases h1:atR s now=0
 ·have h1':(atR s now==0)=true:=by simp [h1]
  rw [if_pos h1]
  refine AC.enter Try.func39 rfl (by kernel_rfl) 16 rfl [.tmp 4] rfl (by simp) fun hsc B=> ?_
  repeat first|with_reducible refine kc ?_|((with_reducible first|refine kr ?_ ?_|refine kt ?_ ?_);exact rfl)|((with_reducible refine kf ?_ ?_);exact rfl)|with_reducible refine ha.use ?_|simp only [go_sem,sevalprocAttr,reduceCtorEq,hc,h1']|simp (disch:=omega) only [wz]|with_reducible_and_instances exact finR|((with_reducible refine finR' ?_ ?_)<;> rfl)|((with_reducible refine finD hsc (NRel.of_plain ?_));exact rfl)
 ·have h1':(atR s now==0)=false:=by simp [h1]
  rw [if_neg h1]
  refine AC.enter Try.func39 rfl (by kernel_rfl) 16 rfl [.tmp 4] rfl (by simp) fun hsc B=> ?_
  repeat first|with_reducible refine kc ?_|((with_reducible first|refine kr ?_ ?_|refine kt ?_ ?_);exact rfl)|((with_reducible refine kf ?_ ?_);exact rfl)|with_reducible refine ha.use ?_|simp only [go_sem,sevalprocAttr,reduceCtorEq,hc,h1']|simp (disch:=omega) only [wz]|with_reducible_and_instances exact finR|((with_reducible refine finR' ?_ ?_)<;> rfl)|((with_reducible refine finD hsc (NRel.of_plain ?_));exact rfl)
abbrev VEnt:=(Int×Sg)×Nat
theorem find_ent:∀{l:List VEnt} {x:VEnt},(l.map (·.2)).Nodup→x∈l→(l.map entV).find? (fun e=>e.2.2==x.2)=some (entV x)
 |[],x,_,h=>by cases h
 | y::l,x,hn,h=>by
  rw [List.map_cons,List.nodup_cons] at hn
  rw [List.map_cons,List.find?_cons]
  rcases List.mem_cons.1 h with rfl|h
  ·simp [entV]
  ·have:y.2≠x.2:=fun he=>hn.1 (he ▸ List.mem_map.2 ⟨x,h,rfl⟩)
   rw [show ((entV y).2.2==x.2)=false from by simp [entV,this]]
   exact find_ent hn.2 h
theorem zip_snd:∀{l:List (Int×Sg)} {st:List Nat},st.length=l.length→(l.zip st).map (·.2)=st∧(l.zip st).map (·.1)=l
 |[],[],_=>⟨rfl,rfl⟩
 |[],_::_,h=>by simp at h
 |_::_,[],h=>by simp at h
 |x::l,y::st,h=>by
  have:=zip_snd (l:=l) (st:=st) (by simpa using h)
  simp [this.1,this.2]
structure Vis (l:List (Int×Sg)) (st:List Nat) (vis:List VEnt):Prop where
 sub:∀x∈vis,x∈l.zip st
 nodup:(vis.map (·.2)).Nodup
theorem Vis.nil (l:List (Int×Sg)) (st:List Nat):Vis l st []:=⟨fun x h=>(by cases h),by simp⟩
theorem Vis.snoc {l:List (Int×Sg)} {st:List Nat} {vis:List VEnt} (h:Vis l st vis) {x:VEnt} (hx:x∈l.zip st) (hn:x.2∉vis.map (·.2)):Vis l st (vis++[x]):=
 ⟨fun y hy=>(List.mem_append.1 hy).elim (h.sub y) fun hy=>by rw [List.mem_singleton.1 hy];exact hx,by
  rw [List.map_append,List.nodup_append]
  refine ⟨h.nodup,by simp,fun a ha b hb he=> ?_⟩
  simp at hb
  subst hb;subst he
  exact hn ha⟩
theorem nodup_of_map {α β:Type} {f:α→β}:∀{l:List α},(l.map f).Nodup→l.Nodup
 |[],_=> .nil
 |x::l,h=>by
  rw [List.map_cons,List.nodup_cons] at h
  rw [List.nodup_cons]
  exact ⟨fun hm=>h.1 (List.mem_map.2 ⟨x,hm,rfl⟩),nodup_of_map h.2⟩
theorem inj_of_nodup {α β:Type} {f:α→β}:∀{l:List α},(l.map f).Nodup→∀{a b:α},a∈l→b∈l→f a=f b→a=b
 |[],_,a,b,h,_,_=>by cases h
 |x::l,hn,a,b,ha,hb,he=>by
  rw [List.map_cons,List.nodup_cons] at hn
  rcases List.mem_cons.1 ha with h1|h1<;> rcases List.mem_cons.1 hb with h2|h2
  ·rw [h1,h2]
  ·exact absurd (List.mem_map.2 ⟨b,h2,by rw [← he,h1]⟩) hn.1
  ·exact absurd (List.mem_map.2 ⟨a,h1,by rw [he,h2]⟩) hn.1
  ·exact inj_of_nodup hn.2 h1 h2 he
theorem Vis.perm {l:List (Int×Sg)} {st:List Nat} {vis:List VEnt} (h:Vis l st vis) (hl:st.length=l.length) (hn:st.Nodup) (hall:∀x∈l.zip st,x.2∈vis.map (·.2)):(vis.map (·.1)).Perm l:=by
 obtain ⟨z1,z2⟩:=zip_snd hl
 have hp:vis.Perm (l.zip st):=(List.perm_ext_iff_of_nodup (nodup_of_map h.nodup) (nodup_of_map (f:= (·.2)) (by rw [z1];exact hn))).2 fun x=>⟨h.sub x,fun hx=>by
  obtain ⟨y,hy,he⟩:=List.mem_map.1 (hall x hx)
  have:y=x:=inj_of_nodup (f:=fun q:VEnt=>q.2) (l:=l.zip st) (by rw [z1];exact hn) (h.sub y hy) hx he
  rw [← this];exact hy⟩
 have:=hp.map (·.1)
 rwa [z2] at this
theorem Vis.len {l:List (Int×Sg)} {st:List Nat} {vis:List VEnt} (h:Vis l st vis) (hl:st.length=l.length):vis.length≤l.length:=by
 have h1:vis.length≤(l.zip st).length:=(nodup_of_map h.nodup).length_le_of_subset fun x hx=>h.sub x hx
 rw [List.length_zip,hl,Nat.min_self] at h1
 exact h1
theorem MapIs.oldE {st:List Nat} {ck:Nat} {l:List (Int×Sg)} (h:MapIs st ck l):∀e∈esOf l st,e.2.2<ck:=fun e he=>by
 obtain ⟨x,hx,rfl⟩:=List.mem_map.1 he
 exact h.old _ (by rw [← (zip_snd h.len).1];exact List.mem_map.2 ⟨x,hx,rfl⟩)
def keptB (l:List (Int×Sg)):Nat:=(l.map fun x=>x.2.body.length).sum
theorem keptB_snoc (l:List (Int×Sg)) (x:Int×Sg):keptB (l++[x])=keptB l+x.2.body.length:=by unfold keptB;simp
theorem keptB_perm {l l':List (Int×Sg)} (h:l.Perm l'):keptB l=keptB l':=(h.map _).sum_nat
theorem keptB_le {l:List (Int×Sg)} (h:∀x∈l,x.2.body.length≤100000):keptB l≤l.length*100000:=by
 induction l with
 |nil=>simp [keptB]
 |cons x l ih=>
  have:=h x (List.mem_cons_self ..)
  have:=ih fun y hy=>h y (List.mem_cons_of_mem _ hy)
  unfold keptB at*
  rw [List.map_cons,List.sum_cons,List.length_cons,Nat.add_mul]
  omega
def spaceR (s:E):Int:=max (s.room - (s.ready.length:Int) - (keptB s.kept:Int)) 0
theorem space {H:AHeap} {e:Nat} {s:E} {q:Q} (h:EndI H e s q) (hr:0≤s.room∧s.room≤1099511627776) (hl:s.ready.length<1099511627776) (hk:s.kept.length<1099511627776) (hb:∀x∈s.kept,x.2.body.length≤100000):ARet Try.prog 58 [ptr e] H (.int .i64 (spaceR s)) H:=by
 have hc:=h.cell
 simp only [endC] at hc
 have hm:=h.map
 have hml:=lt_of_get hm
 obtain ⟨z1,z2⟩:=zip_snd h.mis.len
 have hbz:∀x∈s.kept.zip q.st,x.1.2.body.length≤100000:=fun x hx=>hb x.1 (by rw [← z2];exact List.mem_map.2 ⟨x,hx,rfl⟩)
 refine AC.enter Try.func58 rfl (by kernel_rfl) 35 rfl [.tmp 2] rfl (by simp) fun hsc B=> ?_
 repeat first|with_reducible refine kc ?_|((with_reducible first|refine kr ?_ ?_|refine kt ?_ ?_);exact rfl)|((with_reducible refine kf ?_ ?_);exact rfl)|simp only [go_sem,sevalprocAttr,reduceCtorEq]|simp (disch:=omega) only [wz]|with_reducible_and_instances exact finR|((with_reducible refine finR' ?_ ?_)<;> rfl)|((with_reducible refine finD hsc (NRel.of_plain ?_));exact rfl)
 refine AWP.regionM 11 [4,9,10] [] (.both (.run [4,9,10]) (.step 9 (.both (.run [4,10]) (.run [10,4])))) (by kernel_rfl) (by decide) (by kernel_rfl) (by kernel_rfl) (by kernel_rfl) ?_
 repeat' first|with_reducible refine canW_n ?_|with_reducible refine canW_m (by decide) ?_|((with_reducible apply canW_p (by decide));focus (intro H;(simp only [go_sem,sevalprocAttr,reduceCtorEq,hc,List.map_cons,List.map_nil]);exact rfl))|with_reducible refine memW_b ?_ ?_|with_reducible refine memW_s rfl ?_|with_reducible refine memW_r rfl ?_|with_reducible refine memW_e ?_|simp only [List.take_succ_cons,List.take_zero,List.drop_succ_cons,List.drop_zero]|omega|with_reducible refine And.intro ?_ ?_|with_reducible refine kc ?_|((with_reducible first|refine kr ?_ ?_|refine kt ?_ ?_);exact rfl)|((with_reducible refine kf ?_ ?_);exact rfl)|simp only [go_sem,sevalprocAttr,reduceCtorEq,hc,List.map_cons,List.map_nil]|simp (disch:=omega) only [wz]|with_reducible_and_instances exact finR|((with_reducible refine finR' ?_ ?_)<;> rfl)|((with_reducible refine finD hsc (NRel.of_plain ?_));exact rfl)
 all_goals
  repeat first|with_reducible refine kc ?_|((with_reducible first|refine kr ?_ ?_|refine kt ?_ ?_);exact rfl)|((with_reducible refine kf ?_ ?_);exact rfl)|simp only [go_sem,sevalprocAttr,reduceCtorEq,hc,hm]|simp (disch:=omega) only [wz]|with_reducible_and_instances exact finR|((with_reducible refine finR' ?_ ?_)<;> rfl)|((with_reducible refine finD hsc (NRel.of_plain ?_));exact rfl)
  refine AWP.loopP (fun s2:List VEnt×AHeap=>⟨[(0,ptr e),(3,.int .i64 (s.room - (s.ready.length:Int) - (keptB (s2.1.map (·.1)):Int))),(23,ptrTo H.length 0)],[],H++ (.iter (.map (some q.m)) q.ck (s2.1.map (·.2)) q.ck::s2.2)⟩) (fun s2=>Vis s.kept q.st s2.1) (fun s2=>s.kept.length - s2.1.length) ([],[]) ?_ (Vis.nil _ _) ?_
  ·exact Weak.env (by simp [envIn,lk_cons,wth_some,keptB])
  rintro ⟨vis,R⟩ hv
  simp only at hv
  have hkb:keptB (vis.map (·.1))≤vis.length*100000:=by
   have:=keptB_le (l:=vis.map (·.1)) fun y hy=>by
    obtain ⟨x,hx,rfl⟩:=List.mem_map.1 hy
    exact hbz x (hv.sub x hx)
   rwa [List.length_map] at this
  have hvl:=hv.len h.mis.len
  repeat first|with_reducible refine kc ?_|((with_reducible first|refine kr ?_ ?_|refine kt ?_ ?_);exact rfl)|((with_reducible refine kf ?_ ?_);exact rfl)|simp only [go_sem,sevalprocAttr,reduceCtorEq,hgetl,hml,hm]|simp (disch:=omega) only [wz]|with_reducible_and_instances exact finR|((with_reducible refine finR' ?_ ?_)<;> rfl)|((with_reducible refine finD hsc (NRel.of_plain ?_));exact rfl)
  refine ⟨h.mis.oldE,?_,?_⟩
  ·intro hall
   have hp:=keptB_perm (hv.perm h.mis.len h.mis.nodup fun x hx=>hall (entV x) (List.mem_map.2 ⟨x,hx,rfl⟩))
   rw [hp] at hkb ⊢
   unfold spaceR
   repeat first|with_reducible refine kc ?_|((with_reducible first|refine kr ?_ ?_|refine kt ?_ ?_);exact rfl)|((with_reducible refine kf ?_ ?_);exact rfl)|simp only [go_sem,sevalprocAttr,reduceCtorEq,minMaxW]|simp (disch:=omega) only [wz]|with_reducible_and_instances exact finR|((with_reducible refine finR' ?_ ?_)<;> rfl)|((with_reducible refine finD hsc (NRel.of_plain ?_));exact rfl)
  ·intro a ha hn
   obtain ⟨x,hx,rfl⟩:=List.mem_map.1 ha
   have hv2:=hv.snoc hx hn
   have hvl2:=hv2.len h.mis.len
   rw [List.length_append,List.length_singleton] at hvl2
   have hxb:=hbz x hx
   have hsn:(keptB (vis.map (·.1)++[x.1]):Int)=(keptB (vis.map (·.1)):Int)+(x.1.2.body.length:Int):=by rw [keptB_snoc,Int.natCast_add]
   have hfe:=find_ent (by rw [z1];exact h.mis.nodup) hx
   unfold esOf at hm
   repeat first|with_reducible refine kc ?_|((with_reducible first|refine kr ?_ ?_|refine kt ?_ ?_);exact rfl)|((with_reducible refine kf ?_ ?_);exact rfl)|simp only [go_sem,sevalprocAttr,reduceCtorEq,hgetl,hml,hm,hfe,entV,Sg.v,Sg.c,sgC,List.getLast?_concat]|simp (disch:=omega) only [wz]|with_reducible_and_instances exact finR|((with_reducible refine finR' ?_ ?_)<;> rfl)|((with_reducible refine finD hsc (NRel.of_plain ?_));exact rfl)
   refine ⟨(vis++[x],R++ [.cells [.int .i64 x.1.2.kind,.int .i64 x.1.2.conn,.int .i64 x.1.2.seq,.int .i64 x.1.2.ack,.int .i64 x.1.2.window,.string (bs x.1.2.marks),.string (bs x.1.2.body),.int .i64 x.1.2.time,.int .i64 x.1.2.late] ⟨44,0,true,0,none⟩]),?_,hv2,?_⟩
   ·simp only [List.map_append,List.map_cons,List.map_nil,hsn]
    exact Weak.env (by simp [envIn,lk_cons,wth_some];omega)
   ·simp;omega
end Go.Proofs.Ytdgmcckfdgnicaa
