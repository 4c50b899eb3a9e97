/-
 Passing what came in order.
-/
import Derived.Test.YtdgmcckfdgnicaaUMM
set_option linter.unusedVariables false
set_option linter.unusedSimpArgs false
set_option maxRecDepth 20000
set_option maxHeartbeats 8000000
namespace Go.Proofs.Ytdgmcckfdgnicaa
open Go Go.Aw Go.Proofs
def passStep (s:E) (p:Sg):E:={s with kept:=s.kept.filter (fun x=>x.1 != (s.base+1)%65536),base:=(s.base+1)%65536,ready:=s.ready++p.body,ended:=p.kind==4}
def passGo:Nat→E→E
 |0,s=>s
 |f+1,s=>match kept? s.kept ((s.base+1)%65536) with
  |none=>s
  |some p=>if s.ended=true then s else passGo f (passStep s p)
theorem kept_filter {l:List (Int×Sg)} {k:Int} {p:Sg} (h:kept? l k=some p):(l.filter fun x=>x.1 != k).length<l.length:=by
 unfold kept? at h
 rw [Option.map_eq_some_iff] at h
 obtain ⟨x,hx,_⟩:=h
 have hm:=List.mem_of_find?_eq_some hx
 have hk:=List.find?_some hx
 refine Nat.lt_of_le_of_ne (List.length_filter_le _ _) fun e=> ?_
 have:=List.length_filter_eq_length_iff.1 e x hm
 simp only [bne_iff_ne,ne_eq] at this
 exact this (by simpa using hk)
theorem passGo_fuel:∀{f g:Nat} {s:E},s.kept.length<f→s.kept.length<g→passGo f s=passGo g s
 |0,g,s,h,_=>by omega
 |f+1,0,s,_,h=>by omega
 | f+1,g+1,s,h1,h2=>by
  unfold passGo
  cases hk:kept? s.kept ((s.base+1)%65536) with
  |none=>rfl
  |some p=>
   have hlt:(passStep s p).kept.length<s.kept.length:=kept_filter hk
   dsimp only
   rw [passGo_fuel (f:=f) (g:=g) (s:=passStep s p) (by omega) (by omega)]
theorem keptB_filter {k:Int} {p:Sg}:∀{l:List (Int×Sg)},kept? l k=some p→keptB (l.filter fun x=>x.1 != k)+p.body.length≤keptB l
 |[],h=>by simp [kept?] at h
 | x::l,h=>by
  have hle:∀l:List (Int×Sg),keptB (l.filter fun x=>x.1 != k)≤keptB l:=fun l=>by
   induction l with
   |nil=>simp [keptB]
   |cons y l ih=>
    rw [List.filter_cons]
    unfold keptB at*
    split<;> simp only [List.map_cons,List.sum_cons]<;> omega
  unfold kept? at h
  rw [List.find?_cons] at h
  by_cases hx:x.1=k
  ·rw [show (x.1==k)=true from by simp [hx]] at h
   have hp:x.2=p:=by simpa using h
   rw [List.filter_cons,if_neg (by simp [hx])]
   have:=hle l
   unfold keptB at*
   rw [List.map_cons,List.sum_cons,hp]
   omega
  ·rw [show (x.1==k)=false from by simpa using hx] at h
   have ih:=keptB_filter (l:=l) (k:=k) (p:=p) h
   rw [List.filter_cons,if_pos (by simpa using hx)]
   unfold keptB at*
   rw [List.map_cons,List.sum_cons,List.map_cons,List.sum_cons]
   omega
def passR (s:E):E:=passGo (s.kept.length+1) s
theorem EndI.setMap {H:AHeap} {e:Nat} {s:E} {q:Q} (h:EndI H e s q) {st2:List Nat} {ck2:Nat} {l2:List (Int×Sg)} (hm:MapIs st2 ck2 l2):EndI (H.set q.m (.amap (esOf l2 st2) ck2 true)) e {s with kept:=l2} {q with st:=st2,ck:=ck2}:=by
 have hF:Frm [q.m] H (H.set q.m (.amap (esOf l2 st2) ck2 true)):=Frm.set (Frm.refl _ _) (.inl (List.mem_singleton.2 rfl))
 have hnd:=h.nodup
 unfold Q.names at hnd
 rw [List.nodup_cons,List.nodup_cons] at hnd
 have hn:∀j∈q.wj++(q.fj++(q.wn++q.fn)),j∉[q.m]:=fun j hj hm=>hnd.2.1 (List.mem_singleton.1 hm ▸ hj)
 exact
 {cell:=hF.get h.cell (fun hm=>hnd.1 (by rw [List.mem_singleton.1 hm];exact List.mem_cons_self ..))
  wrow:=h.wrow.frm hF fun j hj=>hn j (by simp [hj])
  frow:=h.frow.frm hF fun j hj=>hn j (by simp [hj])
  wpk:=h.wpk.frm hF fun j hj=>hn j (by simp [hj])
  fpk:=h.fpk.frm hF fun j hj=>hn j (by simp [hj])
  map:=List.getElem?_set_self (lt_of_get h.map)
  mis:=hm
  nodup:=h.nodup}
theorem pass {H:AHeap} {e:Nat} {s:E} {q:Q} (h:EndI H e s q) (hb:0≤s.base∧s.base<65536) (hR:s.ready.length+keptB s.kept<1099511627776):AC Try.prog 74 [ptr e] H (fun r H2=>r= .ret noVal∧Steps H e q (passR s) H2):=by
 refine AC.enter Try.func74 rfl (by kernel_rfl) 60 rfl [] rfl (by simp) fun hsc B=> ?_
 repeat first|with_reducible refine kc ?_|((with_reducible first|refine kr ?_ ?_|refine kt ?_ ?_);exact rfl)|((with_reducible refine kf ?_ ?_);exact rfl)|simp only [go_sem,sevalprocAttr,reduceCtorEq]|simp (disch:=omega) only [wz]
 refine AWP.loopP (fun s2:E×AHeap=>⟨[(0,ptr e)],[],s2.2⟩) (fun s2=>Steps H e q s2.1 s2.2∧(0≤s2.1.base∧s2.1.base<65536)∧passR s=passR s2.1∧s2.1.ready.length+keptB s2.1.kept<1099511627776) (fun s2=>s2.1.kept.length) (s,H) ?_ ⟨Steps.refl h,hb,rfl,hR⟩ ?_
 ·exact Weak.env (by simp [envIn,lk_cons,wth_some])
 rintro ⟨s1,H1⟩ ⟨⟨q1,h1,hF1,hn1⟩,hb1,hpr,hR1⟩
 simp only at h1 hF1 hb1 hpr hR1
 have hc1:=h1.cell
 have hcl1:=lt_of_get hc1
 simp only [endC] at hc1
 have hm1:=h1.map
 have hml1:=lt_of_get hm1
 have hget:=mGet_esOf (k:=(s1.base+1)%65536) h1.mis.len
 have hkb:=keysB_esOf s1.kept q1.st
 have hw1:IntKind.i64.wrap (s1.base+1)=s1.base+1:=IntWalk.i64_in _ (by omega)
 have hn:(s1.base+1).tmod 65536=(s1.base+1)%65536:=Int.tmod_eq_emod_of_nonneg (by omega)
 cases hk:kept? s1.kept ((s1.base+1)%65536) with
 |none=>
  rw [hk] at hget
  simp only [Option.map_none] at hget
  repeat first|with_reducible refine kc ?_|((with_reducible first|refine kr ?_ ?_|refine kt ?_ ?_);exact rfl)|((with_reducible refine kf ?_ ?_);exact rfl)|simp only [go_sem,sevalprocAttr,reduceCtorEq,hc1,hm1,hn,hget,hw1,Option.getD_none,Option.isSome_none]|simp (disch:=omega) only [wz]
  refine ⟨hkb,?_⟩
  repeat first|with_reducible refine kc ?_|((with_reducible first|refine kr ?_ ?_|refine kt ?_ ?_);exact rfl)|((with_reducible refine kf ?_ ?_);exact rfl)|simp only [go_sem,sevalprocAttr,reduceCtorEq,hc1,hm1,hn,hget,hw1,Option.getD_none,Option.isSome_none]|simp (disch:=omega) only [wz]
  refine ⟨_,_,.refl _ _ _,rfl,?_⟩
  rw [hpr]
  unfold passR passGo
  rw [hk]
  exact ⟨q1,h1.more _,hF1.more,hn1⟩
 | some p=>
  rw [hk] at hget
  simp only [Option.map_some] at hget
  cases hend:s1.ended with
  |true=>
   repeat first|with_reducible refine kc ?_|((with_reducible first|refine kr ?_ ?_|refine kt ?_ ?_);exact rfl)|((with_reducible refine kf ?_ ?_);exact rfl)|simp only [go_sem,sevalprocAttr,reduceCtorEq,hc1,hm1,hn,hget,hw1,hend,Sg.v,Sg.c,sgC,Option.getD_some,Option.isSome_some,hgetl,hcl1,hml1]|simp (disch:=omega) only [wz]
   refine ⟨hkb,?_⟩
   repeat first|with_reducible refine kc ?_|((with_reducible first|refine kr ?_ ?_|refine kt ?_ ?_);exact rfl)|((with_reducible refine kf ?_ ?_);exact rfl)|simp only [go_sem,sevalprocAttr,reduceCtorEq,hc1,hm1,hn,hget,hw1,hend,Sg.v,Sg.c,sgC,Option.getD_some,Option.isSome_some,hgetl,hcl1,hml1]|simp (disch:=omega) only [wz]
   refine ⟨_,_,.refl _ _ _,rfl,?_⟩
   rw [hpr]
   unfold passR passGo
   rw [hk]
   dsimp only
   rw [if_pos hend]
   exact ⟨q1,h1.more _,hF1.more,hn1⟩
  | false=>
   repeat first|with_reducible refine kc ?_|((with_reducible first|refine kr ?_ ?_|refine kt ?_ ?_);exact rfl)|((with_reducible refine kf ?_ ?_);exact rfl)|simp only [go_sem,sevalprocAttr,reduceCtorEq,hc1,hm1,hn,hget,hw1,hend,Sg.v,Sg.c,sgC,Option.getD_some,Option.isSome_some,hgetl,hcl1,hml1]|simp (disch:=omega) only [wz]
   refine ⟨hkb,?_⟩
   repeat first|with_reducible refine kc ?_|((with_reducible first|refine kr ?_ ?_|refine kt ?_ ?_);exact rfl)|((with_reducible refine kf ?_ ?_);exact rfl)|simp only [go_sem,sevalprocAttr,reduceCtorEq,hc1,hm1,hn,hget,hw1,hend,Sg.v,Sg.c,sgC,Option.getD_some,Option.isSome_some,hgetl,hcl1,hml1]|simp (disch:=omega) only [wz]
   refine ⟨hkb,?_⟩
   obtain ⟨st2,hdel,hmis2⟩:=h1.mis.del (k:=(s1.base+1)%65536)
   have h1m:=h1.more [.cells [.int .i64 p.kind,.int .i64 p.conn,.int .i64 p.seq,.int .i64 p.ack,.int .i64 p.window,.string (bs p.marks),.string (bs p.body),.int .i64 p.time,.int .i64 p.late] ⟨44,0,true,0,none⟩]
   have h2:=h1m.setMap hmis2
   have hmn:q1.m≠e:=h1.ne (by simp)
   obtain ⟨H2,hH2⟩:∃H2,(H1++[AObj.cells [.int .i64 p.kind,.int .i64 p.conn,.int .i64 p.seq,.int .i64 p.ack,.int .i64 p.window,.string (bs p.marks),.string (bs p.body),.int .i64 p.time,.int .i64 p.late] ⟨44,0,true,0,none⟩]).set q1.m (.amap (esOf (s1.kept.filter fun x=>x.1 != (s1.base+1)%65536) st2) q1.ck true)=H2:=⟨_,rfl⟩
   rw [hH2] at h2
   have hS2:H2[H1.length]? =some (.cells [.int .i64 p.kind,.int .i64 p.conn,.int .i64 p.seq,.int .i64 p.ack,.int .i64 p.window,.string (bs p.marks),.string (bs p.body),.int .i64 p.time,.int .i64 p.late] ⟨44,0,true,0,none⟩):=by
    rw [← hH2,List.getElem?_set_ne (by omega)];simp
   have hF2:Frm (q1.names e) H1 H2:=by
    rw [← hH2]
    exact (Frm.app (S:=q1.names e)).set (.inl (by simp [Q.names]))
   have hc2:=h2.cell
   simp only [endC] at hc2
   have hcl2:=lt_of_get hc2
   have hse:∀o,(H2.set e o)[H1.length]? =H2[H1.length]? :=fun o=>List.getElem?_set_ne (by omega)
   have hSP:=Steps.trans h1 hF1 hn1 (Steps.trans h2 hF2 (fun j hj=> .inl hj) (Steps.put h2 (passStep s1 p) q1.told rfl rfl rfl))
   simp only [endC] at hSP
   have hkB:=keptB_filter hk
   have hlen2:s1.ready.length+p.body.length≤9223372036854775807:=by omega
   repeat first|with_reducible refine kc ?_|((with_reducible first|refine kr ?_ ?_|refine kt ?_ ?_);exact rfl)|((with_reducible refine kf ?_ ?_);exact rfl)|simp only [go_sem,sevalprocAttr,reduceCtorEq,hdel,hH2,hc2,hcl2]|simp (disch:=omega) only [wz]
   apply AWP.regionX [11] [(0,0),(0,0),(0,0),(0,0),(0,0),(0,0),(0,0),(0,0),(0,0),(0,0),(0,0),(0,0)] [42,43,44,45,46,47,48,49,50,51,52] [_] [(42,_),(43,_),(44,_),(45,_),(46,_),(47,_),(48,_),(49,_),(50,_),(51,_),(52,_)]
   ·kernel_rfl
   ·kernel_rfl
   ·kernel_rfl
   ·kernel_rfl
   ·rfl
   ·simp only [eachB,runB]
    repeat' with_reducible refine And.intro ?_ ?_
    all_goals try (
     repeat' first
      |with_reducible refine And.intro ?_ ?_|with_reducible refine kc ?_|((with_reducible first|refine kr ?_ ?_|refine kt ?_ ?_);exact rfl)|((with_reducible refine kf ?_ ?_);exact rfl)|simp only [go_sem,sevalprocAttr,reduceCtorEq,hc2,hcl2,hse,hS2,hlen2,stepS,hpL,List.getD_cons_zero,List.getD_cons_succ,List.contains_cons,List.contains_nil,and_imp,forall_eq,implies_true,List.map_cons,List.map_nil]|simp (disch:=omega) only [wz]
      |exact rfl
     done)
    all_goals (
     repeat' first
      |with_reducible refine And.intro ?_ ?_|with_reducible refine kc ?_|((with_reducible first|refine kr ?_ ?_|refine kt ?_ ?_);exact rfl)|((with_reducible refine kf ?_ ?_);exact rfl)|simp only [go_sem,sevalprocAttr,reduceCtorEq,hc2,hcl2,hse,hS2,hlen2,stepS,hpL,List.getD_cons_zero,List.getD_cons_succ,List.contains_cons,List.contains_nil,and_imp,forall_eq,implies_true,List.map_cons,List.map_nil]|simp (disch:=omega) only [wz]
      |exact rfl)
   repeat first|with_reducible refine kc ?_|((with_reducible first|refine kr ?_ ?_|refine kt ?_ ?_);exact rfl)|((with_reducible refine kf ?_ ?_);exact rfl)|simp only [go_sem,sevalprocAttr,reduceCtorEq,hc2,hcl2,hse,hS2]|simp (disch:=omega) only [wz]
   have hkl:=kept_filter hk
   refine ⟨(passStep s1 p,_),Weak.env (by simp [envIn,lk_cons,wth_some]),hSP,by simp only [passStep];omega,by simp only [passStep];omega,?_,by simp only [passStep,List.length_append];omega,hkl⟩
   rw [hpr]
   unfold passR
   rw [passGo,hk]
   dsimp only
   rw [if_neg (by rw [hend];decide)]
   exact passGo_fuel hkl (Nat.lt_succ_self _)
end Go.Proofs.Ytdgmcckfdgnicaa
