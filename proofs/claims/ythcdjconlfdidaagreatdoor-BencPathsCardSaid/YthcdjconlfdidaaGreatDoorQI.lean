/-
 The walk of what Set does at a path's end.
-/
import Derived.Test.YthcdjconlfdidaaGreatDoorQGM
set_option linter.unusedVariables false
set_option linter.unusedSimpArgs false
set_option maxRecDepth 20000
set_option maxHeartbeats 4000000
namespace Go.Proofs.YthcdjconlfdidaaGreatDoor
open Go Go.Aw Go.Proofs
theorem RdL.set {H:AHeap}:∀{l:List BV} {css:List (List Value)} {i:Nat} {x:BV} {c:List Value},RdL H l css→RdV H x c→RdL H (l.set i x) (css.set i c)
 |[],css,i,x,c,h,hx=>by unfold RdL at h;rw [h];simp;unfold RdL;rfl
 |v::l,css,0,x,c,h,hx=>by
  unfold RdL at h
  obtain ⟨cs,r,rfl,h1,h2⟩:=h
  rw [List.set_cons_zero,List.set_cons_zero];unfold RdL
  exact ⟨c,r,rfl,hx,h2⟩
 |v::l,css,i+1,x,c,h,hx=>by
  unfold RdL at h
  obtain ⟨cs,r,rfl,h1,h2⟩:=h
  rw [List.set_cons_succ,List.set_cons_succ];unfold RdL
  exact ⟨cs,r.set i c,rfl,h1,RdL.set h2 hx⟩
theorem RdL.ins {H:AHeap}:∀{l:List BV} {css:List (List Value)} {i:Nat} {x:BV} {c:List Value},RdL H l css→RdV H x c→RdL H (insAt l i x) (insAt css i c)
 |[],css,i,x,c,h,hx=>by
  unfold RdL at h;rw [h];unfold insAt;simp;unfold RdL;exact ⟨c,[],rfl,hx,by unfold RdL;rfl⟩
 |v::l,css,0,x,c,h,hx=>by
  show RdL H (x::v::l) (insAt css 0 c)
  unfold insAt;rw [List.take_zero,List.drop_zero,List.nil_append]
  unfold RdL;exact ⟨c,css,rfl,hx,h⟩
 |v::l,css,i+1,x,c,h,hx=>by
  unfold RdL at h
  obtain ⟨cs,r,rfl,h1,h2⟩:=h
  have:=RdL.ins (i:=i) h2 hx
  unfold insAt at this ⊢
  rw [List.take_succ_cons,List.take_succ_cons,List.drop_succ_cons,List.drop_succ_cons,List.cons_append,List.cons_append]
  unfold RdL;exact ⟨cs,_,rfl,h1,this⟩
theorem RdL.erase {H:AHeap}:∀{l:List BV} {css:List (List Value)} {i:Nat},RdL H l css→RdL H (l.eraseIdx i) (css.eraseIdx i)
 |[],css,i,h=>by unfold RdL at h;rw [h];simp;unfold RdL;rfl
 |v::l,css,0,h=>by
  unfold RdL at h
  obtain ⟨cs,r,rfl,h1,h2⟩:=h
  exact h2
 |v::l,css,i+1,h=>by
  unfold RdL at h
  obtain ⟨cs,r,rfl,h1,h2⟩:=h
  rw [List.eraseIdx_cons_succ,List.eraseIdx_cons_succ];unfold RdL
  exact ⟨cs,r.eraseIdx i,rfl,h1,RdL.erase h2⟩
theorem OwnL.flats {ex:Bool} {H:AHeap}:∀{l:List BV} {css:List (List Value)} {S:List Nat},OwnL ex H l css S→css.flatten.all Go.Aw.flat=true
 |[],css,S,h=>by unfold OwnL at h;rw [h.1];rfl
 |v::l,css,S,h=>by
  unfold OwnL at h
  obtain ⟨cs,r,S1,S2,e,h1,h2,_⟩:=h
  rw [e,List.flatten_cons,List.all_append,h1.flat,h2.flats]
  rfl
def SetJ (tb:Nat) (x:BV) (csx:List Value) (H:AHeap):Prop:=GlobB H∧H[tb]? =some (.cells csx ⟨27,0,true,0,none⟩)∧RdV H x csx
theorem OwnT.rdK {H:AHeap} {l:List Tx} {v:Value} {lo:Nat} (h:OwnT H l v lo):∃S:List Nat,(∀ s∈S,lo≤s∧s<H.length)∧∀(H2:AHeap) (T:List Nat),(∀ s∈S,H2[s]? =H[s]?)→ (∀ s∈S,s∈T)→RdK (fz H2 T) 1 v (keyC l):=by
 rcases h with ⟨rfl,rfl⟩|⟨b,z,rfl,hb,hz,hbl⟩
 ·exact ⟨[],fun s hs=>by simp at hs,fun H2 T _ _=> .inl ⟨rfl,rfl⟩⟩
 ·refine ⟨[b],fun s hs=>by simp at hs;subst hs;exact ⟨hbl,lt_of_get hb⟩,fun H2 T h1 h2=> ?_⟩
  have hb2:=(h1 b (by simp)).trans hb
  rw [← strs_flat,←List.append_nil (keyC l).flatten] at hb2
  exact rd_rows hb2 hz (h2 b (by simp)) (fun c hc=>by
   unfold keyC at hc
   obtain ⟨x,_,rfl⟩:=List.mem_map.1 hc
   rfl) (keyC_len l) (Nat.le_refl _)
theorem set1 (tb lo:Nat) (htb:tb<lo) (x:BV) (csx:List Value):GoC true lo (SetJ tb x csx) 43 [.pointer (some ⟨tb,0,none⟩)] (setL x) (fun v t=>(stepR v t).2=0) where
 frm H H2 h hf:=⟨h.1.frm hf,hf.get h.2.1 (by simp),h.2.2.kept (Kept.frm hf (fun x hx=>by cases hx))⟩
 glob H h:=h.1
 call :=by
  rintro v t H b off cb cs kb S ⟨hG,hx,hRx⟩ hA ht
  have hI:=indexO hA.good t ht H hG _ _ hA.val
  have hx5:=hRx.len
  have hxf:=RdV_flat hRx
  have htx:List.take 5 csx=csx:=List.take_of_length_le (by omega)
  have hgood:=hA.good
  obtain ⟨hg,hb,hown,hfz,hesz,hcells,hlen,hO,hnd,hnb,hlb,hlo,hhi⟩:=hA
  have hfl:=hO.flat
  have hc5:=hO.len
  have htb2:tb≠b:=by omega
  obtain ⟨ke,kz,ko,kf,kg⟩:=kb
  dsimp only at hown hfz hesz
  subst hown;subst hfz;subst hesz
  obtain ⟨A,Bt,rfl,hAl⟩:=split5 hcells hlen
  have hput0:∀new:List Value,new.length=5→putCells (A++(cs++Bt)) off new=A++(new++Bt):=fun new h=>put_mid0 hAl (by omega)
  have hsame:putCells (A++(cs++Bt)) off cs=A++(cs++Bt):=hput0 cs hc5
  have hat:∀j,j<5→(A++(cs++Bt))[off+j]? =cs[j]? :=fun j hj=>mid_get hAl (by omega)
  have hO':=hO
  obtain ⟨k,n,s,kids,keys⟩:=v
  unfold OwnV at hO
  obtain ⟨vs,a,css,Sb,Sk,rfl,h1,h2,h3,rfl⟩:=hO
  have hal:=lt_of_get h1
  have hbl:=lt_of_get hb
  have hab:a≠b:=fun e=>hnb (by simp [e])
  have hc55:=h3.all5
  have hcl:=h3.len
  have hcfl:=flat_len hc55
  have hat3:=hat 3 (by omega)
  have hat4:=hat 4 (by omega)
  have hat0:=hat 0 (by omega)
  simp only [List.getElem?_cons_zero,List.getElem?_cons_succ,Nat.add_zero] at hat3 hat4 hat0
  have htx5:List.take 5 (List.drop off (A++([.int .i64 k,.int .i64 n,.string (bs s),.slice (some ⟨a,0,none⟩) kids.length kids.length,vs]++Bt)))= [.int .i64 k,.int .i64 n,.string (bs s),.slice (some ⟨a,0,none⟩) kids.length kids.length,vs]:=hcells
  unfold setL
  by_cases e0:(stepR (.mk k n s kids keys) t).2=0
  ·obtain ⟨i,hi,hie⟩:=stepR_ok hgood.form e0
   rw [if_pos e0,hie,Int.toNat_natCast]
   rw [hie,e0] at hI
   have hi':i<kids.length:=hi
   have hi2:(i:Int)<(kids.length:Int):=by omega
   obtain ⟨ci,S1,k1,k2,k3,k5,k4⟩:=h3.put (List.getElem?_eq_getElem hi')
   generalize hCB:A++([.int .i64 k,.int .i64 n,.string (bs s),.slice (some ⟨a,0,none⟩) kids.length kids.length,vs]++Bt)=CB at*
   have hps:putCells css.flatten (i*5) csx=(css.set i csx).flatten:=flat_set hc55 hx5 (by omega)
   have hle5:i*5+5≤css.flatten.length:=by rw [hcfl];omega
   refine AC.enter Tryz.func43 rfl (by kernel_rfl) 106 rfl [.tmp 5] rfl (by simp) fun hsc B=> ?_
   repeat first|with_reducible refine kc ?_|((with_reducible first|refine kr ?_ ?_|refine kt ?_ ?_);exact rfl)|((with_reducible refine kf ?_ ?_);exact rfl)|with_reducible refine hI.use ?_|simp only [go_sem,sevalprocAttr,reduceCtorEq,hb,htx5,hlen]|simp (disch:=omega) only [wz]
   refine AWP.regionK 6 (by kernel_rfl) (by decide) (by kernel_rfl) ?_
   repeat first|with_reducible refine kc ?_|((with_reducible first|refine kr ?_ ?_|refine kt ?_ ?_);exact rfl)|((with_reducible refine kf ?_ ?_);exact rfl)|simp only [go_sem,sevalprocAttr,reduceCtorEq,hb,hat3,hi2,hx,htx,hx5,h1,hxf,hle5]|simp (disch:=omega) only [wz]
   rw [List.nodup_cons,List.nodup_append] at hnd
   have hak:a∉Sk:=fun h=>hnd.1 (by simp [h])
   have h5s:∀c∈css.set i csx,c.length=5:=fun c hc=>by
    rcases List.mem_or_eq_of_mem_set hc with h|rfl
    ·exact hc55 c h
    ·exact hx5
   refine ⟨_,_,.refl _ _ _,_,a::(Sb++Sk),rfl,rfl,hfl,by rw [List.getElem?_set_ne hab,hsame];exact hb,fun s hs=> .inl hs,Kept.set h1 rfl _,by simp,fun j hj _ h=>List.getElem?_set_ne (fun e=>h (by simp [e])),fun _=>rfl,fun _ T hT=> ?_⟩
   unfold withL
   unfold RdV
   refine ⟨_,vs,css.set i csx,rfl,rd_rows (C:=[]) (k:=⟨27,0,true,0,none⟩) (by rw [List.append_nil,List.getElem?_set_self hal,hps]) (.inr rfl) (hT a (by simp)) h5s (by simp [hcl]) (Nat.le_refl _),?_,?_⟩
   ·exact k4 T _ x csx (Kept.set h1 rfl _) (fun s hs _=>List.getElem?_set_ne (fun e=>hak (by rw [e];exact hs))) hnd.2.2.1 (fun s hs _=>hT s (by simp [hs])) (hRx.kept (Kept.trans (Kept.set h1 rfl _) (fz_kept _ _)))
   ·exact (h2.same (fun s hs=>List.getElem?_set_ne (fun e=>hnd.1 (by simp [e,hs]))) (Kept.set h1 rfl _)).rd (fun s hs=>hT s (by simp [hs]))
  rw [if_neg e0]
  have hSb:Sb=[]:=by
   rcases h2 with ⟨_,_,h⟩|⟨_,_,_,_,_,_,h⟩
   ·exact h
   ·simpa using h
  subst hSb
  have hvf:=h2.flat
  have hRk:RdK H 1 vs (keyC keys):=h2.rd (T:=[]) (fun s hs=>by cases hs)
  have hsz:=hgood.sz
  unfold szV at hsz
  obtain ⟨z,hz⟩:∃z,z=(stepR (.mk k n s kids keys) t).1:=⟨_,rfl⟩
  rw [← hz] at hI
  by_cases e8:(stepR (.mk k n s kids keys) t).2=8∧k=4
  ·rw [if_pos (show _∧(BV.mk k n s kids keys).kind=4 from e8)]
   obtain ⟨e8,rfl⟩:=e8
   rw [e8] at hI
   obtain ⟨hasc,hkl⟩:=form_asc hgood.form rfl
   obtain ⟨i,hlow,hS⟩:=BSearch keys t (by omega) hasc vs H hRk
   have hil:=low_at hlow
   have hile:=hlow.le
   show AC _ _ _ _ (ChP (withL (.mk 4 n s kids keys) (insAt kids (lowAt keys t) x) (insAt keys (lowAt keys t) t),0) _ _ _ _ _ _ _ _)
   rw [← hil]
   have hpm4:∀v':Value,putCells (A++([.int .i64 4,.int .i64 n,.string (bs s),.slice (some ⟨a,0,none⟩) kids.length kids.length,vs]++Bt)) (off+4) [v']=A++([.int .i64 4,.int .i64 n,.string (bs s),.slice (some ⟨a,0,none⟩) kids.length kids.length,v']++Bt):=fun v'=>put_mid hAl (by simp)
   have hpm3:∀v' u':Value,putCells (A++([.int .i64 4,.int .i64 n,.string (bs s),.slice (some ⟨a,0,none⟩) kids.length kids.length,v']++Bt)) (off+3) [u']=A++([.int .i64 4,.int .i64 n,.string (bs s),u',v']++Bt):=fun v' u'=>put_mid hAl (by simp)
   have hat3':∀v':Value,(A++([.int .i64 4,.int .i64 n,.string (bs s),.slice (some ⟨a,0,none⟩) kids.length kids.length,v']++Bt))[off+3]? =some (.slice (some ⟨a,0,none⟩) kids.length kids.length):=fun v'=>mid_get hAl (by simp)
   have hlen':∀v':Value,off+5≤(A++([.int .i64 4,.int .i64 n,.string (bs s),.slice (some ⟨a,0,none⟩) kids.length kids.length,v']++Bt)).length:=fun v'=>by simp;omega
   obtain ⟨CB,hCB⟩:∃CB:Value→List Value,∀v':Value,A++([.int .i64 4,.int .i64 n,.string (bs s),.slice (some ⟨a,0,none⟩) kids.length kids.length,v']++Bt)=CB v':=⟨_,fun _=>rfl⟩
   have hpm3':∀v' u':Value,putCells (CB v') (off+3) [u']=A++([.int .i64 4,.int .i64 n,.string (bs s),u',v']++Bt):=fun v' u'=>by rw [← hCB];exact hpm3 v' u'
   simp only [hCB] at hb hlen htx5 hat0 hat3 hat4 hat3' hlen' hpm4 hsame ⊢
   have hl5:=hlen' vs
   have hle4:off+4+1≤(CB vs).length:=by omega
   obtain ⟨H1,hH1⟩:∃H1:AHeap,H1=H++ [.cells [.string (bs t)] ⟨9,0,true,0,none⟩]:=⟨_,rfl⟩
   have hn1:H1[H.length]? =some (.cells [.string (bs t)] ⟨9,0,true,0,none⟩):=by rw [hH1,hget0 rfl];rfl
   have hk1:Kept H H1:=by rw [hH1];exact .more _ _
   have hf1:Frm [] H H1:=by rw [hH1];exact Frm.app
   have hIT:=InsertT keys i t hile (by omega) H1 vs (h2.same (fun s hs=>by cases hs) hk1) H.length _ hn1
   refine AC.enter Tryz.func43 rfl (by kernel_rfl) 106 rfl [.tmp 5] rfl (by simp) fun hsc B=> ?_
   repeat first|with_reducible refine kc ?_|((with_reducible first|refine kr ?_ ?_|refine kt ?_ ?_);exact rfl)|((with_reducible refine kf ?_ ?_);exact rfl)|with_reducible (first|refine hI.use ?_|refine hS.use ?_)|simp only [go_sem,sevalprocAttr,reduceCtorEq,hb,htx5,hlen,hat0,hat4]|simp (disch:=omega) only [wz]
   rw [← hH1]
   refine AC.mono hIT ?_
   rintro res H2 ⟨v',rfl,hOT,hf2⟩
   have hf02:Frm [] H H2:=hf1.trans hf2 (fun x hx=>by cases hx)
   have hb2:=hf02.get hb (by simp)
   have hl12:=hf2.1
   have hl1:H1.length=H.length+1:=by rw [hH1];simp
   have hx2:=hf02.get hx (by simp)
   have hh1:=hf02.get h1 (by simp)
   have hbl2:=lt_of_get hb2
   have hvf2:flat v'=true:=by rcases hOT with ⟨_,rfl⟩|⟨_,_,rfl,_⟩<;> rfl
   have hcv2:cellsOf v'=[v']:=by rcases hOT with ⟨_,rfl⟩|⟨_,_,rfl,_⟩<;> rfl
   have hl5':=hlen' v'
   have hle3:off+3+1≤(CB v').length:=by omega
   repeat first|with_reducible refine kc ?_|((with_reducible first|refine kr ?_ ?_|refine kt ?_ ?_);exact rfl)|((with_reducible refine kf ?_ ?_);exact rfl)|simp only [go_sem,sevalprocAttr,reduceCtorEq,hb2,hvf2,hcv2,hle4,hpm4]|simp (disch:=omega) only [wz]
   refine ⟨hvf2,?_⟩
   obtain ⟨H3,hH3⟩:∃H3:AHeap,H3=H2.set b (.cells (CB v') ⟨ke,0,true,0,kg⟩):=⟨_,rfl⟩
   have hl3:H3.length=H2.length:=by rw [hH3,List.length_set]
   have hb3:H3[b]? =some (.cells (CB v') ⟨ke,0,true,0,kg⟩):=by rw [hH3,List.getElem?_set_self hbl2]
   have hx3:H3[tb]? =some (.cells csx ⟨27,0,true,0,none⟩):=by rw [hH3,List.getElem?_set_ne (Ne.symm htb2)];exact hx2
   have hh3:H3[a]? =some (.cells css.flatten ⟨27,0,true,0,none⟩):=by rw [hH3,List.getElem?_set_ne (Ne.symm hab)];exact hh1
   rw [← hH3]
   obtain ⟨H4,hH4⟩:∃H4:AHeap,H4=H3++ [.cells csx ⟨27,0,true,0,none⟩]:=⟨_,rfl⟩
   have hl4:H4.length=H3.length+1:=by rw [hH4];simp
   have hb4:H4[b]? =some (.cells (CB v') ⟨ke,0,true,0,kg⟩):=by rw [hH4,hgetl (lt_of_get hb3)];exact hb3
   have hh4:H4[a]? =some (.cells css.flatten ⟨27,0,true,0,none⟩):=by rw [hH4,hgetl (lt_of_get hh3)];exact hh3
   have hn4:H4[H3.length]? =some (.cells csx ⟨27,0,true,0,none⟩):=by rw [hH4,hget0 rfl];rfl
   have hIV:=InsertV css hc55 h3.flats kids.length i hcl csx hx5 hxf (by omega) hsz.1 H4 a hh4 H3.length _ hn4
   obtain ⟨So,hSo,hOr⟩:=OwnT.rdK hOT
   have hset3:∀u':Value,(CB v').set (off+3) u'=A++([.int .i64 4,.int .i64 n,.string (bs s),u',v']++Bt):=fun u'=>hpm3' v' u'
   have hpe:∀u':Value,putCells (CB vs) off [.int .i64 4,.int .i64 n,.string (bs s),u',v']=A++([.int .i64 4,.int .i64 n,.string (bs s),u',v']++Bt):=fun u'=>by rw [← hCB];exact put_mid0 hAl rfl
   have hak:a∉Sk:=fun h=>(List.nodup_cons.1 hnd).1 (by simpa using h)
   have hl5s:∀c∈insAt css i csx,c.length=5:=fun c hc=>by
    unfold insAt at hc
    rcases List.mem_append.1 hc with h|h
    ·exact hc55 c (List.mem_of_mem_take h)
    ·rcases List.mem_cons.1 h with rfl|h
     ·exact hx5
     ·exact hc55 c (List.mem_of_mem_drop h)
   have hkc2:Kept H H2:=Kept.frm hf02 (fun x hx=>by cases hx)
   have hkc3:Kept H2 H3:=by rw [hH3];exact Kept.set hb2 rfl _
   have hkc4:Kept H3 H4:=by rw [hH4];exact .more _ _
   refine AWP.regionM 9 [4,6,7,8] [] (.both (.run [4,6,7,8]) (.step 6 (.both (.run [4,7,8]) (.run [7,4,8])))) (by kernel_rfl) (by decide) (by kernel_rfl) (by kernel_rfl) (by kernel_rfl) ?_
   have hput5:putCells [Value.int .i64 0,.int .i64 0,.string (bs []),.slice none 0 0,.slice none 0 0] 0 csx=csx:=putCells_all (by rw [hx5];rfl)
   have hgb:∀X:AHeap,(H3++X)[b]? =some (.cells (CB v') ⟨ke,0,true,0,kg⟩):=fun X=>by rw [hgetl (lt_of_get hb3)];exact hb3
   repeat' first|with_reducible refine canW_n ?_|with_reducible refine canW_m (by decide) ?_|((with_reducible apply canW_p (by decide));focus (intro H;(simp only [go_sem,sevalprocAttr,reduceCtorEq,hb3,hat3',hx3,htx,hx5,hxf,hput5,hgb,List.map_cons,List.map_nil]);exact rfl))|with_reducible refine memW_b ?_ ?_|with_reducible refine memW_s rfl ?_|with_reducible refine memW_r rfl ?_|with_reducible refine memW_e ?_|simp only [List.take_succ_cons,List.take_zero,List.drop_succ_cons,List.drop_zero]|omega|with_reducible refine And.intro ?_ ?_|with_reducible refine kc ?_|((with_reducible first|refine kr ?_ ?_|refine kt ?_ ?_);exact rfl)|((with_reducible refine kf ?_ ?_);exact rfl)|simp only [go_sem,sevalprocAttr,reduceCtorEq,hb3,hat3',hx3,htx,hx5,hxf,hput5,hgb,List.map_cons,List.map_nil]|simp (disch:=omega) only [wz]
   all_goals
    rw [← hH4]
    refine AC.mono hIV ?_
    rintro res H5 ⟨D,rfl,hD,hDl,hf5⟩
    have hb5:=hf5.get hb4 (by simp)
    have hbl5:=lt_of_get hb5
   repeat' first|with_reducible refine canW_n ?_|with_reducible refine canW_m (by decide) ?_|((with_reducible apply canW_p (by decide));focus (intro H;(simp only [go_sem,sevalprocAttr,reduceCtorEq,hb5,hle3,List.map_cons,List.map_nil]);exact rfl))|with_reducible refine memW_b ?_ ?_|with_reducible refine memW_s rfl ?_|with_reducible refine memW_r rfl ?_|with_reducible refine memW_e ?_|simp only [List.take_succ_cons,List.take_zero,List.drop_succ_cons,List.drop_zero]|omega|with_reducible refine And.intro ?_ ?_|with_reducible refine kc ?_|((with_reducible first|refine kr ?_ ?_|refine kt ?_ ?_);exact rfl)|((with_reducible refine kf ?_ ?_);exact rfl)|simp only [go_sem,sevalprocAttr,reduceCtorEq,hb5,hle3,List.map_cons,List.map_nil]|simp (disch:=omega) only [wz]
   repeat' first|with_reducible refine canW_n ?_|with_reducible refine canW_m (by decide) ?_|((with_reducible apply canW_p (by decide));focus (intro H;(simp only [go_sem,sevalprocAttr,reduceCtorEq,hb5,hle3,List.map_cons,List.map_nil]);exact rfl))|with_reducible refine memW_b ?_ ?_|with_reducible refine memW_s rfl ?_|with_reducible refine memW_r rfl ?_|with_reducible refine memW_e ?_|simp only [List.take_succ_cons,List.take_zero,List.drop_succ_cons,List.drop_zero]|omega|with_reducible refine And.intro ?_ ?_|with_reducible refine kc ?_|((with_reducible first|refine kr ?_ ?_|refine kt ?_ ?_);exact rfl)|((with_reducible refine kf ?_ ?_);exact rfl)|simp only [go_sem,sevalprocAttr,reduceCtorEq,hb5,hle3,List.map_cons,List.map_nil]|simp (disch:=omega) only [wz]
   all_goals
    rw [hset3]
    have hl45:=hf5.1
    have hl02:=hf02.1
    have hkF:∀o:AObj,Kept H (H5.set b o):=fun o=>((hkc2.trans hkc3).trans hkc4).trans ((Kept.frm hf5 (fun x hx=>by cases hx)).trans (Kept.set hb5 rfl _))
    have hF2:∀(o:AObj) (s:Nat),s<H2.length→s≠b→(H5.set b o)[s]? =H2[s]? :=fun o s h1 h2=>by
     rw [List.getElem?_set_ne (Ne.symm h2),hf5.2 s (by omega) (by simp),hH4,hgetl (by omega),hH3,List.getElem?_set_ne (Ne.symm h2)]
    have hF0:∀(o:AObj) (s:Nat),s<H.length→s≠b→(H5.set b o)[s]? =H[s]? :=fun o s h1 h2=>by
     rw [hF2 o s (by omega) h2];exact hf02.2 s h1 (by simp)
    refine ⟨_,_,.refl _ _ _,[.int .i64 4,.int .i64 n,.string (bs s),.slice (some ⟨D,0,none⟩) (kids.length+1) (kids.length+1),v'],D::(So++Sk),rfl,rfl,?_,?_,fun s hs=> ?_,hkF _,by rw [List.length_set];omega,fun j hj h1 h2=>hF0 _ j hj h1,fun h=>absurd h e0,fun _ T hT=> ?_⟩
    ·simp only [List.all_cons,List.all_nil,hvf2,Bool.and_true];rfl
    ·rw [hpe];exact List.getElem?_set_self hbl5
    ·rw [List.length_set]
     have hDlt:=lt_of_get hD
     simp only [List.mem_cons,List.mem_append] at hs
     rcases hs with rfl|h|h
     ·exact .inr (by omega)
     ·have:=hSo s h
      exact .inr (by omega)
     ·exact .inl (by simp [h])
    ·unfold withL
     unfold RdV
     have hDb:b≠D:=by omega
     have hik:i≤kids.length:=by omega
     refine ⟨_,v',insAt css i csx,rfl,rd_rows (C:=[]) (k:=⟨27,5,true,0,none⟩) (by rw [List.append_nil,List.getElem?_set_ne hDb];exact hD) (.inl rfl) (hT D (by simp)) hl5s (by rw [ins_len _ _ _ (by omega),hcl]) (Nat.le_refl _),?_,?_⟩
     ·exact RdL.ins ((h3.same (hkF _) (fun s hs=>hF0 _ s (hhi s (by simp [hs])) (fun e=>hnb (by simp [← e,hs])))).rd (fun s hs=>hT s (by simp [hs]))) (hRx.kept ((hkF _).trans (fz_kept _ _)))
     ·exact hOr _ T (fun s hs=>hF2 _ s (hSo s hs).2 (by have:=(hSo s hs).1;omega)) (fun s hs=>hT s (by simp [hs]))
  have hkd:(BV.mk k n s kids keys).kind=k:=rfl
  have hkk:(BV.mk k n s kids keys).kids=kids:=rfl
  have hky:(BV.mk k n s kids keys).keys=keys:=rfl
  rw [if_neg (by rw [hkd];exact e8),hkk,hky]
  obtain ⟨e,he⟩:∃e,e=(stepR (.mk k n s kids keys) t).2:=⟨_,rfl⟩
  rw [← he] at e0 hI e8 ⊢
  have he0:(e==0)=false:=by simpa using e0
  have hIt:=Itoa (kids.length:Nat) (by omega) (by omega) H hG.tab
  have hie:Lib.itoa (kids.length:Nat)=Lib.decDigits kids.length:=by unfold Lib.itoa;rw [if_neg (by omega)];rfl
  rw [hie] at hIt
  by_cases e9:e=8∧t=Lib.decDigits kids.length
  ·rw [if_pos e9]
   obtain ⟨rfl,e9⟩:=e9
   have hk4':(k==4)=false:=by
    rw [beq_eq_false_iff_ne]
    exact fun h=>e8 ⟨rfl,h⟩
   have hit:(t==Lib.decDigits kids.length)=true:=by simpa using e9
   have hpm3:∀u':Value,putCells (A++([.int .i64 k,.int .i64 n,.string (bs s),.slice (some ⟨a,0,none⟩) kids.length kids.length,vs]++Bt)) (off+3) [u']=A++([.int .i64 k,.int .i64 n,.string (bs s),u',vs]++Bt):=fun u'=>put_mid hAl (by simp)
   have hpe:∀u':Value,putCells (A++([.int .i64 k,.int .i64 n,.string (bs s),.slice (some ⟨a,0,none⟩) kids.length kids.length,vs]++Bt)) off [.int .i64 k,.int .i64 n,.string (bs s),u',vs]=A++([.int .i64 k,.int .i64 n,.string (bs s),u',vs]++Bt):=fun u'=>put_mid0 hAl rfl
   have hl5s:∀c∈css++[csx],c.length=5:=fun c hc=>by
    rcases List.mem_append.1 hc with h|h
    ·exact hc55 c h
    ·rw [List.mem_singleton.1 h];exact hx5
   have hput5:putCells [Value.int .i64 0,.int .i64 0,.string (bs []),.slice none 0 0,.slice none 0 0] 0 csx=csx:=putCells_all (by rw [hx5];rfl)
   have htkf:List.take (kids.length*5) css.flatten=css.flatten:=List.take_of_length_le (by rw [hcfl,hcl];exact Nat.le_refl _)
   generalize hCB:A++([.int .i64 k,.int .i64 n,.string (bs s),.slice (some ⟨a,0,none⟩) kids.length kids.length,vs]++Bt)=CB at*
   have hgb:∀X:AHeap,(H++X)[b]? =some (.cells CB ⟨ke,0,true,0,kg⟩):=fun X=>by rw [hgetl hbl];exact hb
   have hga:∀X:AHeap,(H++X)[a]? =some (.cells css.flatten ⟨27,0,true,0,none⟩):=fun X=>by rw [hgetl hal];exact h1
   have hgt:∀X:AHeap,(H++X)[tb]? =some (.cells csx ⟨27,0,true,0,none⟩):=fun X=>by rw [hgetl (lt_of_get hx)];exact hx
   have hle3:off+3+1≤CB.length:=by omega
   have hset3:∀u':Value,CB.set (off+3) u'=A++([.int .i64 k,.int .i64 n,.string (bs s),u',vs]++Bt):=fun u'=>hpm3 u'
   have fin:∀(HF:AHeap) (D:Nat),HF[b]? =some (.cells (CB.set (off+3) (.slice (some ⟨D,0,none⟩) (kids.length+1) (kids.length+1))) ⟨ke,0,true,0,kg⟩)→HF[D]? =some (.cells (css.flatten++csx) ⟨27,5,true,0,none⟩)→H.length≤D→ (∀ j,j<H.length→j≠b→HF[j]? =H[j]?)→
     ∃v2 H2,WeakV H.length HF (.int .i64 0) H2 v2∧ChP (withL (.mk k n s kids keys) (kids++[x]) keys,0) False H b off CB [.int .i64 k,.int .i64 n,.string (bs s),.slice (some ⟨a,0,none⟩) kids.length kids.length,vs] ⟨ke,0,true,0,kg⟩ (a::Sk) (.ret v2) H2:=fun HF D f1 f2 f3 f4=>by
    have hDl:=lt_of_get f2
    have hkF:Kept H HF:=fun j cs k' h ho=>by
     by_cases e:j=b
     ·subst e
      rw [hb] at h
      injection h with h
      injection h with h h'
      rw [← h'] at ho
      cases ho
     ·rw [f4 j (lt_of_get h) e];exact h
    refine ⟨_,_,.refl _ _ _,[.int .i64 k,.int .i64 n,.string (bs s),.slice (some ⟨D,0,none⟩) (kids.length+1) (kids.length+1),vs],D::Sk,rfl,rfl,?_,?_,fun s hs=> ?_,hkF,by omega,fun j hj h1 h2=>f4 j hj h1,False.elim,fun _ T hT=> ?_⟩
    ·simp only [List.all_cons,List.all_nil,hvf,Bool.and_true];rfl
    ·rw [hpe,←hset3];exact f1
    ·rcases List.mem_cons.1 hs with rfl|h
     ·exact .inr ⟨f3,hDl⟩
     ·exact .inl (by simp [h])
    ·unfold withL
     unfold RdV
     refine ⟨_,vs,css++[csx],rfl,rd_rows (C:=[]) (k:=⟨27,5,true,0,none⟩) (by rw [List.append_nil,List.flatten_append];simpa using f2) (.inl rfl) (hT D (by simp)) hl5s (by simp [hcl]) (Nat.le_refl _),?_,hRk.kept (hkF.trans (fz_kept _ _))⟩
     exact RdL.snoc ((h3.same hkF (fun s hs=>f4 s (hhi s (by simp [hs])) (fun e=>hnb (by simp [← e,hs])))).rd (fun s hs=>hT s (by simp [hs]))) (hRx.kept (hkF.trans (fz_kept _ _)))
   refine AC.enter Tryz.func43 rfl (by kernel_rfl) 106 rfl [.tmp 5] rfl (by simp) fun hsc B=> ?_
   repeat first|with_reducible refine kc ?_|((with_reducible first|refine kr ?_ ?_|refine kt ?_ ?_);exact rfl)|((with_reducible refine kf ?_ ?_);exact rfl)|with_reducible (first|refine hI.use ?_|refine hIt.use ?_)|simp only [go_sem,sevalprocAttr,reduceCtorEq,hb,htx5,hlen,hat0,hat3,hk4',hit]|simp (disch:=omega) only [wz]
   refine AWP.regionM 3 [0,1,2] [] (.step 0 (.both (.run [1,2]) (.run [2,1]))) (by kernel_rfl) (by decide) (by kernel_rfl) (by kernel_rfl) (by kernel_rfl) ?_
   repeat' first|with_reducible refine canW_n ?_|with_reducible refine canW_m (by decide) ?_|((with_reducible apply canW_p (by decide));focus (intro H;(simp only [go_sem,sevalprocAttr,reduceCtorEq,hgb,hga,hgt,hat3,htx,hx5,hxf,hput5,htkf,List.map_cons,List.map_nil]);exact rfl))|with_reducible refine memW_b ?_ ?_|with_reducible refine memW_s rfl ?_|with_reducible refine memW_r rfl ?_|with_reducible refine memW_e ?_|simp only [List.take_succ_cons,List.take_zero,List.drop_succ_cons,List.drop_zero]|omega|with_reducible refine And.intro ?_ ?_|with_reducible refine kc ?_|((with_reducible first|refine kr ?_ ?_|refine kt ?_ ?_);exact rfl)|((with_reducible refine kf ?_ ?_);exact rfl)|simp only [go_sem,sevalprocAttr,reduceCtorEq,hgb,hga,hgt,hat3,htx,hx5,hxf,hput5,htkf,List.map_cons,List.map_nil]|simp (disch:=omega) only [wz]
   ·refine AWP.regionM 8 [4,5,6,7] [] (.both (.run [4,5,6,7]) (.step 5 (.both (.run [4,6,7]) (.run [6,4,7])))) (by kernel_rfl) (by decide) (by kernel_rfl) (by kernel_rfl) (by kernel_rfl) ?_
    repeat' first|with_reducible refine canW_n ?_|with_reducible refine canW_m (by decide) ?_|((with_reducible apply canW_p (by decide));focus (intro H;(simp only [go_sem,sevalprocAttr,reduceCtorEq,hgb,hga,hgt,hat3,htx,hx5,hxf,hput5,htkf,List.map_cons,List.map_nil]);exact rfl))|with_reducible refine memW_b ?_ ?_|with_reducible refine memW_s rfl ?_|with_reducible refine memW_r rfl ?_|with_reducible refine memW_e ?_|simp only [List.take_succ_cons,List.take_zero,List.drop_succ_cons,List.drop_zero]|omega|with_reducible refine And.intro ?_ ?_|with_reducible refine kc ?_|((with_reducible first|refine kr ?_ ?_|refine kt ?_ ?_);exact rfl)|((with_reducible refine kf ?_ ?_);exact rfl)|simp only [go_sem,sevalprocAttr,reduceCtorEq,hgb,hga,hgt,hat3,htx,hx5,hxf,hput5,htkf,List.map_cons,List.map_nil]|simp (disch:=omega) only [wz]
    all_goals
     refine appendTo_x (hga _) rfl (by omega) (by rw [Nat.zero_add,hcfl,hcl];exact Nat.le_refl _) (by omega) (by omega) ?_
    repeat' first|with_reducible refine canW_n ?_|with_reducible refine canW_m (by decide) ?_|((with_reducible apply canW_p (by decide));focus (intro H;(simp only [go_sem,sevalprocAttr,reduceCtorEq,hgb,hga,hgt,hat3,htx,hx5,hxf,hput5,htkf,hle3,List.map_cons,List.map_nil]);exact rfl))|with_reducible refine memW_b ?_ ?_|with_reducible refine memW_s rfl ?_|with_reducible refine memW_r rfl ?_|with_reducible refine memW_e ?_|simp only [List.take_succ_cons,List.take_zero,List.drop_succ_cons,List.drop_zero]|omega|with_reducible refine And.intro ?_ ?_|with_reducible refine kc ?_|((with_reducible first|refine kr ?_ ?_|refine kt ?_ ?_);exact rfl)|((with_reducible refine kf ?_ ?_);exact rfl)|simp only [go_sem,sevalprocAttr,reduceCtorEq,hgb,hga,hgt,hat3,htx,hx5,hxf,hput5,htkf,hle3,List.map_cons,List.map_nil]|simp (disch:=omega) only [wz]
    repeat' first|with_reducible refine canW_n ?_|with_reducible refine canW_m (by decide) ?_|((with_reducible apply canW_p (by decide));focus (intro H;(simp only [go_sem,sevalprocAttr,reduceCtorEq,hgb,hga,hgt,hat3,htx,hx5,hxf,hput5,htkf,hle3,List.map_cons,List.map_nil]);exact rfl))|with_reducible refine memW_b ?_ ?_|with_reducible refine memW_s rfl ?_|with_reducible refine memW_r rfl ?_|with_reducible refine memW_e ?_|simp only [List.take_succ_cons,List.take_zero,List.drop_succ_cons,List.drop_zero]|omega|with_reducible refine And.intro ?_ ?_|with_reducible refine kc ?_|((with_reducible first|refine kr ?_ ?_|refine kt ?_ ?_);exact rfl)|((with_reducible refine kf ?_ ?_);exact rfl)|simp only [go_sem,sevalprocAttr,reduceCtorEq,hgb,hga,hgt,hat3,htx,hx5,hxf,hput5,htkf,hle3,List.map_cons,List.map_nil]|simp (disch:=omega) only [wz]
    all_goals
     refine fin _ (H.length+2) ?_ ?_ (by omega) ?_
     ·refine List.getElem?_set_self ?_
      rw [List.length_append];omega
     ·rw [List.getElem?_set_ne (by omega),hgetk rfl]
      rfl
     ·intro j h1 h2
      rw [List.getElem?_set_ne (Ne.symm h2),hgetl h1]
   ·refine appendTo_x (hga _) rfl (by omega) (by rw [Nat.zero_add,hcfl,hcl];exact Nat.le_refl _) (by omega) (by omega) ?_
    have hst:∀(X:AHeap) (o:AObj),((H++X).set b o)[tb]? =some (.cells csx ⟨27,0,true,0,none⟩):=fun X o=>by rw [List.getElem?_set_ne (Ne.symm htb2)];exact hgt X
    have hsD:∀(o1 o2 o3 o:AObj),((H++[o1,o2,o3]).set b o)[H.length+2]? =some o3:=fun o1 o2 o3 o=>by
     rw [List.getElem?_set_ne (by omega),hgetk rfl]
     rfl
    have hzl:css.flatten.length=kids.length*5:=by rw [hcfl,hcl]
    have hpd:putCells (css.flatten++[Value.int .i64 0,.int .i64 0,.string (bs []),.slice none 0 0,.slice none 0 0]) (kids.length*5) csx=css.flatten++csx:=by
     rw [put_row hzl.symm (by rw [hx5];exact Nat.le_refl _),hx5]
     simp
    repeat first|with_reducible refine kc ?_|((with_reducible first|refine kr ?_ ?_|refine kt ?_ ?_);exact rfl)|((with_reducible refine kf ?_ ?_);exact rfl)|simp only [go_sem,sevalprocAttr,reduceCtorEq,hgb,hga,hgt,hat3,htx,hx5,hxf,hput5,htkf,hle3]|simp (disch:=omega) only [wz]
    repeat first|with_reducible refine kc ?_|((with_reducible first|refine kr ?_ ?_|refine kt ?_ ?_);exact rfl)|((with_reducible refine kf ?_ ?_);exact rfl)|simp only [go_sem,sevalprocAttr,reduceCtorEq,hst,hsD,htx,hx5,hxf,hpd]|simp (disch:=omega) only [wz]
    refine ⟨by omega,by omega,?_⟩
    repeat first|with_reducible refine kc ?_|((with_reducible first|refine kr ?_ ?_|refine kt ?_ ?_);exact rfl)|((with_reducible refine kf ?_ ?_);exact rfl)|simp only [go_sem,sevalprocAttr,reduceCtorEq]|simp (disch:=omega) only [wz]
    refine fin _ (H.length+2) ?_ ?_ (by omega) ?_
    ·rw [List.getElem?_set_ne (by omega)]
     refine List.getElem?_set_self ?_
     rw [List.length_append];omega
    ·refine List.getElem?_set_self ?_
     rw [List.length_set,List.length_append]
     exact Nat.lt_succ_self _
    ·intro j h1 h2
     rw [List.getElem?_set_ne (by omega),List.getElem?_set_ne (Ne.symm h2),hgetl h1]
  ·have he8:¬(e=8∧t=Lib.decDigits kids.length):=e9
   rw [if_neg e9]
   generalize hCB:A++([.int .i64 k,.int .i64 n,.string (bs s),.slice (some ⟨a,0,none⟩) kids.length kids.length,vs]++Bt)=CB at*
   by_cases h8:e=8
   ·subst h8
    have hk4':(k==4)=false:=by
     rw [beq_eq_false_iff_ne]
     exact fun h=>e8 ⟨rfl,h⟩
    have hit:(t==Lib.decDigits kids.length)=false:=by
     rw [beq_eq_false_iff_ne]
     exact fun h=>e9 ⟨rfl,h⟩
    refine AC.enter Tryz.func43 rfl (by kernel_rfl) 106 rfl [.tmp 5] rfl (by simp) fun hsc B=> ?_
    repeat first|with_reducible refine kc ?_|((with_reducible first|refine kr ?_ ?_|refine kt ?_ ?_);exact rfl)|((with_reducible refine kf ?_ ?_);exact rfl)|with_reducible (first|refine hI.use ?_|refine hIt.use ?_)|simp only [go_sem,sevalprocAttr,reduceCtorEq,hb,htx5,hlen,hat0,hat3,hk4',hit]|simp (disch:=omega) only [wz]
    exact ⟨_,_,.refl _ _ _,_,a::([]++Sk),rfl,rfl,hfl,by rw [hsame];exact hb,fun s hs=> .inl hs,Kept.refl H,Nat.le_refl _,fun _ _ _ _=>rfl,fun _=>rfl,fun h=>absurd h e0⟩
   ·have he8':(e==8)=false:=by simpa using h8
    refine AC.enter Tryz.func43 rfl (by kernel_rfl) 106 rfl [.tmp 5] rfl (by simp) fun hsc B=> ?_
    repeat first|with_reducible refine kc ?_|((with_reducible first|refine kr ?_ ?_|refine kt ?_ ?_);exact rfl)|((with_reducible refine kf ?_ ?_);exact rfl)|with_reducible (first|refine hI.use ?_|refine hIt.use ?_)|simp only [go_sem,sevalprocAttr,reduceCtorEq,hb,htx5,hlen,hat0,hat3,he0,he8']|simp (disch:=omega) only [wz]
    exact ⟨_,_,.refl _ _ _,_,a::([]++Sk),rfl,rfl,hfl,by rw [hsame];exact hb,fun s hs=> .inl hs,Kept.refl H,Nat.le_refl _,fun _ _ _ _=>rfl,fun _=>rfl,fun h=>absurd h e0⟩
end Go.Proofs.YthcdjconlfdidaaGreatDoor
