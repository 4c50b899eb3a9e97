/-
 The walk of the program's Dict.
-/
import Derived.Test.YthcdjconlfdidaaGreatDoorQNM
import Derived.Test.YthcdjconlfdidaaGreatDoorQ2M
import Derived.Test.YthcdjconlfdidaaGreatDoorEK
set_option linter.unusedVariables false
set_option linter.unusedSimpArgs false
set_option maxRecDepth 20000
set_option maxHeartbeats 4000000
namespace Go.Proofs.YthcdjconlfdidaaGreatDoor
open Go Go.Aw Go.Proofs
theorem RowX.rdT {H:AHeap} {ks:List Tx} {n:Nat} {kv:Value} {S T:List Nat} (h:RowX H 9 1 (strsC ks) n kv S) (hn:ks.length=n) (hT:∀s∈S,s∈T):RdK (fz H T) 1 kv (keyC ks):=by
 obtain ⟨h1,⟨rfl,rfl,-⟩|⟨b,cap,R,rfl,hc,rfl,hb,hR⟩⟩:=h
 ·obtain rfl:=List.eq_nil_of_length_eq_zero hn
  exact .inl ⟨rfl,rfl⟩
 ·exact rd_rows (C:=R) (k:=⟨9,0,true,0,none⟩) (by rw [strs_flat];exact hb) (.inr rfl) (hT b (by simp)) (keyC_len1 _) (by rw [keyC_len];exact hn) hc
theorem RowX.rdV {H:AHeap} {css:List (List Value)} {n:Nat} {sv:Value} {S T:List Nat} (h:RowX H 27 5 css.flatten n sv S) (h5:∀c∈css,c.length=5) (hn:css.length=n) (hT:∀s∈S,s∈T):RdK (fz H T) 5 sv css:=by
 obtain ⟨h1,⟨rfl,rfl,-⟩|⟨b,cap,R,rfl,hc,rfl,hb,hR⟩⟩:=h
 ·obtain rfl:=List.eq_nil_of_length_eq_zero hn
  exact .inl ⟨rfl,rfl⟩
 ·exact rd_rows (C:=R) (k:=⟨27,0,true,0,none⟩) hb (.inr rfl) (hT b (by simp)) h5 hn hc
theorem RowX.same {H H2:AHeap} {e:TypeId} {m n:Nat} {C:List Value} {v:Value} {S:List Nat} (h:RowX H e m C n v S) (hs:∀s∈S,H2[s]? =H[s]?):RowX H2 e m C n v S:=by
 obtain ⟨h1,h|⟨b,cap,R,rfl,hc,rfl,hb,hR⟩⟩:=h
 ·exact ⟨h1,.inl h⟩
 ·exact ⟨h1,.inr ⟨b,cap,R,rfl,hc,rfl,(hs b (by simp)).trans hb,hR⟩⟩
theorem RowX.own {H:AHeap} {e:TypeId} {m n:Nat} {C:List Value} {v:Value} {S:List Nat} (h:RowX H e m C n v S):∀s∈S,∃cs k,H[s]? =some (.cells cs k)∧k.own=true∧k.e=e:=by
 obtain ⟨h1,⟨-,-,rfl⟩|⟨b,cap,R,rfl,hc,rfl,hb,hR⟩⟩:=h
 ·intro s hs;cases hs
 ·intro s hs
  rw [List.mem_singleton.1 hs]
  exact ⟨_,_,hb,rfl,rfl⟩
theorem RowX.flatV {H:AHeap} {e:TypeId} {m n:Nat} {C:List Value} {v:Value} {S:List Nat} (h:RowX H e m C n v S):flat v=true:=by
 obtain ⟨h1,⟨rfl,-,-⟩|⟨b,cap,R,rfl,hc,rfl,hb,hR⟩⟩:=h<;> rfl
theorem RowX.pos {H:AHeap} {e:TypeId} {m n:Nat} {C:List Value} {v:Value} {S:List Nat} (h:RowX H e m C n v S) (hn:0<n):∃b cap,v= .slice (some ⟨b,0,none⟩) n cap:=by
 obtain ⟨h1,⟨-,h2,-⟩|⟨b,cap,R,h2,_⟩⟩:=h
 ·omega
 ·exact ⟨b,cap,h2⟩
theorem BSearchX (ks:List Tx) (t:Tx) (n:Nat) (hl:ks.length≤1099511627776) (hasc:BV.asc ks=true) (H:AHeap) (kv:Value) (S:List Nat) (hn:ks.length=n) (hv:RowX H 9 1 (strsC ks) n kv S):
  ARet Tryz.prog 30 [kv,.string (bs t)] H (.tuple ⟨[.int .i64 (lowAt ks t:Nat),.bool (decide (t∈ks))]⟩) H:=by
 obtain ⟨i,hi,hB⟩:=BSearch ks t hl hasc kv (fz H S) (hv.rdT hn fun s hs=>hs)
 have e:=low_at hi
 subst e
 have:decide (ks[lowAt ks t]? =some t)=decide (t∈ks):=decide_eq_decide.2 (low_mem hasc)
 rw [this] at hB
 exact ARet.thawS S H hB
theorem RdL.allflat {H:AHeap}:∀{l:List BV} {css:List (List Value)},RdL H l css→css.flatten.all flat=true
 |[],css,h=>by
  unfold RdL at h;subst h;rfl
 |v::l,css,h=>by
  unfold RdL at h
  obtain ⟨c,r,rfl,h1,h2⟩:=h
  rw [List.flatten_cons,List.all_append,RdV_flat h1,RdL.allflat h2];rfl
structure DLp where
 j:Nat
 ks:List Tx
 vs:List BV
 css:List (List Value)
 kv:Value
 sv:Value
 Sk:List Nat
 Sv:List Nat
 Hc:AHeap
def DLI (H:AHeap) (keys:List Tx) (l:List BV) (p:DLp):Prop:=
 p.j≤keys.length∧dictGo [] [] ((keys.zip l).take p.j)=some (p.ks,p.vs)∧p.ks.length=p.j∧BV.asc p.ks=true∧RdL p.Hc p.vs p.css∧p.css.length=p.j∧RowX p.Hc 9 1 (strsC p.ks) p.j p.kv p.Sk∧RowX p.Hc 27 5 p.css.flatten p.j p.sv p.Sv∧
 p.Hc[H.length]? =some (.cells [.int .i64 0,.int .i64 0,.string (bs []),.slice none 0 0,.slice none 0 0] ⟨27,0,true,0,none⟩)∧p.Hc[H.length+1]? =some (.cells [.int .i64 4,.int .i64 0,.string (bs []),p.sv,p.kv] ⟨27,0,true,0,none⟩)∧
 Frm [] H p.Hc∧ (∀ s∈p.Sk,H.length+2≤s)∧ (∀ s∈p.Sv,H.length+2≤s)
theorem dict_ (keys:List Tx) (l:List BV) (hn:keys.length≤1000) (hkt:∀k∈keys,k.length≤1099511627776) (hF:∀(vs:List BV) (ks:List Tx),dictGo [] [] (keys.zip l)=some (ks,vs)→Fine (.mk 4 0 [] vs ks)) (H:AHeap) (kp vp:Value) (cs0:List (List Value)) (hK:RdK H 1 kp (keyC keys)) (hV:RdK H 5 vp cs0) (hL:RdL H l cs0) (hT:TabH H) (hln:l.length≤1000):
  AC Tryz.prog 8 [kp,vp] H (ParseP H (dictR keys l)):=by
 have hcl:=hL.len
 have q1:∀H' K,lenW Tryz.prog 22 kp H' K=K (.int .i64 (keys.length:Nat)) H':=fun H' K=>by rw [hK.lenT (by simp only [go_sem,sevalprocAttr,reduceCtorEq]),keyC_len]
 have q2:∀H' K,lenW Tryz.prog 23 vp H' K=K (.int .i64 (l.length:Nat)) H':=fun H' K=>by rw [hV.lenT (by simp only [go_sem,sevalprocAttr,reduceCtorEq]),hcl]
 by_cases hne:keys.length=l.length
 ·have hb0:((keys.length:Int) != (l.length:Int))=false:=by rw [hne];simp
  have hzl:(keys.zip l).length=keys.length:=by rw [List.length_zip];omega
  have hdR:dictR keys l=match dictGo [] [] (keys.zip l) with|none=> (.zero,6)|some (ks,vs)=>if (BV.mk 4 0 [] vs ks).valid=true then (.mk 4 0 [] vs ks,0) else (.zero,4):=by
   unfold dictR;rw [if_pos hne];rfl
  obtain ⟨N,hN⟩:∃N,N=keys.length:=⟨_,rfl⟩
  obtain ⟨H1,hH1⟩:∃H1:AHeap,H1=H++ [.cells [.int .i64 0,.int .i64 0,.string (bs []),.slice none 0 0,.slice none 0 0] ⟨27,0,true,0,none⟩,.cells [.int .i64 4,.int .i64 0,.string (bs []),.slice none 0 0,.slice none 0 0] ⟨27,0,true,0,none⟩]:=⟨_,rfl⟩
  refine AC.enter Tryz.func8 rfl (by kernel_rfl) 58 rfl [.cell 4 27,.tmp 5] rfl (by simp) fun hsc B=> ?_
  repeat first|with_reducible refine kc ?_|((with_reducible first|refine kr ?_ ?_|refine kt ?_ ?_);exact rfl)|((with_reducible refine kf ?_ ?_);exact rfl)|simp only [go_sem,sevalprocAttr,reduceCtorEq,q1,q2,hb0]|simp (disch:=omega) only [wz]
  rw [← hH1]
  refine AWP.loopP (fun p:DLp=>⟨[(0,kp),(1,vp),(4,.pointer (some ⟨H.length,0,none⟩)),(6,.pointer (some ⟨H.length+1,0,none⟩)),(18,kp),(19,.int .i64 (N:Nat)),(20,.int .i64 (p.j:Nat))],[],p.Hc⟩)
   (DLI H keys l) (fun p=>keys.length - p.j) ⟨0,[],[],[],.slice none 0 0,.slice none 0 0,[],[],H1⟩ ?_ ?_ ?_
  ·rw [hN]
   exact Weak.env (by simp [envIn,lk_cons,wth_some])
  ·refine ⟨Nat.zero_le _,rfl,rfl,rfl,rfl,rfl,⟨rfl,.inl ⟨rfl,rfl,rfl⟩⟩,⟨rfl,.inl ⟨rfl,rfl,rfl⟩⟩,by rw [hH1,hget0 rfl];rfl,by rw [hH1,hgetk rfl];rfl,by rw [hH1];exact Frm.app,fun s hs=>(by cases hs),fun s hs=>(by cases hs)⟩
  rintro ⟨j,ks,vs,css,kv,sv,Sk,Sv,Hc⟩ ⟨i1,i2,i3,i4,i5,i6,i7,i8,i9,i10,i11,i12,i13⟩
  dsimp only at i1 i2 i3 i4 i5 i6 i7 i8 i9 i10 i11 i12 i13 ⊢
  have hkc:Kept H Hc:=Kept.frm i11 (fun x hx=>by cases hx)
  by_cases hlt:j<N
  ·have hlt':(j:Int)<(N:Int):=by omega
   have hjk:j<keys.length:=by omega
   have hjl:j<l.length:=by omega
   obtain ⟨bi,off,cap,cs,k,rfl,hcap,hbi,hown,hesz,hle,htk⟩:=(hK.kept hkc).at_ (keyC_at hjk)
   obtain ⟨r,hr,hRv⟩:=(hL.kept hkc).at_ (List.getElem?_eq_getElem hjl)
   obtain ⟨bv,ofv,cav,cv,kw,rfl,hcav,hbv,howv,heszv,hlev,htkv⟩:=(hV.kept hkc).at_ hr
   have hzj:(keys.zip l)[j]? =some (keys[j],l[j]):=by
    rw [List.getElem?_eq_getElem (by omega),List.getElem_zip]
   have hsn:=dictGo_snoc hzj i2
   have hka:=hkt keys[j] (List.getElem_mem hjk)
   have hlt2:(j:Int)<((keyC keys).length:Int):=by rw [keyC_len];omega
   have hlt3:(j:Int)<(cs0.length:Int):=by rw [hcl];omega
   generalize keys[j]=t at*
   generalize l[j]=x at*
   have hBS:=BSearchX ks t j (by omega) i4 Hc kv Sk i3 i7
   have hfk:=i7.flatV
   have hfv:=i8.flatV
   have hcell:cs[off+j]? =some (.string (bs t)):=by have h1:=congrArg (fun l=>l[0]?) htk;simpa using h1
   by_cases hm:t∈ks
   ·rw [decide_eq_true hm] at hBS
    rw [if_pos hm] at hsn
    rw [hdR,dictGo_none hsn]
    have hbl9:=lt_of_get i9
    have hput0:putCells [Value.int .i64 0,.int .i64 0,.string (bs []),.slice none 0 0,.slice none 0 0] 0 [Value.int .i64 0,.int .i64 0,.string (bs []),.slice none 0 0,.slice none 0 0]=[Value.int .i64 0,.int .i64 0,.string (bs []),.slice none 0 0,.slice none 0 0]:=rfl
    repeat first|with_reducible refine kc ?_|((with_reducible first|refine kr ?_ ?_|refine kt ?_ ?_);exact rfl)|((with_reducible refine kf ?_ ?_);exact rfl)|with_reducible refine ARet.use hBS ?_|simp only [go_sem,sevalprocAttr,reduceCtorEq,hlt',hlt2,hbi,hcell,i9,i10,hfk,hfv,hbl9,hput0]|simp (disch:=omega) only [wz]
    exact ⟨_,_,.refl _ _ _,_,rfl,Frm.set i11 (.inr (Nat.le_refl _)),RdV_zero _⟩
   ·rw [decide_eq_false hm] at hBS
    rw [if_neg hm] at hsn
    have hle':=lowAt_le ks t
    obtain ⟨at',hat⟩:∃a,a=lowAt ks t:=⟨_,rfl⟩
    rw [← hat] at hsn hBS hle'
    have hCf:(strsC ks).all flat=true:=strsC_flat ks
    have hBk:(Hc++ [.cells [.string (bs t)] ⟨9,0,true,0,none⟩])[Hc.length]? =some (.cells [.string (bs t)] ⟨9,0,true,0,none⟩):=by rw [hget0 rfl];rfl
    have hIT:=InsertX (strsC ks) [.string (bs t)] hCf rfl rfl j at' (by omega) (by omega) (Hc++ [.cells [.string (bs t)] ⟨9,0,true,0,none⟩]) kv Sk (i7.same fun s hs=>by
     obtain ⟨_,_,h1,_⟩:=i7.own s hs
     exact hgetl (lt_of_get h1)) Hc.length hBk (fun hs=>by
     obtain ⟨_,_,h1,_⟩:=i7.own _ hs
     exact absurd (lt_of_get h1) (by omega))
    repeat first|with_reducible refine kc ?_|((with_reducible first|refine kr ?_ ?_|refine kt ?_ ?_);exact rfl)|((with_reducible refine kf ?_ ?_);exact rfl)|with_reducible refine ARet.use hBS ?_|simp only [go_sem,sevalprocAttr,reduceCtorEq,hlt',hlt2,hbi,hcell,i9,i10,hfk,hfv]|simp (disch:=omega) only [wz]
    refine AC.mono hIT ?_
    rintro res H2 ⟨kv',Sk',rfl,j7,jf,jS⟩
    obtain ⟨bk',capk',rfl⟩:=j7.pos (by omega)
    have hb2:H2[H.length+1]? =some (.cells [.int .i64 4,.int .i64 0,.string (bs []),sv,kv] ⟨27,0,true,0,none⟩):=jf.get (by rw [hgetl (lt_of_get i10)];exact i10) (fun hs=>by have:=i12 _ hs;omega)
    have hbl2:=lt_of_get hb2
    obtain ⟨H3,hH3⟩:∃H3:AHeap,H3=H2.set (H.length+1) (.cells [.int .i64 4,.int .i64 0,.string (bs []),sv,.slice (some ⟨bk',0,none⟩) (j+1) capk'] ⟨27,0,true,0,none⟩):=⟨_,rfl⟩
    have hb3:H3[H.length+1]? =some (.cells [.int .i64 4,.int .i64 0,.string (bs []),sv,.slice (some ⟨bk',0,none⟩) (j+1) capk'] ⟨27,0,true,0,none⟩):=by rw [hH3,List.getElem?_set_self hbl2]
    have hdis:∀s∈Sv,s∉Sk:=fun s h1 h2=>by
     obtain ⟨_,k1,e1,_,e3⟩:=i8.own s h1
     obtain ⟨_,k2,e4,_,e6⟩:=i7.own s h2
     rw [e1] at e4;cases e4
     rw [e3] at e6
     exact absurd e6 (by decide)
    have hlc:=(i11.1)
    have hsv3:∀s∈Sv,H3[s]? =Hc[s]? :=fun s hs=>by
     obtain ⟨_,_,e1,_⟩:=i8.own s hs
     have:=i13 s hs
     rw [hH3,List.getElem?_set_ne (by omega),jf.2 s (by rw [List.length_append];have:=lt_of_get e1;omega) (hdis s hs),hgetl (lt_of_get e1)]
    have hl3:Hc.length+1≤H3.length:=by rw [hH3,List.length_set];have:=jf.1;rw [List.length_append] at this;simpa using this
    have hkp3:Kept Hc H3:=by
     rw [hH3]
     refine ((Kept.more Hc _).trans (Kept.frm jf fun s hs=> ?_)).trans (Kept.set hb2 rfl _)
     obtain ⟨a,b,e1,e2,_⟩:=i7.own s hs
     exact ⟨a,b,(hgetl (lt_of_get e1)).trans e1,e2⟩
    have hbv3:=hkp3 _ _ _ hbv howv
    have hBv:(H3++ [.cells r ⟨27,0,true,0,none⟩])[H3.length]? =some (.cells r ⟨27,0,true,0,none⟩):=by rw [hget0 rfl];rfl
    have hr5:=hRv.len
    have hrf:=RdV_flat hRv
    have htk5:List.take 5 r=r:=List.take_of_length_le (by omega)
    have hCv:css.flatten.all flat=true:=RdL.allflat i5
    have hlv:=i8.1
    have hIV:=InsertXV css.flatten r hCv hrf hr5 j at' (by omega) (by omega) (H3++ [.cells r ⟨27,0,true,0,none⟩]) sv Sv (i8.same fun s hs=>by
     rw [hgetl (by obtain ⟨_,_,e1,_⟩:=i8.own s hs;have:=lt_of_get e1;omega)];exact hsv3 s hs) H3.length hBv (fun hs=>by
     obtain ⟨_,_,h1,_⟩:=i8.own _ hs
     exact absurd (lt_of_get h1) (by omega))
    repeat first|with_reducible refine kc ?_|((with_reducible first|refine kr ?_ ?_|refine kt ?_ ?_);exact rfl)|((with_reducible refine kf ?_ ?_);exact rfl)|simp only [go_sem,sevalprocAttr,reduceCtorEq,hb2,hbl2,putCells,List.set_cons_succ,List.set_cons_zero]|simp (disch:=omega) only [wz]
    rw [← hH3]
    have hl2c:=jf.1
    rw [List.length_append] at hl2c
    have hl2c:Hc.length+1≤H2.length:=hl2c
    have hHc:H.length+1<Hc.length:=lt_of_get i10
    have hwj:IntKind.i64.wrap ((j:Int)+1)=((j+1:Nat):Int):=by rw [wi64 (by omega)];omega
    have hSk2:∀s∈Sk',H.length+2≤s:=fun s hs=>by
     rcases jS s hs with h|h
     ·exact i12 s h
     ·rw [List.length_append] at h;omega
    have h3k:∀s∈Sk',H3[s]? =H2[s]? :=fun s hs=>by
     have:=hSk2 s hs
     rw [hH3,List.getElem?_set_ne (by omega)]
    have hSkv:∀s∈Sk',s∉Sv:=fun s h1 h2=>by
     obtain ⟨_,k1,e1,_,e3⟩:=j7.own s h1
     obtain ⟨_,k2,e4,_,e6⟩:=i8.own s h2
     rw [← h3k s h1,hsv3 s h2,e4] at e1;cases e1
     rw [e6] at e3
     exact absurd e3 (by decide)
    have hcellK:(strsC ks).take (at'*1)++([.string (bs t)]++(strsC ks).drop (at'*1))=strsC (insAt ks at' t):=by rw [strs_ins,Nat.mul_one];rfl
    have hcellV:css.flatten.take (at'*5)++(r++css.flatten.drop (at'*5))=(insAt css at' r).flatten:=(flat_ins css at' r i5.all5).symm
    rw [hcellV] at hIV
    rw [hcellK] at j7
    have hput5:putCells [Value.int .i64 0,.int .i64 0,.string (bs []),.slice none 0 0,.slice none 0 0] 0 r=r:=putCells_all (by rw [hr5];rfl)
    have hgb:∀X:AHeap,(H3++X)[H.length+1]? =some (.cells [.int .i64 4,.int .i64 0,.string (bs []),sv,.slice (some ⟨bk',0,none⟩) (j+1) capk'] ⟨27,0,true,0,none⟩):=fun X=>by rw [hgetl (lt_of_get hb3)];exact hb3
    have hgv:∀X:AHeap,(H3++X)[bv]? =some (.cells cv kw):=fun X=>by rw [hgetl (lt_of_get hbv3)];exact hbv3
    refine AWP.regionM 8 [1,6,7] [] (.both (.run [1,6,7]) (.step 6 (.both (.run [1,7]) (.run [7,1])))) (by kernel_rfl) (by decide) (by kernel_rfl) (by kernel_rfl) (by kernel_rfl) ?_
    repeat' first|with_reducible refine canW_n ?_|with_reducible refine canW_m (by decide) ?_|((with_reducible apply canW_p (by decide));focus (intro H;(simp only [go_sem,sevalprocAttr,reduceCtorEq,hb3,hbv3,hlt3,hlev,htkv,hr5,hrf,htk5,hfv,hput5,hgb,hgv,List.map_cons,List.map_nil]);exact rfl))|with_reducible refine memW_b ?_ ?_|with_reducible refine memW_s rfl ?_|with_reducible refine memW_r rfl ?_|with_reducible refine memW_e ?_|simp only [List.take_succ_cons,List.take_zero,List.drop_succ_cons,List.drop_zero]|omega|with_reducible refine And.intro ?_ ?_|with_reducible refine kc ?_|((with_reducible first|refine kr ?_ ?_|refine kt ?_ ?_);exact rfl)|((with_reducible refine kf ?_ ?_);exact rfl)|simp only [go_sem,sevalprocAttr,reduceCtorEq,hb3,hbv3,hlt3,hlev,htkv,hr5,hrf,htk5,hfv,hput5,hgb,hgv,List.map_cons,List.map_nil]|simp (disch:=omega) only [wz]
    all_goals
     refine AC.mono hIV ?_
     rintro res H4 ⟨sv',Sv',rfl,k7,kf,kS⟩
     obtain ⟨bv',capv',rfl⟩:=k7.pos (by omega)
     have hl4:=kf.1
     rw [List.length_append] at hl4
     have hl4:H3.length+1≤H4.length:=hl4
     have hb4:H4[H.length+1]? =some (.cells [.int .i64 4,.int .i64 0,.string (bs []),sv,.slice (some ⟨bk',0,none⟩) (j+1) capk'] ⟨27,0,true,0,none⟩):=kf.get (hgb _) (fun hs=>by have:=i13 _ hs;omega)
     have hbl4:=lt_of_get hb4
     obtain ⟨H5,hH5⟩:∃H5:AHeap,H5=H4.set (H.length+1) (.cells [.int .i64 4,.int .i64 0,.string (bs []),.slice (some ⟨bv',0,none⟩) (j+1) capv',.slice (some ⟨bk',0,none⟩) (j+1) capk'] ⟨27,0,true,0,none⟩):=⟨_,rfl⟩
     have hSv2:∀s∈Sv',H.length+2≤s:=fun s hs=>by
      rcases kS s hs with h|h
      ·exact i13 s h
      ·rw [List.length_append] at h;omega
     have hkp5:Kept Hc H5:=by
      rw [hH5]
      refine (hkp3.trans ((Kept.more H3 _).trans (Kept.frm kf fun s hs=> ?_))).trans (Kept.set hb4 rfl _)
      obtain ⟨a,b,e1,e2,_⟩:=i8.own s hs
      exact ⟨a,b,by rw [hgetl (by have:=lt_of_get e1;omega),hsv3 s hs];exact e1,e2⟩
     have hfrm5:∀q,q<Hc.length→q∉Sk→q∉Sv→q≠H.length+1→H5[q]? =Hc[q]? :=fun q h1 h2 h3 h4=>by
      rw [hH5,List.getElem?_set_ne (Ne.symm h4),kf.2 q (by rw [List.length_append];omega) h3,hgetl (by omega),hH3,List.getElem?_set_ne (Ne.symm h4),jf.2 q (by rw [List.length_append];omega) h2,hgetl h1]
     have hnext:DLI H keys l ⟨j+1,insAt ks at' t,insAt vs at' x,insAt css at' r,.slice (some ⟨bk',0,none⟩) (j+1) capk',.slice (some ⟨bv',0,none⟩) (j+1) capv',Sk',Sv',H5⟩:=by
      refine ⟨by dsimp only;omega,hsn,?_,?_,RdL.ins (i5.kept hkp5) (hRv.kept hkp5),?_,j7.same fun s hs=> ?_,k7.same fun s hs=> ?_,?_,?_,⟨?_,fun q hq _=> ?_⟩,hSk2,hSv2⟩
      ·rw [ins_len _ _ _ hle',i3]
      ·rw [hat];exact asc_ins i4 hm
      ·rw [ins_len _ _ _ (by omega),i6]
      ·have h9:=hSk2 s hs
       obtain ⟨_,_,e1,_⟩:=j7.own s hs
       dsimp only
       rw [hH5,List.getElem?_set_ne (by omega),kf.2 s (by rw [List.length_append,hH3,List.length_set];have:=lt_of_get e1;omega) (hSkv s hs),hgetl (by rw [hH3,List.length_set];exact lt_of_get e1),h3k s hs]
      ·have h9:=hSv2 s hs
       dsimp only
       rw [hH5,List.getElem?_set_ne (by omega)]
      ·exact (hfrm5 _ (by omega) (fun hs=>by have:=i12 _ hs;omega) (fun hs=>by have:=i13 _ hs;omega) (by omega)).trans i9
      ·dsimp only
       rw [hH5,List.getElem?_set_self hbl4]
      ·dsimp only
       rw [hH5,List.length_set]
       have:=i11.1
       omega
      ·dsimp only
       have:=i11.1
       rw [hfrm5 q (by omega) (fun hs=>by have:=i12 _ hs;omega) (fun hs=>by have:=i13 _ hs;omega) (by omega)]
       exact i11.2 q hq (by simp)
     repeat first|with_reducible refine kc ?_|((with_reducible first|refine kr ?_ ?_|refine kt ?_ ?_);exact rfl)|((with_reducible refine kf ?_ ?_);exact rfl)|simp only [go_sem,sevalprocAttr,reduceCtorEq,hb4,hbl4,hwj,putCells,List.set_cons_succ,List.set_cons_zero]|simp (disch:=omega) only [wz]
     rw [← hH5]
     exact ⟨_,Weak.env (by simp [envIn,lk_cons,wth_some]),hnext,by dsimp only;omega⟩
  ·have hlt':¬(j:Int)<(N:Int):=by omega
   obtain rfl:j=N:=by omega
   rw [hN,←hzl,List.take_length] at i2
   have hfine:=hF vs ks i2
   obtain ⟨Hf,hHf⟩:∃Hf,Hf=fz Hc (Sk++Sv):=⟨_,rfl⟩
   have hkf:Kept Hc Hf:=by rw [hHf];exact fz_kept _ _
   have hsame:∀q,q<H.length+2→Hf[q]? =Hc[q]? :=fun q hq=>by
    rw [hHf,fz_get,if_neg]
    intro hs
    rcases List.mem_append.1 hs with h|h
    ·have:=i12 _ h;omega
    ·have:=i13 _ h;omega
   have hff:Frm [] H Hf:=⟨by rw [hHf,fz_length];exact i11.1,fun q hq hn=>by rw [hsame q (by omega)];exact i11.2 q hq hn⟩
   have hb9:=(hsame _ (by omega)).trans i9
   have hb10:=(hsame _ (by omega)).trans i10
   have hRf:RdV Hf (.mk 4 0 [] vs ks) [.int .i64 4,.int .i64 0,.string (bs []),sv,kv]:=by
    unfold RdV
    exact ⟨_,_,css,rfl,by rw [hHf];exact i8.rdV i5.all5 i6 (fun s hs=>List.mem_append_right _ hs),i5.kept hkf,by rw [hHf];exact i7.rdT i3 (fun s hs=>List.mem_append_left _ hs)⟩
   have hVal:=valid_ _ hfine Hf _ hRf (hT.frm hff (by simp))
   have hfk:=i7.flatV
   have hfv:=i8.flatV
   rw [hdR,i2]
   dsimp only
   refine AWP.weak (Weak.fz (Sk++Sv) Hc) ?_
   rw [← hHf]
   repeat first|with_reducible refine kc ?_|((with_reducible first|refine kr ?_ ?_|refine kt ?_ ?_);exact rfl)|((with_reducible refine kf ?_ ?_);exact rfl)|simp only [go_sem,sevalprocAttr,reduceCtorEq,hlt',hb10,hfk,hfv]|simp (disch:=omega) only [wz]
   refine AC.mono hVal ?_
   rintro res H6 ⟨rfl,hf6⟩
   have hb96:=hf6.get hb9 (by simp)
   have hb106:=hf6.get hb10 (by simp)
   have hbl9:=lt_of_get hb96
   have hput0:putCells [Value.int .i64 0,.int .i64 0,.string (bs []),.slice none 0 0,.slice none 0 0] 0 [Value.int .i64 0,.int .i64 0,.string (bs []),.slice none 0 0,.slice none 0 0]=[Value.int .i64 0,.int .i64 0,.string (bs []),.slice none 0 0,.slice none 0 0]:=rfl
   have hf06:Frm [] H H6:=hff.trans hf6 (fun x hx=>by cases hx)
   by_cases hval:(BV.mk 4 0 [] vs ks).valid=true
   ·rw [if_pos hval,hval]
    have hC:=copied (BV.mk 4 0 [] vs ks) hfine.sz H6 _ (hRf.kept (Kept.frm hf6 (fun x hx=>by cases hx)))
    repeat first|with_reducible refine kc ?_|((with_reducible first|refine kr ?_ ?_|refine kt ?_ ?_);exact rfl)|((with_reducible refine kf ?_ ?_);exact rfl)|simp only [go_sem,sevalprocAttr,reduceCtorEq,hb106,hb96,hfk,hfv]|simp (disch:=omega) only [wz]
    refine AC.mono hC ?_
    rintro res H7 ⟨cs',rfl,hf7,hR7⟩
    have hb97:=hf7.get hb96 (by simp)
    have hbl97:=lt_of_get hb97
    have h75:=hR7.len
    have hfl7:=RdV_flat hR7
    have hput7:putCells [Value.int .i64 0,.int .i64 0,.string (bs []),.slice none 0 0,.slice none 0 0] 0 cs'=cs':=putCells_all (by rw [h75];rfl)
    have htk7:List.take 5 cs'=cs':=List.take_of_length_le (by omega)
    repeat first|with_reducible refine kc ?_|((with_reducible first|refine kr ?_ ?_|refine kt ?_ ?_);exact rfl)|((with_reducible refine kf ?_ ?_);exact rfl)|simp only [go_sem,sevalprocAttr,reduceCtorEq,hb97,hbl97,h75,hfl7,hput7,htk7]|simp (disch:=omega) only [wz]
    exact ⟨_,_,.refl _ _ _,_,rfl,Frm.set (hf06.trans hf7 (fun x hx=>by cases hx)) (.inr (Nat.le_refl _)),hR7.kept (Kept.set hb97 rfl _)⟩
   ·rw [if_neg hval,Bool.eq_false_iff.2 hval]
    repeat first|with_reducible refine kc ?_|((with_reducible first|refine kr ?_ ?_|refine kt ?_ ?_);exact rfl)|((with_reducible refine kf ?_ ?_);exact rfl)|simp only [go_sem,sevalprocAttr,reduceCtorEq,hb106,hb96,hfk,hfv,hbl9,hput0]|simp (disch:=omega) only [wz]
    exact ⟨_,_,.refl _ _ _,_,rfl,Frm.set hf06 (.inr (Nat.le_refl _)),RdV_zero _⟩
 ·have hb0:((keys.length:Int) != (l.length:Int))=true:=by rw [bne_iff_ne];omega
  have hdR:dictR keys l= (.zero,11):=by unfold dictR;rw [if_neg hne]
  have hput0:putCells [Value.int .i64 0,.int .i64 0,.string (bs []),.slice none 0 0,.slice none 0 0] 0 [Value.int .i64 0,.int .i64 0,.string (bs []),.slice none 0 0,.slice none 0 0]=[Value.int .i64 0,.int .i64 0,.string (bs []),.slice none 0 0,.slice none 0 0]:=rfl
  rw [hdR]
  refine AC.enter Tryz.func8 rfl (by kernel_rfl) 58 rfl [.cell 4 27,.tmp 5] rfl (by simp) fun hsc B=> ?_
  repeat first|with_reducible refine kc ?_|((with_reducible first|refine kr ?_ ?_|refine kt ?_ ?_);exact rfl)|((with_reducible refine kf ?_ ?_);exact rfl)|simp only [go_sem,sevalprocAttr,reduceCtorEq,q1,q2,hb0,hput0]|simp (disch:=omega) only [wz]
  exact ⟨_,_,.refl _ _ _,_,rfl,Frm.app,RdV_zero _⟩
end Go.Proofs.YthcdjconlfdidaaGreatDoor
