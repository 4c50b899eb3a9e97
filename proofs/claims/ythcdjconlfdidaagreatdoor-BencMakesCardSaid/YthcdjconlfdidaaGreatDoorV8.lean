/-
 The walk of the specification's Dict.
-/
import Derived.Test.YthcdjconlfdidaaGreatDoorQVM
set_option linter.unusedVariables false
set_option linter.unusedSimpArgs false
set_option maxRecDepth 20000
set_option maxHeartbeats 4000000
namespace Go.Proofs.YthcdjconlfdidaaGreatDoor
open Go Go.Aw Go.Proofs
def DKJ (env:List (Nat×Value)) (H:AHeap) (S:List Nat) (a:Nat) (ks:List Tx) (t:Tx) (bx:Value→List Value) (Hc:AHeap) (st:ASt):Prop:=
 ∃q H5,Frm S Hc H5∧H5[q]? =some (.cells (strsC (insAt ks a t)) ⟨9,1,true,0,none⟩)∧Hc.length≤q∧H5[H.length+1]? =some (.cells (bx (.slice (some ⟨q,0,none⟩) (ks.length+1) (ks.length+1))) ⟨27,0,true,0,none⟩)∧st=⟨env,[],H5⟩
def RDI (H:AHeap) (keys:List Tx) (l:List BV) (p:DLp):Prop:=
 p.j≤keys.length∧dictGo [] [] ((keys.zip l).take p.j)=some (p.ks,p.vs)∧p.ks.length=p.j∧BV.asc p.ks=true∧RdL p.Hc p.vs p.css∧p.css.length=p.j∧KV p.Hc 9 1 (strsC p.ks) p.j p.kv p.Sk∧KV p.Hc 27 5 p.css.flatten p.j p.sv p.Sv∧
 p.Hc[H.length]? =some (.cells [.int .i64 0,.int .i64 0,.string (bs []),.slice none 0 0,.slice none 0 0] ⟨27,0,true,0,none⟩)∧p.Hc[H.length+1]? =some (.cells [.int .i64 4,.int .i64 0,.string (bs []),p.sv,p.kv] ⟨27,0,true,0,none⟩)∧
 Frm [] H p.Hc∧ (∀ s∈p.Sk,H.length+2≤s)∧ (∀ s∈p.Sv,H.length+2≤s)
theorem KV.own {H:AHeap} {e:TypeId} {m n:Nat} {C:List Value} {v:Value} {S:List Nat} (h:KV H e m C n v S):∀s∈S,∃cs k,H[s]? =some (.cells cs k)∧k.own=true:=by
 obtain ⟨h1,⟨-,-,rfl⟩|⟨q,-,-,rfl,hq⟩⟩:=h
 ·intro s hs;cases hs
 ·intro s hs
  rw [List.mem_singleton.1 hs]
  exact ⟨_,_,hq,rfl⟩
theorem rd_next {H:AHeap} {keys:List Tx} {l:List BV} {j at':Nat} {ks:List Tx} {vs:List BV} {css:List (List Value)} {kv sv:Value} {Sk Sv:List Nat} {Hc H5 H6:AHeap} (hI:RDI H keys l ⟨j,ks,vs,css,kv,sv,Sk,Sv,Hc⟩) {t:Tx} {x:BV} {r:List Value} (hRv:RdV Hc x r) (hjk:j<keys.length) (hat:at'=lowAt ks t) (hm:t∉ks)
  (hsn:dictGo [] [] ((keys.zip l).take (j+1))=some (insAt ks at' t,insAt vs at' x)) {q q':Nat} {u:Value} (hu:u= .slice (some ⟨q',0,none⟩) (css.length+1) (css.length+1)) {u2:Value} (hu2:u2= .slice (some ⟨q,0,none⟩) (ks.length+1) (ks.length+1))
  (hf5:Frm ((H.length+1)::Sk) Hc H5) (hq5:H5[q]? =some (.cells (strsC (insAt ks at' t)) ⟨9,1,true,0,none⟩)) (hlq:Hc.length≤q) (hb5:∃cs k,H5[H.length+1]? =some (.cells cs k)∧k.own=true) (hdis:∀s∈Sv,s∉Sk) (hf6:Frm ((H.length+1)::Sv) H5 H6) (hq6:H6[q']? =some (.cells (insAt css at' r).flatten ⟨27,5,true,0,none⟩)) (hlq6:H5.length≤q')
  (hb6:H6[H.length+1]? =some (.cells [.int .i64 4,.int .i64 0,.string (bs []),u,u2] ⟨27,0,true,0,none⟩)):RDI H keys l ⟨j+1,insAt ks at' t,insAt vs at' x,insAt css at' r,u2,u,[q],[q'],H6⟩:=by
 obtain ⟨i1,i2,i3,i4,i5,i6,i7,i8,i9,i10,i11,i12,i13⟩:=hI
 dsimp only at i1 i2 i3 i4 i5 i6 i7 i8 i9 i10 i11 i12 i13
 subst hu hu2
 have hle':=lowAt_le ks t
 rw [← hat] at hle'
 have hHc:H.length+1<Hc.length:=lt_of_get i10
 have hl5:=hf5.1
 have hl6:=hf6.1
 have hvn:∀s∈Sv,s<Hc.length:=fun s hs=>by obtain ⟨_,_,e,_⟩:=i8.own s hs;exact lt_of_get e
 have hkn:∀s∈Sk,s<Hc.length:=fun s hs=>by obtain ⟨_,_,e,_⟩:=i7.own s hs;exact lt_of_get e
 have hk5:Kept Hc H5:=Kept.frm hf5 fun s hs=>by
  rcases List.mem_cons.1 hs with rfl|hs
  ·exact ⟨_,_,i10,rfl⟩
  ·exact i7.own s hs
 have hk6:Kept H5 H6:=Kept.frm hf6 fun s hs=>by
  rcases List.mem_cons.1 hs with rfl|hs
  ·exact hb5
  ·obtain ⟨a,b,e1,e2⟩:=i8.own s hs
   refine ⟨a,b,hf5.get e1 (fun h=> ?_),e2⟩
   rcases List.mem_cons.1 h with h|h
   ·have:=i13 s hs;omega
   ·exact hdis s hs h
 have hk06:=hk5.trans hk6
 refine ⟨(by show j+1≤keys.length;omega),hsn,?_,?_,RdL.ins (i5.kept hk06) (hRv.kept hk06),?_,⟨?_,.inr ⟨q,by dsimp only;rw [i3],(by show 0<j+1;omega),rfl,?_⟩⟩,⟨?_,.inr ⟨q',by dsimp only;rw [i6],(by show 0<j+1;omega),rfl,hq6⟩⟩,?_,hb6,⟨?_,fun a ha _=> ?_⟩,fun s hs=> ?_,fun s hs=> ?_⟩
 ·rw [ins_len _ _ _ hle',i3]
 ·rw [hat];exact asc_ins i4 hm
 ·rw [ins_len _ _ _ (by omega),i6]
 ·rw [strsC_len,ins_len _ _ _ hle',i3];exact (Nat.mul_one _).symm
 ·refine hf6.get hq5 fun hs=> ?_
  rcases List.mem_cons.1 hs with h|h
  ·omega
  ·have:=hvn _ h;omega
 ·have:=flat_len (RdL.ins (i:=at') (i5.kept hk06) (hRv.kept hk06)).all5
  rw [this,ins_len _ _ _ (by omega),i6]
 ·refine hf6.get (hf5.get i9 fun hs=> ?_) fun hs=> ?_
  ·rcases List.mem_cons.1 hs with h|h
   ·omega
   ·have:=i12 _ h;omega
  ·rcases List.mem_cons.1 hs with h|h
   ·omega
   ·have:=i13 _ h;omega
 ·have:=i11.1;dsimp only;omega
 ·have:=i11.1
  dsimp only
  rw [hf6.2 a (by omega) (fun hs=>by
   rcases List.mem_cons.1 hs with h|h
   ·omega
   ·have:=i13 _ h;omega),hf5.2 a (by omega) (fun hs=>by
   rcases List.mem_cons.1 hs with h|h
   ·omega
   ·have:=i12 _ h;omega)]
  exact i11.2 a ha (by simp)
 ·rw [List.mem_singleton.1 hs];omega
 ·rw [List.mem_singleton.1 hs];omega
theorem rDict_ (keys:List Tx) (l:List BV) (hn:keys.length≤1000) (hkt:∀k∈keys,k.length≤1099511627776) (hF:∀(vs:List BV) (ks:List Tx),dictGo [] [] (keys.zip l)=some (ks,vs)→Fine (.mk 4 0 [] vs ks)∧(BV.mk 4 0 [] vs ks).count≤1099511627776) (H:AHeap) (kp vp:Value) (cs0:List (List Value)) (hK:RdK H 1 kp (keyC keys)) (hV:RdK H 5 vp cs0) (hL:RdL H l cs0) (hln:l.length≤1000):
  AC Tryz.prog 9 [kp,vp] H (ParseP H (dictR keys l)):=by
 have hcl:=hL.len
 have w1:∀H' K,lenW Tryz.prog 22 kp H' K=K (.int .i64 (keys.length:Nat)) H':=fun H' K=>by rw [hK.lenT (by simp only [go_sem,sevalprocAttr,reduceCtorEq]),keyC_len]
 have w2:∀H' K,lenW Tryz.prog 23 vp H' K=K (.int .i64 (l.length:Nat)) H':=fun H' K=>by rw [hV.lenT (by simp only [go_sem,sevalprocAttr,reduceCtorEq]),hcl]
 have hput0:putCells [Value.int .i64 0,.int .i64 0,.string (bs []),.slice none 0 0,.slice none 0 0] 0 [Value.int .i64 0,.int .i64 0,.string (bs []),.slice none 0 0,.slice none 0 0]=[Value.int .i64 0,.int .i64 0,.string (bs []),.slice none 0 0,.slice none 0 0]:=rfl
 by_cases hne:keys.length=l.length
 ·have hb0:((keys.length:Int) != (l.length:Int))=false:=by rw [hne];simp
  have hzl:(keys.zip l).length=keys.length:=by rw [List.length_zip];omega
  have hdR:dictR keys l=match dictGo [] [] (keys.zip l) with|none=> (.zero,6)|some (ks,vs)=>if (BV.mk 4 0 [] vs ks).valid=true then (.mk 4 0 [] vs ks,0) else (.zero,4):=by
   unfold dictR;rw [if_pos hne];rfl
  obtain ⟨N,hN⟩:∃N,N=keys.length:=⟨_,rfl⟩
  obtain ⟨H1,hH1⟩:∃H1:AHeap,H1=H++ [.cells [.int .i64 0,.int .i64 0,.string (bs []),.slice none 0 0,.slice none 0 0] ⟨27,0,true,0,none⟩,.cells [.int .i64 4,.int .i64 0,.string (bs []),.slice none 0 0,.slice none 0 0] ⟨27,0,true,0,none⟩]:=⟨_,rfl⟩
  refine AC.enter Tryz.func9 rfl (by kernel_rfl) 92 rfl [.cell 4 27,.tmp 5] rfl (by simp) fun hsc B=> ?_
  repeat first|with_reducible refine kc ?_|((with_reducible first|refine kr ?_ ?_|refine kt ?_ ?_);exact rfl)|((with_reducible refine kf ?_ ?_);exact rfl)|simp only [go_sem,sevalprocAttr,reduceCtorEq,w1,w2,hb0]|simp (disch:=omega) only [wz]
  rw [← hH1]
  refine AWP.loopP (fun p:DLp=>⟨[(0,kp),(1,vp),(4,.pointer (some ⟨H.length,0,none⟩)),(6,.pointer (some ⟨H.length+1,0,none⟩)),(17,kp),(18,.int .i64 (N:Nat)),(19,.int .i64 (p.j:Nat))],[],p.Hc⟩)
   (RDI H keys l) (fun p=>keys.length - p.j) ⟨0,[],[],[],.slice none 0 0,.slice none 0 0,[],[],H1⟩ ?_ ?_ ?_
  ·rw [hN]
   exact Weak.env (by simp [envIn,lk_cons,wth_some])
  ·refine ⟨Nat.zero_le _,rfl,rfl,rfl,rfl,rfl,⟨rfl,.inl ⟨rfl,rfl,rfl⟩⟩,⟨rfl,.inl ⟨rfl,rfl,rfl⟩⟩,by rw [hH1,hget0 rfl];rfl,by rw [hH1,hgetk rfl];rfl,by rw [hH1];exact Frm.app,fun s hs=>(by cases hs),fun s hs=>(by cases hs)⟩
  rintro ⟨j,ks,vs,css,kv,sv,Sk,Sv,Hc⟩ ⟨i1,i2,i3,i4,i5,i6,i7,i8,i9,i10,i11,i12,i13⟩
  dsimp only at i1 i2 i3 i4 i5 i6 i7 i8 i9 i10 i11 i12 i13 ⊢
  have hkc:Kept H Hc:=Kept.frm i11 (fun x hx=>by cases hx)
  by_cases hlt:j<N
  ·have hlt':(j:Int)<(N:Int):=by omega
   have hjk:j<keys.length:=by omega
   have hjl:j<l.length:=by omega
   obtain ⟨bi,off,cap,cs,k,rfl,hcap,hbi,hown,hesz,hle,htk⟩:=(hK.kept hkc).at_ (keyC_at hjk)
   obtain ⟨r,hr,hRv⟩:=(hL.kept hkc).at_ (List.getElem?_eq_getElem hjl)
   obtain ⟨bv,ofv,cav,cv,kw,rfl,hcav,hbv,howv,heszv,hlev,htkv⟩:=(hV.kept hkc).at_ hr
   have hzj:(keys.zip l)[j]? =some (keys[j],l[j]):=by
    rw [List.getElem?_eq_getElem (by omega),List.getElem_zip]
   have hsn:=dictGo_snoc hzj i2
   have hka:=hkt keys[j] (List.getElem_mem hjk)
   have hlt2:(j:Int)<((keyC keys).length:Int):=by rw [keyC_len];omega
   have hlt3:(j:Int)<(cs0.length:Int):=by rw [hcl];omega
   generalize keys[j]=t at*
   generalize l[j]=x at*
   have hcell:cs[off+j]? =some (.string (bs t)):=by have h1:=congrArg (fun l=>l[0]?) htk;simpa using h1
   have hr5:=hRv.len
   have hrf:=RdV_flat hRv
   have htk5r:List.take 5 r=r:=List.take_of_length_le (by omega)
   have hput5:putCells [Value.int .i64 0,.int .i64 0,.string (bs []),.slice none 0 0,.slice none 0 0] 0 r=r:=putCells_all (by rw [hr5];rfl)
   have hlow:=low_lowAt t i4
   have hle':=lowAt_le ks t
   have hlm:=low_mem (t:=t) i4
   obtain ⟨at',hat⟩:∃a,a=lowAt ks t:=⟨_,rfl⟩
   rw [← hat] at hsn hle' hlow hlm
   have hwj:IntKind.i64.wrap ((j:Int)+1)=((j+1:Nat):Int):=by rw [wi64 (by omega)];omega
   have hHc:H.length+1<Hc.length:=lt_of_get i10
   have hbvH:bv<H.length:=by
    rcases hV with ⟨h,_⟩|⟨i0,_,_,_,_,h,_,hi0,_⟩
    ·cases h
    ·cases h;exact lt_of_get hi0
   have hI:RDI H keys l ⟨j,ks,vs,css,kv,sv,Sk,Sv,Hc⟩:=⟨i1,i2,i3,i4,i5,i6,i7,i8,i9,i10,i11,i12,i13⟩
   have hbl9:=lt_of_get i9
   by_cases hj0:j=0
   ·obtain rfl:=List.eq_nil_of_length_eq_zero (i3.trans hj0)
    obtain rfl:=List.eq_nil_of_length_eq_zero (i6.trans hj0)
    obtain ⟨rfl,rfl⟩:kv= .slice none 0 0∧Sk=[]:=by
     rcases i7.2 with ⟨h1,-,h2⟩|⟨_,_,h,_⟩
     ·exact ⟨h1,h2⟩
     ·omega
    obtain ⟨rfl,rfl⟩:sv= .slice none 0 0∧Sv=[]:=by
     rcases i8.2 with ⟨h1,-,h2⟩|⟨_,_,h,_⟩
     ·exact ⟨h1,h2⟩
     ·omega
    obtain rfl:at'=0:=by simpa using hle'
    have hm:t∉([]:List Tx):=by simp
    rw [if_neg hm] at hsn
    have hone:(insAt ([]:List (List Value)) 0 r).flatten=r:=by simp [insAt]
    repeat first|with_reducible refine AWP.seqE (x:= .block 2 _) (fun st=>st=⟨[(0,.slice (some ⟨bi,off,none⟩) (keyC keys).length cap),(1,.slice (some ⟨bv,ofv,none⟩) cs0.length cav),(4,.pointer (some ⟨H.length,0,none⟩)),(6,.pointer (some ⟨H.length+1,0,none⟩)),(7,.int .i64 (j:Nat)),(8,.string (bs t)),(9,.int .i64 (0:Nat)),(17,.slice (some ⟨bi,off,none⟩) (keyC keys).length cap),(18,.int .i64 (N:Nat)),(19,.int .i64 (j:Nat))],[],Hc⟩) ?_ ?_|with_reducible refine kc ?_|((with_reducible first|refine kr ?_ ?_|refine kt ?_ ?_);exact rfl)|((with_reducible refine kf ?_ ?_);exact rfl)|simp only [go_sem,sevalprocAttr,reduceCtorEq,hlt',hlt2,hbi,hcell]|simp (disch:=omega) only [wz]
    ·refine AWP.loopP (fun i:Nat=>⟨[(0,.slice (some ⟨bi,off,none⟩) (keyC keys).length cap),(1,.slice (some ⟨bv,ofv,none⟩) cs0.length cav),(4,.pointer (some ⟨H.length,0,none⟩)),(6,.pointer (some ⟨H.length+1,0,none⟩)),(7,.int .i64 (j:Nat)),(8,.string (bs t)),(9,.int .i64 (i:Nat)),(17,.slice (some ⟨bi,off,none⟩) (keyC keys).length cap),(18,.int .i64 (N:Nat)),(19,.int .i64 (j:Nat))],[],Hc⟩) (fun i=>i≤0) (fun i=>0 - i) 0 ?_ (Nat.zero_le _) ?_
     ·exact Weak.env (by simp [envIn,lk_cons,wth_some])
     rintro i hi
     obtain rfl:i=0:=by omega
     repeat first|with_reducible refine kc ?_|((with_reducible first|refine kr ?_ ?_|refine kt ?_ ?_);exact rfl)|((with_reducible refine kf ?_ ?_);exact rfl)|simp only [go_sem,sevalprocAttr,reduceCtorEq,i10]|simp (disch:=omega) only [wz]
     exact ⟨_,rfl,Weak.env (by simp [envIn,lk_cons,wth_some])⟩
    rintro st rfl
    repeat first|with_reducible refine AWP.seqE (x:= .region 12 _ _) (DKJ [(0,.slice (some ⟨bi,off,none⟩) (keyC keys).length cap),(1,.slice (some ⟨bv,ofv,none⟩) cs0.length cav),(4,.pointer (some ⟨H.length,0,none⟩)),(6,.pointer (some ⟨H.length+1,0,none⟩)),(7,.int .i64 (j:Nat)),(8,.string (bs t)),(9,.int .i64 (0:Nat)),(17,.slice (some ⟨bi,off,none⟩) (keyC keys).length cap),(18,.int .i64 (N:Nat)),(19,.int .i64 (j:Nat))] H [H.length+1] 0 [] t (fun u=> [.int .i64 4,.int .i64 0,.string (bs []),.slice none 0 0,u]) Hc) ?_ ?_|with_reducible refine kc ?_|((with_reducible first|refine kr ?_ ?_|refine kt ?_ ?_);exact rfl)|((with_reducible refine kf ?_ ?_);exact rfl)|simp only [go_sem,sevalprocAttr,reduceCtorEq,i10]|simp (disch:=omega) only [wz]
    ·skip
     have hkI:∀Ha Hb,Frm [] Ha Hb→(fun _=>True) Ha→(fun _=>True) Hb:=fun Ha Hb hf h=>trivial
     refine AWP.regionU 14 (fun _=>none) (BL [(0,.slice (some ⟨bi,off,none⟩) (keyC keys).length cap),(1,.slice (some ⟨bv,ofv,none⟩) cs0.length cav),(4,.pointer (some ⟨H.length,0,none⟩)),(6,.pointer (some ⟨H.length+1,0,none⟩)),(7,.int .i64 (j:Nat)),(8,.string (bs t)),(9,.int .i64 (0:Nat)),(17,.slice (some ⟨bi,off,none⟩) (keyC keys).length cap),(18,.int .i64 (N:Nat)),(19,.int .i64 (j:Nat))] [H.length+1] Hc) (RV tmA (QA Hc.length (H.length+1) 0 (.slice none 0 0) (.slice none 0 0) (.slice none 0 0) ([]:List Tx) t (fun u=> [.int .i64 4,.int .i64 0,.string (bs []),.slice none 0 0,u]))) (UA (H.length+1) (fun _=>True) (.cells [.int .i64 4,.int .i64 0,.string (bs []),.slice none 0 0,.slice none 0 0] ⟨27,0,true,0,none⟩)) (by kernel_rfl) (by kernel_rfl) (by kernel_rfl) (BL.of (by simp [envIn,lk_cons,wth_some]) (Frm.refl _ _)) (fun a _=>by
       unfold UA
       split
       ·exact trivial
       ·exact i10
       ·trivial) ⟨?_,?_,?_,?_,?_,?_,?_,?_,?_,?_,?_,?_,?_,?_,?_,trivial⟩ ?_
     ·intro E HE hB hd hu
      have b6:lk 6 E=some (.pointer (some ⟨H.length+1,0,none⟩)):=hB.1 _ _ (by simp)
      simp only [go_sem,sevalprocAttr,reduceCtorEq,b6]
      exact QA.more hkI (j:=0) (by decide) (by kernel_rfl) (by kernel_rfl) hB (by rfl) (Frm.refl _ _) rfl
     ·intro E HE hB hd hu
      obtain ⟨_,g1,rfl⟩:=hd 0 (by decide) (.inl rfl)
      have g1:lk 55 E=_:=g1
      have hbe:HE[H.length+1]? =some (.cells [.int .i64 4,.int .i64 0,.string (bs []),.slice none 0 0,.slice none 0 0] ⟨27,0,true,0,none⟩):=hu 14 (by decide) (.inr (by decide))
      simp only [go_sem,sevalprocAttr,reduceCtorEq,g1,hbe]
      exact QA.more hkI (j:=1) (by decide) (by kernel_rfl) (by kernel_rfl) hB (by rfl) (Frm.refl _ _) rfl
     ·intro E HE hB hd hu
      have b9:lk 9 E=some (.int .i64 (0:Nat)):=hB.1 _ _ (by simp)
      simp only [go_sem,sevalprocAttr,reduceCtorEq,b9]
      exact QA.more hkI (j:=2) (by decide) (by kernel_rfl) (by kernel_rfl) hB (by rfl) (Frm.refl _ _) rfl
     ·intro E HE hB hd hu
      have b9:lk 9 E=some (.int .i64 (0:Nat)):=hB.1 _ _ (by simp)
      simp only [go_sem,sevalprocAttr,reduceCtorEq,b9]
      exact QA.more hkI (j:=3) (by decide) (by kernel_rfl) (by kernel_rfl) hB (by rfl) (Frm.refl _ _) rfl
     ·intro E HE hB hd hu
      obtain ⟨_,g1,rfl⟩:=hd 1 (by decide) (.inl rfl)
      have g1:lk 56 E=_:=g1
      obtain ⟨_,g2,rfl⟩:=hd 2 (by decide) (.inl rfl)
      have g2:lk 57 E=_:=g2
      obtain ⟨_,g3,rfl⟩:=hd 3 (by decide) (.inl rfl)
      have g3:lk 58 E=_:=g3
      simp only [go_sem,sevalprocAttr,reduceCtorEq,g1,g2,g3,Option.isSome_some]
      exact QA.more hkI (j:=4) (by decide) (by kernel_rfl) (by kernel_rfl) hB (by rfl) (Frm.refl _ _) rfl
     ·intro E HE hB hd hu
      have b8:lk 8 E=some (.string (bs t)):=hB.1 _ _ (by simp)
      simp only [go_sem,sevalprocAttr,reduceCtorEq,b8]
      exact QA.more hkI (j:=5) (by decide) (by kernel_rfl) (by kernel_rfl) hB (by rfl) (Frm.refl _ _) rfl
     ·intro E HE hB hd hu
      obtain ⟨_,g1,rfl⟩:=hd 5 (by decide) (.inl rfl)
      have g1:lk 60 E=_:=g1
      simp only [go_sem,sevalprocAttr,reduceCtorEq,g1]
      exact QA.more hkI (j:=6) (by decide) (by kernel_rfl) (by kernel_rfl) hB (by rfl) Frm.app ⟨HE.length,rfl,by rw [hget0 rfl];rfl,hB.2.1⟩
     ·intro E HE hB hd hu
      have b6:lk 6 E=some (.pointer (some ⟨H.length+1,0,none⟩)):=hB.1 _ _ (by simp)
      simp only [go_sem,sevalprocAttr,reduceCtorEq,b6]
      exact QA.more hkI (j:=7) (by decide) (by kernel_rfl) (by kernel_rfl) hB (by rfl) (Frm.refl _ _) rfl
     ·intro E HE hB hd hu
      obtain ⟨_,g1,rfl⟩:=hd 7 (by decide) (.inl rfl)
      have g1:lk 62 E=_:=g1
      have hbe:HE[H.length+1]? =some (.cells [.int .i64 4,.int .i64 0,.string (bs []),.slice none 0 0,.slice none 0 0] ⟨27,0,true,0,none⟩):=hu 14 (by decide) (.inr (by decide))
      simp only [go_sem,sevalprocAttr,reduceCtorEq,g1,hbe]
      exact QA.more hkI (j:=8) (by decide) (by kernel_rfl) (by kernel_rfl) hB (by rfl) (Frm.refl _ _) rfl
     ·intro E HE hB hd hu
      have b9:lk 9 E=some (.int .i64 (0:Nat)):=hB.1 _ _ (by simp)
      simp only [go_sem,sevalprocAttr,reduceCtorEq,b9]
      exact QA.more hkI (j:=9) (by decide) (by kernel_rfl) (by kernel_rfl) hB (by rfl) (Frm.refl _ _) rfl
     ·intro E HE hB hd hu
      obtain ⟨_,g1,rfl⟩:=hd 8 (by decide) (.inl rfl)
      have g1:lk 63 E=_:=g1
      obtain ⟨_,g2,rfl⟩:=hd 9 (by decide) (.inl rfl)
      have g2:lk 64 E=_:=g2
      simp only [go_sem,sevalprocAttr,reduceCtorEq,g1,g2,Option.isSome_some,Option.isSome_none]
      exact QA.more hkI (j:=10) (by decide) (by kernel_rfl) (by kernel_rfl) hB (by rfl) (Frm.refl _ _) rfl
     ·intro E HE hB hd hu
      obtain ⟨_,g1,q,rfl,g2,g3⟩:=hd 6 (by decide) (.inl rfl)
      have g1:lk 61 E=_:=g1
      obtain ⟨_,g4,rfl⟩:=hd 10 (by decide) (.inl rfl)
      have g4:lk 65 E=_:=g4
      simp only [go_sem,sevalprocAttr,reduceCtorEq,g1,g4]
      refine app_head (m:=1) (n:=0) (news:=[]) (by decide) g2 rfl g3 hB.2.1 rfl (by decide) (by decide) fun q' z X h1 h2 h3=> ?_
      exact QA.more hkI (j:=11) (by decide) (by kernel_rfl) (by kernel_rfl) hB (by rfl) Frm.app ⟨q',z,rfl,h3,h1,h2⟩
     ·intro E HE hB hd hu
      obtain ⟨_,g1,rfl⟩:=hd 4 (by decide) (.inl rfl)
      have g1:lk 59 E=_:=g1
      obtain ⟨_,g2,q,z,rfl,g3,g4,g5⟩:=hd 11 (by decide) (.inl rfl)
      have g2:lk 66 E=_:=g2
      have g3:HE[q]? =some (.cells [.string (bs t)] ⟨9,z,true,0,none⟩):=g3
      simp only [go_sem,sevalprocAttr,reduceCtorEq,g1,g2,g3]
      refine appendTo_nn (by decide) (by decide) (by decide) ?_
      exact QA.more hkI (j:=12) (by decide) (by kernel_rfl) (by kernel_rfl) hB (by rfl) Frm.app ⟨HE.length,rfl,by rw [hget0 rfl];rfl,hB.2.1⟩
     ·intro E HE hB hd hu
      have b6:lk 6 E=some (.pointer (some ⟨H.length+1,0,none⟩)):=hB.1 _ _ (by simp)
      simp only [go_sem,sevalprocAttr,reduceCtorEq,b6]
      exact QA.more hkI (j:=13) (by decide) (by kernel_rfl) (by kernel_rfl) hB (by rfl) (Frm.refl _ _) rfl
     ·intro E HE hB hd hu
      obtain ⟨_,g1,q,rfl,g2,g3⟩:=hd 12 (by decide) (.inl rfl)
      have g1:lk 67 E=_:=g1
      obtain ⟨_,g4,rfl⟩:=hd 13 (by decide) (.inl rfl)
      have g4:lk 68 E=_:=g4
      have hbe:HE[H.length+1]? =some (.cells [.int .i64 4,.int .i64 0,.string (bs []),.slice none 0 0,.slice none 0 0] ⟨27,0,true,0,none⟩):=hu 14 (by decide) (.inl rfl)
      have hbl:=lt_of_get hbe
      simp only [go_sem,sevalprocAttr,reduceCtorEq,g1,g4,hbe,hbl,List.set_cons_succ,List.set_cons_zero]
      have hkeep:∀(r:Nat) (o o':AObj),r≠H.length+1→HE[r]? =some o→(HE.set (H.length+1) o')[r]? =some o:=fun r o o' hr ho=>by rw [List.getElem?_set_ne (Ne.symm hr)];exact ho
      exact UPost.none hB (Frm.set hB.2 (.inl (by simp))) ⟨_,g1,q,rfl,hkeep _ _ _ (by omega) g2,g3,List.getElem?_set_self hbl⟩ (fun a w _ h1 _ _ h=>QA.pres h1 h (fun r o hr ho=>hkeep r o _ (by omega) ho)) (fun a _ h1 h=>UA.pres h (fun _ _=>trivial) (fun e=>absurd e h1))
     ·intro E HE hB hd
      obtain ⟨_,g1,q,rfl,g2,g3,g4⟩:=hd 14 (by decide) rfl
      have b0:lk 0 E=some (.slice (some ⟨bi,off,none⟩) (keyC keys).length cap):=hB.1 _ _ (by simp)
      have b1:lk 1 E=some (.slice (some ⟨bv,ofv,none⟩) cs0.length cav):=hB.1 _ _ (by simp)
      have b4:lk 4 E=some (.pointer (some ⟨H.length,0,none⟩)):=hB.1 _ _ (by simp)
      have b6:lk 6 E=some (.pointer (some ⟨H.length+1,0,none⟩)):=hB.1 _ _ (by simp)
      have b7:lk 7 E=some (.int .i64 (j:Nat)):=hB.1 _ _ (by simp)
      have b8:lk 8 E=some (.string (bs t)):=hB.1 _ _ (by simp)
      have b9:lk 9 E=some (.int .i64 (0:Nat)):=hB.1 _ _ (by simp)
      have b17:lk 17 E=some (.slice (some ⟨bi,off,none⟩) (keyC keys).length cap):=hB.1 _ _ (by simp)
      have b18:lk 18 E=some (.int .i64 (N:Nat)):=hB.1 _ _ (by simp)
      have b19:lk 19 E=some (.int .i64 (j:Nat)):=hB.1 _ _ (by simp)
      exact ⟨_,⟨q,HE,hB.2,g2,g3,g4,rfl⟩,Weak.env (by simp [envIn,wth_some,b0,b1,b4,b6,b7,b8,b9,b17,b18,b19])⟩
    rintro st ⟨q,H5,hf5,hq5,hlq,hb5,rfl⟩
    have hl35:=hf5.1
    have hbv5:=hf5.get hbv (by simp only [List.mem_cons,List.not_mem_nil,or_false];omega)
    have hkI:∀Ha Hb,Frm [] Ha Hb→(fun _=>True) Ha→(fun _=>True) Hb:=fun Ha Hb hf h=>trivial
    refine AWP.regionU 17 (fun _=>none) (BL [(0,.slice (some ⟨bi,off,none⟩) (keyC keys).length cap),(1,.slice (some ⟨bv,ofv,none⟩) cs0.length cav),(4,.pointer (some ⟨H.length,0,none⟩)),(6,.pointer (some ⟨H.length+1,0,none⟩)),(7,.int .i64 (j:Nat)),(8,.string (bs t)),(9,.int .i64 (0:Nat)),(17,.slice (some ⟨bi,off,none⟩) (keyC keys).length cap),(18,.int .i64 (N:Nat)),(19,.int .i64 (j:Nat))] [H.length+1] H5) (RV tmB (QB H5.length (H.length+1) 0 (.slice none 0 0) (.slice none 0 0) (.slice none 0 0) (.slice (some ⟨bv,ofv,none⟩) cs0.length cav) j bv (ofv+j*5) ([]:List (List Value)) r (fun u=> [.int .i64 4,.int .i64 0,.string (bs []),u,.slice (some ⟨q,0,none⟩) (([]:List Tx).length+1) (([]:List Tx).length+1)]))) (UB (H.length+1) (fun _=>True) (.cells [.int .i64 4,.int .i64 0,.string (bs []),.slice none 0 0,.slice (some ⟨q,0,none⟩) (([]:List Tx).length+1) (([]:List Tx).length+1)] ⟨27,0,true,0,none⟩)) (by kernel_rfl) (by kernel_rfl) (by kernel_rfl) (BL.of (by simp [envIn,lk_cons,wth_some]) (Frm.refl _ _)) (fun a _=>by
      unfold UB
      split
      ·exact trivial
      ·exact hb5
      ·trivial) ⟨?_,?_,?_,?_,?_,?_,?_,?_,?_,?_,?_,?_,?_,?_,?_,?_,?_,?_,trivial⟩ ?_
    ·intro E HE hB hd hu
     have b6:lk 6 E=some (.pointer (some ⟨H.length+1,0,none⟩)):=hB.1 _ _ (by simp)
     simp only [go_sem,sevalprocAttr,reduceCtorEq,b6]
     exact QB.more hkI (j:=0) (by decide) (by kernel_rfl) (by kernel_rfl) hB (by rfl) (Frm.refl _ _) rfl
    ·intro E HE hB hd hu
     obtain ⟨_,g1,rfl⟩:=hd 0 (by decide) (.inl rfl)
     have g1:lk 69 E=_:=g1
     have hbe:HE[H.length+1]? =some (.cells [.int .i64 4,.int .i64 0,.string (bs []),.slice none 0 0,.slice (some ⟨q,0,none⟩) (([]:List Tx).length+1) (([]:List Tx).length+1)] ⟨27,0,true,0,none⟩):=hu 17 (by decide) (.inr (by decide))
     simp only [go_sem,sevalprocAttr,reduceCtorEq,g1,hbe]
     exact QB.more hkI (j:=1) (by decide) (by kernel_rfl) (by kernel_rfl) hB (by rfl) (Frm.refl _ _) rfl
    ·intro E HE hB hd hu
     have b9:lk 9 E=some (.int .i64 (0:Nat)):=hB.1 _ _ (by simp)
     simp only [go_sem,sevalprocAttr,reduceCtorEq,b9]
     exact QB.more hkI (j:=2) (by decide) (by kernel_rfl) (by kernel_rfl) hB (by rfl) (Frm.refl _ _) rfl
    ·intro E HE hB hd hu
     have b9:lk 9 E=some (.int .i64 (0:Nat)):=hB.1 _ _ (by simp)
     simp only [go_sem,sevalprocAttr,reduceCtorEq,b9]
     exact QB.more hkI (j:=3) (by decide) (by kernel_rfl) (by kernel_rfl) hB (by rfl) (Frm.refl _ _) rfl
    ·intro E HE hB hd hu
     obtain ⟨_,g1,rfl⟩:=hd 1 (by decide) (.inl rfl)
     have g1:lk 70 E=_:=g1
     obtain ⟨_,g2,rfl⟩:=hd 2 (by decide) (.inl rfl)
     have g2:lk 71 E=_:=g2
     obtain ⟨_,g3,rfl⟩:=hd 3 (by decide) (.inl rfl)
     have g3:lk 72 E=_:=g3
     simp only [go_sem,sevalprocAttr,reduceCtorEq,g1,g2,g3,Option.isSome_some]
     exact QB.more hkI (j:=4) (by decide) (by kernel_rfl) (by kernel_rfl) hB (by rfl) (Frm.refl _ _) rfl
    ·intro E HE hB hd hu
     have b1:lk 1 E=some (.slice (some ⟨bv,ofv,none⟩) cs0.length cav):=hB.1 _ _ (by simp)
     simp only [go_sem,sevalprocAttr,reduceCtorEq,b1]
     exact QB.more hkI (j:=5) (by decide) (by kernel_rfl) (by kernel_rfl) hB (by rfl) (Frm.refl _ _) rfl
    ·intro E HE hB hd hu
     have b7:lk 7 E=some (.int .i64 (j:Nat)):=hB.1 _ _ (by simp)
     simp only [go_sem,sevalprocAttr,reduceCtorEq,b7]
     exact QB.more hkI (j:=6) (by decide) (by kernel_rfl) (by kernel_rfl) hB (by rfl) (Frm.refl _ _) rfl
    ·intro E HE hB hd hu
     obtain ⟨_,g1,rfl⟩:=hd 5 (by decide) (.inl rfl)
     have g1:lk 74 E=_:=g1
     obtain ⟨_,g2,rfl⟩:=hd 6 (by decide) (.inl rfl)
     have g2:lk 75 E=_:=g2
     simp only [go_sem,sevalprocAttr,reduceCtorEq,g1,g2,hlt3]
     exact QB.more hkI (j:=7) (by decide) (by kernel_rfl) (by kernel_rfl) hB (by rfl) (Frm.refl _ _) rfl
    ·intro E HE hB hd hu
     obtain ⟨_,g1,rfl⟩:=hd 7 (by decide) (.inl rfl)
     have g1:lk 76 E=_:=g1
     have hve:=hB.2.get hbv5 (by simp only [List.mem_cons,List.not_mem_nil,or_false];omega)
     simp only [go_sem,sevalprocAttr,reduceCtorEq,g1,hve,hlev,htkv]
     exact QB.more hkI (j:=8) (by decide) (by kernel_rfl) (by kernel_rfl) hB (by rfl) (Frm.refl _ _) rfl
    ·intro E HE hB hd hu
     obtain ⟨_,g1,rfl⟩:=hd 8 (by decide) (.inl rfl)
     have g1:lk 77 E=_:=g1
     simp only [go_sem,sevalprocAttr,reduceCtorEq,g1,hrf,hr5,hput5]
     exact QB.more hkI (j:=9) (by decide) (by kernel_rfl) (by kernel_rfl) hB (by rfl) Frm.app ⟨HE.length,rfl,by rw [hget0 rfl];rfl,hB.2.1⟩
    ·intro E HE hB hd hu
     have b6:lk 6 E=some (.pointer (some ⟨H.length+1,0,none⟩)):=hB.1 _ _ (by simp)
     simp only [go_sem,sevalprocAttr,reduceCtorEq,b6]
     exact QB.more hkI (j:=10) (by decide) (by kernel_rfl) (by kernel_rfl) hB (by rfl) (Frm.refl _ _) rfl
    ·intro E HE hB hd hu
     obtain ⟨_,g1,rfl⟩:=hd 10 (by decide) (.inl rfl)
     have g1:lk 79 E=_:=g1
     have hbe:HE[H.length+1]? =some (.cells [.int .i64 4,.int .i64 0,.string (bs []),.slice none 0 0,.slice (some ⟨q,0,none⟩) (([]:List Tx).length+1) (([]:List Tx).length+1)] ⟨27,0,true,0,none⟩):=hu 17 (by decide) (.inr (by decide))
     simp only [go_sem,sevalprocAttr,reduceCtorEq,g1,hbe]
     exact QB.more hkI (j:=11) (by decide) (by kernel_rfl) (by kernel_rfl) hB (by rfl) (Frm.refl _ _) rfl
    ·intro E HE hB hd hu
     have b9:lk 9 E=some (.int .i64 (0:Nat)):=hB.1 _ _ (by simp)
     simp only [go_sem,sevalprocAttr,reduceCtorEq,b9]
     exact QB.more hkI (j:=12) (by decide) (by kernel_rfl) (by kernel_rfl) hB (by rfl) (Frm.refl _ _) rfl
    ·intro E HE hB hd hu
     obtain ⟨_,g1,rfl⟩:=hd 11 (by decide) (.inl rfl)
     have g1:lk 80 E=_:=g1
     obtain ⟨_,g2,rfl⟩:=hd 12 (by decide) (.inl rfl)
     have g2:lk 81 E=_:=g2
     simp only [go_sem,sevalprocAttr,reduceCtorEq,g1,g2,Option.isSome_some,Option.isSome_none]
     exact QB.more hkI (j:=13) (by decide) (by kernel_rfl) (by kernel_rfl) hB (by rfl) (Frm.refl _ _) rfl
    ·intro E HE hB hd hu
     obtain ⟨_,g1,q',rfl,g2,g3⟩:=hd 9 (by decide) (.inl rfl)
     have g1:lk 78 E=_:=g1
     obtain ⟨_,g4,rfl⟩:=hd 13 (by decide) (.inl rfl)
     have g4:lk 82 E=_:=g4
     simp only [go_sem,sevalprocAttr,reduceCtorEq,g1,g4]
     refine app_head (m:=5) (n:=0) (news:=[]) (by decide) g2 hr5 g3 hB.2.1 rfl (by decide) (by decide) fun q' z X h1 h2 h3=> ?_
     exact QB.more hkI (j:=14) (by decide) (by kernel_rfl) (by kernel_rfl) hB (by rfl) Frm.app ⟨q',z,rfl,h3,h1,h2⟩
    ·intro E HE hB hd hu
     obtain ⟨_,g1,rfl⟩:=hd 4 (by decide) (.inl rfl)
     have g1:lk 73 E=_:=g1
     obtain ⟨_,g2,q',z,rfl,g3,g4,g5⟩:=hd 14 (by decide) (.inl rfl)
     have g2:lk 83 E=_:=g2
     have g3:HE[q']? =some (.cells (r++[]) ⟨27,z,true,0,none⟩):=g3
     rw [List.append_nil] at g3
     simp only [go_sem,sevalprocAttr,reduceCtorEq,g1,g2,g3,hr5,hrf,htk5r]
     refine appendTo_nn (by decide) (by decide) (by decide) ?_
     exact QB.more hkI (j:=15) (by decide) (by kernel_rfl) (by kernel_rfl) hB (by rfl) Frm.app ⟨HE.length,rfl,by rw [hget0 rfl];show some _=some _;rw [hone],hB.2.1⟩
    ·intro E HE hB hd hu
     have b6:lk 6 E=some (.pointer (some ⟨H.length+1,0,none⟩)):=hB.1 _ _ (by simp)
     simp only [go_sem,sevalprocAttr,reduceCtorEq,b6]
     exact QB.more hkI (j:=16) (by decide) (by kernel_rfl) (by kernel_rfl) hB (by rfl) (Frm.refl _ _) rfl
    ·intro E HE hB hd hu
     obtain ⟨_,g1,q',rfl,g2,g3⟩:=hd 15 (by decide) (.inl rfl)
     have g1:lk 84 E=_:=g1
     obtain ⟨_,g4,rfl⟩:=hd 16 (by decide) (.inl rfl)
     have g4:lk 85 E=_:=g4
     have hbe:HE[H.length+1]? =some (.cells [.int .i64 4,.int .i64 0,.string (bs []),.slice none 0 0,.slice (some ⟨q,0,none⟩) (([]:List Tx).length+1) (([]:List Tx).length+1)] ⟨27,0,true,0,none⟩):=hu 17 (by decide) (.inl rfl)
     have hbl:=lt_of_get hbe
     simp only [go_sem,sevalprocAttr,reduceCtorEq,g1,g4,hbe,hbl,List.set_cons_succ,List.set_cons_zero]
     have hkeep:∀(r':Nat) (o o':AObj),r'≠H.length+1→HE[r']? =some o→(HE.set (H.length+1) o')[r']? =some o:=fun r' o o' hr ho=>by rw [List.getElem?_set_ne (Ne.symm hr)];exact ho
     exact UPost.none hB (Frm.set hB.2 (.inl (by simp))) ⟨_,g1,q',rfl,hkeep _ _ _ (by omega) g2,g3,List.getElem?_set_self hbl⟩ (fun a w _ h1 _ _ h=>QB.pres h1 h (fun r' o hr ho=>hkeep r' o _ (by omega) ho)) (fun a _ h1 h=>UB.pres h (fun _ _=>trivial) (fun e=>absurd e h1))
    ·intro E HE hB hd
     obtain ⟨_,g1,q',rfl,g2,g3,g4⟩:=hd 17 (by decide) rfl
     have b0:lk 0 E=some (.slice (some ⟨bi,off,none⟩) (keyC keys).length cap):=hB.1 _ _ (by simp)
     have b1:lk 1 E=some (.slice (some ⟨bv,ofv,none⟩) cs0.length cav):=hB.1 _ _ (by simp)
     have b4:lk 4 E=some (.pointer (some ⟨H.length,0,none⟩)):=hB.1 _ _ (by simp)
     have b6:lk 6 E=some (.pointer (some ⟨H.length+1,0,none⟩)):=hB.1 _ _ (by simp)
     have b17:lk 17 E=some (.slice (some ⟨bi,off,none⟩) (keyC keys).length cap):=hB.1 _ _ (by simp)
     have b18:lk 18 E=some (.int .i64 (N:Nat)):=hB.1 _ _ (by simp)
     have b19:lk 19 E=some (.int .i64 (j:Nat)):=hB.1 _ _ (by simp)
     simp only [go_sem,sevalprocAttr,reduceCtorEq]
     refine AWP.weak (s2:=⟨[(0,.slice (some ⟨bi,off,none⟩) (keyC keys).length cap),(1,.slice (some ⟨bv,ofv,none⟩) cs0.length cav),(4,.pointer (some ⟨H.length,0,none⟩)),(6,.pointer (some ⟨H.length+1,0,none⟩)),(17,.slice (some ⟨bi,off,none⟩) (keyC keys).length cap),(18,.int .i64 (N:Nat)),(19,.int .i64 (j:Nat))],[],HE⟩) (Weak.env (by simp [envIn,wth_some,b0,b1,b4,b6,b17,b18,b19])) ?_
     have hf6:=hB.2
     repeat first|with_reducible refine kc ?_|((with_reducible first|refine kr ?_ ?_|refine kt ?_ ?_);exact rfl)|((with_reducible refine kf ?_ ?_);exact rfl)|simp only [go_sem,sevalprocAttr,reduceCtorEq,hwj]|simp (disch:=omega) only [wz]
     exact ⟨⟨j+1,insAt [] 0 t,insAt vs 0 x,insAt [] 0 r,_,_,[q],[q'],HE⟩,Weak.env (by simp [envIn,lk_cons,wth_some]),rd_next hI hRv hjk hat hm hsn rfl rfl (hf5.mono (fun s hs=>by simpa using hs)) hq5 hlq ⟨_,_,hb5,rfl⟩ (fun s h1 h2=>(by cases h1)) (hf6.mono (fun s hs=>by simpa using hs)) g2 g3 g4,by dsimp only;omega⟩
   ·have hjp:0<j:=by omega
    obtain ⟨q2,rfl,rfl,hq2⟩:∃q,kv= .slice (some ⟨q,0,none⟩) j j∧Sk=[q]∧Hc[q]? =some (.cells (strsC ks) ⟨9,1,true,0,none⟩):=by
     rcases i7.2 with ⟨_,h,_⟩|⟨q,h1,_,h2,h3⟩
     ·omega
     ·exact ⟨q,h1,h2,h3⟩
    obtain ⟨q1,rfl,rfl,hq1⟩:∃q,sv= .slice (some ⟨q,0,none⟩) j j∧Sv=[q]∧Hc[q]? =some (.cells css.flatten ⟨27,5,true,0,none⟩):=by
     rcases i8.2 with ⟨_,h,_⟩|⟨q,h1,_,h2,h3⟩
     ·omega
     ·exact ⟨q,h1,h2,h3⟩
    have hq2g:=i12 q2 (by simp)
    have hq1g:=i13 q1 (by simp)
    have hq2l:=lt_of_get hq2
    have hq1l:=lt_of_get hq1
    have hq12:q1≠q2:=fun e=>by
     rw [e,hq2] at hq1
     injection hq1 with h
     injection h with _ h
     injection h with h
     cases h
    have hkat:∀i (hi:i<ks.length),(strsC ks)[i]? =some (.string (bs ks[i])):=fun i hi=>by unfold strsC;rw [List.getElem?_map,List.getElem?_eq_getElem hi];rfl
    repeat first|with_reducible refine AWP.seqE (x:= .block 2 _) (fun st=>st=⟨[(0,.slice (some ⟨bi,off,none⟩) (keyC keys).length cap),(1,.slice (some ⟨bv,ofv,none⟩) cs0.length cav),(4,.pointer (some ⟨H.length,0,none⟩)),(6,.pointer (some ⟨H.length+1,0,none⟩)),(7,.int .i64 (j:Nat)),(8,.string (bs t)),(9,.int .i64 (at':Nat)),(17,.slice (some ⟨bi,off,none⟩) (keyC keys).length cap),(18,.int .i64 (N:Nat)),(19,.int .i64 (j:Nat))],[],Hc⟩) ?_ ?_|with_reducible refine kc ?_|((with_reducible first|refine kr ?_ ?_|refine kt ?_ ?_);exact rfl)|((with_reducible refine kf ?_ ?_);exact rfl)|simp only [go_sem,sevalprocAttr,reduceCtorEq,hlt',hlt2,hbi,hcell]|simp (disch:=omega) only [wz]
    ·refine AWP.loopP (fun i:Nat=>⟨[(0,.slice (some ⟨bi,off,none⟩) (keyC keys).length cap),(1,.slice (some ⟨bv,ofv,none⟩) cs0.length cav),(4,.pointer (some ⟨H.length,0,none⟩)),(6,.pointer (some ⟨H.length+1,0,none⟩)),(7,.int .i64 (j:Nat)),(8,.string (bs t)),(9,.int .i64 (i:Nat)),(17,.slice (some ⟨bi,off,none⟩) (keyC keys).length cap),(18,.int .i64 (N:Nat)),(19,.int .i64 (j:Nat))],[],Hc⟩) (fun i=>i≤at') (fun i=>at' - i) 0 ?_ (Nat.zero_le _) ?_
     ·exact Weak.env (by simp [envIn,lk_cons,wth_some])
     rintro i hi
     by_cases hia:i<at'
     ·have hik:i<ks.length:=by omega
      have hlti:(i:Int)<(j:Int):=by omega
      have hki:=hkat i hik
      have hls:=hlow.lo i _ hia (List.getElem?_eq_getElem hik)
      have hwi:IntKind.i64.wrap ((i:Int)+1)=((i+1:Nat):Int):=by rw [wi64 (by omega)];omega
      generalize ks[i]=kj at*
      repeat first|with_reducible refine kc ?_|((with_reducible first|refine kr ?_ ?_|refine kt ?_ ?_);exact rfl)|((with_reducible refine kf ?_ ?_);exact rfl)|simp only [go_sem,sevalprocAttr,reduceCtorEq,i10,hlti,hq2,hki,hls,hwi]|simp (disch:=omega) only [wz]
      exact ⟨i+1,Weak.env (by simp [envIn,lk_cons,wth_some]),by omega,by omega⟩
     ·have hie:i=at':=by omega
      by_cases hik:i<ks.length
      ·have hlti:(i:Int)<(j:Int):=by omega
       have hki:=hkat i hik
       have hls:=hlow.hi i _ (by omega) (List.getElem?_eq_getElem hik)
       generalize ks[i]=kj at*
       repeat first|with_reducible refine kc ?_|((with_reducible first|refine kr ?_ ?_|refine kt ?_ ?_);exact rfl)|((with_reducible refine kf ?_ ?_);exact rfl)|simp only [go_sem,sevalprocAttr,reduceCtorEq,i10,hlti,hq2,hki,hls]|simp (disch:=omega) only [wz]
       exact ⟨_,rfl,Weak.env (by simp [envIn,lk_cons,wth_some,hie])⟩
      ·have hlti:¬(i:Int)<(j:Int):=by omega
       repeat first|with_reducible refine kc ?_|((with_reducible first|refine kr ?_ ?_|refine kt ?_ ?_);exact rfl)|((with_reducible refine kf ?_ ?_);exact rfl)|simp only [go_sem,sevalprocAttr,reduceCtorEq,i10,hlti]|simp (disch:=omega) only [wz]
       exact ⟨_,rfl,Weak.env (by simp [envIn,lk_cons,wth_some,hie])⟩
    rintro st rfl
    by_cases hm:t∈ks
    ·rw [if_pos hm] at hsn
     rw [hdR,dictGo_none hsn]
     have hka2:=hlm.2 hm
     have hal:at'<ks.length:=(List.getElem?_eq_some_iff.1 hka2).1
     have hlti:(at':Int)<(j:Int):=by omega
     have hki:(strsC ks)[at']? =some (.string (bs t)):=by unfold strsC;rw [List.getElem?_map,hka2];rfl
     repeat first|with_reducible refine kc ?_|((with_reducible first|refine kr ?_ ?_|refine kt ?_ ?_);exact rfl)|((with_reducible refine kf ?_ ?_);exact rfl)|simp only [go_sem,sevalprocAttr,reduceCtorEq,i10,hlti,hq2,hki,i9,hbl9,hput0]|simp (disch:=omega) only [wz]
     exact ⟨_,_,.refl _ _ _,_,rfl,Frm.set i11 (.inr (Nat.le_refl _)),RdV_zero _⟩
    ·rw [if_neg hm] at hsn
     have hsl:=strsC_len ks
     have hkf:=strsC_flat ks
     have hdl:(List.drop at' (strsC ks)).length=j - at':=by rw [List.length_drop,hsl,i3]
     have htkd:List.take (j - at') (List.drop at' (strsC ks))=List.drop at' (strsC ks):=List.take_of_length_le (by omega)
     have hdf:(List.drop at' (strsC ks)).all Go.Aw.flat=true:=List.all_eq_true.2 fun y hy=>List.all_eq_true.1 hkf y (List.mem_of_mem_drop hy)
     have hcond:∀i,i=at'→i<ks.length→∃ki,(strsC ks)[i]? =some (.string (bs ki))∧(ki==t)=false:=fun i hi hl=>by
      refine ⟨ks[i],hkat i hl,beq_eq_false_iff_ne.2 fun e=>hm ?_⟩
      rw [← e];exact List.getElem_mem hl
     have hgo:∀Q:AExit→ASt→Prop,True:=fun _=>trivial
     by_cases hal:at'<ks.length
     ·obtain ⟨ki,hki,hkn⟩:=hcond at' rfl hal
      have hlti:(at':Int)<(j:Int):=by omega
      repeat first|with_reducible refine AWP.seqE (x:= .region 12 _ _) (DKJ [(0,.slice (some ⟨bi,off,none⟩) (keyC keys).length cap),(1,.slice (some ⟨bv,ofv,none⟩) cs0.length cav),(4,.pointer (some ⟨H.length,0,none⟩)),(6,.pointer (some ⟨H.length+1,0,none⟩)),(7,.int .i64 (j:Nat)),(8,.string (bs t)),(9,.int .i64 (at':Nat)),(17,.slice (some ⟨bi,off,none⟩) (keyC keys).length cap),(18,.int .i64 (N:Nat)),(19,.int .i64 (j:Nat))] H [H.length+1,q2] at' ks t (fun u=> [.int .i64 4,.int .i64 0,.string (bs []),.slice (some ⟨q1,0,none⟩) j j,u]) Hc) ?_ ?_|with_reducible refine kc ?_|((with_reducible first|refine kr ?_ ?_|refine kt ?_ ?_);exact rfl)|((with_reducible refine kf ?_ ?_);exact rfl)|simp only [go_sem,sevalprocAttr,reduceCtorEq,i10,hlti,hq2,hki,hkn]|simp (disch:=omega) only [wz]
      ·skip
       have hkI:∀Ha Hb,Frm [] Ha Hb→(fun HE=>HE[q2]? =some (.cells (strsC ks) ⟨9,1,true,0,none⟩)) Ha→(fun HE=>HE[q2]? =some (.cells (strsC ks) ⟨9,1,true,0,none⟩)) Hb:=fun Ha Hb hf h=>hf.get h (by simp)
       refine AWP.regionU 14 (fun _=>none) (BL [(0,.slice (some ⟨bi,off,none⟩) (keyC keys).length cap),(1,.slice (some ⟨bv,ofv,none⟩) cs0.length cav),(4,.pointer (some ⟨H.length,0,none⟩)),(6,.pointer (some ⟨H.length+1,0,none⟩)),(7,.int .i64 (j:Nat)),(8,.string (bs t)),(9,.int .i64 (at':Nat)),(17,.slice (some ⟨bi,off,none⟩) (keyC keys).length cap),(18,.int .i64 (N:Nat)),(19,.int .i64 (j:Nat))] [H.length+1,q2] Hc) (RV tmA (QA Hc.length (H.length+1) at' (.slice (some ⟨q2,0,none⟩) j j) (.slice (some ⟨q2,0,none⟩) at' at') (.slice (some ⟨q2,at',none⟩) (j - at') (j - at')) ks t (fun u=> [.int .i64 4,.int .i64 0,.string (bs []),.slice (some ⟨q1,0,none⟩) j j,u]))) (UA (H.length+1) (fun HE=>HE[q2]? =some (.cells (strsC ks) ⟨9,1,true,0,none⟩)) (.cells [.int .i64 4,.int .i64 0,.string (bs []),.slice (some ⟨q1,0,none⟩) j j,.slice (some ⟨q2,0,none⟩) j j] ⟨27,0,true,0,none⟩)) (by kernel_rfl) (by kernel_rfl) (by kernel_rfl) (BL.of (by simp [envIn,lk_cons,wth_some]) (Frm.refl _ _)) (fun a _=>by
         unfold UA
         split
         ·exact hq2
         ·exact i10
         ·trivial) ⟨?_,?_,?_,?_,?_,?_,?_,?_,?_,?_,?_,?_,?_,?_,?_,trivial⟩ ?_
       ·intro E HE hB hd hu
        have b6:lk 6 E=some (.pointer (some ⟨H.length+1,0,none⟩)):=hB.1 _ _ (by simp)
        simp only [go_sem,sevalprocAttr,reduceCtorEq,b6]
        exact QA.more hkI (j:=0) (by decide) (by kernel_rfl) (by kernel_rfl) hB (by rfl) (Frm.refl _ _) rfl
       ·intro E HE hB hd hu
        obtain ⟨_,g1,rfl⟩:=hd 0 (by decide) (.inl rfl)
        have g1:lk 55 E=_:=g1
        have hbe:HE[H.length+1]? =some (.cells [.int .i64 4,.int .i64 0,.string (bs []),.slice (some ⟨q1,0,none⟩) j j,.slice (some ⟨q2,0,none⟩) j j] ⟨27,0,true,0,none⟩):=hu 14 (by decide) (.inr (by decide))
        simp only [go_sem,sevalprocAttr,reduceCtorEq,g1,hbe]
        exact QA.more hkI (j:=1) (by decide) (by kernel_rfl) (by kernel_rfl) hB (by rfl) (Frm.refl _ _) rfl
       ·intro E HE hB hd hu
        have b9:lk 9 E=some (.int .i64 (at':Nat)):=hB.1 _ _ (by simp)
        simp only [go_sem,sevalprocAttr,reduceCtorEq,b9]
        exact QA.more hkI (j:=2) (by decide) (by kernel_rfl) (by kernel_rfl) hB (by rfl) (Frm.refl _ _) rfl
       ·intro E HE hB hd hu
        have b9:lk 9 E=some (.int .i64 (at':Nat)):=hB.1 _ _ (by simp)
        simp only [go_sem,sevalprocAttr,reduceCtorEq,b9]
        exact QA.more hkI (j:=3) (by decide) (by kernel_rfl) (by kernel_rfl) hB (by rfl) (Frm.refl _ _) rfl
       ·intro E HE hB hd hu
        obtain ⟨_,g1,rfl⟩:=hd 1 (by decide) (.inl rfl)
        have g1:lk 56 E=_:=g1
        obtain ⟨_,g2,rfl⟩:=hd 2 (by decide) (.inl rfl)
        have g2:lk 57 E=_:=g2
        obtain ⟨_,g3,rfl⟩:=hd 3 (by decide) (.inl rfl)
        have g3:lk 58 E=_:=g3
        simp only [go_sem,sevalprocAttr,reduceCtorEq,g1,g2,g3,ite_self]
        refine ⟨by omega,by omega,rfl,?_⟩
        exact QA.more hkI (j:=4) (by decide) (by kernel_rfl) (by kernel_rfl) hB (by rfl) (Frm.refl _ _) rfl
       ·intro E HE hB hd hu
        have b8:lk 8 E=some (.string (bs t)):=hB.1 _ _ (by simp)
        simp only [go_sem,sevalprocAttr,reduceCtorEq,b8]
        exact QA.more hkI (j:=5) (by decide) (by kernel_rfl) (by kernel_rfl) hB (by rfl) (Frm.refl _ _) rfl
       ·intro E HE hB hd hu
        obtain ⟨_,g1,rfl⟩:=hd 5 (by decide) (.inl rfl)
        have g1:lk 60 E=_:=g1
        simp only [go_sem,sevalprocAttr,reduceCtorEq,g1]
        exact QA.more hkI (j:=6) (by decide) (by kernel_rfl) (by kernel_rfl) hB (by rfl) Frm.app ⟨HE.length,rfl,by rw [hget0 rfl];rfl,hB.2.1⟩
       ·intro E HE hB hd hu
        have b6:lk 6 E=some (.pointer (some ⟨H.length+1,0,none⟩)):=hB.1 _ _ (by simp)
        simp only [go_sem,sevalprocAttr,reduceCtorEq,b6]
        exact QA.more hkI (j:=7) (by decide) (by kernel_rfl) (by kernel_rfl) hB (by rfl) (Frm.refl _ _) rfl
       ·intro E HE hB hd hu
        obtain ⟨_,g1,rfl⟩:=hd 7 (by decide) (.inl rfl)
        have g1:lk 62 E=_:=g1
        have hbe:HE[H.length+1]? =some (.cells [.int .i64 4,.int .i64 0,.string (bs []),.slice (some ⟨q1,0,none⟩) j j,.slice (some ⟨q2,0,none⟩) j j] ⟨27,0,true,0,none⟩):=hu 14 (by decide) (.inr (by decide))
        simp only [go_sem,sevalprocAttr,reduceCtorEq,g1,hbe]
        exact QA.more hkI (j:=8) (by decide) (by kernel_rfl) (by kernel_rfl) hB (by rfl) (Frm.refl _ _) rfl
       ·intro E HE hB hd hu
        have b9:lk 9 E=some (.int .i64 (at':Nat)):=hB.1 _ _ (by simp)
        simp only [go_sem,sevalprocAttr,reduceCtorEq,b9]
        exact QA.more hkI (j:=9) (by decide) (by kernel_rfl) (by kernel_rfl) hB (by rfl) (Frm.refl _ _) rfl
       ·intro E HE hB hd hu
        obtain ⟨_,g1,rfl⟩:=hd 8 (by decide) (.inl rfl)
        have g1:lk 63 E=_:=g1
        obtain ⟨_,g2,rfl⟩:=hd 9 (by decide) (.inl rfl)
        have g2:lk 64 E=_:=g2
        have hqe:HE[q2]? =some (.cells (strsC ks) ⟨9,1,true,0,none⟩):=hu 12 (by decide) (.inr (by decide))
        simp only [go_sem,sevalprocAttr,reduceCtorEq,g1,g2,hqe,tight]
        refine ⟨by omega,by omega,?_⟩
        exact QA.more hkI (j:=10) (by decide) (by kernel_rfl) (by kernel_rfl) hB (by rfl) (Frm.refl _ _) rfl
       ·intro E HE hB hd hu
        obtain ⟨_,g1,q,rfl,g2,g3⟩:=hd 6 (by decide) (.inl rfl)
        have g1:lk 61 E=_:=g1
        obtain ⟨_,g4,rfl⟩:=hd 10 (by decide) (.inl rfl)
        have g4:lk 65 E=_:=g4
        have hqe:HE[q2]? =some (.cells (strsC ks) ⟨9,1,true,0,none⟩):=hu 12 (by decide) (.inr (by decide))
        simp only [go_sem,sevalprocAttr,reduceCtorEq,g1,g4,hqe]
        rw [htkd]
        refine ⟨by omega,hdf,hdl,?_⟩
        refine app_head (by decide) g2 rfl g3 hB.2.1 (by rw [Nat.mul_one];exact hdl) (by omega) (by omega) fun q' z X h1 h2 h3=> ?_
        exact QA.more hkI (j:=11) (by decide) (by kernel_rfl) (by kernel_rfl) hB (by rfl) Frm.app ⟨q',z,by rw [i3],h3,h1,h2⟩
       ·intro E HE hB hd hu
        obtain ⟨_,g1,rfl⟩:=hd 4 (by decide) (.inl rfl)
        have g1:lk 59 E=_:=g1
        obtain ⟨_,g2,q,z,rfl,g3,g4,g5⟩:=hd 11 (by decide) (.inl rfl)
        have g2:lk 66 E=_:=g2
        have hqe:HE[q2]? =some (.cells (strsC ks) ⟨9,1,true,0,none⟩):=hu 12 (by decide) (.inl rfl)
        rw [i3] at g2
        simp only [go_sem,sevalprocAttr,reduceCtorEq,g1,g2,g3,hqe]
        rw [htkd]
        refine ⟨by omega,hdf,hdl,?_⟩
        refine app_cut (by decide) hqe (.inl rfl) (by omega) (by omega) (by omega) (by omega) fun H2' h2=> ?_
        rw [show at'+(j - at'+1)=ks.length+1 by omega,show List.take (at'*1) (strsC ks)++(Value.string (bs t)::List.drop at' (strsC ks))=strsC (insAt ks at' t) from strs_ins' ks at' t]
        have hl2':H2'.length=HE.length:=by
         rcases h2 with rfl|rfl
         ·rfl
         ·rw [List.length_set]
        have hkeep:∀(r:Nat) (o:AObj),r≠q2→HE[r]? =some o→(H2'++ [.cells (strsC (insAt ks at' t)) ⟨9,1,true,0,none⟩])[r]? =some o:=fun r o hr ho=>by
         rw [hgetl (by rw [hl2'];exact lt_of_get ho)]
         rcases h2 with rfl|rfl
         ·exact ho
         ·rw [List.getElem?_set_ne (Ne.symm hr)];exact ho
        have hfc2:Frm [H.length+1,q2] Hc H2':=by
         rcases h2 with rfl|rfl
         ·exact hB.2
         ·exact Frm.set hB.2 (.inl (by simp))
        exact UPost.put (tm:=tmA) (j:=12) (by kernel_rfl) hB (by rfl) hfc2.more ⟨HE.length,rfl,by rw [hget0 hl2'];rfl,hB.2.1⟩ (fun a w _ h1 _ hb h=>QA.pres (fun e=>by rw [e] at hb;exact hb (by decide)) h (fun r o hr ho=>hkeep r o (by omega) ho)) (fun a _ h1 h=>UA.pres h (fun e=>absurd e h1) (fun _ ho=>hkeep _ _ (by omega) ho))
       ·intro E HE hB hd hu
        have b6:lk 6 E=some (.pointer (some ⟨H.length+1,0,none⟩)):=hB.1 _ _ (by simp)
        simp only [go_sem,sevalprocAttr,reduceCtorEq,b6]
        exact QA.more hkI (j:=13) (by decide) (by kernel_rfl) (by kernel_rfl) hB (by rfl) (Frm.refl _ _) rfl
       ·intro E HE hB hd hu
        obtain ⟨_,g1,q,rfl,g2,g3⟩:=hd 12 (by decide) (.inl rfl)
        have g1:lk 67 E=_:=g1
        obtain ⟨_,g4,rfl⟩:=hd 13 (by decide) (.inl rfl)
        have g4:lk 68 E=_:=g4
        have hbe:HE[H.length+1]? =some (.cells [.int .i64 4,.int .i64 0,.string (bs []),.slice (some ⟨q1,0,none⟩) j j,.slice (some ⟨q2,0,none⟩) j j] ⟨27,0,true,0,none⟩):=hu 14 (by decide) (.inl rfl)
        have hbl:=lt_of_get hbe
        simp only [go_sem,sevalprocAttr,reduceCtorEq,g1,g4,hbe,hbl,List.set_cons_succ,List.set_cons_zero]
        have hkeep:∀(r:Nat) (o o':AObj),r≠H.length+1→HE[r]? =some o→(HE.set (H.length+1) o')[r]? =some o:=fun r o o' hr ho=>by rw [List.getElem?_set_ne (Ne.symm hr)];exact ho
        exact UPost.none hB (Frm.set hB.2 (.inl (by simp))) ⟨_,g1,q,rfl,hkeep _ _ _ (by omega) g2,g3,List.getElem?_set_self hbl⟩ (fun a w _ h1 _ _ h=>QA.pres h1 h (fun r o hr ho=>hkeep r o _ (by omega) ho)) (fun a _ h1 h=>UA.pres h (fun _ ho=>hkeep _ _ _ (by omega) ho) (fun e=>absurd e h1))
       ·intro E HE hB hd
        obtain ⟨_,g1,q,rfl,g2,g3,g4⟩:=hd 14 (by decide) rfl
        have b0:lk 0 E=some (.slice (some ⟨bi,off,none⟩) (keyC keys).length cap):=hB.1 _ _ (by simp)
        have b1:lk 1 E=some (.slice (some ⟨bv,ofv,none⟩) cs0.length cav):=hB.1 _ _ (by simp)
        have b4:lk 4 E=some (.pointer (some ⟨H.length,0,none⟩)):=hB.1 _ _ (by simp)
        have b6:lk 6 E=some (.pointer (some ⟨H.length+1,0,none⟩)):=hB.1 _ _ (by simp)
        have b7:lk 7 E=some (.int .i64 (j:Nat)):=hB.1 _ _ (by simp)
        have b8:lk 8 E=some (.string (bs t)):=hB.1 _ _ (by simp)
        have b9:lk 9 E=some (.int .i64 (at':Nat)):=hB.1 _ _ (by simp)
        have b17:lk 17 E=some (.slice (some ⟨bi,off,none⟩) (keyC keys).length cap):=hB.1 _ _ (by simp)
        have b18:lk 18 E=some (.int .i64 (N:Nat)):=hB.1 _ _ (by simp)
        have b19:lk 19 E=some (.int .i64 (j:Nat)):=hB.1 _ _ (by simp)
        exact ⟨_,⟨q,HE,hB.2,g2,g3,g4,rfl⟩,Weak.env (by simp [envIn,wth_some,b0,b1,b4,b6,b7,b8,b9,b17,b18,b19])⟩
      rintro st ⟨q,H5,hf5,hq5,hlq,hb5,rfl⟩
      have hl35:=hf5.1
      have hq15:=hf5.get hq1 (by simp only [List.mem_cons,List.not_mem_nil,or_false];omega)
      have hbv5:=hf5.get hbv (by simp only [List.mem_cons,List.not_mem_nil,or_false];omega)
      have hkf5:=RdL_flats i5
      have hcf5:=flat_len i5.all5
      have hdl5:(List.drop (at'*5) css.flatten).length=(j - at')*5:=by rw [List.length_drop,hcf5,i6];omega
      have htkd5:List.take ((j - at')*5) (List.drop (at'*5) css.flatten)=List.drop (at'*5) css.flatten:=List.take_of_length_le (by omega)
      have hdf5:(List.drop (at'*5) css.flatten).all Go.Aw.flat=true:=List.all_eq_true.2 fun y hy=>List.all_eq_true.1 hkf5 y (List.mem_of_mem_drop hy)
      have hkI:∀Ha Hb,Frm [] Ha Hb→(fun HE=>HE[q1]? =some (.cells css.flatten ⟨27,5,true,0,none⟩)) Ha→(fun HE=>HE[q1]? =some (.cells css.flatten ⟨27,5,true,0,none⟩)) Hb:=fun Ha Hb hf h=>hf.get h (by simp)
      refine AWP.regionU 17 (fun _=>none) (BL [(0,.slice (some ⟨bi,off,none⟩) (keyC keys).length cap),(1,.slice (some ⟨bv,ofv,none⟩) cs0.length cav),(4,.pointer (some ⟨H.length,0,none⟩)),(6,.pointer (some ⟨H.length+1,0,none⟩)),(7,.int .i64 (j:Nat)),(8,.string (bs t)),(9,.int .i64 (at':Nat)),(17,.slice (some ⟨bi,off,none⟩) (keyC keys).length cap),(18,.int .i64 (N:Nat)),(19,.int .i64 (j:Nat))] [H.length+1,q1] H5) (RV tmB (QB H5.length (H.length+1) at' (.slice (some ⟨q1,0,none⟩) j j) (.slice (some ⟨q1,0,none⟩) at' at') (.slice (some ⟨q1,at'*5,none⟩) (j - at') (j - at')) (.slice (some ⟨bv,ofv,none⟩) cs0.length cav) j bv (ofv+j*5) css r (fun u=> [.int .i64 4,.int .i64 0,.string (bs []),u,.slice (some ⟨q,0,none⟩) (ks.length+1) (ks.length+1)]))) (UB (H.length+1) (fun HE=>HE[q1]? =some (.cells css.flatten ⟨27,5,true,0,none⟩)) (.cells [.int .i64 4,.int .i64 0,.string (bs []),.slice (some ⟨q1,0,none⟩) j j,.slice (some ⟨q,0,none⟩) (ks.length+1) (ks.length+1)] ⟨27,0,true,0,none⟩)) (by kernel_rfl) (by kernel_rfl) (by kernel_rfl) (BL.of (by simp [envIn,lk_cons,wth_some]) (Frm.refl _ _)) (fun a _=>by
        unfold UB
        split
        ·exact hq15
        ·exact hb5
        ·trivial) ⟨?_,?_,?_,?_,?_,?_,?_,?_,?_,?_,?_,?_,?_,?_,?_,?_,?_,?_,trivial⟩ ?_
      ·intro E HE hB hd hu
       have b6:lk 6 E=some (.pointer (some ⟨H.length+1,0,none⟩)):=hB.1 _ _ (by simp)
       simp only [go_sem,sevalprocAttr,reduceCtorEq,b6]
       exact QB.more hkI (j:=0) (by decide) (by kernel_rfl) (by kernel_rfl) hB (by rfl) (Frm.refl _ _) rfl
      ·intro E HE hB hd hu
       obtain ⟨_,g1,rfl⟩:=hd 0 (by decide) (.inl rfl)
       have g1:lk 69 E=_:=g1
       have hbe:HE[H.length+1]? =some (.cells [.int .i64 4,.int .i64 0,.string (bs []),.slice (some ⟨q1,0,none⟩) j j,.slice (some ⟨q,0,none⟩) (ks.length+1) (ks.length+1)] ⟨27,0,true,0,none⟩):=hu 17 (by decide) (.inr (by decide))
       simp only [go_sem,sevalprocAttr,reduceCtorEq,g1,hbe]
       exact QB.more hkI (j:=1) (by decide) (by kernel_rfl) (by kernel_rfl) hB (by rfl) (Frm.refl _ _) rfl
      ·intro E HE hB hd hu
       have b9:lk 9 E=some (.int .i64 (at':Nat)):=hB.1 _ _ (by simp)
       simp only [go_sem,sevalprocAttr,reduceCtorEq,b9]
       exact QB.more hkI (j:=2) (by decide) (by kernel_rfl) (by kernel_rfl) hB (by rfl) (Frm.refl _ _) rfl
      ·intro E HE hB hd hu
       have b9:lk 9 E=some (.int .i64 (at':Nat)):=hB.1 _ _ (by simp)
       simp only [go_sem,sevalprocAttr,reduceCtorEq,b9]
       exact QB.more hkI (j:=3) (by decide) (by kernel_rfl) (by kernel_rfl) hB (by rfl) (Frm.refl _ _) rfl
      ·intro E HE hB hd hu
       obtain ⟨_,g1,rfl⟩:=hd 1 (by decide) (.inl rfl)
       have g1:lk 70 E=_:=g1
       obtain ⟨_,g2,rfl⟩:=hd 2 (by decide) (.inl rfl)
       have g2:lk 71 E=_:=g2
       obtain ⟨_,g3,rfl⟩:=hd 3 (by decide) (.inl rfl)
       have g3:lk 72 E=_:=g3
       simp only [go_sem,sevalprocAttr,reduceCtorEq,g1,g2,g3,ite_self]
       refine ⟨by omega,by omega,rfl,?_⟩
       exact QB.more hkI (j:=4) (by decide) (by kernel_rfl) (by kernel_rfl) hB (by rfl) (Frm.refl _ _) rfl
      ·intro E HE hB hd hu
       have b1:lk 1 E=some (.slice (some ⟨bv,ofv,none⟩) cs0.length cav):=hB.1 _ _ (by simp)
       simp only [go_sem,sevalprocAttr,reduceCtorEq,b1]
       exact QB.more hkI (j:=5) (by decide) (by kernel_rfl) (by kernel_rfl) hB (by rfl) (Frm.refl _ _) rfl
      ·intro E HE hB hd hu
       have b7:lk 7 E=some (.int .i64 (j:Nat)):=hB.1 _ _ (by simp)
       simp only [go_sem,sevalprocAttr,reduceCtorEq,b7]
       exact QB.more hkI (j:=6) (by decide) (by kernel_rfl) (by kernel_rfl) hB (by rfl) (Frm.refl _ _) rfl
      ·intro E HE hB hd hu
       obtain ⟨_,g1,rfl⟩:=hd 5 (by decide) (.inl rfl)
       have g1:lk 74 E=_:=g1
       obtain ⟨_,g2,rfl⟩:=hd 6 (by decide) (.inl rfl)
       have g2:lk 75 E=_:=g2
       simp only [go_sem,sevalprocAttr,reduceCtorEq,g1,g2,hlt3]
       exact QB.more hkI (j:=7) (by decide) (by kernel_rfl) (by kernel_rfl) hB (by rfl) (Frm.refl _ _) rfl
      ·intro E HE hB hd hu
       obtain ⟨_,g1,rfl⟩:=hd 7 (by decide) (.inl rfl)
       have g1:lk 76 E=_:=g1
       have hve:=hB.2.get hbv5 (by simp only [List.mem_cons,List.not_mem_nil,or_false];omega)
       simp only [go_sem,sevalprocAttr,reduceCtorEq,g1,hve,hlev,htkv]
       exact QB.more hkI (j:=8) (by decide) (by kernel_rfl) (by kernel_rfl) hB (by rfl) (Frm.refl _ _) rfl
      ·intro E HE hB hd hu
       obtain ⟨_,g1,rfl⟩:=hd 8 (by decide) (.inl rfl)
       have g1:lk 77 E=_:=g1
       simp only [go_sem,sevalprocAttr,reduceCtorEq,g1,hrf,hr5,hput5]
       exact QB.more hkI (j:=9) (by decide) (by kernel_rfl) (by kernel_rfl) hB (by rfl) Frm.app ⟨HE.length,rfl,by rw [hget0 rfl];rfl,hB.2.1⟩
      ·intro E HE hB hd hu
       have b6:lk 6 E=some (.pointer (some ⟨H.length+1,0,none⟩)):=hB.1 _ _ (by simp)
       simp only [go_sem,sevalprocAttr,reduceCtorEq,b6]
       exact QB.more hkI (j:=10) (by decide) (by kernel_rfl) (by kernel_rfl) hB (by rfl) (Frm.refl _ _) rfl
      ·intro E HE hB hd hu
       obtain ⟨_,g1,rfl⟩:=hd 10 (by decide) (.inl rfl)
       have g1:lk 79 E=_:=g1
       have hbe:HE[H.length+1]? =some (.cells [.int .i64 4,.int .i64 0,.string (bs []),.slice (some ⟨q1,0,none⟩) j j,.slice (some ⟨q,0,none⟩) (ks.length+1) (ks.length+1)] ⟨27,0,true,0,none⟩):=hu 17 (by decide) (.inr (by decide))
       simp only [go_sem,sevalprocAttr,reduceCtorEq,g1,hbe]
       exact QB.more hkI (j:=11) (by decide) (by kernel_rfl) (by kernel_rfl) hB (by rfl) (Frm.refl _ _) rfl
      ·intro E HE hB hd hu
       have b9:lk 9 E=some (.int .i64 (at':Nat)):=hB.1 _ _ (by simp)
       simp only [go_sem,sevalprocAttr,reduceCtorEq,b9]
       exact QB.more hkI (j:=12) (by decide) (by kernel_rfl) (by kernel_rfl) hB (by rfl) (Frm.refl _ _) rfl
      ·intro E HE hB hd hu
       obtain ⟨_,g1,rfl⟩:=hd 11 (by decide) (.inl rfl)
       have g1:lk 80 E=_:=g1
       obtain ⟨_,g2,rfl⟩:=hd 12 (by decide) (.inl rfl)
       have g2:lk 81 E=_:=g2
       have hqe:HE[q1]? =some (.cells css.flatten ⟨27,5,true,0,none⟩):=hu 15 (by decide) (.inr (by decide))
       simp only [go_sem,sevalprocAttr,reduceCtorEq,g1,g2,hqe,tight]
       refine ⟨by omega,by omega,?_⟩
       exact QB.more hkI (j:=13) (by decide) (by kernel_rfl) (by kernel_rfl) hB (by rfl) (Frm.refl _ _) rfl
      ·intro E HE hB hd hu
       obtain ⟨_,g1,q',rfl,g2,g3⟩:=hd 9 (by decide) (.inl rfl)
       have g1:lk 78 E=_:=g1
       obtain ⟨_,g4,rfl⟩:=hd 13 (by decide) (.inl rfl)
       have g4:lk 82 E=_:=g4
       have hqe:HE[q1]? =some (.cells css.flatten ⟨27,5,true,0,none⟩):=hu 15 (by decide) (.inr (by decide))
       simp only [go_sem,sevalprocAttr,reduceCtorEq,g1,g4,hqe]
       rw [htkd5]
       refine ⟨by omega,hdf5,hdl5,?_⟩
       refine app_head (by decide) g2 hr5 g3 hB.2.1 hdl5 (by omega) (by omega) fun q' z X h1 h2 h3=> ?_
       exact QB.more hkI (j:=14) (by decide) (by kernel_rfl) (by kernel_rfl) hB (by rfl) Frm.app ⟨q',z,by rw [i6],h3,h1,h2⟩
      ·intro E HE hB hd hu
       obtain ⟨_,g1,rfl⟩:=hd 4 (by decide) (.inl rfl)
       have g1:lk 73 E=_:=g1
       obtain ⟨_,g2,q',z,rfl,g3,g4,g5⟩:=hd 14 (by decide) (.inl rfl)
       have g2:lk 83 E=_:=g2
       have hqe:HE[q1]? =some (.cells css.flatten ⟨27,5,true,0,none⟩):=hu 15 (by decide) (.inl rfl)
       rw [i6] at g2
       have hrl:(r++List.drop (at'*5) css.flatten).length=(j - at'+1)*5:=by rw [List.length_append,hr5,hdl5];omega
       have hrt:List.take ((j - at'+1)*5) (r++List.drop (at'*5) css.flatten)=r++List.drop (at'*5) css.flatten:=List.take_of_length_le (by omega)
       have hra:(r++List.drop (at'*5) css.flatten).all Go.Aw.flat=true:=by rw [List.all_append,hrf,hdf5];rfl
       simp only [go_sem,sevalprocAttr,reduceCtorEq,g1,g2,g3,hqe,hrt,hra,hrl]
       refine app_cut (by decide) hqe (.inl rfl) (by omega) (by omega) (by omega) (by omega) fun H2' h2=> ?_
       rw [show at'+(j - at'+1)=css.length+1 by omega,show List.take (at'*5) css.flatten++(r++List.drop (at'*5) css.flatten)=(insAt css at' r).flatten from (flat_ins css at' r i5.all5).symm]
       have hl2':H2'.length=HE.length:=by
        rcases h2 with rfl|rfl
        ·rfl
        ·rw [List.length_set]
       have hkeep:∀(r':Nat) (o:AObj),r'≠q1→HE[r']? =some o→(H2'++ [.cells (insAt css at' r).flatten ⟨27,5,true,0,none⟩])[r']? =some o:=fun r' o hr ho=>by
        rw [hgetl (by rw [hl2'];exact lt_of_get ho)]
        rcases h2 with rfl|rfl
        ·exact ho
        ·rw [List.getElem?_set_ne (Ne.symm hr)];exact ho
       have hfc2:Frm [H.length+1,q1] H5 H2':=by
        rcases h2 with rfl|rfl
        ·exact hB.2
        ·exact Frm.set hB.2 (.inl (by simp))
       exact UPost.put (tm:=tmB) (j:=15) (by kernel_rfl) hB (by rfl) hfc2.more ⟨HE.length,rfl,by rw [hget0 hl2'];rfl,hB.2.1⟩ (fun a w _ h1 _ hb h=>QB.pres (fun e=>by rw [e] at hb;exact hb (by decide)) h (fun r' o hr ho=>hkeep r' o (by omega) ho)) (fun a _ h1 h=>UB.pres h (fun e=>absurd e h1) (fun _ ho=>hkeep _ _ (by omega) ho))
      ·intro E HE hB hd hu
       have b6:lk 6 E=some (.pointer (some ⟨H.length+1,0,none⟩)):=hB.1 _ _ (by simp)
       simp only [go_sem,sevalprocAttr,reduceCtorEq,b6]
       exact QB.more hkI (j:=16) (by decide) (by kernel_rfl) (by kernel_rfl) hB (by rfl) (Frm.refl _ _) rfl
      ·intro E HE hB hd hu
       obtain ⟨_,g1,q',rfl,g2,g3⟩:=hd 15 (by decide) (.inl rfl)
       have g1:lk 84 E=_:=g1
       obtain ⟨_,g4,rfl⟩:=hd 16 (by decide) (.inl rfl)
       have g4:lk 85 E=_:=g4
       have hbe:HE[H.length+1]? =some (.cells [.int .i64 4,.int .i64 0,.string (bs []),.slice (some ⟨q1,0,none⟩) j j,.slice (some ⟨q,0,none⟩) (ks.length+1) (ks.length+1)] ⟨27,0,true,0,none⟩):=hu 17 (by decide) (.inl rfl)
       have hbl:=lt_of_get hbe
       simp only [go_sem,sevalprocAttr,reduceCtorEq,g1,g4,hbe,hbl,List.set_cons_succ,List.set_cons_zero]
       have hkeep:∀(r':Nat) (o o':AObj),r'≠H.length+1→HE[r']? =some o→(HE.set (H.length+1) o')[r']? =some o:=fun r' o o' hr ho=>by rw [List.getElem?_set_ne (Ne.symm hr)];exact ho
       exact UPost.none hB (Frm.set hB.2 (.inl (by simp))) ⟨_,g1,q',rfl,hkeep _ _ _ (by omega) g2,g3,List.getElem?_set_self hbl⟩ (fun a w _ h1 _ _ h=>QB.pres h1 h (fun r' o hr ho=>hkeep r' o _ (by omega) ho)) (fun a _ h1 h=>UB.pres h (fun _ ho=>hkeep _ _ _ (by omega) ho) (fun e=>absurd e h1))
      ·intro E HE hB hd
       obtain ⟨_,g1,q',rfl,g2,g3,g4⟩:=hd 17 (by decide) rfl
       have b0:lk 0 E=some (.slice (some ⟨bi,off,none⟩) (keyC keys).length cap):=hB.1 _ _ (by simp)
       have b1:lk 1 E=some (.slice (some ⟨bv,ofv,none⟩) cs0.length cav):=hB.1 _ _ (by simp)
       have b4:lk 4 E=some (.pointer (some ⟨H.length,0,none⟩)):=hB.1 _ _ (by simp)
       have b6:lk 6 E=some (.pointer (some ⟨H.length+1,0,none⟩)):=hB.1 _ _ (by simp)
       have b17:lk 17 E=some (.slice (some ⟨bi,off,none⟩) (keyC keys).length cap):=hB.1 _ _ (by simp)
       have b18:lk 18 E=some (.int .i64 (N:Nat)):=hB.1 _ _ (by simp)
       have b19:lk 19 E=some (.int .i64 (j:Nat)):=hB.1 _ _ (by simp)
       simp only [go_sem,sevalprocAttr,reduceCtorEq]
       refine AWP.weak (s2:=⟨[(0,.slice (some ⟨bi,off,none⟩) (keyC keys).length cap),(1,.slice (some ⟨bv,ofv,none⟩) cs0.length cav),(4,.pointer (some ⟨H.length,0,none⟩)),(6,.pointer (some ⟨H.length+1,0,none⟩)),(17,.slice (some ⟨bi,off,none⟩) (keyC keys).length cap),(18,.int .i64 (N:Nat)),(19,.int .i64 (j:Nat))],[],HE⟩) (Weak.env (by simp [envIn,wth_some,b0,b1,b4,b6,b17,b18,b19])) ?_
       have hf6:=hB.2
       repeat first|with_reducible refine kc ?_|((with_reducible first|refine kr ?_ ?_|refine kt ?_ ?_);exact rfl)|((with_reducible refine kf ?_ ?_);exact rfl)|simp only [go_sem,sevalprocAttr,reduceCtorEq,hwj]|simp (disch:=omega) only [wz]
       exact ⟨⟨j+1,insAt ks at' t,insAt vs at' x,insAt css at' r,_,_,[q],[q'],HE⟩,Weak.env (by simp [envIn,lk_cons,wth_some]),rd_next hI hRv hjk hat hm hsn rfl rfl (hf5.mono (fun s hs=>by simpa using hs)) hq5 hlq ⟨_,_,hb5,rfl⟩ (fun s h1 h2=>hq12 ((List.mem_singleton.1 h1).symm.trans (List.mem_singleton.1 h2))) (hf6.mono (fun s hs=>by simpa using hs)) g2 g3 g4,by dsimp only;omega⟩
     ·have hlti:¬(at':Int)<(j:Int):=by omega
      repeat first|with_reducible refine AWP.seqE (x:= .region 12 _ _) (DKJ [(0,.slice (some ⟨bi,off,none⟩) (keyC keys).length cap),(1,.slice (some ⟨bv,ofv,none⟩) cs0.length cav),(4,.pointer (some ⟨H.length,0,none⟩)),(6,.pointer (some ⟨H.length+1,0,none⟩)),(7,.int .i64 (j:Nat)),(8,.string (bs t)),(9,.int .i64 (at':Nat)),(17,.slice (some ⟨bi,off,none⟩) (keyC keys).length cap),(18,.int .i64 (N:Nat)),(19,.int .i64 (j:Nat))] H [H.length+1,q2] at' ks t (fun u=> [.int .i64 4,.int .i64 0,.string (bs []),.slice (some ⟨q1,0,none⟩) j j,u]) Hc) ?_ ?_|with_reducible refine kc ?_|((with_reducible first|refine kr ?_ ?_|refine kt ?_ ?_);exact rfl)|((with_reducible refine kf ?_ ?_);exact rfl)|simp only [go_sem,sevalprocAttr,reduceCtorEq,i10,hlti]|simp (disch:=omega) only [wz]
      ·skip
       have hkI:∀Ha Hb,Frm [] Ha Hb→(fun HE=>HE[q2]? =some (.cells (strsC ks) ⟨9,1,true,0,none⟩)) Ha→(fun HE=>HE[q2]? =some (.cells (strsC ks) ⟨9,1,true,0,none⟩)) Hb:=fun Ha Hb hf h=>hf.get h (by simp)
       refine AWP.regionU 14 (fun _=>none) (BL [(0,.slice (some ⟨bi,off,none⟩) (keyC keys).length cap),(1,.slice (some ⟨bv,ofv,none⟩) cs0.length cav),(4,.pointer (some ⟨H.length,0,none⟩)),(6,.pointer (some ⟨H.length+1,0,none⟩)),(7,.int .i64 (j:Nat)),(8,.string (bs t)),(9,.int .i64 (at':Nat)),(17,.slice (some ⟨bi,off,none⟩) (keyC keys).length cap),(18,.int .i64 (N:Nat)),(19,.int .i64 (j:Nat))] [H.length+1,q2] Hc) (RV tmA (QA Hc.length (H.length+1) at' (.slice (some ⟨q2,0,none⟩) j j) (.slice (some ⟨q2,0,none⟩) at' at') (.slice (some ⟨q2,at',none⟩) (j - at') (j - at')) ks t (fun u=> [.int .i64 4,.int .i64 0,.string (bs []),.slice (some ⟨q1,0,none⟩) j j,u]))) (UA (H.length+1) (fun HE=>HE[q2]? =some (.cells (strsC ks) ⟨9,1,true,0,none⟩)) (.cells [.int .i64 4,.int .i64 0,.string (bs []),.slice (some ⟨q1,0,none⟩) j j,.slice (some ⟨q2,0,none⟩) j j] ⟨27,0,true,0,none⟩)) (by kernel_rfl) (by kernel_rfl) (by kernel_rfl) (BL.of (by simp [envIn,lk_cons,wth_some]) (Frm.refl _ _)) (fun a _=>by
         unfold UA
         split
         ·exact hq2
         ·exact i10
         ·trivial) ⟨?_,?_,?_,?_,?_,?_,?_,?_,?_,?_,?_,?_,?_,?_,?_,trivial⟩ ?_
       ·intro E HE hB hd hu
        have b6:lk 6 E=some (.pointer (some ⟨H.length+1,0,none⟩)):=hB.1 _ _ (by simp)
        simp only [go_sem,sevalprocAttr,reduceCtorEq,b6]
        exact QA.more hkI (j:=0) (by decide) (by kernel_rfl) (by kernel_rfl) hB (by rfl) (Frm.refl _ _) rfl
       ·intro E HE hB hd hu
        obtain ⟨_,g1,rfl⟩:=hd 0 (by decide) (.inl rfl)
        have g1:lk 55 E=_:=g1
        have hbe:HE[H.length+1]? =some (.cells [.int .i64 4,.int .i64 0,.string (bs []),.slice (some ⟨q1,0,none⟩) j j,.slice (some ⟨q2,0,none⟩) j j] ⟨27,0,true,0,none⟩):=hu 14 (by decide) (.inr (by decide))
        simp only [go_sem,sevalprocAttr,reduceCtorEq,g1,hbe]
        exact QA.more hkI (j:=1) (by decide) (by kernel_rfl) (by kernel_rfl) hB (by rfl) (Frm.refl _ _) rfl
       ·intro E HE hB hd hu
        have b9:lk 9 E=some (.int .i64 (at':Nat)):=hB.1 _ _ (by simp)
        simp only [go_sem,sevalprocAttr,reduceCtorEq,b9]
        exact QA.more hkI (j:=2) (by decide) (by kernel_rfl) (by kernel_rfl) hB (by rfl) (Frm.refl _ _) rfl
       ·intro E HE hB hd hu
        have b9:lk 9 E=some (.int .i64 (at':Nat)):=hB.1 _ _ (by simp)
        simp only [go_sem,sevalprocAttr,reduceCtorEq,b9]
        exact QA.more hkI (j:=3) (by decide) (by kernel_rfl) (by kernel_rfl) hB (by rfl) (Frm.refl _ _) rfl
       ·intro E HE hB hd hu
        obtain ⟨_,g1,rfl⟩:=hd 1 (by decide) (.inl rfl)
        have g1:lk 56 E=_:=g1
        obtain ⟨_,g2,rfl⟩:=hd 2 (by decide) (.inl rfl)
        have g2:lk 57 E=_:=g2
        obtain ⟨_,g3,rfl⟩:=hd 3 (by decide) (.inl rfl)
        have g3:lk 58 E=_:=g3
        simp only [go_sem,sevalprocAttr,reduceCtorEq,g1,g2,g3,ite_self]
        refine ⟨by omega,by omega,rfl,?_⟩
        exact QA.more hkI (j:=4) (by decide) (by kernel_rfl) (by kernel_rfl) hB (by rfl) (Frm.refl _ _) rfl
       ·intro E HE hB hd hu
        have b8:lk 8 E=some (.string (bs t)):=hB.1 _ _ (by simp)
        simp only [go_sem,sevalprocAttr,reduceCtorEq,b8]
        exact QA.more hkI (j:=5) (by decide) (by kernel_rfl) (by kernel_rfl) hB (by rfl) (Frm.refl _ _) rfl
       ·intro E HE hB hd hu
        obtain ⟨_,g1,rfl⟩:=hd 5 (by decide) (.inl rfl)
        have g1:lk 60 E=_:=g1
        simp only [go_sem,sevalprocAttr,reduceCtorEq,g1]
        exact QA.more hkI (j:=6) (by decide) (by kernel_rfl) (by kernel_rfl) hB (by rfl) Frm.app ⟨HE.length,rfl,by rw [hget0 rfl];rfl,hB.2.1⟩
       ·intro E HE hB hd hu
        have b6:lk 6 E=some (.pointer (some ⟨H.length+1,0,none⟩)):=hB.1 _ _ (by simp)
        simp only [go_sem,sevalprocAttr,reduceCtorEq,b6]
        exact QA.more hkI (j:=7) (by decide) (by kernel_rfl) (by kernel_rfl) hB (by rfl) (Frm.refl _ _) rfl
       ·intro E HE hB hd hu
        obtain ⟨_,g1,rfl⟩:=hd 7 (by decide) (.inl rfl)
        have g1:lk 62 E=_:=g1
        have hbe:HE[H.length+1]? =some (.cells [.int .i64 4,.int .i64 0,.string (bs []),.slice (some ⟨q1,0,none⟩) j j,.slice (some ⟨q2,0,none⟩) j j] ⟨27,0,true,0,none⟩):=hu 14 (by decide) (.inr (by decide))
        simp only [go_sem,sevalprocAttr,reduceCtorEq,g1,hbe]
        exact QA.more hkI (j:=8) (by decide) (by kernel_rfl) (by kernel_rfl) hB (by rfl) (Frm.refl _ _) rfl
       ·intro E HE hB hd hu
        have b9:lk 9 E=some (.int .i64 (at':Nat)):=hB.1 _ _ (by simp)
        simp only [go_sem,sevalprocAttr,reduceCtorEq,b9]
        exact QA.more hkI (j:=9) (by decide) (by kernel_rfl) (by kernel_rfl) hB (by rfl) (Frm.refl _ _) rfl
       ·intro E HE hB hd hu
        obtain ⟨_,g1,rfl⟩:=hd 8 (by decide) (.inl rfl)
        have g1:lk 63 E=_:=g1
        obtain ⟨_,g2,rfl⟩:=hd 9 (by decide) (.inl rfl)
        have g2:lk 64 E=_:=g2
        have hqe:HE[q2]? =some (.cells (strsC ks) ⟨9,1,true,0,none⟩):=hu 12 (by decide) (.inr (by decide))
        simp only [go_sem,sevalprocAttr,reduceCtorEq,g1,g2,hqe,tight]
        refine ⟨by omega,by omega,?_⟩
        exact QA.more hkI (j:=10) (by decide) (by kernel_rfl) (by kernel_rfl) hB (by rfl) (Frm.refl _ _) rfl
       ·intro E HE hB hd hu
        obtain ⟨_,g1,q,rfl,g2,g3⟩:=hd 6 (by decide) (.inl rfl)
        have g1:lk 61 E=_:=g1
        obtain ⟨_,g4,rfl⟩:=hd 10 (by decide) (.inl rfl)
        have g4:lk 65 E=_:=g4
        have hqe:HE[q2]? =some (.cells (strsC ks) ⟨9,1,true,0,none⟩):=hu 12 (by decide) (.inr (by decide))
        simp only [go_sem,sevalprocAttr,reduceCtorEq,g1,g4,hqe]
        rw [htkd]
        refine ⟨by omega,hdf,hdl,?_⟩
        refine app_head (by decide) g2 rfl g3 hB.2.1 (by rw [Nat.mul_one];exact hdl) (by omega) (by omega) fun q' z X h1 h2 h3=> ?_
        exact QA.more hkI (j:=11) (by decide) (by kernel_rfl) (by kernel_rfl) hB (by rfl) Frm.app ⟨q',z,by rw [i3],h3,h1,h2⟩
       ·intro E HE hB hd hu
        obtain ⟨_,g1,rfl⟩:=hd 4 (by decide) (.inl rfl)
        have g1:lk 59 E=_:=g1
        obtain ⟨_,g2,q,z,rfl,g3,g4,g5⟩:=hd 11 (by decide) (.inl rfl)
        have g2:lk 66 E=_:=g2
        have hqe:HE[q2]? =some (.cells (strsC ks) ⟨9,1,true,0,none⟩):=hu 12 (by decide) (.inl rfl)
        rw [i3] at g2
        simp only [go_sem,sevalprocAttr,reduceCtorEq,g1,g2,g3,hqe]
        rw [htkd]
        refine ⟨by omega,hdf,hdl,?_⟩
        refine app_cut (by decide) hqe (.inl rfl) (by omega) (by omega) (by omega) (by omega) fun H2' h2=> ?_
        rw [show at'+(j - at'+1)=ks.length+1 by omega,show List.take (at'*1) (strsC ks)++(Value.string (bs t)::List.drop at' (strsC ks))=strsC (insAt ks at' t) from strs_ins' ks at' t]
        have hl2':H2'.length=HE.length:=by
         rcases h2 with rfl|rfl
         ·rfl
         ·rw [List.length_set]
        have hkeep:∀(r:Nat) (o:AObj),r≠q2→HE[r]? =some o→(H2'++ [.cells (strsC (insAt ks at' t)) ⟨9,1,true,0,none⟩])[r]? =some o:=fun r o hr ho=>by
         rw [hgetl (by rw [hl2'];exact lt_of_get ho)]
         rcases h2 with rfl|rfl
         ·exact ho
         ·rw [List.getElem?_set_ne (Ne.symm hr)];exact ho
        have hfc2:Frm [H.length+1,q2] Hc H2':=by
         rcases h2 with rfl|rfl
         ·exact hB.2
         ·exact Frm.set hB.2 (.inl (by simp))
        exact UPost.put (tm:=tmA) (j:=12) (by kernel_rfl) hB (by rfl) hfc2.more ⟨HE.length,rfl,by rw [hget0 hl2'];rfl,hB.2.1⟩ (fun a w _ h1 _ hb h=>QA.pres (fun e=>by rw [e] at hb;exact hb (by decide)) h (fun r o hr ho=>hkeep r o (by omega) ho)) (fun a _ h1 h=>UA.pres h (fun e=>absurd e h1) (fun _ ho=>hkeep _ _ (by omega) ho))
       ·intro E HE hB hd hu
        have b6:lk 6 E=some (.pointer (some ⟨H.length+1,0,none⟩)):=hB.1 _ _ (by simp)
        simp only [go_sem,sevalprocAttr,reduceCtorEq,b6]
        exact QA.more hkI (j:=13) (by decide) (by kernel_rfl) (by kernel_rfl) hB (by rfl) (Frm.refl _ _) rfl
       ·intro E HE hB hd hu
        obtain ⟨_,g1,q,rfl,g2,g3⟩:=hd 12 (by decide) (.inl rfl)
        have g1:lk 67 E=_:=g1
        obtain ⟨_,g4,rfl⟩:=hd 13 (by decide) (.inl rfl)
        have g4:lk 68 E=_:=g4
        have hbe:HE[H.length+1]? =some (.cells [.int .i64 4,.int .i64 0,.string (bs []),.slice (some ⟨q1,0,none⟩) j j,.slice (some ⟨q2,0,none⟩) j j] ⟨27,0,true,0,none⟩):=hu 14 (by decide) (.inl rfl)
        have hbl:=lt_of_get hbe
        simp only [go_sem,sevalprocAttr,reduceCtorEq,g1,g4,hbe,hbl,List.set_cons_succ,List.set_cons_zero]
        have hkeep:∀(r:Nat) (o o':AObj),r≠H.length+1→HE[r]? =some o→(HE.set (H.length+1) o')[r]? =some o:=fun r o o' hr ho=>by rw [List.getElem?_set_ne (Ne.symm hr)];exact ho
        exact UPost.none hB (Frm.set hB.2 (.inl (by simp))) ⟨_,g1,q,rfl,hkeep _ _ _ (by omega) g2,g3,List.getElem?_set_self hbl⟩ (fun a w _ h1 _ _ h=>QA.pres h1 h (fun r o hr ho=>hkeep r o _ (by omega) ho)) (fun a _ h1 h=>UA.pres h (fun _ ho=>hkeep _ _ _ (by omega) ho) (fun e=>absurd e h1))
       ·intro E HE hB hd
        obtain ⟨_,g1,q,rfl,g2,g3,g4⟩:=hd 14 (by decide) rfl
        have b0:lk 0 E=some (.slice (some ⟨bi,off,none⟩) (keyC keys).length cap):=hB.1 _ _ (by simp)
        have b1:lk 1 E=some (.slice (some ⟨bv,ofv,none⟩) cs0.length cav):=hB.1 _ _ (by simp)
        have b4:lk 4 E=some (.pointer (some ⟨H.length,0,none⟩)):=hB.1 _ _ (by simp)
        have b6:lk 6 E=some (.pointer (some ⟨H.length+1,0,none⟩)):=hB.1 _ _ (by simp)
        have b7:lk 7 E=some (.int .i64 (j:Nat)):=hB.1 _ _ (by simp)
        have b8:lk 8 E=some (.string (bs t)):=hB.1 _ _ (by simp)
        have b9:lk 9 E=some (.int .i64 (at':Nat)):=hB.1 _ _ (by simp)
        have b17:lk 17 E=some (.slice (some ⟨bi,off,none⟩) (keyC keys).length cap):=hB.1 _ _ (by simp)
        have b18:lk 18 E=some (.int .i64 (N:Nat)):=hB.1 _ _ (by simp)
        have b19:lk 19 E=some (.int .i64 (j:Nat)):=hB.1 _ _ (by simp)
        exact ⟨_,⟨q,HE,hB.2,g2,g3,g4,rfl⟩,Weak.env (by simp [envIn,wth_some,b0,b1,b4,b6,b7,b8,b9,b17,b18,b19])⟩
      rintro st ⟨q,H5,hf5,hq5,hlq,hb5,rfl⟩
      have hl35:=hf5.1
      have hq15:=hf5.get hq1 (by simp only [List.mem_cons,List.not_mem_nil,or_false];omega)
      have hbv5:=hf5.get hbv (by simp only [List.mem_cons,List.not_mem_nil,or_false];omega)
      have hkf5:=RdL_flats i5
      have hcf5:=flat_len i5.all5
      have hdl5:(List.drop (at'*5) css.flatten).length=(j - at')*5:=by rw [List.length_drop,hcf5,i6];omega
      have htkd5:List.take ((j - at')*5) (List.drop (at'*5) css.flatten)=List.drop (at'*5) css.flatten:=List.take_of_length_le (by omega)
      have hdf5:(List.drop (at'*5) css.flatten).all Go.Aw.flat=true:=List.all_eq_true.2 fun y hy=>List.all_eq_true.1 hkf5 y (List.mem_of_mem_drop hy)
      have hkI:∀Ha Hb,Frm [] Ha Hb→(fun HE=>HE[q1]? =some (.cells css.flatten ⟨27,5,true,0,none⟩)) Ha→(fun HE=>HE[q1]? =some (.cells css.flatten ⟨27,5,true,0,none⟩)) Hb:=fun Ha Hb hf h=>hf.get h (by simp)
      refine AWP.regionU 17 (fun _=>none) (BL [(0,.slice (some ⟨bi,off,none⟩) (keyC keys).length cap),(1,.slice (some ⟨bv,ofv,none⟩) cs0.length cav),(4,.pointer (some ⟨H.length,0,none⟩)),(6,.pointer (some ⟨H.length+1,0,none⟩)),(7,.int .i64 (j:Nat)),(8,.string (bs t)),(9,.int .i64 (at':Nat)),(17,.slice (some ⟨bi,off,none⟩) (keyC keys).length cap),(18,.int .i64 (N:Nat)),(19,.int .i64 (j:Nat))] [H.length+1,q1] H5) (RV tmB (QB H5.length (H.length+1) at' (.slice (some ⟨q1,0,none⟩) j j) (.slice (some ⟨q1,0,none⟩) at' at') (.slice (some ⟨q1,at'*5,none⟩) (j - at') (j - at')) (.slice (some ⟨bv,ofv,none⟩) cs0.length cav) j bv (ofv+j*5) css r (fun u=> [.int .i64 4,.int .i64 0,.string (bs []),u,.slice (some ⟨q,0,none⟩) (ks.length+1) (ks.length+1)]))) (UB (H.length+1) (fun HE=>HE[q1]? =some (.cells css.flatten ⟨27,5,true,0,none⟩)) (.cells [.int .i64 4,.int .i64 0,.string (bs []),.slice (some ⟨q1,0,none⟩) j j,.slice (some ⟨q,0,none⟩) (ks.length+1) (ks.length+1)] ⟨27,0,true,0,none⟩)) (by kernel_rfl) (by kernel_rfl) (by kernel_rfl) (BL.of (by simp [envIn,lk_cons,wth_some]) (Frm.refl _ _)) (fun a _=>by
        unfold UB
        split
        ·exact hq15
        ·exact hb5
        ·trivial) ⟨?_,?_,?_,?_,?_,?_,?_,?_,?_,?_,?_,?_,?_,?_,?_,?_,?_,?_,trivial⟩ ?_
      ·intro E HE hB hd hu
       have b6:lk 6 E=some (.pointer (some ⟨H.length+1,0,none⟩)):=hB.1 _ _ (by simp)
       simp only [go_sem,sevalprocAttr,reduceCtorEq,b6]
       exact QB.more hkI (j:=0) (by decide) (by kernel_rfl) (by kernel_rfl) hB (by rfl) (Frm.refl _ _) rfl
      ·intro E HE hB hd hu
       obtain ⟨_,g1,rfl⟩:=hd 0 (by decide) (.inl rfl)
       have g1:lk 69 E=_:=g1
       have hbe:HE[H.length+1]? =some (.cells [.int .i64 4,.int .i64 0,.string (bs []),.slice (some ⟨q1,0,none⟩) j j,.slice (some ⟨q,0,none⟩) (ks.length+1) (ks.length+1)] ⟨27,0,true,0,none⟩):=hu 17 (by decide) (.inr (by decide))
       simp only [go_sem,sevalprocAttr,reduceCtorEq,g1,hbe]
       exact QB.more hkI (j:=1) (by decide) (by kernel_rfl) (by kernel_rfl) hB (by rfl) (Frm.refl _ _) rfl
      ·intro E HE hB hd hu
       have b9:lk 9 E=some (.int .i64 (at':Nat)):=hB.1 _ _ (by simp)
       simp only [go_sem,sevalprocAttr,reduceCtorEq,b9]
       exact QB.more hkI (j:=2) (by decide) (by kernel_rfl) (by kernel_rfl) hB (by rfl) (Frm.refl _ _) rfl
      ·intro E HE hB hd hu
       have b9:lk 9 E=some (.int .i64 (at':Nat)):=hB.1 _ _ (by simp)
       simp only [go_sem,sevalprocAttr,reduceCtorEq,b9]
       exact QB.more hkI (j:=3) (by decide) (by kernel_rfl) (by kernel_rfl) hB (by rfl) (Frm.refl _ _) rfl
      ·intro E HE hB hd hu
       obtain ⟨_,g1,rfl⟩:=hd 1 (by decide) (.inl rfl)
       have g1:lk 70 E=_:=g1
       obtain ⟨_,g2,rfl⟩:=hd 2 (by decide) (.inl rfl)
       have g2:lk 71 E=_:=g2
       obtain ⟨_,g3,rfl⟩:=hd 3 (by decide) (.inl rfl)
       have g3:lk 72 E=_:=g3
       simp only [go_sem,sevalprocAttr,reduceCtorEq,g1,g2,g3,ite_self]
       refine ⟨by omega,by omega,rfl,?_⟩
       exact QB.more hkI (j:=4) (by decide) (by kernel_rfl) (by kernel_rfl) hB (by rfl) (Frm.refl _ _) rfl
      ·intro E HE hB hd hu
       have b1:lk 1 E=some (.slice (some ⟨bv,ofv,none⟩) cs0.length cav):=hB.1 _ _ (by simp)
       simp only [go_sem,sevalprocAttr,reduceCtorEq,b1]
       exact QB.more hkI (j:=5) (by decide) (by kernel_rfl) (by kernel_rfl) hB (by rfl) (Frm.refl _ _) rfl
      ·intro E HE hB hd hu
       have b7:lk 7 E=some (.int .i64 (j:Nat)):=hB.1 _ _ (by simp)
       simp only [go_sem,sevalprocAttr,reduceCtorEq,b7]
       exact QB.more hkI (j:=6) (by decide) (by kernel_rfl) (by kernel_rfl) hB (by rfl) (Frm.refl _ _) rfl
      ·intro E HE hB hd hu
       obtain ⟨_,g1,rfl⟩:=hd 5 (by decide) (.inl rfl)
       have g1:lk 74 E=_:=g1
       obtain ⟨_,g2,rfl⟩:=hd 6 (by decide) (.inl rfl)
       have g2:lk 75 E=_:=g2
       simp only [go_sem,sevalprocAttr,reduceCtorEq,g1,g2,hlt3]
       exact QB.more hkI (j:=7) (by decide) (by kernel_rfl) (by kernel_rfl) hB (by rfl) (Frm.refl _ _) rfl
      ·intro E HE hB hd hu
       obtain ⟨_,g1,rfl⟩:=hd 7 (by decide) (.inl rfl)
       have g1:lk 76 E=_:=g1
       have hve:=hB.2.get hbv5 (by simp only [List.mem_cons,List.not_mem_nil,or_false];omega)
       simp only [go_sem,sevalprocAttr,reduceCtorEq,g1,hve,hlev,htkv]
       exact QB.more hkI (j:=8) (by decide) (by kernel_rfl) (by kernel_rfl) hB (by rfl) (Frm.refl _ _) rfl
      ·intro E HE hB hd hu
       obtain ⟨_,g1,rfl⟩:=hd 8 (by decide) (.inl rfl)
       have g1:lk 77 E=_:=g1
       simp only [go_sem,sevalprocAttr,reduceCtorEq,g1,hrf,hr5,hput5]
       exact QB.more hkI (j:=9) (by decide) (by kernel_rfl) (by kernel_rfl) hB (by rfl) Frm.app ⟨HE.length,rfl,by rw [hget0 rfl];rfl,hB.2.1⟩
      ·intro E HE hB hd hu
       have b6:lk 6 E=some (.pointer (some ⟨H.length+1,0,none⟩)):=hB.1 _ _ (by simp)
       simp only [go_sem,sevalprocAttr,reduceCtorEq,b6]
       exact QB.more hkI (j:=10) (by decide) (by kernel_rfl) (by kernel_rfl) hB (by rfl) (Frm.refl _ _) rfl
      ·intro E HE hB hd hu
       obtain ⟨_,g1,rfl⟩:=hd 10 (by decide) (.inl rfl)
       have g1:lk 79 E=_:=g1
       have hbe:HE[H.length+1]? =some (.cells [.int .i64 4,.int .i64 0,.string (bs []),.slice (some ⟨q1,0,none⟩) j j,.slice (some ⟨q,0,none⟩) (ks.length+1) (ks.length+1)] ⟨27,0,true,0,none⟩):=hu 17 (by decide) (.inr (by decide))
       simp only [go_sem,sevalprocAttr,reduceCtorEq,g1,hbe]
       exact QB.more hkI (j:=11) (by decide) (by kernel_rfl) (by kernel_rfl) hB (by rfl) (Frm.refl _ _) rfl
      ·intro E HE hB hd hu
       have b9:lk 9 E=some (.int .i64 (at':Nat)):=hB.1 _ _ (by simp)
       simp only [go_sem,sevalprocAttr,reduceCtorEq,b9]
       exact QB.more hkI (j:=12) (by decide) (by kernel_rfl) (by kernel_rfl) hB (by rfl) (Frm.refl _ _) rfl
      ·intro E HE hB hd hu
       obtain ⟨_,g1,rfl⟩:=hd 11 (by decide) (.inl rfl)
       have g1:lk 80 E=_:=g1
       obtain ⟨_,g2,rfl⟩:=hd 12 (by decide) (.inl rfl)
       have g2:lk 81 E=_:=g2
       have hqe:HE[q1]? =some (.cells css.flatten ⟨27,5,true,0,none⟩):=hu 15 (by decide) (.inr (by decide))
       simp only [go_sem,sevalprocAttr,reduceCtorEq,g1,g2,hqe,tight]
       refine ⟨by omega,by omega,?_⟩
       exact QB.more hkI (j:=13) (by decide) (by kernel_rfl) (by kernel_rfl) hB (by rfl) (Frm.refl _ _) rfl
      ·intro E HE hB hd hu
       obtain ⟨_,g1,q',rfl,g2,g3⟩:=hd 9 (by decide) (.inl rfl)
       have g1:lk 78 E=_:=g1
       obtain ⟨_,g4,rfl⟩:=hd 13 (by decide) (.inl rfl)
       have g4:lk 82 E=_:=g4
       have hqe:HE[q1]? =some (.cells css.flatten ⟨27,5,true,0,none⟩):=hu 15 (by decide) (.inr (by decide))
       simp only [go_sem,sevalprocAttr,reduceCtorEq,g1,g4,hqe]
       rw [htkd5]
       refine ⟨by omega,hdf5,hdl5,?_⟩
       refine app_head (by decide) g2 hr5 g3 hB.2.1 hdl5 (by omega) (by omega) fun q' z X h1 h2 h3=> ?_
       exact QB.more hkI (j:=14) (by decide) (by kernel_rfl) (by kernel_rfl) hB (by rfl) Frm.app ⟨q',z,by rw [i6],h3,h1,h2⟩
      ·intro E HE hB hd hu
       obtain ⟨_,g1,rfl⟩:=hd 4 (by decide) (.inl rfl)
       have g1:lk 73 E=_:=g1
       obtain ⟨_,g2,q',z,rfl,g3,g4,g5⟩:=hd 14 (by decide) (.inl rfl)
       have g2:lk 83 E=_:=g2
       have hqe:HE[q1]? =some (.cells css.flatten ⟨27,5,true,0,none⟩):=hu 15 (by decide) (.inl rfl)
       rw [i6] at g2
       have hrl:(r++List.drop (at'*5) css.flatten).length=(j - at'+1)*5:=by rw [List.length_append,hr5,hdl5];omega
       have hrt:List.take ((j - at'+1)*5) (r++List.drop (at'*5) css.flatten)=r++List.drop (at'*5) css.flatten:=List.take_of_length_le (by omega)
       have hra:(r++List.drop (at'*5) css.flatten).all Go.Aw.flat=true:=by rw [List.all_append,hrf,hdf5];rfl
       simp only [go_sem,sevalprocAttr,reduceCtorEq,g1,g2,g3,hqe,hrt,hra,hrl]
       refine app_cut (by decide) hqe (.inl rfl) (by omega) (by omega) (by omega) (by omega) fun H2' h2=> ?_
       rw [show at'+(j - at'+1)=css.length+1 by omega,show List.take (at'*5) css.flatten++(r++List.drop (at'*5) css.flatten)=(insAt css at' r).flatten from (flat_ins css at' r i5.all5).symm]
       have hl2':H2'.length=HE.length:=by
        rcases h2 with rfl|rfl
        ·rfl
        ·rw [List.length_set]
       have hkeep:∀(r':Nat) (o:AObj),r'≠q1→HE[r']? =some o→(H2'++ [.cells (insAt css at' r).flatten ⟨27,5,true,0,none⟩])[r']? =some o:=fun r' o hr ho=>by
        rw [hgetl (by rw [hl2'];exact lt_of_get ho)]
        rcases h2 with rfl|rfl
        ·exact ho
        ·rw [List.getElem?_set_ne (Ne.symm hr)];exact ho
       have hfc2:Frm [H.length+1,q1] H5 H2':=by
        rcases h2 with rfl|rfl
        ·exact hB.2
        ·exact Frm.set hB.2 (.inl (by simp))
       exact UPost.put (tm:=tmB) (j:=15) (by kernel_rfl) hB (by rfl) hfc2.more ⟨HE.length,rfl,by rw [hget0 hl2'];rfl,hB.2.1⟩ (fun a w _ h1 _ hb h=>QB.pres (fun e=>by rw [e] at hb;exact hb (by decide)) h (fun r' o hr ho=>hkeep r' o (by omega) ho)) (fun a _ h1 h=>UB.pres h (fun e=>absurd e h1) (fun _ ho=>hkeep _ _ (by omega) ho))
      ·intro E HE hB hd hu
       have b6:lk 6 E=some (.pointer (some ⟨H.length+1,0,none⟩)):=hB.1 _ _ (by simp)
       simp only [go_sem,sevalprocAttr,reduceCtorEq,b6]
       exact QB.more hkI (j:=16) (by decide) (by kernel_rfl) (by kernel_rfl) hB (by rfl) (Frm.refl _ _) rfl
      ·intro E HE hB hd hu
       obtain ⟨_,g1,q',rfl,g2,g3⟩:=hd 15 (by decide) (.inl rfl)
       have g1:lk 84 E=_:=g1
       obtain ⟨_,g4,rfl⟩:=hd 16 (by decide) (.inl rfl)
       have g4:lk 85 E=_:=g4
       have hbe:HE[H.length+1]? =some (.cells [.int .i64 4,.int .i64 0,.string (bs []),.slice (some ⟨q1,0,none⟩) j j,.slice (some ⟨q,0,none⟩) (ks.length+1) (ks.length+1)] ⟨27,0,true,0,none⟩):=hu 17 (by decide) (.inl rfl)
       have hbl:=lt_of_get hbe
       simp only [go_sem,sevalprocAttr,reduceCtorEq,g1,g4,hbe,hbl,List.set_cons_succ,List.set_cons_zero]
       have hkeep:∀(r':Nat) (o o':AObj),r'≠H.length+1→HE[r']? =some o→(HE.set (H.length+1) o')[r']? =some o:=fun r' o o' hr ho=>by rw [List.getElem?_set_ne (Ne.symm hr)];exact ho
       exact UPost.none hB (Frm.set hB.2 (.inl (by simp))) ⟨_,g1,q',rfl,hkeep _ _ _ (by omega) g2,g3,List.getElem?_set_self hbl⟩ (fun a w _ h1 _ _ h=>QB.pres h1 h (fun r' o hr ho=>hkeep r' o _ (by omega) ho)) (fun a _ h1 h=>UB.pres h (fun _ ho=>hkeep _ _ _ (by omega) ho) (fun e=>absurd e h1))
      ·intro E HE hB hd
       obtain ⟨_,g1,q',rfl,g2,g3,g4⟩:=hd 17 (by decide) rfl
       have b0:lk 0 E=some (.slice (some ⟨bi,off,none⟩) (keyC keys).length cap):=hB.1 _ _ (by simp)
       have b1:lk 1 E=some (.slice (some ⟨bv,ofv,none⟩) cs0.length cav):=hB.1 _ _ (by simp)
       have b4:lk 4 E=some (.pointer (some ⟨H.length,0,none⟩)):=hB.1 _ _ (by simp)
       have b6:lk 6 E=some (.pointer (some ⟨H.length+1,0,none⟩)):=hB.1 _ _ (by simp)
       have b17:lk 17 E=some (.slice (some ⟨bi,off,none⟩) (keyC keys).length cap):=hB.1 _ _ (by simp)
       have b18:lk 18 E=some (.int .i64 (N:Nat)):=hB.1 _ _ (by simp)
       have b19:lk 19 E=some (.int .i64 (j:Nat)):=hB.1 _ _ (by simp)
       simp only [go_sem,sevalprocAttr,reduceCtorEq]
       refine AWP.weak (s2:=⟨[(0,.slice (some ⟨bi,off,none⟩) (keyC keys).length cap),(1,.slice (some ⟨bv,ofv,none⟩) cs0.length cav),(4,.pointer (some ⟨H.length,0,none⟩)),(6,.pointer (some ⟨H.length+1,0,none⟩)),(17,.slice (some ⟨bi,off,none⟩) (keyC keys).length cap),(18,.int .i64 (N:Nat)),(19,.int .i64 (j:Nat))],[],HE⟩) (Weak.env (by simp [envIn,wth_some,b0,b1,b4,b6,b17,b18,b19])) ?_
       have hf6:=hB.2
       repeat first|with_reducible refine kc ?_|((with_reducible first|refine kr ?_ ?_|refine kt ?_ ?_);exact rfl)|((with_reducible refine kf ?_ ?_);exact rfl)|simp only [go_sem,sevalprocAttr,reduceCtorEq,hwj]|simp (disch:=omega) only [wz]
       exact ⟨⟨j+1,insAt ks at' t,insAt vs at' x,insAt css at' r,_,_,[q],[q'],HE⟩,Weak.env (by simp [envIn,lk_cons,wth_some]),rd_next hI hRv hjk hat hm hsn rfl rfl (hf5.mono (fun s hs=>by simpa using hs)) hq5 hlq ⟨_,_,hb5,rfl⟩ (fun s h1 h2=>hq12 ((List.mem_singleton.1 h1).symm.trans (List.mem_singleton.1 h2))) (hf6.mono (fun s hs=>by simpa using hs)) g2 g3 g4,by dsimp only;omega⟩
  ·have hlt':¬(j:Int)<(N:Int):=by omega
   obtain rfl:j=N:=by omega
   rw [hN,←hzl,List.take_length] at i2
   obtain ⟨hfine,hcnt⟩:=hF vs ks i2
   obtain ⟨Hf,hHf⟩:∃Hf,Hf=fz Hc (Sk++Sv):=⟨_,rfl⟩
   have hkf:Kept Hc Hf:=by rw [hHf];exact fz_kept _ _
   have hsame:∀q,q<H.length+2→Hf[q]? =Hc[q]? :=fun q hq=>by
    rw [hHf,fz_get,if_neg]
    intro hs
    rcases List.mem_append.1 hs with h|h
    ·have:=i12 _ h;omega
    ·have:=i13 _ h;omega
   have hff:Frm [] H Hf:=⟨by rw [hHf,fz_length];exact i11.1,fun q hq hn=>by rw [hsame q (by omega)];exact i11.2 q hq hn⟩
   have hb9:=(hsame _ (by omega)).trans i9
   have hb10:=(hsame _ (by omega)).trans i10
   have hkvf:flat kv=true∧cellsOf kv=[kv]:=by rcases i7.2 with ⟨h,_⟩|⟨q,h,_⟩<;> (rw [h];exact ⟨rfl,rfl⟩)
   have hsvf:flat sv=true∧cellsOf sv=[sv]:=by rcases i8.2 with ⟨h,_⟩|⟨q,h,_⟩<;> (rw [h];exact ⟨rfl,rfl⟩)
   have hKr:RdK Hf 1 kv (keyC ks):=by
    rcases i7.2 with ⟨h1,h2,_⟩|⟨q,h1,h2,h3,h4⟩
    ·subst h1
     obtain rfl:=List.eq_nil_of_length_eq_zero (i3.trans h2)
     exact .inl ⟨rfl,rfl⟩
    ·subst h1 h3
     rw [hHf]
     exact rd_rows (C:=[]) (k:=⟨9,1,true,0,none⟩) (by rw [List.append_nil,strs_flat];exact h4) (.inl rfl) (by simp) (keyC_len1 _) (by rw [keyC_len];exact i3) (Nat.le_refl _)
   have hVr:RdK Hf 5 sv css:=by
    rcases i8.2 with ⟨h1,h2,_⟩|⟨q,h1,h2,h3,h4⟩
    ·subst h1
     obtain rfl:=List.eq_nil_of_length_eq_zero (i6.trans h2)
     exact .inl ⟨rfl,rfl⟩
    ·subst h1 h3
     rw [hHf]
     exact rd_rows (C:=[]) (k:=⟨27,5,true,0,none⟩) (by rw [List.append_nil];exact h4) (.inl rfl) (by simp) i5.all5 i6 (Nat.le_refl _)
   have hRf:RdV Hf (.mk 4 0 [] vs ks) [.int .i64 4,.int .i64 0,.string (bs []),sv,kv]:=by
    unfold RdV
    exact ⟨_,_,css,rfl,hVr,i5.kept hkf,hKr⟩
   have hVal:=rValid _ hfine hcnt Hf _ hRf
   obtain ⟨hkv1,hkv2⟩:=hkvf
   obtain ⟨hsv1,hsv2⟩:=hsvf
   rw [hdR,i2]
   dsimp only
   refine AWP.weak (Weak.fz (Sk++Sv) Hc) ?_
   rw [← hHf]
   repeat first|with_reducible refine kc ?_|((with_reducible first|refine kr ?_ ?_|refine kt ?_ ?_);exact rfl)|((with_reducible refine kf ?_ ?_);exact rfl)|simp only [go_sem,sevalprocAttr,reduceCtorEq,hlt',hb10,hkv1,hsv1]|simp (disch:=omega) only [wz]
   refine AC.mono hVal ?_
   rintro res H6 ⟨rfl,hf6⟩
   have hb96:=hf6.get hb9 (by simp)
   have hb106:=hf6.get hb10 (by simp)
   have hbl9:=lt_of_get hb96
   have hf06:Frm [] H H6:=hff.trans hf6 (fun x hx=>by cases hx)
   by_cases hval:(BV.mk 4 0 [] vs ks).valid=true
   ·rw [if_pos hval,hval]
    have hR6:=hRf.kept (Kept.frm hf6 (fun x hx=>by cases hx))
    have hput7:putCells [Value.int .i64 0,.int .i64 0,.string (bs []),.slice none 0 0,.slice none 0 0] 0 [Value.int .i64 4,.int .i64 0,.string (bs []),sv,kv]=[Value.int .i64 4,.int .i64 0,.string (bs []),sv,kv]:=rfl
    have hfl7:[Value.int .i64 4,.int .i64 0,.string (bs []),sv,kv].all flat=true:=RdV_flat hR6
    repeat first|with_reducible refine kc ?_|((with_reducible first|refine kr ?_ ?_|refine kt ?_ ?_);exact rfl)|((with_reducible refine kf ?_ ?_);exact rfl)|simp only [go_sem,sevalprocAttr,reduceCtorEq,hb106,hb96,hbl9,hkv1,hsv1,hput7,hfl7]|simp (disch:=omega) only [wz]
    exact ⟨_,_,.refl _ _ _,_,rfl,Frm.set hf06 (.inr (Nat.le_refl _)),hR6.kept (Kept.set hb96 rfl _)⟩
   ·rw [if_neg hval,Bool.eq_false_iff.2 hval]
    repeat first|with_reducible refine kc ?_|((with_reducible first|refine kr ?_ ?_|refine kt ?_ ?_);exact rfl)|((with_reducible refine kf ?_ ?_);exact rfl)|simp only [go_sem,sevalprocAttr,reduceCtorEq,hb106,hb96,hbl9,hput0]|simp (disch:=omega) only [wz]
    exact ⟨_,_,.refl _ _ _,_,rfl,Frm.set hf06 (.inr (Nat.le_refl _)),RdV_zero _⟩
 ·have hb0:((keys.length:Int) != (l.length:Int))=true:=by rw [bne_iff_ne];omega
  have hdR:dictR keys l= (.zero,11):=by unfold dictR;rw [if_neg hne]
  rw [hdR]
  refine AC.enter Tryz.func9 rfl (by kernel_rfl) 92 rfl [.cell 4 27,.tmp 5] rfl (by simp) fun hsc B=> ?_
  repeat first|with_reducible refine kc ?_|((with_reducible first|refine kr ?_ ?_|refine kt ?_ ?_);exact rfl)|((with_reducible refine kf ?_ ?_);exact rfl)|simp only [go_sem,sevalprocAttr,reduceCtorEq,w1,w2,hb0,hput0]|simp (disch:=omega) only [wz]
  exact ⟨_,_,.refl _ _ _,_,rfl,Frm.app,RdV_zero _⟩
end Go.Proofs.YthcdjconlfdidaaGreatDoor
