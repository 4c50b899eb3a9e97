/-
 The walk of copied:a value as new memory.
-/
import Derived.Test.YthcdjconlfdidaaGreatDoorDX
set_option linter.unusedVariables false
set_option linter.unusedSimpArgs false
set_option maxRecDepth 20000
set_option maxHeartbeats 4000000
namespace Go.Proofs.YthcdjconlfdidaaGreatDoor
open Go Go.Aw Go.Proofs
def OwnT (H:AHeap) (l:List Tx) (v:Value) (lo:Nat):Prop:=
 (l=[]∧v= .slice none 0 0)∨∃b z,v= .slice (some ⟨b,0,none⟩) l.length l.length∧H[b]? =some (.cells (strsC l) ⟨9,z,true,0,none⟩)∧(z=1∨z=0)∧lo≤b
def ClT (H:AHeap) (l:List Tx) (r:ARes) (H1:AHeap):Prop:=∃v',r= .ret v'∧OwnT H1 l v' H.length∧Frm [] H H1
theorem CloneT (l:List Tx) (hl:l.length≤1099511627776) (v:Value) (H:AHeap) (hv:RdK H 1 v (keyC l)):AC Tryz.prog 59 [v] H (ClT H l):=by
 have hkl:(keyC l).length=l.length:=by unfold keyC;simp
 rcases hv with ⟨rfl,e⟩|⟨i,o,cap,cs,k,rfl,hcap,hi,hown,hz,hle,hr⟩
 ·have hl0:l=[]:=by rw [e] at hkl;exact List.eq_nil_of_length_eq_zero hkl.symm
  refine AC.enter Tryz.func59 rfl (by kernel_rfl) 8 rfl [.tmp 2] rfl (by simp) fun hsc B=> ?_
  repeat first|with_reducible refine kc ?_|((with_reducible first|refine kr ?_ ?_|refine kt ?_ ?_);exact rfl)|((with_reducible refine kf ?_ ?_);exact rfl)|simp only [go_sem,sevalprocAttr,reduceCtorEq]|simp (disch:=omega) only [wz]
  exact ⟨_,_,.refl _ _ _,_,rfl,.inl ⟨hl0,rfl⟩,.refl _ _⟩
 ·have hil:=lt_of_get hi
  rw [hkl] at hle hcap ⊢
  have hz0:repZ 0 [Value.string (bs [])]=[]:=rfl
  rcases Nat.eq_zero_or_pos l.length with h0|h0
  ·have hl0:=List.eq_nil_of_length_eq_zero h0
   subst hl0
   refine AC.enter Tryz.func59 rfl (by kernel_rfl) 8 rfl [.tmp 2] rfl (by simp) fun hsc B=> ?_
   have ho:o≤cs.length:=by simpa using hle
   repeat first|with_reducible refine kc ?_|((with_reducible first|refine kr ?_ ?_|refine kt ?_ ?_);exact rfl)|((with_reducible refine kf ?_ ?_);exact rfl)|simp only [go_sem,sevalprocAttr,reduceCtorEq,hi,hil,hgetl,hz0]|simp (disch:=omega) only [wz]
   refine ⟨ho,appendTo_e0 (e':=9) (fz:=0) (own:=true) (hget0 rfl) ?_⟩
   repeat first|with_reducible refine kc ?_|((with_reducible first|refine kr ?_ ?_|refine kt ?_ ?_);exact rfl)|((with_reducible refine kf ?_ ?_);exact rfl)|simp only [go_sem,sevalprocAttr,reduceCtorEq]|simp (disch:=omega) only [wz]
   exact ⟨_,_,.refl _ _ _,_,rfl,.inr ⟨H.length,0,rfl,by rw [hget0 rfl];rfl,.inr rfl,Nat.le_refl _⟩,Frm.app⟩
  ·have hne:l≠[]:=fun e=>by rw [e] at h0;simp at h0
   have hcells:(cs.drop o).take l.length=strsC l:=by
    refine List.ext_getElem? fun q=> ?_
    by_cases hq:q<l.length
    ·have h1:=congrArg (fun l=>l[0]?) (hr q _ (keyC_at hq))
     have h2:cs[o+q]? =some (.string (bs l[q])):=by simpa using h1
     rw [List.getElem?_take_of_lt hq,List.getElem?_drop,h2]
     unfold strsC
     rw [List.getElem?_map,List.getElem?_eq_getElem hq];rfl
    ·rw [List.getElem?_eq_none (by rw [List.length_take];omega),List.getElem?_eq_none (by rw [strsC_len];omega)]
   have hfl:=strsC_flat l
   have hcl:=strsC_len l
   have hle':o+l.length≤cs.length:=by omega
   refine AC.enter Tryz.func59 rfl (by kernel_rfl) 8 rfl [.tmp 2] rfl (by simp) fun hsc B=> ?_
   repeat first|with_reducible refine kc ?_|((with_reducible first|refine kr ?_ ?_|refine kt ?_ ?_);exact rfl)|((with_reducible refine kf ?_ ?_);exact rfl)|simp only [go_sem,sevalprocAttr,reduceCtorEq,hi,hil,hgetl,hz0,hcells,hfl,hcl]|simp (disch:=omega) only [wz]
   refine ⟨hle',appendTo_e (e':=9) (fz:=0) (own:=true) (hget0 rfl) (by omega) (by omega) (by omega) ?_⟩
   repeat first|with_reducible refine kc ?_|((with_reducible first|refine kr ?_ ?_|refine kt ?_ ?_);exact rfl)|((with_reducible refine kf ?_ ?_);exact rfl)|simp only [go_sem,sevalprocAttr,reduceCtorEq]|simp (disch:=omega) only [wz]
   refine ⟨_,_,.refl _ _ _,_,rfl,.inr ⟨H.length+1,1,rfl,?_,.inl rfl,by omega⟩,Frm.app⟩
   rw [hgetk (n:=H.length) (k:=1) rfl]
   rfl
theorem Clip0 (H:AHeap):ARet Tryz.prog 58 [.slice none 0 0] H (.slice none 0 0) H:=by
 refine AC.enter Tryz.func58 rfl (by kernel_rfl) 9 rfl [.tmp 2] rfl (by simp) fun hsc B=> ?_
 repeat first|with_reducible refine kc ?_|((with_reducible first|refine kr ?_ ?_|refine kt ?_ ?_);exact rfl)|((with_reducible refine kf ?_ ?_);exact rfl)|simp only [go_sem,sevalprocAttr,reduceCtorEq,Option.isSome_some]|simp (disch:=omega) only [wz]|with_reducible_and_instances exact finR|((with_reducible refine finR' ?_ ?_)<;> rfl)|((with_reducible refine finD hsc (NRel.of_plain ?_));exact rfl)
theorem ClipN (b n:Nat) (H:AHeap):ARet Tryz.prog 58 [.slice (some ⟨b,0,none⟩) n n] H (.slice (some ⟨b,0,none⟩) n n) H:=by
 refine AC.enter Tryz.func58 rfl (by kernel_rfl) 9 rfl [.tmp 2] rfl (by simp) fun hsc B=> ?_
 repeat first|with_reducible refine kc ?_|((with_reducible first|refine kr ?_ ?_|refine kt ?_ ?_);exact rfl)|((with_reducible refine kf ?_ ?_);exact rfl)|simp only [go_sem,sevalprocAttr,reduceCtorEq,Option.isSome_some,Int.le_refl,ite_self]|simp (disch:=omega) only [wz]|with_reducible_and_instances exact finR|((with_reducible refine finR' ?_ ?_)<;> rfl)|((with_reducible refine finD hsc (NRel.of_plain ?_));exact rfl)
theorem OwnT.clip {H:AHeap} {l:List Tx} {v:Value} {lo:Nat} (h:OwnT H l v lo) (H2:AHeap):ARet Tryz.prog 58 [v] H2 v H2:=by
 rcases h with ⟨_,rfl⟩|⟨b,z,rfl,_⟩
 ·exact Clip0 H2
 ·exact ClipN b _ H2
theorem OwnT.freeze {H:AHeap} {l:List Tx} {v:Value} {lo:Nat} (h:OwnT H l v lo):
  ∃H2,(∀ n0 env ds,Weak n0 ⟨env,ds,H⟩ ⟨env,ds,H2⟩)∧RdK H2 1 v (keyC l)∧H2.length=H.length∧ (∀ i,i<lo→H2[i]? =H[i]?)∧Kept H H2:=by
 have hkl:(keyC l).length=l.length:=by unfold keyC;simp
 rcases h with ⟨rfl,rfl⟩|⟨b,z,rfl,hb,hz,hlo⟩
 ·exact ⟨H,fun _ _ _=> .refl _ _,.inl ⟨rfl,rfl⟩,rfl,fun _ _=>rfl,.refl _⟩
 ·refine ⟨_,fun n0 env ds=>Weak.freeze hb,.inr ⟨b,0,l.length,_,_,by rw [hkl],by rw [hkl];exact Nat.le_refl _,List.getElem?_set_self (lt_of_get hb),rfl,hz,?_,?_⟩,by simp,fun i hi=>by rw [List.getElem?_set_ne (by omega)],Kept.set hb rfl _⟩
  ·rw [hkl,strsC_len];omega
  ·intro j r hj
   have hjl:j<l.length:=by have:=(List.getElem?_eq_some_iff.1 hj).1;omega
   rw [keyC_at hjl] at hj
   cases hj
   refine List.ext_getElem? fun q=> ?_
   cases q with
   |zero=>
    rw [List.getElem?_take_of_lt (by omega),List.getElem?_drop]
    unfold strsC
    rw [List.getElem?_map,Nat.zero_add,Nat.mul_one,Nat.add_zero,List.getElem?_eq_getElem hjl];rfl
   |succ q=>rw [List.getElem?_eq_none (by rw [List.length_take];omega),List.getElem?_eq_none (by simp)]
theorem put_row {L rest new:List Value} {n:Nat} (hn:n=L.length) (h:new.length≤rest.length):putCells (L++rest) n new=(L++new)++rest.drop new.length:=by
 subst hn
 rw [putCells_eq _ _ _ (by rw [List.length_append];omega),List.take_left,←List.drop_drop,List.drop_left]
def CopP (H:AHeap) (v:BV) (r:ARes) (H2:AHeap):Prop:=∃cs',r= .ret (.agg ⟨cs'⟩)∧Frm [] H H2∧RdV H2 v cs'
def CopJ (H:AHeap) (k n:Int) (s:List UInt8) (vk:Value) (keys:List Tx) (st:ASt):Prop:=
 ∃v' Hc,RdK Hc 1 v' (keyC keys)∧Frm [] H Hc∧Hc[H.length]? =some (.cells [.int .i64 k,.int .i64 n,.string (bs s),vk,v'] ⟨27,0,true,0,none⟩)∧Hc[H.length+1]? =some (.cells [.int .i64 0,.int .i64 0,.string (bs []),.slice none 0 0,.slice none 0 0] ⟨27,0,true,0,none⟩)∧
  st=⟨[(1,.pointer (some ⟨H.length,0,none⟩)),(2,.pointer (some ⟨H.length+1,0,none⟩))],[],Hc⟩
structure CLp where
 i:Nat
 css:List (List Value)
 rest:List Value
 Hc:AHeap
def CLI (H:AHeap) (a:Nat) (k n:Int) (s:List UInt8) (vk v':Value) (kids:List BV) (keys:List Tx) (p:CLp):Prop:=
 p.i≤kids.length∧RdK p.Hc 1 v' (keyC keys)∧Frm [] H p.Hc∧p.Hc[H.length]? =some (.cells [.int .i64 k,.int .i64 n,.string (bs s),vk,v'] ⟨27,0,true,0,none⟩)∧p.Hc[H.length+1]? =some (.cells [.int .i64 0,.int .i64 0,.string (bs []),.slice none 0 0,.slice none 0 0] ⟨27,0,true,0,none⟩)∧
  p.Hc[a]? =some (.cells (p.css.flatten++p.rest) ⟨27,0,true,0,none⟩)∧RdL p.Hc (kids.take p.i) p.css∧p.rest.length=(kids.length - p.i)*5
theorem copied (v:BV):szV v→∀(H:AHeap) (cs:List Value),RdV H v cs→AC Tryz.prog 34 [.agg ⟨cs⟩] H (CopP H v):=by
 refine BV.ind (P:=fun v=>szV v→∀(H:AHeap) (cs:List Value),RdV H v cs→AC Tryz.prog 34 [.agg ⟨cs⟩] H (CopP H v)) (fun k n s kids keys ih hsz H cs hR=> ?_) v
 unfold szV at hsz
 obtain ⟨hkd,hky,hszL⟩:=hsz
 have hfl:=RdV_flat hR
 have hr5:=hR.len
 unfold RdV at hR
 obtain ⟨vk,vs,css,rfl,h1,hL,h3⟩:=hR
 obtain ⟨H1,hH1⟩:∃H1:AHeap,H1=H++ [.cells [.int .i64 k,.int .i64 n,.string (bs s),vk,vs] ⟨27,0,true,0,none⟩,.cells [.int .i64 0,.int .i64 0,.string (bs []),.slice none 0 0,.slice none 0 0] ⟨27,0,true,0,none⟩]:=⟨_,rfl⟩
 have hb0:H1[H.length]? =some (.cells [.int .i64 k,.int .i64 n,.string (bs s),vk,vs] ⟨27,0,true,0,none⟩):=by rw [hH1,hget0 rfl];rfl
 have hb1:H1[H.length+1]? =some (.cells [.int .i64 0,.int .i64 0,.string (bs []),.slice none 0 0,.slice none 0 0] ⟨27,0,true,0,none⟩):=by rw [hH1,hgetk rfl];rfl
 have hl1:H1.length=H.length+2:=by rw [hH1];simp
 have hf1:Frm [] H H1:=by rw [hH1];exact Frm.app
 have hk1:Kept H H1:=by rw [hH1];exact .more _ _
 have hC:=CloneT keys (by omega) vs H1 (h3.kept hk1)
 have hcl:=hL.len
 have q1:∀H' K,lenW Tryz.prog 23 vk H' K=K (.int .i64 (kids.length:Nat)) H':=fun H' K=>by rw [h1.lenT (by simp only [go_sem,sevalprocAttr,reduceCtorEq]),hcl]
 refine AC.enter Tryz.func34 rfl (by kernel_rfl) 31 rfl [.cell 2 27] rfl (by simp) fun hsc B=> ?_
 repeat first|with_reducible refine AWP.seqE (x:= .region 1 _ _) (CopJ H k n s vk keys) ?_ ?_|with_reducible refine kc ?_|((with_reducible first|refine kr ?_ ?_|refine kt ?_ ?_);exact rfl)|((with_reducible refine kf ?_ ?_);exact rfl)|simp only [go_sem,sevalprocAttr,reduceCtorEq,hfl,hr5]|simp (disch:=omega) only [wz]
 ·rw [← hH1]
  repeat first|with_reducible refine kc ?_|((with_reducible first|refine kr ?_ ?_|refine kt ?_ ?_);exact rfl)|((with_reducible refine kf ?_ ?_);exact rfl)|simp only [go_sem,sevalprocAttr,reduceCtorEq,hb0]|simp (disch:=omega) only [wz]
  refine AC.mono hC ?_
  rintro r H2 ⟨v',rfl,hO,hf2⟩
  have hb02:=hf2.get hb0 (by simp)
  have hb12:=hf2.get hb1 (by simp)
  have hf12:Frm [] H H2:=hf1.trans hf2 (fun x hx=>by cases hx)
  have hl2:=hf2.1
  have hfv:Go.Aw.flat v'=true:=by rcases hO with ⟨_,rfl⟩|⟨_,_,rfl,_⟩<;> rfl
  have hcv:cellsOf v'=[v']:=by rcases hO with ⟨_,rfl⟩|⟨_,_,rfl,_⟩<;> rfl
  have hO2:OwnT (H2.set H.length (.cells [.int .i64 k,.int .i64 n,.string (bs s),vk,v'] ⟨27,0,true,0,none⟩)) keys v' (H.length+2):=by
   rcases hO with h|⟨b,z,e,hb,hz,hlo⟩
   ·exact .inl h
   ·exact .inr ⟨b,z,e,by rw [List.getElem?_set_ne (by omega)];exact hb,hz,by omega⟩
  obtain ⟨H3,hW3,hR3,hln3,hg3,hk3⟩:=hO2.freeze
  have hal:H.length<H2.length:=by omega
  repeat first|with_reducible refine kc ?_|((with_reducible first|refine kr ?_ ?_|refine kt ?_ ?_);exact rfl)|((with_reducible refine kf ?_ ?_);exact rfl)|with_reducible refine (hO.clip _).use ?_|simp only [go_sem,sevalprocAttr,reduceCtorEq,hb02,hfv,hcv,hal,putCells,List.set_cons_succ,List.set_cons_zero]|simp (disch:=omega) only [wz]
  refine ⟨hfv,_,⟨v',H3,hR3,?_,?_,?_,rfl⟩,(Weak.env (by simp [envIn,lk_cons,wth_some])).trans (hW3 _ _ _)⟩
  ·refine ⟨by rw [hln3,List.length_set];omega,fun j hj hn=> ?_⟩
   rw [hg3 j (by omega),List.getElem?_set_ne (by omega)]
   exact hf12.2 j hj hn
  ·rw [hg3 _ (by omega),List.getElem?_set_self hal]
  ·rw [hg3 _ (by omega),List.getElem?_set_ne (by omega)];exact hb12
 rintro st ⟨v',Hc,hRK,hfc,hbx,hrs,rfl⟩
 have hlc:=lt_of_get hrs
 repeat first|with_reducible refine kc ?_|((with_reducible first|refine kr ?_ ?_|refine kt ?_ ?_);exact rfl)|((with_reducible refine kf ?_ ?_);exact rfl)|simp only [go_sem,sevalprocAttr,reduceCtorEq,hbx,q1,makeSliceW]|simp (disch:=omega) only [wz]
 refine ⟨by omega,by omega,?_⟩
 obtain ⟨a,ha⟩:∃a,a=Hc.length:=⟨_,rfl⟩
 obtain ⟨Hd,hHd⟩:∃Hd:AHeap,Hd=Hc++ [.cells (repZ kids.length [.int .i64 0,.int .i64 0,.string (bs []),.slice none 0 0,.slice none 0 0]) ⟨27,0,true,0,none⟩]:=⟨_,rfl⟩
 have had:Hd[a]? =some (.cells (repZ kids.length [.int .i64 0,.int .i64 0,.string (bs []),.slice none 0 0,.slice none 0 0]) ⟨27,0,true,0,none⟩):=by rw [hHd,ha,hget0 rfl];rfl
 have hbx1:Hd[H.length]? =some (.cells [.int .i64 k,.int .i64 n,.string (bs s),vk,v'] ⟨27,0,true,0,none⟩):=by rw [hHd,hgetl (by omega)];exact hbx
 have hrs1:Hd[H.length+1]? =some (.cells [.int .i64 0,.int .i64 0,.string (bs []),.slice none 0 0,.slice none 0 0] ⟨27,0,true,0,none⟩):=by rw [hHd,hgetl (by omega)];exact hrs
 have hkd1:Kept Hc Hd:=by rw [hHd];exact .more _ _
 rw [← hHd,←ha]
 repeat first|with_reducible refine kc ?_|((with_reducible first|refine kr ?_ ?_|refine kt ?_ ?_);exact rfl)|((with_reducible refine kf ?_ ?_);exact rfl)|simp only [go_sem,sevalprocAttr,reduceCtorEq,hbx1,q1]|simp (disch:=omega) only [wz]
 refine AWP.loopP (fun p:CLp=>⟨[(1,.pointer (some ⟨H.length,0,none⟩)),(2,.pointer (some ⟨H.length+1,0,none⟩)),(3,.slice (some ⟨a,0,none⟩) p.i kids.length),(16,vk),(17,.int .i64 (kids.length:Nat)),(18,.int .i64 (p.i:Nat))],[],p.Hc⟩)
  (CLI H a k n s vk v' kids keys) (fun p=>kids.length - p.i) ⟨0,[],repZ kids.length [.int .i64 0,.int .i64 0,.string (bs []),.slice none 0 0,.slice none 0 0],Hd⟩ ?_ ⟨Nat.zero_le _,hRK.kept hkd1,?_,hbx1,hrs1,had,by dsimp only;rw [List.take_zero];unfold RdL;rfl,by dsimp only;rw [repZ_length];simp⟩ ?_
 ·exact Weak.env (by simp [envIn,lk_cons,wth_some])
 ·rw [hHd];exact hfc.more
 rintro ⟨i,cs2,rest,Hx⟩ ⟨hi,hK,hf,hb,hr,hA,hRl,hrest⟩
 dsimp only at hi hK hf hb hr hA hRl hrest ⊢
 have hlx:=lt_of_get hr
 have halx:=lt_of_get hA
 have hkx:Kept H Hx:=Kept.frm hf (fun x hx=>by cases hx)
 have hc5:=hRl.all5
 have hcl2:cs2.length=i:=by rw [hRl.len,List.length_take];omega
 have hfl2:=flat_len hc5
 have hgeA:H.length+2≤a:=by omega
 by_cases hlt:i<kids.length
 ·have hlt':(i:Int)<(kids.length:Int):=by omega
  obtain ⟨r5,hr5',hRv⟩:=(hL.kept hkx).at_ (List.getElem?_eq_getElem hlt)
  obtain ⟨bi,off,cap,cs',k',rfl,hcap,hbi,hown,hesz,hle,htk⟩:=(h1.kept hkx).at_ hr5'
  have hlt2:(i:Int)<(css.length:Int):=by omega
  have hr55:=hRv.len
  have hfl5:=RdV_flat hRv
  have htk5:List.take 5 r5=r5:=List.take_of_length_le (by omega)
  have hput:putCells [.int .i64 0,.int .i64 0,.string (bs []),.slice none 0 0,.slice none 0 0] 0 r5=r5:=by
   match r5,hr55 with
   |[_,_,_,_,_],_=>rfl
  have hwi:IntKind.i64.wrap ((i:Int)+1)=((i+1:Nat):Int):=by rw [wi64 (by omega)];omega
  have hgk:kids[i]? =some kids[i]:=List.getElem?_eq_getElem hlt
  have hcall:=ih kids[i] (List.getElem_mem hlt) (szL_iff.1 hszL _ (List.getElem_mem hlt)) (Hx++ [.cells r5 ⟨27,0,true,0,none⟩]) r5 (hRv.kept (.more _ _))
  have htake:kids.take (i+1)=kids.take i++[kids[i]]:=by rw [List.take_add_one,hgk];rfl
  generalize kids[i]=v at*
  repeat first|with_reducible refine kc ?_|((with_reducible first|refine kr ?_ ?_|refine kt ?_ ?_);exact rfl)|((with_reducible refine kf ?_ ?_);exact rfl)|simp only [go_sem,sevalprocAttr,reduceCtorEq,hlt',hlt2,hbi,hle,htk,hr55,hfl5,htk5,hput]|simp (disch:=omega) only [wz]
  refine AC.mono hcall ?_
  rintro res H5 ⟨r6,rfl,hf5,hR6⟩
  have hr65:=hR6.len
  have hfl6:=RdV_flat hR6
  have htk6:List.take 5 r6=r6:=List.take_of_length_le (by omega)
  have hfx:Frm [] Hx H5:=Frm.trans Frm.app hf5 (fun x hx=>by cases hx)
  have hA5:=hfx.get hA (by simp)
  have hb5:=hfx.get hb (by simp)
  have hr5x:=hfx.get hr (by simp)
  have hal5:=lt_of_get hA5
  have hput6:putCells [.int .i64 0,.int .i64 0,.string (bs []),.slice none 0 0,.slice none 0 0] 0 r6=r6:=by
   match r6,hr65 with
   |[_,_,_,_,_],_=>rfl
  obtain ⟨H6,hH6⟩:∃H6:AHeap,H6=H5++ [.cells r6 ⟨27,0,true,0,none⟩]:=⟨_,rfl⟩
  have hf6:Frm [] Hx H6:=by rw [hH6];exact hfx.more
  have hA6:=hf6.get hA (by simp)
  have hb6:=hf6.get hb (by simp)
  have hr6x:=hf6.get hr (by simp)
  have hal6:=lt_of_get hA6
  have hk6:Kept Hx H6:=Kept.frm hf6 (fun x hx=>by cases hx)
  have hk56:Kept H5 H6:=by rw [hH6];exact .more _ _
  have hpr:=put_row (L:=cs2.flatten) (rest:=rest) (new:=r6) (n:=0+i*5) (by rw [hfl2,hcl2];omega) (by omega)
  repeat first|with_reducible refine kc ?_|((with_reducible first|refine kr ?_ ?_|refine kt ?_ ?_);exact rfl)|((with_reducible refine kf ?_ ?_);exact rfl)|simp only [go_sem,sevalprocAttr,reduceCtorEq,hr65,hfl6,htk6,hput6]|simp (disch:=omega) only [wz]
  rw [← hH6]
  refine appendTo_in hA6 (by decide) (by omega) rfl (Nat.zero_le _) (by rw [List.length_append,hfl2,hcl2];omega) ?_
  rw [hpr]
  obtain ⟨H7,hH7⟩:∃H7:AHeap,H7=H6.set a (.cells ((cs2.flatten++r6)++rest.drop r6.length) ⟨27,0,true,0,none⟩):=⟨_,rfl⟩
  have hk7:Kept H6 H7:=by rw [hH7];exact Kept.set hA6 rfl _
  rw [← hH7]
  repeat first|with_reducible refine kc ?_|((with_reducible first|refine kr ?_ ?_|refine kt ?_ ?_);exact rfl)|((with_reducible refine kf ?_ ?_);exact rfl)|simp only [go_sem,sevalprocAttr,reduceCtorEq,hwi]|simp (disch:=omega) only [wz]
  refine ⟨⟨i+1,cs2++[r6],rest.drop r6.length,H7⟩,Weak.env (by simp [envIn,lk_cons,wth_some]),⟨hlt,(hK.kept hk6).kept hk7,?_,?_,?_,?_,?_,?_⟩,by dsimp only;omega⟩
  ·rw [hH7];exact Frm.set (hf.trans hf6 (fun x hx=>by cases hx)) (.inr (by omega))
  ·rw [hH7,List.getElem?_set_ne (by omega)];exact hb6
  ·rw [hH7,List.getElem?_set_ne (by omega)];exact hr6x
  ·rw [hH7,List.getElem?_set_self hal6,List.flatten_append];simp
  ·dsimp only
   rw [htake]
   exact ((hRl.kept hk6).snoc (hR6.kept hk56)).kept hk7
  ·dsimp only
   rw [List.length_drop,hr65,hrest];omega
 ·have hlt':¬(i:Int)<(kids.length:Int):=by omega
  obtain rfl:i=kids.length:=by omega
  have hrest0:rest=[]:=List.eq_nil_of_length_eq_zero (by rw [hrest,Nat.sub_self])
  subst hrest0
  rw [List.append_nil] at hA
  rw [List.take_length] at hRl
  obtain ⟨H6,hH6⟩:∃H6:AHeap,H6=Hx.set a (.cells cs2.flatten ⟨27,0,false,0,none⟩):=⟨_,rfl⟩
  have hk6:Kept Hx H6:=by rw [hH6];exact Kept.set hA rfl _
  have hA6:H6[a]? =some (.cells cs2.flatten ⟨27,0,false,0,none⟩):=by rw [hH6,List.getElem?_set_self halx]
  have hb6:H6[H.length]? =some (.cells [.int .i64 k,.int .i64 n,.string (bs s),vk,v'] ⟨27,0,true,0,none⟩):=by rw [hH6,List.getElem?_set_ne (by omega)];exact hb
  have hr6x:H6[H.length+1]? =some (.cells [.int .i64 0,.int .i64 0,.string (bs []),.slice none 0 0,.slice none 0 0] ⟨27,0,true,0,none⟩):=by rw [hH6,List.getElem?_set_ne (by omega)];exact hr
  have hf6:Frm [] H H6:=by rw [hH6];exact Frm.set hf (.inr (by omega))
  have hRk6:RdK H6 5 (.slice (some ⟨a,0,none⟩) kids.length kids.length) cs2:=by
   refine .inr ⟨a,0,kids.length,_,_,by rw [hcl2],by omega,hA6,rfl,.inr rfl,by rw [hfl2,hcl2];omega,fun j r hj=> ?_⟩
   rw [Nat.zero_add]
   exact flat_at hc5 hj
  have hfv:Go.Aw.flat v'=true:=by rcases hK with ⟨rfl,_⟩|⟨_,_,_,_,_,rfl,_⟩<;> rfl
  have hb6l:=lt_of_get hb6
  have hr6l:=lt_of_get hr6x
  have gs:∀o:AObj,(H6.set H.length o)[H.length]? =some o:=fun o=>List.getElem?_set_self hb6l
  have gn:∀o:AObj,(H6.set H.length o)[H.length+1]? =H6[H.length+1]? :=fun o=>List.getElem?_set_ne (by omega)
  refine AWP.weak (Weak.freeze hA) ?_
  dsimp only
  rw [← hH6]
  repeat first|with_reducible refine kc ?_|((with_reducible first|refine kr ?_ ?_|refine kt ?_ ?_);exact rfl)|((with_reducible refine kf ?_ ?_);exact rfl)|simp only [go_sem,sevalprocAttr,reduceCtorEq,hlt',hb6,hr6x,gs,gn,hb6l,hr6l,hfv,putCells,List.length_set,List.set_cons_succ,List.set_cons_zero]|simp (disch:=omega) only [wz]
  refine ⟨hfv,?_⟩
  have g2:∀o1 o2:AObj,((H6.set H.length o1).set (H.length+1) o2)[H.length+1]? =some o2:=fun o1 o2=>List.getElem?_set_self (by rw [List.length_set];exact hr6l)
  repeat first|with_reducible refine kc ?_|((with_reducible first|refine kr ?_ ?_|refine kt ?_ ?_);exact rfl)|((with_reducible refine kf ?_ ?_);exact rfl)|simp only [go_sem,sevalprocAttr,reduceCtorEq,g2]|simp (disch:=omega) only [wz]
  have hk8:∀o1 o2:AObj,Kept H6 ((H6.set H.length o1).set (H.length+1) o2):=fun o1 o2=>Kept.trans (Kept.set hb6 rfl _) (Kept.set (by rw [gn];exact hr6x) rfl _)
  refine ⟨_,_,.refl _ _ _,_,rfl,Frm.set (Frm.set hf6 (.inr (Nat.le_refl _))) (.inr (by omega)),?_⟩
  unfold RdV
  exact ⟨_,_,cs2,rfl,hRk6.kept (hk8 _ _),(hRl.kept hk6).kept (hk8 _ _),(hK.kept hk6).kept (hk8 _ _)⟩
end Go.Proofs.YthcdjconlfdidaaGreatDoor
