/-
 The walk of Set.
-/
import Derived.Test.YthcdjconlfdidaaGreatDoorQI
import Derived.Test.YthcdjconlfdidaaGreatDoorQJM
import Derived.Test.YthcdjconlfdidaaGreatDoorQC
set_option linter.unusedVariables false
set_option linter.unusedSimpArgs false
set_option maxRecDepth 20000
set_option maxHeartbeats 4000000
namespace Go.Proofs.YthcdjconlfdidaaGreatDoor
open Go Go.Aw Go.Proofs
def oneV (v:BV):BV:= .mk 3 0 [] [v] []
theorem stepR_one (v:BV):stepR (oneV v) [48]=(0,0):=by
 rw [stepR_list (show (oneV v).kind=3 from rfl)]
 have:nAt (oneV v).kids.length [48]=some 0:=nAt_some (by show (1:Nat)≤_;omega) (by show 0<(1:Nat);omega) (by kernel_rfl)
 rw [this];rfl
theorem one_put (x v:BV) (p:List Tx):chR (setL x) (oneV v) ([48]::p)=(oneV (putR x v p).1,(putR x v p).2):=by
 rw [chR]
 unfold putR
 by_cases hp:p=[]
 ·rw [if_pos hp,if_pos hp]
  unfold setL
  rw [stepR_one,if_pos rfl]
  rfl
 ·rw [if_neg hp,if_neg hp,stepR_one,if_pos rfl]
  rfl
theorem one_drop (v:BV) (p:List Tx) (hp:p≠[]):chR dropL (oneV v) ([48]::p)=(oneV (chR dropL v p).1,(chR dropL v p).2):=by
 rw [chR,if_neg hp,stepR_one,if_pos rfl]
 rfl
theorem Good.one {v:BV} (h:Good v):Good (oneV v) where
 sz:=by
  unfold oneV szV
  exact ⟨by simp,by simp,szL_iff.2 (fun c hc=>by rw [List.mem_singleton.1 hc];exact h.sz)⟩
 form:=by
  unfold oneV
  rw [form_shape,Bool.and_eq_true]
  exact ⟨rfl,BV.formL_iff.2 (fun c hc=>by rw [List.mem_singleton.1 hc];exact h.form)⟩
theorem validR {v:BV} (h:Fine v) {H:AHeap} {cs:List Value} (hR:RdV H v cs) (hT:TabH H):ARet Tryz.prog 33 [.agg ⟨cs⟩] H (.bool v.valid) H:=AC.forget rfl (valid_ v h H cs hR hT)
theorem valid_form {v:BV} (h:v.valid=true):v.form=true:=by
 unfold BV.valid at h
 simp only [Bool.and_eq_true] at h
 exact h.1.1.1
def SetE (R:BV×Int) (a0 r:Nat) (lo:Nat) (H5:AHeap) (cw:List Value) (S:List Nat) (st:ASt):Prop:=
 ∃(S2:List Nat) (H7:AHeap),Kept H5 H7∧H5.length≤H7.length∧ (∀ j,j<H5.length→j∉S→H7[j]? =H5[j]?)∧(R.2=0→∀T,(∀ s∈S2,s∈T)→RdV (fz H7 T) (oneV R.1) cw)∧ (∀ s∈S2,lo≤s)∧
  st=⟨[(9,.int .i64 R.2),(8,.pointer (some ⟨a0+1,0,none⟩)),(7,.int .i64 0),(6,.pointer (some ⟨r,0,none⟩))],[],H7⟩
theorem setW (v x:BV) (p:List Tx) (hv:Fine v) (hx:Fine x) (hfin:v.valid=true→x.valid=true→(putR x v p).2=0→Fine (putR x v p).1) (hp:∀t∈p,t.length≤1099511627776) (hpl:p.length<1099511627776) (H:AHeap) (hG:GlobB H) (cs csx:List Value) (hR:RdV H v cs) (hRx:RdV H x csx) (vp:Value) (hP:RdK H 1 vp (keyC p)):
  AC Tryz.prog 23 [.agg ⟨cs⟩,vp,.agg ⟨csx⟩] H (ParseP H (setR v p x)):=by
 have hfl:=RdV_flat hR
 have hr5:=hR.len
 have htk5:List.take 5 cs=cs:=List.take_of_length_le (by omega)
 have hflx:=RdV_flat hRx
 have hr5x:=hRx.len
 have htk5x:List.take 5 csx=csx:=List.take_of_length_le (by omega)
 obtain ⟨H1,hH1⟩:∃H1:AHeap,H1=H++ [.cells cs ⟨27,0,true,0,none⟩,.cells csx ⟨27,0,true,0,none⟩,.cells [.int .i64 0,.int .i64 0,.string (bs []),.slice none 0 0,.slice none 0 0] ⟨27,0,true,0,none⟩]:=⟨_,rfl⟩
 have hb0:H1[H.length]? =some (.cells cs ⟨27,0,true,0,none⟩):=by rw [hH1,hget0 rfl];rfl
 have hb1:H1[H.length+1]? =some (.cells csx ⟨27,0,true,0,none⟩):=by rw [hH1,hgetk rfl];rfl
 have hb2:H1[H.length+2]? =some (.cells [.int .i64 0,.int .i64 0,.string (bs []),.slice none 0 0,.slice none 0 0] ⟨27,0,true,0,none⟩):=by rw [hH1,hgetk rfl];rfl
 have hl1:H1.length=H.length+3:=by rw [hH1];simp
 have hf1:Frm [] H H1:=by rw [hH1];exact Frm.app
 have hk1:Kept H H1:=by rw [hH1];exact .more _ _
 have hG1:GlobB H1:=by rw [hH1];exact hG.more _
 have hV:=validR hv (hR.kept hk1) hG1.tab
 have hVx:=validR hx (hRx.kept hk1) hG1.tab
 have hzl:∀cs':List Value,cs'.length=5→putCells [.int .i64 0,.int .i64 0,.string (bs []),.slice none 0 0,.slice none 0 0] 0 cs'=cs':=fun cs' h=>by
  match cs',h with
  |[_,_,_,_,_],_=>rfl
 unfold setR
 by_cases hvv:v.valid=true∧x.valid=true
 ·rw [if_pos hvv]
  obtain ⟨hv1,hv2⟩:=hvv
  rw [hv1] at hV
  rw [hv2] at hVx
  have hgv:Good v:=⟨hv.sz,valid_form hv1⟩
  have hCx:=copied x hx.sz H1 csx (hRx.kept hk1)
  refine AC.enter Tryz.func23 rfl (by kernel_rfl) 46 rfl [.cell 6 27,.tmp 7] rfl (by simp) fun hsc B=> ?_
  repeat first|with_reducible refine kc ?_|((with_reducible first|refine kr ?_ ?_|refine kt ?_ ?_);exact rfl)|((with_reducible refine kf ?_ ?_);exact rfl)|simp only [go_sem,sevalprocAttr,reduceCtorEq,hfl,hr5,hflx,hr5x]|simp (disch:=omega) only [wz]
  rw [← hH1]
  repeat first|with_reducible refine kc ?_|((with_reducible first|refine kr ?_ ?_|refine kt ?_ ?_);exact rfl)|((with_reducible refine kf ?_ ?_);exact rfl)|with_reducible (first|refine hV.use ?_|refine hVx.use ?_)|simp only [go_sem,sevalprocAttr,reduceCtorEq,hb0,hb1,htk5,htk5x,hr5,hr5x]|simp (disch:=omega) only [wz]
  refine AC.mono hCx ?_
  rintro res H2 ⟨cx,rfl,hf2,hRx2⟩
  have hcx5:=hRx2.len
  have hcxf:=RdV_flat hRx2
  have htkx:List.take 5 cx=cx:=List.take_of_length_le (by omega)
  have hb02:=hf2.get hb0 (by simp)
  have hb12:=hf2.get hb1 (by simp)
  have hb22:=hf2.get hb2 (by simp)
  have hl2:=hf2.1
  have hbl2:=lt_of_get hb12
  have hput:putCells csx 0 cx=cx:=putCells_all (by omega)
  repeat first|with_reducible refine kc ?_|((with_reducible first|refine kr ?_ ?_|refine kt ?_ ?_);exact rfl)|((with_reducible refine kf ?_ ?_);exact rfl)|simp only [go_sem,sevalprocAttr,reduceCtorEq,hb12,hcx5,hcxf,htkx,hr5x,hput]|simp (disch:=omega) only [wz]
  obtain ⟨H3,hH3⟩:∃H3:AHeap,H3=H2.set (H.length+1) (.cells cx ⟨27,0,true,0,none⟩):=⟨_,rfl⟩
  have hb03:H3[H.length]? =some (.cells cs ⟨27,0,true,0,none⟩):=by rw [hH3,List.getElem?_set_ne (by omega)];exact hb02
  have hk3:Kept H1 H3:=by rw [hH3];exact (Kept.frm hf2 (fun x hx=>by cases hx)).trans (Kept.set hb12 rfl _)
  rw [← hH3]
  have hC:=copiedO true v hv.sz H3 cs ((hR.kept hk1).kept hk3)
  repeat first|with_reducible refine kc ?_|((with_reducible first|refine kr ?_ ?_|refine kt ?_ ?_);exact rfl)|((with_reducible refine kf ?_ ?_);exact rfl)|simp only [go_sem,sevalprocAttr,reduceCtorEq,hb03,htk5,hr5]|simp (disch:=omega) only [wz]
  refine AC.mono hC ?_
  rintro res H4 ⟨cv,S,rfl,hf4,hO4,hnd4,hS4⟩
  have hcv5:=hO4.len
  have hcvf:=hO4.flat
  have htkv:List.take 5 cv=cv:=List.take_of_length_le (by omega)
  have hputv:=hzl cv hcv5
  have hl3:H3.length=H2.length:=by rw [hH3,List.length_set]
  have hl4:=hf4.1
  obtain ⟨a0,ha0⟩:∃a0,a0=H4.length:=⟨_,rfl⟩
  obtain ⟨cw,hcw⟩:∃cw:List Value,cw= [.int .i64 3,.int .i64 0,.string (bs []),.slice (some ⟨a0,0,none⟩) 1 1,.slice none 0 0]:=⟨_,rfl⟩
  obtain ⟨H5,hH5⟩:∃H5:AHeap,H5=H4++ [.cells cv ⟨27,0,true,0,none⟩,.cells cw ⟨27,0,true,0,none⟩]:=⟨_,rfl⟩
  have hb05:H5[a0]? =some (.cells cv ⟨27,0,true,0,none⟩):=by rw [hH5,ha0,hget0 rfl];rfl
  have hb15:H5[a0+1]? =some (.cells cw ⟨27,0,true,0,none⟩):=by rw [hH5,ha0,hgetk rfl];rfl
  have hl5:H5.length=H4.length+2:=by rw [hH5];simp
  have hf45:Frm [] H4 H5:=by rw [hH5];exact Frm.app
  have hf35:Frm [] H3 H5:=hf4.trans hf45 (fun x hx=>by cases hx)
  have hk45:Kept H4 H5:=Kept.frm hf45 (fun x hx=>by cases hx)
  have hk35:Kept H3 H5:=Kept.frm hf35 (fun x hx=>by cases hx)
  have hk15:Kept H1 H5:=hk3.trans hk35
  have hxb5:H5[H.length+1]? =some (.cells cx ⟨27,0,true,0,none⟩):=hf35.get (by rw [hH3,List.getElem?_set_self hbl2]) (by simp)
  have hrb5:H5[H.length+2]? =some (.cells [.int .i64 0,.int .i64 0,.string (bs []),.slice none 0 0,.slice none 0 0] ⟨27,0,true,0,none⟩):=hf35.get (by rw [hH3,List.getElem?_set_ne (by omega)];exact hb22) (by simp)
  have hRx5:RdV H5 x cx:=(hRx2.kept (by rw [hH3];exact Kept.set hb12 rfl _:Kept H2 H3)).kept hk35
  have hG5:GlobB H5:=hG1.kept hk15
  have hJ5:SetJ (H.length+1) x cx H5:=⟨hG5,hxb5,hRx5⟩
  obtain ⟨SS,hSS⟩:∃SS,SS=a0::([]++(S++[])):=⟨_,rfl⟩
  have hO5:OwnV true H5 (oneV v) cw SS:=by
   rw [hSS]
   unfold oneV
   unfold OwnV
   refine ⟨.slice none 0 0,a0,[cv],[],S++[],hcw,by rw [hb05];simp,.inl ⟨rfl,rfl,rfl⟩,?_,rfl⟩
   unfold OwnL
   refine ⟨cv,[],S,[],rfl,hO4.same hk45 (fun s hs=>hf45.2 s (hS4 s hs).2 (by simp)),?_,rfl⟩
   unfold OwnL
   exact ⟨rfl,rfl⟩
  have hS5:∀s∈SS,s=a0∨s∈S:=fun s hs=>by rw [hSS] at hs;simpa using hs
  have hnd5:SS.Nodup:=by
   rw [hSS,List.nil_append,List.append_nil,List.nodup_cons]
   exact ⟨fun h=>by have:=(hS4 a0 h).2;omega,hnd4⟩
  have hlo5:∀s∈SS,H.length+3≤s∧s<H5.length:=fun s hs=>by
   rcases hS5 s hs with rfl|h
   ·omega
   ·have:=hS4 s h;omega
  obtain ⟨R,hRe⟩:∃R,R=putR x v p:=⟨_,rfl⟩
  have hcall:∀(H6:AHeap) (q z:Nat),Frm [] H5 H6→H5.length≤q→H6[q]? =some (.cells (strsC ([48]::p)) ⟨9,z,true,0,none⟩)→(z=1∨z=0)→
    AC Tryz.prog 42 [.agg ⟨cw⟩,.slice (some ⟨q,0,none⟩) (p.length+1) (p.length+1),.func (.func 43) ⟨[]⟩ ⟨[.pointer (some ⟨H.length+1,0,none⟩)]⟩] H6 (CdP (oneV R.1,R.2) True H5 cw SS):=fun H6 q z h1 h2 h3 h4=>by
   refine (changed_p (set1 (H.length+1) (H.length+3) (by omega) x cx) p [48] (oneV v) H5 cw _ hJ5 hgv.one hO5 hnd5 (fun s hs=>(hlo5 s hs).1) (fun s hs=>(hlo5 s hs).2) (by omega) (fun u hu=> ?_) (by omega) H6 q z h1 h2 h3 h4).mono ?_
   ·rcases List.mem_cons.1 hu with rfl|h
    ·decide
    ·exact hp u h
   ·rintro r H7 ⟨S2,rfl,q1,q2,q3,q4,q5⟩
    rw [one_put,←hRe] at q5 ⊢
    refine ⟨S2,rfl,q1,q2,q3,q4,fun _=>q5 ?_⟩
    unfold stayP
    cases p with
    |nil=>exact congrArg Prod.snd (stepR_one v)
    |cons u p=>trivial
  rw [← hRe]
  have hfin':R.2=0→Fine R.1:=fun h=>by rw [hRe] at h ⊢;exact hfin hv1 hv2 h
  have hcwf:cw.all flat=true:=by rw [hcw];rfl
  have hcw5:cw.length=5:=by rw [hcw];rfl
  have htkw:List.take 5 cw=cw:=List.take_of_length_le (by omega)
  clear hRe hSS
  have hgb:∀X:AHeap,(H5++X)[a0+1]? =some (.cells cw ⟨27,0,true,0,none⟩):=fun X=>by rw [hgetl (lt_of_get hb15)];exact hb15
  repeat first|with_reducible refine AWP.seqE (x:= .region 5 _ _) (SetE R a0 (H.length+2) (H.length+3) H5 cw SS) ?_ ?_|with_reducible refine kc ?_|((with_reducible first|refine kr ?_ ?_|refine kt ?_ ?_);exact rfl)|((with_reducible refine kf ?_ ?_);exact rfl)|simp only [go_sem,sevalprocAttr,reduceCtorEq,hcvf,hcv5,htkv,hputv]|simp (disch:=omega) only [wz]
  ·rw [← ha0,←hcw,←hH5]
   have hend:∀(res:ARes) (H7:AHeap),CdP (oneV R.1,R.2) True H5 cw SS res H7→∃S2:List Nat,res= .ret (.int .i64 R.2)∧Kept H5 H7∧H5.length≤H7.length∧ (∀ j,j<H5.length→j∉SS→H7[j]? =H5[j]?)∧(R.2=0→∀T,(∀ s∈S2,s∈T)→RdV (fz H7 T) (oneV R.1) cw)∧ (∀ s∈S2,H.length+3≤s):=by
    rintro res H7 ⟨S2,rfl,q1,q2,q3,q4,q5⟩
    refine ⟨S2,rfl,q2,q3,q4,q5 trivial,fun s hs=> ?_⟩
    rcases q1 s hs with h|h
    ·exact (hlo5 s h).1
    ·omega
   rcases hP with ⟨rfl,hnil⟩|⟨i,off,cap,cs',k,rfl,hcap,hi,hown,hesz,hle,hrow⟩
   ·have hp0:p=[]:=by
     have:=congrArg List.length hnil
     rw [keyC_len] at this
     exact List.eq_nil_of_length_eq_zero this
    have hpl0:p.length=0:=by rw [hp0];rfl
    refine AWP.regionM 5 [0,1,3] [] (.both (.run [0,1,3]) (.step 1 (.both (.run [0,3]) (.run [3,0])))) (by kernel_rfl) (by decide) (by kernel_rfl) (by kernel_rfl) (by kernel_rfl) ?_
    repeat' first|with_reducible refine canW_n ?_|with_reducible refine canW_m (by decide) ?_|((with_reducible apply canW_p (by decide));focus (intro H;(simp only [go_sem,sevalprocAttr,reduceCtorEq,hgb,hb15,htkw,hcwf,hcw5,List.map_cons,List.map_nil]);exact rfl))|with_reducible refine memW_b ?_ ?_|with_reducible refine memW_s rfl ?_|with_reducible refine memW_r rfl ?_|with_reducible refine memW_e ?_|simp only [List.take_succ_cons,List.take_zero,List.drop_succ_cons,List.drop_zero]|omega|with_reducible refine And.intro ?_ ?_|with_reducible refine kc ?_|((with_reducible first|refine kr ?_ ?_|refine kt ?_ ?_);exact rfl)|((with_reducible refine kf ?_ ?_);exact rfl)|simp only [go_sem,sevalprocAttr,reduceCtorEq,hgb,hb15,htkw,hcwf,hcw5,List.map_cons,List.map_nil]|simp (disch:=omega) only [wz]
    all_goals
     refine appendTo_path (t:=[48]) (p:=p) (by rw [hget0 rfl];rfl) (by omega) (by rw [hp0];rfl) (by rw [hpl0];decide) (by omega) fun q z X hz hX hq=> ?_
     have hq5:H5.length≤q:=by
      rcases hX with ⟨_,h⟩|h
      ·omega
      ·rw [h,List.length_append];omega
     rw [List.append_assoc] at hq ⊢
     have hcl:=hcall _ q z (Frm.app) hq5 hq hz
    repeat' first|with_reducible refine canW_n ?_|with_reducible refine canW_m (by decide) ?_|((with_reducible apply canW_p (by decide));focus (intro H;(simp only [go_sem,sevalprocAttr,reduceCtorEq,hgb,hb15,htkw,hcwf,hcw5,List.map_cons,List.map_nil]);exact rfl))|with_reducible refine memW_b ?_ ?_|with_reducible refine memW_s rfl ?_|with_reducible refine memW_r rfl ?_|with_reducible refine memW_e ?_|simp only [List.take_succ_cons,List.take_zero,List.drop_succ_cons,List.drop_zero]|omega|with_reducible refine And.intro ?_ ?_|with_reducible refine kc ?_|((with_reducible first|refine kr ?_ ?_|refine kt ?_ ?_);exact rfl)|((with_reducible refine kf ?_ ?_);exact rfl)|simp only [go_sem,sevalprocAttr,reduceCtorEq,hgb,hb15,htkw,hcwf,hcw5,List.map_cons,List.map_nil]|simp (disch:=omega) only [wz]
    all_goals
     refine AC.mono hcl ?_
     rintro res H7 hcd
     obtain ⟨S2,rfl,q2,q3,q4,q5,q6⟩:=hend res H7 hcd
    repeat' first|with_reducible refine canW_n ?_|with_reducible refine canW_m (by decide) ?_|((with_reducible apply canW_p (by decide));focus (intro H;(simp only [go_sem,sevalprocAttr,reduceCtorEq,List.map_cons,List.map_nil]);exact rfl))|with_reducible refine memW_b ?_ ?_|with_reducible refine memW_s rfl ?_|with_reducible refine memW_r rfl ?_|with_reducible refine memW_e ?_|simp only [List.take_succ_cons,List.take_zero,List.drop_succ_cons,List.drop_zero]|omega|with_reducible refine And.intro ?_ ?_|with_reducible refine kc ?_|((with_reducible first|refine kr ?_ ?_|refine kt ?_ ?_);exact rfl)|((with_reducible refine kf ?_ ?_);exact rfl)|simp only [go_sem,sevalprocAttr,reduceCtorEq,List.map_cons,List.map_nil]|simp (disch:=omega) only [wz]
    all_goals exact ⟨_,⟨S2,H7,q2,q3,q4,q5,q6,rfl⟩,Weak.env (by simp [envIn,lk_cons,wth_some])⟩
   ·have hk05:Kept H H5:=hk1.trans hk15
    have hi5:H5[i]? =some (.cells cs' k):=hk05 _ _ _ hi hown
    have hgi:∀X:AHeap,(H5++X)[i]? =some (.cells cs' k):=fun X=>by rw [hgetl (lt_of_get hi5)];exact hi5
    have hnews:=keys_cells hle hrow
    rw [keyC_len] at hle hcap ⊢
    rw [Nat.mul_one] at hle hnews
    have hstf:=strsC_flat p
    have hstl:=strsC_len p
    refine AWP.regionM 5 [0,1,3] [] (.both (.run [0,1,3]) (.step 1 (.both (.run [0,3]) (.run [3,0])))) (by kernel_rfl) (by decide) (by kernel_rfl) (by kernel_rfl) (by kernel_rfl) ?_
    repeat' first|with_reducible refine canW_n ?_|with_reducible refine canW_m (by decide) ?_|((with_reducible apply canW_p (by decide));focus (intro H;(simp only [go_sem,sevalprocAttr,reduceCtorEq,hgb,hb15,htkw,hcwf,hcw5,hi5,hgi,hle,hnews,hstf,hstl,List.map_cons,List.map_nil]);exact rfl))|with_reducible refine memW_b ?_ ?_|with_reducible refine memW_s rfl ?_|with_reducible refine memW_r rfl ?_|with_reducible refine memW_e ?_|simp only [List.take_succ_cons,List.take_zero,List.drop_succ_cons,List.drop_zero]|omega|with_reducible refine And.intro ?_ ?_|with_reducible refine kc ?_|((with_reducible first|refine kr ?_ ?_|refine kt ?_ ?_);exact rfl)|((with_reducible refine kf ?_ ?_);exact rfl)|simp only [go_sem,sevalprocAttr,reduceCtorEq,hgb,hb15,htkw,hcwf,hcw5,hi5,hgi,hle,hnews,hstf,hstl,List.map_cons,List.map_nil]|simp (disch:=omega) only [wz]
    all_goals
     refine appendTo_path (t:=[48]) (p:=p) (by rw [hget0 rfl];rfl) rfl rfl (by omega) (by omega) fun q z X hz hX hq=> ?_
     have hq5:H5.length≤q:=by
      rcases hX with ⟨_,h⟩|h
      ·omega
      ·rw [h,List.length_append];omega
     rw [List.append_assoc] at hq ⊢
     have hcl:=hcall _ q z (Frm.app) hq5 hq hz
    repeat' first|with_reducible refine canW_n ?_|with_reducible refine canW_m (by decide) ?_|((with_reducible apply canW_p (by decide));focus (intro H;(simp only [go_sem,sevalprocAttr,reduceCtorEq,hgb,hb15,htkw,hcwf,hcw5,hi5,hgi,hle,hnews,hstf,List.map_cons,List.map_nil]);exact rfl))|with_reducible refine memW_b ?_ ?_|with_reducible refine memW_s rfl ?_|with_reducible refine memW_r rfl ?_|with_reducible refine memW_e ?_|simp only [List.take_succ_cons,List.take_zero,List.drop_succ_cons,List.drop_zero]|omega|with_reducible refine And.intro ?_ ?_|with_reducible refine kc ?_|((with_reducible first|refine kr ?_ ?_|refine kt ?_ ?_);exact rfl)|((with_reducible refine kf ?_ ?_);exact rfl)|simp only [go_sem,sevalprocAttr,reduceCtorEq,hgb,hb15,htkw,hcwf,hcw5,hi5,hgi,hle,hnews,hstf,List.map_cons,List.map_nil]|simp (disch:=omega) only [wz]
    all_goals
     refine AC.mono hcl ?_
     rintro res H7 hcd
     obtain ⟨S2,rfl,q2,q3,q4,q5,q6⟩:=hend res H7 hcd
    repeat' first|with_reducible refine canW_n ?_|with_reducible refine canW_m (by decide) ?_|((with_reducible apply canW_p (by decide));focus (intro H;(simp only [go_sem,sevalprocAttr,reduceCtorEq,List.map_cons,List.map_nil]);exact rfl))|with_reducible refine memW_b ?_ ?_|with_reducible refine memW_s rfl ?_|with_reducible refine memW_r rfl ?_|with_reducible refine memW_e ?_|simp only [List.take_succ_cons,List.take_zero,List.drop_succ_cons,List.drop_zero]|omega|with_reducible refine And.intro ?_ ?_|with_reducible refine kc ?_|((with_reducible first|refine kr ?_ ?_|refine kt ?_ ?_);exact rfl)|((with_reducible refine kf ?_ ?_);exact rfl)|simp only [go_sem,sevalprocAttr,reduceCtorEq,List.map_cons,List.map_nil]|simp (disch:=omega) only [wz]
    all_goals exact ⟨_,⟨S2,H7,q2,q3,q4,q5,q6,rfl⟩,Weak.env (by simp [envIn,lk_cons,wth_some])⟩
  ·rintro st ⟨S2,H7,q2,q3,q4,q5,q6,rfl⟩
   have hrS:H.length+2∉SS:=fun h=>by have:=(hlo5 _ h).1;omega
   have haS:a0+1∉SS:=fun h=>by
    rcases hS5 _ h with e|h
    ·omega
    ·have:=(hS4 _ h).2;omega
   have hr7:H7[H.length+2]? =some (.cells [.int .i64 0,.int .i64 0,.string (bs []),.slice none 0 0,.slice none 0 0] ⟨27,0,true,0,none⟩):=by rw [q4 _ (by omega) hrS];exact hrb5
   have ha7:H7[a0+1]? =some (.cells cw ⟨27,0,true,0,none⟩):=by rw [q4 _ (by omega) haS];exact hb15
   have hrl7:=lt_of_get hr7
   have hF7:∀(G:AHeap) (o:AObj),H7.length≤G.length→ (∀ j,j<H.length→G[j]? =H7[j]?)→Frm [] H (G.set (H.length+2) o):=fun G o h1 h2=>by
    refine ⟨by rw [List.length_set];omega,fun j hj hn=> ?_⟩
    rw [List.getElem?_set_ne (by omega),h2 j hj,q4 j (by omega) (fun h=>by have:=(hlo5 j h).1;omega),hf35.2 j (by omega) (by simp),hH3,List.getElem?_set_ne (by omega),hf2.2 j (by omega) (by simp)]
    exact hf1.2 j hj (by simp)
   have g7:∀o:AObj,(H7.set (H.length+2) o)[H.length+2]? =some o:=fun o=>List.getElem?_set_self hrl7
   by_cases hR0:R.2=0
   ·rw [if_pos hR0]
    refine AWP.weak (Weak.fz S2 H7) ?_
    have hRv:=q5 hR0 S2 (fun s hs=>hs)
    have hl8:=fz_length S2 H7
    have hf8:=fz_get S2 H7
    have hk78:=fz_kept S2 H7
    obtain ⟨ka,ha8,_⟩:=fz_cells (S:=S2) ha7
    have hr8:(fz H7 S2)[H.length+2]? =some (.cells [.int .i64 0,.int .i64 0,.string (bs []),.slice none 0 0,.slice none 0 0] ⟨27,0,true,0,none⟩):=by
     rw [hf8,if_neg (fun h=>by have:=q6 _ h;omega)];exact hr7
    have hF8:∀j,j<H.length→(fz H7 S2)[j]? =H7[j]? :=fun j hj=>by rw [hf8,if_neg (fun h=>by have:=q6 _ h;omega)]
    generalize fz H7 S2=H8 at*
    have hT8:TabH H8:=(hG5.kept (q2.trans hk78)).tab
    unfold oneV at hRv
    unfold RdV at hRv
    obtain ⟨vk,vs,css,ew,hK8,hL8,_⟩:=hRv
    rw [hcw] at ew
    injection ew with _ ew
    injection ew with _ ew
    injection ew with _ ew
    injection ew with ew _
    subst ew
    obtain ⟨c,hc,hRc⟩:=hL8.at_ (j:=0) rfl
    obtain ⟨i,off,cap,cs',k',hsl,hcap,hi,hown,hesz,hle,htk⟩:=hK8.at_ hc
    injection hsl with e1 e2 e3
    injection e1 with e1
    injection e1 with e1 e4
    subst e1
    subst e4
    have hc5:=hRc.len
    have hcf:=RdV_flat hRc
    have hVc:=validR (hfin' hR0) hRc hT8
    have hcell:cw[3]? =some (.slice (some ⟨a0,0,none⟩) 1 1):=by rw [hcw];rfl
    have hne:(R.2 != 0)=false:=by simpa using hR0
    have hputc:=hzl c hc5
    have htkc:List.take 5 c=c:=List.take_of_length_le (by omega)
    have hrl8:=lt_of_get hr8
    have g8:∀o:AObj,(H8.set (H.length+2) o)[H.length+2]? =some o:=fun o=>List.getElem?_set_self hrl8
    simp only [Nat.zero_mul,Nat.zero_add,List.drop_zero] at htk hle
    repeat first|with_reducible refine kc ?_|((with_reducible first|refine kr ?_ ?_|refine kt ?_ ?_);exact rfl)|((with_reducible refine kf ?_ ?_);exact rfl)|with_reducible refine hVc.use ?_|simp only [go_sem,sevalprocAttr,reduceCtorEq,hne,ha8,hcell,hi,htk,hle]|simp (disch:=omega) only [wz]
    have hlc8:=lt_of_get ha8
    cases hval:R.1.valid with
    |true=>
     rw [if_pos rfl]
     repeat first|with_reducible refine kc ?_|((with_reducible first|refine kr ?_ ?_|refine kt ?_ ?_);exact rfl)|((with_reducible refine kf ?_ ?_);exact rfl)|simp only [go_sem,sevalprocAttr,reduceCtorEq,ha8,hcell,hi,htk,hle,hr8,hc5,hcf,htkc,hputc,hrl8,g8]|simp (disch:=omega) only [wz]
     exact ⟨_,_,.refl _ _ _,_,rfl,hF7 _ _ (by omega) hF8,hRc.kept (Kept.set hr8 rfl _)⟩
    |false=>
     rw [if_neg (by decide)]
     repeat first|with_reducible refine kc ?_|((with_reducible first|refine kr ?_ ?_|refine kt ?_ ?_);exact rfl)|((with_reducible refine kf ?_ ?_);exact rfl)|simp only [go_sem,sevalprocAttr,reduceCtorEq,hr8,hrl8,g8,putCells,List.set_cons_succ,List.set_cons_zero]|simp (disch:=omega) only [wz]
     exact ⟨_,_,.refl _ _ _,_,rfl,hF7 _ _ (by omega) hF8,RdV_zero _⟩
   ·rw [if_neg hR0]
    have hne:(R.2 != 0)=true:=by simpa using hR0
    repeat first|with_reducible refine kc ?_|((with_reducible first|refine kr ?_ ?_|refine kt ?_ ?_);exact rfl)|((with_reducible refine kf ?_ ?_);exact rfl)|simp only [go_sem,sevalprocAttr,reduceCtorEq,hne,hr7,hrl7,g7,putCells,List.set_cons_succ,List.set_cons_zero]|simp (disch:=omega) only [wz]
    exact ⟨_,_,.refl _ _ _,_,rfl,hF7 _ _ (Nat.le_refl _) (fun _ _=>rfl),RdV_zero _⟩
 ·rw [if_neg hvv]
  have g2:∀o:AObj,(H1.set (H.length+2) o)[H.length+2]? =some o:=fun o=>List.getElem?_set_self (by omega)
  have hbl:H.length+2<H1.length:=by omega
  by_cases h1:v.valid=true
  ·have h2:x.valid=false:=by
    cases hc:x.valid with
    |false=>rfl
    |true=>exact absurd ⟨h1,hc⟩ hvv
   rw [h1] at hV
   rw [h2] at hVx
   refine AC.enter Tryz.func23 rfl (by kernel_rfl) 46 rfl [.cell 6 27,.tmp 7] rfl (by simp) fun hsc B=> ?_
   repeat first|with_reducible refine kc ?_|((with_reducible first|refine kr ?_ ?_|refine kt ?_ ?_);exact rfl)|((with_reducible refine kf ?_ ?_);exact rfl)|simp only [go_sem,sevalprocAttr,reduceCtorEq,hfl,hr5,hflx,hr5x]|simp (disch:=omega) only [wz]
   rw [← hH1]
   repeat first|with_reducible refine kc ?_|((with_reducible first|refine kr ?_ ?_|refine kt ?_ ?_);exact rfl)|((with_reducible refine kf ?_ ?_);exact rfl)|with_reducible (first|refine hV.use ?_|refine hVx.use ?_)|simp only [go_sem,sevalprocAttr,reduceCtorEq,hb0,hb1,hb2,htk5,htk5x,hr5,hr5x,hbl,g2,putCells,List.set_cons_succ,List.set_cons_zero]|simp (disch:=omega) only [wz]
   exact ⟨_,_,.refl _ _ _,_,rfl,Frm.set hf1 (.inr (by omega)),RdV_zero _⟩
  ·have h1':v.valid=false:=by simpa using h1
   rw [h1'] at hV
   refine AC.enter Tryz.func23 rfl (by kernel_rfl) 46 rfl [.cell 6 27,.tmp 7] rfl (by simp) fun hsc B=> ?_
   repeat first|with_reducible refine kc ?_|((with_reducible first|refine kr ?_ ?_|refine kt ?_ ?_);exact rfl)|((with_reducible refine kf ?_ ?_);exact rfl)|simp only [go_sem,sevalprocAttr,reduceCtorEq,hfl,hr5,hflx,hr5x]|simp (disch:=omega) only [wz]
   rw [← hH1]
   repeat first|with_reducible refine kc ?_|((with_reducible first|refine kr ?_ ?_|refine kt ?_ ?_);exact rfl)|((with_reducible refine kf ?_ ?_);exact rfl)|with_reducible refine hV.use ?_|simp only [go_sem,sevalprocAttr,reduceCtorEq,hb0,hb1,hb2,htk5,htk5x,hr5,hr5x,hbl,g2,putCells,List.set_cons_succ,List.set_cons_zero]|simp (disch:=omega) only [wz]
   exact ⟨_,_,.refl _ _ _,_,rfl,Frm.set hf1 (.inr (by omega)),RdV_zero _⟩
end Go.Proofs.YthcdjconlfdidaaGreatDoor
