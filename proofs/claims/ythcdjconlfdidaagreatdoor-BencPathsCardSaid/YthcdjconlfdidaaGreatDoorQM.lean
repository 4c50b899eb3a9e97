/-
 The walk of Drop.
-/
import Derived.Test.YthcdjconlfdidaaGreatDoorQJM
import Derived.Test.YthcdjconlfdidaaGreatDoorQL
set_option linter.unusedVariables false
set_option linter.unusedSimpArgs false
set_option maxRecDepth 20000
set_option maxHeartbeats 4000000
namespace Go.Proofs.YthcdjconlfdidaaGreatDoor
open Go Go.Aw Go.Proofs
def DropE (R:BV×Int) (a0 r:Nat) (lo:Nat) (H5:AHeap) (cw:List Value) (S:List Nat) (st:ASt):Prop:=
 ∃(S2:List Nat) (H7:AHeap),Kept H5 H7∧H5.length≤H7.length∧ (∀ j,j<H5.length→j∉S→H7[j]? =H5[j]?)∧(R.2=0→∀T,(∀ s∈S2,s∈T)→RdV (fz H7 T) (oneV R.1) cw)∧ (∀ s∈S2,lo≤s)∧
  st=⟨[(7,.int .i64 R.2),(6,.pointer (some ⟨a0+1,0,none⟩)),(5,.int .i64 0),(4,.pointer (some ⟨r,0,none⟩))],[],H7⟩
theorem dropW (v:BV) (p:List Tx) (hv:Fine v) (hp:∀t∈p,t.length≤1099511627776) (hpl:p.length<1099511627776) (H:AHeap) (hG:GlobB H) (cs:List Value) (hR:RdV H v cs) (vp:Value) (hP:RdK H 1 vp (keyC p)):
  AC Tryz.prog 25 [.agg ⟨cs⟩,vp] H (ParseP H (dropR v p)):=by
 have hfl:=RdV_flat hR
 have hr5:=hR.len
 have htk5:List.take 5 cs=cs:=List.take_of_length_le (by omega)
 obtain ⟨H1,hH1⟩:∃H1:AHeap,H1=H++ [.cells cs ⟨27,0,true,0,none⟩,.cells [.int .i64 0,.int .i64 0,.string (bs []),.slice none 0 0,.slice none 0 0] ⟨27,0,true,0,none⟩]:=⟨_,rfl⟩
 have hb0:H1[H.length]? =some (.cells cs ⟨27,0,true,0,none⟩):=by rw [hH1,hget0 rfl];rfl
 have hb2:H1[H.length+1]? =some (.cells [.int .i64 0,.int .i64 0,.string (bs []),.slice none 0 0,.slice none 0 0] ⟨27,0,true,0,none⟩):=by rw [hH1,hgetk rfl];rfl
 have hl1:H1.length=H.length+2:=by rw [hH1];simp
 have hf1:Frm [] H H1:=by rw [hH1];exact Frm.app
 have hk1:Kept H H1:=by rw [hH1];exact .more _ _
 have hG1:GlobB H1:=by rw [hH1];exact hG.more _
 have hV:=validR hv (hR.kept hk1) hG1.tab
 have hzl:∀cs':List Value,cs'.length=5→putCells [.int .i64 0,.int .i64 0,.string (bs []),.slice none 0 0,.slice none 0 0] 0 cs'=cs':=fun cs' h=>by
  match cs',h with
  |[_,_,_,_,_],_=>rfl
 have q1:∀H' K,lenW Tryz.prog 22 vp H' K=K (.int .i64 (p.length:Nat)) H':=fun H' K=>by rw [hP.lenT (by simp only [go_sem,sevalprocAttr,reduceCtorEq]),keyC_len]
 have g2:∀o:AObj,(H1.set (H.length+1) o)[H.length+1]? =some o:=fun o=>List.getElem?_set_self (by omega)
 have hbl:H.length+1<H1.length:=by omega
 unfold dropR
 by_cases hv1:v.valid=true
 ·rw [if_pos hv1]
  rw [hv1] at hV
  by_cases hp0:p=[]
  ·rw [if_pos hp0]
   have hpl0:((p.length:Int)==0)=true:=by rw [hp0];rfl
   refine AC.enter Tryz.func25 rfl (by kernel_rfl) 35 rfl [.cell 4 27,.tmp 5] rfl (by simp) fun hsc B=> ?_
   repeat first|with_reducible refine kc ?_|((with_reducible first|refine kr ?_ ?_|refine kt ?_ ?_);exact rfl)|((with_reducible refine kf ?_ ?_);exact rfl)|simp only [go_sem,sevalprocAttr,reduceCtorEq,hfl,hr5]|simp (disch:=omega) only [wz]
   rw [← hH1]
   repeat first|with_reducible refine kc ?_|((with_reducible first|refine kr ?_ ?_|refine kt ?_ ?_);exact rfl)|((with_reducible refine kf ?_ ?_);exact rfl)|with_reducible refine hV.use ?_|simp only [go_sem,sevalprocAttr,reduceCtorEq,hb0,htk5,hr5,q1,hpl0,hb2,hbl,g2,putCells,List.set_cons_succ,List.set_cons_zero]|simp (disch:=omega) only [wz]
   exact ⟨_,_,.refl _ _ _,_,rfl,Frm.set hf1 (.inr (by omega)),RdV_zero _⟩
  rw [if_neg hp0]
  have hpl1:0<p.length:=List.length_pos_iff.2 hp0
  have hpl0:((p.length:Int)==0)=false:=by rw [beq_eq_false_iff_ne];omega
  have hgv:Good v:=⟨hv.sz,valid_form hv1⟩
  have hC:=copiedO false v hv.sz H1 cs (hR.kept hk1)
  refine AC.enter Tryz.func25 rfl (by kernel_rfl) 35 rfl [.cell 4 27,.tmp 5] rfl (by simp) fun hsc B=> ?_
  repeat first|with_reducible refine kc ?_|((with_reducible first|refine kr ?_ ?_|refine kt ?_ ?_);exact rfl)|((with_reducible refine kf ?_ ?_);exact rfl)|simp only [go_sem,sevalprocAttr,reduceCtorEq,hfl,hr5]|simp (disch:=omega) only [wz]
  rw [← hH1]
  repeat first|with_reducible refine kc ?_|((with_reducible first|refine kr ?_ ?_|refine kt ?_ ?_);exact rfl)|((with_reducible refine kf ?_ ?_);exact rfl)|with_reducible refine hV.use ?_|simp only [go_sem,sevalprocAttr,reduceCtorEq,hb0,htk5,hr5,q1,hpl0]|simp (disch:=omega) only [wz]
  refine AC.mono hC ?_
  rintro res H4 ⟨cv,S,rfl,hf4,hO4,hnd4,hS4⟩
  have hcv5:=hO4.len
  have hcvf:=hO4.flat
  have htkv:List.take 5 cv=cv:=List.take_of_length_le (by omega)
  have hputv:=hzl cv hcv5
  have hl4:=hf4.1
  obtain ⟨a0,ha0⟩:∃a0,a0=H4.length:=⟨_,rfl⟩
  obtain ⟨cw,hcw⟩:∃cw:List Value,cw= [.int .i64 3,.int .i64 0,.string (bs []),.slice (some ⟨a0,0,none⟩) 1 1,.slice none 0 0]:=⟨_,rfl⟩
  obtain ⟨H5,hH5⟩:∃H5:AHeap,H5=H4++ [.cells cv ⟨27,0,true,0,none⟩,.cells cw ⟨27,0,true,0,none⟩]:=⟨_,rfl⟩
  have hb05:H5[a0]? =some (.cells cv ⟨27,0,true,0,none⟩):=by rw [hH5,ha0,hget0 rfl];rfl
  have hb15:H5[a0+1]? =some (.cells cw ⟨27,0,true,0,none⟩):=by rw [hH5,ha0,hgetk rfl];rfl
  have hl5:H5.length=H4.length+2:=by rw [hH5];simp
  have hf45:Frm [] H4 H5:=by rw [hH5];exact Frm.app
  have hf15:Frm [] H1 H5:=hf4.trans hf45 (fun x hx=>by cases hx)
  have hk45:Kept H4 H5:=Kept.frm hf45 (fun x hx=>by cases hx)
  have hk15:Kept H1 H5:=Kept.frm hf15 (fun x hx=>by cases hx)
  have hrb5:H5[H.length+1]? =some (.cells [.int .i64 0,.int .i64 0,.string (bs []),.slice none 0 0,.slice none 0 0] ⟨27,0,true,0,none⟩):=hf15.get hb2 (by simp)
  have hG5:GlobB H5:=hG1.kept hk15
  obtain ⟨SS,hSS⟩:∃SS,SS=a0::([]++(S++[])):=⟨_,rfl⟩
  have hO5:OwnV false H5 (oneV v) cw SS:=by
   rw [hSS]
   unfold oneV
   unfold OwnV
   refine ⟨.slice none 0 0,a0,[cv],[],S++[],hcw,by rw [hb05];simp,.inl ⟨rfl,rfl,rfl⟩,?_,rfl⟩
   unfold OwnL
   refine ⟨cv,[],S,[],rfl,hO4.same hk45 (fun s hs=>hf45.2 s (hS4 s hs).2 (by simp)),?_,rfl⟩
   unfold OwnL
   exact ⟨rfl,rfl⟩
  have hS5:∀s∈SS,s=a0∨s∈S:=fun s hs=>by rw [hSS] at hs;simpa using hs
  have hnd5:SS.Nodup:=by
   rw [hSS,List.nil_append,List.append_nil,List.nodup_cons]
   exact ⟨fun h=>by have:=(hS4 a0 h).2;omega,hnd4⟩
  have hlo5:∀s∈SS,H.length+2≤s∧s<H5.length:=fun s hs=>by
   rcases hS5 s hs with rfl|h
   ·omega
   ·have:=hS4 s h;omega
  obtain ⟨R,hRe⟩:∃R,R=chR dropL v p:=⟨_,rfl⟩
  have hcall:∀(H6:AHeap) (q z:Nat),Frm [] H5 H6→H5.length≤q→H6[q]? =some (.cells (strsC ([48]::p)) ⟨9,z,true,0,none⟩)→(z=1∨z=0)→
    AC Tryz.prog 42 [.agg ⟨cw⟩,.slice (some ⟨q,0,none⟩) (p.length+1) (p.length+1),.func (.func 46) ⟨[]⟩ ⟨[]⟩] H6 (CdP (oneV R.1,R.2) True H5 cw SS):=fun H6 q z h1 h2 h3 h4=>by
   refine (changed_p (drop1 (H.length+2)) p [48] (oneV v) H5 cw _ hG5 hgv.one hO5 hnd5 (fun s hs=>(hlo5 s hs).1) (fun s hs=>(hlo5 s hs).2) (by omega) (fun u hu=> ?_) (by omega) H6 q z h1 h2 h3 h4).mono ?_
   ·rcases List.mem_cons.1 hu with rfl|h
    ·decide
    ·exact hp u h
   ·rintro r H7 ⟨S2,rfl,q1,q2,q3,q4,q5⟩
    rw [one_drop _ _ hp0,←hRe] at q5 ⊢
    refine ⟨S2,rfl,q1,q2,q3,q4,fun _=>q5 ?_⟩
    unfold stayP
    cases p with
    |nil=>exact absurd rfl hp0
    |cons u p=>trivial
  rw [← hRe]
  have hcwf:cw.all flat=true:=by rw [hcw];rfl
  have hcw5:cw.length=5:=by rw [hcw];rfl
  have htkw:List.take 5 cw=cw:=List.take_of_length_le (by omega)
  clear hRe hSS
  have hgb:∀X:AHeap,(H5++X)[a0+1]? =some (.cells cw ⟨27,0,true,0,none⟩):=fun X=>by rw [hgetl (lt_of_get hb15)];exact hb15
  repeat first|with_reducible refine AWP.seqE (x:= .region 6 _ _) (DropE R a0 (H.length+1) (H.length+2) H5 cw SS) ?_ ?_|with_reducible refine kc ?_|((with_reducible first|refine kr ?_ ?_|refine kt ?_ ?_);exact rfl)|((with_reducible refine kf ?_ ?_);exact rfl)|simp only [go_sem,sevalprocAttr,reduceCtorEq,hcvf,hcv5,htkv,hputv]|simp (disch:=omega) only [wz]
  ·rw [← ha0,←hcw,←hH5]
   have hend:∀(res:ARes) (H7:AHeap),CdP (oneV R.1,R.2) True H5 cw SS res H7→∃S2:List Nat,res= .ret (.int .i64 R.2)∧Kept H5 H7∧H5.length≤H7.length∧ (∀ j,j<H5.length→j∉SS→H7[j]? =H5[j]?)∧(R.2=0→∀T,(∀ s∈S2,s∈T)→RdV (fz H7 T) (oneV R.1) cw)∧ (∀ s∈S2,H.length+2≤s):=by
    rintro res H7 ⟨S2,rfl,q1,q2,q3,q4,q5⟩
    refine ⟨S2,rfl,q2,q3,q4,q5 trivial,fun s hs=> ?_⟩
    rcases q1 s hs with h|h
    ·exact (hlo5 s h).1
    ·omega
   rcases hP with ⟨rfl,hnil⟩|⟨i,off,cap,cs',k,rfl,hcap,hi,hown,hesz,hle,hrow⟩
   ·have:=congrArg List.length hnil
    rw [keyC_len] at this
    exact absurd (List.eq_nil_of_length_eq_zero this) hp0
   ·have hk05:Kept H H5:=hk1.trans hk15
    have hi5:H5[i]? =some (.cells cs' k):=hk05 _ _ _ hi hown
    have hgi:∀X:AHeap,(H5++X)[i]? =some (.cells cs' k):=fun X=>by rw [hgetl (lt_of_get hi5)];exact hi5
    have hnews:=keys_cells hle hrow
    rw [keyC_len] at hle hcap ⊢
    rw [Nat.mul_one] at hle hnews
    have hstf:=strsC_flat p
    have hstl:=strsC_len p
    refine AWP.regionM 4 [0,1,3] [] (.both (.run [0,1,3]) (.step 1 (.both (.run [0,3]) (.run [3,0])))) (by kernel_rfl) (by decide) (by kernel_rfl) (by kernel_rfl) (by kernel_rfl) ?_
    repeat' first|with_reducible refine canW_n ?_|with_reducible refine canW_m (by decide) ?_|((with_reducible apply canW_p (by decide));focus (intro H;(simp only [go_sem,sevalprocAttr,reduceCtorEq,hgb,hb15,htkw,hcwf,hcw5,hi5,hgi,hle,hnews,hstf,hstl,List.map_cons,List.map_nil]);exact rfl))|with_reducible refine memW_b ?_ ?_|with_reducible refine memW_s rfl ?_|with_reducible refine memW_r rfl ?_|with_reducible refine memW_e ?_|simp only [List.take_succ_cons,List.take_zero,List.drop_succ_cons,List.drop_zero]|omega|with_reducible refine And.intro ?_ ?_|with_reducible refine kc ?_|((with_reducible first|refine kr ?_ ?_|refine kt ?_ ?_);exact rfl)|((with_reducible refine kf ?_ ?_);exact rfl)|simp only [go_sem,sevalprocAttr,reduceCtorEq,hgb,hb15,htkw,hcwf,hcw5,hi5,hgi,hle,hnews,hstf,hstl,List.map_cons,List.map_nil]|simp (disch:=omega) only [wz]
    all_goals
     refine appendTo_path (t:=[48]) (p:=p) (by rw [hget0 rfl];rfl) rfl rfl (by omega) (by omega) fun q z X hz hX hq=> ?_
     have hq5:H5.length≤q:=by
      rcases hX with ⟨_,h⟩|h
      ·omega
      ·rw [h,List.length_append];omega
     rw [List.append_assoc] at hq ⊢
     have hcl:=hcall _ q z (Frm.app) hq5 hq hz
    repeat' first|with_reducible refine canW_n ?_|with_reducible refine canW_m (by decide) ?_|((with_reducible apply canW_p (by decide));focus (intro H;(simp only [go_sem,sevalprocAttr,reduceCtorEq,hgb,hb15,htkw,hcwf,hcw5,List.map_cons,List.map_nil]);exact rfl))|with_reducible refine memW_b ?_ ?_|with_reducible refine memW_s rfl ?_|with_reducible refine memW_r rfl ?_|with_reducible refine memW_e ?_|simp only [List.take_succ_cons,List.take_zero,List.drop_succ_cons,List.drop_zero]|omega|with_reducible refine And.intro ?_ ?_|with_reducible refine kc ?_|((with_reducible first|refine kr ?_ ?_|refine kt ?_ ?_);exact rfl)|((with_reducible refine kf ?_ ?_);exact rfl)|simp only [go_sem,sevalprocAttr,reduceCtorEq,hgb,hb15,htkw,hcwf,hcw5,List.map_cons,List.map_nil]|simp (disch:=omega) only [wz]
    all_goals
     refine AC.mono hcl ?_
     rintro res H7 hcd
     obtain ⟨S2,rfl,q2,q3,q4,q5,q6⟩:=hend res H7 hcd
    repeat' first|with_reducible refine canW_n ?_|with_reducible refine canW_m (by decide) ?_|((with_reducible apply canW_p (by decide));focus (intro H;(simp only [go_sem,sevalprocAttr,reduceCtorEq,List.map_cons,List.map_nil]);exact rfl))|with_reducible refine memW_b ?_ ?_|with_reducible refine memW_s rfl ?_|with_reducible refine memW_r rfl ?_|with_reducible refine memW_e ?_|simp only [List.take_succ_cons,List.take_zero,List.drop_succ_cons,List.drop_zero]|omega|with_reducible refine And.intro ?_ ?_|with_reducible refine kc ?_|((with_reducible first|refine kr ?_ ?_|refine kt ?_ ?_);exact rfl)|((with_reducible refine kf ?_ ?_);exact rfl)|simp only [go_sem,sevalprocAttr,reduceCtorEq,List.map_cons,List.map_nil]|simp (disch:=omega) only [wz]
    all_goals exact ⟨_,⟨S2,H7,q2,q3,q4,q5,q6,rfl⟩,Weak.env (by simp [envIn,lk_cons,wth_some])⟩
  ·rintro st ⟨S2,H7,q2,q3,q4,q5,q6,rfl⟩
   have hrS:H.length+1∉SS:=fun h=>by have:=(hlo5 _ h).1;omega
   have haS:a0+1∉SS:=fun h=>by
    rcases hS5 _ h with e|h
    ·omega
    ·have:=(hS4 _ h).2;omega
   have hr7:H7[H.length+1]? =some (.cells [.int .i64 0,.int .i64 0,.string (bs []),.slice none 0 0,.slice none 0 0] ⟨27,0,true,0,none⟩):=by rw [q4 _ (by omega) hrS];exact hrb5
   have ha7:H7[a0+1]? =some (.cells cw ⟨27,0,true,0,none⟩):=by rw [q4 _ (by omega) haS];exact hb15
   have hrl7:=lt_of_get hr7
   have hF7:∀(G:AHeap) (o:AObj),H7.length≤G.length→ (∀ j,j<H.length→G[j]? =H7[j]?)→Frm [] H (G.set (H.length+1) o):=fun G o h1 h2=>by
    refine ⟨by rw [List.length_set];omega,fun j hj hn=> ?_⟩
    rw [List.getElem?_set_ne (by omega),h2 j hj,q4 j (by omega) (fun h=>by have:=(hlo5 j h).1;omega),hf15.2 j (by omega) (by simp)]
    exact hf1.2 j hj (by simp)
   have g7:∀o:AObj,(H7.set (H.length+1) o)[H.length+1]? =some o:=fun o=>List.getElem?_set_self hrl7
   by_cases hR0:R.2=0
   ·rw [if_pos hR0]
    refine AWP.weak (Weak.fz S2 H7) ?_
    have hRv:=q5 hR0 S2 (fun s hs=>hs)
    have hl8:=fz_length S2 H7
    have hf8:=fz_get S2 H7
    have hk78:=fz_kept S2 H7
    obtain ⟨ka,ha8,_⟩:=fz_cells (S:=S2) ha7
    have hr8:(fz H7 S2)[H.length+1]? =some (.cells [.int .i64 0,.int .i64 0,.string (bs []),.slice none 0 0,.slice none 0 0] ⟨27,0,true,0,none⟩):=by
     rw [hf8,if_neg (fun h=>by have:=q6 _ h;omega)];exact hr7
    have hF8:∀j,j<H.length→(fz H7 S2)[j]? =H7[j]? :=fun j hj=>by rw [hf8,if_neg (fun h=>by have:=q6 _ h;omega)]
    generalize fz H7 S2=H8 at*
    unfold oneV at hRv
    unfold RdV at hRv
    obtain ⟨vk,vs,css,ew,hK8,hL8,_⟩:=hRv
    rw [hcw] at ew
    injection ew with _ ew
    injection ew with _ ew
    injection ew with _ ew
    injection ew with ew _
    subst ew
    obtain ⟨c,hc,hRc⟩:=hL8.at_ (j:=0) rfl
    obtain ⟨i,off,cap,cs',k',hsl,hcap,hi,hown,hesz,hle,htk⟩:=hK8.at_ hc
    injection hsl with e1 e2 e3
    injection e1 with e1
    injection e1 with e1 e4
    subst e1
    subst e4
    have hc5:=hRc.len
    have hcf:=RdV_flat hRc
    have hcell:cw[3]? =some (.slice (some ⟨a0,0,none⟩) 1 1):=by rw [hcw];rfl
    have hne:(R.2 != 0)=false:=by simpa using hR0
    have hputc:=hzl c hc5
    have htkc:List.take 5 c=c:=List.take_of_length_le (by omega)
    have hrl8:=lt_of_get hr8
    have g8:∀o:AObj,(H8.set (H.length+1) o)[H.length+1]? =some o:=fun o=>List.getElem?_set_self hrl8
    simp only [Nat.zero_mul,Nat.zero_add,List.drop_zero] at htk hle
    repeat first|with_reducible refine kc ?_|((with_reducible first|refine kr ?_ ?_|refine kt ?_ ?_);exact rfl)|((with_reducible refine kf ?_ ?_);exact rfl)|simp only [go_sem,sevalprocAttr,reduceCtorEq,hne,ha8,hcell,hi,htk,hle,hr8,hc5,hcf,htkc,hputc,hrl8,g8]|simp (disch:=omega) only [wz]
    exact ⟨_,_,.refl _ _ _,_,rfl,hF7 _ _ (by omega) hF8,hRc.kept (Kept.set hr8 rfl _)⟩
   ·rw [if_neg hR0]
    have hne:(R.2 != 0)=true:=by simpa using hR0
    repeat first|with_reducible refine kc ?_|((with_reducible first|refine kr ?_ ?_|refine kt ?_ ?_);exact rfl)|((with_reducible refine kf ?_ ?_);exact rfl)|simp only [go_sem,sevalprocAttr,reduceCtorEq,hne,hr7,hrl7,g7,putCells,List.set_cons_succ,List.set_cons_zero]|simp (disch:=omega) only [wz]
    exact ⟨_,_,.refl _ _ _,_,rfl,hF7 _ _ (Nat.le_refl _) (fun _ _=>rfl),RdV_zero _⟩
 ·rw [if_neg hv1]
  have h1':v.valid=false:=by simpa using hv1
  rw [h1'] at hV
  refine AC.enter Tryz.func25 rfl (by kernel_rfl) 35 rfl [.cell 4 27,.tmp 5] rfl (by simp) fun hsc B=> ?_
  repeat first|with_reducible refine kc ?_|((with_reducible first|refine kr ?_ ?_|refine kt ?_ ?_);exact rfl)|((with_reducible refine kf ?_ ?_);exact rfl)|simp only [go_sem,sevalprocAttr,reduceCtorEq,hfl,hr5]|simp (disch:=omega) only [wz]
  rw [← hH1]
  repeat first|with_reducible refine kc ?_|((with_reducible first|refine kr ?_ ?_|refine kt ?_ ?_);exact rfl)|((with_reducible refine kf ?_ ?_);exact rfl)|with_reducible refine hV.use ?_|simp only [go_sem,sevalprocAttr,reduceCtorEq,hb0,hb2,htk5,hr5,hbl,g2,putCells,List.set_cons_succ,List.set_cons_zero]|simp (disch:=omega) only [wz]
  exact ⟨_,_,.refl _ _ _,_,rfl,Frm.set hf1 (.inr (by omega)),RdV_zero _⟩
end Go.Proofs.YthcdjconlfdidaaGreatDoor
