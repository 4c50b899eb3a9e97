/-
  A part of the proof of a statement of this seat.
-/
import Derived.Test.YthcdjconlfdidaaGreatDoorQSM
import Derived.Test.YthcdjconlfdidaaGreatDoorEJM
import Derived.Test.YthcdjconlfdidaaGreatDoorE2M
import Derived.Test.YthcdjconlfdidaaGreatDoorQT
import Derived.Test.YthcdjconlfdidaaGreatDoorQW
set_option linter.unusedVariables false
set_option linter.unusedSimpArgs false
set_option maxRecDepth 20000
set_option maxHeartbeats 4000000
namespace Go.Proofs.YthcdjconlfdidaaGreatDoor
open Go Go.Aw Go.Proofs
theorem valid_ok {v:BV} (hn:v.nums) (h:v.valid=true):OkV v:=by
 unfold BV.valid at h
 simp only [Bool.and_eq_true,decide_eq_true_eq] at h
 exact ⟨h.1.1.1,hn,h.1.1.2,h.2⟩
def RGI (H:AHeap) (path:List Tx) (R:BV×Int) (p:GLp):Prop:=
 p.j≤path.length∧p.Hc[H.length]? =some (.cells p.csw ⟨27,0,true,0,none⟩)∧p.Hc[H.length+1]? =some (.cells [.int .i64 0,.int .i64 0,.string (bs []),.slice none 0 0,.slice none 0 0] ⟨27,0,true,0,none⟩)∧
  Frm [] H p.Hc∧RdV p.Hc p.w p.csw∧OkV p.w∧goR p.w (path.drop p.j)=R
theorem rGet (v:BV) (path:List Tx) (hv:Fine v) (hc:v.count≤1099511627776) (hp:∀t∈path,t.length≤1099511627776) (hpl:path.length≤1099511627776) (H:AHeap) (cs:List Value) (hR:RdV H v cs) (vp:Value) (hP:RdK H 1 vp (keyC path)):
  AC Tryz.prog 41 [.agg ⟨cs⟩,vp] H (ParseP H (getR v path)):=by
 have hfl:=RdV_flat hR
 have hr5:=hR.len
 have htk5:List.take 5 cs=cs:=List.take_of_length_le (by omega)
 have hkl:(keyC path).length=path.length:=by unfold keyC;simp
 obtain ⟨H1,hH1⟩:∃H1:AHeap,H1=H++ [.cells cs ⟨27,0,true,0,none⟩,.cells [.int .i64 0,.int .i64 0,.string (bs []),.slice none 0 0,.slice none 0 0] ⟨27,0,true,0,none⟩]:=⟨_,rfl⟩
 have hb0:H1[H.length]? =some (.cells cs ⟨27,0,true,0,none⟩):=by rw [hH1,hget0 rfl];rfl
 have hb1:H1[H.length+1]? =some (.cells [.int .i64 0,.int .i64 0,.string (bs []),.slice none 0 0,.slice none 0 0] ⟨27,0,true,0,none⟩):=by rw [hH1,hgetk rfl];rfl
 have hl1:H1.length=H.length+2:=by rw [hH1];simp
 have hf1:Frm [] H H1:=by rw [hH1];exact Frm.app
 have hk1:Kept H H1:=by rw [hH1];exact .more _ _
 have hV:=rValid v hv hc H1 cs (hR.kept hk1)
 have hzl:∀cs':List Value,cs'.length=5→putCells [.int .i64 0,.int .i64 0,.string (bs []),.slice none 0 0,.slice none 0 0] 0 cs'=cs':=fun cs' h=>by
  match cs',h with
  |[_,_,_,_,_],_=>rfl
 have q1:∀H' K,lenW Tryz.prog 22 vp H' K=K (.int .i64 (path.length:Nat)) H':=fun H' K=>by rw [hP.lenT (by simp only [go_sem,sevalprocAttr,reduceCtorEq]),hkl]
 unfold getR
 refine AC.enter Tryz.func41 rfl (by kernel_rfl) 37 rfl [.cell 4 27,.tmp 5] rfl (by simp) fun hsc B=> ?_
 repeat first|with_reducible refine kc ?_|((with_reducible first|refine kr ?_ ?_|refine kt ?_ ?_);exact rfl)|((with_reducible refine kf ?_ ?_);exact rfl)|simp only [go_sem,sevalprocAttr,reduceCtorEq,hfl,hr5]|simp (disch:=omega) only [wz]
 rw [← hH1]
 repeat first|with_reducible refine kc ?_|((with_reducible first|refine kr ?_ ?_|refine kt ?_ ?_);exact rfl)|((with_reducible refine kf ?_ ?_);exact rfl)|simp only [go_sem,sevalprocAttr,reduceCtorEq,hb0,htk5,hr5]|simp (disch:=omega) only [wz]
 refine AC.mono hV ?_
 rintro res H2 ⟨rfl,hf2⟩
 have hb02:=hf2.get hb0 (by simp)
 have hb12:=hf2.get hb1 (by simp)
 have hf12:Frm [] H H2:=hf1.trans hf2 (fun x hx=>by cases hx)
 have hl2:=hf2.1
 have hbl2:=lt_of_get hb12
 cases hval:v.valid with
 |false=>
  rw [if_neg (by decide)]
  have g2:∀o:AObj,(H2.set (H.length+1) o)[H.length+1]? =some o:=fun o=>List.getElem?_set_self hbl2
  repeat first|with_reducible refine kc ?_|((with_reducible first|refine kr ?_ ?_|refine kt ?_ ?_);exact rfl)|((with_reducible refine kf ?_ ?_);exact rfl)|simp only [go_sem,sevalprocAttr,reduceCtorEq,hb12,hbl2,g2,putCells,List.set_cons_succ,List.set_cons_zero]|simp (disch:=omega) only [wz]
  exact ⟨_,_,.refl _ _ _,_,rfl,Frm.set hf12 (.inr (by omega)),RdV_zero _⟩
 | true=>
  rw [if_pos rfl]
  repeat first|with_reducible refine kc ?_|((with_reducible first|refine kr ?_ ?_|refine kt ?_ ?_);exact rfl)|((with_reducible refine kf ?_ ?_);exact rfl)|simp only [go_sem,sevalprocAttr,reduceCtorEq,q1]|simp (disch:=omega) only [wz]
  refine AWP.loopP (fun p:GLp=>⟨[(2,.pointer (some ⟨H.length,0,none⟩)),(4,.pointer (some ⟨H.length+1,0,none⟩)),(14,vp),(15,.int .i64 (path.length:Nat)),(16,.int .i64 (p.j:Nat))],[],p.Hc⟩)
   (RGI H path (goR v path)) (fun p=>path.length - p.j) ⟨0,v,cs,H2⟩ ?_ ⟨Nat.zero_le _,hb02,hb12,hf12,(hR.kept hk1).kept (Kept.frm hf2 (fun x hx=>by cases hx)),valid_ok hv.nums hval,rfl⟩ ?_
  ·exact Weak.env (by simp [envIn,lk_cons,wth_some])
  rintro ⟨j,w,csw,Hc⟩ ⟨hj,hb,hr,hf,hRw,hgood,hgo⟩
  dsimp only at hj hb hr hf hRw hgood hgo ⊢
  rw [← hgo]
  have hkc:Kept H Hc:=Kept.frm hf (fun x hx=>by cases hx)
  have hfw:=RdV_flat hRw
  have hw5:=hRw.len
  have htw:List.take 5 csw=csw:=List.take_of_length_le (by omega)
  have hbl:=lt_of_get hb
  have hrl:=lt_of_get hr
  have g2:∀o:AObj,(Hc.set (H.length+1) o)[H.length+1]? =some o:=fun o=>List.getElem?_set_self hrl
  by_cases hlt:j<path.length
  ·have hlt':(j:Int)<(path.length:Int):=by omega
   obtain ⟨bi,off,cap,cs',k',rfl,hcap,hbi,hown,hesz,hle,htk⟩:=(hP.kept hkc).at_ (keyC_at hlt)
   have hlt2:(j:Int)<((keyC path).length:Int):=by omega
   have hdrop:path.drop j=path[j]::path.drop (j+1):=List.drop_eq_getElem_cons hlt
   have hpj:=hp path[j] (List.getElem_mem hlt)
   have hwj:IntKind.i64.wrap ((j:Int)+1)=((j+1:Nat):Int):=by rw [wi64 (by omega)];omega
   rw [hdrop]
   generalize path[j]=t at*
   have hat2:cs'[off+j]? =some (.string (bs t)):=by
    have h1:=congrArg (fun l=>l[0]?) htk
    simpa using h1
   obtain ⟨k,n,s,kids,keys⟩:=w
   have hkdl:kids.length≤1000:=hgood.kids_le
   have hkyl:keys.length≤1000:=hgood.keys_le
   obtain ⟨z,hSt,hSp⟩:=rStep k n s kids keys hkdl (by omega) t hpj Hc csw hRw
   by_cases he:(stepR (.mk k n s kids keys) t).2=0
   ·obtain ⟨i,hi,hie⟩:=stepR_ok hgood.form he
    have hgr:goR (.mk k n s kids keys) (t::path.drop (j+1))=goR (kids.getD i .zero) (path.drop (j+1)):=by
     rw [goR,if_pos he,hie];rfl
    rw [hgr]
    have hz:=hSp.1 he
    rw [hie] at hz
    subst hz
    rw [he] at hSt
    dsimp only [BV.kids] at hi
    have hgk:kids.getD i .zero=kids[i]:=by rw [List.getD_eq_getElem?_getD,List.getElem?_eq_getElem hi];rfl
    rw [hgk]
    have hRw5:=hRw
    unfold RdV at hRw5
    obtain ⟨vk,vs,css,rfl,h1,hL,h3⟩:=hRw5
    obtain ⟨r6,hr6,hR6⟩:=hL.at_ (List.getElem?_eq_getElem hi)
    obtain ⟨bk,offk,capk,csk,kk,rfl,hcapk,hbk,hownk,heszk,hlek,htkk⟩:=h1.at_ hr6
    have hi2:(i:Int)<(css.length:Int):=by have:=hL.len;omega
    have hr65:=hR6.len
    have hfl6:=RdV_flat hR6
    have hput:putCells [.int .i64 k,.int .i64 n,.string (bs s),.slice (some ⟨bk,offk,none⟩) css.length capk,vs] 0 r6=r6:=by
     match r6,hr65 with
     |[_,_,_,_,_],_=>rfl
    have e00:((0:Int) != 0)=false:=rfl
    have hgood2:OkV kids[i]:=(hgood.kid (stepR_kind he) hi).1
    generalize kids[i]=w2 at*
    repeat first|with_reducible refine kc ?_|((with_reducible first|refine kr ?_ ?_|refine kt ?_ ?_);exact rfl)|((with_reducible refine kf ?_ ?_);exact rfl)|simp only [go_sem,sevalprocAttr,reduceCtorEq,hlt',hlt2,hbi,hat2,hb,hw5,htw]|simp (disch:=omega) only [wz]
    refine hSt.use ?_
    repeat first|with_reducible refine kc ?_|((with_reducible first|refine kr ?_ ?_|refine kt ?_ ?_);exact rfl)|((with_reducible refine kf ?_ ?_);exact rfl)|simp only [go_sem,sevalprocAttr,reduceCtorEq,hlt',hlt2,hbi,hat2,hw5,htw,e00,hb,hi2,hbk,hlek,htkk,hr65,hfl6,hput,hbl,hwj]|simp (disch:=omega) only [wz]
    refine ⟨⟨j+1,w2,r6,Hc.set H.length (.cells r6 ⟨27,0,true,0,none⟩)⟩,Weak.env (by simp [envIn,lk_cons,wth_some]),⟨hlt,?_,?_,?_,?_,hgood2,rfl⟩,by dsimp only;omega⟩
    ·exact List.getElem?_set_self hbl
    ·rw [List.getElem?_set_ne (by omega)];exact hr
    ·exact Frm.set hf (.inr (Nat.le_refl _))
    ·exact hR6.kept (Kept.set hb rfl _)
   ·have hgr:goR (.mk k n s kids keys) (t::path.drop (j+1))= (.zero,(stepR (.mk k n s kids keys) t).2):=by
     rw [goR,if_neg he]
    rw [hgr]
    have g5:∀o:AObj,(Hc.set (H.length+1) o)[H.length+1]? =some o:=fun o=>List.getElem?_set_self hrl
    obtain ⟨e,hee⟩:∃e,e=(stepR (.mk k n s kids keys) t).2:=⟨_,rfl⟩
    rw [← hee] at he hSt ⊢
    have he':(e != 0)=true:=by simpa using he
    repeat first|with_reducible refine kc ?_|((with_reducible first|refine kr ?_ ?_|refine kt ?_ ?_);exact rfl)|((with_reducible refine kf ?_ ?_);exact rfl)|simp only [go_sem,sevalprocAttr,reduceCtorEq,hlt',hlt2,hbi,hat2,hb,hw5,htw]|simp (disch:=omega) only [wz]
    refine hSt.use ?_
    repeat first|with_reducible refine kc ?_|((with_reducible first|refine kr ?_ ?_|refine kt ?_ ?_);exact rfl)|((with_reducible refine kf ?_ ?_);exact rfl)|simp only [go_sem,sevalprocAttr,reduceCtorEq,hlt',hlt2,hbi,hat2,hb,hw5,htw,he',Bool.not_false,Bool.not_true,hr,hrl,g5,putCells,List.set_cons_succ,List.set_cons_zero]|simp (disch:=omega) only [wz]
    exact ⟨_,_,.refl _ _ _,_,rfl,Frm.set hf (.inr (by omega)),RdV_zero _⟩
  ·have hlt':¬(j:Int)<(path.length:Int):=by omega
   have hdrop:path.drop j=[]:=List.drop_eq_nil_of_le (by omega)
   rw [hdrop]
   have hgr:goR w []=(w,0):=by rw [goR]
   rw [hgr]
   have hrz:putCells [.int .i64 0,.int .i64 0,.string (bs []),.slice none 0 0,.slice none 0 0] 0 csw=csw:=hzl _ hw5
   repeat first|with_reducible refine kc ?_|((with_reducible first|refine kr ?_ ?_|refine kt ?_ ?_);exact rfl)|((with_reducible refine kf ?_ ?_);exact rfl)|simp only [go_sem,sevalprocAttr,reduceCtorEq,hlt',hb,hw5,htw,hfw,hr,hrl,g2,hrz]|simp (disch:=omega) only [wz]
   exact ⟨_,_,.refl _ _ _,_,rfl,Frm.set hf (.inr (by omega)),hRw.kept (Kept.set hr rfl _)⟩
end Go.Proofs.YthcdjconlfdidaaGreatDoor

set_option linter.unusedVariables false
set_option linter.unusedSimpArgs false
set_option maxRecDepth 20000
set_option maxHeartbeats 4000000
namespace Go.Proofs.YthcdjconlfdidaaGreatDoor
open Go Go.Aw Go.Proofs
theorem put5 {c:List Value} (h:c.length=5):putCells [Value.int .i64 0,.int .i64 0,.string (bs []),.slice none 0 0,.slice none 0 0] 0 c=c:=putCells_all (by rw [h];rfl)
theorem rSet (v x:BV) (p:List Tx) (hv:Fine v) (hx:Fine x) (hvc:v.count≤1099511627776) (hxc:x.count≤1099511627776) (hfin:v.valid=true→x.valid=true→(putR x v p).2=0→Fine (putR x v p).1∧(putR x v p).1.count≤1099511627776) (hp:∀t∈p,t.length≤1099511627776) (hpl:p.length<1099511627776) (H:AHeap) (cs csx:List Value) (hR:RdV H v cs) (hRx:RdV H x csx) (vp:Value) (hP:RdK H 1 vp (keyC p)):
  AC Tryz.prog 24 [.agg ⟨cs⟩,vp,.agg ⟨csx⟩] H (ParseP H (setR v p x)):=by
 have hfl:=RdV_flat hR
 have hr5:=hR.len
 have hflx:=RdV_flat hRx
 have hr5x:=hRx.len
 have htk5:List.take 5 cs=cs:=List.take_of_length_le (by omega)
 have htk5x:List.take 5 csx=csx:=List.take_of_length_le (by omega)
 obtain ⟨H1,hH1⟩:∃H1:AHeap,H1=H++ [.cells cs ⟨27,0,true,0,none⟩,.cells csx ⟨27,0,true,0,none⟩,.cells [.int .i64 0,.int .i64 0,.string (bs []),.slice none 0 0,.slice none 0 0] ⟨27,0,true,0,none⟩]:=⟨_,rfl⟩
 have hb0:H1[H.length]? =some (.cells cs ⟨27,0,true,0,none⟩):=by rw [hH1,hget0 rfl];rfl
 have hb1:H1[H.length+1]? =some (.cells csx ⟨27,0,true,0,none⟩):=by rw [hH1,hgetk rfl];rfl
 have hb2:H1[H.length+2]? =some (.cells [.int .i64 0,.int .i64 0,.string (bs []),.slice none 0 0,.slice none 0 0] ⟨27,0,true,0,none⟩):=by rw [hH1,hgetk rfl];rfl
 have hl1:H1.length=H.length+3:=by rw [hH1];simp
 have hf1:Frm [] H H1:=by rw [hH1];exact Frm.app
 have hk1:Kept H H1:=by rw [hH1];exact .more _ _
 have hV:=rValid v hv hvc H1 cs (hR.kept hk1)
 unfold setR
 refine AC.enter Tryz.func24 rfl (by kernel_rfl) 37 rfl [.cell 6 27,.tmp 7] rfl (by simp) fun hsc B=> ?_
 repeat first|with_reducible refine kc ?_|((with_reducible first|refine kr ?_ ?_|refine kt ?_ ?_);exact rfl)|((with_reducible refine kf ?_ ?_);exact rfl)|simp only [go_sem,sevalprocAttr,reduceCtorEq,hfl,hr5,hflx,hr5x]|simp (disch:=omega) only [wz]
 rw [← hH1]
 repeat first|with_reducible refine kc ?_|((with_reducible first|refine kr ?_ ?_|refine kt ?_ ?_);exact rfl)|((with_reducible refine kf ?_ ?_);exact rfl)|simp only [go_sem,sevalprocAttr,reduceCtorEq,hb0,htk5,hr5]|simp (disch:=omega) only [wz]
 refine AC.mono hV ?_
 rintro res H2 ⟨rfl,hf2⟩
 have hb02:=hf2.get hb0 (by simp)
 have hb12:=hf2.get hb1 (by simp)
 have hb22:=hf2.get hb2 (by simp)
 have hf02:Frm [] H H2:=hf1.trans hf2 (fun x hx=>by cases hx)
 have hl2:=hf2.1
 have hbl2:=lt_of_get hb22
 cases hval:v.valid with
 |false=>
  rw [if_neg (by simp)]
  have g2:∀o:AObj,(H2.set (H.length+2) o)[H.length+2]? =some o:=fun o=>List.getElem?_set_self hbl2
  repeat first|with_reducible refine kc ?_|((with_reducible first|refine kr ?_ ?_|refine kt ?_ ?_);exact rfl)|((with_reducible refine kf ?_ ?_);exact rfl)|simp only [go_sem,sevalprocAttr,reduceCtorEq,hb22,hbl2,g2,putCells,List.set_cons_succ,List.set_cons_zero]|simp (disch:=omega) only [wz]
  exact ⟨_,_,.refl _ _ _,_,rfl,Frm.set hf02 (.inr (by omega)),RdV_zero _⟩
 | true=>
  have hVx:=rValid x hx hxc H2 csx (hRx.kept (Kept.frm hf02 (fun x hx=>by cases hx)))
  repeat first|with_reducible refine kc ?_|((with_reducible first|refine kr ?_ ?_|refine kt ?_ ?_);exact rfl)|((with_reducible refine kf ?_ ?_);exact rfl)|simp only [go_sem,sevalprocAttr,reduceCtorEq,hb12,htk5x,hr5x]|simp (disch:=omega) only [wz]
  refine AC.mono hVx ?_
  rintro res H3 ⟨rfl,hf3⟩
  have hb03:=hf3.get hb02 (by simp)
  have hb13:=hf3.get hb12 (by simp)
  have hb23:=hf3.get hb22 (by simp)
  have hf03:Frm [] H H3:=hf02.trans hf3 (fun x hx=>by cases hx)
  have hl3:=hf3.1
  have hbl3:=lt_of_get hb23
  cases hvalx:x.valid with
  |false=>
   rw [if_neg (by simp)]
   have g2:∀o:AObj,(H3.set (H.length+2) o)[H.length+2]? =some o:=fun o=>List.getElem?_set_self hbl3
   repeat first|with_reducible refine kc ?_|((with_reducible first|refine kr ?_ ?_|refine kt ?_ ?_);exact rfl)|((with_reducible refine kf ?_ ?_);exact rfl)|simp only [go_sem,sevalprocAttr,reduceCtorEq,hb23,hbl3,g2,putCells,List.set_cons_succ,List.set_cons_zero]|simp (disch:=omega) only [wz]
   exact ⟨_,_,.refl _ _ _,_,rfl,Frm.set hf03 (.inr (by omega)),RdV_zero _⟩
  | true=>
   rw [if_pos (by simp)]
   have hk3:Kept H H3:=Kept.frm hf03 (fun x hx=>by cases hx)
   have hPut:=rPut x p v (valid_ok hv.nums hval) hp (by omega) H3 cs csx vp (hR.kept hk3) (hRx.kept hk3) (hP.kept hk3)
   have hfin:=hfin hval hvalx
   generalize putR x v p=R at*
   repeat first|with_reducible refine kc ?_|((with_reducible first|refine kr ?_ ?_|refine kt ?_ ?_);exact rfl)|((with_reducible refine kf ?_ ?_);exact rfl)|simp only [go_sem,sevalprocAttr,reduceCtorEq,hb03,hb13,htk5,htk5x,hr5,hr5x]|simp (disch:=omega) only [wz]
   refine AC.mono hPut ?_
   rintro res H4 ⟨ck,rfl,hf4,hRk⟩
   have hck:=hRk.len
   have hckf:=RdV_flat hRk
   have htkk:List.take 5 ck=ck:=List.take_of_length_le (by omega)
   have hputk:=put5 hck
   have hb24:=hf4.get hb23 (by simp)
   have hf04:Frm [] H H4:=hf03.trans hf4 (fun x hx=>by cases hx)
   have hl4:=hf4.1
   have hrl4:=lt_of_get hb24
   have gr:∀X:AHeap,(H4++X)[H.length+2]? =some (.cells [.int .i64 0,.int .i64 0,.string (bs []),.slice none 0 0,.slice none 0 0] ⟨27,0,true,0,none⟩):=fun X=>by rw [hgetl hrl4];exact hb24
   have grl:∀X:AHeap,H.length+2<(H4++X).length:=fun X=>by rw [List.length_append];omega
   have gg:∀(X:AHeap) (o:AObj),((H4++X).set (H.length+2) o)[H.length+2]? =some o:=fun X o=>List.getElem?_set_self (grl X)
   have hfX:∀X:AHeap,Frm [] H (H4++X):=fun X=>hf04.more
   by_cases he:R.2=0
   ·rw [if_pos he,he]
    have e00:((0:Int) != 0)=false:=rfl
    have hfin:=hfin he
    obtain ⟨HX,hHX⟩:∃HX:AHeap,HX=H4++ [.cells ck ⟨27,0,true,0,none⟩]:=⟨_,rfl⟩
    have hk8:HX[H4.length]? =some (.cells ck ⟨27,0,true,0,none⟩):=by rw [hHX,hget0 rfl];rfl
    have hrX:HX[H.length+2]? =some (.cells [.int .i64 0,.int .i64 0,.string (bs []),.slice none 0 0,.slice none 0 0] ⟨27,0,true,0,none⟩):=by rw [hHX];exact gr _
    have hfX:Frm [] H HX:=by rw [hHX];exact hf04.more
    have hRX:RdV HX R.1 ck:=by rw [hHX];exact hRk.kept (.more _ _)
    have hVo:=rValid R.1 hfin.1 hfin.2 HX ck hRX
    repeat first|with_reducible refine kc ?_|((with_reducible first|refine kr ?_ ?_|refine kt ?_ ?_);exact rfl)|((with_reducible refine kf ?_ ?_);exact rfl)|simp only [go_sem,sevalprocAttr,reduceCtorEq,e00,hputk,hck,hckf]|simp (disch:=omega) only [wz]
    rw [← hHX]
    repeat first|with_reducible refine kc ?_|((with_reducible first|refine kr ?_ ?_|refine kt ?_ ?_);exact rfl)|((with_reducible refine kf ?_ ?_);exact rfl)|simp only [go_sem,sevalprocAttr,reduceCtorEq,hk8,htkk,hck]|simp (disch:=omega) only [wz]
    refine AC.mono hVo ?_
    rintro res H5 ⟨rfl,hf5⟩
    have hk85:=hf5.get hk8 (by simp)
    have hrX5:=hf5.get hrX (by simp)
    have hrl5:=lt_of_get hrX5
    have hf05:Frm [] H H5:=hfX.trans hf5 (fun x hx=>by cases hx)
    have g5:∀o:AObj,(H5.set (H.length+2) o)[H.length+2]? =some o:=fun o=>List.getElem?_set_self hrl5
    cases hvo:R.1.valid with
    |false=>
     rw [if_neg (by decide)]
     repeat first|with_reducible refine kc ?_|((with_reducible first|refine kr ?_ ?_|refine kt ?_ ?_);exact rfl)|((with_reducible refine kf ?_ ?_);exact rfl)|simp only [go_sem,sevalprocAttr,reduceCtorEq,hrX5,hrl5,g5,putCells,List.set_cons_succ,List.set_cons_zero]|simp (disch:=omega) only [wz]
     exact ⟨_,_,.refl _ _ _,_,rfl,Frm.set hf05 (.inr (by omega)),RdV_zero _⟩
    |true=>
     rw [if_pos rfl]
     repeat first|with_reducible refine kc ?_|((with_reducible first|refine kr ?_ ?_|refine kt ?_ ?_);exact rfl)|((with_reducible refine kf ?_ ?_);exact rfl)|simp only [go_sem,sevalprocAttr,reduceCtorEq,hk85,htkk,hckf,hck,hputk,hrX5,hrl5,g5]|simp (disch:=omega) only [wz]
     exact ⟨_,_,.refl _ _ _,_,rfl,Frm.set hf05 (.inr (by omega)),(hRX.kept (Kept.frm hf5 (fun x hx=>by cases hx))).kept (Kept.set hrX5 rfl _)⟩
   ·rw [if_neg he]
    obtain ⟨R1,e⟩:=R
    dsimp only at he ⊢
    have he0:(e != 0)=true:=by simpa using he
    repeat first|with_reducible refine kc ?_|((with_reducible first|refine kr ?_ ?_|refine kt ?_ ?_);exact rfl)|((with_reducible refine kf ?_ ?_);exact rfl)|simp only [go_sem,sevalprocAttr,reduceCtorEq,he0,hputk,hck,hckf,Bool.not_false,Bool.not_true,gr,grl,gg,putCells,List.set_cons_succ,List.set_cons_zero]|simp (disch:=omega) only [wz]
    exact ⟨_,_,.refl _ _ _,_,rfl,Frm.set (hfX _) (.inr (by omega)),RdV_zero _⟩
theorem rDropT (v:BV) (p:List Tx) (hv:Fine v) (hvc:v.count≤1099511627776) (hp:∀t∈p,t.length≤1099511627776) (hpl:p.length<1099511627776) (H:AHeap) (cs:List Value) (hR:RdV H v cs) (vp:Value) (hP:RdK H 1 vp (keyC p)):
  AC Tryz.prog 26 [.agg ⟨cs⟩,vp] H (ParseP H (dropR v p)):=by
 have hfl:=RdV_flat hR
 have hr5:=hR.len
 have htk5:List.take 5 cs=cs:=List.take_of_length_le (by omega)
 obtain ⟨H1,hH1⟩:∃H1:AHeap,H1=H++ [.cells cs ⟨27,0,true,0,none⟩,.cells [.int .i64 0,.int .i64 0,.string (bs []),.slice none 0 0,.slice none 0 0] ⟨27,0,true,0,none⟩]:=⟨_,rfl⟩
 have hb0:H1[H.length]? =some (.cells cs ⟨27,0,true,0,none⟩):=by rw [hH1,hget0 rfl];rfl
 have hb1:H1[H.length+1]? =some (.cells [.int .i64 0,.int .i64 0,.string (bs []),.slice none 0 0,.slice none 0 0] ⟨27,0,true,0,none⟩):=by rw [hH1,hgetk rfl];rfl
 have hl1:H1.length=H.length+2:=by rw [hH1];simp
 have hf1:Frm [] H H1:=by rw [hH1];exact Frm.app
 have hk1:Kept H H1:=by rw [hH1];exact .more _ _
 have hV:=rValid v hv hvc H1 cs (hR.kept hk1)
 have hkl:(keyC p).length=p.length:=by unfold keyC;simp
 have q1:∀H' K,lenW Tryz.prog 22 vp H' K=K (.int .i64 (p.length:Nat)) H':=fun H' K=>by rw [hP.lenT (by simp only [go_sem,sevalprocAttr,reduceCtorEq]),hkl]
 unfold dropR
 refine AC.enter Tryz.func26 rfl (by kernel_rfl) 29 rfl [.cell 4 27,.tmp 5] rfl (by simp) fun hsc B=> ?_
 repeat first|with_reducible refine kc ?_|((with_reducible first|refine kr ?_ ?_|refine kt ?_ ?_);exact rfl)|((with_reducible refine kf ?_ ?_);exact rfl)|simp only [go_sem,sevalprocAttr,reduceCtorEq,hfl,hr5]|simp (disch:=omega) only [wz]
 rw [← hH1]
 repeat first|with_reducible refine kc ?_|((with_reducible first|refine kr ?_ ?_|refine kt ?_ ?_);exact rfl)|((with_reducible refine kf ?_ ?_);exact rfl)|simp only [go_sem,sevalprocAttr,reduceCtorEq,hb0,htk5,hr5]|simp (disch:=omega) only [wz]
 refine AC.mono hV ?_
 rintro res H2 ⟨rfl,hf2⟩
 have hb02:=hf2.get hb0 (by simp)
 have hb12:=hf2.get hb1 (by simp)
 have hf02:Frm [] H H2:=hf1.trans hf2 (fun x hx=>by cases hx)
 have hl2:=hf2.1
 have hbl2:=lt_of_get hb12
 have g2:∀o:AObj,(H2.set (H.length+1) o)[H.length+1]? =some o:=fun o=>List.getElem?_set_self hbl2
 cases hval:v.valid with
 |false=>
  rw [if_neg (by simp)]
  repeat first|with_reducible refine kc ?_|((with_reducible first|refine kr ?_ ?_|refine kt ?_ ?_);exact rfl)|((with_reducible refine kf ?_ ?_);exact rfl)|simp only [go_sem,sevalprocAttr,reduceCtorEq,hb12,hbl2,g2,putCells,List.set_cons_succ,List.set_cons_zero]|simp (disch:=omega) only [wz]
  exact ⟨_,_,.refl _ _ _,_,rfl,Frm.set hf02 (.inr (by omega)),RdV_zero _⟩
 | true=>
  rw [if_pos rfl]
  by_cases hp0:p=[]
  ·rw [if_pos hp0]
   have hpz:p.length=0:=by rw [hp0];rfl
   rw [hpz] at q1
   have e00:(((0:Nat):Int)==0)=true:=rfl
   repeat first|with_reducible refine kc ?_|((with_reducible first|refine kr ?_ ?_|refine kt ?_ ?_);exact rfl)|((with_reducible refine kf ?_ ?_);exact rfl)|simp only [go_sem,sevalprocAttr,reduceCtorEq,q1,e00,hb12,hbl2,g2,putCells,List.set_cons_succ,List.set_cons_zero]|simp (disch:=omega) only [wz]
   exact ⟨_,_,.refl _ _ _,_,rfl,Frm.set hf02 (.inr (by omega)),RdV_zero _⟩
  ·rw [if_neg hp0]
   have hpl0:=List.length_pos_iff.2 hp0
   have hp0':((p.length:Int)==0)=false:=by rw [beq_eq_false_iff_ne];omega
   have hk2:Kept H H2:=Kept.frm hf02 (fun x hx=>by cases hx)
   have hDr:=rDrop p v (valid_ok hv.nums hval) hp (by omega) hp0 H2 cs vp (hR.kept hk2) (hP.kept hk2)
   generalize chR dropL v p=R at*
   repeat first|with_reducible refine kc ?_|((with_reducible first|refine kr ?_ ?_|refine kt ?_ ?_);exact rfl)|((with_reducible refine kf ?_ ?_);exact rfl)|simp only [go_sem,sevalprocAttr,reduceCtorEq,q1,hp0',hb02,htk5,hr5]|simp (disch:=omega) only [wz]
   refine AC.mono hDr ?_
   rintro res H4 ⟨ck,rfl,hf4,hRk⟩
   have hck:=hRk.len
   have hckf:=RdV_flat hRk
   have htkk:List.take 5 ck=ck:=List.take_of_length_le (by omega)
   have hputk:=put5 hck
   have hb14:=hf4.get hb12 (by simp)
   have hf04:Frm [] H H4:=hf02.trans hf4 (fun x hx=>by cases hx)
   have hl4:=hf4.1
   have hrl4:=lt_of_get hb14
   have gr:∀X:AHeap,(H4++X)[H.length+1]? =some (.cells [.int .i64 0,.int .i64 0,.string (bs []),.slice none 0 0,.slice none 0 0] ⟨27,0,true,0,none⟩):=fun X=>by rw [hgetl hrl4];exact hb14
   have grl:∀X:AHeap,H.length+1<(H4++X).length:=fun X=>by rw [List.length_append];omega
   have gg:∀(X:AHeap) (o:AObj),((H4++X).set (H.length+1) o)[H.length+1]? =some o:=fun X o=>List.getElem?_set_self (grl X)
   have hfX:∀X:AHeap,Frm [] H (H4++X):=fun X=>hf04.more
   obtain ⟨R1,e⟩:=R
   by_cases he:e=0
   ·subst he
    rw [if_pos rfl]
    have e00:((0:Int) != 0)=false:=rfl
    have hk8:∀o:AObj,(H4++[o])[H4.length]? =some o:=fun o=>by rw [hget0 rfl];rfl
    repeat first|with_reducible refine kc ?_|((with_reducible first|refine kr ?_ ?_|refine kt ?_ ?_);exact rfl)|((with_reducible refine kf ?_ ?_);exact rfl)|simp only [go_sem,sevalprocAttr,reduceCtorEq,e00,hputk,hck,hckf,hk8,htkk,gr,grl,gg]|simp (disch:=omega) only [wz]
    exact ⟨_,_,.refl _ _ _,_,rfl,Frm.set (hfX _) (.inr (by omega)),(hRk.kept (.more _ _)).kept (Kept.set (gr _) rfl _)⟩
   ·rw [if_neg he]
    have he0:(e != 0)=true:=by simpa using he
    repeat first|with_reducible refine kc ?_|((with_reducible first|refine kr ?_ ?_|refine kt ?_ ?_);exact rfl)|((with_reducible refine kf ?_ ?_);exact rfl)|simp only [go_sem,sevalprocAttr,reduceCtorEq,he0,hputk,hck,hckf,Bool.not_false,Bool.not_true,gr,grl,gg,putCells,List.set_cons_succ,List.set_cons_zero]|simp (disch:=omega) only [wz]
    exact ⟨_,_,.refl _ _ _,_,rfl,Frm.set (hfX _) (.inr (by omega)),RdV_zero _⟩
end Go.Proofs.YthcdjconlfdidaaGreatDoor
