/-
  A part of the proof of a statement of this seat.
-/
import Derived.Test.YthcdjconlfdidaaGreatDoorE3
import Derived.Test.YthcdjconlfdidaaGreatDoorE2
set_option linter.unusedVariables false
set_option linter.unusedSimpArgs false
set_option maxRecDepth 20000
set_option maxHeartbeats 4000000
namespace Go.Proofs.YthcdjconlfdidaaGreatDoor
open Go Go.Aw Go.Proofs
def goR:BV→List Tx→BV×Int
 |v,[]=>(v,0)
 |v,t::p=>if (stepR v t).2=0 then goR (v.kids.getD (stepR v t).1.toNat .zero) p else (.zero,(stepR v t).2)
def getR (v:BV) (path:List Tx):BV×Int:=if v.valid=true then goR v path else (.zero,1)
theorem form_asc {n:Int} {s:List UInt8} {kids:List BV} {keys:List Tx} {k:Int} (h:(BV.mk k n s kids keys).form=true) (hk:k=4):BV.asc keys=true∧keys.length=kids.length:=by
 subst hk
 rw [form_shape,Bool.and_eq_true] at h
 have h1:=h.1
 unfold shapeB at h1
 dsimp only at h1
 rw [if_neg (by decide),if_neg (by decide),if_neg (by decide),if_pos rfl] at h1
 unfold dictB at h1
 simp only [Bool.and_eq_true,beq_iff_eq] at h1
 refine ⟨?_,h1.1.1.2⟩
 rw [asc_iff,h1.1.2,h1.2]
 simp
theorem stepR_ok {v:BV} {t:Tx} (hf:v.form=true) (h:(stepR v t).2=0):∃i,i<v.kids.length∧(stepR v t).1=(i:Int):=by
 obtain ⟨k,n,s,kids,keys⟩:=v
 unfold stepR at h ⊢
 by_cases h4:k=4
 ·have h4':(BV.mk k n s kids keys).kind=4:=h4
  rw [if_pos h4'] at h ⊢
  cases hk:kAt (BV.mk k n s kids keys).keys t with
  |none=>rw [hk] at h;cases h
  |some i=>
   unfold kAt at hk
   rw [List.findIdx?_eq_some_iff_getElem] at hk
   obtain ⟨hi,_⟩:=hk
   have:=(form_asc hf h4).2
   exact ⟨i,by show i<kids.length;rw [← this];exact hi,rfl⟩
 ·have h4':¬(BV.mk k n s kids keys).kind=4:=h4
  rw [if_neg h4'] at h ⊢
  by_cases h3:k=3
  ·have h3':(BV.mk k n s kids keys).kind=3:=h3
   rw [if_pos h3'] at h ⊢
   cases hk:nAt (BV.mk k n s kids keys).kids.length t with
   |none=>rw [hk] at h;cases h
   |some i=>
    unfold nAt at hk
    exact ⟨i,List.mem_range.1 (List.mem_of_find?_eq_some hk),rfl⟩
  ·have h3':¬(BV.mk k n s kids keys).kind=3:=h3
   rw [if_neg h3'] at h
   cases h
structure Good (v:BV):Prop where
 sz:szV v
 form:v.form=true
theorem Good.kid {v c:BV} (h:Good v) (hc:c∈v.kids):Good c:=by
 obtain ⟨k,n,s,kids,keys⟩:=v
 obtain ⟨h1,h2⟩:=h
 unfold szV at h1
 rw [form_shape,Bool.and_eq_true] at h2
 exact ⟨szL_iff.1 h1.2.2 c hc,BV.formL_iff.1 h2.2 c hc⟩
structure GLp where
 j:Nat
 w:BV
 csw:List Value
 Hc:AHeap
def GLI (H:AHeap) (path:List Tx) (R:BV×Int) (p:GLp):Prop:=
 p.j≤path.length∧p.Hc[H.length]? =some (.cells p.csw ⟨27,0,true,0,none⟩)∧p.Hc[H.length+1]? =some (.cells [.int .i64 0,.int .i64 0,.string (bs []),.slice none 0 0,.slice none 0 0] ⟨27,0,true,0,none⟩)∧
  Frm [] H p.Hc∧RdV p.Hc p.w p.csw∧Good p.w∧goR p.w (path.drop p.j)=R
theorem getW (v:BV) (path:List Tx) (hv:Fine v) (hp:∀t∈path,t.length≤1099511627776) (hpl:path.length≤1099511627776) (H:AHeap) (hG:GlobB H) (cs:List Value) (hR:RdV H v cs) (vp:Value) (hP:RdK H 1 vp (keyC path)):
  AC Tryz.prog 21 [.agg ⟨cs⟩,vp] H (ParseP H (getR v path)):=by
 have hfl:=RdV_flat hR
 have hr5:=hR.len
 have htk5:List.take 5 cs=cs:=List.take_of_length_le (by omega)
 have hkl:(keyC path).length=path.length:=by unfold keyC;simp
 obtain ⟨H1,hH1⟩:∃H1:AHeap,H1=H++ [.cells cs ⟨27,0,true,0,none⟩,.cells [.int .i64 0,.int .i64 0,.string (bs []),.slice none 0 0,.slice none 0 0] ⟨27,0,true,0,none⟩]:=⟨_,rfl⟩
 have hb0:H1[H.length]? =some (.cells cs ⟨27,0,true,0,none⟩):=by rw [hH1,hget0 rfl];rfl
 have hb1:H1[H.length+1]? =some (.cells [.int .i64 0,.int .i64 0,.string (bs []),.slice none 0 0,.slice none 0 0] ⟨27,0,true,0,none⟩):=by rw [hH1,hgetk rfl];rfl
 have hl1:H1.length=H.length+2:=by rw [hH1];simp
 have hf1:Frm [] H H1:=by rw [hH1];exact Frm.app
 have hk1:Kept H H1:=by rw [hH1];exact .more _ _
 have hG1:GlobB H1:=by rw [hH1];exact hG.more _
 have hV:=valid_ v hv H1 cs (hR.kept hk1) hG1.tab
 have hzl:∀cs':List Value,cs'.length=5→putCells [.int .i64 0,.int .i64 0,.string (bs []),.slice none 0 0,.slice none 0 0] 0 cs'=cs':=fun cs' h=>by
  match cs',h with
  |[_,_,_,_,_],_=>rfl
 have q1:∀H' K,lenW Tryz.prog 22 vp H' K=K (.int .i64 (path.length:Nat)) H':=fun H' K=>by rw [hP.lenT (by simp only [go_sem,sevalprocAttr,reduceCtorEq]),hkl]
 unfold getR
 refine AC.enter Tryz.func21 rfl (by kernel_rfl) 38 rfl [.cell 4 27,.tmp 5] rfl (by simp) fun hsc B=> ?_
 repeat first|with_reducible refine kc ?_|((with_reducible first|refine kr ?_ ?_|refine kt ?_ ?_);exact rfl)|((with_reducible refine kf ?_ ?_);exact rfl)|simp only [go_sem,sevalprocAttr,reduceCtorEq,hfl,hr5]|simp (disch:=omega) only [wz]
 rw [← hH1]
 repeat first|with_reducible refine kc ?_|((with_reducible first|refine kr ?_ ?_|refine kt ?_ ?_);exact rfl)|((with_reducible refine kf ?_ ?_);exact rfl)|simp only [go_sem,sevalprocAttr,reduceCtorEq,hb0,htk5,hr5]|simp (disch:=omega) only [wz]
 refine AC.mono hV ?_
 rintro res H2 ⟨rfl,hf2⟩
 have hb02:=hf2.get hb0 (by simp)
 have hb12:=hf2.get hb1 (by simp)
 have hf12:Frm [] H H2:=hf1.trans hf2 (fun x hx=>by cases hx)
 have hl2:=hf2.1
 have hbl2:=lt_of_get hb12
 cases hval:v.valid with
 |false=>
  rw [if_neg (by decide)]
  have g2:∀o:AObj,(H2.set (H.length+1) o)[H.length+1]? =some o:=fun o=>List.getElem?_set_self hbl2
  repeat first|with_reducible refine kc ?_|((with_reducible first|refine kr ?_ ?_|refine kt ?_ ?_);exact rfl)|((with_reducible refine kf ?_ ?_);exact rfl)|simp only [go_sem,sevalprocAttr,reduceCtorEq,hb12,hbl2,g2,putCells,List.set_cons_succ,List.set_cons_zero]|simp (disch:=omega) only [wz]
  exact ⟨_,_,.refl _ _ _,_,rfl,Frm.set hf12 (.inr (by omega)),RdV_zero _⟩
 | true=>
  rw [if_pos rfl]
  have hform:v.form=true:=by
   unfold BV.valid at hval
   simp only [Bool.and_eq_true] at hval
   exact hval.1.1.1
  repeat first|with_reducible refine kc ?_|((with_reducible first|refine kr ?_ ?_|refine kt ?_ ?_);exact rfl)|((with_reducible refine kf ?_ ?_);exact rfl)|simp only [go_sem,sevalprocAttr,reduceCtorEq,q1]|simp (disch:=omega) only [wz]
  refine AWP.loopP (fun p:GLp=>⟨[(2,.pointer (some ⟨H.length,0,none⟩)),(4,.pointer (some ⟨H.length+1,0,none⟩)),(14,vp),(15,.int .i64 (path.length:Nat)),(16,.int .i64 (p.j:Nat))],[],p.Hc⟩)
   (GLI H path (goR v path)) (fun p=>path.length - p.j) ⟨0,v,cs,H2⟩ ?_ ⟨Nat.zero_le _,hb02,hb12,hf12,(hR.kept hk1).kept (Kept.frm hf2 (fun x hx=>by cases hx)),⟨hv.sz,hform⟩,rfl⟩ ?_
  ·exact Weak.env (by simp [envIn,lk_cons,wth_some])
  rintro ⟨j,w,csw,Hc⟩ ⟨hj,hb,hr,hf,hRw,hgood,hgo⟩
  dsimp only at hj hb hr hf hRw hgood hgo ⊢
  rw [← hgo]
  have hkc:Kept H Hc:=Kept.frm hf (fun x hx=>by cases hx)
  have hfw:=RdV_flat hRw
  have hw5:=hRw.len
  have htw:List.take 5 csw=csw:=List.take_of_length_le (by omega)
  have hbl:=lt_of_get hb
  have hrl:=lt_of_get hr
  have g2:∀o:AObj,(Hc.set (H.length+1) o)[H.length+1]? =some o:=fun o=>List.getElem?_set_self hrl
  by_cases hlt:j<path.length
  ·have hlt':(j:Int)<(path.length:Int):=by omega
   obtain ⟨bi,off,cap,cs',k',rfl,hcap,hbi,hown,hesz,hle,htk⟩:=(hP.kept hkc).at_ (keyC_at hlt)
   have hlt2:(j:Int)<((keyC path).length:Int):=by omega
   have hdrop:path.drop j=path[j]::path.drop (j+1):=List.drop_eq_getElem_cons hlt
   have hpj:=hp path[j] (List.getElem_mem hlt)
   have hwj:IntKind.i64.wrap ((j:Int)+1)=((j+1:Nat):Int):=by rw [wi64 (by omega)];omega
   rw [hdrop]
   generalize path[j]=t at*
   have hat2:cs'[off+j]? =some (.string (bs t)):=by
    have h1:=congrArg (fun l=>l[0]?) htk
    simpa using h1
   obtain ⟨k,n,s,kids,keys⟩:=w
   have hsz:=hgood.sz
   unfold szV at hsz
   have hI:=index k n s kids keys hsz.1 (by omega) (fun h=>(form_asc hgood.form h).1) t hpj Hc (hG.frm hf) csw hRw
   repeat first|with_reducible refine kc ?_|((with_reducible first|refine kr ?_ ?_|refine kt ?_ ?_);exact rfl)|((with_reducible refine kf ?_ ?_);exact rfl)|simp only [go_sem,sevalprocAttr,reduceCtorEq,hlt',hlt2,hbi,hat2,hb,hw5,htw]|simp (disch:=omega) only [wz]
   refine AC.mono hI ?_
   rintro res H5 ⟨rfl,hf5⟩
   have hb5:=hf5.get hb (by simp)
   have hr5':=hf5.get hr (by simp)
   have hl5:=hf5.1
   have hrl5:=lt_of_get hr5'
   have hf05:Frm [] H H5:=hf.trans hf5 (fun x hx=>by cases hx)
   have hk5:Kept Hc H5:=Kept.frm hf5 (fun x hx=>by cases hx)
   by_cases he:(stepR (.mk k n s kids keys) t).2=0
   ·obtain ⟨i,hi,hie⟩:=stepR_ok hgood.form he
    have hgr:goR (.mk k n s kids keys) (t::path.drop (j+1))=goR (kids.getD i .zero) (path.drop (j+1)):=by
     rw [goR,if_pos he,hie];rfl
    rw [hgr]
    rw [he,hie]
    dsimp only [BV.kids] at hi
    have hgk:kids.getD i .zero=kids[i]:=by rw [List.getD_eq_getElem?_getD,List.getElem?_eq_getElem hi];rfl
    rw [hgk]
    have hRw5:=hRw.kept hk5
    unfold RdV at hRw5
    obtain ⟨vk,vs,css,rfl,h1,hL,h3⟩:=hRw5
    obtain ⟨r6,hr6,hR6⟩:=hL.at_ (List.getElem?_eq_getElem hi)
    obtain ⟨bk,offk,capk,csk,kk,rfl,hcapk,hbk,hownk,heszk,hlek,htkk⟩:=h1.at_ hr6
    have hi2:(i:Int)<(css.length:Int):=by have:=hL.len;omega
    have hr65:=hR6.len
    have hfl6:=RdV_flat hR6
    have hput:putCells [.int .i64 k,.int .i64 n,.string (bs s),.slice (some ⟨bk,offk,none⟩) css.length capk,vs] 0 r6=r6:=by
     match r6,hr65 with
     |[_,_,_,_,_],_=>rfl
    have hgood2:Good kids[i]:=hgood.kid (List.getElem_mem hi)
    have hbl5:=lt_of_get hb5
    generalize kids[i]=w2 at*
    repeat first|with_reducible refine kc ?_|((with_reducible first|refine kr ?_ ?_|refine kt ?_ ?_);exact rfl)|((with_reducible refine kf ?_ ?_);exact rfl)|simp only [go_sem,sevalprocAttr,reduceCtorEq,hb5,hi2,hbk,hlek,htkk,hr65,hfl6,hput,hbl5,hwj]|simp (disch:=omega) only [wz]
    refine ⟨⟨j+1,w2,r6,H5.set H.length (.cells r6 ⟨27,0,true,0,none⟩)⟩,Weak.env (by simp [envIn,lk_cons,wth_some]),⟨hlt,?_,?_,?_,?_,hgood2,rfl⟩,by dsimp only;omega⟩
    ·exact List.getElem?_set_self hbl5
    ·rw [List.getElem?_set_ne (by omega)];exact hr5'
    ·exact Frm.set hf05 (.inr (Nat.le_refl _))
    ·exact hR6.kept (Kept.set hb5 rfl _)
   ·have hgr:goR (.mk k n s kids keys) (t::path.drop (j+1))= (.zero,(stepR (.mk k n s kids keys) t).2):=by
     rw [goR,if_neg he]
    rw [hgr]
    have g5:∀o:AObj,(H5.set (H.length+1) o)[H.length+1]? =some o:=fun o=>List.getElem?_set_self hrl5
    obtain ⟨e,hee⟩:∃e,e=(stepR (.mk k n s kids keys) t).2:=⟨_,rfl⟩
    rw [← hee] at he ⊢
    have he':(e != 0)=true:=by simpa using he
    repeat first|with_reducible refine kc ?_|((with_reducible first|refine kr ?_ ?_|refine kt ?_ ?_);exact rfl)|((with_reducible refine kf ?_ ?_);exact rfl)|simp only [go_sem,sevalprocAttr,reduceCtorEq,he',Bool.not_false,Bool.not_true,hr5',hrl5,g5,putCells,List.set_cons_succ,List.set_cons_zero]|simp (disch:=omega) only [wz]
    exact ⟨_,_,.refl _ _ _,_,rfl,Frm.set hf05 (.inr (by omega)),RdV_zero _⟩
  ·have hlt':¬(j:Int)<(path.length:Int):=by omega
   have hdrop:path.drop j=[]:=List.drop_eq_nil_of_le (by omega)
   rw [hdrop]
   have hgr:goR w []=(w,0):=by rw [goR]
   rw [hgr]
   have hC:=copied w hgood.sz Hc csw hRw
   repeat first|with_reducible refine kc ?_|((with_reducible first|refine kr ?_ ?_|refine kt ?_ ?_);exact rfl)|((with_reducible refine kf ?_ ?_);exact rfl)|simp only [go_sem,sevalprocAttr,reduceCtorEq,hlt',hb,hw5,htw]|simp (disch:=omega) only [wz]
   refine AC.mono hC ?_
   rintro res H5 ⟨r6,rfl,hf5,hR6⟩
   have hr5':=hf5.get hr (by simp)
   have hrl5:=lt_of_get hr5'
   have hr65:=hR6.len
   have hfl6:=RdV_flat hR6
   have htk6:List.take 5 r6=r6:=List.take_of_length_le (by omega)
   have hput:=hzl r6 hr65
   have g5:∀o:AObj,(H5.set (H.length+1) o)[H.length+1]? =some o:=fun o=>List.getElem?_set_self hrl5
   have hl5:=hf5.1
   repeat first|with_reducible refine kc ?_|((with_reducible first|refine kr ?_ ?_|refine kt ?_ ?_);exact rfl)|((with_reducible refine kf ?_ ?_);exact rfl)|simp only [go_sem,sevalprocAttr,reduceCtorEq,hr5',hrl5,hr65,hfl6,hput,g5,htk6]|simp (disch:=omega) only [wz]
   exact ⟨_,_,.refl _ _ _,_,rfl,Frm.set (hf.trans hf5 (fun x hx=>by cases hx)) (.inr (by omega)),hR6.kept (Kept.set hr5' rfl _)⟩
end Go.Proofs.YthcdjconlfdidaaGreatDoor

set_option linter.unusedVariables false
set_option linter.unusedSimpArgs false
set_option maxRecDepth 20000
namespace Go.Proofs.YthcdjconlfdidaaGreatDoor
open Go Go.Aw Go.Proofs
def kW (v:BV) (i:Nat):Nat:=if v.kind=4 then (BV.wText (v.keys.getD i [])).length else 0
def kidW (v:BV) (i:Nat):Nat:=((v.kids.getD i .zero).write).length
def preW (v:BV):Nat→Nat
 |0=>1
 |i+1=>preW v i+kW v i+kidW v i
theorem split_writeL:∀(l:List BV) (i:Nat) (h:i<l.length),BV.writeL l=BV.writeL (l.take i)++(l[i].write++BV.writeL (l.drop (i+1)))
 |v::l,0,h=>by simp [BV.writeL]
 |v::l,i+1,h=>by
  have:=split_writeL l i (by simpa using h)
  simp only [List.take_succ_cons,List.drop_succ_cons,List.getElem_cons_succ,BV.writeL,List.append_assoc]
  rw [this]
theorem split_writeD:∀(ks:List Tx) (l:List BV) (hkl:ks.length=l.length) (i:Nat) (h:i<l.length),BV.writeD ks l=BV.writeD (ks.take i) (l.take i)++(BV.wText (ks[i]'(by omega))++(l[i].write++BV.writeD (ks.drop (i+1)) (l.drop (i+1))))
 |k::ks,v::l,hkl,0,h=>by simp [BV.writeD]
 |k::ks,v::l,hkl,i+1,h=>by
  have:=split_writeD ks l (by simpa using hkl) i (by simpa using h)
  simp only [List.take_succ_cons,List.drop_succ_cons,List.getElem_cons_succ,BV.writeD,List.append_assoc]
  rw [this]
 |[],[],hkl,i,h=>absurd h (by simp)
theorem kW3 {n:Int} {s:Tx} {kids:List BV} {keys:List Tx} (i:Nat):kW (.mk 3 n s kids keys) i=0:=if_neg (show ¬(3:Int)=4 by decide)
theorem kW4 {n:Int} {s:Tx} {kids:List BV} {keys:List Tx} (i:Nat):kW (.mk 4 n s kids keys) i=(BV.wText (keys.getD i [])).length:=if_pos (show (4:Int)=4 by rfl)
theorem preW_list {n:Int} {s:Tx} {kids:List BV} {keys:List Tx}:∀(i:Nat),i≤kids.length→preW (.mk 3 n s kids keys) i=1+(BV.writeL (kids.take i)).length
 |0,h=>by simp [preW,BV.writeL]
 |i+1,h=>by
  rw [preW,preW_list i (by omega),writeL_snoc kids i (by omega),List.length_append,kW3,kidW]
  simp only [BV.kids]
  rw [List.getD_eq_getElem?_getD,List.getElem?_eq_getElem (by omega)]
  simp only [Option.getD_some]
  omega
theorem preW_dict {n:Int} {s:Tx} {kids:List BV} {keys:List Tx} (hkl:keys.length=kids.length):∀(i:Nat),i≤kids.length→preW (.mk 4 n s kids keys) i=1+(BV.writeD (keys.take i) (kids.take i)).length
 |0,h=>by simp [preW,BV.writeD]
 |i+1,h=>by
  rw [preW,preW_dict hkl i (by omega),writeD_snoc keys kids hkl i (by omega) (by omega),List.length_append,List.length_append,kW4,kidW]
  simp only [BV.kids,BV.keys]
  rw [List.getD_eq_getElem?_getD,List.getElem?_eq_getElem (by omega),List.getD_eq_getElem?_getD,List.getElem?_eq_getElem (by omega)]
  simp only [Option.getD_some]
  omega
theorem kid_at {v:BV} (hf:v.form=true) (hk:v.kind=3∨v.kind=4) {i:Nat} (hi:i<v.kids.length):∃A B,v.write=A++((v.kids[i]).write++B)∧A.length=preW v i+kW v i:=by
 obtain ⟨k,n,s,kids,keys⟩:=v
 dsimp only [BV.kids] at hi ⊢
 rcases hk with hk|hk
 ·dsimp only [BV.kind] at hk
  subst hk
  refine ⟨108::BV.writeL (kids.take i),BV.writeL (kids.drop (i+1))++[101],?_,?_⟩
  ·rw [BV.write,if_neg (by decide),if_neg (by decide),if_pos rfl,split_writeL kids i hi]
   simp
  ·rw [preW_list i (by omega),kW3]
   simp only [List.length_cons];omega
 ·dsimp only [BV.kind] at hk
  subst hk
  have hkl:=(form_asc hf rfl).2
  refine ⟨100::(BV.writeD (keys.take i) (kids.take i)++BV.wText (keys[i]'(by omega))),BV.writeD (keys.drop (i+1)) (kids.drop (i+1))++[101],?_,?_⟩
  ·rw [BV.write,if_neg (by decide),if_neg (by decide),if_neg (by decide),split_writeD keys kids hkl i hi]
   simp
  ·rw [preW_dict hkl i (by omega),kW4]
   rw [List.getD_eq_getElem?_getD,List.getElem?_eq_getElem (by omega)]
   simp only [List.length_cons,List.length_append,Option.getD_some];omega
theorem form_kid {v:BV} (h:v.form=true) {c:BV} (hc:c∈v.kids):c.form=true:=by
 obtain ⟨k,n,s,kids,keys⟩:=v
 rw [form_shape,Bool.and_eq_true] at h
 exact BV.formL_iff.1 h.2 c hc
end Go.Proofs.YthcdjconlfdidaaGreatDoor

set_option linter.unusedVariables false
set_option linter.unusedSimpArgs false
set_option maxRecDepth 20000
set_option maxHeartbeats 4000000
namespace Go.Aw
theorem AC.freeze {P:Program} {f:FuncId} {args:List Value} {H:AHeap} {K:ARes→AHeap→Prop} {j:Nat} {cs:List Value} {k:CK} (hj:H[j]? =some (.cells cs k)) (h:AC P f args (H.set j (.cells cs {k with own:=false})) K):AC P f args H K:=
 fun c w vargs hh hv=>(h c w vargs (hh.freeze hj) hv).mono fun e w' hp=>by
  obtain ⟨r,c',H',h1,h2,h3,h4⟩:=hp
  rw [List.length_set] at h4
  exact ⟨r,c',H',h1,h2,h3,Trans.trans ⟨fun _ _ _ h=>h,rfl,rfl,rfl,Nat.le_refl _,fun _ _ _=>rfl,fun b h=> .inl (h.freeze hj)⟩ h4⟩
end Go.Aw
namespace Go.Proofs.YthcdjconlfdidaaGreatDoor
open Go Go.Aw Go.Proofs
def exS:List UInt8:=[100,49,58,97,105,45,51,101,49,58,98,108,50,58,120,121,101,101]
def exK:BV:= .mk 2 0 [120,121] [] []
def exL:BV:= .mk 3 0 [] [exK] []
def exV:BV:= .mk 4 0 [] [.mk 1 (-3) [] [] [],exL] [[97],[98]]
theorem ex_parse:parseR exS=(exV,0):=by kernel_rfl
theorem ex_fine:Fine exV∧formatR exV=(exS,0)∧exV.valid=true:=by
 obtain ⟨h1,h2,h3⟩:=parse_inv ex_parse
 have hf:exV.form=true:=by
  unfold BV.valid at h1
  simp only [Bool.and_eq_true] at h1
  exact h1.1.1.1
 have hl:exV.write.length=18:=by rw [← h3];rfl
 refine ⟨⟨sz_of_form _ hf (by omega),h2,by omega⟩,?_,h1⟩
 unfold formatR
 rw [if_pos h1,←h3]
theorem ex_get:getR exV [[98],[48]]=(exK,0):=by
 unfold getR
 rw [if_pos ex_fine.2.2]
 have s1:stepR exV [98]=(1,0):=by kernel_rfl
 have s2:stepR exL [48]=(0,0):=by
  have:nAt exL.kids.length [48]=some 0:=nAt_some (by decide) (by decide) (by rw [dd_lt 0 (by omega)];rfl)
  unfold stepR
  rw [if_neg (by decide),if_pos (by rfl),this];rfl
 rw [goR,s1,if_pos rfl]
 show goR exL [[48]]=_
 rw [goR,s2,if_pos rfl]
 show goR exK []=_
 rw [goR]
theorem awake (H:AHeap) (hG:GlobB H):AC Tryz.prog 6 [] H (fun r H2=>r= .ret (.bool true)∧Frm [] H H2):=by
 have hP:=parse exS H
 rw [ex_parse] at hP
 unfold exS at hP
 refine AC.enter Tryz.func6 rfl (by kernel_rfl) 41 rfl [.tmp 0] rfl (by simp) fun hsc B=> ?_
 repeat first|with_reducible refine kc ?_|((with_reducible first|refine kr ?_ ?_|refine kt ?_ ?_);exact rfl)|((with_reducible refine kf ?_ ?_);exact rfl)|simp only [go_sem,sevalprocAttr,reduceCtorEq]|simp (disch:=omega) only [wz]
 refine AC.mono hP ?_
 rintro res H1 ⟨cs,rfl,hf1,hR1⟩
 dsimp only at hR1
 have hc5:=hR1.len
 have hfl:=RdV_flat hR1
 have htk:List.take 5 cs=cs:=List.take_of_length_le (by omega)
 have hput:putCells [.int .i64 0,.int .i64 0,.string (bs []),.slice none 0 0,.slice none 0 0] 0 cs=cs:=by
  match cs,hc5 with
  |[_,_,_,_,_],_=>rfl
 obtain ⟨H2,hH2⟩:∃H2:AHeap,H2=H1++ [.cells cs ⟨27,0,true,0,none⟩,.cells [.string (bs [98]),.string (bs [48])] ⟨9,0,true,0,none⟩]:=⟨_,rfl⟩
 have hf2:Frm [] H H2:=by rw [hH2];exact hf1.more
 have hl2:H2.length=H1.length+2:=by rw [hH2];simp
 have hb2:H2[H1.length]? =some (.cells cs ⟨27,0,true,0,none⟩):=by rw [hH2,hget0 rfl];rfl
 have hp2:H2[H1.length+1]? =some (.cells [.string (bs [98]),.string (bs [48])] ⟨9,0,true,0,none⟩):=by rw [hH2,hgetk rfl];rfl
 have hR2:RdV H2 exV cs:=by rw [hH2];exact hR1.kept (.more _ _)
 obtain ⟨H3,hH3⟩:∃H3:AHeap,H3=H2.set (H1.length+1) (.cells [.string (bs [98]),.string (bs [48])] ⟨9,0,false,0,none⟩):=⟨_,rfl⟩
 have hl1:=hf1.1
 have hf3:Frm [] H H3:=by rw [hH3];exact Frm.set hf2 (.inr (by omega))
 have hk3:Kept H2 H3:=by rw [hH3];exact Kept.set hp2 rfl _
 have hb3:H3[H1.length]? =some (.cells cs ⟨27,0,true,0,none⟩):=by rw [hH3,List.getElem?_set_ne (by omega)];exact hb2
 have hp3:H3[H1.length+1]? =some (.cells [.string (bs [98]),.string (bs [48])] ⟨9,0,false,0,none⟩):=by rw [hH3,List.getElem?_set_self (by omega)]
 have hR3:=hR2.kept hk3
 have hPk:RdK H3 1 (.slice (some ⟨H1.length+1,0,none⟩) 2 2) (keyC [[98],[48]]):=by
  refine .inr ⟨_,0,2,_,_,rfl,Nat.le_refl _,hp3,rfl,.inr rfl,by decide,fun j r hj=> ?_⟩
  match j,hj with
  |0,hj=>cases hj;rfl
  |1,hj=>cases hj;rfl
 have hG3:GlobB H3:=hG.frm hf3
 have hX:=getW exV [[98],[48]] ex_fine.1 (by decide) (by decide) H3 hG3 cs hR3 _ hPk
 rw [ex_get] at hX
 repeat first|with_reducible refine kc ?_|((with_reducible first|refine kr ?_ ?_|refine kt ?_ ?_);exact rfl)|((with_reducible refine kf ?_ ?_);exact rfl)|simp only [go_sem,sevalprocAttr,reduceCtorEq,hc5,hfl,hput,htk]|simp (disch:=omega) only [wz]
 rw [← hH2]
 refine AC.freeze hp2 ?_
 dsimp only
 rw [← hH3]
 refine AC.mono hX ?_
 rintro res H4 ⟨cs4,rfl,hf4,hR4⟩
 dsimp only at hR4
 have hb4:=hf4.get hb3 (by simp)
 have hV4:=hR3.kept (Kept.frm hf4 (fun x hx=>by cases hx))
 have hf04:Frm [] H H4:=hf3.trans hf4 (fun x hx=>by cases hx)
 have hc54:=hR4.len
 have hfl4:=RdV_flat hR4
 have hput4:putCells [.int .i64 0,.int .i64 0,.string (bs []),.slice none 0 0,.slice none 0 0] 0 cs4=cs4:=by
  match cs4,hc54 with
  |[_,_,_,_,_],_=>rfl
 have hl4:=hf4.1
 have hl3:H3.length=H1.length+2:=by rw [hH3,List.length_set,hl2]
 obtain ⟨H5,hH5⟩:∃H5:AHeap,H5=H4++ [.cells cs4 ⟨27,0,true,0,none⟩]:=⟨_,rfl⟩
 have hb5:H5[H1.length]? =some (.cells cs ⟨27,0,true,0,none⟩):=by rw [hH5,hgetl (by omega)];exact hb4
 have hx5:H5[H4.length]? =some (.cells cs4 ⟨27,0,true,0,none⟩):=by rw [hH5,hget0 rfl];rfl
 have hf05:Frm [] H H5:=by rw [hH5];exact hf04.more
 have hV5:RdV H5 exV cs:=by rw [hH5];exact hV4.kept (.more _ _)
 have hF:=format_ exV ex_fine.1 H5 cs hV5 (hG.frm hf05).tab
 rw [ex_fine.2.1] at hF
 unfold exK RdV at hR4
 obtain ⟨vk,vs,css,rfl,-,-,-⟩:=hR4
 repeat first|with_reducible refine kc ?_|((with_reducible first|refine kr ?_ ?_|refine kt ?_ ?_);exact rfl)|((with_reducible refine kf ?_ ?_);exact rfl)|simp only [go_sem,sevalprocAttr,reduceCtorEq,hc54,hfl4,hput4]|simp (disch:=omega) only [wz]
 rw [← hH5]
 repeat first|with_reducible refine kc ?_|((with_reducible first|refine kr ?_ ?_|refine kt ?_ ?_);exact rfl)|((with_reducible refine kf ?_ ?_);exact rfl)|simp only [go_sem,sevalprocAttr,reduceCtorEq,hb5,hc5,htk]|simp (disch:=omega) only [wz]
 refine AC.mono hF ?_
 rintro res H6 ⟨rfl,hf6⟩
 have hx6:=hf6.get hx5 (by simp)
 dsimp only
 unfold exS
 repeat first|with_reducible refine kc ?_|((with_reducible first|refine kr ?_ ?_|refine kt ?_ ?_);exact rfl)|((with_reducible refine kf ?_ ?_);exact rfl)|simp only [go_sem,sevalprocAttr,reduceCtorEq,hx6,exists_eq_left]|simp (disch:=omega) only [wz]
 exact ⟨_,_,.refl _ _ _,rfl,hf05.trans hf6 (fun x hx=>by cases hx)⟩
end Go.Proofs.YthcdjconlfdidaaGreatDoor
