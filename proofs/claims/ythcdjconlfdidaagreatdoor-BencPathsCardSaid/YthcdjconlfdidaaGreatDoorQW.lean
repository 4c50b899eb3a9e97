/-
 The walk of the specification's drop.
-/
import Derived.Test.YthcdjconlfdidaaGreatDoorQSM
set_option linter.unusedVariables false
set_option linter.unusedSimpArgs false
set_option maxRecDepth 20000
set_option maxHeartbeats 4000000
namespace Go.Proofs.YthcdjconlfdidaaGreatDoor
open Go Go.Aw Go.Proofs
theorem dropR_cons (v:BV) (t:Tx) (p:List Tx):chR dropL v (t::p)=if (stepR v t).2=0 then (if p=[] then (withL v (v.kids.eraseIdx (stepR v t).1.toNat) (if v.kind=4 then v.keys.eraseIdx (stepR v t).1.toNat else v.keys),0) else (withL v (v.kids.set (stepR v t).1.toNat (chR dropL (v.kids.getD (stepR v t).1.toNat .zero) p).1) v.keys,(chR dropL (v.kids.getD (stepR v t).1.toNat .zero) p).2)) else (v,(stepR v t).2):=by
 rw [chR]
 by_cases hp:p=[]
 ·rw [if_pos hp,if_pos hp]
  unfold dropL
  rfl
 ·rw [if_neg hp,if_neg hp]
structure DrS (H:AHeap) (v:BV) (cs':List Value) (H3:AHeap):Prop where
 own:OwnS (H.length+2) H3 v cs'
 frm:Frm [] H H3
 hb:H3[H.length]? =some (.cells cs' ⟨27,0,true,0,none⟩)
 hr:H3[H.length+1]? =some zeroO
def DrJ (H:AHeap) (v:BV) (t:Tx) (vp:Value) (st:ASt):Prop:=
 ∃cs' H3 z,DrS H v cs' H3∧StepP v t z∧st=⟨[(1,vp),(2,.pointer (some ⟨H.length,0,none⟩)),(4,.pointer (some ⟨H.length+1,0,none⟩)),(5,.int .i64 0),(6,.int .i64 z),(7,.int .i64 (stepR v t).2)],[],H3⟩
def QDr (lo b n q1:Nat) (vk vp vt:Value) (ci:List Value) (w:BV) (e:Int) (i:Nat) (v:Value) (H:AHeap):Prop:=
 match i with
 |0=>v= .pointer (some ⟨b,3,none⟩)
 |1=>v=vk
 |2=>v= .int .i64 (n:Nat)
 |3=>v= .pointer (some ⟨q1,n*5,none⟩)
 |4=>v= .agg ⟨ci⟩
 |5=>v=vp
 |6=>v=vt
 |7=>∃ck,v= .tuple ⟨[.agg ⟨ck⟩,.int .i64 e]⟩∧RdV H w ck
 |8=>∃ck,v= .tuple ⟨[.agg ⟨ck⟩,.int .i64 e]⟩∧RdV H w ck
 |9=>∃ck,v= .agg ⟨ck⟩∧RdV H w ck
 |10=>v= .int .i64 e
 |11=>∃q c0,v= .pointer (some ⟨q,0,none⟩)∧H[q]? =some (.cells c0 ⟨27,0,true,0,none⟩)∧c0.length=5∧lo≤q
 |12=>∃q ck,v= .pointer (some ⟨q,0,none⟩)∧H[q]? =some (.cells ck ⟨27,0,true,0,none⟩)∧RdV H w ck∧lo≤q
 |13=>v= .int .i64 e
 |_=>True
def tmDr:Nat→Nat
 |0=>28|1=>29|2=>30|3=>31|4=>32|5=>33|6=>34|7=>35|8=>27|9=>36|10=>37|11=>8|12=>8|_=>9
def spDr:Nat→Option Nat
 |11=>some 12
 |_=>none
theorem QDr.more {lo b n q1:Nat} {vk vp vt:Value} {ci:List Value} {w:BV} {e:Int} (i:Nat) (v:Value) (H H2:AHeap) (h:QDr lo b n q1 vk vp vt ci w e i v H) (hf:Frm [] H H2):QDr lo b n q1 vk vp vt ci w e i v H2:=by
 have hk:Kept H H2:=Kept.frm hf (fun x hx=>by cases hx)
 match i with
 |0=>exact h
 |1=>exact h
 |2=>exact h
 |3=>exact h
 |4=>exact h
 |5=>exact h
 |6=>exact h
 |7=>obtain ⟨ck,h1,h2⟩:=h;exact ⟨ck,h1,h2.kept hk⟩
 |8=>obtain ⟨ck,h1,h2⟩:=h;exact ⟨ck,h1,h2.kept hk⟩
 |9=>obtain ⟨ck,h1,h2⟩:=h;exact ⟨ck,h1,h2.kept hk⟩
 |10=>exact h
 |11=>obtain ⟨q,c0,h1,h2,h3⟩:=h;exact ⟨q,c0,h1,hf.get h2 (by simp),h3⟩
 |12=>obtain ⟨q,ck,h1,h2,h3,h4⟩:=h;exact ⟨q,ck,h1,hf.get h2 (by simp),h3.kept hk,h4⟩
 |13=>exact h
 |_+14=>trivial
theorem QDr.kept {lo b n q1:Nat} {vk vp vt:Value} {ci:List Value} {w:BV} {e:Int} (i:Nat) (v:Value) (H H2:AHeap) (hi:i≠11∧i≠12) (h:QDr lo b n q1 vk vp vt ci w e i v H) (hk:Kept H H2):QDr lo b n q1 vk vp vt ci w e i v H2:=by
 match i with
 |0=>exact h
 |1=>exact h
 |2=>exact h
 |3=>exact h
 |4=>exact h
 |5=>exact h
 |6=>exact h
 |7=>obtain ⟨ck,h1,h2⟩:=h;exact ⟨ck,h1,h2.kept hk⟩
 |8=>obtain ⟨ck,h1,h2⟩:=h;exact ⟨ck,h1,h2.kept hk⟩
 |9=>obtain ⟨ck,h1,h2⟩:=h;exact ⟨ck,h1,h2.kept hk⟩
 |10=>exact h
 |11=>exact absurd rfl hi.1
 |12=>exact absurd rfl hi.2
 |13=>exact h
 |_+14=>trivial
def DrK (H:AHeap) (n:Nat) (R:BV×Int) (H3:AHeap) (st:ASt):Prop:=
 ∃q ck H5,Frm [] H3 H5∧H5[q]? =some (.cells ck ⟨27,0,true,0,none⟩)∧RdV H5 R.1 ck∧H3.length≤q∧
  st=⟨[(8,.pointer (some ⟨q,0,none⟩)),(9,.int .i64 R.2),(6,.int .i64 (n:Nat)),(2,.pointer (some ⟨H.length,0,none⟩)),(4,.pointer (some ⟨H.length+1,0,none⟩)),(5,.int .i64 0)],[],H5⟩
theorem app_del {P:Program} {e m y lo q n k:Nat} {l:List (List Value)} {news:List Value} {H:AHeap} {K:Value→AHeap→Prop} (hm:0<m) (hq:H[q]? =some (.cells l.flatten ⟨e,m,true,0,none⟩)) (hr:∀c∈l,c.length=m) (hlo:lo≤q) (hl:lo≤H.length) (hn:n<l.length) (h1:l.length*y≤140737488355328) (h2:l.length≤1099511627776) (hnews:news=l.flatten.drop ((n+1)*m)) (hk0:k=l.length - (n+1))
  (hk:∀q' H2 C,lo≤q'→H2[q']? =some (.cells ((l.eraseIdx n).flatten++C) ⟨e,m,true,0,none⟩)→ (∀ j,j≠q→j<H.length→H2[j]? =H[j]?)→H.length≤H2.length→(q'=q∨q'=H.length)→K (.slice (some ⟨q',0,none⟩) (l.length - 1) (l.length - 1)) H2):appendTo P e m y (.slice (some ⟨q,0,none⟩) n n) k news H K:=by
 have hfl:=flat_len hr
 by_cases hk1:k=0
 ·have hn1:n=l.length - 1:=by omega
  have hnil:news=[]:=by rw [hnews];exact List.drop_eq_nil_of_le (by rw [hfl,show n+1=l.length by omega];exact Nat.le_refl _)
  subst hk1
  unfold appendTo
  simp only [hq]
  refine ⟨fun _=>⟨fun _=> ?_,fun h=>absurd rfl h⟩,fun h=>absurd (Nat.le_refl n) h⟩
  rw [hn1]
  refine hk q H (l.flatten.drop (n*m)) hlo ?_ (fun _ _ _=>rfl) (Nat.le_refl _) (.inl rfl)
  rw [flat_era l n hr,←hnews,hnil,List.append_nil,List.take_append_drop]
  exact hq
 ·refine app_cut hm hq (.inl rfl) (by rw [hfl];exact Nat.mul_le_mul_right _ (by omega)) (by omega) (Nat.le_trans (Nat.mul_le_mul_right _ (by omega)) h1) (by omega) fun H2 h=> ?_
  rw [hnews,←flat_era l n hr,show n+k=l.length - 1 by omega]
  have hl2:H2.length=H.length:=by
   rcases h with rfl|rfl
   ·rfl
   ·rw [List.length_set]
  refine hk H.length _ [] hl (by rw [List.append_nil,hget0 hl2];rfl) (fun j h3 h4=> ?_) (by rw [List.length_append];omega) (.inr rfl)
  rw [hgetl (by omega)]
  rcases h with rfl|rfl
  ·rfl
  ·rw [List.getElem?_set_ne (Ne.symm h3)]
def Dr9 (H H3:AHeap) (q1 n:Nat) (css:List (List Value)) (v:BV) (w vp:Value) (st:ASt):Prop:=
 ∃q' C H4,H.length+2≤q'∧H4[q']? =some (.cells ((css.eraseIdx n).flatten++C) ⟨27,5,true,0,none⟩)∧ (∀ j,j≠q1→j≠H.length→j<H3.length→H4[j]? =H3[j]?)∧H3.length≤H4.length∧(q'=q1∨q'=H3.length)∧
  H4[H.length]? =some (.cells [.int .i64 v.kind,.int .i64 v.num,.string (bs v.text),.slice (some ⟨q',0,none⟩) (css.length - 1) (css.length - 1),w] ⟨27,0,true,0,none⟩)∧
  st=⟨[(1,vp),(2,.pointer (some ⟨H.length,0,none⟩)),(4,.pointer (some ⟨H.length+1,0,none⟩)),(5,.int .i64 0),(6,.int .i64 (n:Nat)),(7,.int .i64 0)],[],H4⟩
theorem keyC_era (l:List Tx) (i:Nat):keyC (l.eraseIdx i)=(keyC l).eraseIdx i:=by
 unfold keyC
 rw [List.eraseIdx_eq_take_drop_succ,List.eraseIdx_eq_take_drop_succ,List.map_append,List.map_take,List.map_drop]
theorem rDrop:∀(p:List Tx) (v:BV),OkV v→ (∀ u∈p,u.length≤1099511627776)→p.length≤1099511627776→p≠[]→∀(H:AHeap) (cs:List Value) (vp:Value),RdV H v cs→RdK H 1 vp (keyC p)→
  AC Tryz.prog 49 [.agg ⟨cs⟩,vp] H (ParseP H (chR dropL v p))
 |[],v,hok,hp,hpl,hpn,H,cs,vp,hR,hP=>absurd rfl hpn
 | t ::p,v,hok,hp,hpl,hpn,H,cs,vp,hR,hP=>by
  have hfl:=RdV_flat hR
  have hr5:=hR.len
  have htk5:List.take 5 cs=cs:=List.take_of_length_le (by omega)
  obtain ⟨H1,hH1⟩:∃H1:AHeap,H1=H++ [.cells cs ⟨27,0,true,0,none⟩,.cells [.int .i64 0,.int .i64 0,.string (bs []),.slice none 0 0,.slice none 0 0] ⟨27,0,true,0,none⟩]:=⟨_,rfl⟩
  have hb0:H1[H.length]? =some (.cells cs ⟨27,0,true,0,none⟩):=by rw [hH1,hget0 rfl];rfl
  have hb2:H1[H.length+1]? =some zeroO:=by rw [hH1,hgetk rfl];rfl
  have hl1:H1.length=H.length+2:=by rw [hH1];simp
  have hf1:Frm [] H H1:=by rw [hH1];exact Frm.app
  have hk1:Kept H H1:=by rw [hH1];exact .more _ _
  have hC:=rCopied v hok.fine.sz H1 cs (hR.kept hk1)
  obtain ⟨i,o2,cap2,cs2,k2,rfl,hcap,hi,hown,hat,hz,hP2⟩:=RdK.tail hP
  have hplt:(0:Int)<((p.length+1:Nat):Int):=by omega
  refine AC.enter Tryz.func49 rfl (by kernel_rfl) 73 rfl [.cell 4 27,.tmp 5] rfl (by simp) fun hsc B=> ?_
  repeat first|with_reducible refine kc ?_|((with_reducible first|refine kr ?_ ?_|refine kt ?_ ?_);exact rfl)|((with_reducible refine kf ?_ ?_);exact rfl)|simp only [go_sem,sevalprocAttr,reduceCtorEq,hfl,hr5]|simp (disch:=omega) only [wz]
  rw [← hH1]
  repeat first|with_reducible refine kc ?_|((with_reducible first|refine kr ?_ ?_|refine kt ?_ ?_);exact rfl)|((with_reducible refine kf ?_ ?_);exact rfl)|simp only [go_sem,sevalprocAttr,reduceCtorEq,hb0,htk5,hr5]|simp (disch:=omega) only [wz]
  refine AC.mono hC ?_
  rintro res H2 ⟨cs',rfl,hO,hf2⟩
  have hc5:=hO.len
  have hcf:=hO.flat
  have htk':List.take 5 cs'=cs':=List.take_of_length_le (by omega)
  have hput':putCells cs 0 cs'=cs':=putCells_all (by omega)
  have hb02:=hf2.get hb0 (by simp)
  have hb22:=hf2.get hb2 (by simp)
  have hl2:=hf2.1
  have hbl2:=lt_of_get hb02
  obtain ⟨H3,hH3⟩:∃H3:AHeap,H3=H2.set H.length (.cells cs' ⟨27,0,true,0,none⟩):=⟨_,rfl⟩
  have hS:DrS H v cs' H3:=by
   refine ⟨?_,?_,?_,?_⟩
   ·rw [hH3]
    obtain ⟨vk,vs,css,e,h1,h2,h3⟩:=hO
    exact OwnS.set ⟨vk,vs,css,e,h1.sub (by omega),h2,h3.sub (by omega)⟩ (by omega) hb02 rfl _
   ·rw [hH3];exact Frm.set (hf1.trans hf2 (fun x hx=>by cases hx)) (.inr (Nat.le_refl _))
   ·rw [hH3,List.getElem?_set_self hbl2]
   ·rw [hH3,List.getElem?_set_ne (by omega)];exact hb22
  have hi3:H3[i]? =some (.cells cs2 k2):=hS.frm.get hi (by simp)
  obtain ⟨z,hSt,hSp⟩:=rStepO hok (hp t (by simp)) hS.own
  have hb3:=hS.hb
  repeat first|with_reducible refine AWP.seqE (x:= .region 2 _ _) (DrJ H v t (.slice (some ⟨i,o2,none⟩) (p.length+1) cap2)) ?_ ?_|with_reducible refine kc ?_|((with_reducible first|refine kr ?_ ?_|refine kt ?_ ?_);exact rfl)|((with_reducible refine kf ?_ ?_);exact rfl)|simp only [go_sem,sevalprocAttr,reduceCtorEq,hb02,hbl2,hr5,hc5,hcf,htk',hput']|simp (disch:=omega) only [wz]
  ·rw [← hH3]
   refine AWP.regionK 9 (by kernel_rfl) (by decide) (by kernel_rfl) ?_
   repeat first|with_reducible refine kc ?_|((with_reducible first|refine kr ?_ ?_|refine kt ?_ ?_);exact rfl)|((with_reducible refine kf ?_ ?_);exact rfl)|simp only [go_sem,sevalprocAttr,reduceCtorEq,hb3,hplt,hi3,hat,hc5,htk']|simp (disch:=omega) only [wz]
   refine ARet.exq (hSt) (by simp only [go_sem,sevalprocAttr,reduceCtorEq]) ?_
   repeat first|with_reducible refine kc ?_|((with_reducible first|refine kr ?_ ?_|refine kt ?_ ?_);exact rfl)|((with_reducible refine kf ?_ ?_);exact rfl)|simp only [go_sem,sevalprocAttr,reduceCtorEq]|simp (disch:=omega) only [wz]
   exact ⟨_,⟨cs',H3,z,hS,hSp,rfl⟩,Weak.env (by simp [envIn,lk_cons,wth_some])⟩
  rintro st ⟨cs',H3,z,hS,hSp,rfl⟩
  have hi3:H3[i]? =some (.cells cs2 k2):=hS.frm.get hi (by simp)
  have hb3:=hS.hb
  have hr3:=hS.hr
  have hk03:Kept H H3:=Kept.frm hS.frm (fun x hx=>by cases hx)
  have hP3:=hP2.kept hk03
  have hO3:=hS.own
  have hc5:=hO3.len
  have hcf:=hO3.flat
  rw [dropR_cons]
  by_cases e0:(stepR v t).2=0
  ·obtain ⟨n,hn,hie⟩:=stepR_ok hok.form e0
   have hz:=hSp.1 e0
   rw [hie] at hz
   subst hz
   rw [if_pos e0,e0,hie,Int.toNat_natCast,getD_mem hn]
   have hkind:=stepR_kind e0
   have hkid:=(hok.kid hkind hn).1
   obtain ⟨vk,vs,css,rfl,hp1,hL,hp3⟩:=hO3
   obtain ⟨ci,hci,hRi⟩:=hL.at_ (List.getElem?_eq_getElem hn)
   have hcl:=hL.len
   have hc55:=hL.all5
   obtain ⟨q1,z1,rfl,hq1,hz1,hlo1⟩:=id hp1
   have e00:((0:Int) != 0)=false:=rfl
   by_cases hp0:p=[]
   ·rw [if_pos hp0]
    have hkn:¬((p.length+1:Nat):Int)>1:=by rw [hp0];decide
    have hnl:n<css.length:=by have:n<v.kids.length:=hn;omega
    have hz5:z1=5:=by
     rcases hz1 with ⟨h,_⟩|⟨_,h⟩
     ·exact h
     ·rw [h] at hnl;exact absurd hnl (by simp)
    subst hz5
    have hflat:=RdL_flats hL
    have hkle:=hok.kids_le
    have htn:((n:Int)+1).toNat=n+1:=by omega
    have hfl3:=flat_len hc55
    have htk9:List.take ((css.length - (n+1))*5) (List.drop ((n+1)*5) css.flatten)=List.drop ((n+1)*5) css.flatten:=List.take_of_length_le (by rw [List.length_drop,hfl3,←Nat.sub_mul];exact Nat.le_refl _)
    have hdl:(List.drop ((n+1)*5) css.flatten).length=(css.length - (n+1))*5:=by rw [List.length_drop,hfl3,Nat.sub_mul]
    have hdf:(List.drop ((n+1)*5) css.flatten).all flat=true:=List.all_eq_true.2 fun x hx=>List.all_eq_true.1 hflat x (List.mem_of_mem_drop hx)
    have hbl3:=lt_of_get hb3
    have hrl3:=lt_of_get hr3
    have hl3:=hS.frm.1
    repeat first|with_reducible refine AWP.seqE (x:= .region 9 _ _) (Dr9 H H3 q1 n css v vs (.slice (some ⟨i,o2,none⟩) (p.length+1) cap2)) ?_ ?_|with_reducible refine kc ?_|((with_reducible first|refine kr ?_ ?_|refine kt ?_ ?_);exact rfl)|((with_reducible refine kf ?_ ?_);exact rfl)|simp only [go_sem,sevalprocAttr,reduceCtorEq,e00,hkn]|simp (disch:=omega) only [wz]
    ·refine AWP.regionK 10 (by kernel_rfl) (by decide) (by kernel_rfl) ?_
     repeat first|with_reducible refine kc ?_|((with_reducible first|refine kr ?_ ?_|refine kt ?_ ?_);exact rfl)|((with_reducible refine kf ?_ ?_);exact rfl)|simp only [go_sem,sevalprocAttr,reduceCtorEq,hb3,hq1,tight,htn,htk9,ite_self]|simp (disch:=omega) only [wz]
     refine ⟨by omega,by omega,rfl,by omega,by omega,by omega,by omega,hdf,hdl,?_⟩
     refine app_del (by decide) hq1 hc55 (by omega) (by omega) hnl (by omega) (by omega) rfl rfl fun q' H2 C h1 h2 h3 h4 h5=> ?_
     have hb4:H2[H.length]? =_:=(h3 _ (by omega) hbl3).trans hb3
     have hbl4:=lt_of_get hb4
     repeat first|with_reducible refine kc ?_|((with_reducible first|refine kr ?_ ?_|refine kt ?_ ?_);exact rfl)|((with_reducible refine kf ?_ ?_);exact rfl)|simp only [go_sem,sevalprocAttr,reduceCtorEq,hb4,hbl4,List.set_cons_succ,List.set_cons_zero]|simp (disch:=omega) only [wz]
     refine ⟨_,⟨q',C,_,h1,?_,fun j g1 g2 g3=> ?_,?_,h5,List.getElem?_set_self hbl4,rfl⟩,Weak.env (by simp [envIn,lk_cons,wth_some])⟩
     ·rw [List.getElem?_set_ne (by omega)];exact h2
     ·rw [List.getElem?_set_ne (Ne.symm g2)];exact h3 j g1 g3
     ·rw [List.length_set];exact h4
    rintro st ⟨q',C,H4,g1,g2,g3,g4,g5,g6,rfl⟩
    obtain ⟨q2,z2,rfl,hq2,hz2,hlo2⟩:=id hp3
    have hq12:q2≠q1:=fun e=>by
     rw [e,hq1] at hq2
     injection hq2 with h
     injection h with _ h
     injection h with h
     cases h
    have hq2l:=lt_of_get hq2
    have hq24:H4[q2]? =_:=(g3 q2 hq12 (by omega) hq2l).trans hq2
    have hr4:H4[H.length+1]? =some zeroO:=(g3 _ (by omega) (by omega) hrl3).trans hr3
    unfold zeroO at hr4
    have hkept:∀H5:AHeap,(∀ j,j≠q1→j≠q2→j≠H.length→j≠H.length+1→j<H3.length→H5[j]? =H3[j]?)→Kept H3 H5:=fun H5 hh j cs k hj ho=>by
     have e1:∀(a:Nat) (c2:List Value) (k2:CK),H3[a]? =some (.cells c2 k2)→k2.own=true→j≠a:=fun a c2 k2 ha hk2 e=>by
      rw [e,ha] at hj
      injection hj with hj
      injection hj with _ hj
      rw [← hj,hk2] at ho
      cases ho
     rw [hh j (e1 _ _ _ hq1 rfl) (e1 _ _ _ hq2 rfl) (e1 _ _ _ hb3 rfl) (e1 _ _ _ hr3 rfl) (lt_of_get hj)]
     exact hj
    have h5s:∀c∈css.eraseIdx n,c.length=5:=fun c hc=>hc55 c (List.mem_of_mem_eraseIdx hc)
    have hel:(css.eraseIdx n).length=css.length - 1:=List.length_eraseIdx_of_lt hnl
    by_cases hk4:v.kind=4
    ·have hk4':(v.kind==4)=true:=by simpa using hk4
     have hkk:=(form_asc' hok.form hk4).2
     have hk55:=keyC_len1 v.keys
     have hkcl:(keyC v.keys).length=v.keys.length:=by unfold keyC;rw [List.length_map]
     have hkera:=keyC_era v.keys n
     have hkflat:(keyC v.keys).flatten.all flat=true:=by rw [keyC_flat];exact strsC_flat _
     have hvt:(if v.kind=4 then v.keys.eraseIdx n else v.keys)=v.keys.eraseIdx n:=if_pos hk4
     rw [hvt]
     unfold withL
     generalize hks:keyC v.keys=ks at*
     have hnk:n<ks.length:=by omega
     have hz1':z2=1:=by
      rcases hz2 with ⟨h,_⟩|⟨_,h⟩
      ·exact h
      ·rw [h] at hnk;exact absurd hnk (by simp)
     subst hz1'
     have hfk3:ks.flatten.length=ks.length:=by rw [flat_len hk55,Nat.mul_one]
     have htk9k:List.take (ks.length - (n+1)) (List.drop (n+1) ks.flatten)=List.drop (n+1) ks.flatten:=List.take_of_length_le (by rw [List.length_drop,hfk3];exact Nat.le_refl _)
     have hdlk:(List.drop (n+1) ks.flatten).length=ks.length - (n+1):=by rw [List.length_drop,hfk3]
     have hdfk:(List.drop (n+1) ks.flatten).all flat=true:=List.all_eq_true.2 fun x hx=>List.all_eq_true.1 hkflat x (List.mem_of_mem_drop hx)
     have hbl4:=lt_of_get g6
     have hrl4:=lt_of_get hr4
     repeat first|with_reducible refine kc ?_|((with_reducible first|refine kr ?_ ?_|refine kt ?_ ?_);exact rfl)|((with_reducible refine kf ?_ ?_);exact rfl)|simp only [go_sem,sevalprocAttr,reduceCtorEq,hk4',g6]|simp (disch:=omega) only [wz]
     refine AWP.regionK 10 (by kernel_rfl) (by decide) (by kernel_rfl) ?_
     repeat first|with_reducible refine kc ?_|((with_reducible first|refine kr ?_ ?_|refine kt ?_ ?_);exact rfl)|((with_reducible refine kf ?_ ?_);exact rfl)|simp only [go_sem,sevalprocAttr,reduceCtorEq,g6,hq24,tight,htn,htk9k,ite_self]|simp (disch:=omega) only [wz]
     refine ⟨by omega,by omega,rfl,by omega,by omega,by omega,by omega,hdfk,hdlk,?_⟩
     refine app_del (by decide) hq24 hk55 (by omega) (by omega) hnk (by omega) (by omega) (by rw [Nat.mul_one]) rfl fun q'' H2 C' f1 f2 f3 f4 f5=> ?_
     have hb4:H2[H.length]? =_:=(f3 _ (by omega) hbl4).trans g6
     have hbl5:=lt_of_get hb4
     have hr5':H2[H.length+1]? =_:=(f3 _ (by omega) hrl4).trans hr4
     have hrl5:=lt_of_get hr5'
     have hq'l:=lt_of_get g2
     have hq'5:H2[q']? =_:=(f3 q' (by omega) hq'l).trans g2
     have k1:∀o:AObj,(H2.set H.length o)[H.length]? =some o:=fun o=>List.getElem?_set_self hbl5
     have k2:∀o:AObj,(H2.set H.length o)[H.length+1]? =some (.cells [.int .i64 0,.int .i64 0,.string (bs []),.slice none 0 0,.slice none 0 0] ⟨27,0,true,0,none⟩):=fun o=>by rw [List.getElem?_set_ne (by omega)];exact hr5'
     have k3:∀o:AObj,H.length+1<(H2.set H.length o).length:=fun o=>by rw [List.length_set];exact hrl5
     have k4:∀o o':AObj,((H2.set H.length o).set (H.length+1) o')[H.length+1]? =some o':=fun o o'=>List.getElem?_set_self (k3 o)
     repeat first|with_reducible refine kc ?_|((with_reducible first|refine kr ?_ ?_|refine kt ?_ ?_);exact rfl)|((with_reducible refine kf ?_ ?_);exact rfl)|simp only [go_sem,sevalprocAttr,reduceCtorEq,hb4,hbl5,k1,k2,k3,k4,putCells,List.set_cons_succ,List.set_cons_zero]|simp (disch:=omega) only [wz]
     have hF:∀(o o':AObj) (j:Nat),j≠H.length→j≠H.length+1→((H2.set H.length o).set (H.length+1) o')[j]? =H2[j]? :=fun o o' j h h'=>by rw [List.getElem?_set_ne (Ne.symm h'),List.getElem?_set_ne (Ne.symm h)]
     refine ⟨_,_,WeakV.fz [q',q''] _,_,rfl,fz_frm ⟨by rw [List.length_set,List.length_set];omega,fun j hj hn=>by rw [hF _ _ _ (by omega) (by omega),f3 j (by omega) (by omega),g3 j (by omega) (by omega) (by omega)];exact hS.frm.2 j hj (by simp)⟩ (fun s hs=>by
      simp only [List.mem_cons,List.not_mem_nil,or_false] at hs
      rcases hs with rfl|rfl<;> omega),?_⟩
     show RdV _ (BV.mk v.kind v.num v.text (v.kids.eraseIdx n) (v.keys.eraseIdx n)) _
     unfold RdV
     rw [hkera]
     have hek:(ks.eraseIdx n).length=ks.length - 1:=List.length_eraseIdx_of_lt hnk
     refine ⟨_,_,css.eraseIdx n,rfl,rd_rows (k:=⟨27,5,true,0,none⟩) (by rw [hF _ _ _ (by omega) (by omega)];exact hq'5) (.inl rfl) (by simp) h5s hel (Nat.le_refl _),?_,?_⟩
     ·exact RdL.erase (hL.kept ((hkept _ fun j h1 h2 h3 h4 h5=>by rw [hF _ _ _ h3 h4,f3 j h2 (by omega)];exact g3 j h1 h3 h5).trans (fz_kept _ _)))
     ·exact rd_rows (k:=⟨9,1,true,0,none⟩) (by rw [hF _ _ _ (by omega) (by omega)];exact f2) (.inl rfl) (by simp) (fun c hc=>hk55 c (List.mem_of_mem_eraseIdx hc)) hek (Nat.le_refl _)
    ·have hk4':(v.kind==4)=false:=by simpa using hk4
     have hbl4:=lt_of_get g6
     have hrl4:=lt_of_get hr4
     have hrs:∀o:AObj,(H4.set (H.length+1) o)[H.length+1]? =some o:=fun o=>List.getElem?_set_self hrl4
     repeat first|with_reducible refine kc ?_|((with_reducible first|refine kr ?_ ?_|refine kt ?_ ?_);exact rfl)|((with_reducible refine kf ?_ ?_);exact rfl)|simp only [go_sem,sevalprocAttr,reduceCtorEq,hk4',g6,hr4,hrl4,hrs,putCells,List.set_cons_succ,List.set_cons_zero]|simp (disch:=omega) only [wz]
     have hF:∀(o:AObj) (j:Nat),j≠H.length+1→(H4.set (H.length+1) o)[j]? =H4[j]? :=fun o j h=>List.getElem?_set_ne (Ne.symm h)
     refine ⟨_,_,WeakV.fz [q',q2] _,_,rfl,fz_frm ⟨by rw [List.length_set];omega,fun j hj hn=>by rw [hF _ _ (by omega),g3 j (by omega) (by omega) (by omega)];exact hS.frm.2 j hj (by simp)⟩ (fun s hs=>by
      simp only [List.mem_cons,List.not_mem_nil,or_false] at hs
      rcases hs with rfl|rfl<;> omega),?_⟩
     show RdV _ (withL v (v.kids.eraseIdx n) (if v.kind=4 then v.keys.eraseIdx n else v.keys)) _
     rw [if_neg hk4]
     unfold withL
     unfold RdV
     refine ⟨_,_,css.eraseIdx n,rfl,rd_rows (k:=⟨27,5,true,0,none⟩) (by rw [hF _ _ (by omega)];exact g2) (.inl rfl) (by simp) h5s hel (Nat.le_refl _),?_,?_⟩
     ·exact RdL.erase (hL.kept ((hkept _ fun j h1 h2 h3 h4 h5=>by rw [hF _ _ h4];exact g3 j h1 h3 h5).trans (fz_kept _ _)))
     ·exact rd_rows (C:=[]) (k:=⟨9,z2,true,0,none⟩) (by rw [List.append_nil,hF _ _ (by omega)];exact hq24) (by rcases hz2 with ⟨h,_⟩|⟨h,_⟩<;> simp [h]) (by simp) (keyC_len1 _) rfl (Nat.le_refl _)
   rw [if_neg hp0]
   have hkl:((p.length+1:Nat):Int)>1:=by have:=List.length_pos_iff.2 hp0;omega
   have hih:=fun (G:AHeap) (hk:Kept H3 G)=>rDrop p v.kids[n] hkid (fun u hu=>hp u (by simp [hu])) (by simp at hpl;omega) hp0 G ci _ (hRi.kept hk) (hP3.kept hk)
   generalize v.kids[n]=kid at*
   generalize chR dropL kid p=R at*
   repeat first|with_reducible refine AWP.seqE (x:= .region 6 _ _) (DrK H n R H3) ?_ ?_|with_reducible refine kc ?_|((with_reducible first|refine kr ?_ ?_|refine kt ?_ ?_);exact rfl)|((with_reducible refine kf ?_ ?_);exact rfl)|simp only [go_sem,sevalprocAttr,reduceCtorEq,e00,hkl]|simp (disch:=omega) only [wz]
   ·refine AWP.regionU 7 spDr (BL [(2,.pointer (some ⟨H.length,0,none⟩)),(6,.int .i64 (n:Nat)),(1,.slice (some ⟨i,o2,none⟩) (p.length+1) cap2),(4,.pointer (some ⟨H.length+1,0,none⟩)),(5,.int .i64 0)] [] H3) (RV tmDr (QDr H3.length H.length n q1 (.slice (some ⟨q1,0,none⟩) css.length css.length) (.slice (some ⟨i,o2,none⟩) (p.length+1) cap2) (.slice (some ⟨i,o2+1,none⟩) p.length (cap2 - 1)) ci R.1 R.2)) (fun _ _ _=>True) (by kernel_rfl) (by kernel_rfl) (by kernel_rfl) (BL.of (by simp [envIn,lk_cons,wth_some]) (Frm.refl _ _)) (fun _ _=>trivial) ⟨?_,?_,?_,?_,?_,?_,?_,?_,?_,?_,?_,?_,?_,?_,trivial⟩ ?_
    ·intro E HE hB hd hu
     have b3:lk 2 E=some (.pointer (some ⟨H.length,0,none⟩)):=hB.1 _ _ (by simp)
     simp only [go_sem,sevalprocAttr,reduceCtorEq,b3]
     exact UPost.more (tm:=tmDr) (j:=0) QDr.more (by kernel_rfl) hB (by rfl) (Frm.refl _ _) rfl
    ·intro E HE hB hd hu
     obtain ⟨_,g1,rfl⟩:=hd 0 (by decide) (.inl rfl)
     have hbe:=hB.2.get hb3 (by simp)
     have g1:lk 28 E=_:=g1
     simp only [go_sem,sevalprocAttr,reduceCtorEq,g1,hbe]
     exact UPost.more (tm:=tmDr) (j:=1) QDr.more (by kernel_rfl) hB (by rfl) (Frm.refl _ _) rfl
    ·intro E HE hB hd hu
     have b8:lk 6 E=some (.int .i64 (n:Nat)):=hB.1 _ _ (by simp)
     simp only [go_sem,sevalprocAttr,reduceCtorEq,b8]
     exact UPost.more (tm:=tmDr) (j:=2) QDr.more (by kernel_rfl) hB (by rfl) (Frm.refl _ _) rfl
    ·intro E HE hB hd hu
     obtain ⟨_,g1,rfl⟩:=hd 1 (by decide) (.inl rfl)
     obtain ⟨_,g2,rfl⟩:=hd 2 (by decide) (.inl rfl)
     have g1:lk 29 E=_:=g1
     have g2:lk 30 E=_:=g2
     have hnl:(n:Int)<(css.length:Int):=by have:n<v.kids.length:=hn;omega
     simp only [go_sem,sevalprocAttr,reduceCtorEq,g1,g2,hnl]
     exact UPost.more (tm:=tmDr) (j:=3) QDr.more (by kernel_rfl) hB (by rfl) (Frm.refl _ _) rfl
    ·intro E HE hB hd hu
     obtain ⟨_,g1,rfl⟩:=hd 3 (by decide) (.inl rfl)
     have g1:lk 31 E=_:=g1
     have hqe:=hB.2.get hq1 (by simp)
     have htk:=flat_at hc55 hci
     have hle:n*5+5≤css.flatten.length:=by have:n<v.kids.length:=hn;rw [flat_len hc55];omega
     simp only [go_sem,sevalprocAttr,reduceCtorEq,g1,hqe,htk,hle]
     exact UPost.more (tm:=tmDr) (j:=4) QDr.more (by kernel_rfl) hB (by rfl) (Frm.refl _ _) rfl
    ·intro E HE hB hd hu
     have b1:lk 1 E=some (.slice (some ⟨i,o2,none⟩) (p.length+1) cap2):=hB.1 _ _ (by simp)
     simp only [go_sem,sevalprocAttr,reduceCtorEq,b1]
     exact UPost.more (tm:=tmDr) (j:=5) QDr.more (by kernel_rfl) hB (by rfl) (Frm.refl _ _) rfl
    ·intro E HE hB hd hu
     obtain ⟨_,g1,rfl⟩:=hd 5 (by decide) (.inl rfl)
     have g1:lk 33 E=_:=g1
     have hie3:=hB.2.get hi3 (by simp)
     simp only [go_sem,sevalprocAttr,reduceCtorEq,g1,hie3,tight,hz]
     refine ⟨by omega,by omega,?_⟩
     exact UPost.more (tm:=tmDr) (j:=6) QDr.more (by kernel_rfl) hB (by rfl) (Frm.refl _ _) rfl
    ·intro E HE hB hd hu
     obtain ⟨_,g1,rfl⟩:=hd 4 (by decide) (.inl rfl)
     obtain ⟨_,g2,rfl⟩:=hd 6 (by decide) (.inl rfl)
     have g1:lk 32 E=_:=g1
     have g2:lk 34 E=_:=g2
     simp only [go_sem,sevalprocAttr,reduceCtorEq,g1,g2]
     refine AC.mono (hih HE (Kept.frm hB.2 (fun x hx=>by cases hx))) ?_
     rintro res H5 ⟨ck,rfl,hf5,hR5⟩
     simp only [go_sem,sevalprocAttr,reduceCtorEq]
     exact UPost.more (tm:=tmDr) (j:=7) QDr.more (by kernel_rfl) hB (by rfl) hf5 ⟨ck,rfl,hR5⟩
    ·intro E HE hB hd hu
     obtain ⟨_,g1,ck,rfl,hk⟩:=hd 7 (by decide) (.inl rfl)
     have g1:lk 35 E=_:=g1
     simp only [go_sem,sevalprocAttr,reduceCtorEq,g1]
     exact UPost.more (tm:=tmDr) (j:=8) QDr.more (by kernel_rfl) hB (by rfl) (Frm.refl _ _) ⟨ck,rfl,hk⟩
    ·intro E HE hB hd hu
     obtain ⟨_,g1,ck,rfl,hk⟩:=hd 8 (by decide) (.inl rfl)
     have g1:lk 27 E=_:=g1
     simp only [go_sem,sevalprocAttr,reduceCtorEq,g1]
     exact UPost.more (tm:=tmDr) (j:=9) QDr.more (by kernel_rfl) hB (by rfl) (Frm.refl _ _) ⟨ck,rfl,hk⟩
    ·intro E HE hB hd hu
     obtain ⟨_,g1,ck,rfl,hk⟩:=hd 8 (by decide) (.inl rfl)
     have g1:lk 27 E=_:=g1
     simp only [go_sem,sevalprocAttr,reduceCtorEq,g1]
     exact UPost.more (tm:=tmDr) (j:=10) QDr.more (by kernel_rfl) hB (by rfl) (Frm.refl _ _) rfl
    ·intro E HE hB hd hu
     simp only [go_sem,sevalprocAttr,reduceCtorEq]
     exact UPost.more (tm:=tmDr) (j:=11) QDr.more (by kernel_rfl) hB (by rfl) Frm.app ⟨HE.length,_,rfl,by rw [hget0 rfl];rfl,rfl,hB.2.1⟩
    ·intro E HE hB hd hu
     obtain ⟨_,g1,ck,rfl,hk⟩:=hd 9 (by decide) (.inl rfl)
     obtain ⟨_,g2,q,c0,rfl,g3,g4,g5⟩:=hd 11 (by decide) (.inr rfl)
     have g1:lk 36 E=_:=g1
     have g2:lk 8 E=_:=g2
     have hk5:=hk.len
     have hkf:=RdV_flat hk
     have htkk:List.take 5 ck=ck:=List.take_of_length_le (by omega)
     have hputk:putCells c0 0 ck=ck:=putCells_all (by omega)
     simp only [go_sem,sevalprocAttr,reduceCtorEq,g1,g2,g3,g4,hk5,hkf,htkk,hputk]
     refine UPost.none hB (Frm.set hB.2 (.inr g5)) ⟨_,g2,q,ck,rfl,List.getElem?_set_self (lt_of_get g3),hk.kept (Kept.set g3 rfl _),g5⟩ (fun a w _ h1 h2 _ h=>QDr.kept a w _ _ ⟨fun e=>h2 (by rw [e];rfl),h1⟩ h (Kept.set g3 rfl _)) (fun _ _ _ _=>trivial)
    ·intro E HE hB hd hu
     obtain ⟨_,g1,rfl⟩:=hd 10 (by decide) (.inl rfl)
     have g1:lk 37 E=_:=g1
     simp only [go_sem,sevalprocAttr,reduceCtorEq,g1]
     exact UPost.more (tm:=tmDr) (j:=13) QDr.more (by kernel_rfl) hB (by rfl) (Frm.refl _ _) rfl
    ·intro E HE hB hd
     obtain ⟨_,g1,q,ck,rfl,g2,g3,g4⟩:=hd 12 (by decide) rfl
     obtain ⟨_,g5,rfl⟩:=hd 13 (by decide) rfl
     have g1:lk 8 E=_:=g1
     have g5:lk 9 E=_:=g5
     have b3:lk 2 E=some (.pointer (some ⟨H.length,0,none⟩)):=hB.1 _ _ (by simp)
     have b6:lk 4 E=some (.pointer (some ⟨H.length+1,0,none⟩)):=hB.1 _ _ (by simp)
     have b7:lk 5 E=some (.int .i64 0):=hB.1 _ _ (by simp)
     have b8:lk 6 E=some (.int .i64 (n:Nat)):=hB.1 _ _ (by simp)
     exact ⟨_,⟨q,ck,HE,hB.2,g2,g3,g4,rfl⟩,Weak.env (by simp [envIn,wth_some,g1,g5,b3,b6,b7,b8])⟩
   ·rintro st ⟨q,ck,H5,hf5,hq,hRk,hlq,rfl⟩
    have hb5:=hf5.get hb3 (by simp)
    have hq15:=hf5.get hq1 (by simp)
    have hr5':=hf5.get hr3 (by simp)
    unfold zeroO at hr5'
    have hk5:=hRk.len
    have hkf:=RdV_flat hRk
    have htkk:List.take 5 ck=ck:=List.take_of_length_le (by omega)
    have hnk:n<v.kids.length:=hn
    have hnl:(n:Int)<(css.length:Int):=by omega
    have hps:putCells css.flatten (n*5) ck=(css.set n ck).flatten:=flat_set hc55 hk5 (by omega)
    have hle:n*5+5≤css.flatten.length:=by rw [flat_len hc55];omega
    have hqb:q1≠H.length:=by omega
    have hql:=lt_of_get hq15
    have hl5:=hf5.1
    have hbl3:=lt_of_get hr3
    have hb6:∀o:AObj,(H5.set q1 o)[H.length]? =some (.cells [.int .i64 v.kind,.int .i64 v.num,.string (bs v.text),.slice (some ⟨q1,0,none⟩) css.length css.length,vs] ⟨27,0,true,0,none⟩):=fun o=>by rw [List.getElem?_set_ne hqb];exact hb5
    have hr6:∀o:AObj,(H5.set q1 o)[H.length+1]? =some (.cells [.int .i64 0,.int .i64 0,.string (bs []),.slice none 0 0,.slice none 0 0] ⟨27,0,true,0,none⟩):=fun o=>by rw [List.getElem?_set_ne (by omega)];exact hr5'
    have hrl:∀o:AObj,H.length+1<(H5.set q1 o).length:=fun o=>by rw [List.length_set];omega
    have hrs:∀o o2:AObj,((H5.set q1 o).set (H.length+1) o2)[H.length+1]? =some o2:=fun o o2=>List.getElem?_set_self (hrl o)
    obtain ⟨q2,z2,rfl,hq2,hz2,hlo2⟩:=id hp3
    have hq12:q2≠q1:=fun e=>by
     rw [e,hq1] at hq2
     injection hq2 with h
     injection h with _ h
     injection h with h
     cases h
    repeat first|with_reducible refine kc ?_|((with_reducible first|refine kr ?_ ?_|refine kt ?_ ?_);exact rfl)|((with_reducible refine kf ?_ ?_);exact rfl)|simp only [go_sem,sevalprocAttr,reduceCtorEq,hb5,hq,hq15,htkk,hk5,hkf,hnl,hle,hb6,hr6,hrl,hrs,putCells,List.set_cons_succ,List.set_cons_zero]|simp (disch:=omega) only [wz]
    have hk35:Kept H3 H5:=Kept.frm hf5 (fun x hx=>by cases hx)
    have hF:∀(o1 o2:AObj) (j:Nat),j≠q1→j≠H.length+1→((H5.set q1 o1).set (H.length+1) o2)[j]? =H5[j]? :=fun o1 o2 j h1 h2=>by rw [List.getElem?_set_ne (Ne.symm h2),List.getElem?_set_ne (Ne.symm h1)]
    have hF1:∀(o1 o2:AObj),((H5.set q1 o1).set (H.length+1) o2)[q1]? =some o1:=fun o1 o2=>by rw [List.getElem?_set_ne (by omega)];exact List.getElem?_set_self hql
    have hkF:∀(o1 o2:AObj),Kept H5 ((H5.set q1 o1).set (H.length+1) o2):=fun o1 o2=>(Kept.set hq15 rfl _).trans (Kept.set (hr6 o1) rfl _)
    have h5s:∀c∈css.set n ck,c.length=5:=fun c hc=>by
     rcases List.mem_or_eq_of_mem_set hc with h|rfl
     ·exact hc55 c h
     ·exact hk5
    refine ⟨_,_,WeakV.fz [q1,q2] _,_,rfl,fz_frm (Frm.set (Frm.set (hS.frm.trans hf5 (fun x hx=>by cases hx)) (.inr (by omega))) (.inr (by omega))) (fun s hs=>by
     simp only [List.mem_cons,List.not_mem_nil,or_false] at hs
     rcases hs with rfl|rfl<;> omega),?_⟩
    show RdV _ (withL v (v.kids.set n R.1) v.keys) _
    unfold withL
    unfold RdV
    refine ⟨_,_,css.set n ck,rfl,rd_rows (C:=[]) (k:=⟨27,z1,true,0,none⟩) (by rw [List.append_nil,hF1,hps]) (by rcases hz1 with ⟨h,_⟩|⟨h,_⟩<;> simp [h]) (by simp) h5s (by simp) (Nat.le_refl _),?_,?_⟩
    ·exact RdL.set ((hL.kept hk35).kept ((hkF _ _).trans (fz_kept _ _))) (hRk.kept ((hkF _ _).trans (fz_kept _ _)))
    ·refine rd_rows (C:=[]) (k:=⟨9,z2,true,0,none⟩) (by rw [List.append_nil,hF _ _ q2 hq12 (by omega)];exact hf5.get hq2 (by simp)) (by rcases hz2 with ⟨h,_⟩|⟨h,_⟩<;> simp [h]) (by simp) (keyC_len1 _) rfl (Nat.le_refl _)
  ·rw [if_neg e0]
   obtain ⟨T,hT,hTr⟩:=hO3.rd
   obtain ⟨e,he⟩:∃e,e=(stepR v t).2:=⟨_,rfl⟩
   rw [← he] at e0 ⊢
   have he0:(e != 0)=true:=by simpa using e0
   have htk':List.take 5 cs'=cs':=List.take_of_length_le (by omega)
   have hput:putCells [Value.int .i64 0,.int .i64 0,.string (bs []),.slice none 0 0,.slice none 0 0] 0 cs'=cs':=putCells_all (by rw [hc5];rfl)
   have hr3':=hr3
   unfold zeroO at hr3'
   have hbl3:=lt_of_get hr3
   have hrs:∀o:AObj,(H3.set (H.length+1) o)[H.length+1]? =some o:=fun o=>List.getElem?_set_self hbl3
   repeat first|with_reducible refine kc ?_|((with_reducible first|refine kr ?_ ?_|refine kt ?_ ?_);exact rfl)|((with_reducible refine kf ?_ ?_);exact rfl)|simp only [go_sem,sevalprocAttr,reduceCtorEq,he0,hb3,hr3',hbl3,hrs,htk',hput,hc5,hcf]|simp (disch:=omega) only [wz]
   exact ⟨_,_,WeakV.fz T _,_,rfl,fz_frm (Frm.set hS.frm (.inr (by omega))) (fun s hs=>by have:=(hT s hs).1;omega),hTr _ (Kept.set hr3 rfl _) (fun q h1 h2=>List.getElem?_set_ne (by omega))⟩
end Go.Proofs.YthcdjconlfdidaaGreatDoor
