/-
 The walk of the specification's put.
-/
import Derived.Test.YthcdjconlfdidaaGreatDoorQU
set_option linter.unusedVariables false
set_option linter.unusedSimpArgs false
set_option maxRecDepth 20000
set_option maxHeartbeats 4000000
namespace Go.Proofs.YthcdjconlfdidaaGreatDoor
open Go Go.Aw Go.Proofs
def QPut (lo b n q1:Nat) (vk vp vt:Value) (ci csx:List Value) (w:BV) (e:Int) (i:Nat) (v:Value) (H:AHeap):Prop:=
 match i with
 |0=>v= .pointer (some ⟨b,3,none⟩)
 |1=>v=vk
 |2=>v= .int .i64 (n:Nat)
 |3=>v= .pointer (some ⟨q1,n*5,none⟩)
 |4=>v= .agg ⟨ci⟩
 |5=>v=vp
 |6=>v=vt
 |7=>v= .agg ⟨csx⟩
 |8=>∃ck,v= .tuple ⟨[.agg ⟨ck⟩,.int .i64 e]⟩∧RdV H w ck
 |9=>∃ck,v= .tuple ⟨[.agg ⟨ck⟩,.int .i64 e]⟩∧RdV H w ck
 |10=>∃ck,v= .agg ⟨ck⟩∧RdV H w ck
 |11=>v= .int .i64 e
 |12=>∃q c0,v= .pointer (some ⟨q,0,none⟩)∧H[q]? =some (.cells c0 ⟨27,0,true,0,none⟩)∧c0.length=5∧lo≤q
 |13=>∃q ck,v= .pointer (some ⟨q,0,none⟩)∧H[q]? =some (.cells ck ⟨27,0,true,0,none⟩)∧RdV H w ck∧lo≤q
 |14=>v= .int .i64 e
 |_=>True
def tmPut:Nat→Nat
 |0=>30|1=>31|2=>32|3=>33|4=>34|5=>35|6=>36|7=>37|8=>38|9=>29|10=>39|11=>40|12=>10|13=>10|_=>11
def spPut:Nat→Option Nat
 |12=>some 13
 |_=>none
theorem QPut.more {lo b n q1:Nat} {vk vp vt:Value} {ci csx:List Value} {w:BV} {e:Int} (i:Nat) (v:Value) (H H2:AHeap) (h:QPut lo b n q1 vk vp vt ci csx w e i v H) (hf:Frm [] H H2):QPut lo b n q1 vk vp vt ci csx w e i v H2:=by
 have hk:Kept H H2:=Kept.frm hf (fun x hx=>by cases hx)
 match i with
 |0=>exact h
 |1=>exact h
 |2=>exact h
 |3=>exact h
 |4=>exact h
 |5=>exact h
 |6=>exact h
 |7=>exact h
 |8=>obtain ⟨ck,h1,h2⟩:=h;exact ⟨ck,h1,h2.kept hk⟩
 |9=>obtain ⟨ck,h1,h2⟩:=h;exact ⟨ck,h1,h2.kept hk⟩
 |10=>obtain ⟨ck,h1,h2⟩:=h;exact ⟨ck,h1,h2.kept hk⟩
 |11=>exact h
 |12=>obtain ⟨q,c0,h1,h2,h3⟩:=h;exact ⟨q,c0,h1,hf.get h2 (by simp),h3⟩
 |13=>obtain ⟨q,ck,h1,h2,h3,h4⟩:=h;exact ⟨q,ck,h1,hf.get h2 (by simp),h3.kept hk,h4⟩
 |14=>exact h
 |_+15=>trivial
theorem QPut.kept {lo b n q1:Nat} {vk vp vt:Value} {ci csx:List Value} {w:BV} {e:Int} (i:Nat) (v:Value) (H H2:AHeap) (hi:i≠12∧i≠13) (h:QPut lo b n q1 vk vp vt ci csx w e i v H) (hk:Kept H H2):QPut lo b n q1 vk vp vt ci csx w e i v H2:=by
 match i with
 |0=>exact h
 |1=>exact h
 |2=>exact h
 |3=>exact h
 |4=>exact h
 |5=>exact h
 |6=>exact h
 |7=>exact h
 |8=>obtain ⟨ck,h1,h2⟩:=h;exact ⟨ck,h1,h2.kept hk⟩
 |9=>obtain ⟨ck,h1,h2⟩:=h;exact ⟨ck,h1,h2.kept hk⟩
 |10=>obtain ⟨ck,h1,h2⟩:=h;exact ⟨ck,h1,h2.kept hk⟩
 |11=>exact h
 |12=>exact absurd rfl hi.1
 |13=>exact absurd rfl hi.2
 |14=>exact h
 |_+15=>trivial
def PutK (H:AHeap) (n:Nat) (R:BV×Int) (H3:AHeap) (st:ASt):Prop:=
 ∃q ck H5,Frm [] H3 H5∧H5[q]? =some (.cells ck ⟨27,0,true,0,none⟩)∧RdV H5 R.1 ck∧H3.length≤q∧
  st=⟨[(10,.pointer (some ⟨q,0,none⟩)),(11,.int .i64 R.2),(8,.int .i64 (n:Nat)),(3,.pointer (some ⟨H.length,0,none⟩)),(6,.pointer (some ⟨H.length+2,0,none⟩)),(7,.int .i64 0)],[],H5⟩
theorem rPut (x:BV):∀(p:List Tx) (v:BV),OkV v→ (∀ u∈p,u.length≤1099511627776)→p.length≤1099511627776→∀(H:AHeap) (cs csx:List Value) (vp:Value),RdV H v cs→RdV H x csx→RdK H 1 vp (keyC p)→
  AC Tryz.prog 45 [.agg ⟨cs⟩,vp,.agg ⟨csx⟩] H (ParseP H (putR x v p))
 |[],v,hok,hp,hpl,H,cs,csx,vp,hR,hRx,hP=>by
  have hfl:=RdV_flat hR
  have hr5:=hR.len
  have hflx:=RdV_flat hRx
  have hr5x:=hRx.len
  have htk5x:List.take 5 csx=csx:=List.take_of_length_le (by omega)
  obtain ⟨H1,hH1⟩:∃H1:AHeap,H1=H++ [.cells cs ⟨27,0,true,0,none⟩,.cells csx ⟨27,0,true,0,none⟩,.cells [.int .i64 0,.int .i64 0,.string (bs []),.slice none 0 0,.slice none 0 0] ⟨27,0,true,0,none⟩]:=⟨_,rfl⟩
  have hb1:H1[H.length+1]? =some (.cells csx ⟨27,0,true,0,none⟩):=by rw [hH1,hgetk rfl];rfl
  have hb2:H1[H.length+2]? =some (.cells [.int .i64 0,.int .i64 0,.string (bs []),.slice none 0 0,.slice none 0 0] ⟨27,0,true,0,none⟩):=by rw [hH1,hgetk rfl];rfl
  have hl1:H1.length=H.length+3:=by rw [hH1];simp
  have hbl:H.length+2<H1.length:=by omega
  have hput:putCells [Value.int .i64 0,.int .i64 0,.string (bs []),.slice none 0 0,.slice none 0 0] 0 csx=csx:=putCells_all (by rw [hr5x];rfl)
  have g2:∀o:AObj,(H1.set (H.length+2) o)[H.length+2]? =some o:=fun o=>List.getElem?_set_self hbl
  have hf1:Frm [] H H1:=by rw [hH1];exact Frm.app
  have q1:∀H' K,lenW Tryz.prog 22 vp H' K=K (.int .i64 (0:Nat)) H':=fun H' K=>hP.lenT (by simp only [go_sem,sevalprocAttr,reduceCtorEq])
  rw [putR_nil]
  refine AC.enter Tryz.func45 rfl (by kernel_rfl) 128 rfl [.cell 6 27,.tmp 7] rfl (by simp) fun hsc B=> ?_
  repeat first|with_reducible refine kc ?_|((with_reducible first|refine kr ?_ ?_|refine kt ?_ ?_);exact rfl)|((with_reducible refine kf ?_ ?_);exact rfl)|simp only [go_sem,sevalprocAttr,reduceCtorEq,hfl,hr5,hflx,hr5x]|simp (disch:=omega) only [wz]
  rw [← hH1]
  repeat first|with_reducible refine kc ?_|((with_reducible first|refine kr ?_ ?_|refine kt ?_ ?_);exact rfl)|((with_reducible refine kf ?_ ?_);exact rfl)|simp only [go_sem,sevalprocAttr,reduceCtorEq,q1,hb1,hb2,htk5x,hr5x,hflx,hput,hbl,g2]|simp (disch:=omega) only [wz]
  exact ⟨_,_,.refl _ _ _,_,rfl,Frm.set hf1 (.inr (by omega)),hRx.kept ((Kept.frm hf1 (fun x hx=>by cases hx)).trans (Kept.set hb2 rfl _))⟩
 | t :: p,v,hok,hp,hpl,H,cs,csx,vp,hR,hRx,hP=>by
  by_cases hcase:p=[]∧v.kind=4∧(stepR v t).2=8
  ·obtain ⟨hp0,hk4,h8⟩:=hcase
   subst hp0
   rw [putR_cons,if_neg (by rw [h8];decide),if_pos rfl]
   exact rPutIns x v t hok (hp t (by simp)) hk4 h8 H cs csx vp hR hRx hP
  have hfl:=RdV_flat hR
  have hr5:=hR.len
  have htk5:List.take 5 cs=cs:=List.take_of_length_le (by omega)
  have hflx:=RdV_flat hRx
  have hr5x:=hRx.len
  have htk5x:List.take 5 csx=csx:=List.take_of_length_le (by omega)
  obtain ⟨H1,hH1⟩:∃H1:AHeap,H1=H++ [.cells cs ⟨27,0,true,0,none⟩,.cells csx ⟨27,0,true,0,none⟩,.cells [.int .i64 0,.int .i64 0,.string (bs []),.slice none 0 0,.slice none 0 0] ⟨27,0,true,0,none⟩]:=⟨_,rfl⟩
  have hb0:H1[H.length]? =some (.cells cs ⟨27,0,true,0,none⟩):=by rw [hH1,hget0 rfl];rfl
  have hb1:H1[H.length+1]? =some (.cells csx ⟨27,0,true,0,none⟩):=by rw [hH1,hgetk rfl];rfl
  have hb2:H1[H.length+2]? =some zeroO:=by rw [hH1,hgetk rfl];rfl
  have hl1:H1.length=H.length+3:=by rw [hH1];simp
  have hf1:Frm [] H H1:=by rw [hH1];exact Frm.app
  have hk1:Kept H H1:=by rw [hH1];exact .more _ _
  have hC:=rCopied v hok.fine.sz H1 cs (hR.kept hk1)
  obtain ⟨i,o2,cap2,cs2,k2,rfl,hcap,hi,hown,hat,hz,hP2⟩:=RdK.tail hP
  have hne:(((p.length+1:Nat):Int)==0)=false:=by rw [beq_eq_false_iff_ne];omega
  have hplt:(0:Int)<((p.length+1:Nat):Int):=by omega
  refine AC.enter Tryz.func45 rfl (by kernel_rfl) 128 rfl [.cell 6 27,.tmp 7] rfl (by simp) fun hsc B=> ?_
  repeat first|with_reducible refine kc ?_|((with_reducible first|refine kr ?_ ?_|refine kt ?_ ?_);exact rfl)|((with_reducible refine kf ?_ ?_);exact rfl)|simp only [go_sem,sevalprocAttr,reduceCtorEq,hfl,hr5,hflx,hr5x,hne]|simp (disch:=omega) only [wz]
  rw [← hH1]
  rw [htk5]
  refine AC.mono hC ?_
  rintro res H2 ⟨cs',rfl,hO,hf2⟩
  have hc5:=hO.len
  have hcf:=hO.flat
  have htk':List.take 5 cs'=cs':=List.take_of_length_le (by omega)
  have hput':putCells cs 0 cs'=cs':=putCells_all (by omega)
  have hb02:=hf2.get hb0 (by simp)
  have hb12:=hf2.get hb1 (by simp)
  have hb22:=hf2.get hb2 (by simp)
  have hl2:=hf2.1
  have hbl2:=lt_of_get hb02
  obtain ⟨H3,hH3⟩:∃H3:AHeap,H3=H2.set H.length (.cells cs' ⟨27,0,true,0,none⟩):=⟨_,rfl⟩
  have hS:PutS H v csx cs' H3:=by
   refine ⟨?_,?_,?_,?_,?_⟩
   ·rw [hH3]
    obtain ⟨vk,vs,css,e,h1,h2,h3⟩:=hO
    exact OwnS.set ⟨vk,vs,css,e,h1.sub (by omega),h2,h3.sub (by omega)⟩ (by omega) hb02 rfl _
   ·rw [hH3];exact Frm.set (hf1.trans hf2 (fun x hx=>by cases hx)) (.inr (Nat.le_refl _))
   ·rw [hH3,List.getElem?_set_self hbl2]
   ·rw [hH3,List.getElem?_set_ne (by omega)];exact hb12
   ·rw [hH3,List.getElem?_set_ne (by omega)];exact hb22
  have hi3:H3[i]? =some (.cells cs2 k2):=hS.frm.get hi (by simp)
  obtain ⟨z,hSt,hSp⟩:=rStepO hok (hp t (by simp)) hS.own
  have hb3:=hS.hb
  repeat first|with_reducible refine AWP.seqE (x:= .region 4 _ _) (PutJ H v t (.slice (some ⟨i,o2,none⟩) (p.length+1) cap2) csx) ?_ ?_|with_reducible refine kc ?_|((with_reducible first|refine kr ?_ ?_|refine kt ?_ ?_);exact rfl)|((with_reducible refine kf ?_ ?_);exact rfl)|simp only [go_sem,sevalprocAttr,reduceCtorEq,hb02,hbl2,hr5,hc5,hcf,htk',hput']|simp (disch:=omega) only [wz]
  ·rw [← hH3]
   refine AWP.regionK 9 (by kernel_rfl) (by decide) (by kernel_rfl) ?_
   repeat first|with_reducible refine kc ?_|((with_reducible first|refine kr ?_ ?_|refine kt ?_ ?_);exact rfl)|((with_reducible refine kf ?_ ?_);exact rfl)|simp only [go_sem,sevalprocAttr,reduceCtorEq,hb3,hplt,hi3,hat,hc5,htk']|simp (disch:=omega) only [wz]
   refine ARet.exq (hSt) (by simp only [go_sem,sevalprocAttr,reduceCtorEq]) ?_
   repeat first|with_reducible refine kc ?_|((with_reducible first|refine kr ?_ ?_|refine kt ?_ ?_);exact rfl)|((with_reducible refine kf ?_ ?_);exact rfl)|simp only [go_sem,sevalprocAttr,reduceCtorEq]|simp (disch:=omega) only [wz]
   exact ⟨_,⟨cs',H3,z,hS,hSp,rfl⟩,Weak.env (by simp [envIn,lk_cons,wth_some])⟩
  rintro st ⟨cs',H3,z,hS,hSp,rfl⟩
  have hi3:H3[i]? =some (.cells cs2 k2):=hS.frm.get hi (by simp)
  have hb3:=hS.hb
  have hx3:=hS.hx
  have hr3:=hS.hr
  have hk03:Kept H H3:=Kept.frm hS.frm (fun x hx=>by cases hx)
  have hRx3:=hRx.kept hk03
  have hP3:=hP2.kept hk03
  have hO3:=hS.own
  have hc5:=hO3.len
  have hcf:=hO3.flat
  rw [putR_cons]
  by_cases e0:(stepR v t).2=0
  ·obtain ⟨n,hn,hie⟩:=stepR_ok hok.form e0
   have hz:=hSp.1 e0
   rw [hie] at hz
   subst hz
   rw [if_pos e0,e0,hie,Int.toNat_natCast,getD_mem hn]
   have hkind:=stepR_kind e0
   have hkid:=(hok.kid hkind hn).1
   obtain ⟨vk,vs,css,rfl,hp1,hL,hp3⟩:=hO3
   obtain ⟨ci,hci,hRi⟩:=hL.at_ (List.getElem?_eq_getElem hn)
   have hcl:=hL.len
   have hc55:=hL.all5
   obtain ⟨q1,z1,rfl,hq1,hz1,hlo1⟩:=id hp1
   have hih:=fun (G:AHeap) (hk:Kept H3 G)=>rPut x p v.kids[n] hkid (fun u hu=>hp u (by simp [hu])) (by simp at hpl;omega) G ci csx _ (hRi.kept hk) (hRx3.kept hk) (hP3.kept hk)
   generalize v.kids[n]=kid at*
   generalize putR x kid p=R at*
   have e00:((0:Int)==0)=true:=rfl
   repeat first|with_reducible refine AWP.seqE (x:= .region 6 _ _) (PutK H n R H3) ?_ ?_|with_reducible refine kc ?_|((with_reducible first|refine kr ?_ ?_|refine kt ?_ ?_);exact rfl)|((with_reducible refine kf ?_ ?_);exact rfl)|simp only [go_sem,sevalprocAttr,reduceCtorEq]|simp (disch:=omega) only [wz]
   ·refine AWP.regionU 8 spPut (BL [(3,.pointer (some ⟨H.length,0,none⟩)),(5,.pointer (some ⟨H.length+1,0,none⟩)),(8,.int .i64 (n:Nat)),(1,.slice (some ⟨i,o2,none⟩) (p.length+1) cap2),(6,.pointer (some ⟨H.length+2,0,none⟩)),(7,.int .i64 0)] [] H3) (RV tmPut (QPut H3.length H.length n q1 (.slice (some ⟨q1,0,none⟩) css.length css.length) (.slice (some ⟨i,o2,none⟩) (p.length+1) cap2) (.slice (some ⟨i,o2+1,none⟩) p.length (cap2 - 1)) ci csx R.1 R.2)) (fun _ _ _=>True) (by kernel_rfl) (by kernel_rfl) (by kernel_rfl) (BL.of (by simp [envIn,lk_cons,wth_some]) (Frm.refl _ _)) (fun _ _=>trivial) ⟨?_,?_,?_,?_,?_,?_,?_,?_,?_,?_,?_,?_,?_,?_,?_,trivial⟩ ?_
    ·intro E HE hB hd hu
     have b3:lk 3 E=some (.pointer (some ⟨H.length,0,none⟩)):=hB.1 _ _ (by simp)
     simp only [go_sem,sevalprocAttr,reduceCtorEq,b3]
     exact UPost.more (tm:=tmPut) (j:=0) QPut.more (by kernel_rfl) hB (by rfl) (Frm.refl _ _) rfl
    ·intro E HE hB hd hu
     obtain ⟨_,g1,rfl⟩:=hd 0 (by decide) (.inl rfl)
     have hbe:=hB.2.get hb3 (by simp)
     have g1:lk 30 E=_:=g1
     simp only [go_sem,sevalprocAttr,reduceCtorEq,g1,hbe]
     exact UPost.more (tm:=tmPut) (j:=1) QPut.more (by kernel_rfl) hB (by rfl) (Frm.refl _ _) rfl
    ·intro E HE hB hd hu
     have b8:lk 8 E=some (.int .i64 (n:Nat)):=hB.1 _ _ (by simp)
     simp only [go_sem,sevalprocAttr,reduceCtorEq,b8]
     exact UPost.more (tm:=tmPut) (j:=2) QPut.more (by kernel_rfl) hB (by rfl) (Frm.refl _ _) rfl
    ·intro E HE hB hd hu
     obtain ⟨_,g1,rfl⟩:=hd 1 (by decide) (.inl rfl)
     obtain ⟨_,g2,rfl⟩:=hd 2 (by decide) (.inl rfl)
     have g1:lk 31 E=_:=g1
     have g2:lk 32 E=_:=g2
     have hnl:(n:Int)<(css.length:Int):=by have:n<v.kids.length:=hn;omega
     simp only [go_sem,sevalprocAttr,reduceCtorEq,g1,g2,hnl]
     exact UPost.more (tm:=tmPut) (j:=3) QPut.more (by kernel_rfl) hB (by rfl) (Frm.refl _ _) rfl
    ·intro E HE hB hd hu
     obtain ⟨_,g1,rfl⟩:=hd 3 (by decide) (.inl rfl)
     have g1:lk 33 E=_:=g1
     have hqe:=hB.2.get hq1 (by simp)
     have htk:=flat_at hc55 hci
     have hle:n*5+5≤css.flatten.length:=by have:n<v.kids.length:=hn;rw [flat_len hc55];omega
     simp only [go_sem,sevalprocAttr,reduceCtorEq,g1,hqe,htk,hle]
     exact UPost.more (tm:=tmPut) (j:=4) QPut.more (by kernel_rfl) hB (by rfl) (Frm.refl _ _) rfl
    ·intro E HE hB hd hu
     have b1:lk 1 E=some (.slice (some ⟨i,o2,none⟩) (p.length+1) cap2):=hB.1 _ _ (by simp)
     simp only [go_sem,sevalprocAttr,reduceCtorEq,b1]
     exact UPost.more (tm:=tmPut) (j:=5) QPut.more (by kernel_rfl) hB (by rfl) (Frm.refl _ _) rfl
    ·intro E HE hB hd hu
     obtain ⟨_,g1,rfl⟩:=hd 5 (by decide) (.inl rfl)
     have g1:lk 35 E=_:=g1
     have hie3:=hB.2.get hi3 (by simp)
     simp only [go_sem,sevalprocAttr,reduceCtorEq,g1,hie3,tight,hz]
     refine ⟨by omega,by omega,?_⟩
     exact UPost.more (tm:=tmPut) (j:=6) QPut.more (by kernel_rfl) hB (by rfl) (Frm.refl _ _) rfl
    ·intro E HE hB hd hu
     have b5:lk 5 E=some (.pointer (some ⟨H.length+1,0,none⟩)):=hB.1 _ _ (by simp)
     have hxe:=hB.2.get hx3 (by simp)
     simp only [go_sem,sevalprocAttr,reduceCtorEq,b5,hxe,htk5x,hr5x]
     exact UPost.more (tm:=tmPut) (j:=7) QPut.more (by kernel_rfl) hB (by rfl) (Frm.refl _ _) rfl
    ·intro E HE hB hd hu
     obtain ⟨_,g1,rfl⟩:=hd 4 (by decide) (.inl rfl)
     obtain ⟨_,g2,rfl⟩:=hd 6 (by decide) (.inl rfl)
     obtain ⟨_,g3,rfl⟩:=hd 7 (by decide) (.inl rfl)
     have g1:lk 34 E=_:=g1
     have g2:lk 36 E=_:=g2
     have g3:lk 37 E=_:=g3
     simp only [go_sem,sevalprocAttr,reduceCtorEq,g1,g2,g3]
     refine AC.mono (hih HE (Kept.frm hB.2 (fun x hx=>by cases hx))) ?_
     rintro res H5 ⟨ck,rfl,hf5,hR5⟩
     simp only [go_sem,sevalprocAttr,reduceCtorEq]
     exact UPost.more (tm:=tmPut) (j:=8) QPut.more (by kernel_rfl) hB (by rfl) hf5 ⟨ck,rfl,hR5⟩
    ·intro E HE hB hd hu
     obtain ⟨_,g1,ck,rfl,hk⟩:=hd 8 (by decide) (.inl rfl)
     have g1:lk 38 E=_:=g1
     simp only [go_sem,sevalprocAttr,reduceCtorEq,g1]
     exact UPost.more (tm:=tmPut) (j:=9) QPut.more (by kernel_rfl) hB (by rfl) (Frm.refl _ _) ⟨ck,rfl,hk⟩
    ·intro E HE hB hd hu
     obtain ⟨_,g1,ck,rfl,hk⟩:=hd 9 (by decide) (.inl rfl)
     have g1:lk 29 E=_:=g1
     simp only [go_sem,sevalprocAttr,reduceCtorEq,g1]
     exact UPost.more (tm:=tmPut) (j:=10) QPut.more (by kernel_rfl) hB (by rfl) (Frm.refl _ _) ⟨ck,rfl,hk⟩
    ·intro E HE hB hd hu
     obtain ⟨_,g1,ck,rfl,hk⟩:=hd 9 (by decide) (.inl rfl)
     have g1:lk 29 E=_:=g1
     simp only [go_sem,sevalprocAttr,reduceCtorEq,g1]
     exact UPost.more (tm:=tmPut) (j:=11) QPut.more (by kernel_rfl) hB (by rfl) (Frm.refl _ _) rfl
    ·intro E HE hB hd hu
     simp only [go_sem,sevalprocAttr,reduceCtorEq]
     exact UPost.more (tm:=tmPut) (j:=12) QPut.more (by kernel_rfl) hB (by rfl) Frm.app ⟨HE.length,_,rfl,by rw [hget0 rfl];rfl,rfl,hB.2.1⟩
    ·intro E HE hB hd hu
     obtain ⟨_,g1,ck,rfl,hk⟩:=hd 10 (by decide) (.inl rfl)
     obtain ⟨_,g2,q,c0,rfl,g3,g4,g5⟩:=hd 12 (by decide) (.inr rfl)
     have g1:lk 39 E=_:=g1
     have g2:lk 10 E=_:=g2
     have hk5:=hk.len
     have hkf:=RdV_flat hk
     have htkk:List.take 5 ck=ck:=List.take_of_length_le (by omega)
     have hputk:putCells c0 0 ck=ck:=putCells_all (by omega)
     simp only [go_sem,sevalprocAttr,reduceCtorEq,g1,g2,g3,g4,hk5,hkf,htkk,hputk]
     refine UPost.none hB (Frm.set hB.2 (.inr g5)) ⟨_,g2,q,ck,rfl,List.getElem?_set_self (lt_of_get g3),hk.kept (Kept.set g3 rfl _),g5⟩ (fun a w _ h1 h2 _ h=>QPut.kept a w _ _ ⟨fun e=>h2 (by rw [e];rfl),h1⟩ h (Kept.set g3 rfl _)) (fun _ _ _ _=>trivial)
    ·intro E HE hB hd hu
     obtain ⟨_,g1,rfl⟩:=hd 11 (by decide) (.inl rfl)
     have g1:lk 40 E=_:=g1
     simp only [go_sem,sevalprocAttr,reduceCtorEq,g1]
     exact UPost.more (tm:=tmPut) (j:=14) QPut.more (by kernel_rfl) hB (by rfl) (Frm.refl _ _) rfl
    ·intro E HE hB hd
     obtain ⟨_,g1,q,ck,rfl,g2,g3,g4⟩:=hd 13 (by decide) rfl
     obtain ⟨_,g5,rfl⟩:=hd 14 (by decide) rfl
     have g1:lk 10 E=_:=g1
     have g5:lk 11 E=_:=g5
     have b3:lk 3 E=some (.pointer (some ⟨H.length,0,none⟩)):=hB.1 _ _ (by simp)
     have b6:lk 6 E=some (.pointer (some ⟨H.length+2,0,none⟩)):=hB.1 _ _ (by simp)
     have b7:lk 7 E=some (.int .i64 0):=hB.1 _ _ (by simp)
     have b8:lk 8 E=some (.int .i64 (n:Nat)):=hB.1 _ _ (by simp)
     exact ⟨_,⟨q,ck,HE,hB.2,g2,g3,g4,rfl⟩,Weak.env (by simp [envIn,wth_some,g1,g5,b3,b6,b7,b8])⟩
   ·rintro st ⟨q,ck,H5,hf5,hq,hRk,hlq,rfl⟩
    have hb5:=hf5.get hb3 (by simp)
    have hq15:=hf5.get hq1 (by simp)
    have hr5':=hf5.get hr3 (by simp)
    unfold zeroO at hr5'
    have hk5:=hRk.len
    have hkf:=RdV_flat hRk
    have htkk:List.take 5 ck=ck:=List.take_of_length_le (by omega)
    have hnk:n<v.kids.length:=hn
    have hnl:(n:Int)<(css.length:Int):=by omega
    have hps:putCells css.flatten (n*5) ck=(css.set n ck).flatten:=flat_set hc55 hk5 (by omega)
    have hle:n*5+5≤css.flatten.length:=by rw [flat_len hc55];omega
    have hqb:q1≠H.length:=by omega
    have hql:=lt_of_get hq15
    have hl5:=hf5.1
    have hbl3:=lt_of_get hr3
    have hb6:∀o:AObj,(H5.set q1 o)[H.length]? =some (.cells [.int .i64 v.kind,.int .i64 v.num,.string (bs v.text),.slice (some ⟨q1,0,none⟩) css.length css.length,vs] ⟨27,0,true,0,none⟩):=fun o=>by rw [List.getElem?_set_ne hqb];exact hb5
    have hr6:∀o:AObj,(H5.set q1 o)[H.length+2]? =some (.cells [.int .i64 0,.int .i64 0,.string (bs []),.slice none 0 0,.slice none 0 0] ⟨27,0,true,0,none⟩):=fun o=>by rw [List.getElem?_set_ne (by omega)];exact hr5'
    have hrl:∀o:AObj,H.length+2<(H5.set q1 o).length:=fun o=>by rw [List.length_set];omega
    have hrs:∀o o2:AObj,((H5.set q1 o).set (H.length+2) o2)[H.length+2]? =some o2:=fun o o2=>List.getElem?_set_self (hrl o)
    obtain ⟨q2,z2,rfl,hq2,hz2,hlo2⟩:=id hp3
    have hq12:q2≠q1:=fun e=>by
     rw [e,hq1] at hq2
     injection hq2 with h
     injection h with _ h
     injection h with h
     cases h
    repeat first|with_reducible refine kc ?_|((with_reducible first|refine kr ?_ ?_|refine kt ?_ ?_);exact rfl)|((with_reducible refine kf ?_ ?_);exact rfl)|simp only [go_sem,sevalprocAttr,reduceCtorEq,hb5,hq,hq15,htkk,hk5,hkf,hnl,hle,hb6,hr6,hrl,hrs,putCells,List.set_cons_succ,List.set_cons_zero]|simp (disch:=omega) only [wz]
    have hk35:Kept H3 H5:=Kept.frm hf5 (fun x hx=>by cases hx)
    have hF:∀(o1 o2:AObj) (j:Nat),j≠q1→j≠H.length+2→((H5.set q1 o1).set (H.length+2) o2)[j]? =H5[j]? :=fun o1 o2 j h1 h2=>by rw [List.getElem?_set_ne (Ne.symm h2),List.getElem?_set_ne (Ne.symm h1)]
    have hF1:∀(o1 o2:AObj),((H5.set q1 o1).set (H.length+2) o2)[q1]? =some o1:=fun o1 o2=>by rw [List.getElem?_set_ne (by omega)];exact List.getElem?_set_self hql
    have hkF:∀(o1 o2:AObj),Kept H5 ((H5.set q1 o1).set (H.length+2) o2):=fun o1 o2=>(Kept.set hq15 rfl _).trans (Kept.set (hr6 o1) rfl _)
    have h5s:∀c∈css.set n ck,c.length=5:=fun c hc=>by
     rcases List.mem_or_eq_of_mem_set hc with h|rfl
     ·exact hc55 c h
     ·exact hk5
    refine ⟨_,_,WeakV.fz [q1,q2] _,_,rfl,fz_frm (Frm.set (Frm.set (hS.frm.trans hf5 (fun x hx=>by cases hx)) (.inr (by omega))) (.inr (by omega))) (fun s hs=>by
     simp only [List.mem_cons,List.not_mem_nil,or_false] at hs
     rcases hs with rfl|rfl<;> omega),?_⟩
    show RdV _ (withL v (v.kids.set n R.1) v.keys) _
    unfold withL
    unfold RdV
    refine ⟨_,_,css.set n ck,rfl,rd_rows (C:=[]) (k:=⟨27,z1,true,0,none⟩) (by rw [List.append_nil,hF1,hps]) (by rcases hz1 with ⟨h,_⟩|⟨h,_⟩<;> simp [h]) (by simp) h5s (by simp) (Nat.le_refl _),?_,?_⟩
    ·exact RdL.set ((hL.kept hk35).kept ((hkF _ _).trans (fz_kept _ _))) (hRk.kept ((hkF _ _).trans (fz_kept _ _)))
    ·refine rd_rows (C:=[]) (k:=⟨9,z2,true,0,none⟩) (by rw [List.append_nil,hF _ _ q2 hq12 (by omega)];exact hf5.get hq2 (by simp)) (by rcases hz2 with ⟨h,_⟩|⟨h,_⟩<;> simp [h]) (by simp) (keyC_len1 _) rfl (Nat.le_refl _)
  ·rw [if_neg e0]
   obtain ⟨T,hT,hTr⟩:=hO3.rd
   obtain ⟨vk,vs,css,rfl,hp1,hL,hp3⟩:=id hO3
   obtain ⟨e,he⟩:∃e,e=(stepR v t).2:=⟨_,rfl⟩
   rw [← he] at e0 ⊢
   have he0:(e==0)=false:=by simpa using e0
   have hcl:=hL.len
   have hc55:=hL.all5
   obtain ⟨q1,z1,rfl,hq1,hz1,hlo1⟩:=id hp1
   obtain ⟨q2,z2,rfl,hq2,hz2,hlo2⟩:=id hp3
   have hr3':=hr3
   unfold zeroO at hr3'
   have hbl3:=lt_of_get hr3
   have hbl3b:=lt_of_get hb3
   have hrs:∀o:AObj,(H3.set (H.length+2) o)[H.length+2]? =some o:=fun o=>List.getElem?_set_self hbl3
   have bad:∀R:BV×Int,R=(v,e)→∃v2 H2,WeakV H.length (H3.set (H.length+2) (.cells [.int .i64 v.kind,.int .i64 v.num,.string (bs v.text),(.slice (some ⟨q1,0,none⟩) css.length css.length),(.slice (some ⟨q2,0,none⟩) (keyC v.keys).length (keyC v.keys).length)] ⟨27,0,true,0,none⟩)) (.tuple ⟨[.agg ⟨[.int .i64 v.kind,.int .i64 v.num,.string (bs v.text),(.slice (some ⟨q1,0,none⟩) css.length css.length),(.slice (some ⟨q2,0,none⟩) (keyC v.keys).length (keyC v.keys).length)]⟩,.int .i64 e]⟩) H2 v2∧ParseP H R (.ret v2) H2:=fun R hR=>by
    subst hR
    exact ⟨_,_,WeakV.fz T _,_,rfl,fz_frm (Frm.set hS.frm (.inr (by omega))) (fun s hs=>by have:=(hT s hs).1;omega),hTr _ (Kept.set hr3 rfl _) (fun q h1 h2=>List.getElem?_set_ne (by omega))⟩
   by_cases h8:e=8
   ·subst h8
    have h8':((8:Int) != 8)=false:=rfl
    by_cases hp0:p=[]
    ·subst hp0
     rw [if_pos rfl]
     have hkl:¬((([]:List Tx).length+1:Nat):Int)>1:=by decide
     by_cases hk3:v.kind=3
     ·have hk3':(v.kind==3)=true:=by simpa using hk3
      have hzd:=hSp.2 hk3
      have hk4:¬((8:Int)=8∧v.kind=4):=fun h=>by rw [hk3] at h;exact absurd h.2 (by decide)
      have hkle:=hok.kids_le
      by_cases hzn:z=(v.kids.length:Int)
      ·have hzn':(z != (css.length:Int))=false:=by rw [hcl,hzn];simp
       have htd:t=Lib.decDigits v.kids.length:=digN_dec (by rw [← hzd];exact hzn)
       have hR:setL x v t=(withL v (v.kids++[x]) v.keys,0):=by
        unfold setL
        rw [← he,if_neg (by decide),if_neg hk4,if_pos ⟨rfl,htd⟩]
       rw [hR]
       have hgb:∀X:AHeap,(H3++X)[H.length]? =some (.cells [.int .i64 v.kind,.int .i64 v.num,.string (bs v.text),.slice (some ⟨q1,0,none⟩) css.length css.length,.slice (some ⟨q2,0,none⟩) (keyC v.keys).length (keyC v.keys).length] ⟨27,0,true,0,none⟩):=fun X=>by rw [hgetl hbl3b];exact hb3
       have hlx:=lt_of_get hx3
       have hput5:putCells [Value.int .i64 0,.int .i64 0,.string (bs []),.slice none 0 0,.slice none 0 0] 0 csx=csx:=putCells_all (by rw [hr5x];rfl)
       repeat first|with_reducible refine kc ?_|((with_reducible first|refine kr ?_ ?_|refine kt ?_ ?_);exact rfl)|((with_reducible refine kf ?_ ?_);exact rfl)|simp only [go_sem,sevalprocAttr,reduceCtorEq,he0,h8',hkl,hk3',hzn',hb3,hx3,htk5x,hr5x,hflx,hput5]|simp (disch:=omega) only [wz]
       refine app_one (by decide) (hp1.more _) hc55 (by rw [List.length_append];omega) (by omega) (by omega) fun H6 h6=> ?_
       obtain ⟨D,hD⟩:∃D,D=(H3++[AObj.cells csx ⟨27,0,true,0,none⟩]).length:=⟨_,rfl⟩
       rw [← hD]
       have hDl:D=H3.length+1:=by rw [hD,List.length_append];rfl
       have hl6:H6.length=D:=by
        rcases h6 with rfl|⟨_,_,_,_,rfl⟩
        ·exact hD.symm
        ·rw [List.length_set];exact hD.symm
       have hsm:∀(X:AHeap) (j:Nat) (cs:List Value) (k:CK),H3[j]? =some (.cells cs k)→(H.length+3≤j→k≠⟨27,5,true,0,none⟩)→(H6++X)[j]? =some (.cells cs k):=fun X j cs k hj hn=>by
        have hj2:=lt_of_get hj
        rw [hgetl (by omega)]
        rcases h6 with rfl|⟨q,c,g1,g2,rfl⟩
        ·rw [hgetl hj2];exact hj
        ·rw [List.getElem?_set_ne]
         ·rw [hgetl hj2];exact hj
         ·rintro rfl
          rw [hgetl hj2,hj] at g2
          injection g2 with g2
          injection g2 with _ g2
          exact hn g1 g2
       have hb6:∀X:AHeap,(H6++X)[H.length]? =some (.cells [.int .i64 v.kind,.int .i64 v.num,.string (bs v.text),.slice (some ⟨q1,0,none⟩) css.length css.length,.slice (some ⟨q2,0,none⟩) (keyC v.keys).length (keyC v.keys).length] ⟨27,0,true,0,none⟩):=fun X=>hsm X _ _ _ hb3 (fun h=>by omega)
       have hr6:∀X:AHeap,(H6++X)[H.length+2]? =some (.cells [.int .i64 0,.int .i64 0,.string (bs []),.slice none 0 0,.slice none 0 0] ⟨27,0,true,0,none⟩):=fun X=>hsm X _ _ _ hr3' (fun h=>by omega)
       have hbl6:∀X:AHeap,H.length<(H6++X).length:=fun X=>by rw [List.length_append];omega
       have hbs:∀(X:AHeap) (o:AObj),((H6++X).set H.length o)[H.length]? =some o:=fun X o=>List.getElem?_set_self (hbl6 X)
       have hrs6:∀(X:AHeap) (o:AObj),((H6++X).set H.length o)[H.length+2]? =some (.cells [.int .i64 0,.int .i64 0,.string (bs []),.slice none 0 0,.slice none 0 0] ⟨27,0,true,0,none⟩):=fun X o=>by rw [List.getElem?_set_ne (by omega)];exact hr6 X
       have hrl6:∀(X:AHeap) (o:AObj),H.length+2<((H6++X).set H.length o).length:=fun X o=>by rw [List.length_set,List.length_append];omega
       have hrr6:∀(X:AHeap) (o o2:AObj),(((H6++X).set H.length o).set (H.length+2) o2)[H.length+2]? =some o2:=fun X o o2=>List.getElem?_set_self (hrl6 X o)
       repeat first|with_reducible refine kc ?_|((with_reducible first|refine kr ?_ ?_|refine kt ?_ ?_);exact rfl)|((with_reducible refine kf ?_ ?_);exact rfl)|simp only [go_sem,sevalprocAttr,reduceCtorEq,hb6,hbl6,hbs,hrs6,hrl6,hrr6,putCells,List.set_cons_succ,List.set_cons_zero]|simp (disch:=omega) only [wz]
       have hF:∀(X:AHeap) (o o2:AObj) (j:Nat),j≠H.length→j≠H.length+2→(((H6++X).set H.length o).set (H.length+2) o2)[j]? =(H6++X)[j]? :=fun X o o2 j h1 h2=>by rw [List.getElem?_set_ne (Ne.symm h2),List.getElem?_set_ne (Ne.symm h1)]
       have hsml:∀(X:AHeap) (j:Nat),j<H.length→(H6++X)[j]? =H3[j]? :=fun X j hj=>by
        rw [hgetl (by omega)]
        rcases h6 with rfl|⟨q,c,g1,g2,rfl⟩
        ·rw [hgetl (by omega)]
        ·rw [List.getElem?_set_ne (by omega),hgetl (by omega)]
       have hkF:∀(X:AHeap) (o o2:AObj),Kept H3 (((H6++X).set H.length o).set (H.length+2) o2):=fun X o o2 j cs k hj ho=>by
        have h1:j≠H.length:=by
         rintro rfl
         rw [hb3] at hj
         injection hj with hj
         injection hj with _ hj
         rw [← hj] at ho
         cases ho
        have h2:j≠H.length+2:=by
         rintro rfl
         rw [hr3'] at hj
         injection hj with hj
         injection hj with _ hj
         rw [← hj] at ho
         cases ho
        rw [hF X o o2 j h1 h2]
        exact hsm X _ _ _ hj (fun _ h=>by rw [h] at ho;cases ho)
       refine ⟨_,_,WeakV.fz [D,q2] _,_,rfl,fz_frm ⟨by rw [List.length_set,List.length_set,List.length_append];have:=hS.frm.1;omega,fun j hj hn=> ?_⟩ (fun s hs=>by
        simp only [List.mem_cons,List.not_mem_nil,or_false] at hs
        have:=hS.frm.1
        rcases hs with rfl|rfl<;> omega),?_⟩
       ·rw [hF _ _ _ j (by omega) (by omega),hsml _ j hj]
        exact hS.frm.2 j hj (by simp)
       ·show RdV _ (withL v (v.kids++[x]) v.keys) _
        unfold withL
        unfold RdV
        have h5s:∀c∈css++[csx],c.length=5:=fun c hc=>by
         rcases List.mem_append.1 hc with h|h
         ·exact hc55 c h
         ·rw [List.mem_singleton.1 h];exact hr5x
        refine ⟨_,_,css++[csx],rfl,rd_rows (C:=[]) (k:=⟨27,5,true,0,none⟩) (by rw [List.append_nil,hF _ _ _ D (by omega) (by omega),hget0 hl6,List.flatten_append];simp) (.inl rfl) (by simp) h5s (by simp) (Nat.le_refl _),?_,?_⟩
        ·exact RdL.snoc (hL.kept ((hkF _ _ _).trans (fz_kept _ _))) (hRx3.kept ((hkF _ _ _).trans (fz_kept _ _)))
        ·exact rd_rows (C:=[]) (k:=⟨9,z2,true,0,none⟩) (by rw [List.append_nil,hF _ _ _ q2 (by omega) (by omega)];exact hsm _ _ _ _ hq2 (fun _ h=>by injection h with h;cases h)) (by rcases hz2 with ⟨h,_⟩|⟨h,_⟩<;> simp [h]) (by simp) (keyC_len1 _) rfl (Nat.le_refl _)
      ·have hzn':(z != (css.length:Int))=true:=by rw [bne_iff_ne,hcl];exact hzn
       have hR:setL x v t=(v,8):=by
        unfold setL
        rw [← he,if_neg (by decide),if_neg hk4,if_neg]
        rintro ⟨_,h⟩
        rw [h,digN_of _ (by omega)] at hzd
        exact hzn hzd
       rw [hR]
       repeat first|with_reducible refine kc ?_|((with_reducible first|refine kr ?_ ?_|refine kt ?_ ?_);exact rfl)|((with_reducible refine kf ?_ ?_);exact rfl)|simp only [go_sem,sevalprocAttr,reduceCtorEq,he0,h8',hkl,hk3',hzn',hb3,hr3',hbl3,hrs,putCells,List.set_cons_succ,List.set_cons_zero]|simp (disch:=omega) only [wz]
       exact bad _ rfl
     ·have hk3':(v.kind==3)=false:=by simpa using hk3
      have hk4:v.kind=4:=by
       unfold stepR at he
       by_cases h4:v.kind=4
       ·exact h4
       ·rw [if_neg h4,if_neg hk3] at he
        exact absurd he (by decide)
      exact absurd ⟨rfl,hk4,he.symm⟩ hcase
    ·rw [if_neg hp0]
     have hpl0:0<p.length:=List.length_pos_iff.2 hp0
     have hkl:((p.length+1:Nat):Int)>1:=by omega
     repeat first|with_reducible refine kc ?_|((with_reducible first|refine kr ?_ ?_|refine kt ?_ ?_);exact rfl)|((with_reducible refine kf ?_ ?_);exact rfl)|simp only [go_sem,sevalprocAttr,reduceCtorEq,he0,h8',hkl,hb3,hr3',hbl3,hrs,putCells,List.set_cons_succ,List.set_cons_zero]|simp (disch:=omega) only [wz]
     exact bad _ rfl
   ·have h8':(e != 8)=true:=by simpa using h8
    have hR:(if p=[] then setL x v t else (v,e))=(v,e):=by
     split
     ·unfold setL
      rw [← he,if_neg e0,if_neg (fun h=>h8 h.1),if_neg (fun h=>h8 h.1)]
     ·rfl
    repeat first|with_reducible refine kc ?_|((with_reducible first|refine kr ?_ ?_|refine kt ?_ ?_);exact rfl)|((with_reducible refine kf ?_ ?_);exact rfl)|simp only [go_sem,sevalprocAttr,reduceCtorEq,he0,h8',hb3,hr3',hbl3,hrs,putCells,List.set_cons_succ,List.set_cons_zero]|simp (disch:=omega) only [wz]
    exact bad _ hR
end Go.Proofs.YthcdjconlfdidaaGreatDoor
