/-
 The law of BencPaths:Get,Set and Drop are the specification's;Get behind Set is what was set.
-/
import Derived.Test.YthcdjconlfdidaaGreatDoorQXM
import Derived.Test.YthcdjconlfdidaaGreatDoorQNM
import Derived.Test.YthcdjconlfdidaaGreatDoorQM
import Derived.Test.YthcdjconlfdidaaGreatDoorEG
set_option linter.unusedVariables false
set_option linter.unusedSimpArgs false
set_option maxRecDepth 20000
set_option maxHeartbeats 4000000
namespace Go.Proofs.YthcdjconlfdidaaGreatDoor
open Go Go.Aw Go.Proofs
theorem goR_putO (x:BV):∀(p:List Tx) (v:BV),OkV v→p≠[]→(chR (setL x) v p).2=0→goR (chR (setL x) v p).1 p=(x,0)
 |[],v,hg,h0,h=>absurd rfl h0
 | t ::p,v,hg,h0,h=>by
  rw [chR] at h ⊢
  by_cases hp:p=[]
  ·subst hp
   rw [if_pos rfl] at h ⊢
   unfold setL at h ⊢
   by_cases e0:(stepR v t).2=0
   ·obtain ⟨i,hi,hie⟩:=stepR_ok hg.form e0
    rw [if_pos e0]
    rw [goR,stepR_withL (by simp),if_pos e0,hie]
    rw [goR]
    have:(withL v (v.kids.set i x) v.keys).kids=v.kids.set i x:=rfl
    rw [Int.toNat_natCast,this,List.getD_eq_getElem?_getD,List.getElem?_set_self hi]
    rfl
   rw [if_neg e0] at h ⊢
   by_cases e8:(stepR v t).2=8∧v.kind=4
   ·rw [if_pos e8]
    obtain ⟨hasc,hkl⟩:=form_asc' hg.form e8.2
    have hn:t∉v.keys:=by
     have:=stepR_dict e8.2 t
     cases hc:kAt v.keys t with
     |none=>exact kAt_none_iff.1 hc
     |some i=>rw [hc] at this;rw [this] at e0;exact absurd rfl e0
    have hle:=lowAt_le v.keys t
    rw [goR]
    have hst:stepR (withL v (insAt v.kids (lowAt v.keys t) x) (insAt v.keys (lowAt v.keys t) t)) t=(((lowAt v.keys t:Nat):Int),0):=by
     rw [stepR_dict (show (withL v (insAt v.kids (lowAt v.keys t) x) (insAt v.keys (lowAt v.keys t) t)).kind=4 from e8.2)]
     have:(withL v (insAt v.kids (lowAt v.keys t) x) (insAt v.keys (lowAt v.keys t) t)).keys=insAt v.keys (lowAt v.keys t) t:=rfl
     rw [this,kAt_ins hle hn]
    rw [hst,if_pos rfl,goR]
    have:(withL v (insAt v.kids (lowAt v.keys t) x) (insAt v.keys (lowAt v.keys t) t)).kids=insAt v.kids (lowAt v.keys t) x:=rfl
    rw [Int.toNat_natCast,this,List.getD_eq_getElem?_getD,ins_get _ _ _ (by omega)]
    rfl
   rw [if_neg e8] at h ⊢
   by_cases e9:(stepR v t).2=8∧t=Lib.decDigits v.kids.length
   ·rw [if_pos e9]
    have hk3:v.kind=3:=by
     by_cases h3:v.kind=3
     ·exact h3
     ·have:(stepR v t).2=10:=by
       unfold stepR
       rw [if_neg (fun h=>e8 ⟨e9.1,h⟩),if_neg h3]
      rw [this] at e9
      exact absurd e9.1 (by decide)
    have hl:=hg.kids_le
    rw [goR]
    have hst:stepR (withL v (v.kids++[x]) v.keys) t=(((v.kids.length:Nat):Int),0):=by
     rw [stepR_list (show (withL v (v.kids++[x]) v.keys).kind=3 from hk3)]
     have:(withL v (v.kids++[x]) v.keys).kids.length=v.kids.length+1:=by
      show (v.kids++[x]).length=_
      simp
     rw [this,nAt_some (by omega) (Nat.lt_succ_self _) e9.2]
    rw [hst,if_pos rfl,goR]
    have:(withL v (v.kids++[x]) v.keys).kids=v.kids++[x]:=rfl
    rw [Int.toNat_natCast,this,List.getD_eq_getElem?_getD,List.getElem?_append_right (Nat.le_refl _),Nat.sub_self]
    rfl
   ·rw [if_neg e9] at h
    exact absurd h e0
  ·rw [if_neg hp] at h ⊢
   by_cases e0:(stepR v t).2=0
   ·obtain ⟨i,hi,hie⟩:=stepR_ok hg.form e0
    rw [if_pos e0,hie,Int.toNat_natCast,getD_mem hi] at h
    rw [if_pos e0,hie,Int.toNat_natCast,getD_mem hi]
    have ih:=goR_putO x p v.kids[i] (hg.kid (stepR_kind e0) hi).1 hp h
    rw [goR,stepR_withL (by simp),if_pos e0,hie,Int.toNat_natCast]
    have:∀y,(withL v (v.kids.set i y) v.keys).kids=v.kids.set i y:=fun y=>rfl
    rw [this,List.getD_eq_getElem?_getD,List.getElem?_set_self hi]
    exact ih
   ·rw [if_neg e0] at h
    exact absurd h e0
mutual
theorem count_msr:∀(v:BV),v.count≤msr v
 | .mk k n s kids keys=>by
  have:=countL_msr kids
  rw [msr_mk,BV.count]
  omega
theorem countL_msr:∀(l:List BV),BV.countL l≤msrL l
 |[]=>by rw [BV.countL];exact Nat.zero_le _
 |v::l=>by
  have h1:=count_msr v
  have h2:=countL_msr l
  rw [BV.countL,msrL]
  omega
end
theorem put_count {x v:BV} {p:List Tx} (hv:v.valid=true) (hx:x.valid=true) (nv:v.nums) (nx:x.nums) (hp:keysW p≤1000000):(putR x v p).1.count≤1099511627776:=by
 have kv:=OkV.of_valid hv nv
 have kx:=OkV.of_valid hx nx
 have mv:=msr_write v kv.form
 have mx:=msr_write x kx.form
 have lv:=kv.len
 have lx:=kx.len
 have cx:=kx.cnt
 unfold putR
 split
 ·show x.count≤_
  omega
 ·have:=(chR_bound x nx p v ⟨kv.fine.sz,kv.form⟩ nv).1
  have h2:=count_msr (chR (setL x) v p).1
  omega
theorem sz_zero:szV .zero:=by
 unfold BV.zero szV
 exact ⟨by simp,by simp,szL_iff.2 fun c hc=>by cases hc⟩
theorem sz_mem {v c:BV} (h:szV v) (hc:c∈v.kids):szV c:=by
 obtain ⟨k,n,s,kids,keys⟩:=v
 unfold szV at h
 exact szL_iff.1 h.2.2 c hc
theorem sz_withL {v:BV} {kids:List BV} {keys:List Tx} (h:szV v) (h1:kids.length≤v.kids.length) (h2:keys.length≤v.keys.length) (h3:∀c∈kids,szV c):szV (withL v kids keys):=by
 obtain ⟨k,n,s,l,m⟩:=v
 unfold szV at h
 unfold withL szV
 exact ⟨Nat.le_trans h1 h.1,Nat.lt_of_le_of_lt h2 h.2.1,szL_iff.2 h3⟩
theorem sz_drop:∀(p:List Tx) (v:BV),szV v→szV (chR dropL v p).1
 |[],v,h=>by rw [chR];exact h
 | t ::p,v,h=>by
  rw [dropR_cons]
  split
  ·split
   ·refine sz_withL h (List.length_eraseIdx_le _ _) ?_ fun c hc=>sz_mem h (List.mem_of_mem_eraseIdx hc)
    split
    ·exact List.length_eraseIdx_le _ _
    ·exact Nat.le_refl _
   ·refine sz_withL h (by rw [List.length_set];exact Nat.le_refl _) (Nat.le_refl _) fun c hc=> ?_
    rcases List.mem_or_eq_of_mem_set hc with hc|rfl
    ·exact sz_mem h hc
    ·refine sz_drop p _ ?_
     rw [List.getD_eq_getElem?_getD]
     cases hg:v.kids[(stepR v t).1.toNat]? with
     |none=>exact sz_zero
     |some c=>exact sz_mem h (List.mem_of_getElem? hg)
  ·exact h
theorem put_get {v x:BV} {p:List Tx} (hn:v.nums) (h:(setR v p x).2=0):getR (setR v p x).1 p=(x,0):=by
 unfold setR at h ⊢
 by_cases h1:v.valid=true∧x.valid=true
 ·rw [if_pos h1] at h ⊢
  by_cases h2:(putR x v p).2=0
  ·rw [if_pos h2] at h ⊢
   by_cases h3:(putR x v p).1.valid=true
   ·rw [if_pos h3]
    show getR (putR x v p).1 p=_
    unfold getR
    rw [if_pos h3]
    unfold putR at h2 ⊢
    by_cases hp:p=[]
    ·rw [if_pos hp,hp,goR]
    ·rw [if_neg hp] at h2 ⊢
     exact goR_putO x p v (OkV.of_valid h1.1 hn) hp h2
   ·rw [if_neg h3] at h
    cases h
  ·rw [if_neg h2] at h
   exact absurd h h2
 ·rw [if_neg h1] at h
  cases h
theorem lawGet (v:BV) (path:List Tx) (hv:Fine v) (hc:v.count≤1099511627776) (hp:∀t∈path,t.length≤1099511627776) (hpl:path.length≤1099511627776) (H:AHeap) (cs:List Value) (hR:RdV H v cs) (vp:Value) (hP:RdK H 1 vp (keyC path)):
  AC Tryz.prog 22 [.agg ⟨cs⟩,vp] H (ParseP H (getR v path)):=by
 have hfl:=RdV_flat hR
 have hr5:=hR.len
 have htk5:List.take 5 cs=cs:=List.take_of_length_le (by omega)
 obtain ⟨H1,hH1⟩:∃H1:AHeap,H1=H++ [.cells cs ⟨27,0,true,0,none⟩,.cells [.int .i64 0,.int .i64 0,.string (bs []),.slice none 0 0,.slice none 0 0] ⟨27,0,true,0,none⟩]:=⟨_,rfl⟩
 have hb0:H1[H.length]? =some (.cells cs ⟨27,0,true,0,none⟩):=by rw [hH1,hget0 rfl];rfl
 have hb1:H1[H.length+1]? =some (.cells [.int .i64 0,.int .i64 0,.string (bs []),.slice none 0 0,.slice none 0 0] ⟨27,0,true,0,none⟩):=by rw [hH1,hgetk rfl];rfl
 have hl1:H1.length=H.length+2:=by rw [hH1];simp
 have hf1:Frm [] H H1:=by rw [hH1];exact Frm.app
 have hk1:Kept H H1:=by rw [hH1];exact .more _ _
 have hGet:=rGet v path hv hc hp hpl H1 cs (hR.kept hk1) vp (hP.kept hk1)
 refine AC.enter Tryz.func22 rfl (by kernel_rfl) 11 rfl [.cell 4 27,.tmp 5] rfl (by simp) fun hsc B=> ?_
 repeat first|with_reducible refine kc ?_|((with_reducible first|refine kr ?_ ?_|refine kt ?_ ?_);exact rfl)|((with_reducible refine kf ?_ ?_);exact rfl)|simp only [go_sem,sevalprocAttr,reduceCtorEq,hfl,hr5]|simp (disch:=omega) only [wz]
 rw [← hH1]
 repeat first|with_reducible refine kc ?_|((with_reducible first|refine kr ?_ ?_|refine kt ?_ ?_);exact rfl)|((with_reducible refine kf ?_ ?_);exact rfl)|simp only [go_sem,sevalprocAttr,reduceCtorEq,hb0,htk5,hr5]|simp (disch:=omega) only [wz]
 refine AC.mono hGet ?_
 rintro res H2 ⟨ck,rfl,hf2,hRk⟩
 have hck:=hRk.len
 have hckf:=RdV_flat hRk
 have htkk:List.take 5 ck=ck:=List.take_of_length_le (by omega)
 have hputk:=put5 hck
 have hb12:=hf2.get hb1 (by simp)
 have hrl2:=lt_of_get hb12
 have g2:∀o:AObj,(H2.set (H.length+1) o)[H.length+1]? =some o:=fun o=>List.getElem?_set_self hrl2
 repeat first|with_reducible refine kc ?_|((with_reducible first|refine kr ?_ ?_|refine kt ?_ ?_);exact rfl)|((with_reducible refine kf ?_ ?_);exact rfl)|simp only [go_sem,sevalprocAttr,reduceCtorEq,hck,hckf,htkk,hputk,hb12,hrl2,g2]|simp (disch:=omega) only [wz]
 exact ⟨_,_,.refl _ _ _,_,rfl,Frm.set (hf1.trans hf2 (fun x hx=>by cases hx)) (.inr (by omega)),hRk.kept (Kept.set hb12 rfl _)⟩
theorem sz_go:∀(p:List Tx) (v:BV),szV v→szV (goR v p).1
 |[],v,h=>by rw [goR];exact h
 | t::p,v,h=>by
  rw [goR]
  split
  ·refine sz_go p _ ?_
   rw [List.getD_eq_getElem?_getD]
   cases hg:v.kids[(stepR v t).1.toNat]? with
   |none=>exact sz_zero
   |some c=>exact sz_mem h (List.mem_of_getElem? hg)
  ·exact sz_zero
theorem sz_get {p:List Tx} {v:BV} (h:szV v):szV (getR v p).1:=by
 unfold getR
 split
 ·exact sz_go p v h
 ·exact sz_zero
theorem sz_set {p:List Tx} {v x:BV} (nv:v.nums) (nx:x.nums) (hp:keysW p≤1000000):szV (setR v p x).1:=by
 unfold setR
 split
 ·rename_i h1
  split
  ·split
   ·exact (put_fine h1.1 h1.2 nv nx hp).sz
   ·exact sz_zero
  ·exact sz_zero
 ·exact sz_zero
theorem sz_dropR {p:List Tx} {v:BV} (h:szV v):szV (dropR v p).1:=by
 unfold dropR
 split
 ·split
  ·exact sz_zero
  ·split
   ·exact sz_drop p v h
   ·exact sz_zero
 ·exact sz_zero
theorem set_fine {p:List Tx} {v x:BV} (nv:v.nums) (nx:x.nums) (hp:keysW p≤1000000) (h:(setR v p x).2=0):Fine (setR v p x).1:=by
 unfold setR at h ⊢
 split
 ·rename_i h1
  split
  ·split
   ·exact put_fine h1.1 h1.2 nv nx hp
   ·rename_i h2 h3
    rw [if_pos h1,if_pos h2,if_neg h3] at h
    cases h
  ·rename_i h2
   rw [if_pos h1,if_neg h2] at h
   exact absurd h h2
 ·rename_i h1
  rw [if_neg h1] at h
  cases h
def PJ (ok:Prop) (H:AHeap) (vp:Value) (H1:AHeap) (st:ASt):Prop:=
 ok∧st=⟨[(2,vp),(3,.pointer (some ⟨H.length,0,none⟩)),(4,.pointer (some ⟨H.length+1,0,none⟩))],[],H1⟩
theorem lawPaths (v to':BV) (path:List Tx) (hwv:wideV v) (hwt:wideV to') (nv:v.nums) (nt:to'.nums) (hpl:path.length<140737488355328) (H:AHeap) (hG:GlobB H) (cs csx:List Value) (hR:RdV H v cs) (hRx:RdV H to' csx) (vp:Value) (hP:RdK H 1 vp (keyC path)):
  AC Tryz.prog 4 [.agg ⟨cs⟩,.agg ⟨csx⟩,vp] H (fun r _=>r= .ret (.bool true)):=by
 have hfl:=RdV_flat hR
 have hr5:=hR.len
 have htk5:List.take 5 cs=cs:=List.take_of_length_le (by omega)
 have hflx:=RdV_flat hRx
 have hr5x:=hRx.len
 have htk5x:List.take 5 csx=csx:=List.take_of_length_le (by omega)
 obtain ⟨H1,hH1⟩:∃H1:AHeap,H1=H++ [.cells cs ⟨27,0,true,0,none⟩,.cells csx ⟨27,0,true,0,none⟩]:=⟨_,rfl⟩
 have hb0:H1[H.length]? =some (.cells cs ⟨27,0,true,0,none⟩):=by rw [hH1,hget0 rfl];rfl
 have hb1:H1[H.length+1]? =some (.cells csx ⟨27,0,true,0,none⟩):=by rw [hH1,hgetk rfl];rfl
 have hl1:H1.length=H.length+2:=by rw [hH1];simp
 have hf1:Frm [] H H1:=by rw [hH1];exact Frm.app
 have hk1:Kept H H1:=by rw [hH1];exact .more _ _
 have hG1:GlobB H1:=by rw [hH1];exact hG.more _
 have hAw:∀H2,Frm [] H1 H2→ARet Tryz.prog 6 [] H2 (.bool true) H2:=fun H2 h=>AC.forget rfl (awake H2 (hG1.frm h))
 have hA:=hAw H1 (Frm.refl _ _)
 have hLv:ARet Tryz.prog 7 [.agg ⟨cs⟩] H1 (.bool (lightB v)) H1:=AC.forget rfl (Light v hwv H1 cs (hR.kept hk1))
 have hLt:ARet Tryz.prog 7 [.agg ⟨csx⟩] H1 (.bool (lightB to')) H1:=AC.forget rfl (Light to' hwt H1 csx (hRx.kept hk1))
 have hS:=short path hpl H1 vp (hP.kept hk1)
 refine AC.enter Tryz.func4 rfl (by kernel_rfl) 121 rfl [.tmp 6] rfl (by simp) fun hsc B=> ?_
 repeat first|with_reducible refine AWP.seqE (x:= .seq (.region 1 _ _) _) (PJ (lightB v=true∧lightB to'=true∧shortB path=true) H vp H1) ?_ ?_|with_reducible refine kc ?_|((with_reducible first|refine kr ?_ ?_|refine kt ?_ ?_);exact rfl)|((with_reducible refine kf ?_ ?_);exact rfl)|simp only [go_sem,sevalprocAttr,reduceCtorEq,hfl,hr5,hflx,hr5x]|simp (disch:=omega) only [wz]|with_reducible_and_instances exact finR|((with_reducible refine finR' ?_ ?_)<;> rfl)|((with_reducible refine finD hsc (NRel.of_plain ?_));exact rfl)
 ·rw [← hH1]
  cases h1:lightB v with
  |false=>
   rw [h1] at hLv
   repeat first|with_reducible refine kc ?_|((with_reducible first|refine kr ?_ ?_|refine kt ?_ ?_);exact rfl)|((with_reducible refine kf ?_ ?_);exact rfl)|with_reducible (first|refine hLv.use ?_|refine hA.use ?_)|simp only [go_sem,sevalprocAttr,reduceCtorEq,hb0,htk5,hr5]|simp (disch:=omega) only [wz]|with_reducible_and_instances exact finR|((with_reducible refine finR' ?_ ?_)<;> rfl)|((with_reducible refine finD hsc (NRel.of_plain ?_));exact rfl)
   exact ⟨_,_,.refl _ _ _,rfl⟩
  | true=>
   rw [h1] at hLv
   cases h2:lightB to' with
   |false=>
    rw [h2] at hLt
    repeat first|with_reducible refine kc ?_|((with_reducible first|refine kr ?_ ?_|refine kt ?_ ?_);exact rfl)|((with_reducible refine kf ?_ ?_);exact rfl)|with_reducible (first|refine hLv.use ?_|refine hLt.use ?_|refine hA.use ?_)|simp only [go_sem,sevalprocAttr,reduceCtorEq,hb0,hb1,htk5,htk5x,hr5,hr5x]|simp (disch:=omega) only [wz]|with_reducible_and_instances exact finR|((with_reducible refine finR' ?_ ?_)<;> rfl)|((with_reducible refine finD hsc (NRel.of_plain ?_));exact rfl)
    exact ⟨_,_,.refl _ _ _,rfl⟩
   | true=>
    rw [h2] at hLt
    cases h3:shortB path with
    |false=>
     rw [h3] at hS
     repeat first|with_reducible refine kc ?_|((with_reducible first|refine kr ?_ ?_|refine kt ?_ ?_);exact rfl)|((with_reducible refine kf ?_ ?_);exact rfl)|with_reducible (first|refine hLv.use ?_|refine hLt.use ?_|refine hS.use ?_|refine hA.use ?_)|simp only [go_sem,sevalprocAttr,reduceCtorEq,hb0,hb1,htk5,htk5x,hr5,hr5x]|simp (disch:=omega) only [wz]|with_reducible_and_instances exact finR|((with_reducible refine finR' ?_ ?_)<;> rfl)|((with_reducible refine finD hsc (NRel.of_plain ?_));exact rfl)
     exact ⟨_,_,.refl _ _ _,rfl⟩
    |true=>
     rw [h3] at hS
     repeat first|with_reducible refine kc ?_|((with_reducible first|refine kr ?_ ?_|refine kt ?_ ?_);exact rfl)|((with_reducible refine kf ?_ ?_);exact rfl)|with_reducible (first|refine hLv.use ?_|refine hLt.use ?_|refine hS.use ?_)|simp only [go_sem,sevalprocAttr,reduceCtorEq,hb0,hb1,htk5,htk5x,hr5,hr5x]|simp (disch:=omega) only [wz]|with_reducible_and_instances exact finR|((with_reducible refine finR' ?_ ?_)<;> rfl)|((with_reducible refine finD hsc (NRel.of_plain ?_));exact rfl)
     exact ⟨_,⟨by simp,rfl⟩,Weak.env (by simp [envIn,lk_cons,wth_some])⟩
 rintro st ⟨⟨l1,l2,l3⟩,rfl⟩
 have hv:=(light_fine v nv l1).1
 have hvc:v.count≤1099511627776:=by have:=(light_fine v nv l1).2;omega
 have hx:=(light_fine to' nt l2).1
 have hxc:to'.count≤1099511627776:=by have:=(light_fine to' nt l2).2;omega
 have hkW:=short_keysW l3
 have hsh:=l3
 unfold shortB at hsh
 rw [Bool.and_eq_true,decide_eq_true_eq,List.all_eq_true] at hsh
 have hp:∀t∈path,t.length≤1099511627776:=fun t ht=>by
  have:=hsh.1 t ht
  rw [decide_eq_true_eq] at this;omega
 have hpl2:path.length≤20:=hsh.2
 have sx:szV (getR v path).1:=sz_get hv.sz
 have sz:szV (setR v path to').1:=sz_set nv nt (by omega)
 have sa:szV (dropR v path).1:=sz_dropR hv.sz
 have hzf:=set_fine (p:=path) nv nt (by omega)
 have hpg:=put_get (p:=path) (x:=to') nv
 obtain ⟨X,hX⟩:∃X,X=getR v path:=⟨_,rfl⟩
 obtain ⟨Z,hZ⟩:∃Z,Z=setR v path to':=⟨_,rfl⟩
 obtain ⟨D,hD⟩:∃D,D=dropR v path:=⟨_,rfl⟩
 rw [← hX] at sx
 rw [← hZ] at sz hzf hpg
 rw [← hD] at sa
 have fA0:Frm [] H1 H1:=Frm.refl _ _
 have kA0:Kept H H1:=hk1.trans (Kept.frm fA0 (fun x hx=>by cases hx))
 have u0:=fA0.get hb0 (by simp)
 have w0:=fA0.get hb1 (by simp)
 have c0:=getW v path hv hp (by omega) H1 (hG1.frm fA0) cs (hR.kept kA0) vp (hP.kept kA0)
 rw [← hX] at c0
 repeat first|with_reducible refine kc ?_|((with_reducible first|refine kr ?_ ?_|refine kt ?_ ?_);exact rfl)|((with_reducible refine kf ?_ ?_);exact rfl)|simp only [go_sem,sevalprocAttr,reduceCtorEq,u0,w0,htk5,htk5x,hr5,hr5x]|simp (disch:=omega) only [wz]|with_reducible_and_instances exact finR|((with_reducible refine finR' ?_ ?_)<;> rfl)|((with_reducible refine finD hsc (NRel.of_plain ?_));exact rfl)
 refine AC.mono c0 ?_
 rintro res B1 ⟨k1,rfl,g1,r1⟩
 have k1l:=r1.len
 have k1f:=RdV_flat r1
 have k1t:List.take 5 k1=k1:=List.take_of_length_le (by omega)
 have k1p:=put5 k1l
 obtain ⟨A1,hA1⟩:∃A1:AHeap,A1=B1++ [.cells k1 ⟨27,0,true,0,none⟩]:=⟨_,rfl⟩
 have b1:A1[B1.length]? =some (.cells k1 ⟨27,0,true,0,none⟩):=by rw [hA1,hget0 rfl];rfl
 have s1:RdV A1 X.1 k1:=by rw [hA1];exact r1.kept (.more _ _)
 have j1:Frm [] H1 A1:=by rw [hA1];exact g1.more
 have fA1:Frm [] H1 A1:=fA0.trans j1 (fun x hx=>by cases hx)
 repeat first|with_reducible refine kc ?_|((with_reducible first|refine kr ?_ ?_|refine kt ?_ ?_);exact rfl)|((with_reducible refine kf ?_ ?_);exact rfl)|simp only [go_sem,sevalprocAttr,reduceCtorEq,k1l,k1f,k1t,k1p]|simp (disch:=omega) only [wz]|with_reducible_and_instances exact finR|((with_reducible refine finR' ?_ ?_)<;> rfl)|((with_reducible refine finD hsc (NRel.of_plain ?_));exact rfl)
 rw [← hA1]
 have kA1:Kept H A1:=hk1.trans (Kept.frm fA1 (fun x hx=>by cases hx))
 have u1:=fA1.get hb0 (by simp)
 have w1:=fA1.get hb1 (by simp)
 have c1:=lawGet v path hv hvc hp (by omega) A1 cs (hR.kept kA1) vp (hP.kept kA1)
 rw [← hX] at c1
 repeat first|with_reducible refine kc ?_|((with_reducible first|refine kr ?_ ?_|refine kt ?_ ?_);exact rfl)|((with_reducible refine kf ?_ ?_);exact rfl)|simp only [go_sem,sevalprocAttr,reduceCtorEq,u1,w1,htk5,htk5x,hr5,hr5x]|simp (disch:=omega) only [wz]|with_reducible_and_instances exact finR|((with_reducible refine finR' ?_ ?_)<;> rfl)|((with_reducible refine finD hsc (NRel.of_plain ?_));exact rfl)
 refine AC.mono c1 ?_
 rintro res B2 ⟨k2,rfl,g2,r2⟩
 have k2l:=r2.len
 have k2f:=RdV_flat r2
 have k2t:List.take 5 k2=k2:=List.take_of_length_le (by omega)
 have k2p:=put5 k2l
 obtain ⟨A2,hA2⟩:∃A2:AHeap,A2=B2++ [.cells k2 ⟨27,0,true,0,none⟩]:=⟨_,rfl⟩
 have b2:A2[B2.length]? =some (.cells k2 ⟨27,0,true,0,none⟩):=by rw [hA2,hget0 rfl];rfl
 have s2:RdV A2 X.1 k2:=by rw [hA2];exact r2.kept (.more _ _)
 have j2:Frm [] A1 A2:=by rw [hA2];exact g2.more
 have fA2:Frm [] H1 A2:=fA1.trans j2 (fun x hx=>by cases hx)
 repeat first|with_reducible refine kc ?_|((with_reducible first|refine kr ?_ ?_|refine kt ?_ ?_);exact rfl)|((with_reducible refine kf ?_ ?_);exact rfl)|simp only [go_sem,sevalprocAttr,reduceCtorEq,k2l,k2f,k2t,k2p]|simp (disch:=omega) only [wz]|with_reducible_and_instances exact finR|((with_reducible refine finR' ?_ ?_)<;> rfl)|((with_reducible refine finD hsc (NRel.of_plain ?_));exact rfl)
 rw [← hA2]
 have kA2:Kept H A2:=hk1.trans (Kept.frm fA2 (fun x hx=>by cases hx))
 have u2:=fA2.get hb0 (by simp)
 have w2:=fA2.get hb1 (by simp)
 have c2:=setW v to' path hv hx (fun h1 h2 _=>put_fine h1 h2 nv nt (by omega)) hp (by omega) A2 (hG1.frm fA2) cs csx (hR.kept kA2) (hRx.kept kA2) vp (hP.kept kA2)
 rw [← hZ] at c2
 repeat first|with_reducible refine kc ?_|((with_reducible first|refine kr ?_ ?_|refine kt ?_ ?_);exact rfl)|((with_reducible refine kf ?_ ?_);exact rfl)|simp only [go_sem,sevalprocAttr,reduceCtorEq,u2,w2,htk5,htk5x,hr5,hr5x]|simp (disch:=omega) only [wz]|with_reducible_and_instances exact finR|((with_reducible refine finR' ?_ ?_)<;> rfl)|((with_reducible refine finD hsc (NRel.of_plain ?_));exact rfl)
 refine AC.mono c2 ?_
 rintro res B3 ⟨k3,rfl,g3,r3⟩
 have k3l:=r3.len
 have k3f:=RdV_flat r3
 have k3t:List.take 5 k3=k3:=List.take_of_length_le (by omega)
 have k3p:=put5 k3l
 obtain ⟨A3,hA3⟩:∃A3:AHeap,A3=B3++ [.cells k3 ⟨27,0,true,0,none⟩]:=⟨_,rfl⟩
 have b3:A3[B3.length]? =some (.cells k3 ⟨27,0,true,0,none⟩):=by rw [hA3,hget0 rfl];rfl
 have s3:RdV A3 Z.1 k3:=by rw [hA3];exact r3.kept (.more _ _)
 have j3:Frm [] A2 A3:=by rw [hA3];exact g3.more
 have fA3:Frm [] H1 A3:=fA2.trans j3 (fun x hx=>by cases hx)
 repeat first|with_reducible refine kc ?_|((with_reducible first|refine kr ?_ ?_|refine kt ?_ ?_);exact rfl)|((with_reducible refine kf ?_ ?_);exact rfl)|simp only [go_sem,sevalprocAttr,reduceCtorEq,k3l,k3f,k3t,k3p]|simp (disch:=omega) only [wz]|with_reducible_and_instances exact finR|((with_reducible refine finR' ?_ ?_)<;> rfl)|((with_reducible refine finD hsc (NRel.of_plain ?_));exact rfl)
 rw [← hA3]
 have kA3:Kept H A3:=hk1.trans (Kept.frm fA3 (fun x hx=>by cases hx))
 have u3:=fA3.get hb0 (by simp)
 have w3:=fA3.get hb1 (by simp)
 have c3:=rSet v to' path hv hx hvc hxc (fun h1 h2 _=>⟨put_fine h1 h2 nv nt (by omega),put_count h1 h2 nv nt (by omega)⟩) hp (by omega) A3 cs csx (hR.kept kA3) (hRx.kept kA3) vp (hP.kept kA3)
 rw [← hZ] at c3
 repeat first|with_reducible refine kc ?_|((with_reducible first|refine kr ?_ ?_|refine kt ?_ ?_);exact rfl)|((with_reducible refine kf ?_ ?_);exact rfl)|simp only [go_sem,sevalprocAttr,reduceCtorEq,u3,w3,htk5,htk5x,hr5,hr5x]|simp (disch:=omega) only [wz]|with_reducible_and_instances exact finR|((with_reducible refine finR' ?_ ?_)<;> rfl)|((with_reducible refine finD hsc (NRel.of_plain ?_));exact rfl)
 refine AC.mono c3 ?_
 rintro res B4 ⟨k4,rfl,g4,r4⟩
 have k4l:=r4.len
 have k4f:=RdV_flat r4
 have k4t:List.take 5 k4=k4:=List.take_of_length_le (by omega)
 have k4p:=put5 k4l
 obtain ⟨A4,hA4⟩:∃A4:AHeap,A4=B4++ [.cells k4 ⟨27,0,true,0,none⟩]:=⟨_,rfl⟩
 have b4:A4[B4.length]? =some (.cells k4 ⟨27,0,true,0,none⟩):=by rw [hA4,hget0 rfl];rfl
 have s4:RdV A4 Z.1 k4:=by rw [hA4];exact r4.kept (.more _ _)
 have j4:Frm [] A3 A4:=by rw [hA4];exact g4.more
 have fA4:Frm [] H1 A4:=fA3.trans j4 (fun x hx=>by cases hx)
 repeat first|with_reducible refine kc ?_|((with_reducible first|refine kr ?_ ?_|refine kt ?_ ?_);exact rfl)|((with_reducible refine kf ?_ ?_);exact rfl)|simp only [go_sem,sevalprocAttr,reduceCtorEq,k4l,k4f,k4t,k4p]|simp (disch:=omega) only [wz]|with_reducible_and_instances exact finR|((with_reducible refine finR' ?_ ?_)<;> rfl)|((with_reducible refine finD hsc (NRel.of_plain ?_));exact rfl)
 rw [← hA4]
 have kA4:Kept H A4:=hk1.trans (Kept.frm fA4 (fun x hx=>by cases hx))
 have u4:=fA4.get hb0 (by simp)
 have w4:=fA4.get hb1 (by simp)
 have c4:=dropW v path hv hp (by omega) A4 (hG1.frm fA4) cs (hR.kept kA4) vp (hP.kept kA4)
 rw [← hD] at c4
 repeat first|with_reducible refine kc ?_|((with_reducible first|refine kr ?_ ?_|refine kt ?_ ?_);exact rfl)|((with_reducible refine kf ?_ ?_);exact rfl)|simp only [go_sem,sevalprocAttr,reduceCtorEq,u4,w4,htk5,htk5x,hr5,hr5x]|simp (disch:=omega) only [wz]|with_reducible_and_instances exact finR|((with_reducible refine finR' ?_ ?_)<;> rfl)|((with_reducible refine finD hsc (NRel.of_plain ?_));exact rfl)
 refine AC.mono c4 ?_
 rintro res B5 ⟨k5,rfl,g5,r5⟩
 have k5l:=r5.len
 have k5f:=RdV_flat r5
 have k5t:List.take 5 k5=k5:=List.take_of_length_le (by omega)
 have k5p:=put5 k5l
 obtain ⟨A5,hA5⟩:∃A5:AHeap,A5=B5++ [.cells k5 ⟨27,0,true,0,none⟩]:=⟨_,rfl⟩
 have b5:A5[B5.length]? =some (.cells k5 ⟨27,0,true,0,none⟩):=by rw [hA5,hget0 rfl];rfl
 have s5:RdV A5 D.1 k5:=by rw [hA5];exact r5.kept (.more _ _)
 have j5:Frm [] A4 A5:=by rw [hA5];exact g5.more
 have fA5:Frm [] H1 A5:=fA4.trans j5 (fun x hx=>by cases hx)
 repeat first|with_reducible refine kc ?_|((with_reducible first|refine kr ?_ ?_|refine kt ?_ ?_);exact rfl)|((with_reducible refine kf ?_ ?_);exact rfl)|simp only [go_sem,sevalprocAttr,reduceCtorEq,k5l,k5f,k5t,k5p]|simp (disch:=omega) only [wz]|with_reducible_and_instances exact finR|((with_reducible refine finR' ?_ ?_)<;> rfl)|((with_reducible refine finD hsc (NRel.of_plain ?_));exact rfl)
 rw [← hA5]
 have kA5:Kept H A5:=hk1.trans (Kept.frm fA5 (fun x hx=>by cases hx))
 have u5:=fA5.get hb0 (by simp)
 have w5:=fA5.get hb1 (by simp)
 have c5:=rDropT v path hv hvc hp (by omega) A5 cs (hR.kept kA5) vp (hP.kept kA5)
 rw [← hD] at c5
 repeat first|with_reducible refine kc ?_|((with_reducible first|refine kr ?_ ?_|refine kt ?_ ?_);exact rfl)|((with_reducible refine kf ?_ ?_);exact rfl)|simp only [go_sem,sevalprocAttr,reduceCtorEq,u5,w5,htk5,htk5x,hr5,hr5x]|simp (disch:=omega) only [wz]|with_reducible_and_instances exact finR|((with_reducible refine finR' ?_ ?_)<;> rfl)|((with_reducible refine finD hsc (NRel.of_plain ?_));exact rfl)
 refine AC.mono c5 ?_
 rintro res B6 ⟨k6,rfl,g6,r6⟩
 have k6l:=r6.len
 have k6f:=RdV_flat r6
 have k6t:List.take 5 k6=k6:=List.take_of_length_le (by omega)
 have k6p:=put5 k6l
 obtain ⟨A6,hA6⟩:∃A6:AHeap,A6=B6++ [.cells k6 ⟨27,0,true,0,none⟩]:=⟨_,rfl⟩
 have b6:A6[B6.length]? =some (.cells k6 ⟨27,0,true,0,none⟩):=by rw [hA6,hget0 rfl];rfl
 have s6:RdV A6 D.1 k6:=by rw [hA6];exact r6.kept (.more _ _)
 have j6:Frm [] A5 A6:=by rw [hA6];exact g6.more
 have fA6:Frm [] H1 A6:=fA5.trans j6 (fun x hx=>by cases hx)
 repeat first|with_reducible refine kc ?_|((with_reducible first|refine kr ?_ ?_|refine kt ?_ ?_);exact rfl)|((with_reducible refine kf ?_ ?_);exact rfl)|simp only [go_sem,sevalprocAttr,reduceCtorEq,k6l,k6f,k6t,k6p]|simp (disch:=omega) only [wz]|with_reducible_and_instances exact finR|((with_reducible refine finR' ?_ ?_)<;> rfl)|((with_reducible refine finD hsc (NRel.of_plain ?_));exact rfl)
 rw [← hA6]
 have i1:Frm [] A1 A6:=((((j2).trans j3 (fun x hx=>by cases hx)).trans j4 (fun x hx=>by cases hx)).trans j5 (fun x hx=>by cases hx)).trans j6 (fun x hx=>by cases hx)
 have b1:=i1.get b1 (by simp)
 have s1:=s1.kept (Kept.frm i1 (fun x hx=>by cases hx))
 have i2:Frm [] A2 A6:=(((j3).trans j4 (fun x hx=>by cases hx)).trans j5 (fun x hx=>by cases hx)).trans j6 (fun x hx=>by cases hx)
 have b2:=i2.get b2 (by simp)
 have s2:=s2.kept (Kept.frm i2 (fun x hx=>by cases hx))
 have i3:Frm [] A3 A6:=((j4).trans j5 (fun x hx=>by cases hx)).trans j6 (fun x hx=>by cases hx)
 have b3:=i3.get b3 (by simp)
 have s3:=s3.kept (Kept.frm i3 (fun x hx=>by cases hx))
 have i4:Frm [] A4 A6:=(j5).trans j6 (fun x hx=>by cases hx)
 have b4:=i4.get b4 (by simp)
 have s4:=s4.kept (Kept.frm i4 (fun x hx=>by cases hx))
 have i5:Frm [] A5 A6:=j6
 have b5:=i5.get b5 (by simp)
 have s5:=s5.kept (Kept.frm i5 (fun x hx=>by cases hx))
 have i6:Frm [] A6 A6:=Frm.refl _ _
 have b6:=i6.get b6 (by simp)
 have s6:=s6.kept (Kept.frm i6 (fun x hx=>by cases hx))
 have e1:ARet Tryz.prog 10 [.agg ⟨k1⟩,.agg ⟨k2⟩] A6 (.bool true) A6:=by
  have:=AC.forget rfl (same X.1 sx X.1 A6 k1 k2 s1 s2)
  rwa [sameB_refl] at this
 have e2:ARet Tryz.prog 10 [.agg ⟨k3⟩,.agg ⟨k4⟩] A6 (.bool true) A6:=by
  have:=AC.forget rfl (same Z.1 sz Z.1 A6 k3 k4 s3 s4)
  rwa [sameB_refl] at this
 have e3:ARet Tryz.prog 10 [.agg ⟨k5⟩,.agg ⟨k6⟩] A6 (.bool true) A6:=by
  have:=AC.forget rfl (same D.1 sa D.1 A6 k5 k6 s5 s6)
  rwa [sameB_refl] at this
 have hA6:=hAw A6 fA6
 by_cases hz:Z.2=0
 ·have hz':(Z.2==0)=true:=by simpa using hz
  have kA6:Kept H A6:=hk1.trans (Kept.frm fA6 (fun x hx=>by cases hx))
  have w6:=fA6.get hb1 (by simp)
  have c6:=getW Z.1 path (hzf hz) hp (by omega) A6 (hG1.frm fA6) k3 s3 vp (hP.kept kA6)
  rw [hpg hz] at c6
  repeat first|with_reducible refine kc ?_|((with_reducible first|refine kr ?_ ?_|refine kt ?_ ?_);exact rfl)|((with_reducible refine kf ?_ ?_);exact rfl)|with_reducible (first|refine e1.use ?_|refine e2.use ?_|refine e3.use ?_)|simp only [go_sem,sevalprocAttr,reduceCtorEq,b1,b2,b3,b4,b5,b6,k1l,k2l,k3l,k4l,k5l,k6l,k1t,k2t,k3t,k4t,k5t,k6t,bne_self_eq_false,hz']|simp (disch:=omega) only [wz]|with_reducible_and_instances exact finR|((with_reducible refine finR' ?_ ?_)<;> rfl)|((with_reducible refine finD hsc (NRel.of_plain ?_));exact rfl)
  refine AC.mono c6 ?_
  rintro res B7 ⟨k7,rfl,g7,r7⟩
  have k7l:=r7.len
  have k7f:=RdV_flat r7
  have k7t:List.take 5 k7=k7:=List.take_of_length_le (by omega)
  have k7p:=put5 k7l
  obtain ⟨A7,hA7⟩:∃A7:AHeap,A7=B7++ [.cells k7 ⟨27,0,true,0,none⟩]:=⟨_,rfl⟩
  have b7:A7[B7.length]? =some (.cells k7 ⟨27,0,true,0,none⟩):=by rw [hA7,hget0 rfl];rfl
  have s7:RdV A7 to' k7:=by rw [hA7];exact r7.kept (.more _ _)
  have j7:Frm [] A6 A7:=by rw [hA7];exact g7.more
  have fA7:Frm [] H1 A7:=fA6.trans j7 (fun x hx=>by cases hx)
  have w7:=fA7.get hb1 (by simp)
  have x7:=hRx.kept (hk1.trans (Kept.frm fA7 (fun x hx=>by cases hx)))
  have e4:ARet Tryz.prog 10 [.agg ⟨k7⟩,.agg ⟨csx⟩] A7 (.bool true) A7:=by
   have:=AC.forget rfl (same to' hx.sz to' A7 k7 csx s7 x7)
   rwa [sameB_refl] at this
  have hA7':=hAw A7 fA7
  have e00:((0:Int) != 0)=false:=rfl
  repeat first|with_reducible refine kc ?_|((with_reducible first|refine kr ?_ ?_|refine kt ?_ ?_);exact rfl)|((with_reducible refine kf ?_ ?_);exact rfl)|simp only [go_sem,sevalprocAttr,reduceCtorEq,k7l,k7f,k7t,k7p]|simp (disch:=omega) only [wz]|with_reducible_and_instances exact finR|((with_reducible refine finR' ?_ ?_)<;> rfl)|((with_reducible refine finD hsc (NRel.of_plain ?_));exact rfl)
  rw [← hA7]
  repeat first|with_reducible refine kc ?_|((with_reducible first|refine kr ?_ ?_|refine kt ?_ ?_);exact rfl)|((with_reducible refine kf ?_ ?_);exact rfl)|with_reducible (first|refine e4.use ?_|refine hA7'.use ?_)|simp only [go_sem,sevalprocAttr,reduceCtorEq,b7,w7,k7l,k7t,htk5x,hr5x,e00]|simp (disch:=omega) only [wz]|with_reducible_and_instances exact finR|((with_reducible refine finR' ?_ ?_)<;> rfl)|((with_reducible refine finD hsc (NRel.of_plain ?_));exact rfl)
  exact ⟨_,_,.refl _ _ _,rfl⟩
 ·have hz':(Z.2==0)=false:=by simpa using hz
  repeat first|with_reducible refine kc ?_|((with_reducible first|refine kr ?_ ?_|refine kt ?_ ?_);exact rfl)|((with_reducible refine kf ?_ ?_);exact rfl)|with_reducible (first|refine e1.use ?_|refine e2.use ?_|refine e3.use ?_|refine hA6.use ?_)|simp only [go_sem,sevalprocAttr,reduceCtorEq,b1,b2,b3,b4,b5,b6,k1l,k2l,k3l,k4l,k5l,k6l,k1t,k2t,k3t,k4t,k5t,k6t,bne_self_eq_false,hz']|simp (disch:=omega) only [wz]|with_reducible_and_instances exact finR|((with_reducible refine finR' ?_ ?_)<;> rfl)|((with_reducible refine finD hsc (NRel.of_plain ?_));exact rfl)
  exact ⟨_,_,.refl _ _ _,rfl⟩
end Go.Proofs.YthcdjconlfdidaaGreatDoor
