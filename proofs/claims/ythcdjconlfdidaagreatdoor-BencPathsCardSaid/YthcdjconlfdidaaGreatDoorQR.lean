/-
 The walk of the specification's copied.
-/
import Derived.Test.YthcdjconlfdidaaGreatDoorQNM
import Derived.Test.YthcdjconlfdidaaGreatDoorQ2
set_option linter.unusedVariables false
set_option linter.unusedSimpArgs false
set_option maxRecDepth 20000
set_option maxHeartbeats 4000000
namespace Go.Proofs.YthcdjconlfdidaaGreatDoor
open Go Go.Aw Go.Proofs
def PartR (lo e m:Nat) (H:AHeap) (l:List (List Value)) (v:Value):Prop:=
 ∃q z,v= .slice (some ⟨q,0,none⟩) l.length l.length∧H[q]? =some (.cells l.flatten ⟨e,z,true,0,none⟩)∧((z=m∧l≠[])∨(z=0∧l=[]))∧lo≤q
theorem app_rows {P:Program} {e m y q lo n:Nat} {l:List (List Value)} {news:List Value} {H:AHeap} {K:Value→AHeap→Prop} (hm:0<m) (hq:H[q]? =some (.cells [] ⟨e,0,true,0,none⟩)) (hlo:lo≤q) (hl:lo≤H.length) (hn:n=l.length) (hnews:news=l.flatten) (h1:l.length*y≤140737488355328) (h2:l.length≤1099511627776)
  (hk:∀v X,PartR lo e m (H++X) l v→flat v=true→cellsOf v=[v]→K v (H++X)):appendTo P e m y (.slice (some ⟨q,0,none⟩) 0 0) n news H K:=by
 subst hn
 by_cases hp:l=[]
 ·subst hp
  unfold appendTo
  simp only [hq]
  refine ⟨fun _=>⟨fun _=> ?_,fun h=>absurd rfl h⟩,fun h=>absurd (Nat.le_refl 0) h⟩
  have:=hk (.slice (some ⟨q,0,none⟩) 0 0) [] ⟨q,0,rfl,by rw [List.append_nil];exact hq,.inr ⟨rfl,rfl⟩,hlo⟩ rfl rfl
  rw [List.append_nil] at this
  exact this
 ·have hpl:0<l.length:=List.length_pos_iff.2 hp
  refine appendTo_x hq rfl (by omega) (by simp) (by rw [Nat.zero_add];exact h1) (by omega) ?_
  have e':List.take (0*m) (List.drop 0 ([]:List Value))++news=l.flatten:=by rw [hnews];simp
  rw [e',Nat.zero_add]
  exact hk _ _ ⟨H.length,m,rfl,by rw [hget0 rfl];rfl,.inl ⟨rfl,hp⟩,hl⟩ rfl rfl
theorem PartR.more {lo e m:Nat} {H:AHeap} {l:List (List Value)} {v:Value} (h:PartR lo e m H l v) (X:AHeap):PartR lo e m (H++X) l v:=by
 obtain ⟨q,z,h1,h2,h3⟩:=h
 exact ⟨q,z,h1,by rw [hgetl (lt_of_get h2)];exact h2,h3⟩
theorem PartR.frm {lo e m:Nat} {H H2:AHeap} {l:List (List Value)} {v:Value} (h:PartR lo e m H l v) (hf:Frm [] H H2):PartR lo e m H2 l v:=by
 obtain ⟨q,z,h1,h2,h3⟩:=h
 exact ⟨q,z,h1,hf.get h2 (by simp),h3⟩
theorem rows_cells {m:Nat} {cs:List Value} {off:Nat} {l:List (List Value)} (hm:∀r∈l,r.length=m) (hle:off+l.length*m≤cs.length) (h:∀j r,l[j]? =some r→(cs.drop (off+j*m)).take m=r):(cs.drop off).take (l.length*m)=l.flatten:=by
 have key:∀(l:List (List Value)) (off:Nat),(∀ r∈l,r.length=m)→off+l.length*m≤cs.length→ (∀ j r,l[j]? =some r→(cs.drop (off+j*m)).take m=r)→(cs.drop off).take (l.length*m)=l.flatten:=fun l=>by
  induction l with
  |nil=>intro off _ _ _;simp
  | cons x l ih=>
   intro off hm hle h
   have h0:=h 0 x rfl
   rw [Nat.zero_mul,Nat.add_zero] at h0
   have hs:(l.length+1)*m=m+l.length*m:=by rw [Nat.add_mul,Nat.one_mul];omega
   rw [List.length_cons,hs] at hle
   have:=ih (off+m) (fun r hr=>hm r (List.mem_cons_of_mem _ hr)) (by omega) (fun j r hj=>by
    have:=h (j+1) r (by simpa using hj)
    rw [show off+(j+1)*m=off+m+j*m by rw [Nat.add_mul];omega] at this
    exact this)
   rw [List.length_cons,hs,List.flatten_cons,List.take_add,h0,List.drop_drop,this]
 exact key l off hm hle h
theorem PartR.flat {lo e m:Nat} {H:AHeap} {l:List (List Value)} {v:Value} (h:PartR lo e m H l v):Go.Aw.flat v=true:=by
 obtain ⟨q,z,rfl,_⟩:=h;rfl
theorem PartR.cell {lo e m:Nat} {H:AHeap} {l:List (List Value)} {v:Value} (h:PartR lo e m H l v):cellsOf v=[v]:=by
 obtain ⟨q,z,rfl,_⟩:=h;rfl
theorem PartR.sub {lo lo2 e m:Nat} {H:AHeap} {l:List (List Value)} {v:Value} (h:PartR lo e m H l v) (hl:lo2≤lo):PartR lo2 e m H l v:=by
 obtain ⟨q,z,h1,h2,h3,h4⟩:=h
 exact ⟨q,z,h1,h2,h3,by omega⟩
theorem PartR.set {lo e m:Nat} {H:AHeap} {l:List (List Value)} {v:Value} (h:PartR lo e m H l v) {b:Nat} (hb:b<lo) (o:AObj):PartR lo e m (H.set b o) l v:=by
 obtain ⟨q,z,h1,h2,h3,h4⟩:=h
 exact ⟨q,z,h1,by rw [List.getElem?_set_ne (by omega)];exact h2,h3,h4⟩
theorem keyC_len1 (keys:List Tx):∀r∈keyC keys,r.length=1:=fun r hr=>by
 unfold keyC at hr
 obtain ⟨x,_,rfl⟩:=List.mem_map.1 hr
 rfl
def OwnS (lo:Nat) (H:AHeap) (v:BV) (cs:List Value):Prop:=
 ∃vk vs css,cs= [.int .i64 v.kind,.int .i64 v.num,.string (bs v.text),vk,vs]∧PartR lo 27 5 H css vk∧RdL H v.kids css∧PartR lo 9 1 H (keyC v.keys) vs
theorem RdL_flats {H:AHeap}:∀{l:List BV} {css:List (List Value)},RdL H l css→css.flatten.all Go.Aw.flat=true
 |[],css,h=>by unfold RdL at h;rw [h];rfl
 |v::l,css,h=>by
  unfold RdL at h
  obtain ⟨cs,r,e,h1,h2⟩:=h
  rw [e,List.flatten_cons,List.all_append,RdV_flat h1,RdL_flats h2]
  rfl
def RcJ (H:AHeap) (v:BV) (vs:Value) (css:List (List Value)) (st:ASt):Prop:=
 ∃vk H2,PartR (H.length+2) 27 5 H2 css vk∧Frm [] H H2∧H2[H.length]? =some (.cells [.int .i64 v.kind,.int .i64 v.num,.string (bs v.text),vk,vs] ⟨27,0,true,0,none⟩)∧H2[H.length+1]? =some (.cells [.int .i64 0,.int .i64 0,.string (bs []),.slice none 0 0,.slice none 0 0] ⟨27,0,true,0,none⟩)∧
  st=⟨[(1,.pointer (some ⟨H.length,0,none⟩)),(2,.pointer (some ⟨H.length+1,0,none⟩))],[],H2⟩
def RcP (H:AHeap) (v:BV) (r:ARes) (H2:AHeap):Prop:=∃cs',r= .ret (.agg ⟨cs'⟩)∧OwnS (H.length+2) H2 v cs'∧Frm [] H H2
theorem rCopied (v:BV) (hsz:szV v) (H:AHeap) (cs:List Value) (hR:RdV H v cs):AC Tryz.prog 68 [.agg ⟨cs⟩] H (RcP H v):=by
 obtain ⟨k,n,s,kids,keys⟩:=v
 unfold szV at hsz
 obtain ⟨hkd,hky,hszL⟩:=hsz
 have hfl:=RdV_flat hR
 have hr5:=hR.len
 unfold RdV at hR
 obtain ⟨vk,vs,css,rfl,h1,hL,h3⟩:=hR
 obtain ⟨H1,hH1⟩:∃H1:AHeap,H1=H++ [.cells [.int .i64 k,.int .i64 n,.string (bs s),vk,vs] ⟨27,0,true,0,none⟩,.cells [.int .i64 0,.int .i64 0,.string (bs []),.slice none 0 0,.slice none 0 0] ⟨27,0,true,0,none⟩]:=⟨_,rfl⟩
 have hb0:H1[H.length]? =some (.cells [.int .i64 k,.int .i64 n,.string (bs s),vk,vs] ⟨27,0,true,0,none⟩):=by rw [hH1,hget0 rfl];rfl
 have hb1:H1[H.length+1]? =some (.cells [.int .i64 0,.int .i64 0,.string (bs []),.slice none 0 0,.slice none 0 0] ⟨27,0,true,0,none⟩):=by rw [hH1,hgetk rfl];rfl
 have hl1:H1.length=H.length+2:=by rw [hH1];simp
 have hf1:Frm [] H H1:=by rw [hH1];exact Frm.app
 have hk1:Kept H H1:=by rw [hH1];exact .more _ _
 have hcl:=hL.len
 have hc5:=hL.all5
 have hcf:css.flatten.all Go.Aw.flat=true:=RdL_flats hL
 have hrz:repZ 0 [Value.int .i64 0,.int .i64 0,.string (bs []),.slice none 0 0,.slice none 0 0]=[]:=rfl
 have hrz2:repZ 0 [Value.string (bs [])]=[]:=rfl
 have fin1:∀(va:Value) (c:AObj) (X:AHeap) (env:List (Nat×Value)),PartR H1.length 27 5 (H++ [.cells [.int .i64 k,.int .i64 n,.string (bs s),vk,vs] ⟨27,0,true,0,none⟩,.cells [.int .i64 0,.int .i64 0,.string (bs []),.slice none 0 0,.slice none 0 0] ⟨27,0,true,0,none⟩,c]++X) css va→envIn env (fun v u=>u=v) [(1,.pointer (some ⟨H.length,0,none⟩)),(2,.pointer (some ⟨H.length+1,0,none⟩))]→
   ∃st2,RcJ H (.mk k n s kids keys) vs css st2∧Weak H.length ⟨env,[],H++ .cells [.int .i64 k,.int .i64 n,.string (bs s),va,vs] ⟨27,0,true,0,none⟩:: .cells [.int .i64 0,.int .i64 0,.string (bs []),.slice none 0 0,.slice none 0 0] ⟨27,0,true,0,none⟩::c::X⟩ st2:=fun va c X env h1 h2=>by
  have h3:=(h1.sub (lo2:=H.length+2) (by omega)).set (b:=H.length) (by omega) (.cells [.int .i64 k,.int .i64 n,.string (bs s),va,vs] ⟨27,0,true,0,none⟩)
  rw [show (H++ [.cells [.int .i64 k,.int .i64 n,.string (bs s),vk,vs] ⟨27,0,true,0,none⟩,.cells [.int .i64 0,.int .i64 0,.string (bs []),.slice none 0 0,.slice none 0 0] ⟨27,0,true,0,none⟩,c]++X).set H.length (.cells [.int .i64 k,.int .i64 n,.string (bs s),va,vs] ⟨27,0,true,0,none⟩)=H++ .cells [.int .i64 k,.int .i64 n,.string (bs s),va,vs] ⟨27,0,true,0,none⟩:: .cells [.int .i64 0,.int .i64 0,.string (bs []),.slice none 0 0,.slice none 0 0] ⟨27,0,true,0,none⟩::c::X by simp] at h3
  exact ⟨_,⟨va,_,h3,Frm.app,by rw [hget0 rfl];rfl,by rw [hgetk rfl];rfl,rfl⟩,Weak.env h2⟩
 have hk1l:=keyC_len1 keys
 have hkf:(keyC keys).flatten.all Go.Aw.flat=true:=by rw [strs_flat];exact strsC_flat keys
 refine AC.enter Tryz.func68 rfl (by kernel_rfl) 14 rfl [.cell 2 27] rfl (by simp) fun hsc B=> ?_
 repeat first|with_reducible refine AWP.seqE (x:= .region 1 _ _) (RcJ H (.mk k n s kids keys) vs css) ?_ ?_|with_reducible refine kc ?_|((with_reducible first|refine kr ?_ ?_|refine kt ?_ ?_);exact rfl)|((with_reducible refine kf ?_ ?_);exact rfl)|simp only [go_sem,sevalprocAttr,reduceCtorEq,hfl,hr5,hrz]|simp (disch:=omega) only [wz]
 ·rcases h1 with ⟨rfl,rfl⟩|⟨i,off,cap,cs',k',rfl,hcap,hi,hown,hesz,hle,hrow⟩
  ·repeat first|with_reducible refine kc ?_|((with_reducible first|refine kr ?_ ?_|refine kt ?_ ?_);exact rfl)|((with_reducible refine kf ?_ ?_);exact rfl)|simp only [go_sem,sevalprocAttr,reduceCtorEq]|simp (disch:=omega) only [wz]
   refine app_rows (m:=5) (l:=[]) (lo:=H1.length) (by decide) (by rw [hgetk rfl];rfl) (by omega) (by rw [List.length_append,hl1];simp) rfl rfl (by decide) (by decide) fun va X g1 g2 g3=> ?_
   have g4:=fin1 va (.cells [] ⟨27,0,true,0,none⟩) X
   rw [List.append_assoc]
   repeat first|with_reducible refine kc ?_|((with_reducible first|refine kr ?_ ?_|refine kt ?_ ?_);exact rfl)|((with_reducible refine kf ?_ ?_);exact rfl)|simp only [go_sem,sevalprocAttr,reduceCtorEq,g2,g3,List.set_cons_succ,List.set_cons_zero]|simp (disch:=omega) only [wz]
   exact ⟨g2,g4 _ g1 (by simp [envIn,lk_cons,wth_some])⟩
  ·have hgi:∀X:AHeap,(H++X)[i]? =some (.cells cs' k'):=fun X=>by rw [hgetl (lt_of_get hi)];exact hi
   have hnews:=rows_cells hc5 hle hrow
   have hfll:=flat_len hc5
   repeat first|with_reducible refine kc ?_|((with_reducible first|refine kr ?_ ?_|refine kt ?_ ?_);exact rfl)|((with_reducible refine kf ?_ ?_);exact rfl)|simp only [go_sem,sevalprocAttr,reduceCtorEq,hgi,hle,hnews,hcf,hfll]|simp (disch:=omega) only [wz]
   refine app_rows (m:=5) (l:=css) (lo:=H1.length) (by decide) (by rw [hgetk rfl];rfl) (by omega) (by rw [List.length_append,hl1];simp) rfl rfl (by omega) (by omega) fun va X g1 g2 g3=> ?_
   have g4:=fin1 va (.cells [] ⟨27,0,true,0,none⟩) X
   rw [List.append_assoc]
   repeat first|with_reducible refine kc ?_|((with_reducible first|refine kr ?_ ?_|refine kt ?_ ?_);exact rfl)|((with_reducible refine kf ?_ ?_);exact rfl)|simp only [go_sem,sevalprocAttr,reduceCtorEq,g2,g3,List.set_cons_succ,List.set_cons_zero]|simp (disch:=omega) only [wz]
   exact ⟨g2,g4 _ g1 (by simp [envIn,lk_cons,wth_some])⟩
 rintro st ⟨va,H2,hpa,hf2,hb2,hr2,rfl⟩
 have hk2:Kept H H2:=Kept.frm hf2 (fun x hx=>by cases hx)
 have hbl2:=lt_of_get hb2
 have hrl2:=lt_of_get hr2
 have hgb2:∀X:AHeap,(H2++X)[H.length]? =some (.cells [.int .i64 k,.int .i64 n,.string (bs s),va,vs] ⟨27,0,true,0,none⟩):=fun X=>by rw [hgetl hbl2];exact hb2
 have hbl3:∀X:AHeap,H.length<(H2++X).length:=fun X=>by rw [List.length_append];omega
 have hva:=hpa.flat
 have hsr:∀(X:AHeap) (o:AObj),((H2++X).set H.length o)[H.length+1]? =some (.cells [.int .i64 0,.int .i64 0,.string (bs []),.slice none 0 0,.slice none 0 0] ⟨27,0,true,0,none⟩):=fun X o=>by rw [List.getElem?_set_ne (by omega),hgetl hrl2];exact hr2
 have hss:∀(X:AHeap) (o:AObj),((H2++X).set H.length o)[H.length]? =some o:=fun X o=>List.getElem?_set_self (hbl3 X)
 have hsl:∀(X:AHeap) (o:AObj),H.length+1<((H2++X).set H.length o).length:=fun X o=>by rw [List.length_set,List.length_append];omega
 have hs2:∀(X:AHeap) (o o2:AObj),(((H2++X).set H.length o).set (H.length+1) o2)[H.length+1]? =some o2:=fun X o o2=>List.getElem?_set_self (hsl X o)
 have fin2:∀(vb:Value) (X:AHeap) (o1 o2:AObj),PartR H2.length 9 1 (H2++X) (keyC keys) vb→
   OwnS (H.length+2) (((H2++X).set H.length o1).set (H.length+1) o2) (.mk k n s kids keys) [.int .i64 k,.int .i64 n,.string (bs s),va,vb]∧Frm [] H (((H2++X).set H.length o1).set (H.length+1) o2):=fun vb X o1 o2 h=>by
  have hfX:Frm [] H (((H2++X).set H.length o1).set (H.length+1) o2):=Frm.set (Frm.set hf2.more (.inr (Nat.le_refl _))) (.inr (by omega))
  refine ⟨⟨va,vb,css,rfl,((hpa.more X).set (by omega) _).set (by omega) _,hL.kept (Kept.frm hfX (fun x hx=>by cases hx)),?_⟩,hfX⟩
  exact ((h.sub (by have:=hf2.1;omega)).set (by omega) _).set (by omega) _
 have hend:∀(vb:Value) (X:AHeap),PartR H2.length 9 1 (H2++X) (keyC keys) vb→True:=fun _ _ _=>trivial
 repeat first|with_reducible refine kc ?_|((with_reducible first|refine kr ?_ ?_|refine kt ?_ ?_);exact rfl)|((with_reducible refine kf ?_ ?_);exact rfl)|simp only [go_sem,sevalprocAttr,reduceCtorEq,hgb2,hrz2]|simp (disch:=omega) only [wz]
 rcases h3.kept hk2 with ⟨rfl,hnil⟩|⟨i,off,cap,cs',k',rfl,hcap,hi,hown,hesz,hle,hrow⟩
 ·repeat first|with_reducible refine kc ?_|((with_reducible first|refine kr ?_ ?_|refine kt ?_ ?_);exact rfl)|((with_reducible refine kf ?_ ?_);exact rfl)|simp only [go_sem,sevalprocAttr,reduceCtorEq]|simp (disch:=omega) only [wz]
  refine app_rows (m:=1) (l:=keyC keys) (lo:=H2.length) (by decide) (by rw [hget0 rfl];rfl) (Nat.le_refl _) (by rw [List.length_append];omega) (by rw [hnil];rfl) (by rw [hnil];rfl) (by rw [hnil];decide) (by rw [hnil];decide) fun vb X g1 g2 g3=> ?_
  rw [List.append_assoc] at g1 ⊢
  repeat first|with_reducible refine kc ?_|((with_reducible first|refine kr ?_ ?_|refine kt ?_ ?_);exact rfl)|((with_reducible refine kf ?_ ?_);exact rfl)|simp only [go_sem,sevalprocAttr,reduceCtorEq,hgb2,hbl3,g2,g3,hva,hss,hsr,hsl,hs2,putCells,List.set_cons_succ,List.set_cons_zero]|simp (disch:=omega) only [wz]
  refine ⟨g2,?_⟩
  repeat first|with_reducible refine kc ?_|((with_reducible first|refine kr ?_ ?_|refine kt ?_ ?_);exact rfl)|((with_reducible refine kf ?_ ?_);exact rfl)|simp only [go_sem,sevalprocAttr,reduceCtorEq,hgb2,hbl3,g2,g3,hva,hss,hsr,hsl,hs2,putCells,List.set_cons_succ,List.set_cons_zero]|simp (disch:=omega) only [wz]
  refine ⟨by show (Go.Aw.flat va&&Go.Aw.flat vb)=true;rw [hva,g2];rfl,?_⟩
  repeat first|with_reducible refine kc ?_|((with_reducible first|refine kr ?_ ?_|refine kt ?_ ?_);exact rfl)|((with_reducible refine kf ?_ ?_);exact rfl)|simp only [go_sem,sevalprocAttr,reduceCtorEq,hs2,hsl]|simp (disch:=omega) only [wz]
  exact ⟨_,_,.refl _ _ _,_,rfl,fin2 vb (.cells [] ⟨9,0,true,0,none⟩::X) _ _ g1⟩
 ·have hgi:∀X:AHeap,(H2++X)[i]? =some (.cells cs' k'):=fun X=>by rw [hgetl (lt_of_get hi)];exact hi
  have hnews:=rows_cells hk1l hle hrow
  have hfll:=flat_len hk1l
  rw [Nat.mul_one] at hnews hfll hle
  repeat first|with_reducible refine kc ?_|((with_reducible first|refine kr ?_ ?_|refine kt ?_ ?_);exact rfl)|((with_reducible refine kf ?_ ?_);exact rfl)|simp only [go_sem,sevalprocAttr,reduceCtorEq,hgi,hle,hnews,hkf,hfll]|simp (disch:=omega) only [wz]
  refine app_rows (m:=1) (l:=keyC keys) (lo:=H2.length) (by decide) (by rw [hget0 rfl];rfl) (Nat.le_refl _) (by rw [List.length_append];omega) rfl rfl (by rw [keyC_len];omega) (by rw [keyC_len];omega) fun vb X g1 g2 g3=> ?_
  rw [List.append_assoc] at g1 ⊢
  repeat first|with_reducible refine kc ?_|((with_reducible first|refine kr ?_ ?_|refine kt ?_ ?_);exact rfl)|((with_reducible refine kf ?_ ?_);exact rfl)|simp only [go_sem,sevalprocAttr,reduceCtorEq,hgb2,hbl3,g2,g3,hva,hss,hsr,hsl,hs2,putCells,List.set_cons_succ,List.set_cons_zero]|simp (disch:=omega) only [wz]
  refine ⟨g2,?_⟩
  repeat first|with_reducible refine kc ?_|((with_reducible first|refine kr ?_ ?_|refine kt ?_ ?_);exact rfl)|((with_reducible refine kf ?_ ?_);exact rfl)|simp only [go_sem,sevalprocAttr,reduceCtorEq,hgb2,hbl3,g2,g3,hva,hss,hsr,hsl,hs2,putCells,List.set_cons_succ,List.set_cons_zero]|simp (disch:=omega) only [wz]
  refine ⟨by show (Go.Aw.flat va&&Go.Aw.flat vb)=true;rw [hva,g2];rfl,?_⟩
  repeat first|with_reducible refine kc ?_|((with_reducible first|refine kr ?_ ?_|refine kt ?_ ?_);exact rfl)|((with_reducible refine kf ?_ ?_);exact rfl)|simp only [go_sem,sevalprocAttr,reduceCtorEq,hs2,hsl]|simp (disch:=omega) only [wz]
  exact ⟨_,_,.refl _ _ _,_,rfl,fin2 vb (.cells [] ⟨9,0,true,0,none⟩::X) _ _ g1⟩
end Go.Proofs.YthcdjconlfdidaaGreatDoor
