/-
  A part of the proof of a statement of this seat.
-/
import Derived.Test.YthcdjconlfdidaaGreatDoorQI
import Derived.Test.YthcdjconlfdidaaGreatDoorQGM
import Derived.Test.YthcdjconlfdidaaGreatDoorQ1M
import Derived.Test.YthcdjconlfdidaaGreatDoorQEM
set_option linter.unusedVariables false
set_option linter.unusedSimpArgs false
set_option maxRecDepth 20000
set_option maxHeartbeats 4000000
namespace Go.Proofs.YthcdjconlfdidaaGreatDoor
open Go Go.Aw Go.Proofs
theorem drop1 (lo:Nat):GoC false lo GlobB 46 [] dropL (fun _ _=>False) where
 frm H H2 h hf:=h.frm hf
 glob H h:=h
 call :=by
  rintro v t H b off cb cs kb S hG hA ht
  have hI:=indexO hA.good t ht H hG _ _ hA.val
  have hgood:=hA.good
  obtain ⟨hg,hb,hown,hfz,hesz,hcells,hlen,hO,hnd,hnb,hlb,hlo,hhi⟩:=hA
  have hfl:=hO.flat
  have hc5:=hO.len
  obtain ⟨ke,kz,ko,kf,kg⟩:=kb
  dsimp only at hown hfz hesz
  subst hown;subst hfz;subst hesz
  obtain ⟨A,Bt,rfl,hAl⟩:=split5 hcells hlen
  have hput0:∀new:List Value,new.length=5→putCells (A++(cs++Bt)) off new=A++(new++Bt):=fun new h=>put_mid0 hAl (by omega)
  have hsame:putCells (A++(cs++Bt)) off cs=A++(cs++Bt):=hput0 cs hc5
  have hat:∀j,j<5→(A++(cs++Bt))[off+j]? =cs[j]? :=fun j hj=>mid_get hAl (by omega)
  unfold dropL
  by_cases e0:(stepR v t).2=0
  ·obtain ⟨i,hi,hie⟩:=stepR_ok hgood.form e0
   rw [if_pos e0,hie,Int.toNat_natCast]
   rw [hie,e0] at hI
   obtain ⟨k,n,s,kids,keys⟩:=v
   have hi':i<kids.length:=hi
   show AC _ _ _ _ (ChP (withL (.mk k n s kids keys) (kids.eraseIdx i) (if k=4 then keys.eraseIdx i else keys),0) _ _ _ _ _ _ _ _)
   have hsz:=hgood.sz
   unfold szV at hsz
   unfold OwnV at hO
   obtain ⟨vs,a,css,Sb,Sk,rfl,h1,h2,h3,rfl⟩:=hO
   have hvf:=h2.flat
   have hal:=lt_of_get h1
   have hbl:=lt_of_get hb
   have hab:a≠b:=fun e=>hnb (by simp [e])
   have hc55:=h3.all5
   have hcl:=h3.len
   have hat3:=hat 3 (by omega)
   have hat4:=hat 4 (by omega)
   have hat0:=hat 0 (by omega)
   simp only [List.getElem?_cons_zero,List.getElem?_cons_succ,Nat.add_zero] at hat3 hat4 hat0
   rw [List.nodup_cons,List.nodup_append] at hnd
   have hak:a∉Sk:=fun h=>hnd.1 (by simp [h])
   have hpe:∀u' v':Value,putCells (A++([.int .i64 k,.int .i64 n,.string (bs s),.slice (some ⟨a,0,none⟩) kids.length kids.length,vs]++Bt)) off [.int .i64 k,.int .i64 n,.string (bs s),u',v']=A++([.int .i64 k,.int .i64 n,.string (bs s),u',v']++Bt):=fun u' v'=>put_mid0 hAl rfl
   have hpm3:∀u':Value,putCells (A++([.int .i64 k,.int .i64 n,.string (bs s),.slice (some ⟨a,0,none⟩) kids.length kids.length,vs]++Bt)) (off+3) [u']=A++([.int .i64 k,.int .i64 n,.string (bs s),u',vs]++Bt):=fun u'=>put_mid hAl (by simp)
   have hpm4:∀u' v':Value,putCells (A++([.int .i64 k,.int .i64 n,.string (bs s),u',vs]++Bt)) (off+4) [v']=A++([.int .i64 k,.int .i64 n,.string (bs s),u',v']++Bt):=fun u' v'=>put_mid hAl (by simp)
   have hat0':∀u':Value,(A++([.int .i64 k,.int .i64 n,.string (bs s),u',vs]++Bt))[off]? =some (.int .i64 k):=fun u'=>by
    have:=mid_get (A:=A) (X:= [.int .i64 k,.int .i64 n,.string (bs s),u',vs]) (B:=Bt) (j:=0) hAl (by simp)
    simpa using this
   have hat4':∀u':Value,(A++([.int .i64 k,.int .i64 n,.string (bs s),u',vs]++Bt))[off+4]? =some vs:=fun u'=>mid_get hAl (by simp)
   have hlen':∀u':Value,off+5≤(A++([.int .i64 k,.int .i64 n,.string (bs s),u',vs]++Bt)).length:=fun u'=>by simp;omega
   obtain ⟨CB,hCB⟩:∃CB:Value→Value→List Value,∀u' v':Value,A++([.int .i64 k,.int .i64 n,.string (bs s),u',v']++Bt)=CB u' v':=⟨_,fun _ _=>rfl⟩
   simp only [hCB] at hb hlen hcells hat0 hat3 hat4 hat0' hat4' hlen' hpm4 hpm3 hpe hsame ⊢
   obtain ⟨u,hu⟩:∃u:Value,u= .slice (some ⟨a,0,none⟩) (kids.length - 1) kids.length:=⟨_,rfl⟩
   have hle3:off+3+1≤(CB (.slice (some ⟨a,0,none⟩) kids.length kids.length) vs).length:=by omega
   have hle4:off+4+1≤(CB u vs).length:=by have:=hlen' u;omega
   have hset3:∀u':Value,(CB (.slice (some ⟨a,0,none⟩) kids.length kids.length) vs).set (off+3) u'=CB u' vs:=fun u'=>hpm3 u'
   have hset4:∀u' v':Value,(CB u' vs).set (off+4) v'=CB u' v':=fun u' v'=>hpm4 u' v'
   have hD:=DeleteV css hc55 h3.flats kids.length i hcl hi' hsz.1 H a h1
   have hl5s:∀c∈css.eraseIdx i,c.length=5:=fun c hc=>hc55 c (List.mem_of_mem_eraseIdx hc)
   have hel:(css.eraseIdx i).length=kids.length - 1:=by rw [List.length_eraseIdx,if_pos (by omega),hcl]
   have hwi:IntKind.i64.wrap ((i:Int)+1)=((i+1:Nat):Int):=by have:=hsz.1;rw [wi64 (by omega)];omega
   rw [← hu] at hD
   obtain ⟨H1,hH1⟩:∃H1:AHeap,H1=H.set a (.cells ((css.eraseIdx i).flatten++ [.int .i64 0,.int .i64 0,.string (bs []),.slice none 0 0,.slice none 0 0]) ⟨27,0,true,0,none⟩):=⟨_,rfl⟩
   have hb1:H1[b]? =some (.cells (CB (.slice (some ⟨a,0,none⟩) kids.length kids.length) vs) ⟨ke,0,true,0,kg⟩):=by rw [hH1,List.getElem?_set_ne hab];exact hb
   have hl1:H1.length=H.length:=by rw [hH1,List.length_set]
   rw [← hH1] at hD
   have hfu:flat u=true:=by rw [hu];rfl
   have hcu:cellsOf u=[u]:=by rw [hu];rfl
   have fin:∀(HF:AHeap) (v':Value),HF[b]? =some (.cells (CB u v') ⟨ke,0,true,0,kg⟩)→flat v'=true→HF[a]? =H1[a]? →H.length=HF.length→ (∀ j,j<H.length→j≠b→j≠a→j∉Sb→HF[j]? =H[j]?)→ (∀ T,(∀ s∈Sb,s∈T)→RdK (fz HF T) 1 v' (keyC (if k=4 then keys.eraseIdx i else keys)))→Kept H HF→
     ∃v2 H2,WeakV H.length HF (.int .i64 0) H2 v2∧ChP (withL (.mk k n s kids keys) (kids.eraseIdx i) (if k=4 then keys.eraseIdx i else keys),0) False H b off (CB (.slice (some ⟨a,0,none⟩) kids.length kids.length) vs) [.int .i64 k,.int .i64 n,.string (bs s),.slice (some ⟨a,0,none⟩) kids.length kids.length,vs] ⟨ke,0,true,0,kg⟩ (a::(Sb++Sk)) (.ret v2) H2:=fun HF v' f1 f2 f3 f4 f5 f6 f7=>by
    refine ⟨_,_,.refl _ _ _,[.int .i64 k,.int .i64 n,.string (bs s),u,v'],a::(Sb++Sk),rfl,rfl,?_,?_,fun s hs=> .inl hs,f7,by omega,fun j hj h1 h2=> ?_,False.elim,fun _ T hT=> ?_⟩
    ·simp only [List.all_cons,List.all_nil,hfu,f2,Bool.and_true];rfl
    ·rw [hpe];exact f1
    ·simp only [List.mem_cons,List.mem_append,not_or] at h2
     exact f5 j hj h1 h2.1 h2.2.1
    ·unfold withL
     unfold RdV
     refine ⟨_,v',css.eraseIdx i,rfl,by rw [hu];exact rd_rows (C:= [.int .i64 0,.int .i64 0,.string (bs []),.slice none 0 0,.slice none 0 0]) (k:=⟨27,0,true,0,none⟩) (by rw [f3,hH1,List.getElem?_set_self hal]) (.inr rfl) (hT a (by simp)) hl5s hel (by omega),?_,f6 T (fun s hs=>hT s (by simp [hs]))⟩
     exact RdL.erase ((h3.same f7 (fun s hs=>f5 s (hhi s (by simp [hs])) (fun e=>hnb (by simp [← e,hs])) (fun e=>hak (by rw [← e];exact hs)) (fun h=>hnd.2.2.2 s h s hs rfl))).rd (fun s hs=>hT s (by simp [hs])))
   by_cases hk4:k=4
   ·subst hk4
    have hkl:=(form_asc hgood.form rfl).2
    rw [if_pos rfl] at fin ⊢
    obtain ⟨b',z,rfl,hb',hz,_,rfl⟩:∃b' z,vs= .slice (some ⟨b',0,none⟩) keys.length keys.length∧H[b']? =some (.cells (strsC keys) ⟨9,z,true,0,none⟩)∧(z=1∨z=0)∧(false=true→z=0)∧Sb=[b']:=by
     rcases h2 with ⟨h,_,_⟩|h
     ·rw [h] at hkl
      have:kids.length=0:=by rw [← hkl];rfl
      omega
     ·exact h
    have hbb':b'≠b:=fun e=>hnb (by simp [e])
    have hba':b'≠a:=fun e=>hnd.1 (by simp [e])
    obtain ⟨H2,hH2⟩:∃H2:AHeap,H2=H1.set b (.cells (CB u (.slice (some ⟨b',0,none⟩) keys.length keys.length)) ⟨ke,0,true,0,kg⟩):=⟨_,rfl⟩
    have hb2:H2[b]? =some (.cells (CB u (.slice (some ⟨b',0,none⟩) keys.length keys.length)) ⟨ke,0,true,0,kg⟩):=by rw [hH2,List.getElem?_set_self (by omega)]
    have hb2':H2[b']? =some (.cells (strsC keys) ⟨9,z,true,0,none⟩):=by rw [hH2,List.getElem?_set_ne (Ne.symm hbb'),hH1,List.getElem?_set_ne (Ne.symm hba')];exact hb'
    have hDT:=DeleteT keys keys.length i rfl (by omega) (by omega) H2 b' z hz hb2'
    obtain ⟨u2,hu2⟩:∃u2:Value,u2= .slice (some ⟨b',0,none⟩) (keys.length - 1) keys.length:=⟨_,rfl⟩
    rw [← hu2] at hDT
    have hf2:flat u2=true:=by rw [hu2];rfl
    have hc2:cellsOf u2=[u2]:=by rw [hu2];rfl
    have hl2:H2.length=H.length:=by rw [hH2,List.length_set];exact hl1
    obtain ⟨H3,hH3⟩:∃H3:AHeap,H3=H2.set b' (.cells (strsC (keys.eraseIdx i)++ [.string (bs [])]) ⟨9,z,true,0,none⟩):=⟨_,rfl⟩
    have hb3:H3[b]? =some (.cells (CB u (.slice (some ⟨b',0,none⟩) keys.length keys.length)) ⟨ke,0,true,0,kg⟩):=by rw [hH3,List.getElem?_set_ne hbb'];exact hb2
    rw [← hH3] at hDT
    refine AC.enter Tryz.func46 rfl (by kernel_rfl) 45 rfl [.tmp 4] rfl (by simp) fun hsc B=> ?_
    repeat first|with_reducible refine kc ?_|((with_reducible first|refine kr ?_ ?_|refine kt ?_ ?_);exact rfl)|((with_reducible refine kf ?_ ?_);exact rfl)|with_reducible (first|refine hI.use ?_|refine hD.use ?_)|simp only [go_sem,sevalprocAttr,reduceCtorEq,hb,hcells,hlen,hat3,hwi,hb1,hfu,hcu,hle3,hset3]|simp (disch:=omega) only [wz]
    refine ⟨hfu,?_⟩
    rw [← hH2]
    repeat first|with_reducible refine kc ?_|((with_reducible first|refine kr ?_ ?_|refine kt ?_ ?_);exact rfl)|((with_reducible refine kf ?_ ?_);exact rfl)|with_reducible refine hDT.use ?_|simp only [go_sem,sevalprocAttr,reduceCtorEq,hb2,hat0',hat4',hwi,hb3,hf2,hc2,hle4,hset4]|simp (disch:=omega) only [wz]
    refine ⟨hf2,?_⟩
    repeat first|with_reducible refine kc ?_|((with_reducible first|refine kr ?_ ?_|refine kt ?_ ?_);exact rfl)|((with_reducible refine kf ?_ ?_);exact rfl)|simp only [go_sem,sevalprocAttr,reduceCtorEq]|simp (disch:=omega) only [wz]
    have hbl3:=lt_of_get hb3
    have hH3b:H3[b']? =some (.cells (strsC (keys.eraseIdx i)++ [.string (bs [])]) ⟨9,z,true,0,none⟩):=by rw [hH3,List.getElem?_set_self (lt_of_get hb2')]
    refine fin _ u2 (List.getElem?_set_self hbl3) hf2 ?_ ?_ ?_ ?_ ?_
    ·rw [List.getElem?_set_ne (Ne.symm hab),hH3,List.getElem?_set_ne hba',hH2,List.getElem?_set_ne (Ne.symm hab)]
    ·rw [List.length_set,hH3,List.length_set];exact hl2.symm
    ·intro j hj h1 h2 h3
     rw [List.getElem?_set_ne (Ne.symm h1),hH3,List.getElem?_set_ne (fun e=>h3 (by simp [e])),hH2,List.getElem?_set_ne (Ne.symm h1),hH1,List.getElem?_set_ne (Ne.symm h2)]
    ·intro T hT
     rw [hu2]
     refine rd_rows (C:= [.string (bs [])]) (k:=⟨9,z,true,0,none⟩) (by rw [List.getElem?_set_ne (Ne.symm hbb'),strs_flat];exact hH3b) hz (hT b' (by simp)) (fun c hc=>by
      unfold keyC at hc
      obtain ⟨x,_,rfl⟩:=List.mem_map.1 hc
      rfl) ?_ (by omega)
     rw [keyC_len,List.length_eraseIdx,if_pos (by omega)]
    ·have g1:Kept H H1:=by rw [hH1];exact Kept.set h1 rfl _
     have g2:Kept H1 H2:=by rw [hH2];exact Kept.set hb1 rfl _
     have g3:Kept H2 H3:=by rw [hH3];exact Kept.set hb2' rfl _
     exact ((g1.trans g2).trans g3).trans (Kept.set hb3 rfl _)
   ·have hk4':(k==4)=false:=by simpa using hk4
    rw [if_neg hk4] at fin ⊢
    refine AC.enter Tryz.func46 rfl (by kernel_rfl) 45 rfl [.tmp 4] rfl (by simp) fun hsc B=> ?_
    repeat first|with_reducible refine kc ?_|((with_reducible first|refine kr ?_ ?_|refine kt ?_ ?_);exact rfl)|((with_reducible refine kf ?_ ?_);exact rfl)|with_reducible (first|refine hI.use ?_|refine hD.use ?_)|simp only [go_sem,sevalprocAttr,reduceCtorEq,hb,hcells,hlen,hat3,hwi,hb1,hfu,hcu,hle3,hset3]|simp (disch:=omega) only [wz]
    refine ⟨hfu,?_⟩
    have hbl1:=lt_of_get hb1
    have hb2:(H1.set b (.cells (CB u vs) ⟨ke,0,true,0,kg⟩))[b]? =some (.cells (CB u vs) ⟨ke,0,true,0,kg⟩):=List.getElem?_set_self hbl1
    repeat first|with_reducible refine kc ?_|((with_reducible first|refine kr ?_ ?_|refine kt ?_ ?_);exact rfl)|((with_reducible refine kf ?_ ?_);exact rfl)|simp only [go_sem,sevalprocAttr,reduceCtorEq,hb2,hat0',hk4']|simp (disch:=omega) only [wz]
    have hkF:Kept H (H1.set b (.cells (CB u vs) ⟨ke,0,true,0,kg⟩)):=Kept.trans (by rw [hH1];exact Kept.set h1 rfl _) (Kept.set hb1 rfl _)
    have hF:∀(o:AObj) (j:Nat),j≠b→j≠a→(H1.set b o)[j]? =H[j]? :=fun o j h1 h2=>by rw [List.getElem?_set_ne (Ne.symm h1),hH1,List.getElem?_set_ne (Ne.symm h2)]
    refine fin _ vs hb2 hvf (List.getElem?_set_ne (Ne.symm hab)) (by rw [List.length_set];exact hl1.symm) (fun j _ h1 h2 _=>hF _ j h1 h2) (fun T hT=> ?_) hkF
    exact (h2.same (fun s hs=>hF _ s (fun e=>hnb (by simp [← e,hs])) (fun e=>hnd.1 (by simp [← e,hs]))) hkF).rd hT
  ·rw [if_neg e0]
   obtain ⟨e,he⟩:∃e,e=(stepR v t).2:=⟨_,rfl⟩
   rw [← he] at e0 hI ⊢
   have he':(e != 0)=true:=by simpa using e0
   generalize hCB:A++(cs++Bt)=CB at*
   refine AC.enter Tryz.func46 rfl (by kernel_rfl) 45 rfl [.tmp 4] rfl (by simp) fun hsc B=> ?_
   repeat first|with_reducible refine kc ?_|((with_reducible first|refine kr ?_ ?_|refine kt ?_ ?_);exact rfl)|((with_reducible refine kf ?_ ?_);exact rfl)|with_reducible refine hI.use ?_|simp only [go_sem,sevalprocAttr,reduceCtorEq,hb,hcells,hlen,he',hfl,hc5]|simp (disch:=omega) only [wz]
   exact ⟨_,_,.refl _ _ _,cs,S,rfl,hc5,hfl,by rw [hsame];exact hb,fun s hs=> .inl hs,Kept.refl H,Nat.le_refl _,fun _ _ _ _=>rfl,fun _=>rfl,fun h=>absurd h e0⟩
end Go.Proofs.YthcdjconlfdidaaGreatDoor

set_option linter.unusedVariables false
set_option linter.unusedSimpArgs false
set_option maxRecDepth 20000
set_option maxHeartbeats 4000000
namespace Go.Proofs.YthcdjconlfdidaaGreatDoor
open Go Go.Aw Go.Proofs
def CdP (R:BV×Int) (stay:Prop) (H:AHeap) (cs:List Value) (S:List Nat) (r:ARes) (H2:AHeap):Prop:=
 ∃S':List Nat,r= .ret (.int .i64 R.2)∧ (∀ s∈S',s∈S∨(H.length≤s∧s<H2.length))∧Kept H H2∧H.length≤H2.length∧ (∀ j,j<H.length→j∉S→H2[j]? =H[j]?)∧(stay→R.2=0→∀T,(∀ s∈S',s∈T)→RdV (fz H2 T) R.1 cs)
theorem changed_ {ex:Bool} {lo:Nat} {J:AHeap→Prop} {f:FuncId} {cap:List Value} {last:BV→Tx→BV×Int} {stay:BV→Tx→Prop} (hC:GoC ex lo J f cap last stay) (p:List Tx) (t:Tx) (v:BV) (H:AHeap) (cs:List Value) (S:List Nat) (vp:Value)
  (hJ:J H) (hg:Good v) (hO:OwnV ex H v cs S) (hnd:S.Nodup) (hlo:∀s∈S,lo≤s) (hhi:∀s∈S,s<H.length) (hloH:lo≤H.length) (ht:∀u∈t::p,u.length≤1099511627776) (hpl:p.length≤1099511627776) (hP:RdK H 1 vp (keyC (t::p))):
  AC Tryz.prog 42 [.agg ⟨cs⟩,vp,.func (.func f) ⟨[]⟩ ⟨cap⟩] H (CdP (chR last v (t::p)) (stayP stay v (t::p)) H cs S):=by
 have hfl:=hO.flat
 have hc5:=hO.len
 have htk:List.take 5 cs=cs:=List.take_of_length_le (by omega)
 obtain ⟨H1,hH1⟩:∃H1:AHeap,H1=H++ [.cells cs ⟨27,0,true,0,none⟩,.cells [.func (.func f) ⟨[]⟩ ⟨cap⟩] ⟨61,0,true,0,none⟩,.cells [.func (.func 66) ⟨[]⟩ ⟨[.pointer (some ⟨H.length+1,0,none⟩),.pointer (some ⟨H.length+2,0,none⟩)]⟩] ⟨83,0,true,0,none⟩]:=⟨_,rfl⟩
 have hb0:H1[H.length]? =some (.cells cs ⟨27,0,true,0,none⟩):=by rw [hH1,hget0 rfl];rfl
 have hb1:H1[H.length+1]? =some (.cells [.func (.func f) ⟨[]⟩ ⟨cap⟩] ⟨61,0,true,0,none⟩):=by rw [hH1,hgetk rfl];rfl
 have hb2:H1[H.length+2]? =some (.cells [.func (.func 66) ⟨[]⟩ ⟨[.pointer (some ⟨H.length+1,0,none⟩),.pointer (some ⟨H.length+2,0,none⟩)]⟩] ⟨83,0,true,0,none⟩):=by rw [hH1,hgetk rfl];rfl
 have hf1:Frm [] H H1:=by rw [hH1];exact Frm.app
 have hk1:Kept H H1:=by rw [hH1];exact .more _ _
 have hl1:H1.length=H.length+3:=by rw [hH1];simp
 have hA:AtV ex lo H1 v H.length 0 cs cs ⟨27,0,true,0,none⟩ S:=
  ⟨hg,hb0,rfl,rfl,rfl,by rw [List.drop_zero];exact htk,by omega,hO.same hk1 (fun s hs=>hf1.2 s (hhi s hs) (by simp)),hnd,fun h=>absurd (hhi _ h) (Nat.lt_irrefl _),hloH,hlo,fun s hs=>by have:=hhi s hs;omega⟩
 have hgo:=go1 hC (H.length+1) (H.length+2) 61 83 p t v H1 H.length 0 cs cs _ S vp (hC.frm _ _ hJ hf1) hA ht hpl (hP.kept hk1) hb1 hb2
 refine AC.enter Tryz.func42 rfl (by kernel_rfl) 12 rfl [.tmp 6] rfl (by simp) fun hsc B=> ?_
 repeat first|with_reducible refine kc ?_|((with_reducible first|refine kr ?_ ?_|refine kt ?_ ?_);exact rfl)|((with_reducible refine kf ?_ ?_);exact rfl)|simp only [go_sem,sevalprocAttr,reduceCtorEq,hfl,hc5]|simp (disch:=omega) only [wz]
 rw [← hH1]
 refine AC.mono hgo ?_
 rintro res H5 ⟨cs2,S2,rfl,q1,q2,q3,q4,q5,q6,q7,q8,q9⟩
 repeat first|with_reducible refine kc ?_|((with_reducible first|refine kr ?_ ?_|refine kt ?_ ?_);exact rfl)|((with_reducible refine kf ?_ ?_);exact rfl)|simp only [go_sem,sevalprocAttr,reduceCtorEq]|simp (disch:=omega) only [wz]
 refine ⟨_,_,.refl _ _ _,S2,rfl,fun s hs=> ?_,hk1.trans q5,by omega,fun j hj hn=>(q7 j (by omega) (by omega) hn).trans (hf1.2 j hj (by simp)),fun hst h0 T hT=> ?_⟩
 ·rcases q4 s hs with h|h
  ·exact .inl h
  ·exact .inr (by omega)
 ·have:=q9 h0 T hT
  rw [q8 hst] at this
  exact this
theorem changed_p {ex:Bool} {lo:Nat} {J:AHeap→Prop} {f:FuncId} {cap:List Value} {last:BV→Tx→BV×Int} {stay:BV→Tx→Prop} (hC:GoC ex lo J f cap last stay) (p:List Tx) (t:Tx) (v:BV) (H:AHeap) (cs:List Value) (S:List Nat)
  (hJ:J H) (hg:Good v) (hO:OwnV ex H v cs S) (hnd:S.Nodup) (hlo:∀s∈S,lo≤s) (hhi:∀s∈S,s<H.length) (hloH:lo≤H.length) (ht:∀u∈t::p,u.length≤1099511627776) (hpl:p.length≤1099511627776)
  (H6:AHeap) (q z:Nat) (hf:Frm [] H H6) (hq:H.length≤q) (h6:H6[q]? =some (.cells (strsC (t::p)) ⟨9,z,true,0,none⟩)) (hz:z=1∨z=0):
  AC Tryz.prog 42 [.agg ⟨cs⟩,.slice (some ⟨q,0,none⟩) (p.length+1) (p.length+1),.func (.func f) ⟨[]⟩ ⟨cap⟩] H6 (CdP (chR last v (t::p)) (stayP stay v (t::p)) H cs S):=by
 refine AC.freeze h6 ?_
 have hf2:Frm [] H (H6.set q (.cells (strsC (t::p)) ⟨9,z,false,0,none⟩)):=Frm.set hf (.inr hq)
 have hk2:Kept H (H6.set q (.cells (strsC (t::p)) ⟨9,z,false,0,none⟩)):=Kept.frm hf2 (fun x hx=>by cases hx)
 have hq6:=lt_of_get h6
 have hl6:=hf2.1
 refine (changed_ hC p t v _ cs S _ (hC.frm _ _ hJ hf2) hg (hO.same hk2 (fun s hs=>hf2.2 s (hhi s hs) (by simp))) hnd hlo (fun s hs=>Nat.lt_of_lt_of_le (hhi s hs) hl6) (Nat.le_trans hloH hl6) ht hpl ?_).mono ?_
 ·refine .inr ⟨q,0,p.length+1,strsC (t::p),⟨9,z,false,0,none⟩,by rw [keyC_len,List.length_cons],by rw [keyC_len,List.length_cons];omega,List.getElem?_set_self hq6,rfl,hz,by rw [keyC_len,strsC_len];omega,fun j r hj=> ?_⟩
  have h1:∀r∈keyC (t::p),r.length=1:=fun r hr=>by
   unfold keyC at hr
   obtain ⟨x,_,rfl⟩:=List.mem_map.1 hr
   rfl
  rw [Nat.zero_add,←strs_flat]
  exact flat_at h1 hj
 ·rintro r H2 ⟨S2,rfl,q1,q2,q3,q4,q5⟩
  refine ⟨S2,rfl,fun s hs=> ?_,hk2.trans q2,by omega,fun j hj hn=>(q4 j (by omega) hn).trans (hf2.2 j hj (by simp)),q5⟩
  rcases q1 s hs with h|h
  ·exact .inl h
  ·exact .inr (by omega)
theorem keys_cells {cs:List Value} {off:Nat} {l:List Tx} (hle:off+(keyC l).length*1≤cs.length) (h:∀j r,(keyC l)[j]? =some r→(cs.drop (off+j*1)).take 1=r):(cs.drop off).take (l.length*1)=strsC l:=by
 rw [keyC_len] at hle
 apply List.ext_getElem?
 intro j
 by_cases hj:j<l.length
 ·have h1:=h j _ (keyC_at hj)
  have h2:=congrArg (fun l=>l[0]?) h1
  simp only [List.getElem?_take,List.getElem?_drop] at h2
  rw [List.getElem?_take,if_pos (by omega),List.getElem?_drop]
  simp only [Nat.zero_lt_one,if_true,Nat.mul_one,Nat.add_zero] at h2
  rw [h2]
  unfold strsC
  rw [List.getElem?_map,List.getElem?_eq_getElem hj]
  rfl
 ·rw [List.getElem?_take,if_neg (by omega)]
  rw [List.getElem?_eq_none (by rw [strsC_len];omega)]
theorem appendTo_path {P:Program} {y j:Nat} {t:Tx} {p:List Tx} {news:List Value} {n:Nat} {H:AHeap} {K:Value→AHeap→Prop} (hj:H[j]? =some (.cells [.string (bs t)] ⟨9,0,true,0,none⟩)) (hn:n=p.length) (hnews:news=strsC p) (h1:(1+p.length)*y≤140737488355328) (h2:p.length≤1099511627776)
  (hk:∀(q z:Nat) (X:AHeap),(z=1∨z=0)→(X=[]∧q=j∨q=H.length)→(H++X)[q]? =some (.cells (strsC (t::p)) ⟨9,z,true,0,none⟩)→K (.slice (some ⟨q,0,none⟩) (p.length+1) (p.length+1)) (H++X)):appendTo P 9 1 y (.slice (some ⟨j,0,none⟩) 1 1) n news H K:=by
 subst hn
 by_cases hp:p=[]
 ·subst hp
  unfold appendTo
  simp only [hj]
  refine ⟨fun _=>⟨fun _=> ?_,fun h=>absurd rfl h⟩,fun h=>absurd (Nat.le_refl 1) h⟩
  have:=hk j 0 [] (.inr rfl) (.inl ⟨rfl,rfl⟩) (by rw [List.append_nil];exact hj)
  rw [List.append_nil] at this
  exact this
 ·have hpl:0<p.length:=List.length_pos_iff.2 hp
  refine appendTo_x hj rfl (by omega) (by simp) h1 (by omega) ?_
  have e:List.take (1*1) (List.drop 0 [Value.string (bs t)])++news=strsC (t::p):=by rw [hnews];rfl
  rw [e,Nat.add_comm 1 p.length]
  exact hk H.length 1 _ (.inl rfl) (.inr rfl) (by rw [hget0 rfl];rfl)
end Go.Proofs.YthcdjconlfdidaaGreatDoor
