/-
  A part of the proof of a statement of this seat.
-/
import Derived.Test.YthcdjconlfdidaaGreatDoorQNM
import Derived.Test.YthcdjconlfdidaaGreatDoorAwC
import Derived.Test.YthcdjconlfdidaaGreatDoorV5
set_option linter.unusedVariables false
set_option linter.unusedSimpArgs false
set_option maxRecDepth 20000
set_option maxHeartbeats 4000000
namespace Go.Proofs.YthcdjconlfdidaaGreatDoor
open Go Go.Aw Go.Proofs
theorem PartR.rd {lo e m:Nat} {H H2:AHeap} {l:List (List Value)} {v:Value} {T:List Nat} (h:PartR lo e m H l v) (hm:∀r∈l,r.length=m) (hsame:∀q,lo≤q→q<H.length→H2[q]? =H[q]?) (hT:∀q z:Nat,v= .slice (some ⟨q,0,none⟩) l.length l.length→q∈T):RdK (fz H2 T) m v l:=by
 obtain ⟨q,z,rfl,h2,h3,h4⟩:=h
 have h2':H2[q]? =some (.cells (l.flatten++[]) ⟨e,z,true,0,none⟩):=by rw [List.append_nil,hsame q h4 (lt_of_get h2)];exact h2
 exact rd_rows h2' (by rcases h3 with ⟨h,_⟩|⟨h,_⟩<;> simp [h]) (hT q z rfl) hm rfl (Nat.le_refl _)
theorem OwnS.rd {lo:Nat} {H:AHeap} {v:BV} {cs:List Value} (h:OwnS lo H v cs):∃T:List Nat,(∀ s∈T,lo≤s∧s<H.length)∧∀(H2:AHeap),Kept H H2→ (∀ q,lo≤q→q<H.length→H2[q]? =H[q]?)→RdV (fz H2 T) v cs:=by
 obtain ⟨vk,vs,css,rfl,h1,h2,h3⟩:=h
 have h5:=h2.all5
 have hl:=h2.len
 obtain ⟨q1,z1,e1,g1,g2,g3⟩:=id h1
 obtain ⟨q2,z2,e2,g4,g5,g6⟩:=id h3
 refine ⟨[q1,q2],fun s hs=> ?_,fun H2 hk hs=> ?_⟩
 ·simp only [List.mem_cons,List.not_mem_nil,or_false] at hs
  rcases hs with rfl|rfl
  ·exact ⟨g3,lt_of_get g1⟩
  ·exact ⟨g6,lt_of_get g4⟩
 ·obtain ⟨k,n,s,kids,keys⟩:=v
  unfold RdV
  have hk1:=h1.rd (T:=[q1,q2]) h5 hs (fun q z e=>by
   rw [e1] at e
   injection e with e
   injection e with e
   injection e with e
   simp [e])
  have hk2:=h3.rd (T:=[q1,q2]) (keyC_len1 keys) hs (fun q z e=>by
   rw [e2] at e
   injection e with e
   injection e with e
   injection e with e
   simp [e])
  exact ⟨vk,vs,css,rfl,hk1,RdL.kept (hk.trans (fz_kept _ _)) h2,hk2⟩
theorem OwnS.len {lo:Nat} {H:AHeap} {v:BV} {cs:List Value} (h:OwnS lo H v cs):cs.length=5:=by
 obtain ⟨vk,vs,css,rfl,_⟩:=h;rfl
theorem OwnS.flat {lo:Nat} {H:AHeap} {v:BV} {cs:List Value} (h:OwnS lo H v cs):cs.all Go.Aw.flat=true:=by
 obtain ⟨vk,vs,css,rfl,h1,_,h3⟩:=h
 simp only [List.all_cons,List.all_nil,h1.flat,h3.flat,Bool.and_true]
 rfl
theorem OwnS.frm {lo:Nat} {H H2:AHeap} {v:BV} {cs:List Value} (h:OwnS lo H v cs) (hf:Frm [] H H2):OwnS lo H2 v cs:=by
 obtain ⟨vk,vs,css,e,h1,h2,h3⟩:=h
 exact ⟨vk,vs,css,e,h1.frm hf,h2.kept (Kept.frm hf (fun x hx=>by cases hx)),h3.frm hf⟩
theorem OwnS.set {lo:Nat} {H:AHeap} {v:BV} {cs:List Value} (h:OwnS lo H v cs) {b:Nat} (hb:b<lo) {c:List Value} {k:CK} (hc:H[b]? =some (.cells c k)) (hk:k.own=true) (o:AObj):OwnS lo (H.set b o) v cs:=by
 obtain ⟨vk,vs,css,e,h1,h2,h3⟩:=h
 exact ⟨vk,vs,css,e,h1.set hb o,h2.kept (Kept.set hc hk _),h3.set hb o⟩
theorem fz_frm {H HF:AHeap} {T:List Nat} (hf:Frm [] H HF) (hT:∀s∈T,H.length≤s):Frm [] H (fz HF T):=
 ⟨by rw [fz_length];exact hf.1,fun j hj hn=>by rw [fz_get,if_neg (fun h=>by have:=hT j h;omega)];exact hf.2 j hj hn⟩
end Go.Proofs.YthcdjconlfdidaaGreatDoor

set_option linter.unusedVariables false
set_option linter.unusedSimpArgs false
set_option maxRecDepth 20000
set_option maxHeartbeats 4000000
namespace Go.Proofs.YthcdjconlfdidaaGreatDoor
open Go Go.Aw Go.Proofs
theorem int_ (n:Int) (H:AHeap):AC Tryz.prog 11 [.int .i64 n] H (CopP H (.mk 1 n [] [] [])):=by
 have hput:putCells [Value.int .i64 0,.int .i64 0,.string (bs []),.slice none 0 0,.slice none 0 0] 0 [Value.int .i64 1,.int .i64 n,.string (bs []),.slice none 0 0,.slice none 0 0]=[Value.int .i64 1,.int .i64 n,.string (bs []),.slice none 0 0,.slice none 0 0]:=rfl
 refine AC.enter Tryz.func11 rfl (by kernel_rfl) 5 rfl [.cell 2 27] rfl (by simp) fun hsc B=> ?_
 repeat first|with_reducible refine kc ?_|((with_reducible first|refine kr ?_ ?_|refine kt ?_ ?_);exact rfl)|((with_reducible refine kf ?_ ?_);exact rfl)|simp only [go_sem,sevalprocAttr,reduceCtorEq,hput]|simp (disch:=omega) only [wz]
 exact ⟨_,_,.refl _ _ _,_,rfl,Frm.app,RdV.bare _ _ _⟩
theorem rInt_ (n:Int) (H:AHeap):AC Tryz.prog 12 [.int .i64 n] H (CopP H (.mk 1 n [] [] [])):=by
 have hput:putCells [Value.int .i64 0,.int .i64 0,.string (bs []),.slice none 0 0,.slice none 0 0] 0 [Value.int .i64 1,.int .i64 n,.string (bs []),.slice none 0 0,.slice none 0 0]=[Value.int .i64 1,.int .i64 n,.string (bs []),.slice none 0 0,.slice none 0 0]:=rfl
 refine AC.enter Tryz.func12 rfl (by kernel_rfl) 5 rfl [.cell 2 27] rfl (by simp) fun hsc B=> ?_
 repeat first|with_reducible refine kc ?_|((with_reducible first|refine kr ?_ ?_|refine kt ?_ ?_);exact rfl)|((with_reducible refine kf ?_ ?_);exact rfl)|simp only [go_sem,sevalprocAttr,reduceCtorEq,hput]|simp (disch:=omega) only [wz]
 exact ⟨_,_,.refl _ _ _,_,rfl,Frm.app,RdV.bare _ _ _⟩
theorem text_ (s:Tx) (H:AHeap):AC Tryz.prog 13 [.string (bs s)] H (CopP H (.mk 2 0 s [] [])):=by
 have hput:putCells [Value.int .i64 0,.int .i64 0,.string (bs []),.slice none 0 0,.slice none 0 0] 0 [Value.int .i64 2,.int .i64 0,.string (bs s),.slice none 0 0,.slice none 0 0]=[Value.int .i64 2,.int .i64 0,.string (bs s),.slice none 0 0,.slice none 0 0]:=rfl
 refine AC.enter Tryz.func13 rfl (by kernel_rfl) 5 rfl [.cell 2 27] rfl (by simp) fun hsc B=> ?_
 repeat first|with_reducible refine kc ?_|((with_reducible first|refine kr ?_ ?_|refine kt ?_ ?_);exact rfl)|((with_reducible refine kf ?_ ?_);exact rfl)|simp only [go_sem,sevalprocAttr,reduceCtorEq,hput]|simp (disch:=omega) only [wz]
 exact ⟨_,_,.refl _ _ _,_,rfl,Frm.app,RdV.bare _ _ _⟩
theorem rText_ (s:Tx) (H:AHeap):AC Tryz.prog 14 [.string (bs s)] H (CopP H (.mk 2 0 s [] [])):=by
 have hput:putCells [Value.int .i64 0,.int .i64 0,.string (bs []),.slice none 0 0,.slice none 0 0] 0 [Value.int .i64 2,.int .i64 0,.string (bs s),.slice none 0 0,.slice none 0 0]=[Value.int .i64 2,.int .i64 0,.string (bs s),.slice none 0 0,.slice none 0 0]:=rfl
 refine AC.enter Tryz.func14 rfl (by kernel_rfl) 5 rfl [.cell 2 27] rfl (by simp) fun hsc B=> ?_
 repeat first|with_reducible refine kc ?_|((with_reducible first|refine kr ?_ ?_|refine kt ?_ ?_);exact rfl)|((with_reducible refine kf ?_ ?_);exact rfl)|simp only [go_sem,sevalprocAttr,reduceCtorEq,hput]|simp (disch:=omega) only [wz]
 exact ⟨_,_,.refl _ _ _,_,rfl,Frm.app,RdV.bare _ _ _⟩
theorem RdK.flatV {H:AHeap} {m:Nat} {v:Value} {l:List (List Value)} (h:RdK H m v l):flat v=true∧cellsOf v=[v]:=by
 rcases h with ⟨rfl,rfl⟩|⟨i,off,cap,cs,k,rfl,_⟩<;> exact ⟨rfl,rfl⟩
theorem list_ (l:List BV) (hsz:szV (.mk 3 0 [] l [])) (H:AHeap) (vp:Value) (css:List (List Value)) (hV:RdK H 5 vp css) (hL:RdL H l css):AC Tryz.prog 15 [vp] H (CopP H (.mk 3 0 [] l [])):=by
 obtain ⟨hvf,hvc⟩:=RdK.flatV hV
 obtain ⟨H1,hH1⟩:∃H1:AHeap,H1=H++ [.cells [.int .i64 0,.int .i64 0,.string (bs []),.slice none 0 0,.slice none 0 0] ⟨27,0,true,0,none⟩]:=⟨_,rfl⟩
 have hk1:Kept H H1:=by rw [hH1];exact .more _ _
 have hb1:H1[H.length]? =some (.cells [.int .i64 0,.int .i64 0,.string (bs []),.slice none 0 0,.slice none 0 0] ⟨27,0,true,0,none⟩):=by rw [hH1,hget0 rfl];rfl
 have hf1:Frm [] H H1:=by rw [hH1];exact Frm.app
 have hR1:RdV H1 (.mk 3 0 [] l []) [.int .i64 3,.int .i64 0,.string (bs []),vp,.slice none 0 0]:=by
  unfold RdV
  exact ⟨_,_,css,rfl,hV.kept hk1,hL.kept hk1,.inl ⟨rfl,rfl⟩⟩
 have hC:=copied _ hsz H1 _ hR1
 have hset:List.set [Value.int .i64 3,.int .i64 0,.string (bs []),.slice none 0 0,.slice none 0 0] 3 vp= [.int .i64 3,.int .i64 0,.string (bs []),vp,.slice none 0 0]:=rfl
 refine AC.enter Tryz.func15 rfl (by kernel_rfl) 6 rfl [.cell 2 27] rfl (by simp) fun hsc B=> ?_
 repeat first|with_reducible refine kc ?_|((with_reducible first|refine kr ?_ ?_|refine kt ?_ ?_);exact rfl)|((with_reducible refine kf ?_ ?_);exact rfl)|simp only [go_sem,sevalprocAttr,reduceCtorEq,hvf,hvc,putCells,hset]|simp (disch:=omega) only [wz]
 rw [← hH1]
 refine AC.mono hC ?_
 rintro res H2 ⟨cs',rfl,hf2,hR2⟩
 have hb2:=hf2.get hb1 (by simp)
 have hbl2:=lt_of_get hb2
 have h75:=hR2.len
 have hfl7:=RdV_flat hR2
 have hput7:putCells [Value.int .i64 0,.int .i64 0,.string (bs []),.slice none 0 0,.slice none 0 0] 0 cs'=cs':=putCells_all (by rw [h75];rfl)
 have htk7:List.take 5 cs'=cs':=List.take_of_length_le (by omega)
 repeat first|with_reducible refine kc ?_|((with_reducible first|refine kr ?_ ?_|refine kt ?_ ?_);exact rfl)|((with_reducible refine kf ?_ ?_);exact rfl)|simp only [go_sem,sevalprocAttr,reduceCtorEq,hb2,hbl2,h75,hfl7,hput7,htk7]|simp (disch:=omega) only [wz]
 exact ⟨_,_,.refl _ _ _,_,rfl,Frm.set (hf1.trans hf2 (fun x hx=>by cases hx)) (.inr (Nat.le_refl _)),hR2.kept (Kept.set hb2 rfl _)⟩
theorem rList_ (l:List BV) (hl:l.length≤1099511627776) (H:AHeap) (vp:Value) (css:List (List Value)) (hV:RdK H 5 vp css) (hL:RdL H l css):AC Tryz.prog 16 [vp] H (CopP H (.mk 3 0 [] l [])):=by
 obtain ⟨hvf,hvc⟩:=RdK.flatV hV
 have hcl:=hL.len
 have hc5:=hL.all5
 have hcf:css.flatten.all Go.Aw.flat=true:=RdL_flats hL
 have hrz:repZ 0 [Value.int .i64 0,.int .i64 0,.string (bs []),.slice none 0 0,.slice none 0 0]=[]:=rfl
 obtain ⟨H1,hH1⟩:∃H1:AHeap,H1=H++ [.cells [.int .i64 0,.int .i64 0,.string (bs []),.slice none 0 0,.slice none 0 0] ⟨27,0,true,0,none⟩,.cells [] ⟨27,0,true,0,none⟩]:=⟨_,rfl⟩
 have hk1:Kept H H1:=by rw [hH1];exact .more _ _
 have hb1:H1[H.length]? =some (.cells [.int .i64 0,.int .i64 0,.string (bs []),.slice none 0 0,.slice none 0 0] ⟨27,0,true,0,none⟩):=by rw [hH1,hget0 rfl];rfl
 have hq1:H1[H.length+1]? =some (.cells [] ⟨27,0,true,0,none⟩):=by rw [hH1,hgetk rfl];rfl
 have hf1:Frm [] H H1:=by rw [hH1];exact Frm.app
 have hl1:H1.length=H.length+2:=by rw [hH1];simp
 have hgb:∀X:AHeap,(H1++X)[H.length]? =some (.cells [.int .i64 0,.int .i64 0,.string (bs []),.slice none 0 0,.slice none 0 0] ⟨27,0,true,0,none⟩):=fun X=>by rw [hgetl (lt_of_get hb1)];exact hb1
 have hbl:∀X:AHeap,H.length<(H1++X).length:=fun X=>by rw [List.length_append];omega
 have hset:∀va:Value,List.set [Value.int .i64 3,.int .i64 0,.string (bs []),.slice none 0 0,.slice none 0 0] 3 va= [.int .i64 3,.int .i64 0,.string (bs []),va,.slice none 0 0]:=fun va=>rfl
 have hput:∀va:Value,putCells [Value.int .i64 0,.int .i64 0,.string (bs []),.slice none 0 0,.slice none 0 0] 0 [Value.int .i64 3,.int .i64 0,.string (bs []),va,.slice none 0 0]=[Value.int .i64 3,.int .i64 0,.string (bs []),va,.slice none 0 0]:=fun va=>rfl
 have hss:∀(X:AHeap) (o:AObj),((H1++X).set H.length o)[H.length]? =some o:=fun X o=>List.getElem?_set_self (hbl X)
 have fin:∀(va:Value) (X:AHeap) (o:AObj),PartR (H.length+1) 27 5 (H1++X) css va→∃v2 H2,WeakV H.length ((H1++X).set H.length o) (.agg ⟨[.int .i64 3,.int .i64 0,.string (bs []),va,.slice none 0 0]⟩) H2 v2∧CopP H (.mk 3 0 [] l []) (.ret v2) H2:=fun va X o hp=>by
  obtain ⟨q,z,rfl,hq,hz,hlq⟩:=hp
  have hq2:((H1++X).set H.length o)[q]? =some (.cells css.flatten ⟨27,z,true,0,none⟩):=by rw [List.getElem?_set_ne (by omega)];exact hq
  have hkX:Kept H ((H1++X).set H.length o):=(hk1.trans (.more _ _)).trans (Kept.set (hgb X) rfl _)
  refine ⟨_,_,WeakV.fz [q] _,_,rfl,fz_frm (Frm.set hf1.more (.inr (Nat.le_refl _))) (fun s hs=>by rw [List.mem_singleton.1 hs];omega),?_⟩
  unfold RdV
  refine ⟨_,_,css,rfl,rd_rows (C:=[]) (k:=⟨27,z,true,0,none⟩) (by rw [List.append_nil];exact hq2) ?_ (by simp) hc5 rfl (Nat.le_refl _),hL.kept (hkX.trans (fz_kept _ _)),.inl ⟨rfl,rfl⟩⟩
  rcases hz with ⟨rfl,_⟩|⟨rfl,_⟩
  ·exact .inl rfl
  ·exact .inr rfl
 rcases hV with ⟨rfl,rfl⟩|⟨i,off,cap,cs',k',rfl,hcap,hi,hown,hesz,hle,hrow⟩
 ·skip
  refine AC.enter Tryz.func16 rfl (by kernel_rfl) 7 rfl [.cell 2 27] rfl (by simp) fun hsc B=> ?_
  repeat first|with_reducible refine kc ?_|((with_reducible first|refine kr ?_ ?_|refine kt ?_ ?_);exact rfl)|((with_reducible refine kf ?_ ?_);exact rfl)|simp only [go_sem,sevalprocAttr,reduceCtorEq,hrz]|simp (disch:=omega) only [wz]
  rw [← hH1]
  repeat first|with_reducible refine kc ?_|((with_reducible first|refine kr ?_ ?_|refine kt ?_ ?_);exact rfl)|((with_reducible refine kf ?_ ?_);exact rfl)|simp only [go_sem,sevalprocAttr,reduceCtorEq]|simp (disch:=omega) only [wz]
  refine app_rows (m:=5) (l:=[]) (lo:=H.length+1) (by decide) hq1 (Nat.le_refl _) (by omega) rfl rfl (by decide) (by decide) fun va X g1 g2 g3=> ?_
  repeat first|with_reducible refine kc ?_|((with_reducible first|refine kr ?_ ?_|refine kt ?_ ?_);exact rfl)|((with_reducible refine kf ?_ ?_);exact rfl)|simp only [go_sem,sevalprocAttr,reduceCtorEq,g2,g3,putCells,hset,hput,hgb,hbl,hss]|simp (disch:=omega) only [wz]
  refine ⟨g2,?_⟩
  repeat first|with_reducible refine kc ?_|((with_reducible first|refine kr ?_ ?_|refine kt ?_ ?_);exact rfl)|((with_reducible refine kf ?_ ?_);exact rfl)|simp only [go_sem,sevalprocAttr,reduceCtorEq,hss]|simp (disch:=omega) only [wz]
  exact fin va X _ g1
 ·have hi1:H1[i]? =some (.cells cs' k'):=hk1 _ _ _ hi hown
  have hnews:=rows_cells hc5 hle hrow
  have hfll:=flat_len hc5
  refine AC.enter Tryz.func16 rfl (by kernel_rfl) 7 rfl [.cell 2 27] rfl (by simp) fun hsc B=> ?_
  repeat first|with_reducible refine kc ?_|((with_reducible first|refine kr ?_ ?_|refine kt ?_ ?_);exact rfl)|((with_reducible refine kf ?_ ?_);exact rfl)|simp only [go_sem,sevalprocAttr,reduceCtorEq,hrz]|simp (disch:=omega) only [wz]
  rw [← hH1]
  repeat first|with_reducible refine kc ?_|((with_reducible first|refine kr ?_ ?_|refine kt ?_ ?_);exact rfl)|((with_reducible refine kf ?_ ?_);exact rfl)|simp only [go_sem,sevalprocAttr,reduceCtorEq,hi1,hle,hnews,hcf,hfll]|simp (disch:=omega) only [wz]
  refine app_rows (m:=5) (l:=css) (lo:=H.length+1) (by decide) hq1 (Nat.le_refl _) (by omega) rfl rfl (by omega) (by omega) fun va X g1 g2 g3=> ?_
  repeat first|with_reducible refine kc ?_|((with_reducible first|refine kr ?_ ?_|refine kt ?_ ?_);exact rfl)|((with_reducible refine kf ?_ ?_);exact rfl)|simp only [go_sem,sevalprocAttr,reduceCtorEq,g2,g3,putCells,hset,hput,hgb,hbl,hss]|simp (disch:=omega) only [wz]
  refine ⟨g2,?_⟩
  repeat first|with_reducible refine kc ?_|((with_reducible first|refine kr ?_ ?_|refine kt ?_ ?_);exact rfl)|((with_reducible refine kf ?_ ?_);exact rfl)|simp only [go_sem,sevalprocAttr,reduceCtorEq,hss]|simp (disch:=omega) only [wz]
  exact fin va X _ g1
end Go.Proofs.YthcdjconlfdidaaGreatDoor
