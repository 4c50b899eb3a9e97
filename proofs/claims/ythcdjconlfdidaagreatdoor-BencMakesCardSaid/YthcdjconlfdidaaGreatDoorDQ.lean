/-
 The walk of the shape of a dictionary.
-/
import Derived.Test.YthcdjconlfdidaaGreatDoorDOM
set_option linter.unusedVariables false
set_option linter.unusedSimpArgs false
set_option maxRecDepth 20000
set_option maxHeartbeats 8000000
namespace Go.Proofs.YthcdjconlfdidaaGreatDoor
open Go Go.Aw Go.Proofs
theorem Compact0 (v:Value) (hv:v= .slice none 0 0∨∃i,v= .slice (some ⟨i,0,none⟩) 0 0) (H:AHeap):ARet Tryz.prog 83 [v] H v H:=by
 rcases hv with rfl|⟨i,rfl⟩
 ·
  refine AC.enter Tryz.func83 rfl (by kernel_rfl) 61 rfl [.tmp 2] rfl (by simp) fun hsc B=> ?_
  repeat first|with_reducible refine kc ?_|((with_reducible first|refine kr ?_ ?_|refine kt ?_ ?_);exact rfl)|((with_reducible refine kf ?_ ?_);exact rfl)|simp only [go_sem,sevalprocAttr,reduceCtorEq]|simp (disch:=omega) only [wz]|with_reducible_and_instances exact finR|((with_reducible refine finR' ?_ ?_)<;> rfl)|((with_reducible refine finD hsc (NRel.of_plain ?_));exact rfl)
 ·
  refine AC.enter Tryz.func83 rfl (by kernel_rfl) 61 rfl [.tmp 2] rfl (by simp) fun hsc B=> ?_
  repeat first|with_reducible refine kc ?_|((with_reducible first|refine kr ?_ ?_|refine kt ?_ ?_);exact rfl)|((with_reducible refine kf ?_ ?_);exact rfl)|simp only [go_sem,sevalprocAttr,reduceCtorEq]|simp (disch:=omega) only [wz]|with_reducible_and_instances exact finR|((with_reducible refine finR' ?_ ?_)<;> rfl)|((with_reducible refine finD hsc (NRel.of_plain ?_));exact rfl)
theorem set_same {H:AHeap} {b:Nat} {o:AObj} (h:H[b]? =some o):H.set b o=H:=by
 obtain ⟨hl,rfl⟩:=List.getElem?_eq_some_iff.1 h
 exact List.set_getElem_self hl
def dictB (n:Int) (s:List UInt8) (kids:List BV) (keys:List (List UInt8)):Bool:=
 (n==0)&&(s==[])&&(keys.length==kids.length)&&srt keys (keys.length - 1)&&((cptN keys keys.length).length==keys.length)
theorem natEq (a b:Nat):((a:Int)==(b:Int))=(a==b):=by
 by_cases h:a=b
 ·subst h;rw [beq_self_eq_true,beq_self_eq_true]
 ·rw [beq_eq_false_iff_ne.2 h];exact beq_eq_false_iff_ne.2 (by omega)
theorem sh4 (k n:Int) (s:List UInt8) (kids:List BV) (keys:List (List UInt8)) (hk:kids.length≤1099511627776) (hx:keys.length<1099511627776) (H:AHeap) (cs:List Value) (hR:RdV H (.mk k n s kids keys) cs):
  AC Tryz.prog 81 [.agg ⟨cs⟩] H (fun r H2=>r= .ret (.bool (dictB n s kids keys))∧Frm [] H H2):=by
 have hfl:=RdV_flat hR
 have hr5:=hR.len
 unfold RdV at hR
 obtain ⟨vk,vs,css,rfl,h1,hL,h3⟩:=hR
 have hkl:(keyC keys).length=keys.length:=by unfold keyC;simp
 have hcl:=hL.len
 have q1:∀H' K,lenW Tryz.prog 23 vk H' K=K (.int .i64 (kids.length:Nat)) H':=fun H' K=>by rw [h1.lenT (by simp only [go_sem,sevalprocAttr,reduceCtorEq]),hcl]
 have q2:∀H' K,lenW Tryz.prog 22 vs H' K=K (.int .i64 (keys.length:Nat)) H':=fun H' K=>by rw [h3.lenT (by simp only [go_sem,sevalprocAttr,reduceCtorEq]),hkl]
 have he:=natEq keys.length kids.length
 unfold dictB
 obtain ⟨H1,hH1⟩:∃H1:AHeap,H1=H++ [.cells [.int .i64 k,.int .i64 n,.string (bs s),vk,vs] ⟨27,0,true,0,none⟩]:=⟨_,rfl⟩
 have hb1:H1[H.length]? =some (.cells [.int .i64 k,.int .i64 n,.string (bs s),vk,vs] ⟨27,0,true,0,none⟩):=by rw [hH1,hget0 rfl];rfl
 have hf1:Frm [] H H1:=by rw [hH1];exact Frm.app
 have h3':RdK H1 1 vs (keyC keys):=h3.kept (by rw [hH1];exact .more _ _)
 have hS:=IsSorted keys vs (by omega) H1 h3'
 refine AC.enter Tryz.func81 rfl (by kernel_rfl) 36 rfl [.tmp 2] rfl (by simp) fun hsc B=> ?_
 repeat first|with_reducible refine kc ?_|((with_reducible first|refine kr ?_ ?_|refine kt ?_ ?_);exact rfl)|((with_reducible refine kf ?_ ?_);exact rfl)|simp only [go_sem,sevalprocAttr,reduceCtorEq,hfl,hr5]|simp (disch:=omega) only [wz]
 rw [← hH1]
 cases hn:(n==0)
 ·refine AWP.regionMP 31 [1,5,10,13,19,20,24,25,26,27,29] [(1,.int .i64 n),(5,noVal),(10,noVal),(13,noVal),(19,noVal),(20,noVal),(24,noVal),(25,noVal),(26,noVal),(27,noVal),(29,noVal)] (.step 1 (.step 5 (.both (.step 10 (.step 13 (.step 19 (.step 20 (.both (.step 24 (.both (.step 25 (.both (.step 26 (.both (.run [27,29]) (.run [29,27]))) (.run [29,26,27]))) (.run [29,25,26,27]))) (.run [29,24,25,26,27])))))) (.step 13 (.step 10 (.step 19 (.step 20 (.both (.step 24 (.both (.step 25 (.both (.step 26 (.both (.run [27,29]) (.run [29,27]))) (.run [29,26,27]))) (.run [29,25,26,27]))) (.run [29,24,25,26,27]))))))))) (by kernel_rfl) (by decide) (by kernel_rfl) (by kernel_rfl) (by kernel_rfl) ?_
  repeat' first|with_reducible refine canW_n ?_|with_reducible refine canW_m (by decide) ?_|((with_reducible apply canW_p (by decide));focus (intro H;(simp only [go_sem,sevalprocAttr,reduceCtorEq,hb1,hn,Bool.false_and,List.map_cons,List.map_nil]);exact rfl))|with_reducible refine memW_bP ?_ ?_|with_reducible refine memW_sP rfl ?_|with_reducible refine memW_rP rfl ?_|with_reducible refine memW_eP ?_|simp only [List.take_succ_cons,List.take_zero,List.drop_succ_cons,List.drop_zero]|omega|with_reducible refine And.intro ?_ ?_|with_reducible refine kc ?_|((with_reducible first|refine kr ?_ ?_|refine kt ?_ ?_);exact rfl)|((with_reducible refine kf ?_ ?_);exact rfl)|simp only [go_sem,sevalprocAttr,reduceCtorEq,hb1,hn,Bool.false_and,List.map_cons,List.map_nil]|simp (disch:=omega) only [wz]
  all_goals exact ⟨_,_,.refl _ _ _,rfl,hf1⟩
 obtain rfl:n=0:=by simpa using hn
 cases hs:(s==[])
 ·refine AWP.regionMP 31 [1,5,10,13,19,20,24,25,26,27,29] [(1,.int .i64 0),(5,.string (bs s)),(10,noVal),(13,noVal),(19,noVal),(20,noVal),(24,noVal),(25,noVal),(26,noVal),(27,noVal),(29,noVal)] (.step 1 (.step 5 (.both (.step 10 (.step 13 (.step 19 (.step 20 (.both (.step 24 (.both (.step 25 (.both (.step 26 (.both (.run [27,29]) (.run [29,27]))) (.run [29,26,27]))) (.run [29,25,26,27]))) (.run [29,24,25,26,27])))))) (.step 13 (.step 10 (.step 19 (.step 20 (.both (.step 24 (.both (.step 25 (.both (.step 26 (.both (.run [27,29]) (.run [29,27]))) (.run [29,26,27]))) (.run [29,25,26,27]))) (.run [29,24,25,26,27]))))))))) (by kernel_rfl) (by decide) (by kernel_rfl) (by kernel_rfl) (by kernel_rfl) ?_
  repeat' first|with_reducible refine canW_n ?_|with_reducible refine canW_m (by decide) ?_|((with_reducible apply canW_p (by decide));focus (intro H;(simp only [go_sem,sevalprocAttr,reduceCtorEq,hb1,hs,Bool.false_and,Bool.true_and,List.map_cons,List.map_nil]);exact rfl))|with_reducible refine memW_bP ?_ ?_|with_reducible refine memW_sP rfl ?_|with_reducible refine memW_rP rfl ?_|with_reducible refine memW_eP ?_|simp only [List.take_succ_cons,List.take_zero,List.drop_succ_cons,List.drop_zero]|omega|with_reducible refine And.intro ?_ ?_|with_reducible refine kc ?_|((with_reducible first|refine kr ?_ ?_|refine kt ?_ ?_);exact rfl)|((with_reducible refine kf ?_ ?_);exact rfl)|simp only [go_sem,sevalprocAttr,reduceCtorEq,hb1,hs,Bool.false_and,Bool.true_and,List.map_cons,List.map_nil]|simp (disch:=omega) only [wz]
  all_goals exact ⟨_,_,.refl _ _ _,rfl,hf1⟩
 obtain rfl:s=[]:=by simpa using hs
 cases hq:(keys.length==kids.length)
 ·rw [hq] at he
  refine AWP.regionMP 31 [1,5,10,13,19,20,24,25,26,27,29] [(1,.int .i64 0),(5,.string (bs [])),(10,vs),(13,vk),(19,noVal),(20,noVal),(24,noVal),(25,noVal),(26,noVal),(27,noVal),(29,noVal)] (.step 1 (.step 5 (.both (.step 10 (.step 13 (.step 19 (.step 20 (.both (.step 24 (.both (.step 25 (.both (.step 26 (.both (.run [27,29]) (.run [29,27]))) (.run [29,26,27]))) (.run [29,25,26,27]))) (.run [29,24,25,26,27])))))) (.step 13 (.step 10 (.step 19 (.step 20 (.both (.step 24 (.both (.step 25 (.both (.step 26 (.both (.run [27,29]) (.run [29,27]))) (.run [29,26,27]))) (.run [29,25,26,27]))) (.run [29,24,25,26,27]))))))))) (by kernel_rfl) (by decide) (by kernel_rfl) (by kernel_rfl) (by kernel_rfl) ?_
  repeat' first|with_reducible refine canW_n ?_|with_reducible refine canW_m (by decide) ?_|((with_reducible apply canW_p (by decide));focus (intro H;(simp only [go_sem,sevalprocAttr,reduceCtorEq,hb1,q1,q2,he,hs,Bool.false_and,Bool.true_and,List.map_cons,List.map_nil]);exact rfl))|with_reducible refine memW_bP ?_ ?_|with_reducible refine memW_sP rfl ?_|with_reducible refine memW_rP rfl ?_|with_reducible refine memW_eP ?_|simp only [List.take_succ_cons,List.take_zero,List.drop_succ_cons,List.drop_zero]|omega|with_reducible refine And.intro ?_ ?_|with_reducible refine kc ?_|((with_reducible first|refine kr ?_ ?_|refine kt ?_ ?_);exact rfl)|((with_reducible refine kf ?_ ?_);exact rfl)|simp only [go_sem,sevalprocAttr,reduceCtorEq,hb1,q1,q2,he,hs,Bool.false_and,Bool.true_and,List.map_cons,List.map_nil]|simp (disch:=omega) only [wz]
  all_goals exact ⟨_,_,.refl _ _ _,rfl,hf1⟩
 rw [hq] at he
 cases ho:srt keys (keys.length - 1)
 ·rw [ho] at hS
  refine AWP.regionMP 31 [1,5,10,13,19,20,24,25,26,27,29] [(1,.int .i64 0),(5,.string (bs [])),(10,vs),(13,vk),(19,vs),(20,.bool false),(24,noVal),(25,noVal),(26,noVal),(27,noVal),(29,noVal)] (.step 1 (.step 5 (.both (.step 10 (.step 13 (.step 19 (.step 20 (.both (.step 24 (.both (.step 25 (.both (.step 26 (.both (.run [27,29]) (.run [29,27]))) (.run [29,26,27]))) (.run [29,25,26,27]))) (.run [29,24,25,26,27])))))) (.step 13 (.step 10 (.step 19 (.step 20 (.both (.step 24 (.both (.step 25 (.both (.step 26 (.both (.run [27,29]) (.run [29,27]))) (.run [29,26,27]))) (.run [29,25,26,27]))) (.run [29,24,25,26,27]))))))))) (by kernel_rfl) (by decide) (by kernel_rfl) (by kernel_rfl) (by kernel_rfl) ?_
  repeat' first|with_reducible refine canW_n ?_|with_reducible refine canW_m (by decide) ?_|((with_reducible apply canW_p (by decide));focus (intro H;(simp only [go_sem,sevalprocAttr,reduceCtorEq,hb1,q1,q2,he,hs,Bool.false_and,Bool.true_and,List.map_cons,List.map_nil]);exact rfl))|with_reducible refine memW_bP ?_ ?_|with_reducible refine memW_sP rfl ?_|with_reducible refine memW_rP rfl ?_|with_reducible refine memW_eP ?_|simp only [List.take_succ_cons,List.take_zero,List.drop_succ_cons,List.drop_zero]|omega|with_reducible refine And.intro ?_ ?_|with_reducible refine kc ?_|((with_reducible first|refine kr ?_ ?_|refine kt ?_ ?_);exact rfl)|((with_reducible refine kf ?_ ?_);exact rfl)|with_reducible refine hS.use ?_|simp only [go_sem,sevalprocAttr,reduceCtorEq,hb1,q1,q2,he,hs,Bool.false_and,Bool.true_and,List.map_cons,List.map_nil]|simp (disch:=omega) only [wz]
  all_goals exact ⟨_,_,.refl _ _ _,rfl,hf1⟩
 rw [ho] at hS
 have hC:=CloneK keys (by omega) vs H1 h3'
 have hl1:H1.length=H.length+1:=by rw [hH1];simp
 refine AWP.regionMP 31 [1,5,10,13,19,20,24,25,26,27,29] [(1,.int .i64 0),(5,.string (bs [])),(10,vs),(13,vk),(19,vs),(20,.bool true),(29,vs)] (.step 1 (.step 5 (.both (.step 10 (.step 13 (.step 19 (.step 20 (.both (.step 24 (.both (.step 25 (.both (.step 26 (.both (.run [27,29]) (.run [29,27]))) (.run [29,26,27]))) (.run [29,25,26,27]))) (.run [29,24,25,26,27])))))) (.step 13 (.step 10 (.step 19 (.step 20 (.both (.step 24 (.both (.step 25 (.both (.step 26 (.both (.run [27,29]) (.run [29,27]))) (.run [29,26,27]))) (.run [29,25,26,27]))) (.run [29,24,25,26,27]))))))))) (by kernel_rfl) (by decide) (by kernel_rfl) (by kernel_rfl) (by kernel_rfl) ?_
 repeat' first|with_reducible refine canW_n ?_|with_reducible refine canW_m (by decide) ?_|((with_reducible apply canW_p (by decide));focus (intro H;(simp only [go_sem,sevalprocAttr,reduceCtorEq,hb1,q1,q2,he,hs,Bool.false_and,Bool.true_and,List.map_cons,List.map_nil]);exact rfl))|with_reducible refine memW_bP ?_ ?_|with_reducible refine memW_sP rfl ?_|with_reducible refine memW_rP rfl ?_|with_reducible refine memW_eP ?_|simp only [List.take_succ_cons,List.take_zero,List.drop_succ_cons,List.drop_zero]|omega|with_reducible refine And.intro ?_ ?_|with_reducible refine kc ?_|((with_reducible first|refine kr ?_ ?_|refine kt ?_ ?_);exact rfl)|((with_reducible refine kf ?_ ?_);exact rfl)|with_reducible refine hS.use ?_|simp only [go_sem,sevalprocAttr,reduceCtorEq,hb1,q1,q2,he,hs,Bool.false_and,Bool.true_and,List.map_cons,List.map_nil]|simp (disch:=omega) only [wz]
 all_goals
  refine AC.mono hC ?_
  rintro r H2 ⟨v',rfl,hcp⟩
  rcases hcp with ⟨rfl,hv',hf2⟩|⟨hne,b,rfl,hb2,hbl,hf2⟩
  ·have hC0:=Compact0 v' hv' H2
   have hx2:=hf2.get hb1 (by simp)
   have q3:∀H' K,lenW Tryz.prog 22 v' H' K=K (.int .i64 0) H':=fun H' K=>by
    rcases hv' with rfl|⟨i,rfl⟩
    ·rw [lenW_sl (by simp only [go_sem,sevalprocAttr,reduceCtorEq])];rfl
    ·rw [lenW_sl (by simp only [go_sem,sevalprocAttr,reduceCtorEq])];rfl
   have hf3:Frm [] H H2:=hf1.trans hf2 (fun x hx=>by cases hx)
   repeat' first|with_reducible refine canW_n ?_|with_reducible refine canW_m (by decide) ?_|((with_reducible apply canW_p (by decide));focus (intro H;(simp only [go_sem,sevalprocAttr,reduceCtorEq,hb1,hx2,q1,q2,q3,he,hs,Bool.false_and,Bool.true_and,List.map_cons,List.map_nil]);exact rfl))|with_reducible refine memW_bP ?_ ?_|with_reducible refine memW_sP rfl ?_|with_reducible refine memW_rP rfl ?_|with_reducible refine memW_eP ?_|simp only [List.take_succ_cons,List.take_zero,List.drop_succ_cons,List.drop_zero]|omega|with_reducible refine And.intro ?_ ?_|with_reducible refine kc ?_|((with_reducible first|refine kr ?_ ?_|refine kt ?_ ?_);exact rfl)|((with_reducible refine kf ?_ ?_);exact rfl)|with_reducible refine hC0.use ?_|simp only [go_sem,sevalprocAttr,reduceCtorEq,hb1,hx2,q1,q2,q3,he,hs,Bool.false_and,Bool.true_and,List.map_cons,List.map_nil]|simp (disch:=omega) only [wz]
   all_goals exact ⟨_,_,.refl _ _ _,rfl,hf3⟩
  ·have hC2:=Compact b keys keys.length rfl hx H2 (lt_of_get hb2)
   rw [set_same hb2] at hC2
   have hx2:=hf2.get hb1 (by simp)
   have he2:=natEq (cptN keys keys.length).length keys.length
   have hf3:Frm [] H H2:=hf1.trans hf2 (fun x hx=>by cases hx)
   repeat' first|with_reducible refine canW_n ?_|with_reducible refine canW_m (by decide) ?_|((with_reducible apply canW_p (by decide));focus (intro H;(simp only [go_sem,sevalprocAttr,reduceCtorEq,hb1,hx2,q1,q2,he,hs,Bool.false_and,Bool.true_and,List.map_cons,List.map_nil]);exact rfl))|with_reducible refine memW_bP ?_ ?_|with_reducible refine memW_sP rfl ?_|with_reducible refine memW_rP rfl ?_|with_reducible refine memW_eP ?_|simp only [List.take_succ_cons,List.take_zero,List.drop_succ_cons,List.drop_zero]|omega|with_reducible refine And.intro ?_ ?_|with_reducible refine kc ?_|((with_reducible first|refine kr ?_ ?_|refine kt ?_ ?_);exact rfl)|((with_reducible refine kf ?_ ?_);exact rfl)|simp only [go_sem,sevalprocAttr,reduceCtorEq,hb1,hx2,q1,q2,he,hs,Bool.false_and,Bool.true_and,List.map_cons,List.map_nil]|simp (disch:=omega) only [wz]
   all_goals
    refine AC.mono hC2 ?_
    rintro r H3 ⟨rfl,cs',rfl,hcl',hle',-⟩
    have hx3:(H2.set b (.cells cs' ⟨9,1,true,0,none⟩))[H.length]? =H2[H.length]? :=List.getElem?_set_ne (by omega)
    repeat' first|with_reducible refine canW_n ?_|with_reducible refine canW_m (by decide) ?_|((with_reducible apply canW_p (by decide));focus (intro H;(simp only [go_sem,sevalprocAttr,reduceCtorEq,hx3,hx2,q1,q2,he2,hs,Bool.false_and,Bool.true_and,List.map_cons,List.map_nil]);exact rfl))|with_reducible refine memW_bP ?_ ?_|with_reducible refine memW_sP rfl ?_|with_reducible refine memW_rP rfl ?_|with_reducible refine memW_eP ?_|simp only [List.take_succ_cons,List.take_zero,List.drop_succ_cons,List.drop_zero]|omega|with_reducible refine And.intro ?_ ?_|with_reducible refine kc ?_|((with_reducible first|refine kr ?_ ?_|refine kt ?_ ?_);exact rfl)|((with_reducible refine kf ?_ ?_);exact rfl)|simp only [go_sem,sevalprocAttr,reduceCtorEq,hx3,hx2,q1,q2,he2,hs,Bool.false_and,Bool.true_and,List.map_cons,List.map_nil]|simp (disch:=omega) only [wz]
    all_goals exact ⟨_,_,.refl _ _ _,rfl,Frm.set hf3 (.inr (by omega))⟩
end Go.Proofs.YthcdjconlfdidaaGreatDoor
