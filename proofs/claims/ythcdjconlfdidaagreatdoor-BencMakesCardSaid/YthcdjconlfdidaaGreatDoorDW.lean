/-
 The walk of what fits:the body.
-/
import Derived.Test.YthcdjconlfdidaaGreatDoorDTM
set_option linter.unusedVariables false
set_option linter.unusedSimpArgs false
set_option maxRecDepth 20000
set_option maxHeartbeats 8000000
namespace Go.Proofs.YthcdjconlfdidaaGreatDoor
open Go Go.Aw Go.Proofs
theorem fitL_cons (v:BV) (l:List BV) (lv c b:Nat):fitL lv c b (v::l)=match fitV lv c b v with|none=>none|some (c',b')=>fitL lv c' b' l:=by
 conv=>lhs;unfold fitL
 rfl
theorem fitL_nil (lv c b:Nat):fitL lv c b []=some (c,b):=by unfold fitL;rfl
theorem fitL_app:∀(l m:List BV) (lv c b:Nat),fitL lv c b (l++m)=match fitL lv c b l with|none=>none|some (c',b')=>fitL lv c' b' m
 |[],m,lv,c,b=>by rw [fitL_nil];rfl
 | v::l,m,lv,c,b=>by
  rw [List.cons_append,fitL_cons]
  conv=>rhs;rw [fitL_cons]
  cases hv:fitV lv c b v with
  |none=>rfl
  |some cb=>
   obtain ⟨c',b'⟩:=cb
   exact fitL_app l m lv c' b'
theorem fitL_snoc {l:List BV} {i lv c b c' b':Nat} {v:BV} (hv:l[i]? =some v) (h:fitL lv c b (l.take i)=some (c',b')):fitL lv c b (l.take (i+1))=fitV lv c' b' v:=by
 rw [List.take_add_one,hv,fitL_app,h]
 simp only [Option.toList]
 rw [fitL_cons]
 cases fitV lv c' b' v with
 |none=>rfl
 |some cb=>obtain ⟨x,y⟩:=cb;exact fitL_nil _ _ _
theorem fitL_none {l:List BV} {i lv c b:Nat} (h:fitL lv c b (l.take i)=none):fitL lv c b l=none:=by
 conv=>lhs;rw [← List.take_append_drop i l]
 rw [fitL_app,h]
theorem fitL_some {l:List BV} {lv c b c' b':Nat} (h:fitL lv c b l=some (c',b')) (hc:c≤1000):c'≤1000∧b'=b+(BV.writeL l).length:=by
 rw [fitL_iff] at h
 split at h
 ·rename_i hh
  cases h
  rcases hh with rfl|hh
  ·exact ⟨by simp [BV.countL];exact hc,rfl⟩
  ·exact ⟨hh.2.2.1,rfl⟩
 ·cases h
theorem keysW_snoc (l:List (List UInt8)) (i:Nat) (h:i<l.length):keysW (l.take (i+1))=keysW (l.take i)+(BV.wText l[i]).length:=by
 unfold keysW
 rw [List.take_add_one,List.getElem?_eq_getElem h]
 simp only [Option.toList,List.map_append,List.map_cons,List.map_nil,List.sum_append,List.sum_cons,List.sum_nil]
 omega
theorem keysW_le (l:List (List UInt8)) (i:Nat):keysW (l.take i)≤keysW l:=by
 conv=>rhs;rw [← List.take_append_drop i l]
 unfold keysW
 rw [List.map_append,List.sum_append];omega
theorem wText_len (s:List UInt8):(BV.wText s).length=(Lib.itoa (s.length:Nat)).length+1+s.length:=by
 unfold BV.wText
 rw [List.length_append,List.length_cons];omega
theorem itoa_ge (n:Nat):1≤(Lib.itoa (n:Nat)).length:=by
 have:=Go.Aw.itoa_nat n
 rw [this]
 have:=Go.Aw.dd_pos n
 omega
theorem szO_no2 {H:AHeap} {r c b:Nat} (hr:H[r]? =some (szO c b)) (hT:TabH H):r≠2:=by
 rintro rfl
 obtain ⟨t,ht⟩:=hT
 rw [hr] at ht
 unfold szO tabO at ht
 cases ht
structure KL where
 i:Nat
 c:Nat
 b:Nat
 Hc:AHeap
def FJ (H2:AHeap) (env:List (Nat×Value)) (st:ASt):Prop:=∃H3,Frm [] H2 H3∧st=⟨env,[],H3⟩
theorem fits2 (k n:Int) (s:List UInt8) (kids:List BV) (keys:List (List UInt8)) (hkd:kids.length≤1099511627776) (hky:keys.length<1099511627776) (lv c b r:Nat) (hlv:lv≤12) (hc:c≤1000) (H:AHeap) (hr:H[r]? =some (szO c b)) (cs:List Value) (hR:RdV H (.mk k n s kids keys) cs)
  (hl1:1≤lv) (hc1:c+1≤1000) (hk1:k=1∨k=2∨k=3∨k=4) (hbad:shapeB (.mk k n s kids keys)=true)
  (hT:TabH H) (hn0: -9223372036854775808≤n) (hn1:n≤9223372036854775807) (hbw:b+(BV.mk k n s kids keys).write.length≤1099511627776)
  (ih:∀v∈kids,∀(c b r:Nat) (H:AHeap) (cs:List Value),c≤1000→b+v.write.length≤1099511627776→H[r]? =some (szO c b)→RdV H v cs→TabH H→AC Tryz.prog 36 [.pointer (some ⟨r,0,none⟩),.agg ⟨cs⟩,.int .i64 (lv - 1:Nat)] H (FitP H r (fitV (lv - 1) c b v))):
  AC Tryz.prog 36 [.pointer (some ⟨r,0,none⟩),.agg ⟨cs⟩,.int .i64 (lv:Nat)] H (FitP H r (fitV lv c b (.mk k n s kids keys))):=by
 have hR0:=hR
 have hfl:=RdV_flat hR
 have hr5:=hR.len
 have hr2n:=szO_no2 hr hT
 have hwl:=write_len k n s kids keys hbad
 have hfv:fitV lv c b (.mk k n s kids keys)=match fitL (lv - 1) (c+1) (b+own k n s+2+keysW keys) kids with
  |none=>none
  |some (c',b')=>if b'≤65536 then some (c',b') else none:=by
  conv=>lhs;unfold fitV
  rw [if_neg (by
   rintro (h|h|h)
   ·omega
   ·omega
   ·rw [hbad] at h;cases h)]
  rfl
 obtain ⟨Bt,hB⟩:∃Bt,Bt=b+own k n s+2+keysW keys:=⟨_,rfl⟩
 rw [hfv,←hB]
 clear hfv
 unfold RdV at hR
 obtain ⟨vk,vs,css,rfl,h1,hL,h3⟩:=hR
 unfold szO at hr
 have hrl:=lt_of_get hr
 have hwc:IntKind.i64.wrap ((c:Int)+1)=((c+1:Nat):Int):=by rw [wi64 (by omega)];omega
 obtain ⟨H1,hH1⟩:∃H1:AHeap,H1=H++ [.cells [.int .i64 k,.int .i64 n,.string (bs s),vk,vs] ⟨27,0,true,0,none⟩]:=⟨_,rfl⟩
 have hr1:H1[r]? =some (.cells [.int .i64 (c:Nat),.int .i64 (b:Nat)] ⟨54,0,true,0,none⟩):=by rw [hH1,hgetl hrl];exact hr
 have hb1:H1[H.length]? =some (.cells [.int .i64 k,.int .i64 n,.string (bs s),vk,vs] ⟨27,0,true,0,none⟩):=by rw [hH1,hget0 rfl];rfl
 have hrl1:=lt_of_get hr1
 obtain ⟨H2,hH2⟩:∃H2:AHeap,H2=H1.set r (.cells [.int .i64 ((c+1:Nat):Int),.int .i64 (b:Nat)] ⟨54,0,true,0,none⟩):=⟨_,rfl⟩
 have hr2:H2[r]? =some (.cells [.int .i64 ((c+1:Nat):Int),.int .i64 (b:Nat)] ⟨54,0,true,0,none⟩):=by rw [hH2,List.getElem?_set_self hrl1]
 have hb2:H2[H.length]? =some (.cells [.int .i64 k,.int .i64 n,.string (bs s),vk,vs] ⟨27,0,true,0,none⟩):=by rw [hH2,List.getElem?_set_ne (by omega)];exact hb1
 have hf2:Frm [r] H H2:=by rw [hH2,hH1];exact Frm.set (Frm.app (S:=[r])) (.inl (by simp))
 have b1':¬((lv:Nat):Int)<1:=by omega
 have b2':¬((c+1:Nat):Int)>1000:=by omega
 have b3':¬k<1:=by omega
 have b4':¬k>4:=by omega
 have htk5:List.take 5 [Value.int .i64 k,.int .i64 n,.string (bs s),vk,vs]= [.int .i64 k,.int .i64 n,.string (bs s),vk,vs]:=rfl
 have hF:=fun H=>shF H
 have hkp:Kept H H2:=by
  rw [hH2,hH1]
  exact (Kept.more _ _).trans (Kept.set (by rw [hgetl hrl];exact hr) rfl _)
 have hsh:=shape k n s kids keys hkd hky hk1 H2 _ (hR0.kept hkp)
 rw [hbad] at hsh
 refine AC.enter Tryz.func36 rfl (by kernel_rfl) 126 rfl [.tmp 6] rfl (by simp) fun hsc B=> ?_
 repeat first|with_reducible refine kc ?_|((with_reducible first|refine kr ?_ ?_|refine kt ?_ ?_);exact rfl)|((with_reducible refine kf ?_ ?_);exact rfl)|simp only [go_sem,sevalprocAttr,reduceCtorEq,hfl,hr5]|simp (disch:=omega) only [wz]
 rw [← hH1]
 repeat first|with_reducible refine AWP.seqE (x:= .seq (.region 2 _ _) _) (FJ H2 [(0,.pointer (some ⟨r,0,none⟩)),(2,.int .i64 (lv:Nat)),(4,.pointer (some ⟨H.length,0,none⟩))]) ?_ ?_|with_reducible refine kc ?_|((with_reducible first|refine kr ?_ ?_|refine kt ?_ ?_);exact rfl)|((with_reducible refine kf ?_ ?_);exact rfl)|simp only [go_sem,sevalprocAttr,reduceCtorEq,hr1,hwc,hrl1,List.set_cons_zero]|simp (disch:=omega) only [wz]
 ·
  rw [← hH2]
  repeat first|with_reducible refine kc ?_|((with_reducible first|refine kr ?_ ?_|refine kt ?_ ?_);exact rfl)|((with_reducible refine kf ?_ ?_);exact rfl)|simp only [go_sem,sevalprocAttr,reduceCtorEq]|simp (disch:=omega) only [wz]
  refine AWP.regionMP 25 [6,11,16,20,22,24] [(6,.int .i64 ((c+1:Nat):Int)),(11,.int .i64 k),(16,.int .i64 k),(20,.agg ⟨[.nilFunc,.func (.func 78) ⟨[]⟩ ⟨[]⟩,.func (.func 79) ⟨[]⟩ ⟨[]⟩,.func (.func 80) ⟨[]⟩ ⟨[]⟩,.func (.func 81) ⟨[]⟩ ⟨[]⟩]⟩),(22,.int .i64 k)] (.step 6 (.step 11 (.step 16 (.both (.step 20 (.both (.run [22,24]) (.run [24,22]))) (.both (.step 22 (.both (.run [20,24]) (.run [24,20]))) (.step 24 (.both (.run [20,22]) (.run [22,20])))))))) (by kernel_rfl) (by decide) (by kernel_rfl) (by kernel_rfl) (by kernel_rfl) ?_
  rcases hk1 with rfl|rfl|rfl|rfl
  all_goals
   repeat' first|with_reducible refine canW_n ?_|with_reducible refine canW_m (by decide) ?_|((with_reducible apply canW_p (by decide));focus (intro H;(simp only [go_sem,sevalprocAttr,reduceCtorEq,b1',b2',b3',b4',hr2,hb2,hr5,List.map_cons,List.map_nil]);exact rfl))|with_reducible refine memW_bP ?_ ?_|with_reducible refine memW_sP rfl ?_|with_reducible refine memW_rP rfl ?_|with_reducible refine memW_eP ?_|simp only [List.take_succ_cons,List.take_zero,List.drop_succ_cons,List.drop_zero]|omega|with_reducible refine And.intro ?_ ?_|with_reducible refine kc ?_|((with_reducible first|refine kr ?_ ?_|refine kt ?_ ?_);exact rfl)|((with_reducible refine kf ?_ ?_);exact rfl)|with_reducible refine (hF _).use ?_|simp only [go_sem,sevalprocAttr,reduceCtorEq,b1',b2',b3',b4',hr2,hb2,hr5,List.map_cons,List.map_nil]|simp (disch:=omega) only [wz]
   all_goals
    refine AC.mono hsh ?_
    rintro res H3 ⟨rfl,hf3⟩
    repeat first|with_reducible refine kc ?_|((with_reducible first|refine kr ?_ ?_|refine kt ?_ ?_);exact rfl)|((with_reducible refine kf ?_ ?_);exact rfl)|simp only [go_sem,sevalprocAttr,reduceCtorEq]|simp (disch:=omega) only [wz]
    exact ⟨_,⟨H3,hf3,rfl⟩,Weak.env (by simp [envIn,lk_cons,wth_some])⟩
 ·rintro st ⟨H3,hf3,rfl⟩
  have hr3:=hf3.get hr2 (by simp)
  have hb3:=hf3.get hb2 (by simp)
  have hrl3:=lt_of_get hr3
  have hbl3:=lt_of_get hb3
  have hf03:Frm [r] H H3:=hf2.trans hf3 (fun x hx=>by cases hx)
  have hkp3:Kept H H3:=hkp.trans (Kept.frm hf3 (fun x hx=>by cases hx))
  have hT3:TabH H3:=hT.frm hf03 (by simp;omega)
  have hI:=Itoa n hn0 hn1 H3 hT3
  have hnr:H.length≠r:=by omega
  have hge:∀o:AObj,(H3.set r o)[H.length]? =some (.cells [.int .i64 k,.int .i64 n,.string (bs s),vk,vs] ⟨27,0,true,0,none⟩):=fun o=>by rw [List.getElem?_set_ne (Ne.symm hnr)];exact hb3
  have hvl1:Go.Aw.flat vk=true:=by rcases h1 with ⟨rfl,_⟩|⟨_,_,_,_,_,rfl,_⟩<;> rfl
  have hTs:∀o,TabH (H3.set r o):=fun o=>hT3.frm (Frm.set (Frm.refl [r] H3) (.inl (by simp))) (by simp;omega)
  have hkl:(keyC keys).length=keys.length:=by unfold keyC;simp
  have hcl:=hL.len
  have q1:∀H' K,lenW Tryz.prog 23 vk H' K=K (.int .i64 (kids.length:Nat)) H':=fun H' K=>by rw [h1.lenT (by simp only [go_sem,sevalprocAttr,reduceCtorEq]),hcl]
  have q2:∀H' K,lenW Tryz.prog 22 vs H' K=K (.int .i64 (keys.length:Nat)) H':=fun H' K=>by rw [h3.lenT (by simp only [go_sem,sevalprocAttr,reduceCtorEq]),hkl]
  have hk3:∀o,Kept H3 (H3.set r o):=fun o=>Kept.set hr3 rfl o
  refine AWP.seqJ (x:= .seq (.region 4 _ _) _) ⟨[(0,.pointer (some ⟨r,0,none⟩)),(2,.int .i64 (lv:Nat)),(4,.pointer (some ⟨H.length,0,none⟩))],[],H3.set r (.cells [.int .i64 ((c+1:Nat):Int),.int .i64 ((b+own k n s:Nat):Int)] ⟨54,0,true,0,none⟩)⟩ ?_ ?_
  ·rcases hk1 with rfl|rfl|rfl|rfl
   ·have ho:own 1 n s=(Lib.itoa n).length:=by unfold own;rw [if_pos rfl]
    have hw1:IntKind.i64.wrap ((b:Int)+((Lib.itoa n).length:Int))=((b+own 1 n s:Nat):Int):=by rw [ho,wi64 (by omega)];omega
    repeat first|with_reducible refine kc ?_|((with_reducible first|refine kr ?_ ?_|refine kt ?_ ?_);exact rfl)|((with_reducible refine kf ?_ ?_);exact rfl)|simp only [go_sem,sevalprocAttr,reduceCtorEq,hb3]|simp (disch:=omega) only [wz]
    refine AWP.regionMP 8 [3,5,6] [(3,.int .i64 (b:Nat)),(5,.int .i64 n),(6,.string (bs (Lib.itoa n)))] (.both (.run [3,5,6]) (.step 5 (.both (.run [3,6]) (.run [6,3])))) (by kernel_rfl) (by decide) (by kernel_rfl) (by kernel_rfl) (by kernel_rfl) ?_
    repeat' first|with_reducible refine canW_n ?_|with_reducible refine canW_m (by decide) ?_|((with_reducible apply canW_p (by decide));focus (intro H;(simp only [go_sem,sevalprocAttr,reduceCtorEq,hr3,hb3,hrl3,hw1,List.set_cons_succ,List.set_cons_zero,List.map_cons,List.map_nil]);exact rfl))|with_reducible refine memW_bP ?_ ?_|with_reducible refine memW_sP rfl ?_|with_reducible refine memW_rP rfl ?_|with_reducible refine memW_eP ?_|simp only [List.take_succ_cons,List.take_zero,List.drop_succ_cons,List.drop_zero]|omega|with_reducible refine And.intro ?_ ?_|with_reducible refine kc ?_|((with_reducible first|refine kr ?_ ?_|refine kt ?_ ?_);exact rfl)|((with_reducible refine kf ?_ ?_);exact rfl)|with_reducible refine hI.use ?_|simp only [go_sem,sevalprocAttr,reduceCtorEq,hr3,hb3,hrl3,hw1,List.set_cons_succ,List.set_cons_zero,List.map_cons,List.map_nil]|simp (disch:=omega) only [wz]
    all_goals exact Weak.env (by simp [envIn,lk_cons,wth_some])
   ·have hwt:=wText_len s
    have hig:=itoa_ge s.length
    have ho:own 2 n s=(Lib.itoa (s.length:Nat)).length+1+s.length - 2:=by unfold own;rw [if_neg (by decide),if_pos rfl,hwt]
    have hD:=digits s.length (by omega) H3 hT3
    obtain ⟨d,hd⟩:∃d,d=(Lib.itoa (s.length:Nat)).length+1:=⟨_,rfl⟩
    obtain ⟨q,hq⟩:∃q,q=d+s.length:=⟨_,rfl⟩
    obtain ⟨o,ho2⟩:∃o,o=own 2 n s:=⟨_,rfl⟩
    obtain ⟨b1,hb1'⟩:∃b1,b1=b+o:=⟨_,rfl⟩
    rw [← hd] at hD
    have hwa:IntKind.i64.wrap ((d:Int)+(s.length:Int))=(q:Int):=by rw [wi64 (by omega)];omega
    have hwb:IntKind.i64.wrap ((q:Int) - 2)=(o:Int):=by rw [wi64 (by omega)];omega
    have hw1:IntKind.i64.wrap ((b:Int)+(o:Int))=(b1:Int):=by rw [wi64 (by omega)];omega
    rw [← ho2,←hb1']
    repeat first|with_reducible refine kc ?_|((with_reducible first|refine kr ?_ ?_|refine kt ?_ ?_);exact rfl)|((with_reducible refine kf ?_ ?_);exact rfl)|simp only [go_sem,sevalprocAttr,reduceCtorEq,hb3]|simp (disch:=omega) only [wz]
    refine AWP.regionMP 13 [3,5,7,9] [(3,.int .i64 (b:Nat)),(5,.string (bs s)),(7,.int .i64 (d:Nat)),(9,.string (bs s))] (.both (.step 3 (.both (.step 5 (.both (.run [7,9]) (.run [9,7]))) (.run [9,5,7]))) (.both (.step 5 (.both (.step 3 (.both (.run [7,9]) (.run [9,7]))) (.both (.step 7 (.both (.run [3,9]) (.run [9,3]))) (.step 9 (.both (.run [3,7]) (.run [7,3])))))) (.step 9 (.both (.run [3,5,7]) (.step 5 (.both (.run [3,7]) (.run [7,3]))))))) (by kernel_rfl) (by decide) (by kernel_rfl) (by kernel_rfl) (by kernel_rfl) ?_
    repeat' first|with_reducible refine canW_n ?_|with_reducible refine canW_m (by decide) ?_|((with_reducible apply canW_p (by decide));focus (intro H;(simp only [go_sem,sevalprocAttr,reduceCtorEq,hr3,hb3,hrl3,hwa,hwb,hw1,List.set_cons_succ,List.set_cons_zero,List.map_cons,List.map_nil]);exact rfl))|with_reducible refine memW_bP ?_ ?_|with_reducible refine memW_sP rfl ?_|with_reducible refine memW_rP rfl ?_|with_reducible refine memW_eP ?_|simp only [List.take_succ_cons,List.take_zero,List.drop_succ_cons,List.drop_zero]|omega|with_reducible refine And.intro ?_ ?_|with_reducible refine kc ?_|((with_reducible first|refine kr ?_ ?_|refine kt ?_ ?_);exact rfl)|((with_reducible refine kf ?_ ?_);exact rfl)|with_reducible refine hD.use ?_|simp only [go_sem,sevalprocAttr,reduceCtorEq,hr3,hb3,hrl3,hwa,hwb,hw1,List.set_cons_succ,List.set_cons_zero,List.map_cons,List.map_nil]|simp (disch:=omega) only [wz]
    all_goals exact Weak.env (by simp [envIn,lk_cons,wth_some])
   ·have ho:own 3 n s=0:=by unfold own;rw [if_neg (by decide),if_neg (by decide)]
    rw [ho,Nat.add_zero b,set_same hr3]
    repeat first|with_reducible refine kc ?_|((with_reducible first|refine kr ?_ ?_|refine kt ?_ ?_);exact rfl)|((with_reducible refine kf ?_ ?_);exact rfl)|simp only [go_sem,sevalprocAttr,reduceCtorEq,hb3]|simp (disch:=omega) only [wz]
    exact Weak.env (by simp [envIn,lk_cons,wth_some])
   ·have ho:own 4 n s=0:=by unfold own;rw [if_neg (by decide),if_neg (by decide)]
    rw [ho,Nat.add_zero b,set_same hr3]
    repeat first|with_reducible refine kc ?_|((with_reducible first|refine kr ?_ ?_|refine kt ?_ ?_);exact rfl)|((with_reducible refine kf ?_ ?_);exact rfl)|simp only [go_sem,sevalprocAttr,reduceCtorEq,hb3]|simp (disch:=omega) only [wz]
    exact Weak.env (by simp [envIn,lk_cons,wth_some])
  obtain ⟨b2,hb2e⟩:∃b2,b2=b+own k n s+2:=⟨_,rfl⟩
  have hw2:IntKind.i64.wrap (((b+own k n s:Nat):Int)+2)=((b2:Nat):Int):=by rw [wi64 (by omega)];omega
  repeat first|with_reducible refine kc ?_|((with_reducible first|refine kr ?_ ?_|refine kt ?_ ?_);exact rfl)|((with_reducible refine kf ?_ ?_);exact rfl)|simp only [go_sem,sevalprocAttr,reduceCtorEq,hsets,hrl3,hge,hw2,q2,List.set_set,List.length_set,List.set_cons_succ,List.set_cons_zero]|simp (disch:=omega) only [wz]
  refine AWP.loopP (fun i:Nat=>⟨[(0,.pointer (some ⟨r,0,none⟩)),(2,.int .i64 (lv:Nat)),(4,.pointer (some ⟨H.length,0,none⟩)),(87,vs),(88,.int .i64 (keys.length:Nat)),(89,.int .i64 (i:Nat))],[],H3.set r (.cells [.int .i64 ((c+1:Nat):Int),.int .i64 ((b2+keysW (keys.take i):Nat):Int)] ⟨54,0,true,0,none⟩)⟩)
   (fun i=>i≤keys.length) (fun i=>keys.length - i) 0 ?_ (Nat.zero_le _) ?_
  ·have:keysW (keys.take 0)=0:=rfl
   rw [this]
   exact Weak.env (by simp [envIn,lk_cons,wth_some])
  intro i hi
  dsimp only at hi ⊢
  by_cases hlt:i<keys.length
  ·have hlt':(i:Int)<(keys.length:Int):=by omega
   have hsn:=keysW_snoc keys i hlt
   have hle:=keysW_le keys (i+1)
   have hwt:=wText_len keys[i]
   obtain ⟨b3,hb3e⟩:∃b3,b3=b2+keysW (keys.take i):=⟨_,rfl⟩
   rw [← hb3e]
   obtain ⟨bi2,off2,cap2,cs2,k2,rfl,hcap2,hbi2,hown2,hesz2,hle2,htk2⟩:=(h3.kept (hkp3.trans (hk3 (.cells [.int .i64 ((c+1:Nat):Int),.int .i64 ((b3:Nat):Int)] ⟨54,0,true,0,none⟩)))).at_ (keyC_at hlt)
   have hlt3:(i:Int)<((keyC keys).length:Int):=by omega
   have hD:=digits keys[i].length (by omega) _ (hTs (.cells [.int .i64 ((c+1:Nat):Int),.int .i64 ((b3:Nat):Int)] ⟨54,0,true,0,none⟩))
   have hsn2:b2+keysW (keys.take (i+1))=b3+(BV.wText keys[i]).length:=by omega
   generalize keys[i]=ky at*
   have hat2:cs2[off2+i]? =some (.string (bs ky)):=by
    have h1:=congrArg (fun l=>l[0]?) htk2
    simpa using h1
   obtain ⟨d,hd⟩:∃d,d=(Lib.itoa (ky.length:Nat)).length+1:=⟨_,rfl⟩
   obtain ⟨q,hq⟩:∃q,q=d+ky.length:=⟨_,rfl⟩
   obtain ⟨b4,hb4e⟩:∃b4,b4=b2+keysW (keys.take (i+1)):=⟨_,rfl⟩
   rw [← hd] at hD
   have hwa:IntKind.i64.wrap ((d:Int)+(ky.length:Int))=(q:Int):=by rw [wi64 (by omega)];omega
   have hwb:IntKind.i64.wrap ((b3:Int)+(q:Int))=(b4:Int):=by rw [wi64 (by omega)];omega
   have hwi:IntKind.i64.wrap ((i:Int)+1)=((i+1:Nat):Int):=by rw [wi64 (by omega)];omega
   repeat first|with_reducible refine kc ?_|((with_reducible first|refine kr ?_ ?_|refine kt ?_ ?_);exact rfl)|((with_reducible refine kf ?_ ?_);exact rfl)|simp only [go_sem,sevalprocAttr,reduceCtorEq,hlt',hlt3,hbi2,hat2]|simp (disch:=omega) only [wz]
   refine AWP.regionMP 10 [3,6] [(3,.int .i64 (b3:Nat)),(6,.int .i64 (d:Nat))] (.both (.run [3,6]) (.run [6,3])) (by kernel_rfl) (by decide) (by kernel_rfl) (by kernel_rfl) (by kernel_rfl) ?_
   repeat' first|with_reducible refine canW_n ?_|with_reducible refine canW_m (by decide) ?_|((with_reducible apply canW_p (by decide));focus (intro H;(simp only [go_sem,sevalprocAttr,reduceCtorEq,hsets,hrl3,hwa,hwb,List.set_set,List.length_set,List.set_cons_succ,List.set_cons_zero,List.map_cons,List.map_nil]);exact rfl))|with_reducible refine memW_bP ?_ ?_|with_reducible refine memW_sP rfl ?_|with_reducible refine memW_rP rfl ?_|with_reducible refine memW_eP ?_|simp only [List.take_succ_cons,List.take_zero,List.drop_succ_cons,List.drop_zero]|omega|with_reducible refine And.intro ?_ ?_|with_reducible refine kc ?_|((with_reducible first|refine kr ?_ ?_|refine kt ?_ ?_);exact rfl)|((with_reducible refine kf ?_ ?_);exact rfl)|with_reducible refine hD.use ?_|simp only [go_sem,sevalprocAttr,reduceCtorEq,hsets,hrl3,hwa,hwb,List.set_set,List.length_set,List.set_cons_succ,List.set_cons_zero,List.map_cons,List.map_nil]|simp (disch:=omega) only [wz]
   all_goals
    repeat first|with_reducible refine kc ?_|((with_reducible first|refine kr ?_ ?_|refine kt ?_ ?_);exact rfl)|((with_reducible refine kf ?_ ?_);exact rfl)|simp only [go_sem,sevalprocAttr,reduceCtorEq,hwi]|simp (disch:=omega) only [wz]
    exact ⟨i+1,by rw [← hb4e];exact Weak.env (by simp [envIn,lk_cons,wth_some]),by omega,by omega⟩
  have hlt':¬(i:Int)<(keys.length:Int):=by omega
  have hie:keys.take i=keys:=List.take_of_length_le (by omega)
  rw [hie]
  rw [show b2+keysW keys=Bt by omega]
  obtain ⟨H4,hH4⟩:∃H4:AHeap,H4=H3.set r (.cells [.int .i64 ((c+1:Nat):Int),.int .i64 ((Bt:Nat):Int)] ⟨54,0,true,0,none⟩):=⟨_,rfl⟩
  have hg4:=hge (.cells [.int .i64 ((c+1:Nat):Int),.int .i64 ((Bt:Nat):Int)] ⟨54,0,true,0,none⟩)
  have hr4:H4[r]? =some (szO (c+1) Bt):=by rw [hH4];exact hsets hrl3 _
  have hk4:Kept H H4:=by rw [hH4];exact hkp3.trans (hk3 _)
  have hf4:Frm [r] H H4:=by rw [hH4];exact Frm.set hf03 (.inl (by simp))
  rw [← hH4] at hg4 ⊢
  repeat first|with_reducible refine kc ?_|((with_reducible first|refine kr ?_ ?_|refine kt ?_ ?_);exact rfl)|((with_reducible refine kf ?_ ?_);exact rfl)|simp only [go_sem,sevalprocAttr,reduceCtorEq,hlt',hg4,q1]|simp (disch:=omega) only [wz]
  refine AWP.loopP (fun p:KL=>⟨[(0,.pointer (some ⟨r,0,none⟩)),(2,.int .i64 (lv:Nat)),(4,.pointer (some ⟨H.length,0,none⟩)),(108,vk),(109,.int .i64 (kids.length:Nat)),(110,.int .i64 (p.i:Nat))],[],p.Hc⟩)
   (fun p=>p.i≤kids.length∧Frm [r] H4 p.Hc∧p.Hc[r]? =some (szO p.c p.b)∧fitL (lv - 1) (c+1) Bt (kids.take p.i)=some (p.c,p.b)) (fun p=>kids.length - p.i) ⟨0,c+1,Bt,H4⟩ ?_ ⟨Nat.zero_le _,Frm.refl _ _,hr4,by dsimp only;rw [List.take_zero];unfold fitL;rfl⟩ ?_
  ·exact Weak.env (by simp [envIn,lk_cons,wth_some])
  rintro ⟨i,c5,b5,Hc⟩ ⟨hi,hfc,hrc,hfit⟩
  dsimp only at hi hfc hrc hfit ⊢
  have hfs:=fitL_some hfit (by omega)
  have hkc:Kept H Hc:=hk4.trans (Kept.frm hfc (fun x hx=>by rw [List.mem_singleton.1 hx];exact ⟨_,_,hr4,rfl⟩))
  have hf0c:Frm [r] H Hc:=hf4.trans hfc (fun x hx=> .inl hx)
  have hTc:TabH Hc:=hT.frm hf0c (by simp;omega)
  by_cases hltk:i<kids.length
  ·have hlt':(i:Int)<(kids.length:Int):=by omega
   obtain ⟨r5,hr5',hRv⟩:=(hL.kept hkc).at_ (List.getElem?_eq_getElem hltk)
   obtain ⟨bi,off,cap,cs',k',rfl,hcap,hbi,hown,hesz,hle,htk⟩:=(h1.kept hkc).at_ hr5'
   have hlt2:(i:Int)<(css.length:Int):=by omega
   have hr55:=hRv.len
   have hfl5:=RdV_flat hRv
   have htk5:List.take 5 r5=r5:=List.take_of_length_le (by omega)
   have hput:putCells [.int .i64 0,.int .i64 0,.string (bs []),.slice none 0 0,.slice none 0 0] 0 r5=r5:=by
    match r5,hr55 with
    |[_,_,_,_,_],_=>rfl
   have hsn:=congrArg List.length (writeL_snoc kids i hltk)
   have hwt:=writeL_take kids (i+1)
   rw [List.length_append] at hsn
   have hwi:IntKind.i64.wrap ((i:Int)+1)=((i+1:Nat):Int):=by rw [wi64 (by omega)];omega
   have hwl1:IntKind.i64.wrap ((lv:Int) - 1)=((lv - 1:Nat):Int):=by rw [wi64 (by omega)];omega
   have hgk:kids[i]? =some kids[i]:=List.getElem?_eq_getElem hltk
   have hRd:=hRv.kept (Kept.more Hc [.cells r5 ⟨27,0,true,0,none⟩])
   have hcall:=ih kids[i] (List.getElem_mem hltk) c5 b5 r (Hc++ [.cells r5 ⟨27,0,true,0,none⟩]) r5 hfs.1 (by omega) (by rw [hgetl (lt_of_get hrc)];exact hrc) hRd (hTc.more _)
   have hfa:Frm [r] H4 (Hc++ [.cells r5 ⟨27,0,true,0,none⟩]):=hfc.more
   generalize kids[i]=v at*
   repeat first|with_reducible refine kc ?_|((with_reducible first|refine kr ?_ ?_|refine kt ?_ ?_);exact rfl)|((with_reducible refine kf ?_ ?_);exact rfl)|simp only [go_sem,sevalprocAttr,reduceCtorEq,hlt',hlt2,hbi,hle,htk,hr55,hfl5,htk5,hput,hwl1]|simp (disch:=omega) only [wz]
   refine AC.mono hcall ?_
   intro res H5 hP
   cases hfk:fitV (lv - 1) c5 b5 v with
   |none=>
    rw [hfk] at hP
    obtain ⟨rfl,hf5⟩:=hP
    have hno:fitL (lv - 1) (c+1) Bt kids=none:=fitL_none (i:=i+1) (by rw [fitL_snoc hgk hfit];exact hfk)
    rw [hno]
    repeat first|with_reducible refine kc ?_|((with_reducible first|refine kr ?_ ?_|refine kt ?_ ?_);exact rfl)|((with_reducible refine kf ?_ ?_);exact rfl)|simp only [go_sem,sevalprocAttr,reduceCtorEq]|simp (disch:=omega) only [wz]
    exact ⟨_,_,.refl _ _ _,rfl,hf4.trans (hfa.trans hf5 (fun x hx=> .inl hx)) (fun x hx=> .inl hx)⟩
   |some cb=>
    obtain ⟨c6,b6⟩:=cb
    rw [hfk] at hP
    obtain ⟨rfl,hr6,hf5⟩:=hP
    repeat first|with_reducible refine kc ?_|((with_reducible first|refine kr ?_ ?_|refine kt ?_ ?_);exact rfl)|((with_reducible refine kf ?_ ?_);exact rfl)|simp only [go_sem,sevalprocAttr,reduceCtorEq,hwi]|simp (disch:=omega) only [wz]
    exact ⟨⟨i+1,c6,b6,H5⟩,Weak.env (by simp [envIn,lk_cons,wth_some]),by dsimp only;omega,hfa.trans hf5 (fun x hx=> .inl hx),hr6,by rw [fitL_snoc hgk hfit];exact hfk,by dsimp only;omega⟩
  have hlt':¬(i:Int)<(kids.length:Int):=by omega
  have hie2:kids.take i=kids:=List.take_of_length_le (by omega)
  rw [hie2] at hfit
  rw [hfit]
  have hrc0:=hrc
  unfold szO at hrc0
  dsimp only
  by_cases h65:b5≤65536
  ·have h65':(b5:Int)≤65536:=by omega
   rw [if_pos h65]
   repeat first|with_reducible refine kc ?_|((with_reducible first|refine kr ?_ ?_|refine kt ?_ ?_);exact rfl)|((with_reducible refine kf ?_ ?_);exact rfl)|simp only [go_sem,sevalprocAttr,reduceCtorEq,hlt',hrc0,h65']|simp (disch:=omega) only [wz]
   exact ⟨_,_,.refl _ _ _,rfl,hrc,hf0c⟩
  ·have h65':¬(b5:Int)≤65536:=by omega
   rw [if_neg h65]
   repeat first|with_reducible refine kc ?_|((with_reducible first|refine kr ?_ ?_|refine kt ?_ ?_);exact rfl)|((with_reducible refine kf ?_ ?_);exact rfl)|simp only [go_sem,sevalprocAttr,reduceCtorEq,hlt',hrc0,h65']|simp (disch:=omega) only [wz]
   exact ⟨_,_,.refl _ _ _,rfl,hf0c⟩
end Go.Proofs.YthcdjconlfdidaaGreatDoor
