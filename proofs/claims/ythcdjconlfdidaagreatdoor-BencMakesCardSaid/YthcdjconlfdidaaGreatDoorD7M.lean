/-
  A part of the proof of a statement of this seat.
-/
import Derived.Test.YthcdjconlfdidaaGreatDoorD6
import Derived.Test.YthcdjconlfdidaaGreatDoorAwB
set_option linter.unusedVariables false
set_option maxHeartbeats 4000000
set_option maxRecDepth 20000
namespace Go.Proofs.YthcdjconlfdidaaGreatDoor
open Go Go.Aw Go.Proofs
theorem value (s:List UInt8) (hs:s.length≤65536) (lv:Nat):∀(r i n:Nat) (H:AHeap),lv≤12→i≤s.length→n≤1000→H[r]? =some (rdO s i n)→
  AC Tryz.prog 70 [.pointer (some ⟨r,0,none⟩),.int .i64 (lv:Nat)] H (ValP s r H (valR s lv i n)):=by
 induction lv with
 |zero=>
  intro r i n H hlv hi hn hr
  exact value0 s hs 0 r i n hlv hi hn H hr (fun c lv' h=>by cases h)
 |succ lv ih=>
  intro r i n H hlv hi hn hr
  refine value0 s hs (lv+1) r i n hlv hi hn H hr (fun c lv' h hc hb hn1 hdg h105=> ?_)
  cases h
  exact valueC s hs lv hlv (fun r i n H hi hn hr=>ih r i n H (by omega) hi hn hr) r i n hi H hr c hc hb hn1 hdg h105
end Go.Proofs.YthcdjconlfdidaaGreatDoor

set_option linter.unusedVariables false
set_option linter.unusedSimpArgs false
set_option maxHeartbeats 4000000
set_option maxRecDepth 20000
namespace Go.Proofs.YthcdjconlfdidaaGreatDoor
open Go Go.Aw Go.Proofs
theorem caughtR {H:AHeap} {a b c d:Nat} {K:AMode→AHeap→Prop} (hk:K .ret H):AD Tryz.prog 69 [.pointer (some ⟨a,0,none⟩),.pointer (some ⟨b,0,none⟩),.pointer (some ⟨c,0,none⟩),.pointer (some ⟨d,0,none⟩)] H .ret K:=by
 refine AD.enterR Tryz.func69 rfl (by kernel_rfl) 23 rfl rfl (Nat.le_of_ble_eq_true rfl) rfl rfl rfl rfl rfl rfl (by decide) (by decide) rfl fun hsc B=> ?_
 repeat first|with_reducible refine kc ?_|((with_reducible first|refine kr ?_ ?_|refine kt ?_ ?_);exact rfl)|((with_reducible refine kf ?_ ?_);exact rfl)|simp only [go_sem,sevalprocAttr,reduceCtorEq]|simp (disch:=omega) only [wz]|with_reducible_and_instances exact finR|((with_reducible refine finR' ?_ ?_)<;> rfl)|((with_reducible refine finD hsc (NRel.of_plain ?_));exact rfl)
 exact ⟨rfl,_,WeakV.refl _ _ _,hk⟩
theorem caughtP {H:AHeap} {a:Nat} {vc:List Value} {x1 x2 x3:Value} {q:Nat} {e:Int} {K:AMode→AHeap→Prop}
  (h0:H[a]? =some (.cells vc ⟨27,0,true,0,none⟩)) (h5:vc.length=5) (h1:H[a+1]? =some (.cells [x1] ⟨3,0,true,0,none⟩)) (h2:H[a+2]? =some (.cells [x2] ⟨3,0,true,0,none⟩)) (h3:H[a+3]? =some (.cells [x3] ⟨29,0,true,0,none⟩))
  (hk:K .ret ((((H.set a (.cells zeroC ⟨27,0,true,0,none⟩)).set (a+1) (.cells [.int .i64 0] ⟨3,0,true,0,none⟩)).set (a+2) (.cells [.int .i64 (q:Nat)] ⟨3,0,true,0,none⟩)).set (a+3) (.cells [.int .i64 e] ⟨29,0,true,0,none⟩))):
  AD Tryz.prog 69 [.pointer (some ⟨a,0,none⟩),.pointer (some ⟨a+1,0,none⟩),.pointer (some ⟨a+2,0,none⟩),.pointer (some ⟨a+3,0,none⟩)] H (.pan (stopV q e)) K:=by
 have l0:=lt_of_get h0
 have l1:=lt_of_get h1
 have l2:=lt_of_get h2
 have l3:=lt_of_get h3
 unfold stopV
 unfold zeroC at hk
 refine AD.enterR2 Tryz.func69 rfl (by kernel_rfl) 23 rfl rfl (Nat.le_of_ble_eq_true rfl) rfl rfl rfl rfl rfl rfl (by decide) (by decide) (fun c=>VRel.if_plain rfl) (fun c v1 h=>h.if_plain_eq rfl) fun hsc B=> ?_
 repeat first|with_reducible refine kc ?_|((with_reducible first|refine kr ?_ ?_|refine kt ?_ ?_);exact rfl)|((with_reducible refine kf ?_ ?_);exact rfl)|simp only [go_sem,sevalprocAttr,reduceCtorEq]|simp (disch:=omega) only [wz]|with_reducible_and_instances exact finR|((with_reducible refine finR' ?_ ?_)<;> rfl)|((with_reducible refine finD hsc (NRel.of_plain ?_));exact rfl)
 have hgl:∀(G l:AHeap) (x:Nat),x<G.length→(G++l)[x]? =G[x]? :=fun G l x h=>hgetl h
 have hsl:∀(G l:AHeap) (x:Nat) (o:AObj),x<G.length→(G++l).set x o=G.set x o++l:=fun G l x o h=>List.set_append_left _ _ h
 have hgz:∀(G:AHeap) (o:AObj),G.length=H.length→(G++[o])[H.length]? =some o:=fun G o h=>by rw [← h];simp
 have n01:∀(G:AHeap) (o:AObj),(G.set a o)[a+1]? =G[a+1]? :=fun G o=>List.getElem?_set_ne (by omega)
 have n02:∀(G:AHeap) (o:AObj),(G.set a o)[a+2]? =G[a+2]? :=fun G o=>List.getElem?_set_ne (by omega)
 have n12:∀(G:AHeap) (o:AObj),(G.set (a+1) o)[a+2]? =G[a+2]? :=fun G o=>List.getElem?_set_ne (by omega)
 have n03:∀(G:AHeap) (o:AObj),(G.set a o)[a+3]? =G[a+3]? :=fun G o=>List.getElem?_set_ne (by omega)
 have n13:∀(G:AHeap) (o:AObj),(G.set (a+1) o)[a+3]? =G[a+3]? :=fun G o=>List.getElem?_set_ne (by omega)
 have n23:∀(G:AHeap) (o:AObj),(G.set (a+2) o)[a+3]? =G[a+3]? :=fun G o=>List.getElem?_set_ne (by omega)
 have h5':5≤vc.length:=by omega
 have h5s:((((vc.set 0 (Value.int .i64 0)).set 1 (.int .i64 0)).set 2 (.string (bs []))).set 3 (.slice none 0 0)).set 4 (.slice none 0 0)= [.int .i64 0,.int .i64 0,.string (bs []),.slice none 0 0,.slice none 0 0]:=by
  match vc,h5 with
  |[_,_,_,_,_],_=>rfl
 refine AWP.regionMP 8 [2,4,5,6,7] [] (.both (.step 2 (.both (.run [4,5,6,7]) (.step 5 (.both (.run [4,6,7]) (.step 6 (.both (.run [4,7]) (.run [7,4]))))))) (.both (.step 4 (.both (.run [2,5,6,7]) (.step 5 (.both (.run [2,6,7]) (.run [6,2,7]))))) (.step 5 (.both (.step 2 (.both (.run [4,6,7]) (.step 6 (.both (.run [4,7]) (.run [7,4]))))) (.both (.step 4 (.both (.run [2,6,7]) (.run [6,2,7]))) (.step 6 (.both (.step 2 (.both (.run [4,7]) (.run [7,4]))) (.run [4,2,7])))))))) (by kernel_rfl) (by decide) (by kernel_rfl) (by kernel_rfl) (by kernel_rfl) ?_
 repeat' first|with_reducible refine canW_n ?_|with_reducible refine canW_m (by decide) ?_|((with_reducible apply canW_p (by decide));focus (intro H;(simp only [go_sem,sevalprocAttr,reduceCtorEq,hgl,hsl,hgz,n01,n02,n12,n03,n13,n23,h5',h5s,h0,h1,h2,h3,l0,l1,l2,l3,List.length_set,List.map_cons,List.map_nil]);exact rfl))|with_reducible refine memW_bP ?_ ?_|with_reducible refine memW_sP rfl ?_|with_reducible refine memW_rP rfl ?_|with_reducible refine memW_eP ?_|simp only [List.take_succ_cons,List.take_zero,List.drop_succ_cons,List.drop_zero]|omega|with_reducible refine And.intro ?_ ?_|with_reducible refine kc ?_|((with_reducible first|refine kr ?_ ?_|refine kt ?_ ?_);exact rfl)|((with_reducible refine kf ?_ ?_);exact rfl)|simp only [go_sem,sevalprocAttr,reduceCtorEq,hgl,hsl,hgz,n01,n02,n12,n03,n13,n23,h5',h5s,h0,h1,h2,h3,l0,l1,l2,l3,List.length_set,List.map_cons,List.map_nil]|simp (disch:=omega) only [wz]|with_reducible_and_instances exact finR|((with_reducible refine finR' ?_ ?_)<;> rfl)|((with_reducible refine finD hsc (NRel.of_plain ?_));exact rfl)
 all_goals
  refine ⟨rfl,_,WeakV.drop (by simp) ?_ (NRel.of_plain rfl),hk⟩
  refine Scoped.set (Scoped.set (Scoped.set (Scoped.set hsc ?_) ?_) ?_) ?_
  all_goals exact .of_bare (by rfl)
end Go.Proofs.YthcdjconlfdidaaGreatDoor

set_option linter.unusedVariables false
set_option linter.unusedSimpArgs false
set_option maxHeartbeats 4000000
set_option maxRecDepth 20000
namespace Go.Proofs.YthcdjconlfdidaaGreatDoor
open Go Go.Aw Go.Proofs
def ReadP (H:AHeap) (R:BV×Int×Int×Int) (res:ARes) (H1:AHeap):Prop:=
 ∃cs,res= .ret (.tuple ⟨[.agg ⟨cs⟩,.int .i64 R.2.1,.int .i64 R.2.2.1,.int .i64 R.2.2.2]⟩)∧Frm [] H H1∧RdV H1 R.1 cs
theorem RdV_zero (H:AHeap):RdV H .zero [.int .i64 0,.int .i64 0,.string (bs []),.slice none 0 0,.slice none 0 0]:=by
 unfold BV.zero RdV
 exact ⟨_,_,[],rfl,.inl ⟨rfl,rfl⟩,by unfold RdL;rfl,.inl ⟨rfl,rfl⟩⟩
theorem read (s:List UInt8) (H:AHeap):AC Tryz.prog 50 [.string (bs s)] H (ReadP H (readR s)):=by
 unfold readR
 by_cases hbig:65536<s.length
 ·have hb':(s.length:Int)>65536:=by omega
  rw [if_pos hbig]
  refine AC.enter Tryz.func50 rfl (by kernel_rfl) 22 rfl [.cell 2 27,.cell 3 3,.cell 4 3,.cell 5 29] rfl (by simp) fun hsc B=> ?_
  repeat first|with_reducible refine kc ?_|((with_reducible first|refine kr ?_ ?_|refine kt ?_ ?_);exact rfl)|((with_reducible refine kf ?_ ?_);exact rfl)|simp only [go_sem,sevalprocAttr,reduceCtorEq,hb']|simp (disch:=omega) only [wz]
  exact ⟨_,_,.refl _ _ _,_,rfl,Frm.app,RdV_zero _⟩
 ·have hb':¬(s.length:Int)>65536:=by omega
  rw [if_neg hbig]
  obtain ⟨H1,hH1⟩:∃H1:AHeap,H1=H++ [.cells [.int .i64 0,.int .i64 0,.string (bs []),.slice none 0 0,.slice none 0 0] ⟨27,0,true,0,none⟩,.cells [.int .i64 0] ⟨3,0,true,0,none⟩,.cells [.int .i64 0] ⟨3,0,true,0,none⟩,.cells [.int .i64 0] ⟨29,0,true,0,none⟩,.cells [.string (bs s),.int .i64 0,.int .i64 0] ⟨89,0,true,0,none⟩]:=⟨_,rfl⟩
  have hl1:H1.length=H.length+5:=by rw [hH1];simp
  have hk:∀k,k<5→H1[H.length+k]? =[AObj.cells [.int .i64 0,.int .i64 0,.string (bs []),.slice none 0 0,.slice none 0 0] ⟨27,0,true,0,none⟩,.cells [.int .i64 0] ⟨3,0,true,0,none⟩,.cells [.int .i64 0] ⟨3,0,true,0,none⟩,.cells [.int .i64 0] ⟨29,0,true,0,none⟩,.cells [.string (bs s),.int .i64 0,.int .i64 0] ⟨89,0,true,0,none⟩][k]? :=fun k h=>by
   rw [hH1,List.getElem?_append_right (by omega)];congr 1;omega
  have hr1:H1[H.length+4]? =some (rdO s 0 0):=hk 4 (by omega)
  have hf1:Frm [] H H1:=by rw [hH1];exact Frm.app
  have hv:=value s (by omega) 12 (H.length+4) 0 0 H1 (by omega) (by omega) (by omega) hr1
  refine AC.enter Tryz.func50 rfl (by kernel_rfl) 22 rfl [.cell 2 27,.cell 3 3,.cell 4 3,.cell 5 29] rfl (by simp) fun hsc B=> ?_
  repeat first|with_reducible refine kc ?_|((with_reducible first|refine kr ?_ ?_|refine kt ?_ ?_);exact rfl)|((with_reducible refine kf ?_ ?_);exact rfl)|simp only [go_sem,sevalprocAttr,reduceCtorEq,hb']|simp (disch:=omega) only [wz]
  rw [← hH1]
  refine AC.mono hv ?_
  intro res H3 hP
  cases hvr:valR s 12 0 0 with
  | bad a e=>
   rw [hvr] at hP
   obtain ⟨rfl,hf⟩:=hP
   have g0:=hf.get (hk 0 (by omega)) (by simp)
   have g1:=hf.get (hk 1 (by omega)) (by simp)
   have g2:=hf.get (hk 2 (by omega)) (by simp)
   have g3:=hf.get (hk 3 (by omega)) (by simp)
   have hl3:=hf.1
   repeat first|with_reducible refine kc ?_|((with_reducible first|refine kr ?_ ?_|refine kt ?_ ?_);exact rfl)|((with_reducible refine kf ?_ ?_);exact rfl)|simp only [go_sem,sevalprocAttr,reduceCtorEq]|simp (disch:=omega) only [wz]
   refine caughtP g0 rfl g1 g2 g3 ?_
   obtain ⟨H4,hH4⟩:∃H4,H4=(((H3.set H.length (.cells zeroC ⟨27,0,true,0,none⟩)).set (H.length+1) (.cells [.int .i64 0] ⟨3,0,true,0,none⟩)).set (H.length+2) (.cells [.int .i64 (a:Nat)] ⟨3,0,true,0,none⟩)).set (H.length+3) (.cells [.int .i64 e] ⟨29,0,true,0,none⟩):=⟨_,rfl⟩
   have f0:H4[H.length]? =some (.cells zeroC ⟨27,0,true,0,none⟩):=by
    rw [hH4,List.getElem?_set_ne (by omega),List.getElem?_set_ne (by omega),List.getElem?_set_ne (by omega),List.getElem?_set_self (by omega)]
   have f1:H4[H.length+1]? =some (.cells [.int .i64 0] ⟨3,0,true,0,none⟩):=by
    rw [hH4,List.getElem?_set_ne (by omega),List.getElem?_set_ne (by omega),List.getElem?_set_self (by rw [List.length_set];omega)]
   have f2:H4[H.length+2]? =some (.cells [.int .i64 (a:Nat)] ⟨3,0,true,0,none⟩):=by
    rw [hH4,List.getElem?_set_ne (by omega),List.getElem?_set_self (by rw [List.length_set,List.length_set];omega)]
   have f3:H4[H.length+3]? =some (.cells [.int .i64 e] ⟨29,0,true,0,none⟩):=by
    rw [hH4,List.getElem?_set_self (by rw [List.length_set,List.length_set,List.length_set];omega)]
   have hfr:Frm [] H H4:=by
    rw [hH4]
    exact Frm.set (Frm.set (Frm.set (Frm.set (hf1.trans hf (fun x hx=>by rw [List.mem_singleton.1 hx];exact .inr (by omega))) (.inr (by omega))) (.inr (by omega))) (.inr (by omega))) (.inr (by omega))
   rw [← hH4]
   unfold zeroC at f0
   repeat first|with_reducible refine kc ?_|((with_reducible first|refine kr ?_ ?_|refine kt ?_ ?_);exact rfl)|((with_reducible refine kf ?_ ?_);exact rfl)|simp only [go_sem,sevalprocAttr,reduceCtorEq,f0,f1,f2,f3]|simp (disch:=omega) only [wz]
   exact ⟨_,_,.refl _ _ _,_,rfl,hfr,RdV_zero _⟩
  | ok v j n=>
   rw [hvr] at hP
   obtain ⟨cs,rfl,hf,hrd,hRd⟩:=hP
   have g0:=hf.get (hk 0 (by omega)) (by simp)
   have g1:=hf.get (hk 1 (by omega)) (by simp)
   have g2:=hf.get (hk 2 (by omega)) (by simp)
   have g3:=hf.get (hk 3 (by omega)) (by simp)
   have hl3:=hf.1
   have hc5:=hRd.len
   have hfl:=RdV_flat hRd
   have hput:putCells [.int .i64 0,.int .i64 0,.string (bs []),.slice none 0 0,.slice none 0 0] 0 cs=cs:=by
    match cs,hc5 with
    |[_,_,_,_,_],_=>rfl
   have htk:List.take 5 cs=cs:=List.take_of_length_le (by omega)
   have hal:H.length<H3.length:=by omega
   have g0':H3[H.length]? =some (.cells [.int .i64 0,.int .i64 0,.string (bs []),.slice none 0 0,.slice none 0 0] ⟨27,0,true,0,none⟩):=g0
   obtain ⟨H4,hH4⟩:∃H4,H4=H3.set H.length (.cells cs ⟨27,0,true,0,none⟩):=⟨_,rfl⟩
   have f0:H4[H.length]? =some (.cells cs ⟨27,0,true,0,none⟩):=by rw [hH4,List.getElem?_set_self (by omega)]
   have f1:H4[H.length+1]? =some (.cells [.int .i64 0] ⟨3,0,true,0,none⟩):=by rw [hH4,List.getElem?_set_ne (by omega)];exact g1
   have f2:H4[H.length+2]? =some (.cells [.int .i64 0] ⟨3,0,true,0,none⟩):=by rw [hH4,List.getElem?_set_ne (by omega)];exact g2
   have f3:H4[H.length+3]? =some (.cells [.int .i64 0] ⟨29,0,true,0,none⟩):=by rw [hH4,List.getElem?_set_ne (by omega)];exact g3
   have f4:H4[H.length+4]? =some (rdO s j n):=by rw [hH4,List.getElem?_set_ne (by omega)];exact hrd
   unfold rdO at f4
   repeat first|with_reducible refine kc ?_|((with_reducible first|refine kr ?_ ?_|refine kt ?_ ?_);exact rfl)|((with_reducible refine kf ?_ ?_);exact rfl)|simp only [go_sem,sevalprocAttr,reduceCtorEq,g0',hc5,hfl,hput,htk,hal]|simp (disch:=omega) only [wz]
   rw [← hH4]
   refine AWP.regionMP 6 [0,4,5] [] (.both (.step 0 (.both (.run [4,5]) (.run [5,4]))) (.run [4,0,5])) (by kernel_rfl) (by decide) (by kernel_rfl) (by kernel_rfl) (by kernel_rfl) ?_
   have hput2:putCells cs 0 cs=cs:=by
    match cs,hc5 with
    |[_,_,_,_,_],_=>rfl
   have hself:H4.set H.length (.cells cs ⟨27,0,true,0,none⟩)=H4:=by rw [hH4,List.set_set]
   have n12:∀(G:AHeap) (o:AObj),(G.set (H.length+1) o)[H.length+2]? =G[H.length+2]? :=fun G o=>List.getElem?_set_ne (by omega)
   have n13:∀(G:AHeap) (o:AObj),(G.set (H.length+1) o)[H.length+3]? =G[H.length+3]? :=fun G o=>List.getElem?_set_ne (by omega)
   have n23:∀(G:AHeap) (o:AObj),(G.set (H.length+2) o)[H.length+3]? =G[H.length+3]? :=fun G o=>List.getElem?_set_ne (by omega)
   have hl4:H4.length=H3.length:=by rw [hH4,List.length_set]
   obtain ⟨H5,hH5⟩:∃H5,H5=((H4.set (H.length+1) (.cells [.int .i64 (j:Nat)] ⟨3,0,true,0,none⟩)).set (H.length+2) (.cells [.int .i64 (-1)] ⟨3,0,true,0,none⟩)).set (H.length+3) (.cells [.int .i64 0] ⟨29,0,true,0,none⟩):=⟨_,rfl⟩
   have e0:H5[H.length]? =some (.cells cs ⟨27,0,true,0,none⟩):=by
    rw [hH5,List.getElem?_set_ne (by omega),List.getElem?_set_ne (by omega),List.getElem?_set_ne (by omega)];exact f0
   have e1:H5[H.length+1]? =some (.cells [.int .i64 (j:Nat)] ⟨3,0,true,0,none⟩):=by
    rw [hH5,List.getElem?_set_ne (by omega),List.getElem?_set_ne (by omega),List.getElem?_set_self (by omega)]
   have e2:H5[H.length+2]? =some (.cells [.int .i64 (-1)] ⟨3,0,true,0,none⟩):=by
    rw [hH5,List.getElem?_set_ne (by omega),List.getElem?_set_self (by rw [List.length_set];omega)]
   have e3:H5[H.length+3]? =some (.cells [.int .i64 0] ⟨29,0,true,0,none⟩):=by
    rw [hH5,List.getElem?_set_self (by rw [List.length_set,List.length_set];omega)]
   have hfr:Frm [] H H5:=by
    rw [hH5,hH4]
    exact Frm.set (Frm.set (Frm.set (Frm.set (hf1.trans hf (fun x hx=>by rw [List.mem_singleton.1 hx];exact .inr (by omega))) (.inr (by omega))) (.inr (by omega))) (.inr (by omega))) (.inr (by omega))
   have hkp:Kept H3 H5:=by
    rw [hH5,hH4]
    refine Kept.trans (Kept.set g0' rfl _) (Kept.trans (Kept.set (i:=H.length+1) (hH4 ▸ f1) rfl _) (Kept.trans (Kept.set (i:=H.length+2) (k:=⟨3,0,true,0,none⟩) (cs:= [.int .i64 0]) ?_ rfl _) (Kept.set (i:=H.length+3) (k:=⟨29,0,true,0,none⟩) (cs:= [.int .i64 0]) ?_ rfl _)))
    ·rw [n12,←hH4];exact f2
    ·rw [n23,n13,←hH4];exact f3
   repeat' first|with_reducible refine canW_n ?_|with_reducible refine canW_m (by decide) ?_|((with_reducible apply canW_p (by decide));focus (intro H;(simp only [go_sem,sevalprocAttr,reduceCtorEq,f0,f1,f2,f3,f4,hc5,hfl,htk,hput2,hself,n12,n13,n23,List.map_cons,List.map_nil]);exact rfl))|with_reducible refine memW_bP ?_ ?_|with_reducible refine memW_sP rfl ?_|with_reducible refine memW_rP rfl ?_|with_reducible refine memW_eP ?_|simp only [List.take_succ_cons,List.take_zero,List.drop_succ_cons,List.drop_zero]|omega|with_reducible refine And.intro ?_ ?_|with_reducible refine kc ?_|((with_reducible first|refine kr ?_ ?_|refine kt ?_ ?_);exact rfl)|((with_reducible refine kf ?_ ?_);exact rfl)|simp only [go_sem,sevalprocAttr,reduceCtorEq,f0,f1,f2,f3,f4,hc5,hfl,htk,hput2,hself,n12,n13,n23,List.map_cons,List.map_nil]|simp (disch:=omega) only [wz]
   all_goals
    refine caughtR ?_
    rw [← hH5]
    repeat first|with_reducible refine kc ?_|((with_reducible first|refine kr ?_ ?_|refine kt ?_ ?_);exact rfl)|((with_reducible refine kf ?_ ?_);exact rfl)|simp only [go_sem,sevalprocAttr,reduceCtorEq,e0,e1,e2,e3,htk,hc5]|simp (disch:=omega) only [wz]
    exact ⟨_,_,.refl _ _ _,_,rfl,hfr,hRd.kept hkp⟩
end Go.Proofs.YthcdjconlfdidaaGreatDoor
