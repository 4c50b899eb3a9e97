/-
 The walk of the law's Light:what is small enough to be looked at.
-/
import Derived.Test.YthcdjconlfdidaaGreatDoorEJM
set_option linter.unusedVariables false
set_option linter.unusedSimpArgs false
set_option maxRecDepth 20000
set_option maxHeartbeats 8000000
namespace Go.Proofs.YthcdjconlfdidaaGreatDoor
open Go Go.Aw Go.Proofs
def useN (s:List UInt8) (keys:List Tx):Nat:=1+s.length / 100+keys.length
mutual
def lightV:Nat→Nat→BV→Option Nat
 |deep,left,.mk k n s kids keys=>
  if deep=0∨left<useN s keys∨70000<s.length∨keys.any (fun k=>decide (300<k.length))=true then none else lightL (deep - 1) (left - useN s keys) kids
def lightL:Nat→Nat→List BV→Option Nat
 |deep,left,[]=>some left
 |deep,left,v::l=>match lightV deep left v with
  |none=>none
  |some left'=>lightL deep left' l
end
theorem lightL_cons (v:BV) (l:List BV) (d a:Nat):lightL d a (v::l)=match lightV d a v with|none=>none|some a'=>lightL d a' l:=by
 conv=>lhs;unfold lightL
theorem lightL_nil (d a:Nat):lightL d a []=some a:=by unfold lightL;rfl
theorem lightL_app:∀(l m:List BV) (d a:Nat),lightL d a (l++m)=match lightL d a l with|none=>none|some a'=>lightL d a' m
 |[],m,d,a=>by rw [lightL_nil];rfl
 |v::l,m,d,a=>by
  rw [List.cons_append,lightL_cons]
  conv=>rhs;rw [lightL_cons]
  cases lightV d a v with
  |none=>rfl
  |some a'=>exact lightL_app l m d a'
theorem lightL_snoc {l:List BV} {i d a a':Nat} {v:BV} (hv:l[i]? =some v) (h:lightL d a (l.take i)=some a'):lightL d a (l.take (i+1))=lightV d a' v:=by
 rw [List.take_add_one,hv,lightL_app,h]
 simp only [Option.toList]
 rw [lightL_cons]
 cases lightV d a' v with
 |none=>rfl
 |some x=>exact lightL_nil _ _
theorem lightL_none {l:List BV} {i d a:Nat} (h:lightL d a (l.take i)=none):lightL d a l=none:=by
 conv=>lhs;rw [← List.take_append_drop i l]
 rw [lightL_app,h]
theorem keysW_bound (l:List Tx) (h:l.any (fun k=>decide (300<k.length))=false):keysW l≤321*l.length:=by
 unfold keysW
 induction l with
 |nil=>simp
 |cons x l ih=>
  simp only [List.any_cons,Bool.or_eq_false_iff,decide_eq_false_iff_not] at h
  have:=ih h.2
  have h2:=wText_len x
  have h3:=itoa_le (x.length:Nat) (by omega) (by omega)
  simp only [List.map_cons,List.sum_cons,List.length_cons]
  omega
theorem writeD_bound:∀(ks:List Tx) (l:List BV),(BV.writeD ks l).length≤keysW ks+(BV.writeL l).length
 |[],l=>by simp [BV.writeD]
 |k::ks,[]=>by simp [BV.writeD]
 |k::ks,v::l=>by
  have:=writeD_bound ks l
  unfold keysW at this ⊢
  simp [BV.writeD,BV.writeL]
  omega
mutual
theorem light_len:∀(v:BV) (d a a':Nat),a≤2000→v.nums→lightV d a v=some a'→a'+v.count≤a∧v.write.length≤71000*(a - a')∧szV v
 | .mk k n s kids keys,d,a,a',ha,hn,h=>by
  unfold lightV at h
  unfold BV.nums at hn
  by_cases hc:d=0∨a<useN s keys∨70000<s.length∨keys.any (fun k=>decide (300<k.length))=true
  ·rw [if_pos hc] at h;cases h
  ·rw [if_neg hc] at h
   have c1:¬a<useN s keys:=fun x=>hc (.inr (.inl x))
   have c2:¬70000<s.length:=fun x=>hc (.inr (.inr (.inl x)))
   have c3:keys.any (fun k=>decide (300<k.length))=false:=by
    cases hx:keys.any (fun k=>decide (300<k.length)) with
    |false=>rfl
    |true=>exact absurd (.inr (.inr (.inr hx))) hc
   obtain ⟨h1,h2,h3⟩:=lightL_len kids (d - 1) _ a' (by omega) hn.2 h
   have hk:=keysW_bound keys c3
   have hd:=writeD_bound keys kids
   have hu:useN s keys=1+s.length / 100+keys.length:=rfl
   have hcnt:(BV.mk k n s kids keys).count=1+BV.countL kids:=by unfold BV.count;rfl
   refine ⟨by omega,?_,?_⟩
   ·have hi:=itoa_le n hn.1.1 hn.1.2
    have ht:=wText_len s
    have hti:=itoa_le (s.length:Nat) (by omega) (by omega)
    unfold BV.write
    split
    ·simp only [List.length_cons,List.length_append,List.length_nil];omega
    ·split
     ·omega
     ·split
      ·simp only [List.length_cons,List.length_append,List.length_nil];omega
      ·simp only [List.length_cons,List.length_append,List.length_nil];omega
   ·have hkc:kids.length≤BV.countL kids:=by
     clear h h1 h2 h3 hd hcnt
     induction kids with
     |nil=>simp
     |cons x l ih=>have:=BV.count_pos x;simp only [BV.countL,List.length_cons];have:=ih ⟨hn.1,hn.2.2⟩;omega
    unfold szV
    exact ⟨by omega,by omega,h3⟩
theorem lightL_len:∀(l:List BV) (d a a':Nat),a≤2000→BV.numsL l→lightL d a l=some a'→a'+BV.countL l≤a∧(BV.writeL l).length≤71000*(a - a')∧szL l
 |[],d,a,a',_,_,h=>by
  rw [lightL_nil] at h
  cases h
  simp [BV.countL,BV.writeL,szL]
 | v::l,d,a,a',ha,hn,h=>by
  unfold BV.numsL at hn
  rw [lightL_cons] at h
  cases hv:lightV d a v with
  |none=>rw [hv] at h;cases h
  |some b=>
   rw [hv] at h
   obtain ⟨h1,h2,h3⟩:=light_len v d a b ha hn.1 hv
   obtain ⟨h4,h5,h6⟩:=lightL_len l d b a' (by omega) hn.2 h
   have hw:(BV.writeL (v::l)).length=v.write.length+(BV.writeL l).length:=by simp only [BV.writeL,List.length_append]
   have hc:BV.countL (v::l)=v.count+BV.countL l:=by simp only [BV.countL]
   rw [hw,hc]
   refine ⟨by omega,by omega,?_⟩
   unfold szL
   exact ⟨h3,h6⟩
end
mutual
theorem lightV_le:∀(v:BV) (d a a':Nat),lightV d a v=some a'→a'≤a
 | .mk k n s kids keys,d,a,a',h=>by
  unfold lightV at h
  split at h
  ·cases h
  ·have:=lightL_le kids _ _ _ h
   omega
theorem lightL_le:∀(l:List BV) (d a a':Nat),lightL d a l=some a'→a'≤a
 |[],d,a,a',h=>by rw [lightL_nil] at h;cases h;exact Nat.le_refl _
 | v::l,d,a,a',h=>by
  rw [lightL_cons] at h
  cases hv:lightV d a v with
  |none=>rw [hv] at h;cases h
  |some b=>
   rw [hv] at h
   have h1:=lightV_le v d a b hv
   have h2:=lightL_le l d b a' h
   omega
end
def ltO (a:Int):AObj:= .cells [.int .i64 a] ⟨3,0,true,0,none⟩
def LightP (H:AHeap) (p:Nat):Option Nat→ARes→AHeap→Prop
 |some a,res,H2=>res= .ret (.bool true)∧H2[p]? =some (ltO (a:Nat))∧Frm [p] H H2
 |none,res,H2=>res= .ret (.bool false)∧Frm [p] H H2
structure LLq where
 i:Nat
 a:Nat
 Hc:AHeap
theorem light (v:BV):wideV v→∀(d a p:Nat) (H:AHeap) (cs:List Value),d≤30→a≤2000→H[p]? =some (ltO (a:Nat))→RdV H v cs→
  AC Tryz.prog 29 [.agg ⟨cs⟩,.int .i64 (d:Nat),.pointer (some ⟨p,0,none⟩)] H (LightP H p (lightV d a v)):=by
 refine BV.ind (P:=fun v=>wideV v→∀(d a p:Nat) (H:AHeap) (cs:List Value),d≤30→a≤2000→H[p]? =some (ltO (a:Nat))→RdV H v cs→
  AC Tryz.prog 29 [.agg ⟨cs⟩,.int .i64 (d:Nat),.pointer (some ⟨p,0,none⟩)] H (LightP H p (lightV d a v))) (fun k n s kids keys ih hw d a p H cs hd ha hp hR=> ?_) v
 unfold wideV at hw
 obtain ⟨w1,w2,w3,w4⟩:=hw
 have hfl:=RdV_flat hR
 have hr5:=hR.len
 unfold RdV at hR
 obtain ⟨vk,vs,css,rfl,p1,hL,p3⟩:=hR
 unfold ltO at hp
 have hpl:=lt_of_get hp
 obtain ⟨H1,hH1⟩:∃H1:AHeap,H1=H++ [.cells [.int .i64 k,.int .i64 n,.string (bs s),vk,vs] ⟨27,0,true,0,none⟩]:=⟨_,rfl⟩
 have hb1:H1[H.length]? =some (.cells [.int .i64 k,.int .i64 n,.string (bs s),vk,vs] ⟨27,0,true,0,none⟩):=by rw [hH1,hget0 rfl];rfl
 have hp1:H1[p]? =some (.cells [.int .i64 (a:Nat)] ⟨3,0,true,0,none⟩):=by rw [hH1,hgetl hpl];exact hp
 have hpl1:=lt_of_get hp1
 have hf1:Frm [p] H H1:=by rw [hH1];exact Frm.app
 have hk1:Kept H H1:=by rw [hH1];exact .more _ _
 have hcl:=hL.len
 have hkl:(keyC keys).length=keys.length:=by unfold keyC;simp
 have q1:∀H' K,lenW Tryz.prog 23 vk H' K=K (.int .i64 (kids.length:Nat)) H':=fun H' K=>by rw [p1.lenT (by simp only [go_sem,sevalprocAttr,reduceCtorEq]),hcl]
 have q2:∀H' K,lenW Tryz.prog 22 vs H' K=K (.int .i64 (keys.length:Nat)) H':=fun H' K=>by rw [p3.lenT (by simp only [go_sem,sevalprocAttr,reduceCtorEq]),hkl]
 have hlv:lightV d a (.mk k n s kids keys)=if d=0∨a<useN s keys∨70000<s.length∨keys.any (fun k=>decide (300<k.length))=true then none else lightL (d - 1) (a - useN s keys) kids:=by
  conv=>lhs;unfold lightV
 rw [hlv]
 clear hlv
 obtain ⟨t,ht⟩:∃t:Nat,t=s.length / 100:=⟨_,rfl⟩
 obtain ⟨u,hu⟩:∃u:Nat,u=useN s keys:=⟨_,rfl⟩
 have hu2:u=1+t+keys.length:=by rw [hu,ht];rfl
 rw [← hu]
 have hdiv:(s.length:Int) / 100=(t:Int):=by omega
 obtain ⟨u1,hu1⟩:∃u1:Nat,u1=1+t:=⟨_,rfl⟩
 have hw1:IntKind.i64.wrap (1+(t:Int))=(u1:Int):=by rw [wi64 (by omega)];omega
 have hw2:IntKind.i64.wrap ((u1:Int)+(keys.length:Int))=(u:Int):=by rw [wi64 (by omega)];omega
 obtain ⟨z,hz⟩:∃z:Int,z=(a:Int) - (u:Int):=⟨_,rfl⟩
 have hw3:IntKind.i64.wrap ((a:Int) - (u:Int))=z:=by rw [wi64 (by omega)];omega
 obtain ⟨H2,hH2⟩:∃H2:AHeap,H2=H1.set p (.cells [.int .i64 z] ⟨3,0,true,0,none⟩):=⟨_,rfl⟩
 have hp2:H2[p]? =some (.cells [.int .i64 z] ⟨3,0,true,0,none⟩):=by rw [hH2,List.getElem?_set_self hpl1]
 have hb2:H2[H.length]? =some (.cells [.int .i64 k,.int .i64 n,.string (bs s),vk,vs] ⟨27,0,true,0,none⟩):=by rw [hH2,List.getElem?_set_ne (by omega)];exact hb1
 have hf2:Frm [p] H H2:=by rw [hH2];exact Frm.set hf1 (.inl (by simp))
 have hk2:Kept H H2:=by rw [hH2];exact hk1.trans (Kept.set hp1 rfl _)
 refine AC.enter Tryz.func29 rfl (by kernel_rfl) 64 rfl [.tmp 6] rfl (by simp) fun hsc B=> ?_
 repeat first|with_reducible refine AWP.seqJ (x:= .region 1 _ _) ⟨[(1,.int .i64 (d:Nat)),(2,.pointer (some ⟨p,0,none⟩)),(3,.pointer (some ⟨H.length,0,none⟩))],[],H2⟩ ?_ ?_|with_reducible refine kc ?_|((with_reducible first|refine kr ?_ ?_|refine kt ?_ ?_);exact rfl)|((with_reducible refine kf ?_ ?_);exact rfl)|simp only [go_sem,sevalprocAttr,reduceCtorEq,hfl,hr5]|simp (disch:=omega) only [wz]
 ·rw [← hH1]
  repeat first|with_reducible refine kc ?_|((with_reducible first|refine kr ?_ ?_|refine kt ?_ ?_);exact rfl)|((with_reducible refine kf ?_ ?_);exact rfl)|simp only [go_sem,sevalprocAttr,reduceCtorEq]|simp (disch:=omega) only [wz]
  refine AWP.regionMP 12 [2,4,9] [(4,.string (bs s)),(9,vs)] (.both (.step 2 (.both (.run [4,9]) (.run [9,4]))) (.both (.step 4 (.both (.run [2,9]) (.run [9,2]))) (.step 9 (.both (.run [2,4]) (.run [4,2]))))) (by kernel_rfl) (by decide) (by kernel_rfl) (by kernel_rfl) (by kernel_rfl) ?_
  repeat' first|with_reducible refine canW_n ?_|with_reducible refine canW_m (by decide) ?_|((with_reducible apply canW_p (by decide));focus (intro H;(simp only [go_sem,sevalprocAttr,reduceCtorEq,hp1,hb1,hpl1,q2,hdiv,hw1,hw2,hw3,List.set_cons_zero,List.map_cons,List.map_nil]);exact rfl))|with_reducible refine memW_bP ?_ ?_|with_reducible refine memW_sP rfl ?_|with_reducible refine memW_rP rfl ?_|with_reducible refine memW_eP ?_|simp only [List.take_succ_cons,List.take_zero,List.drop_succ_cons,List.drop_zero]|omega|with_reducible refine And.intro ?_ ?_|with_reducible refine kc ?_|((with_reducible first|refine kr ?_ ?_|refine kt ?_ ?_);exact rfl)|((with_reducible refine kf ?_ ?_);exact rfl)|simp only [go_sem,sevalprocAttr,reduceCtorEq,hp1,hb1,hpl1,q2,hdiv,hw1,hw2,hw3,List.set_cons_zero,List.map_cons,List.map_nil]|simp (disch:=omega) only [wz]
  all_goals
   have hzz:(a:Int) - (1+(t:Int)+(keys.length:Int))=z:=by omega
   rw [hzz,←hH2]
   exact Weak.env (by simp [envIn,lk_cons,wth_some])
 by_cases b1:d=0
 ·have b1':((d:Int)==0)=true:=by simp;omega
  rw [if_pos (.inl b1)]
  repeat first|with_reducible refine kc ?_|((with_reducible first|refine kr ?_ ?_|refine kt ?_ ?_);exact rfl)|((with_reducible refine kf ?_ ?_);exact rfl)|simp only [go_sem,sevalprocAttr,reduceCtorEq,b1',exists_eq_left]|simp (disch:=omega) only [wz]
  exact ⟨_,_,.refl _ _ _,rfl,hf2⟩
 have b1':((d:Int)==0)=false:=by simp;omega
 by_cases b2:a<u
 ·have b2':z<0:=by omega
  rw [if_pos (.inr (.inl b2))]
  repeat first|with_reducible refine kc ?_|((with_reducible first|refine kr ?_ ?_|refine kt ?_ ?_);exact rfl)|((with_reducible refine kf ?_ ?_);exact rfl)|simp only [go_sem,sevalprocAttr,reduceCtorEq,b1',hp2,b2',exists_eq_left]|simp (disch:=omega) only [wz]
  exact ⟨_,_,.refl _ _ _,rfl,hf2⟩
 have b2':¬z<0:=by omega
 by_cases b3:70000<s.length
 ·have b3':(s.length:Int)>70000:=by omega
  rw [if_pos (.inr (.inr (.inl b3)))]
  repeat first|with_reducible refine kc ?_|((with_reducible first|refine kr ?_ ?_|refine kt ?_ ?_);exact rfl)|((with_reducible refine kf ?_ ?_);exact rfl)|simp only [go_sem,sevalprocAttr,reduceCtorEq,b1',hp2,hb2,b2',b3',exists_eq_left]|simp (disch:=omega) only [wz]
  exact ⟨_,_,.refl _ _ _,rfl,hf2⟩
 have b3':¬(s.length:Int)>70000:=by omega
 repeat first|with_reducible refine kc ?_|((with_reducible first|refine kr ?_ ?_|refine kt ?_ ?_);exact rfl)|((with_reducible refine kf ?_ ?_);exact rfl)|simp only [go_sem,sevalprocAttr,reduceCtorEq,b1',hp2,hb2,b2',b3',q2,exists_eq_left]|simp (disch:=omega) only [wz]
 refine AWP.loopP (fun i:Nat=>⟨[(1,.int .i64 (d:Nat)),(2,.pointer (some ⟨p,0,none⟩)),(3,.pointer (some ⟨H.length,0,none⟩)),(40,vs),(41,.int .i64 (keys.length:Nat)),(42,.int .i64 (i:Nat))],[],H2⟩)
  (fun i=>i≤keys.length∧∀j x,j<i→keys[j]? =some x→x.length≤300) (fun i=>keys.length - i) 0 ?_ ⟨Nat.zero_le _,fun j x hj=>absurd hj (Nat.not_lt_zero _)⟩ ?_
 ·exact Weak.env (by simp [envIn,lk_cons,wth_some])
 rintro i ⟨hi,hall⟩
 dsimp only at hi hall ⊢
 by_cases hlt:i<keys.length
 ·have hlt':(i:Int)<(keys.length:Int):=by omega
  obtain ⟨bi2,off2,cap2,cs2,k2,rfl,hcap2,hbi2,hown2,hesz2,hle2,htk2⟩:=(p3.kept hk2).at_ (keyC_at hlt)
  have hlt3:(i:Int)<((keyC keys).length:Int):=by omega
  have hgk:keys[i]? =some keys[i]:=List.getElem?_eq_getElem hlt
  have hmem:keys[i]∈keys:=List.getElem_mem hlt
  have hwi:IntKind.i64.wrap ((i:Int)+1)=((i+1:Nat):Int):=by rw [wi64 (by omega)];omega
  generalize keys[i]=ky at*
  have hat2:cs2[off2+i]? =some (.string (bs ky)):=by
   have h1:=congrArg (fun l=>l[0]?) htk2
   simpa using h1
  by_cases b4:300<ky.length
  ·have b4':(ky.length:Int)>300:=by omega
   rw [if_pos (.inr (.inr (.inr (List.any_eq_true.2 ⟨ky,hmem,decide_eq_true b4⟩))))]
   repeat first|with_reducible refine kc ?_|((with_reducible first|refine kr ?_ ?_|refine kt ?_ ?_);exact rfl)|((with_reducible refine kf ?_ ?_);exact rfl)|simp only [go_sem,sevalprocAttr,reduceCtorEq,hlt',hlt3,hbi2,hat2,b4']|simp (disch:=omega) only [wz]
   exact ⟨_,_,.refl _ _ _,rfl,hf2⟩
  ·have b4':¬(ky.length:Int)>300:=by omega
   repeat first|with_reducible refine kc ?_|((with_reducible first|refine kr ?_ ?_|refine kt ?_ ?_);exact rfl)|((with_reducible refine kf ?_ ?_);exact rfl)|simp only [go_sem,sevalprocAttr,reduceCtorEq,hlt',hlt3,hbi2,hat2,b4',hwi]|simp (disch:=omega) only [wz]
   refine ⟨i+1,Weak.env (by simp [envIn,lk_cons,wth_some]),hlt,fun j x hj hx=> ?_,by omega⟩
   rcases Nat.lt_or_ge j i with h|h
   ·exact hall j x h hx
   ·obtain rfl:j=i:=by omega
    rw [hgk] at hx;cases hx;omega
 have hlt':¬(i:Int)<(keys.length:Int):=by omega
 have hany:keys.any (fun k=>decide (300<k.length))=false:=by
  rw [List.any_eq_false]
  intro x hx
  obtain ⟨j,hj⟩:=List.getElem?_of_mem hx
  have:=hall j x (by have:=(List.getElem?_eq_some_iff.1 hj).1;omega) hj
  simp;omega
 rw [if_neg (by
  rintro (h|h|h|h)
  ·exact b1 h
  ·exact b2 h
  ·exact b3 h
  ·rw [hany] at h;cases h)]
 obtain ⟨a2,ha2⟩:∃a2:Nat,a2=a - u:=⟨_,rfl⟩
 have hza:z=(a2:Int):=by omega
 rw [← ha2]
 rw [hza] at hp2
 repeat first|with_reducible refine kc ?_|((with_reducible first|refine kr ?_ ?_|refine kt ?_ ?_);exact rfl)|((with_reducible refine kf ?_ ?_);exact rfl)|simp only [go_sem,sevalprocAttr,reduceCtorEq,hlt',hb2,q1]|simp (disch:=omega) only [wz]
 refine AWP.loopP (fun q:LLq=>⟨[(1,.int .i64 (d:Nat)),(2,.pointer (some ⟨p,0,none⟩)),(3,.pointer (some ⟨H.length,0,none⟩)),(51,vk),(52,.int .i64 (kids.length:Nat)),(53,.int .i64 (q.i:Nat))],[],q.Hc⟩)
  (fun q=>q.i≤kids.length∧Frm [p] H2 q.Hc∧q.Hc[p]? =some (ltO (q.a:Nat))∧q.a≤2000∧lightL (d - 1) a2 (kids.take q.i)=some q.a) (fun q=>kids.length - q.i) ⟨0,a2,H2⟩ ?_ ⟨Nat.zero_le _,Frm.refl _ _,hp2,by dsimp only;omega,by dsimp only;rw [List.take_zero,lightL_nil]⟩ ?_
 ·exact Weak.env (by simp [envIn,lk_cons,wth_some])
 rintro ⟨i,a5,Hc⟩ ⟨hi,hfc,hpc,ha5,hfit⟩
 dsimp only at hi hfc hpc ha5 hfit ⊢
 have hkc:Kept H Hc:=hk2.trans (Kept.frm hfc (fun x hx=>by rw [List.mem_singleton.1 hx];exact ⟨_,_,hp2,rfl⟩))
 have hf0c:Frm [p] H Hc:=hf2.trans hfc (fun x hx=> .inl hx)
 by_cases hltk:i<kids.length
 ·have hlt':(i:Int)<(kids.length:Int):=by omega
  obtain ⟨r5,hr5',hRv⟩:=(hL.kept hkc).at_ (List.getElem?_eq_getElem hltk)
  obtain ⟨bi,off,cap,cs',k',rfl,hcap,hbi,hown,hesz,hle,htk⟩:=(p1.kept hkc).at_ hr5'
  have hlt2:(i:Int)<(css.length:Int):=by omega
  have hr55:=hRv.len
  have hfl5:=RdV_flat hRv
  have htk5:List.take 5 r5=r5:=List.take_of_length_le (by omega)
  have hput:=box_put0 r5 hr55
  have hwi:IntKind.i64.wrap ((i:Int)+1)=((i+1:Nat):Int):=by rw [wi64 (by omega)];omega
  have hwd:IntKind.i64.wrap ((d:Int) - 1)=((d - 1:Nat):Int):=by rw [wi64 (by omega)];omega
  have hgk:kids[i]? =some kids[i]:=List.getElem?_eq_getElem hltk
  have hcall:=ih kids[i] (List.getElem_mem hltk) (wideL_iff.1 w4 _ (List.getElem_mem hltk)) (d - 1) a5 p (Hc++ [.cells r5 ⟨27,0,true,0,none⟩]) r5 (by omega) ha5 (by rw [hgetl (lt_of_get hpc)];exact hpc) (hRv.kept (.more _ _))
  have hfa:Frm [p] H2 (Hc++ [.cells r5 ⟨27,0,true,0,none⟩]):=hfc.more
  generalize kids[i]=v at*
  repeat first|with_reducible refine kc ?_|((with_reducible first|refine kr ?_ ?_|refine kt ?_ ?_);exact rfl)|((with_reducible refine kf ?_ ?_);exact rfl)|simp only [go_sem,sevalprocAttr,reduceCtorEq,hlt',hlt2,hbi,hle,htk,hr55,hfl5,htk5,hput,hwd]|simp (disch:=omega) only [wz]
  refine AC.mono hcall ?_
  intro res H5 hP
  cases hfk:lightV (d - 1) a5 v with
  |none=>
   rw [hfk] at hP
   obtain ⟨rfl,hf5⟩:=hP
   have hno:lightL (d - 1) a2 kids=none:=lightL_none (i:=i+1) (by rw [lightL_snoc hgk hfit];exact hfk)
   rw [hno]
   repeat first|with_reducible refine kc ?_|((with_reducible first|refine kr ?_ ?_|refine kt ?_ ?_);exact rfl)|((with_reducible refine kf ?_ ?_);exact rfl)|simp only [go_sem,sevalprocAttr,reduceCtorEq]|simp (disch:=omega) only [wz]
   exact ⟨_,_,.refl _ _ _,rfl,hf2.trans (hfa.trans hf5 (fun x hx=> .inl hx)) (fun x hx=> .inl hx)⟩
  |some a6=>
   rw [hfk] at hP
   obtain ⟨rfl,hp6,hf5⟩:=hP
   have ha6:a6≤a5:=lightV_le _ _ _ _ hfk
   repeat first|with_reducible refine kc ?_|((with_reducible first|refine kr ?_ ?_|refine kt ?_ ?_);exact rfl)|((with_reducible refine kf ?_ ?_);exact rfl)|simp only [go_sem,sevalprocAttr,reduceCtorEq,hwi]|simp (disch:=omega) only [wz]
   exact ⟨⟨i+1,a6,H5⟩,Weak.env (by simp [envIn,lk_cons,wth_some]),by dsimp only;omega,hfa.trans hf5 (fun x hx=> .inl hx),hp6,by dsimp only;omega,by rw [lightL_snoc hgk hfit];exact hfk,by dsimp only;omega⟩
 have hlt':¬(i:Int)<(kids.length:Int):=by omega
 have hie2:kids.take i=kids:=List.take_of_length_le (by omega)
 rw [hie2] at hfit
 rw [hfit]
 repeat first|with_reducible refine kc ?_|((with_reducible first|refine kr ?_ ?_|refine kt ?_ ?_);exact rfl)|((with_reducible refine kf ?_ ?_);exact rfl)|simp only [go_sem,sevalprocAttr,reduceCtorEq,hlt']|simp (disch:=omega) only [wz]
 exact ⟨_,_,.refl _ _ _,rfl,hpc,hf0c⟩
def lightB (v:BV):Bool:=(lightV 30 2000 v).isSome
theorem Light (v:BV) (hw:wideV v) (H:AHeap) (cs:List Value) (hR:RdV H v cs):AC Tryz.prog 7 [.agg ⟨cs⟩] H (fun r H2=>r= .ret (.bool (lightB v))∧Frm [] H H2):=by
 have hfl:=RdV_flat hR
 have hr5:=hR.len
 have htk5:List.take 5 cs=cs:=List.take_of_length_le (by omega)
 obtain ⟨H1,hH1⟩:∃H1:AHeap,H1=H++ [.cells cs ⟨27,0,true,0,none⟩,.cells [.int .i64 2000] ⟨3,0,true,0,none⟩]:=⟨_,rfl⟩
 have hb0:H1[H.length]? =some (.cells cs ⟨27,0,true,0,none⟩):=by rw [hH1,hget0 rfl];rfl
 have hb1:H1[H.length+1]? =some (ltO ((2000:Nat):Int)):=by rw [hH1,hgetk rfl];rfl
 have hf1:Frm [] H H1:=by rw [hH1];exact Frm.app
 have hX:=light v hw 30 2000 (H.length+1) H1 cs (by decide) (by decide) hb1 (by rw [hH1];exact hR.kept (.more _ _))
 unfold lightB
 refine AC.enter Tryz.func7 rfl (by kernel_rfl) 6 rfl [.tmp 2] rfl (by simp) fun hsc B=> ?_
 repeat first|with_reducible refine kc ?_|((with_reducible first|refine kr ?_ ?_|refine kt ?_ ?_);exact rfl)|((with_reducible refine kf ?_ ?_);exact rfl)|simp only [go_sem,sevalprocAttr,reduceCtorEq,hfl,hr5,List.set_cons_zero]|simp (disch:=omega) only [wz]
 rw [← hH1]
 repeat first|with_reducible refine kc ?_|((with_reducible first|refine kr ?_ ?_|refine kt ?_ ?_);exact rfl)|((with_reducible refine kf ?_ ?_);exact rfl)|simp only [go_sem,sevalprocAttr,reduceCtorEq,hb0,htk5,hr5]|simp (disch:=omega) only [wz]
 refine AC.mono hX ?_
 intro res H2 hP
 cases hfv:lightV 30 2000 v with
 |none=>
  rw [hfv] at hP
  obtain ⟨rfl,hf2⟩:=hP
  repeat first|with_reducible refine kc ?_|((with_reducible first|refine kr ?_ ?_|refine kt ?_ ?_);exact rfl)|((with_reducible refine kf ?_ ?_);exact rfl)|simp only [go_sem,sevalprocAttr,reduceCtorEq]|simp (disch:=omega) only [wz]
  exact ⟨_,_,.refl _ _ _,rfl,hf1.trans hf2 (fun x hx=>by rw [List.mem_singleton.1 hx];exact .inr (by omega))⟩
 |some cb=>
  rw [hfv] at hP
  obtain ⟨rfl,-,hf2⟩:=hP
  repeat first|with_reducible refine kc ?_|((with_reducible first|refine kr ?_ ?_|refine kt ?_ ?_);exact rfl)|((with_reducible refine kf ?_ ?_);exact rfl)|simp only [go_sem,sevalprocAttr,reduceCtorEq]|simp (disch:=omega) only [wz]
  exact ⟨_,_,.refl _ _ _,rfl,hf1.trans hf2 (fun x hx=>by rw [List.mem_singleton.1 hx];exact .inr (by omega))⟩
theorem light_fine (v:BV) (hn:v.nums) (h:lightB v=true):Fine v∧v.count≤2000:=by
 unfold lightB at h
 cases hv:lightV 30 2000 v with
 |none=>rw [hv] at h;cases h
 |some a=>
  obtain ⟨h1,h2,h3⟩:=light_len v 30 2000 a (Nat.le_refl _) hn hv
  exact ⟨⟨h3,hn,by omega⟩,by omega⟩
end Go.Proofs.YthcdjconlfdidaaGreatDoor
