/-
  A part of the proof of a statement of this seat.
-/
import Derived.Test.YthcdjconlfdidaaGreatDoorDCM
set_option linter.unusedVariables false
set_option linter.unusedSimpArgs false
set_option maxHeartbeats 4000000
set_option maxRecDepth 20000
namespace Go.Proofs.YthcdjconlfdidaaGreatDoor
open Go Go.Aw Go.Proofs Go.Shelf
def wTab:Value:= .agg ⟨[.nilFunc,.func (.func 93) ⟨[]⟩ ⟨[]⟩,.func (.func 95) ⟨[]⟩ ⟨[]⟩,.func (.func 97) ⟨[]⟩ ⟨[]⟩,.func (.func 99) ⟨[]⟩ ⟨[]⟩]⟩
theorem writesF (H:AHeap):ARet Tryz.prog 71 [] H wTab H:=by
 unfold wTab
 refine AC.enter Tryz.func71 rfl (by kernel_rfl) 2 rfl [.cell 0 95] rfl (by simp) fun hsc B=> ?_
 repeat first|with_reducible refine kc ?_|((with_reducible first|refine kr ?_ ?_|refine kt ?_ ?_);exact rfl)|((with_reducible refine kf ?_ ?_);exact rfl)|simp only [go_sem,sevalprocAttr,reduceCtorEq]|simp (disch:=omega) only [wz]|with_reducible_and_instances exact finR|((with_reducible refine finR' ?_ ?_)<;> rfl)|((with_reducible refine finD hsc (NRel.of_plain ?_));exact rfl)
 exact finD hsc (by simp [nr_agg,nrs_cons,nrs_nil,nr_nilFunc,nr_func])
structure BO (H:AHeap) (b j:Nat) (l:List UInt8):Prop where
 bld:Bld H b j l
 nil:l=[]→j=b
 tab:TabH H
theorem BO.own {H:AHeap} {b j:Nat} {l:List UInt8} (h:BO H b j l):∀x∈[b,j],∃cs k,H[x]? =some (.cells cs k)∧k.own=true:=by
 obtain ⟨⟨p,h1,h2⟩,h3⟩:=h.bld
 intro x hx
 simp only [List.mem_cons,List.not_mem_nil,or_false] at hx
 rcases hx with rfl|rfl
 ·exact ⟨_,_,h1,rfl⟩
 ·rcases Nat.eq_zero_or_pos l.length with h0|h0
  ·have:=h.nil (List.eq_nil_of_length_eq_zero h0)
   subst this
   exact ⟨_,_,h1,rfl⟩
  ·exact ⟨_,_,(h3 h0).2,rfl⟩
theorem BO.no2 {H:AHeap} {b j:Nat} {l:List UInt8} (h:BO H b j l):¬2∈[b,j]:=fun hx=>by
 obtain ⟨cs,k,e,ho⟩:=h.own 2 hx
 obtain ⟨t,ht⟩:=h.tab
 rw [ht] at e
 unfold tabO at e
 cases e
 cases ho
theorem BO.wrote {H H2:AHeap} {b j:Nat} {l l2:List UInt8} (h:BO H b j l) (hw:Wrote H b j l2 H2) (hne:l2≠[]):∃j2,BO H2 b j2 l2∧Frm [b,j] H H2∧(j2=j∨H.length≤j2)∧Kept H H2:=by
 obtain ⟨j2,h1,h2,h3⟩:=hw
 exact ⟨j2,⟨h1,fun e=>absurd e hne,h.tab.frm h2 h.no2⟩,h2,h3,Kept.frm h2 h.own⟩
theorem BO.more {H:AHeap} {b j:Nat} {l:List UInt8} (h:BO H b j l) (X:AHeap):BO (H++X) b j l:=⟨h.bld.more X,h.nil,h.tab.more X⟩
theorem Wrote.of_more {H X H2:AHeap} {b j:Nat} {l2:List UInt8} (h:Wrote (H++X) b j l2 H2):Wrote H b j l2 H2:=by
 obtain ⟨j2,h1,h2,h3⟩:=h
 rw [List.length_append] at h3
 exact ⟨j2,h1,(Frm.app (S:=[b,j])).trans h2 (fun x hx=> .inl hx),h3.imp id (fun h=>by omega)⟩
theorem Wrote.trans {H H1 H2:AHeap} {b j j1:Nat} {l2:List UInt8} (hf:Frm [b,j] H H1) (hj:j1=j∨H.length≤j1) (h:Wrote H1 b j1 l2 H2):Wrote H b j l2 H2:=by
 obtain ⟨j2,h1,h2,h3⟩:=h
 have hl:=hf.1
 refine ⟨j2,h1,hf.trans h2 (fun x hx=> ?_),?_⟩
 ·simp only [List.mem_cons,List.not_mem_nil,or_false] at hx ⊢
  rcases hx with rfl|rfl
  ·exact .inl (.inl rfl)
  ·exact hj.imp .inr id
 ·rcases h3 with rfl|h3
  ·exact hj
  ·exact .inr (by omega)
def WrP (fn:Nat) (v:BV):Prop:=∀(b j:Nat) (l:List UInt8) (H:AHeap) (cs:List Value),BO H b j l→RdV H v cs→l.length+v.write.length≤1099511627776→
 AC Tryz.prog fn [.pointer (some ⟨b,0,none⟩),.agg ⟨cs⟩] H (fun r H2=>r= .ret noVal∧Wrote H b j (l++v.write) H2)
theorem wr1 (n:Int) (s:List UInt8) (kids:List BV) (keys:List (List UInt8)) (h0: -9223372036854775808≤n) (h1:n≤9223372036854775807):WrP 93 (.mk 1 n s kids keys):=by
 intro b j l H cs hB hR hl
 have hw:(BV.mk 1 n s kids keys).write=105::(Lib.itoa n++[101]):=by unfold BV.write;rw [if_pos rfl]
 rw [hw] at hl ⊢
 unfold RdV at hR
 obtain ⟨vk,vs,css,rfl,hk,hL,hs⟩:=hR
 have e1:Go.Aw.flat vk=true:=by rcases hk with ⟨rfl,_⟩|⟨_,_,_,_,_,rfl,_⟩<;> rfl
 have e3:Go.Aw.flat vs=true:=by rcases hs with ⟨rfl,_⟩|⟨_,_,_,_,_,rfl,_⟩<;> rfl
 obtain ⟨H1,hH1⟩:∃H1:AHeap,H1=H++ [.cells [.int .i64 1,.int .i64 n,.string (bs s),vk,vs] ⟨27,0,true,0,none⟩]:=⟨_,rfl⟩
 have hb1:H1[H.length]? =some (.cells [.int .i64 1,.int .i64 n,.string (bs s),vk,vs] ⟨27,0,true,0,none⟩):=by rw [hH1,hget0 rfl];rfl
 have hB1:BO H1 b j l:=by rw [hH1];exact hB.more _
 have hI:=Itoa n h0 h1 H1 hB1.tab
 have hX:=WriteString b j l (105::(Lib.itoa n++[101])) (by simp) (by omega) H1 hB1.bld
 have hlen:(105::(Lib.itoa n++[101])).length=(Lib.itoa n).length+2:=by simp
 refine AC.enter Tryz.func93 rfl (by kernel_rfl) 11 rfl [] rfl (by simp) fun hsc B=> ?_
 repeat first|with_reducible refine kc ?_|((with_reducible first|refine kr ?_ ?_|refine kt ?_ ?_);exact rfl)|((with_reducible refine kf ?_ ?_);exact rfl)|simp only [go_sem,sevalprocAttr,reduceCtorEq]|simp (disch:=omega) only [wz]
 rw [← hH1]
 repeat first|with_reducible refine kc ?_|((with_reducible first|refine kr ?_ ?_|refine kt ?_ ?_);exact rfl)|((with_reducible refine kf ?_ ?_);exact rfl)|with_reducible refine hI.use ?_|simp only [go_sem,sevalprocAttr,reduceCtorEq]|simp (disch:=omega) only [wz]
 refine ⟨by omega,by omega,AC.mono hX ?_⟩
 rintro r H2 ⟨rfl,h⟩
 repeat first|with_reducible refine kc ?_|((with_reducible first|refine kr ?_ ?_|refine kt ?_ ?_);exact rfl)|((with_reducible refine kf ?_ ?_);exact rfl)|simp only [go_sem,sevalprocAttr,reduceCtorEq]|simp (disch:=omega) only [wz]
 exact ⟨_,_,.refl _ _ _,rfl,Wrote.of_more (hH1 ▸ h)⟩
theorem wr2 (n:Int) (s:List UInt8) (kids:List BV) (keys:List (List UInt8)):WrP 95 (.mk 2 n s kids keys):=by
 intro b j l H cs hB hR hl
 have hw:(BV.mk 2 n s kids keys).write=BV.wText s:=by unfold BV.write;rw [if_neg (by decide),if_pos rfl]
 rw [hw] at hl ⊢
 unfold RdV at hR
 obtain ⟨vk,vs,css,rfl,hk,hL,hs⟩:=hR
 have e1:Go.Aw.flat vk=true:=by rcases hk with ⟨rfl,_⟩|⟨_,_,_,_,_,rfl,_⟩<;> rfl
 have e3:Go.Aw.flat vs=true:=by rcases hs with ⟨rfl,_⟩|⟨_,_,_,_,_,rfl,_⟩<;> rfl
 obtain ⟨H1,hH1⟩:∃H1:AHeap,H1=H++ [.cells [.int .i64 2,.int .i64 n,.string (bs s),vk,vs] ⟨27,0,true,0,none⟩]:=⟨_,rfl⟩
 have hb1:H1[H.length]? =some (.cells [.int .i64 2,.int .i64 n,.string (bs s),vk,vs] ⟨27,0,true,0,none⟩):=by rw [hH1,hget0 rfl];rfl
 have hB1:BO H1 b j l:=by rw [hH1];exact hB.more _
 have hX:=wtext b j l s (by omega) H1 hB1.tab hB1.bld
 refine AC.enter Tryz.func95 rfl (by kernel_rfl) 8 rfl [] rfl (by simp) fun hsc B=> ?_
 repeat first|with_reducible refine kc ?_|((with_reducible first|refine kr ?_ ?_|refine kt ?_ ?_);exact rfl)|((with_reducible refine kf ?_ ?_);exact rfl)|simp only [go_sem,sevalprocAttr,reduceCtorEq]|simp (disch:=omega) only [wz]
 rw [← hH1]
 refine AC.mono hX ?_
 rintro r H2 ⟨rfl,h⟩
 repeat first|with_reducible refine kc ?_|((with_reducible first|refine kr ?_ ?_|refine kt ?_ ?_);exact rfl)|((with_reducible refine kf ?_ ?_);exact rfl)|simp only [go_sem,sevalprocAttr,reduceCtorEq]|simp (disch:=omega) only [wz]
 exact ⟨_,_,.refl _ _ _,rfl,Wrote.of_more (hH1 ▸ h)⟩
end Go.Proofs.YthcdjconlfdidaaGreatDoor

set_option linter.unusedVariables false
set_option linter.unusedSimpArgs false
set_option maxHeartbeats 8000000
set_option maxRecDepth 20000
namespace Go.Proofs.YthcdjconlfdidaaGreatDoor
open Go Go.Aw Go.Proofs Go.Shelf
def wFn (k:Int):Nat:=if k=1 then 93 else if k=2 then 95 else if k=3 then 97 else 99
structure WL where
 i:Nat
 jc:Nat
 Hc:AHeap
theorem BO.jlt {H:AHeap} {b j:Nat} {l:List UInt8} (h:BO H b j l):b<H.length∧j<H.length:=by
 obtain ⟨_,_,e1,_⟩:=h.own b (by simp)
 obtain ⟨_,_,e2,_⟩:=h.own j (by simp)
 exact ⟨lt_of_get e1,lt_of_get e2⟩
structure WI (H1:AHeap) (b j:Nat) (l:List UInt8) (jc:Nat) (Hc:AHeap):Prop where
 bo:BO Hc b jc l
 frm:Frm [b,j] H1 Hc
 j:jc=j∨H1.length≤jc
 kept:Kept H1 Hc
theorem WI.step {H1 H2 Hc:AHeap} {b j jc:Nat} {l l2:List UInt8} (h:WI H1 b j l jc Hc) (hw:Wrote Hc b jc l2 H2) (hne:l2≠[]):∃j2,WI H1 b j l2 j2 H2:=by
 obtain ⟨j2,h1,h2,h3,h4⟩:=h.bo.wrote hw hne
 have hl:=h.frm.1
 refine ⟨j2,h1,h.frm.trans h2 (fun x hx=> ?_),?_,h.kept.trans h4⟩
 ·simp only [List.mem_cons,List.not_mem_nil,or_false] at hx ⊢
  rcases hx with rfl|rfl
  ·exact .inl (.inl rfl)
  ·exact h.j.imp .inr id
 ·rcases h3 with rfl|h3
  ·exact h.j
  ·exact .inr (by omega)
theorem WI.more {H1 Hc:AHeap} {b j jc:Nat} {l:List UInt8} (h:WI H1 b j l jc Hc) (X:AHeap):WI H1 b j l jc (Hc++X):=⟨h.bo.more X,h.frm.more,h.j,h.kept.trans (.more _ _)⟩
theorem writeL_snoc (l:List BV) (i:Nat) (h:i<l.length):BV.writeL (l.take (i+1))=BV.writeL (l.take i)++l[i].write:=by
 have key:∀(a:List BV) (v:BV),BV.writeL (a++[v])=BV.writeL a++v.write:=fun a v=>by
  induction a with
  |nil=>simp [BV.writeL]
  |cons x a ih=>simp [BV.writeL,ih]
 rw [List.take_add_one,List.getElem?_eq_getElem h]
 exact key _ _
theorem writeL_take:∀(l:List BV) (i:Nat),(BV.writeL (l.take i)).length≤(BV.writeL l).length
 |[],i=>by simp
 |v::l,0=>by simp [BV.writeL]
 |v::l,i+1=>by
  have:=writeL_take l i
  simp [BV.writeL];omega
theorem write_ne (v:BV):1≤v.write.length:=by
 cases v
 unfold BV.write
 split
 ·simp
 ·split
  ·unfold BV.wText;simp;omega
  ·split<;> simp
theorem writeL_ge:∀(l:List BV),l.length≤(BV.writeL l).length
 |[]=>by simp
 |v::l=>by
  have:=writeL_ge l
  have:=write_ne v
  simp [BV.writeL];omega
theorem wr3 (n:Int) (s:List UInt8) (kids:List BV) (keys:List (List UInt8)) (ih:∀c∈kids,WrP (wFn c.kind) c∧(c.kind=1∨c.kind=2∨c.kind=3∨c.kind=4)):WrP 97 (.mk 3 n s kids keys):=by
 intro b j l H cs hB hR hl
 have hw:(BV.mk 3 n s kids keys).write=108::(BV.writeL kids++[101]):=by unfold BV.write;rw [if_neg (by decide),if_neg (by decide),if_pos rfl]
 rw [hw] at hl ⊢
 have hl':l.length+(BV.writeL kids).length+2≤1099511627776:=by simp at hl;omega
 unfold RdV at hR
 obtain ⟨vk,vs,css,rfl,hk,hL,hs⟩:=hR
 have e1:Go.Aw.flat vk=true:=by rcases hk with ⟨rfl,_⟩|⟨_,_,_,_,_,rfl,_⟩<;> rfl
 have e3:Go.Aw.flat vs=true:=by rcases hs with ⟨rfl,_⟩|⟨_,_,_,_,_,rfl,_⟩<;> rfl
 obtain ⟨H1,hH1⟩:∃H1:AHeap,H1=H++ [.cells [.int .i64 3,.int .i64 n,.string (bs s),vk,vs] ⟨27,0,true,0,none⟩]:=⟨_,rfl⟩
 have hb1:H1[H.length]? =some (.cells [.int .i64 3,.int .i64 n,.string (bs s),vk,vs] ⟨27,0,true,0,none⟩):=by rw [hH1,hget0 rfl];rfl
 have hB1:BO H1 b j l:=by rw [hH1];exact hB.more _
 have hjl:=hB.jlt
 have hH1l:H1.length=H.length+1:=by rw [hH1];simp
 have hI1:WI H1 b j l j H1:=⟨hB1,Frm.refl _ _,.inl rfl,.refl _⟩
 have hkK:Kept H H1:=by rw [hH1];exact .more _ _
 have hk1:=hk.kept hkK
 have hL1:=hL.kept hkK
 have hlen:=hL.len
 have hbx:∀(jc:Nat) (lc:List UInt8) (Hc:AHeap),WI H1 b j lc jc Hc→Hc[H.length]? =some (.cells [.int .i64 3,.int .i64 n,.string (bs s),vk,vs] ⟨27,0,true,0,none⟩):=fun jc lc Hc h=>h.frm.get hb1 (by simp;omega)
 have hX:AC Tryz.prog 98 [.pointer (some ⟨b,0,none⟩),.int .u8 108] H1 (fun r H2=>r= .ret .nilIface∧Wrote H1 b j (l++[108]) H2):=WriteByte b j l 108 (by omega) H1 hB1.bld
 have q1:∀H' K,lenW Tryz.prog 23 vk H' K=K (.int .i64 (kids.length:Nat)) H':=fun H' K=>by rw [hk.lenT (by simp only [go_sem,sevalprocAttr,reduceCtorEq]),hlen]
 refine AC.enter Tryz.func97 rfl (by kernel_rfl) 25 rfl [] rfl (by simp) fun hsc B=> ?_
 repeat first|with_reducible refine kc ?_|((with_reducible first|refine kr ?_ ?_|refine kt ?_ ?_);exact rfl)|((with_reducible refine kf ?_ ?_);exact rfl)|simp only [go_sem,sevalprocAttr,reduceCtorEq]|simp (disch:=omega) only [wz]
 rw [← hH1]
 refine AC.mono hX ?_
 rintro r H2 ⟨rfl,hw1⟩
 obtain ⟨j2,hI2⟩:=hI1.step hw1 (by simp)
 have hbx2:=hbx _ _ _ hI2
 repeat first|with_reducible refine kc ?_|((with_reducible first|refine kr ?_ ?_|refine kt ?_ ?_);exact rfl)|((with_reducible refine kf ?_ ?_);exact rfl)|simp only [go_sem,sevalprocAttr,reduceCtorEq,hbx2,q1]|simp (disch:=omega) only [wz]
 refine AWP.loopP (fun p:WL=>⟨[(0,.pointer (some ⟨b,0,none⟩)),(3,.pointer (some ⟨H.length,0,none⟩)),(9,vk),(10,.int .i64 (kids.length:Nat)),(11,.int .i64 (p.i:Nat))],[],p.Hc⟩)
  (fun p=>p.i≤kids.length∧WI H1 b j (l++108::BV.writeL (kids.take p.i)) p.jc p.Hc) (fun p=>kids.length - p.i) ⟨0,j2,H2⟩ ?_ ⟨Nat.zero_le _,hI2⟩ ?_
 ·exact Weak.env (by simp [envIn,lk_cons,wth_some])
 rintro ⟨i,jc,Hc⟩ ⟨hi,hIc⟩
 dsimp only at hi hIc ⊢
 by_cases hlt:i<kids.length
 ·have hlt':(i:Int)<(kids.length:Int):=by omega
  have hkc:=hk1.kept hIc.kept
  have hLc:=hL1.kept hIc.kept
  obtain ⟨r,hr,hRv⟩:=hLc.at_ (List.getElem?_eq_getElem hlt)
  obtain ⟨bi,off,cap,cs',k',rfl,hcap,hbi,hown,hesz,hle,htk⟩:=hkc.at_ hr
  have hlt2:(i:Int)<(css.length:Int):=by omega
  have hr5:=hRv.len
  have hfl:=RdV_flat hRv
  have htk5:List.take 5 r=r:=List.take_of_length_le (by omega)
  have hput:putCells [.int .i64 0,.int .i64 0,.string (bs []),.slice none 0 0,.slice none 0 0] 0 r=r:=by
   match r,hr5 with
   |[_,_,_,_,_],_=>rfl
  have hhas:=ih _ (List.getElem_mem hlt)
  have hRd:=hRv.kept (Kept.more Hc [.cells r ⟨27,0,true,0,none⟩])
  have hId:=hIc.more [.cells r ⟨27,0,true,0,none⟩]
  have hwl:(l++108::BV.writeL (kids.take i)).length+kids[i].write.length≤1099511627776:=by
   have h1:=congrArg List.length (writeL_snoc kids i hlt)
   have h2:(BV.writeL (kids.take (i+1))).length≤(BV.writeL kids).length:=writeL_take _ _
   simp only [List.length_append,List.length_cons] at h1 ⊢
   omega
  have hge:=writeL_ge kids
  have hwi:IntKind.i64.wrap ((i:Int)+1)=((i+1:Nat):Int):=by rw [wi64 (by omega)];omega
  have hcall:=hhas.1 b jc _ _ r hId.bo hRd hwl
  have hsn:l++108::BV.writeL (kids.take (i+1))=(l++108::BV.writeL (kids.take i))++kids[i].write:=by rw [writeL_snoc kids i hlt];simp
  generalize kids[i]=v at*
  obtain ⟨k,n',s',kk,ky⟩:=v
  unfold RdV at hRv
  obtain ⟨vk',vs',css',rfl,-,-,-⟩:=hRv
  have hF:=fun H=>writesF H
  repeat first|with_reducible refine kc ?_|((with_reducible first|refine kr ?_ ?_|refine kt ?_ ?_);exact rfl)|((with_reducible refine kf ?_ ?_);exact rfl)|simp only [go_sem,sevalprocAttr,reduceCtorEq,hlt',hlt2,hbi,hle,htk,hr5,hfl,htk5,hput]|simp (disch:=omega) only [wz]
  have hF2:∀H,ARet Tryz.prog 71 [] H (.agg ⟨[.nilFunc,.func (.func 93) ⟨[]⟩ ⟨[]⟩,.func (.func 95) ⟨[]⟩ ⟨[]⟩,.func (.func 97) ⟨[]⟩ ⟨[]⟩,.func (.func 99) ⟨[]⟩ ⟨[]⟩]⟩) H:=fun H=>writesF H
  refine AWP.regionMP 6 [0,2,5] [(0,.agg ⟨[.nilFunc,.func (.func 93) ⟨[]⟩ ⟨[]⟩,.func (.func 95) ⟨[]⟩ ⟨[]⟩,.func (.func 97) ⟨[]⟩ ⟨[]⟩,.func (.func 99) ⟨[]⟩ ⟨[]⟩]⟩),(2,.int .i64 k)] (.both (.step 0 (.both (.run [2,5]) (.run [5,2]))) (.both (.step 2 (.both (.run [0,5]) (.run [5,0]))) (.step 5 (.both (.run [0,2]) (.run [2,0]))))) (by kernel_rfl) (by decide) (by kernel_rfl) (by kernel_rfl) (by kernel_rfl) ?_
  obtain ⟨-,hkd⟩:=hhas
  rcases hkd with hkd|hkd|hkd|hkd
  all_goals
   dsimp only [BV.kind] at hkd
   subst hkd
  all_goals
   repeat' first|with_reducible refine canW_n ?_|with_reducible refine canW_m (by decide) ?_|((with_reducible apply canW_p (by decide));focus (intro H;(simp only [go_sem,sevalprocAttr,reduceCtorEq,List.map_cons,List.map_nil]);exact rfl))|with_reducible refine memW_bP ?_ ?_|with_reducible refine memW_sP rfl ?_|with_reducible refine memW_rP rfl ?_|with_reducible refine memW_eP ?_|simp only [List.take_succ_cons,List.take_zero,List.drop_succ_cons,List.drop_zero]|omega|with_reducible refine And.intro ?_ ?_|with_reducible refine kc ?_|((with_reducible first|refine kr ?_ ?_|refine kt ?_ ?_);exact rfl)|((with_reducible refine kf ?_ ?_);exact rfl)|with_reducible refine (hF2 _).use ?_|simp only [go_sem,sevalprocAttr,reduceCtorEq,List.map_cons,List.map_nil]|simp (disch:=omega) only [wz]
   all_goals
    refine AC.mono hcall ?_
    rintro r H3 ⟨rfl,hw3⟩
    obtain ⟨j3,hI3⟩:=hId.step hw3 (by simp)
    repeat first|with_reducible refine kc ?_|((with_reducible first|refine kr ?_ ?_|refine kt ?_ ?_);exact rfl)|((with_reducible refine kf ?_ ?_);exact rfl)|simp only [go_sem,sevalprocAttr,reduceCtorEq,hwi]|simp (disch:=omega) only [wz]
    exact ⟨⟨i+1,j3,H3⟩,Weak.env (by simp [envIn,lk_cons,wth_some]),by dsimp only;omega,by dsimp only;rw [hsn];exact hI3,by dsimp only;omega⟩
 ·have hlt':¬(i:Int)<(kids.length:Int):=by omega
  have hie:kids.take i=kids:=List.take_of_length_le (by omega)
  rw [hie] at hIc
  have hX2:AC Tryz.prog 98 [.pointer (some ⟨b,0,none⟩),.int .u8 101] Hc (fun r H2=>r= .ret .nilIface∧Wrote Hc b jc ((l++108::BV.writeL kids)++[101]) H2):=WriteByte b jc _ 101 (by simp;omega) Hc hIc.bo.bld
  repeat first|with_reducible refine kc ?_|((with_reducible first|refine kr ?_ ?_|refine kt ?_ ?_);exact rfl)|((with_reducible refine kf ?_ ?_);exact rfl)|simp only [go_sem,sevalprocAttr,reduceCtorEq,hlt']|simp (disch:=omega) only [wz]
  refine AC.mono hX2 ?_
  rintro r H3 ⟨rfl,hw3⟩
  repeat first|with_reducible refine kc ?_|((with_reducible first|refine kr ?_ ?_|refine kt ?_ ?_);exact rfl)|((with_reducible refine kf ?_ ?_);exact rfl)|simp only [go_sem,sevalprocAttr,reduceCtorEq]|simp (disch:=omega) only [wz]
  refine ⟨_,_,.refl _ _ _,rfl,Wrote.of_more (hH1 ▸ Wrote.trans hIc.frm hIc.j ?_)⟩
  rw [show l++108::(BV.writeL kids++[101])=(l++108::BV.writeL kids)++[101] by simp]
  exact hw3
end Go.Proofs.YthcdjconlfdidaaGreatDoor
