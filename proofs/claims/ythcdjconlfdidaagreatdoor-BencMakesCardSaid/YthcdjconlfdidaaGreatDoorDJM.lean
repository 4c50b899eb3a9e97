/-
  A part of the proof of a statement of this seat.
-/
import Derived.Test.YthcdjconlfdidaaGreatDoorDHM
set_option linter.unusedVariables false
set_option linter.unusedSimpArgs false
set_option maxHeartbeats 8000000
set_option maxRecDepth 20000
namespace Go.Proofs.YthcdjconlfdidaaGreatDoor
open Go Go.Aw Go.Proofs Go.Shelf
theorem writeD_app:∀(ks:List (List UInt8)) (l:List BV),ks.length=l.length→∀(k:List UInt8) (v:BV),BV.writeD (ks++[k]) (l++[v])=BV.writeD ks l++(BV.wText k++v.write)
 |[],[],_,k,v=>by simp [BV.writeD]
 |x::ks,y::l,h,k,v=>by
  have:=writeD_app ks l (by simpa using h) k v
  simp [BV.writeD,this]
theorem writeD_snoc (ks:List (List UInt8)) (l:List BV) (h:ks.length=l.length) (i:Nat) (hi:i<l.length) (hk:i<ks.length):BV.writeD (ks.take (i+1)) (l.take (i+1))=BV.writeD (ks.take i) (l.take i)++(BV.wText ks[i]++l[i].write):=by
 rw [List.take_add_one,List.getElem?_eq_getElem hk,List.take_add_one,List.getElem?_eq_getElem hi]
 exact writeD_app _ _ (by rw [List.length_take,List.length_take,h]) _ _
theorem writeD_take:∀(ks:List (List UInt8)) (l:List BV) (i:Nat),(BV.writeD (ks.take i) (l.take i)).length≤(BV.writeD ks l).length
 |_,_,0=>by simp [BV.writeD]
 |[],l,i+1=>by simp [BV.writeD]
 |k::ks,[],i+1=>by simp [BV.writeD]
 |k::ks,v::l,i+1=>by
  have:=writeD_take ks l i
  simp [BV.writeD];omega
theorem writeD_ge:∀(ks:List (List UInt8)) (l:List BV),ks.length=l.length→l.length≤(BV.writeD ks l).length
 |[],[],_=>by simp
 |k::ks,v::l,h=>by
  have:=writeD_ge ks l (by simpa using h)
  have:=write_ne v
  simp [BV.writeD];omega
theorem keyC_at {keys:List (List UInt8)} {i:Nat} (h:i<keys.length):(keyC keys)[i]? =some [Value.string (bs keys[i])]:=by
 unfold keyC
 rw [List.getElem?_map,List.getElem?_eq_getElem h];rfl
theorem WI.step2 {H1 H2 Hc:AHeap} {b j jc:Nat} {l l2:List UInt8} (h:WI H1 b j l jc Hc) (hw:Wrote Hc b jc l2 H2) (hne:l2≠[]):∃j2,WI H1 b j l2 j2 H2∧Frm [b,jc] Hc H2:=by
 obtain ⟨j2,h1,h2,h3,h4⟩:=h.bo.wrote hw hne
 have hl:=h.frm.1
 refine ⟨j2,⟨h1,h.frm.trans h2 (fun x hx=> ?_),?_,h.kept.trans h4⟩,h2⟩
 ·simp only [List.mem_cons,List.not_mem_nil,or_false] at hx ⊢
  rcases hx with rfl|rfl
  ·exact .inl (.inl rfl)
  ·exact h.j.imp .inr id
 ·rcases h3 with rfl|h3
  ·exact h.j
  ·exact .inr (by omega)
theorem wr4 (n:Int) (s:List UInt8) (kids:List BV) (keys:List (List UInt8)) (hkl:keys.length=kids.length) (ih:∀c∈kids,WrP (wFn c.kind) c∧(c.kind=1∨c.kind=2∨c.kind=3∨c.kind=4)):WrP 99 (.mk 4 n s kids keys):=by
 intro b j l H cs hB hR hl
 have hw:(BV.mk 4 n s kids keys).write=100::(BV.writeD keys kids++[101]):=by unfold BV.write;rw [if_neg (by decide),if_neg (by decide),if_neg (by decide)]
 rw [hw] at hl ⊢
 have hl':l.length+(BV.writeD keys kids).length+2≤1099511627776:=by simp at hl;omega
 unfold RdV at hR
 obtain ⟨vk,vs,css,rfl,hk,hL,hs⟩:=hR
 have e1:Go.Aw.flat vk=true:=by rcases hk with ⟨rfl,_⟩|⟨_,_,_,_,_,rfl,_⟩<;> rfl
 have e3:Go.Aw.flat vs=true:=by rcases hs with ⟨rfl,_⟩|⟨_,_,_,_,_,rfl,_⟩<;> rfl
 obtain ⟨H1,hH1⟩:∃H1:AHeap,H1=H++ [.cells [.int .i64 4,.int .i64 n,.string (bs s),vk,vs] ⟨27,0,true,0,none⟩]:=⟨_,rfl⟩
 have hb1:H1[H.length]? =some (.cells [.int .i64 4,.int .i64 n,.string (bs s),vk,vs] ⟨27,0,true,0,none⟩):=by rw [hH1,hget0 rfl];rfl
 have hB1:BO H1 b j l:=by rw [hH1];exact hB.more _
 have hjl:=hB.jlt
 have hH1l:H1.length=H.length+1:=by rw [hH1];simp
 have hI1:WI H1 b j l j H1:=⟨hB1,Frm.refl _ _,.inl rfl,.refl _⟩
 have hkK:Kept H H1:=by rw [hH1];exact .more _ _
 have hk1:=hk.kept hkK
 have hL1:=hL.kept hkK
 have hs1:=hs.kept hkK
 have hlen:=hL.len
 have hbx:∀(jc:Nat) (lc:List UInt8) (Hc:AHeap),WI H1 b j lc jc Hc→Hc[H.length]? =some (.cells [.int .i64 4,.int .i64 n,.string (bs s),vk,vs] ⟨27,0,true,0,none⟩):=fun jc lc Hc h=>h.frm.get hb1 (by simp;omega)
 have hX:AC Tryz.prog 98 [.pointer (some ⟨b,0,none⟩),.int .u8 100] H1 (fun r H2=>r= .ret .nilIface∧Wrote H1 b j (l++[100]) H2):=WriteByte b j l 100 (by omega) H1 hB1.bld
 have q1:∀H' K,lenW Tryz.prog 23 vk H' K=K (.int .i64 (kids.length:Nat)) H':=fun H' K=>by rw [hk.lenT (by simp only [go_sem,sevalprocAttr,reduceCtorEq]),hlen]
 refine AC.enter Tryz.func99 rfl (by kernel_rfl) 33 rfl [] rfl (by simp) fun hsc B=> ?_
 repeat first|with_reducible refine kc ?_|((with_reducible first|refine kr ?_ ?_|refine kt ?_ ?_);exact rfl)|((with_reducible refine kf ?_ ?_);exact rfl)|simp only [go_sem,sevalprocAttr,reduceCtorEq]|simp (disch:=omega) only [wz]
 rw [← hH1]
 refine AC.mono hX ?_
 rintro r H2 ⟨rfl,hw1⟩
 obtain ⟨j2,hI2⟩:=hI1.step hw1 (by simp)
 have hbx2:=hbx _ _ _ hI2
 repeat first|with_reducible refine kc ?_|((with_reducible first|refine kr ?_ ?_|refine kt ?_ ?_);exact rfl)|((with_reducible refine kf ?_ ?_);exact rfl)|simp only [go_sem,sevalprocAttr,reduceCtorEq,hbx2,q1]|simp (disch:=omega) only [wz]
 refine AWP.loopP (fun p:WL=>⟨[(0,.pointer (some ⟨b,0,none⟩)),(3,.pointer (some ⟨H.length,0,none⟩)),(9,vk),(10,.int .i64 (kids.length:Nat)),(11,.int .i64 (p.i:Nat))],[],p.Hc⟩)
  (fun p=>p.i≤kids.length∧WI H1 b j (l++100::BV.writeD (keys.take p.i) (kids.take p.i)) p.jc p.Hc) (fun p=>kids.length - p.i) ⟨0,j2,H2⟩ ?_ ⟨Nat.zero_le _,hI2⟩ ?_
 ·exact Weak.env (by simp [envIn,lk_cons,wth_some])
 rintro ⟨i,jc,Hc⟩ ⟨hi,hIc⟩
 dsimp only at hi hIc ⊢
 by_cases hlt:i<kids.length
 ·have hlt':(i:Int)<(kids.length:Int):=by omega
  have hki:i<keys.length:=by omega
  have hkc:=hk1.kept hIc.kept
  have hsc2:=hs1.kept hIc.kept
  have hLc:=hL1.kept hIc.kept
  obtain ⟨r,hr,hRv⟩:=hLc.at_ (List.getElem?_eq_getElem hlt)
  obtain ⟨bi,off,cap,cs',k',rfl,hcap,hbi,hown,hesz,hle,htk⟩:=hkc.at_ hr
  obtain ⟨bi2,off2,cap2,cs2,k2,rfl,hcap2,hbi2,hown2,hesz2,hle2,htk2⟩:=hsc2.at_ (keyC_at hki)
  have hkcl:(keyC keys).length=keys.length:=by unfold keyC;simp
  have hlt2:(i:Int)<(css.length:Int):=by omega
  have hlt3:(i:Int)<((keyC keys).length:Int):=by omega
  have hr5:=hRv.len
  have hfl:=RdV_flat hRv
  have htk5:List.take 5 r=r:=List.take_of_length_le (by omega)
  have hput:putCells [.int .i64 0,.int .i64 0,.string (bs []),.slice none 0 0,.slice none 0 0] 0 r=r:=by
   match r,hr5 with
   |[_,_,_,_,_],_=>rfl
  have hhas:=ih _ (List.getElem_mem hlt)
  have hId:=hIc.more [.cells r ⟨27,0,true,0,none⟩]
  have hbxd:=hbx _ _ _ hId
  have h1:=congrArg List.length (writeD_snoc keys kids hkl i hlt hki)
  have h2:(BV.writeD (keys.take (i+1)) (kids.take (i+1))).length≤(BV.writeD keys kids).length:=writeD_take _ _ _
  simp only [List.length_append,List.length_cons] at h1
  have hge:=writeD_ge keys kids hkl
  have hwi:IntKind.i64.wrap ((i:Int)+1)=((i+1:Nat):Int):=by rw [wi64 (by omega)];omega
  have hT:=wtext b jc (l++100::BV.writeD (keys.take i) (kids.take i)) keys[i] (by simp only [List.length_append,List.length_cons];omega) _ hId.bo.tab hId.bo.bld
  have hsn:l++100::BV.writeD (keys.take (i+1)) (kids.take (i+1))=((l++100::BV.writeD (keys.take i) (kids.take i))++BV.wText keys[i])++kids[i].write:=by rw [writeD_snoc keys kids hkl i hlt hki];simp
  generalize keys[i]=ky at*
  generalize kids[i]=v at*
  have hat2:cs2[off2+i]? =some (.string (bs ky)):=by
   have h1:=congrArg (fun l=>l[0]?) htk2
   simpa using h1
  have hgbi2:(Hc++[AObj.cells r ⟨27,0,true,0,none⟩])[bi2]? =some (.cells cs2 k2):=by rw [hgetl (lt_of_get hbi2)];exact hbi2
  have hRd0:=hRv
  obtain ⟨k,n',s',kk,ky'⟩:=v
  unfold RdV at hRv
  obtain ⟨vk',vs',css',rfl,-,-,-⟩:=hRv
  have hF2:∀H,ARet Tryz.prog 71 [] H (.agg ⟨[.nilFunc,.func (.func 93) ⟨[]⟩ ⟨[]⟩,.func (.func 95) ⟨[]⟩ ⟨[]⟩,.func (.func 97) ⟨[]⟩ ⟨[]⟩,.func (.func 99) ⟨[]⟩ ⟨[]⟩]⟩) H:=fun H=>writesF H
  repeat first|with_reducible refine kc ?_|((with_reducible first|refine kr ?_ ?_|refine kt ?_ ?_);exact rfl)|((with_reducible refine kf ?_ ?_);exact rfl)|simp only [go_sem,sevalprocAttr,reduceCtorEq,hlt',hlt2,hbi,hle,htk,hr5,hfl,htk5,hput,hbxd,hlt3,hgbi2,hat2]|simp (disch:=omega) only [wz]
  refine AC.mono hT ?_
  rintro r3 H3 ⟨rfl,hw3⟩
  obtain ⟨j3,hI3,hf3⟩:=hId.step2 hw3 (by simp)
  have hjlc:=hIc.bo.jlt
  have hbr3:=hf3.get (j:=Hc.length) (o:= .cells [.int .i64 k,.int .i64 n',.string (bs s'),vk',vs'] ⟨27,0,true,0,none⟩) (by rw [hget0 rfl];rfl) (by simp;omega)
  have hRd3:=(hRd0.kept (Kept.more Hc [.cells [.int .i64 k,.int .i64 n',.string (bs s'),vk',vs'] ⟨27,0,true,0,none⟩])).kept (Kept.frm hf3 hId.bo.own)
  have hcall:=hhas.1 b j3 _ H3 _ hI3.bo hRd3 (by simp only [List.length_append,List.length_cons] at h1 ⊢;omega)
  repeat first|with_reducible refine kc ?_|((with_reducible first|refine kr ?_ ?_|refine kt ?_ ?_);exact rfl)|((with_reducible refine kf ?_ ?_);exact rfl)|simp only [go_sem,sevalprocAttr,reduceCtorEq]|simp (disch:=omega) only [wz]
  refine AWP.regionMP 6 [0,2,5] [(0,.agg ⟨[.nilFunc,.func (.func 93) ⟨[]⟩ ⟨[]⟩,.func (.func 95) ⟨[]⟩ ⟨[]⟩,.func (.func 97) ⟨[]⟩ ⟨[]⟩,.func (.func 99) ⟨[]⟩ ⟨[]⟩]⟩),(2,.int .i64 k)] (.both (.step 0 (.both (.run [2,5]) (.run [5,2]))) (.both (.step 2 (.both (.run [0,5]) (.run [5,0]))) (.step 5 (.both (.run [0,2]) (.run [2,0]))))) (by kernel_rfl) (by decide) (by kernel_rfl) (by kernel_rfl) (by kernel_rfl) ?_
  obtain ⟨-,hkd⟩:=hhas
  rcases hkd with hkd|hkd|hkd|hkd
  all_goals
   dsimp only [BV.kind] at hkd
   subst hkd
  all_goals
   repeat' first|with_reducible refine canW_n ?_|with_reducible refine canW_m (by decide) ?_|((with_reducible apply canW_p (by decide));focus (intro H;(simp only [go_sem,sevalprocAttr,reduceCtorEq,hbr3,htk5,hr5,List.map_cons,List.map_nil]);exact rfl))|with_reducible refine memW_bP ?_ ?_|with_reducible refine memW_sP rfl ?_|with_reducible refine memW_rP rfl ?_|with_reducible refine memW_eP ?_|simp only [List.take_succ_cons,List.take_zero,List.drop_succ_cons,List.drop_zero]|omega|with_reducible refine And.intro ?_ ?_|with_reducible refine kc ?_|((with_reducible first|refine kr ?_ ?_|refine kt ?_ ?_);exact rfl)|((with_reducible refine kf ?_ ?_);exact rfl)|with_reducible refine (hF2 _).use ?_|simp only [go_sem,sevalprocAttr,reduceCtorEq,hbr3,htk5,hr5,List.map_cons,List.map_nil]|simp (disch:=omega) only [wz]
   all_goals
    refine AC.mono hcall ?_
    rintro r4 H4 ⟨rfl,hw4⟩
    obtain ⟨j4,hI4⟩:=hI3.step hw4 (by simp)
    repeat first|with_reducible refine kc ?_|((with_reducible first|refine kr ?_ ?_|refine kt ?_ ?_);exact rfl)|((with_reducible refine kf ?_ ?_);exact rfl)|simp only [go_sem,sevalprocAttr,reduceCtorEq,hwi]|simp (disch:=omega) only [wz]
    exact ⟨⟨i+1,j4,H4⟩,Weak.env (by simp [envIn,lk_cons,wth_some]),by dsimp only;omega,by dsimp only;rw [hsn];exact hI4,by dsimp only;omega⟩
 ·have hlt':¬(i:Int)<(kids.length:Int):=by omega
  have hie:kids.take i=kids:=List.take_of_length_le (by omega)
  have hie2:keys.take i=keys:=List.take_of_length_le (by omega)
  rw [hie,hie2] at hIc
  have hX2:AC Tryz.prog 98 [.pointer (some ⟨b,0,none⟩),.int .u8 101] Hc (fun r H2=>r= .ret .nilIface∧Wrote Hc b jc ((l++100::BV.writeD keys kids)++[101]) H2):=WriteByte b jc _ 101 (by simp;omega) Hc hIc.bo.bld
  repeat first|with_reducible refine kc ?_|((with_reducible first|refine kr ?_ ?_|refine kt ?_ ?_);exact rfl)|((with_reducible refine kf ?_ ?_);exact rfl)|simp only [go_sem,sevalprocAttr,reduceCtorEq,hlt']|simp (disch:=omega) only [wz]
  refine AC.mono hX2 ?_
  rintro r H3 ⟨rfl,hw3⟩
  repeat first|with_reducible refine kc ?_|((with_reducible first|refine kr ?_ ?_|refine kt ?_ ?_);exact rfl)|((with_reducible refine kf ?_ ?_);exact rfl)|simp only [go_sem,sevalprocAttr,reduceCtorEq]|simp (disch:=omega) only [wz]
  refine ⟨_,_,.refl _ _ _,rfl,Wrote.of_more (hH1 ▸ Wrote.trans hIc.frm hIc.j ?_)⟩
  rw [show l++100::(BV.writeD keys kids++[101])=(l++100::BV.writeD keys kids)++[101] by simp]
  exact hw3
end Go.Proofs.YthcdjconlfdidaaGreatDoor

set_option linter.unusedVariables false
set_option linter.unusedSimpArgs false
set_option maxHeartbeats 8000000
set_option maxRecDepth 20000
namespace Go.Proofs.YthcdjconlfdidaaGreatDoor
open Go Go.Aw Go.Proofs Go.Shelf
theorem form_kind {v:BV} (h:v.form=true):v.kind=1∨v.kind=2∨v.kind=3∨v.kind=4:=by
 cases v with
 | mk k n s kids keys=>
  unfold BV.form at h
  show k=1∨k=2∨k=3∨k=4
  simp only [Bool.and_eq_true,decide_eq_true_eq] at h
  have h:=h.1
  by_cases h1:k=1
  ·exact .inl h1
  ·by_cases h2:k=2
   ·exact .inr (.inl h2)
   ·by_cases h3:k=3
    ·exact .inr (.inr (.inl h3))
    ·by_cases h4:k=4
     ·exact .inr (.inr (.inr h4))
     ·rw [if_neg h1,if_neg h2,if_neg h3,if_neg h4] at h
      exact absurd h (by decide)
theorem wr (v:BV):v.form=true→v.nums→WrP (wFn v.kind) v:=by
 refine BV.ind (P:=fun v=>v.form=true→v.nums→WrP (wFn v.kind) v) (fun k n s kids keys ih hf hn=> ?_) v
 have hkd:=form_kind hf
 unfold BV.form at hf
 unfold BV.nums at hn
 simp only [Bool.and_eq_true,decide_eq_true_eq] at hf
 have ih':∀c∈kids,WrP (wFn c.kind) c∧(c.kind=1∨c.kind=2∨c.kind=3∨c.kind=4):=fun c hc=>by
  have hfc:=BV.formL_iff.1 hf.2 c hc
  exact ⟨ih c hc hfc (BV.numsL_iff.1 hn.2 c hc),form_kind hfc⟩
 dsimp only [BV.kind] at hkd ⊢
 rcases hkd with rfl|rfl|rfl|rfl
 ·exact wr1 n s kids keys hn.1.1 hn.1.2
 ·exact wr2 n s kids keys
 ·exact wr3 n s kids keys ih'
 ·refine wr4 n s kids keys ?_ ih'
  have:=hf.1
  rw [if_neg (by decide),if_neg (by decide),if_neg (by decide),if_pos rfl] at this
  simp only [decide_eq_true_eq] at this
  exact this.2.2.1
theorem written (v:BV) (hf:v.form=true) (hn:v.nums) (hl:v.write.length≤1099511627776) (H:AHeap) (cs:List Value) (hT:TabH H) (hR:RdV H v cs):
  AC Tryz.prog 51 [.agg ⟨cs⟩] H (fun r H2=>r= .ret (.string (bs v.write))∧Frm [] H H2):=by
 have hkd:=form_kind hf
 have hwr:=wr v hf hn
 have hne:=write_ne v
 have hfl:=RdV_flat hR
 have hr5:=hR.len
 obtain ⟨H1,hH1⟩:∃H1:AHeap,H1=H++ [.cells cs ⟨27,0,true,0,none⟩,.cells [.pointer none,.slice none 0 0] ⟨93,0,true,0,none⟩]:=⟨_,rfl⟩
 have hb0:H1[H.length]? =some (.cells cs ⟨27,0,true,0,none⟩):=by rw [hH1,hget0 rfl];rfl
 have hb1:H1[H.length+1]? =some (.cells [.pointer none,.slice none 0 0] ⟨93,0,true,0,none⟩):=by rw [hH1,hgetk rfl];rfl
 have hB:BO H1 (H.length+1) (H.length+1) []:=⟨⟨⟨_,by rw [List.length_nil,gS_zero];exact hb1,.inl rfl⟩,fun h=>absurd h (by decide)⟩,fun _=>rfl,by rw [hH1];exact hT.more _⟩
 have hR1:RdV H1 v cs:=by rw [hH1];exact hR.kept (.more _ _)
 have hcall:=hwr _ _ _ H1 cs hB hR1 (by simpa using hl)
 have hf1:Frm [] H H1:=by rw [hH1];exact Frm.app
 have hF2:∀H,ARet Tryz.prog 71 [] H (.agg ⟨[.nilFunc,.func (.func 93) ⟨[]⟩ ⟨[]⟩,.func (.func 95) ⟨[]⟩ ⟨[]⟩,.func (.func 97) ⟨[]⟩ ⟨[]⟩,.func (.func 99) ⟨[]⟩ ⟨[]⟩]⟩) H:=fun H=>writesF H
 have htk5:List.take 5 cs=cs:=List.take_of_length_le (by omega)
 generalize hw:v.write=w at*
 obtain ⟨k,n',s',kk,ky'⟩:=v
 unfold RdV at hR
 obtain ⟨vk',vs',css',rfl,-,-,-⟩:=hR
 refine AC.enter Tryz.func51 rfl (by kernel_rfl) 11 rfl [.tmp 2] rfl (by simp) fun hsc B=> ?_
 repeat first|with_reducible refine kc ?_|((with_reducible first|refine kr ?_ ?_|refine kt ?_ ?_);exact rfl)|((with_reducible refine kf ?_ ?_);exact rfl)|simp only [go_sem,sevalprocAttr,reduceCtorEq,hfl,hr5]|simp (disch:=omega) only [wz]
 rw [← hH1]
 refine AWP.regionMP 5 [0,2,4] [(0,.agg ⟨[.nilFunc,.func (.func 93) ⟨[]⟩ ⟨[]⟩,.func (.func 95) ⟨[]⟩ ⟨[]⟩,.func (.func 97) ⟨[]⟩ ⟨[]⟩,.func (.func 99) ⟨[]⟩ ⟨[]⟩]⟩),(2,.int .i64 k)] (.both (.step 0 (.both (.run [2,4]) (.run [4,2]))) (.both (.step 2 (.both (.run [0,4]) (.run [4,0]))) (.step 4 (.both (.run [0,2]) (.run [2,0]))))) (by kernel_rfl) (by decide) (by kernel_rfl) (by kernel_rfl) (by kernel_rfl) ?_
 rcases hkd with hkd|hkd|hkd|hkd
 all_goals
  dsimp only [BV.kind] at hkd
  subst hkd
 all_goals
  repeat' first|with_reducible refine canW_n ?_|with_reducible refine canW_m (by decide) ?_|((with_reducible apply canW_p (by decide));focus (intro H;(simp only [go_sem,sevalprocAttr,reduceCtorEq,hb0,htk5,hr5,List.map_cons,List.map_nil]);exact rfl))|with_reducible refine memW_bP ?_ ?_|with_reducible refine memW_sP rfl ?_|with_reducible refine memW_rP rfl ?_|with_reducible refine memW_eP ?_|simp only [List.take_succ_cons,List.take_zero,List.drop_succ_cons,List.drop_zero]|omega|with_reducible refine And.intro ?_ ?_|with_reducible refine kc ?_|((with_reducible first|refine kr ?_ ?_|refine kt ?_ ?_);exact rfl)|((with_reducible refine kf ?_ ?_);exact rfl)|with_reducible refine (hF2 _).use ?_|simp only [go_sem,sevalprocAttr,reduceCtorEq,hb0,htk5,hr5,List.map_cons,List.map_nil]|simp (disch:=omega) only [wz]
  all_goals
   refine AC.mono hcall ?_
   rintro r4 H4 ⟨rfl,j4,hB4,hf4,hj4⟩
   have hS:=BString _ _ ([]++w) (by rw [List.nil_append];omega) (by rw [List.nil_append];omega) H4 hB4
   rw [List.nil_append] at hS
   repeat first|with_reducible refine kc ?_|((with_reducible first|refine kr ?_ ?_|refine kt ?_ ?_);exact rfl)|((with_reducible refine kf ?_ ?_);exact rfl)|with_reducible refine hS.use ?_|simp only [go_sem,sevalprocAttr,reduceCtorEq]|simp (disch:=omega) only [wz]
   refine ⟨_,_,.refl _ _ _,rfl,?_⟩
   have hl1:=hf1.1
   have hl4:=hf4.1
   have hl0:H1.length=H.length+2:=by rw [hH1];simp
   exact Frm.set (hf1.trans hf4 (fun x hx=>by simp only [List.mem_cons,List.not_mem_nil,or_false] at hx;right;omega)) (.inr (by omega))
end Go.Proofs.YthcdjconlfdidaaGreatDoor
