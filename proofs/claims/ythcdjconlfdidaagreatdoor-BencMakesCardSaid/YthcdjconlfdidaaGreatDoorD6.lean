/-
 The walk of the reader of bencoded values:lists and dictionaries.
-/
import Derived.Test.YthcdjconlfdidaaGreatDoorDBM
import Derived.Test.YthcdjconlfdidaaGreatDoorAwB
set_option linter.unusedVariables false
set_option linter.unusedSimpArgs false
set_option maxRecDepth 20000
set_option maxHeartbeats 8000000
namespace Go.Proofs.YthcdjconlfdidaaGreatDoor
open Go Go.Aw Go.Proofs
theorem AWP.seqE {g:Cfg} {Q:AExit→ASt→Prop} {st:ASt} {x y:Code} (J:ASt→Prop) (h:AWP g x (next (fun s=>∃st2,J st2∧Weak g.n0 s st2) Q) st) (k:∀st2,J st2→AWP g y Q st2):AWP g (.seq x y) Q st:=by
 refine AWP.seq (h.mono ?_)
 intro e s hq
 cases e with
 |normal=>
  obtain ⟨st2,h1,h2⟩:=hq
  exact Go.Aw.AWP.weak h2 (k _ h1)
 |exit i=>exact hq
 |goto i=>exact hq
 |ret=>exact hq
 |panic v=>exact hq
structure Lp where
 i:Nat
 n:Nat
 kids:List BV
 keys:List (List UInt8)
 vk:Value
 vs:Value
 css:List (List Value)
 jk:Nat
 js:Nat
 Hc:AHeap
def LpI (s:List UInt8) (r:Nat) (H:AHeap) (d:Bool) (f:Nat→Nat→Rr BV) (Rk:Rr (List BV×List (List UInt8))) (p:Lp):Prop:=
 VSt s r H d p.i p.n p.kids p.keys p.vk p.vs p.css p.jk p.js p.Hc∧p.i≤s.length∧p.n≤1000∧p.kids.length≤p.i∧p.keys.length≤p.i∧∃fuel,s.length - p.i<fuel∧kidsR f s d fuel p.i p.n p.kids p.keys=Rk
theorem keyC_flat:∀(l:List (List UInt8)),(keyC l).flatten=l.map fun x=>Value.string (bs x)
 |[]=>rfl
 |x::l=>by
  have:=keyC_flat l
  unfold keyC at this ⊢
  rw [List.map_cons,List.flatten_cons,this];rfl
theorem RdV_flat {H:AHeap} {v:BV} {cs:List Value} (h:RdV H v cs):cs.all Go.Aw.flat=true:=by
 cases v
 unfold RdV at h
 obtain ⟨vk,vs,css,rfl,h1,_,h3⟩:=h
 have e1:Go.Aw.flat vk=true:=by rcases h1 with ⟨rfl,_⟩|⟨_,_,_,_,_,rfl,_⟩<;> rfl
 have e3:Go.Aw.flat vs=true:=by rcases h3 with ⟨rfl,_⟩|⟨_,_,_,_,_,rfl,_⟩<;> rfl
 simp only [List.all_cons,List.all_nil,e1,e3]
 rfl
def tailR (f:Nat→Nat→Rr BV) (s:List UInt8) (d:Bool) (fuel j n:Nat) (kids:List BV) (keys:List (List UInt8)):Rr (List BV×List (List UInt8)):=match f j n with
 | .bad a e=> .bad a e
 | .ok v i' n'=>kidsR f s d fuel i' n' (kids++[v]) keys
def LpJ (s:List UInt8) (r:Nat) (H:AHeap) (d:Bool) (f:Nat→Nat→Rr BV) (Rk:Rr (List BV×List (List UInt8))) (env:List (Nat×Value)) (p m fuel:Nat) (kids:List BV) (vk:Value) (css:List (List Value)) (jk:Nat) (st:ASt):Prop:=
 ∃j keys vs js Hc,VSt s r H d j m kids keys vk vs css jk js Hc∧p≤j∧j≤s.length∧keys.length≤j+1∧tailR f s d fuel j m kids keys=Rk∧st=⟨env,[],Hc⟩
theorem valueC (s:List UInt8) (hs:s.length≤65536) (lv':Nat) (hlv:lv'+1≤12) (ih:∀(r i n:Nat) (H:AHeap),i≤s.length→n≤1000→H[r]? =some (rdO s i n)→AC Tryz.prog 70 [.pointer (some ⟨r,0,none⟩),.int .i64 (lv':Nat)] H (ValP s r H (valR s lv' i n)))
  (r i n:Nat) (hi:i≤s.length) (H:AHeap) (hr:H[r]? =some (rdO s i n)) (c:UInt8) (hc:s[i]? =some c) (hb:begins c=true) (hn:n+1≤1000) (hdg:dig c=false) (h105:c≠105):
  AC Tryz.prog 70 [.pointer (some ⟨r,0,none⟩),.int .i64 (lv'+1:Nat)] H (ValP s r H (restR (valR s lv') s c i (n+1))):=by
 have hrl:=lt_of_get hr
 have hlt:=(List.getElem?_eq_some_iff.1 hc).1
 obtain ⟨H1,hH1⟩:∃H1:AHeap,H1=H++ [.cells [.int .i64 0,.int .i64 0,.string (bs []),.slice none 0 0,.slice none 0 0] ⟨27,0,true,0,none⟩]:=⟨_,rfl⟩
 have hr1:H1[r]? =some (rdO s i n):=by rw [hH1,hgetl hrl];exact hr
 have hrl1:=lt_of_get hr1
 have hl1:H1.length=H.length+1:=by rw [hH1];simp
 have hb1:H1[H.length]? =some (.cells [.int .i64 0,.int .i64 0,.string (bs []),.slice none 0 0,.slice none 0 0] ⟨27,0,true,0,none⟩):=by rw [hH1,hget0 rfl];rfl
 have hN:=nowOk s r i n c hs hc _ hr1
 have hD:=digit c
 rw [hdg] at hD
 have e105:((c.toNat:Int) != 105)=true:=by
  have:((c.toNat:Int) != 105)= !(c==105):=congrArg (!·) (u8b (n:=105) rfl)
  rw [this];simpa using h105
 have e105':((c.toNat:Int)==105)=false:=by
  have:((c.toNat:Int)==105)=(c==105):=u8b (n:=105) rfl
  rw [this];simpa using h105
 have e108:((c.toNat:Int) != 108)= !(c==108):=congrArg (!·) (u8b (n:=108) rfl)
 have e100:((c.toNat:Int) != 100)= !(c==100):=congrArg (!·) (u8b (n:=100) rfl)
 have e100':((c.toNat:Int)==100)=(c==100):=u8b (n:=100) rfl
 have hcase:c=108∨(c≠108∧c=100):=by
  by_cases k2:c=108
  ·exact .inl k2
  ·by_cases k3:c=100
   ·exact .inr ⟨k2,k3⟩
   ·unfold begins at hb
    simp [h105,k2,k3,hdg] at hb
 obtain ⟨d,hd⟩:∃d,(c==100)=d:=⟨_,rfl⟩
 rw [hd] at e100'
 have hdk:(if c=100 then (4:Int) else 3)=if d then 4 else 3:=by
  by_cases k:c=100
  ·rw [if_pos k,←hd,k];rfl
  ·rw [if_neg k,←hd,show (c==100)=false by simpa using k];rfl
 have hwn:IntKind.i64.wrap ((n:Int)+1)=((n+1:Nat):Int):=by rw [wi64 (by omega)];omega
 have hwi:IntKind.i64.wrap ((i:Int)+1)=((i+1:Nat):Int):=by rw [wi64 (by omega)];omega
 have hl1':¬((n+1:Nat):Int)>1000:=by omega
 have hl2':¬((lv'+1:Nat):Int)<1:=by omega
 have hwl:IntKind.i64.wrap (((lv'+1:Nat):Int) - 1)=(lv':Int):=by rw [wi64 (by omega)];omega
 obtain ⟨Rk,hRk⟩:∃Rk,kidsR (valR s lv') s d (s.length+1) (i+1) (n+1) [] []=Rk:=⟨_,rfl⟩
 have hRb:∀a e,Rk= .bad a e→restR (valR s lv') s c i (n+1)= .bad a e:=fun a e h=>by
  unfold restR;rw [if_neg (by rw [hdg];decide),if_neg h105,hd,hRk,h]
 have hRo:∀kk j n',Rk= .ok kk j n'→restR (valR s lv') s c i (n+1)= .ok (.mk (if d then 4 else 3) 0 [] kk.1 kk.2) j n':=fun kk j n' h=>by
  unfold restR;rw [if_neg (by rw [hdg];decide),if_neg h105,hd,hRk,h,hdk]
 have hr10:=hr1
 unfold rdO at hr10
 have hI0:LpI s r H d (valR s lv') Rk ⟨i+1,n+1,[],[],.slice none 0 0,.slice none 0 0,[],0,0,H1.set r (rdO s (i+1) (n+1))++[vbox d (.slice none 0 0) (.slice none 0 0)]⟩:=by
  refine ⟨⟨?_,?_,?_,?_,.inl ⟨rfl,rfl⟩,by unfold RdL;rfl,.inl ⟨rfl,rfl⟩,fun h=>absurd rfl h,fun h=>absurd rfl h⟩,by dsimp only;omega,hn,Nat.zero_le _,Nat.zero_le _,s.length+1,by dsimp only;omega,hRk⟩
  ·rw [hH1]
   exact (Frm.set (Frm.app (S:=[r]) (H:=H)) (.inl (by simp))).trans (Frm.app (S:=[r])) (fun x hx=> .inl hx)
  ·rw [hgetl (by rw [List.length_set];exact hrl1)];exact hsets hrl1 _
  ·rw [hgetl (by rw [List.length_set];omega),List.getElem?_set_ne (by omega)];exact hb1
  ·rw [hget0 (by rw [List.length_set,hl1])];rfl
 refine AC.enter Tryz.func70 rfl (by kernel_rfl) 131 rfl [.cell 4 27] rfl (by simp) fun hsc B=> ?_
 repeat first|with_reducible refine kc ?_|((with_reducible first|refine kr ?_ ?_|refine kt ?_ ?_);exact rfl)|((with_reducible refine kf ?_ ?_);exact rfl)|simp only [go_sem,sevalprocAttr,reduceCtorEq]|simp (disch:=omega) only [wz]
 rw [← hH1]
 repeat first|with_reducible refine AWP.seqJ (x:= .seq (.region 2 _ _) _) ⟨[(0,.pointer (some ⟨r,0,none⟩)),(1,.int .i64 (lv'+1:Nat)),(4,.pointer (some ⟨H.length,0,none⟩)),(5,.int .u8 c.toNat)],[],H1⟩ ?_ ?_|with_reducible refine kc ?_|((with_reducible first|refine kr ?_ ?_|refine kt ?_ ?_);exact rfl)|((with_reducible refine kf ?_ ?_);exact rfl)|with_reducible refine hN.use ?_|simp only [go_sem,sevalprocAttr,reduceCtorEq]|simp (disch:=omega) only [wz]
 ·rcases hcase with k2|⟨k2,k3⟩
  ·rw [show (c==108)=true by rw [k2];rfl] at e108
   repeat first|with_reducible refine kc ?_|((with_reducible first|refine kr ?_ ?_|refine kt ?_ ?_);exact rfl)|((with_reducible refine kf ?_ ?_);exact rfl)|simp only [go_sem,sevalprocAttr,reduceCtorEq,e105,e108,Bool.not_false,Bool.not_true]|simp (disch:=omega) only [wz]
   exact Weak.env (by simp [envIn,lk_cons,wth_some])
  ·rw [show (c==108)=false by simpa using k2] at e108
   rw [show (c==100)=true by rw [k3];rfl] at e100
   repeat first|with_reducible refine kc ?_|((with_reducible first|refine kr ?_ ?_|refine kt ?_ ?_);exact rfl)|((with_reducible refine kf ?_ ?_);exact rfl)|simp only [go_sem,sevalprocAttr,reduceCtorEq,e105,e108,e100,Bool.not_false,Bool.not_true]|simp (disch:=omega) only [wz]
   exact Weak.env (by simp [envIn,lk_cons,wth_some])
 repeat first|with_reducible refine AWP.seqJ (x:= .seq (.region 13 _ _) _) ⟨[(0,.pointer (some ⟨r,0,none⟩)),(1,.int .i64 (lv'+1:Nat)),(4,.pointer (some ⟨H.length,0,none⟩)),(5,.int .u8 c.toNat),(6,.pointer (some ⟨H1.length,0,none⟩))],[],H1.set r (rdO s (i+1) (n+1))++[vbox d (.slice none 0 0) (.slice none 0 0)]⟩ ?_ ?_|with_reducible refine kc ?_|((with_reducible first|refine kr ?_ ?_|refine kt ?_ ?_);exact rfl)|((with_reducible refine kf ?_ ?_);exact rfl)|with_reducible refine (hD _).use ?_|simp only [go_sem,sevalprocAttr,reduceCtorEq,hr10,hrl1,hwn,hl1',hl2',hwi,e105',hsets,List.length_set,List.set_set,List.set_cons_succ,List.set_cons_zero]|simp (disch:=omega) only [wz]
 ·unfold vbox rdO
  have g1:∀x o:AObj,(H1.set r x++[o])[H1.length]? =some o:=fun x o=>by rw [hget0 (by rw [List.length_set])];rfl
  have g2:∀x o o':AObj,(H1.set r x++[o]).set H1.length o'=H1.set r x++[o']:=fun x o o'=>by rw [hset0 (by rw [List.length_set])];rfl
  cases d with
  |true=>
   repeat first|with_reducible refine kc ?_|((with_reducible first|refine kr ?_ ?_|refine kt ?_ ?_);exact rfl)|((with_reducible refine kf ?_ ?_);exact rfl)|simp only [go_sem,sevalprocAttr,reduceCtorEq,e100',g1,g2,List.set_cons_succ,List.set_cons_zero]|simp (disch:=omega) only [wz]
   exact Weak.env (by simp [envIn,lk_cons,wth_some])
  |false=>
   repeat first|with_reducible refine kc ?_|((with_reducible first|refine kr ?_ ?_|refine kt ?_ ?_);exact rfl)|((with_reducible refine kf ?_ ?_);exact rfl)|simp only [go_sem,sevalprocAttr,reduceCtorEq,e100']|simp (disch:=omega) only [wz]
   exact Weak.env (by simp [envIn,lk_cons,wth_some])
 rw [hl1]
 repeat first|with_reducible refine kc ?_|((with_reducible first|refine kr ?_ ?_|refine kt ?_ ?_);exact rfl)|((with_reducible refine kf ?_ ?_);exact rfl)|simp only [go_sem,sevalprocAttr,reduceCtorEq]|simp (disch:=omega) only [wz]
 refine AWP.loopP (fun p:Lp=>⟨[(0,.pointer (some ⟨r,0,none⟩)),(1,.int .i64 (lv'+1:Nat)),(4,.pointer (some ⟨H.length,0,none⟩)),(5,.int .u8 c.toNat),(6,.pointer (some ⟨H.length+1,0,none⟩))],[],p.Hc⟩)
  (LpI s r H d (valR s lv') Rk) (fun p=>s.length - p.i) _ ?_ hI0 ?_
 ·exact Weak.env (by simp [envIn,lk_cons,wth_some])
 rintro ⟨p,m,kids,keys,vk,vs,css,jk,js,Hc⟩ ⟨hV,hp,hm,hkl,hsl,fuel,hfu,hK⟩
 dsimp only at hV hp hm hkl hsl hfu hK ⊢
 obtain ⟨fuel,rfl⟩:∃k,fuel=k+1:=⟨fuel - 1,by omega⟩
 have hrd0:=hV.rd
 unfold rdO at hrd0
 have hrlc:=lt_of_get hV.rd
 unfold kidsR at hK
 cases hcp:s[p]? with
 | none=>
  have hle:s.length≤p:=by
   rcases Nat.lt_or_ge p s.length with h|h
   ·rw [List.getElem?_eq_getElem h] at hcp;cases hcp
   ·exact h
  have hNe:=nowEnd s r p m hs hle _ hV.rd
  rw [hcp] at hK
  have hT:=hRb _ _ hK.symm
  rw [hT]
  repeat first|with_reducible refine kc ?_|((with_reducible first|refine kr ?_ ?_|refine kt ?_ ?_);exact rfl)|((with_reducible refine kf ?_ ?_);exact rfl)|with_reducible refine hNe.use ?_|simp only [go_sem,sevalprocAttr,reduceCtorEq]|simp (disch:=omega) only [wz]
  exact ⟨_,_,.refl _ _ _,rfl,hV.frm⟩
 | some c1=>
  have hlt1:=(List.getElem?_eq_some_iff.1 hcp).1
  have hN1:=nowOk s r p m c1 hs hcp _ hV.rd
  rw [hcp] at hK
  simp only at hK
  have e101:((c1.toNat:Int) != 101)= !(c1==101):=congrArg (!·) (u8b (n:=101) rfl)
  by_cases hE:c1=101
  ·rw [if_pos hE] at hK
   have hT:=hRo _ _ _ hK.symm
   rw [hT]
   rw [show (c1==101)=true by rw [hE];rfl] at e101
   have hwp:IntKind.i64.wrap ((p:Int)+1)=((p+1:Nat):Int):=by rw [wi64 (by omega)];omega
   obtain ⟨H2,hW2,hR2,hln2,hg2,hk2⟩:=hV.ok.freeze hV.rl.all5
   have hos2:OwnR H2 9 1 (keyC keys) vs js:=hV.os.keep fun hne=>hg2 _ fun hne'=>Ne.symm (hV.ne hne' hne)
   obtain ⟨H3,hW3,hR3,hln3,hg3,hk3⟩:=hos2.freeze (fun x hx=>by
    obtain ⟨y,_,rfl⟩:=List.mem_map.1 hx;rfl)
   have get:∀x,(css≠[]→x≠jk)→(keyC keys≠[]→x≠js)→H3[x]? =Hc[x]? :=fun x h1 h2=>(hg3 x h2).trans (hg2 x h1)
   have hnj:∀x,x<H.length+2→H3[x]? =Hc[x]? :=fun x hx=>get x (fun h=>by have:=hV.jkl h;omega) (fun h=>by have:=hV.jsl h;omega)
   have hf3:Frm [r] H H3:=⟨by rw [hln3,hln2];exact hV.frm.1,fun j hj hne=>by rw [hnj j (by omega)];exact hV.frm.2 j hj hne⟩
   have hrd3:H3[r]? =some (rdO s p m):=by rw [hnj r (by omega)];exact hV.rd
   have hrd30:=hrd3
   unfold rdO at hrd30
   have hres3:=hnj H.length (by omega)
   rw [hV.res] at hres3
   have hbox3:=hnj (H.length+1) (by omega)
   rw [hV.box] at hbox3
   unfold vbox at hbox3
   have hrl3:=lt_of_get hrd3
   have hal3:=lt_of_get hres3
   have hfl1:=hV.ok.flat
   have hfl2:=hV.os.flat
   refine AWP.weak ((hW2 _ _ _).trans (hW3 _ _ _)) ?_
   have hN3:=nowOk s r p m c1 hs hcp _ hrd3
   have gb:∀o:AObj,(H3.set r o)[H.length+1]? =some (.cells [.int .i64 (if d then 4 else 3),.int .i64 0,.string (bs []),vk,vs] ⟨27,0,true,0,none⟩):=fun o=>by rw [List.getElem?_set_ne (by omega)];exact hbox3
   have ga:∀o:AObj,(H3.set r o)[H.length]? =some (.cells [.int .i64 0,.int .i64 0,.string (bs []),.slice none 0 0,.slice none 0 0] ⟨27,0,true,0,none⟩):=fun o=>by rw [List.getElem?_set_ne (by omega)];exact hres3
   repeat first|with_reducible refine kc ?_|((with_reducible first|refine kr ?_ ?_|refine kt ?_ ?_);exact rfl)|((with_reducible refine kf ?_ ?_);exact rfl)|with_reducible refine hN3.use ?_|simp only [go_sem,sevalprocAttr,reduceCtorEq,e101,Bool.not_true,hrd30,gb,ga,hwp,hsets,hfl1,hfl2,hrl3,hal3,List.length_set,List.set_cons_succ,List.set_cons_zero]|simp (disch:=omega) only [wz]
   refine ⟨Bool.and_eq_true_iff.2 ⟨hfl1,hfl2⟩,?_⟩
   repeat first|with_reducible refine kc ?_|((with_reducible first|refine kr ?_ ?_|refine kt ?_ ?_);exact rfl)|((with_reducible refine kf ?_ ?_);exact rfl)|simp only [go_sem,sevalprocAttr,reduceCtorEq,ga,hal3,hrl3,List.length_set]|simp (disch:=omega) only [wz]
   have hkk:Kept Hc H3:=hk2.trans hk3
   have hk4:Kept H3 ((H3.set r (rdO s (p+1) m)).set H.length (.cells [.int .i64 (if d then 4 else 3),.int .i64 0,.string (bs []),vk,vs] ⟨27,0,true,0,none⟩)):=Kept.trans (Kept.set hrd3 rfl _) (Kept.set (ga _) rfl _)
   refine ⟨_,_,.refl _ _ _,_,rfl,?_,?_,?_⟩
   ·exact Frm.set (Frm.set hf3 (.inl (by simp))) (.inr (by omega))
   ·rw [List.getElem?_set_ne (by omega),List.getElem?_set_self hrl3];rfl
   ·unfold RdV
    exact ⟨vk,vs,css,rfl,(hR2.kept hk3).kept hk4,(hV.rl.kept hkk).kept hk4,hR3.kept hk4⟩
  ·rw [if_neg hE] at hK
   rw [show (c1==101)=false by simpa using hE] at e101
   repeat first|with_reducible refine AWP.seqE (x:= .seq (.region 16 _ _) _) (LpJ s r H d (valR s lv') Rk [(0,.pointer (some ⟨r,0,none⟩)),(1,.int .i64 (lv'+1:Nat)),(4,.pointer (some ⟨H.length,0,none⟩)),(5,.int .u8 c.toNat),(6,.pointer (some ⟨H.length+1,0,none⟩))] p m fuel kids vk css jk) ?_ ?_|with_reducible refine kc ?_|((with_reducible first|refine kr ?_ ?_|refine kt ?_ ?_);exact rfl)|((with_reducible refine kf ?_ ?_);exact rfl)|with_reducible refine hN1.use ?_|simp only [go_sem,sevalprocAttr,reduceCtorEq,e101,Bool.not_true,Bool.not_false]|simp (disch:=omega) only [wz]
   ·have hdt:d=false∨d=true:=by cases d<;> simp
    rcases hdt with hdt|hdt
    ·rw [if_neg (by rw [hdt];decide)] at hK
     rw [hdt] at e100'
     repeat first|with_reducible refine kc ?_|((with_reducible first|refine kr ?_ ?_|refine kt ?_ ?_);exact rfl)|((with_reducible refine kf ?_ ?_);exact rfl)|simp only [go_sem,sevalprocAttr,reduceCtorEq,e100']|simp (disch:=omega) only [wz]
     exact ⟨_,⟨p,keys,vs,js,Hc,hV,Nat.le_refl _,hp,by omega,hK,rfl⟩,Weak.env (by simp [envIn,lk_cons,wth_some])⟩
    ·rw [if_pos hdt] at hK
     rw [hdt] at e100'
     have hD1:=digit c1
     have hX:=text s r p m hs hp Hc hV.rd
     by_cases hdc:dig c1=false
     ·rw [if_pos hdc] at hK
      rw [hdc] at hD1
      rw [hRb _ _ hK.symm]
      have hF:=fail p 2 Hc
      repeat first|with_reducible refine kc ?_|((with_reducible first|refine kr ?_ ?_|refine kt ?_ ?_);exact rfl)|((with_reducible refine kf ?_ ?_);exact rfl)|with_reducible (first|refine hN1.use ?_|refine (hD1 _).use ?_|refine hF.use ?_)|simp only [go_sem,sevalprocAttr,reduceCtorEq,e100',hrd0,Bool.not_true,Bool.not_false]|simp (disch:=omega) only [wz]
      exact ⟨_,_,.refl _ _ _,rfl,hV.frm⟩
     ·rw [if_neg hdc] at hK
      rw [show dig c1=true by simpa using hdc] at hD1
      repeat first|with_reducible refine kc ?_|((with_reducible first|refine kr ?_ ?_|refine kt ?_ ?_);exact rfl)|((with_reducible refine kf ?_ ?_);exact rfl)|with_reducible (first|refine hN1.use ?_|refine (hD1 _).use ?_)|simp only [go_sem,sevalprocAttr,reduceCtorEq,e100',hrd0,Bool.not_true,Bool.not_false]|simp (disch:=omega) only [wz]
      refine AC.mono hX ?_
      intro res H4 hP
      cases ht:textR s p with
      |bad a e=>
       rw [ht] at hP hK
       obtain ⟨rfl,q,rfl⟩:=hP
       rw [hRb _ _ hK.symm]
       repeat first|with_reducible refine kc ?_|((with_reducible first|refine kr ?_ ?_|refine kt ?_ ?_);exact rfl)|((with_reducible refine kf ?_ ?_);exact rfl)|simp only [go_sem,sevalprocAttr,reduceCtorEq]|simp (disch:=omega) only [wz]
       exact ⟨_,_,.refl _ _ _,rfl,Frm.set hV.frm (.inl (by simp))⟩
      | ok k j n0=>
       rw [ht] at hP hK
       obtain ⟨rfl,rfl⟩:=hP
       have htx:=textR_ok hp ht
       have hV2:=hV.setR hrl j m
       have hbox2:=hV2.box
       unfold vbox at hbox2
       have q1:∀H' K,lenW Tryz.prog 22 vs H' K=K (.int .i64 ((keyC keys).length:Nat)) H':=fun H' K=>by rw [hV2.os.lenT (by simp only [go_sem,sevalprocAttr,reduceCtorEq])]
       rcases List.eq_nil_or_concat keys with rfl|⟨ini,la,hcon⟩
       ·dsimp only at hK
        rw [if_neg (show ¬behind [] k=false from fun h=>by cases h)] at hK
        repeat first|with_reducible refine kc ?_|((with_reducible first|refine kr ?_ ?_|refine kt ?_ ?_);exact rfl)|((with_reducible refine kf ?_ ?_);exact rfl)|simp only [go_sem,sevalprocAttr,reduceCtorEq,hbox2,q1,keyC,List.map_nil,List.length_nil,Int.lt_irrefl]|simp (disch:=omega) only [wz]
        have hV3:=hV2.more hrl [.cells [.string (bs k)] ⟨9,0,true,0,none⟩]
        have hV4:=hV3.addKey hrl k
        have hbl3:=lt_of_get hV3.box
        have hbox3:=hV3.box
        unfold vbox at hbox3
        have hkl:(keyC ([]:List (List UInt8))).length=([]:List (List UInt8)).length:=by unfold keyC;simp
        have hbox4:∀X:AHeap,(grown (Hc.set r (rdO s j m)++ [.cells [.string (bs k)] ⟨9,0,true,0,none⟩]) (keyC ([]:List (List UInt8))) js++X)[H.length+1]? =some (.cells [.int .i64 (if d then 4 else 3),.int .i64 0,.string (bs []),vk,vs] ⟨27,0,true,0,none⟩):=fun X=>by
         rw [grown_get hbl3 (fun hne=>by have:=hV3.jsl hne;omega)]
         exact hbox3
        simp only [List.length_append,List.length_cons,List.length_nil,Nat.zero_add,List.length_set] at hV4
        have hm1:∀x∈keyC ([]:List (List UInt8)),x.length=1:=fun x hx=>by
         obtain ⟨y,_,rfl⟩:=List.mem_map.1 hx;rfl
        have hsl2:([]:List (List UInt8)).length≤p:=hsl
        refine appendTo_R hV3.os (by decide) hm1 (by omega) (by omega) ?_
        repeat first|with_reducible refine kc ?_|((with_reducible first|refine kr ?_ ?_|refine kt ?_ ?_);exact rfl)|((with_reducible refine kf ?_ ?_);exact rfl)|simp only [go_sem,sevalprocAttr,reduceCtorEq,hbox4]|simp (disch:=omega) only [wz]
        exact ⟨_,⟨j,([]:List (List UInt8))++[k],_,_,_,hV4,by omega,htx.2.1,by simp only [List.length_append,List.length_cons,List.length_nil] at hsl2 ⊢;omega,by unfold tailR;exact hK,rfl⟩,Weak.env (by simp [envIn,lk_cons,wth_some])⟩
       ·rw [List.concat_eq_append] at hcon
        subst hcon
        have hkl0:(keyC (ini++[la])).length=ini.length+1:=by unfold keyC;simp
        have hflt:(keyC (ini++[la])).flatten=ini.map (fun x=>Value.string (bs x))++ [.string (bs la)]:=by
         rw [keyC_flat,List.map_append];rfl
        obtain ⟨rfl,hkey⟩:vs= .slice (some ⟨js,0,none⟩) (ini.length+1) (ini.length+1)∧(Hc.set r (rdO s j m))[js]? =some (.cells (ini.map (fun x=>Value.string (bs x))++ [.string (bs la)]) ⟨9,1,true,0,none⟩):=by
         rcases hV2.os with ⟨h,_⟩|⟨_,h,h3⟩
         ·rw [h] at hkl0;simp at hkl0
         ·rw [hkl0] at h
          rw [hflt] at h3
          exact ⟨h,h3⟩
        have hgt:((ini.length+1:Nat):Int)>0:=by omega
        have hle1:ini.length+1≤s.length+1:=by rw [List.length_append] at hsl;simp at hsl;omega
        have hwk:IntKind.i64.wrap (((ini.length+1:Nat):Int) - 1)=(ini.length:Int):=by rw [wi64 (by omega)];omega
        have hz0:(0:Int)≤(ini.length:Int):=by omega
        have hz1:(ini.length:Int)<((ini.length+1:Nat):Int):=by omega
        have hat:(ini.map (fun x=>Value.string (bs x))++ [.string (bs la)])[ini.length]? =some (.string (bs la)):=by simp
        have hbeh:behind (ini++[la]) k=Op.bytesLess la k:=by unfold behind;simp
        dsimp only at hK
        rw [hbeh] at hK
        cases hle:Op.bytesLess la k with
        |false=>
         rw [if_pos hle] at hK
         rw [hRb _ _ hK.symm]
         have hF:=fail p 2 (Hc.set r (rdO s j m))
         repeat first|with_reducible refine kc ?_|((with_reducible first|refine kr ?_ ?_|refine kt ?_ ?_);exact rfl)|((with_reducible refine kf ?_ ?_);exact rfl)|with_reducible refine hF.use ?_|simp only [go_sem,sevalprocAttr,reduceCtorEq,hbox2,q1,hkl0,hgt,hkey,hle,hwk,hz0,hz1,hat,Bool.not_false,Bool.not_true]|simp (disch:=omega) only [wz]
         exact ⟨_,_,.refl _ _ _,rfl,hV2.frm⟩
        | true=>
         rw [if_neg (by rw [hle];decide)] at hK
         repeat first|with_reducible refine kc ?_|((with_reducible first|refine kr ?_ ?_|refine kt ?_ ?_);exact rfl)|((with_reducible refine kf ?_ ?_);exact rfl)|simp only [go_sem,sevalprocAttr,reduceCtorEq,hbox2,q1,hkl0,hgt,hkey,hle,hwk,hz0,hz1,hat,Bool.not_false,Bool.not_true]|simp (disch:=omega) only [wz]
         have hV3:=hV2.more hrl [.cells [.string (bs k)] ⟨9,0,true,0,none⟩]
         have hV4:=hV3.addKey hrl k
         have hbl3:=lt_of_get hV3.box
         have hbox3:=hV3.box
         unfold vbox at hbox3
         have hkl:(keyC (ini++[la])).length=(ini++[la]).length:=by unfold keyC;simp
         have hbox4:∀X:AHeap,(grown (Hc.set r (rdO s j m)++ [.cells [.string (bs k)] ⟨9,0,true,0,none⟩]) (keyC (ini++[la])) js++X)[H.length+1]? =some (.cells [.int .i64 (if d then 4 else 3),.int .i64 0,.string (bs []),vk,.slice (some ⟨js,0,none⟩) (ini.length+1) (ini.length+1)] ⟨27,0,true,0,none⟩):=fun X=>by
          rw [grown_get hbl3 (fun hne=>by have:=hV3.jsl hne;omega)]
          exact hbox3
         simp only [List.length_append,List.length_cons,List.length_nil,Nat.zero_add,List.length_set] at hV4
         have hm1:∀x∈keyC (ini++[la]),x.length=1:=fun x hx=>by
          obtain ⟨y,_,rfl⟩:=List.mem_map.1 hx;rfl
         have hsl2:(ini++[la]).length≤p:=hsl
         refine appendTo_R hV3.os (by decide) hm1 (by omega) (by omega) ?_
         repeat first|with_reducible refine kc ?_|((with_reducible first|refine kr ?_ ?_|refine kt ?_ ?_);exact rfl)|((with_reducible refine kf ?_ ?_);exact rfl)|simp only [go_sem,sevalprocAttr,reduceCtorEq,hbox4]|simp (disch:=omega) only [wz]
         exact ⟨_,⟨j,(ini++[la])++[k],_,_,_,hV4,by omega,htx.2.1,by simp only [List.length_append,List.length_cons,List.length_nil] at hsl2 ⊢;omega,by unfold tailR;exact hK,rfl⟩,Weak.env (by simp [envIn,lk_cons,wth_some])⟩
   ·rintro st2 ⟨j,keys2,vs2,js2,Hc2,hV2,hj1,hj2,hj3,hT,rfl⟩
    have hrlt:r<H.length:=hrl
    have hih:=ih r j m Hc2 hj2 hm hV2.rd
    have hbox2:=hV2.box
    unfold vbox at hbox2
    refine AWP.regionMP 7 [1,5,6] [] (.both (.run [1,5,6]) (.step 5 (.both (.run [1,6]) (.run [6,1])))) (by kernel_rfl) (by decide) (by kernel_rfl) (by kernel_rfl) (by kernel_rfl) ?_
    repeat' first|with_reducible refine canW_n ?_|with_reducible refine canW_m (by decide) ?_|((with_reducible apply canW_p (by decide));focus (intro H;(simp only [go_sem,sevalprocAttr,reduceCtorEq,hbox2,hwl,List.map_cons,List.map_nil]);exact rfl))|with_reducible refine memW_bP ?_ ?_|with_reducible refine memW_sP rfl ?_|with_reducible refine memW_rP rfl ?_|with_reducible refine memW_eP ?_|simp only [List.take_succ_cons,List.take_zero,List.drop_succ_cons,List.drop_zero]|omega|with_reducible refine And.intro ?_ ?_|with_reducible refine kc ?_|((with_reducible first|refine kr ?_ ?_|refine kt ?_ ?_);exact rfl)|((with_reducible refine kf ?_ ?_);exact rfl)|simp only [go_sem,sevalprocAttr,reduceCtorEq,hbox2,hwl,List.map_cons,List.map_nil]|simp (disch:=omega) only [wz]
    all_goals
     refine AC.mono hih ?_
     intro res H3 hP
     unfold tailR at hT
    all_goals
     cases hvr:valR s lv' j m with
     |bad a e=>
      rw [hvr] at hP hT
      obtain ⟨rfl,hf⟩:=hP
      rw [hRb _ _ hT.symm]
      repeat first|with_reducible refine kc ?_|((with_reducible first|refine kr ?_ ?_|refine kt ?_ ?_);exact rfl)|((with_reducible refine kf ?_ ?_);exact rfl)|simp only [go_sem,sevalprocAttr,reduceCtorEq]|simp (disch:=omega) only [wz]
      exact ⟨_,_,.refl _ _ _,rfl,hV2.frm.trans hf (fun x hx=> .inl hx)⟩
     | ok v i' n'=>
      rw [hvr] at hP hT
      obtain ⟨cs,rfl,hf,hrd,hRd⟩:=hP
      have hgo:=(valR_goes s lv').ok j m v i' n' hj2 hvr
      have hV3:=hV2.call hrlt hf hrd
      have hbox3:=hV3.box
      unfold vbox at hbox3
      have hc5:=hRd.len
      have hput:putCells [.int .i64 0,.int .i64 0,.string (bs []),.slice none 0 0,.slice none 0 0] 0 cs=cs:=by
       match cs,hc5 with
       |[_,_,_,_,_],_=>rfl
      have htk:List.take 5 cs=cs:=List.take_of_length_le (by omega)
      have hfl:=RdV_flat hRd
      have hV4:=hV3.more hrlt [.cells cs ⟨27,0,true,0,none⟩]
      have hcss:=hV4.rl.len
      have hbl4:=lt_of_get hV4.box
      have hV5:=hV4.addKid hrlt (hRd.kept (Kept.more _ _))
      simp only [List.length_append,List.length_cons,List.length_nil,Nat.zero_add] at hV5
      have hbox5:=hV4.box
      unfold vbox at hbox5
      have hbox4:∀X:AHeap,(grown (H3++ [.cells cs ⟨27,0,true,0,none⟩]) css jk++X)[H.length+1]? =some (.cells [.int .i64 (if d then 4 else 3),.int .i64 0,.string (bs []),vk,vs2] ⟨27,0,true,0,none⟩):=fun X=>by
       rw [grown_get hbl4 (fun hne=>by have:=hV4.jkl hne;omega)]
       exact hbox5
      repeat' first|with_reducible refine canW_n ?_|with_reducible refine canW_m (by decide) ?_|((with_reducible apply canW_p (by decide));focus (intro H;(simp only [go_sem,sevalprocAttr,reduceCtorEq,hbox3,hbox5,hc5,hput,htk,hfl,List.map_cons,List.map_nil]);exact rfl))|with_reducible refine memW_bP ?_ ?_|with_reducible refine memW_sP rfl ?_|with_reducible refine memW_rP rfl ?_|with_reducible refine memW_eP ?_|simp only [List.take_succ_cons,List.take_zero,List.drop_succ_cons,List.drop_zero]|omega|with_reducible refine And.intro ?_ ?_|with_reducible refine kc ?_|((with_reducible first|refine kr ?_ ?_|refine kt ?_ ?_);exact rfl)|((with_reducible refine kf ?_ ?_);exact rfl)|simp only [go_sem,sevalprocAttr,reduceCtorEq,hbox3,hbox5,hc5,hput,htk,hfl,List.map_cons,List.map_nil]|simp (disch:=omega) only [wz]
      all_goals
       refine appendTo_R hV4.ok (by decide) hV4.rl.all5 (by omega) (by omega) ?_
       repeat first|with_reducible refine kc ?_|((with_reducible first|refine kr ?_ ?_|refine kt ?_ ?_);exact rfl)|((with_reducible refine kf ?_ ?_);exact rfl)|simp only [go_sem,sevalprocAttr,reduceCtorEq,hbox4]|simp (disch:=omega) only [wz]
       exact ⟨⟨i',n',kids++[v],keys2,_,vs2,css++[cs],_,js2,_⟩,Weak.env (by simp [envIn,lk_cons,wth_some]),⟨hV5,hgo.2.1,hgo.2.2.2,by simp;omega,by dsimp only;omega,fuel,by dsimp only;omega,hT⟩,by dsimp only;omega⟩
end Go.Proofs.YthcdjconlfdidaaGreatDoor
