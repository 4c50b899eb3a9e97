/-
  A part of the proof of a statement of this seat.
-/
import Derived.Test.YthcdjconlfdidaaGreatDoorCCM
import Derived.Test.YthcdjconlfdidaaGreatDoorAwB
import Derived.Test.YthcdjconlfdidaaGreatDoorTBM
set_option linter.unusedVariables false
set_option linter.unusedSimpArgs false
namespace Go.Aw
open Go.Lib BV
structure Cut {α :Type} (s:List UInt8) (i:Nat) (f:List UInt8→Rr α) (d:Nat):Prop where
 cut:∀m,i≤m→m≤s.length→f (s.take m)=if d≤m then f s else .bad m 2
 ok:∀v j n,f s= .ok v j n→d=j
 bad:∀a e,f s= .bad a e→a+1≤d
theorem drop_take' (s:List UInt8) (i m:Nat):(s.take m).drop i=(s.drop i).take (m - i):=by rw [List.drop_take]
theorem Cut.seq {α β:Type} {s:List UInt8} {i d:Nat} {f:List UInt8→Rr α} {g:List UInt8→Rr β} {v:α} {j n:Nat} (hf:Cut s i f d) (he:f s= .ok v j n) (hij:i≤j) {h:List UInt8→Rr β}
  (hb:∀t m,f t= .bad m 2→h t= .bad m 2) (hh:∀t,f t= .ok v j n→h t=g t) (hg:∃d,Cut s j g d) (hgok:∀w j' n',g s= .ok w j' n'→j≤j') (hgbad:∀a e,g s= .bad a e→j≤a+1):∃d,Cut s i h d:=by
 obtain ⟨d2,hg⟩:=hg
 have hd:=hf.ok _ _ _ he
 have hd2:j≤d2:=by
  cases hgs:g s with
  |ok w j' n'=>rw [hg.ok _ _ _ hgs];exact hgok _ _ _ hgs
  |bad a e=>
   have:=hg.bad _ _ hgs
   have:=hgbad _ _ hgs
   omega
 refine ⟨d2,fun m h1 h2=> ?_,fun w j' n' h'=>hg.ok w j' n' (by rw [← hh s he];exact h'),fun a e h'=>hg.bad a e (by rw [← hh s he];exact h')⟩
 have hc:=hf.cut m h1 h2
 by_cases hm:d≤m
 ·rw [if_pos hm] at hc
  rw [hh _ (hc.trans he),hh s he]
  exact hg.cut m (by omega) h2
 ·rw [if_neg hm] at hc
  rw [hb _ _ hc,if_neg (by omega)]
theorem Cut.fail {α β:Type} {s:List UInt8} {i d:Nat} {f:List UInt8→Rr α} {a:Nat} {e:Int} (hf:Cut s i f d) (he:f s= .bad a e) {h:List UInt8→Rr β} (hb:∀t m e,f t= .bad m e→h t= .bad m e):∃d,Cut s i h d:=
 ⟨d,fun m h1 h2=>by
  have hc:=hf.cut m h1 h2
  rw [hb s a e he]
  by_cases hm:d≤m
  ·rw [if_pos hm] at hc ⊢;exact hb _ _ _ (hc.trans he)
  ·rw [if_neg hm] at hc ⊢;exact hb _ _ _ hc,(fun v j n h'=>by rw [hb s a e he] at h';cases h'),(fun a' e' h'=>by rw [hb s a e he] at h';cases h';exact hf.bad _ _ he)⟩
end Go.Aw

set_option linter.unusedVariables false
set_option linter.unusedSimpArgs false
namespace Go.Aw
def keyC (ks:List (List UInt8)):List (List Value):=ks.map fun s=> [.string (bs s)]
theorem keyC_len (ks:List (List UInt8)):(keyC ks).length=ks.length:=List.length_map _
mutual
def RdV (H:AHeap):BV→List Value→Prop
 | .mk k n s kids keys,cs=>∃vk vs css,cs= [.int .i64 k,.int .i64 n,.string (bs s),vk,vs]∧RdK H 5 vk css∧RdL H kids css∧RdK H 1 vs (keyC keys)
def RdL (H:AHeap):List BV→List (List Value)→Prop
 |[],css=>css=[]
 |v::l,css=>∃cs r,css=cs::r∧RdV H v cs∧RdL H l r
end
mutual
theorem RdV.kept {H H2:AHeap} (hk:Kept H H2):∀{v:BV} {cs:List Value},RdV H v cs→RdV H2 v cs
 | .mk k n s kids keys,cs,h=>by
  unfold RdV at h ⊢
  obtain ⟨vk,vs,css,e,h1,h2,h3⟩:=h
  exact ⟨vk,vs,css,e,h1.kept hk,RdL.kept hk h2,h3.kept hk⟩
theorem RdL.kept {H H2:AHeap} (hk:Kept H H2):∀{l:List BV} {css:List (List Value)},RdL H l css→RdL H2 l css
 |[],css,h=>by unfold RdL at h ⊢;exact h
 |v::l,css,h=>by
  unfold RdL at h ⊢
  obtain ⟨cs,r,e,h1,h2⟩:=h
  exact ⟨cs,r,e,RdV.kept hk h1,RdL.kept hk h2⟩
end
theorem RdL.len {H:AHeap}:∀{l:List BV} {css:List (List Value)},RdL H l css→css.length=l.length
 |[],css,h=>by unfold RdL at h;rw [h];rfl
 |v::l,css,h=>by
  unfold RdL at h
  obtain ⟨cs,r,e,h1,h2⟩:=h
  rw [e,List.length_cons,List.length_cons,h2.len]
theorem RdL.at_ {H:AHeap}:∀{l:List BV} {css:List (List Value)} {j:Nat} {v:BV},RdL H l css→l[j]? =some v→∃cs,css[j]? =some cs∧RdV H v cs
 |[],css,j,v,h,e=>by simp at e
 |u::l,css,0,v,h,e=>by
  unfold RdL at h
  obtain ⟨cs,r,e',h1,h2⟩:=h
  cases e
  exact ⟨cs,by rw [e'];rfl,h1⟩
 |u::l,css,j+1,v,h,e=>by
  unfold RdL at h
  obtain ⟨cs,r,e',h1,h2⟩:=h
  rw [e']
  exact h2.at_ (by simpa using e)
theorem RdL.snoc {H:AHeap}:∀{l:List BV} {css:List (List Value)} {v:BV} {cs:List Value},RdL H l css→RdV H v cs→RdL H (l++[v]) (css++[cs])
 |[],css,v,cs,h,hv=>by
  unfold RdL at h
  rw [h]
  exact (show RdL H (v::[]) (cs::[]) by unfold RdL;exact ⟨cs,[],rfl,hv,by unfold RdL;rfl⟩)
 |u::l,css,v,cs,h,hv=>by
  unfold RdL at h
  obtain ⟨c,r,e,h1,h2⟩:=h
  rw [e]
  exact (show RdL H (u::(l++[v])) (c::(r++[cs])) by unfold RdL;exact ⟨c,r++[cs],rfl,h1,h2.snoc hv⟩)
theorem RdV.len {H:AHeap} {v:BV} {cs:List Value} (h:RdV H v cs):cs.length=5:=by
 cases v
 unfold RdV at h
 obtain ⟨vk,vs,css,e,_⟩:=h
 rw [e];rfl
theorem RdL.all5 {H:AHeap} {l:List BV} {css:List (List Value)} (h:RdL H l css):∀cs∈css,cs.length=5:=fun cs hc=>by
 obtain ⟨j,hj,rfl⟩:=List.getElem_of_mem hc
 have hjl:j<l.length:=by rw [← h.len];exact hj
 obtain ⟨cs',e,hv⟩:=h.at_ (List.getElem?_eq_getElem hjl)
 rw [List.getElem?_eq_getElem hj] at e
 cases e
 exact hv.len
theorem RdV.bare {H:AHeap} (k n:Int) (s:List UInt8):RdV H (.mk k n s [] []) [.int .i64 k,.int .i64 n,.string (bs s),.slice none 0 0,.slice none 0 0]:=by
 unfold RdV
 exact ⟨_,_,[],rfl,.inl ⟨rfl,rfl⟩,by unfold RdL;rfl,.inl ⟨rfl,rfl⟩⟩
end Go.Aw

set_option linter.unusedVariables false
set_option linter.unusedSimpArgs false
set_option maxRecDepth 20000
set_option maxHeartbeats 4000000
namespace Go.Proofs.YthcdjconlfdidaaGreatDoor
open Go Go.Aw Go.Proofs
def rdO (s:List UInt8) (i n:Nat):AObj:= .cells [.string (bs s),.int .i64 (i:Nat),.int .i64 (n:Nat)] ⟨89,0,true,0,none⟩
def stopV (a:Nat) (e:Int):Value:= .iface 85 (.agg ⟨[.int .i64 (a:Nat),.int .i64 e]⟩)
theorem digit (c:UInt8) (H:AHeap):ARet Tryz.prog 89 [.int .u8 c.toNat] H (.bool (dig c)) H:=by
 unfold dig
 by_cases h1:48≤c.toNat
 ·have h1':(c.toNat:Int)≥48:=by omega
  by_cases h2:c.toNat≤57
  ·have h2':(c.toNat:Int)≤57:=by omega
   rw [decide_eq_true h1,decide_eq_true h2]
   refine AC.enter Tryz.func89 rfl (by kernel_rfl) 9 rfl [.tmp 2] rfl (by simp) fun hsc B=> ?_
   repeat first|with_reducible refine kc ?_|((with_reducible first|refine kr ?_ ?_|refine kt ?_ ?_);exact rfl)|((with_reducible refine kf ?_ ?_);exact rfl)|simp only [go_sem,sevalprocAttr,reduceCtorEq,h1',h2']|simp (disch:=omega) only [wz]|with_reducible_and_instances exact finR|((with_reducible refine finR' ?_ ?_)<;> rfl)|((with_reducible refine finD hsc (NRel.of_plain ?_));exact rfl)
  ·have h2':¬(c.toNat:Int)≤57:=by omega
   rw [decide_eq_true h1,decide_eq_false h2]
   refine AC.enter Tryz.func89 rfl (by kernel_rfl) 9 rfl [.tmp 2] rfl (by simp) fun hsc B=> ?_
   repeat first|with_reducible refine kc ?_|((with_reducible first|refine kr ?_ ?_|refine kt ?_ ?_);exact rfl)|((with_reducible refine kf ?_ ?_);exact rfl)|simp only [go_sem,sevalprocAttr,reduceCtorEq,h1',h2']|simp (disch:=omega) only [wz]|with_reducible_and_instances exact finR|((with_reducible refine finR' ?_ ?_)<;> rfl)|((with_reducible refine finD hsc (NRel.of_plain ?_));exact rfl)
 ·have h1':¬(c.toNat:Int)≥48:=by omega
  rw [decide_eq_false h1]
  refine AC.enter Tryz.func89 rfl (by kernel_rfl) 9 rfl [.tmp 2] rfl (by simp) fun hsc B=> ?_
  repeat first|with_reducible refine kc ?_|((with_reducible first|refine kr ?_ ?_|refine kt ?_ ?_);exact rfl)|((with_reducible refine kf ?_ ?_);exact rfl)|simp only [go_sem,sevalprocAttr,reduceCtorEq,h1']|simp (disch:=omega) only [wz]|with_reducible_and_instances exact finR|((with_reducible refine finR' ?_ ?_)<;> rfl)|((with_reducible refine finD hsc (NRel.of_plain ?_));exact rfl)
theorem fail (a:Nat) (e:Int) (H:AHeap):APan Tryz.prog 90 [.int .i64 (a:Nat),.int .i64 e] H (stopV a e) H:=by
 unfold stopV
 refine AC.enter Tryz.func90 rfl (by kernel_rfl) 8 rfl [] rfl (by simp) fun hsc B=> ?_
 repeat first|with_reducible refine finP|with_reducible refine kc ?_|((with_reducible first|refine kr ?_ ?_|refine kt ?_ ?_);exact rfl)|((with_reducible refine kf ?_ ?_);exact rfl)|simp only [go_sem,sevalprocAttr,reduceCtorEq]|simp (disch:=omega) only [wz]
theorem nowOk (s:List UInt8) (r i n:Nat) (c:UInt8) (hs:s.length≤65536) (hc:s[i]? =some c) (H:AHeap) (hr:H[r]? =some (rdO s i n)):ARet Tryz.prog 88 [.pointer (some ⟨r,0,none⟩)] H (.int .u8 c.toNat) H:=by
 unfold rdO at hr
 have hrl:=lt_of_get hr
 have hlt:=(List.getElem?_eq_some_iff.1 hc).1
 have h1:¬(i:Int)≥(s.length:Int):=by omega
 refine AC.enter Tryz.func88 rfl (by kernel_rfl) 28 rfl [.tmp 2] rfl (by simp) fun hsc B=> ?_
 repeat first|with_reducible refine kc ?_|((with_reducible first|refine kr ?_ ?_|refine kt ?_ ?_);exact rfl)|((with_reducible refine kf ?_ ?_);exact rfl)|simp only [go_sem,sevalprocAttr,reduceCtorEq]|simp (disch:=omega) only [wz]|with_reducible_and_instances exact finR|((with_reducible refine finR' ?_ ?_)<;> rfl)|((with_reducible refine finD hsc (NRel.of_plain ?_));exact rfl)
 refine AWP.regionK 9 (by kernel_rfl) (by decide) (by kernel_rfl) ?_
 repeat first|with_reducible refine kc ?_|((with_reducible first|refine kr ?_ ?_|refine kt ?_ ?_);exact rfl)|((with_reducible refine kf ?_ ?_);exact rfl)|simp only [go_sem,sevalprocAttr,reduceCtorEq,hr,hrl,h1]|simp (disch:=omega) only [wz]|with_reducible_and_instances exact finR|((with_reducible refine finR' ?_ ?_)<;> rfl)|((with_reducible refine finD hsc (NRel.of_plain ?_));exact rfl)
 refine AWP.regionK 8 (by kernel_rfl) (by decide) (by kernel_rfl) ?_
 repeat first|with_reducible refine kc ?_|((with_reducible first|refine kr ?_ ?_|refine kt ?_ ?_);exact rfl)|((with_reducible refine kf ?_ ?_);exact rfl)|simp only [go_sem,sevalprocAttr,reduceCtorEq,hr,hrl,hc]|simp (disch:=omega) only [wz]|with_reducible_and_instances exact finR|((with_reducible refine finR' ?_ ?_)<;> rfl)|((with_reducible refine finD hsc (NRel.of_plain ?_));exact rfl)
theorem nowEnd (s:List UInt8) (r i n:Nat) (hs:s.length≤65536) (hc:s.length≤i) (H:AHeap) (hr:H[r]? =some (rdO s i n)):APan Tryz.prog 88 [.pointer (some ⟨r,0,none⟩)] H (stopV s.length 2) H:=by
 unfold rdO at hr
 have hrl:=lt_of_get hr
 have h1:(i:Int)≥(s.length:Int):=by omega
 refine AC.enter Tryz.func88 rfl (by kernel_rfl) 28 rfl [.tmp 2] rfl (by simp) fun hsc B=> ?_
 repeat first|with_reducible refine kc ?_|((with_reducible first|refine kr ?_ ?_|refine kt ?_ ?_);exact rfl)|((with_reducible refine kf ?_ ?_);exact rfl)|simp only [go_sem,sevalprocAttr,reduceCtorEq]|simp (disch:=omega) only [wz]
 refine AWP.regionK 9 (by kernel_rfl) (by decide) (by kernel_rfl) ?_
 repeat first|with_reducible refine finP|with_reducible refine kc ?_|((with_reducible first|refine kr ?_ ?_|refine kt ?_ ?_);exact rfl)|((with_reducible refine kf ?_ ?_);exact rfl)|with_reducible refine (fail _ _ _).use ?_|simp only [go_sem,sevalprocAttr,reduceCtorEq,hr,hrl,h1]|simp (disch:=omega) only [wz]
end Go.Proofs.YthcdjconlfdidaaGreatDoor

set_option linter.unusedVariables false
set_option linter.unusedSimpArgs false
set_option maxRecDepth 20000
set_option maxHeartbeats 4000000
namespace Go.Proofs.YthcdjconlfdidaaGreatDoor
open Go Go.Aw Go.Proofs
theorem rd_set {H:AHeap} {r i n:Nat} {s:List UInt8} (h:H[r]? =some (rdO s i n)):H.set r (rdO s i n)=H:=set_same h
theorem hsets {H:AHeap} {b:Nat} (h:b<H.length) (o:AObj):(H.set b o)[b]? =some o:=List.getElem?_set_self h
theorem u8b {c d:UInt8} {n:Nat} (hd:d.toNat=n):((c.toNat:Int)==(n:Int))=(c==d):=by
 subst hd
 rw [Bool.eq_iff_iff]
 simp only [beq_iff_eq]
 constructor
 ·intro h;exact UInt8.toNat_inj.1 (by omega)
 ·intro h;rw [h]
def TextP (s:List UInt8) (r n:Nat) (H:AHeap):Rr (List UInt8)→ARes→AHeap→Prop
 | .ok t j _,res,H1=>res= .ret (.string (bs t))∧H1=H.set r (rdO s j n)
 | .bad a e,res,H1=>res= .pan (stopV a e)∧∃q,H1=H.set r (rdO s q n)
theorem text (s:List UInt8) (r i n:Nat) (hs:s.length≤65536) (hi:i≤s.length) (H:AHeap) (hr:H[r]? =some (rdO s i n)):
  AC Tryz.prog 91 [.pointer (some ⟨r,0,none⟩)] H (TextP s r n H (textR s i)):=by
 have hrl:=lt_of_get hr
 have hr0:=hr
 unfold rdO at hr0
 have hsame:=rd_set hr
 obtain ⟨R,hR⟩:∃R,lenGo (s[i]? ==some 48) 0 0 (s.drop i)=R:=⟨_,rfl⟩
 have hTi:∀k,R= .inl k→textR s i= .bad (i+k) 2:=fun k e=>by unfold textR;rw [hR,e]
 have hTr:∀m k,R= .inr (m,k)→textR s i=if s.length - (i+k+1)<m then .bad s.length 2 else .ok ((s.drop (i+k+1)).take m) (i+k+1+m) 0:=fun m k e=>by unfold textR;rw [hR,e]
 refine AC.enter Tryz.func91 rfl (by kernel_rfl) 118 rfl [.tmp 2] rfl (by simp) fun hsc B=> ?_
 repeat first|with_reducible refine kc ?_|((with_reducible first|refine kr ?_ ?_|refine kt ?_ ?_);exact rfl)|((with_reducible refine kf ?_ ?_);exact rfl)|simp only [go_sem,sevalprocAttr,reduceCtorEq,hr0,hrl]|simp (disch:=omega) only [wz]
 refine AWP.loopP (fun st:Nat×Nat=>⟨[(0,.pointer (some ⟨r,0,none⟩)),(3,.int .i64 (i:Nat)),(4,.int .i64 (st.2:Nat))],[],H.set r (rdO s st.1 n)⟩)
  (fun st=>i≤st.1∧st.1≤s.length∧st.2≤65536∧lenGo (s[i]? ==some 48) (st.1 - i) st.2 (s.drop st.1)=R) (fun st=>s.length - st.1) (i,0) ?_ ⟨Nat.le_refl _,hi,Nat.zero_le _,by rw [Nat.sub_self];exact hR⟩ ?_
 ·simp only [hsame]
  exact Weak.env (by simp [envIn,lk_cons,wth_some])
 rintro ⟨p,m⟩ ⟨h0,h1,h2,h3⟩
 simp only at h0 h1 h2 h3 ⊢
 unfold rdO
 have hg:(H.set r (rdO s p n))[r]? =some (rdO s p n):=List.getElem?_set_self hrl
 have hg0:=hg
 unfold rdO at hg0
 cases hc:s[p]? with
 | none=>
  have hle:s.length≤p:=by
   rcases Nat.lt_or_ge p s.length with h|h
   ·rw [List.getElem?_eq_getElem h] at hc;cases hc
   ·exact h
  have hN:=nowEnd s r p n hs hle _ hg
  unfold rdO at hN
  rw [List.drop_eq_nil_of_le hle,lenGo] at h3
  have hT:=hTi (p - i) h3.symm
  have e:i+(p - i)=s.length:=by omega
  repeat first|with_reducible refine kc ?_|((with_reducible first|refine kr ?_ ?_|refine kt ?_ ?_);exact rfl)|((with_reducible refine kf ?_ ?_);exact rfl)|with_reducible refine hN.use ?_|simp only [go_sem,sevalprocAttr,reduceCtorEq]|simp (disch:=omega) only [wz]
  exact ⟨_,_,.refl _ _ _,by rw [hT,e];exact ⟨rfl,_,rfl⟩⟩
 | some c=>
  have hlt:=(List.getElem?_eq_some_iff.1 hc).1
  have hN:=nowOk s r p n c hs hc _ hg
  have hD:=digit c (H.set r (rdO s p n))
  have hd:s.drop p=c::s.drop (p+1):=by
   rw [List.drop_eq_getElem_cons hlt]
   rw [List.getElem?_eq_getElem hlt] at hc
   rw [Option.some.inj hc]
  rw [hd,lenGo] at h3
  have h58':((c.toNat:Int)==58)=(c==58):=u8b (n:=58) rfl
  have hF:=fail p 2 (H.set r (rdO s p n))
  unfold rdO at hN hD hF
  have hw1:IntKind.i64.wrap ((p:Int)+1)=((p+1:Nat):Int):=by rw [wi64 (by omega)];omega
  have hip:i+(p - i)=p:=by omega
  by_cases hE:c=58∧0<p - i
  ·rw [if_pos hE] at h3
   have e58:((c.toNat:Int)==58)=true:=by rw [h58',hE.1];rfl
   have hgt:(p:Int)>(i:Int):=by omega
   obtain ⟨q,hq⟩:∃q,q=s.length - (p+1):=⟨_,rfl⟩
   have hw2:IntKind.i64.wrap ((s.length:Int) - ((p+1:Nat):Int))=(q:Int):=by rw [wi64 (by omega)];omega
   have hT:=hTr m (p - i) h3.symm
   rw [hip,←hq] at hT
   by_cases hL:q<m
   ·have hL':(m:Int)>(q:Int):=by omega
    have hF2:=fail s.length 2 (H.set r (rdO s (p+1) n))
    unfold rdO at hF2
    rw [if_pos hL] at hT
    repeat first|with_reducible refine kc ?_|((with_reducible first|refine kr ?_ ?_|refine kt ?_ ?_);exact rfl)|((with_reducible refine kf ?_ ?_);exact rfl)|with_reducible refine hN.use ?_|simp only [go_sem,sevalprocAttr,reduceCtorEq,hg0,hrl,e58,hgt,hw1,hsets,List.set_set,List.length_set,List.set_cons_succ,List.set_cons_zero]|simp (disch:=omega) only [wz]
    refine AWP.regionK 11 (by kernel_rfl) (by decide) (by kernel_rfl) ?_
    repeat first|with_reducible refine kc ?_|((with_reducible first|refine kr ?_ ?_|refine kt ?_ ?_);exact rfl)|((with_reducible refine kf ?_ ?_);exact rfl)|with_reducible refine hF2.use ?_|simp only [go_sem,sevalprocAttr,reduceCtorEq,hsets,hrl,hw2,hL',List.length_set]|simp (disch:=omega) only [wz]
    exact ⟨_,_,.refl _ _ _,by rw [hT];exact ⟨rfl,_,rfl⟩⟩
   ·have hL':¬(m:Int)>(q:Int):=by omega
    obtain ⟨j,hj⟩:∃j,j=p+1+m:=⟨_,rfl⟩
    have hw3:IntKind.i64.wrap (((p+1:Nat):Int)+(m:Int))=(j:Int):=by rw [wi64 (by omega)];omega
    have hw4:IntKind.i64.wrap ((j:Int) - (m:Int))=((p+1:Nat):Int):=by rw [wi64 (by omega)];omega
    rw [if_neg hL,←hj] at hT
    repeat first|with_reducible refine kc ?_|((with_reducible first|refine kr ?_ ?_|refine kt ?_ ?_);exact rfl)|((with_reducible refine kf ?_ ?_);exact rfl)|with_reducible refine hN.use ?_|simp only [go_sem,sevalprocAttr,reduceCtorEq,hg0,hrl,e58,hgt,hw1,hsets,List.set_set,List.length_set,List.set_cons_succ,List.set_cons_zero]|simp (disch:=omega) only [wz]
    refine AWP.regionK 11 (by kernel_rfl) (by decide) (by kernel_rfl) ?_
    repeat first|with_reducible refine kc ?_|((with_reducible first|refine kr ?_ ?_|refine kt ?_ ?_);exact rfl)|((with_reducible refine kf ?_ ?_);exact rfl)|simp only [go_sem,sevalprocAttr,reduceCtorEq,hsets,hrl,hw2,hL',hw3,List.set_set,List.length_set,List.set_cons_succ,List.set_cons_zero]|simp (disch:=omega) only [wz]
    refine AWP.regionK 14 (by kernel_rfl) (by decide) (by kernel_rfl) ?_
    repeat first|with_reducible refine kc ?_|((with_reducible first|refine kr ?_ ?_|refine kt ?_ ?_);exact rfl)|((with_reducible refine kf ?_ ?_);exact rfl)|simp only [go_sem,sevalprocAttr,reduceCtorEq,hsets,hrl,hw4,List.length_set]|simp (disch:=omega) only [wz]
    refine ⟨by omega,by omega,?_⟩
    repeat first|with_reducible refine kc ?_|((with_reducible first|refine kr ?_ ?_|refine kt ?_ ?_);exact rfl)|((with_reducible refine kf ?_ ?_);exact rfl)|simp only [go_sem,sevalprocAttr,reduceCtorEq]|simp (disch:=omega) only [wz]
    exact ⟨_,_,.refl _ _ _,by rw [hT];exact ⟨by rw [drop_take',show j - (p+1)=m by omega],rfl⟩⟩
  ·rw [if_neg hE] at h3
   have hbadT:(dig c=false∨(p - i=1∧(s[i]? ==some 48)=true)∨65536<10*m+(c.toNat - 48))→textR s i= .bad p 2:=fun h=>by
    rw [if_pos h] at h3
    rw [hTi _ h3.symm,hip]
   cases hdig:dig c with
   | false=>
    have hT:=hbadT (.inl hdig)
    rw [hdig] at hD
    by_cases c58:c=58
    ·have e58:((c.toNat:Int)==58)=true:=by rw [h58',c58];rfl
     have hgt:¬(p:Int)>(i:Int):=fun h=>hE ⟨c58,by omega⟩
     repeat first|with_reducible refine kc ?_|((with_reducible first|refine kr ?_ ?_|refine kt ?_ ?_);exact rfl)|((with_reducible refine kf ?_ ?_);exact rfl)|with_reducible (first|refine hN.use ?_|refine hD.use ?_|refine hF.use ?_)|simp only [go_sem,sevalprocAttr,reduceCtorEq,hg0,hrl,e58,hgt]|simp (disch:=omega) only [wz]
     exact ⟨_,_,.refl _ _ _,by rw [hT];exact ⟨rfl,_,rfl⟩⟩
    ·have e58:((c.toNat:Int)==58)=false:=by rw [h58'];simpa using c58
     repeat first|with_reducible refine kc ?_|((with_reducible first|refine kr ?_ ?_|refine kt ?_ ?_);exact rfl)|((with_reducible refine kf ?_ ?_);exact rfl)|with_reducible (first|refine hN.use ?_|refine hD.use ?_|refine hF.use ?_)|simp only [go_sem,sevalprocAttr,reduceCtorEq,hg0,hrl,e58]|simp (disch:=omega) only [wz]
     exact ⟨_,_,.refl _ _ _,by rw [hT];exact ⟨rfl,_,rfl⟩⟩
   | true=>
    rw [hdig] at hD
    have hdg:=of_dig hdig
    have e58:((c.toNat:Int)==58)=false:=by
     rw [h58']
     cases hh:c==58 with
     |false=>rfl
     |true=>rw [beq_iff_eq.1 hh] at hdig;cases hdig
    obtain ⟨d,hdd⟩:∃d,d=c.toNat - 48:=⟨_,rfl⟩
    have hu8:IntKind.u8.wrap ((c.toNat:Int) - 48)=(d:Int):=by rw [wu8 (by omega)];omega
    have hd64:IntKind.i64.wrap (d:Int)=(d:Int):=wi64 (by omega)
    obtain ⟨m',hm'⟩:∃m',m'=10*m+d:=⟨_,rfl⟩
    have hm10:IntKind.i64.wrap ((10:Int)*(m:Int))=((10*m:Nat):Int):=by rw [wi64 (by omega)];omega
    have hmd:IntKind.i64.wrap (((10*m:Nat):Int)+(d:Int))=(m':Int):=by rw [wi64 (by omega)];omega
    have hwi1:IntKind.i64.wrap ((i:Int)+1)=((i+1:Nat):Int):=by rw [wi64 (by omega)];omega
    have hov:65536<m'→textR s i= .bad p 2:=fun h=>hbadT (.inr (.inr (by omega)))
    rw [← hdd,←hm'] at h3
    by_cases hp1:p=i+1
    ·have hp1':((p:Int)==((i+1:Nat):Int))=true:=by simp;omega
     have hil:i<s.length:=by omega
     have hic:s[i]? =some s[i]:=List.getElem?_eq_getElem hil
     obtain ⟨c0,hc0⟩:∃c0,s[i]=c0:=⟨_,rfl⟩
     rw [hc0] at hic
     have h48':((c0.toNat:Int)==48)=(c0==48):=u8b (n:=48) rfl
     have hil':(i:Int)<(s.length:Int):=by omega
     have hi0:(0:Int)≤(i:Int):=Int.natCast_nonneg _
     by_cases hz:c0=48
     ·have e48:((c0.toNat:Int)==48)=true:=by rw [h48',hz];rfl
      have hT:=hbadT (.inr (.inl ⟨by omega,by rw [hic,hz];rfl⟩))
      repeat first|with_reducible refine kc ?_|((with_reducible first|refine kr ?_ ?_|refine kt ?_ ?_);exact rfl)|((with_reducible refine kf ?_ ?_);exact rfl)|with_reducible (first|refine hN.use ?_|refine hD.use ?_|refine hF.use ?_)|simp only [go_sem,sevalprocAttr,reduceCtorEq,hg0,hrl,e58,hp1',hwi1,hic,e48,hil',hi0]|simp (disch:=omega) only [wz]
      exact ⟨_,_,.refl _ _ _,by rw [hT];exact ⟨rfl,_,rfl⟩⟩
     ·have e48:((c0.toNat:Int)==48)=false:=by rw [h48'];simpa using hz
      have hnz:(s[i]? ==some 48)=false:=by rw [hic];simpa using hz
      by_cases hover:65536<m'
      ·have hover':(m':Int)>65536:=by omega
       have hT:=hov hover
       repeat first|with_reducible refine kc ?_|((with_reducible first|refine kr ?_ ?_|refine kt ?_ ?_);exact rfl)|((with_reducible refine kf ?_ ?_);exact rfl)|with_reducible (first|refine hN.use ?_|refine hD.use ?_|refine hF.use ?_)|simp only [go_sem,sevalprocAttr,reduceCtorEq,hg0,hrl,e58,hp1',hwi1,hic,e48,hil',hi0,hu8,hd64,hm10,hmd,hover']|simp (disch:=omega) only [wz]
       exact ⟨_,_,.refl _ _ _,by rw [hT];exact ⟨rfl,_,rfl⟩⟩
      ·have hover':¬(m':Int)>65536:=by omega
       have hnext:lenGo (s[i]? ==some 48) (p+1 - i) m' (s.drop (p+1))=R:=by
        rw [if_neg (by rintro (h|⟨_,h⟩|h);cases hdig.symm.trans h;rw [hnz] at h;cases h;omega)] at h3
        rw [← h3];congr 1;omega
       repeat first|with_reducible refine kc ?_|((with_reducible first|refine kr ?_ ?_|refine kt ?_ ?_);exact rfl)|((with_reducible refine kf ?_ ?_);exact rfl)|with_reducible (first|refine hN.use ?_|refine hD.use ?_)|simp only [go_sem,sevalprocAttr,reduceCtorEq,hg0,hrl,e58,hp1',hwi1,hic,e48,hil',hi0,hu8,hd64,hm10,hmd,hover',hw1,hsets,List.set_set,List.length_set,List.set_cons_succ,List.set_cons_zero]|simp (disch:=omega) only [wz]
       exact ⟨(p+1,m'),Weak.env (by simp [envIn,lk_cons,wth_some]),by dsimp only;omega,by dsimp only;omega,by dsimp only;omega,(by rw [hic] at hnext;exact hnext),by dsimp only;omega⟩
    ·have hp1':((p:Int)==((i+1:Nat):Int))=false:=by simp;omega
     by_cases hover:65536<m'
     ·have hover':(m':Int)>65536:=by omega
      have hT:=hov hover
      repeat first|with_reducible refine kc ?_|((with_reducible first|refine kr ?_ ?_|refine kt ?_ ?_);exact rfl)|((with_reducible refine kf ?_ ?_);exact rfl)|with_reducible (first|refine hN.use ?_|refine hD.use ?_|refine hF.use ?_)|simp only [go_sem,sevalprocAttr,reduceCtorEq,hg0,hrl,e58,hp1',hwi1,hu8,hd64,hm10,hmd,hover']|simp (disch:=omega) only [wz]
      exact ⟨_,_,.refl _ _ _,by rw [hT];exact ⟨rfl,_,rfl⟩⟩
     ·have hover':¬(m':Int)>65536:=by omega
      have hnext:lenGo (s[i]? ==some 48) (p+1 - i) m' (s.drop (p+1))=R:=by
       rw [if_neg (by rintro (h|⟨h,_⟩|h);cases hdig.symm.trans h;omega;omega)] at h3
       rw [← h3];congr 1;omega
      repeat first|with_reducible refine kc ?_|((with_reducible first|refine kr ?_ ?_|refine kt ?_ ?_);exact rfl)|((with_reducible refine kf ?_ ?_);exact rfl)|with_reducible (first|refine hN.use ?_|refine hD.use ?_)|simp only [go_sem,sevalprocAttr,reduceCtorEq,hg0,hrl,e58,hp1',hwi1,hu8,hd64,hm10,hmd,hover',hw1,hsets,List.set_set,List.length_set,List.set_cons_succ,List.set_cons_zero]|simp (disch:=omega) only [wz]
      exact ⟨(p+1,m'),Weak.env (by simp [envIn,lk_cons,wth_some]),by dsimp only;omega,by dsimp only;omega,by dsimp only;omega,hnext,by dsimp only;omega⟩
end Go.Proofs.YthcdjconlfdidaaGreatDoor
