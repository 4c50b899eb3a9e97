/-
  A part of the proof of a statement of this seat.
-/
import Derived.Test.YthcdjconlfdidaaGreatDoorCCM
import Derived.Test.YthcdjconlfdidaaGreatDoorAwB
import Derived.Test.YthcdjconlfdidaaGreatDoorTB
set_option linter.unusedVariables false
set_option linter.unusedSimpArgs false
namespace Go.Aw
open Go.Lib BV
structure Cut {α :Type} (s:List UInt8) (i:Nat) (f:List UInt8→Rr α) (d:Nat):Prop where
 cut:∀m,i≤m→m≤s.length→f (s.take m)=if d≤m then f s else .bad m 2
 ok:∀v j n,f s= .ok v j n→d=j
 bad:∀a e,f s= .bad a e→a+1≤d
theorem drop_take' (s:List UInt8) (i m:Nat):(s.take m).drop i=(s.drop i).take (m - i):=by rw [List.drop_take]
theorem Cut.seq {α β:Type} {s:List UInt8} {i d:Nat} {f:List UInt8→Rr α} {g:List UInt8→Rr β} {v:α} {j n:Nat} (hf:Cut s i f d) (he:f s= .ok v j n) (hij:i≤j) {h:List UInt8→Rr β}
  (hb:∀t m,f t= .bad m 2→h t= .bad m 2) (hh:∀t,f t= .ok v j n→h t=g t) (hg:∃d,Cut s j g d) (hgok:∀w j' n',g s= .ok w j' n'→j≤j') (hgbad:∀a e,g s= .bad a e→j≤a+1):∃d,Cut s i h d:=by
 obtain ⟨d2,hg⟩:=hg
 have hd:=hf.ok _ _ _ he
 have hd2:j≤d2:=by
  cases hgs:g s with
  |ok w j' n'=>rw [hg.ok _ _ _ hgs];exact hgok _ _ _ hgs
  |bad a e=>
   have:=hg.bad _ _ hgs
   have:=hgbad _ _ hgs
   omega
 refine ⟨d2,fun m h1 h2=> ?_,fun w j' n' h'=>hg.ok w j' n' (by rw [← hh s he];exact h'),fun a e h'=>hg.bad a e (by rw [← hh s he];exact h')⟩
 have hc:=hf.cut m h1 h2
 by_cases hm:d≤m
 ·rw [if_pos hm] at hc
  rw [hh _ (hc.trans he),hh s he]
  exact hg.cut m (by omega) h2
 ·rw [if_neg hm] at hc
  rw [hb _ _ hc,if_neg (by omega)]
theorem Cut.fail {α β:Type} {s:List UInt8} {i d:Nat} {f:List UInt8→Rr α} {a:Nat} {e:Int} (hf:Cut s i f d) (he:f s= .bad a e) {h:List UInt8→Rr β} (hb:∀t m e,f t= .bad m e→h t= .bad m e):∃d,Cut s i h d:=
 ⟨d,fun m h1 h2=>by
  have hc:=hf.cut m h1 h2
  rw [hb s a e he]
  by_cases hm:d≤m
  ·rw [if_pos hm] at hc ⊢;exact hb _ _ _ (hc.trans he)
  ·rw [if_neg hm] at hc ⊢;exact hb _ _ _ hc,(fun v j n h'=>by rw [hb s a e he] at h';cases h'),(fun a' e' h'=>by rw [hb s a e he] at h';cases h';exact hf.bad _ _ he)⟩
end Go.Aw

set_option linter.unusedVariables false
set_option linter.unusedSimpArgs false
namespace Go.Aw
def keyC (ks:List (List UInt8)):List (List Value):=ks.map fun s=> [.string (bs s)]
theorem keyC_len (ks:List (List UInt8)):(keyC ks).length=ks.length:=List.length_map _
mutual
def RdV (H:AHeap):BV→List Value→Prop
 | .mk k n s kids keys,cs=>∃vk vs css,cs= [.int .i64 k,.int .i64 n,.string (bs s),vk,vs]∧RdK H 5 vk css∧RdL H kids css∧RdK H 1 vs (keyC keys)
def RdL (H:AHeap):List BV→List (List Value)→Prop
 |[],css=>css=[]
 |v::l,css=>∃cs r,css=cs::r∧RdV H v cs∧RdL H l r
end
mutual
theorem RdV.kept {H H2:AHeap} (hk:Kept H H2):∀{v:BV} {cs:List Value},RdV H v cs→RdV H2 v cs
 | .mk k n s kids keys,cs,h=>by
  unfold RdV at h ⊢
  obtain ⟨vk,vs,css,e,h1,h2,h3⟩:=h
  exact ⟨vk,vs,css,e,h1.kept hk,RdL.kept hk h2,h3.kept hk⟩
theorem RdL.kept {H H2:AHeap} (hk:Kept H H2):∀{l:List BV} {css:List (List Value)},RdL H l css→RdL H2 l css
 |[],css,h=>by unfold RdL at h ⊢;exact h
 |v::l,css,h=>by
  unfold RdL at h ⊢
  obtain ⟨cs,r,e,h1,h2⟩:=h
  exact ⟨cs,r,e,RdV.kept hk h1,RdL.kept hk h2⟩
end
theorem RdL.len {H:AHeap}:∀{l:List BV} {css:List (List Value)},RdL H l css→css.length=l.length
 |[],css,h=>by unfold RdL at h;rw [h];rfl
 |v::l,css,h=>by
  unfold RdL at h
  obtain ⟨cs,r,e,h1,h2⟩:=h
  rw [e,List.length_cons,List.length_cons,h2.len]
theorem RdL.at_ {H:AHeap}:∀{l:List BV} {css:List (List Value)} {j:Nat} {v:BV},RdL H l css→l[j]? =some v→∃cs,css[j]? =some cs∧RdV H v cs
 |[],css,j,v,h,e=>by simp at e
 |u::l,css,0,v,h,e=>by
  unfold RdL at h
  obtain ⟨cs,r,e',h1,h2⟩:=h
  cases e
  exact ⟨cs,by rw [e'];rfl,h1⟩
 |u::l,css,j+1,v,h,e=>by
  unfold RdL at h
  obtain ⟨cs,r,e',h1,h2⟩:=h
  rw [e']
  exact h2.at_ (by simpa using e)
theorem RdL.snoc {H:AHeap}:∀{l:List BV} {css:List (List Value)} {v:BV} {cs:List Value},RdL H l css→RdV H v cs→RdL H (l++[v]) (css++[cs])
 |[],css,v,cs,h,hv=>by
  unfold RdL at h
  rw [h]
  exact (show RdL H (v::[]) (cs::[]) by unfold RdL;exact ⟨cs,[],rfl,hv,by unfold RdL;rfl⟩)
 |u::l,css,v,cs,h,hv=>by
  unfold RdL at h
  obtain ⟨c,r,e,h1,h2⟩:=h
  rw [e]
  exact (show RdL H (u::(l++[v])) (c::(r++[cs])) by unfold RdL;exact ⟨c,r++[cs],rfl,h1,h2.snoc hv⟩)
theorem RdV.len {H:AHeap} {v:BV} {cs:List Value} (h:RdV H v cs):cs.length=5:=by
 cases v
 unfold RdV at h
 obtain ⟨vk,vs,css,e,_⟩:=h
 rw [e];rfl
theorem RdL.all5 {H:AHeap} {l:List BV} {css:List (List Value)} (h:RdL H l css):∀cs∈css,cs.length=5:=fun cs hc=>by
 obtain ⟨j,hj,rfl⟩:=List.getElem_of_mem hc
 have hjl:j<l.length:=by rw [← h.len];exact hj
 obtain ⟨cs',e,hv⟩:=h.at_ (List.getElem?_eq_getElem hjl)
 rw [List.getElem?_eq_getElem hj] at e
 cases e
 exact hv.len
theorem RdV.bare {H:AHeap} (k n:Int) (s:List UInt8):RdV H (.mk k n s [] []) [.int .i64 k,.int .i64 n,.string (bs s),.slice none 0 0,.slice none 0 0]:=by
 unfold RdV
 exact ⟨_,_,[],rfl,.inl ⟨rfl,rfl⟩,by unfold RdL;rfl,.inl ⟨rfl,rfl⟩⟩
end Go.Aw

set_option linter.unusedVariables false
set_option linter.unusedSimpArgs false
set_option maxRecDepth 20000
set_option maxHeartbeats 4000000
namespace Go.Proofs.YthcdjconlfdidaaGreatDoor
open Go Go.Aw Go.Proofs
def rdO (s:List UInt8) (i n:Nat):AObj:= .cells [.string (bs s),.int .i64 (i:Nat),.int .i64 (n:Nat)] ⟨89,0,true,0,none⟩
def stopV (a:Nat) (e:Int):Value:= .iface 85 (.agg ⟨[.int .i64 (a:Nat),.int .i64 e]⟩)
theorem digit (c:UInt8) (H:AHeap):ARet Tryz.prog 89 [.int .u8 c.toNat] H (.bool (dig c)) H:=by
 unfold dig
 by_cases h1:48≤c.toNat
 ·have h1':(c.toNat:Int)≥48:=by omega
  by_cases h2:c.toNat≤57
  ·have h2':(c.toNat:Int)≤57:=by omega
   rw [decide_eq_true h1,decide_eq_true h2]
   refine AC.enter Tryz.func89 rfl (by kernel_rfl) 9 rfl [.tmp 2] rfl (by simp) fun hsc B=> ?_
   repeat first|with_reducible refine kc ?_|((with_reducible first|refine kr ?_ ?_|refine kt ?_ ?_);exact rfl)|((with_reducible refine kf ?_ ?_);exact rfl)|simp only [go_sem,sevalprocAttr,reduceCtorEq,h1',h2']|simp (disch:=omega) only [wz]|with_reducible_and_instances exact finR|((with_reducible refine finR' ?_ ?_)<;> rfl)|((with_reducible refine finD hsc (NRel.of_plain ?_));exact rfl)
  ·have h2':¬(c.toNat:Int)≤57:=by omega
   rw [decide_eq_true h1,decide_eq_false h2]
   refine AC.enter Tryz.func89 rfl (by kernel_rfl) 9 rfl [.tmp 2] rfl (by simp) fun hsc B=> ?_
   repeat first|with_reducible refine kc ?_|((with_reducible first|refine kr ?_ ?_|refine kt ?_ ?_);exact rfl)|((with_reducible refine kf ?_ ?_);exact rfl)|simp only [go_sem,sevalprocAttr,reduceCtorEq,h1',h2']|simp (disch:=omega) only [wz]|with_reducible_and_instances exact finR|((with_reducible refine finR' ?_ ?_)<;> rfl)|((with_reducible refine finD hsc (NRel.of_plain ?_));exact rfl)
 ·have h1':¬(c.toNat:Int)≥48:=by omega
  rw [decide_eq_false h1]
  refine AC.enter Tryz.func89 rfl (by kernel_rfl) 9 rfl [.tmp 2] rfl (by simp) fun hsc B=> ?_
  repeat first|with_reducible refine kc ?_|((with_reducible first|refine kr ?_ ?_|refine kt ?_ ?_);exact rfl)|((with_reducible refine kf ?_ ?_);exact rfl)|simp only [go_sem,sevalprocAttr,reduceCtorEq,h1']|simp (disch:=omega) only [wz]|with_reducible_and_instances exact finR|((with_reducible refine finR' ?_ ?_)<;> rfl)|((with_reducible refine finD hsc (NRel.of_plain ?_));exact rfl)
theorem fail (a:Nat) (e:Int) (H:AHeap):APan Tryz.prog 90 [.int .i64 (a:Nat),.int .i64 e] H (stopV a e) H:=by
 unfold stopV
 refine AC.enter Tryz.func90 rfl (by kernel_rfl) 8 rfl [] rfl (by simp) fun hsc B=> ?_
 repeat first|with_reducible refine finP|with_reducible refine kc ?_|((with_reducible first|refine kr ?_ ?_|refine kt ?_ ?_);exact rfl)|((with_reducible refine kf ?_ ?_);exact rfl)|simp only [go_sem,sevalprocAttr,reduceCtorEq]|simp (disch:=omega) only [wz]
theorem nowOk (s:List UInt8) (r i n:Nat) (c:UInt8) (hs:s.length≤65536) (hc:s[i]? =some c) (H:AHeap) (hr:H[r]? =some (rdO s i n)):ARet Tryz.prog 88 [.pointer (some ⟨r,0,none⟩)] H (.int .u8 c.toNat) H:=by
 unfold rdO at hr
 have hrl:=lt_of_get hr
 have hlt:=(List.getElem?_eq_some_iff.1 hc).1
 have h1:¬(i:Int)≥(s.length:Int):=by omega
 refine AC.enter Tryz.func88 rfl (by kernel_rfl) 28 rfl [.tmp 2] rfl (by simp) fun hsc B=> ?_
 repeat first|with_reducible refine kc ?_|((with_reducible first|refine kr ?_ ?_|refine kt ?_ ?_);exact rfl)|((with_reducible refine kf ?_ ?_);exact rfl)|simp only [go_sem,sevalprocAttr,reduceCtorEq]|simp (disch:=omega) only [wz]|with_reducible_and_instances exact finR|((with_reducible refine finR' ?_ ?_)<;> rfl)|((with_reducible refine finD hsc (NRel.of_plain ?_));exact rfl)
 refine AWP.regionK 9 (by kernel_rfl) (by decide) (by kernel_rfl) ?_
 repeat first|with_reducible refine kc ?_|((with_reducible first|refine kr ?_ ?_|refine kt ?_ ?_);exact rfl)|((with_reducible refine kf ?_ ?_);exact rfl)|simp only [go_sem,sevalprocAttr,reduceCtorEq,hr,hrl,h1]|simp (disch:=omega) only [wz]|with_reducible_and_instances exact finR|((with_reducible refine finR' ?_ ?_)<;> rfl)|((with_reducible refine finD hsc (NRel.of_plain ?_));exact rfl)
 refine AWP.regionK 8 (by kernel_rfl) (by decide) (by kernel_rfl) ?_
 repeat first|with_reducible refine kc ?_|((with_reducible first|refine kr ?_ ?_|refine kt ?_ ?_);exact rfl)|((with_reducible refine kf ?_ ?_);exact rfl)|simp only [go_sem,sevalprocAttr,reduceCtorEq,hr,hrl,hc]|simp (disch:=omega) only [wz]|with_reducible_and_instances exact finR|((with_reducible refine finR' ?_ ?_)<;> rfl)|((with_reducible refine finD hsc (NRel.of_plain ?_));exact rfl)
theorem nowEnd (s:List UInt8) (r i n:Nat) (hs:s.length≤65536) (hc:s.length≤i) (H:AHeap) (hr:H[r]? =some (rdO s i n)):APan Tryz.prog 88 [.pointer (some ⟨r,0,none⟩)] H (stopV s.length 2) H:=by
 unfold rdO at hr
 have hrl:=lt_of_get hr
 have h1:(i:Int)≥(s.length:Int):=by omega
 refine AC.enter Tryz.func88 rfl (by kernel_rfl) 28 rfl [.tmp 2] rfl (by simp) fun hsc B=> ?_
 repeat first|with_reducible refine kc ?_|((with_reducible first|refine kr ?_ ?_|refine kt ?_ ?_);exact rfl)|((with_reducible refine kf ?_ ?_);exact rfl)|simp only [go_sem,sevalprocAttr,reduceCtorEq]|simp (disch:=omega) only [wz]
 refine AWP.regionK 9 (by kernel_rfl) (by decide) (by kernel_rfl) ?_
 repeat first|with_reducible refine finP|with_reducible refine kc ?_|((with_reducible first|refine kr ?_ ?_|refine kt ?_ ?_);exact rfl)|((with_reducible refine kf ?_ ?_);exact rfl)|with_reducible refine (fail _ _ _).use ?_|simp only [go_sem,sevalprocAttr,reduceCtorEq,hr,hrl,h1]|simp (disch:=omega) only [wz]
end Go.Proofs.YthcdjconlfdidaaGreatDoor
