/-
  A part of the proof of a statement of this seat.
-/
import Derived.Test.YthcdjconlfdidaaGreatDoorCEM
import Derived.Test.YthcdjconlfdidaaGreatDoorD4
set_option linter.unusedVariables false
set_option linter.unusedSimpArgs false
namespace Go.Aw
theorem grown_get {H Y:AHeap} {l:List (List Value)} {j i:Nat} (hi:i<H.length) (hj:l≠[]→i≠j):(grown H l j++Y)[i]? =H[i]? :=by
 rw [hgetl (by rw [grown_len];exact hi)]
 unfold grown
 split
 ·rfl
 ·rename_i h;rw [List.getElem?_set_ne (Ne.symm (hj h))]
theorem OwnR.own {H:AHeap} {e m j:Nat} {v:Value} {l:List (List Value)} (h:OwnR H e m l v j) (hl:l≠[]):H[j]? =some (.cells l.flatten ⟨e,m,true,0,none⟩):=by
 rcases h with ⟨h1,_⟩|⟨_,_,h3⟩
 ·exact absurd h1 hl
 ·exact h3
theorem OwnR.grown_kept {H Y:AHeap} {e m j:Nat} {v:Value} {l:List (List Value)} (h:OwnR H e m l v j):Kept H (grown H l j++Y):=by
 refine Kept.trans ?_ (Kept.more _ _)
 unfold grown
 split
 ·exact Kept.refl _
 ·rename_i hl;exact Kept.set (h.own hl) rfl _
theorem OwnR.keep {H H2:AHeap} {e m j:Nat} {v:Value} {l:List (List Value)} (h:OwnR H e m l v j) (hj:l≠[]→H2[j]? =H[j]?):OwnR H2 e m l v j:=by
 rcases h with h|⟨h1,h2,h3⟩
 ·exact .inl h
 ·exact .inr ⟨h1,h2,(hj h1).trans h3⟩
theorem OwnR.freeze {H:AHeap} {e m j:Nat} {v:Value} {l:List (List Value)} (h:OwnR H e m l v j) (hm:∀r∈l,r.length=m):
  ∃H2,(∀ n0 env ds,Weak n0 ⟨env,ds,H⟩ ⟨env,ds,H2⟩)∧RdK H2 m v l∧H2.length=H.length∧ (∀ i,(l≠[]→i≠j)→H2[i]? =H[i]?)∧Kept H H2:=by
 rcases h with ⟨rfl,rfl⟩|⟨h1,rfl,h3⟩
 ·exact ⟨H,fun _ _ _=> .refl _ _,.inl ⟨rfl,rfl⟩,rfl,fun _ _=>rfl,.refl _⟩
 ·refine ⟨_,fun n0 env ds=>Weak.freeze h3,.inr ⟨j,0,l.length,_,_,rfl,Nat.le_refl _,List.getElem?_set_self (lt_of_get h3),rfl,.inl rfl,?_,?_⟩,by simp,fun i hi=>by rw [List.getElem?_set_ne (Ne.symm (hi h1))],Kept.set h3 rfl _⟩
  ·rw [flat_len hm];omega
  ·intro i r hr
   rw [Nat.zero_add]
   exact flat_at hm hr
end Go.Aw

set_option linter.unusedVariables false
set_option linter.unusedSimpArgs false
set_option maxRecDepth 20000
set_option maxHeartbeats 4000000
namespace Go.Proofs.YthcdjconlfdidaaGreatDoor
open Go Go.Aw Go.Proofs
def vbox (d:Bool) (vk vs:Value):AObj:= .cells [.int .i64 (if d then 4 else 3),.int .i64 0,.string (bs []),vk,vs] ⟨27,0,true,0,none⟩
structure VSt (s:List UInt8) (r:Nat) (H:AHeap) (d:Bool) (i n:Nat) (kids:List BV) (keys:List (List UInt8)) (vk vs:Value) (css:List (List Value)) (jk js:Nat) (Hc:AHeap):Prop where
 frm:Frm [r] H Hc
 rd:Hc[r]? =some (rdO s i n)
 res:Hc[H.length]? =some (.cells [.int .i64 0,.int .i64 0,.string (bs []),.slice none 0 0,.slice none 0 0] ⟨27,0,true,0,none⟩)
 box:Hc[H.length+1]? =some (vbox d vk vs)
 ok:OwnR Hc 27 5 css vk jk
 rl:RdL Hc kids css
 os:OwnR Hc 9 1 (keyC keys) vs js
 jkl:css≠[]→H.length+2≤jk
 jsl:keyC keys≠[]→H.length+2≤js
theorem VSt.ne {s:List UInt8} {r:Nat} {H:AHeap} {d:Bool} {i n:Nat} {kids:List BV} {keys:List (List UInt8)} {vk vs:Value} {css:List (List Value)} {jk js:Nat} {Hc:AHeap} (h:VSt s r H d i n kids keys vk vs css jk js Hc)
  (h1:css≠[]) (h2:keyC keys≠[]):jk≠js:=fun e=>by
 have e1:=h.ok.own h1
 have e2:=h.os.own h2
 rw [e,e2] at e1
 have e3:=congrArg (fun o:Option AObj=>match o with|some (.cells _ k)=>k.esz|_=>0) e1
 simp at e3
theorem VSt.setR {s:List UInt8} {r:Nat} {H:AHeap} {d:Bool} {i n:Nat} {kids:List BV} {keys:List (List UInt8)} {vk vs:Value} {css:List (List Value)} {jk js:Nat} {Hc:AHeap} (h:VSt s r H d i n kids keys vk vs css jk js Hc)
  (hr:r<H.length) (i' n':Nat):VSt s r H d i' n' kids keys vk vs css jk js (Hc.set r (rdO s i' n')):=by
 have hrl:=lt_of_get h.rd
 have hk:Kept Hc (Hc.set r (rdO s i' n')):=Kept.set h.rd rfl _
 exact ⟨Frm.set h.frm (.inl (by simp)),List.getElem?_set_self hrl,by rw [List.getElem?_set_ne (by omega)];exact h.res,by rw [List.getElem?_set_ne (by omega)];exact h.box,
  h.ok.keep fun hne=>by rw [List.getElem?_set_ne (by have:=h.jkl hne;omega)],h.rl.kept hk,h.os.keep fun hne=>by rw [List.getElem?_set_ne (by have:=h.jsl hne;omega)],h.jkl,h.jsl⟩
theorem VSt.call {s:List UInt8} {r:Nat} {H:AHeap} {d:Bool} {i n:Nat} {kids:List BV} {keys:List (List UInt8)} {vk vs:Value} {css:List (List Value)} {jk js:Nat} {Hc H3:AHeap} (h:VSt s r H d i n kids keys vk vs css jk js Hc)
  (hr:r<H.length) {i' n':Nat} (hf:Frm [r] Hc H3) (hrd:H3[r]? =some (rdO s i' n')):VSt s r H d i' n' kids keys vk vs css jk js H3:=by
 have get:∀j o,Hc[j]? =some o→j≠r→H3[j]? =some o:=fun j o e hne=>hf.get e (by simpa using hne)
 have hk:Kept Hc H3:=Kept.frm hf (fun x hx=>by rw [List.mem_singleton.1 hx];exact ⟨_,_,h.rd,rfl⟩)
 refine ⟨h.frm.trans hf (fun x hx=> .inl hx),hrd,get _ _ h.res (by omega),get _ _ h.box (by omega),h.ok.keep fun hne=> ?_,h.rl.kept hk,h.os.keep fun hne=> ?_,h.jkl,h.jsl⟩
 ·have e:=h.ok.own hne
  rw [e,get _ _ e (by have:=h.jkl hne;omega)]
 ·have e:=h.os.own hne
  rw [e,get _ _ e (by have:=h.jsl hne;omega)]
theorem VSt.more {s:List UInt8} {r:Nat} {H:AHeap} {d:Bool} {i n:Nat} {kids:List BV} {keys:List (List UInt8)} {vk vs:Value} {css:List (List Value)} {jk js:Nat} {Hc:AHeap} (h:VSt s r H d i n kids keys vk vs css jk js Hc)
  (hr:r<H.length) (X:AHeap):VSt s r H d i n kids keys vk vs css jk js (Hc++X):=
 h.call hr Frm.app (by rw [hgetl (lt_of_get h.rd)];exact h.rd)
theorem keyC_snoc (keys:List (List UInt8)) (k:List UInt8):keyC (keys++[k])=keyC keys++[[Value.string (bs k)]]:=by unfold keyC;rw [List.map_append];rfl
theorem VSt.addKid {s:List UInt8} {r:Nat} {H:AHeap} {d:Bool} {i n:Nat} {kids:List BV} {keys:List (List UInt8)} {vk vs:Value} {css:List (List Value)} {jk js:Nat} {Hc:AHeap} (h:VSt s r H d i n kids keys vk vs css jk js Hc)
  (hr:r<H.length) {v:BV} {cs:List Value} (hv:RdV Hc v cs):
  VSt s r H d i n (kids++[v]) keys (.slice (some ⟨Hc.length,0,none⟩) (css.length+1) (css.length+1)) vs (css++[cs]) Hc.length js
   ((grown Hc css jk++[AObj.cells (css++[cs]).flatten ⟨27,5,true,0,none⟩]).set (H.length+1) (vbox d (.slice (some ⟨Hc.length,0,none⟩) (css.length+1) (css.length+1)) vs)):=by
 have hbl:=lt_of_get h.box
 have hrl:=lt_of_get h.rd
 have hal:=lt_of_get h.res
 have hlen:(grown Hc css jk++[AObj.cells (css++[cs]).flatten ⟨27,5,true,0,none⟩]).length=Hc.length+1:=by rw [List.length_append,grown_len];rfl
 have get:∀x,x<Hc.length→(css≠[]→x≠jk)→x≠H.length+1→((grown Hc css jk++[AObj.cells (css++[cs]).flatten ⟨27,5,true,0,none⟩]).set (H.length+1) (vbox d (.slice (some ⟨Hc.length,0,none⟩) (css.length+1) (css.length+1)) vs))[x]? =Hc[x]? :=fun x hx hj hb=>by
  rw [List.getElem?_set_ne (Ne.symm hb),grown_get hx hj]
 have hk:Kept Hc ((grown Hc css jk++[AObj.cells (css++[cs]).flatten ⟨27,5,true,0,none⟩]).set (H.length+1) (vbox d (.slice (some ⟨Hc.length,0,none⟩) (css.length+1) (css.length+1)) vs)):=by
  refine Kept.trans h.ok.grown_kept (Kept.set (cs:= [.int .i64 (if d then 4 else 3),.int .i64 0,.string (bs []),vk,vs]) (k:=⟨27,0,true,0,none⟩) ?_ rfl _)
  rw [grown_get hbl (fun hne=>by have:=h.jkl hne;omega)]
  exact h.box
 refine ⟨?_,?_,?_,?_,?_,(h.rl.snoc hv).kept hk,?_,fun _=>by omega,h.jsl⟩
 ·exact Frm.set (Frm.grown h.frm (fun hne=>by have:=h.jkl hne;omega) _) (.inr (by omega))
 ·rw [get r hrl (fun hne=>by have:=h.jkl hne;omega) (by omega)];exact h.rd
 ·rw [get _ hal (fun hne=>by have:=h.jkl hne;omega) (by omega)];exact h.res
 ·exact List.getElem?_set_self (by rw [hlen];omega)
 ·refine .inr ⟨by simp,by simp,?_⟩
  rw [List.getElem?_set_ne (by omega),hget0 grown_len];rfl
 ·refine h.os.keep fun hne=> ?_
  have hjs:=lt_of_get (h.os.own hne)
  rw [get _ hjs (fun hne'=>Ne.symm (h.ne hne' hne)) (by have:=h.jsl hne;omega)]
theorem VSt.addKey {s:List UInt8} {r:Nat} {H:AHeap} {d:Bool} {i n:Nat} {kids:List BV} {keys:List (List UInt8)} {vk vs:Value} {css:List (List Value)} {jk js:Nat} {Hc:AHeap} (h:VSt s r H d i n kids keys vk vs css jk js Hc)
  (hr:r<H.length) (k:List UInt8):
  VSt s r H d i n kids (keys++[k]) vk (.slice (some ⟨Hc.length,0,none⟩) ((keyC keys).length+1) ((keyC keys).length+1)) css jk Hc.length
   ((grown Hc (keyC keys) js++[AObj.cells (keyC keys++[[Value.string (bs k)]]).flatten ⟨9,1,true,0,none⟩]).set (H.length+1) (vbox d vk (.slice (some ⟨Hc.length,0,none⟩) ((keyC keys).length+1) ((keyC keys).length+1)))):=by
 have hbl:=lt_of_get h.box
 have hrl:=lt_of_get h.rd
 have hal:=lt_of_get h.res
 have hlen:(grown Hc (keyC keys) js++[AObj.cells (keyC keys++[[Value.string (bs k)]]).flatten ⟨9,1,true,0,none⟩]).length=Hc.length+1:=by rw [List.length_append,grown_len];rfl
 have get:∀x,x<Hc.length→(keyC keys≠[]→x≠js)→x≠H.length+1→((grown Hc (keyC keys) js++[AObj.cells (keyC keys++[[Value.string (bs k)]]).flatten ⟨9,1,true,0,none⟩]).set (H.length+1) (vbox d vk (.slice (some ⟨Hc.length,0,none⟩) ((keyC keys).length+1) ((keyC keys).length+1))))[x]? =Hc[x]? :=fun x hx hj hb=>by
  rw [List.getElem?_set_ne (Ne.symm hb),grown_get hx hj]
 have hk:Kept Hc ((grown Hc (keyC keys) js++[AObj.cells (keyC keys++[[Value.string (bs k)]]).flatten ⟨9,1,true,0,none⟩]).set (H.length+1) (vbox d vk (.slice (some ⟨Hc.length,0,none⟩) ((keyC keys).length+1) ((keyC keys).length+1)))):=by
  refine Kept.trans h.os.grown_kept (Kept.set (cs:= [.int .i64 (if d then 4 else 3),.int .i64 0,.string (bs []),vk,vs]) (k:=⟨27,0,true,0,none⟩) ?_ rfl _)
  rw [grown_get hbl (fun hne=>by have:=h.jsl hne;omega)]
  exact h.box
 refine ⟨?_,?_,?_,?_,?_,h.rl.kept hk,?_,h.jkl,fun _=>by omega⟩
 ·exact Frm.set (Frm.grown h.frm (fun hne=>by have:=h.jsl hne;omega) _) (.inr (by omega))
 ·rw [get r hrl (fun hne=>by have:=h.jsl hne;omega) (by omega)];exact h.rd
 ·rw [get _ hal (fun hne=>by have:=h.jsl hne;omega) (by omega)];exact h.res
 ·exact List.getElem?_set_self (by rw [hlen];omega)
 ·refine h.ok.keep fun hne=> ?_
  have hjk:=lt_of_get (h.ok.own hne)
  rw [get _ hjk (fun hne'=>h.ne hne hne') (by have:=h.jkl hne;omega)]
 ·rw [keyC_snoc]
  refine .inr ⟨by simp,by simp,?_⟩
  rw [List.getElem?_set_ne (by omega),hget0 grown_len];rfl
end Go.Proofs.YthcdjconlfdidaaGreatDoor
