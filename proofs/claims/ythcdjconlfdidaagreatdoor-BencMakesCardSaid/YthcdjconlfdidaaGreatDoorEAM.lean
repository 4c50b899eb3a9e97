/-
  A part of the proof of a statement of this seat.
-/
import Derived.Test.YthcdjconlfdidaaGreatDoorD3
import Derived.Test.YthcdjconlfdidaaGreatDoorDBM
import Derived.Test.YthcdjconlfdidaaGreatDoorD6
import Derived.Test.YthcdjconlfdidaaGreatDoorDCM
set_option linter.unusedVariables false
set_option linter.unusedSimpArgs false
set_option maxRecDepth 20000
set_option maxHeartbeats 4000000
namespace Go.Proofs.YthcdjconlfdidaaGreatDoor
open Go Go.Aw Go.Proofs
end Go.Proofs.YthcdjconlfdidaaGreatDoor

set_option linter.unusedVariables false
set_option linter.unusedSimpArgs false
set_option maxRecDepth 20000
set_option maxHeartbeats 4000000
namespace Go.Proofs.YthcdjconlfdidaaGreatDoor
open Go Go.Aw Go.Proofs
end Go.Proofs.YthcdjconlfdidaaGreatDoor

set_option linter.unusedVariables false
set_option linter.unusedSimpArgs false
set_option maxRecDepth 20000
set_option maxHeartbeats 4000000
namespace Go.Proofs.YthcdjconlfdidaaGreatDoor
open Go Go.Aw Go.Proofs
def rqO (o:List Value):AObj:= .cells o ⟨54,0,true,0,none⟩
structure VSq (r:Nat) (H:AHeap) (d:Bool) (o:List Value) (kids:List BV) (keys:List (List UInt8)) (vk vs:Value) (css:List (List Value)) (jk js:Nat) (Hc:AHeap):Prop where
 frm:Frm [r] H Hc
 rd:Hc[r]? =some (rqO o)
 res:Hc[H.length]? =some (.cells [.int .i64 0,.int .i64 0,.string (bs []),.slice none 0 0,.slice none 0 0] ⟨27,0,true,0,none⟩)
 box:Hc[H.length+1]? =some (vbox d vk vs)
 ok:OwnR Hc 27 5 css vk jk
 rl:RdL Hc kids css
 os:OwnR Hc 9 1 (keyC keys) vs js
 jkl:css≠[]→H.length+2≤jk
 jsl:keyC keys≠[]→H.length+2≤js
theorem VSq.ne {r:Nat} {H:AHeap} {d:Bool} {o:List Value} {kids:List BV} {keys:List (List UInt8)} {vk vs:Value} {css:List (List Value)} {jk js:Nat} {Hc:AHeap} (h:VSq r H d o kids keys vk vs css jk js Hc)
  (h1:css≠[]) (h2:keyC keys≠[]):jk≠js:=fun e=>by
 have e1:=h.ok.own h1
 have e2:=h.os.own h2
 rw [e,e2] at e1
 have e3:=congrArg (fun o:Option AObj=>match o with|some (.cells _ k)=>k.esz|_=>0) e1
 simp at e3
theorem VSq.setR {r:Nat} {H:AHeap} {d:Bool} {o:List Value} {kids:List BV} {keys:List (List UInt8)} {vk vs:Value} {css:List (List Value)} {jk js:Nat} {Hc:AHeap} (h:VSq r H d o kids keys vk vs css jk js Hc)
  (hr:r<H.length) (o':List Value):VSq r H d o' kids keys vk vs css jk js (Hc.set r (rqO o')):=by
 have hrl:=lt_of_get h.rd
 have hk:Kept Hc (Hc.set r (rqO o')):=Kept.set h.rd rfl _
 exact ⟨Frm.set h.frm (.inl (by simp)),List.getElem?_set_self hrl,by rw [List.getElem?_set_ne (by omega)];exact h.res,by rw [List.getElem?_set_ne (by omega)];exact h.box,
  h.ok.keep fun hne=>by rw [List.getElem?_set_ne (by have:=h.jkl hne;omega)],h.rl.kept hk,h.os.keep fun hne=>by rw [List.getElem?_set_ne (by have:=h.jsl hne;omega)],h.jkl,h.jsl⟩
theorem VSq.call {r:Nat} {H:AHeap} {d:Bool} {o:List Value} {kids:List BV} {keys:List (List UInt8)} {vk vs:Value} {css:List (List Value)} {jk js:Nat} {Hc H3:AHeap} (h:VSq r H d o kids keys vk vs css jk js Hc)
  (hr:r<H.length) {o':List Value} (hf:Frm [r] Hc H3) (hrd:H3[r]? =some (rqO o')):VSq r H d o' kids keys vk vs css jk js H3:=by
 have get:∀j o,Hc[j]? =some o→j≠r→H3[j]? =some o:=fun j o e hne=>hf.get e (by simpa using hne)
 have hk:Kept Hc H3:=Kept.frm hf (fun x hx=>by rw [List.mem_singleton.1 hx];exact ⟨_,_,h.rd,rfl⟩)
 refine ⟨h.frm.trans hf (fun x hx=> .inl hx),hrd,get _ _ h.res (by omega),get _ _ h.box (by omega),h.ok.keep fun hne=> ?_,h.rl.kept hk,h.os.keep fun hne=> ?_,h.jkl,h.jsl⟩
 ·have e:=h.ok.own hne
  rw [e,get _ _ e (by have:=h.jkl hne;omega)]
 ·have e:=h.os.own hne
  rw [e,get _ _ e (by have:=h.jsl hne;omega)]
theorem VSq.more {r:Nat} {H:AHeap} {d:Bool} {o:List Value} {kids:List BV} {keys:List (List UInt8)} {vk vs:Value} {css:List (List Value)} {jk js:Nat} {Hc:AHeap} (h:VSq r H d o kids keys vk vs css jk js Hc)
  (hr:r<H.length) (X:AHeap):VSq r H d o kids keys vk vs css jk js (Hc++X):=
 h.call hr Frm.app (by rw [hgetl (lt_of_get h.rd)];exact h.rd)
theorem VSq.addKid {r:Nat} {H:AHeap} {d:Bool} {o:List Value} {kids:List BV} {keys:List (List UInt8)} {vk vs:Value} {css:List (List Value)} {jk js:Nat} {Hc:AHeap} (h:VSq r H d o kids keys vk vs css jk js Hc)
  (hr:r<H.length) {v:BV} {cs:List Value} (hv:RdV Hc v cs):
  VSq r H d o (kids++[v]) keys (.slice (some ⟨Hc.length,0,none⟩) (css.length+1) (css.length+1)) vs (css++[cs]) Hc.length js
   ((grown Hc css jk++[AObj.cells (css++[cs]).flatten ⟨27,5,true,0,none⟩]).set (H.length+1) (vbox d (.slice (some ⟨Hc.length,0,none⟩) (css.length+1) (css.length+1)) vs)):=by
 have hbl:=lt_of_get h.box
 have hrl:=lt_of_get h.rd
 have hal:=lt_of_get h.res
 have hlen:(grown Hc css jk++[AObj.cells (css++[cs]).flatten ⟨27,5,true,0,none⟩]).length=Hc.length+1:=by rw [List.length_append,grown_len];rfl
 have get:∀x,x<Hc.length→(css≠[]→x≠jk)→x≠H.length+1→((grown Hc css jk++[AObj.cells (css++[cs]).flatten ⟨27,5,true,0,none⟩]).set (H.length+1) (vbox d (.slice (some ⟨Hc.length,0,none⟩) (css.length+1) (css.length+1)) vs))[x]? =Hc[x]? :=fun x hx hj hb=>by
  rw [List.getElem?_set_ne (Ne.symm hb),grown_get hx hj]
 have hk:Kept Hc ((grown Hc css jk++[AObj.cells (css++[cs]).flatten ⟨27,5,true,0,none⟩]).set (H.length+1) (vbox d (.slice (some ⟨Hc.length,0,none⟩) (css.length+1) (css.length+1)) vs)):=by
  refine Kept.trans h.ok.grown_kept (Kept.set (cs:= [.int .i64 (if d then 4 else 3),.int .i64 0,.string (bs []),vk,vs]) (k:=⟨27,0,true,0,none⟩) ?_ rfl _)
  rw [grown_get hbl (fun hne=>by have:=h.jkl hne;omega)]
  exact h.box
 refine ⟨?_,?_,?_,?_,?_,(h.rl.snoc hv).kept hk,?_,fun _=>by omega,h.jsl⟩
 ·exact Frm.set (Frm.grown h.frm (fun hne=>by have:=h.jkl hne;omega) _) (.inr (by omega))
 ·rw [get r hrl (fun hne=>by have:=h.jkl hne;omega) (by omega)];exact h.rd
 ·rw [get _ hal (fun hne=>by have:=h.jkl hne;omega) (by omega)];exact h.res
 ·exact List.getElem?_set_self (by rw [hlen];omega)
 ·refine .inr ⟨by simp,by simp,?_⟩
  rw [List.getElem?_set_ne (by omega),hget0 grown_len];rfl
 ·refine h.os.keep fun hne=> ?_
  have hjs:=lt_of_get (h.os.own hne)
  rw [get _ hjs (fun hne'=>Ne.symm (h.ne hne' hne)) (by have:=h.jsl hne;omega)]
theorem VSq.addKey {r:Nat} {H:AHeap} {d:Bool} {o:List Value} {kids:List BV} {keys:List (List UInt8)} {vk vs:Value} {css:List (List Value)} {jk js:Nat} {Hc:AHeap} (h:VSq r H d o kids keys vk vs css jk js Hc)
  (hr:r<H.length) (k:List UInt8):
  VSq r H d o kids (keys++[k]) vk (.slice (some ⟨Hc.length,0,none⟩) ((keyC keys).length+1) ((keyC keys).length+1)) css jk Hc.length
   ((grown Hc (keyC keys) js++[AObj.cells (keyC keys++[[Value.string (bs k)]]).flatten ⟨9,1,true,0,none⟩]).set (H.length+1) (vbox d vk (.slice (some ⟨Hc.length,0,none⟩) ((keyC keys).length+1) ((keyC keys).length+1)))):=by
 have hbl:=lt_of_get h.box
 have hrl:=lt_of_get h.rd
 have hal:=lt_of_get h.res
 have hlen:(grown Hc (keyC keys) js++[AObj.cells (keyC keys++[[Value.string (bs k)]]).flatten ⟨9,1,true,0,none⟩]).length=Hc.length+1:=by rw [List.length_append,grown_len];rfl
 have get:∀x,x<Hc.length→(keyC keys≠[]→x≠js)→x≠H.length+1→((grown Hc (keyC keys) js++[AObj.cells (keyC keys++[[Value.string (bs k)]]).flatten ⟨9,1,true,0,none⟩]).set (H.length+1) (vbox d vk (.slice (some ⟨Hc.length,0,none⟩) ((keyC keys).length+1) ((keyC keys).length+1))))[x]? =Hc[x]? :=fun x hx hj hb=>by
  rw [List.getElem?_set_ne (Ne.symm hb),grown_get hx hj]
 have hk:Kept Hc ((grown Hc (keyC keys) js++[AObj.cells (keyC keys++[[Value.string (bs k)]]).flatten ⟨9,1,true,0,none⟩]).set (H.length+1) (vbox d vk (.slice (some ⟨Hc.length,0,none⟩) ((keyC keys).length+1) ((keyC keys).length+1)))):=by
  refine Kept.trans h.os.grown_kept (Kept.set (cs:= [.int .i64 (if d then 4 else 3),.int .i64 0,.string (bs []),vk,vs]) (k:=⟨27,0,true,0,none⟩) ?_ rfl _)
  rw [grown_get hbl (fun hne=>by have:=h.jsl hne;omega)]
  exact h.box
 refine ⟨?_,?_,?_,?_,?_,h.rl.kept hk,?_,h.jkl,fun _=>by omega⟩
 ·exact Frm.set (Frm.grown h.frm (fun hne=>by have:=h.jsl hne;omega) _) (.inr (by omega))
 ·rw [get r hrl (fun hne=>by have:=h.jsl hne;omega) (by omega)];exact h.rd
 ·rw [get _ hal (fun hne=>by have:=h.jsl hne;omega) (by omega)];exact h.res
 ·exact List.getElem?_set_self (by rw [hlen];omega)
 ·refine h.ok.keep fun hne=> ?_
  have hjk:=lt_of_get (h.ok.own hne)
  rw [get _ hjk (fun hne'=>h.ne hne hne') (by have:=h.jkl hne;omega)]
 ·rw [keyC_snoc]
  refine .inr ⟨by simp,by simp,?_⟩
  rw [List.getElem?_set_ne (by omega),hget0 grown_len];rfl
end Go.Proofs.YthcdjconlfdidaaGreatDoor

set_option linter.unusedVariables false
set_option linter.unusedSimpArgs false
set_option maxRecDepth 20000
set_option maxHeartbeats 4000000
namespace Go.Proofs.YthcdjconlfdidaaGreatDoor
open Go Go.Aw Go.Proofs
end Go.Proofs.YthcdjconlfdidaaGreatDoor

set_option linter.unusedVariables false
set_option linter.unusedSimpArgs false
set_option maxRecDepth 20000
set_option maxHeartbeats 8000000
namespace Go.Proofs.YthcdjconlfdidaaGreatDoor
open Go Go.Aw Go.Proofs
theorem VSq.freeze {r:Nat} {H:AHeap} {d:Bool} {o:List Value} {kids:List BV} {keys:List (List UInt8)} {vk vs:Value} {css:List (List Value)} {jk js:Nat} {Hc:AHeap} (hV:VSq r H d o kids keys vk vs css jk js Hc) (hr:r<H.length):
  ∃H3,(∀ n0 env ds,Weak n0 ⟨env,ds,Hc⟩ ⟨env,ds,H3⟩)∧RdK H3 5 vk css∧RdL H3 kids css∧RdK H3 1 vs (keyC keys)∧Frm [r] H H3∧H3[r]? =some (rqO o)∧
   H3[H.length]? =some (.cells [.int .i64 0,.int .i64 0,.string (bs []),.slice none 0 0,.slice none 0 0] ⟨27,0,true,0,none⟩)∧H3[H.length+1]? =some (vbox d vk vs):=by
 obtain ⟨H2,hW2,hR2,hln2,hg2,hk2⟩:=hV.ok.freeze hV.rl.all5
 have hos2:OwnR H2 9 1 (keyC keys) vs js:=hV.os.keep fun hne=>hg2 _ fun hne'=>Ne.symm (hV.ne hne' hne)
 obtain ⟨H3,hW3,hR3,hln3,hg3,hk3⟩:=hos2.freeze (fun x hx=>by
  obtain ⟨y,_,rfl⟩:=List.mem_map.1 hx;rfl)
 have get:∀x,(css≠[]→x≠jk)→(keyC keys≠[]→x≠js)→H3[x]? =Hc[x]? :=fun x h1 h2=>(hg3 x h2).trans (hg2 x h1)
 have hnj:∀x,x<H.length+2→H3[x]? =Hc[x]? :=fun x hx=>get x (fun h=>by have:=hV.jkl h;omega) (fun h=>by have:=hV.jsl h;omega)
 exact ⟨H3,fun n0 env ds=>(hW2 _ _ _).trans (hW3 _ _ _),hR2.kept hk3,hV.rl.kept (hk2.trans hk3),hR3,⟨by rw [hln3,hln2];exact hV.frm.1,fun j hj hne=>by rw [hnj j (by omega)];exact hV.frm.2 j hj hne⟩,
  by rw [hnj r (by omega)];exact hV.rd,by rw [hnj _ (by omega)];exact hV.res,by rw [hnj _ (by omega)];exact hV.box⟩
end Go.Proofs.YthcdjconlfdidaaGreatDoor

set_option linter.unusedVariables false
set_option linter.unusedSimpArgs false
set_option maxRecDepth 20000
set_option maxHeartbeats 4000000
namespace Go.Proofs.YthcdjconlfdidaaGreatDoor
open Go Go.Aw Go.Proofs
end Go.Proofs.YthcdjconlfdidaaGreatDoor
