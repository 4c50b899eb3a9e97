/-
 The walk of what fits,whole:Valid and Format.
-/
import Derived.Test.YthcdjconlfdidaaGreatDoorDW
set_option linter.unusedVariables false
set_option linter.unusedSimpArgs false
set_option maxRecDepth 20000
set_option maxHeartbeats 4000000
namespace Go.Proofs.YthcdjconlfdidaaGreatDoor
open Go Go.Aw Go.Proofs
mutual
def szV:BV→Prop
 | .mk k n s kids keys=>kids.length≤1099511627776∧keys.length<1099511627776∧szL kids
def szL:List BV→Prop
 |[]=>True
 |v::l=>szV v∧szL l
end
theorem szL_iff:∀{l:List BV},szL l↔∀c∈l,szV c
 |[]=>by simp [szL]
 |v::l=>by simp [szL,szL_iff (l:=l)]
theorem fitV_none {lv c b:Nat} {k n:Int} {s:List UInt8} {kids:List BV} {keys:List (List UInt8)} (h:lv=0∨1000<c+1∨shapeB (.mk k n s kids keys)=false):fitV lv c b (.mk k n s kids keys)=none:=by
 unfold fitV
 rw [if_pos h]
theorem fits (v:BV):szV v→v.nums→∀(lv c b r:Nat) (H:AHeap) (cs:List Value),lv≤12→c≤1000→b+v.write.length≤1099511627776→H[r]? =some (szO c b)→RdV H v cs→TabH H→
  AC Tryz.prog 36 [.pointer (some ⟨r,0,none⟩),.agg ⟨cs⟩,.int .i64 (lv:Nat)] H (FitP H r (fitV lv c b v)):=by
 refine BV.ind (P:=fun v=>szV v→v.nums→∀(lv c b r:Nat) (H:AHeap) (cs:List Value),lv≤12→c≤1000→b+v.write.length≤1099511627776→H[r]? =some (szO c b)→RdV H v cs→TabH H→
  AC Tryz.prog 36 [.pointer (some ⟨r,0,none⟩),.agg ⟨cs⟩,.int .i64 (lv:Nat)] H (FitP H r (fitV lv c b v))) (fun k n s kids keys ih hs hn lv c b r H cs hlv hc hb hr hR hT=> ?_) v
 unfold szV at hs
 obtain ⟨hs1,hs2,hs3⟩:=hs
 unfold BV.nums at hn
 by_cases h1:lv=0∨1000<c+1∨k<1∨k>4
 ·rw [fitV_none]
  ·exact fits0 k n s kids keys hs1 hs2 lv c b r hlv hc H hr cs hR h1
  ·rcases h1 with h|h|h
   ·exact .inl h
   ·exact .inr (.inl h)
   ·refine .inr (.inr ?_)
    unfold shapeB
    dsimp only
    rw [if_neg (by omega),if_neg (by omega),if_neg (by omega),if_neg (by omega)]
 ·have hk1:k=1∨k=2∨k=3∨k=4:=by omega
  cases hb2:shapeB (.mk k n s kids keys) with
  |false=>
   rw [fitV_none (.inr (.inr hb2))]
   exact fits1 k n s kids keys hs1 hs2 lv c b r hlv hc H hr cs hR (by omega) (by omega) hk1 hb2
  |true=>
   refine fits2 k n s kids keys hs1 hs2 lv c b r hlv hc H hr cs hR (by omega) (by omega) hk1 hb2 hT hn.1.1 hn.1.2 hb (fun v hv c b r H cs h1 h2 h3 h4 h5=> ?_)
   exact ih v hv (szL_iff.1 hs3 v hv) (BV.numsL_iff.1 hn.2 v hv) (lv - 1) c b r H cs (by omega) h1 h2 h3 h4 h5
theorem fits_0 (v:BV) (h1:szV v) (h2:v.nums) (h3:v.write.length≤1099511627776):Fits0 v:=fun r H cs hr hR hT=>
 fits v h1 h2 12 0 0 r H cs (Nat.le_refl _) (Nat.zero_le _) (by omega) hr hR hT
structure Fine (v:BV):Prop where
 sz:szV v
 nums:v.nums
 len:v.write.length≤1099511627776
theorem valid_ (v:BV) (h:Fine v) (H:AHeap) (cs:List Value) (hR:RdV H v cs) (hT:TabH H):AC Tryz.prog 33 [.agg ⟨cs⟩] H (fun r H2=>r= .ret (.bool v.valid)∧Frm [] H H2):=
 validW v (fits_0 v h.sz h.nums h.len) H cs hR hT
theorem format_ (v:BV) (h:Fine v) (H:AHeap) (cs:List Value) (hR:RdV H v cs) (hT:TabH H):
  AC Tryz.prog 28 [.agg ⟨cs⟩] H (fun r H2=>r= .ret (.tuple ⟨[.string (bs (formatR v).1),.int .i64 (formatR v).2]⟩)∧Frm [] H H2):=
 formatW v (fits_0 v h.sz h.nums h.len) h.nums H cs hR hT
theorem sz_of_form (v:BV):v.form=true→v.write.length≤1099511627775→szV v:=by
 refine BV.ind (P:=fun v=>v.form=true→v.write.length≤1099511627775→szV v) (fun k n s kids keys ih hf hl=> ?_) v
 rw [form_shape,Bool.and_eq_true] at hf
 have hw:=write_len k n s kids keys hf.1
 have hg:=writeL_ge kids
 have hkw:keys.length≤keysW keys:=by
  clear hf hw hl
  unfold keysW
  induction keys with
  |nil=>simp
  |cons x l ih=>
   rw [List.map_cons,List.sum_cons,List.length_cons,wText_len]
   omega
 unfold szV
 refine ⟨by omega,by omega,szL_iff.2 fun c hc=>ih c hc (BV.formL_iff.1 hf.2 c hc) ?_⟩
 have:c.write.length≤(BV.writeL kids).length:=by
  clear hf hw hl hg ih
  induction kids with
  |nil=>cases hc
  |cons x l ih=>
   have e:(BV.writeL (x::l)).length=x.write.length+(BV.writeL l).length:=by simp only [BV.writeL,List.length_append]
   rcases List.mem_cons.1 hc with rfl|hc
   ·omega
   ·have:=ih hc;omega
 omega
end Go.Proofs.YthcdjconlfdidaaGreatDoor
