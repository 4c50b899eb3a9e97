/-
  A part of the proof of a statement of this seat.
-/
import Derived.Test.YthcdjconlfdidaaGreatDoorQAM
import Derived.Test.YthcdjconlfdidaaGreatDoorDRM
import Derived.Shelf.Strconv.AtoiAll
import Derived.Ground.NamesProg
import Derived.Test.YthcdjconlfdidaaGreatDoorChecked
set_option linter.unusedVariables false
set_option linter.unusedSimpArgs false
set_option maxRecDepth 20000
set_option maxHeartbeats 4000000
namespace Go.Proofs.YthcdjconlfdidaaGreatDoor
open Go Go.Aw Go.Proofs
end Go.Proofs.YthcdjconlfdidaaGreatDoor

set_option linter.unusedVariables false
set_option linter.unusedSimpArgs false
set_option maxHeartbeats 4000000
set_option maxRecDepth 20000
namespace Go.Proofs.YthcdjconlfdidaaGreatDoor
open Go Go.Aw Go.Proofs
theorem lt_trans:∀(x y z:Tx),Op.bytesLess x y=true→Op.bytesLess y z=true→Op.bytesLess x z=true
 |_,[],_,h,_=>by simp [Op.bytesLess] at h
 |_,_::_,[],_,h=>by simp [Op.bytesLess] at h
 |[],_::_,_::_,_,_=>rfl
 | a::x,b::y,c::z,h,h2=>by
  simp only [Op.bytesLess,Bool.or_eq_true,decide_eq_true_eq,Bool.and_eq_true,beq_iff_eq] at h h2 ⊢
  rcases h with h|⟨rfl,h⟩
  ·rcases h2 with h2|⟨rfl,h2⟩
   ·exact .inl (UInt8.lt_trans h h2)
   ·exact .inl h
  ·rcases h2 with h2|⟨rfl,h2⟩
   ·exact .inl h2
   ·exact .inr ⟨rfl,lt_trans x y z h h2⟩
theorem asc_at {l:List Tx} (h:BV.asc l=true):∀(i j:Nat) (x y:Tx),i<j→l[i]? =some x→l[j]? =some y→Op.bytesLess x y=true:=by
 have h2:=((ascF_iff l none).1 h).2
 intro i j
 induction j with
 |zero=>intro x y hij;omega
 | succ j ih=>
  intro x y hij hx hy
  have hjl:j+1<l.length:=(List.getElem?_eq_some_iff.1 hy).1
  have hz:l[j]? =some l[j]:=List.getElem?_eq_getElem (by omega)
  have hzy:=h2 j _ _ hz hy
  rcases Nat.lt_or_ge i j with h3|h3
  ·exact lt_trans _ _ _ (ih x _ h3 hx hz) hzy
  ·obtain rfl:i=j:=by omega
   rw [hx] at hz
   cases hz
   exact hzy
structure Low (l:List Tx) (t:Tx) (i:Nat):Prop where
 le:i≤l.length
 lo:∀j x,j<i→l[j]? =some x→Op.bytesLess x t=true
 hi:∀j x,i≤j→l[j]? =some x→Op.bytesLess x t=false
theorem Low.uniq {l:List Tx} {t:Tx} {i j:Nat} (h:Low l t i) (k:Low l t j):i=j:=by
 rcases Nat.lt_trichotomy i j with hlt|rfl|hlt
 ·have hil:i<l.length:=Nat.lt_of_lt_of_le hlt k.le
  have e:=List.getElem?_eq_getElem hil
  have h1:=k.lo i _ hlt e
  rw [h.hi i _ (Nat.le_refl _) e] at h1
  cases h1
 ·rfl
 ·have hil:j<l.length:=Nat.lt_of_lt_of_le hlt h.le
  have e:=List.getElem?_eq_getElem hil
  have h1:=h.lo j _ hlt e
  rw [k.hi j _ (Nat.le_refl _) e] at h1
  cases h1
theorem low_ex (l:List Tx) (t:Tx) (hasc:BV.asc l=true):∃i,Low l t i:=by
 have key:∀k,k≤l.length→ (∀ j x,j<k→l[j]? =some x→Op.bytesLess x t=true)∨∃i y,i<k∧ (∀ j x,j<i→l[j]? =some x→Op.bytesLess x t=true)∧l[i]? =some y∧Op.bytesLess y t=false:=by
  intro k
  induction k with
  |zero=>intro _;exact .inl fun j x hj=>absurd hj (Nat.not_lt_zero _)
  | succ k ih=>
   intro hk
   rcases ih (by omega) with h|⟨i,y,h1,h2⟩
   ·have e:=List.getElem?_eq_getElem (show k<l.length by omega)
    cases hb:Op.bytesLess l[k] t with
    | true=>
     refine .inl fun j x hj hx=> ?_
     rcases Nat.lt_or_ge j k with h3|h3
     ·exact h j x h3 hx
     ·obtain rfl:j=k:=by omega
      rw [e] at hx;cases hx;exact hb
    |false=>exact .inr ⟨k,_,by omega,h,e,hb⟩
   ·exact .inr ⟨i,y,by omega,h2⟩
 rcases key l.length (Nat.le_refl _) with h|⟨i,y,h1,h2,h3,h4⟩
 ·refine ⟨l.length,Nat.le_refl _,h,fun j x hj hx=> ?_⟩
  have:=(List.getElem?_eq_some_iff.1 hx).1
  omega
 ·refine ⟨i,by omega,h2,fun j x hj hx=> ?_⟩
  rcases Nat.lt_or_ge i j with h5|h5
  ·cases hb:Op.bytesLess x t with
   |false=>rfl
   |true=>rw [lt_trans _ _ _ (asc_at hasc i j _ _ h5 h3 hx) hb] at h4;cases h4
  ·obtain rfl:j=i:=by omega
   rw [h3] at hx;cases hx;exact h4
theorem half (n:Nat) (h:n<9223372036854775808):IntKind.i64.wrap (shrI .u64 ((n:Nat):Int) 1)=((n / 2:Nat):Int):=by
 have e:shrI .u64 ((n:Nat):Int) 1=((n / 2:Nat):Int):=by
  exact shrI_n .u64 n 1 (by decide)
 rw [e,wi64 (by omega)]
theorem isNaN2 (a:List UInt8) (H:AHeap):ARet Tryz.prog 53 [.string (bs a)] H (.bool false) H:=by
 refine AC.enter Tryz.func53 rfl (by kernel_rfl) 6 rfl [.tmp 2] rfl (by simp) fun hsc B=> ?_
 repeat first|with_reducible refine kc ?_|((with_reducible first|refine kr ?_ ?_|refine kt ?_ ?_);exact rfl)|((with_reducible refine kf ?_ ?_);exact rfl)|simp only [go_sem,sevalprocAttr,reduceCtorEq]|simp (disch:=omega) only [wz]|with_reducible_and_instances exact finR|((with_reducible refine finR' ?_ ?_)<;> rfl)|((with_reducible refine finD hsc (NRel.of_plain ?_));exact rfl)
theorem BSearch (l:List Tx) (t:Tx) (hl:l.length≤1099511627776) (hasc:BV.asc l=true) (v:Value) (H:AHeap) (hv:RdK H 1 v (keyC l)):
  ∃i,Low l t i∧ARet Tryz.prog 30 [v,.string (bs t)] H (.tuple ⟨[.int .i64 (i:Nat),.bool (decide (l[i]? =some t))]⟩) H:=by
 obtain ⟨N,hN⟩:∃N,N=l.length:=⟨_,rfl⟩
 have key:AC Tryz.prog 30 [v,.string (bs t)] H (fun r H1=>∃i,Low l t i∧r= .ret (.tuple ⟨[.int .i64 (i:Nat),.bool (decide (l[i]? =some t))]⟩)∧H1=H):=by
  have hkl:(keyC l).length=l.length:=by unfold keyC;simp
  have q1:∀H' K,lenW Tryz.prog 22 v H' K=K (.int .i64 (N:Nat)) H':=fun H' K=>by rw [hv.lenT (by simp only [go_sem,sevalprocAttr,reduceCtorEq]),hkl,hN]
  have hat:∀(j:Nat) (h:j<l.length),∃bi off cap cs k,v= .slice (some ⟨bi,off,none⟩) l.length cap∧H[bi]? =some (.cells cs k)∧cs[off+j]? =some (.string (bs l[j])):=fun j h=>by
   obtain ⟨bi,off,cap,cs,k,e1,e2,e3,-,-,e4,e5⟩:=hv.at_ (keyC_at h)
   rw [hkl] at e1
   refine ⟨bi,off,cap,cs,k,e1,e3,?_⟩
   have h1:=congrArg (fun l=>l[0]?) e5
   simpa using h1
  refine AC.enter Tryz.func30 rfl (by kernel_rfl) 54 rfl [.tmp 4,.tmp 5] rfl (by simp) fun hsc B=> ?_
  repeat first|with_reducible refine kc ?_|((with_reducible first|refine kr ?_ ?_|refine kt ?_ ?_);exact rfl)|((with_reducible refine kf ?_ ?_);exact rfl)|simp only [go_sem,sevalprocAttr,reduceCtorEq,q1]|simp (disch:=omega) only [wz]|with_reducible_and_instances exact finR|((with_reducible refine finR' ?_ ?_)<;> rfl)|((with_reducible refine finD hsc (NRel.of_plain ?_));exact rfl)
  refine AWP.loopP (fun s:Nat×Nat=>⟨[(0,v),(1,.string (bs t)),(6,.int .i64 (N:Nat)),(7,.int .i64 (s.1:Nat)),(8,.int .i64 (s.2:Nat))],[],H⟩)
   (fun s=>s.1≤s.2∧s.2≤N∧ (∀ j x,j<s.1→l[j]? =some x→Op.bytesLess x t=true)∧ (∀ j x,s.2≤j→l[j]? =some x→Op.bytesLess x t=false)) (fun s=>s.2 - s.1) (0,N) ?_ ⟨Nat.zero_le _,Nat.le_refl _,fun j x hj=>absurd hj (Nat.not_lt_zero _),fun j x hj hx=> ?_⟩ ?_
  ·exact Weak.env (by simp [envIn,lk_cons,wth_some])
  ·have:=(List.getElem?_eq_some_iff.1 hx).1
   dsimp only at hj;omega
  rintro ⟨i,j⟩ ⟨g1,g2,g3,g4⟩
  simp only at g1 g2 g3 g4 ⊢
  by_cases hc:i<j
  ·have hc':(i:Int)<(j:Int):=by omega
   have hwij:IntKind.i64.wrap ((i:Int)+(j:Int))=((i+j:Nat):Int):=by rw [wi64 (by omega)];omega
   have hu:IntKind.u64.wrap ((i+j:Nat):Int)=((i+j:Nat):Int):=wu64 (by omega)
   have hh:=half (i+j) (by omega)
   obtain ⟨h,hhe⟩:∃h,h=(i+j) / 2:=⟨_,rfl⟩
   rw [← hhe] at hh
   have hhl:h<l.length:=by omega
   obtain ⟨bi,off,cap,cs,k,rfl,hbi,hcs⟩:=hat h hhl
   have hx0:(0:Int)≤(h:Int):=Int.natCast_nonneg _
   have hx2:(h:Int)<(l.length:Int):=by omega
   have hwh:IntKind.i64.wrap ((h:Int)+1)=((h+1:Nat):Int):=by rw [wi64 (by omega)];omega
   have el:l[h]? =some l[h]:=List.getElem?_eq_getElem hhl
   have hL:=Less l[h] t H
   cases hcmp:Op.bytesLess l[h] t with
   | true=>
    rw [hcmp] at hL
    have hnew:∀j' x,j'<h+1→l[j']? =some x→Op.bytesLess x t=true:=fun j' x hj hx=>by
     rcases Nat.lt_or_ge j' h with h3|h3
     ·exact lt_trans _ _ _ (asc_at hasc j' h _ _ h3 hx el) hcmp
     ·obtain rfl:j'=h:=by omega
      rw [el] at hx;cases hx;exact hcmp
    generalize l[h]=y at*
    repeat first|with_reducible refine kc ?_|((with_reducible first|refine kr ?_ ?_|refine kt ?_ ?_);exact rfl)|((with_reducible refine kf ?_ ?_);exact rfl)|with_reducible refine hL.use ?_|simp only [go_sem,sevalprocAttr,reduceCtorEq,hc',hwij,hu,hh,hbi,hcs,hx0,hx2,hwh]|simp (disch:=omega) only [wz]|with_reducible_and_instances exact finR|((with_reducible refine finR' ?_ ?_)<;> rfl)|((with_reducible refine finD hsc (NRel.of_plain ?_));exact rfl)
    exact ⟨(h+1,j),Weak.env (by simp [envIn,lk_cons,wth_some]),by dsimp only;omega,by dsimp only;omega,hnew,g4,by dsimp only;omega⟩
   | false=>
    rw [hcmp] at hL
    have hnew:∀j' x,h≤j'→l[j']? =some x→Op.bytesLess x t=false:=fun j' x hj hx=>by
     rcases Nat.lt_or_ge h j' with h3|h3
     ·cases hb:Op.bytesLess x t with
      |false=>rfl
      |true=>rw [lt_trans _ _ _ (asc_at hasc h j' _ _ h3 el hx) hb] at hcmp;cases hcmp
     ·obtain rfl:j'=h:=by omega
      rw [el] at hx;cases hx;exact hcmp
    generalize l[h]=y at*
    repeat first|with_reducible refine kc ?_|((with_reducible first|refine kr ?_ ?_|refine kt ?_ ?_);exact rfl)|((with_reducible refine kf ?_ ?_);exact rfl)|with_reducible refine hL.use ?_|simp only [go_sem,sevalprocAttr,reduceCtorEq,hc',hwij,hu,hh,hbi,hcs,hx0,hx2,hwh]|simp (disch:=omega) only [wz]|with_reducible_and_instances exact finR|((with_reducible refine finR' ?_ ?_)<;> rfl)|((with_reducible refine finD hsc (NRel.of_plain ?_));exact rfl)
    exact ⟨(i,h),Weak.env (by simp [envIn,lk_cons,wth_some]),by dsimp only;omega,by dsimp only;omega,g3,hnew,by dsimp only;omega⟩
  ·have hc':¬(i:Int)<(j:Int):=by omega
   obtain rfl:i=j:=by omega
   have hlow:Low l t i:=⟨by omega,g3,g4⟩
   by_cases hi:i<N
   ·have hi':(i:Int)<(N:Int):=by omega
    have hil:i<l.length:=by omega
    obtain ⟨bi,off,cap,cs,k,rfl,hbi,hcs⟩:=hat i hil
    have hx0:(0:Int)≤(i:Int):=Int.natCast_nonneg _
    have hx2:(i:Int)<(l.length:Int):=by omega
    have el:l[i]? =some l[i]:=List.getElem?_eq_getElem hil
    have hn1:=isNaN2 l[i] H
    have hn2:=isNaN2 t H
    have hdec:decide (l[i]? =some t)=(l[i]==t):=by
     rw [el,Bool.eq_iff_iff];simp
    rw [← hN] at*
    generalize l[i]=y at*
    cases he:(y==t) with
    |true=>
     rw [he] at hdec
     repeat first|with_reducible refine kc ?_|((with_reducible first|refine kr ?_ ?_|refine kt ?_ ?_);exact rfl)|((with_reducible refine kf ?_ ?_);exact rfl)|with_reducible (first|refine hn1.use ?_|refine hn2.use ?_)|simp only [go_sem,sevalprocAttr,reduceCtorEq,hc',hi',hbi,hcs,hx0,hx2,he,exists_eq_left]|simp (disch:=omega) only [wz]|with_reducible_and_instances exact finR|((with_reducible refine finR' ?_ ?_)<;> rfl)|((with_reducible refine finD hsc (NRel.of_plain ?_));exact rfl)
     exact ⟨_,_,.refl _ _ _,i,hlow,by rw [hdec],rfl⟩
    |false=>
     rw [he] at hdec
     repeat first|with_reducible refine kc ?_|((with_reducible first|refine kr ?_ ?_|refine kt ?_ ?_);exact rfl)|((with_reducible refine kf ?_ ?_);exact rfl)|with_reducible (first|refine hn1.use ?_|refine hn2.use ?_)|simp only [go_sem,sevalprocAttr,reduceCtorEq,hc',hi',hbi,hcs,hx0,hx2,he,exists_eq_left]|simp (disch:=omega) only [wz]|with_reducible_and_instances exact finR|((with_reducible refine finR' ?_ ?_)<;> rfl)|((with_reducible refine finD hsc (NRel.of_plain ?_));exact rfl)
     exact ⟨_,_,.refl _ _ _,i,hlow,by rw [hdec],rfl⟩
   ·have hi':¬(i:Int)<(N:Int):=by omega
    have hdec:decide (l[i]? =some t)=false:=by
     rw [List.getElem?_eq_none (by omega)];rfl
    repeat first|with_reducible refine kc ?_|((with_reducible first|refine kr ?_ ?_|refine kt ?_ ?_);exact rfl)|((with_reducible refine kf ?_ ?_);exact rfl)|simp only [go_sem,sevalprocAttr,reduceCtorEq,hc',hi',exists_eq_left]|simp (disch:=omega) only [wz]|with_reducible_and_instances exact finR|((with_reducible refine finR' ?_ ?_)<;> rfl)|((with_reducible refine finD hsc (NRel.of_plain ?_));exact rfl)
    exact ⟨_,_,.refl _ _ _,i,hlow,by rw [hdec],rfl⟩
 obtain ⟨i,hi⟩:=low_ex l t hasc
 exact ⟨i,hi,key.mono fun r H1 ⟨i',h1,h2,h3⟩=>by rw [h1.uniq hi] at h2;exact ⟨h2,h3⟩⟩
end Go.Proofs.YthcdjconlfdidaaGreatDoor

namespace Go.Proofs
open Go.Shelf
def Tryz.laysAtoi_ren:Go.Shelf.Ren:=⟨fun|172=>64|244=>84|245=>85|247=>102|279=>103|280=>104|281=>105|282=>106|287=>112|316=>113|171=>44|205=>114|321=>121|322=>122|243=>67|246=>87|283=>107|284=>108|285=>109|286=>110|129=>116|317=>115|318=>117|319=>118|320=>119|337=>123|338=>124|n=>n,fun|9=>9|3=>3|75=>80|76=>81|4=>4|5=>5|167=>111|37=>91|0=>0|85=>112|2=>2|168=>114|53=>118|175=>123|46=>67|210=>126|127=>108|145=>139|143=>137|21=>21|171=>117|173=>121|212=>129|51=>130|20=>20|213=>131|232=>141|233=>142|80=>97|n=>n,fun|15=>0|16=>1|17=>2|18=>3|19=>4|n=>n⟩
theorem Tryz.laysAtoi:Go.Proofs.LaysC.n172 Tryz.prog Tryz.laysAtoi_ren where
 mixed:=by kernel_rfl
 f129:=Tryz.func116.trans (congrArg some (by kernel_rfl))
 f171:=Tryz.func44.trans (congrArg some (by kernel_rfl))
 f172:=Tryz.func64.trans (congrArg some (by kernel_rfl))
 f205:=Tryz.func114.trans (congrArg some (by kernel_rfl))
 f243:=Tryz.func67.trans (congrArg some (by kernel_rfl))
 f244:=Tryz.func84.trans (congrArg some (by kernel_rfl))
 f245:=Tryz.func85.trans (congrArg some (by kernel_rfl))
 f246:=Tryz.func87.trans (congrArg some (by kernel_rfl))
 f247:=Tryz.func102.trans (congrArg some (by kernel_rfl))
 f279:=Tryz.func103.trans (congrArg some (by kernel_rfl))
 f280:=Tryz.func104.trans (congrArg some (by kernel_rfl))
 f281:=Tryz.func105.trans (congrArg some (by kernel_rfl))
 f282:=Tryz.func106.trans (congrArg some (by kernel_rfl))
 f283:=Tryz.func107.trans (congrArg some (by kernel_rfl))
 f284:=Tryz.func108.trans (congrArg some (by kernel_rfl))
 f285:=Tryz.func109.trans (congrArg some (by kernel_rfl))
 f286:=Tryz.func110.trans (congrArg some (by kernel_rfl))
 f287:=Tryz.func112.trans (congrArg some (by kernel_rfl))
 f316:=Tryz.func113.trans (congrArg some (by kernel_rfl))
 f317:=Tryz.func115.trans (congrArg some (by kernel_rfl))
 f318:=Tryz.func117.trans (congrArg some (by kernel_rfl))
 f319:=Tryz.func118.trans (congrArg some (by kernel_rfl))
 f320:=Tryz.func119.trans (congrArg some (by kernel_rfl))
 f321:=Tryz.func121.trans (congrArg some (by kernel_rfl))
 f322:=Tryz.func122.trans (congrArg some (by kernel_rfl))
 f337:=Tryz.func123.trans (congrArg some (by kernel_rfl))
 f338:=Tryz.func124.trans (congrArg some (by kernel_rfl))
 t0:=Tryz.underlying0
 a0:=Tryz.isAgg0
 z0:=Tryz.sizeOf0
 v0:=Tryz.zeroValue0
 t2:=Tryz.underlying2
 a2:=Tryz.isAgg2
 z2:=Tryz.sizeOf2
 v2:=Tryz.zeroValue2
 t3:=Tryz.underlying3
 a3:=Tryz.isAgg3
 z3:=Tryz.sizeOf3
 v3:=Tryz.zeroValue3
 t4:=Tryz.underlying4
 a4:=Tryz.isAgg4
 z4:=Tryz.sizeOf4
 v4:=Tryz.zeroValue4
 t5:=Tryz.underlying5
 a5:=Tryz.isAgg5
 z5:=Tryz.sizeOf5
 v5:=Tryz.zeroValue5
 t9:=Tryz.underlying9
 a9:=Tryz.isAgg9
 z9:=Tryz.sizeOf9
 v9:=Tryz.zeroValue9
 t20:=Tryz.underlying20
 a20:=Tryz.isAgg20
 z20:=Tryz.sizeOf20
 v20:=Tryz.zeroValue20
 t21:=Tryz.underlying21
 a21:=Tryz.isAgg21
 z21:=Tryz.sizeOf21
 v21:=Tryz.zeroValue21
 t37:=Tryz.underlying91
 a37:=Tryz.isAgg91
 z37:=Tryz.sizeOf91
 v37:=Tryz.zeroValue91
 t46:=Tryz.underlying67
 a46:=Tryz.isAgg67
 z46:=Tryz.sizeOf67
 v46:=Tryz.zeroValue67
 t51:=Tryz.underlying130
 a51:=Tryz.isAgg130
 z51:=Tryz.sizeOf130
 v51:=Tryz.zeroValue130
 t53:=Tryz.underlying118
 a53:=Tryz.isAgg118
 z53:=Tryz.sizeOf118
 v53:=Tryz.zeroValue118
 t75:=Tryz.underlying80
 a75:=Tryz.isAgg80
 z75:=Tryz.sizeOf80
 v75:=Tryz.zeroValue80
 t76:=Tryz.underlying81
 a76:=Tryz.isAgg81
 z76:=Tryz.sizeOf81
 v76:=Tryz.zeroValue81
 t85:=Tryz.underlying112
 a85:=Tryz.isAgg112
 z85:=Tryz.sizeOf112
 v85:=Tryz.zeroValue112
 t127:=Tryz.underlying108
 a127:=Tryz.isAgg108
 z127:=Tryz.sizeOf108
 v127:=Tryz.zeroValue108
 t143:=Tryz.underlying137
 a143:=Tryz.isAgg137
 z143:=Tryz.sizeOf137
 v143:=Tryz.zeroValue137
 t145:=Tryz.underlying139
 a145:=Tryz.isAgg139
 z145:=Tryz.sizeOf139
 v145:=Tryz.zeroValue139
 t167:=Tryz.underlying111
 a167:=Tryz.isAgg111
 z167:=Tryz.sizeOf111
 v167:=Tryz.zeroValue111
 t168:=Tryz.underlying114
 a168:=Tryz.isAgg114
 z168:=Tryz.sizeOf114
 v168:=Tryz.zeroValue114
 t171:=Tryz.underlying117
 a171:=Tryz.isAgg117
 z171:=Tryz.sizeOf117
 v171:=Tryz.zeroValue117
 t173:=Tryz.underlying121
 a173:=Tryz.isAgg121
 z173:=Tryz.sizeOf121
 v173:=Tryz.zeroValue121
 t175:=Tryz.underlying123
 a175:=Tryz.isAgg123
 z175:=Tryz.sizeOf123
 v175:=Tryz.zeroValue123
 t210:=Tryz.underlying126
 a210:=Tryz.isAgg126
 z210:=Tryz.sizeOf126
 v210:=Tryz.zeroValue126
 t212:=Tryz.underlying129
 a212:=Tryz.isAgg129
 z212:=Tryz.sizeOf129
 v212:=Tryz.zeroValue129
 t213:=Tryz.underlying131
 a213:=Tryz.isAgg131
 z213:=Tryz.sizeOf131
 t232:=Tryz.underlying141
 a232:=Tryz.isAgg141
 z232:=Tryz.sizeOf141
 v232:=Tryz.zeroValue141
 t233:=Tryz.underlying142
 a233:=Tryz.isAgg142
 z233:=Tryz.sizeOf142
 v233:=Tryz.zeroValue142
 g15:=by kernel_rfl
 g16:=by kernel_rfl
 g17:=by kernel_rfl
 g18:=by kernel_rfl
 g19:=by kernel_rfl
 t80:=Tryz.underlying97
 a80:=Tryz.isAgg97
 z80:=Tryz.sizeOf97
 v80:=Tryz.zeroValue97
 i0:=by kernel_rfl
 i2:=by kernel_rfl
 i3:=by kernel_rfl
 i4:=by kernel_rfl
 i5:=by kernel_rfl
 i9:=by kernel_rfl
 i20:=by kernel_rfl
 i21:=by kernel_rfl
 i37:=by kernel_rfl
 i46:=by kernel_rfl
 i51:=by kernel_rfl
 i53:=by kernel_rfl
 i75:=by kernel_rfl
 i76:=by kernel_rfl
 i80:=by kernel_rfl
 i85:=by kernel_rfl
 i127:=by kernel_rfl
 i143:=by kernel_rfl
 i145:=by kernel_rfl
 i167:=by kernel_rfl
 i168:=by kernel_rfl
 i171:=by kernel_rfl
 i173:=by kernel_rfl
 i175:=by kernel_rfl
 i210:=by kernel_rfl
 i212:=by kernel_rfl
 i232:=by kernel_rfl
 i233:=by kernel_rfl
 m15:=by kernel_rfl
 m16:=by kernel_rfl
 m17:=by kernel_rfl
 m18:=by kernel_rfl
 m19:=by kernel_rfl
 c0:=by kernel_rfl
 c2:=by kernel_rfl
 c3:=by kernel_rfl
 c4:=by kernel_rfl
 c5:=by kernel_rfl
 c9:=by kernel_rfl
 c20:=by kernel_rfl
 c21:=by kernel_rfl
 c37:=by kernel_rfl
 c46:=by kernel_rfl
 c51:=by kernel_rfl
 c53:=by kernel_rfl
 c75:=by kernel_rfl
 c76:=by kernel_rfl
 c80:=by kernel_rfl
 c85:=by kernel_rfl
 c127:=by kernel_rfl
 c143:=by kernel_rfl
 c145:=by kernel_rfl
 c167:=by kernel_rfl
 c168:=by kernel_rfl
 c171:=by kernel_rfl
 c173:=by kernel_rfl
 c175:=by kernel_rfl
 c210:=by kernel_rfl
 c212:=by kernel_rfl
 c213:=by kernel_rfl
 c232:=by kernel_rfl
 c233:=by kernel_rfl
end Go.Proofs
