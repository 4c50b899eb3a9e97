/-
  A part of the proof of a statement of this seat.
-/
import Derived.Test.YthcdjconlfdidaaGreatDoorDOM
import Derived.Test.YthcdjconlfdidaaGreatDoorDQ
import Derived.Test.YthcdjconlfdidaaGreatDoorCCM
set_option linter.unusedVariables false
set_option linter.unusedSimpArgs false
namespace Go.Proofs.YthcdjconlfdidaaGreatDoor
open Go Go.Aw Go.Proofs
theorem lt_irr:∀(x:Tx),Op.bytesLess x x=false
  |[]=>rfl
  |a::x=>by simp [Op.bytesLess,lt_irr x]
theorem lt_asym:∀(x y:Tx),Op.bytesLess x y=true→Op.bytesLess y x=false
  |_,[],h=>by simp [Op.bytesLess] at h
  |[],_::_,h=>rfl
  | a::x,b::y,h=>by
    simp only [Op.bytesLess,Bool.or_eq_true,decide_eq_true_eq,Bool.and_eq_true,beq_iff_eq] at h
    simp only [Op.bytesLess,Bool.or_eq_false_iff,decide_eq_false_iff_not,Bool.and_eq_false_iff,beq_eq_false_iff_ne]
    rcases h with h|⟨rfl,h⟩
    · exact ⟨fun h2=>absurd (UInt8.lt_trans h h2) (UInt8.lt_irrefl _),.inl fun e=>by rw [e] at h;exact UInt8.lt_irrefl _ h⟩
    · exact ⟨UInt8.lt_irrefl _,.inr (lt_asym x y h)⟩
theorem lt_tri:∀(x y:Tx),Op.bytesLess x y=false→Op.bytesLess y x=false→x=y
  |[],[],_,_=>rfl
  |[],_::_,h,_=>by simp [Op.bytesLess] at h
  |_::_,[],_,h=>by simp [Op.bytesLess] at h
  | a::x,b::y,h,h2=>by
    simp only [Op.bytesLess,Bool.or_eq_false_iff,decide_eq_false_iff_not,Bool.and_eq_false_iff,beq_eq_false_iff_ne] at h h2
    have e:a=b:=UInt8.le_antisymm (UInt8.not_lt.1 h2.1) (UInt8.not_lt.1 h.1)
    subst e
    have h3:Op.bytesLess x y=false:=h.2.resolve_left (fun hn=>hn rfl)
    have h4:Op.bytesLess y x=false:=h2.2.resolve_left (fun hn=>hn rfl)
    rw [lt_tri x y h3 h4]
theorem ascF_iff:∀(l:List Tx) (o:Option Tx),BV.ascF o l=true↔ (∀ b x,o=some b→l[0]? =some x→Op.bytesLess b x=true)∧∀i x y,l[i]? =some x→l[i+1]? =some y→Op.bytesLess x y=true
  |[],o=>by simp [BV.ascF]
  | k ::ks,o=>by
    unfold BV.ascF
    rw [Bool.and_eq_true,ascF_iff ks (some k)]
    constructor
    · rintro ⟨h1,h2,h3⟩
      refine ⟨fun b x hb hx=> ?_,fun i x y hx hy=> ?_⟩
      · subst hb
        cases hx
        exact h1
      · cases i with
        |zero=>cases hx;exact h2 _ _ rfl hy
        |succ i=>exact h3 i x y hx hy
    · rintro ⟨h1,h2⟩
      refine ⟨?_,fun b x hb hx=> ?_,fun i x y hx hy=>h2 (i+1) x y hx hy⟩
      · cases o with
        |none=>rfl
        |some b=>exact h1 b k rfl rfl
      · cases hb
        exact h2 0 _ _ rfl hx
theorem srt_iff (l:List Tx):∀N,N<l.length∨N=0→(srt l N=true↔∀i x y,i<N→l[i]? =some x→l[i+1]? =some y→Op.bytesLess y x=false)
  |0,_=>by simp [srt]
  | N + 1,h=>by
    have hN:N+1<l.length:=h.resolve_right (by omega)
    have hN0:N<l.length:=by omega
    unfold srt
    rw [List.getD_eq_getElem?_getD,List.getD_eq_getElem?_getD,List.getElem?_eq_getElem hN,List.getElem?_eq_getElem hN0]
    dsimp only [Option.getD_some]
    have ih:=srt_iff l N (.inl hN0)
    constructor
    · intro hh i x y hi hx hy
      split at hh
      · cases hh
      · rename_i hb
        rcases Nat.lt_or_ge i N with h'|h'
        · exact ih.1 hh i x y h' hx hy
        · obtain rfl:i=N:=by omega
          rw [List.getElem?_eq_getElem hN0] at hx
          rw [List.getElem?_eq_getElem hN] at hy
          cases hx;cases hy
          simpa using hb
    · intro hh
      rw [if_neg (by rw [hh N _ _ (by omega) (List.getElem?_eq_getElem hN0) (List.getElem?_eq_getElem hN)];decide)]
      exact ih.2 fun i x y hi hx hy=>hh i x y (by omega) hx hy
theorem cptN_le (l:List Tx):∀n,(cptN l n).length≤n
  |0=>by simp [cptN]
  | n +1=>by
    have:=cptN_le l n
    unfold cptN
    rw [List.length_append]
    split
    · simp;omega
    · have:(l[n]?.toList).length≤1:=by cases l[n]? <;> simp
      omega
theorem cptN_iff (l:List Tx):∀n,n≤l.length→((cptN l n).length=n↔∀i x y,i+1<n→l[i]? =some x→l[i+1]? =some y→x≠y)
  |0,_=>by simp [cptN]
  | n + 1,h=>by
    have ih:=cptN_iff l n (by omega)
    have hle:=cptN_le l n
    have hn:n<l.length:=by omega
    by_cases hc:0<n∧l[n]? =l[n - 1]?
    · have e : cptN l (n + 1) = cptN l n := by conv=>lhs;unfold cptN
                                               rw [if_pos hc,List.append_nil]
      rw [e]
      constructor
      · intro hh;omega
      · intro hh
        have:=hh (n - 1) _ _ (by omega) (List.getElem?_eq_getElem (by omega)) (by rw [show n - 1+1=n by omega];exact List.getElem?_eq_getElem hn)
        have h2:=hc.2
        rw [List.getElem?_eq_getElem hn,List.getElem?_eq_getElem (by omega:n - 1<l.length)] at h2
        exact absurd (Option.some.inj h2).symm this
    · have e:cptN l (n+1)=cptN l n++[l[n]]:=by
        conv=>lhs;unfold cptN
        rw [if_neg hc,List.getElem?_eq_getElem hn];rfl
      rw [e,List.length_append,List.length_singleton]
      constructor
      · intro hh i x y hi hx hy hxy
        rcases Nat.lt_or_ge (i+1) n with h'|h'
        · exact ih.1 (by omega) i x y h' hx hy hxy
        · obtain rfl:n=i+1:=by omega
          apply hc
          refine ⟨by omega,?_⟩
          rw [hy,show i+1 - 1=i by omega,hx,hxy]
      · intro hh
        have:=ih.2 fun i x y hi hx hy=>hh i x y (by omega) hx hy
        omega
theorem asc_iff (l:List Tx):BV.asc l=(srt l (l.length - 1)&&((cptN l l.length).length==l.length)):=by
  rw [Bool.eq_iff_iff,Bool.and_eq_true,beq_iff_eq,cptN_iff l l.length (Nat.le_refl _),srt_iff l _ (by omega)]
  unfold BV.asc
  rw [ascF_iff]
  constructor
  · rintro ⟨-,h⟩
    refine ⟨fun i x y hi hx hy=>lt_asym _ _ (h i x y hx hy),fun i x y hi hx hy e=> ?_⟩
    have:=h i x y hx hy
    rw [e,lt_irr] at this
    cases this
  · rintro ⟨h1,h2⟩
    refine ⟨fun b x hb=>(by cases hb),fun i x y hx hy=> ?_⟩
    have hi:=(List.getElem?_eq_some_iff.1 hy).1
    cases hb:Op.bytesLess x y with
    |true=>rfl
    |false=>exact absurd (lt_tri x y hb (h1 i x y (by omega) hx hy)) (h2 i x y hi hx hy)
end Go.Proofs.YthcdjconlfdidaaGreatDoor

set_option linter.unusedVariables false
set_option linter.unusedSimpArgs false
namespace Go.Proofs.YthcdjconlfdidaaGreatDoor
open Go Go.Aw Go.Proofs
def shapeB:BV→Bool
 | .mk k n s kids keys=>
  if k=1 then (s==[])&&(kids.length+keys.length==0) else if k=2 then (n==0)&&(kids.length+keys.length==0)
  else if k=3 then (n==0)&&(s==[])&&(keys.length==0) else if k=4 then dictB n s kids keys else false
theorem form_shape (k n:Int) (s:List UInt8) (kids:List BV) (keys:List (List UInt8)):(BV.mk k n s kids keys).form=(shapeB (.mk k n s kids keys)&&BV.formL kids):=by
 unfold BV.form shapeB
 congr 1
 by_cases h1:k=1
 ·simp only [if_pos h1]
  rw [Bool.eq_iff_iff]
  simp [Nat.add_eq_zero_iff,List.length_eq_zero_iff]
 simp only [if_neg h1]
 by_cases h2:k=2
 ·simp only [if_pos h2]
  rw [Bool.eq_iff_iff]
  simp [Nat.add_eq_zero_iff,List.length_eq_zero_iff]
 simp only [if_neg h2]
 by_cases h3:k=3
 ·simp only [if_pos h3]
  rw [Bool.eq_iff_iff]
  simp [List.length_eq_zero_iff,and_assoc]
 simp only [if_neg h3]
 by_cases h4:k=4
 ·simp only [if_pos h4]
  unfold dictB
  rw [Bool.eq_iff_iff,asc_iff]
  simp [and_assoc]
 simp only [if_neg h4]
 rfl
def keysW (keys:List (List UInt8)):Nat:=(keys.map fun k=>(BV.wText k).length).sum
def own (k n:Int) (s:List UInt8):Nat:=if k=1 then (Lib.itoa n).length else if k=2 then (BV.wText s).length - 2 else 0
mutual
def fitV:Nat→Nat→Nat→BV→Option (Nat×Nat)
 |lv,c,b,.mk k n s kids keys=>
  if lv=0∨1000<c+1∨shapeB (.mk k n s kids keys)=false then none else
  match fitL (lv - 1) (c+1) (b+own k n s+2+keysW keys) kids with
  |none=>none
  |some (c',b')=>if b'≤65536 then some (c',b') else none
def fitL:Nat→Nat→Nat→List BV→Option (Nat×Nat)
 |lv,c,b,[]=>some (c,b)
 |lv,c,b,v::l=>match fitV lv c b v with
  |none=>none
  |some (c',b')=>fitL lv c' b' l
end
theorem writeD_len':∀{ks:List (List UInt8)} {l:List BV},ks.length=l.length→(BV.writeD ks l).length=keysW ks+(BV.writeL l).length
 |[],[],_=>by simp [BV.writeD,BV.writeL,keysW]
 |k::ks,v::l,h=>by
  have:=writeD_len' (ks:=ks) (l:=l) (by simpa using h)
  unfold keysW at this ⊢
  simp [BV.writeD,BV.writeL,this];omega
theorem write_len (k n:Int) (s:List UInt8) (kids:List BV) (keys:List (List UInt8)) (h:shapeB (.mk k n s kids keys)=true):(BV.mk k n s kids keys).write.length=own k n s+2+keysW keys+(BV.writeL kids).length:=by
 unfold shapeB at h
 dsimp only at h
 unfold BV.write own
 by_cases h1:k=1
 ·rw [if_pos h1] at h
  simp only [if_pos h1]
  simp [Nat.add_eq_zero_iff,List.length_eq_zero_iff] at h
  rw [h.2.1,h.2.2]
  simp [keysW,BV.writeL]
 rw [if_neg h1] at h
 simp only [if_neg h1]
 by_cases h2:k=2
 ·rw [if_pos h2] at h
  simp only [if_pos h2]
  simp [Nat.add_eq_zero_iff,List.length_eq_zero_iff] at h
  rw [h.2.1,h.2.2]
  have:2≤(BV.wText s).length:=by
   have h1:=Nat.pos_of_ne_zero (n:=(Lib.itoa (s.length:Nat)).length) (fun e=>by
    have:=Go.Aw.itoa_nat s.length
    rw [this] at e
    have:=Go.Aw.dd_pos s.length
    omega)
   unfold BV.wText
   rw [List.length_append,List.length_cons];omega
  simp only [keysW,BV.writeL,List.map_nil,List.sum_nil,List.length_nil]
  omega
 rw [if_neg h2] at h
 simp only [if_neg h2]
 by_cases h3:k=3
 ·rw [if_pos h3] at h
  simp only [if_pos h3]
  simp [List.length_eq_zero_iff] at h
  rw [h.2]
  simp [keysW];omega
 rw [if_neg h3] at h
 simp only [if_neg h3]
 by_cases h4:k=4
 ·rw [if_pos h4] at h
  unfold dictB at h
  simp only [Bool.and_eq_true,beq_iff_eq] at h
  have hl:keys.length=kids.length:=h.1.1.2
  have:=writeD_len' hl
  simp only [List.length_cons,List.length_append,List.length_nil]
  omega
 ·rw [if_neg h4] at h
  cases h
mutual
theorem fitV_iff:∀(v:BV) (lv c b:Nat),fitV lv c b v=if v.form=true∧v.depth≤lv∧c+v.count≤1000∧b+v.write.length≤65536 then some (c+v.count,b+v.write.length) else none
 | .mk k n s kids keys,lv,c,b=>by
  unfold fitV
  have hcnt:(BV.mk k n s kids keys).count=1+BV.countL kids:=by unfold BV.count;rfl
  have hdep:(BV.mk k n s kids keys).depth=1+BV.depthL kids:=by unfold BV.depth;rfl
  rw [form_shape,hcnt,hdep]
  by_cases h0:lv=0∨1000<c+1∨shapeB (.mk k n s kids keys)=false
  ·rw [if_pos h0,if_neg]
   rintro ⟨h1,h2,h3,-⟩
   rw [Bool.and_eq_true] at h1
   rcases h0 with h|h|h
   ·omega
   ·omega
   ·rw [h1.1] at h;cases h
  ·rw [if_neg h0]
   have hl:lv≠0:=fun h=>h0 (.inl h)
   have hc:¬1000<c+1:=fun h=>h0 (.inr (.inl h))
   have hs:shapeB (.mk k n s kids keys)=true:=by
    cases hb:shapeB (.mk k n s kids keys) with
    |true=>rfl
    |false=>exact absurd (.inr (.inr hb)) h0
   have hw:=write_len k n s kids keys hs
   rw [hw,hs,Bool.true_and,fitL_iff kids]
   by_cases hk:kids=[]∨(BV.formL kids=true∧BV.depthL kids≤lv - 1∧(c+1)+BV.countL kids≤1000∧(b+own k n s+2+keysW keys)+(BV.writeL kids).length≤65536)
   ·rw [if_pos hk]
    dsimp only
    have hk2:BV.formL kids=true∧BV.depthL kids≤lv - 1∧(c+1)+BV.countL kids≤1000:=by
     rcases hk with rfl|hk
     ·exact ⟨by simp [BV.formL],by simp [BV.depthL],by simp [BV.countL];omega⟩
     ·exact ⟨hk.1,hk.2.1,hk.2.2.1⟩
    by_cases hb:b+own k n s+2+keysW keys+(BV.writeL kids).length≤65536
    ·rw [if_pos hb,if_pos ⟨hk2.1,by omega,by omega,by omega⟩]
     congr 2
     ·omega
     ·omega
    ·rw [if_neg hb,if_neg]
     rintro ⟨-,-,-,h⟩
     omega
   ·rw [if_neg hk]
    dsimp only
    rw [if_neg]
    rintro ⟨h1,h2,h3,h4⟩
    exact hk (.inr ⟨h1,by omega,by omega,by omega⟩)
theorem fitL_iff:∀(l:List BV) (lv c b:Nat),fitL lv c b l=if l=[]∨(BV.formL l=true∧BV.depthL l≤lv∧c+BV.countL l≤1000∧b+(BV.writeL l).length≤65536) then some (c+BV.countL l,b+(BV.writeL l).length) else none
 |[],lv,c,b=>by simp [fitL,BV.countL,BV.writeL]
 | v ::l,lv,c,b=>by
  unfold fitL
  have hcnt:BV.countL (v::l)=v.count+BV.countL l:=by simp only [BV.countL]
  have hdep:BV.depthL (v::l)=max v.depth (BV.depthL l):=by simp only [BV.depthL]
  have hfm:BV.formL (v::l)=(v.form&&BV.formL l):=by simp only [BV.formL]
  have hwr:(BV.writeL (v::l)).length=v.write.length+(BV.writeL l).length:=by simp only [BV.writeL,List.length_append]
  rw [fitV_iff v,hcnt,hdep,hfm,hwr]
  by_cases hv:v.form=true∧v.depth≤lv∧c+v.count≤1000∧b+v.write.length≤65536
  ·rw [if_pos hv]
   dsimp only
   rw [fitL_iff l]
   by_cases hk:l=[]∨(BV.formL l=true∧BV.depthL l≤lv∧(c+v.count)+BV.countL l≤1000∧(b+v.write.length)+(BV.writeL l).length≤65536)
   ·rw [if_pos hk,if_pos,Nat.add_assoc,Nat.add_assoc]
    refine .inr ?_
    rcases hk with rfl|hk
    ·exact ⟨by rw [hv.1];simp [BV.formL],by simp [BV.depthL];exact hv.2.1,by simp [BV.countL];exact hv.2.2.1,by simp [BV.writeL];exact hv.2.2.2⟩
    ·exact ⟨by rw [hv.1,hk.1];rfl,Nat.max_le.2 ⟨hv.2.1,hk.2.1⟩,by omega,by omega⟩
   ·rw [if_neg hk,if_neg]
    rintro (h|⟨h1,h3,h4,h5⟩)
    ·cases h
    ·obtain ⟨h1,h2⟩:=(Bool.and_eq_true _ _).mp h1
     exact hk (.inr ⟨h2,(Nat.max_le.1 h3).2,by omega,by omega⟩)
  ·rw [if_neg hv]
   dsimp only
   rw [if_neg]
   rintro (h|⟨h1,h3,h4,h5⟩)
   ·cases h
   ·obtain ⟨h1,h2⟩:=(Bool.and_eq_true _ _).mp h1
    exact hv ⟨h1,(Nat.max_le.1 h3).1,by omega,by omega⟩
end
theorem fit_valid (v:BV):(fitV 12 0 0 v).isSome=v.valid:=by
 rw [fitV_iff,Bool.eq_iff_iff]
 unfold BV.valid
 split
 ·rename_i h
  simp only [Option.isSome_some,Bool.and_eq_true,decide_eq_true_eq,true_iff]
  exact ⟨⟨⟨h.1,by omega⟩,h.2.1⟩,by omega⟩
 ·rename_i h
  simp only [Option.isSome_none,Bool.and_eq_true,decide_eq_true_eq,Bool.false_eq_true,false_iff]
  rintro ⟨⟨⟨h1,h2⟩,h3⟩,h4⟩
  exact h ⟨h1,h3,by omega,by omega⟩
end Go.Proofs.YthcdjconlfdidaaGreatDoor
