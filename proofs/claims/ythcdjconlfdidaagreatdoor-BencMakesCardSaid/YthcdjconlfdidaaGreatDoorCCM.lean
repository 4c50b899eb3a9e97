/-
  A part of the proof of a statement of this seat.
-/
import Derived.Test.YthcdjconlfdidaaGreatDoorCAM
set_option linter.unusedVariables false
set_option linter.unusedSimpArgs false
namespace Go.Aw
open Go.Lib
theorem dd_eq (v:Nat) (h:10≤v):decDigits v=decDigits (v / 10)++[UInt8.ofNat (48+v%10)]:=by rw [decDigits,dif_neg (by omega)]
theorem dd_lt (v:Nat) (h:v<10):decDigits v=[UInt8.ofNat (48+v)]:=by rw [decDigits,dif_pos h]
theorem dig_nat (d:Nat) (h:d<10):(UInt8.ofNat (48+d)).toNat=48+d:=by simp;omega
theorem dd_ne (v:Nat):decDigits v≠[]:=by
 rw [decDigits];split<;> simp
theorem dd_pos (v:Nat):0<(decDigits v).length:=List.length_pos_iff.2 (dd_ne v)
theorem of_dig {c:UInt8} (h:dig c=true):c.toNat - 48<10∧48≤c.toNat∧c=UInt8.ofNat (48+(c.toNat - 48)):=by
 unfold dig at h
 simp at h
 refine ⟨by omega,h.1,?_⟩
 apply UInt8.toNat_inj.1
 rw [dig_nat _ (by omega)]
 omega
theorem dd_snoc {n d:Nat} (hn:n≠0) (hd:d<10):decDigits (10*n+d)=decDigits n++[UInt8.ofNat (48+d)]:=by
 rw [dd_eq _ (by omega)]
 congr 2
 ·omega
 ·congr 1;omega
theorem dd_inv {z:Bool}:∀(l:List UInt8) (k n n' k':Nat),0<k→(n=0→k=1∧z=true)→lenGo z k n l= .inr (n',k')→∃t r,l=t++58::r∧decDigits n'=decDigits n++t∧k'=k+t.length
 |[],k,n,n',k',hk,h0,h=>by simp [lenGo] at h
 | c ::l,k,n,n',k',hk,h0,h=>by
  unfold lenGo at h
  split at h
  ·rename_i hc
   cases h
   exact ⟨[],l,by rw [hc.1];rfl,by simp,rfl⟩
  ·split at h
   ·cases h
   ·rename_i h1
    have hd:dig c=true:=by
     cases hh:dig c with
     |true=>rfl
     |false=>exact absurd (.inl hh) h1
    obtain ⟨d1,d2,d3⟩:=of_dig hd
    have hn:n≠0:=fun e=>h1 (.inr (.inl (h0 e)))
    obtain ⟨t,r,e1,e2,e3⟩:=dd_inv l _ _ _ _ (by omega) (fun e=>by omega) h
    refine ⟨c::t,r,by rw [e1];rfl,?_,by rw [e3,List.length_cons];omega⟩
    rw [e2,dd_snoc hn d1,List.append_assoc,←d3];rfl
theorem len_inv {l:List UInt8} {n k:Nat} (h:lenGo (l[0]? ==some 48) 0 0 l= .inr (n,k)):∃r,l=decDigits n++58::r∧k=(decDigits n).length:=by
 cases l with
 |nil=>simp [lenGo] at h
 | cons c l=>
  unfold lenGo at h
  rw [if_neg (by omega)] at h
  split at h
  ·cases h
  ·rename_i h1
   have hd:dig c=true:=by
    cases hh:dig c with
    |true=>rfl
    |false=>exact absurd (.inl hh) h1
   obtain ⟨d1,d2,d3⟩:=of_dig hd
   have hc0:10*0+(c.toNat - 48)=c.toNat - 48:=by omega
   rw [hc0] at h
   obtain ⟨t,r,e1,e2,e3⟩:=dd_inv l _ _ _ _ (by omega) (fun e=>⟨rfl,by
    rw [List.getElem?_cons_zero,d3,e];rfl⟩) h
   rw [dd_lt _ d1] at e2
   refine ⟨r,?_,?_⟩
   ·rw [e2,e1,←d3];rfl
   ·rw [e3,e2];simp;omega
theorem text_inv {s:List UInt8} {i:Nat} {t:List UInt8} {j n:Nat} (hi:i≤s.length) (h:textR s i= .ok t j n):∃q,s.drop i=BV.wText t++q∧j=i+(BV.wText t).length∧t.length≤65536:=by
 unfold textR at h
 split at h
 ·cases h
 ·rename_i n' k hl
  have hb:=lenGo_r _ _ _ _ _ hl
  split at h
  ·cases h
  ·rename_i hlen
   cases h
   have e0:s[i]? =(s.drop i)[0]? :=by rw [List.getElem?_drop];rfl
   rw [e0] at hl
   obtain ⟨r,e1,e2⟩:=len_inv hl
   have hdr:s.drop (i+k+1)=r:=by
    have:s.drop (i+k+1)=(s.drop i).drop (k+1):=by rw [List.drop_drop];rfl
    rw [this,e1,←List.drop_drop,e2,List.drop_left];rfl
   have hrl:r.length=s.length - (i+k+1):=by rw [← hdr,List.length_drop]
   have htl:(r.take n').length=n':=by rw [List.length_take];omega
   rw [hdr]
   have hw:itoa ((r.take n').length:Nat)=decDigits n':=by rw [htl];unfold itoa;rw [if_neg (by omega)];rfl
   refine ⟨r.drop n',?_,?_,by rw [htl];exact hb.2.2.2 (by omega)⟩
   ·rw [e1];unfold BV.wText;rw [hw,List.append_assoc,List.cons_append,List.take_append_drop]
   ·unfold BV.wText;rw [hw,List.length_append,List.length_cons,htl,←e2];omega
theorem dd_invN {m:Bool}:∀(l:List UInt8) (k v:Nat) (n':Int) (k':Nat),0<k→(m=true→v≠0)→(v:Int)≤9223372036854775808→(m=false→(v:Int)≤9223372036854775807)→numGo m k (-(v:Int)) l= .inr (n',k')→
  ∃(v':Nat) (t r:List UInt8),n'= -(v':Int)∧l=t++101::r∧decDigits v'=decDigits v++t∧k'=k+t.length∧(m=true→v'≠0)∧(v':Int)≤9223372036854775808∧(m=false→(v':Int)≤9223372036854775807)
 |[],k,v,n',k',hk,h0,hb,hb2,h=>by simp [numGo] at h
 | c ::l,k,v,n',k',hk,h0,hb,hb2,h=>by
  unfold numGo at h
  split at h
  ·rename_i hc
   cases h
   exact ⟨v,[],l,rfl,by rw [hc.1];rfl,by simp,rfl,h0,hb,hb2⟩
  ·split at h
   ·cases h
   ·rename_i h1
    have hd:dig c=true:=by
     cases hh:dig c with
     |true=>rfl
     |false=>exact absurd (.inl hh) h1
    obtain ⟨d1,d2,d3⟩:=of_dig hd
    have hn:v≠0:=fun e=>h1 (.inr (.inl ⟨hk,by omega⟩))
    split at h
    ·cases h
    ·rename_i h2
     have hv:10* (-(v:Int)) - ((c.toNat:Int) - 48)= -((10*v+(c.toNat - 48):Nat):Int):=by omega
     rw [hv] at h h2
     obtain ⟨v',t,r,e0,e1,e2,e3,e4⟩:=dd_invN l _ _ _ _ (by omega) (fun e=>by omega) (by
      have:¬ -((10*v+(c.toNat - 48):Nat):Int)< -9223372036854775808:=fun h=>h2 (.inl h)
      omega) (fun e=>by
      have h3:¬ -((10*v+(c.toNat - 48):Nat):Int)< -9223372036854775808:=fun h=>h2 (.inl h)
      have h4:¬ -((10*v+(c.toNat - 48):Nat):Int)= -9223372036854775808:=fun h=>h2 (.inr ⟨e,h⟩)
      omega) h
     refine ⟨v',c::t,r,e0,by rw [e1];rfl,?_,by rw [e3,List.length_cons];omega,e4⟩
     rw [e2,dd_snoc hn d1,List.append_assoc,←d3];rfl
theorem num_inv {m:Bool} {l:List UInt8} {n:Int} {k:Nat} (h:numGo m 0 0 l= .inr (n,k)):
  ∃(v:Nat) (r:List UInt8),n= -(v:Int)∧l=decDigits v++101::r∧k=(decDigits v).length∧(m=true→v≠0)∧(v:Int)≤9223372036854775808∧(m=false→(v:Int)≤9223372036854775807):=by
 cases l with
 |nil=>simp [numGo] at h
 | cons c l=>
  unfold numGo at h
  rw [if_neg (by omega)] at h
  split at h
  ·cases h
  ·rename_i h1
   have hd:dig c=true:=by
    cases hh:dig c with
    |true=>rfl
    |false=>exact absurd (.inl hh) h1
   obtain ⟨d1,d2,d3⟩:=of_dig hd
   split at h
   ·cases h
   ·have hv:10*(0:Int) - ((c.toNat:Int) - 48)= -((c.toNat - 48:Nat):Int):=by omega
    rw [hv] at h
    obtain ⟨v',t,r,e0,e1,e2,e3,e4⟩:=dd_invN l _ _ _ _ (by omega) (fun e e'=>h1 (.inr (.inr ⟨rfl,e,by rw [d3,e'];rfl⟩))) (by omega) (fun e=>by omega) h
    rw [dd_lt _ d1] at e2
    refine ⟨v',r,e0,?_,?_,e4⟩
    ·rw [e2,e1,←d3];rfl
    ·rw [e3,e2];simp;omega
def isI64 (z:Int):Prop:= -9223372036854775808≤z∧z≤9223372036854775807
theorem numR_inv {s:List UInt8} {i:Nat} {z:Int} {j n:Nat} (hi:i≤s.length) (h:numR s i= .ok z j n):∃q,s.drop i=itoa z++101::q∧j=i+(itoa z).length+1∧isI64 z:=by
 unfold numR at h
 simp only at h
 have e0:s[i]? =(s.drop i)[0]? :=by rw [List.getElem?_drop];rfl
 cases hm:(s[i]? ==some (45:UInt8)) with
 | true=>
  rw [hm] at h
  simp only [if_true] at h
  split at h
  ·cases h
  ·rename_i n' k hl
   cases h
   obtain ⟨v,r,e1,e2,e3,e4,e5,e6⟩:=num_inv hl
   have hv:=e4 rfl
   have hs:s[i]? =some 45:=by simpa using hm
   have hlt:=(List.getElem?_eq_some_iff.1 hs).1
   have hz:z<0:=by omega
   have hit:itoa z=45::decDigits v:=by unfold itoa;rw [if_pos hz];congr 2;omega
   refine ⟨r,?_,by rw [hit,e3,List.length_cons];omega,by unfold isI64;omega⟩
   rw [hit,List.drop_eq_getElem_cons hlt,e2]
   have:s[i]=45:=by rw [List.getElem?_eq_getElem hlt] at hs;exact Option.some.inj hs
   rw [this];rfl
 | false=>
  rw [hm] at h
  simp only [Bool.false_eq_true,if_false] at h
  split at h
  ·cases h
  ·rename_i n' k hl
   cases h
   obtain ⟨v,r,e1,e2,e3,e4,e5,e6⟩:=num_inv hl
   have hv:=e6 rfl
   have hit:itoa (-n')=decDigits v:=by unfold itoa;rw [if_neg (by omega)];congr 1;omega
   exact ⟨r,by rw [hit];exact e2,by rw [hit,e3],by unfold isI64;omega⟩
end Go.Aw

set_option linter.unusedVariables false
set_option linter.unusedSimpArgs false
namespace Go.Aw
open Go.Lib BV
theorem itoa_nat (n:Nat):itoa (n:Int)=decDigits n:=by unfold itoa;rw [if_neg (by omega)];rfl
theorem wText_len (k:List UInt8):k.length≤(wText k).length:=by unfold wText;simp;omega
structure Was (s:List UInt8) (lv i n:Nat) (v:BV) (j n':Nat):Prop where
 txt:∃q,s.drop i=v.write++q
 pos:j=i+v.write.length
 form:v.form=true
 nums:v.nums
 cnt:n'=n+v.count
 dep:v.depth≤lv
theorem drop_app {s a b:List UInt8} {i:Nat} (h:s.drop i=a++b):s.drop (i+a.length)=b:=by rw [← List.drop_drop,h,List.drop_left]
theorem kidsB {s:List UInt8} {f:Nat→Nat→Rr BV} {lv:Nat} (hg:Goes s f) (hf:∀i n v j n',i≤s.length→f i n= .ok v j n'→Was s lv i n v j n') (d:Bool):
  ∀(fuel i n:Nat) (kids:List BV) (keys:List (List UInt8)) (kk:List BV×List (List UInt8)) (j n':Nat),i≤s.length→kidsR f s d fuel i n kids keys= .ok kk j n'→
  ∃l ks q,kk=(kids++l,keys++ks)∧s.drop i=(if d then writeD ks l else writeL l)++101::q∧j=i+(if d then writeD ks l else writeL l).length+1∧(d=true→ks.length=l.length∧ascF keys.getLast? ks=true)∧(d=false→ks=[])∧
   formL l=true∧numsL l∧n'=n+countL l∧depthL l≤lv
 |0,i,n,kids,keys,kk,j,n',hi,h=>by unfold kidsR at h;cases h
 | fuel + 1,i,n,kids,keys,kk,j,n',hi,h=>by
  unfold kidsR at h
  cases hc:s[i]? with
  |none=>rw [hc] at h;cases h
  | some c=>
   have hlt:=(List.getElem?_eq_some_iff.1 hc).1
   have hsi:s[i]=c:=by rw [List.getElem?_eq_getElem hlt] at hc;exact Option.some.inj hc
   rw [hc] at h
   simp only at h
   split at h
   ·rename_i he
    cases h
    refine ⟨[],[],s.drop (i+1),by simp,?_,?_,fun _=>⟨rfl,rfl⟩,fun _=>rfl,rfl,trivial,rfl,Nat.zero_le _⟩
    ·rw [List.drop_eq_getElem_cons hlt,hsi,he];cases d<;> rfl
    ·cases d<;> rfl
   ·split at h
    ·rename_i hd
     subst hd
     split at h
     ·cases h
     ·cases ht:textR s i with
      |bad a e=>rw [ht] at h;cases h
      | ok k j1 m=>
       rw [ht] at h
       simp only at h
       have hto:=textR_ok hi ht
       obtain ⟨q1,t1,t2,t3⟩:=text_inv hi ht
       split at h
       ·cases h
       ·rename_i hbe
        cases hv:f j1 n with
        |bad a e=>rw [hv] at h;cases h
        | ok v i2 n2=>
         rw [hv] at h
         simp only at h
         have hw:=hf _ _ _ _ _ hto.2.1 hv
         have hgo:=hg.ok _ _ _ _ _ hto.2.1 hv
         obtain ⟨l,ks,q,e1,e2,e3,e4,e5,e6,e7,e8,e9⟩:=kidsB hg hf true fuel _ _ _ _ _ _ _ hgo.2.1 h
         obtain ⟨q2,w1⟩:=hw.txt
         obtain ⟨e4a,e4b⟩:=e4 rfl
         have hb:behind keys k=true:=by
          cases hh:behind keys k with
          |true=>rfl
          |false=>exact absurd hh hbe
         have d1:q1=s.drop j1:=by rw [t2,drop_app t1]
         have d2:q2=s.drop i2:=by rw [hw.pos,drop_app w1]
         rw [List.getLast?_concat] at e4b
         simp only [if_true] at e2 e3
         refine ⟨v::l,k::ks,q,by rw [e1];simp,?_,?_,fun _=>⟨by simp [e4a],?_⟩,(fun h=>by cases h),?_,⟨hw.nums,e7⟩,?_,?_⟩
         ·rw [t1,d1,w1,d2,e2];simp [writeD]
         ·simp only [writeD,if_true,List.length_append];rw [e3,hw.pos,t2];omega
         ·simp only [ascF,e4b,Bool.and_true];exact hb
         ·simp [formL,hw.form,e6]
         ·simp only [countL];rw [e8,hw.cnt];omega
         ·simp only [depthL];exact Nat.max_le.2 ⟨hw.dep,e9⟩
    ·rename_i hd
     have hd:d=false:=by cases d with|true=>exact absurd rfl hd|false=>rfl
     subst hd
     cases hv:f i n with
     |bad a e=>rw [hv] at h;cases h
     |ok v i2 n2=>
      rw [hv] at h
      simp only at h
      have hw:=hf _ _ _ _ _ hi hv
      have hgo:=hg.ok _ _ _ _ _ hi hv
      obtain ⟨l,ks,q,e1,e2,e3,e4,e5,e6,e7,e8,e9⟩:=kidsB hg hf false fuel _ _ _ _ _ _ _ hgo.2.1 h
      obtain ⟨q2,w1⟩:=hw.txt
      have d2:q2=s.drop i2:=by rw [hw.pos,drop_app w1]
      simp only [Bool.false_eq_true,if_false] at e2 e3
      have e5:=e5 rfl
      subst e5
      refine ⟨v::l,[],q,by rw [e1];simp,?_,?_,(fun h=>by cases h),fun _=>rfl,?_,⟨hw.nums,e7⟩,?_,?_⟩
      ·rw [w1,d2,e2];simp [writeL]
      ·simp only [writeL,Bool.false_eq_true,if_false,List.length_append];rw [e3,hw.pos];omega
      ·simp [formL,hw.form,e6]
      ·simp only [countL];rw [e8,hw.cnt];omega
      ·simp only [depthL];exact Nat.max_le.2 ⟨hw.dep,e9⟩
theorem val_inv (s:List UInt8):∀(lv i n:Nat) (v:BV) (j n':Nat),i≤s.length→valR s lv i n= .ok v j n'→Was s lv i n v j n'
 |0,i,n,v,j,n',hi,h=>by
  unfold valR at h
  split at h
  ·cases h
  ·split at h<;> cases h
 | lv + 1,i,n,v,j,n',hi,h=>by
  unfold valR at h
  cases hc:s[i]? with
  |none=>rw [hc] at h;cases h
  | some c=>
   have hlt:=(List.getElem?_eq_some_iff.1 hc).1
   have hsi:s[i]=c:=by rw [List.getElem?_eq_getElem hlt] at hc;exact Option.some.inj hc
   rw [hc] at h
   simp only at h
   split at h
   ·cases h
   ·rename_i hbg
    split at h
    ·cases h
    ·unfold restR at h
     split at h
     ·cases ht:textR s i with
      |bad a e=>rw [ht] at h;cases h
      |ok t j1 m=>
       rw [ht] at h
       cases h
       obtain ⟨q1,t1,t2,t3⟩:=text_inv hi ht
       exact ⟨⟨q1,t1⟩,t2,by simp [form,formL],by simp [BV.nums,numsL],rfl,by simp [depth,depthL]⟩
     ·rename_i hnd
      split at h
      ·rename_i h105
       cases ht:numR s (i+1) with
       |bad a e=>rw [ht] at h;cases h
       |ok t j1 m=>
        rw [ht] at h
        cases h
        obtain ⟨q1,t1,t2,t3⟩:=numR_inv (by omega) ht
        have hw:(BV.mk 1 t [] [] []).write=105::(itoa t++[101]):=rfl
        refine ⟨⟨q1,?_⟩,?_,by simp [form,formL],⟨t3,trivial⟩,rfl,by simp [depth,depthL]⟩
        ·rw [List.drop_eq_getElem_cons hlt,hsi,h105,t1,hw];simp
        ·rw [hw,t2];simp;omega
      ·rename_i h105
       cases hk:kidsR (valR s lv) s (c==100) (s.length+1) (i+1) (n+1) [] [] with
       |bad a e=>rw [hk] at h;cases h
       | ok kk j1 m=>
        rw [hk] at h
        obtain ⟨l,ks,q,e1,e2,e3,e4,e5,e6,e7,e8,e9⟩:=kidsB (valR_goes s lv) (val_inv s lv) (c==100) _ _ _ _ _ _ _ _ (by omega) hk
        subst e1
        simp only [List.nil_append] at h
        cases h
        have hcc:c=108∨c=100:=by
         cases hb:begins c with
         |false=>exact absurd hb hbg
         |true=>
          unfold begins at hb
          simp only [Bool.or_eq_true,beq_iff_eq] at hb
          rcases hb with ((hb|hb)|hb)|hb
          ·exact absurd hb h105
          ·exact .inl hb
          ·exact .inr hb
          ·exact absurd hb hnd
        rcases hcc with hcc|hcc
        ·subst hcc
         have e5:=e5 rfl
         subst e5
         simp only [show ((108:UInt8)==100)=false from rfl,Bool.false_eq_true,if_false] at e2 e3
         have hw:(BV.mk 3 0 [] l []).write=108::(writeL l++[101]):=rfl
         rw [show (if (108:UInt8)=100 then (4:Int) else 3)=3 from rfl]
         refine ⟨⟨q,?_⟩,?_,by simp [form,e6],⟨by omega,e7⟩,by simp only [count];rw [e8];omega,by simp only [depth];omega⟩
         ·rw [List.drop_eq_getElem_cons hlt,hsi,e2,hw];simp
         ·rw [hw,e3];simp;omega
        ·subst hcc
         obtain ⟨e4a,e4b⟩:=e4 rfl
         simp only [show ((100:UInt8)==100)=true from rfl,if_true] at e2 e3
         have hw:(BV.mk 4 0 [] l ks).write=100::(writeD ks l++[101]):=rfl
         rw [show (if (100:UInt8)=100 then (4:Int) else 3)=4 from rfl]
         refine ⟨⟨q,?_⟩,?_,by simp [form,e6,e4a,asc];exact e4b,⟨by omega,e7⟩,by simp only [count];rw [e8];omega,by simp only [depth];omega⟩
         ·rw [List.drop_eq_getElem_cons hlt,hsi,e2,hw];simp
         ·rw [hw,e3];simp;omega
def BV.valid (v:BV):Bool:=v.form&&decide (v.count≤1000)&&decide (v.depth≤12)&&decide (v.write.length≤65536)
theorem parse_inv {s:List UInt8} {v:BV} (h:parseR s=(v,0)):v.valid=true∧v.nums∧s=v.write:=by
 unfold parseR readR at h
 split at h
 ·simp at h
 ·rename_i hl
  cases hv:valR s 12 0 0 with
  |bad a e=>
   rw [hv] at h
   have:=(valR_goes s 12).bad _ _ _ _ (Nat.zero_le _) hv
   simp only at h
   split at h
   ·injection h with h1 h2;omega
   ·rename_i he;omega
  | ok w j n'=>
   rw [hv] at h
   simp only [ne_eq,not_true_eq_false,if_false] at h
   have hgo:=(valR_goes s 12).ok _ _ _ _ _ (Nat.zero_le _) hv
   have hw:=val_inv s 12 0 0 w j n' (Nat.zero_le _) hv
   split at h
   ·injection h with h1 h2;omega
   ·rename_i hj
    injection h with h1 h2
    subst h1
    obtain ⟨q,hq⟩:=hw.txt
    rw [List.drop_zero] at hq
    have hlen:s.length=w.write.length+q.length:=by rw [hq];simp
    have hp:=hw.pos
    have hq0:q=[]:=List.length_eq_zero_iff.1 (by omega)
    subst hq0
    rw [List.append_nil] at hq
    have hc:=hw.cnt
    refine ⟨?_,hw.nums,hq⟩
    unfold BV.valid
    simp only [Bool.and_eq_true,decide_eq_true_eq]
    exact ⟨⟨⟨hw.form,by omega⟩,hw.dep⟩,by omega⟩
end Go.Aw
