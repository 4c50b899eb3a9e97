/-
  A part of the proof of a statement of this seat.
-/
import Derived.WalkKit
import Derived.Lib.ItoaNum
set_option linter.unusedVariables false
set_option linter.unusedSimpArgs false
namespace Go.Aw
inductive BV where
 |mk (k n:Int) (s:List UInt8) (kids:List BV) (keys:List (List UInt8))
namespace BV
def kind:BV→Int|mk k _ _ _ _=>k
def num:BV→Int|mk _ n _ _ _=>n
def text:BV→List UInt8|mk _ _ s _ _=>s
def kids:BV→List BV|mk _ _ _ l _=>l
def keys:BV→List (List UInt8)|mk _ _ _ _ l=>l
def zero:BV:=mk 0 0 [] [] []
mutual
theorem ind {P:BV→Prop} (h:∀k n s kids keys,(∀ c∈kids,P c)→P (mk k n s kids keys)):∀v,P v
 |mk k n s kids keys=>h k n s kids keys (indL h kids)
theorem indL {P:BV→Prop} (h:∀k n s kids keys,(∀ c∈kids,P c)→P (mk k n s kids keys)):∀l:List BV,∀c∈l,P c
 |[],c,hc=>absurd hc (by simp)
 |x::l,c,hc=>by
  rcases List.mem_cons.1 hc with e|hc
  ·rw [e];exact ind h x
  ·exact indL h l c hc
end
mutual
def count:BV→Nat
 |mk _ _ _ kids _=>1+countL kids
def countL:List BV→Nat
 |[]=>0
 |v::l=>v.count+countL l
end
mutual
def depth:BV→Nat
 |mk _ _ _ kids _=>1+depthL kids
def depthL:List BV→Nat
 |[]=>0
 |v::l=>max v.depth (depthL l)
end
def wText (s:List UInt8):List UInt8:=Lib.itoa (s.length:Nat)++58::s
mutual
def write:BV→List UInt8
 |mk k n s kids keys=>
  if k=1 then 105::(Lib.itoa n++[101]) else if k=2 then wText s else if k=3 then 108::(writeL kids++[101]) else 100::(writeD keys kids++[101])
def writeL:List BV→List UInt8
 |[]=>[]
 |v::l=>v.write++writeL l
def writeD:List (List UInt8)→List BV→List UInt8
 |k::ks,v::l=>wText k++v.write++writeD ks l
 |_,_=>[]
end
def ascF:Option (List UInt8)→List (List UInt8)→Bool
 |_,[]=>true
 |o,k::ks=>(match o with|some b=>Op.bytesLess b k|none=>true)&&ascF (some k) ks
def asc (l:List (List UInt8)):Bool:=ascF none l
mutual
def form:BV→Bool
 |mk k n s kids keys=>
  (if k=1 then s=[]∧kids=[]∧keys=[] else if k=2 then n=0∧kids=[]∧keys=[] else if k=3 then n=0∧s=[]∧keys=[] else if k=4 then n=0∧s=[]∧keys.length=kids.length∧asc keys=true else False)&&formL kids
def formL:List BV→Bool
 |[]=>true
 |v::l=>v.form&&formL l
end
mutual
def nums:BV→Prop
 |mk _ n _ kids _=> (-9223372036854775808≤n∧n≤9223372036854775807)∧numsL kids
def numsL:List BV→Prop
 |[]=>True
 |v::l=>v.nums∧numsL l
end
theorem formL_iff:∀{l:List BV},formL l=true↔∀c∈l,c.form=true
 |[]=>by simp [formL]
 |v::l=>by simp [formL,formL_iff (l:=l)]
theorem numsL_iff:∀{l:List BV},numsL l↔∀c∈l,c.nums
 |[]=>by simp [numsL]
 |v::l=>by simp [numsL,numsL_iff (l:=l)]
theorem count_pos (v:BV):1≤v.count:=by cases v;simp [count]
end BV
end Go.Aw

set_option linter.unusedVariables false
set_option linter.unusedSimpArgs false
namespace Go.Aw
inductive Rr (α :Type) where
 |ok (a:α) (i n:Nat)
 |bad (at_:Nat) (e:Int)
def dig (c:UInt8):Bool:=decide (48≤c.toNat)&&decide (c.toNat≤57)
def lenGo (z:Bool):Nat→Nat→List UInt8→Nat ⊕ (Nat×Nat)
 |k,n,[]=> .inl k
 |k,n,c::r=>
  if c=58∧0<k then .inr (n,k) else
  if dig c=false∨(k=1∧z=true)∨65536<10*n+(c.toNat - 48) then .inl k else lenGo z (k+1) (10*n+(c.toNat - 48)) r
def textR (s:List UInt8) (i:Nat):Rr (List UInt8):=
 match lenGo (s[i]? ==some 48) 0 0 (s.drop i) with
 | .inl k=> .bad (i+k) 2
 | .inr (n,k)=>if s.length - (i+k+1)<n then .bad s.length 2 else .ok ((s.drop (i+k+1)).take n) (i+k+1+n) 0
def numGo (m:Bool):Nat→Int→List UInt8→Nat ⊕ (Int×Nat)
 |k,n,[]=> .inl k
 |k,n,c::r=>
  if c=101∧0<k then .inr (n,k) else
  if dig c=false∨(0<k∧n=0)∨(k=0∧m=true∧c=48) then .inl k else
  if 10*n - ((c.toNat:Int) - 48)< -9223372036854775808∨(m=false∧10*n - ((c.toNat:Int) - 48)= -9223372036854775808) then .inl k else
  numGo m (k+1) (10*n - ((c.toNat:Int) - 48)) r
def numR (s:List UInt8) (i:Nat):Rr Int:=
 let m:=s[i]? ==some 45
 let j:=if m then i+1 else i
 match numGo m 0 0 (s.drop j) with
 | .inl k=> .bad (j+k) 2
 | .inr (n,k)=> .ok (if m then n else -n) (j+k+1) 0
def behind (keys:List (List UInt8)) (k:List UInt8):Bool:=match keys.getLast? with|some b=>Op.bytesLess b k|none=>true
def kidsR (f:Nat→Nat→Rr BV) (s:List UInt8) (d:Bool):Nat→Nat→Nat→List BV→List (List UInt8)→Rr (List BV×List (List UInt8))
 |0,i,n,kids,keys=> .bad i 0
 | fuel+1,i,n,kids,keys=>
  match s[i]? with
  |none=> .bad s.length 2
  | some c=>
   if c=101 then .ok (kids,keys) (i+1) n else
   if d=true then
    if dig c=false then .bad i 2 else
    match textR s i with
    | .bad a e=> .bad a e
    | .ok k j _=>
     if behind keys k=false then .bad i 2 else
     match f j n with
     | .bad a e=> .bad a e
     | .ok v i' n'=>kidsR f s d fuel i' n' (kids++[v]) (keys++[k])
   else
    match f i n with
    | .bad a e=> .bad a e
    | .ok v i' n'=>kidsR f s d fuel i' n' (kids++[v]) keys
def begins (c:UInt8):Bool:=c==105||c==108||c==100||dig c
def restR (f:Nat→Nat→Rr BV) (s:List UInt8) (c:UInt8) (i n:Nat):Rr BV:=
 if dig c=true then
  match textR s i with
  | .bad a e=> .bad a e
  | .ok t j _=> .ok (.mk 2 0 t [] []) j n
 else if c=105 then
  match numR s (i+1) with
  | .bad a e=> .bad a e
  | .ok z j _=> .ok (.mk 1 z [] [] []) j n
 else
  match kidsR f s (c==100) (s.length+1) (i+1) n [] [] with
  | .bad a e=> .bad a e
  | .ok (kids,keys) j n'=> .ok (.mk (if c=100 then 4 else 3) 0 [] kids keys) j n'
def valR (s:List UInt8):Nat→Nat→Nat→Rr BV
 |0,i,n=>
  match s[i]? with
  |none=> .bad s.length 2
  |some c=>if begins c=false then .bad i 2 else .bad i 4
 |lv+1,i,n=>
  match s[i]? with
  |none=> .bad s.length 2
  |some c=>if begins c=false then .bad i 2 else if 1000<n+1 then .bad i 4 else restR (valR s lv) s c i (n+1)
def readR (s:List UInt8):BV×Int×Int×Int:=
 if 65536<s.length then (.zero,0,0,3) else
 match valR s 12 0 0 with
 | .ok v i _=>(v,i,-1,0)
 | .bad a e=> (.zero,0,a,e)
def parseR (s:List UInt8):BV×Int:=
 let r:=readR s
 if r.2.2.2≠0 then (.zero,r.2.2.2) else if r.2.1<s.length then (.zero,2) else (r.1,0)
theorem lenGo_k {z:Bool}:∀(l:List UInt8) (k n k':Nat),lenGo z k n l= .inl k'→k≤k'∧k'≤k+l.length
 |[],k,n,k',h=>by simp [lenGo] at h;omega
 | c::r,k,n,k',h=>by
  unfold lenGo at h
  split at h
  ·cases h
  ·split at h
   ·cases h;simp
   ·have:=lenGo_k r _ _ _ h
    simp;omega
theorem lenGo_r {z:Bool}:∀(l:List UInt8) (k n n' k':Nat),lenGo z k n l= .inr (n',k')→k≤k'∧k'<k+l.length∧0<k'∧(n≤65536→n'≤65536)
 |[],k,n,n',k',h=>by simp [lenGo] at h
 | c::r,k,n,n',k',h=>by
  unfold lenGo at h
  split at h
  ·rename_i hc;cases h;simp;omega
  ·split at h
   ·cases h
   ·rename_i h1
    have:=lenGo_r r _ _ _ _ h
    simp only [List.length_cons]
    refine ⟨by omega,by omega,by omega,fun _=>this.2.2.2 ?_⟩
    have:¬65536<10*n+(c.toNat - 48):=fun h=>h1 (.inr (.inr h))
    omega
theorem numGo_k {m:Bool}:∀(l:List UInt8) (k:Nat) (n:Int) (k':Nat),numGo m k n l= .inl k'→k≤k'∧k'≤k+l.length
 |[],k,n,k',h=>by simp [numGo] at h;omega
 | c ::r,k,n,k',h=>by
  unfold numGo at h
  split at h
  ·cases h
  ·split at h
   ·cases h;simp
   ·split at h
    ·cases h;simp
    ·have:=numGo_k r _ _ _ h
     simp;omega
theorem numGo_r {m:Bool}:∀(l:List UInt8) (k:Nat) (n:Int) (n':Int) (k':Nat),numGo m k n l= .inr (n',k')→k≤k'∧k'<k+l.length∧0<k'
 |[],k,n,n',k',h=>by simp [numGo] at h
 | c ::r,k,n,n',k',h=>by
  unfold numGo at h
  split at h
  ·rename_i hc;cases h;simp;omega
  ·split at h
   ·cases h
   ·split at h
    ·cases h
    ·have:=numGo_r r _ _ _ _ h
     simp only [List.length_cons]
     omega
theorem textR_ok {s:List UInt8} {i:Nat} {t:List UInt8} {j n:Nat} (hi:i≤s.length) (h:textR s i= .ok t j n):i+2≤j∧j≤s.length∧n=0:=by
 unfold textR at h
 split at h
 ·cases h
 ·rename_i n' k hl
  split at h
  ·cases h
  ·cases h
   have:=lenGo_r _ _ _ _ _ hl
   rw [List.length_drop] at this
   omega
theorem textR_bad {s:List UInt8} {i:Nat} {a:Nat} {e:Int} (hi:i≤s.length) (h:textR s i= .bad a e):i≤a∧a≤s.length∧e=2:=by
 unfold textR at h
 split at h
 ·rename_i k hl
  cases h
  have:=lenGo_k _ _ _ _ hl
  rw [List.length_drop] at this
  omega
 ·split at h
  ·cases h;exact ⟨hi,Nat.le_refl _,rfl⟩
  ·cases h
theorem numR_ok {s:List UInt8} {i:Nat} {z:Int} {j n:Nat} (hi:i≤s.length) (h:numR s i= .ok z j n):i+2≤j∧j≤s.length∧n=0:=by
 unfold numR at h
 simp only at h
 split at h
 ·cases h
 ·rename_i n' k hl
  cases h
  have:=numGo_r _ _ _ _ _ hl
  rw [List.length_drop] at this
  split at this<;> split<;> first|omega|(rename_i h1 h2;exact absurd h1 h2)|(rename_i h1 h2;exact absurd h2 h1)
theorem numR_bad {s:List UInt8} {i:Nat} {a:Nat} {e:Int} (hi:i≤s.length) (h:numR s i= .bad a e):i≤a∧a≤s.length∧e=2:=by
 unfold numR at h
 simp only at h
 split at h
 ·rename_i k hl
  cases h
  have:=numGo_k _ _ _ _ hl
  rw [List.length_drop] at this
  have hm:(s[i]? ==some 45)=true→i+1≤s.length:=fun hm=>by
   have:s[i]? =some 45:=by simpa using hm
   exact (List.getElem?_eq_some_iff.1 this).1
  by_cases hc:(s[i]? ==some 45)=true
  ·rw [if_pos hc] at this ⊢
   have:=hm hc
   omega
  ·rw [if_neg hc] at this ⊢
   omega
 ·cases h
structure Goes (s:List UInt8) (f:Nat→Nat→Rr BV):Prop where
 ok:∀i n v j n',i≤s.length→f i n= .ok v j n'→i+2≤j∧j≤s.length∧n+1≤n'∧n'≤1000
 bad:∀i n a e,i≤s.length→f i n= .bad a e→i≤a∧a≤s.length∧(e=2∨e=4)
theorem kidsR_goes {s:List UInt8} {f:Nat→Nat→Rr BV} (hf:Goes s f) (d:Bool):∀(fuel i n:Nat) (kids:List BV) (keys:List (List UInt8)),i≤s.length→s.length - i<fuel→n≤1000→
  (∀ kk j n',kidsR f s d fuel i n kids keys= .ok kk j n'→i+1≤j∧j≤s.length∧n≤n'∧n'≤1000)∧ (∀ a e,kidsR f s d fuel i n kids keys= .bad a e→i≤a∧a≤s.length∧(e=2∨e=4))
 |0,i,n,kids,keys,hi,hfu,hn=>by omega
 | fuel +1,i,n,kids,keys,hi,hfu,hn=>by
  unfold kidsR
  cases hc:s[i]? with
  |none=>exact ⟨fun _ _ _ h=>by simp at h,fun a e h=>by simp at h;obtain ⟨rfl,rfl⟩:=h;exact ⟨hi,Nat.le_refl _,.inl rfl⟩⟩
  | some c=>
   have hlt:=(List.getElem?_eq_some_iff.1 hc).1
   simp only
   split
   ·exact ⟨fun _ _ _ h=>by cases h;omega,fun _ _ h=>by cases h⟩
   ·split
    ·split
     ·exact ⟨fun _ _ _ h=>(by cases h),fun a e h=>by cases h;exact ⟨Nat.le_refl _,hi,.inl rfl⟩⟩
     ·cases ht:textR s i with
      |bad a e=>
       have:=textR_bad hi ht
       exact ⟨fun _ _ _ h=>(by cases h),fun a e h=>by cases h;exact ⟨this.1,this.2.1,.inl this.2.2⟩⟩
      | ok k j m=>
       have h1:=textR_ok hi ht
       simp only
       split
       ·exact ⟨fun _ _ _ h=>(by cases h),fun a e h=>by cases h;exact ⟨Nat.le_refl _,hi,.inl rfl⟩⟩
       ·cases hv:f j n with
        |bad a e=>
         have:=hf.bad _ _ _ _ h1.2.1 hv
         exact ⟨fun _ _ _ h=>(by cases h),fun a e h=>by cases h;exact ⟨by omega,this.2⟩⟩
        |ok v i' n'=>
         have h2:=hf.ok _ _ _ _ _ h1.2.1 hv
         have h3:=kidsR_goes hf d fuel i' n' (kids++[v]) (keys++[k]) h2.2.1 (by omega) h2.2.2.2
         exact ⟨fun kk j' n'' h=>by have:=h3.1 _ _ _ h;omega,fun a e h=>by have:=h3.2 _ _ h;exact ⟨by omega,this.2⟩⟩
    ·cases hv:f i n with
     |bad a e=>
      have:=hf.bad _ _ _ _ hi hv
      exact ⟨fun _ _ _ h=>(by cases h),fun a e h=>by cases h;exact this⟩
     |ok v i' n'=>
      have h2:=hf.ok _ _ _ _ _ hi hv
      have h3:=kidsR_goes hf d fuel i' n' (kids++[v]) keys h2.2.1 (by omega) h2.2.2.2
      exact ⟨fun kk j' n'' h=>by have:=h3.1 _ _ _ h;omega,fun a e h=>by have:=h3.2 _ _ h;exact ⟨by omega,this.2⟩⟩
theorem restR_goes {s:List UInt8} {f:Nat→Nat→Rr BV} (hf:Goes s f) (c:UInt8) (i n:Nat) (hi:i<s.length) (hn:n≤1000):
  (∀ v j n',restR f s c i n= .ok v j n'→i+2≤j∧j≤s.length∧n≤n'∧n'≤1000)∧ (∀ a e,restR f s c i n= .bad a e→i≤a∧a≤s.length∧(e=2∨e=4)):=by
 unfold restR
 split
 ·cases ht:textR s i with
  |bad a e=>
   have:=textR_bad (by omega) ht
   exact ⟨fun _ _ _ h=>(by cases h),fun a e h=>by cases h;exact ⟨this.1,this.2.1,.inl this.2.2⟩⟩
  |ok k j m=>
   have:=textR_ok (by omega) ht
   exact ⟨fun _ _ _ h=>by cases h;omega,fun a e h=>by cases h⟩
 ·split
  ·cases ht:numR s (i+1) with
   |bad a e=>
    have:=numR_bad (by omega) ht
    exact ⟨fun _ _ _ h=>(by cases h),fun a e h=>by cases h;exact ⟨by omega,this.2.1,.inl this.2.2⟩⟩
   |ok k j m=>
    have:=numR_ok (by omega) ht
    exact ⟨fun _ _ _ h=>by cases h;omega,fun a e h=>by cases h⟩
  ·have h3:=kidsR_goes hf (c==100) (s.length+1) (i+1) n [] [] (by omega) (by omega) hn
   cases hk:kidsR f s (c==100) (s.length+1) (i+1) n [] [] with
   |bad a e=>
    have:=h3.2 _ _ hk
    exact ⟨fun _ _ _ h=>(by cases h),fun a e h=>by cases h;exact ⟨by omega,this.2⟩⟩
   |ok kk j m=>
    have:=h3.1 _ _ _ hk
    exact ⟨fun _ _ _ h=>by cases h;omega,fun a e h=>by cases h⟩
theorem valR_goes (s:List UInt8):∀lv,Goes s (valR s lv)
 | 0=>by
  refine ⟨fun i n v j n' hi h=> ?_,fun i n a e hi h=> ?_⟩
  ·unfold valR at h
   split at h
   ·cases h
   ·split at h<;> cases h
  ·unfold valR at h
   split at h
   ·cases h;exact ⟨hi,Nat.le_refl _,.inl rfl⟩
   ·split at h<;> cases h
    ·exact ⟨Nat.le_refl _,hi,.inl rfl⟩
    ·exact ⟨Nat.le_refl _,hi,.inr rfl⟩
 | lv +1=>by
  have ih:=valR_goes s lv
  refine ⟨fun i n v j n' hi h=> ?_,fun i n a e hi h=> ?_⟩
  ·unfold valR at h
   split at h
   ·cases h
   ·rename_i c hc
    have hlt:=(List.getElem?_eq_some_iff.1 hc).1
    split at h
    ·cases h
    ·split at h
     ·cases h
     ·have:=(restR_goes ih c i (n+1) hlt (by omega)).1 _ _ _ h
      omega
  ·unfold valR at h
   split at h
   ·cases h;exact ⟨hi,Nat.le_refl _,.inl rfl⟩
   ·rename_i c hc
    have hlt:=(List.getElem?_eq_some_iff.1 hc).1
    split at h
    ·cases h;exact ⟨Nat.le_refl _,hi,.inl rfl⟩
    ·split at h
     ·cases h;exact ⟨Nat.le_refl _,hi,.inr rfl⟩
     ·exact (restR_goes ih c i (n+1) hlt (by omega)).2 _ _ h
end Go.Aw
