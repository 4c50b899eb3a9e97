/-
 The map of what is kept:looking up,keeping one more,taking one out.
-/
import Derived.Test.YtdgmcckfdgnicaaUM
set_option linter.unusedVariables false
set_option linter.unusedSimpArgs false
set_option maxRecDepth 20000
namespace Go.Proofs.Ytdgmcckfdgnicaa
open Go Go.Aw Go.Proofs
def kept? (l:List (Int×Sg)) (k:Int):Option Sg:=(l.find? fun x=>x.1==k).map (·.2)
theorem sameK_int (a b:Int):sameK (.int .i64 a) (.int .i64 b)=(a==b):=by simp [sameK]
theorem mIx_cons (k:Value) (e:Value×Value×Nat) (es:MEs):mIx k (e::es)=if sameK k e.1=true then some 0 else (mIx k es).map (· +1):=by
 unfold mIx
 rw [List.findIdx?_cons]
theorem mGet_esOf {k:Int}:∀{l:List (Int×Sg)} {st:List Nat},st.length=l.length→mGet (.int .i64 k) (esOf l st)=(kept? l k).map Sg.v
 |[],[],_=>rfl
 |[],_::_,h=>by simp at h
 |_::_,[],h=>by simp at h
 | x::l,a::st,h=>by
  have ih:=mGet_esOf (k:=k) (l:=l) (st:=st) (by simpa using h)
  unfold mGet kept? at*
  rw [show esOf (x::l) (a::st)=entV (x,a)::esOf l st from rfl,mIx_cons]
  rw [show (entV (x,a)).1= .int .i64 x.1 from rfl,sameK_int,List.find?_cons]
  by_cases hk:k=x.1
  ·rw [if_pos (by simp [hk]),show (x.1==k)=true from by simp [hk]]
   rfl
  ·rw [if_neg (by simpa using hk),show (x.1==k)=false from by simpa using fun e=>hk e.symm]
   cases hm:mIx (.int .i64 k) (esOf l st) with
   |none=>rw [hm] at ih;simpa using ih
   |some j=>rw [hm] at ih;simpa using ih
theorem keysB_esOf (l:List (Int×Sg)) (st:List Nat):keysB (some (.int .i64)) (esOf l st)=true:=by
 unfold keysB esOf
 rw [List.all_map,List.all_eq_true]
 intro x _
 simp [entV,keyB]
theorem mIx_none {k:Int}:∀{l:List (Int×Sg)} {st:List Nat},st.length=l.length→kept? l k=none→mIx (.int .i64 k) (esOf l st)=none
 |[],[],_,_=>rfl
 |[],_::_,h,_=>by simp at h
 |_::_,[],h,_=>by simp at h
 |x::l,a::st,h,hk=>by
  unfold kept? at hk
  rw [Option.map_eq_none_iff,List.find?_eq_none] at hk
  have h1:x.1≠k:=by simpa using hk x (List.mem_cons_self ..)
  have ih:=mIx_none (k:=k) (l:=l) (st:=st) (by simpa using h) (by unfold kept?;rw [Option.map_eq_none_iff,List.find?_eq_none];exact fun y hy=>hk y (List.mem_cons_of_mem _ hy))
  rw [show esOf (x::l) (a::st)=entV (x,a)::esOf l st from rfl,mIx_cons]
  rw [show (entV (x,a)).1= .int .i64 x.1 from rfl,sameK_int,if_neg (by simpa using fun e=>h1 e.symm),ih]
  rfl
theorem mPut_new {k:Int} {p:Sg} {ck:Nat} {l:List (Int×Sg)} {st:List Nat} (h:MapIs st ck l) (hk:kept? l k=none):mPut (.int .i64 k) p.v ck (esOf l st)=esOf (l++[(k,p)]) (st++[ck])∧mCk (.int .i64 k) ck (esOf l st)=ck+1∧MapIs (st++[ck]) (ck+1) (l++[(k,p)]):=by
 have hi:=mIx_none (k:=k) h.len hk
 refine ⟨?_,?_,?_,?_,?_,?_⟩
 ·unfold mPut
  rw [hi]
  unfold esOf
  rw [List.zip_append h.len.symm,List.map_append]
  rfl
 ·unfold mCk
  rw [hi];rfl
 ·rw [List.length_append,List.length_append,h.len];rfl
 ·rw [List.nodup_append]
  refine ⟨h.nodup,by simp,fun a ha b hb e=> ?_⟩
  rw [List.mem_singleton] at hb
  have:=h.old a ha
  omega
 ·intro x hx
  rcases List.mem_append.1 hx with hx|hx
  ·have:=h.old x hx;omega
  ·rw [List.mem_singleton] at hx;omega
 ·rw [List.map_append,List.nodup_append]
  refine ⟨h.keys,by simp,fun a ha b hb e=> ?_⟩
  simp at hb
  subst hb;subst e
  obtain ⟨x,hx,rfl⟩:=List.mem_map.1 ha
  unfold kept? at hk
  rw [Option.map_eq_none_iff,List.find?_eq_none] at hk
  exact hk x hx (by simp)
theorem mDel_esOf {k:Int}:∀{l:List (Int×Sg)} {st:List Nat},st.length=l.length→(l.map (·.1)).Nodup→∃st2,mDel (.int .i64 k) (esOf l st)=esOf (l.filter fun x=>x.1 != k) st2∧st2.length=(l.filter fun x=>x.1 != k).length∧st2.Sublist st
 |[],[],_,_=>⟨[],rfl,rfl,.slnil⟩
 |[],_::_,h,_=>by simp at h
 |_::_,[],h,_=>by simp at h
 | x ::l,a::st,h,hn=>by
  rw [List.map_cons,List.nodup_cons] at hn
  have hl:st.length=l.length:=by simpa using h
  by_cases hk:k=x.1
  ·refine ⟨st,?_,?_,List.sublist_cons_self ..⟩
   ·unfold mDel
    rw [show esOf (x::l) (a::st)=entV (x,a)::esOf l st from rfl,mIx_cons,show (entV (x,a)).1= .int .i64 x.1 from rfl,sameK_int,if_pos (by simp [hk])]
    rw [List.filter_cons,if_neg (by simp [hk]),List.filter_eq_self.2 fun y hy=> ?_]
    ·rfl
    ·have:y.1≠k:=fun e=>hn.1 (by rw [← hk,←e];exact List.mem_map.2 ⟨y,hy,rfl⟩)
     simpa using this
   ·rw [List.filter_cons,if_neg (by simp [hk]),List.filter_eq_self.2 fun y hy=> ?_]
    ·exact hl
    ·have:y.1≠k:=fun e=>hn.1 (by rw [← hk,←e];exact List.mem_map.2 ⟨y,hy,rfl⟩)
     simpa using this
  ·obtain ⟨st2,h1,h2,h3⟩:=mDel_esOf (k:=k) hl hn.2
   refine ⟨a::st2,?_,?_,h3.cons_cons a⟩
   ·unfold mDel at*
    rw [show esOf (x::l) (a::st)=entV (x,a)::esOf l st from rfl,mIx_cons,show (entV (x,a)).1= .int .i64 x.1 from rfl,sameK_int,if_neg (by simpa using hk),List.filter_cons,if_pos (by simpa using fun e=>hk e.symm)]
    rw [show ∀m s2,esOf (x::m) (a::s2)=entV (x,a)::esOf m s2 from fun _ _=>rfl,←h1]
    cases hm:mIx (.int .i64 k) (esOf l st)<;> rfl
   ·rw [List.filter_cons,if_pos (by simpa using fun e=>hk e.symm),List.length_cons,List.length_cons,h2]
theorem MapIs.del {k:Int} {ck:Nat} {l:List (Int×Sg)} {st:List Nat} (h:MapIs st ck l):∃st2,mDel (.int .i64 k) (esOf l st)=esOf (l.filter fun x=>x.1 != k) st2∧MapIs st2 ck (l.filter fun x=>x.1 != k):=by
 obtain ⟨st2,h1,h2,h3⟩:=mDel_esOf (k:=k) h.len h.keys
 exact ⟨st2,h1,h2,h3.nodup h.nodup,fun x hx=>h.old x (h3.subset hx),(List.filter_sublist.map _).nodup h.keys⟩
end Go.Proofs.Ytdgmcckfdgnicaa
