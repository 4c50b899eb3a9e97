/-
  A part of the proof of a statement of this seat.
-/
import Derived.Test.YthcdjconlfdidaaGreatDoorAwC
import Derived.Test.YthcdjconlfdidaaGreatDoorCEM
import Derived.Test.YthcdjconlfdidaaGreatDoorTB
import Derived.Test.YthcdjconlfdidaaGreatDoorEJM
set_option linter.unusedVariables false
set_option linter.unusedSimpArgs false
namespace Go.Aw
open Go.RowKit Go.ChangeShapes Go.WideShapes Go.ChangeAt
theorem VRels.at2 {c:Ctx}:∀{l l':List Value},VRels c l l'→∀{q:Nat} {x:Value},l[q]? =some x→∃x',l'[q]? =some x'∧VRel c x x'
 |_,_,.nil,q,x,h=>by simp at h
 |_,_,.cons a b,0,x,h=>by cases h;exact ⟨_,rfl,a⟩
 |_,_,.cons a b,q+1,x,h=>VRels.at2 b (by simpa using h)
def LendEl {D:Type} (enc:TypeId×Value→D) (P:Program) (W:World) (e m bnd:Nat) (o1:AObj) (T:Type) (R:AHeap→T→List Value→Prop) (n':Nat):Prop:=
 ∀(cs':List Value) (y':DataW D×List MemPlace),DataW.trod enc P W 0 (fun _=>true) true n' e cs'=some y'→(y'.1.weights P e).all (· ≤bnd)=true→
  ∀(c:Ctx) (H:AHeap),Lent c H W→H[1]? =some o1→∃(v:T) (c':Ctx) (X:AHeap) (acs:List Value),Lent c' (H++X) W∧c.le c'∧VRels c' acs cs'∧acs.length=m∧R (H++X) v acs
theorem lend_slice {D:Type} {enc:TypeId×Value→D} {P:Program} {W:World} {t e:TypeId} {m bnd:Nat} {o1:AObj} {cs0:List Value} {k0:CK} (ho1:o1= .cells cs0 k0) (hk1:k0.own=false) (hk2:k0.esz=0)
  (ht:P.underlying t=some (.slice e)) (hc:P.cellsOf e=m) (hm:0<m) (hby:1≤P.bytesOf e) {n:Nat} {cs:List Value} {y:DataW D×List MemPlace} (h:DataW.trod enc P W 0 (fun _=>true) true n t cs=some y) (hw:(y.1.weights P t).all (· ≤bnd)=true)
  {T:Type} {R:AHeap→T→List Value→Prop} (Rmore:∀H X v a,R H v a→R (H++X) v a) (el:∀n',n'<n→LendEl enc P W e m bnd o1 T R n') {c:Ctx} {H:AHeap} (hL:Lent c H W) (h1:H[1]? =some o1):
  ∃(vs:List T) (c':Ctx) (X:AHeap) (av cv:Value) (css:List (List Value)),cs=[cv]∧Lent c' (H++X) W∧c.le c'∧VRel c' av cv∧RdK (H++X) m av css∧css.length=vs.length∧ (∀ (i:Nat) (v:T) (a:List Value),vs[i]? =some v→css[i]? =some a→R (H++X) v a)∧vs.length≤bnd:=by
 rcases DataW.trod_slice ht h with ⟨rfl,hx⟩|⟨a,len,cap,elems,rest,n',rfl,rfl,hx,h0,h1',h2,h3,h4,h5,-⟩
 ·exact ⟨[],c,[],.slice none 0 0,.slice none 0 0,[],rfl,by rw [List.append_nil];exact hL,Ctx.le_refl _,.nilSlice _ _,.inl ⟨rfl,rfl⟩,rfl,fun i v a hv=>by simp at hv,Nat.zero_le _⟩
 ·have hd:y.1= .slice (elems.map (·.1)) (rest.map (·.1)):=by rw [hx]
  have hlenb:len≤bnd:=by
   have:=List.all_eq_true.1 hw ((elems.length+rest.length)*P.bytesOf e) (by rw [hd,DataW.weights,ht];simp)
   have h6:(elems.length+rest.length)*P.bytesOf e≤bnd:=by simpa using this
   have h7:(elems.length+rest.length)*1≤(elems.length+rest.length)*P.bytesOf e:=Nat.mul_le_mul_left _ hby
   omega
  by_cases hcap:cap=0
  ·have hl0:len=0:=by omega
   subst hcap hl0
   obtain ⟨p,hp,_⟩:=hL.rel.obj 1 o1 h1 (by rw [ho1];rfl)
   refine ⟨[],c,[],.slice (some ⟨1,0,none⟩) 0 0,_,[],rfl,by rw [List.append_nil];exact hL,Ctx.le_refl _,.sliceZ hp,?_,rfl,fun i v a hv=>by simp at hv,Nat.zero_le _⟩
   rw [List.append_nil]
   exact .inr ⟨1,0,0,cs0,k0,rfl,Nat.le_refl _,by rw [h1,ho1],hk1,.inr hk2,by simp,fun j r hj=>by simp at hj⟩
  ·-- a cell of the row is read
   obtain ⟨hr1,hr2⟩:=h5 rfl
   have hread:∃cs',W.cells? 0 (a.add 0) m=some cs':=by
    by_cases hl:0<len
    ·have:=h4 0 hl
     rw [hc,Nat.zero_mul,List.getElem?_eq_getElem (by omega),Option.bind_eq_some_iff] at this
     obtain ⟨cs',h6,_⟩:=this
     exact ⟨cs',h6⟩
    ·have hl0:len=0:=by omega
     have:=hr2 0 (by omega)
     rw [hc,hl0,Nat.zero_add,Nat.zero_mul,List.getElem?_eq_getElem (by omega),Option.bind_eq_some_iff] at this
     obtain ⟨cs',h6,_⟩:=this
     exact ⟨cs',h6⟩
   obtain ⟨b,off,spot⟩:=a
   obtain ⟨cs0',hrd⟩:=hread
   have hspot:spot=none:=by
    obtain ⟨_,g2,g3⟩:=World.cells?_some hrd
    have g4:=g3 0 (by omega)
    rw [List.getElem?_eq_getElem (by omega)] at g4
    cases spot with
    |none=>rfl
    |some x=>
     unfold World.cell? Addr.add at g4
     simp only [if_true] at g4
     split at g4
     ·simp at g4
     ·cases g4
   subst hspot
   rw [addr_add,Nat.add_zero] at hrd
   obtain ⟨arr,row,fr,hb⟩:∃arr row fr,W.heap[b]? =some (.cells arr row fr):=by
    obtain ⟨_,g2,g3⟩:=World.cells?_some hrd
    have g4:=g3 0 (by omega)
    rw [List.getElem?_eq_getElem (by omega),addr_add] at g4
    unfold World.cell? at g4
    split at g4
    ·rename_i arr row fr hb
     exact ⟨arr,row,fr,hb⟩
    ·cases g4
   have hoff0:off+m≤arr.size:=(cells_take (D:=Unit) hb hrd hm).2.1
   have hoff:off≤arr.size:=by omega
   have hel:∀i,i<len→∃cs' y',W.cells? 0 ⟨b,off+i*m,none⟩ m=some cs'∧DataW.trod enc P W 0 (fun _=>true) true n' e cs'=some y'∧(y'.1.weights P e).all (· ≤bnd)=true:=fun i hi=>by
    have:=h4 i hi
    rw [hc,addr_add,List.getElem?_eq_getElem (by omega),Option.bind_eq_some_iff] at this
    obtain ⟨cs',h5',h6⟩:=this
    refine ⟨cs',_,h5',h6,List.all_eq_true.2 fun q hq=> ?_⟩
    refine List.all_eq_true.1 hw q ?_
    rw [hd,DataW.weights,ht]
    exact List.mem_cons_of_mem _ (List.mem_append_left _ (weightsAll_mem (List.mem_map.2 ⟨_,List.getElem_mem (by omega),rfl⟩) hq))
   have key:∀k,k≤len→∃(vs:List T) (css:List (List Value)) (c':Ctx) (X:AHeap),vs.length=k∧css.length=k∧Lent c' (H++X) W∧c.le c'∧ (∀ r∈css,r.length=m)∧
     (∀ (i:Nat) (v:T) (a:List Value),vs[i]? =some v→css[i]? =some a→R (H++X) v a)∧ (∀ (i:Nat) (a:List Value),css[i]? =some a→∀(q:Nat) (x:Value),a[q]? =some x→∃x',arr[off+i*m+q]? =some x'∧VRel c' x x'):=by
    intro k
    induction k with
    |zero=>intro _;exact ⟨[],[],c,[],rfl,rfl,by rw [List.append_nil];exact hL,Ctx.le_refl _,fun r hr=>by simp at hr,fun i v a hv=>by simp at hv,fun i a ha=>by simp at ha⟩
    | succ k ih=>
     intro hk
     obtain ⟨vs,css,c',X,v1,v2,v3,v4,v5,v6,v7⟩:=ih (by omega)
     obtain ⟨cs',y',g1,g2,g3⟩:=hel k (by omega)
     obtain ⟨e1,e2,e3⟩:=cells_take (D:=Unit) hb g1 hm
     obtain ⟨v,c2,Y,acs,w1,w2,w3,w4,w5⟩:=el n' (by omega) cs' y' g2 g3 c' (H++X) v3 (by rw [hgetl (lt_of_get h1)];exact h1)
     refine ⟨vs++[v],css++[acs],c2,X++Y,by simp [v1],by simp [v2],by rw [← List.append_assoc];exact w1,fun i p e=>w2 _ _ (v4 _ _ e),?_,?_,?_⟩
     ·intro r hr
      rcases List.mem_append.1 hr with hr|hr
      ·exact v5 r hr
      ·rw [List.mem_singleton.1 hr];exact w4
     ·intro i v' a' hv ha
      rw [← List.append_assoc]
      by_cases hi:i<k
      ·rw [List.getElem?_append_left (by omega)] at hv ha
       exact Rmore _ _ _ _ (v6 i v' a' hv ha)
      ·have hik:i=k:=by
        have:=(List.getElem?_eq_some_iff.1 hv).1
        simp [v1] at this;omega
       subst hik
       rw [List.getElem?_append_right (by omega),v1,Nat.sub_self] at hv
       rw [List.getElem?_append_right (by omega),v2,Nat.sub_self] at ha
       cases hv;cases ha
       exact w5
     ·intro i a' ha q x hx'
      by_cases hi:i<k
      ·rw [List.getElem?_append_left (by omega)] at ha
       obtain ⟨x',f1,f2⟩:=v7 i a' ha q x hx'
       exact ⟨x',f1,f2.mono w2⟩
      ·have hik:i=k:=by
        have:=(List.getElem?_eq_some_iff.1 ha).1
        simp [v2] at this;omega
       subst hik
       rw [List.getElem?_append_right (by omega),v2,Nat.sub_self] at ha
       cases ha
       obtain ⟨x',f1,f2⟩:=w3.at2 hx'
       have hq:q<m:=by rw [← w4];exact (List.getElem?_eq_some_iff.1 hx').1
       exact ⟨x',by rw [e3 q hq];exact f1,f2⟩
   obtain ⟨vs,css,c',X,v1,v2,v3,v4,v5,v6,v7⟩:=key len (Nat.le_refl _)
   have hfl:css.flatten.length=len*m:=by rw [flat_len v5,v2]
   have hsz:off+css.flatten.length≤arr.size:=by
    rw [hfl]
    rcases Nat.eq_zero_or_pos len with h|h
    ·rw [h];omega
    ·obtain ⟨cs',y',g1,_,_⟩:=hel (len - 1) (by omega)
     have:=(cells_take (D:=Unit) hb g1 hm).2.1
     have e:(len - 1)*m+m=len*m:=by
      have:len=(len - 1)+1:=by omega
      conv=>rhs;rw [this,Nat.add_mul,Nat.one_mul]
     omega
   have hcr:CellsRel c' css.flatten arr off:=by
    intro j x hj
    have hjl:=(List.getElem?_eq_some_iff.1 hj).1
    rw [hfl] at hjl
    have hq:j%m<m:=Nat.mod_lt _ hm
    have hi:j / m<len:=by rw [Nat.div_lt_iff_lt_mul hm];exact hjl
    have hce:css[j / m]? =some css[j / m]:=List.getElem?_eq_getElem (by omega)
    have hfa:=flat_at v5 hce
    have hx':(css[j / m])[j%m]? =some x:=by
     rw [← hfa,List.getElem?_take_of_lt hq,List.getElem?_drop,←hj]
     congr 1
     have:=Nat.div_add_mod j m;rw [Nat.mul_comm] at this;omega
    obtain ⟨x',f1,f2⟩:=v7 _ _ hce _ _ hx'
    refine ⟨x',?_,f2⟩
    rw [← f1]
    congr 1
    have:=Nat.div_add_mod j m;rw [Nat.mul_comm] at this;omega
   refine ⟨vs,_,X++ [.cells css.flatten ⟨row,0,false,0,none⟩],.slice (some ⟨(H++X).length,0,none⟩) len cap,_,css,rfl,by rw [← List.append_assoc];exact v3.add hb (off:=off) hsz hcr,fun i p e=>(v3.le _) _ _ (v4 _ _ e),?_,?_,by rw [v1,v2],fun i v a hv ha=> ?_,by omega⟩
   ·have:VRel (c'.add (H++X).length ⟨b,off,css.flatten.length,0,0⟩) (.slice (some ⟨(H++X).length,0,none⟩) len cap) (.slice (some ⟨b,off+0,none⟩) len cap):= .slice (p:=⟨b,off,css.flatten.length,0,0⟩) (by simp [Ctx.add])
    rw [Nat.add_zero] at this;exact this
   ·refine .inr ⟨(H++X).length,0,cap,css.flatten,⟨row,0,false,0,none⟩,by rw [v2],by omega,by rw [← List.append_assoc];exact hget0 rfl,rfl,.inr rfl,by rw [hfl,v2];omega,fun j r hj=> ?_⟩
    rw [Nat.zero_add]
    exact flat_at v5 hj
   ·rw [← List.append_assoc]
    exact Rmore _ _ _ _ (v6 i v a hv ha)
end Go.Aw

set_option linter.unusedVariables false
set_option linter.unusedSimpArgs false
set_option maxRecDepth 20000
namespace Go.Proofs.YthcdjconlfdidaaGreatDoor
open Go Go.Aw Go.Proofs Go.RowKit Go.ChangeShapes Go.WideShapes Go.ChangeAt
def fieldO (P:Program) (t i:Nat):Option (Nat×Nat):=
 match P.underlying t with
 |some (.struct fs)=>fs[i]?.map fun f=>(f.type,f.offset)
 |_=>none
theorem fieldO_some {P:Program} {t i a b:Nat} (h:fieldO P t i=some (a,b)) {fs:Array Field} (hu:P.underlying t=some (.struct fs)):∃f,fs[i]? =some f∧f.type=a∧f.offset=b:=by
 unfold fieldO at h
 rw [hu] at h
 simp only at h
 rw [Option.map_eq_some_iff] at h
 obtain ⟨f,e,h⟩:=h
 cases h
 exact ⟨f,e,rfl,rfl⟩
theorem RdL.of {H:AHeap}:∀{l:List BV} {css:List (List Value)},css.length=l.length→ (∀ (i:Nat) (v:BV) (a:List Value),l[i]? =some v→css[i]? =some a→RdV H v a)→RdL H l css
 |[],css,hl,h=>by unfold RdL;exact List.length_eq_zero_iff.1 hl
 |v::l,[],hl,h=>by simp at hl
 |v::l,a::css,hl,h=>by
  unfold RdL
  exact ⟨a,css,rfl,h 0 v a rfl rfl,RdL.of (by simpa using hl) fun i v' a' h1 h2=>h (i+1) v' a' (by simpa using h1) (by simpa using h2)⟩
def RdW (H:AHeap) (v:BV) (cs:List Value):Prop:=RdV H v cs∧wideV v∧v.nums
theorem RdW.more (H X:AHeap) (v:BV) (a:List Value) (h:RdW H v a):RdW (H++X) v a:=⟨h.1.kept (Kept.more H X),h.2⟩
def RdS (H:AHeap) (s:List UInt8) (cs:List Value):Prop:=cs= [.string (bs s)]∧s.length≤reachBytes
theorem keyC_of {keys:List (List UInt8)} {css:List (List Value)} (hl:css.length=keys.length) (h:∀(i:Nat) (v:List UInt8) (a:List Value),keys[i]? =some v→css[i]? =some a→a= [.string (bs v)]):css=keyC keys:=by
 refine List.ext_getElem? fun i=> ?_
 rw [keyC,List.getElem?_map]
 rcases Nat.lt_or_ge i keys.length with hi|hi
 ·rw [List.getElem?_eq_getElem hi,List.getElem?_eq_getElem (by omega)]
  exact congrArg some (h i _ _ (List.getElem?_eq_getElem hi) (List.getElem?_eq_getElem (by omega)))
 ·rw [List.getElem?_eq_none hi,List.getElem?_eq_none (by omega)];rfl
theorem lendV {D:Type} {enc:TypeId×Value→D} {W:World} {o1:AObj} {cs0:List Value} {k0:CK} (ho1:o1= .cells cs0 k0) (hk1:k0.own=false) (hk2:k0.esz=0):∀(n:Nat),LendEl enc Tryz.prog W 27 5 reachBytes o1 BV RdW n:=by
 intro n
 induction n using Nat.strongRecOn with
 | _ n ih=>
  intro cs y h hw c H hL h1
  obtain ⟨fs,hu⟩:∃fs,Tryz.prog.underlying 27=some (.struct fs):=⟨_,Tryz.underlying27⟩
  obtain ⟨xs,n1,rfl,hy,hlen,hxl,hall⟩:=DataW.trod_struct hu h
  have hlen5:cs.length=5:=hlen.trans (by kernel_rfl)
  have hwe:∀(i:Nat) (f:Field) (x:DataW D×List MemPlace),fs[i]? =some f→xs[i]? =some x→(x.1.weights Tryz.prog f.type).all (· ≤reachBytes)=true:=fun i f x hf hx=>by
   refine List.all_eq_true.2 fun q hq=>List.all_eq_true.1 hw q ?_
   rw [hy]
   simp only [DataW.weights,hu]
   refine DataW.weights_mem_each (j:=i) (t:=f.type) (d:=x.1) ?_ ?_ q hq
   ·rw [List.getElem?_map,Array.getElem?_toList,hf];rfl
   ·rw [List.getElem?_map,hx];rfl
  have fld:∀(i a b m:Nat),fieldO Tryz.prog 27 i=some (a,b)→Tryz.prog.cellsOf a=m→∃x,DataW.trod enc Tryz.prog W 0 (fun _=>true) true n1 a ((cs.drop b).take m)=some x∧(x.1.weights Tryz.prog a).all (· ≤reachBytes)=true:=by
   intro i a b m hf hm
   obtain ⟨f,e,rfl,rfl⟩:=fieldO_some hf hu
   have hix:i<xs.length:=by rw [hxl];exact (Array.getElem?_eq_some_iff.1 e).1
   have h3:=hall i f e
   rw [List.getElem?_eq_getElem hix,hm] at h3
   exact ⟨_,h3,hwe i f _ e (List.getElem?_eq_getElem hix)⟩
  obtain ⟨x0,f0,-⟩:=fld 0 3 0 1 (by kernel_rfl) (by kernel_rfl)
  obtain ⟨x1,f1,-⟩:=fld 1 3 1 1 (by kernel_rfl) (by kernel_rfl)
  obtain ⟨x2,f2,g2⟩:=fld 2 9 2 1 (by kernel_rfl) (by kernel_rfl)
  obtain ⟨x3,f3,g3⟩:=fld 3 23 3 1 (by kernel_rfl) (by kernel_rfl)
  obtain ⟨x4,f4,g4⟩:=fld 4 22 4 1 (by kernel_rfl) (by kernel_rfl)
  match cs,hlen5 with
  | [q0,q1,q2,q3,q4],_=>
   obtain ⟨z0,e0,-,-⟩:=DataW.trod_int Tryz.underlying3 f0
   obtain ⟨z1,e1,-,w1⟩:=DataW.trod_int Tryz.underlying3 f1
   obtain ⟨s,e2,hx2,-⟩:=DataW.trod_string Tryz.underlying9 f2
   rw [hx2] at g2
   have hs:s.data.toList.length≤reachBytes:=by simpa [DataW.weights] using g2
   obtain ⟨kids,c1,X1,a3,v3,css,e3,hL1,le1,va3,rd3,len3,r3,b3⟩:=lend_slice ho1 hk1 hk2 Tryz.underlying23 (by kernel_rfl:Tryz.prog.cellsOf 27=5) (by decide) (by decide+kernel) f3 g3 RdW.more (fun n' hn=>ih n' (by omega)) hL h1
   obtain ⟨keys,c2,X2,a4,v4,css4,e4,hL2,le2,va4,rd4,len4,r4,b4⟩:=lend_slice (m:=1) (R:=RdS) ho1 hk1 hk2 Tryz.underlying22 (by kernel_rfl:Tryz.prog.cellsOf 9=1) (by decide) (by decide+kernel) f4 g4 (fun H X v a h=>h) (fun n' hn cs' y' h' hw' c H hL' h1'=>by
     obtain ⟨s',e',hx',-⟩:=DataW.trod_string Tryz.underlying9 h'
     rw [hx'] at hw'
     refine ⟨s'.data.toList,c,[],cs',by rw [List.append_nil];exact hL',Ctx.le_refl _,by rw [e'];exact .cons (.string _) .nil,by rw [e'];rfl,by rw [e'];exact ⟨rfl,by simpa [DataW.weights] using hw'⟩⟩) hL1 (by rw [hgetl (lt_of_get h1)];exact h1)
   simp only [List.drop_zero,List.drop_succ_cons,List.take_succ_cons,List.take_zero,List.cons.injEq,and_true] at e0 e1 e2 e3 e4
   subst e0 e1 e2 e3 e4
   have hrk:=reach_lt
   have hkc:css4=keyC keys:=keyC_of len4 fun i v a h1 h2=>(r4 i v a h1 h2).1
   subst hkc
   refine ⟨.mk z0 z1 s.data.toList kids keys,c2,X1++X2,[.int .i64 z0,.int .i64 z1,.string s,a3,a4],by rw [← List.append_assoc];exact hL2,fun i p e=>le2 _ _ (le1 _ _ e),.cons (.int _ _) (.cons (.int _ _) (.cons (.string _) (.cons (va3.mono le2) (.cons va4 .nil)))),rfl,?_,?_,?_⟩
   ·unfold RdV
    refine ⟨a3,a4,css,rfl,?_,?_,?_⟩
    ·rw [← List.append_assoc];exact rd3.kept (Kept.more _ _)
    ·rw [← List.append_assoc];exact RdL.kept (Kept.more _ _) (RdL.of len3 fun i v a h1 h2=>(r3 i v a h1 h2).1)
    ·rw [← List.append_assoc];exact rd4
   ·unfold wideV
    refine ⟨by omega,by omega,by omega,wideL_iff.2 fun k hk=> ?_⟩
    obtain ⟨i,hi,rfl⟩:=List.getElem_of_mem hk
    exact (r3 i _ _ (List.getElem?_eq_getElem hi) (List.getElem?_eq_getElem (by omega))).2.1
   ·unfold BV.nums
    refine ⟨?_,BV.numsL_iff.2 fun k hk=> ?_⟩
    ·exact wf_i64 w1
    ·obtain ⟨i,hi,rfl⟩:=List.getElem_of_mem hk
     exact (r3 i _ _ (List.getElem?_eq_getElem hi) (List.getElem?_eq_getElem (by omega))).2.2
end Go.Proofs.YthcdjconlfdidaaGreatDoor

set_option linter.unusedVariables false
set_option linter.unusedSimpArgs false
set_option maxRecDepth 20000
namespace Go.Proofs.YthcdjconlfdidaaGreatDoor
open Go Go.Aw Go.Proofs Go.RowKit Go.ChangeShapes Go.WideShapes Go.ChangeAt
theorem open_texts {D:Type} {enc:TypeId×Value→D} {W:World} {o1:AObj} {cs0:List Value} {k0:CK} (ho1:o1= .cells cs0 k0) (hk1:k0.own=false) (hk2:k0.esz=0) {v:Value} {d:DataW D} {ps:List MemPlace} {b0:Nat}
  (hval:Value.okWide Tryz.prog W .any b0 22 v) (h:DataW.Trod enc Tryz.prog W 0 (fun _=>true) true 22 v d ps) (hw:(d.weights Tryz.prog 22).all (· ≤reachBytes)=true) {c:Ctx} {H:AHeap} (hL:Lent c H W) (h1:H[1]? =some o1):
  ∃(p:List (List UInt8)) (c':Ctx) (X:AHeap) (av:Value),Lent c' (H++X) W∧c.le c'∧VRel c' av v∧RdK (H++X) 1 av (keyC p)∧p.length≤reachBytes∧∀t∈p,t.length≤reachBytes:=by
 have hna:∀q,v≠ .agg q:=fun q e=>by
  subst e;simp [Value.okWide,Tryz.underlying22,Cell.okWide,Cell.ok] at hval
 obtain ⟨fuel,hf⟩:=h
 obtain ⟨keys,c2,X2,a4,v4,css4,e4,hL2,le2,va4,rd4,len4,r4,b4⟩:=lend_slice (m:=1) (R:=RdS) ho1 hk1 hk2 Tryz.underlying22 (by kernel_rfl:Tryz.prog.cellsOf 9=1) (by decide) (by decide+kernel) hf hw (fun H X v a h=>h) (fun n' hn cs' y' h' hw' c H hL' h1'=>by
   obtain ⟨s',e',hx',-⟩:=DataW.trod_string Tryz.underlying9 h'
   rw [hx'] at hw'
   refine ⟨s'.data.toList,c,[],cs',by rw [List.append_nil];exact hL',Ctx.le_refl _,by rw [e'];exact .cons (.string _) .nil,by rw [e'];rfl,by rw [e'];exact ⟨rfl,by simpa [DataW.weights] using hw'⟩⟩) hL h1
 have hkc:css4=keyC keys:=keyC_of len4 fun i v a h1 h2=>(r4 i v a h1 h2).1
 subst hkc
 have hv:v=v4:=by
  cases v<;> simp [Value.cells] at e4 hna<;> simp [e4]
 subst hv
 refine ⟨keys,c2,X2,a4,hL2,le2,va4,rd4,b4,fun t ht=> ?_⟩
 obtain ⟨i,hi,rfl⟩:=List.getElem_of_mem ht
 exact (r4 i _ _ (List.getElem?_eq_getElem hi) (List.getElem?_eq_getElem (by omega))).2
theorem open_vals {D:Type} {enc:TypeId×Value→D} {W:World} {o1:AObj} {cs0:List Value} {k0:CK} (ho1:o1= .cells cs0 k0) (hk1:k0.own=false) (hk2:k0.esz=0) {v:Value} {d:DataW D} {ps:List MemPlace} {b0:Nat}
  (hval:Value.okWide Tryz.prog W .any b0 23 v) (h:DataW.Trod enc Tryz.prog W 0 (fun _=>true) true 23 v d ps) (hw:(d.weights Tryz.prog 23).all (· ≤reachBytes)=true) {c:Ctx} {H:AHeap} (hL:Lent c H W) (h1:H[1]? =some o1):
  ∃(l:List BV) (c':Ctx) (X:AHeap) (av:Value) (css:List (List Value)),Lent c' (H++X) W∧c.le c'∧VRel c' av v∧RdK (H++X) 5 av css∧RdL (H++X) l css∧l.length≤reachBytes∧wideL l∧BV.numsL l:=by
 have hna:∀q,v≠ .agg q:=fun q e=>by
  subst e;simp [Value.okWide,Tryz.underlying23,Cell.okWide,Cell.ok] at hval
 obtain ⟨fuel,hf⟩:=h
 obtain ⟨kids,c1,X1,a3,v3,css,e3,hL1,le1,va3,rd3,len3,r3,b3⟩:=lend_slice ho1 hk1 hk2 Tryz.underlying23 (by kernel_rfl:Tryz.prog.cellsOf 27=5) (by decide) (by decide+kernel) hf hw RdW.more (fun n' hn=>lendV ho1 hk1 hk2 n') hL h1
 have hv:v=v3:=by
  cases v<;> simp [Value.cells] at e3 hna<;> simp [e3]
 subst hv
 refine ⟨kids,c1,X1,a3,css,hL1,le1,va3,rd3,RdL.of len3 fun i v a h1 h2=>(r3 i v a h1 h2).1,b3,wideL_iff.2 fun k hk=> ?_,BV.numsL_iff.2 fun k hk=> ?_⟩
 ·obtain ⟨i,hi,rfl⟩:=List.getElem_of_mem hk
  exact (r3 i _ _ (List.getElem?_eq_getElem hi) (List.getElem?_eq_getElem (by omega))).2.1
 ·obtain ⟨i,hi,rfl⟩:=List.getElem_of_mem hk
  exact (r3 i _ _ (List.getElem?_eq_getElem hi) (List.getElem?_eq_getElem (by omega))).2.2
end Go.Proofs.YthcdjconlfdidaaGreatDoor
