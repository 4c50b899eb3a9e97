/-
  The abstract memory and the walk of code over it, part 2.
-/
import Derived.Test.YtdgmcckfdgnicaaAwA
import Derived.WalkKit
import Derived.ProofKit
import Derived.OpenShut
import Derived.JoinedCond
import Derived.Carry
import Derived.ChangeMaps5
import Derived.ChangeSlices
import Derived.SliceStrings
import Derived.SizedLaws
import Derived.RecoverIn
import Derived.LoopNIn
import Derived.Shelf.Strings.OnBuilder
set_option linter.unusedVariables false
set_option linter.unusedSimpArgs false
namespace Go.Aw
def gd (ops:List Oper) (j:Nat):Option Tmp:=(ops[j]?).bind (·.dst)
def wantW (ops:List Oper) (o:Oper) (st:ASt) (run skip:Prop):Prop:=
 match o.guard with
 |none=>run
 |some (j,want)=>wth (gd ops j) fun d=>wth (lk d st.env) fun v=>match v with
  | .bool b=>(b=want→run)∧(b≠want→skip)
  | .tuple _=>skip
  |_=>False
def regionW (g:Cfg) (ops:List Oper):List Oper→ASt→(ASt→Prop)→(Value→ASt→Prop)→Prop
 |[],st,K,_=>K st
 |o::r,st,K,Kp=>wantW ops o st (opW g o st (fun st'=>regionW g ops r st' K Kp) Kp) (regionW g ops r (st.put o.dst noVal) K Kp)
def dstsOk (N:Nat) (l:List Oper):Bool:=l.all fun o=>match o.dst with|some d=>decide (d<N)|none=>true
theorem wantW_elim {N:Fr} {c:Ctx} {ops:List Oper} {o:Oper} {st:ASt} {run skip:Prop} {w:World} {a:Act} (hs:SRel N c st w a) (h:wantW ops o st run skip):
  (Region.wanted o (yielded ops.toArray a.tmps)=true∧run)∨(Region.wanted o (yielded ops.toArray a.tmps)=false∧skip):=by
 unfold wantW at h
 unfold Region.wanted
 split at h
 ·rename_i hg;rw [hg];exact .inl ⟨rfl,h⟩
 ·rename_i j want hg
  rw [hg]
  obtain ⟨d,hd,h⟩:=wth_elim h
  obtain ⟨v,hv,h⟩:=wth_elim h
  obtain ⟨v',h1,h2⟩:=hs.tmps d v hv
  have hd':((ops.toArray[j]?).bind (·.dst))=some d:=by simpa [gd] using hd
  have hy:yielded ops.toArray a.tmps j=(match some v' with|some (.bool b)=>some b|_=>none):=by
   unfold yielded
   rw [hd',Option.bind_some,←h1]
   rfl
  split at h
  ·rename_i b
   cases h2
   simp only at hy
   by_cases hb:b=want
   ·exact .inl ⟨by simp only [hy,hb];simp,h.1 hb⟩
   ·exact .inr ⟨by simp only [hy];simpa using hb,h.2 hb⟩
  ·cases h2
   exact .inr ⟨by simp only [hy];rfl,h⟩
  ·exact h.elim
theorem region_ok {g:Cfg} {Q:AExit→ASt→Prop} (ops:List Oper):∀(l:List Oper) (st:ASt),dstsOk g.N.n l=true→regionW g ops l st (fun st'=>Q .normal st') (fun v st'=>Q (.panic v) st')→
  ∀c w a,SRel g.N c st w a→wpListIn (fenceOf g.lr) 0 g.P ops.toArray (APost g Q c st.H w) l a w
 |[],st,_,h,c,w,a,hs=> ⟨.normal,st,c,h,.normal,hs,.refl _ _ _ _⟩
 | o::l,st,hd,h,c,w,a,hs=>by
  simp only [dstsOk,List.all_cons,Bool.and_eq_true] at hd
  have hd1:∀d,o.dst=some d→d<g.N.n:=fun d e=>by rw [e] at hd;simpa using hd.1
  simp only [regionW] at h
  simp only [wpListIn]
  rcases wantW_elim hs h with ⟨hw,hr⟩|⟨hw,hr⟩
  ·rw [if_pos hw]
   refine opW_ok hd1 hr c w a _ _ hs ?_ ?_
   ·intro st' c' a' w' hK hs' ht _
    have:=region_ok ops l st' (by simpa [dstsOk] using hd.2) hK c' w' a' hs'
    have hback:∀e a2 w2,APost g Q c' st'.H w' e a2 w2→APost g Q c st.H w e a2 w2:=fun e a2 w2 hp=>hp.back ht
    exact wpList_mono hback l this
   ·intro v v' st' c' a' w' hKp hv hs' ht
    exact ⟨.panic v,st',c',hKp,.panic hv,hs',ht⟩
  ·rw [if_neg (by rw [hw];simp)]
   refine ⟨about_any g.lr,?_⟩
   have hs':SRel g.N c (st.put o.dst noVal) w (a.put o.dst undef):=hs.put hd1 (.tuple .nil)
   have:=region_ok ops l (st.put o.dst noVal) (by simpa [dstsOk] using hd.2) hr c w _ hs'
   have hH:(st.put o.dst noVal).H=st.H:=by cases o.dst<;> rfl
   rw [hH] at this
   exact this
where
 wpList_mono {F:Fence} {n:Nat} {P:Program} {ops:Array Oper} {Q Q':Exit→Act→World→Prop} (hq:∀e a w,Q e a w→Q' e a w):∀(l:List Oper) {a:Act} {w:World},wpListIn F n P ops Q l a w→wpListIn F n P ops Q' l a w
  |[],a,w,h=>hq _ _ _ h
  | o :: l,a,w,h=>by
   simp only [wpListIn] at h ⊢
   split
   ·rename_i hw
    rw [if_pos hw] at h
    refine ⟨h.1,?_⟩
    have hh:=h.2
    generalize (o.semAt F.round a.eval).run P w=r at*
    cases r with
    | ok x w'=>
     cases x<;> simp only [Oper.uponIn] at hh ⊢ <;>
      first
       |exact wpList_mono hq l hh
       | exact ⟨hh.1,CallsIn.mono hh.2 (fun e w'' he=>by
         cases e with
         |returned v=>exact wpList_mono hq l he
         |panicked ch=>exact hq _ _ _ he
         |outgrown=>obtain ⟨a0,w0,h0⟩:=he;exact ⟨a0,w0,hq _ _ _ h0⟩)⟩
       |exact ⟨hh.1,RowsIn.mono hh.2 (fun _ _ he=>wpList_mono hq l he)⟩
       | exact ⟨hh.1,RoundIn.mono hh.2 (fun e w'' he=>by
         cases e with
         |returned v=>exact wpList_mono hq l he
         |panicked ch=>exact hq _ _ _ he
         |outgrown=>obtain ⟨a0,w0,h0⟩:=he;exact ⟨a0,w0,hq _ _ _ h0⟩)⟩
    |halt x w'=>cases x<;> simp only [Oper.uponIn] at hh ⊢ <;> exact hq _ _ _ hh
   ·rename_i hw
    rw [if_neg hw] at h
    exact ⟨h.1,wpList_mono hq l h.2⟩
theorem AWP.region {g:Cfg} {Q:AExit→ASt→Prop} {st:ASt} {id:Nat} {l:List Oper} (hd:dstsOk g.N.n l=true) (h:regionW g l l st (fun st'=>Q .normal st') (fun v st'=>Q (.panic v) st')):
  AWP g (.region id l.toArray false) Q st:=
 fun c w a hs=>wpIn_region_lit (region_ok l l st hd h c w a hs)
abbrev Names:=Nat→Option Nat
mutual
inductive NRel (m:Names):Value→Value→Prop
 |bool (b:Bool):NRel m (.bool b) (.bool b)
 |int (k:IntKind) (n:Int):NRel m (.int k n) (.int k n)
 |float (k:FloatKind) (n:Nat):NRel m (.float k n) (.float k n)
 |string (s:ByteArray):NRel m (.string s) (.string s)
 |nilPtr:NRel m (.pointer none) (.pointer none)
 |ptr {i j off:Nat}:m i=some j→NRel m (.pointer (some ⟨i,off,none⟩)) (.pointer (some ⟨j,off,none⟩))
 |nilSlice (l n:Nat):NRel m (.slice none l n) (.slice none l n)
 |slice {i j off len cap:Nat}:m i=some j→NRel m (.slice (some ⟨i,off,none⟩) len cap) (.slice (some ⟨j,off,none⟩) len cap)
 |nilMap:NRel m (.map none) (.map none)
 |map {i j:Nat}:m i=some j→NRel m (.map (some i)) (.map (some j))
 |func {f:FuncId} {xs ys xs' ys':List Value}:NRels m xs xs'→NRels m ys ys'→NRel m (.func (.func f) ⟨xs⟩ ⟨ys⟩) (.func (.func f) ⟨xs'⟩ ⟨ys'⟩)
 |method {f:String} {xs ys xs' ys':List Value}:NRels m xs xs'→NRels m ys ys'→NRel m (.func (.method f) ⟨xs⟩ ⟨ys⟩) (.func (.method f) ⟨xs'⟩ ⟨ys'⟩)
 |methodOf {t:TypeId} {f:String} {xs ys xs' ys':List Value}:NRels m xs xs'→NRels m ys ys'→NRel m (.func (.methodOf t f) ⟨xs⟩ ⟨ys⟩) (.func (.methodOf t f) ⟨xs'⟩ ⟨ys'⟩)
 |yield {i j:Nat} {xs ys xs' ys':List Value}:m i=some j→NRels m xs xs'→NRels m ys ys'→NRel m (.func (.yield i) ⟨xs⟩ ⟨ys⟩) (.func (.yield j) ⟨xs'⟩ ⟨ys'⟩)
 |nilFunc:NRel m .nilFunc .nilFunc
 |iface {t:TypeId} {v v':Value}:NRel m v v'→NRel m (.iface t v) (.iface t v')
 |nilIface:NRel m .nilIface .nilIface
 |agg {xs xs':List Value}:NRels m xs xs'→NRel m (.agg ⟨xs⟩) (.agg ⟨xs'⟩)
 |tuple {xs xs':List Value}:NRels m xs xs'→NRel m (.tuple ⟨xs⟩) (.tuple ⟨xs'⟩)
inductive NRels (m:Names):List Value→List Value→Prop
 |nil:NRels m [] []
 |cons {v v':Value} {xs xs':List Value}:NRel m v v'→NRels m xs xs'→NRels m (v::xs) (v'::xs')
end
mutual
theorem NRel.comp {m:Names} {c e:Ctx} (h:∀i j,m i=some j→e i=c j):∀{v v1 v':Value},NRel m v v1→VRel c v1 v'→VRel e v v'
 |_,_,_,.bool b,k=>by cases k;exact .bool b
 |_,_,_,.int k n,j=>by cases j;exact .int k n
 |_,_,_,.float k n,j=>by cases j;exact .float k n
 |_,_,_,.string s,k=>by cases k;exact .string s
 |_,_,_,.nilPtr,k=>by cases k;exact .nilPtr
 |_,_,_,.ptr hi,k=>by cases k with|ptr hj=>exact .ptr (by rw [h _ _ hi];exact hj)
 |_,_,_,.nilSlice l n,k=>by cases k;exact .nilSlice l n
 |_,_,_,.slice hi,k=>by
  cases k with
  |slice hj=>exact .slice (by rw [h _ _ hi];exact hj)
  |sliceX hj hx=>exact .sliceX (by rw [h _ _ hi];exact hj) hx
  |sliceZ hj=>exact .sliceZ (by rw [h _ _ hi];exact hj)
 |_,_,_,.nilMap,k=>by cases k;exact .nilMap
 |_,_,_,.map hi,k=>by cases k with|map hj=>exact .map (by rw [h _ _ hi];exact hj)
 |_,_,_,.func a b,k=>by cases k with|func f' a' b'=>cases f';exact .func (.func _) (NRels.comp h a a') (NRels.comp h b b')
 |_,_,_,.method a b,k=>by cases k with|func f' a' b'=>cases f';exact .func (.method _) (NRels.comp h a a') (NRels.comp h b b')
 |_,_,_,.methodOf a b,k=>by cases k with|func f' a' b'=>cases f';exact .func (.methodOf _ _) (NRels.comp h a a') (NRels.comp h b b')
 |_,_,_,.yield hi a b,k=>by cases k with|func f' a' b'=>cases f' with|yield hj=>exact .func (.yield (by rw [h _ _ hi];exact hj)) (NRels.comp h a a') (NRels.comp h b b')
 |_,_,_,.nilFunc,k=>by cases k;exact .nilFunc
 |_,_,_,.iface a,k=>by cases k with|iface b=>exact .iface (NRel.comp h a b)
 |_,_,_,.nilIface,k=>by cases k;exact .nilIface
 |_,_,_,.agg a,k=>by cases k with|agg b=>exact .agg (NRels.comp h a b)
 |_,_,_,.tuple a,k=>by cases k with|tuple b=>exact .tuple (NRels.comp h a b)
theorem NRels.comp {m:Names} {c e:Ctx} (h:∀i j,m i=some j→e i=c j):∀{v v1 v':List Value},NRels m v v1→VRels c v1 v'→VRels e v v'
 |_,_,_,.nil,k=>by cases k;exact .nil
 |_,_,_,.cons a b,k=>by cases k with|cons a' b'=>exact .cons (NRel.comp h a a') (NRels.comp h b b')
end
def upto (n:Nat):Names:=fun i=>if i<n then some i else none
mutual
theorem VRel.inside {c:Ctx} {m:Names} (h:∀i p,c i=some p→m i=some i):∀{v v':Value},VRel c v v'→NRel m v v
 |_,_,.bool b=> .bool b
 |_,_,.int k n=> .int k n
 |_,_,.float k n=> .float k n
 |_,_,.string s=> .string s
 |_,_,.nilPtr=> .nilPtr
 |_,_,.ptr e=> .ptr (h _ _ e)
 |_,_,.nilSlice l n=> .nilSlice l n
 |_,_,.slice e=> .slice (h _ _ e)
 |_,_,.sliceX e x=> .slice (h _ _ e)
 |_,_,.sliceZ e=> .slice (h _ _ e)
 |_,_,.nilMap=> .nilMap
 |_,_,.map e=> .map (h _ _ e)
 |_,_,.func f a b=>by
  cases f with
  |func=>exact .func (VRels.inside h a) (VRels.inside h b)
  |method=>exact .method (VRels.inside h a) (VRels.inside h b)
  |methodOf=>exact .methodOf (VRels.inside h a) (VRels.inside h b)
  |yield e=>exact .yield (h _ _ e) (VRels.inside h a) (VRels.inside h b)
 |_,_,.nilFunc=> .nilFunc
 |_,_,.iface a=> .iface (VRel.inside h a)
 |_,_,.nilIface=> .nilIface
 |_,_,.agg a=> .agg (VRels.inside h a)
 |_,_,.tuple a=> .tuple (VRels.inside h a)
theorem VRels.inside {c:Ctx} {m:Names} (h:∀i p,c i=some p→m i=some i):∀{v v':List Value},VRels c v v'→NRels m v v
 |_,_,.nil=> .nil
 |_,_,.cons a b=> .cons (VRel.inside h a) (VRels.inside h b)
end
mutual
theorem NRel.mono {m m':Names} (h:∀i j,m i=some j→m' i=some j):∀{v v':Value},NRel m v v'→NRel m' v v'
 |_,_,.bool b=> .bool b
 |_,_,.int k n=> .int k n
 |_,_,.float k n=> .float k n
 |_,_,.string s=> .string s
 |_,_,.nilPtr=> .nilPtr
 |_,_,.ptr e=> .ptr (h _ _ e)
 |_,_,.nilSlice l n=> .nilSlice l n
 |_,_,.slice e=> .slice (h _ _ e)
 |_,_,.nilMap=> .nilMap
 |_,_,.map e=> .map (h _ _ e)
 |_,_,.func a b=> .func (NRels.mono h a) (NRels.mono h b)
 |_,_,.method a b=> .method (NRels.mono h a) (NRels.mono h b)
 |_,_,.methodOf a b=> .methodOf (NRels.mono h a) (NRels.mono h b)
 |_,_,.yield e a b=> .yield (h _ _ e) (NRels.mono h a) (NRels.mono h b)
 |_,_,.nilFunc=> .nilFunc
 |_,_,.iface a=> .iface (NRel.mono h a)
 |_,_,.nilIface=> .nilIface
 |_,_,.agg a=> .agg (NRels.mono h a)
 |_,_,.tuple a=> .tuple (NRels.mono h a)
theorem NRels.mono {m m':Names} (h:∀i j,m i=some j→m' i=some j):∀{v v':List Value},NRels m v v'→NRels m' v v'
 |_,_,.nil=> .nil
 |_,_,.cons a b=> .cons (NRel.mono h a) (NRels.mono h b)
end
theorem NRel.of_scalar {m:Names}:∀{v:Value},scalar v=true→NRel m v v
 | .bool b,_=> .bool b
 | .int k n,_=> .int k n
 | .float k n,_=> .float k n
 | .string s,_=> .string s
 | .pointer none,_=> .nilPtr
 | .slice none l n,_=> .nilSlice l n
 | .map none,_=> .nilMap
 | .nilFunc,_=> .nilFunc
 | .nilIface,_=> .nilIface
 | .pointer (some _),h| .slice (some _) _ _,h| .map (some _),h| .complex ..,h| .chan _,h| .func ..,h| .iface ..,h| .agg _,h| .tuple _,h=>by simp [scalar] at h
theorem NRels.of_scalars {m:Names}:∀{l:List Value},l.all scalar=true→NRels m l l
 |[],_=> .nil
 |v::l,h=>by simp at h;exact .cons (.of_scalar h.1) (NRels.of_scalars (by simpa using h.2))
theorem NRel.of_plain {m:Names} {v:Value} (h:plain v=true):NRel m v v:=by
 cases v with
 |agg cs=>obtain ⟨l⟩:=cs;exact .agg (NRels.of_scalars h)
 |tuple cs=>obtain ⟨l⟩:=cs;exact .tuple (NRels.of_scalars h)
 |iface t v=>exact .iface (.of_scalar h)
 |_=>exact .of_scalar h
theorem NRels.get {m:Names}:∀{xs ys:List Value},NRels m xs ys→∀{k:Nat} {v:Value},xs[k]? =some v→∃v',ys[k]? =some v'∧NRel m v v'
 |_,_,.nil,k,v,h=>by simp at h
 |_,_,.cons a b,0,v,h=>by simp at h;subst h;exact ⟨_,rfl,a⟩
 |_,_,.cons a b,k+1,v,h=>by simpa using NRels.get b (by simpa using h)
theorem NRels.length {m:Names}:∀{xs ys:List Value},NRels m xs ys→xs.length=ys.length
 |_,_,.nil=>rfl
 |_,_,.cons a b=>by simp [NRels.length b]
inductive OName (m:Names):AObj→AObj→Prop
 |dead (o:AObj):OName m .dead o
 |cells {cs cs':List Value} (k:CK):NRels m cs cs'→OName m (.cells cs k) (.cells cs' k)
 |loop {L L':ALoop}:L'.state=L.state→L'.pending=L.pending→L'.n=L.n→L'.params=L.params→L'.assign=L.assign→L'.body=L.body→ (∀ t v,lk t L.env=some v→∃v1,lk t L'.env=some v1∧NRel m v v1)→OName m (.loop L) (.loop L')
 |amap {es es':List (Value×Value×Nat)} (ck:Nat) (own:Bool):NRels m (es.map (·.1)) (es'.map (·.1))→NRels m (es.map (·.2.1)) (es'.map (·.2.1))→es'.map (·.2.2)=es.map (·.2.2)→OName m (.amap es ck own) (.amap es' ck own)
 |iter {v v':Value} (since:Nat) (seen:List Nat) (last:Nat):NRel m v v'→OName m (.iter v since seen last) (.iter v' since seen last)
structure HName (n0:Nat) (m:Names) (H1 H2:AHeap):Prop where
 keep:∀i,i<n0→m i=some i
 out:∀i,H2.length≤i→m i=none
 inj:∀i j k,m i=some k→m j=some k→i=j
 obj:∀i o2,H2[i]? =some o2→o2.live=true→∃j o1,m i=some j∧H1[j]? =some o1∧OName m o2 o1
theorem HName.use {n0:Nat} {m:Names} {H1 H2:AHeap} (h:HName n0 m H1 H2) {c:Ctx} {w:World} (hr:HRel c H1 w):
  ∃c2:Ctx,HRel c2 H2 w∧Trans n0 c H1 w c2 H2 w∧∀i j,m i=some j→c2 i=c j:=by
 let c2:Ctx:=fun i=>(m i).bind c
 have hc:∀i j,m i=some j→c2 i=c j:=fun i j e=>by simp only [c2,e,Option.bind_some]
 have lv:∀o:AObj,o.own=true→o.live=true:=by intro o ho;cases o<;> first|rfl|cases ho
 have obj:∀i o2,H2[i]? =some o2→o2.live=true→∃j o1 p,m i=some j∧H1[j]? =some o1∧o1.live=true∧(o2.own=true→o1.own=true)∧c j=some p∧ORel c2 p w o2:=by
  intro i o2 e hl
  obtain ⟨j,o1,hm,h1,ho⟩:=h.obj i o2 e hl
  have hl1:o1.live=true:=by cases ho<;> first|rfl|cases hl
  obtain ⟨p,hp,hro⟩:=hr.obj j o1 h1 hl1
  refine ⟨j,o1,p,hm,h1,hl1,?_,hp,?_⟩
  ·cases ho<;> first|exact id|(intro x;cases x)
  ·cases ho with
   |dead=>cases hl
   |cells k hcs=>
    obtain ⟨r1,r2,r3,r4,arr,lo,hi,r5,r6,r7⟩:=hro
    refine ⟨by rw [r1,hcs.length],r2,fun e=>⟨(r3 e).1,fun o=>⟨((r3 e).2 o).1,fun a r hh=>by rw [((r3 e).2 o).2 a r hh,hcs.length]⟩⟩,fun n e=>⟨(r4 n e).1,(r4 n e).2.1,fun a r hh=>by rw [(r4 n e).2.2 a r hh,hcs.length]⟩,arr,lo,hi,r5,fun k v e=> ?_,r7⟩
    obtain ⟨v1,e1,hv⟩:=hcs.get e
    obtain ⟨v',e2,hv'⟩:=r6 k v1 e1
    exact ⟨v',e2,hv.comp hc hv'⟩
   |loop g1 g2 g3 g4 g5 g6 g7=>
    obtain ⟨r,hb,k1,k2,k3,k4,k5,k6,k7⟩:=hro
    refine ⟨r,hb,k1.trans g1,k2.trans g2,k3.trans (by rw [g4]),k4.trans g5,k5.trans g6,k6.trans g3,fun t v e=> ?_⟩
    obtain ⟨v1,e1,e2⟩:=g7 t v e
    obtain ⟨v',e3,e4⟩:=k7 t v1 e1
    exact ⟨v',e3,e2.comp hc e4⟩
   |amap ck own a b hst=>
    obtain ⟨ms,r1,r2,r3,r4⟩:=hro
    exact ⟨ms,r1,NRels.comp hc a r2,NRels.comp hc b r3,r4.trans hst⟩
   |iter since seen last a=>
    obtain ⟨r0,mm,r1,r2⟩:=hro
    exact ⟨r0,mm,r1,a.comp hc r2⟩
 refine ⟨c2,⟨?_,?_,?_⟩,⟨?_,rfl,rfl,rfl,Nat.le_refl _,fun _ _ _=>rfl,?_⟩,hc⟩
 ·intro i o2 e hl
  obtain ⟨j,o1,p,hm,h1,_,_,hp,hro⟩:=obj i o2 e hl
  exact ⟨p,by rw [hc i j hm];exact hp,hro⟩
 ·intro i j oi oj pi pj hij ei ej ci cj hoi hlj
  obtain ⟨i1,o1,p1,m1,h1,_,ow1,q1,_⟩:=obj i oi ei (lv _ hoi)
  obtain ⟨j1,o2,p2,m2,h2,l2,_,q2,_⟩:=obj j oj ej hlj
  rw [hc i i1 m1] at ci
  rw [hc j j1 m2] at cj
  exact hr.sep i1 j1 o1 o2 pi pj (fun e=>hij (h.inj i j i1 m1 (e ▸ m2))) h1 h2 ci cj (ow1 hoi) l2
 ·intro i hi
  simp only [c2,h.out i hi,Option.bind_none]
 ·intro i p hi e
  rw [hc i i (h.keep i hi)];exact e
 ·rintro b ⟨i,o,p,e,ci,ho,hb⟩
  obtain ⟨j,o1,q,hm,h1,_,ow,hq,_⟩:=obj i o e (lv _ ho)
  rw [hc i j hm] at ci
  exact .inl ⟨j,o1,p,h1,ci,ow ho,hb⟩
end Go.Aw

set_option linter.unusedVariables false
set_option linter.unusedSimpArgs false
namespace Go.Aw
def Weak (n0:Nat) (s1 s2:ASt):Prop:=∀N c w a,SRel N c s1 w a→∃c2,SRel N c2 s2 w a∧Trans n0 c s1.H w c2 s2.H w
theorem Weak.refl (n0:Nat) (s:ASt):Weak n0 s s:=fun N c w a h=>⟨c,h,.refl _ _ _ _⟩
theorem Weak.trans {n0:Nat} {s1 s2 s3:ASt} (h:Weak n0 s1 s2) (k:Weak n0 s2 s3):Weak n0 s1 s3:=fun N c w a hs=>
 let ⟨c2,h2,t2⟩:=h N c w a hs
 let ⟨c3,h3,t3⟩:=k N c2 w a h2
 ⟨c3,h3,t2.trans t3⟩
def envIn (e1:List (Nat×Value)) (f:Value→Value→Prop):List (Nat×Value)→Prop
 |[]=>True
 |(t,v)::r=>wth (lk t e1) (f v)∧envIn e1 f r
theorem envIn.lk {e1:List (Nat×Value)} {f:Value→Value→Prop}:∀{e2:List (Nat×Value)},envIn e1 f e2→∀{t:Nat} {v:Value},lk t e2=some v→∃u,lk t e1=some u∧f v u
 |[],_,t,v,h=>by cases h
 | (k,u)::r,⟨h1,h2⟩,t,v,h=>by
  rw [lk_cons] at h
  split at h
  ·rename_i hk
   subst hk
   cases h
   exact wth_elim h1
  ·exact envIn.lk h2 h
theorem Weak.env {n0:Nat} {e1 e2:List (Nat×Value)} {ds:List ADef} {H:AHeap} (h:envIn e1 (fun v u=>u=v) e2):Weak n0 ⟨e1,ds,H⟩ ⟨e2,ds,H⟩:=fun N c w a hs=>
 ⟨c,⟨hs.heap,hs.size,fun t v e=>by
  obtain ⟨u,h1,h2⟩:=h.lk e
  subst h2
  exact hs.tmps t _ h1,hs.defs⟩,.refl _ _ _ _⟩
inductive DName (m:Names):List ADef→List ADef→Prop
 |nil:DName m [] []
 |mark {ds ds':List ADef}:DName m ds ds'→DName m (.mark::ds) (.mark::ds')
 |call {f:FuncId} {cap args cap' args':List Value} {ds ds':List ADef}:NRels m cap cap'→NRels m args args'→DName m ds ds'→DName m (.call (.func f) cap args::ds) (.call (.func f) cap' args'::ds')
theorem DName.use {m:Names} {c c2:Ctx} {H1 H2:AHeap} {w:World} {B:Nat} (hc:∀i j,m i=some j→c2 i=c j) (ho:∀b,Owns c2 H2 b→Owns c H1 b∨w.heap.size≤b):∀{d2 d1:List ADef} {d:List Deferred},DName m d2 d1→DRel B c H1 w d1 d→DRel B c2 H2 w d2 d
 |_,_,_,.nil,h=>by cases h with|nil hz=>exact .nil hz
 | _,_,_,.mark k,h=>by
  cases h with
  | mark hB hb hno hne hr=>
   refine .mark hB hb (fun h'=> ?_) hne (DName.use hc ho k hr)
   rcases ho _ h' with h''|h''
   ·exact hno h''
   ·have:=(Array.getElem?_eq_some_iff.1 hb).1
    omega
 |_,_,_,.call a b k,h=>by
  cases h with
  |call hf h1 h2 hr=>cases hf;exact .call (.func _) (NRels.comp hc a h1) (NRels.comp hc b h2) (DName.use hc ho k hr)
theorem Weak.names {n0:Nat} {m:Names} {e1 e2:List (Nat×Value)} {d1 d2:List ADef} {H1 H2:AHeap} (h:HName n0 m H1 H2) (he:envIn e1 (NRel m) e2) (hd:DName m d2 d1):Weak n0 ⟨e1,d1,H1⟩ ⟨e2,d2,H2⟩:=fun N c w a hs=>by
 obtain ⟨c2,h2,t2,hc⟩:=h.use hs.heap
 refine ⟨c2,⟨h2,hs.size,fun t v e=> ?_,hd.use hc t2.owned hs.defs⟩,t2⟩
 obtain ⟨u,k1,k2⟩:=he.lk e
 obtain ⟨v',k3,k4⟩:=hs.tmps t u k1
 exact ⟨v',k3,k2.comp hc k4⟩
theorem AWP.weak {g:Cfg} {code:Code} {Q:AExit→ASt→Prop} {s1 s2:ASt} (h:Weak g.n0 s1 s2) (k:AWP g code Q s2):AWP g code Q s1:=fun c w a hs=>
 let ⟨c2,h2,t2⟩:=h g.N c w a hs
 wpIn_mono (k c2 w a h2) (fun _ _ _ hp=>hp.back t2)
open Classical in
theorem AWP.loopW {g:Cfg} {Q:AExit→ASt→Prop} {st:ASt} {x:Code} (I:ASt→Prop) (m:ASt→Nat) (h0:I st)
  (hr:∀s,I s→AWP g x (next (fun s'=>∃s2,Weak g.n0 s' s2∧I s2∧m s2<m s) Q) s):AWP g (.loop x) Q st:=by
 intro c w a hs
 let fits:Nat→Act→World→Prop:=fun k a' w'=>∃s c',m s=k∧I s∧SRel g.N c' s w' a'∧Trans g.n0 c st.H w c' s.H w'
 let mu:Act→World→Nat:=fun a' w'=>if h:∃k,fits k a' w' then Classical.choose (least h) else 0
 refine wpIn_loop (fun a' w'=>∃k,fits k a' w') mu ⟨m st,st,c,rfl,h0,hs,.refl _ _ _ _⟩ ?_
 intro a1 w1 hf
 have hmu:mu a1 w1=Classical.choose (least hf):=by simp only [mu];rw [dif_pos hf]
 obtain ⟨s,c1,hm,hI,hs1,ht1⟩:=(Classical.choose_spec (least hf)).1
 refine wpIn_mono (hr s hI c1 w1 a1 hs1) ?_
 rintro e a2 w2 ⟨x2,s2,c2,hq,hx,hs2,ht2⟩
 cases hx with
 |normal=>
  obtain ⟨s3,hw,hI3,hlt⟩:=hq
  obtain ⟨c3,hs3,ht3⟩:=hw g.N c2 w2 a2 hs2
  have hf2:∃k,fits k a2 w2:=⟨m s3,s3,c3,rfl,hI3,hs3,(ht1.trans ht2).trans ht3⟩
  refine ⟨hf2,?_⟩
  have h2:mu a2 w2=Classical.choose (least hf2):=by simp only [mu];rw [dif_pos hf2]
  rw [hmu,h2]
  exact Nat.lt_of_le_of_lt ((Classical.choose_spec (least hf2)).2 _ ⟨s3,c3,rfl,hI3,hs3,(ht1.trans ht2).trans ht3⟩) (by rw [← hm];exact hlt)
 |exit id=>exact ⟨_,s2,c2,hq,.exit id,hs2,ht1.trans ht2⟩
 |goto l=>exact ⟨_,s2,c2,hq,.goto l,hs2,ht1.trans ht2⟩
 |ret=>exact ⟨_,s2,c2,hq,.ret,hs2,ht1.trans ht2⟩
 |panic hv=>exact ⟨_,s2,c2,hq,.panic hv,hs2,ht1.trans ht2⟩
theorem AWP.loopP {g:Cfg} {Q:AExit→ASt→Prop} {st:ASt} {x:Code} {S:Type} (f:S→ASt) (ok:S→Prop) (m:S→Nat) (s0:S) (h0:Weak g.n0 st (f s0)) (hok:ok s0)
  (hr:∀s,ok s→AWP g x (next (fun s'=>∃s2,Weak g.n0 s' (f s2)∧ok s2∧m s2<m s) Q) (f s)):AWP g (.loop x) Q st:=by
 refine AWP.weak h0 ?_
 let fits:ASt→Nat→Prop:=fun s k=>∃p,f p=s∧ok p∧m p=k
 have:∀s,(∃ k,fits s k)→∃k,fits s k∧∀j,fits s j→k≤j:=fun s h=>least h
 classical
 let mm:ASt→Nat:=fun s=>if h:∃k,fits s k then Classical.choose (this s h) else 0
 refine AWP.loopW (fun s=>∃p,f p=s∧ok p) mm ⟨s0,rfl,hok⟩ ?_
 rintro s ⟨p0,hp0,hok0⟩
 have hex:∃k,fits s k:=⟨m p0,p0,hp0,hok0,rfl⟩
 obtain ⟨⟨p,hp,hokp,hmp⟩,_⟩:=Classical.choose_spec (this s hex)
 have hms:mm s=m p:=by simp only [mm];rw [dif_pos hex,hmp]
 subst hp
 refine (hr p hokp).mono ?_
 intro y s' hq
 cases y with
 | normal=>
  obtain ⟨p2,hw,hok2,hlt⟩:=hq
  refine ⟨f p2,hw,⟨p2,rfl,hok2⟩,?_⟩
  have hex2:∃k,fits (f p2) k:=⟨m p2,p2,rfl,hok2,rfl⟩
  have h2:mm (f p2)≤m p2:=by
   simp only [mm];rw [dif_pos hex2]
   exact (Classical.choose_spec (this (f p2) hex2)).2 _ ⟨p2,rfl,hok2,rfl⟩
  rw [hms];omega
 |_=>exact hq
def resV (P:Program) (env:List (Nat×Value)) (H:AHeap):List ResultVar→(List Value→Prop)→Prop
 |[],k=>k []
 | .tmp t::r,k=>wth (lk t env) fun v=>resV P env H r fun vs=>k (v::vs)
 | .cell t ty::r,k=>wth (lk t env) fun p=>loadW P ty p H fun v _=>resV P env H r fun vs=>k (v::vs)
def packV:List Value→Value
 |[v]=>v
 |vs=> .tuple ⟨vs⟩
def resF (tmps:Array Value):ResultVar→Sem Value
 | .tmp t=>pure (tmps.getD t undef)
 | .cell a t=>do loadVar t (← asAddr (tmps.getD a undef))
theorem results_eq (fn:Func) (tmps:Array Value):results fn tmps=(do let vs ←fn.results.mapM (resF tmps);pure (if h:vs.size=1 then vs[0] else .tuple vs)):=by
 unfold results
 congr 2
theorem resV_ok {P:Program} {N:Fr} {c:Ctx} {st:ASt} {w:World} {a:Act} (hs:SRel N c st w a):∀{l:List ResultVar} {k:List Value→Prop},resV P st.env st.H l k→
  ∃vs vs',k vs∧VRels c vs vs'∧(l.mapM (resF a.tmps):Sem (List Value)).run P w= .ok vs' w
 |[],k,h=>⟨[],[],h,.nil,rfl⟩
 | .tmp t::r,k,h=>by
  obtain ⟨v,hv,h⟩:=wth_elim h
  obtain ⟨v',h1,h2⟩:=hs.tmps t v hv
  obtain ⟨vs,vs',g1,g2,g3⟩:=resV_ok hs h
  refine ⟨v::vs,v'::vs',g1,.cons h2 g2,?_⟩
  have:a.tmps.getD t undef=v':=by simp [Array.getD_eq_getD_getElem?,h1]
  simp only [List.mapM_cons,resF,Sem.run_bind,this,Sem.run_pure,Result.andThen_ok,g3]
 | .cell t ty::r,k,h=>by
  obtain ⟨p,hp,h⟩:=wth_elim h
  obtain ⟨p',h1,h2⟩:=hs.tmps t p hp
  obtain ⟨v',w',hr,v,H',c',hk,hv,hle,hh,ht⟩:=loadW_ok hs.heap h2 h
  have:a.tmps.getD t undef=p':=by simp [Array.getD_eq_getD_getElem?,h1]
  unfold loadW at h
  split at h
  ·rename_i i off
   cases h2 with
   | ptr hc=>
    rename_i pl
    split at h
    ·rename_i cs ck hi
     have hload:∃v v',(loadVar ty ⟨pl.block,pl.base+off,none⟩).run P w= .ok v' w∧VRel c v v'∧resV P st.env st.H r fun vs=>k (v::vs):=by
      have:=loadW_ok (P:=P) (t:=ty) (K:=fun u H'=>resV P st.env st.H r fun vs=>k (u::vs)) hs.heap (.ptr (off:=off) hc) (by unfold loadW;simp only [hi];exact h)
      obtain ⟨agg,hagg,h⟩:=wth_elim h
      cases agg with
      |true=>
       simp only [if_true] at h
       obtain ⟨n,hn,hle2,hk2⟩:=wth_elim h
       obtain ⟨l',hl',hv2,hrun⟩:=hs.heap.cellsAt hi hc off n hle2
       refine ⟨_,.agg ⟨l'⟩,?_,.agg hv2,hk2⟩
       simp only [loadVar,Sem.run_bind,run_isAgg hagg,Result.andThen_ok,if_true,run_sizeOf hn,loadCells,hrun,Sem.run_pure]
       simp
      |false=>
       simp only [Bool.false_eq_true,if_false] at h
       obtain ⟨u,hu,hk2⟩:=wth_elim h
       obtain ⟨u',hc1,hc2⟩:=hs.heap.cell hi hc hu
       refine ⟨u,u',?_,hc2,hk2⟩
       simp only [loadVar,Sem.run_bind,run_isAgg hagg,Result.andThen_ok,Bool.false_eq_true,if_false,run_load,hc1]
     obtain ⟨u,u',hl1,hl2,hl3⟩:=hload
     obtain ⟨vs,vs',g1,g2,g3⟩:=resV_ok hs hl3
     refine ⟨u::vs,u'::vs',g1,.cons hl2 g2,?_⟩
     have hF:(resF a.tmps (.cell t ty)).run P w= .ok u' w:=by simp only [resF,this,asAddr,pure_bind,hl1]
     simp only [List.mapM_cons,Sem.run_bind,hF,Sem.run_pure,Result.andThen_ok,g3]
    ·exact h.elim
  ·exact h.elim
def WeakV (n0:Nat) (H:AHeap) (v:Value) (H2:AHeap) (v2:Value):Prop:=∀c w v',HRel c H w→VRel c v v'→∃c2,HRel c2 H2 w∧VRel c2 v2 v'∧Trans n0 c H w c2 H2 w
theorem WeakV.refl (n0:Nat) (H:AHeap) (v:Value):WeakV n0 H v H v:=fun c w v' h hv=>⟨c,h,hv,.refl _ _ _ _⟩
theorem WeakV.names {n0:Nat} {m:Names} {H1 H2:AHeap} {v v2:Value} (h:HName n0 m H1 H2) (hv:NRel m v2 v):WeakV n0 H1 v H2 v2:=fun c w v' hh hr=>
 let ⟨c2,h2,t2,hc⟩:=h.use hh
 ⟨c2,h2,hv.comp hc hr,t2⟩
inductive AMode where
 |ret
 |pan (v:Value)
inductive MRel (c:Ctx):AMode→FrameMode→Prop
 |ret:MRel c .ret .returning
 |pan {v v':Value}:VRel c v v'→MRel c (.pan v) (.panicking [{v:=v',recovered:=false}])
def AD (P:Program) (f:FuncId) (args:List Value) (H:AHeap) (mo:AMode) (K:AMode→AHeap→Prop):Prop:=
 (∃ fn,P.funcs[f]? =some fn∧fn.body.isSome=true∧(fn.name== "runtime.NumGoroutine")=false)∧
 ∀c w vargs u,HRel c H w→VRels c args vargs→MRel c mo u→CallsDIn Fence.wide 0 P f ⟨vargs⟩ u w fun e u' w'=>∃v mo' c' H',e= .returned v∧K mo' H'∧MRel c' mo' (settle u')∧HRel c' H' w'∧Trans H.length c H w c' H' w'
def LeaveW (P:Program) (rs:List ResultVar) (n0:Nat) (K:ARes→AHeap→Prop) (env:List (Nat×Value)):List ADef→AMode→AHeap→Prop
 |[],.ret,H=>resV P env H rs fun vs=>∃v2 H2,WeakV n0 H (packV vs) H2 v2∧K (.ret v2) H2
 |[],.pan v,H=>∃v2 H2,WeakV n0 H v H2 v2∧K (.pan v2) H2
 | .mark::ds,mo,H=>LeaveW P rs n0 K env ds mo H
 | .call (.func f) cap args::ds,mo,H=>AD P f (args++cap) H mo fun mo' H'=>LeaveW P rs n0 K env ds mo' H'
 |_,_,_=>False
def FPost (P:Program) (rs:List ResultVar) (n0:Nat) (K:ARes→AHeap→Prop):AExit→ASt→Prop
 | .normal,st| .ret,st=>LeaveW P rs n0 K st.env st.defs .ret st.H
 | .panic v,st=>LeaveW P rs n0 K st.env st.defs (.pan v) st.H
 |_,_=>False
theorem MRel.ne {c:Ctx} {mo:AMode} {u:FrameMode} (h:MRel c mo u):u≠ .run:=by cases h<;> simp
theorem MRel.mono {c c':Ctx} (hle:c.le c') {mo:AMode} {u:FrameMode} (h:MRel c mo u):MRel c' mo u:=by
 cases h with
 |ret=>exact .ret
 |pan hv=>exact .pan (hv.mono hle)
theorem HRel.shut {c:Ctx} {H:AHeap} {w:World} (h:HRel c H w) {D:Nat} (hb:w.heap[D]? =some (.deferred (some []))) (hno:¬Owns c H D):HRel c H {w with heap:=w.heap.setIfInBounds D (.deferred none)}:=by
 refine ⟨fun i o e hl=> ?_,h.sep,h.fresh⟩
 obtain ⟨p,hp,hr⟩:=h.obj i o e hl
 refine ⟨p,hp,hr.keep (Ctx.le_refl c) hl ?_⟩
 have hne:p.block≠D:=by
  rintro rfl
  cases o with
  |dead=>cases hl
  |cells cs k=>obtain ⟨_,_,_,_,arr,lo,hi,hb2,_⟩:=hr;rw [hb] at hb2;cases hb2
  |loop L=>exact hno ⟨i,_,p,e,hp,rfl,rfl⟩
  |amap es ck own=>obtain ⟨ms,hb2,_⟩:=hr;rw [hb] at hb2;cases hb2
  |iter m s e l=>obtain ⟨_,ms,hb2,_⟩:=hr;rw [hb] at hb2;cases hb2
 show (w.heap.setIfInBounds D _)[p.block]? =_
 rw [Array.getElem?_setIfInBounds_ne (Ne.symm hne)]
theorem DRel.shut {B:Nat} {c:Ctx} {H:AHeap} {w:World} {D:Nat}:∀{ds:List ADef} {ds':List Deferred},DRel B c H w ds ds'→ (∀ d∈ds',d.target≠ .collected D)→DRel B c H {w with heap:=w.heap.setIfInBounds D (.deferred none)} ds ds'
 |_,_,.nil hz,_=> .nil (by simpa using hz)
 |_,_,.mark hB hb hno hne hr,h=>by
  rename_i D' ds ds'
  have hD:D'≠D:=by rintro rfl;exact h _ (List.mem_cons_self) rfl
  refine .mark hB ?_ hno hne (DRel.shut hr (fun d hd=>h d (List.mem_cons_of_mem _ hd)))
  show (w.heap.setIfInBounds D _)[D']? =_
  rw [Array.getElem?_setIfInBounds_ne (Ne.symm hD)];exact hb
 |_,_,.call hf h1 h2 hr,h=> .call hf h1 h2 (DRel.shut hr (fun d hd=>h d (List.mem_cons_of_mem _ hd)))
theorem leave_ok {P:Program} {fn:Func} {rs:List ResultVar} (hrs:fn.results.toList=rs) {n0:Nat} {K:ARes→AHeap→Prop} {N:Fr} {c0:Ctx} {H0:AHeap} {w0:World} (hB:w0.heap.size≤N.B) (hn:n0=H0.length) {env:List (Nat×Value)}:
  ∀(ds:List ADef) (mo:AMode) (H:AHeap) (c:Ctx) (w:World) (a:Act) (u:FrameMode),LeaveW P rs n0 K env ds mo H→SRel N c ⟨env,ds,H⟩ w a→MRel c mo u→Trans n0 c0 H0 w0 c H w→
   LeavesInM Fence.wide 0 P fn a.tmps (CPost K c0 H0 w0) a.defers u w
 | [],mo,H,c,w,a,u,h,hs,hm,ht=>by
  obtain ⟨tmps,defers⟩:=a
  have hd:=hs.defs
  cases hd
  cases hm with
  | ret=>
   subst hrs
   obtain ⟨vs,vs',⟨v2,H2,hw,hk⟩,hv,hrun⟩:=resV_ok hs h
   obtain ⟨vf,hrunf,hvf⟩:∃vf,(results fn tmps).run P w= .ok vf w∧VRel c (packV vs) vf:=by
    have e:(fn.results.mapM (resF tmps):Sem (Array Value)).run P w= .ok ⟨vs'⟩ w:=by
     rw [Array.mapM_eq_mapM_toList]
     simp only [Sem.run_map,hrun,Result.andThen_ok]
    rw [results_eq]
    simp only [Sem.run_bind,e,Result.andThen_ok,Sem.run_pure]
    refine ⟨_,rfl,?_⟩
    cases hv with
    |nil=>exact .tuple .nil
    |cons a b=>
     cases b with
     |nil=>simpa [packV] using a
     |cons a2 b2=>simpa [packV] using VRel.tuple (.cons a (.cons a2 b2))
   obtain ⟨c2,g1,g2,g3⟩:=hw c w vf hs.heap hvf
   refine ⟨vf,hrunf,.ret v2,c2,H2,hk,.ret g2,g1,?_⟩
   rw [← hn];exact ht.trans g3
  |pan hv=>
   obtain ⟨v2,H2,hw,hk⟩:=h
   obtain ⟨c2,g1,g2,g3⟩:=hw c w _ hs.heap hv
   refine ⟨.pan v2,c2,H2,hk,.pan g2,g1,?_⟩
   rw [← hn];exact ht.trans g3
 | .mark::ds,mo,H,c,w,a,u,h,hs,hm,ht=>by
  obtain ⟨tmps,defers⟩:=a
  have hd:=hs.defs
  cases hd with
  | mark hBD hb hno hne hr=>
   rename_i D ds'
   refine ⟨hm.ne,.inl ⟨D,{w with heap:=w.heap.setIfInBounds D (.deferred none)},rfl,?_,?_⟩⟩
   ·simp [Instr.takeDeferred,getObj,setObj,Sem.run,hb]
   ·have hsize:=(Array.getElem?_eq_some_iff.1 hb).1
    refine leave_ok hrs hB hn ds mo H c {w with heap:=w.heap.setIfInBounds D (.deferred none)} ⟨tmps,ds'⟩ u h ⟨hs.heap.shut hb hno,hs.size,hs.tmps,hr.shut hne⟩ hm ?_
    refine {ht with size:=by show _≤(w.heap.setIfInBounds D _).size;simpa using ht.size,frame:=fun b hlt hno'=> ?_,owned:=ht.owned}
    show (w.heap.setIfInBounds D _)[b]? =_
    have:N.B≤D:=hBD
    rw [Array.getElem?_setIfInBounds_ne (by omega)]
    exact ht.frame b hlt hno'
 | .call (.func f) cap args::ds,mo,H,c,w,a,u,h,hs,hm,ht=>by
  obtain ⟨tmps,defers⟩:=a
  have hd:=hs.defs
  cases hd with
  | call hf hc ha hr=>
   cases hf
   rename_i cap' args' ds'
   obtain ⟨⟨fnd,hfd,hbd,hnd⟩,hcall⟩:=h
   refine ⟨hm.ne,.inr ⟨by simp [Fence.wide],.func f,⟨cap'⟩,f,⟨args'++cap'⟩,rfl,?_,fun _ _=>trivial,?_⟩⟩
   ·have hbn:fnd.body.isNone=false:=by cases hfb:fnd.body<;> simp_all
    simp only [invoke,callFunc,Sem.run_bind,run_program,Result.andThen_ok,hfd,hnd,Bool.false_eq_true,if_false,hbn]
    simp
   ·have:=hcall c w (args'++cap') u hs.heap (ha.append hc) hm
    refine ⟨trivial,fun c1 cs hc1 hroom=> ?_⟩
    obtain ⟨e,u',w',fr,⟨v,mo',c',H',rfl,hK,hm',hh',ht'⟩,hcomes,hk,hfn,hgo⟩:=this.2 c1 cs hc1 (room_wide _)
    refine ⟨.returned v,u',w',fr,?_,hcomes,hk,hfn,hgo⟩
    have hle:c.le c':=ht'.le hs.heap
    have ht0:Trans n0 c H w c' H' w':={ht' with names:=fun i p _ e=>hle i p e}
    have hs':SRel N c' ⟨env,ds,H'⟩ w' ⟨tmps,ds'⟩:=SRel.step (st:=⟨env,ds,H⟩) ⟨hs.heap,hs.size,hs.tmps,hr⟩ hle ht0 hh'
    exact leave_ok hrs hB hn ds mo' H' c' w' ⟨tmps,ds'⟩ (settle u') hK hs' hm' (ht.trans ht0)
 | .call (.method _) _ _::_,_,_,_,_,_,_,h,_,_,_=>h.elim
 | .call (.methodOf _ _) _ _::_,_,_,_,_,_,_,h,_,_,_=>h.elim
 | .call (.via _ _ _ _) _ _::_,_,_,_,_,_,_,h,_,_,_=>h.elim
 | .call (.yield _) _ _::_,_,_,_,_,_,_,h,_,_,_=>h.elim
def argEnv:Nat→List Value→List (Nat×Value)
 |_,[]=>[]
 |i,v::r=>(i,v)::argEnv (i+1) r
theorem argEnv_lk {c:Ctx} {rest:Array Value}:∀{vs vs':List Value},VRels c vs vs'→∀(i:Nat) (pre:List Value),pre.length=i→∀t v,lk t (argEnv i vs)=some v→∃v',((pre++vs').toArray++rest)[t]? =some v'∧VRel c v v'
 |_,_,.nil,i,pre,hp,t,v,h=>by cases h
 | _,_,.cons a b,i,pre,hp,t,v,h=>by
  simp only [argEnv,lk_cons] at h
  split at h
  ·rename_i hi
   cases h
   refine ⟨_,?_,a⟩
   subst hi
   rw [Array.getElem?_append_left (by simp;omega)]
   simp [← hp]
  ·obtain ⟨v',h1,h2⟩:=argEnv_lk (rest:=rest) b (i+1) (pre++[_]) (by simp [hp]) t v h
   exact ⟨v',by simpa using h1,h2⟩
def Scoped (H:AHeap):Prop:=∀(i:Nat) (o:AObj),H[i]? =some o→OName (upto H.length) o o
theorem HRel.inside {c:Ctx} {H:AHeap} {w:World} (h:HRel c H w):Scoped H:=by
 intro i o e
 have hn:∀i p,c i=some p→upto H.length i=some i:=fun i p hc=>by unfold upto;rw [if_pos (h.lt hc)]
 cases o with
 |dead=>exact .dead _
 | cells cs k=>
  obtain ⟨p,hp,hr⟩:=h.obj i _ e rfl
  obtain ⟨_,_,_,_,arr,lo,hi,_,hcs,_⟩:=hr
  refine .cells k ?_
  have:∀(l:List Value),(∀ v∈l,∃v',VRel c v v')→NRels (upto H.length) l l:=by
   intro l
   induction l with
   |nil=>intro _;exact .nil
   |cons v l ih=>
    intro hl
    obtain ⟨v',hv⟩:=hl v (List.mem_cons_self)
    exact .cons (hv.inside hn) (ih (fun u hu=>hl u (List.mem_cons_of_mem _ hu)))
  refine this cs (fun v hv=> ?_)
  obtain ⟨j,hj⟩:=List.mem_iff_getElem?.1 hv
  obtain ⟨v',_,h2⟩:=hcs j v hj
  exact ⟨v',h2⟩
 |loop L=>
  obtain ⟨p,hp,hr⟩:=h.obj i _ e rfl
  obtain ⟨r,hb,_,_,_,_,_,_,h7⟩:=hr
  exact .loop rfl rfl rfl rfl rfl rfl fun t v e=>let ⟨v',_,k⟩:=h7 t v e;⟨v,e,k.inside hn⟩
 |amap es ck own=>
  obtain ⟨p,hp,hr⟩:=h.obj i _ e rfl
  obtain ⟨ms,_,h1,h2,_⟩:=hr
  exact .amap ck own (VRels.inside hn h1) (VRels.inside hn h2) rfl
 |iter m s e' l=>
  obtain ⟨p,hp,hr⟩:=h.obj i _ e rfl
  obtain ⟨_,mm,_,h1⟩:=hr
  exact .iter s e' l (h1.inside hn)
theorem AC.enter {P:Program} {f:FuncId} {fn:Func} {body:Code} {args:List Value} {H:AHeap} {K:ARes→AHeap→Prop} (hf:P.funcs[f]? =some fn) (hb:fn.body=some body) (hname:(fn.name== "runtime.NumGoroutine")=false)
  (N:Nat) (hN:fn.ntmps=N) (rs:List ResultVar) (hrs:fn.results.toList=rs) (hsz:args.length≤N) (h:Scoped H→∀B,AWP ⟨P,none,⟨N,B⟩,H.length⟩ body (FPost P rs H.length K) ⟨argEnv 0 args,[],H⟩):AC P f args H K:=by
 intro c w vargs hh hv
 have hcall:Calls P f ⟨vargs⟩ w (CPost K c H w):=by
  refine (callsIn_wide (n:=0)).1 (callsIn_of_wp_marks hf hb trivial ?_)
  have hs:SRel ⟨N,w.heap.size⟩ c ⟨argEnv 0 args,[],H⟩ w {tmps:=(⟨vargs⟩:Array Value)++Array.replicate (fn.ntmps - (⟨vargs⟩:Array Value).size) undef,defers:=[]}:=by
   refine ⟨hh,?_,?_,.nil (Nat.le_refl _)⟩
   ·have:=hv.length
    simp;omega
   ·intro t v e
    have:=argEnv_lk (rest:=Array.replicate (fn.ntmps - (⟨vargs⟩:Array Value).size) undef) hv 0 [] rfl t v e
    simpa using this
  refine wpIn_mono (h hh.inside w.heap.size c w _ hs) ?_
  rintro e a' w' ⟨x,st',c',hq,hx,hs',ht⟩
  cases hx with
  |normal=>exact leave_ok hrs (Nat.le_refl _) rfl st'.defs .ret st'.H c' w' a' .returning hq hs' .ret ht
  |ret=>exact leave_ok hrs (Nat.le_refl _) rfl st'.defs .ret st'.H c' w' a' .returning hq hs' .ret ht
  |panic hv2=>exact leave_ok hrs (Nat.le_refl _) rfl st'.defs _ st'.H c' w' a' _ hq hs' (.pan hv2) ht
  |exit id=>exact hq.elim
  |goto l=>exact hq.elim
 unfold CallTo
 have hbn:fn.body.isNone=false:=by rw [hb];rfl
 have:(callFunc f ⟨vargs⟩).run P w= .ok (.enter f ⟨vargs⟩) w:=by
  simp only [callFunc,Sem.run_bind,run_program,Result.andThen_ok,hf,hname,Bool.false_eq_true,if_false,hbn]
  rfl
 rw [this]
 exact hcall
end Go.Aw

set_option linter.unusedVariables false
set_option linter.unusedSimpArgs false
namespace Go.Aw
@[congr] theorem AWP.cong {g:Cfg} {code:Code} {Q:AExit→ASt→Prop} {s1 s2:ASt} (h:s1=s2):AWP g code Q s1=AWP g code Q s2:=by rw [h]
def tmpOf:Operand→Option Nat
 | .tmp t=>some t
 |_=>none
def reads (ops:List Oper) (o:Oper):List Nat:=
 (match o.guard with|none=>[]|some (j,_)=>(gd ops j).toList)++o.op.operands.toList.filterMap tmpOf
def restrict (e:List (Nat×Value)):List Nat→List (Nat×Value)
 |[]=>[]
 |t::r=>match lk t e with
  |some v=>(t,v)::restrict e r
  |none=>restrict e r
theorem lk_restrict {e:List (Nat×Value)} {t:Nat} {v:Value}:∀{ts:List Nat},lk t (restrict e ts)=some v→t∈ts∧lk t e=some v
 |[],h=>by cases h
 | s::r,h=>by
  simp only [restrict] at h
  split at h
  ·rename_i u hu
   rw [lk_cons] at h
   split at h
   ·rename_i hst
    cases h
    subst hst
    exact ⟨List.mem_cons_self,hu⟩
   ·have:=lk_restrict h
    exact ⟨List.mem_cons_of_mem _ this.1,this.2⟩
  ·have:=lk_restrict h
   exact ⟨List.mem_cons_of_mem _ this.1,this.2⟩
theorem restrict_congr {e1 e2:List (Nat×Value)}:∀{ts:List Nat},(∀ t∈ts,lk t e1=lk t e2)→restrict e1 ts=restrict e2 ts
 |[],_=>rfl
 |t::r,h=>by
  simp only [restrict,h t (List.mem_cons_self),restrict_congr (ts:=r) (fun u hu=>h u (List.mem_cons_of_mem _ hu))]
def ASt.only (ops:List Oper) (o:Oper) (st:ASt):ASt:=⟨restrict st.env (reads ops o),st.defs,st.H⟩
def stepW (g:Cfg) (ops:List Oper) (o:Oper) (st:ASt) (v:Value):Prop:=
 wantW ops o (st.only ops o) (opW g o (st.only ops o) (fun s=>s.H=st.H∧s.defs=st.defs∧∀d,o.dst=some d→lk d s.env=some v) (fun _ _=>False)) (v=noVal)
def quietW (g:Cfg) (ops:List Oper):List Oper→ASt→(ASt→Prop)→Prop
 |[],st,K=>K st
 |o::r,st,K=>∃v,stepW g ops o st v∧quietW g ops r (st.put o.dst v) K
def puts:List Oper→List Value→ASt→ASt
 |o::r,v::vs,st=>puts r vs (st.put o.dst v)
 |_,_,st=>st
theorem put_H (st:ASt) (d:Option Tmp) (v:Value):(st.put d v).H=st.H:=by cases d<;> rfl
theorem put_defs (st:ASt) (d:Option Tmp) (v:Value):(st.put d v).defs=st.defs:=by cases d<;> rfl
theorem put_lk (st:ASt) (d:Option Tmp) (v:Value) (t:Nat):lk t (st.put d v).env=if d=some t then some v else lk t st.env:=by
 cases d with
 |none=>simp [ASt.put]
 |some d=>simp [ASt.put,lk_cons]
theorem puts_H:∀(l:List Oper) (vs:List Value) (st:ASt),(puts l vs st).H=st.H
 |[],_,_=>rfl
 |_::_,[],_=>rfl
 |o::r,v::vs,st=>by simp only [puts,puts_H r vs,put_H]
theorem puts_defs:∀(l:List Oper) (vs:List Value) (st:ASt),(puts l vs st).defs=st.defs
 |[],_,_=>rfl
 |_::_,[],_=>rfl
 |o::r,v::vs,st=>by simp only [puts,puts_defs r vs,put_defs]
theorem puts_lk_none:∀(l:List Oper) (vs:List Value) (st:ASt) (t:Nat),(∀ o∈l,o.dst≠some t)→lk t (puts l vs st).env=lk t st.env
 |[],_,_,_,_=>rfl
 |_::_,[],_,_,_=>rfl
 |o::r,v::vs,st,t,h=>by
  simp only [puts]
  rw [puts_lk_none r vs _ t (fun o' ho=>h o' (List.mem_cons_of_mem _ ho)),put_lk,if_neg (h o List.mem_cons_self)]
theorem puts_lk_some:∀(l:List Oper) (vs:List Value) (st:ASt) (t i:Nat) (o:Oper) (v:Value),l[i]? =some o→vs[i]? =some v→o.dst=some t→ (∀ (j:Nat) o',l[j]? =some o'→o'.dst=some t→j=i)→lk t (puts l vs st).env=some v
 |[],_,_,_,_,_,_,h,_,_,_=>by simp at h
 |_::_,[],_,_,_,_,_,_,h,_,_=>by simp at h
 |o::r,u::vs,st,t,0,o1,v,h1,h2,h3,h4=>by
  simp at h1 h2;subst h1;subst h2
  simp only [puts]
  rw [puts_lk_none r vs _ t,put_lk,if_pos h3]
  intro o' ho' he
  obtain ⟨j,hj⟩:=List.mem_iff_getElem?.1 ho'
  have:=h4 (j+1) o' (by simpa using hj) he
  omega
 |o::r,u::vs,st,t,i+1,o1,v,h1,h2,h3,h4=>by
  simp only [puts]
  refine puts_lk_some r vs _ t i o1 v (by simpa using h1) (by simpa using h2) h3 (fun j o' hj he=> ?_)
  have:=h4 (j+1) o' (by simpa using hj) he
  omega
theorem quietW_elim {g:Cfg} {ops:List Oper} {K:ASt→Prop}:∀{l:List Oper} {st:ASt},quietW g ops l st K→
  ∃vs:List Value,vs.length=l.length∧K (puts l vs st)∧∀(i:Nat) o v,l[i]? =some o→vs[i]? =some v→stepW g ops o (puts (l.take i) (vs.take i) st) v
 |[],st,h=>⟨[],rfl,h,fun i o v e=>by simp at e⟩
 |o::r,st,h=>by
  obtain ⟨v,hs,h⟩:=h
  obtain ⟨vs,h1,h2,h3⟩:=quietW_elim h
  refine ⟨v::vs,by simp [h1],h2,fun i o' v' e1 e2=> ?_⟩
  cases i with
  |zero=>simp at e1 e2;subst e1;subst e2;exact hs
  |succ i=>simpa [puts] using h3 i o' v' (by simpa using e1) (by simpa using e2)
def addTo (xs ys:List Nat):List Nat:=xs.foldl (fun acc x=>if acc.contains x=true then acc else x::acc) ys
theorem mem_addTo {x:Nat}:∀{xs ys:List Nat},x∈addTo xs ys→x∈xs∨x∈ys
 |[],ys,h=> .inr h
 | a::xs,ys,h=>by
  simp only [addTo,List.foldl_cons] at h
  rcases mem_addTo (xs:=xs) h with h'|h'
  ·exact .inl (List.mem_cons_of_mem _ h')
  ·split at h'
   ·exact .inr h'
   ·rcases List.mem_cons.1 h' with rfl|h''
    ·exact .inl List.mem_cons_self
    ·exact .inr h''
def binding (o:Oper):List Nat:=(o.after.toList.filter fun e=>Region.binds .any e).map (·.on)
def ancs:List Oper→List (List Nat)→List (List Nat)
 |[],acc=>acc
 |o::r,acc=>ancs r (acc++[(binding o).foldl (fun m e=>addTo (e::acc.getD e []) m) []])
theorem mem_foldl {acc:List (List Nat)} {x:Nat}:∀{es m:List Nat},x∈es.foldl (fun m e=>addTo (e::acc.getD e []) m) m→x∈m∨∃e∈es,x=e∨x∈acc.getD e []
 |[],m,h=> .inl h
 | e::es,m,h=>by
  simp only [List.foldl_cons] at h
  rcases mem_foldl h with h'|⟨e',he',h'⟩
  ·rcases mem_addTo h' with h''|h''
   ·exact .inr ⟨e,List.mem_cons_self,List.mem_cons.1 h''⟩
   ·exact .inl h''
  ·exact .inr ⟨e',List.mem_cons_of_mem _ he',h'⟩
theorem ancs_ok {ops:List Oper} {listed:Nat→Prop} (hcl:∀(j:Nat) o,ops[j]? =some o→listed j→∀e∈binding o,listed e):
  ∀{l:List Oper} {acc:List (List Nat)} (pre:List Oper),ops=pre++l→acc.length=pre.length→ (∀ (j:Nat),(∀ o,ops[j]? =some o→∀e∈binding o,listed e)→j<pre.length→∀x∈acc.getD j [],listed x)→
   ∀(j:Nat),(∀ o,ops[j]? =some o→∀e∈binding o,listed e)→j<ops.length→∀x∈(ancs l acc).getD j [],listed x
 |[],acc,pre,h,hl,hi,j,hj,hlt,x,hx=>hi j hj (by simpa [h] using hlt) x hx
 | o ::r,acc,pre,h,hl,hi,j,hj,hlt,x,hx=>by
  rw [ancs] at hx
  refine ancs_ok hcl (l:=r) (pre++[o]) (by simp [h]) (by simp [hl]) ?_ j hj hlt x hx
  intro j hj hlt x hx
  by_cases hjl:j<pre.length
  ·rw [List.getD_eq_getElem?_getD,List.getElem?_append_left (by omega),←List.getD_eq_getElem?_getD] at hx
   exact hi j hj hjl x hx
  ·have hje:j=pre.length:=by simp at hlt;omega
   subst hje
   rw [List.getD_eq_getElem?_getD,List.getElem?_append_right (by omega)] at hx
   simp [hl] at hx
   have ho:ops[pre.length]? =some o:=by rw [h];simp
   rcases mem_foldl hx with h'|⟨e,he,h'⟩
   ·simp at h'
   ·rcases h' with rfl|h'
    ·exact hj o ho x he
    ·have hel:listed e:=hj o ho e he
     by_cases hep:e<pre.length
     ·exact hi e (fun o' ho' e' he'=>hcl e o' ho' hel e' he') hep x h'
     ·rw [List.getD_eq_getElem?_getD,List.getElem?_eq_none (by omega)] at h'
      simp at h'
theorem ancs_length:∀(l:List Oper) (acc:List (List Nat)),(ancs l acc).length=acc.length+l.length
 |[],acc=>by simp [ancs]
 |o::r,acc=>by rw [ancs,ancs_length r];simp;omega
def allLt (n:Nat) (f:Nat→Bool):Bool:=(List.range n).all f
theorem allLt_spec {n:Nat} {f:Nat→Bool} (h:allLt n f=true):∀i,i<n→f i=true:=fun i hi=>by
 unfold allLt at h
 rw [List.all_eq_true] at h
 exact h i (List.mem_range.2 hi)
def edgesOk (l:List Oper):Bool:=allLt l.length fun j=>match l[j]? with
 |some o=>(binding o).all fun e=>decide (e<j)
 |none=>true
def anyOk (n:Nat) (ops:List Oper) (k:Nat):Bool:=
 let an:=ancs ops []
 dstsOk n ops&&edgesOk ops&&
 (allLt k fun i=>match ops[i]? with
  |none=>true
  | some o=>allLt k fun j=>match ops[j]? with
   |none=>true
   |some p=>match p.dst with
    |none=>true
    |some d=>(decide (i=j)||o.dst != some d)&& (!(reads ops o).contains d||(an.getD i []).contains j))&&
 (allLt ops.length fun j=>decide (j<k)||allLt j fun i=>(an.getD j []).contains i)
structure AnyOk (n:Nat) (ops:List Oper) (k:Nat):Prop where
 dsts:dstsOk n ops=true
 edges:∀(j:Nat) o,ops[j]? =some o→∀e∈binding o,e<j
 apart:∀(i j:Nat) o p d,i<k→j<k→ops[i]? =some o→ops[j]? =some p→p.dst=some d→o.dst=some d→i=j
 reads:∀(i j:Nat) o p d,i<k→j<k→ops[i]? =some o→ops[j]? =some p→p.dst=some d→d∈reads ops o→j∈(ancs ops []).getD i []
 tail:∀i j,k≤j→j<ops.length→i<j→i∈(ancs ops []).getD j []
theorem AnyOk.of {n k:Nat} {ops:List Oper} (h:anyOk n ops k=true):AnyOk n ops k:=by
 unfold anyOk at h
 simp only [Bool.and_eq_true] at h
 obtain ⟨⟨⟨h1,h2⟩,h3⟩,h4⟩:=h
 refine ⟨h1,?_,?_,?_,?_⟩
 ·intro j o ho e he
  have:=allLt_spec h2 j (List.getElem?_eq_some_iff.1 ho).1
  rw [ho] at this
  simpa using List.all_eq_true.1 this e he
 ·intro i j o p d hi hj ho hp hd he
  have:=allLt_spec h3 i hi
  rw [ho] at this
  have:=allLt_spec this j hj
  rw [hp] at this
  simp only [hd,Bool.and_eq_true,Bool.or_eq_true] at this
  rcases this.1 with h'|h'
  ·simpa using h'
  ·simp [he] at h'
 ·intro i j o p d hi hj ho hp hd he
  have:=allLt_spec h3 i hi
  rw [ho] at this
  have:=allLt_spec this j hj
  rw [hp] at this
  simp only [hd,Bool.and_eq_true,Bool.or_eq_true] at this
  rcases this.2 with h'|h'
  ·simp [he] at h'
  ·simpa using h'
 ·intro i j hj hlt hi
  have:=allLt_spec h4 j hlt
  simp only [Bool.or_eq_true] at this
  rcases this with h'|h'
  ·have:=of_decide_eq_true h';omega
  ·simpa using allLt_spec h' i hi
theorem anc_lt {n k:Nat} {ops:List Oper} (hok:AnyOk n ops k) (i j:Nat) (h:j∈(ancs ops []).getD i []):j<i:=by
 have hi:i<ops.length∨¬i<ops.length:=Classical.em _
 rcases hi with hi|hi
 ·exact ancs_ok (ops:=ops) (listed:=fun x=>x<i) (fun j' o ho hj' e he=>Nat.lt_trans (hok.edges j' o ho e he) hj') [] rfl rfl (fun j' _ hlt=>by simp at hlt) i (fun o ho e he=>hok.edges i o ho e he) hi j h
 ·rw [List.getD_eq_getElem?_getD,List.getElem?_eq_none (by rw [ancs_length];simp;omega)] at h
  simp at h
def isOn (listed:Array Bool) (j:Nat):Prop:=listed.getD j false=true
theorem not_isOn_replicate (n i:Nat):¬isOn (Array.replicate n false) i:=by
 unfold isOn
 by_cases h:i<n
 ·simp [h]
 ·simp [Array.getElem?_eq_none (xs:=Array.replicate n false) (i:=i) (by simp;omega)]
theorem isOn_set {listed:Array Bool} {i j:Nat} (hi:i<listed.size):isOn (listed.setIfInBounds i true) j↔i=j∨isOn listed j:=by
 unfold isOn
 by_cases h:i=j
 ·subst h;simp [hi]
 ·rw [getD_set_ne false h];simp [h]
theorem getD_size {listed:Array Bool} {j:Nat} (hj:j<listed.size):listed.getD j true=false↔¬isOn listed j:=by
 unfold isOn;simp [hj]
def left (listed:Array Bool) (n:Nat):Nat:=((List.range n).filter fun i=> !listed.getD i false).length
theorem left_set {listed:Array Bool} {i:Nat} (hi:i<listed.size) (hn:¬isOn listed i):left (listed.setIfInBounds i true) listed.size+1=left listed listed.size:=by
 unfold left
 have hset:∀j,(listed.setIfInBounds i true).getD j false=if i=j then true else listed.getD j false:=by
  intro j
  by_cases h:i=j
  ·subst h;simp [hi]
  ·rw [getD_set_ne false h,if_neg h]
 have hf:listed.getD i false=false:=by simpa [isOn] using hn
 have:∀n,((List.range n).filter fun j=> !(listed.setIfInBounds i true).getD j false).length+(if i<n then 1 else 0)=((List.range n).filter fun j=> !listed.getD j false).length:=by
  intro n
  induction n with
  |zero=>simp
  | succ n ih=>
   rw [List.range_succ,List.filter_append,List.filter_append,List.length_append,List.length_append,←ih]
   simp only [List.filter_cons,List.filter_nil,hset]
   by_cases h:i=n
   ·subst h
    simp [hf]
   ·simp only [if_neg h]
    by_cases h2:i<n
    ·have h3:i<n+1:=by omega
     simp only [if_pos h2,if_pos h3];omega
    ·have h3:¬i<n+1:=by omega
     simp only [if_neg h2,if_neg h3];omega
 have:=this listed.size
 simpa [hi] using this
theorem left_eq {listed:Array Bool} {m n:Nat} (hmn:m≤n) (h:∀i,i<n→(isOn listed i↔i<m)):left listed n=n - m:=by
 unfold left
 induction n with
 |zero=>simp
 | succ n ih=>
  rw [List.range_succ,List.filter_append,List.length_append]
  by_cases hm:m=n+1
  ·subst hm
   have:∀j,j<n+1→listed.getD j false=true:=fun j hj=>(h j hj).2 hj
   have e1:(List.range n).filter (fun i=> !listed.getD i false)=[]:=by
    rw [List.filter_eq_nil_iff]
    intro j hj
    have:=this j (by have:=List.mem_range.1 hj;omega)
    simpa using this
   have e2:=this n (by omega)
   rw [e1]
   simp only [List.filter_cons,List.filter_nil,e2]
   simp
  ·rw [ih (by omega) (fun i hi=>h i (by omega))]
   have:listed.getD n false=false:=by
    have:¬isOn listed n:=fun h'=>by have:=(h n (by omega)).1 h';omega
    simpa [isOn] using this
   simp only [List.filter_cons,List.filter_nil,this]
   simp;omega
theorem binding_mem {o:Oper} {e:Edge} (h:e∈o.after) (hb:Region.binds .any e=true):e.on∈binding o:=
 List.mem_map.2 ⟨e,List.mem_filter.2 ⟨by simpa using h,hb⟩,rfl⟩
theorem mem_binding {o:Oper} {x:Nat} (h:x∈binding o):∃e∈o.after,Region.binds .any e=true∧e.on=x:=by
 obtain ⟨e,he,rfl⟩:=List.mem_map.1 h
 have:=List.mem_filter.1 he
 exact ⟨e,by simpa using this.1,this.2,rfl⟩
structure Lst (ops:List Oper) (listed:Array Bool):Prop where
 size:listed.size=ops.length
 closed:∀(j:Nat) o,ops[j]? =some o→isOn listed j→∀e∈binding o,isOn listed e
theorem Lst.ready {ops:List Oper} {listed:Array Bool} (h:Lst ops listed) {i:Nat} (hr:i∈Region.ready .any ops.toArray listed):
  i<ops.length∧¬isOn listed i∧ (∀ o,ops[i]? =some o→∀e∈binding o,isOn listed e)∧∀x∈(ancs ops []).getD i [],isOn listed x:=by
 obtain ⟨h1,o,ho,h2⟩:=mem_ready.1 hr
 have ho':ops[i]? =some o:=by simpa using ho
 have hlt:i<ops.length:=(List.getElem?_eq_some_iff.1 ho').1
 have h3:∀o,ops[i]? =some o→∀e∈binding o,isOn listed e:=by
  intro o' ho2 e he
  rw [ho'] at ho2;cases ho2
  obtain ⟨e',he',hb,rfl⟩:=mem_binding he
  exact h2 e' he' hb
 refine ⟨hlt,(getD_size (by rw [h.size];exact hlt)).1 h1,h3,?_⟩
 exact ancs_ok (listed:=isOn listed) h.closed [] rfl rfl (fun j _ hlt=>by simp at hlt) i h3 hlt
theorem Lst.set {ops:List Oper} {listed:Array Bool} (h:Lst ops listed) {i:Nat} (hr:i∈Region.ready .any ops.toArray listed):Lst ops (listed.setIfInBounds i true):=by
 obtain ⟨hlt,hn,hb,_⟩:=h.ready hr
 have hi:i<listed.size:=by rw [h.size];exact hlt
 refine ⟨by simpa using h.size,fun j o ho hj e he=> ?_⟩
 rw [isOn_set hi] at hj ⊢
 rcases hj with rfl|hj
 ·exact .inr (hb o ho e he)
 ·exact .inr (h.closed j o ho hj e he)
theorem Lst.some_ready {n k:Nat} {ops:List Oper} {listed:Array Bool} (h:Lst ops listed) (hok:AnyOk n ops k) {j:Nat} (hj:j<ops.length) (hn:¬isOn listed j):Region.ready .any ops.toArray listed≠[]:=by
 obtain ⟨i,⟨hi1,hi2⟩,hmin⟩:=least (p:=fun i=>i<ops.length∧¬isOn listed i) ⟨j,hj,hn⟩
 have:i∈Region.ready .any ops.toArray listed:=by
  refine mem_ready.2 ⟨(getD_size (by rw [h.size];exact hi1)).2 hi2,ops[i],by simp [hi1],fun e he hb=> ?_⟩
  have hlt:=hok.edges i ops[i] (List.getElem?_eq_getElem hi1) e.on (binding_mem he hb)
  rcases Classical.em (isOn listed e.on) with h'|h'
  ·exact h'
  ·have:=hmin e.on ⟨by omega,h'⟩;omega
 intro he
 rw [he] at this;cases this
section
variable {g:Cfg} {Q:AExit→ASt→Prop} {n:Nat}
structure Mid (g:Cfg) (l:List Oper) (E:ASt) (listed:Array Bool) (c:Ctx) (w:World) (a:Act):Prop where
 heap:HRel c E.H w
 size:a.tmps.size=g.N.n
 tmps:∀t v,lk t E.env=some v→ (∀ (i:Nat) o,l[i]? =some o→o.dst=some t→isOn listed i)→∃v',a.tmps[t]? =some v'∧VRel c v v'
 defs:DRel g.N.B c E.H w E.defs a.defers
theorem Mid.toS {l:List Oper} {E:ASt} {listed:Array Bool} {c:Ctx} {w:World} {a:Act} (h:Mid g l E listed c w a) (hall:∀i,i<l.length→isOn listed i):SRel g.N c E w a:=
 ⟨h.heap,h.size,fun t v e=>h.tmps t v e (fun i o ho _=>hall i (List.getElem?_eq_some_iff.1 ho).1),h.defs⟩
theorem any_tail {k:Nat} {ops:List Oper} (hok:AnyOk g.N.n ops k):∀(r pre:List Oper) (listed:Array Bool) (fuel:Nat) (st:ASt),ops=pre++r→k≤pre.length→Lst ops listed→ (∀ i,i<ops.length→(isOn listed i↔i<pre.length))→fuel=r.length→
  regionW g ops r st (fun st'=>Q .normal st') (fun v st'=>Q (.panic v) st')→∀c w a,SRel g.N c st w a→wpAnyIn (fenceOf g.lr) 0 g.P .any ops.toArray (APost g Q c st.H w) fuel listed a w
 |[],pre,listed,fuel,st,he,hk,hl,hon,hf,h,c,w,a,hs=>by
  subst hf
  refine ⟨?_,.normal,st,c,h,.normal,hs,.refl _ _ _ _⟩
  apply List.eq_nil_iff_forall_not_mem.2
  intro i hi
  obtain ⟨h1,h2,_⟩:=hl.ready hi
  exact h2 ((hon i h1).2 (by simp [he] at h1;omega))
 | o ::r,pre,listed,fuel,st,he,hk,hl,hon,hf,h,c,w,a,hs=>by
  subst hf
  have hlen:ops.length=pre.length+(r.length+1):=by rw [he];simp
  have hoat:ops[pre.length]? =some o:=by rw [he];simp
  refine ⟨fun hnil=> ?_,fun i hi=> ?_⟩
  ·refine absurd hnil (hl.some_ready hok (j:=pre.length) (by omega) ?_)
   rw [hon _ (by omega)];omega
  ·obtain ⟨h1,h2,_,h4⟩:=hl.ready hi
   have hge:¬i<pre.length:=fun h'=>h2 ((hon i h1).2 h')
   have hi2:i=pre.length:=by
    rcases Nat.lt_or_ge pre.length i with h'|h'
    ·have:=h4 _ (hok.tail pre.length i (by omega) h1 h')
     rw [hon _ (by omega)] at this;omega
    ·omega
   subst hi2
   have hl':=hl.set hi
   have hon':∀i,i<ops.length→(isOn (listed.setIfInBounds pre.length true) i↔i<(pre++[o]).length):=by
    intro i hil
    rw [isOn_set (by rw [hl.size];omega),hon i hil]
    simp;omega
   have hd1:∀d,o.dst=some d→d<g.N.n:=fun d e=>by
    have:=hok.dsts
    unfold dstsOk at this
    rw [List.all_eq_true] at this
    have:=this o (List.mem_iff_getElem?.2 ⟨_,hoat⟩)
    rw [e] at this
    simpa using this
   simp only [regionW] at h
   unfold wpOpIn
   have hoa:ops.toArray[pre.length]? =some o:=by simpa using hoat
   simp only [hoa]
   rcases wantW_elim hs h with ⟨hw,hr⟩|⟨hw,hr⟩
   ·rw [if_pos hw]
    refine opW_ok hd1 hr c w a _ _ hs ?_ ?_
    ·intro st' c' a' w' hK hs' ht _
     have:=any_tail hok r (pre++[o]) _ r.length st' (by simp [he]) (by simp;omega) hl' hon' rfl hK c' w' a' hs'
     exact wpAny_mono (fun e a2 w2 hp=>hp.back ht) this
    ·intro v v' st' c' a' w' hKp hv hs' ht
     exact ⟨.panic v,st',c',hKp,.panic hv,hs',ht⟩
   ·rw [if_neg (by rw [hw];simp)]
    refine ⟨about_any g.lr,?_⟩
    have hs':SRel g.N c (st.put o.dst noVal) w (a.put o.dst undef):=hs.put hd1 (.tuple .nil)
    have:=any_tail hok r (pre++[o]) _ r.length (st.put o.dst noVal) (by simp [he]) (by simp;omega) hl' hon' rfl hr c w _ hs'
    rw [put_H] at this
    exact this
where
 wpAny_mono {F:Fence} {n:Nat} {P:Program} {md:Region.Mode} {ops:Array Oper} {Q Q':Exit→Act→World→Prop} (hq:∀e a w,Q e a w→Q' e a w):∀{fuel:Nat} {listed:Array Bool} {a:Act} {w:World},wpAnyIn F n P md ops Q fuel listed a w→wpAnyIn F n P md ops Q' fuel listed a w
  |0,_,_,_,h=>⟨h.1,hq _ _ _ h.2⟩
  | fuel+1,listed,a,w,h=>by
   refine ⟨fun e=>hq _ _ _ (h.1 e),fun i hi=> ?_⟩
   have h:=h.2 i hi
   unfold wpOpIn at*
   split
   ·rename_i hn;rw [hn] at h;exact wpAny_mono hq h
   ·rename_i o ho
    simp only [ho] at h
    split
    ·rename_i hw
     rw [if_pos hw] at h
     refine ⟨h.1,?_⟩
     have hh:=h.2
     generalize (o.semAt F.round a.eval).run P w=r at*
     cases r with
     | ok x w'=>
      cases x<;> simp only [Oper.uponIn] at hh ⊢ <;>
       first
        |exact wpAny_mono hq hh
        | exact ⟨hh.1,CallsIn.mono hh.2 (fun e w'' he=>by
          cases e with
          |returned v=>exact wpAny_mono hq he
          |panicked ch=>exact hq _ _ _ he
          |outgrown=>obtain ⟨a0,w0,h0⟩:=he;exact ⟨a0,w0,hq _ _ _ h0⟩)⟩
        |exact ⟨hh.1,RowsIn.mono hh.2 (fun _ _ he=>wpAny_mono hq he)⟩
        | exact ⟨hh.1,RoundIn.mono hh.2 (fun e w'' he=>by
          cases e with
          |returned v=>exact wpAny_mono hq he
          |panicked ch=>exact hq _ _ _ he
          |outgrown=>obtain ⟨a0,w0,h0⟩:=he;exact ⟨a0,w0,hq _ _ _ h0⟩)⟩
     |halt x w'=>cases x<;> simp only [Oper.uponIn] at hh ⊢ <;> exact hq _ _ _ hh
    ·rename_i hw
     rw [if_neg hw] at h
     exact ⟨h.1,wpAny_mono hq h.2⟩
theorem any_front {ops l t:List Oper} (he:ops=l++t) (hok:AnyOk g.N.n ops l.length) {E:ASt}
  (hst:∀(i:Nat) o,l[i]? =some o→∃v,stepW g ops o E v∧∀d,o.dst=some d→lk d E.env=some v)
  (hK:regionW g ops t E (fun st'=>Q .normal st') (fun v st'=>Q (.panic v) st')):
  ∀(fuel:Nat) (listed:Array Bool) (c:Ctx) (w:World) (a:Act),Lst ops listed→fuel=left listed listed.size→ (∀ i,l.length≤i→i<ops.length→¬isOn listed i)→Mid g l E listed c w a→
   wpAnyIn (fenceOf g.lr) 0 g.P .any ops.toArray (APost g Q c E.H w) fuel listed a w:=by
 have hlen:ops.length=l.length+t.length:=by rw [he];simp
 have hdone:∀(listed:Array Bool) (c:Ctx) (w:World) (a:Act),Lst ops listed→ (∀ i,l.length≤i→i<ops.length→¬isOn listed i)→Mid g l E listed c w a→ (∀ i,i<l.length→isOn listed i)→
   wpAnyIn (fenceOf g.lr) 0 g.P .any ops.toArray (APost g Q c E.H w) (left listed listed.size) listed a w:=by
  intro listed c w a hl hno hm hall
  have hon:∀i,i<ops.length→(isOn listed i↔i<l.length):=fun i hi=>by
   rcases Nat.lt_or_ge i l.length with h'|h'
   ·exact ⟨fun _=>h',fun _=>hall i h'⟩
   ·exact ⟨fun h=>absurd h (hno i h' hi),fun h=>by omega⟩
  refine any_tail hok t l listed _ E he (Nat.le_refl _) hl hon ?_ hK c w a (hm.toS hall)
  rw [hl.size,left_eq (m:=l.length) (by omega) hon];omega
 intro fuel
 induction fuel with
 | zero=>
  intro listed c w a hl hf hno hm
  by_cases hall:∀i,i<l.length→isOn listed i
  ·have:=hdone listed c w a hl hno hm hall
   rwa [← hf] at this
  ·exfalso
   apply hall
   intro i hi
   rcases Classical.em (isOn listed i) with h'|h'
   ·exact h'
   ·have:=left_set (by rw [hl.size];omega) h'
    omega
 | succ fuel ih=>
  intro listed c w a hl hf hno hm
  by_cases hall:∀i,i<l.length→isOn listed i
  ·have:=hdone listed c w a hl hno hm hall
   rwa [← hf] at this
  ·refine ⟨fun hnil=> ?_,fun i hi=> ?_⟩
   ·apply absurd hall
    intro hall
    apply hall
    intro i hi
    rcases Classical.em (isOn listed i) with h'|h'
    ·exact h'
    ·exact absurd hnil (hl.some_ready hok (by omega) h')
   ·obtain ⟨h1,h2,_,h4⟩:=hl.ready hi
    have hil:i<l.length:=by
     rcases Nat.lt_or_ge i l.length with h'|h'
     ·exact h'
     ·exact absurd (fun j hj=>h4 j (hok.tail j i h' h1 (by omega))) hall
    have hoat:l[i]? =some l[i]:=List.getElem?_eq_getElem hil
    generalize l[i]=o at hoat
    have hops:ops[i]? =some o:=by rw [he,List.getElem?_append_left hil,hoat]
    obtain ⟨v,hs,hlk⟩:=hst i o hoat
    have hd1:∀d,o.dst=some d→d<g.N.n:=fun d e=>by
     have:=hok.dsts
     unfold dstsOk at this
     rw [List.all_eq_true] at this
     have:=this o (List.mem_iff_getElem?.2 ⟨_,hops⟩)
     rw [e] at this
     simpa using this
    have hfuel:fuel=left (listed.setIfInBounds i true) (listed.setIfInBounds i true).size:=by
     have:=left_set (by rw [hl.size];exact h1) h2
     simp;omega
    have hno':∀j,l.length≤j→j<ops.length→¬isOn (listed.setIfInBounds i true) j:=fun j hj hj2=>by
     rw [isOn_set (by rw [hl.size];exact h1)]
     rintro (rfl|h')
     ·omega
     ·exact hno j hj hj2 h'
    have hmid:∀(c':Ctx) (a':Act) (w':World) (u u':Value),c.le c'→HRel c' E.H w'→DRel g.N.B c' E.H w' E.defs a'.defers→a'.tmps=(a.put o.dst u).tmps→ (∀ d,o.dst=some d→u=u'∧VRel c' v u')→Mid g l E (listed.setIfInBounds i true) c' w' a':=by
     intro c' a' w' u u' hle hh hdf ht hu
     refine ⟨hh,?_,?_,hdf⟩
     ·rw [ht,←hm.size];cases o.dst<;> simp [Act.put]
     ·intro t x e hx
      by_cases hdt:o.dst=some t
      ·have:=hlk t hdt
       rw [e] at this;cases this
       obtain ⟨rfl,hv⟩:=hu t hdt
       refine ⟨u,?_,hv⟩
       rw [ht,hdt]
       simp [Act.put,hm.size,hd1 t hdt]
      ·obtain ⟨x',k1,k2⟩:=hm.tmps t x e (fun j o' ho' hd'=>by
        have:=hx j o' ho' hd'
        rw [isOn_set (by rw [hl.size];exact h1)] at this
        rcases this with rfl|h'
        ·rw [hoat] at ho';cases ho';exact absurd hd' hdt
        ·exact h')
       refine ⟨x',?_,k2.mono hle⟩
       rw [ht]
       cases hd:o.dst with
       |none=>simpa [Act.put] using k1
       |some d=>
        have hne:d≠t:=fun e=>hdt (by rw [hd,e])
        simp [Act.put,hne,k1]
    have hs1:SRel g.N c (E.only ops o) w a:=by
     refine ⟨hm.heap,hm.size,fun t x e=> ?_,hm.defs⟩
     obtain ⟨h5,h6⟩:=lk_restrict e
     refine hm.tmps t x h6 (fun j o' ho' hd'=> ?_)
     have hjl:=(List.getElem?_eq_some_iff.1 ho').1
     exact h4 j (hok.reads i j o o' t hil hjl hops (by rw [he,List.getElem?_append_left hjl,ho']) hd' h5)
    unfold wpOpIn
    have hoa:ops.toArray[i]? =some o:=by simpa using hops
    simp only [hoa]
    rcases wantW_elim hs1 hs with ⟨hw,hr⟩|⟨hw,hr⟩
    ·rw [if_pos hw]
     refine opW_ok hd1 hr c w a _ _ hs1 ?_ ?_
     ·rintro st' c' a' w' ⟨hH,hdf,hl'⟩ hs' ht ⟨hle,u,hu⟩
      have hm':Mid g l E (listed.setIfInBounds i true) c' w' a':=by
       have hh:=hs'.heap
       rw [hH] at hh
       have hd':=hs'.defs
       rw [hdf,hH] at hd'
       refine hmid c' a' w' u u hle hh hd' hu (fun d hd=>⟨rfl,?_⟩)
       obtain ⟨x,k1,k2⟩:=hs'.tmps d v (hl' d hd)
       rw [hu,hd] at k1
       simp [Act.put,hm.size,hd1 d hd] at k1
       rw [k1];exact k2
      have:=ih _ c' w' a' (hl.set hi) hfuel hno' hm'
      rw [hH] at ht
      exact any_tail.wpAny_mono (fun e a2 w2 hp=>hp.back ht) this
     ·intro v v' st' c' a' w' hKp
      exact hKp.elim
    ·rw [if_neg (by rw [hw];simp)]
     refine ⟨about_any g.lr,?_⟩
     subst hr
     refine ih _ c w _ (hl.set hi) hfuel hno' (hmid c _ w undef undef (Ctx.le_refl c) hm.heap ?_ rfl (fun d hd=>⟨rfl,.tuple .nil⟩))
     have:(a.put o.dst undef).defers=a.defers:=by cases o.dst<;> rfl
     rw [this];exact hm.defs
theorem AWP.regionAny {st:ASt} {id:Nat} (l t:List Oper) (hm:g.P.follows .mixedOrders=true) (hok:anyOk g.N.n (l++t) l.length=true)
  (h:quietW g (l++t) l st (fun E=>regionW g (l++t) t E (fun st'=>Q .normal st') (fun v st'=>Q (.panic v) st'))):AWP g (.region id (l++t).toArray true) Q st:=by
 intro c w a hs
 have hok:=AnyOk.of hok
 obtain ⟨vs,hvl,hK,hst⟩:=quietW_elim h
 have hH:(puts l vs st).H=st.H:=puts_H l vs st
 have hD:(puts l vs st).defs=st.defs:=puts_defs l vs st
 refine wpIn_region_any hm ?_
 obtain ⟨hh,ht⟩:=hs.heap.drew g.n0
 have:=any_front (g:=g) (Q:=Q) (ops:=l++t) (l:=l) (t:=t) rfl hok (E:=puts l vs st) ?_ hK (l++t).length (Array.replicate (l++t).length false) c w.drew a ?_ ?_ ?_ ?_
 ·rw [hH] at this
  have:=any_tail.wpAny_mono (fun e a2 w2 hp=>hp.back ht) this
  simpa using this
 ·intro i o ho
  have hil:=(List.getElem?_eq_some_iff.1 ho).1
  have hops:(l++t)[i]? =some o:=by rw [List.getElem?_append_left hil,ho]
  have hv:vs[i]? =some (vs[i]'(by omega)):=List.getElem?_eq_getElem (by omega)
  generalize vs[i]'(by omega)=v at hv
  refine ⟨v,?_,fun d hd=> ?_⟩
  ·have hs1:=hst i o v ho hv
   have:(puts (l.take i) (vs.take i) st).only (l++t) o=(puts l vs st).only (l++t) o:=by
    unfold ASt.only
    rw [puts_H,puts_H,puts_defs,puts_defs,restrict_congr (e1:=(puts (l.take i) (vs.take i) st).env) (e2:=(puts l vs st).env)]
    intro d hd
    by_cases hex:∃(j:Nat) (p:Oper),l[j]? =some p∧p.dst=some d
    ·obtain ⟨j,p,hj,hp⟩:=hex
     have hjl:=(List.getElem?_eq_some_iff.1 hj).1
     have hjops:(l++t)[j]? =some p:=by rw [List.getElem?_append_left hjl,hj]
     have hja:=hok.reads i j o p d hil hjl hops hjops hp hd
     have hji:j<i:=anc_lt hok i j hja
     have hvj:vs[j]? =some (vs[j]'(by omega)):=List.getElem?_eq_getElem (by omega)
     have huniq:∀(m:Nat) o',l[m]? =some o'→o'.dst=some d→m=j:=fun m o' hm' hd'=>by
      have hml:=(List.getElem?_eq_some_iff.1 hm').1
      exact hok.apart m j o' p d hml hjl (by rw [List.getElem?_append_left hml,hm']) hjops hp hd'
     rw [puts_lk_some l vs st d j p _ hj hvj hp huniq]
     refine puts_lk_some _ _ st d j p _ (by rw [List.getElem?_take_of_lt hji];exact hj) (by rw [List.getElem?_take_of_lt hji];exact hvj) hp (fun m o' hm' hd'=> ?_)
     rw [List.getElem?_take] at hm'
     split at hm'
     ·exact huniq m o' hm' hd'
     ·cases hm'
    ·rw [puts_lk_none l vs st d (fun o' ho' hd'=>by
      obtain ⟨j,hj⟩:=List.mem_iff_getElem?.1 ho'
      exact hex ⟨j,o',hj,hd'⟩)]
     refine puts_lk_none _ _ st d (fun o' ho' hd'=> ?_)
     obtain ⟨j,hj⟩:=List.mem_iff_getElem?.1 (List.mem_of_mem_take ho')
     exact hex ⟨j,o',hj,hd'⟩
   unfold stepW at hs1 ⊢
   rw [this,puts_H,puts_defs] at hs1
   rw [hH,hD]
   exact hs1
  ·exact puts_lk_some l vs st d i o v ho hv hd (fun j o' hj hd'=>by
    have hjl:=(List.getElem?_eq_some_iff.1 hj).1
    exact hok.apart j i o' o d hjl hil (by rw [List.getElem?_append_left hjl,hj]) hops hd hd')
 ·refine ⟨by simp,fun j o ho hj=> ?_⟩
  exact absurd hj (not_isOn_replicate _ _)
 ·have:=left_eq (listed:=Array.replicate (l++t).length false) (m:=0) (n:=(l++t).length) (Nat.zero_le _) (fun i hi=>⟨fun h=>absurd h (not_isOn_replicate _ _),fun h=>by omega⟩)
  simpa using this.symm
 ·intro i _ hi
  exact not_isOn_replicate _ _
 ·refine ⟨by rw [hH];exact hh,hs.size,fun t' x e hx=> ?_,?_⟩
  ·have:lk t' st.env=some x:=by
    rw [← e]
    refine (puts_lk_none l vs st t' (fun o' ho' hd'=> ?_)).symm
    obtain ⟨j,hj⟩:=List.mem_iff_getElem?.1 ho'
    exact absurd (hx j o' hj hd') (not_isOn_replicate _ _)
   exact hs.tmps t' x this
  ·rw [hH,hD]
   exact hs.defs.step (n:=g.n0) (Ctx.le_refl c) ht
theorem AWP.regionK {st:ASt} {id:Nat} {ops:List Oper} (k:Nat) (hm:g.P.follows .mixedOrders=true) (hk:k≤ops.length) (hok:anyOk g.N.n ops k=true)
  (h:quietW g ops (ops.take k) st (fun E=>regionW g ops (ops.drop k) E (fun st'=>Q .normal st') (fun v st'=>Q (.panic v) st'))):AWP g (.region id ops.toArray true) Q st:=by
 have e:ops.take k++ops.drop k=ops:=List.take_append_drop k ops
 have:=AWP.regionAny (g:=g) (Q:=Q) (st:=st) (id:=id) (ops.take k) (ops.drop k) hm (by rw [e];simpa [Nat.min_eq_left hk] using hok) (by rw [e];exact h)
 rwa [e] at this
end
end Go.Aw

set_option linter.unusedVariables false
set_option linter.unusedSimpArgs false
namespace Go.Aw
theorem packV1 (v:Value):packV [v]=v:=rfl
theorem packV0:packV []= .tuple ⟨[]⟩:=rfl
theorem packV2 (v w:Value) (r:List Value):packV (v::w::r)= .tuple ⟨v::w::r⟩:=rfl
theorem bs_toList' (l:List UInt8):(bs l).data.toList=l:=rfl
theorem ARet.exq {P:Program} {f:FuncId} {args:List Value} {H H':AHeap} {v:Value} {K:Value→ARes→AHeap→Prop} {R:Value→Prop} (h:ARet P f args H v H') (hk:K v (.ret v) H') (hr:R v):∃u,AC P f args H (K u)∧R u:=⟨v,h.use hk,hr⟩
theorem hget0 {A l:AHeap} {n:Nat} (h:A.length=n):(A++l)[n]? =l[0]? :=by
 subst h;rw [List.getElem?_append_right (Nat.le_refl _)];simp
theorem hgetk {A l:AHeap} {n k:Nat} (h:A.length=n):(A++l)[n+k]? =l[k]? :=by
 subst h;rw [List.getElem?_append_right (by omega)];simp
theorem hgetl {A l:AHeap} {i:Nat} (h:i<A.length):(A++l)[i]? =A[i]? :=List.getElem?_append_left h
theorem hset0 {A l:AHeap} {n:Nat} {o:AObj} (h:A.length=n):(A++l).set n o=A++l.set 0 o:=by
 subst h;rw [List.set_append_right _ _ (Nat.le_refl _)];simp
theorem hsetk {A l:AHeap} {n k:Nat} {o:AObj} (h:A.length=n):(A++l).set (n+k) o=A++l.set k o:=by
 subst h;rw [List.set_append_right _ _ (by omega)];simp
theorem lt_of_get {α :Type} {A:List α} {i:Nat} {o:α} (h:A[i]? =some o):i<A.length:=(List.getElem?_eq_some_iff.1 h).1
def selN (n:Nat) (sel:List Nat):Names:=fun i=>if i<n then some i else (sel[i - n]?).map (n+ ·)
theorem upto_selN {n:Nat} {sel:List Nat}:∀i j,upto n i=some j→selN n sel i=some j:=by
 intro i j h
 unfold upto at h
 unfold selN
 split at h
 ·rename_i hlt;rw [if_pos hlt];exact h
 ·cases h
theorem OName.mono {m m':Names} (h:∀i j,m i=some j→m' i=some j) {o o':AObj} (r:OName m o o'):OName m' o o':=by
 cases r with
 |dead=>exact .dead _
 |cells k a=>exact .cells k (NRels.mono h a)
 |loop h1 h2 h3 h4 h5 h6 h7=>exact .loop h1 h2 h3 h4 h5 h6 fun t v e=>let ⟨v1,k1,k2⟩:=h7 t v e;⟨v1,k1,k2.mono h⟩
 |amap ck own a b hst=>exact .amap ck own (NRels.mono h a) (NRels.mono h b) hst
 |iter s e l a=>exact .iter s e l (a.mono h)
theorem HName.sel {A l objs:AHeap} {sel:List Nat} (hs:Scoped A) (hlen:objs.length=sel.length) (hnd:sel.Nodup)
  (ho:∀(k s:Nat),sel[k]? =some s→∃o1 o2,l[s]? =some o1∧objs[k]? =some o2∧OName (selN A.length sel) o2 o1):HName A.length (selN A.length sel) (A++l) (A++objs):=by
 refine ⟨fun i hi=>by unfold selN;rw [if_pos hi],fun i hi=> ?_,fun i j k hi hj=> ?_,fun i o2 hi _=> ?_⟩
 ·unfold selN
  simp at hi
  rw [if_neg (by omega),List.getElem?_eq_none (by omega)];rfl
 ·unfold selN at hi hj
  by_cases h1:i<A.length
  ·rw [if_pos h1] at hi;cases hi
   by_cases h2:j<A.length
   ·rw [if_pos h2] at hj;cases hj;rfl
   ·rw [if_neg h2] at hj
    cases hs:sel[j - A.length]? with
    |none=>simp [hs] at hj
    |some s=>simp [hs] at hj;omega
  ·rw [if_neg h1] at hi
   cases hs:sel[i - A.length]? with
   |none=>simp [hs] at hi
   | some s=>
    simp [hs] at hi
    by_cases h2:j<A.length
    ·rw [if_pos h2] at hj;cases hj;omega
    ·rw [if_neg h2] at hj
     cases hs2:sel[j - A.length]? with
     |none=>simp [hs2] at hj
     |some s2=>
      simp [hs2] at hj
      have:s=s2:=by omega
      subst this
      have hlt:i - A.length<sel.length:=(List.getElem?_eq_some_iff.1 hs).1
      have:=(List.getElem?_inj hlt hnd).1 (hs.trans hs2.symm)
      omega
 ·by_cases h1:i<A.length
  ·rw [List.getElem?_append_left h1] at hi
   refine ⟨i,o2,by unfold selN;rw [if_pos h1],by rw [List.getElem?_append_left h1];exact hi,(hs i o2 hi).mono upto_selN⟩
  ·rw [List.getElem?_append_right (by omega)] at hi
   have hlt:i - A.length<sel.length:=by rw [← hlen];exact (List.getElem?_eq_some_iff.1 hi).1
   obtain ⟨o1,o2',h2,h3,h4⟩:=ho (i - A.length) _ (List.getElem?_eq_getElem hlt)
   rw [hi] at h3;cases h3
   refine ⟨A.length+sel[i - A.length],o1,?_,?_,h4⟩
   ·unfold selN;rw [if_neg h1,List.getElem?_eq_getElem hlt];rfl
   ·rw [hgetk rfl];exact h2
theorem HName.drop {A l:AHeap} (hs:Scoped A):HName A.length (upto A.length) (A++l) A:=by
 refine ⟨fun i hi=>by unfold upto;rw [if_pos hi],fun i hi=>by unfold upto;rw [if_neg (by omega)],fun i j k hi hj=> ?_,fun i o2 hi _=> ?_⟩
 ·unfold upto at hi hj
  split at hi<;> split at hj<;> simp_all
 ·have h1:=lt_of_get hi
  exact ⟨i,o2,by unfold upto;rw [if_pos h1],by rw [List.getElem?_append_left h1];exact hi,hs i o2 hi⟩
theorem WeakV.drop {A l:AHeap} {v:Value} {n:Nat} (hn:A.length=n) (hs:Scoped A) (hv:NRel (upto A.length) v v):WeakV n (A++l) v A v:=by
 subst hn;exact .names (HName.drop hs) hv
theorem WeakV.sel {A l:AHeap} {v v2:Value} {n:Nat} (sel:List Nat) (objs:AHeap) (hn:A.length=n) (hs:Scoped A) (hlen:objs.length=sel.length) (hnd:sel.Nodup)
  (ho:∀(k s:Nat),sel[k]? =some s→∃o1 o2,l[s]? =some o1∧objs[k]? =some o2∧OName (selN A.length sel) o2 o1) (hv:NRel (selN A.length sel) v2 v):WeakV n (A++l) v (A++objs) v2:=by
 subst hn;exact .names (HName.sel hs hlen hnd ho) hv
theorem Weak.drop {A l:AHeap} {e1 e2:List (Nat×Value)} {d1 d2:List ADef} {n:Nat} (hn:A.length=n) (hs:Scoped A) (he:envIn e1 (NRel (upto A.length)) e2) (hd:DName (upto A.length) d2 d1):Weak n ⟨e1,d1,A++l⟩ ⟨e2,d2,A⟩:=by
 subst hn;exact .names (HName.drop hs) he hd
theorem Weak.sel {A l:AHeap} {e1 e2:List (Nat×Value)} {d1 d2:List ADef} {n:Nat} (sel:List Nat) (objs:AHeap) (hn:A.length=n) (hs:Scoped A) (hlen:objs.length=sel.length) (hnd:sel.Nodup)
  (ho:∀(k s:Nat),sel[k]? =some s→∃o1 o2,l[s]? =some o1∧objs[k]? =some o2∧OName (selN A.length sel) o2 o1) (he:envIn e1 (NRel (selN A.length sel)) e2) (hd:DName (selN A.length sel) d2 d1):Weak n ⟨e1,d1,A++l⟩ ⟨e2,d2,A++objs⟩:=by
 subst hn;exact .names (HName.sel hs hlen hnd ho) he hd
theorem Scoped.nil:Scoped []:=fun i o h=>by simp at h
theorem Scoped.append {A l:AHeap} (h:Scoped A) (hl:∀(i:Nat) (o:AObj),l[i]? =some o→OName (upto (A.length+l.length)) o o):Scoped (A++l):=by
 intro i o e
 rw [List.length_append]
 by_cases h1:i<A.length
 ·rw [List.getElem?_append_left h1] at e
  refine (h i o e).mono fun i j hij=> ?_
  unfold upto at hij ⊢
  split at hij
  ·rw [if_pos (by omega)];exact hij
  ·cases hij
 ·rw [List.getElem?_append_right (by omega)] at e
  exact hl _ _ e
theorem Scoped.set {A:AHeap} (h:Scoped A) {i:Nat} {o:AObj} (ho:OName (upto A.length) o o):Scoped (A.set i o):=by
 intro j o' e
 rw [List.length_set]
 rw [List.getElem?_set] at e
 split at e
 ·split at e
  ·cases e;exact ho
  ·cases e
 ·exact h j o' e
end Go.Aw

set_option linter.unusedVariables false
set_option linter.unusedSimpArgs false
namespace Go.Aw
theorem wi64 {n:Int} (h: -9223372036854775808≤n∧n<9223372036854775808):IntKind.i64.wrap n=n:=by rw [IntKind.wrap_i64];omega
theorem wu64 {n:Int} (h:0≤n∧n<18446744073709551616):IntKind.u64.wrap n=n:=by rw [IntKind.wrap_u64];omega
theorem wu32 {n:Int} (h:0≤n∧n<4294967296):IntKind.u32.wrap n=n:=by rw [IntKind.wrap_u32];omega
theorem wu16 {n:Int} (h:0≤n∧n<65536):IntKind.u16.wrap n=n:=by rw [IntKind.wrap_u16];omega
theorem wu8 {n:Int} (h:0≤n∧n<256):IntKind.u8.wrap n=n:=by rw [IntKind.wrap_u8];omega
theorem bytesC_set (l:List UInt8) (i:Nat) (b:UInt8):(bytesC l).set i (.int .u8 b.toNat)=bytesC (l.set i b):=by
 simp [bytesC,List.map_set]
theorem bytesC_get (l:List UInt8) (i:Nat):(bytesC l)[i]? =l[i]?.map fun b=> .int .u8 b.toNat:=by simp [bytesC]
theorem bytesC_take (l:List UInt8) (i:Nat):(bytesC l).take i=bytesC (l.take i):=by simp [bytesC]
theorem bytesC_drop (l:List UInt8) (i:Nat):(bytesC l).drop i=bytesC (l.drop i):=by simp [bytesC]
theorem bytesC_append (l m:List UInt8):bytesC l++bytesC m=bytesC (l++m):=by simp [bytesC]
theorem bytesC_nil:bytesC []=[]:=rfl
end Go.Aw

set_option linter.unusedVariables false
set_option linter.unusedSimpArgs false
namespace Go.Aw
def loopK (g:Cfg) (Q:AExit→ASt→Prop) (st:ASt):ARes→AHeap→Prop
 | .ret _,H'=>∃L,H'[st.H.length]? =some (.loop L)∧L.state≠ .busy∧
   (match L.pending with
   |none=>Q .normal ⟨st.env,.mark::st.defs,H'.set st.H.length .dead⟩
   |some x=>AWP g x Q ⟨st.env,.mark::st.defs,H'.set st.H.length .dead⟩)
 | .pan v,H'=>Q (.panic v) ⟨st.env,.mark::st.defs,H'⟩
theorem Owns.kept {c:Ctx} {H:AHeap} {w:World} (h:HRel c H w) {b:Nat} (ho:Owns c H b):b<w.heap.size:=by
 obtain ⟨i,o,p,hi,hc,hown,rfl⟩:=ho
 have hl:o.live=true:=by cases o<;> first|rfl|cases hown
 obtain ⟨q,hq,hr⟩:=h.obj i o hi hl
 rw [hc] at hq;cases hq
 exact hr.block_lt hl
theorem AWP.rangeFunc {g:Cfg} {Q:AExit→ASt→Prop} {st:ASt} {gop:Operand} {ps:List Tmp} {assign body:Code} (hlr:g.lr=none) (hn0:g.n0≤st.H.length) {f:FuncId} {first cap:List Value} (hg:ev st gop=some (.func (.func f) ⟨first⟩ ⟨cap⟩))
  {fnd:Func} (hfd:g.P.funcs[f]? =some fnd) (hbd:fnd.body.isSome=true) (hnd:(fnd.name== "runtime.NumGoroutine")=false)
  (h:AC g.P f (first++ [.func (.yield st.H.length) ⟨[]⟩ ⟨[]⟩]++cap) (st.H++ [.loop ⟨.ready,none,st.env,g.N.n,ps,assign,body⟩]) (loopK g Q st)):AWP g (.rangeFunc gop ps.toArray assign body) Q st:=by
 intro c w a hs
 have hfv:=ev_rel hs hg
 generalize hev:a.eval gop=fv' at hfv
 cases hfv with
 | func hf h1 h2=>
  cases hf
  rename_i first' cap'
  have hF:fenceOf g.lr=Fence.wide:=by rw [hlr];rfl
  refine wpIn_rangeFunc fun fn hfn=> ?_
  let D:=w.heap.size
  let rec0:Loop:={state:= .ready,pending:=none,fn,tmps:=a.tmps,params:=ps.toArray,assign,body,defers:=D}
  let w0:World:=w.alloc (.deferred (some []))
  let w1:World:=w0.alloc (.loop rec0)
  let l:=D+1
  let p:Place:=⟨l,0,0,0,0⟩
  have hw0:w0.heap.size=l:=by simp [w0,l,D,World.alloc,-World.alloc_eq]
  have hw1:w1.heap[l]? =some (.loop rec0):=by
   show (w0.heap.push (.loop rec0))[l]? =_
   rw [← hw0,Array.getElem?_push,if_pos rfl]
  have hwD:w1.heap[D]? =some (.deferred (some [])):=by simp [w1,w0,D,World.alloc,-World.alloc_eq,Array.getElem?_push]
  have henter:(Instr.enterLoop fn a.tmps ps.toArray assign body (fenceOf g.lr).round).run g.P w= .ok (l,[{target:= .collected D,args:= #[]}]) w1:=by
   rw [fenceOf_round,hlr]
   simp only [Instr.enterLoop,Sem.run_bind,run_newObj,Result.andThen_ok,Sem.run_pure]
   simp [w1,w0,l,D,rec0,World.alloc,-World.alloc_eq]
  obtain ⟨hh1,ht1,hle1⟩:=hs.heap.extend (w':=w1) (p:=p) (o:= .loop ⟨.ready,none,st.env,g.N.n,ps,assign,body⟩) ⟨rfl,rfl,rfl⟩ (by simp [w1,w0,World.alloc,-World.alloc_eq];omega) (fun b hb=>by
   simp only [w1,w0,World.alloc,Array.getElem?_push,Array.size_push]
   rw [if_neg (by omega),if_neg (by omega)]) (by simp [p,l,D]) ⟨rec0,hw1,rfl,rfl,rfl,rfl,rfl,hs.size,fun t v e=>by
    obtain ⟨v',k1,k2⟩:=hs.tmps t v e
    exact ⟨v',k1,k2.mono (Ctx.le_add p (hs.heap.fresh _ (Nat.le_refl _)))⟩⟩ g.n0
  have hargs:VRels (c.add st.H.length p) (first++ [.func (.yield st.H.length) ⟨[]⟩ ⟨[]⟩]++cap) (first'++ [.func (.yield l) #[] #[]]++cap'):=
   ((VRels.mono hle1 h1).append (.cons (.func (.yield (p:=p) (by simp)) .nil .nil) .nil)).append (VRels.mono hle1 h2)
  have hcall:=h _ _ _ hh1 hargs
  unfold CallTo at hcall
  have hinv:(callFunc f ⟨first'++ [.func (.yield l) #[] #[]]++cap'⟩).run g.P w1= .ok (.enter f ⟨first'++ [.func (.yield l) #[] #[]]++cap'⟩) w1:=by
   have hbn:fnd.body.isNone=false:=by cases hfb:fnd.body<;> simp_all
   simp only [callFunc,Sem.run_bind,run_program,Result.andThen_ok,hfd,hnd,Bool.false_eq_true,if_false,hbn]
   rfl
  rw [hinv] at hcall
  simp only at hcall
  refine ⟨l,[{target:= .collected D,args:= #[]}],w1,{target:= .fn (.func f) ⟨cap'⟩,args:=⟨first'++ [.func (.yield l) #[] #[]]⟩},w1,f,⟨first'++ [.func (.yield l) #[] #[]]++cap'⟩,w1,henter,?_,?_,?_,fenceOf_depth g.lr,?_⟩
  ·simp only [resolve,hev,Deferred.ofValue,pure_bind]
   simp
   rfl
  ·intro f' _;exact fenceOf_fn g.lr f'
  ·simp only [invoke]
   rw [show (⟨first'++ [.func (.yield l) #[] #[]]⟩:Array Value)++(⟨cap'⟩:Array Value)=⟨first'++ [.func (.yield l) #[] #[]]++cap'⟩ from by apply Array.ext';simp]
   exact hinv
  ·refine (callsIn_of hcall _).mono fun e w3 hpost=> ?_
   obtain ⟨r,c',H',hK,hr,hh,ht⟩:=hpost
   have hle:c.le c':=Ctx.le_trans hle1 (ht.le hh1)
   have hci:c' st.H.length=some p:=ht.le hh1 _ p (by simp)
   have htr:Trans g.n0 c st.H w c' H' w3:=ht1.trans (ht.mono (by simp;omega))
   have hnoD:¬Owns (c.add st.H.length p) (st.H++ [.loop ⟨.ready,none,st.env,g.N.n,ps,assign,body⟩]) D:=by
    intro ho
    rcases ht1.owned D ho with h'|h'
    ·have:=h'.kept hs.heap;simp [D] at this
    ·obtain ⟨i,o,q,hi,hc,hown,hb⟩:=ho
     by_cases hil:i=st.H.length
     ·subst hil
      simp at hc
      subst hc
      simp [p,l] at hb
     ·have hlt:i<st.H.length:=by have:=lt_of_get hi;simp at this;omega
      rw [List.getElem?_append_left hlt] at hi
      rw [Ctx.add_other _ _ hil] at hc
      have:Owns c st.H D:=⟨i,o,q,hi,hc,hown,hb⟩
      have:=this.kept hs.heap
      simp [D] at this
   have hD3:w3.heap[D]? =some (.deferred (some [])):=(ht.frame D (Array.getElem?_eq_some_iff.1 hwD).1 hnoD).trans hwD
   have hnoD3:¬Owns c' H' D:=fun ho=>by
    rcases ht.owned D ho with h'|h'
    ·exact hnoD h'
    ·simp [w1,w0,D,World.alloc,-World.alloc_eq] at h';omega
   have hdefs:DRel g.N.B c' H' w3 (.mark::st.defs) ({target:= .collected D,args:= #[]}::a.defers):=
    .mark hs.defs.big hD3 hnoD3 (hs.defs.under (Nat.le_refl _)) (hs.defs.step hle htr)
   have hs3:SRel g.N c' ⟨st.env,.mark::st.defs,H'⟩ w3 {a with defers:=[{target:= .collected D,args:= #[]}]++a.defers}:=
    ⟨hh,hs.size,fun t v e=>let ⟨v',k1,k2⟩:=hs.tmps t v e;⟨v',k1,k2.mono hle⟩,hdefs⟩
   cases hr with
   | ret hv=>
    obtain ⟨L,hL,hstate,hk⟩:=hK
    obtain ⟨q,hq,r,hb,r1,r2,r3,r4,r5,r6,r7⟩:=hh.obj _ _ hL rfl
    rw [hci] at hq;cases hq
    have hlt:=(Array.getElem?_eq_some_iff.1 hb).1
    let w4:World:={w3 with heap:=w3.heap.setIfInBounds l (.loop {r with state:= .exhausted})}
    have hend:(Instr.endLoop l).run g.P w3= .ok L.pending w4:=by
     have hb':w3.heap[l]? =some (.loop r):=hb
     have hne:(r.state== .busy)=false:=by rw [r1];simpa using hstate
     have hne':¬r.state= .busy:=by rw [r1];exact hstate
     simp [Instr.endLoop,Instr.getLoop,getObj,setObj,Sem.run,hb',hne',r2,w4]
    obtain ⟨hh4,ht4⟩:=hh.change (w':=w4) (o':= .dead) ⟨rfl,rfl,rfl⟩ (by simp [w4]) hL rfl hci (fun b hb=>by
     show (w3.heap.setIfInBounds l _)[b]? =_
     rw [Array.getElem?_setIfInBounds_ne (Ne.symm hb)]) trivial (fun h=>by cases h) g.n0
    have hs4:SRel g.N c' ⟨st.env,.mark::st.defs,H'.set st.H.length .dead⟩ w4 {a with defers:=[{target:= .collected D,args:= #[]}]++a.defers}:=hs3.step (Ctx.le_refl _) ht4 hh4
    refine ⟨L.pending,w4,hend,?_⟩
    generalize L.pending=pend at hk ⊢
    cases pend with
    |none=>exact ⟨.normal,_,c',hk,.normal,hs4,htr.trans ht4⟩
    |some x=>exact wpIn_mono (hk c' w4 _ hs4) (fun _ _ _ hp=>hp.back (htr.trans ht4))
   |pan hv=>exact ⟨.panic _,_,c',hK,.panic hv,hs3,htr⟩
def zipEnv:List Tmp→List Value→List (Nat×Value)→List (Nat×Value)
 |t::ts,v::vs,e=>zipEnv ts vs ((t,v)::e)
 |_,_,e=>e
def endR (i n0:Nat) (K:Value→AHeap→Prop) (st:ASt) (b:Bool) (s:LoopState) (j:Option Code):Prop:=
 ∃L2,st.H[i]? =some (.loop L2)∧∃H2,WeakV n0 (st.H.set i (.loop {L2 with state:=s,pending:=j})) (.bool b) H2 (.bool b)∧K (.bool b) H2
def roundQ (i n0:Nat) (K:Value→AHeap→Prop):AExit→ASt→Prop
 | .normal,st=>endR i n0 K st true .ready none
 | .ret,st=>endR i n0 K st false .done (some .ret)
 | .exit id,st=>endR i n0 K st false .done (some (.exit id))
 | .goto t,st=>endR i n0 K st false .done (some (.goto t))
 | .panic _,_=>False
theorem zip_ok {c:Ctx} {n:Nat}:∀{ps:List Tmp} {vs vs':List Value} {e:List (Nat×Value)} {tmps:Array Value},VRels c vs vs'→ (∀ t∈ps,t<n)→tmps.size=n→ (∀ t v,lk t e=some v→∃v',tmps[t]? =some v'∧VRel c v v')→
  let r:=(ps.zip vs').foldl (fun tmps (p:Tmp×Value)=>tmps.setIfInBounds p.1 p.2) tmps
  r.size=n∧∀t v,lk t (zipEnv ps vs e)=some v→∃v',r[t]? =some v'∧VRel c v v'
 |[],_,_,e,tmps,_,_,hs,he=>⟨hs,he⟩
 |t::ps,_,_,e,tmps,.nil,_,hs,he=>⟨hs,he⟩
 | t::ps,_,_,e,tmps,.cons hv hvs,hp,hs,he=>by
  refine zip_ok (ps:=ps) hvs (fun u hu=>hp u (List.mem_cons_of_mem _ hu)) (by simpa using hs) (fun u x e'=> ?_)
  rw [lk_cons] at e'
  split at e'
  ·rename_i h;subst h;cases e'
   exact ⟨_,by simp [hs,hp t List.mem_cons_self],hv⟩
  ·rename_i h
   obtain ⟨x',k1,k2⟩:=he u x e'
   exact ⟨x',by simp [h,k1],k2⟩
theorem endR_ok {P:Program} {i n0:Nat} {K:Value→AHeap→Prop} {N:Fr} {c0 c:Ctx} {H0:AHeap} {st:ASt} {w0 w:World} {a:Act} {b:Bool} {s:LoopState} {j:Option Code} (hj:b=j.isNone) (hs':s=if j.isNone then .ready else .done)
  (h:endR i n0 K st b s j) (hs:SRel N c st w a) {p:Place} (hc:c i=some p) (ht:Trans n0 c0 H0 w0 c st.H w) (hn:n0=H0.length):
  ∃v w',(Instr.endRound p.block j).run P w= .ok v w'∧CPost (fun r H'=>∃v,r= .ret v∧K v H') c0 H0 w0 (.returned v) w':=by
 obtain ⟨L2,hL,H2,hw,hK⟩:=h
 obtain ⟨q,hq,r,hb,r1,r2,r3,r4,r5,r6,r7⟩:=hs.heap.obj _ _ hL rfl
 rw [hc] at hq;cases hq
 have hlt:=(Array.getElem?_eq_some_iff.1 hb).1
 have hrun:(Instr.endRound p.block j).run P w= .ok (.bool j.isNone) {w with heap:=w.heap.setIfInBounds p.block (.loop {r with state:=if j.isNone then .ready else .done,pending:=j})}:=by
  simp [Instr.endRound,Instr.getLoop,getObj,setObj,Sem.run,hb]
 obtain ⟨hh4,ht4⟩:=hs.heap.change (w':={w with heap:=w.heap.setIfInBounds p.block (.loop {r with state:=if j.isNone then .ready else .done,pending:=j})}) (o':= .loop {L2 with state:=s,pending:=j}) ⟨rfl,rfl,rfl⟩ (by simp) hL rfl hc (fun b hb=>by
  show (w.heap.setIfInBounds p.block _)[b]? =_
  rw [Array.getElem?_setIfInBounds_ne (Ne.symm hb)]) ⟨{r with state:=if j.isNone then .ready else .done,pending:=j},by simp [hlt],hs'.symm,rfl,r3,r4,r5,r6,r7⟩ (fun _=>rfl) n0
 obtain ⟨c2,g1,g2,g3⟩:=hw c _ _ hh4 (.bool b)
 subst hn
 exact ⟨_,_,hrun,.ret (.bool b),c2,H2,⟨_,rfl,hK⟩,by rw [← hj];exact .ret g2,g1,(ht.trans ht4).trans g3⟩
theorem AY.of {P:Program} {i:Nat} {args:List Value} {H:AHeap} {K:Value→AHeap→Prop} {L:ALoop} (hi:H[i]? =some (.loop L)) (hst:L.state= .ready) (hsz:args.length=L.params.length) (hps:∀t∈L.params,t<L.n)
  (h:Scoped H→∀l B,AWP ⟨P,some l,⟨L.n,B⟩,H.length⟩ L.assign (fun x st1=>x= .normal∧∃L1,st1.H[i]? =some (.loop L1)∧L1.state= .ready∧AWP ⟨P,some l,⟨L.n,B⟩,H.length⟩ L.body (roundQ i H.length K) ⟨st1.env,st1.defs,st1.H.set i (.loop {L1 with state:= .busy})⟩)
   ⟨zipEnv L.params args L.env,[],H⟩):AY P i args H K:=by
 intro c w vargs p hh hv hc
 obtain ⟨q,hq,r,hb,r1,r2,r3,r4,r5,r6,r7⟩:=hh.obj _ _ hi rfl
 rw [hc] at hq;cases hq
 have hilt:i<H.length:=lt_of_get hi
 obtain ⟨z1,z2⟩:=zip_ok hv hps r6 r7
 have hy:(Instr.yield p.block ⟨vargs⟩).run P w= .ok (.round p.block r.fn ((L.params.zip vargs).foldl (fun tmps (p:Tmp×Value)=>tmps.setIfInBounds p.1 p.2) r.tmps) r.assign r.body) w:=by
  have hl:vargs.length=L.params.length:=by rw [← hv.length,hsz]
  have hfold:((r.params.zip (⟨vargs⟩:Array Value)).foldl (fun tmps (x:Tmp×Value)=>tmps.setIfInBounds x.1 x.2) r.tmps)=((L.params.zip vargs).foldl (fun tmps (p:Tmp×Value)=>tmps.setIfInBounds p.1 p.2) r.tmps):=by
   rw [r3];simp
  have hsz':(⟨vargs⟩:Array Value).size=r.params.size:=by rw [r3];simpa using hl
  rw [← hfold]
  simp [Instr.yield,Instr.getLoop,getObj,Sem.run,hb,hsz']
 refine ⟨_,_,_,_,_,hy,roundIn_of_wpIn (F:=Fence.wide) trivial ?_⟩
 have hs:SRel ⟨L.n,w.heap.size⟩ c ⟨zipEnv L.params args L.env,[],H⟩ w {tmps:=(L.params.zip vargs).foldl (fun tmps (p:Tmp×Value)=>tmps.setIfInBounds p.1 p.2) r.tmps,defers:=[]}:=⟨hh,z1,z2,.nil (Nat.le_refl _)⟩
 rw [r4,r5]
 refine wpIn_mono (h hh.inside p.block w.heap.size c w _ hs) ?_
 rintro e a1 w1 ⟨x,st1,c1,⟨rfl,L1,hL1,hL1s,hbody⟩,hx,hs1,ht1⟩
 cases hx
 have hc1:c1 i=some p:=ht1.names i p hilt hc
 obtain ⟨q,hq,r',hb',q1,q2,q3,q4,q5,q6,q7⟩:=hs1.heap.obj _ _ hL1 rfl
 rw [hc1] at hq;cases hq
 have hlt:=(Array.getElem?_eq_some_iff.1 hb').1
 have hrun:(Instr.beginRound p.block).run P w1= .ok () {w1 with heap:=w1.heap.setIfInBounds p.block (.loop {r' with state:= .busy})}:=by
  have:r'.state= .ready:=by rw [q1,hL1s]
  simp [Instr.beginRound,Instr.getLoop,getObj,setObj,Sem.run,hb',this]
 refine ⟨_,hrun,?_⟩
 obtain ⟨hh4,ht4⟩:=hs1.heap.change (w':={w1 with heap:=w1.heap.setIfInBounds p.block (.loop {r' with state:= .busy})}) (o':= .loop {L1 with state:= .busy}) ⟨rfl,rfl,rfl⟩ (by simp) hL1 rfl hc1 (fun b hb=>by
  show (w1.heap.setIfInBounds p.block _)[b]? =_
  rw [Array.getElem?_setIfInBounds_ne (Ne.symm hb)]) ⟨{r' with state:= .busy},by simp [hlt],rfl,q2,q3,q4,q5,q6,q7⟩ (fun _=>rfl) H.length
 have hs4:=hs1.step (Ctx.le_refl _) ht4 hh4
 refine wpIn_mono (hbody c1 _ a1 hs4) ?_
 rintro e a2 w2 ⟨x,st2,c2,hq2,hx,hs2,ht2⟩
 have htt:Trans H.length c H w c2 st2.H w2:=(ht1.trans ht4).trans ht2
 have hc2:c2 i=some p:=htt.names i p hilt hc
 cases hx with
 |normal=>exact endR_ok (j:=none) rfl rfl hq2 hs2 hc2 htt rfl
 |ret=>exact endR_ok (j:=some .ret) rfl rfl hq2 hs2 hc2 htt rfl
 |exit id=>exact endR_ok (j:=some (.exit id)) rfl rfl hq2 hs2 hc2 htt rfl
 |goto t=>exact endR_ok (j:=some (.goto t)) rfl rfl hq2 hs2 hc2 htt rfl
 |panic hv=>exact hq2.elim
end Go.Aw

set_option linter.unusedVariables false
set_option linter.unusedSimpArgs false
namespace Go.Aw
section
variable {P:Program} {op:BinOp} {t:TypeId} {x y:Operand} {K:Value→Prop}
theorem binW_int {k j:IntKind} {m n:Int}:binW P op t x y (.int k m) (.int j n) K=intW op k m j n K:=rfl
theorem binW_str {a b:ByteArray}:binW P op t x y (.string a) (.string b) K=strW op a b K:=rfl
theorem binW_bool_eql {a b:Bool}:binW P .eql t x y (.bool a) (.bool b) K=wth (eqV P 20 t (.bool a) (.bool b)) fun r=>K (.bool r):=by simp [binW,guardW]
theorem binW_bool_neq {a b:Bool}:binW P .neq t x y (.bool a) (.bool b) K=wth (eqV P 20 t (.bool a) (.bool b)) fun r=>K (.bool (!r)):=by simp [binW,guardW]
theorem binW_agg_eql {a b:Array Value}:binW P .eql t x y (.agg a) (.agg b) K=(P.eqGuardType P.depth t=false∧wth (eqV P 20 t (.agg a) (.agg b)) fun r=>K (.bool r)):=by simp [binW,guardW]
theorem binW_agg_neq {a b:Array Value}:binW P .neq t x y (.agg a) (.agg b) K=(P.eqGuardType P.depth t=false∧wth (eqV P 20 t (.agg a) (.agg b)) fun r=>K (.bool (!r))):=by simp [binW,guardW]
theorem binW_slice_eql {a:Option Addr} {n m:Nat} {b:Option Addr} {n' m':Nat}:binW P .eql t x y (.slice a n m) (.slice b n' m') K=wth (eqV P 20 t (.slice a n m) (.slice b n' m')) fun r=>K (.bool r):=by simp [binW,guardW]
theorem binW_slice_neq {a:Option Addr} {n m:Nat} {b:Option Addr} {n' m':Nat}:binW P .neq t x y (.slice a n m) (.slice b n' m') K=wth (eqV P 20 t (.slice a n m) (.slice b n' m')) fun r=>K (.bool (!r)):=by simp [binW,guardW]
theorem eqV_bool {a b:Bool} (h:P.underlying t=some .bool):eqV P 20 t (.bool a) (.bool b)=some (a==b):=by unfold eqV;simp only [h]
theorem eqV_int {a b:Int} {k j:IntKind} (h:P.underlying t=some (.int j)):eqV P 20 t (.int k a) (.int k b)=some (a==b):=by unfold eqV;simp only [h];simp
theorem eqV_sn {a:Addr} {n m n' m':Nat} {e:TypeId} (h:P.underlying t=some (.slice e)):eqV P 20 t (.slice (some a) n m) (.slice none n' m')=some false:=by unfold eqV;simp only [h]
theorem eqV_nn {n m n' m':Nat} {e:TypeId} (h:P.underlying t=some (.slice e)):eqV P 20 t (.slice none n m) (.slice none n' m')=some true:=by unfold eqV;simp only [h];rfl
theorem eqV_ns {a:Addr} {n m n' m':Nat} {e:TypeId} (h:P.underlying t=some (.slice e)):eqV P 20 t (.slice none n' m') (.slice (some a) n m)=some false:=by unfold eqV;simp only [h];rfl
theorem unW_not {b:Bool}:unW .not (.bool b) K=K (.bool (!b)):=rfl
theorem unW_xor {k:IntKind} {n:Int}:unW .xor (.int k n) K=wth (bitV .xor k (if k.signed then -1 else k.max) n) fun r=>K (.int k r):=rfl
theorem unW_neg {k:IntKind} {n:Int}:unW .neg (.int k n) K=K (.int k (k.wrap (0 - n))):=rfl
end
theorem bits_nat (n x:Nat) (h:x<2 ^ n):(BitVec.ofInt n (x:Int)).toNat=x:=by
 rw [BitVec.ofInt_natCast,BitVec.toNat_ofNat,Nat.mod_eq_of_lt h]
theorem bw8_and (x y:Nat) (hx:x<256) (hy:y<256):IntKind.u8.wrap ((BitVec.ofInt IntKind.u8.bits (x:Int) &&& BitVec.ofInt IntKind.u8.bits (y:Int)).toNat:Int)=((x &&& y:Nat):Int):=by
 have h1:=bits_nat 8 x hx
 have h2:=bits_nat 8 y hy
 rw [BitVec.toNat_and]
 show IntKind.u8.wrap (((BitVec.ofInt 8 (x:Int)).toNat &&& (BitVec.ofInt 8 (y:Int)).toNat:Nat):Int)=_
 rw [h1,h2,wu8]
 have:=Nat.and_lt_two_pow x (n:=8) hy
 omega
theorem bw8_or (x y:Nat) (hx:x<256) (hy:y<256):IntKind.u8.wrap ((BitVec.ofInt IntKind.u8.bits (x:Int) ||| BitVec.ofInt IntKind.u8.bits (y:Int)).toNat:Int)=((x ||| y:Nat):Int):=by
 have h1:=bits_nat 8 x hx
 have h2:=bits_nat 8 y hy
 rw [BitVec.toNat_or]
 show IntKind.u8.wrap (((BitVec.ofInt 8 (x:Int)).toNat ||| (BitVec.ofInt 8 (y:Int)).toNat:Nat):Int)=_
 rw [h1,h2,wu8]
 have:=Nat.or_lt_two_pow (n:=8) hx hy
 omega
theorem tdiv8 (n:Nat):(n:Int).tdiv 8=((n / 8:Nat):Int):=rfl
theorem tmod8 (n:Nat):(n:Int).tmod 8=((n%8:Nat):Int):=rfl
theorem fdiv_pow (m k:Nat):(m:Int).fdiv (2 ^ k)=((m / 2 ^ k:Nat):Int):=by
 rw [Int.fdiv_eq_ediv_of_nonneg _ (by have:(0:Int)<2 ^ k:=Int.pow_pos (by omega);omega)]
 norm_cast
theorem bw8_shr_bit (x:UInt8) (k:Nat) (h:k<8):(IntKind.u8.wrap ((BitVec.ofInt IntKind.u8.bits ((x.toNat:Int).fdiv (2 ^ min k IntKind.u8.bits)) &&& BitVec.ofInt IntKind.u8.bits 1).toNat:Int)==1)=x.toNat.testBit k:=by
 have hm:min k IntKind.u8.bits=k:=by show min k 8=k;omega
 have hx:=x.toNat_lt
 have hd:x.toNat / 2 ^ k<256:=Nat.lt_of_le_of_lt (Nat.div_le_self _ _) hx
 have e:=bw8_and (x.toNat / 2 ^ k) 1 hd (by omega)
 rw [Nat.and_one_is_mod] at e
 rw [hm,fdiv_pow]
 have e':IntKind.u8.wrap ((BitVec.ofInt IntKind.u8.bits ((x.toNat / 2 ^ k:Nat):Int) &&& BitVec.ofInt IntKind.u8.bits 1).toNat:Int)=((x.toNat / 2 ^ k%2:Nat):Int):=e
 rw [e',Nat.testBit_eq_decide_div_mod_eq]
 have h2:x.toNat / 2 ^ k%2<2:=Nat.mod_lt _ (by omega)
 generalize x.toNat / 2 ^ k%2=q at h2
 match q,h2 with
 |0,_=>rfl
 |1,_=>rfl
theorem AWP.condT {g:Cfg} {Q:AExit→ASt→Prop} {st:ASt} {x:Operand} {y z:Code} (hc:ev st x=some (.bool true)) (h:AWP g y Q st):AWP g (.cond x y z) Q st:=AWP.cond hc (fun _=>h) (fun e=>by cases e)
theorem AWP.condF {g:Cfg} {Q:AExit→ASt→Prop} {st:ASt} {x:Operand} {y z:Code} (hc:ev st x=some (.bool false)) (h:AWP g z Q st):AWP g (.cond x y z) Q st:=AWP.cond hc (fun e=>by cases e) (fun _=>h)
@[congr] theorem wth_cong {α :Type} {x y:Option α} {f:α→Prop} (h:x=y):wth x f=wth y f:=by rw [h]
def invokeW (P:Program) (r:Value) (n:String) (args:List Value) (st:ASt) (d:Option Tmp) (K:ASt→Prop) (Kp:Value→ASt→Prop):Prop:=
 match r with
 | .iface t v=>wth (tM P t n) fun f=>AC P f (v::args) st.H (resK K Kp st d)
 |_=>False
def pickW (st:ASt) (d:Option Tmp) (u:Value) (a b:Option Value) (K:ASt→Prop):Prop:=
 match u with
 | .bool t=>(t=true→wth a fun v=>K (st.put d v))∧(t=false→wth b fun v=>K (st.put d v))
 |_=>False
def panW (v:Value) (st:ASt) (Kp:Value→ASt→Prop):Prop:=
 match v with
 | .iface t u=>Kp (.iface t u) st
 |_=>False
def nilW (v:Value) (st:ASt) (d:Option Tmp) (K:ASt→Prop):Prop:=
 match v with
 | .pointer (some a)=>K (st.put d (.pointer (some a)))
 | .func (.func f) y z=>K (st.put d (.func (.func f) y z))
 | .iface t u=>K (st.put d (.iface t u))
 |_=>False
section
variable {g:Cfg} {st:ASt} {K:ASt→Prop} {Kp:Value→ASt→Prop} {d:Option Tmp} {t:TypeId} {ps:String} {af:Array Edge} {gu:Option (Nat×Bool)}
theorem op_move {x:Operand}:opW g ⟨d,.move x,t,ps,af,gu⟩ st K Kp=wth (ev st x) fun v=>K (st.put d v):=by
 simp only [opW,invokeW,pickW,panW,nilW,true_and]
 try rfl
theorem op_assign {x:Operand}:opW g ⟨d,.assign x,t,ps,af,gu⟩ st K Kp=wth (ev st x) fun v=>K (st.put d v):=by
 simp only [opW,invokeW,pickW,panW,nilW,true_and]
 try rfl
theorem op_alloc {e:TypeId}:opW g ⟨d,.alloc e,t,ps,af,gu⟩ st K Kp=allocW g.P e st.H (kv st d K):=by
 simp only [opW,invokeW,pickW,panW,nilW,true_and]
 try rfl
theorem op_box {e:TypeId} {x:Operand}:opW g ⟨d,.box e x,t,ps,af,gu⟩ st K Kp=wth (ev st x) fun v=>boxW e v st.H (kv st d K):=by
 simp only [opW,invokeW,pickW,panW,nilW,true_and]
 try rfl
theorem op_build {e:TypeId} {xs:Array (Nat×Operand)}:opW g ⟨d,.build e xs,t,ps,af,gu⟩ st K Kp=wth (evP st xs.toList) fun l=>buildW g.P e l st.H (kv st d K):=by
 simp only [opW,invokeW,pickW,panW,nilW,true_and]
 try rfl
theorem op_buildSlice {e:TypeId} {n:Nat} {xs:Array (Nat×Operand)}:opW g ⟨d,.buildSlice e n xs,t,ps,af,gu⟩ st K Kp=wth (evP st xs.toList) fun l=>buildSliceW g.P e n l st.H (kv st d K):=by
 simp only [opW,invokeW,pickW,panW,nilW,true_and]
 try rfl
theorem op_load {e:TypeId} {a:Operand}:opW g ⟨d,.load e a,t,ps,af,gu⟩ st K Kp=wth (ev st a) fun v=>loadW g.P e v st.H (kv st d K):=by
 simp only [opW,invokeW,pickW,panW,nilW,true_and]
 try rfl
theorem op_store {e:TypeId} {a x:Operand}:opW g ⟨d,.store e a x,t,ps,af,gu⟩ st K Kp=wth (ev st a) fun v=>wth (ev st x) fun u=>storeW g.P e v u st.H fun H'=>K (ASt.put ⟨st.env,st.defs,H'⟩ d noVal):=by
 simp only [opW,invokeW,pickW,panW,nilW,true_and]
 try rfl
theorem op_binOp {b:BinOp} {e z:TypeId} {x y:Operand}:opW g ⟨d,.binOp b e x y z,t,ps,af,gu⟩ st K Kp=wth (ev st x) fun a=>wth (ev st y) fun c=>binW g.P b e x y a c fun v=>K (st.put d v):=by
 simp only [opW,invokeW,pickW,panW,nilW,true_and]
 try rfl
theorem op_unOp {b:UnOp} {e:TypeId} {x:Operand}:opW g ⟨d,.unOp b e x,t,ps,af,gu⟩ st K Kp=wth (ev st x) fun a=>unW b a fun v=>K (st.put d v):=by
 simp only [opW,invokeW,pickW,panW,nilW,true_and]
 try rfl
theorem op_convert {e f:TypeId} {x:Operand}:opW g ⟨d,.convert e f x,t,ps,af,gu⟩ st K Kp=wth (ev st x) fun a=>convW g.P e f a st.H (kv st d K):=by
 simp only [opW,invokeW,pickW,panW,nilW,true_and]
 try rfl
theorem op_makeInterface {e:TypeId} {x:Operand}:opW g ⟨d,.makeInterface e x,t,ps,af,gu⟩ st K Kp=wth (ev st x) fun a=>ifaceW g.P e a st.H (kv st d K):=by
 simp only [opW,invokeW,pickW,panW,nilW,true_and]
 try rfl
theorem op_makeFunc {f:FuncId} {xs ys:Array Operand}:opW g ⟨d,.makeFunc (.func f) xs ys,t,ps,af,gu⟩ st K Kp=wth (evs st xs.toList) fun a=>wth (evs st ys.toList) fun b=>K (st.put d (.func (.func f) ⟨a⟩ ⟨b⟩)):=by
 simp only [opW,invokeW,pickW,panW,nilW,true_and]
 try rfl
theorem op_makeSlice {e:TypeId} {l n:Operand}:opW g ⟨d,.makeSlice e l n,t,ps,af,gu⟩ st K Kp=wth (ev st l) fun a=>wth (ev st n) fun b=>makeSliceW g.P e a b st.H (kv st d K):=by
 simp only [opW,invokeW,pickW,panW,nilW,true_and]
 try rfl
theorem op_slice {e:TypeId} {x:Operand} {lo hi mx:Option Operand}:opW g ⟨d,.slice e x lo hi mx,t,ps,af,gu⟩ st K Kp=wth (ev st x) fun a=>wth (evO st lo) fun l=>wth (evO st hi) fun h=>wth (evO st mx) fun m=>sliceW g.P e a l h m st.H (kv st d K):=by
 simp only [opW,invokeW,pickW,panW,nilW,true_and]
 try rfl
theorem op_fieldAddr {e:TypeId} {x:Operand} {f:Nat}:opW g ⟨d,.fieldAddr e x f,t,ps,af,gu⟩ st K Kp=wth (ev st x) fun a=>fieldAddrW g.P e a f st.H (kv st d K):=by
 simp only [opW,invokeW,pickW,panW,nilW,true_and]
 try rfl
theorem op_field {e:TypeId} {x:Operand} {f:Nat}:opW g ⟨d,.field e x f,t,ps,af,gu⟩ st K Kp=wth (ev st x) fun a=>fieldW g.P e a f st.H (kv st d K):=by
 simp only [opW,invokeW,pickW,panW,nilW,true_and]
 try rfl
theorem op_indexAddr {e:TypeId} {x i:Operand}:opW g ⟨d,.indexAddr e x i,t,ps,af,gu⟩ st K Kp=wth (ev st x) fun a=>wth (ev st i) fun b=>indexAddrW g.P e a b st.H (kv st d K):=by
 simp only [opW,invokeW,pickW,panW,nilW,true_and]
 try rfl
theorem op_index {e:TypeId} {x i:Operand}:opW g ⟨d,.index e x i,t,ps,af,gu⟩ st K Kp=wth (ev st x) fun a=>wth (ev st i) fun b=>indexW g.P e a b st.H (kv st d K):=by
 simp only [opW,invokeW,pickW,panW,nilW,true_and]
 try rfl
theorem op_typeAssert {e f:TypeId} {x:Operand} {ok:Bool}:opW g ⟨d,.typeAssert x e f ok,t,ps,af,gu⟩ st K Kp=wth (ev st x) fun a=>assertW g.P a e f ok st.H (kv st d K):=by
 simp only [opW,invokeW,pickW,panW,nilW,true_and]
 try rfl
theorem op_extract {x:Operand} {i:Nat}:opW g ⟨d,.extract x i,t,ps,af,gu⟩ st K Kp=wth (ev st x) fun a=>extractW a i st.H (kv st d K):=by
 simp only [opW,invokeW,pickW,panW,nilW,true_and]
 try rfl
theorem op_callV {x:Operand} {us:Array Operand} {ts:Array TypeId}:opW g ⟨d,.call ⟨.value x,us,ts⟩,t,ps,af,gu⟩ st K Kp=wth (evs st us.toList) fun args=>wth (ev st x) fun fv=>callV g.P fv args st d K Kp:=by
 simp only [opW,invokeW,pickW,panW,nilW,true_and]
 try rfl
theorem op_callB {b:Builtin} {us:Array Operand} {ts:Array TypeId}:opW g ⟨d,.call ⟨.builtin b,us,ts⟩,t,ps,af,gu⟩ st K Kp=wth (evs st us.toList) fun args=>builtinW g.P b ts.toList args st d K:=by
 simp only [opW,invokeW,pickW,panW,nilW,true_and]
 try rfl
theorem op_callI {x:Operand} {n:String} {us:Array Operand} {ts:Array TypeId}:opW g ⟨d,.call ⟨.invoke x n,us,ts⟩,t,ps,af,gu⟩ st K Kp=wth (evs st us.toList) fun args=>wth (ev st x) fun r=>invokeW g.P r n args st d K Kp:=by
 simp only [opW,invokeW,pickW,panW,nilW,true_and]
 try rfl
theorem op_pick {c a b:Operand}:opW g ⟨d,.pick c a b,t,ps,af,gu⟩ st K Kp=wth (ev st c) fun u=>pickW st d u (ev st a) (ev st b) K:=by
 simp only [opW,invokeW,pickW,panW,nilW,true_and]
 try rfl
theorem op_panic {x:Operand}:opW g ⟨d,.panic x,t,ps,af,gu⟩ st K Kp=wth (ev st x) fun v=>panW v st Kp:=by
 simp only [opW,invokeW,pickW,panW,nilW,true_and]
 try rfl
theorem op_nilCheck {x:Operand}:opW g ⟨d,.nilCheck x,t,ps,af,gu⟩ st K Kp=wth (ev st x) fun v=>nilW v st d K:=by
 simp only [opW,invokeW,pickW,panW,nilW,true_and]
 try rfl
theorem op_makeMap {e:TypeId}:opW g ⟨d,.makeMap e none,t,ps,af,gu⟩ st K Kp=makeMapW none st.H (kv st d K):=by
 simp only [opW,invokeW,pickW,panW,nilW,true_and,Option.map_none]
 try rfl
theorem op_lookup {e:TypeId} {x i:Operand} {ok:Bool}:opW g ⟨d,.lookup e x i ok,t,ps,af,gu⟩ st K Kp=wth (ev st x) fun a=>wth (ev st i) fun b=>lookupW g.P e a b ok st.H (kv st d K):=by
 simp only [opW,invokeW,pickW,panW,nilW,true_and]
 try rfl
theorem op_mapEntry {e:TypeId} {x i:Operand}:opW g ⟨d,.mapEntry e x i,t,ps,af,gu⟩ st K Kp=wth (ev st x) fun a=>wth (ev st i) fun b=>mapEntryW g.P e a b st.H (kv st d K):=by
 simp only [opW,invokeW,pickW,panW,nilW,true_and]
 try rfl
theorem op_range {e:TypeId} {x:Operand}:opW g ⟨d,.range e x,t,ps,af,gu⟩ st K Kp=wth (ev st x) fun a=>rangeW g.P e a st.H (kv st d K):=by
 simp only [opW,invokeW,pickW,panW,nilW,true_and]
 try rfl
theorem op_next {x:Operand} {s:Bool}:opW g ⟨d,.next x s,t,ps,af,gu⟩ st K Kp=wth (ev st x) fun a=>nextW a s st.H (kv st d K):=by
 simp only [opW,invokeW,pickW,panW,nilW,true_and]
 try rfl
theorem op_entry {x:Operand}:opW g ⟨d,.entry x,t,ps,af,gu⟩ st K Kp=wth (ev st x) fun a=>entryW a st.H (kv st d K):=by
 simp only [opW,invokeW,pickW,panW,nilW,true_and]
 try rfl
theorem op_mapUpdate {e:TypeId} {m k x:Operand}:opW g ⟨d,.mapUpdate e m k x,t,ps,af,gu⟩ st K Kp=wth (ev st m) fun a=>wth (ev st k) fun b=>wth (ev st x) fun u=>mapUpdateW g.P e a b u st.H fun H'=>K (ASt.put ⟨st.env,st.defs,H'⟩ d noVal):=by
 simp only [opW,invokeW,pickW,panW,nilW,true_and]
 try rfl
theorem op_insert {e:TypeId} {m k x:Operand}:opW g ⟨d,.insert e m k x,t,ps,af,gu⟩ st K Kp=wth (ev st m) fun a=>wth (ev st k) fun b=>wth (ev st x) fun u=>mapUpdateW g.P e a b u st.H fun H'=>K (ASt.put ⟨st.env,st.defs,H'⟩ d noVal):=by
 simp only [opW,invokeW,pickW,panW,nilW,true_and]
 try rfl
theorem op_entryStore {e:TypeId} {m k x:Operand}:opW g ⟨d,.entryStore e m k x,t,ps,af,gu⟩ st K Kp=wth (ev st m) fun a=>wth (ev st k) fun b=>wth (ev st x) fun u=>entryStoreW a b u st.H fun H'=>K (ASt.put ⟨st.env,st.defs,H'⟩ d noVal):=by
 simp only [opW,invokeW,pickW,panW,nilW,true_and]
 try rfl
theorem pickW_t {a b:Option Value}:pickW st d (.bool true) a b K=wth a fun v=>K (st.put d v):=by simp [pickW]
theorem pickW_f {a b:Option Value}:pickW st d (.bool false) a b K=wth b fun v=>K (st.put d v):=by simp [pickW]
theorem pickW_b {c:Bool} {a b:Bool}:pickW st d (.bool c) (some (.bool a)) (some (.bool b)) K=K (st.put d (.bool (if c then a else b))):=by cases c<;> simp [pickW,wth_some]
theorem panW_i {i:TypeId} {u:Value}:panW (.iface i u) st Kp=Kp (.iface i u) st:=propext Iff.rfl
theorem nilW_p {a:Addr}:nilW (.pointer (some a)) st d K=K (st.put d (.pointer (some a))):=propext Iff.rfl
theorem nilW_f {f:FuncId} {y z:Array Value}:nilW (.func (.func f) y z) st d K=K (st.put d (.func (.func f) y z)):=propext Iff.rfl
theorem nilW_i {i:TypeId} {u:Value}:nilW (.iface i u) st d K=K (st.put d (.iface i u)):=propext Iff.rfl
theorem put_so {e:List (Nat×Value)} {ds:List ADef} {H:AHeap} {i:Nat} {v:Value}:ASt.put ⟨e,ds,H⟩ (some i) v=⟨(i,v)::e,ds,H⟩:=by unfold ASt.put;rfl
theorem put_no {v:Value}:ASt.put st none v=st:=by unfold ASt.put;rfl
theorem wth_so {α :Type} {a:α} {f:α→Prop}:wth (some a) f=f a:=propext Iff.rfl
theorem kv_go {e:List (Nat×Value)} {ds:List ADef} {H H':AHeap} {v:Value}:kv ⟨e,ds,H⟩ d K v H'=K (ASt.put ⟨e,ds,H'⟩ d v):=propext Iff.rfl
theorem resK_r {e:List (Nat×Value)} {ds:List ADef} {H H':AHeap} {v:Value}:resK K Kp ⟨e,ds,H⟩ d (.ret v) H'=K (ASt.put ⟨e,ds,H'⟩ d v):=propext Iff.rfl
theorem resK_p {e:List (Nat×Value)} {ds:List ADef} {H H':AHeap} {v:Value}:resK K Kp ⟨e,ds,H⟩ d (.pan v) H'=Kp v ⟨e,ds,H'⟩:=propext Iff.rfl
theorem next_n {Q:AExit→ASt→Prop}:next K Q .normal st=K st:=propext Iff.rfl
theorem next_e {Q:AExit→ASt→Prop} {i:Nat}:next K Q (.exit i) st=Q (.exit i) st:=propext Iff.rfl
theorem next_g {Q:AExit→ASt→Prop} {i:Nat}:next K Q (.goto i) st=Q (.goto i) st:=propext Iff.rfl
theorem next_r {Q:AExit→ASt→Prop}:next K Q .ret st=Q .ret st:=propext Iff.rfl
theorem next_p {Q:AExit→ASt→Prop} {v:Value}:next K Q (.panic v) st=Q (.panic v) st:=propext Iff.rfl
theorem inB_n {Q:AExit→ASt→Prop} {i:Nat}:inBlock i Q .normal st=Q .normal st:=propext Iff.rfl
theorem inB_e {Q:AExit→ASt→Prop} {i j:Nat}:inBlock i Q (.exit j) st=if j=i then Q .normal st else Q (.exit j) st:=propext Iff.rfl
theorem inB_g {Q:AExit→ASt→Prop} {i j:Nat}:inBlock i Q (.goto j) st=Q (.goto j) st:=propext Iff.rfl
theorem inB_r {Q:AExit→ASt→Prop} {i:Nat}:inBlock i Q .ret st=Q .ret st:=propext Iff.rfl
theorem inB_p {Q:AExit→ASt→Prop} {i:Nat} {v:Value}:inBlock i Q (.panic v) st=Q (.panic v) st:=propext Iff.rfl
theorem lk_co {i k:Nat} {v:Value} {r:List (Nat×Value)}:lk i ((k,v)::r)=if k=i then some v else lk i r:=by rw [lk]
end
def gstep (g:Cfg) (ops:List Oper) (o:Oper) (r:List Oper) (want:Bool) (v:Option Value) (st:ASt) (K:ASt→Prop) (Kp:Value→ASt→Prop):Prop:=
 wth v fun v=>match v with
  | .bool b=>(b=want→opW g o st (fun st'=>regionW g ops r st' K Kp) Kp)∧(b≠want→regionW g ops r (st.put o.dst noVal) K Kp)
  | .tuple _=>regionW g ops r (st.put o.dst noVal) K Kp
  |_=>False
section
variable {g:Cfg} {ops r:List Oper} {o:Oper} {st:ASt} {K:ASt→Prop} {Kp:Value→ASt→Prop} {d:Option Tmp} {op:Op} {t:TypeId} {ps:String} {af:Array Edge}
theorem regionW_nil:regionW g ops [] st K Kp=K st:=propext Iff.rfl
theorem regionW_go:regionW g ops (⟨d,op,t,ps,af,none⟩::r) st K Kp=opW g ⟨d,op,t,ps,af,none⟩ st (fun st'=>regionW g ops r st' K Kp) Kp:=propext Iff.rfl
theorem regionW_if {j:Nat} {want:Bool}:regionW g ops (⟨d,op,t,ps,af,some (j,want)⟩::r) st K Kp=gstep g ops ⟨d,op,t,ps,af,some (j,want)⟩ r want ((gd ops j).bind fun d=>lk d st.env) st K Kp:=by
 simp only [regionW,wantW,gstep]
 cases gd ops j<;> rfl
theorem gstep_tt:gstep g ops o r true (some (.bool true)) st K Kp=opW g o st (fun st'=>regionW g ops r st' K Kp) Kp:=by simp [gstep,wth_some]
theorem gstep_ff:gstep g ops o r false (some (.bool false)) st K Kp=opW g o st (fun st'=>regionW g ops r st' K Kp) Kp:=by simp [gstep,wth_some]
theorem gstep_tf:gstep g ops o r true (some (.bool false)) st K Kp=regionW g ops r (st.put o.dst noVal) K Kp:=by simp [gstep,wth_some]
theorem gstep_ft:gstep g ops o r false (some (.bool true)) st K Kp=regionW g ops r (st.put o.dst noVal) K Kp:=by simp [gstep,wth_some]
theorem gstep_no {w:Bool} {x:Array Value}:gstep g ops o r w (some (.tuple x)) st K Kp=regionW g ops r (st.put o.dst noVal) K Kp:=by simp [gstep,wth_some]
end
@[congr] theorem gstep_cong {g:Cfg} {ops r:List Oper} {o:Oper} {w:Bool} {v v':Option Value} {st:ASt} {K:ASt→Prop} {Kp:Value→ASt→Prop} (h:v=v'):gstep g ops o r w v st K Kp=gstep g ops o r w v' st K Kp:=by rw [h]
theorem lenW_bs {P:Program} {t:TypeId} {l:List UInt8} {H:AHeap} {K:Value→AHeap→Prop} (h:P.underlying t=some .string):lenW P t (.string (bs l)) H K=K (.int .i64 l.length) H:=by
 simp only [lenW,h];rfl
theorem strW_eql {a b:List UInt8} {K:Value→Prop}:strW .eql (bs a) (bs b) K=K (.bool (a==b)):=by simp only [strW,toList_bs]
theorem strW_neq {a b:List UInt8} {K:Value→Prop}:strW .neq (bs a) (bs b) K=K (.bool (!(a==b))):=by simp only [strW,toList_bs]
theorem strW_lss {a b:List UInt8} {K:Value→Prop}:strW .lss (bs a) (bs b) K=K (.bool (Op.bytesLess a b)):=by simp only [strW,toList_bs]
theorem strW_leq {a b:List UInt8} {K:Value→Prop}:strW .leq (bs a) (bs b) K=K (.bool (Op.bytesLess a b||a==b)):=by simp only [strW,toList_bs]
theorem strW_gtr {a b:List UInt8} {K:Value→Prop}:strW .gtr (bs a) (bs b) K=K (.bool (!(Op.bytesLess a b||a==b))):=by simp only [strW,toList_bs]
theorem strW_geq {a b:List UInt8} {K:Value→Prop}:strW .geq (bs a) (bs b) K=K (.bool (!(Op.bytesLess a b))):=by simp only [strW,toList_bs]
theorem strW_add {a b:List UInt8} {K:Value→Prop}:strW .add (bs a) (bs b) K=(a.length+b.length≤9223372036854775807∧K (.string (bs (a++b)))):=by simp only [strW,bs_size,bs_append]
theorem mkB (l:List UInt8):ByteArray.mk l.toArray=bs l:=rfl
theorem finR {n0:Nat} {H:AHeap} {v:Value}:∃v2 H2,WeakV n0 H v H2 v2∧ARes.ret v2=ARes.ret v∧H2=H:=⟨_,_,.refl _ _ _,rfl,rfl⟩
theorem finR' {n0:Nat} {H H':AHeap} {v v':Value} (h:v=v') (h2:H=H'):∃v2 H2,WeakV n0 H v H2 v2∧ARes.ret v2=ARes.ret v'∧H2=H':=by subst h;subst h2;exact finR
theorem finD {H l:AHeap} {v:Value} (hs:Scoped H) (hv:NRel (upto H.length) v v):∃v2 H2,WeakV H.length (H++l) v H2 v2∧ARes.ret v2=ARes.ret v∧H2=H:=⟨_,_,.drop rfl hs hv,rfl,rfl⟩
theorem AWP.rangeL {g:Cfg} {Q:AExit→ASt→Prop} {env:List (Nat×Value)} {ds:List ADef} {H:AHeap} {gop:Operand} {ps:List Tmp} {assign body:Code} {f:FuncId} {first cap:List Value} {fnd:Func} (hfd:g.P.funcs[f]? =some fnd) (hlr:g.lr=none) (hn0:g.n0≤H.length) (hg:ev ⟨env,ds,H⟩ gop=some (.func (.func f) ⟨first⟩ ⟨cap⟩))
  (hbd:fnd.body.isSome=true) (hnd:(fnd.name== "runtime.NumGoroutine")=false)
  (h:∀L:ALoop,L= ⟨.ready,none,env,g.N.n,ps,assign,body⟩→AC g.P f (first++([.func (.yield H.length) ⟨[]⟩ ⟨[]⟩]++cap)) (H++ [.loop L]) (loopK g Q ⟨env,ds,H⟩)):AWP g (.rangeFunc gop ps.toArray assign body) Q ⟨env,ds,H⟩:=
 AWP.rangeFunc hlr hn0 hg hfd hbd hnd (by rw [List.append_assoc];exact h _ rfl)
theorem repZ_one (n:Nat) (v:Value):repZ n [v]=List.replicate n v:=by
 induction n with
 |zero=>rfl
 |succ n ih=>simp only [repZ] at*;rw [List.replicate_succ,List.replicate_succ,←ih];rfl
theorem bytesC_zeros (n:Nat):List.replicate n (Value.int .u8 0)=bytesC (List.replicate n 0):=by simp [bytesC]
theorem bw8_shl (k:Nat) (h:k<8):IntKind.u8.wrap (1*2 ^ min k IntKind.u8.bits)=((2 ^ k:Nat):Int):=by
 have hm:min k IntKind.u8.bits=k:=by show min k 8=k;omega
 have hk:2 ^ k<256:=Nat.pow_lt_pow_right (by omega) h
 rw [hm,Int.one_mul,show ((2:Int) ^ k)=((2 ^ k:Nat):Int) from by norm_cast]
 have h0:(0:Int)≤((2 ^ k:Nat):Int):=Int.natCast_nonneg _
 have h1:((2 ^ k:Nat):Int)<((256:Nat):Int):=Int.ofNat_lt.2 hk
 exact wu8 ⟨h0,h1⟩
theorem toNat_ofNat8 {n:Nat} (h:n<256):(UInt8.ofNat n).toNat=n:=by simp;omega
theorem AY.mono {P:Program} {i:Nat} {args:List Value} {H:AHeap} {K K':Value→AHeap→Prop} (h:AY P i args H K) (hk:∀v H',K v H'→K' v H'):AY P i args H K':=by
 intro c w vargs p hh hv hc
 obtain ⟨f,tmps,assign,body,w1,h1,h2⟩:=h c w vargs p hh hv hc
 exact ⟨f,tmps,assign,body,w1,h1,h2.mono fun e w' he=>CPost.mono (fun r H ⟨v,h3,h4⟩=>⟨v,h3,hk _ _ h4⟩) he⟩
end Go.Aw

set_option linter.unusedVariables false
set_option linter.unusedSimpArgs false
namespace Go.Aw
section
variable {m:Names}
theorem nr_int {k:IntKind} {a b:Int}:NRel m (.int k a) (.int k b)↔a=b:=⟨fun h=>by cases h;rfl,fun h=>h ▸ .int _ _⟩
theorem nr_slice {i j o o' n n' c c':Nat}:NRel m (.slice (some ⟨i,o,none⟩) n c) (.slice (some ⟨j,o',none⟩) n' c')↔m i=some j∧o=o'∧n=n'∧c=c':=
 ⟨fun h=>by cases h;rename_i h;exact ⟨h,rfl,rfl,rfl⟩,fun ⟨h,h1,h2,h3⟩=>by subst h1;subst h2;subst h3;exact .slice h⟩
theorem nr_agg {l l':List Value}:NRel m (.agg ⟨l⟩) (.agg ⟨l'⟩)↔NRels m l l':=⟨fun h=>by cases h;assumption,fun h=> .agg h⟩
theorem nr_func {f:FuncId} {a b a' b':List Value}:NRel m (.func (.func f) ⟨a⟩ ⟨b⟩) (.func (.func f) ⟨a'⟩ ⟨b'⟩)↔NRels m a a'∧NRels m b b':=⟨fun h=>by cases h;exact ⟨by assumption,by assumption⟩,fun h=> .func h.1 h.2⟩
theorem nrs_nil:NRels m [] []↔True:=⟨fun _=>trivial,fun _=> .nil⟩
theorem nrs_cons {v v':Value} {l l':List Value}:NRels m (v::l) (v'::l')↔NRel m v v'∧NRels m l l':=⟨fun h=>by cases h;exact ⟨by assumption,by assumption⟩,fun h=> .cons h.1 h.2⟩
theorem selN_0 {n:Nat} {sel:List Nat}:selN n sel n=(sel[0]?).map (n+ ·):=by simp [selN]
theorem selN_k {n k:Nat} {sel:List Nat}:selN n sel (n+k)=(sel[k]?).map (n+ ·):=by unfold selN;rw [if_neg (by omega),Nat.add_sub_cancel_left]
theorem selN_lt {n i:Nat} {sel:List Nat} (h:i<n):selN n sel i=some i:=by simp [selN,h]
end
theorem appendTo_nil {P:Program} {e:TypeId} {size y n:Nat} {news:List Value} {H:AHeap} {K:Value→AHeap→Prop} (hn:n≠0) (h1:n*y≤140737488355328) (h2:n≤4611686018427387904)
  (hk:K (.slice (some ⟨H.length,0,none⟩) n n) (H++ [.cells news ⟨e,size,true,0,none⟩])):appendTo P e size y (.slice none 0 0) n news H K:=by
 unfold appendTo
 exact ⟨⟨rfl,rfl⟩,fun h=>absurd h hn,fun _=>⟨⟨h1,h2⟩,hk⟩⟩
theorem appendTo_own {P:Program} {e:TypeId} {size y n i len:Nat} {cs news:List Value} {H:AHeap} {K:Value→AHeap→Prop} (hi:H[i]? =some (.cells cs ⟨e,size,true,0,none⟩)) (hs:size≠0) (hl:cs.length=len*size) (hn:n≠0) (h1:(len+n)*y≤140737488355328) (h2:len+n≤4611686018427387904)
  (hk:K (.slice (some ⟨H.length,0,none⟩) (len+n) (len+n)) (H.set i .dead++ [.cells (cs++news) ⟨e,size,true,0,none⟩])):appendTo P e size y (.slice (some ⟨i,0,none⟩) len len) n news H K:=by
 unfold appendTo
 dsimp only
 rw [hi]
 dsimp only
 refine ⟨fun h=>by omega,fun _=>⟨⟨by omega,h1,h2⟩,fun _=>⟨⟨rfl,rfl,Nat.zero_le _,rfl⟩,?_⟩,fun h=>absurd ⟨hs,by rw [hl,Nat.zero_add]⟩ h⟩⟩
 rw [List.drop_zero,List.take_of_length_le (by omega)]
 exact hk
theorem repZ1 (z:List Value):repZ 1 z=z:=by simp [repZ]
end Go.Aw

set_option linter.unusedVariables false
namespace Go.Aw
open Go.ChangeShapes Go.WideShapes Go.ChangeAt Go.RowKit
theorem HRel.empty (w:World):HRel (fun _=>none) [] w:=⟨fun i o e=>by simp at e,fun i j oi oj pi pj _ e=>by simp at e,fun _ _=>rfl⟩
theorem AC.calls {P:Program} {f:FuncId} {fn:Func} {args:List Value} {v:Value} (hf:P.funcs[f]? =some fn) (hb:fn.body.isSome=true) (hn:(fn.name== "runtime.NumGoroutine")=false) (ha:args.all scalar=true) (hv:scalar v=true)
  (h:AC P f args [] (fun r _=>r= .ret v)) (w:World):Calls P f ⟨args⟩ w fun e w'=>e= .returned v∧Below w.heap.size w w':=by
 have hc:=h (fun _=>none) w args (HRel.empty w) (VRels.of_scalars ha)
 unfold CallTo at hc
 have hbn:fn.body.isNone=false:=by cases hfb:fn.body<;> simp_all
 have hr:(callFunc f ⟨args⟩).run P w= .ok (.enter f ⟨args⟩) w:=by
  simp only [callFunc,Sem.run_bind,run_program,Result.andThen_ok,hf,hn,Bool.false_eq_true,if_false,hbn]
  rfl
 rw [hr] at hc
 refine hc.mono fun e w' ⟨r,c',H',he,hrel,hh,ht⟩=> ?_
 subst he
 cases hrel with
 |ret hv'=>
  rw [hv'.scalar_eq hv]
  exact ⟨rfl,ht.os,ht.tape,ht.output,ht.size,fun k hk=>ht.frame k hk (by rintro ⟨i,o,p,e,_⟩;simp at e)⟩
theorem post_of_below {H:Type} {enc:TypeId×Value→H} {P:Program} {f:Func} {s:ChangeSpec} {apart fresh handsOn again:Bool} {W W':World} {args:Array Value} {v:Value} {ds gs:List (DataW H)} {before pa pv:List MemPlace}
  (hW:DataW.Whole enc P f.params.toList s.vars apart W args.toList ds gs before)
  (hres:∀(b:Nat) (sp:Nat→Bool) (hd:Bool),DataW.TrodAll enc P W' b sp hd f.resultTypes.toList (v.resultList f.resultTypes.size) (s.fn H (ds++gs)).results [])
  (hargs:∀sp:Nat→Bool,(∀ p∈before,sp p.block=true)→DataW.TrodAll enc P W' 0 sp true f.params.toList args.toList (s.fn H (ds++gs)).args pa)
  (hvars:∀sp:Nat→Bool,(∀ p∈before,sp p.block=true)→DataW.TrodVars enc P W' sp s.vars (s.fn H (ds++gs)).vars pv)
  (hps:before=pa++pv) (hb:Below W.heap.size W W')
  (hok:∀(j:Nat) (t:TypeId) (r:Value),f.resultTypes[j]? =some t→(v.resultList f.resultTypes.size)[j]? =some r→Value.okWide P W' .any 0 t r):
  s.post enc P f apart fresh handsOn again W args v W':=by
 have hold:∀p∈before,(fun b=>decide (b<W.heap.size)) p.block=true:=fun p hp=>by simpa using hW.lt p hp
 have hlt:=hW.lt
 subst hps
 refine ⟨ds,gs,_,[],pa,pv,hW,hres _ _ _,hargs _ hold,hvars _ hold,hb.frame _,fun _=> ?_⟩
 obtain ⟨_,_,_,_,_,hz,hn⟩:=hW
 refine ⟨hok,_,_,([]++pa)++pv,⟨[]++pa,pv,trodAll_append (hargs _ (fun _ _=>rfl)) (hres _ _ _),hvars _ (fun _ _=>rfl),rfl,?_,?_⟩,?_⟩
 ·intro b off hp
  have hp':MemPlace.cell b off∈pa++pv:=by simpa using hp
  have:=hlt _ hp'
  rw [hb.frozen (by exact this)]
  exact hz b off hp'
 ·intro ha
  simpa using hn ha
 ·intro p hp _
  simpa using hp
end Go.Aw

set_option linter.unusedVariables false
namespace Go.Aw
def andI (k:IntKind) (m n:Int):Int:=k.wrap ((BitVec.ofInt k.bits m &&& BitVec.ofInt k.bits n).toNat:Int)
def orI (k:IntKind) (m n:Int):Int:=k.wrap ((BitVec.ofInt k.bits m ||| BitVec.ofInt k.bits n).toNat:Int)
def xorI (k:IntKind) (m n:Int):Int:=k.wrap ((BitVec.ofInt k.bits m ^^^ BitVec.ofInt k.bits n).toNat:Int)
def andNotI (k:IntKind) (m n:Int):Int:=k.wrap ((BitVec.ofInt k.bits m &&& ~~~BitVec.ofInt k.bits n).toNat:Int)
def shlI (k:IntKind) (m n:Int):Int:=k.wrap (m*2 ^ min n.toNat k.bits)
def shrI (k:IntKind) (m n:Int):Int:=m.fdiv (2 ^ min n.toNat k.bits)
section
variable {k j:IntKind} {m n:Int} {K:Value→Prop}
theorem intW_shl:intW .shl k m j n K=(0≤n∧K (.int k (shlI k m n))):=propext Iff.rfl
theorem intW_shr:intW .shr k m j n K=(0≤n∧K (.int k (shrI k m n))):=propext Iff.rfl
theorem intW_add:intW .add k m k n K=K (.int k (k.wrap (m+n))):=propext ⟨fun h=>h.2,fun h=>⟨rfl,h⟩⟩
theorem intW_sub:intW .sub k m k n K=K (.int k (k.wrap (m - n))):=propext ⟨fun h=>h.2,fun h=>⟨rfl,h⟩⟩
theorem intW_mul:intW .mul k m k n K=K (.int k (k.wrap (m*n))):=propext ⟨fun h=>h.2,fun h=>⟨rfl,h⟩⟩
theorem intW_quo:intW .quo k m k n K=(n≠0∧K (.int k (k.wrap (m.tdiv n)))):=propext ⟨fun h=>h.2,fun h=>⟨rfl,h⟩⟩
theorem intW_rem:intW .rem k m k n K=(n≠0∧K (.int k (m.tmod n))):=propext ⟨fun h=>h.2,fun h=>⟨rfl,h⟩⟩
theorem intW_and:intW .and k m k n K=K (.int k (andI k m n)):=propext ⟨fun h=>h.2,fun h=>⟨rfl,h⟩⟩
theorem intW_or:intW .or k m k n K=K (.int k (orI k m n)):=propext ⟨fun h=>h.2,fun h=>⟨rfl,h⟩⟩
theorem intW_xor:intW .xor k m k n K=K (.int k (xorI k m n)):=propext ⟨fun h=>h.2,fun h=>⟨rfl,h⟩⟩
theorem intW_andNot:intW .andNot k m k n K=K (.int k (andNotI k m n)):=propext ⟨fun h=>h.2,fun h=>⟨rfl,h⟩⟩
theorem intW_eql:intW .eql k m k n K=K (.bool (m==n)):=propext ⟨fun h=>h.2,fun h=>⟨rfl,h⟩⟩
theorem intW_neq:intW .neq k m k n K=K (.bool (m != n)):=propext ⟨fun h=>h.2,fun h=>⟨rfl,h⟩⟩
theorem intW_lss:intW .lss k m k n K=K (.bool (decide (m<n))):=propext ⟨fun h=>h.2,fun h=>⟨rfl,h⟩⟩
theorem intW_leq:intW .leq k m k n K=K (.bool (decide (m≤n))):=propext ⟨fun h=>h.2,fun h=>⟨rfl,h⟩⟩
theorem intW_gtr:intW .gtr k m k n K=K (.bool (decide (m>n))):=propext ⟨fun h=>h.2,fun h=>⟨rfl,h⟩⟩
theorem intW_geq:intW .geq k m k n K=K (.bool (decide (m≥n))):=propext ⟨fun h=>h.2,fun h=>⟨rfl,h⟩⟩
end
def tSl (P:Program) (t:TypeId):Bool:=match P.underlying t with|some (.slice _)=>true|_=>false
def tMp (P:Program) (t:TypeId):Bool:=match P.underlying t with|some (.map _ _)=>true|_=>false
theorem lenW_sl {P:Program} {t:TypeId} {a:Option Addr} {n c:Nat} {H:AHeap} {K:Value→AHeap→Prop} (h:tSl P t=true):lenW P t (.slice a n c) H K=K (.int .i64 (n:Nat)) H:=by
 unfold tSl at h;split at h
 ·rename_i hu;simp [lenW,hu]
 ·cases h
theorem lenW_mn {P:Program} {t:TypeId} {H:AHeap} {K:Value→AHeap→Prop} (h:tMp P t=true):lenW P t (.map none) H K=K (.int .i64 (0:Nat)) H:=by
 unfold tMp at h;split at h
 ·rename_i hu;simp [lenW,hu]
 ·cases h
theorem lenW_mp {P:Program} {t:TypeId} {i:Nat} {H:AHeap} {K:Value→AHeap→Prop} (h:tMp P t=true):lenW P t (.map (some i)) H K=(match H[i]? with|some (.amap es _ _)=>K (.int .i64 es.length) H|_=>False):=by
 unfold tMp at h;split at h
 ·rename_i hu;simp [lenW,hu];rfl
 ·cases h
attribute [go_sem ↓] regionW_nil regionW_go regionW_if gstep_tt gstep_ff gstep_tf gstep_ft gstep_no op_move op_assign op_alloc op_box op_build op_buildSlice op_load op_store op_binOp op_unOp op_convert op_makeInterface op_makeFunc op_makeSlice op_slice op_fieldAddr op_field op_indexAddr op_index op_typeAssert op_extract op_callV op_callB op_callI op_pick op_panic op_nilCheck op_makeMap op_range op_next op_entry op_lookup op_mapEntry op_mapUpdate op_insert op_entryStore pickW_t pickW_f pickW_b panW_i nilW_p nilW_f nilW_i wth_so kv_go put_so put_no next_n next_e next_g next_r next_p inB_n inB_e inB_g inB_r inB_p resK_r resK_p lenW_bs strW_eql strW_neq strW_lss strW_leq strW_gtr strW_geq strW_add
attribute [go_sem] rangeW nextW entryW clearW usdW usW lookupW makeMapW mapUpdateW mapEntryW entryStoreW deleteW lkRes keyB keysB wantW gd invokeW ev evs evP evO lk_co lk_nil noVal plain scalar List.all_cons List.all_nil Bool.and_true Bool.true_and Bool.and_self List.cons_append List.nil_append List.append_nil List.append_assoc List.getElem?_cons_zero List.getElem?_cons_succ List.getElem?_nil List.set_cons_zero List.set_cons_succ Option.bind_some Option.map_some argEnv Nat.zero_add Nat.add_zero true_implies false_implies decide_true decide_false Bool.not_true Bool.not_false Bool.true_eq_false ne_eq not_true_eq_false not_false_eq_true and_true true_and builtinW tSl tMp lenW_sl lenW_mn lenW_mp bs_toList' binW_int binW_str binW_bool_eql binW_bool_neq binW_agg_eql binW_agg_neq binW_slice_eql binW_slice_neq eqV_bool eqV_int eqV_sn eqV_nn eqV_ns unW_not unW_neg unW_xor fillL placeOf bne_self_eq_false beq_self_eq_true Int.cast_ofNat_Int Int.natCast_zero Nat.le_refl intW_shl intW_shr intW_add intW_sub intW_mul intW_quo intW_rem intW_and intW_or intW_xor intW_andNot intW_eql intW_neq intW_lss intW_leq intW_gtr intW_geq strW callV FPost LeaveW resV packV0 packV1 packV2 extractW loadW storeW indexW indexAddrW convW fieldW fieldAddrW partW buildW allocW boxW restrict reads Op.operands tmpOf ASt.only stepW Option.toList List.filterMap_cons List.filterMap_nil hget0 hgetk hset0 hsetk List.length_append List.length_cons List.length_nil List.length_set Nat.add_assoc Option.some.injEq forall_eq' List.take_succ_cons List.take_zero List.drop_succ_cons List.drop_zero Nat.mul_one ownW Bool.false_eq_true cellsOf_int cellsOf_bool cellsOf_string cellsOf_agg cellsOf_pointer cellsOf_slice cellsOf_map cellsOf_func cellsOf_nilFunc cellsOf_iface cellsOf_nilIface putCells flat quietW mkB repZ1 appendW srcW buildSliceW sliceW lowOf highOf bs_size bs_extract Int.toNat_zero AObj.loop.injEq roundQ endR loopK exists_eq_left' and_assoc exists_and_left exists_const Call.operands Int.toNat_natCast Int.natCast_nonneg Array.toList_append bytesC_length bytesC_set bytesC_take bytesC_drop bytesC_append bytesC_nil u8s_bytesC
theorem orI_n8 (a b:Nat) (ha:a<256) (hb:b<256):orI .u8 (a:Int) (b:Int)=((a ||| b:Nat):Int):=bw8_or a b ha hb
theorem shlI_n8 (n:Nat) (h:n<8):shlI .u8 1 (n:Int)=((2 ^ n:Nat):Int):=by
 unfold shlI;rw [Int.toNat_natCast];exact bw8_shl n h
theorem bit8 (x:UInt8) (n:Nat) (h:n<8):(andI .u8 (shrI .u8 (x.toNat:Int) (n:Int)) 1==1)=x.toNat.testBit n:=by
 unfold andI shrI;rw [Int.toNat_natCast];exact bw8_shr_bit x n h
inductive Ctl (g:Cfg) (Q:AExit→ASt→Prop) (st:ASt):Code→Prop→Prop
 |seq {x y:Code}:Ctl g Q st (.seq x y) (AWP g x (next (AWP g y Q) Q) st)
 |block {id:Nat} {x:Code}:Ctl g Q st (.block id x) (AWP g x (inBlock id Q) st)
 |skip:Ctl g Q st .skip (Q .normal st)
 |label {l:Nat}:Ctl g Q st (.label l) (Q .normal st)
 |exit {id:Nat}:Ctl g Q st (.exit id) (Q (.exit id) st)
 |goto {l:Nat}:Ctl g Q st (.goto l) (Q (.goto l) st)
 |ret:Ctl g Q st .ret (Q .ret st)
theorem AWP.ctl {g:Cfg} {Q:AExit→ASt→Prop} {st:ASt} {c:Code} {p:Prop} (h:Ctl g Q st c p) (hp:p):AWP g c Q st:=by
 cases h with
 |seq=>exact AWP.seq hp
 |block=>exact AWP.block hp
 |skip=>exact AWP.skip hp
 |label=>exact AWP.label hp
 |exit=>exact AWP.exit hp
 |goto=>exact AWP.goto hp
 |ret=>exact AWP.ret hp
theorem wz: (∀ {n:Int},-9223372036854775808≤n∧n<9223372036854775808→IntKind.i64.wrap n=n)∧ (∀ {n:Int},0≤n∧n<18446744073709551616→IntKind.u64.wrap n=n)∧ (∀ {n:Int},0≤n∧n<4294967296→IntKind.u32.wrap n=n)∧ (∀ {n:Int},0≤n∧n<65536→IntKind.u16.wrap n=n)∧ (∀ {n:Int},0≤n∧n<256→IntKind.u8.wrap n=n)∧
  (∀ {a b:Int},0≤a→a.tdiv b=a / b)∧ (∀ {a b:Int},0≤a→a.tmod b=a%b):=
 ⟨wi64,wu64,wu32,wu16,wu8,Int.tdiv_eq_ediv_of_nonneg,Int.tmod_eq_emod_of_nonneg⟩
theorem kc {g:Cfg} {Q:AExit→ASt→Prop} {st:ASt} {c:Code} {p:Prop} (hp:p) (h:Ctl g Q st c p:=by constructor):AWP g c Q st:=AWP.ctl h hp
theorem kr {g:Cfg} {Q:AExit→ASt→Prop} {st:ASt} {id:Nat} {l:List Oper} (hd:dstsOk g.N.n l=true) (h:regionW g l l st (fun st'=>Q .normal st') (fun v st'=>Q (.panic v) st')):AWP g (.region id l.toArray false) Q st:=AWP.region hd h
theorem kt {g:Cfg} {Q:AExit→ASt→Prop} {st:ASt} {x:Operand} {y z:Code} (hc:ev st x=some (.bool true)) (h:AWP g y Q st):AWP g (.cond x y z) Q st:=AWP.condT hc h
theorem kf {g:Cfg} {Q:AExit→ASt→Prop} {st:ASt} {x:Operand} {y z:Code} (hc:ev st x=some (.bool false)) (h:AWP g z Q st):AWP g (.cond x y z) Q st:=AWP.condF hc h
theorem kwp {P:Prop} (h:P) (_:True):P:=h
theorem kw0 {P Q:Prop} (k:Q) (z:Q→P:=by intro k;(fail_if_success with_reducible exact trivial);refine kwp ?_ ?_;(focus (first|with_reducible refine kc ?_|((with_reducible first|refine kr ?_ ?_|refine kt ?_ ?_);exact rfl)|((with_reducible refine kf ?_ ?_);exact rfl)|simp only [go_sem,sevalprocAttr,reduceCtorEq]|simp (disch:=omega) only [wz]));exact k;all_goals trivial):P:=z k
theorem kw1 {A1 P Q:Prop} (a:A1) (k:Q) (z:A1→Q→P:=by intro a k;(fail_if_success with_reducible exact trivial);refine kwp ?_ ?_;(focus (first|with_reducible refine kc ?_|((with_reducible first|refine kr ?_ ?_|refine kt ?_ ?_);exact rfl)|((with_reducible refine kf ?_ ?_);exact rfl)|simp only [go_sem,sevalprocAttr,reduceCtorEq,a]|simp (disch:=omega) only [wz]));exact k;all_goals trivial):P:=z a k
theorem kw2 {A1 B1 P Q:Prop} (a:A1) (b:B1) (k:Q) (z:A1→B1→Q→P:=by intro a b k;(fail_if_success with_reducible exact trivial);refine kwp ?_ ?_;(focus (first|with_reducible refine kc ?_|((with_reducible first|refine kr ?_ ?_|refine kt ?_ ?_);exact rfl)|((with_reducible refine kf ?_ ?_);exact rfl)|simp only [go_sem,sevalprocAttr,reduceCtorEq,a,b]|simp (disch:=omega) only [wz]));exact k;all_goals trivial):P:=z a b k
theorem kw3 {A1 B1 C1 P Q:Prop} (a:A1) (b:B1) (c:C1) (k:Q) (z:A1→B1→C1→Q→P:=by intro a b c k;(fail_if_success with_reducible exact trivial);refine kwp ?_ ?_;(focus (first|with_reducible refine kc ?_|((with_reducible first|refine kr ?_ ?_|refine kt ?_ ?_);exact rfl)|((with_reducible refine kf ?_ ?_);exact rfl)|simp only [go_sem,sevalprocAttr,reduceCtorEq,a,b,c]|simp (disch:=omega) only [wz]));exact k;all_goals trivial):P:=z a b c k
theorem kw4 {A1 B1 C1 D1 P Q:Prop} (a:A1) (b:B1) (c:C1) (d:D1) (k:Q) (z:A1→B1→C1→D1→Q→P:=by intro a b c d k;(fail_if_success with_reducible exact trivial);refine kwp ?_ ?_;(focus (first|with_reducible refine kc ?_|((with_reducible first|refine kr ?_ ?_|refine kt ?_ ?_);exact rfl)|((with_reducible refine kf ?_ ?_);exact rfl)|simp only [go_sem,sevalprocAttr,reduceCtorEq,a,b,c,d]|simp (disch:=omega) only [wz]));exact k;all_goals trivial):P:=z a b c d k
theorem kw5 {A1 B1 C1 D1 E1 P Q:Prop} (a:A1) (b:B1) (c:C1) (d:D1) (e:E1) (k:Q) (z:A1→B1→C1→D1→E1→Q→P:=by intro a b c d e k;(fail_if_success with_reducible exact trivial);refine kwp ?_ ?_;(focus (first|with_reducible refine kc ?_|((with_reducible first|refine kr ?_ ?_|refine kt ?_ ?_);exact rfl)|((with_reducible refine kf ?_ ?_);exact rfl)|simp only [go_sem,sevalprocAttr,reduceCtorEq,a,b,c,d,e]|simp (disch:=omega) only [wz]));exact k;all_goals trivial):P:=z a b c d e k
theorem kw6 {A1 B1 C1 D1 E1 F1 P Q:Prop} (a:A1) (b:B1) (c:C1) (d:D1) (e:E1) (f:F1) (k:Q) (z:A1→B1→C1→D1→E1→F1→Q→P:=by intro a b c d e f k;(fail_if_success with_reducible exact trivial);refine kwp ?_ ?_;(focus (first|with_reducible refine kc ?_|((with_reducible first|refine kr ?_ ?_|refine kt ?_ ?_);exact rfl)|((with_reducible refine kf ?_ ?_);exact rfl)|simp only [go_sem,sevalprocAttr,reduceCtorEq,a,b,c,d,e,f]|simp (disch:=omega) only [wz]));exact k;all_goals trivial):P:=z a b c d e f k
theorem kw7 {A1 B1 C1 D1 E1 F1 G1 P Q:Prop} (a:A1) (b:B1) (c:C1) (d:D1) (e:E1) (f:F1) (g:G1) (k:Q) (z:A1→B1→C1→D1→E1→F1→G1→Q→P:=by intro a b c d e f g k;(fail_if_success with_reducible exact trivial);refine kwp ?_ ?_;(focus (first|with_reducible refine kc ?_|((with_reducible first|refine kr ?_ ?_|refine kt ?_ ?_);exact rfl)|((with_reducible refine kf ?_ ?_);exact rfl)|simp only [go_sem,sevalprocAttr,reduceCtorEq,a,b,c,d,e,f,g]|simp (disch:=omega) only [wz]));exact k;all_goals trivial):P:=z a b c d e f g k
theorem kw8 {A1 B1 C1 D1 E1 F1 G1 H1 P Q:Prop} (a:A1) (b:B1) (c:C1) (d:D1) (e:E1) (f:F1) (g:G1) (h:H1) (k:Q) (z:A1→B1→C1→D1→E1→F1→G1→H1→Q→P:=by intro a b c d e f g h k;(fail_if_success with_reducible exact trivial);refine kwp ?_ ?_;(focus (first|with_reducible refine kc ?_|((with_reducible first|refine kr ?_ ?_|refine kt ?_ ?_);exact rfl)|((with_reducible refine kf ?_ ?_);exact rfl)|simp only [go_sem,sevalprocAttr,reduceCtorEq,a,b,c,d,e,f,g,h]|simp (disch:=omega) only [wz]));exact k;all_goals trivial):P:=z a b c d e f g h k
theorem kw9 {A1 B1 C1 D1 E1 F1 G1 H1 I1 P Q:Prop} (a:A1) (b:B1) (c:C1) (d:D1) (e:E1) (f:F1) (g:G1) (h:H1) (i:I1) (k:Q) (z:A1→B1→C1→D1→E1→F1→G1→H1→I1→Q→P:=by intro a b c d e f g h i k;(fail_if_success with_reducible exact trivial);refine kwp ?_ ?_;(focus (first|with_reducible refine kc ?_|((with_reducible first|refine kr ?_ ?_|refine kt ?_ ?_);exact rfl)|((with_reducible refine kf ?_ ?_);exact rfl)|simp only [go_sem,sevalprocAttr,reduceCtorEq,a,b,c,d,e,f,g,h,i]|simp (disch:=omega) only [wz]));exact k;all_goals trivial):P:=z a b c d e f g h i k
theorem kw10 {A1 B1 C1 D1 E1 F1 G1 H1 I1 J1 P Q:Prop} (a:A1) (b:B1) (c:C1) (d:D1) (e:E1) (f:F1) (g:G1) (h:H1) (i:I1) (j:J1) (k:Q) (z:A1→B1→C1→D1→E1→F1→G1→H1→I1→J1→Q→P:=by intro a b c d e f g h i j k;(fail_if_success with_reducible exact trivial);refine kwp ?_ ?_;(focus (first|with_reducible refine kc ?_|((with_reducible first|refine kr ?_ ?_|refine kt ?_ ?_);exact rfl)|((with_reducible refine kf ?_ ?_);exact rfl)|simp only [go_sem,sevalprocAttr,reduceCtorEq,a,b,c,d,e,f,g,h,i,j]|simp (disch:=omega) only [wz]));exact k;all_goals trivial):P:=z a b c d e f g h i j k
theorem kw11 {A1 B1 C1 D1 E1 F1 G1 H1 I1 J1 L1 P Q:Prop} (a:A1) (b:B1) (c:C1) (d:D1) (e:E1) (f:F1) (g:G1) (h:H1) (i:I1) (j:J1) (l:L1) (k:Q) (z:A1→B1→C1→D1→E1→F1→G1→H1→I1→J1→L1→Q→P:=by intro a b c d e f g h i j l k;(fail_if_success with_reducible exact trivial);refine kwp ?_ ?_;(focus (first|with_reducible refine kc ?_|((with_reducible first|refine kr ?_ ?_|refine kt ?_ ?_);exact rfl)|((with_reducible refine kf ?_ ?_);exact rfl)|simp only [go_sem,sevalprocAttr,reduceCtorEq,a,b,c,d,e,f,g,h,i,j,l]|simp (disch:=omega) only [wz]));exact k;all_goals trivial):P:=z a b c d e f g h i j l k
theorem kw12 {A1 B1 C1 D1 E1 F1 G1 H1 I1 J1 L1 M1 P Q:Prop} (a:A1) (b:B1) (c:C1) (d:D1) (e:E1) (f:F1) (g:G1) (h:H1) (i:I1) (j:J1) (l:L1) (m:M1) (k:Q) (z:A1→B1→C1→D1→E1→F1→G1→H1→I1→J1→L1→M1→Q→P:=by intro a b c d e f g h i j l m k;(fail_if_success with_reducible exact trivial);refine kwp ?_ ?_;(focus (first|with_reducible refine kc ?_|((with_reducible first|refine kr ?_ ?_|refine kt ?_ ?_);exact rfl)|((with_reducible refine kf ?_ ?_);exact rfl)|simp only [go_sem,sevalprocAttr,reduceCtorEq,a,b,c,d,e,f,g,h,i,j,l,m]|simp (disch:=omega) only [wz]));exact k;all_goals trivial):P:=z a b c d e f g h i j l m k
theorem kw13 {A1 B1 C1 D1 E1 F1 G1 H1 I1 J1 L1 M1 N1 P Q:Prop} (a:A1) (b:B1) (c:C1) (d:D1) (e:E1) (f:F1) (g:G1) (h:H1) (i:I1) (j:J1) (l:L1) (m:M1) (n:N1) (k:Q) (z:A1→B1→C1→D1→E1→F1→G1→H1→I1→J1→L1→M1→N1→Q→P:=by intro a b c d e f g h i j l m n k;(fail_if_success with_reducible exact trivial);refine kwp ?_ ?_;(focus (first|with_reducible refine kc ?_|((with_reducible first|refine kr ?_ ?_|refine kt ?_ ?_);exact rfl)|((with_reducible refine kf ?_ ?_);exact rfl)|simp only [go_sem,sevalprocAttr,reduceCtorEq,a,b,c,d,e,f,g,h,i,j,l,m,n]|simp (disch:=omega) only [wz]));exact k;all_goals trivial):P:=z a b c d e f g h i j l m n k
theorem kwy {P:Prop} (z:P:=by with_reducible exact trivial):P:=z
theorem kwz {P:Prop} (z:P:=by first|with_reducible exact trivial|with_reducible_and_instances exact finR|((with_reducible refine finR' ?_ ?_)<;>rfl)|((with_reducible refine finD hsc (NRel.of_plain ?_));exact rfl)):P:=z
end Go.Aw

set_option linter.unusedVariables false
set_option linter.unusedSimpArgs false
namespace Go.Aw
open Go.RowKit Go.ChangeShapes
def onm (m:Names):AObj→AObj→Prop
 | .dead,_=>True
 | .cells cs k,.cells cs' k'=>k=k'∧NRels m cs cs'
 | .amap es ck own,.amap es' ck' own'=>(own=own'∧ck=ck'∧es'.map (·.2.2)=es.map (·.2.2))∧NRels m (es.map (·.1)) (es'.map (·.1))∧NRels m (es.map (·.2.1)) (es'.map (·.2.1))
 | .iter v a b d,.iter v' a' b' d'=>(a=a'∧b=b'∧d=d')∧NRel m v v'
 | .loop L,.loop L'=>(L'.state=L.state∧L'.pending=L.pending∧L'.n=L.n∧L'.params=L.params∧L'.assign=L.assign∧L'.body=L.body)∧envIn L'.env (NRel m) L.env
 |_,_=>False
def selW (m:Names) (l:AHeap):List Nat→AHeap→Prop
 |s::sel,o::objs=>wth l[s]? (onm m o)∧selW m l sel objs
 |[],[]=>True
 |_,_=>False
theorem selW_nil {m:Names} {l:AHeap}:selW m l [] []↔True:=Iff.rfl
theorem selW_cons {m:Names} {l:AHeap} {s:Nat} {sel:List Nat} {o:AObj} {objs:AHeap}:selW m l (s::sel) (o::objs)↔wth l[s]? (onm m o)∧selW m l sel objs:=Iff.rfl
theorem onm_cells {m:Names} {cs cs':List Value} {k k':CK}:onm m (.cells cs k) (.cells cs' k')↔k=k'∧NRels m cs cs':=Iff.rfl
theorem OName.of_onm {m:Names}:∀{o o':AObj},onm m o o'→OName m o o'
 | .dead,o',_=> .dead o'
 | .cells cs k,.cells cs' k',⟨h1,h2⟩=>by subst h1;exact .cells k h2
 | .amap es ck w,.amap es' ck' w',⟨⟨h1,h1',h1''⟩,h2,h3⟩=>by subst h1;subst h1';exact .amap ck w h2 h3 h1''
 | .iter v a b d,.iter v' a' b' d',⟨⟨h1,h1',h1''⟩,h2⟩=>by subst h1;subst h1';subst h1'';exact .iter a b d h2
 | .loop L,.loop L',⟨⟨h1,h2,h3,h4,h5,h6⟩,h7⟩=> .loop h1 h2 h3 h4 h5 h6 fun t v e=>h7.lk e
theorem selW.len {m:Names} {l:AHeap}:∀{sel:List Nat} {objs:AHeap},selW m l sel objs→objs.length=sel.length
 |[],[],_=>rfl
 |s::sel,o::objs,h=>by simp [selW.len h.2]
theorem selW.get {m:Names} {l:AHeap}:∀{sel:List Nat} {objs:AHeap},selW m l sel objs→∀(k s:Nat),sel[k]? =some s→∃o1 o2,l[s]? =some o1∧objs[k]? =some o2∧OName m o2 o1
 |[],[],_,k,s,e=>by simp at e
 |s::sel,o::objs,h,0,s',e=>by
  simp at e;subst e
  obtain ⟨o1,h1,h2⟩:=wth_elim h.1
  exact ⟨o1,o,h1,rfl,.of_onm h2⟩
 |s::sel,o::objs,h,k+1,s',e=>by
  simp at e
  obtain ⟨o1,o2,h1,h2,h3⟩:=selW.get h.2 k s' e
  exact ⟨o1,o2,h1,by simpa using h2,h3⟩
theorem Weak.pick {A l objs:AHeap} {e1 e2:List (Nat×Value)} {n:Nat} (sel:List Nat) (hn:A.length=n) (hs:Scoped A) (hnd:sel.Nodup)
  (ho:selW (selN A.length sel) l sel objs∧envIn e1 (NRel (selN A.length sel)) e2):Weak n ⟨e1,[],A++l⟩ ⟨e2,[],A++objs⟩:=
 Weak.sel sel objs hn hs ho.1.len hnd ho.1.get ho.2 .nil
theorem WeakV.pick {A l objs:AHeap} {v v2:Value} {n:Nat} (sel:List Nat) (hn:A.length=n) (hs:Scoped A) (hnd:sel.Nodup)
  (ho:selW (selN A.length sel) l sel objs∧NRel (selN A.length sel) v2 v):WeakV n (A++l) v (A++objs) v2:=
 WeakV.sel sel objs hn hs ho.1.len hnd ho.1.get ho.2
theorem nrs_refl {m:Names} {l:List Value} (h:l.all scalar=true):NRels m l l↔True:=⟨fun _=>trivial,fun _=> .of_scalars h⟩
def gS (i n:Nat):Value:=if n=0 then .slice none 0 0 else .slice (some ⟨i,0,none⟩) n n
def gO (l:List Value) (k:CK):AObj:=if l=[] then .dead else .cells l k
theorem gS_zero {i:Nat}:gS i 0= .slice none 0 0:=rfl
theorem gS_succ {i n:Nat}:gS i (n+1)= .slice (some ⟨i,0,none⟩) (n+1) (n+1):=by simp [gS]
theorem gS_pos {i n:Nat} (h:0<n):gS i n= .slice (some ⟨i,0,none⟩) n n:=by unfold gS;rw [if_neg (by omega)]
theorem gO_nil {k:CK}:gO [] k= .dead:=rfl
theorem gO_cons {l:List Value} {v:Value} {k:CK}:gO (v::l) k= .cells (v::l) k:=by simp [gO]
theorem gO_ne {l:List Value} {k:CK} (h:l≠[]):gO l k= .cells l k:=by simp [gO,h]
theorem appendTo_g {P:Program} {e:TypeId} {y i:Nat} {l:List Value} {v:Value} {H:AHeap} {K:Value→AHeap→Prop} (hi:H[i]? =some (gO l ⟨e,1,true,0,none⟩)) (h1:(l.length+1)*y≤140737488355328) (h2:l.length+1≤4611686018427387904)
  (hk:K (.slice (some ⟨H.length,0,none⟩) (l.length+1) (l.length+1)) (H.set i .dead++ [.cells (l++[v]) ⟨e,1,true,0,none⟩])):appendTo P e 1 y (gS i l.length) 1 [v] H K:=by
 rcases List.eq_nil_or_concat l with rfl|⟨r,x,rfl⟩
 ·rw [gO_nil] at hi
  rw [set_same hi] at hk
  exact appendTo_nil (by decide) (by simpa using h1) (by decide) (by simpa using hk)
 ·have hne:r.concat x≠[]:=by simp
  rw [gO_ne hne] at hi
  rw [gS_pos (by simp)]
  exact appendTo_own hi (by decide) (by simp) (by decide) h1 h2 hk
theorem lenW_g {P:Program} {t e:TypeId} {i n:Nat} {H:AHeap} {K:Value→AHeap→Prop} (hu:P.underlying t=some (.slice e)):lenW P t (gS i n) H K=K (.int .i64 n) H:=by
 unfold gS;split
 ·rename_i h;subst h;simp [lenW,hu]
 ·simp [lenW,hu]
theorem nr_gs {m:Names} {i j n k c:Nat}:NRel m (gS i n) (.slice (some ⟨j,0,none⟩) k c)↔n≠0∧n=k∧n=c∧m i=some j:=by
 unfold gS
 split
 ·constructor
  ·intro h;cases h
  ·intro h;omega
 ·constructor
  ·rename_i h1;intro h;cases h with|slice h=>exact ⟨h1,rfl,rfl,h⟩
  ·rintro ⟨_,rfl,rfl,h⟩;exact .slice h
def Rd (H:AHeap) (v:Value) (l:List Value):Prop:=
 (v= .slice none 0 0∧l=[])∨∃i off cap cs k,v= .slice (some ⟨i,off,none⟩) l.length cap∧H[i]? =some (.cells cs k)∧∀j,j<l.length→cs[off+j]? =l[j]?
theorem Rd.nil {H:AHeap}:Rd H (.slice none 0 0) []:= .inl ⟨rfl,rfl⟩
theorem Rd.cells {H:AHeap} {i cap:Nat} {cs:List Value} {k:CK} {n:Nat} (h:H[i]? =some (.cells cs k)) (hn:n=cs.length):Rd H (.slice (some ⟨i,0,none⟩) n cap) cs:=by
 subst hn;exact .inr ⟨i,0,cap,cs,k,rfl,h,fun j hj=>by rw [Nat.zero_add]⟩
theorem Rd.g {H:AHeap} {i:Nat} {l:List Value} {k:CK} {n:Nat} (h:H[i]? =some (gO l k)) (hn:n=l.length):Rd H (gS i n) l:=by
 subst hn
 rcases l with _|⟨a,l⟩
 ·exact .nil
 ·rw [gO_cons] at h
  exact .cells h rfl
theorem Rd.more {H:AHeap} {v:Value} {l:List Value} (h:Rd H v l) (X:AHeap):Rd (H++X) v l:=by
 rcases h with h|⟨i,off,cap,cs,k,h1,h2,h3⟩
 ·exact .inl h
 ·exact .inr ⟨i,off,cap,cs,k,h1,by rw [hgetl (lt_of_get h2)];exact h2,h3⟩
theorem Rd.lenW {P:Program} {t e:TypeId} {H H':AHeap} {v:Value} {l:List Value} {K:Value→AHeap→Prop} (h:Rd H v l) (hu:P.underlying t=some (.slice e)):Go.Aw.lenW P t v H' K=K (.int .i64 l.length) H':=by
 rcases h with ⟨rfl,rfl⟩|⟨i,off,cap,cs,k,rfl,h2,h3⟩
 ·simp [Go.Aw.lenW,hu]
 ·simp [Go.Aw.lenW,hu]
theorem HRel.lend {c:Ctx} {H:AHeap} {w:World} (h:HRel c H w) {b off:Nat} {arr:Array Value} {e:TypeId} {fr:Nat×Nat} (hb:w.heap[b]? =some (.cells arr e fr)) {vs:List Value} (hl:off+vs.length≤arr.size) (hv:CellsRel c vs arr off)
  (hown:∀(i:Nat) (o:AObj),H[i]? =some o→o.own=false):HRel (c.add H.length ⟨b,off,vs.length,0,0⟩) (H++ [.cells vs ⟨e,0,false,0,none⟩]) w:=by
 have hle:c.le (c.add H.length ⟨b,off,vs.length,0,0⟩):=Ctx.le_add _ (h.fresh _ (Nat.le_refl _))
 refine ⟨fun i o hi hlv=> ?_,fun i j oi oj pi pj hij hi hj _ _ ho _=> ?_,fun i hi=> ?_⟩
 ·by_cases h1:i<H.length
  ·rw [hgetl h1] at hi
   obtain ⟨p,hp,hr⟩:=h.obj i o hi hlv
   exact ⟨p,hle _ _ hp,hr.keep hle hlv rfl⟩
  ·have hlt:=lt_of_get hi
   simp at hlt
   have:i=H.length:=by omega
   subst this
   rw [hget0 rfl] at hi
   simp at hi;subst hi
   exact ⟨⟨b,off,vs.length,0,0⟩,by simp [Ctx.add],rfl,rfl,fun _=>⟨rfl,fun o=>(by cases o)⟩,fun n hn=>by simp at hn,arr,fr.1,fr.2,hb,hv.mono hle,by simpa using hl,fun hk=>by simp at hk⟩
 ·by_cases h1:i<H.length
  ·rw [hgetl h1] at hi
   rw [hown i oi hi] at ho;cases ho
  ·have hlt:=lt_of_get hi
   simp at hlt
   have:i=H.length:=by omega
   subst this
   rw [hget0 rfl] at hi
   simp at hi;subst hi;cases ho
 ·simp at hi
  rw [Ctx.add_other _ _ (by omega)];exact h.fresh i (by omega)
theorem AC.callsH {P:Program} {f:FuncId} {fn:Func} {args vargs:List Value} {v:Value} {c:Ctx} {H:AHeap} {w:World} (hf:P.funcs[f]? =some fn) (hb:fn.body.isSome=true) (hn:(fn.name== "runtime.NumGoroutine")=false)
  (hh:HRel c H w) (hown:∀(i:Nat) (o:AObj),H[i]? =some o→o.own=false) (ha:VRels c args vargs) (hv:scalar v=true)
  (h:AC P f args H (fun r _=>r= .ret v)):Calls P f ⟨vargs⟩ w fun e w'=>e= .returned v∧Below w.heap.size w w':=by
 have hc:=h c w vargs hh ha
 unfold CallTo at hc
 have hbn:fn.body.isNone=false:=by cases hfb:fn.body<;> simp_all
 have hr:(callFunc f ⟨vargs⟩).run P w= .ok (.enter f ⟨vargs⟩) w:=by
  simp only [callFunc,Sem.run_bind,run_program,Result.andThen_ok,hf,hn,Bool.false_eq_true,if_false,hbn]
  rfl
 rw [hr] at hc
 refine hc.mono fun e w' ⟨r,c',H',he,hrel,hh,ht⟩=> ?_
 subst he
 cases hrel with
 |ret hv'=>
  rw [hv'.scalar_eq hv]
  refine ⟨rfl,ht.os,ht.tape,ht.output,ht.size,fun k hk=>ht.frame k hk ?_⟩
  rintro ⟨i,o,p,e,_,e2,_⟩
  rw [hown i o e] at e2;cases e2
end Go.Aw

set_option linter.unusedVariables false
set_option linter.unusedSimpArgs false
namespace Go.Aw
structure SeqG (P:Program) (f:FuncId) (cap:List Value) (l:List (List Value)) (Hok:AHeap→Prop):Prop where
 body:∃fn,P.funcs[f]? =some fn∧fn.body.isSome=true∧(fn.name== "runtime.NumGoroutine")=false
 run:∀(i:Nat) (H:AHeap) (I:Nat→AHeap→Prop) (D:AHeap→Prop),I 0 H→ (∀ n H1,I n H1→Hok H1)→ (∀ n H1 X,I n H1→I n (H1++X))→
  (∀ n args H1,l[n]? =some args→I n H1→AY P i args H1 (fun u H2=>∃b,u= .bool b∧(b=true→I (n+1) H2)∧(b=false→D H2)))→
  AC P f (.func (.yield i) ⟨[]⟩ ⟨[]⟩::cap) H (fun r H2=>r= .ret noVal∧(I l.length H2∨D H2))
theorem AWP.rangeS {g:Cfg} {Q:AExit→ASt→Prop} {env:List (Nat×Value)} {ds:List ADef} {H:AHeap} {gop:Operand} {ps:List Tmp} {assign body:Code} {f:FuncId} {cap:List Value} {l:List (List Value)} {Hok:AHeap→Prop} (hs:SeqG g.P f cap l Hok) (hlr:g.lr=none) (hn0:g.n0≤H.length) (hg:ev ⟨env,ds,H⟩ gop=some (.func (.func f) ⟨[]⟩ ⟨cap⟩))
  (h:∀L:ALoop,L= ⟨.ready,none,env,g.N.n,ps,assign,body⟩→∃(I:Nat→AHeap→Prop) (D:AHeap→Prop),I 0 (H++ [.loop L])∧ (∀ n H1,I n H1→Hok H1)∧ (∀ n H1 X,I n H1→I n (H1++X))∧
   (∀ n args H1,l[n]? =some args→I n H1→AY g.P H.length args H1 (fun u H2=>∃b,u= .bool b∧(b=true→I (n+1) H2)∧(b=false→D H2)))∧
   (∀ H2,I l.length H2∨D H2→loopK g Q ⟨env,ds,H⟩ (.ret noVal) H2)):AWP g (.rangeFunc gop ps.toArray assign body) Q ⟨env,ds,H⟩:=by
 obtain ⟨fn,h1,h2,h3⟩:=hs.body
 refine AWP.rangeL h1 hlr hn0 hg h2 h3 fun L hL=> ?_
 obtain ⟨I,D,h0,hok,hx,hy,hk⟩:=h L hL
 refine (hs.run H.length _ I D h0 hok hx hy).mono ?_
 rintro r H2 ⟨rfl,h⟩
 exact hk H2 h
theorem filter_range_get {p:Nat→Bool} {n i:Nat} (h:i<n) (hp:p i=true):((List.range n).filter p)[((List.range i).filter p).length]? =some i:=by
 obtain ⟨k,rfl⟩:∃k,n=i+(k+1):=⟨n - i - 1,by omega⟩
 rw [List.range_add,List.filter_append,List.getElem?_append_right (Nat.le_refl _),Nat.sub_self,List.range_succ_eq_map,List.map_cons,Nat.add_zero,List.filter_cons_of_pos hp]
 rfl
theorem filter_range_succ {p:Nat→Bool} {i:Nat}:((List.range (i+1)).filter p).length=((List.range i).filter p).length+(if p i=true then 1 else 0):=by
 rw [List.range_succ,List.filter_append,List.length_append]
 cases h:p i<;> simp [h]
theorem lenW_gt {P:Program} {t:TypeId} {i n:Nat} {H:AHeap} {K:Value→AHeap→Prop} (h:tSl P t=true):lenW P t (gS i n) H K=K (.int .i64 (n:Nat)) H:=by
 unfold tSl at h;split at h
 ·rename_i hu;exact lenW_g hu
 ·cases h
theorem Rd.lenT {P:Program} {t:TypeId} {H H':AHeap} {v:Value} {l:List Value} {K:Value→AHeap→Prop} (h:Rd H v l) (hu:tSl P t=true):Go.Aw.lenW P t v H' K=K (.int .i64 l.length) H':=by
 unfold tSl at hu;split at hu
 ·rename_i hu2;exact h.lenW hu2
 ·cases hu
theorem appendTo_gn {P:Program} {e:TypeId} {y i n:Nat} {l:List Value} {v:Value} {H:AHeap} {K:Value→AHeap→Prop} (hi:H[i]? =some (gO l ⟨e,1,true,0,none⟩)) (hn:l.length=n) (h1:(n+1)*y≤140737488355328) (h2:n+1≤4611686018427387904)
  (hk:K (.slice (some ⟨H.length,0,none⟩) (n+1) (n+1)) (H.set i .dead++ [.cells (l++[v]) ⟨e,1,true,0,none⟩])):appendTo P e 1 y (gS i n) 1 [v] H K:=by
 subst hn;exact appendTo_g hi h1 h2 hk
theorem Weak.pad {n0:Nat} {e1 e2:List (Nat×Value)} {ds:List ADef} {H:AHeap} (D:AHeap) (hD:∀(i:Nat) (o:AObj),D[i]? =some o→o= .dead) (h:envIn e1 (fun v u=>u=v) e2):Weak n0 ⟨e1,ds,H⟩ ⟨e2,ds,H++D⟩:=fun N c w a hs=>by
 have hlive:∀(i:Nat) (o:AObj),(H++D)[i]? =some o→o.live=true→H[i]? =some o:=fun i o e hl=>by
  by_cases hi:i<H.length
  ·rwa [hgetl hi] at e
  ·rw [List.getElem?_append_right (by omega)] at e
   rw [hD _ _ e] at hl;cases hl
 have hown:∀(i:Nat) (o:AObj),(H++D)[i]? =some o→o.own=true→H[i]? =some o:=fun i o e hl=>by
  by_cases hi:i<H.length
  ·rwa [hgetl hi] at e
  ·rw [List.getElem?_append_right (by omega)] at e
   rw [hD _ _ e] at hl;cases hl
 have hh:HRel c (H++D) w:=⟨fun i o e hl=>hs.heap.obj i o (hlive i o e hl) hl,fun i j oi oj pi pj hij hi hj ci cj ho hl=>hs.heap.sep i j oi oj pi pj hij (hown i oi hi ho) (hlive j oj hj hl) ci cj ho hl,fun i hi=>hs.heap.fresh i (by simp at hi;show H.length≤i;omega)⟩
 have ht:Trans n0 c H w c (H++D) w:=⟨fun _ _ _ h=>h,rfl,rfl,rfl,Nat.le_refl _,fun _ _ _=>rfl,fun b ⟨i,o,p,e,e2,e3,e4⟩=> .inl ⟨i,o,p,hown i o e e3,e2,e3,e4⟩⟩
 exact ⟨c,⟨hh,hs.size,fun t v e=>by
  obtain ⟨u,h1,h2⟩:=h.lk e
  subst h2
  exact hs.tmps t _ h1,hs.defs.step (Ctx.le_refl _) ht⟩,ht⟩
theorem Weak.pad1 {n0:Nat} {e1 e2:List (Nat×Value)} {ds:List ADef} {H:AHeap} (h:envIn e1 (fun v u=>u=v) e2):Weak n0 ⟨e1,ds,H⟩ ⟨e2,ds,H++ [.dead]⟩:=
 Weak.pad [.dead] (fun i o e=>by cases i with|zero=>simpa using e.symm|succ i=>simp at e) h
theorem AWP.seqJ {g:Cfg} {Q:AExit→ASt→Prop} {st:ASt} {x y:Code} (st2:ASt) (h:AWP g x (next (fun s=>Weak g.n0 s st2) Q) st) (k:AWP g y Q st2):AWP g (.seq x y) Q st:=by
 refine AWP.seq (h.mono ?_)
 intro e s hq
 cases e with
 |normal=>exact AWP.weak hq k
 |exit i=>exact hq
 |goto i=>exact hq
 |ret=>exact hq
 |panic v=>exact hq
theorem u8s_nil:u8s []=some []:=rfl
theorem repZ2 (z:List Value):repZ 2 z=z++(z):=by simp [repZ,List.replicate]
theorem repZ3 (z:List Value):repZ 3 z=z++(z++(z)):=by simp [repZ,List.replicate]
theorem repZ4 (z:List Value):repZ 4 z=z++(z++(z++(z))):=by simp [repZ,List.replicate]
theorem repZ5 (z:List Value):repZ 5 z=z++(z++(z++(z++(z)))):=by simp [repZ,List.replicate]
theorem repZ6 (z:List Value):repZ 6 z=z++(z++(z++(z++(z++(z))))):=by simp [repZ,List.replicate]
theorem repZ7 (z:List Value):repZ 7 z=z++(z++(z++(z++(z++(z++(z)))))):=by simp [repZ,List.replicate]
theorem repZ8 (z:List Value):repZ 8 z=z++(z++(z++(z++(z++(z++(z++(z))))))):=by simp [repZ,List.replicate]
attribute [go_sem] repZ2 repZ3 repZ4 repZ5 repZ6 repZ7 repZ8
attribute [go_sem] lenW_gt tight Nat.sub_zero Nat.zero_le u8s_nil true_or or_true false_or or_false
end Go.Aw

set_option linter.unusedVariables false
set_option linter.unusedSimpArgs false
namespace Go.Aw
open Go.RowKit Go.ChangeShapes Go.WideShapes Go.ChangeAt
theorem trodAll_below {H:Type} {enc:TypeId×Value→H} {P:Program} (hl:laidOutB P=true) {W W':World} (hb:Below W.heap.size W W') {sp:Nat→Bool}:∀{ts:List TypeId} {vs:List Value} {ds:List (DataW H)} {ps:List MemPlace},
  (ts.all fun t=>P.readableRec t&&decide (t<P.types.size))=true→DataW.TrodAll enc P W 0 (fun _=>true) true ts vs ds ps→ (∀ x∈ps,x.block<W.heap.size)→ (∀ x∈ps,sp x.block=true)→DataW.TrodAll enc P W' 0 sp true ts vs ds ps
 |[],vs,ds,ps,_,h,_,_=>by
  cases vs<;> cases ds<;> simp [DataW.TrodAll] at h ⊢
  exact h
 | t::ts,vs,ds,ps,hr,h,hlt,hs=>by
  obtain ⟨v,vs',d,ds',p,q,rfl,rfl,rfl,h1,h2⟩:=trodAll_cons h
  simp only [List.all_cons,Bool.and_eq_true,decide_eq_true_eq] at hr
  exact ⟨p,q,WideElems.Trod_stays hl hr.1.1 hr.1.2 h1 (fun x hx=>hb.same (hlt x (List.mem_append.2 (.inl hx)))) (fun x hx=>hs x (List.mem_append.2 (.inl hx))),
   trodAll_below hl hb (by simpa using hr.2) h2 (fun x hx=>hlt x (List.mem_append.2 (.inr hx))) (fun x hx=>hs x (List.mem_append.2 (.inr hx))),rfl⟩
structure Lent (c:Ctx) (H:AHeap) (w:World):Prop where
 rel:HRel c H w
 own:∀(i:Nat) (o:AObj),H[i]? =some o→o.own=false
theorem Lent.nil (w:World):Lent (fun _=>none) [] w:=⟨HRel.empty w,fun i o e=>by simp at e⟩
theorem Lent.add {c:Ctx} {H:AHeap} {w:World} (h:Lent c H w) {b off:Nat} {arr:Array Value} {e:TypeId} {fr:Nat×Nat} (hb:w.heap[b]? =some (.cells arr e fr)) {vs:List Value} (hl:off+vs.length≤arr.size) (hv:CellsRel c vs arr off):
  Lent (c.add H.length ⟨b,off,vs.length,0,0⟩) (H++ [.cells vs ⟨e,0,false,0,none⟩]) w:=by
 refine ⟨h.rel.lend hb hl hv h.own,fun i o hi=> ?_⟩
 by_cases h1:i<H.length
 ·rw [hgetl h1] at hi;exact h.own i o hi
 ·have hlt:=lt_of_get hi
  simp at hlt
  have:i=H.length:=by omega
  subst this
  rw [hget0 rfl] at hi
  simp at hi;subst hi;rfl
theorem Lent.le {c:Ctx} {H:AHeap} {w:World} (h:Lent c H w) (p:Place):c.le (c.add H.length p):=Ctx.le_add _ (h.rel.fresh _ (Nat.le_refl _))
end Go.Aw

set_option linter.unusedVariables false
set_option linter.unusedSimpArgs false
namespace Go.Aw
open Go.RowKit Go.ChangeShapes Go.WideShapes Go.ChangeAt
def Rd0 (H:AHeap) (v:Value) (l:List Value):Prop:=
 (v= .slice none 0 0∧l=[])∨∃i cap k,v= .slice (some ⟨i,0,none⟩) l.length cap∧l.length≤cap∧H[i]? =some (.cells l k)∧k.esz=0∧k.own=false
theorem Rd0.more {H:AHeap} {v:Value} {l:List Value} (h:Rd0 H v l) (X:AHeap):Rd0 (H++X) v l:=by
 rcases h with h|⟨i,cap,k,e,hc,hi,hz⟩
 ·exact .inl h
 ·exact .inr ⟨i,cap,k,e,hc,(hgetl (lt_of_get hi)).trans hi,hz⟩
theorem Rd0.rd {H:AHeap} {v:Value} {l:List Value} (h:Rd0 H v l):Rd H v l:=by
 rcases h with ⟨h1,h2⟩|⟨i,cap,k,e,hc,hi,hz⟩
 ·exact .inl ⟨h1,h2⟩
 ·exact .inr ⟨i,0,cap,l,k,e,hi,fun j hj=>by rw [Nat.zero_add]⟩
end Go.Aw

set_option linter.unusedVariables false
set_option linter.unusedSimpArgs false
namespace Go.Aw
def tPt (P:Program) (t:TypeId):Bool:=match P.underlying t with|some (.pointer _)=>true|_=>false
def tFn (P:Program) (t:TypeId):Bool:=match P.underlying t with|some (.func _ _ _)=>true|_=>false
def tIf (P:Program) (t:TypeId):Bool:=match P.underlying t with|some (.interface _)=>true|_=>false
section
variable {P:Program} {t:TypeId} {x y:Operand} {K:Value→Prop}
theorem binW_ptr_eql {a b:Option Addr}:binW P .eql t x y (.pointer a) (.pointer b) K=wth (eqV P 20 t (.pointer a) (.pointer b)) fun r=>K (.bool r):=by simp [binW,guardW]
theorem binW_ptr_neq {a b:Option Addr}:binW P .neq t x y (.pointer a) (.pointer b) K=wth (eqV P 20 t (.pointer a) (.pointer b)) fun r=>K (.bool (!r)):=by simp [binW,guardW]
theorem binW_map_eql {a b:Option Nat}:binW P .eql t x y (.map a) (.map b) K=wth (eqV P 20 t (.map a) (.map b)) fun r=>K (.bool r):=by simp [binW,guardW]
theorem binW_map_neq {a b:Option Nat}:binW P .neq t x y (.map a) (.map b) K=wth (eqV P 20 t (.map a) (.map b)) fun r=>K (.bool (!r)):=by simp [binW,guardW]
theorem eqV_pn {b:Option Addr} (h:tPt P t=true):eqV P 20 t (.pointer none) (.pointer b)=some b.isNone:=by
 unfold tPt at h;split at h
 ·rename_i hu;unfold eqV;simp only [hu]
 ·cases h
theorem eqV_ps {a:Addr} (h:tPt P t=true):eqV P 20 t (.pointer (some a)) (.pointer none)=some false:=by
 unfold tPt at h;split at h
 ·rename_i hu;unfold eqV;simp only [hu]
 ·cases h
theorem eqV_mn {b:Option Nat} (h:tMp P t=true):eqV P 20 t (.map none) (.map b)=some b.isNone:=by
 unfold tMp at h;split at h
 ·rename_i hu;unfold eqV;simp only [hu]
 ·cases h
theorem eqV_ms {a:Nat} (h:tMp P t=true):eqV P 20 t (.map (some a)) (.map none)=some false:=by
 unfold tMp at h;split at h
 ·rename_i hu;unfold eqV;simp only [hu]
 ·cases h
theorem eqV_ln {n m n' m':Nat} {b:Option Addr} (h:tSl P t=true):eqV P 20 t (.slice none n m) (.slice b n' m')=some b.isNone:=by
 unfold tSl at h;split at h
 ·rename_i hu;unfold eqV;simp only [hu]
 ·cases h
theorem eqV_ls {n m n' m':Nat} {a:Addr} (h:tSl P t=true):eqV P 20 t (.slice (some a) n m) (.slice none n' m')=some false:=by
 unfold tSl at h;split at h
 ·rename_i hu;unfold eqV;simp only [hu]
 ·cases h
end
theorem opt_ta_s {α :Type} {a:α}:(some a).toArray.toList=[a]:=rfl
theorem opt_ta_n {α :Type}:(none:Option α).toArray.toList=[]:=rfl
theorem hset_self {H:AHeap} {i:Nat} {o:AObj} (h:i<H.length):(H.set i o)[i]? =some o:=List.getElem?_set_self h
theorem hset_ne {H:AHeap} {i j:Nat} {o:AObj} (h:i≠j):(H.set i o)[j]? =H[j]? :=List.getElem?_set_ne h
theorem hset_set {H:AHeap} {i:Nat} {o o':AObj}:(H.set i o).set i o'=H.set i o':=List.set_set ..
theorem isZero_lit (n:Nat):isZero (some n)=(n==0):=by cases n<;> rfl
theorem isNone_some' {α :Type} {a:α}:(some a).isNone=false:=rfl
theorem isNone_none' {α :Type}:(none:Option α).isNone=true:=rfl
attribute [go_sem] opt_ta_s opt_ta_n hset_self hset_ne hset_set isZero_lit tPt tFn tIf binW_ptr_eql binW_ptr_neq binW_map_eql binW_map_neq eqV_pn eqV_ps eqV_mn eqV_ms eqV_ln eqV_ls isNone_some' isNone_none'
def OwnL (H:AHeap) (e size n:Nat) (l:List Value) (v:Value) (S:List Nat):Prop:=
 (n=0∧l=[]∧v= .slice none 0 0∧S=[])∨
 ∃i off cs,v= .slice (some ⟨i,off,none⟩) n n∧H[i]? =some (.cells cs ⟨e,size,true,0,none⟩)∧cs.length=off+n*size∧cs.drop off=l∧S=[i]
def Frm (S:List Nat) (H H2:AHeap):Prop:=H.length≤H2.length∧∀j,j<H.length→j∉S→H2[j]? =H[j]?
theorem Frm.refl (S:List Nat) (H:AHeap):Frm S H H:=⟨Nat.le_refl _,fun _ _ _=>rfl⟩
theorem Frm.mono {S S':List Nat} {H H2:AHeap} (h:Frm S H H2) (hs:∀s∈S,s∈S'):Frm S' H H2:=⟨h.1,fun j hj hn=>h.2 j hj fun hm=>hn (hs j hm)⟩
theorem Frm.trans {S S':List Nat} {H H2 H3:AHeap} (h:Frm S H H2) (k:Frm S' H2 H3) (hs:∀s∈S',s∈S∨H.length≤s):Frm S H H3:=
 ⟨Nat.le_trans h.1 k.1,fun j hj hn=>(k.2 j (Nat.lt_of_lt_of_le hj h.1) fun hm=>by rcases hs j hm with h'|h';exact hn h';omega).trans (h.2 j hj hn)⟩
theorem Frm.get {S:List Nat} {H H2:AHeap} (h:Frm S H H2) {j:Nat} {o:AObj} (hj:H[j]? =some o) (hn:j∉S):H2[j]? =some o:=(h.2 j (lt_of_get hj) hn).trans hj
theorem Frm.app {S:List Nat} {H X:AHeap}:Frm S H (H++X):=⟨by simp,fun j hj _=>hgetl hj⟩
theorem Frm.set {S:List Nat} {H H2:AHeap} {i:Nat} {o:AObj} (h:Frm S H H2) (hi:i∈S∨H.length≤i):Frm S H (H2.set i o):=
 ⟨by rw [List.length_set];exact h.1,fun j hj hn=>by
  rw [List.getElem?_set_ne (by intro e;subst e;rcases hi with hi|hi;exact hn hi;omega)];exact h.2 j hj hn⟩
theorem Frm.more {S:List Nat} {H H2 X:AHeap} (h:Frm S H H2):Frm S H (H2++X):=
 ⟨by rw [List.length_append];have:=h.1;omega,fun j hj hn=>by rw [hgetl (Nat.lt_of_lt_of_le hj h.1)];exact h.2 j hj hn⟩
theorem Rd.frm {S:List Nat} {H H2:AHeap} {v:Value} {l:List Value} (h:Rd H v l) (hf:Frm S H H2) (hn:∀i o n m,v= .slice (some ⟨i,o,none⟩) n m→i∉S):Rd H2 v l:=by
 rcases h with h|⟨i,off,cap,cs,k,h1,h2,h3⟩
 ·exact .inl h
 ·exact .inr ⟨i,off,cap,cs,k,h1,hf.get h2 (hn _ _ _ _ h1),h3⟩
theorem OwnL.frm {S T:List Nat} {H H2:AHeap} {e size n:Nat} {l:List Value} {v:Value} (h:OwnL H e size n l v S) (hf:Frm T H H2) (hn:∀s∈S,s∉T):OwnL H2 e size n l v S:=by
 rcases h with h|⟨i,off,cs,h1,h2,h3,h4,h5⟩
 ·exact .inl h
 ·exact .inr ⟨i,off,cs,h1,hf.get h2 (hn i (by rw [h5];simp)),h3,h4,h5⟩
theorem OwnL.lt {S:List Nat} {H:AHeap} {e size n:Nat} {l:List Value} {v:Value} (h:OwnL H e size n l v S):∀s∈S,s<H.length:=by
 rcases h with ⟨_,_,_,h⟩|⟨i,off,cs,h1,h2,h3,h4,h5⟩
 ·subst h;intro s hs;cases hs
 ·subst h5;intro s hs;simp at hs;subst hs;exact lt_of_get h2
theorem OwnL.len {S:List Nat} {H:AHeap} {e size n:Nat} {l:List Value} {v:Value} (h:OwnL H e size n l v S):l.length=n*size:=by
 rcases h with ⟨h1,h2,_,_⟩|⟨i,off,cs,h1,h2,h3,h4,h5⟩
 ·subst h1;subst h2;simp
 ·subst h4;rw [List.length_drop];omega
theorem OwnL.rd {S:List Nat} {H:AHeap} {e n:Nat} {l:List Value} {v:Value} (h:OwnL H e 1 n l v S):Rd H v l:=by
 have hl:=h.len
 rcases h with ⟨h1,h2,h3,_⟩|⟨i,off,cs,h1,h2,h3,h4,h5⟩
 ·exact .inl ⟨h3,h2⟩
 ·refine .inr ⟨i,off,n,cs,_,by rw [h1,hl,Nat.mul_one],h2,fun j hj=> ?_⟩
  rw [← h4,List.getElem?_drop]
theorem OwnL.append {P:Program} {S:List Nat} {H:AHeap} {e size y n:Nat} {l:List Value} {v:Value} {news:List Value} {K:Value→AHeap→Prop} (h:OwnL H e size n l v S) (hs:size≠0) (h1:(n+1)*y≤140737488355328) (h2:n+1≤4611686018427387904)
  (hk:∀H',H'.length=H.length→ (∀ j,j∉S→H'[j]? =H[j]?)→K (.slice (some ⟨H.length,0,none⟩) (n+1) (n+1)) (H'++ [.cells (l++news) ⟨e,size,true,0,none⟩])):appendTo P e size y v 1 news H K:=by
 rcases h with ⟨rfl,rfl,rfl,rfl⟩|⟨i,off,cs,rfl,hi,hc,rfl,rfl⟩
 ·exact appendTo_nil (by decide) (by simpa using h1) (by decide) (by simpa using hk H rfl fun _ _=>rfl)
 ·unfold appendTo
  dsimp only
  rw [hi]
  dsimp only
  refine ⟨fun h=>by omega,fun _=>⟨⟨by omega,h1,h2⟩,fun _=>⟨⟨rfl,rfl,Nat.zero_le _,rfl⟩,?_⟩,fun h=>absurd ⟨hs,hc.symm⟩ h⟩⟩
  have ht:(cs.drop off).take (n*size)=cs.drop off:=List.take_of_length_le (by rw [List.length_drop];omega)
  rw [ht,Nat.zero_sub]
  exact hk _ (by simp) fun j hj=>List.getElem?_set_ne (by intro e;subst e;exact hj (by simp))
end Go.Aw

set_option linter.unusedVariables false
set_option linter.unusedSimpArgs false
namespace Go.Aw
theorem frm_split {H H2:AHeap} (h1:H.length≤H2.length) (h2:∀j,j<H.length→H2[j]? =H[j]?):∃Y,H2=H++Y:=by
 refine ⟨H2.drop H.length,List.ext_getElem? fun j=> ?_⟩
 by_cases hj:j<H.length
 ·rw [hgetl hj];exact h2 j hj
 ·rw [List.getElem?_append_right (by omega),List.getElem?_drop];congr 1;omega
theorem Frm.split {S:List Nat} {H X H2:AHeap} (h:Frm S (H++X) H2) (hs:∀s∈S,H.length≤s):∃Y,H2=H++Y:=
 frm_split (by have:=h.1;simp at this;omega) fun j hj=>by
  rw [h.2 j (by simp;omega) (fun hm=>by have:=hs j hm;omega),hgetl hj]
end Go.Aw

set_option linter.unusedVariables false
set_option linter.unusedSimpArgs false
namespace Go.Aw
open Go.RowKit Go.ChangeShapes Go.WideShapes Go.ChangeAt
def RdN (H:AHeap) (m:Nat) (v:Value) (l:List (List Value)):Prop:=
 (v= .slice none 0 0∧l=[])∨∃i off cap cs k,v= .slice (some ⟨i,off,none⟩) l.length cap∧H[i]? =some (.cells cs k)∧(l≠[]→off+l.length*m≤cs.length)∧∀j r,l[j]? =some r→(cs.drop (off+j*m)).take m=r
theorem RdN.lenT {P:Program} {t:TypeId} {H H':AHeap} {m:Nat} {v:Value} {l:List (List Value)} {K:Value→AHeap→Prop} (h:RdN H m v l) (hu:tSl P t=true):Go.Aw.lenW P t v H' K=K (.int .i64 l.length) H':=by
 rcases h with ⟨rfl,rfl⟩|⟨i,off,cap,cs,k,rfl,h2,h3⟩
 ·rw [lenW_sl hu];rfl
 ·rw [lenW_sl hu]
theorem RdN.more {H:AHeap} {m:Nat} {v:Value} {l:List (List Value)} (h:RdN H m v l) (X:AHeap):RdN (H++X) m v l:=by
 rcases h with h|⟨i,off,cap,cs,k,h1,h2,h3⟩
 ·exact .inl h
 ·exact .inr ⟨i,off,cap,cs,k,h1,by rw [hgetl (lt_of_get h2)];exact h2,h3⟩
theorem RdN.frm {S:List Nat} {H H2:AHeap} {m:Nat} {v:Value} {l:List (List Value)} (h:RdN H m v l) (hf:Frm S H H2) (hn:∀i o n c,v= .slice (some ⟨i,o,none⟩) n c→i∉S):RdN H2 m v l:=by
 rcases h with h|⟨i,off,cap,cs,k,h1,h2,h3⟩
 ·exact .inl h
 ·exact .inr ⟨i,off,cap,cs,k,h1,hf.get h2 (hn _ _ _ _ h1),h3⟩
theorem cells_take {D:Type} {w:World} {base b off m:Nat} {arr:Array Value} {e:TypeId} {fr:Nat×Nat} {cs:List Value} (hb:w.heap[b]? =some (.cells arr e fr)) (h:w.cells? base ⟨b,off,none⟩ m=some cs) (hm:0<m):
  cs.length=m∧off+m≤arr.size∧∀j,j<m→arr[off+j]? =cs[j]? :=by
 obtain ⟨_,h2,h3⟩:=World.cells?_some h
 have hcell:∀j,j<m→arr[off+j]? =cs[j]? :=fun j hj=>by
  have:=h3 j (by omega)
  rw [addr_add] at this
  unfold World.cell? at this
  rw [hb] at this
  simp only [Option.isSome_none,Bool.false_eq_true,if_false] at this
  exact this
 refine ⟨h2,?_,hcell⟩
 have h4:=hcell (m - 1) (by omega)
 rw [List.getElem?_eq_getElem (by omega)] at h4
 have:=(Array.getElem?_eq_some_iff.1 h4).1
 omega
end Go.Aw

set_option linter.unusedVariables false
set_option linter.unusedSimpArgs false
namespace Go.Aw
section
variable {g:Cfg} {Q:AExit→ASt→Prop} {n:Nat}
def dstV (o:Oper) (s:ASt):Option Value:=match o.dst with|none=>some noVal|some d=>lk d s.env
end
end Go.Aw

set_option linter.unusedVariables false
set_option linter.unusedSimpArgs false
namespace Go.Aw
inductive Tr where
 |run (l:List Nat)
 |step (j:Nat) (t:Tr)
 |both (a b:Tr)
def Tr.firsts:Tr→List Nat
 | .run l=>l.take 1
 | .step j _=>[j]
 | .both a b=>a.firsts++b.firsts
theorem Lst.some_ready' {ops:List Oper} {listed:Array Bool} (h:Lst ops listed) (hed:edgesOk ops=true) {j:Nat} (hj:j<ops.length) (hn:¬isOn listed j):Region.ready .any ops.toArray listed≠[]:=by
 obtain ⟨i,⟨hi1,hi2⟩,hmin⟩:=least (p:=fun i=>i<ops.length∧¬isOn listed i) ⟨j,hj,hn⟩
 have:i∈Region.ready .any ops.toArray listed:=by
  refine mem_ready.2 ⟨(getD_size (by rw [h.size];exact hi1)).2 hi2,ops[i],by simp [hi1],fun e he hb=> ?_⟩
  have hlt:e.on<i:=by
   have:=allLt_spec hed i hi1
   rw [List.getElem?_eq_getElem hi1] at this
   simpa using List.all_eq_true.1 this e.on (binding_mem he hb)
  rcases Classical.em (isOn listed e.on) with h'|h'
  ·exact h'
  ·have:=hmin e.on ⟨by omega,h'⟩;omega
 intro he
 rw [he] at this;cases this
end Go.Aw

set_option linter.unusedVariables false
namespace Go.Aw
open Go.ChangeShapes Go.WideShapes Go.ChangeAt Go.RowKit
theorem HRel.below {c:Ctx} {H:AHeap} {w w':World} (h:HRel c H w) (hb:Below w.heap.size w w'):HRel c H w':=by
 refine ⟨fun i o hi hl=> ?_,h.sep,h.fresh⟩
 obtain ⟨p,hp,hr⟩:=h.obj i o hi hl
 refine ⟨p,hp,hr.keep (Ctx.le_refl c) hl ?_⟩
 have:p.block<w.heap.size:=by
  unfold ORel at hr
  split at hr
  ·cases hl
  ·obtain ⟨_,_,_,_,arr,lo,hi',hb,_⟩:=hr
   exact (Array.getElem?_eq_some_iff.1 hb).1
  ·obtain ⟨r,hb,_⟩:=hr
   exact (Array.getElem?_eq_some_iff.1 hb).1
  ·obtain ⟨ms,hb,_⟩:=hr
   exact (Array.getElem?_eq_some_iff.1 hb).1
  ·obtain ⟨_,ms,hb,_⟩:=hr
   exact (Array.getElem?_eq_some_iff.1 hb).1
 exact hb.block _ this
theorem Trans.below {n:Nat} {c:Ctx} {H:AHeap} {w w':World} (hb:Below w.heap.size w w'):Trans n c H w c H w':=
 ⟨fun _ _ _ h=>h,hb.tape,hb.os,hb.output,hb.size,fun b h _=>hb.block b h,fun _ h=> .inl h⟩
end Go.Aw
namespace Go.Aw
theorem wf_i64 {n:Int} (h:(Lit.int .i64 n).wf=true): -9223372036854775808≤n∧n≤9223372036854775807:=by
 unfold Lit.wf at h
 rw [Bool.and_eq_true,decide_eq_true_iff,decide_eq_true_iff] at h
 have h2:=h
 have e1:IntKind.i64.min= -9223372036854775808:=by decide
 have e2:IntKind.i64.max=9223372036854775807:=by decide
 rw [e1,e2] at h2
 exact h2
end Go.Aw
namespace Go.Aw
end Go.Aw
namespace Go.Aw
end Go.Aw

set_option linter.unusedVariables false
set_option linter.unusedSimpArgs false
namespace Go.Aw
open Go.RowKit Go.ChangeShapes Go.WideShapes Go.ChangeAt
end Go.Aw

set_option linter.unusedVariables false
set_option linter.unusedSimpArgs false
namespace Go.Aw
open Go.RowKit Go.ChangeShapes Go.WideShapes Go.ChangeAt
theorem weightsAll_mem {H:Type} {P:Program} {e:TypeId} {d:DataW H} {n:Nat}:∀{l:List (DataW H)},d∈l→n∈d.weights P e→n∈DataW.weightsAll P e l
 |x::l,h,hn=>by
  rw [DataW.weightsAll,List.mem_append]
  rcases List.mem_cons.1 h with rfl|h
  ·exact .inl hn
  ·exact .inr (weightsAll_mem h hn)
theorem weightsAt {H:Type} {P:Program} {ts:List TypeId} {ds:List (DataW H)} {b:Nat} (h:(DataW.weightsEach P ts ds).all (· ≤b)=true) {j:Nat} {t:TypeId} {d:DataW H} (ht:ts[j]? =some t) (hd:ds[j]? =some d):(d.weights P t).all (· ≤b)=true:=
 List.all_eq_true.2 fun n hn=>List.all_eq_true.1 h n (DataW.weights_mem_each ht hd n hn)
theorem lend_recsW {D:Type} {enc:TypeId×Value→D} {P:Program} {w:World} {t e:TypeId} {m:Nat} {v:Value} {d:DataW D} {ps:List MemPlace} {b0 bnd:Nat} (ht:P.underlying t=some (.slice e)) (hc:P.cellsOf e=m) (hm:0<m) (good:List Value→Prop)
  (hgood:∀n cs y,DataW.trod enc P w 0 (fun _=>true) true n e cs=some y→(y.1.weights P e).all (· ≤bnd)=true→cs.all scalar=true∧good cs) (hw:(d.weights P t).all (· ≤bnd)=true)
  (hval:Value.okWide P w .any b0 t v) (h:DataW.Trod enc P w 0 (fun _=>true) true t v d ps) {c:Ctx} {H:AHeap} (hL:Lent c H w):
  ∃(l:List (List Value)) (c':Ctx) (X:AHeap) (av:Value),(∀ r∈l,r.length=m∧good r)∧Lent c' (H++X) w∧c.le c'∧VRel c' av v∧RdN (H++X) m av l:=by
 have hna:∀q,v≠ .agg q:=fun q e=>by
  subst e;simp [Value.okWide,ht,Cell.okWide,Cell.ok] at hval
 obtain ⟨fuel,hf⟩:=h
 rcases DataW.trod_slice ht hf with ⟨hcs,hx⟩|⟨a,len,cap,elems,rest,n,_,hcs,hx,h0,h1,h2,h3,h4,_⟩
 ·have hv:v= .slice none 0 0:=by
   cases v<;> simp [Value.cells] at hcs hna<;> simp [hcs]
  subst hv
  exact ⟨[],c,[],_,by simp,by rw [List.append_nil];exact hL,Ctx.le_refl _,.nilSlice _ _,.inl ⟨rfl,rfl⟩⟩
 ·have hv:v= .slice (some a) len cap:=by
   cases v<;> simp [Value.cells] at hcs hna<;> simp [hcs]
  subst hv
  have hok:w.has P .any b0 a e cap:=by
   unfold Value.okWide at hval
   rw [ht] at hval
   simp only [Cell.okWide,ht,Cell.ok] at hval
   exact hval.2.2
  obtain ⟨_,hsp,row,cells,hsh,_⟩:=hok
  obtain ⟨b,off,spot⟩:=a
  simp only at hsp hsh
  subst hsp
  obtain ⟨arr,fr,hb⟩:∃arr fr,w.heap[b]? =some (.cells arr row fr):=by
   unfold World.shape? at hsh
   split at hsh
   ·rename_i q1 q2 q3 hq
    simp only [Option.some.injEq,Prod.mk.injEq] at hsh
    exact ⟨_,_,by rw [hq,hsh.1]⟩
   ·cases hsh
  have hel:∀i,i<len→∃cs y,w.cells? 0 ⟨b,off+i*m,none⟩ m=some cs∧DataW.trod enc P w 0 (fun _=>true) true n e cs=some y∧(y.1.weights P e).all (· ≤bnd)=true:=fun i hi=>by
   have:=h4 i hi
   rw [hc,addr_add,List.getElem?_eq_getElem (by omega),Option.bind_eq_some_iff] at this
   obtain ⟨cs,h5,h6⟩:=this
   refine ⟨cs,_,h5,h6,List.all_eq_true.2 fun q hq=> ?_⟩
   have hd:d= .slice (elems.map (·.1)) (rest.map (·.1)):=congrArg Prod.fst hx
   refine List.all_eq_true.1 hw q ?_
   rw [hd,DataW.weights,ht]
   exact List.mem_cons_of_mem _ (List.mem_append_left _ (weightsAll_mem (List.mem_map.2 ⟨_,List.getElem_mem (by omega),rfl⟩) hq))
  let l:List (List Value):=(List.range len).map fun i=>((List.range m).map fun j=>(arr[off+i*m+j]?).getD .nilIface)
  have hrow:∀i,i<len→∃cs,l[i]? =some cs∧cs.length=m∧cs.all scalar=true∧good cs∧off+i*m+m≤arr.size∧∀j,j<m→arr[off+i*m+j]? =cs[j]? :=fun i hi=>by
   obtain ⟨cs,y,h5,h6,h6w⟩:=hel i hi
   obtain ⟨e1,e2,e3⟩:=cells_take (D:=Unit) hb h5 hm
   have hcs:((List.range m).map fun j=>(arr[off+i*m+j]?).getD .nilIface)=cs:=by
    refine List.ext_getElem? fun j=> ?_
    by_cases hj:j<m
    ·rw [List.getElem?_map,List.getElem?_range hj,Option.map_some,e3 j hj,List.getElem?_eq_getElem (by omega)];rfl
    ·rw [List.getElem?_eq_none (by simp;omega),List.getElem?_eq_none (by omega)]
   refine ⟨cs,?_,e1,(hgood _ _ _ h6 h6w).1,(hgood _ _ _ h6 h6w).2,e2,e3⟩
   show ((List.range len).map _)[i]? =_
   rw [List.getElem?_map,List.getElem?_range hi,Option.map_some,hcs]
  have hll:l.length=len:=by simp [l]
  clear_value l
  let vs:List Value:=(List.range (len*m)).map fun q=>(arr[off+q]?).getD .nilIface
  have hvl:vs.length=len*m:=by simp [vs]
  have hvg:∀q,q<len*m→∃x,arr[off+q]? =some x∧vs[q]? =some x∧scalar x=true:=fun q hq=>by
   have hq1:q / m<len:=by rw [Nat.div_lt_iff_lt_mul hm];exact hq
   obtain ⟨cs,g1,g2,g3,g4,g5,g6⟩:=hrow (q / m) hq1
   have hq2:q%m<m:=Nat.mod_lt _ hm
   have:=g6 (q%m) hq2
   have hqe:off+q / m*m+q%m=off+q:=by have:=Nat.div_add_mod q m;rw [Nat.mul_comm] at this;omega
   rw [hqe,List.getElem?_eq_getElem (by omega)] at this
   refine ⟨cs[q%m]'(by omega),this,?_,?_⟩
   ·show ((List.range (len*m)).map _)[q]? =_
    rw [List.getElem?_map,List.getElem?_range hq,Option.map_some,this];rfl
   ·exact List.all_eq_true.1 g3 _ (List.getElem_mem _)
  clear_value vs
  have hsz:off+vs.length≤arr.size∨len=0:=by
   rcases Nat.eq_zero_or_pos len with h|h
   ·exact .inr h
   ·left
    obtain ⟨cs,_,_,_,_,g5,_⟩:=hrow (len - 1) (by omega)
    have:(len - 1)*m+m=len*m:=by
     have:len=(len - 1)+1:=by omega
     conv=>rhs;rw [this,Nat.add_mul,Nat.one_mul]
    rw [hvl];omega
  have hmem:∀r∈l,r.length=m∧good r:=fun r hr=>by
   obtain ⟨i,hi⟩:=List.getElem?_of_mem hr
   obtain ⟨cs,g1,g2,g3,g4,_⟩:=hrow i (by have:=(List.getElem?_eq_some_iff.1 hi).1;omega)
   rw [hi] at g1;cases g1
   exact ⟨g2,g4⟩
  rcases hsz with hsz|h00
  ·refine ⟨l,_,_,.slice (some ⟨H.length,0,none⟩) len cap,hmem,hL.add hb (off:=off) (vs:=vs) hsz ?_,hL.le _,?_,?_⟩
   ·intro j x hj
    obtain ⟨y,e1,e2,e3⟩:=hvg j (by have:=(List.getElem?_eq_some_iff.1 hj).1;omega)
    rw [hj] at e2;cases e2
    exact ⟨_,e1,.of_scalar e3⟩
   ·have:VRel (c.add H.length ⟨b,off,vs.length,0,0⟩) (.slice (some ⟨H.length,0,none⟩) len cap) (.slice (some ⟨b,off+0,none⟩) len cap):= .slice (p:=⟨b,off,vs.length,0,0⟩) (by simp [Ctx.add])
    rw [Nat.add_zero] at this;exact this
   ·refine .inr ⟨H.length,0,cap,vs,⟨row,0,false,0,none⟩,by rw [hll],hget0 rfl,fun _=>by rw [hll,hvl];omega,fun j r hj=> ?_⟩
    have hjl:j<len:=by have:=(List.getElem?_eq_some_iff.1 hj).1;omega
    obtain ⟨cs,g1,g2,g3,g4,g5,g6⟩:=hrow j hjl
    rw [hj] at g1;cases g1
    have hjm:j*m+m≤len*m:=by
     have:(j+1)*m≤len*m:=Nat.mul_le_mul_right m (by omega)
     rw [Nat.add_mul,Nat.one_mul] at this;exact this
    refine List.ext_getElem? fun q=> ?_
    by_cases hq:q<m
    ·rw [List.getElem?_take_of_lt hq,List.getElem?_drop,Nat.zero_add]
     obtain ⟨x,e1,e2,_⟩:=hvg (j*m+q) (by omega)
     rw [e2,←g6 q hq,←e1];congr 1;omega
    ·rw [List.getElem?_eq_none (by rw [List.length_take];omega),List.getElem?_eq_none (by omega)]
  ·subst h00
   have hl0:l=[]:=List.eq_nil_of_length_eq_zero hll
   subst hl0
   refine ⟨[],_,_,.slice (some ⟨H.length,off,none⟩) 0 cap,by simp,hL.add hb (off:=0) (vs:=[]) (by simp) (fun k v e=>by simp at e),hL.le _,?_,.inr ⟨H.length,off,cap,[],⟨row,0,false,0,none⟩,rfl,hget0 rfl,fun h=>absurd rfl h,fun j r hj=>by simp at hj⟩⟩
   ·have:VRel (c.add H.length ⟨b,0,0,0,0⟩) (.slice (some ⟨H.length,off,none⟩) 0 cap) (.slice (some ⟨b,0+off,none⟩) 0 cap):= .slice (p:=⟨b,0,0,0,0⟩) (by simp [Ctx.add])
    rw [Nat.zero_add] at this;exact this
end Go.Aw

set_option linter.unusedVariables false
set_option linter.unusedSimpArgs false
namespace Go.Aw
section
variable {g:Cfg} {Q:AExit→ASt→Prop} {n:Nat}
end
end Go.Aw

set_option linter.unusedVariables false
set_option linter.unusedSimpArgs false
namespace Go.Aw
theorem op_defer {g:Cfg} {st:ASt} {K:ASt→Prop} {Kp:Value→ASt→Prop} {d:Option Tmp} {t:TypeId} {ps:String} {af:Array Edge} {gu:Option (Nat×Bool)} {f:FuncId} {xs:Array Operand} {ts:Array TypeId}:
  opW g ⟨d,.defer ⟨.value (.func f),xs,ts⟩,t,ps,af,gu⟩ st K Kp=(g.lr=none∧wth (evs st xs.toList) fun args=>K (ASt.put ⟨st.env,.call (.func f) [] args::st.defs,st.H⟩ d noVal)):=by
 simp only [opW,ev,wth_some,List.nil_append]
def AMode.val:AMode→Value
 | .ret=> .nilIface
 | .pan v=>v
def AMode.plain:AMode→Bool
 | .ret=>true
 | .pan v=>Go.Aw.plain v
end Go.Aw
namespace Go.Aw
attribute [go_sem ↓] op_defer
def APan (P:Program) (f:FuncId) (args:List Value) (H:AHeap) (v:Value) (H':AHeap):Prop:=AC P f args H fun r H1=>r= .pan v∧H1=H'
theorem APan.use {P:Program} {f:FuncId} {args:List Value} {H H':AHeap} {v:Value} {K:ARes→AHeap→Prop} (h:APan P f args H v H') (hk:K (.pan v) H'):AC P f args H K:=
 h.mono fun r H1 e=>by rw [e.1,e.2];exact hk
end Go.Aw
namespace Go.Aw
section
variable {P:Program} {t:TypeId} {x y:Operand} {K:Value→Prop}
theorem tIf_elim (h:tIf P t=true):∃ms,P.underlying t=some (.interface ms):=by
 unfold tIf at h
 split at h
 ·exact ⟨_,by assumption⟩
 ·cases h
theorem binW_if_neq {a:TypeId} {v:Value} (h:tIf P t=true):binW P .neq t x y (.iface a v) .nilIface K=K (.bool true):=by
 obtain ⟨ms,hm⟩:=tIf_elim h
 simp [binW,guardW,eqV,hm,wth]
theorem binW_if_eql {a:TypeId} {v:Value} (h:tIf P t=true):binW P .eql t x y (.iface a v) .nilIface K=K (.bool false):=by
 obtain ⟨ms,hm⟩:=tIf_elim h
 simp [binW,guardW,eqV,hm,wth]
theorem binW_ni_neq (h:tIf P t=true) (hc:(isConst x||isConst y)=true):binW P .neq t x y .nilIface .nilIface K=K (.bool false):=by
 obtain ⟨ms,hm⟩:=tIf_elim h
 simp only [binW,guardW,eqV,hm,wth,hc,true_and,Bool.not_true]
theorem binW_ni_eql (h:tIf P t=true) (hc:(isConst x||isConst y)=true):binW P .eql t x y .nilIface .nilIface K=K (.bool true):=by
 obtain ⟨ms,hm⟩:=tIf_elim h
 simp only [binW,guardW,eqV,hm,wth,hc,true_and]
end
theorem isConst_c {v:Value}:isConst (.const v)=true:=rfl
theorem isConst_t {t:Nat}:isConst (.tmp t)=false:=rfl
attribute [go_sem] binW_if_neq binW_if_eql binW_ni_neq binW_ni_eql isConst_c isConst_t Bool.or_true Bool.true_or ifaceW AMode.val assertW
end Go.Aw
namespace Go.Aw
end Go.Aw
namespace Go.Aw
end Go.Aw
namespace Go.Aw
theorem cellsOf_gS {i n:Nat}:cellsOf (gS i n)=[gS i n]:=by unfold gS;split<;> rfl
theorem flat_gS {i n:Nat}:flat (gS i n)=true:=by unfold gS;split<;> rfl
attribute [go_sem] cellsOf_gS
attribute [go_sem ↓] flat_gS
end Go.Aw
namespace Go.Aw
end Go.Aw

set_option linter.unusedVariables false
set_option linter.unusedSimpArgs false
namespace Go.Aw
open Go.RowKit Go.ChangeShapes Go.WideShapes Go.ChangeAt
def Kept (H H2:AHeap):Prop:=∀(j:Nat) (cs:List Value) (k:CK),H[j]? =some (.cells cs k)→k.own=false→H2[j]? =some (.cells cs k)
theorem Kept.refl (H:AHeap):Kept H H:=fun _ _ _ h _=>h
theorem Kept.trans {H H1 H2:AHeap} (h:Kept H H1) (k:Kept H1 H2):Kept H H2:=fun j cs kk a b=>k j cs kk (h j cs kk a b) b
theorem Kept.more (H X:AHeap):Kept H (H++X):=fun j cs k h _=>by rw [hgetl (lt_of_get h)];exact h
theorem Kept.frm {S:List Nat} {H H2:AHeap} (hf:Frm S H H2) (hs:∀s∈S,∃cs k,H[s]? =some (.cells cs k)∧k.own=true):Kept H H2:=fun j cs k h ho=>hf.get h fun hm=>by
 obtain ⟨cs',k',e,o⟩:=hs j hm
 rw [h] at e
 cases e
 rw [ho] at o
 cases o
theorem Kept.set {H:AHeap} {i:Nat} {cs:List Value} {k:CK} (hi:H[i]? =some (.cells cs k)) (ho:k.own=true) (o:AObj):Kept H (H.set i o):=fun j cs' k' h ho'=>by
 by_cases e:i=j
 ·subst e;rw [hi] at h;cases h;rw [ho] at ho';cases ho'
 ·rw [List.getElem?_set_ne e];exact h
def RdK (H:AHeap) (m:Nat) (v:Value) (l:List (List Value)):Prop:=
 (v= .slice none 0 0∧l=[])∨∃i off cap cs k,v= .slice (some ⟨i,off,none⟩) l.length cap∧l.length≤cap∧H[i]? =some (.cells cs k)∧k.own=false∧(k.esz=m∨k.esz=0)∧off+l.length*m≤cs.length∧∀j r,l[j]? =some r→(cs.drop (off+j*m)).take m=r
theorem RdK.kept {H H2:AHeap} {m:Nat} {v:Value} {l:List (List Value)} (h:RdK H m v l) (hk:Kept H H2):RdK H2 m v l:=by
 rcases h with h|⟨i,off,cap,cs,k,e,hc,hi,ho,hz,hl,hr⟩
 ·exact .inl h
 ·exact .inr ⟨i,off,cap,cs,k,e,hc,hk _ _ _ hi ho,ho,hz,hl,hr⟩
theorem RdK.lenT {P:Program} {t:TypeId} {H H':AHeap} {m:Nat} {v:Value} {l:List (List Value)} {K:Value→AHeap→Prop} (h:RdK H m v l) (hu:tSl P t=true):lenW P t v H' K=K (.int .i64 (l.length:Nat)) H':=by
 rcases h with ⟨rfl,rfl⟩|⟨i,off,cap,cs,k,rfl,h2,h3⟩
 ·rw [lenW_sl hu];rfl
 ·rw [lenW_sl hu]
theorem RdK.at_ {H:AHeap} {m:Nat} {v:Value} {l:List (List Value)} (h:RdK H m v l) {j:Nat} {r:List Value} (hj:l[j]? =some r):
  ∃i off cap cs k,v= .slice (some ⟨i,off,none⟩) l.length cap∧l.length≤cap∧H[i]? =some (.cells cs k)∧k.own=false∧(k.esz=m∨k.esz=0)∧off+(j*m+m)≤cs.length∧(cs.drop (off+j*m)).take m=r:=by
 rcases h with ⟨rfl,rfl⟩|⟨i,off,cap,cs,k,e,hc,hi,ho,hz,hl,hr⟩
 ·simp at hj
 ·have hlt:=(List.getElem?_eq_some_iff.1 hj).1
  refine ⟨i,off,cap,cs,k,e,hc,hi,ho,hz,?_,hr j r hj⟩
  have:(j+1)*m≤l.length*m:=Nat.mul_le_mul_right m hlt
  rw [Nat.add_mul] at this
  omega
def OwnR (H:AHeap) (e m:Nat) (l:List (List Value)) (v:Value) (j:Nat):Prop:=
 (l=[]∧v= .slice none 0 0)∨(l≠[]∧v= .slice (some ⟨j,0,none⟩) l.length l.length∧H[j]? =some (.cells l.flatten ⟨e,m,true,0,none⟩))
theorem OwnR.lenT {P:Program} {t:TypeId} {H H':AHeap} {e m:Nat} {v:Value} {j:Nat} {l:List (List Value)} {K:Value→AHeap→Prop} (h:OwnR H e m l v j) (hu:tSl P t=true):lenW P t v H' K=K (.int .i64 (l.length:Nat)) H':=by
 rcases h with ⟨rfl,rfl⟩|⟨_,rfl,_⟩
 ·rw [lenW_sl hu];rfl
 ·rw [lenW_sl hu]
theorem OwnR.flat {H:AHeap} {e m:Nat} {v:Value} {j:Nat} {l:List (List Value)} (h:OwnR H e m l v j):Go.Aw.flat v=true:=by
 rcases h with ⟨_,rfl⟩|⟨_,rfl,_⟩<;> rfl
def grown (H:AHeap) (l:List (List Value)) (j:Nat):AHeap:=if l=[] then H else H.set j .dead
theorem Frm.grown {S:List Nat} {H H2:AHeap} {l:List (List Value)} {j:Nat} (h:Frm S H H2) (hj:l≠[]→H.length≤j) (Y:AHeap):Frm S H (grown H2 l j++Y):=by
 have h2:Frm S H (Go.Aw.grown H2 l j):=by
  unfold Go.Aw.grown
  split
  ·exact h
  ·rename_i hne;exact Frm.set h (.inr (hj hne))
 exact ⟨by rw [List.length_append];have:=h2.1;omega,fun i hi hn=>by rw [hgetl (by have:=h2.1;omega)];exact h2.2 i hi hn⟩
theorem OwnR.more {H:AHeap} {e m:Nat} {v:Value} {j:Nat} {l:List (List Value)} (h:OwnR H e m l v j) (X:AHeap):OwnR (H++X) e m l v j:=by
 rcases h with h|⟨h1,h2,h3⟩
 ·exact .inl h
 ·exact .inr ⟨h1,h2,by rw [hgetl (lt_of_get h3)];exact h3⟩
def frozen:AObj→AObj
 | .cells cs k=> .cells cs {k with own:=false}
 |o=>o
theorem HRel.freeze {c:Ctx} {H:AHeap} {w:World} (h:HRel c H w) {j:Nat} {cs:List Value} {k:CK} (hj:H[j]? =some (.cells cs k)):HRel c (H.set j (.cells cs {k with own:=false})) w:=by
 have hlt:=lt_of_get hj
 refine ⟨fun i o hi hl=> ?_,fun i i' oi oi' pi pi' hne hi hi' ci ci' ho hl=> ?_,fun i hi=>h.fresh i (by rw [List.length_set] at hi;exact hi)⟩
 ·by_cases e:j=i
  ·subst e
   rw [List.getElem?_set_self hlt] at hi
   cases hi
   obtain ⟨p,hp,hr⟩:=h.obj j _ hj rfl
   refine ⟨p,hp,?_⟩
   obtain ⟨h1,h2,h3,h4,arr,lo,hh,h5,h6,h7,h8⟩:=hr
   exact ⟨h1,h2,fun hz=>⟨(h3 hz).1,fun hf=>by cases hf⟩,h4,arr,lo,hh,h5,h6,h7,fun hf=>by cases hf⟩
  ·rw [List.getElem?_set_ne e] at hi
   exact h.obj i o hi hl
 ·have get:∀(i:Nat) (o:AObj),(H.set j (.cells cs {k with own:=false}))[i]? =some o→∃o':AObj,H[i]? =some o'∧(o.own=true→o'.own=true)∧(o.live=true→o'.live=true):=fun i o hi=>by
   by_cases e:j=i
   ·subst e
    rw [List.getElem?_set_self hlt] at hi
    cases hi
    exact ⟨_,hj,(fun hf=>by cases hf),fun _=>rfl⟩
   ·rw [List.getElem?_set_ne e] at hi
    exact ⟨o,hi,id,id⟩
  obtain ⟨o1,a1,a2,a3⟩:=get i oi hi
  obtain ⟨o2,b1,b2,b3⟩:=get i' oi' hi'
  exact h.sep i i' o1 o2 pi pi' hne a1 b1 ci ci' (a2 ho) (b3 hl)
theorem Owns.freeze {c:Ctx} {H:AHeap} {j b:Nat} {cs:List Value} {k:CK} (hj:H[j]? =some (.cells cs k)) (h:Owns c (H.set j (.cells cs {k with own:=false})) b):Owns c H b:=by
 obtain ⟨i,o,p,hi,hp,ho,hb⟩:=h
 by_cases e:j=i
 ·subst e
  rw [List.getElem?_set_self (lt_of_get hj)] at hi
  cases hi
  cases ho
 ·rw [List.getElem?_set_ne e] at hi
  exact ⟨i,o,p,hi,hp,ho,hb⟩
theorem DRel.fewer {B:Nat} {c:Ctx} {H H2:AHeap} {w:World} (ho:∀b,Owns c H2 b→Owns c H b) {ds:List ADef} {ds':List Deferred} (h:DRel B c H w ds ds'):DRel B c H2 w ds ds':=by
 induction h with
 |nil hz=>exact .nil hz
 |mark hB hb hno hne _ ih=>exact .mark hB hb (fun h'=>hno (ho _ h')) hne ih
 |call hf h1 h2 _ ih=>exact .call hf h1 h2 ih
theorem Weak.freeze {n0:Nat} {env:List (Nat×Value)} {ds:List ADef} {H:AHeap} {j:Nat} {cs:List Value} {k:CK} (hj:H[j]? =some (.cells cs k)):Weak n0 ⟨env,ds,H⟩ ⟨env,ds,H.set j (.cells cs {k with own:=false})⟩:=fun N c w a hs=>
 ⟨c,⟨hs.heap.freeze hj,hs.size,hs.tmps,hs.defs.fewer fun b h=>h.freeze hj⟩,⟨fun _ _ _ h=>h,rfl,rfl,rfl,Nat.le_refl _,fun _ _ _=>rfl,fun b h=> .inl (h.freeze hj)⟩⟩
theorem WeakV.freeze {n0:Nat} {v:Value} {H:AHeap} {j:Nat} {cs:List Value} {k:CK} (hj:H[j]? =some (.cells cs k)):WeakV n0 H v (H.set j (.cells cs {k with own:=false})) v:=fun c w v' hh hr=>
 ⟨c,hh.freeze hj,hr,⟨fun _ _ _ h=>h,rfl,rfl,rfl,Nat.le_refl _,fun _ _ _=>rfl,fun b h=> .inl (h.freeze hj)⟩⟩
end Go.Aw

set_option linter.unusedVariables false
set_option linter.unusedSimpArgs false
namespace Go.Aw
def fzO:AObj→AObj
 | .cells cs k=> .cells cs {k with own:=false}
 |o=>o
def fz:AHeap→List Nat→AHeap
 |H,[]=>H
 |H,j::S=>fz (H.modify j fzO) S
theorem modify_fz {H:AHeap} {j:Nat}: (∃ cs k,H[j]? =some (.cells cs k)∧H.modify j fzO=H.set j (.cells cs {k with own:=false}))∨H.modify j fzO=H:=by
 cases h:H[j]? with
 |none=>
  refine .inr ?_
  apply List.ext_getElem?
  intro i
  rw [List.getElem?_modify]
  by_cases e:j=i
  ·subst e;rw [h];simp
  ·simp [e]
 | some o=>
  cases o with
  |cells cs k=>
   refine .inl ⟨cs,k,rfl,?_⟩
   apply List.ext_getElem?
   intro i
   rw [List.getElem?_modify]
   by_cases e:j=i
   ·subst e;rw [h,List.getElem?_set_self (lt_of_get h)];simp [fzO]
   ·rw [List.getElem?_set_ne e];simp [e]
  |_=>
   refine .inr ?_
   apply List.ext_getElem?
   intro i
   rw [List.getElem?_modify]
   by_cases e:j=i
   ·subst e;rw [h];simp [fzO]
   ·simp [e]
theorem Weak.trans0 {n0:Nat} {a b d:ASt} (h:Weak n0 a b) (k:Weak n0 b d):Weak n0 a d:=fun N c w x hs=>
 let ⟨c1,h1,t1⟩:=h N c w x hs
 let ⟨c2,h2,t2⟩:=k N c1 w x h1
 ⟨c2,h2,t1.trans t2⟩
theorem Weak.fz {n0:Nat} {env:List (Nat×Value)} {ds:List ADef}:∀(S:List Nat) (H:AHeap),Weak n0 ⟨env,ds,H⟩ ⟨env,ds,fz H S⟩
 |[],H=>fun N c w a hs=>⟨c,hs,.refl _ _ _ _⟩
 | j::S,H=>by
  rw [Go.Aw.fz]
  rcases modify_fz (H:=H) (j:=j) with ⟨cs,k,h1,h2⟩|h2
  ·rw [h2]
   exact (Weak.freeze h1).trans0 (Weak.fz S _)
  ·rw [h2];exact Weak.fz S H
theorem WeakV.trans0 {n0:Nat} {H1 H2 H3:AHeap} {v1 v2 v3:Value} (h:WeakV n0 H1 v1 H2 v2) (k:WeakV n0 H2 v2 H3 v3):WeakV n0 H1 v1 H3 v3:=fun c w v' hh hr=>
 let ⟨c1,h1,r1,t1⟩:=h c w v' hh hr
 let ⟨c2,h2,r2,t2⟩:=k c1 w v' h1 r1
 ⟨c2,h2,r2,t1.trans t2⟩
theorem WeakV.fz {n0:Nat} {v:Value}:∀(S:List Nat) (H:AHeap),WeakV n0 H v (fz H S) v
 |[],H=> .refl _ _ _
 | j::S,H=>by
  rw [Go.Aw.fz]
  rcases modify_fz (H:=H) (j:=j) with ⟨cs,k,h1,h2⟩|h2
  ·rw [h2]
   exact (WeakV.freeze h1).trans0 (WeakV.fz S _)
  ·rw [h2];exact WeakV.fz S H
section
variable {g:Cfg} {o:Oper} {st:ASt} {K:ASt→Prop} {Kp:Value→ASt→Prop}
theorem OpOk.cap (hd:∀d,o.dst=some d→d<g.N.n) {t e:TypeId} {x:Operand} (ho:o.op= .call ⟨.builtin .cap,#[x],#[t]⟩) {i off n cap:Nat} (hx:ev st x=some (.slice (some ⟨i,off,none⟩) n cap))
  (hu:g.P.underlying t=some (.slice e)) {cs:List Value} {k:CK} (hi:st.H[i]? =some (.cells cs k)) (hz:k.esz=0)
  (hK:K (ASt.put st o.dst (.int .i64 (cap:Nat)))):OpOk g o st K Kp:=by
 refine .still hd (fun c e=>by rw [ho] at e;cases e) fun c w a hsr=> ?_
 have hxr:=ev_rel hsr hx
 obtain ⟨p,hp,hr⟩:=hsr.heap.obj i _ hi rfl
 have hex:p.extra=0:=(hr.2.2.1 hz).1
 have hrun:∀ad c',a.eval x= .slice ad n c'→c'=cap→(execOp a.eval o).run g.P w= .ok (.value (.int .i64 (cap:Nat))) w:=fun ad c' e1 e2=>by
  subst e2
  have:(Go.Builtin.cap_ #[t] o.type (#[x].map a.eval)).run g.P w= .ok (.int .i64 (c':Nat)) w:=by
   simp [Builtin.cap_,run_underlying hu,goInt,e1]
  simp only [execOp,ho,resolve,pure_bind,invoke,builtin]
  exact run_v this
 generalize hxe:a.eval x=x' at hxr
 cases hxr with
 |slice hc=>exact ⟨_,_,hrun _ _ hxe rfl,.int _ _,hK⟩
 |sliceX hc hsx=>
  rw [hp] at hc;cases hc
  exact ⟨_,_,hrun _ _ hxe (by rw [hex];rfl),.int _ _,hK⟩
 |sliceZ hc=>exact ⟨_,_,hrun _ _ hxe rfl,.int _ _,hK⟩
end
def LOk (g:Cfg) (Q:AExit→ASt→Prop) (l post:List Oper) (st:ASt):Prop:=∀c w a,SRel g.N c st w a→wpListIn (fenceOf g.lr) 0 g.P l.toArray (APost g Q c st.H w) post a w
theorem LOk.step {g:Cfg} {Q:AExit→ASt→Prop} {l post:List Oper} {o:Oper} {st:ASt} (hg:o.guard=none) (hd:dstsOk g.N.n post=true)
  (h:OpOk g o st (fun st2=>regionW g l post st2 (fun st'=>Q .normal st') (fun v st'=>Q (.panic v) st')) (fun v st'=>Q (.panic v) st')):LOk g Q l (o::post) st:=by
 intro c1 w1 a1 hs1
 simp only [wpListIn]
 rw [if_pos (by simp [Region.wanted,hg])]
 refine h c1 w1 a1 _ _ hs1 ?_ ?_
 ·intro st' c' a' w' hK hs' ht _
  have:=region_ok l post st' hd hK c' w' a' hs'
  have hback:∀e a2 w2,APost g Q c' st'.H w' e a2 w2→APost g Q c1 st.H w1 e a2 w2:=fun e a2 w2 hp=>hp.back ht
  exact region_ok.wpList_mono hback _ this
 ·intro v v' st' c' a' w' hKp hv hs' ht
  exact ⟨.panic v,st',c',hKp,.panic hv,hs',ht⟩
end Go.Aw

set_option linter.unusedVariables false
set_option linter.unusedSimpArgs false
namespace Go.Aw
end Go.Aw

set_option linter.unusedVariables false
set_option linter.unusedSimpArgs false
namespace Go.Aw
section
variable {g:Cfg} {o:Oper} {st:ASt} {K:ASt→Prop} {Kp:Value→ASt→Prop}
def GrowS (H:AHeap) (size n:Nat) (sv:Value) (len:Nat) (olds:List Value):Prop:=
 (sv= .slice none 0 0∧len=0∧olds=[]∧0<n)∨∃b off cap cs k,sv= .slice (some ⟨b,off,none⟩) len cap∧H[b]? =some (.cells cs k)∧k.esz=0∧cap<len+n∧off+len*size≤cs.length∧olds=(cs.drop off).take (len*size)
theorem GrowS.rel {c:Ctx} {H:AHeap} {w:World} {size n len:Nat} {sv sv':Value} {olds:List Value} {P:Program} (h:HRel c H w) (hg:GrowS H size n sv len olds) (hv:VRel c sv sv'):
  ∃base cap' l',sv'= .slice base len cap'∧cap'<len+n∧VRels c olds l'∧olds.length=len*size∧(Builtin.firstCells size len (.slice base len cap')).run P w.drew= .ok l'.toArray w.drew:=by
 rcases hg with ⟨rfl,rfl,rfl,hn⟩|⟨b,off,cap,cs,k,rfl,hb,hz,hc,hle,rfl⟩
 ·cases hv
  exact ⟨none,0,[],rfl,by omega,.nil,by simp,by simp [Builtin.firstCells]⟩
 ·obtain ⟨p,hp,hro⟩:=h.obj b _ hb rfl
  have hex:p.extra=0:=(hro.2.2.1 hz).1
  obtain ⟨hdr,_⟩:=h.drew 0
  obtain ⟨l',hl',hv',hrun0⟩:=hdr.cellsAt hb hp off (len*size) hle
  have hol:((cs.drop off).take (len*size)).length=len*size:=by simp;omega
  have holdp:∀cap',(Builtin.firstCells size len (.slice (some ⟨p.block,p.base+off,none⟩) len cap')).run P w.drew= .ok l'.toArray w.drew:=fun cap'=>by
   have:=hrun0 P #[]
   simpa [Builtin.firstCells,loadCells] using this
  cases hv with
  |slice hc=>rw [hp] at hc;cases hc;exact ⟨_,_,l',rfl,by assumption,hv',hol,holdp _⟩
  |sliceX hc hsx=>rw [hp] at hc;cases hc;exact ⟨_,_,l',rfl,by omega,hv',hol,holdp _⟩
  | @sliceZ _ _ ad p2 hc=>
   have hl0:l'=[]:=List.eq_nil_of_length_eq_zero (by rw [hl'];simp)
   subst hl0
   exact ⟨_,_,[],rfl,by omega,hv',hol,by simp [Builtin.firstCells,loadCells,loadCellsFrom]⟩
end
end Go.Aw

set_option linter.unusedVariables false
set_option linter.unusedSimpArgs false
namespace Go.Aw
def bfr (ops:List Oper):Nat→Nat→List Nat
 |0,_=>[]
 |f+1,i=>match ops[i]? with
  |some o=>binding o++(binding o).flatMap (bfr ops f)
  |none=>[]
def UPost (ops:List Oper) (f:Nat) (sp:Nat→Option Nat) (B:List (Nat×Value)→AHeap→Prop) (R U:Nat→List (Nat×Value)→AHeap→Prop) (j:Nat) (E:List (Nat×Value)) (H:AHeap) (s:ASt):Prop:=
 s.defs=[]∧B s.env s.H∧R j s.env s.H∧ (∀ i,i<ops.length→i≠j→sp i≠some j→j∉bfr ops f i→R i E H→R i s.env s.H)∧∀i,i<ops.length→i≠j→U i E H→U i s.env s.H
theorem lk_self {d:Nat} {v:Value} {E:List (Nat×Value)}:lk d ((d,v)::E)=some v:=by rw [lk_cons,if_pos rfl]
theorem lk_other {d t:Nat} {v:Value} {E:List (Nat×Value)} (h:t≠d):lk t ((d,v)::E)=lk t E:=by
 rw [lk_cons,if_neg (fun e=>h e.symm)]
def RV (tm:Nat→Nat) (Q:Nat→Value→AHeap→Prop) (i:Nat) (E:List (Nat×Value)) (H:AHeap):Prop:=∃v,lk (tm i) E=some v∧Q i v H
def BL (l:List (Nat×Value)) (S:List Nat) (Hc:AHeap) (E:List (Nat×Value)) (H:AHeap):Prop:= (∀ t v,(t,v)∈l→lk t E=some v)∧Frm S Hc H
theorem BL.of {l:List (Nat×Value)} {S:List Nat} {Hc:AHeap} {E:List (Nat×Value)} {H:AHeap} (h:envIn E (fun v u=>u=v) l) (hf:Frm S Hc H):BL l S Hc E H:=by
 refine ⟨?_,hf⟩
 induction l with
 |nil=>intro t v h;cases h
 | cons x l ih=>
  obtain ⟨y,u⟩:=x
  unfold envIn at h
  intro t v hm
  rcases List.mem_cons.1 hm with e|hm
  ·cases e
   have h1:=h.1
   cases hl:lk y E with
   |none=>rw [hl] at h1;exact h1.elim
   |some v2=>rw [hl] at h1;exact congrArg some h1
  ·exact ih h.2 t v hm
def tmOk (ops:List Oper) (f:Nat) (sp:Nat→Option Nat) (tm:Nat→Nat) (j:Nat):Bool:=(List.range ops.length).all fun i=>i==j||tm i != tm j||(bfr ops f i).contains j||sp i==some j
theorem UPost.put {ops:List Oper} {f:Nat} {sp:Nat→Option Nat} {l:List (Nat×Value)} {S:List Nat} {Hc:AHeap} {tm:Nat→Nat} {Q:Nat→Value→AHeap→Prop} {U:Nat→List (Nat×Value)→AHeap→Prop} {j:Nat} {E:List (Nat×Value)} {H H2:AHeap} {v:Value}
  (htm:tmOk ops f sp tm j=true) (hB:BL l S Hc E H) (hl:l.all (fun x=>x.1 != tm j)=true) (hf:Frm S Hc H2) (hQ:Q j v H2)
  (hst:∀i w,i<ops.length→i≠j→sp i≠some j→j∉bfr ops f i→Q i w H→Q i w H2) (hU:∀i,i<ops.length→i≠j→U i E H→U i ((tm j,v)::E) H2):
  UPost ops f sp (BL l S Hc) (RV tm Q) U j E H ⟨(tm j,v)::E,[],H2⟩:=by
 refine ⟨rfl,⟨fun t u hm=> ?_,hf⟩,⟨v,lk_self,hQ⟩,fun i hi hij hsp hbf h=> ?_,hU⟩
 ·have:=List.all_eq_true.1 hl _ hm
  rw [lk_other (by simpa using this)]
  exact hB.1 t u hm
 ·obtain ⟨w,h1,h2⟩:=h
  have:=List.all_eq_true.1 htm i (List.mem_range.2 hi)
  simp only [Bool.or_eq_true,beq_iff_eq,bne_iff_ne,ne_eq,List.contains_eq_mem,decide_eq_true_eq] at this
  rcases this with ((h|h)|h)|h
  ·exact absurd h hij
  ·exact ⟨w,by rw [lk_other h];exact h1,hst i w hi hij hsp hbf h2⟩
  ·exact absurd h hbf
  ·exact absurd h hsp
theorem UPost.more {ops:List Oper} {f:Nat} {sp:Nat→Option Nat} {l:List (Nat×Value)} {S:List Nat} {Hc:AHeap} {tm:Nat→Nat} {Q:Nat→Value→AHeap→Prop} {j:Nat} {E:List (Nat×Value)} {H H2:AHeap} {v:Value}
  (hQs:∀i w H H2,Q i w H→Frm [] H H2→Q i w H2) (htm:tmOk ops f sp tm j=true) (hB:BL l S Hc E H) (hl:l.all (fun x=>x.1 != tm j)=true) (hf:Frm [] H H2) (hQ:Q j v H2):
  UPost ops f sp (BL l S Hc) (RV tm Q) (fun _ _ _=>True) j E H ⟨(tm j,v)::E,[],H2⟩:=
 .put htm hB hl (Frm.trans hB.2 hf (fun x hx=>by cases hx)) hQ (fun i w _ _ _ _ h=>hQs i w _ _ h hf) (fun _ _ _ _=>trivial)
theorem UPost.none {ops:List Oper} {f:Nat} {sp:Nat→Option Nat} {l:List (Nat×Value)} {S:List Nat} {Hc:AHeap} {tm:Nat→Nat} {Q:Nat→Value→AHeap→Prop} {U:Nat→List (Nat×Value)→AHeap→Prop} {j:Nat} {E:List (Nat×Value)} {H H2:AHeap}
  (hB:BL l S Hc E H) (hf:Frm S Hc H2) (hQ:RV tm Q j E H2) (hst:∀i w,i<ops.length→i≠j→sp i≠some j→j∉bfr ops f i→Q i w H→Q i w H2) (hU:∀i,i<ops.length→i≠j→U i E H→U i E H2):
  UPost ops f sp (BL l S Hc) (RV tm Q) U j E H ⟨E,[],H2⟩:=by
 refine ⟨rfl,⟨hB.1,hf⟩,hQ,fun i hi hij hsp hbf h=> ?_,hU⟩
 obtain ⟨w,h1,h2⟩:=h
 exact ⟨w,h1,hst i w hi hij hsp hbf h2⟩
end Go.Aw

set_option linter.unusedVariables false
set_option linter.unusedSimpArgs false
namespace Go.Aw
def claimOk (cl:List (Nat×Value)) (j:Nat) (u:Value):Prop:=match lk j cl with|none=>True|some v=>u=v
def putE (d:Option Tmp) (v:Value) (e:List (Nat×Value)):List (Nat×Value):=match d with|some d=>(d,v)::e|none=>e
def putCl (d:Option Tmp) (v:Option Value) (e:List (Nat×Value)):List (Nat×Value):=match v with|some v=>putE d v e|none=>e
def canW (g:Cfg) (ops:List Oper) (mem:List Nat) (cl:List (Nat×Value)) (defs:List ADef):Nat→List Oper→List (Nat×Value)→(List (Nat×Value)→Prop)→Prop
 |_,[],e,K=>K e
 | i,o::r,e,K=>if mem.contains i=true then canW g ops mem cl defs (i+1) r (putCl o.dst (lk i cl) e) K
   else ∃v,(∀ H,stepW g ops o ⟨e,defs,H⟩ v)∧canW g ops mem cl defs (i+1) r (putE o.dst v e) K
def memStep (g:Cfg) (ops:List Oper) (cl:List (Nat×Value)) (E:List (Nat×Value)) (defs:List ADef) (j:Nat) (me:List (Nat×Value)) (H:AHeap) (K:List (Nat×Value)→AHeap→Prop):Prop:=
 wth ops[j]? fun o=>wantW ops o ⟨restrict (me++E) (reads ops o),defs,H⟩
  (opW g o ⟨restrict (me++E) (reads ops o),defs,H⟩ (fun s=>s.defs=defs∧wth (dstV o s) fun u=>claimOk cl j u∧K (putE o.dst u me) s.H) (fun _ _=>False))
  (claimOk cl j noVal∧K (putE o.dst noVal me) H)
def runM (g:Cfg) (ops:List Oper) (cl:List (Nat×Value)) (E:List (Nat×Value)) (defs:List ADef):List Nat→List (Nat×Value)→AHeap→(List (Nat×Value)→AHeap→Prop)→Prop
 |[],me,H,K=>K me H
 |j::r,me,H,K=>memStep g ops cl E defs j me H fun me H=>runM g ops cl E defs r me H K
def memW (g:Cfg) (ops:List Oper) (cl:List (Nat×Value)) (E:List (Nat×Value)) (defs:List ADef):Tr→List (Nat×Value)→AHeap→(List (Nat×Value)→AHeap→Prop)→Prop
 | .run l,me,H,K=>runM g ops cl E defs l me H K
 | .step j t,me,H,K=>memStep g ops cl E defs j me H fun me H=>memW g ops cl E defs t me H K
 | .both a b,me,H,K=>memW g ops cl E defs a me H K∧memW g ops cl E defs b me H K
def enabledM (ops:List Oper) (mem L:List Nat):List Nat:=mem.filter fun i=> !L.contains i&&mem.all fun j=> !((ancs ops []).getD i []).contains j||L.contains j
def okRunM (ops:List Oper) (mem:List Nat):List Nat→List Nat→Bool
 |_,[]=>true
 |L,j::r=>(enabledM ops mem L).contains j&&((enabledM ops mem (j::L)).all fun i=>(r.take 1).contains i)&&okRunM ops mem (j::L) r
def okM (ops:List Oper) (mem:List Nat):List Nat→Tr→Bool
 |L,.run l=>okRunM ops mem L l
 |L,.step j t=>(enabledM ops mem L).contains j&&((enabledM ops mem (j::L)).all fun i=>t.firsts.contains i)&&okM ops mem (j::L) t
 |L,.both a b=>okM ops mem L a&&okM ops mem L b
def visOk (ops:List Oper) (k:Nat) (mem:List Nat) (cl:List (Nat×Value)):Bool:=
 mem.all fun j=>decide (j<k)&&(match ops[j]? with
  |some p=>(match p.dst with
   |some d=>(lk j cl).isSome||allLt k fun i=>mem.contains i||(match ops[i]? with|some o=> !(reads ops o).contains d|none=>true)
   |none=>true)
  |none=>true)
def treeOkM (ops:List Oper) (mem:List Nat) (t:Tr):Bool:=((enabledM ops mem []).all fun i=>t.firsts.contains i)&&okM ops mem [] t
theorem lk_append {t:Nat} {a b:List (Nat×Value)}:lk t (a++b)=match lk t a with|some v=>some v|none=>lk t b:=by
 induction a with
 |nil=>rfl
 |cons e r ih=>
  obtain ⟨k,v⟩:=e
  simp only [List.cons_append,lk_cons]
  split
  ·rfl
  ·exact ih
theorem lk_putE {t:Nat} {d:Option Tmp} {v:Value} {e:List (Nat×Value)}:lk t (putE d v e)=if d=some t then some v else lk t e:=by
 cases d with
 |none=>simp [putE]
 |some d=>simp [putE,lk_cons]
theorem pickM {g:Cfg} {ops:List Oper} {mem:List Nat} {cl E:List (Nat×Value)} {defs:List ADef} {K:List (Nat×Value)→AHeap→Prop} {me:List (Nat×Value)} {H:AHeap} {L:List Nat} {j:Nat}:∀(t:Tr),okM ops mem L t=true→memW g ops cl E defs t me H K→j∈t.firsts→
  ∃t',(∀ i∈enabledM ops mem (j::L),i∈t'.firsts)∧okM ops mem (j::L) t'=true∧memStep g ops cl E defs j me H fun me H=>memW g ops cl E defs t' me H K
 | .run [],_,_,hj=>by simp [Tr.firsts] at hj
 | .run (i::r),hok,ht,hj=>by
  simp [Tr.firsts] at hj
  subst hj
  simp only [okM,okRunM,Bool.and_eq_true] at hok
  refine ⟨.run r,fun i hi=> ?_,hok.2,ht⟩
  have:=List.all_eq_true.1 hok.1.2 i hi
  simpa [Tr.firsts] using this
 | .step i t,hok,ht,hj=>by
  simp [Tr.firsts] at hj
  subst hj
  simp only [okM,Bool.and_eq_true] at hok
  refine ⟨t,fun i hi=> ?_,hok.2,ht⟩
  have:=List.all_eq_true.1 hok.1.2 i hi
  simpa using this
 | .both a b,hok,ht,hj=>by
  simp only [okM,Bool.and_eq_true] at hok
  unfold memW at ht
  simp only [Tr.firsts,List.mem_append] at hj
  rcases hj with hj|hj
  ·exact pickM a hok.1 ht.1 hj
  ·exact pickM b hok.2 ht.2 hj
theorem doneM {g:Cfg} {ops:List Oper} {mem:List Nat} {cl E:List (Nat×Value)} {defs:List ADef} {K:List (Nat×Value)→AHeap→Prop} {me:List (Nat×Value)} {H:AHeap} {L:List Nat} (hL:enabledM ops mem L=[]):∀(t:Tr),okM ops mem L t=true→memW g ops cl E defs t me H K→K me H
 | .run [],_,ht=>ht
 | .run (i::r),hok,_=>by
  simp only [okM,okRunM,Bool.and_eq_true,hL] at hok
  simp at hok
 | .step i t,hok,_=>by
  simp only [okM,Bool.and_eq_true,hL] at hok
  simp at hok
 | .both a b,hok,ht=>by
  simp only [okM,Bool.and_eq_true] at hok
  exact doneM hL a hok.1 ht.1
structure MidM (g:Cfg) (l:List Oper) (mem:List Nat) (cl E:List (Nat×Value)) (defs:List ADef) (me:List (Nat×Value)) (H:AHeap) (listed:Array Bool) (c:Ctx) (w:World) (a:Act):Prop where
 heap:HRel c H w
 size:a.tmps.size=g.N.n
 tmps:∀t v,lk t (me++E)=some v→ (∀ (i:Nat) o,l[i]? =some o→o.dst=some t→isOn listed i)→∃v',a.tmps[t]? =some v'∧VRel c v v'
 defs:DRel g.N.B c H w defs a.defers
 me:∀d v,lk d me=some v→∃j p,j∈mem∧l[j]? =some p∧p.dst=some d∧claimOk cl j v
section
variable {g:Cfg} {Q:AExit→ASt→Prop}
theorem any_frontM {ops l t:List Oper} (he:ops=l++t) (hok:AnyOk g.N.n ops l.length) {mem:List Nat} {cl E:List (Nat×Value)} {defs:List ADef}
  (hpure:∀(i:Nat) o,¬i∈mem→l[i]? =some o→∃v,(∀ H,stepW g ops o ⟨E,defs,H⟩ v)∧∀d,o.dst=some d→lk d E=some v)
  (hcl:∀(j:Nat) v o d,j∈mem→lk j cl=some v→l[j]? =some o→o.dst=some d→lk d E=some v) (hmem:∀j∈mem,j<l.length)
  (hvis:∀(i j:Nat) o p d,¬i∈mem→j∈mem→l[i]? =some o→l[j]? =some p→p.dst=some d→d∈reads ops o→(lk j cl).isSome=true)
  {K:List (Nat×Value)→AHeap→Prop} (hK:∀me H,K me H→regionW g ops t ⟨me++E,defs,H⟩ (fun st'=>Q .normal st') (fun v st'=>Q (.panic v) st')):
  ∀(fuel:Nat) (tr:Tr) (done:List Nat) (me:List (Nat×Value)) (H:AHeap) (listed:Array Bool) (c:Ctx) (w:World) (a:Act),Lst ops listed→fuel=left listed listed.size→ (∀ i,l.length≤i→i<ops.length→¬isOn listed i)→
   (∀ j∈mem,(isOn listed j↔j∈done))→ (∀ i∈enabledM ops mem done,i∈tr.firsts)→okM ops mem done tr=true→memW g ops cl E defs tr me H K→MidM g l mem cl E defs me H listed c w a→
   wpAnyIn (fenceOf g.lr) 0 g.P .any ops.toArray (APost g Q c H w) fuel listed a w:=by
 have hlen:ops.length=l.length+t.length:=by rw [he];simp
 have hfin:∀(tr:Tr) (done:List Nat) (me:List (Nat×Value)) (H:AHeap) (listed:Array Bool) (c:Ctx) (w:World) (a:Act),Lst ops listed→ (∀ i,l.length≤i→i<ops.length→¬isOn listed i)→ (∀ j∈mem,(isOn listed j↔j∈done))→okM ops mem done tr=true→memW g ops cl E defs tr me H K→
   MidM g l mem cl E defs me H listed c w a→ (∀ i,i<l.length→isOn listed i)→wpAnyIn (fenceOf g.lr) 0 g.P .any ops.toArray (APost g Q c H w) (left listed listed.size) listed a w:=by
  intro tr done me H listed c w a hl hno hdn hokM hw hm hall
  have hon:∀i,i<ops.length→(isOn listed i↔i<l.length):=fun i hi=>by
   rcases Nat.lt_or_ge i l.length with h'|h'
   ·exact ⟨fun _=>h',fun _=>hall i h'⟩
   ·exact ⟨fun h=>absurd h (hno i h' hi),fun h=>by omega⟩
  have hnil:enabledM ops mem done=[]:=by
   apply List.eq_nil_iff_forall_not_mem.2
   intro i hi
   obtain ⟨h1,h2⟩:=List.mem_filter.1 hi
   have h3:=(hdn i h1).1 (hall i (hmem i h1))
   simp [h3] at h2
  have hk:=hK me H (doneM hnil tr hokM hw)
  refine any_tail hok t l listed _ ⟨me++E,defs,H⟩ he (Nat.le_refl _) hl hon ?_ hk c w a ⟨hm.heap,hm.size,fun t v e=>hm.tmps t v e (fun i o ho _=>hall i (List.getElem?_eq_some_iff.1 ho).1),hm.defs⟩
  rw [hl.size,left_eq (m:=l.length) (by omega) hon];omega
 intro fuel
 induction fuel with
 | zero=>
  intro tr done me H listed c w a hl hf hno hdn hfi hokM hw hm
  by_cases hall:∀i,i<l.length→isOn listed i
  ·have:=hfin tr done me H listed c w a hl hno hdn hokM hw hm hall
   rwa [← hf] at this
  ·exfalso
   apply hall
   intro i hi
   rcases Classical.em (isOn listed i) with h'|h'
   ·exact h'
   ·have:=left_set (by rw [hl.size];omega) h'
    omega
 | succ fuel ih=>
  intro tr done me H listed c w a hl hf hno hdn hfi hokM hw hm
  by_cases hall:∀i,i<l.length→isOn listed i
  ·have:=hfin tr done me H listed c w a hl hno hdn hokM hw hm hall
   rwa [← hf] at this
  refine ⟨fun hnil=> ?_,fun i hi=> ?_⟩
  ·apply absurd hall
   intro hall
   apply hall
   intro i hi
   rcases Classical.em (isOn listed i) with h'|h'
   ·exact h'
   ·exact absurd hnil (hl.some_ready hok (by omega) h')
  obtain ⟨h1,h2,_,h4⟩:=hl.ready hi
  have hil:i<l.length:=by
   rcases Nat.lt_or_ge i l.length with h'|h'
   ·exact h'
   ·exact absurd (fun j hj=>h4 j (hok.tail j i h' h1 (by omega))) hall
  have hoat:l[i]? =some l[i]:=List.getElem?_eq_getElem hil
  generalize l[i]=o at hoat
  have hops:ops[i]? =some o:=by rw [he,List.getElem?_append_left hil,hoat]
  have hd1:∀d,o.dst=some d→d<g.N.n:=fun d e=>by
   have:=hok.dsts
   unfold dstsOk at this
   rw [List.all_eq_true] at this
   have:=this o (List.mem_iff_getElem?.2 ⟨_,hops⟩)
   rw [e] at this
   simpa using this
  have hfuel:fuel=left (listed.setIfInBounds i true) (listed.setIfInBounds i true).size:=by
   have:=left_set (by rw [hl.size];exact h1) h2
   simp;omega
  have hno':∀j,l.length≤j→j<ops.length→¬isOn (listed.setIfInBounds i true) j:=fun j hj hj2=>by
   rw [isOn_set (by rw [hl.size];exact h1)]
   rintro (rfl|h')
   ·omega
   ·exact hno j hj hj2 h'
  have hapart:∀(j k:Nat) (p q:Oper) (d:Nat),l[j]? =some p→l[k]? =some q→p.dst=some d→q.dst=some d→j=k:=fun j k p q d hj hk hp hq=>by
   have hjl:=(List.getElem?_eq_some_iff.1 hj).1
   have hkl:=(List.getElem?_eq_some_iff.1 hk).1
   exact hok.apart j k p q d hjl hkl (by rw [he,List.getElem?_append_left hjl,hj]) (by rw [he,List.getElem?_append_left hkl,hk]) hq hp
  have hread:∀(j:Nat) (p:Oper) (d:Nat),l[j]? =some p→p.dst=some d→d∈reads ops o→isOn listed j:=fun j p d hj hp hd=>by
   have hjl:=(List.getElem?_eq_some_iff.1 hj).1
   exact h4 j (hok.reads i j o p d hil hjl hops (by rw [he,List.getElem?_append_left hjl,hj]) hp hd)
  have hs0:∀e:List (Nat×Value),(∀ d∈reads ops o,lk d e=lk d (me++E))→SRel g.N c ⟨restrict e (reads ops o),defs,H⟩ w a:=fun e hee=>by
   refine ⟨hm.heap,hm.size,fun t x e2=> ?_,hm.defs⟩
   obtain ⟨h5,h6⟩:=lk_restrict e2
   rw [hee t h5] at h6
   exact hm.tmps t x h6 (fun j p hj hp=>hread j p t hj hp h5)
  have hoa:ops.toArray[i]? =some o:=by simpa using hops
  have hon:∀j,isOn (listed.setIfInBounds i true) j↔i=j∨isOn listed j:=fun j=>isOn_set (by rw [hl.size];exact h1)
  by_cases him:i∈mem
  ·-- an operation of the tree
   have hie:i∈enabledM ops mem done:=by
    refine List.mem_filter.2 ⟨him,?_⟩
    have hnd:¬i∈done:=fun h=>h2 ((hdn i him).2 h)
    simp only [Bool.and_eq_true,Bool.not_eq_true',List.all_eq_true,Bool.or_eq_true]
    refine ⟨by simpa using hnd,fun j hj=> ?_⟩
    rcases hc:((ancs ops []).getD i []).contains j with _|_
    ·exact .inl rfl
    ·refine .inr ?_
     have:=h4 j (by simpa using hc)
     simpa using (hdn j hj).1 this
   obtain ⟨t',hfi',hok',hst⟩:=pickM tr hokM hw (hfi i hie)
   unfold memStep at hst
   rw [hops,wth_some] at hst
   have hs1:=hs0 (me++E) (fun d _=>rfl)
   have hdn':∀j∈mem,(isOn (listed.setIfInBounds i true) j↔j∈i::done):=fun j hj=>by
    rw [hon,hdn j hj];simp [eq_comm]
   have hmid:∀(c':Ctx) (a':Act) (w':World) (H':AHeap) (u u':Value),c.le c'→HRel c' H' w'→DRel g.N.B c' H' w' defs a'.defers→a'.tmps=(a.put o.dst u').tmps→ (∀ d,o.dst=some d→VRel c' u u')→claimOk cl i u→
     MidM g l mem cl E defs (putE o.dst u me) H' (listed.setIfInBounds i true) c' w' a':=by
    intro c' a' w' H' u u' hle hh hdf ht hu hc
    refine ⟨hh,?_,?_,hdf,?_⟩
    ·rw [ht,←hm.size];cases o.dst<;> simp [Act.put]
    ·intro x v e hx
     rw [lk_append,lk_putE] at e
     by_cases hdt:o.dst=some x
     ·rw [if_pos hdt] at e
      cases e
      refine ⟨u',?_,hu x hdt⟩
      rw [ht,hdt]
      simp [Act.put,hm.size,hd1 x hdt]
     ·rw [if_neg hdt,←lk_append] at e
      obtain ⟨x',k1,k2⟩:=hm.tmps x v e (fun j p hj hp=>by
       rcases (hon j).1 (hx j p hj hp) with rfl|h'
       ·rw [hoat] at hj;cases hj;exact absurd hp hdt
       ·exact h')
      refine ⟨x',?_,k2.mono hle⟩
      rw [ht]
      cases hd:o.dst with
      |none=>simpa [Act.put] using k1
      |some d=>
       have hne:d≠x:=fun e=>hdt (by rw [hd,e])
       simp [Act.put,hne,k1]
    ·intro d v e
     rw [lk_putE] at e
     by_cases hdt:o.dst=some d
     ·rw [if_pos hdt] at e
      cases e
      exact ⟨i,o,him,hoat,hdt,hc⟩
     ·rw [if_neg hdt] at e
      exact hm.me d v e
   unfold wpOpIn
   simp only [hoa]
   rcases wantW_elim hs1 hst with ⟨hwn,hr⟩|⟨hwn,hr⟩
   ·rw [if_pos hwn]
    refine opW_ok hd1 hr c w a _ _ hs1 ?_ ?_
    ·rintro s c' a' w' ⟨hdf,hu⟩ hs' ht ⟨hle,x,hx⟩
     obtain ⟨u,hdu,hc,hw'⟩:=wth_elim hu
     have hm':MidM g l mem cl E defs (putE o.dst u me) s.H (listed.setIfInBounds i true) c' w' a':=by
      refine hmid c' a' w' s.H u x hle hs'.heap (by have:=hs'.defs;rwa [hdf] at this) hx (fun d hd=> ?_) hc
      unfold dstV at hdu
      rw [hd] at hdu
      obtain ⟨y,k1,k2⟩:=hs'.tmps d u hdu
      rw [hx,hd] at k1
      simp [Act.put,hm.size,hd1 d hd] at k1
      rw [k1];exact k2
     have:=ih t' (i::done) _ s.H _ c' w' a' (hl.set hi) hfuel hno' hdn' hfi' hok' hw' hm'
     exact any_tail.wpAny_mono (fun e a2 w2 hp=>hp.back ht) this
    ·intro v v' st' c' a' w' hKp
     exact hKp.elim
   ·rw [if_neg (by rw [hwn];simp)]
    refine ⟨about_any g.lr,?_⟩
    refine ih t' (i::done) _ H _ c w _ (hl.set hi) hfuel hno' hdn' hfi' hok' hr.2 (hmid c _ w H noVal undef (Ctx.le_refl c) hm.heap ?_ rfl (fun d hd=> .tuple .nil) hr.1)
    have:(a.put o.dst undef).defers=a.defers:=by cases o.dst<;> rfl
    rw [this];exact hm.defs
  ·-- an operation that leaves memory alone
   obtain ⟨v,hs,hlk⟩:=hpure i o him hoat
   have hs:=hs H
   have hee:∀d∈reads ops o,lk d E=lk d (me++E):=fun d hd=>by
    rw [lk_append]
    cases hme:lk d me with
    |none=>rfl
    | some u=>
     obtain ⟨j,p,hj,hp,hpd,hc⟩:=hm.me d u hme
     have hsome:=hvis i j o p d him hj hoat hp hpd hd
     unfold claimOk at hc
     cases hlj:lk j cl with
     |none=>rw [hlj] at hsome;cases hsome
     |some x=>
      rw [hlj] at hc
      simp only at hc
      rw [hcl j x p d hj hlj hp hpd,hc]
   have hs1:SRel g.N c (ASt.only ops o ⟨E,defs,H⟩) w a:=hs0 E hee
   have hdn':∀j∈mem,(isOn (listed.setIfInBounds i true) j↔j∈done):=fun j hj=>by
    rw [hon,hdn j hj]
    exact ⟨fun h=>h.elim (fun e=>absurd (e ▸ hj) him) id,.inr⟩
   have hmid:∀(c':Ctx) (a':Act) (w':World) (u:Value),c.le c'→HRel c' H w'→DRel g.N.B c' H w' defs a'.defers→a'.tmps=(a.put o.dst u).tmps→ (∀ d,o.dst=some d→VRel c' v u)→MidM g l mem cl E defs me H (listed.setIfInBounds i true) c' w' a':=by
    intro c' a' w' u hle hh hdf ht hu
    refine ⟨hh,?_,?_,hdf,hm.me⟩
    ·rw [ht,←hm.size];cases o.dst<;> simp [Act.put]
    ·intro x y e hx
     by_cases hdt:o.dst=some x
     ·have e2:lk x (me++E)=some v:=by
       rw [lk_append]
       cases hme:lk x me with
       |none=>exact hlk x hdt
       |some z=>
        obtain ⟨j,p,hj,hp,hpd,_⟩:=hm.me x z hme
        exact absurd (hapart j i p o x hp hoat hpd hdt ▸ hj) him
      rw [e2] at e;cases e
      refine ⟨u,?_,hu x hdt⟩
      rw [ht,hdt]
      simp [Act.put,hm.size,hd1 x hdt]
     ·obtain ⟨x',k1,k2⟩:=hm.tmps x y e (fun j p hj hp=>by
       rcases (hon j).1 (hx j p hj hp) with rfl|h'
       ·rw [hoat] at hj;cases hj;exact absurd hp hdt
       ·exact h')
      refine ⟨x',?_,k2.mono hle⟩
      rw [ht]
      cases hd:o.dst with
      |none=>simpa [Act.put] using k1
      |some d=>
       have hne:d≠x:=fun e=>hdt (by rw [hd,e])
       simp [Act.put,hne,k1]
   unfold wpOpIn
   simp only [hoa]
   unfold stepW at hs
   rcases wantW_elim hs1 hs with ⟨hwn,hr⟩|⟨hwn,hr⟩
   ·rw [if_pos hwn]
    refine opW_ok hd1 hr c w a _ _ hs1 ?_ ?_
    ·rintro s c' a' w' ⟨hH,hdf,hl'⟩ hs' ht ⟨hle,x,hx⟩
     have hH:s.H=H:=hH
     have hdf:s.defs=defs:=hdf
     have hm':MidM g l mem cl E defs me H (listed.setIfInBounds i true) c' w' a':=by
      have hh:=hs'.heap
      rw [hH] at hh
      have hd':=hs'.defs
      rw [hdf,hH] at hd'
      refine hmid c' a' w' x hle hh hd' hx (fun d hd=> ?_)
      obtain ⟨y,k1,k2⟩:=hs'.tmps d v (hl' d hd)
      rw [hx,hd] at k1
      simp [Act.put,hm.size,hd1 d hd] at k1
      rw [k1];exact k2
     have:=ih tr done me H _ c' w' a' (hl.set hi) hfuel hno' hdn' hfi hokM hw hm'
     rw [hH] at ht
     exact any_tail.wpAny_mono (fun e a2 w2 hp=>hp.back ht) this
    ·intro v v' st' c' a' w' hKp
     exact hKp.elim
   ·rw [if_neg (by rw [hwn];simp)]
    refine ⟨about_any g.lr,?_⟩
    subst hr
    refine ih tr done me H _ c w _ (hl.set hi) hfuel hno' hdn' hfi hokM hw (hmid c _ w undef (Ctx.le_refl c) hm.heap ?_ rfl (fun d hd=> .tuple .nil))
    have:(a.put o.dst undef).defers=a.defers:=by cases o.dst<;> rfl
    rw [this];exact hm.defs
theorem canW_elim {ops:List Oper} {mem:List Nat} {cl:List (Nat×Value)} {defs:List ADef} {K:List (Nat×Value)→Prop}:∀(l pre:List Oper) (e:List (Nat×Value)),canW g ops mem cl defs pre.length l e K→
  (∀ (i j:Nat) o p d,i<(pre++l).length→j<(pre++l).length→(pre++l)[i]? =some o→(pre++l)[j]? =some p→o.dst=some d→p.dst=some d→i=j)→
  (∀ (i j:Nat) o p d,(pre++l)[i]? =some o→(pre++l)[j]? =some p→p.dst=some d→d∈reads ops o→j<i)→
  ∃E,K E∧ (∀ d,(∀ o∈l,o.dst≠some d)→lk d E=lk d e)∧
   (∀ (i:Nat) o,¬(pre.length+i)∈mem→l[i]? =some o→∃v,(∀ H,stepW g ops o ⟨E,defs,H⟩ v)∧∀d,o.dst=some d→lk d E=some v)∧
   (∀ (i:Nat) v o d,(pre.length+i)∈mem→lk (pre.length+i) cl=some v→l[i]? =some o→o.dst=some d→lk d E=some v)
 |[],pre,e,h,_,_=>⟨e,h,fun _ _=>rfl,fun i o _ ho=>by simp at ho,fun i v o d _ _ ho=>by simp at ho⟩
 | o :: r,pre,e,h,hap,hrd=>by
  have hcat:pre++o::r=(pre++[o])++r:=by simp
  have hat:(pre++o::r)[pre.length]? =some o:=by simp
  have hap2:=hap
  have hrd2:=hrd
  rw [hcat] at hap2 hrd2
  have hpl:(pre++[o]).length=pre.length+1:=by simp
  have hlate:∀d,o.dst=some d→∀q∈r,q.dst≠some d:=fun d hd q hq hqd=>by
   obtain ⟨m,hm⟩:=List.mem_iff_getElem?.1 hq
   have hm2:(pre++o::r)[pre.length+1+m]? =some q:=by
    rw [List.getElem?_append_right (by omega),show pre.length+1+m - pre.length=m+1 by omega];exact hm
   have:=hap _ _ o q d (by simp) (List.getElem?_eq_some_iff.1 hm2).1 hat hm2 hd hqd
   omega
  unfold canW at h
  by_cases hmm:pre.length∈mem
  ·rw [if_pos (by simpa using hmm)] at h
   rw [← hpl] at h
   obtain ⟨E,h1,h2,h3,h4⟩:=canW_elim r (pre++[o]) _ h hap2 hrd2
   refine ⟨E,h1,fun d hd=> ?_,fun i p hi hp=> ?_,fun i v p d hi hv hp hd=> ?_⟩
   ·rw [h2 d (fun q hq=>hd q (List.mem_cons_of_mem _ hq))]
    unfold putCl
    cases lk pre.length cl with
    |none=>rfl
    |some v=>
     simp only
     rw [lk_putE,if_neg (hd o (List.mem_cons_self ..))]
   ·cases i with
    |zero=>exact absurd hmm hi
    |succ i=>exact h3 i p (by rw [hpl,show pre.length+1+i=pre.length+(i+1) by omega];exact hi) hp
   ·cases i with
    |zero=>
     simp at hp
     subst hp
     rw [h2 d (hlate d hd)]
     unfold putCl
     rw [show lk pre.length cl=some v from hv]
     simp only
     rw [lk_putE,if_pos hd]
    |succ i=>exact h4 i v p d (by rw [hpl,show pre.length+1+i=pre.length+(i+1) by omega];exact hi) (by rw [hpl,show pre.length+1+i=pre.length+(i+1) by omega];exact hv) hp hd
  ·rw [if_neg (by simpa using hmm)] at h
   obtain ⟨v,hv,h⟩:=h
   rw [← hpl] at h
   obtain ⟨E,h1,h2,h3,h4⟩:=canW_elim r (pre++[o]) _ h hap2 hrd2
   refine ⟨E,h1,fun d hd=> ?_,fun i p hi hp=> ?_,fun i v p d hi hv hp hd=> ?_⟩
   ·rw [h2 d (fun q hq=>hd q (List.mem_cons_of_mem _ hq)),lk_putE,if_neg (hd o (List.mem_cons_self ..))]
   ·cases i with
    | zero=>
     simp at hp
     subst hp
     refine ⟨v,fun H=> ?_,fun d hd=>by rw [h2 d (hlate d hd),lk_putE,if_pos hd]⟩
     have hs:=hv H
     have:ASt.only ops o ⟨e,defs,H⟩=ASt.only ops o ⟨E,defs,H⟩:=by
      unfold ASt.only
      simp only
      congr 1
      refine restrict_congr fun d hd=> ?_
      rw [h2 d (fun q hq hqd=> ?_),lk_putE,if_neg (fun hod=> ?_)]
      ·have:=hrd _ _ o o d hat hat hod hd
       omega
      ·obtain ⟨m,hm⟩:=List.mem_iff_getElem?.1 hq
       have hm2:(pre++o::r)[pre.length+1+m]? =some q:=by
        rw [List.getElem?_append_right (by omega),show pre.length+1+m - pre.length=m+1 by omega];exact hm
       have:=hrd _ _ o q d hat hm2 hqd hd
       omega
     unfold stepW at hs ⊢
     rw [← this]
     exact hs
    |succ i=>exact h3 i p (by rw [hpl,show pre.length+1+i=pre.length+(i+1) by omega];exact hi) hp
   ·cases i with
    |zero=>exact absurd hi hmm
    |succ i=>exact h4 i v p d (by rw [hpl,show pre.length+1+i=pre.length+(i+1) by omega];exact hi) (by rw [hpl,show pre.length+1+i=pre.length+(i+1) by omega];exact hv) hp hd
theorem AWP.regionM {env:List (Nat×Value)} {defs:List ADef} {H:AHeap} {id:Nat} {ops:List Oper} (k:Nat) (mem:List Nat) (cl:List (Nat×Value)) (tr:Tr) (hm:g.P.follows .mixedOrders=true) (hk:k≤ops.length) (hok:anyOk g.N.n ops k=true) (htr:treeOkM ops mem tr=true) (hv:visOk ops k mem cl=true)
  (h:canW g ops mem cl defs 0 (ops.take k) env (fun E=>memW g ops cl E defs tr [] H fun me H=>regionW g ops (ops.drop k) ⟨me++E,defs,H⟩ (fun st'=>Q .normal st') (fun v st'=>Q (.panic v) st'))):
  AWP g (.region id ops.toArray true) Q ⟨env,defs,H⟩:=by
 intro c w a hs
 have hok:=AnyOk.of hok
 have he:ops=ops.take k++ops.drop k:=(List.take_append_drop k ops).symm
 have hlk:(ops.take k).length=k:=by rw [List.length_take];omega
 have hget:∀(i:Nat) o,(ops.take k)[i]? =some o→i<k∧ops[i]? =some o:=fun i o ho=>by
  have:=(List.getElem?_eq_some_iff.1 ho).1
  rw [List.getElem?_take] at ho
  split at ho
  ·exact ⟨by assumption,ho⟩
  ·cases ho
 obtain ⟨E,hK,hE0,hpure,hcl⟩:=canW_elim (ops.take k) [] env h (fun i j o p d _ _ hi hj hd hd'=>by
   rw [List.nil_append] at hi hj
   obtain ⟨i1,i2⟩:=hget i o hi
   obtain ⟨j1,j2⟩:=hget j p hj
   exact hok.apart i j o p d i1 j1 i2 j2 hd' hd) (fun i j o p d hi hj hd hr=>by
   rw [List.nil_append] at hi hj
   obtain ⟨i1,i2⟩:=hget i o hi
   obtain ⟨j1,j2⟩:=hget j p hj
   exact anc_lt hok i j (hok.reads i j o p d i1 j1 i2 j2 hd hr))
 simp only [List.length_nil,Nat.zero_add] at hpure hcl
 simp only [treeOkM,Bool.and_eq_true] at htr
 have hvj:∀j∈mem,j<k∧∀(p:Oper) (d:Nat),ops[j]? =some p→p.dst=some d→(lk j cl).isSome=true∨∀(i:Nat) (o:Oper),i<k→¬i∈mem→ops[i]? =some o→¬d∈reads ops o:=fun j hj=>by
  have:=List.all_eq_true.1 hv j hj
  simp only [Bool.and_eq_true,decide_eq_true_eq] at this
  refine ⟨this.1,fun p d hp hd=> ?_⟩
  have h2:=this.2
  rw [hp] at h2
  simp only [hd,Bool.or_eq_true] at h2
  rcases h2 with h2|h2
  ·exact .inl h2
  ·refine .inr fun i o hi him ho hdr=> ?_
   have:=allLt_spec h2 i hi
   rw [ho] at this
   simp only [Bool.or_eq_true,Bool.not_eq_true'] at this
   rcases this with h3|h3
   ·exact him (by simpa using h3)
   ·simp [hdr] at h3
 refine wpIn_region_any hm ?_
 obtain ⟨hh,ht⟩:=hs.heap.drew g.n0
 have:=any_frontM (g:=g) (Q:=Q) (ops:=ops) (l:=ops.take k) (t:=ops.drop k) he (by rw [hlk];exact hok) (mem:=mem) (cl:=cl) (E:=E) (defs:=defs) hpure (fun j v o d hj hv ho hd=>hcl j v o d hj hv ho hd) (fun j hj=>by rw [hlk];exact (hvj j hj).1) (fun i j o p d hi hj ho hp hd hr=>by
   obtain ⟨i1,i2⟩:=hget i o ho
   obtain ⟨j1,j2⟩:=hget j p hp
   rcases (hvj j hj).2 p d j2 hd with h|h
   ·exact h
   ·exact absurd hr (h i o i1 hi i2)) (fun me H h=>h) ops.length tr [] [] H (Array.replicate ops.length false) c w.drew a ?_ ?_ ?_ ?_ ?_ htr.2 hK ?_
 ·have:=any_tail.wpAny_mono (fun e a2 w2 hp=>hp.back ht) this
  simpa using this
 ·refine ⟨by simp,fun j o ho hj=> ?_⟩
  exact absurd hj (not_isOn_replicate _ _)
 ·have:=left_eq (listed:=Array.replicate ops.length false) (m:=0) (n:=ops.length) (Nat.zero_le _) (fun i hi=>⟨fun h=>absurd h (not_isOn_replicate _ _),fun h=>by omega⟩)
  simpa using this.symm
 ·intro i _ hi
  exact not_isOn_replicate _ _
 ·intro j _
  exact ⟨fun h=>absurd h (not_isOn_replicate _ _),fun h=>by cases h⟩
 ·intro i hi
  have:=List.all_eq_true.1 htr.1 i hi
  simpa using this
 ·refine ⟨hh,hs.size,fun x v e hx=> ?_,hs.defs.step (n:=g.n0) (Ctx.le_refl c) ht,fun d v e=>by cases e⟩
  have e2:lk x env=some v:=by
   rw [← e]
   show lk x env=lk x E
   refine (hE0 x fun o ho hd=> ?_).symm
   obtain ⟨j,hj⟩:=List.mem_iff_getElem?.1 ho
   exact absurd (hx j o hj hd) (not_isOn_replicate _ _)
  exact hs.tmps x v e2
theorem canW_cons {ops:List Oper} {mem:List Nat} {cl:List (Nat×Value)} {defs:List ADef} {i:Nat} {o:Oper} {r:List Oper} {e:List (Nat×Value)} {K:List (Nat×Value)→Prop}:canW g ops mem cl defs i (o::r) e K=if mem.contains i=true then canW g ops mem cl defs (i+1) r (putCl o.dst (lk i cl) e) K
   else ∃v,(∀ H,stepW g ops o ⟨e,defs,H⟩ v)∧canW g ops mem cl defs (i+1) r (putE o.dst v e) K:=rfl
theorem runM_cons {ops:List Oper} {cl E me:List (Nat×Value)} {defs:List ADef} {H:AHeap} {K:List (Nat×Value)→AHeap→Prop} {j:Nat} {r:List Nat}:runM g ops cl E defs (j::r) me H K=memStep g ops cl E defs j me H fun me H=>runM g ops cl E defs r me H K:=rfl
theorem memW_run {ops:List Oper} {cl E me:List (Nat×Value)} {defs:List ADef} {H:AHeap} {K:List (Nat×Value)→AHeap→Prop} {l:List Nat}:memW g ops cl E defs (.run l) me H K=runM g ops cl E defs l me H K:=rfl
theorem putE_s {d:Nat} {v:Value} {e:List (Nat×Value)}:putE (some d) v e=(d,v)::e:=rfl
theorem putE_n {v:Value} {e:List (Nat×Value)}:putE none v e=e:=rfl
theorem putCl_s {d:Option Tmp} {v:Value} {e:List (Nat×Value)}:putCl d (some v) e=putE d v e:=rfl
theorem putCl_n {d:Option Tmp} {e:List (Nat×Value)}:putCl d none e=e:=rfl
theorem claimOk_cons {k j:Nat} {v u:Value} {r:List (Nat×Value)}:claimOk ((k,v)::r) j u=if k=j then u=v else claimOk r j u:=by
 unfold claimOk
 rw [lk_cons]
 by_cases h:k=j
 ·rw [if_pos h,if_pos h]
 ·rw [if_neg h,if_neg h]
theorem claimOk_nil {j:Nat} {u:Value}:claimOk [] j u=True:=rfl
theorem canW_n {ops:List Oper} {mem:List Nat} {cl:List (Nat×Value)} {defs:List ADef} {i:Nat} {e:List (Nat×Value)} {K:List (Nat×Value)→Prop} (h:K e):canW g ops mem cl defs i [] e K:=h
theorem canW_p {ops:List Oper} {mem:List Nat} {cl:List (Nat×Value)} {defs:List ADef} {i:Nat} {o:Oper} {r:List Oper} {e:List (Nat×Value)} {K:List (Nat×Value)→Prop} (hm:mem.contains i=false) {v:Value} (hv:∀H,stepW g ops o ⟨e,defs,H⟩ v) (h:canW g ops mem cl defs (i+1) r (putE o.dst v e) K):canW g ops mem cl defs i (o::r) e K:=by
 rw [canW_cons,if_neg (by rw [hm];decide)]
 exact ⟨v,hv,h⟩
theorem canW_m {ops:List Oper} {mem:List Nat} {cl:List (Nat×Value)} {defs:List ADef} {i:Nat} {o:Oper} {r:List Oper} {e:List (Nat×Value)} {K:List (Nat×Value)→Prop} (hm:mem.contains i=true) (h:canW g ops mem cl defs (i+1) r (putCl o.dst (lk i cl) e) K):canW g ops mem cl defs i (o::r) e K:=by
 rw [canW_cons,if_pos hm]
 exact h
theorem memW_b {ops:List Oper} {cl E me:List (Nat×Value)} {defs:List ADef} {H:AHeap} {K:List (Nat×Value)→AHeap→Prop} {a b:Tr} (h1:memW g ops cl E defs a me H K) (h2:memW g ops cl E defs b me H K):memW g ops cl E defs (.both a b) me H K:=⟨h1,h2⟩
theorem memW_s {ops:List Oper} {cl E me:List (Nat×Value)} {defs:List ADef} {H:AHeap} {K:List (Nat×Value)→AHeap→Prop} {j:Nat} {t:Tr} {o:Oper} (ho:ops[j]? =some o) (h:wantW ops o ⟨restrict (me++E) (reads ops o),defs,H⟩
  (opW g o ⟨restrict (me++E) (reads ops o),defs,H⟩ (fun s=>s.defs=defs∧wth (dstV o s) fun u=>claimOk cl j u∧memW g ops cl E defs t (putE o.dst u me) s.H K) (fun _ _=>False))
  (claimOk cl j noVal∧memW g ops cl E defs t (putE o.dst noVal me) H K)):memW g ops cl E defs (.step j t) me H K:=by
 show memStep g ops cl E defs j me H _
 unfold memStep
 rw [ho]
 exact h
theorem memW_r {ops:List Oper} {cl E me:List (Nat×Value)} {defs:List ADef} {H:AHeap} {K:List (Nat×Value)→AHeap→Prop} {j:Nat} {r:List Nat} {o:Oper} (ho:ops[j]? =some o) (h:wantW ops o ⟨restrict (me++E) (reads ops o),defs,H⟩
  (opW g o ⟨restrict (me++E) (reads ops o),defs,H⟩ (fun s=>s.defs=defs∧wth (dstV o s) fun u=>claimOk cl j u∧memW g ops cl E defs (.run r) (putE o.dst u me) s.H K) (fun _ _=>False))
  (claimOk cl j noVal∧memW g ops cl E defs (.run r) (putE o.dst noVal me) H K)):memW g ops cl E defs (.run (j::r)) me H K:=by
 simp only [memW_run] at h
 rw [memW_run,runM_cons]
 unfold memStep
 rw [ho]
 exact h
theorem memW_e {ops:List Oper} {cl E me:List (Nat×Value)} {defs:List ADef} {H:AHeap} {K:List (Nat×Value)→AHeap→Prop} (h:K me H):memW g ops cl E defs (.run []) me H K:=h
attribute [go_sem] putE_s putE_n putCl_s putCl_n claimOk_cons claimOk_nil dstV
end
end Go.Aw

set_option linter.unusedVariables false
set_option linter.unusedSimpArgs false
set_option maxHeartbeats 4000000
namespace Go.Aw
open Go
variable {Kp:Value→ASt→Prop}
section
variable {g:Cfg} {Q:AExit→ASt→Prop}
end
end Go.Aw

set_option linter.unusedVariables false
set_option linter.unusedSimpArgs false
set_option maxHeartbeats 4000000
namespace Go.Aw
open Go
theorem op_deferT {g:Cfg} {st:ASt} {K:ASt→Prop} {Kp:Value→ASt→Prop} {d:Option Tmp} {t:TypeId} {ps:String} {af:Array Edge} {gu:Option (Nat×Bool)} {x:Tmp} {xs:Array Operand} {ts:Array TypeId}:
  opW g ⟨d,.defer ⟨.value (.tmp x),xs,ts⟩,t,ps,af,gu⟩ st K Kp=(g.lr=none∧wth (evs st xs.toList) fun args=>wth (lk x st.env) fun fv=>match fv with
   | .func f ⟨first⟩ ⟨cap⟩=>K (ASt.put ⟨st.env,.call f cap (first++args)::st.defs,st.H⟩ d noVal)
   |_=>False):=by
 simp only [opW,ev]
 rfl
attribute [go_sem ↓] op_deferT
end Go.Aw

set_option linter.unusedVariables false
set_option linter.unusedSimpArgs false
namespace Go.Aw
open Go.Proofs Go.Shelf Go.ChangeShapes Go.WideShapes Go.ChangeAt Go.RowKit
end Go.Aw
namespace Go.Aw
end Go.Aw
namespace Go.Aw
theorem DName.one {m:Names} {f:FuncId} {i j:Nat} (h:m i=some i):DName m [.call (.func f) [] [.pointer (some ⟨i,j,none⟩)]] [.call (.func f) [] [.pointer (some ⟨i,j,none⟩)]]:=
 .call .nil (.cons (.ptr h) .nil) .nil
end Go.Aw
