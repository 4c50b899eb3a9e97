/-
  The abstract memory and the walk of code over it, part 1.
-/
import Derived.WalkKit
import Derived.RangeFuncIn
import Derived.RangeFuncLeaves
import Derived.OrdersIn
import Derived.Defers
import Derived.Recover
import Derived.KernelRfl
import Derived.ChangeKeysEq
import Derived.WalkSpells
import Derived.WalkLawsBesides
import Derived.Deep.AppendSrc
import Derived.MapKept
import Derived.Lib.UnsafeStr
import Derived.Maps.RangeRun
set_option linter.unusedVariables false
namespace Go.Aw
structure Place where
 block:Nat
 base:Nat
 size:Nat
 esz:Nat
 extra:Nat
abbrev Ctx:=Nat→Option Place
mutual
inductive VRel (c:Ctx):Value→Value→Prop
 |bool (b:Bool):VRel c (.bool b) (.bool b)
 |int (k:IntKind) (n:Int):VRel c (.int k n) (.int k n)
 |float (k:FloatKind) (n:Nat):VRel c (.float k n) (.float k n)
 |string (s:ByteArray):VRel c (.string s) (.string s)
 |nilPtr:VRel c (.pointer none) (.pointer none)
 |ptr {i off:Nat} {p:Place}:c i=some p→VRel c (.pointer (some ⟨i,off,none⟩)) (.pointer (some ⟨p.block,p.base+off,none⟩))
 |nilSlice (l n:Nat):VRel c (.slice none l n) (.slice none l n)
 |slice {i off len cap:Nat} {p:Place}:c i=some p→VRel c (.slice (some ⟨i,off,none⟩) len cap) (.slice (some ⟨p.block,p.base+off,none⟩) len cap)
 | sliceX {i off len cap:Nat} {p:Place}:c i=some p→off+cap*p.esz=p.size→
   VRel c (.slice (some ⟨i,off,none⟩) len cap) (.slice (some ⟨p.block,p.base+off,none⟩) len (cap+p.extra))
 |sliceZ {i off:Nat} {a:Addr} {p:Place}:c i=some p→VRel c (.slice (some ⟨i,off,none⟩) 0 0) (.slice (some a) 0 0)
 |nilMap:VRel c (.map none) (.map none)
 |map {i:Nat} {p:Place}:c i=some p→VRel c (.map (some i)) (.map (some p.block))
 |func {f f':Fn} {xs ys xs' ys':List Value}:FRel c f f'→VRels c xs xs'→VRels c ys ys'→VRel c (.func f ⟨xs⟩ ⟨ys⟩) (.func f' ⟨xs'⟩ ⟨ys'⟩)
 |nilFunc:VRel c .nilFunc .nilFunc
 |iface {t:TypeId} {v v':Value}:VRel c v v'→VRel c (.iface t v) (.iface t v')
 |nilIface:VRel c .nilIface .nilIface
 |agg {xs xs':List Value}:VRels c xs xs'→VRel c (.agg ⟨xs⟩) (.agg ⟨xs'⟩)
 |tuple {xs xs':List Value}:VRels c xs xs'→VRel c (.tuple ⟨xs⟩) (.tuple ⟨xs'⟩)
inductive VRels (c:Ctx):List Value→List Value→Prop
 |nil:VRels c [] []
 |cons {v v':Value} {xs xs':List Value}:VRel c v v'→VRels c xs xs'→VRels c (v::xs) (v'::xs')
inductive FRel (c:Ctx):Fn→Fn→Prop
 |func (f:FuncId):FRel c (.func f) (.func f)
 |method (n:String):FRel c (.method n) (.method n)
 |methodOf (t:TypeId) (n:String):FRel c (.methodOf t n) (.methodOf t n)
 |yield {i:Nat} {p:Place}:c i=some p→FRel c (.yield i) (.yield p.block)
end
def Ctx.le (c c':Ctx):Prop:=∀i p,c i=some p→c' i=some p
theorem Ctx.le_refl (c:Ctx):c.le c:=fun _ _ h=>h
theorem Ctx.le_trans {a b c:Ctx} (h:a.le b) (k:b.le c):a.le c:=fun i p e=>k i p (h i p e)
theorem FRel.mono {c c':Ctx} (h:c.le c') {f f':Fn} (r:FRel c f f'):FRel c' f f':=by
 cases r with
 |func f=>exact .func f
 |method n=>exact .method n
 |methodOf t n=>exact .methodOf t n
 |yield e=>exact .yield (h _ _ e)
mutual
theorem VRel.mono {c c':Ctx} (h:c.le c'):∀{v v':Value},VRel c v v'→VRel c' v v'
 |_,_,.bool b=> .bool b
 |_,_,.int k n=> .int k n
 |_,_,.float k n=> .float k n
 |_,_,.string s=> .string s
 |_,_,.nilPtr=> .nilPtr
 |_,_,.ptr e=> .ptr (h _ _ e)
 |_,_,.nilSlice l n=> .nilSlice l n
 |_,_,.slice e=> .slice (h _ _ e)
 |_,_,.sliceX e x=> .sliceX (h _ _ e) x
 |_,_,.sliceZ e=> .sliceZ (h _ _ e)
 |_,_,.nilMap=> .nilMap
 |_,_,.map e=> .map (h _ _ e)
 |_,_,.func f a b=> .func (f.mono h) (VRels.mono h a) (VRels.mono h b)
 |_,_,.nilFunc=> .nilFunc
 |_,_,.iface a=> .iface (VRel.mono h a)
 |_,_,.nilIface=> .nilIface
 |_,_,.agg a=> .agg (VRels.mono h a)
 |_,_,.tuple a=> .tuple (VRels.mono h a)
theorem VRels.mono {c c':Ctx} (h:c.le c'):∀{v v':List Value},VRels c v v'→VRels c' v v'
 |_,_,.nil=> .nil
 |_,_,.cons a b=> .cons (VRel.mono h a) (VRels.mono h b)
end
theorem VRels.length {c:Ctx}:∀{xs ys:List Value},VRels c xs ys→xs.length=ys.length
 |_,_,.nil=>rfl
 |_,_,.cons _ b=>by simp [VRels.length b]
theorem VRels.get {c:Ctx}:∀{xs ys:List Value},VRels c xs ys→∀{k:Nat} {v:Value},xs[k]? =some v→∃v',ys[k]? =some v'∧VRel c v v'
 |_,_,.nil,k,v,h=>by simp at h
 |_,_,.cons a b,0,v,h=>by simp at h;subst h;exact ⟨_,rfl,a⟩
 |_,_,.cons a b,k+1,v,h=>by simpa using VRels.get b (by simpa using h)
theorem VRels.of_get {c:Ctx}:∀{xs ys:List Value},xs.length=ys.length→ (∀ (k:Nat) (v v':Value),xs[k]? =some v→ys[k]? =some v'→VRel c v v')→VRels c xs ys
 |[],[],_,_=> .nil
 |[],_::_,h,_=>by simp at h
 |_::_,[],h,_=>by simp at h
 |x::xs,y::ys,h,hh=> .cons (hh 0 x y rfl rfl) (VRels.of_get (by simpa using h) (fun k v v' a b=>hh (k+1) v v' (by simpa using a) (by simpa using b)))
theorem VRels.append {c:Ctx}:∀{xs ys xs' ys':List Value},VRels c xs xs'→VRels c ys ys'→VRels c (xs++ys) (xs'++ys')
 |_,_,_,_,.nil,h=>h
 |_,_,_,_,.cons a b,h=> .cons a (VRels.append b h)
theorem VRels.take {c:Ctx}:∀{xs xs':List Value} (n:Nat),VRels c xs xs'→VRels c (xs.take n) (xs'.take n)
 |_,_,0,_=>by simpa using VRels.nil
 |_,_,n+1,.nil=>by simpa using VRels.nil
 |_,_,n+1,.cons a b=>by simpa using VRels.cons a (VRels.take n b)
theorem VRels.drop {c:Ctx}:∀{xs xs':List Value} (n:Nat),VRels c xs xs'→VRels c (xs.drop n) (xs'.drop n)
 |_,_,0,h=>by simpa using h
 |_,_,n+1,.nil=>by simpa using VRels.nil
 |_,_,n+1,.cons a b=>by simpa using VRels.drop n b
structure CK where
 e:TypeId
 esz:Nat
 own:Bool
 fz:Nat
 glob:Option Nat:=none
def lk (t:Nat):List (Nat×Value)→Option Value
 |[]=>none
 |(k,v)::r=>if k=t then some v else lk t r
@[simp] theorem lk_nil (t:Nat):lk t []=none:=rfl
theorem lk_cons (t k:Nat) (v:Value) (r:List (Nat×Value)):lk t ((k,v)::r)=if k=t then some v else lk t r:=rfl
structure ALoop where
 state:LoopState
 pending:Option Code
 env:List (Nat×Value)
 n:Nat
 params:List Tmp
 assign:Code
 body:Code
inductive AObj where
 |dead
 |cells (cs:List Value) (k:CK)
 |loop (L:ALoop)
 |amap (es:List (Value×Value×Nat)) (clock:Nat) (own:Bool)
 |iter (m:Value) (since:Nat) (seen:List Nat) (last:Nat)
def AObj.own:AObj→Bool
 | .dead=>false
 | .cells _ k=>k.own
 | .loop _=>true
 | .amap _ _ own=>own
 | .iter _ _ _ _=>true
def AObj.live:AObj→Bool
 | .dead=>false
 |_=>true
abbrev AHeap:=List AObj
def CellsRel (c:Ctx) (cs:List Value) (arr:Array Value) (base:Nat):Prop:=
 ∀k v,cs[k]? =some v→∃v',arr[base+k]? =some v'∧VRel c v v'
def MapRel (c:Ctx) (es:List (Value×Value×Nat)) (ms:List MapEntry):Prop:=
 VRels c (es.map (·.1)) (ms.map (·.key))∧VRels c (es.map (·.2.1)) (ms.map (·.val))∧ms.map (·.born)=es.map (·.2.2)
def ORel (c:Ctx) (p:Place) (w:World):AObj→Prop
 | .dead=>True
 | .cells cs k=>p.size=cs.length∧p.esz=k.esz∧(k.esz=0→p.extra=0∧(k.own=true→p.base=0∧∀arr r,w.heap[p.block]? =some (.cells arr k.e r)→arr.size=cs.length))∧ (∀ n,k.glob=some n→p.block=n∧p.base=0∧∀arr r,w.heap[p.block]? =some (.cells arr k.e r)→arr.size=cs.length)∧∃arr lo hi,w.heap[p.block]? =some (.cells arr k.e (lo,hi))∧CellsRel c cs arr p.base∧
   p.base+p.size+p.extra*p.esz≤arr.size∧(k.own=true→∀off,p.base+k.fz≤off→(k.esz≠0→off<p.base+p.size+p.extra*p.esz)→¬(lo≤off∧off<hi))
 | .loop L=>∃r:Loop,w.heap[p.block]? =some (.loop r)∧r.state=L.state∧r.pending=L.pending∧r.params=⟨L.params⟩∧r.assign=L.assign∧r.body=L.body∧r.tmps.size=L.n∧∀t v,lk t L.env=some v→∃v',r.tmps[t]? =some v'∧VRel c v v'
 | .amap es clock _=>∃ms,w.heap[p.block]? =some (.map ms clock)∧MapRel c es ms.toList
 | .iter m since seen last=>p.base=0∧∃mm,w.heap[p.block]? =some (.mapIter mm since ⟨seen⟩ last)∧VRel c m (.map mm)
structure HRel (c:Ctx) (H:AHeap) (w:World):Prop where
 obj:∀i o,H[i]? =some o→o.live=true→∃p,c i=some p∧ORel c p w o
 sep:∀i j oi oj pi pj,i≠j→H[i]? =some oi→H[j]? =some oj→c i=some pi→c j=some pj→oi.own=true→oj.live=true→pi.block≠pj.block
 fresh:∀i,H.length≤i→c i=none
def Owns (c:Ctx) (H:AHeap) (b:Nat):Prop:=∃i o p,H[i]? =some o∧c i=some p∧o.own=true∧p.block=b
structure Trans (n:Nat) (c:Ctx) (H:AHeap) (w:World) (c':Ctx) (H':AHeap) (w':World):Prop where
 names:∀i p,i<n→c i=some p→c' i=some p
 tape:w'.tape=w.tape
 os:w'.os=w.os
 output:w'.output=w.output
 size:w.heap.size≤w'.heap.size
 frame:∀b,b<w.heap.size→¬Owns c H b→w'.heap[b]? =w.heap[b]?
 owned:∀b,Owns c' H' b→Owns c H b∨w.heap.size≤b
theorem Trans.refl (n:Nat) (c:Ctx) (H:AHeap) (w:World):Trans n c H w c H w:=
 ⟨fun _ _ _ h=>h,rfl,rfl,rfl,Nat.le_refl _,fun _ _ _=>rfl,fun _ h=> .inl h⟩
theorem Trans.trans {n:Nat} {c c' c'':Ctx} {H H' H'':AHeap} {w w' w'':World} (h:Trans n c H w c' H' w') (k:Trans n c' H' w' c'' H'' w''):Trans n c H w c'' H'' w'' where
 names i p hi e:=k.names i p hi (h.names i p hi e)
 tape:=k.tape.trans h.tape
 os:=k.os.trans h.os
 output:=k.output.trans h.output
 size:=Nat.le_trans h.size k.size
 frame b hb hn:=by
  rw [k.frame b (Nat.lt_of_lt_of_le hb h.size) (fun ho=> ?_),h.frame b hb hn]
  rcases h.owned b ho with h'|h'
  ·exact hn h'
  ·omega
 owned b ho:=by
  rcases k.owned b ho with h'|h'
  ·exact h.owned b h'
  ·exact .inr (Nat.le_trans h.size h')
theorem Trans.mono {n m:Nat} {c c':Ctx} {H H':AHeap} {w w':World} (h:Trans n c H w c' H' w') (hm:m≤n):Trans m c H w c' H' w':=
 {h with names:=fun i p hi e=>h.names i p (by omega) e}
theorem HRel.lt {c:Ctx} {H:AHeap} {w:World} (h:HRel c H w) {i:Nat} {p:Place} (e:c i=some p):i<H.length:=by
 rcases Nat.lt_or_ge i H.length with h'|h'
 ·exact h'
 ·rw [h.fresh i h'] at e;cases e
theorem Trans.le {c c':Ctx} {H H':AHeap} {w w':World} (h:Trans H.length c H w c' H' w') (hr:HRel c H w):c.le c':=
 fun i p e=>h.names i p (hr.lt e) e
theorem ORel.block_lt {c:Ctx} {p:Place} {w:World} {o:AObj} (hl:o.live=true) (h:ORel c p w o):p.block<w.heap.size:=by
 cases o with
 |dead=>cases hl
 |cells cs k=>obtain ⟨_,_,_,_,arr,lo,hi,hb,_⟩:=h;exact (Array.getElem?_eq_some_iff.1 hb).1
 |loop L=>obtain ⟨r,hb,_⟩:=h;exact (Array.getElem?_eq_some_iff.1 hb).1
 |amap es ck own=>obtain ⟨ms,hb,_⟩:=h;exact (Array.getElem?_eq_some_iff.1 hb).1
 |iter m s e l=>obtain ⟨_,ms,hb,_⟩:=h;exact (Array.getElem?_eq_some_iff.1 hb).1
theorem CellsRel.mono {c c':Ctx} (h:c.le c') {cs:List Value} {arr:Array Value} {base:Nat} (r:CellsRel c cs arr base):CellsRel c' cs arr base:=
 fun k v e=>let ⟨v',h1,h2⟩:=r k v e;⟨v',h1,h2.mono h⟩
theorem ORel.keep {c c':Ctx} (h:c.le c') {p:Place} {w w':World} {o:AObj} (hl:o.live=true) (hw:w'.heap[p.block]? =w.heap[p.block]?) (r:ORel c p w o):ORel c' p w' o:=by
 cases o with
 |dead=>trivial
 |cells cs k=>
  obtain ⟨h1,h2,hx,hg,arr,lo,hi,hb,hc,h3,h4⟩:=r
  exact ⟨h1,h2,fun e=>⟨(hx e).1,fun o=>⟨((hx e).2 o).1,fun a r hh=>((hx e).2 o).2 a r (hw.symm.trans hh)⟩⟩,fun n e=>⟨(hg n e).1,(hg n e).2.1,fun a r hh=>(hg n e).2.2 a r (hw.symm.trans hh)⟩,arr,lo,hi,hw.trans hb,hc.mono h,h3,h4⟩
 |loop L=>
  obtain ⟨r,hb,h1,h2,h3,h4,h5,h6,h7⟩:=r
  exact ⟨r,hw.trans hb,h1,h2,h3,h4,h5,h6,fun t v e=>let ⟨v',k1,k2⟩:=h7 t v e;⟨v',k1,k2.mono h⟩⟩
 |amap es ck own=>
  obtain ⟨ms,hb,h1,h2,h3⟩:=r
  exact ⟨ms,hw.trans hb,VRels.mono h h1,VRels.mono h h2,h3⟩
 |iter m s e l=>
  obtain ⟨h0,mm,hb,h1⟩:=r
  exact ⟨h0,mm,hw.trans hb,h1.mono h⟩
end Go.Aw

set_option linter.unusedVariables false
namespace Go.Aw
inductive ADef where
 |mark
 |call (f:Fn) (cap args:List Value)
inductive DRel (B:Nat) (c:Ctx) (H:AHeap) (w:World):List ADef→List Deferred→Prop
 |nil:B≤w.heap.size→DRel B c H w [] []
 | mark {D:Nat} {ds:List ADef} {ds':List Deferred}:B≤D→w.heap[D]? =some (.deferred (some []))→¬Owns c H D→ (∀ d∈ds',d.target≠ .collected D)→
   DRel B c H w ds ds'→DRel B c H w (.mark::ds) ({target:= .collected D,args:= #[]}::ds')
 | call {f f':Fn} {cap args cap' args':List Value} {ds:List ADef} {ds':List Deferred}:FRel c f f'→VRels c cap cap'→VRels c args args'→
   DRel B c H w ds ds'→DRel B c H w (.call f cap args::ds) ({target:= .fn f' ⟨cap'⟩,args:=⟨args'⟩}::ds')
structure ASt where
 env:List (Nat×Value)
 defs:List ADef
 H:AHeap
structure Fr where
 n:Nat
 B:Nat
theorem DRel.big {B:Nat} {c:Ctx} {H:AHeap} {w:World} {ds:List ADef} {ds':List Deferred} (h:DRel B c H w ds ds'):B≤w.heap.size:=by
 induction h with
 |nil hz=>exact hz
 |mark _ _ _ _ _ ih=>exact ih
 |call _ _ _ _ ih=>exact ih
theorem DRel.under {B:Nat} {c:Ctx} {H:AHeap} {w:World} {ds:List ADef} {ds':List Deferred} (h:DRel B c H w ds ds') {D:Nat} (hD:w.heap.size≤D):∀d∈ds',d.target≠ .collected D:=by
 induction h with
 |nil=>intro d hd;cases hd
 | mark hB hb hno hne _ ih=>
  intro d hd
  rcases List.mem_cons.1 hd with rfl|hd
  ·intro e
   cases e
   have:=(Array.getElem?_eq_some_iff.1 hb).1
   omega
  ·exact ih d hd
 |call hf h1 h2 _ ih=>
  intro d hd
  rcases List.mem_cons.1 hd with rfl|hd
  ·intro e;cases e
  ·exact ih d hd
structure SRel (N:Fr) (c:Ctx) (st:ASt) (w:World) (a:Act):Prop where
 heap:HRel c st.H w
 size:a.tmps.size=N.n
 tmps:∀t v,lk t st.env=some v→∃v',a.tmps[t]? =some v'∧VRel c v v'
 defs:DRel N.B c st.H w st.defs a.defers
theorem DRel.step {B n:Nat} {c c':Ctx} {H H':AHeap} {w w':World} (hle:c.le c') (ht:Trans n c H w c' H' w') {ds:List ADef} {ds':List Deferred} (h:DRel B c H w ds ds'):DRel B c' H' w' ds ds':=by
 induction h with
 |nil hz=>exact .nil (Nat.le_trans hz ht.size)
 |mark hB hb ho hne _ ih=>
  have hlt:_<w.heap.size:=(Array.getElem?_eq_some_iff.1 hb).1
  refine .mark hB ((ht.frame _ hlt ho).trans hb) (fun ho'=> ?_) hne ih
  rcases ht.owned _ ho' with h'|h'
  ·exact ho h'
  ·omega
 |call hf hc ha _ ih=>exact .call (hf.mono hle) (VRels.mono hle hc) (VRels.mono hle ha) ih
theorem SRel.step {N:Fr} {n:Nat} {c c':Ctx} {st:ASt} {H':AHeap} {w w':World} {a:Act} (h:SRel N c st w a) (hle:c.le c') (ht:Trans n c st.H w c' H' w') (hh:HRel c' H' w'):
  SRel N c' {st with H:=H'} w' a where
 heap:=hh
 size:=h.size
 tmps t v e:=let ⟨v',h1,h2⟩:=h.tmps t v e;⟨v',h1,h2.mono hle⟩
 defs:=h.defs.step hle ht
def ASt.put (st:ASt) (dst:Option Tmp) (v:Value):ASt:=
 match dst with
 |some d=>{st with env:=(d,v)::st.env}
 |none=>st
theorem SRel.put {N:Fr} {c:Ctx} {st:ASt} {w:World} {a:Act} (h:SRel N c st w a) {dst:Option Tmp} (hd:∀d,dst=some d→d<N.n) {v v':Value} (hv:VRel c v v'):
  SRel N c (st.put dst v) w (a.put dst v'):=by
 cases dst with
 |none=>exact h
 | some d=>
  have hd':=hd d rfl
  refine ⟨h.heap,by simpa [Act.put] using h.size,fun t u e=> ?_,h.defs⟩
  simp only [ASt.put,lk_cons] at e
  by_cases hdt:d=t
  ·subst hdt
   simp at e
   subst e
   exact ⟨v',by simp [Act.put,h.size,hd'],hv⟩
  ·rw [if_neg hdt] at e
   obtain ⟨u',h1,h2⟩:=h.tmps t u e
   exact ⟨u',by simp [Act.put,hdt,h1],h2⟩
inductive AExit where
 |normal
 |exit (id:Nat)
 |goto (l:Nat)
 |ret
 |panic (v:Value)
inductive XRel (c:Ctx):AExit→Exit→Prop
 |normal:XRel c .normal .normal
 |exit (id:Nat):XRel c (.exit id) (.exit id)
 |goto (l:Nat):XRel c (.goto l) (.goto l)
 |ret:XRel c .ret .ret
 |panic {v v':Value}:VRel c v v'→XRel c (.panic v) (.panic [{v:=v',recovered:=false}])
theorem XRel.mono {c c':Ctx} (h:c.le c') {x:AExit} {e:Exit} (r:XRel c x e):XRel c' x e:=by
 cases r with
 |normal=>exact .normal
 |exit id=>exact .exit id
 |goto l=>exact .goto l
 |ret=>exact .ret
 |panic hv=>exact .panic (hv.mono h)
structure Cfg where
 P:Program
 lr:Option Nat
 N:Fr
 n0:Nat
def fenceOf:Option Nat→Fence
 |none=>Fence.wide
 |some l=>Fence.wide.inRound l
theorem fenceOf_fn (lr:Option Nat) (f:FuncId):(fenceOf lr).fn f:=by cases lr<;> trivial
theorem fenceOf_depth (lr:Option Nat):(fenceOf lr).depth.isSome=true→1≤0:=by cases lr<;> simp [fenceOf,Fence.wide,Fence.inRound]
theorem fenceOf_round (lr:Option Nat):(fenceOf lr).round=lr:=by cases lr<;> rfl
def APost (g:Cfg) (Q:AExit→ASt→Prop) (c:Ctx) (H:AHeap) (w:World) (e:Exit) (a':Act) (w':World):Prop:=
 ∃x st' c',Q x st'∧XRel c' x e∧SRel g.N c' st' w' a'∧Trans g.n0 c H w c' st'.H w'
def AWP (g:Cfg) (code:Code) (Q:AExit→ASt→Prop) (st:ASt):Prop:=
 ∀c w a,SRel g.N c st w a→code.wpIn (fenceOf g.lr) 0 g.P (APost g Q c st.H w) a w
theorem APost.back {g:Cfg} {Q:AExit→ASt→Prop} {c c1:Ctx} {H H1:AHeap} {w w1:World} (ht:Trans g.n0 c H w c1 H1 w1) {e:Exit} {a:Act} {w':World}
  (h:APost g Q c1 H1 w1 e a w'):APost g Q c H w e a w':=
 let ⟨x,st',c',hq,hx,hs,ht'⟩:=h;⟨x,st',c',hq,hx,hs,ht.trans ht'⟩
theorem APost.mono {g:Cfg} {Q Q':AExit→ASt→Prop} (hq:∀x st,Q x st→Q' x st) {c:Ctx} {H:AHeap} {w:World} {e:Exit} {a:Act} {w':World}
  (h:APost g Q c H w e a w'):APost g Q' c H w e a w':=
 let ⟨x,st',c',h1,h2⟩:=h;⟨x,st',c',hq _ _ h1,h2⟩
theorem AWP.mono {g:Cfg} {code:Code} {Q Q':AExit→ASt→Prop} {st:ASt} (h:AWP g code Q st) (hq:∀x st,Q x st→Q' x st):AWP g code Q' st:=
 fun c w a hs=>wpIn_mono (h c w a hs) (fun _ _ _ hp=>hp.mono hq)
section rules
variable {g:Cfg} {Q:AExit→ASt→Prop} {st:ASt}
def next (K:ASt→Prop) (Q:AExit→ASt→Prop):AExit→ASt→Prop
 | .normal,st=>K st
 |x,st=>Q x st
def inBlock (id:Nat) (Q:AExit→ASt→Prop):AExit→ASt→Prop
 | .exit j,st=>if j=id then Q .normal st else Q (.exit j) st
 |x,st=>Q x st
theorem AWP.skip (h:Q .normal st):AWP g .skip Q st:=fun c w _ hs=>wpIn_skip ⟨.normal,st,c,h,.normal,hs,.refl _ _ _ _⟩
theorem AWP.label {l:Nat} (h:Q .normal st):AWP g (.label l) Q st:=fun c w _ hs=>wpIn_label ⟨.normal,st,c,h,.normal,hs,.refl _ _ _ _⟩
theorem AWP.exit {id:Nat} (h:Q (.exit id) st):AWP g (.exit id) Q st:=fun c w _ hs=>wpIn_exit ⟨.exit id,st,c,h,.exit id,hs,.refl _ _ _ _⟩
theorem AWP.goto {l:Nat} (h:Q (.goto l) st):AWP g (.goto l) Q st:=fun c w _ hs=>wpIn_goto ⟨.goto l,st,c,h,.goto l,hs,.refl _ _ _ _⟩
theorem AWP.ret (h:Q .ret st):AWP g .ret Q st:=fun c w _ hs=>wpIn_ret ⟨.ret,st,c,h,.ret,hs,.refl _ _ _ _⟩
theorem AWP.seq {x y:Code} (h:AWP g x (next (AWP g y Q) Q) st):AWP g (.seq x y) Q st:=by
 intro c w a hs
 refine wpIn_seq (wpIn_mono (h c w a hs) ?_)
 rintro e a1 w1 ⟨x1,st1,c1,hq,hx,hs1,ht⟩
 cases hx with
 |normal=>exact wpIn_mono (hq c1 w1 a1 hs1) (fun _ _ _ hp=>hp.back ht)
 |exit id=>exact ⟨_,st1,c1,hq,.exit id,hs1,ht⟩
 |goto l=>exact ⟨_,st1,c1,hq,.goto l,hs1,ht⟩
 |ret=>exact ⟨_,st1,c1,hq,.ret,hs1,ht⟩
 |panic hv=>exact ⟨_,st1,c1,hq,.panic hv,hs1,ht⟩
theorem AWP.block {id:Nat} {x:Code} (h:AWP g x (inBlock id Q) st):AWP g (.block id x) Q st:=by
 intro c w a hs
 refine wpIn_block (wpIn_mono (h c w a hs) ?_)
 rintro e a1 w1 ⟨x1,st1,c1,hq,hx,hs1,ht⟩
 cases hx with
 |normal=>exact ⟨_,st1,c1,hq,.normal,hs1,ht⟩
 |exit j=>
  simp only [inBlock] at hq
  simp only [Exit.inBlock]
  by_cases hj:j=id
  ·rw [if_pos hj] at hq ⊢;exact ⟨_,st1,c1,hq,.normal,hs1,ht⟩
  ·rw [if_neg hj] at hq ⊢;exact ⟨_,st1,c1,hq,.exit j,hs1,ht⟩
 |goto l=>exact ⟨_,st1,c1,hq,.goto l,hs1,ht⟩
 |ret=>exact ⟨_,st1,c1,hq,.ret,hs1,ht⟩
 |panic hv=>exact ⟨_,st1,c1,hq,.panic hv,hs1,ht⟩
def scalar:Value→Bool
 | .bool _| .int _ _| .float _ _| .string _| .pointer none| .slice none _ _| .map none| .nilFunc| .nilIface=>true
 |_=>false
theorem VRel.of_scalar {c:Ctx}:∀{v:Value},scalar v=true→VRel c v v
 | .bool b,_=> .bool b
 | .int k n,_=> .int k n
 | .float k n,_=> .float k n
 | .string s,_=> .string s
 | .pointer none,_=> .nilPtr
 | .slice none l n,_=> .nilSlice l n
 | .map none,_=> .nilMap
 | .nilFunc,_=> .nilFunc
 | .nilIface,_=> .nilIface
 | .pointer (some _),h| .slice (some _) _ _,h| .map (some _),h| .complex ..,h| .chan _,h| .func ..,h| .iface ..,h| .agg _,h| .tuple _,h=>by simp [scalar] at h
theorem VRels.of_scalars {c:Ctx}:∀{l:List Value},l.all scalar=true→VRels c l l
 |[],_=> .nil
 |v::l,h=>by simp at h;exact .cons (.of_scalar h.1) (VRels.of_scalars (by simpa using h.2))
theorem VRel.scalar_eq {c:Ctx} {v v':Value} (h:VRel c v v') (hs:scalar v=true):v'=v:=by
 cases h<;> first|rfl|(simp [scalar] at hs)
def plain:Value→Bool
 | .agg ⟨l⟩| .tuple ⟨l⟩=>l.all scalar
 | .iface _ v=>scalar v
 |v=>scalar v
theorem VRel.of_plain {c:Ctx} {v:Value} (h:plain v=true):VRel c v v:=by
 cases v with
 |agg cs=>obtain ⟨l⟩:=cs;exact .agg (VRels.of_scalars h)
 |tuple cs=>obtain ⟨l⟩:=cs;exact .tuple (VRels.of_scalars h)
 |iface t v=>exact .iface (.of_scalar h)
 |_=>exact .of_scalar h
def ev (st:ASt):Operand→Option Value
 | .tmp t=>lk t st.env
 | .const v=>if plain v then some v else none
 | .global n=>match st.H[n]? with
  |some (.cells _ k)=>if k.glob=some n then some (.pointer (some ⟨n,0,none⟩)) else none
  |_=>none
 | .func f=>some (.func (.func f) ⟨[]⟩ ⟨[]⟩)
theorem ev_rel {N:Fr} {c:Ctx} {w:World} {a:Act} (h:SRel N c st w a):∀{x:Operand} {v:Value},ev st x=some v→VRel c v (a.eval x):=by
 intro x v e
 cases x with
 |tmp t=>
  obtain ⟨v',h1,h2⟩:=h.tmps t v e
  simpa [Act.eval,Array.getD_eq_getD_getElem?,h1] using h2
 |const u=>
  simp only [ev] at e
  split at e
  ·rename_i hp;simp at e;subst e;exact .of_plain hp
  ·cases e
 | global n=>
  simp only [ev] at e
  split at e
  ·rename_i cs k ho
   split at e
   ·rename_i hg
    simp at e;subst e
    obtain ⟨p,hp,ho'⟩:=h.heap.obj n _ ho rfl
    obtain ⟨_,_,_,hg',_⟩:=ho'
    obtain ⟨hb,hz,_⟩:=hg' n hg
    have:=VRel.ptr (off:=0) hp
    rw [hb,hz] at this
    exact this
   ·cases e
  ·cases e
 |func f=>simp [ev] at e;subst e;exact .func (.func f) .nil .nil
theorem AWP.cond {x:Operand} {y z:Code} {b:Bool} (hc:ev st x=some (.bool b)) (h1:b=true→AWP g y Q st) (h2:b=false→AWP g z Q st):
  AWP g (.cond x y z) Q st:=by
 intro c w a hs
 have hv:=ev_rel hs hc
 generalize he:a.eval x=u at hv
 cases hv
 refine wpIn_cond_split he (fun h=>h1 h c w a hs) (fun h=>h2 h c w a hs)
theorem least {p:Nat→Prop} (h:∃k,p k):∃k,p k∧∀j,p j→k≤j:=by
 obtain ⟨n,hn⟩:=h
 induction n using Nat.strongRecOn with
 |_ n ih=>
  by_cases hm:∃m,m<n∧p m
  ·obtain ⟨m,hm,hp⟩:=hm;exact ih m hm hp
  ·exact ⟨n,hn,fun j hj=>by
    rcases Nat.lt_or_ge j n with h'|h'
    ·exact absurd ⟨j,h',hj⟩ hm
    ·exact h'⟩
open Classical in
theorem AWP.loop {x:Code} (I:ASt→Prop) (m:ASt→Nat) (h0:I st) (hr:∀s,I s→AWP g x (next (fun s'=>I s'∧m s'<m s) Q) s):AWP g (.loop x) Q st:=by
 intro c w a hs
 let fits:Nat→Act→World→Prop:=fun k a' w'=>∃s c',m s=k∧I s∧SRel g.N c' s w' a'∧Trans g.n0 c st.H w c' s.H w'
 let mu:Act→World→Nat:=fun a' w'=>if h:∃k,fits k a' w' then Classical.choose (least h) else 0
 refine wpIn_loop (fun a' w'=>∃k,fits k a' w') mu ⟨m st,st,c,rfl,h0,hs,.refl _ _ _ _⟩ ?_
 intro a1 w1 hf
 have hmu:mu a1 w1=Classical.choose (least hf):=by simp only [mu];rw [dif_pos hf]
 obtain ⟨s,c1,hm,hI,hs1,ht1⟩:=(Classical.choose_spec (least hf)).1
 refine wpIn_mono (hr s hI c1 w1 a1 hs1) ?_
 rintro e a2 w2 ⟨x2,s2,c2,hq,hx,hs2,ht2⟩
 cases hx with
 |normal=>
  have hf2:∃k,fits k a2 w2:=⟨m s2,s2,c2,rfl,hq.1,hs2,ht1.trans ht2⟩
  refine ⟨hf2,?_⟩
  have h2:mu a2 w2=Classical.choose (least hf2):=by simp only [mu];rw [dif_pos hf2]
  rw [hmu,h2]
  exact Nat.lt_of_le_of_lt ((Classical.choose_spec (least hf2)).2 _ ⟨s2,c2,rfl,hq.1,hs2,ht1.trans ht2⟩) (by rw [← hm];exact hq.2)
 |exit id=>exact ⟨_,s2,c2,hq,.exit id,hs2,ht1.trans ht2⟩
 |goto l=>exact ⟨_,s2,c2,hq,.goto l,hs2,ht1.trans ht2⟩
 |ret=>exact ⟨_,s2,c2,hq,.ret,hs2,ht1.trans ht2⟩
 |panic hv=>exact ⟨_,s2,c2,hq,.panic hv,hs2,ht1.trans ht2⟩
end rules
end Go.Aw

set_option linter.unusedVariables false
namespace Go.Aw
def Ctx.add (c:Ctx) (n:Nat) (p:Place):Ctx:=fun i=>if i=n then some p else c i
theorem Ctx.le_add {c:Ctx} {n:Nat} (p:Place) (h:c n=none):c.le (c.add n p):=by
 intro i q e
 unfold Ctx.add
 split
 ·rename_i hi;subst hi;rw [h] at e;cases e
 ·exact e
@[simp] theorem Ctx.add_self (c:Ctx) (n:Nat) (p:Place):c.add n p n=some p:=by simp [Ctx.add]
theorem Ctx.add_other (c:Ctx) {n i:Nat} (p:Place) (h:i≠n):c.add n p i=c i:=by simp [Ctx.add,h]
structure WSame (w w':World):Prop where
 tape:w'.tape=w.tape
 os:w'.os=w.os
 output:w'.output=w.output
theorem WSame.refl (w:World):WSame w w:=⟨rfl,rfl,rfl⟩
theorem HRel.extend {c:Ctx} {H:AHeap} {w w':World} (h:HRel c H w) (hs:WSame w w') (hsz:w.heap.size≤w'.heap.size) (hw:∀b,b<w.heap.size→w'.heap[b]? =w.heap[b]?)
  {p:Place} (hp:w.heap.size≤p.block) {o:AObj} (ho:ORel (c.add H.length p) p w' o) (n:Nat):
  HRel (c.add H.length p) (H++[o]) w'∧Trans n c H w (c.add H.length p) (H++[o]) w'∧c.le (c.add H.length p):=by
 have hle:c.le (c.add H.length p):=Ctx.le_add p (h.fresh _ (Nat.le_refl _))
 have old:∀i o',(H++[o])[i]? =some o'→i≠H.length→H[i]? =some o':=by
  intro i o' e hi
  have hlt:i<(H++[o]).length:=(List.getElem?_eq_some_iff.1 e).1
  rw [List.getElem?_append_left (by simp at hlt;omega)] at e
  exact e
 refine ⟨⟨?_,?_,?_⟩,⟨?_,hs.tape,hs.os,hs.output,hsz,fun b hb _=>hw b hb,?_⟩,hle⟩
 ·intro i o' e hl
  by_cases hi:i=H.length
  ·subst hi
   simp at e;subst e
   exact ⟨p,by simp,ho⟩
  ·obtain ⟨q,hq,hr⟩:=h.obj i o' (old i o' e hi) hl
   exact ⟨q,by rw [Ctx.add_other _ _ hi];exact hq,hr.keep hle hl (hw _ (hr.block_lt hl))⟩
 ·intro i j oi oj pi pj hij ei ej ci cj hoi hlj
  have hli:oi.live=true:=by cases oi<;> first|rfl|cases hoi
  have lt:∀k ok pk,k≠H.length→(H++[o])[k]? =some ok→c.add H.length p k=some pk→ok.live=true→pk.block<w.heap.size:=by
   intro k ok pk hk ek ck hlk
   rw [Ctx.add_other _ _ hk] at ck
   obtain ⟨q,hq,hr⟩:=h.obj k ok (old k ok ek hk) hlk
   rw [ck] at hq;cases hq
   exact hr.block_lt hlk
  by_cases h1:i=H.length
  ·subst h1
   simp at ci;subst ci
   have:=lt j oj pj (Ne.symm hij) ej cj hlj
   omega
  ·by_cases h2:j=H.length
   ·subst h2
    simp at cj;subst cj
    have:=lt i oi pi h1 ei ci hli
    omega
   ·rw [Ctx.add_other _ _ h1] at ci
    rw [Ctx.add_other _ _ h2] at cj
    exact h.sep i j oi oj pi pj hij (old i oi ei h1) (old j oj ej h2) ci cj hoi hlj
 ·intro i hi
  simp at hi
  rw [Ctx.add_other _ _ (by omega)]
  exact h.fresh i (by omega)
 ·intro i q _ e;exact hle i q e
 ·rintro b ⟨i,o',q,e,ci,ho',hb⟩
  by_cases hi:i=H.length
  ·subst hi;simp at ci;subst ci;subst hb;exact .inr hp
  ·rw [Ctx.add_other _ _ hi] at ci
   exact .inl ⟨i,o',q,old i o' e hi,ci,ho',hb⟩
theorem HRel.change {c:Ctx} {H:AHeap} {w w':World} (h:HRel c H w) (hs:WSame w w') (hsz:w'.heap.size=w.heap.size) {i:Nat} {o o':AObj} {p:Place} (hi:H[i]? =some o) (ho:o.own=true)
  (hc:c i=some p) (hw:∀b,b≠p.block→w'.heap[b]? =w.heap[b]?) (hr:ORel c p w' o') (hn:o'.live=true→o'.own=true) (n:Nat):
  HRel c (H.set i o') w'∧Trans n c H w c (H.set i o') w':=by
 have hlt:i<H.length:=(List.getElem?_eq_some_iff.1 hi).1
 have hlo:o.live=true:=by cases o<;> first|rfl|cases ho
 refine ⟨⟨?_,?_,?_⟩,⟨fun _ _ _ e=>e,hs.tape,hs.os,hs.output,by omega,?_,?_⟩⟩
 ·intro j oj e hl
  by_cases hj:j=i
  ·subst hj
   rw [List.getElem?_set_self hlt] at e;cases e
   exact ⟨p,hc,hr⟩
  ·rw [List.getElem?_set_ne (Ne.symm hj)] at e
   obtain ⟨q,hq,hrq⟩:=h.obj j oj e hl
   have hne:p.block≠q.block:=h.sep i j o oj p q (Ne.symm hj) hi e hc hq ho hl
   exact ⟨q,hq,hrq.keep (Ctx.le_refl c) hl (hw _ (Ne.symm hne))⟩
 ·intro a b oa ob pa pb hab ea eb ca cb hoa hlb
  by_cases h1:a=i
  ·subst h1
   rw [List.getElem?_set_ne hab] at eb
   rw [hc] at ca;cases ca
   exact h.sep a b o ob p pb hab hi eb hc cb ho hlb
  ·rw [List.getElem?_set_ne (Ne.symm h1)] at ea
   by_cases h2:b=i
   ·subst h2
    rw [hc] at cb;cases cb
    exact h.sep a b oa o pa p hab ea hi ca hc hoa hlo
   ·rw [List.getElem?_set_ne (Ne.symm h2)] at eb
    exact h.sep a b oa ob pa pb hab ea eb ca cb hoa hlb
 ·intro j hj;exact h.fresh j (by simpa using hj)
 ·intro b hb hno
  refine hw b (fun hbp=>hno ⟨i,o,p,hi,hc,ho,hbp.symm⟩)
 ·rintro b ⟨j,oj,q,e,cj,hoj,hb⟩
  by_cases hj:j=i
  ·subst hj;rw [hc] at cj;cases cj;exact .inl ⟨j,o,p,hi,hc,ho,hb⟩
  ·rw [List.getElem?_set_ne (Ne.symm hj)] at e
   exact .inl ⟨j,oj,q,e,cj,hoj,hb⟩
theorem HRel.same {c:Ctx} {H:AHeap} {w w':World} (h:HRel c H w) (hs:WSame w w') (hh:w'.heap=w.heap) (n:Nat):HRel c H w'∧Trans n c H w c H w':=by
 refine ⟨⟨fun i o e hl=> ?_,h.sep,h.fresh⟩,⟨fun _ _ _ e=>e,hs.tape,hs.os,hs.output,by rw [hh];exact Nat.le_refl _,fun b _ _=>by rw [hh],fun b hb=> .inl hb⟩⟩
 obtain ⟨p,hp,hr⟩:=h.obj i o e hl
 exact ⟨p,hp,hr.keep (Ctx.le_refl c) hl (by rw [hh])⟩
theorem HRel.drew {c:Ctx} {H:AHeap} {w:World} (h:HRel c H w) (n:Nat):HRel c H w.drew∧Trans n c H w c H w.drew:=h.same (w':=w.drew) ⟨rfl,rfl,rfl⟩ rfl n
theorem HRel.cell {c:Ctx} {H:AHeap} {w:World} (h:HRel c H w) {i:Nat} {cs:List Value} {k:CK} (hi:H[i]? =some (.cells cs k)) {p:Place} (hc:c i=some p) {off:Nat} {v:Value} (hv:cs[off]? =some v):
  ∃v',w.cell? ⟨p.block,p.base+off,none⟩=some v'∧VRel c v v':=by
 obtain ⟨q,hq,hr⟩:=h.obj i _ hi rfl
 rw [hc] at hq;cases hq
 obtain ⟨_,_,_,_,arr,lo,hi',hb,hcs,_,_⟩:=hr
 obtain ⟨v',h1,h2⟩:=hcs off v hv
 exact ⟨v',by simp [World.cell?,hb,h1],h2⟩
theorem WSame.setCell (w:World) (a:Addr) (v:Value):WSame w (w.setCell a v):=⟨rfl,rfl,rfl⟩
theorem HRel.setCell {c:Ctx} {H:AHeap} {w:World} (h:HRel c H w) {i:Nat} {cs:List Value} {k:CK} (hi:H[i]? =some (.cells cs k)) (hk:k.own=true) {p:Place} (hc:c i=some p)
  {off:Nat} (ho:off<cs.length) (hf:k.fz≤off) {v v':Value} (hv:VRel c v v') (n:Nat):
  (∃ u,w.cell? ⟨p.block,p.base+off,none⟩=some u)∧w.frozen? ⟨p.block,p.base+off,none⟩=false∧
  HRel c (H.set i (.cells (cs.set off v) k)) (w.setCell ⟨p.block,p.base+off,none⟩ v')∧
  Trans n c H w c (H.set i (.cells (cs.set off v) k)) (w.setCell ⟨p.block,p.base+off,none⟩ v'):=by
 obtain ⟨q,hq,hr⟩:=h.obj i _ hi rfl
 rw [hc] at hq;cases hq
 obtain ⟨h1,h2,hx,hgl,arr,lo,hi',hb,hcs,h3,h4⟩:=hr
 have hlt:p.base+off<arr.size:=by omega
 have hfr:¬(lo≤p.base+off∧p.base+off<hi'):=h4 hk _ (by omega) (by omega)
 refine ⟨⟨arr[p.base+off],by simp [World.cell?,hb,hlt]⟩,by simp only [World.frozen?,hb];simpa using hfr,?_⟩
 refine h.change (o:= .cells cs k) (o':= .cells (cs.set off v) k) (WSame.setCell _ _ _) (by simp [World.setCell]) hi hk hc (fun b hbn=>by simp only [World.setCell,Array.getElem?_modify];rw [if_neg (Ne.symm hbn)]) ?_ (fun _=>hk) n
 have hnew:(w.setCell ⟨p.block,p.base+off,none⟩ v').heap[p.block]? =some (.cells (arr.setIfInBounds (p.base+off) v') k.e (lo,hi')):=by simp [World.setCell,Array.getElem?_modify,hb]
 refine ⟨by simpa using h1,h2,fun e=>⟨(hx e).1,fun o=>⟨((hx e).2 o).1,fun a r hh=>by rw [hnew] at hh;cases hh;have:=((hx e).2 o).2 arr _ hb;simpa using this⟩⟩,fun n e=>⟨(hgl n e).1,(hgl n e).2.1,fun a r hh=> ?_⟩,arr.setIfInBounds (p.base+off) v',lo,hi',hnew,?_,by simpa using h3,h4⟩
 ·rw [hnew] at hh
  cases hh
  have:=(hgl n e).2.2 arr _ hb
  simpa using this
 ·intro j u e
  by_cases hj:j=off
  ·subst hj
   rw [List.getElem?_set_self ho] at e;cases e
   exact ⟨v',by simp [hlt],hv⟩
  ·rw [List.getElem?_set_ne (Ne.symm hj)] at e
   obtain ⟨u',e1,e2⟩:=hcs j u e
   exact ⟨u',by simp [e1,Array.getElem?_setIfInBounds];omega,e2⟩
theorem HRel.alloc {c:Ctx} {H:AHeap} {w:World} (h:HRel c H w) {cs cs':List Value} (hv:VRels c cs cs') (e:TypeId) (esz:Nat) (n:Nat):
  HRel (c.add H.length ⟨w.heap.size,0,cs.length,esz,0⟩) (H++ [.cells cs ⟨e,esz,true,0,none⟩]) (w.alloc (.cells ⟨cs'⟩ e (0,0)))∧
  Trans n c H w (c.add H.length ⟨w.heap.size,0,cs.length,esz,0⟩) (H++ [.cells cs ⟨e,esz,true,0,none⟩]) (w.alloc (.cells ⟨cs'⟩ e (0,0)))∧
  c.le (c.add H.length ⟨w.heap.size,0,cs.length,esz,0⟩):=by
 refine h.extend (w':=w.alloc (.cells ⟨cs'⟩ e (0,0))) (p:=⟨w.heap.size,0,cs.length,esz,0⟩) ⟨rfl,rfl,rfl⟩ (by simp) (fun b hb=>by simp only [World.alloc,Array.getElem?_push];rw [if_neg (by omega)]) (Nat.le_refl _) ?_ n
 have hnew:(w.alloc (.cells ⟨cs'⟩ e (0,0))).heap[w.heap.size]? =some (.cells ⟨cs'⟩ e (0,0)):=by show (w.heap.push _)[w.heap.size]? =_;simp
 refine ⟨rfl,rfl,fun _=>⟨rfl,fun _=>⟨rfl,fun a r hh=>by rw [hnew] at hh;cases hh;exact hv.length.symm⟩⟩,fun n h=>(by cases h),⟨cs'⟩,0,0,hnew,?_,?_,?_⟩
 ·intro k v e
  obtain ⟨v',h1,h2⟩:=hv.get e
  exact ⟨v',by simpa using h1,h2.mono (Ctx.le_add _ (h.fresh _ (Nat.le_refl _)))⟩
 ·simp [hv.length]
 ·intro _ off _ _;omega
end Go.Aw

set_option linter.unusedVariables false
namespace Go.Aw
def wth {α :Type} (x:Option α) (f:α→Prop):Prop:=
 match x with
 |some a=>f a
 |none=>False
theorem wth_some {α :Type} (a:α) (f:α→Prop):wth (some a) f=f a:=rfl
theorem wth_elim {α :Type} {x:Option α} {f:α→Prop} (h:wth x f):∃a,x=some a∧f a:=by
 cases x with
 |none=>exact h.elim
 |some a=>exact ⟨a,rfl,h⟩
def cellsOf (v:Value):List Value:=v.cells.toList
theorem cellsOf_agg (l:List Value):cellsOf (.agg ⟨l⟩)=l:=rfl
theorem cellsOf_int (k:IntKind) (n:Int):cellsOf (.int k n)= [.int k n]:=rfl
theorem cellsOf_bool (b:Bool):cellsOf (.bool b)= [.bool b]:=rfl
theorem cellsOf_string (s:ByteArray):cellsOf (.string s)= [.string s]:=rfl
theorem cellsOf_pointer (a:Option Addr):cellsOf (.pointer a)= [.pointer a]:=rfl
theorem cellsOf_slice (a:Option Addr) (n m:Nat):cellsOf (.slice a n m)= [.slice a n m]:=rfl
theorem cellsOf_map (a:Option Nat):cellsOf (.map a)= [.map a]:=rfl
theorem cellsOf_func (f:Fn) (x y:Array Value):cellsOf (.func f x y)= [.func f x y]:=rfl
theorem cellsOf_nilFunc:cellsOf .nilFunc= [.nilFunc]:=rfl
theorem cellsOf_iface (t:TypeId) (v:Value):cellsOf (.iface t v)= [.iface t v]:=rfl
theorem cellsOf_nilIface:cellsOf .nilIface= [.nilIface]:=rfl
theorem VRel.cells {c:Ctx} {v v':Value} (h:VRel c v v'):VRels c (cellsOf v) (cellsOf v'):=by
 cases h<;> first
  |(rename_i h;exact h)
  |exact .cons (by constructor<;> assumption) .nil
  |(rename_i a b;exact .cons (.sliceX a b) .nil)
  |(rename_i a;exact .cons (.sliceZ a) .nil)
def tS (P:Program) (t:TypeId):Option Nat:=(P.info? t).map (·.size)
def tB (P:Program) (t:TypeId):Option Nat:=(P.info? t).map (·.bytes)
def tZ (P:Program) (t:TypeId):Option (List Value):=(P.info? t).bind fun i=>i.zero.map cellsOf
def tA (P:Program) (t:TypeId):Option Bool:=(P.underlying t).map fun| .struct _| .array _ _=>true|_=>false
theorem run_sizeOf {P:Program} {t:TypeId} {n:Nat} (h:tS P t=some n) (w:World):(sizeOf t).run P w= .ok n w:=by
 unfold tS at h
 cases hi:P.info? t with
 |none=>rw [hi] at h;cases h
 |some i=>rw [hi] at h;simp at h;subst h;simp [sizeOf,typeInfo,hi]
theorem run_isAgg {P:Program} {t:TypeId} {b:Bool} (h:tA P t=some b) (w:World):(isAgg t).run P w= .ok b w:=by
 unfold tA at h
 cases hu:P.underlying t with
 |none=>rw [hu] at h;cases h
 |some d=>
  rw [hu] at h;simp only [Option.map_some,Option.some.injEq] at h
  simp only [isAgg,Sem.run_bind,run_underlying hu,Result.andThen_ok]
  cases d<;> (subst h;rfl)
theorem run_zeroValue {P:Program} {t:TypeId} {z:List Value} (h:tZ P t=some z) (w:World):∃v,(zeroValue t).run P w= .ok v w∧cellsOf v=z:=by
 unfold tZ at h
 cases hi:P.info? t with
 |none=>rw [hi] at h;cases h
 |some i=>
  rw [hi] at h
  cases hz:i.zero with
  |none=>simp [hz] at h
  |some v=>simp [hz] at h;exact ⟨v,by simp [zeroValue,typeInfo,hi,hz],h⟩
def Gives (P:Program) (s:Sem Value) (c:Ctx) (H:AHeap) (w:World) (K:Value→AHeap→Prop):Prop:=
 ∃v' w',s.run P w= .ok v' w'∧∃v H' c',K v H'∧VRel c' v v'∧c.le c'∧HRel c' H' w'∧∀n,Trans n c H w c' H' w'
theorem Gives.pure {P:Program} {s:Sem Value} {c:Ctx} {H:AHeap} {w:World} {K:Value→AHeap→Prop} (h:HRel c H w) {v v':Value} (hr:s.run P w= .ok v' w) (hv:VRel c v v') (hk:K v H):
  Gives P s c H w K:=⟨v',w,hr,v,H,c,hk,hv,Ctx.le_refl c,h,fun n=> .refl n c H w⟩
abbrev ptrTo (i off:Nat):Value:= .pointer (some ⟨i,off,none⟩)
def allocW (P:Program) (e:TypeId) (H:AHeap) (K:Value→AHeap→Prop):Prop:=
 wth (tZ P e) fun z=>z.all scalar=true∧K (ptrTo H.length 0) (H++ [.cells z ⟨e,0,true,0,none⟩])
theorem allocW_ok {P:Program} {e:TypeId} {c:Ctx} {H:AHeap} {w:World} {K:Value→AHeap→Prop} (h:HRel c H w) (hw:allocW P e H K):Gives P (Instr.alloc e true (.tuple #[])) c H w K:=by
 obtain ⟨z,hz,hs,hk⟩:=wth_elim hw
 obtain ⟨v,hv,hc⟩:=run_zeroValue hz w
 obtain ⟨h1,h2,h3⟩:=h.alloc (VRels.of_scalars hs) e 0 0
 refine ⟨.pointer (some ⟨w.heap.size,0,none⟩),_,?_,_,_,_,hk,?_,h3,h1,fun n=>(h.alloc (VRels.of_scalars hs) e 0 n).2.1⟩
 ·simp only [Instr.alloc,Sem.run_bind,hv,Result.andThen_ok]
  simp only [newVar,newRow,Sem.run_bind,run_newObj,Result.andThen_ok,Sem.run_pure]
  rw [← hc]
  rfl
 ·exact .ptr (p:=⟨w.heap.size,0,z.length,0,0⟩) (by simp)
def boxW (e:TypeId) (v:Value) (H:AHeap) (K:Value→AHeap→Prop):Prop:=K (ptrTo H.length 0) (H++ [.cells (cellsOf v) ⟨e,0,true,0,none⟩])
theorem boxW_ok {P:Program} {e:TypeId} {c:Ctx} {H:AHeap} {w:World} {K:Value→AHeap→Prop} (h:HRel c H w) {v v':Value} (hv:VRel c v v') (hw:boxW e v H K):Gives P (Instr.box e v') c H w K:=by
 obtain ⟨h1,h2,h3⟩:=h.alloc hv.cells e 0 0
 refine ⟨.pointer (some ⟨w.heap.size,0,none⟩),_,?_,_,_,_,hw,?_,h3,h1,fun n=>(h.alloc hv.cells e 0 n).2.1⟩
 ·simp only [Instr.box,newVar,newRow,Sem.run_bind,run_newObj,Result.andThen_ok,Sem.run_pure]
  rfl
 ·exact .ptr (p:=⟨w.heap.size,0,(cellsOf v).length,0,0⟩) (by simp)
theorem run_cells {P:Program} {w:World} {b o:Nat}:∀{l l':List Value} (acc:Array Value) (i:Nat),(∀ j v',l'[j]? =some v'→w.cell? ⟨b,o+i+j,none⟩=some v')→
  (loadCellsFrom ⟨b,o,none⟩ i l'.length acc).run P w= .ok (acc++l'.toArray) w:=by
 intro l l'
 induction l' with
 |nil=>intro acc i _;simp [loadCellsFrom]
 |cons v l' ih=>
  intro acc i h
  have h0:=h 0 v rfl
  have ha:(⟨b,o,none⟩:Addr).add i=⟨b,o+i,none⟩:=by unfold Addr.add;split<;> simp_all
  simp only [List.length_cons,loadCellsFrom,Sem.run_bind,run_load,ha]
  rw [show o+i=o+i+0 from rfl,h0]
  simp only [Result.andThen_ok]
  rw [ih (acc.push v) (i+1) (fun j v' e=>by have:=h (j+1) v' (by simpa using e);rwa [show o+i+(j+1)=o+(i+1)+j from by omega] at this)]
  simp
theorem HRel.cellsAt' {c:Ctx} {H:AHeap} {w:World} (h:HRel c H w) {i:Nat} {cs:List Value} {k:CK} (hi:H[i]? =some (.cells cs k)) {p:Place} (hc:c i=some p) (off n:Nat) (hn:off+n≤cs.length):
  ∃l',l'.length=n∧VRels c ((cs.drop off).take n) l'∧∀j v',l'[j]? =some v'→w.cell? ⟨p.block,p.base+off+j,none⟩=some v':=by
 have hcell:∀j (hj:j<n),∃v',w.cell? ⟨p.block,p.base+(off+j),none⟩=some v'∧VRel c (cs[off+j]'(by omega)) v':=fun j hj=>h.cell hi hc (List.getElem?_eq_getElem (by omega))
 refine ⟨(List.finRange n).map fun j=>Classical.choose (hcell j.1 j.2),by simp,?_,?_⟩
 ·refine VRels.of_get (by simp;omega) (fun k v v' e e'=> ?_)
  have hk:k<n:=by have:=(List.getElem?_eq_some_iff.1 e').1;simpa using this
  rw [List.getElem?_take_of_lt hk,List.getElem?_drop,List.getElem?_eq_getElem (by omega)] at e
  cases e
  simp [hk] at e'
  subst e'
  exact (Classical.choose_spec (hcell k hk)).2
 ·intro j v' e
  have hj:j<n:=by have:=(List.getElem?_eq_some_iff.1 e).1;simpa using this
  simp [hj] at e
  subst e
  have:=(Classical.choose_spec (hcell j hj)).1
  rwa [show p.base+off+j=p.base+(off+j) from by omega]
theorem HRel.cellsAt {c:Ctx} {H:AHeap} {w:World} (h:HRel c H w) {i:Nat} {cs:List Value} {k:CK} (hi:H[i]? =some (.cells cs k)) {p:Place} (hc:c i=some p) (off n:Nat) (hn:off+n≤cs.length):
  ∃l',l'.length=n∧VRels c ((cs.drop off).take n) l'∧∀(P:Program) (acc:Array Value),(loadCellsFrom ⟨p.block,p.base+off,none⟩ 0 n acc).run P w= .ok (acc++l'.toArray) w:=by
 obtain ⟨l',hl,hv,hcell⟩:=h.cellsAt' hi hc off n hn
 refine ⟨l',hl,hv,fun P acc=> ?_⟩
 rw [← hl]
 exact run_cells (l:=[]) acc 0 (fun j v' e=>by simpa using hcell j v' e)
def loadW (P:Program) (t:TypeId) (a:Value) (H:AHeap) (K:Value→AHeap→Prop):Prop:=
 match a with
 | .pointer (some ⟨i,off,none⟩)=>
  match H[i]? with
  | some (.cells cs _)=>wth (tA P t) fun agg=>
    if agg=true then wth (tS P t) fun n=>off+n≤cs.length∧K (.agg ⟨(cs.drop off).take n⟩) H
    else wth cs[off]? fun v=>K v H
  |_=>False
 |_=>False
theorem loadW_ok {P:Program} {t:TypeId} {c:Ctx} {H:AHeap} {w:World} {K:Value→AHeap→Prop} (h:HRel c H w) {a a':Value} (ha:VRel c a a') (hw:loadW P t a H K):Gives P (Instr.loadAt t a') c H w K:=by
 unfold loadW at hw
 split at hw
 ·rename_i i off
  split at hw
  ·rename_i cs k hi
   obtain ⟨agg,hagg,hw⟩:=wth_elim hw
   cases ha with
   | ptr hc=>
    rename_i p
    have hsure:∀w,(Instr.sureAddr (.pointer (some ⟨p.block,p.base+off,none⟩))).run P w= .ok ⟨p.block,p.base+off,none⟩ w:=fun _=>rfl
    cases agg with
    |true=>
     simp only [if_true] at hw
     obtain ⟨n,hn,hle,hk⟩:=wth_elim hw
     obtain ⟨l',hl',hv,hrun⟩:=h.cellsAt hi hc off n hle
     refine .pure h (v':= .agg ⟨l'⟩) ?_ (.agg hv) hk
     simp only [Instr.loadAt,loadVar,Sem.run_bind,hsure,Result.andThen_ok,run_isAgg hagg,if_true,run_sizeOf hn,loadCells,hrun,Sem.run_pure]
     simp
    |false=>
     simp only [Bool.false_eq_true,if_false] at hw
     obtain ⟨v,hv,hk⟩:=wth_elim hw
     obtain ⟨v',hc1,hc2⟩:=h.cell hi hc hv
     refine .pure h (v':=v') ?_ hc2 hk
     simp only [Instr.loadAt,loadVar,Sem.run_bind,hsure,Result.andThen_ok,run_isAgg hagg,Bool.false_eq_true,if_false,run_load,hc1]
  ·exact hw.elim
 ·exact hw.elim
def putCells (cs:List Value) (off:Nat):List Value→List Value
 |[]=>cs
 |v::r=>putCells (cs.set off v) (off+1) r
theorem putCells_length (l:List Value):∀(cs:List Value) (off:Nat),(putCells cs off l).length=cs.length:=by
 induction l with
 |nil=>intro cs off;rfl
 |cons v r ih=>intro cs off;simp [putCells,ih]
def ownW (k:CK) (off:Nat):Prop:=k.own=true∧k.fz≤off
theorem oneCell_of {c:Ctx} {v v':Value} (h:VRel c v v') (hv: (∀ l,v≠ .agg l)∧∀l,v≠ .tuple l):v'.oneCell'=true:=by
 cases h<;> first
  |rfl
  |exact absurd rfl (hv.1 _)
  |exact absurd rfl (hv.2 _)
def flat:Value→Bool
 | .agg _| .tuple _=>false
 |_=>true
theorem flat_ne {v:Value} (h:flat v=true): (∀ l,v≠ .agg l)∧∀l,v≠ .tuple l:=by
 constructor<;> (intro l e;subst e;cases h)
theorem run_storeCellsA {P:Program} {c:Ctx} {i:Nat} {k:CK} {p:Place} (hk:k.own=true) (hc:c i=some p):∀{l l':List Value},VRels c l l'→l.all flat=true→∀(cs:List Value) (H:AHeap) (w:World) (off j:Nat),HRel c H w→H[i]? =some (.cells cs k)→off+j+l.length≤cs.length→k.fz≤off+j→
  ∃w',(storeCells ⟨p.block,p.base+off,none⟩ l' j).run P w= .ok () w'∧HRel c (H.set i (.cells (putCells cs (off+j) l) k)) w'∧∀n,Trans n c H w c (H.set i (.cells (putCells cs (off+j) l) k)) w'
 | _,_,.nil,_,cs,H,w,off,j,h,hi,_,_=>by
  have hlt:i<H.length:=(List.getElem?_eq_some_iff.1 hi).1
  have:H.set i (.cells cs k)=H:=by
   apply List.ext_getElem?
   intro m
   by_cases hm:m=i
   ·subst hm;rw [List.getElem?_set_self hlt,hi]
   ·rw [List.getElem?_set_ne (Ne.symm hm)]
  simp only [putCells,this]
  exact ⟨w,rfl,h,fun n=> .refl n c H w⟩
 | v::l,v'::l',.cons hv hvs,hfl,cs,H,w,off,j,h,hi,hle,hf=>by
  simp only [List.all_cons,Bool.and_eq_true] at hfl
  simp only [List.length_cons] at hle
  have hlt:i<H.length:=(List.getElem?_eq_some_iff.1 hi).1
  have ha:(⟨p.block,p.base+off,none⟩:Addr).add j=⟨p.block,p.base+(off+j),none⟩:=by unfold Addr.add;split<;> simp_all<;> omega
  obtain ⟨⟨u,hu⟩,hfr,h1,ht1⟩:=h.setCell hi hk hc (off:=off+j) (by omega) hf hv 0
  have hone:=oneCell_of hv (flat_ne hfl.1)
  obtain ⟨w',hr,h2,ht2⟩:=run_storeCellsA (P:=P) hk hc hvs (by simpa using hfl.2) (cs.set (off+j) v) _ _ off (j+1) h1 (List.getElem?_set_self hlt) (by simp;omega) (by omega)
  refine ⟨w',?_,?_,fun n=> ?_⟩
  ·simp only [storeCells,Sem.run_bind,ha]
   rw [run_store P w _ v' .plain hone,hu]
   simp only [hfr,Bool.false_eq_true,if_false,Result.andThen_ok]
   exact hr
  ·simpa [List.set_set,putCells,Nat.add_assoc] using h2
  ·have t1:=(h.setCell hi hk hc (off:=off+j) (by omega) hf hv n).2.2.2
   have:=t1.trans (ht2 n)
   simpa [List.set_set,putCells,Nat.add_assoc] using this
def storeW (P:Program) (t:TypeId) (a v:Value) (H:AHeap) (K:AHeap→Prop):Prop:=
 match a with
 | .pointer (some ⟨i,off,none⟩)=>
  match H[i]? with
  |some (.cells cs k)=>tS P t=some (cellsOf v).length∧(cellsOf v).all flat=true∧ownW k off∧off+(cellsOf v).length≤cs.length∧K (H.set i (.cells (putCells cs off (cellsOf v)) k))
  |_=>False
 |_=>False
theorem storeW_ok {P:Program} {t:TypeId} {c:Ctx} {H:AHeap} {w:World} {K:AHeap→Prop} (h:HRel c H w) {a a' v v':Value} (ha:VRel c a a') (hv:VRel c v v') (hw:storeW P t a v H K):
  ∃w' H',(Instr.storeAt t a' v').run P w= .ok () w'∧K H'∧HRel c H' w'∧∀n,Trans n c H w c H' w':=by
 unfold storeW at hw
 split at hw
 ·rename_i i off
  split at hw
  ·rename_i cs k hi
   obtain ⟨hs,hfl,⟨hk,hf⟩,hle,hkk⟩:=hw
   cases ha with
   |ptr hc=>
    rename_i p
    obtain ⟨w',hr,h1,ht⟩:=run_storeCellsA (P:=P) hk hc hv.cells hfl cs H w off 0 h hi (by omega) (by omega)
    refine ⟨w',_,?_,hkk,by simpa using h1,by simpa using ht⟩
    have hsure:∀w,(Instr.sureAddr (.pointer (some ⟨p.block,p.base+off,none⟩))).run P w= .ok ⟨p.block,p.base+off,none⟩ w:=fun _=>rfl
    have hsz:v'.cells.size=(cellsOf v).length:=by rw [hv.cells.length];rfl
    simp only [Instr.storeAt,storeVar,Sem.run_bind,hsure,Result.andThen_ok,run_sizeOf hs,hsz,ne_eq,not_true_eq_false,if_false]
    exact hr
  ·exact hw.elim
 ·exact hw.elim
end Go.Aw

set_option linter.unusedVariables false
namespace Go.Aw
def bs (l:List UInt8):ByteArray:=⟨⟨l⟩⟩
theorem bs_size (l:List UInt8):(bs l).size=l.length:=rfl
theorem bs_append (a b:List UInt8):bs a++bs b=bs (a++b):=by
 show ByteArray.append _ _=_
 apply ByteArray.ext
 simp [bs]
theorem toList_bs (l:List UInt8):(bs l).toList=l:=by rw [ByteArray.toList_eq];rfl
theorem bs_extract (l:List UInt8) (i j:Nat):(bs l).extract i j=bs ((l.take j).drop i):=by
 apply ByteArray.ext
 simp [bs,List.drop_take]
def bitV (op:BinOp) (k:IntKind) (a b:Int):Option Int:=
 let x:=BitVec.ofInt k.bits a
 let y:=BitVec.ofInt k.bits b
 match op with
 | .and=>some (k.wrap (x &&& y).toNat)
 | .or=>some (k.wrap (x ||| y).toNat)
 | .xor=>some (k.wrap (x ^^^ y).toNat)
 | .andNot=>some (k.wrap (x &&& ~~~y).toNat)
 |_=>none
def eqFs (f:TypeId→Value→Value→Option Bool) (P:Program) (xs ys:List Value):List Field→Option Bool
 |[]=>some true
 | fd::r=>
  if fd.name= "_" then eqFs f P xs ys r
  else match tA P fd.type,tS P fd.type with
   |some true,some n=>(f fd.type (.agg ⟨(xs.drop fd.offset).take n⟩) (.agg ⟨(ys.drop fd.offset).take n⟩)).bind fun b=>(eqFs f P xs ys r).map (b&& ·)
   |some false,some _=>xs[fd.offset]?.bind fun x=>ys[fd.offset]?.bind fun y=>(f fd.type x y).bind fun b=>(eqFs f P xs ys r).map (b&& ·)
   |_,_=>none
def eqA (f:TypeId→Value→Value→Option Bool) (P:Program) (e:TypeId) (c:Nat) (xs ys:List Value):List Nat→Option Bool
 |[]=>some true
 |i::r=>match tA P e with
  |some true=>(f e (.agg ⟨(xs.drop (i*c)).take c⟩) (.agg ⟨(ys.drop (i*c)).take c⟩)).bind fun b=>(eqA f P e c xs ys r).map (b&& ·)
  |some false=>xs[i*c]?.bind fun x=>ys[i*c]?.bind fun y=>(f e x y).bind fun b=>(eqA f P e c xs ys r).map (b&& ·)
  |none=>none
def eqV (P:Program):Nat→TypeId→Value→Value→Option Bool
 |0,_,_,_=>none
 | d+1,t,x,y=>
  match P.underlying t,x,y with
  |some .bool,.bool a,.bool b=>some (a==b)
  |some (.int _),.int k a,.int k' b=>if k=k' then some (a==b) else none
  |some .string,.string a,.string b=>some (a==b)
  |some (.pointer _),.pointer none,.pointer b=>some b.isNone
  |some (.pointer _),.pointer (some _),.pointer none=>some false
  |some (.interface _),.nilIface,.nilIface=>some true
  |some (.interface _),.nilIface,.iface _ _=>some false
  |some (.interface _),.iface _ _,.nilIface=>some false
  |some (.slice _),.slice none _ _,.slice b _ _=>some b.isNone
  |some (.slice _),.slice (some _) _ _,.slice none _ _=>some false
  |some (.map _ _),.map none,.map b=>some b.isNone
  |some (.map _ _),.map (some _),.map none=>some false
  |some (.func _ _ _),.nilFunc,.nilFunc=>some true
  |some (.func _ _ _),.nilFunc,.func _ _ _=>some false
  |some (.func _ _ _),.func _ _ _,.nilFunc=>some false
  |some (.struct fs),.agg ⟨xs⟩,.agg ⟨ys⟩=>if P.stoodInHeld t=true then none else eqFs (eqV P d) P xs ys fs.toList
  |some (.array n e),.agg ⟨xs⟩,.agg ⟨ys⟩=>match tS P e with
   |some c=>eqA (eqV P d) P e c xs ys (List.range n)
   |none=>none
  |_,_,_=>none
theorem part_ok {c:Ctx} {P:Program} {t:TypeId} {xs xs':List Value} (h:VRels c xs xs') {off:Nat} (w:World):
  (∀ n,tA P t=some true→tS P t=some n→∃x',(part t ⟨xs'⟩ off).run P w= .ok x' w∧VRel c (.agg ⟨(xs.drop off).take n⟩) x')∧
  (∀ x,tA P t=some false→xs[off]? =some x→∃x',(part t ⟨xs'⟩ off).run P w= .ok x' w∧VRel c x x'):=by
 constructor
 ·intro n ha hn
  refine ⟨.agg ⟨(xs'.drop off).take n⟩,?_,.agg (VRels.take n (VRels.drop off h))⟩
  simp only [part,Sem.run_bind,run_isAgg ha,Result.andThen_ok,if_true,run_sizeOf hn,Sem.run_pure]
  have:(⟨xs'⟩:Array Value).extract off (off+n)=⟨(xs'.drop off).take n⟩:=by
   apply Array.ext'
   simp
  rw [this]
 ·intro x ha hx
  obtain ⟨x',h1,h2⟩:=h.get hx
  refine ⟨x',?_,h2⟩
  simp only [part,Sem.run_bind,run_isAgg ha,Result.andThen_ok,Bool.false_eq_true,if_false]
  simp [h1]
set_option maxHeartbeats 2000000 in
theorem eqV_ok {P:Program} {c:Ctx} {w:World}:∀{d:Nat} {t:TypeId} {x y x' y':Value} {b:Bool},eqV P d t x y=some b→VRel c x x'→VRel c y y'→∀m,(Op.equalIn (d+m) t x' y').run P w= .ok b w:=by
 intro d
 induction d with
 |zero=>intro t x y x' y' b h;simp [eqV] at h
 | succ d ih=>
  intro t x y x' y' b h hx hy m
  rw [show d+1+m=(d+m)+1 from by omega]
  unfold eqV at h
  split at h<;> try (cases h;done)
  ·rename_i hu;cases hx;cases hy;simp at h;subst h;simp [Op.equalIn,run_underlying hu]
  ·rename_i hu;cases hx;cases hy;split at h<;> simp at h;subst h;rename_i hk;subst hk;simp [Op.equalIn,run_underlying hu]
  ·rename_i hu;cases hx;cases hy;simp at h;subst h;simp [Op.equalIn,run_underlying hu]
  ·rename_i hu;cases hx;cases hy<;> (simp at h;subst h;simp [Op.equalIn,run_underlying hu])
  ·rename_i hu;cases hx;cases hy;simp at h;subst h;simp [Op.equalIn,run_underlying hu]
  ·rename_i hu;cases hx;cases hy;simp at h;subst h;simp [Op.equalIn,run_underlying hu]
  ·rename_i hu;cases hx;cases hy;simp at h;subst h;simp [Op.equalIn,run_underlying hu]
  ·rename_i hu;cases hx;cases hy;simp at h;subst h;simp [Op.equalIn,run_underlying hu]
  ·rename_i hu;cases hx;cases hy<;> (simp at h;subst h;simp [Op.equalIn,run_underlying hu])
  ·rename_i hu;cases hx<;> cases hy<;> (simp at h;subst h;simp [Op.equalIn,run_underlying hu])
  ·rename_i hu;cases hx;cases hy<;> (simp at h;subst h;simp [Op.equalIn,run_underlying hu])
  ·rename_i hu;cases hx;cases hy;simp at h;subst h;simp [Op.equalIn,run_underlying hu]
  ·rename_i hu;cases hx;cases hy;simp at h;subst h;simp [Op.equalIn,run_underlying hu]
  ·rename_i hu;cases hx;cases hy;simp at h;subst h;simp [Op.equalIn,run_underlying hu]
  ·rename_i hu;cases hx;cases hy;simp at h;subst h;simp [Op.equalIn,run_underlying hu]
  ·rename_i fs xs ys hu
   cases hx with
   |agg hxs=>
   cases hy with
   |agg hys=>
   rename_i xs' ys'
   split at h
   ·cases h
   ·rename_i hst
    have hf:P.fieldsOf t=fs:=by simp [Program.fieldsOf,hu]
    rw [run_equalIn_struct w (d+m) t _ _ (by rw [hf];exact hu) (by simpa using hst),hf]
    generalize fs.toList=l at h
    clear hf hu hst
    induction l generalizing b with
    |nil=>simp [eqFs] at h;subst h;rfl
    | cons fd r ihr=>
     simp only [eqFs] at h
     simp only [Op.eqFields]
     by_cases hn:fd.name= "_"
     ·rw [if_pos hn] at h
      simp only [hn,ne_eq,not_true_eq_false,if_false]
      exact ihr h
     ·rw [if_neg hn] at h
      simp only [ne_eq,hn,not_false_eq_true,if_true]
      split at h
      ·rename_i n ha hs
       cases he:eqV P d fd.type (.agg ⟨(xs.drop fd.offset).take n⟩) (.agg ⟨(ys.drop fd.offset).take n⟩) with
       |none=>simp [he] at h
       | some b1=>
        simp only [he,Option.bind_some] at h
        cases her:eqFs (eqV P d) P xs ys r with
        |none=>simp [her] at h
        |some b2=>
         simp [her] at h
         obtain ⟨x',hx1,hx2⟩:=(part_ok hxs w).1 n ha hs
         obtain ⟨y',hy1,hy2⟩:=(part_ok hys w).1 n ha hs
         have:=ih he hx2 hy2 m
         simp only [Sem.run_bind,hx1,hy1,this,Result.andThen_ok]
         cases b1 with
         |false=>simp at h;subst h;simp
         |true=>simp at h;subst h;simp;exact ihr her
      ·rename_i n ha hs
       cases hx0:xs[fd.offset]? with
       |none=>simp [hx0] at h
       |some x0=>
       cases hy0:ys[fd.offset]? with
       |none=>simp [hx0,hy0] at h
       |some y0=>
       simp only [hx0,hy0,Option.bind_some] at h
       cases he:eqV P d fd.type x0 y0 with
       |none=>simp [he] at h
       | some b1=>
        simp only [he,Option.bind_some] at h
        cases her:eqFs (eqV P d) P xs ys r with
        |none=>simp [her] at h
        |some b2=>
         simp [her] at h
         obtain ⟨x',hx1,hx2⟩:=(part_ok hxs w).2 x0 ha hx0
         obtain ⟨y',hy1,hy2⟩:=(part_ok hys w).2 y0 ha hy0
         have:=ih he hx2 hy2 m
         simp only [Sem.run_bind,hx1,hy1,this,Result.andThen_ok]
         cases b1 with
         |false=>simp at h;subst h;simp
         |true=>simp at h;subst h;simp;exact ihr her
      ·cases h
  ·rename_i n e xs ys hu
   cases hx with
   |agg hxs=>
   cases hy with
   |agg hys=>
   rename_i xs' ys'
   split at h
   ·rename_i c hc
    obtain ⟨i,hi,hic⟩:∃i,P.info? e=some i∧i.size=c:=by
     unfold tS at hc
     cases hi:P.info? e with
     |none=>rw [hi] at hc;cases hc
     |some i=>rw [hi] at hc;exact ⟨i,rfl,by simpa using hc⟩
    have hcell:P.cellsOf e=c:=by simp [Program.cellsOf,hi,hic]
    rw [run_equalIn_array (w:=w) (d+m) _ _ hu hi,hcell]
    generalize List.range n=l at h
    clear hu
    induction l generalizing b with
    |nil=>simp [eqA] at h;subst h;rfl
    | cons j r ihr=>
     simp only [eqA] at h
     simp only [Op.eqItems]
     split at h
     ·rename_i ha
      cases he:eqV P d e (.agg ⟨(xs.drop (j*c)).take c⟩) (.agg ⟨(ys.drop (j*c)).take c⟩) with
      |none=>simp [he] at h
      | some b1=>
       simp only [he,Option.bind_some] at h
       cases her:eqA (eqV P d) P e c xs ys r with
       |none=>simp [her] at h
       |some b2=>
        simp [her] at h
        obtain ⟨x',hx1,hx2⟩:=(part_ok hxs w).1 c ha hc
        obtain ⟨y',hy1,hy2⟩:=(part_ok hys w).1 c ha hc
        have:=ih he hx2 hy2 m
        simp only [Sem.run_bind,hx1,hy1,this,Result.andThen_ok]
        cases b1 with
        |false=>simp at h;subst h;simp
        |true=>simp at h;subst h;simp;exact ihr her
     ·rename_i ha
      cases hx0:xs[j*c]? with
      |none=>simp [hx0] at h
      |some x0=>
      cases hy0:ys[j*c]? with
      |none=>simp [hx0,hy0] at h
      |some y0=>
      simp only [hx0,hy0,Option.bind_some] at h
      cases he:eqV P d e x0 y0 with
      |none=>simp [he] at h
      | some b1=>
       simp only [he,Option.bind_some] at h
       cases her:eqA (eqV P d) P e c xs ys r with
       |none=>simp [her] at h
       |some b2=>
        simp [her] at h
        obtain ⟨x',hx1,hx2⟩:=(part_ok hxs w).2 x0 ha hx0
        obtain ⟨y',hy1,hy2⟩:=(part_ok hys w).2 y0 ha hy0
        have:=ih he hx2 hy2 m
        simp only [Sem.run_bind,hx1,hy1,this,Result.andThen_ok]
        cases b1 with
        |false=>simp at h;subst h;simp
        |true=>simp at h;subst h;simp;exact ihr her
     ·cases h
   ·cases h
end Go.Aw

set_option linter.unusedVariables false
set_option linter.unusedSimpArgs false
namespace Go.Aw
def intW (op:BinOp) (k:IntKind) (m:Int) (j:IntKind) (n:Int) (K:Value→Prop):Prop:=
  match op with
  | .shl=>0≤n∧K (.int k (k.wrap (m*2 ^ min n.toNat k.bits)))
  | .shr=>0≤n∧K (.int k (m.fdiv (2 ^ min n.toNat k.bits)))
  | .add=>k=j∧K (.int k (k.wrap (m+n)))
  | .sub=>k=j∧K (.int k (k.wrap (m - n)))
  | .mul=>k=j∧K (.int k (k.wrap (m*n)))
  | .quo=>k=j∧n≠0∧K (.int k (k.wrap (m.tdiv n)))
  | .rem=>k=j∧n≠0∧K (.int k (m.tmod n))
  | .and=>k=j∧wth (bitV .and k m n) fun r=>K (.int k r)
  | .or=>k=j∧wth (bitV .or k m n) fun r=>K (.int k r)
  | .xor=>k=j∧wth (bitV .xor k m n) fun r=>K (.int k r)
  | .andNot=>k=j∧wth (bitV .andNot k m n) fun r=>K (.int k r)
  | .eql=>k=j∧K (.bool (m==n))
  | .neq=>k=j∧K (.bool (m != n))
  | .lss=>k=j∧K (.bool (decide (m<n)))
  | .leq=>k=j∧K (.bool (decide (m≤n)))
  | .gtr=>k=j∧K (.bool (decide (m>n)))
  | .geq=>k=j∧K (.bool (decide (m≥n)))
theorem intW_ok {P:Program} {op:BinOp} {k j:IntKind} {m n:Int} {K:Value→Prop} (t:TypeId) (h:intW op k m j n K) (w:World):
    ∃v,(binOp op t (.int k m) (.int j n)).run P w= .ok v w∧scalar v=true∧K v:=by
  cases op
  case shl=>obtain ⟨h0,hk⟩:=h;exact ⟨_,by simp only [binOp,Op.shift];rw [if_neg (by omega)];rfl,rfl,hk⟩
  case shr=>obtain ⟨h0,hk⟩:=h;exact ⟨_,by simp only [binOp,Op.shift];rw [if_neg (by omega)];rfl,rfl,hk⟩
  case quo=>obtain ⟨rfl,h0,hk⟩:=h;exact ⟨_,by simp [binOp,Op.intDiv,h0],rfl,hk⟩
  case rem=>obtain ⟨rfl,h0,hk⟩:=h;exact ⟨_,by simp [binOp,Op.intDiv,h0],rfl,hk⟩
  all_goals
    obtain ⟨rfl,hk⟩:=h
    exact ⟨_,by simp [binOp,Op.intArith,Op.intBits,Op.intCmp,Sem.run_pure],rfl,hk⟩
def strW (op:BinOp) (a b:ByteArray) (K:Value→Prop):Prop:=
  match op with
  | .add=>a.size+b.size≤9223372036854775807∧K (.string (a++b))
  | .eql=>K (.bool (a.toList==b.toList))
  | .neq=>K (.bool (!(a.toList==b.toList)))
  | .lss=>K (.bool (Op.bytesLess a.toList b.toList))
  | .leq=>K (.bool (Op.bytesLess a.toList b.toList||a.toList==b.toList))
  | .gtr=>K (.bool (!(Op.bytesLess a.toList b.toList||a.toList==b.toList)))
  | .geq=>K (.bool (!(Op.bytesLess a.toList b.toList)))
  |_=>False
theorem strW_ok {P:Program} {op:BinOp} {a b:ByteArray} {K:Value→Prop} (t:TypeId) (h:strW op a b K) (w:World):
    ∃v,(binOp op t (.string a) (.string b)).run P w= .ok v w∧scalar v=true∧K v:=by
  cases op
  case add=>obtain ⟨h0,hk⟩:=h;exact ⟨_,by simp only [binOp];exact run_string_add_sum w a b h0,rfl,hk⟩
  all_goals first
    |exact h.elim
    |exact ⟨_,by simp [binOp,Op.stringOp,Sem.run_pure],rfl,h⟩
def isConst:Operand→Bool
  | .const _=>true
  |_=>false
def guardW (P:Program) (t:TypeId) (x y:Operand):Value→Value→Prop
  | .nilIface,.nilIface=>(isConst x||isConst y)=true
  | .agg _,.agg _=>P.eqGuardType P.depth t=false
  |_,_=>True
theorem guardW_ok {P:Program} {c:Ctx} {op:BinOp} {t:TypeId} {x y:Operand} {a b a' b':Value} (h:guardW P t x y a b) (ha:VRel c a a') (hb:VRel c b b') (w:World):
    (eqGuard op t x y a' b').run P w= .ok () w:=by
  cases op<;> first
    |rfl
    | (simp only [eqGuard,Bool.not_true,Bool.false_eq_true,if_false]
       cases ha <;> first
         |rfl
         |(cases hb<;> first
             |rfl
             |(cases x<;> cases y<;> first
                 |(simp [guardW,isConst] at h;done)
                 |rfl)
             |(simp only [guardW] at h;simp [h])))
def binW (P:Program) (op:BinOp) (t:TypeId) (x y:Operand) (a b:Value) (K:Value→Prop):Prop:=
  match a,b with
  | .int k m,.int j n=>intW op k m j n K
  | .string a,.string b=>strW op a b K
  | a,b=>
    match op with
    | .eql=>guardW P t x y a b∧wth (eqV P 20 t a b) fun r=>K (.bool r)
    | .neq=>guardW P t x y a b∧wth (eqV P 20 t a b) fun r=>K (.bool (!r))
    |_=>False
theorem binOp_eql {P:Program} {c:Ctx} {t:TypeId} {a b a' b':Value} {r:Bool} (h:eqV P 20 t a b=some r) (ha:VRel c a a') (hb:VRel c b b') (w:World) (hi:∀k m j n,a'= .int k m→b'= .int j n→False) (hs:∀k m,a'= .string k→b'= .string m→False):
    (binOp .eql t a' b').run P w= .ok (.bool r) w∧(binOp .neq t a' b').run P w= .ok (.bool (!r)) w:=by
  have he:(Op.equal t a' b').run P w= .ok r w:=by
    have:=eqV_ok (w:=w) h ha hb 9980
    exact this
  have e1:binOp .eql t a' b'=(do pure (.bool (← Op.equal t a' b'))):=by
    cases ha<;> cases hb<;> first
      |rfl
      |exact (hi _ _ _ _ rfl rfl).elim
      |exact (hs _ _ rfl rfl).elim
      |(simp [eqV] at h;done)
  have e2:binOp .neq t a' b'=(do pure (.bool (!(← Op.equal t a' b')))):=by
    cases ha<;> cases hb<;> first
      |rfl
      |exact (hi _ _ _ _ rfl rfl).elim
      |exact (hs _ _ rfl rfl).elim
      |(simp [eqV] at h;done)
  rw [e1,e2]
  simp [he]
theorem binW_ok {P:Program} {c:Ctx} {op:BinOp} {t:TypeId} {x y:Operand} {a b a' b':Value} {K:Value→Prop} (h:binW P op t x y a b K) (ha:VRel c a a') (hb:VRel c b b') (w:World):
    ∃v,(do eqGuard op t x y a' b';binOp op t a' b':Sem Value).run P w= .ok v w∧scalar v=true∧K v:=by
  unfold binW at h
  split at h
  · rename_i k m j n
    cases ha;cases hb
    obtain ⟨v,h1,h2⟩:=intW_ok (P:=P) t h w
    have:(eqGuard op t x y (.int k m) (.int j n)).run P w= .ok () w:=guardW_ok (c:=c) (a:= .int k m) (b:= .int j n) trivial (.int k m) (.int j n) w
    exact ⟨v,by simp only [Sem.run_bind,this,Result.andThen_ok,h1],h2⟩
  · rename_i s1 s2
    cases ha;cases hb
    obtain ⟨v,h1,h2⟩:=strW_ok (P:=P) t h w
    have:(eqGuard op t x y (.string s1) (.string s2)).run P w= .ok () w:=guardW_ok (c:=c) (a:= .string s1) (b:= .string s2) trivial (.string s1) (.string s2) w
    exact ⟨v,by simp only [Sem.run_bind,this,Result.andThen_ok,h1],h2⟩
  · rename_i hni hns
    have hi:∀k m j n,a'= .int k m→b'= .int j n→False:=by
      intro k m j n e1 e2;subst e1;subst e2;cases ha;cases hb;exact hni _ _ _ _ rfl rfl
    have hs:∀k m,a'= .string k→b'= .string m→False:=by
      intro k m e1 e2;subst e1;subst e2;cases ha;cases hb;exact hns _ _ rfl rfl
    split at h
    · obtain ⟨hg,h⟩:=h
      obtain ⟨r,hr,hk⟩:=wth_elim h
      exact ⟨.bool r,by simp only [Sem.run_bind,guardW_ok hg ha hb w,Result.andThen_ok,(binOp_eql hr ha hb w hi hs).1],rfl,hk⟩
    · obtain ⟨hg,h⟩:=h
      obtain ⟨r,hr,hk⟩:=wth_elim h
      exact ⟨.bool (!r),by simp only [Sem.run_bind,guardW_ok hg ha hb w,Result.andThen_ok,(binOp_eql hr ha hb w hi hs).2],rfl,hk⟩
    · exact h.elim
def unW (op:UnOp) (a:Value) (K:Value→Prop):Prop:=
  match op,a with
  | .neg,.int k n=>K (.int k (k.wrap (0 - n)))
  | .xor,.int k n=>wth (bitV .xor k (if k.signed then -1 else k.max) n) fun r=>K (.int k r)
  | .not,.bool b=>K (.bool (!b))
  |_,_=>False
theorem unW_ok {P:Program} {c:Ctx} {op:UnOp} {a a':Value} {K:Value→Prop} (h:unW op a K) (ha:VRel c a a') (w:World):∃v,(Op.unary op a').run P w= .ok v w∧scalar v=true∧K v:=by
  unfold unW at h
  split at h
  · cases ha;exact ⟨_,by simp [Op.unary,Op.intArith],rfl,h⟩
  · cases ha;exact ⟨_,by simp [Op.unary,Op.intBits],rfl,h⟩
  · cases ha;exact ⟨_,by simp [Op.unary],rfl,h⟩
  · exact h.elim
def tF (P:Program) (t:TypeId) (n:Nat):Option (Nat×TypeId):=
  match P.underlying t with
  |some (.struct fs)=>fs[n]?.map fun f=>(f.offset,f.type)
  |_=>none
def isZero:Option Nat→Bool
  |some 0=>true
  |none=>true
  |_=>false
def fieldAddrW (P:Program) (t:TypeId) (a:Value) (f:Nat) (H:AHeap) (K:Value→AHeap→Prop):Prop:=
  match a with
  | .pointer (some ⟨i,off,none⟩)=>wth (tF P t f) fun p=>isZero (tS P p.2)=false∧K (.pointer (some ⟨i,off+p.1,none⟩)) H
  |_=>False
theorem addr_add (b o n:Nat):(⟨b,o,none⟩:Addr).add n=⟨b,o+n,none⟩:=by unfold Addr.add;split<;> simp_all
theorem fieldAddrW_ok {P:Program} {t:TypeId} {f:Nat} {c:Ctx} {H:AHeap} {w:World} {K:Value→AHeap→Prop} (h:HRel c H w) {a a':Value} (ha:VRel c a a') (hw:fieldAddrW P t a f H K):Gives P (Instr.fieldAt t a' f) c H w K:=by
  unfold fieldAddrW at hw
  split at hw
  · obtain ⟨p,hp,hz,hk⟩:=wth_elim hw
    cases ha with
    | ptr hc=>
      unfold tF at hp
      split at hp
      · rename_i fs hu
        cases hf:fs[f]? with
        |none=>rw [hf] at hp;cases hp
        | some fd=>
          rw [hf] at hp;simp only [Option.map_some,Option.some.injEq] at hp;subst hp
          cases hs:tS P fd.type with
          |none=>simp only [hs] at hz;cases hz
          | some n=>
            simp only [hs] at hz
            have hn:n≠0:=by rintro rfl;cases hz
            refine .pure h (v':=_) ?_ (.ptr (off:=_+fd.offset) hc) hk
            simp only [Instr.fieldAt,Sem.run_bind,run_underlying hu,Result.andThen_ok,hf,Instr.sureAddr,Sem.run_pure,fieldPlace,run_sizeOf hs,hn,if_false,addr_add,Nat.add_assoc]
      · cases hp
  · exact hw.elim
def partW (P:Program) (t:TypeId) (cs:List Value) (off:Nat) (K:Value→Prop):Prop:=
  wth (tA P t) fun agg=>if agg=true then wth (tS P t) fun n=>K (.agg ⟨(cs.drop off).take n⟩) else wth cs[off]? K
theorem partW_ok {P:Program} {t:TypeId} {c:Ctx} {cs cs':List Value} {off:Nat} {K:Value→Prop} (h:partW P t cs off K) (hc:VRels c cs cs') (w:World):∃v v',(part t ⟨cs'⟩ off).run P w= .ok v' w∧VRel c v v'∧K v:=by
  obtain ⟨agg,ha,h⟩:=wth_elim h
  cases agg with
  | true=>
    simp only [if_true] at h
    obtain ⟨n,hn,hk⟩:=wth_elim h
    obtain ⟨x',h1,h2⟩:=(part_ok hc w).1 n ha hn
    exact ⟨_,x',h1,h2,hk⟩
  | false=>
    simp only [Bool.false_eq_true,if_false] at h
    obtain ⟨x,hx,hk⟩:=wth_elim h
    obtain ⟨x',h1,h2⟩:=(part_ok hc w).2 x ha hx
    exact ⟨_,x',h1,h2,hk⟩
def fieldW (P:Program) (t:TypeId) (a:Value) (f:Nat) (H:AHeap) (K:Value→AHeap→Prop):Prop:=
  match a with
  | .agg ⟨cs⟩=>wth (tF P t f) fun p=>partW P p.2 cs p.1 fun v=>K v H
  |_=>False
theorem fieldW_ok {P:Program} {t:TypeId} {f:Nat} {c:Ctx} {H:AHeap} {w:World} {K:Value→AHeap→Prop} (h:HRel c H w) {a a':Value} (ha:VRel c a a') (hw:fieldW P t a f H K):Gives P (Instr.field t a' f) c H w K:=by
  unfold fieldW at hw
  split at hw
  · obtain ⟨p,hp,hk⟩:=wth_elim hw
    cases ha with
    | agg hcs=>
      unfold tF at hp
      split at hp
      · rename_i fs hu
        cases hf:fs[f]? with
        |none=>rw [hf] at hp;cases hp
        | some fd=>
          rw [hf] at hp;simp only [Option.map_some,Option.some.injEq] at hp;subst hp
          obtain ⟨v,v',h1,h2,h3⟩:=partW_ok hk hcs w
          refine .pure h (v':=v') ?_ h2 h3
          simp only [Instr.field,Sem.run_bind,run_underlying hu,Result.andThen_ok,hf,asAgg,Sem.run_pure,h1]
      · cases hp
  · exact hw.elim
def indexAddrW (P:Program) (t:TypeId) (a ix:Value) (H:AHeap) (K:Value→AHeap→Prop):Prop:=
  match ix with
  | .int _ n=>
    match P.underlying t with
    | some (.array len e)=>
      (match a with
      | .pointer (some ⟨i,off,none⟩)=>wth (tS P e) fun s=>(0≤n∧n<len)∧K (.pointer (some ⟨i,off+n.toNat*s,none⟩)) H
      |_=>False)
    | some (.slice e)=>
      (match a with
      | .slice (some ⟨i,off,none⟩) len _=>wth (tS P e) fun s=>(0≤n∧n<len)∧K (.pointer (some ⟨i,off+n.toNat*s,none⟩)) H
      |_=>False)
    |_=>False
  |_=>False
theorem indexAddrW_ok {P:Program} {t:TypeId} {c:Ctx} {H:AHeap} {w:World} {K:Value→AHeap→Prop} (h:HRel c H w) {a a' x x':Value} (ha:VRel c a a') (hx:VRel c x x') (hw:indexAddrW P t a x H K):Gives P (Instr.indexAt t a' x') c H w K:=by
  unfold indexAddrW at hw
  split at hw
  · cases hx
    split at hw
    · rename_i len e hu
      split at hw
      · obtain ⟨s,hs,hb,hk⟩:=wth_elim hw
        cases ha with
        | ptr hc=>
          refine .pure h (v':=_) ?_ (.ptr hc) hk
          simp only [Instr.indexAt,asIntOf,Sem.run_bind,Sem.run_pure,Result.andThen_ok,run_underlying hu,Instr.sureAddr,hb,and_self,if_true,run_sizeOf hs,addr_add,Nat.add_assoc]
      · exact hw.elim
    · rename_i e hu
      split at hw
      · obtain ⟨s,hs,hb,hk⟩:=wth_elim hw
        cases ha with
        | slice hc=>
          refine .pure h (v':=_) ?_ (.ptr hc) hk
          simp only [Instr.indexAt,asIntOf,Sem.run_bind,Sem.run_pure,Result.andThen_ok,run_underlying hu,hb,and_self,if_true,run_sizeOf hs,addr_add,Nat.add_assoc]
        | sliceX hc hsx=>
          refine .pure h (v':=_) ?_ (.ptr hc) hk
          simp only [Instr.indexAt,asIntOf,Sem.run_bind,Sem.run_pure,Result.andThen_ok,run_underlying hu,hb,and_self,if_true,run_sizeOf hs,addr_add,Nat.add_assoc]
        |sliceZ hc=>omega
      · exact hw.elim
    · exact hw.elim
  · exact hw.elim
def indexW (P:Program) (t:TypeId) (a ix:Value) (H:AHeap) (K:Value→AHeap→Prop):Prop:=
  match ix with
  | .int _ n=>
    match P.underlying t with
    | some (.array len e)=>
      (match a with
      | .agg ⟨cs⟩=>wth (tS P e) fun s=>(0≤n∧n<len)∧partW P e cs (n.toNat*s) fun v=>K v H
      |_=>False)
    | some .string=>
      (match a with
      | .string s=>0≤n∧wth s.data.toList[n.toNat]? fun b=>K (.int .u8 b.toNat) H
      |_=>False)
    |_=>False
  |_=>False
theorem indexW_ok {P:Program} {t:TypeId} {c:Ctx} {H:AHeap} {w:World} {K:Value→AHeap→Prop} (h:HRel c H w) {a a' x x':Value} (ha:VRel c a a') (hx:VRel c x x') (hw:indexW P t a x H K):Gives P (Instr.index t a' x') c H w K:=by
  unfold indexW at hw
  split at hw
  · rename_i q n
    cases hx
    split at hw
    · rename_i len e hu
      split at hw
      · obtain ⟨s,hs,hb,hk⟩:=wth_elim hw
        cases ha with
        | agg hcs=>
          obtain ⟨v,v',h1,h2,h3⟩:=partW_ok hk hcs w
          refine .pure h (v':=v') ?_ h2 h3
          simp only [Instr.index,asIntOf,Sem.run_bind,Sem.run_pure,Result.andThen_ok,run_underlying hu,hb,and_self,if_true,run_sizeOf hs,h1]
      · exact hw.elim
    · rename_i hu
      split at hw
      · rename_i s
        obtain ⟨h0,hw⟩:=hw
        obtain ⟨b,hb,hk⟩:=wth_elim hw
        cases ha
        refine .pure h (v':= .int .u8 b.toNat) ?_ (.int _ _) hk
        have hlt:n.toNat<s.size:=by have:=(List.getElem?_eq_some_iff.1 hb).1;simpa using this
        have hg:s[n.toNat]? =some b:=by
          rw [getElem?_pos s n.toNat hlt]
          have:=(List.getElem?_eq_some_iff.1 hb).2
          rw [← this]
          rfl
        simp only [Instr.index,asIntOf,Sem.run_bind,Sem.run_pure,Result.andThen_ok,run_underlying hu,h0,if_true,hg]
      · exact hw.elim
    · exact hw.elim
  · exact hw.elim
def lowOf:Option Value→Option Int
  |none=>some 0
  |some (.int _ n)=>some n
  |_=>none
def highOf (d:Nat):Option Value→Option Int
  |none=>some d
  |some (.int _ n)=>some n
  |_=>none
def tight (H:AHeap) (i s:Nat):Prop:=
  match H[i]? with
  |some (.cells _ k)=>k.esz=s∨k.esz=0
  |_=>False
def sliceW (P:Program) (t:TypeId) (a:Value) (lo hi mx:Option Value) (H:AHeap) (K:Value→AHeap→Prop):Prop:=
  match P.underlying t with
  | some .string=>
    (match a,mx with
    | .string s,none=>wth (lowOf lo) fun l=>wth (highOf s.size hi) fun h=>(0≤l∧l≤h∧h≤s.size)∧K (.string (s.extract l.toNat h.toNat)) H
    |_,_=>False)
  | some (.slice e)=>
    (match a with
    | .slice none len cap=>wth (lowOf lo) fun l=>wth (highOf len hi) fun h=>wth (highOf cap mx) fun m=>(0≤l∧l≤h∧h≤m∧m≤cap)∧(mx.isSome=true→hi.isSome=true)∧(tS P e).isSome=true∧K (.slice none (h.toNat - l.toNat) (m.toNat - l.toNat)) H
    | .slice (some ⟨i,off,none⟩) len cap=>wth (tS P e) fun s=>wth (lowOf lo) fun l=>wth (highOf len hi) fun h=>
        (match mx with
        |none=>(0≤l∧l≤h∧h≤cap)∧tight H i s∧K (.slice (some ⟨i,off+l.toNat*s,none⟩) (h.toNat - l.toNat) (cap - l.toNat)) H
        |some (.int _ m)=>(0≤l∧l≤h∧h≤m∧m≤cap)∧hi.isSome=true∧K (.slice (some ⟨i,if m=l then off else off+l.toNat*s,none⟩) (h.toNat - l.toNat) (m.toNat - l.toNat)) H
        |_=>False)
    |_=>False)
  | some (.array n e)=>
    (match a,mx with
    | .pointer (some ⟨i,off,none⟩),none=>wth (tS P e) fun s=>wth (lowOf lo) fun l=>wth (highOf n hi) fun h=>
        (0≤l∧l≤h∧h≤n)∧K (.slice (some ⟨i,off+l.toNat*s,none⟩) (h.toNat - l.toNat) (n - l.toNat)) H
    |_,_=>False)
  |_=>False
inductive ORels (c:Ctx):Option Value→Option Value→Prop
  |none:ORels c .none .none
  |some {v v':Value}:VRel c v v'→ORels c (.some v) (.some v')
theorem run_bound {P:Program} {k:IntKind} {n:Int} {y:Nat} {cd:BoundsCode} (h:0≤n∧n≤y) (w:World):(Instr.sliceBound (.int k n) y cd).run P w= .ok n.toNat w:=by
  simp [Instr.sliceBound,asIntOf,h]
theorem run_bounds {P:Program} {c:Ctx} {b:Bool} {len cap:Nat} {lo hi mx lo' hi' mx':Option Value} (hl:ORels c lo lo') (hh:ORels c hi hi') (hm:ORels c mx mx') {l h m:Int}
    (el:lowOf lo=some l) (eh:highOf len hi=some h) (em:highOf cap mx=some m) (hb:0≤l∧l≤h∧h≤m∧m≤cap) (hx:mx.isSome=true→hi.isSome=true) (w:World):
    (Instr.sliceBounds b len cap lo' hi' mx').run P w= .ok (l.toNat,h.toNat,m.toNat) w:=by
  obtain ⟨b1,b2,b3,b4⟩:=hb
  have int_of:∀{v v':Value},VRel c v v'→∀{n:Int},lowOf (some v)=some n→∃k,v'= .int k n:=by
    intro v v' hv n e;cases hv<;> simp [lowOf] at e;subst e;exact ⟨_,rfl⟩
  have int_of':∀{v v':Value},VRel c v v'→∀{n:Int} {d:Nat},highOf d (some v)=some n→∃k,v'= .int k n:=by
    intro v v' hv n d e;cases hv<;> simp [highOf] at e;subst e;exact ⟨_,rfl⟩
  cases hm with
  | none=>
    simp [highOf] at em;subst em
    cases hh with
    | none=>
      simp [highOf] at eh;subst eh
      simp only [Instr.sliceBounds,pure_bind]
      cases hl with
      |none=>simp [lowOf] at el;subst el;rfl
      | some hv3=>
        obtain ⟨k3,rfl⟩:=int_of hv3 el
        show Sem.run P (Instr.sliceBound (.int k3 l) _ _ >>= fun l=>pure (l,_,_)) w=_
        rw [Sem.run_bind,run_bound ⟨b1,by omega⟩ w]
        rfl
    | some hv=>
      obtain ⟨k,rfl⟩:=int_of' hv eh
      simp only [Instr.sliceBounds,pure_bind]
      rw [Sem.run_bind,run_bound ⟨by omega,by omega⟩ w]
      simp only [Result.andThen_ok]
      cases hl with
      |none=>simp [lowOf] at el;subst el;rfl
      | some hv3=>
        obtain ⟨k3,rfl⟩:=int_of hv3 el
        show Sem.run P (Instr.sliceBound (.int k3 l) _ _ >>= fun l=>pure (l,_,_)) w=_
        rw [Sem.run_bind,run_bound ⟨b1,by omega⟩ w]
        rfl
  | some hv=>
    obtain ⟨k,rfl⟩:=int_of' hv em
    cases hh with
    |none=>simp at hx
    | some hv2=>
      obtain ⟨k2,rfl⟩:=int_of' hv2 eh
      simp only [Instr.sliceBounds]
      rw [Sem.run_bind,run_bound ⟨by omega,by omega⟩ w]
      simp only [Result.andThen_ok]
      rw [Sem.run_bind,run_bound ⟨by omega,by omega⟩ w]
      simp only [Result.andThen_ok]
      cases hl with
      |none=>simp [lowOf] at el;subst el;rfl
      | some hv3=>
        obtain ⟨k3,rfl⟩:=int_of hv3 el
        show Sem.run P (Instr.sliceBound (.int k3 l) _ _ >>= fun l=>pure (l,_,_)) w=_
        rw [Sem.run_bind,run_bound ⟨b1,by omega⟩ w]
        rfl
theorem sliceW_ok {P:Program} {t:TypeId} {c:Ctx} {H:AHeap} {w:World} {K:Value→AHeap→Prop} (h:HRel c H w) {a a':Value} {lo hi mx lo' hi' mx':Option Value} (ha:VRel c a a') (hl:ORels c lo lo') (hh:ORels c hi hi') (hm:ORels c mx mx')
    (hw:sliceW P t a lo hi mx H K):Gives P (Instr.sliceAt t a' lo' hi' mx') c H w K:=by
  unfold sliceW at hw
  split at hw
  · rename_i hu
    split at hw
    · rename_i s
      obtain ⟨l,el,hw⟩:=wth_elim hw
      obtain ⟨h1,eh,hb,hk⟩:=wth_elim hw
      cases ha;cases hm
      refine .pure h (v':=_) ?_ (.string _) hk
      have:=run_bounds (P:=P) (b:=false) (len:=s.size) (cap:=s.size) (m:=s.size) hl hh (.none (c:=c)) el eh rfl ⟨hb.1,hb.2.1,hb.2.2,by omega⟩ (by simp) w
      simp only [Instr.sliceAt,Instr.slice,Sem.run_bind,run_underlying hu,Result.andThen_ok,Option.isSome_none,Bool.false_eq_true,if_false,this,Sem.run_pure]
    · exact hw.elim
  · rename_i e hu
    split at hw
    · rename_i len cap
      obtain ⟨l,el,hw⟩:=wth_elim hw
      obtain ⟨h1,eh,hw⟩:=wth_elim hw
      obtain ⟨m,em,hb,hx,hs,hk⟩:=wth_elim hw
      obtain ⟨s,hs⟩:=Option.isSome_iff_exists.1 hs
      cases ha
      refine .pure h (v':= .slice none (h1.toNat - l.toNat) (m.toNat - l.toNat)) ?_ (.nilSlice _ _) hk
      have:=run_bounds (P:=P) (b:=true) hl hh hm el eh em hb hx w
      simp only [Instr.sliceAt,Instr.slice,Sem.run_bind,run_underlying hu,Result.andThen_ok,this,Sem.run_pure,run_sizeOf hs]
      simp
    · rename_i i off len cap
      obtain ⟨s,hs,hwa⟩:=wth_elim hw
      clear hw
      obtain ⟨l,el,hwb⟩:=wth_elim hwa
      clear hwa
      obtain ⟨h1,eh,hw⟩:=wth_elim hwb
      clear hwb
      split at hw
      · obtain ⟨hb,ht,hk⟩:=hw
        cases hm
        cases ha with
        | slice hc=>
          rename_i p
          have:=run_bounds (P:=P) (b:=true) (len:=len) (cap:=cap) (m:=cap) hl hh (.none (c:=c)) el eh rfl ⟨hb.1,hb.2.1,hb.2.2,by omega⟩ (by simp) w
          by_cases hml:cap=l.toNat
          · refine .pure h (v':= .slice (some ⟨p.block,p.base+off,none⟩) (h1.toNat - l.toNat) (cap - l.toNat)) ?_ ?_ hk
            · simp only [Instr.sliceAt,Instr.slice,Sem.run_bind,run_underlying hu,Result.andThen_ok,this,Sem.run_pure,run_sizeOf hs,Int.toNat_natCast]
              rw [if_pos hml]
            · have e1:h1.toNat - l.toNat=0:=by omega
              have e2:cap - l.toNat=0:=by omega
              rw [e1,e2];exact .sliceZ hc
          · refine .pure h (v':= .slice (some ⟨p.block,p.base+(off+l.toNat*s),none⟩) (h1.toNat - l.toNat) (cap - l.toNat)) ?_ (.slice hc) hk
            simp only [Instr.sliceAt,Instr.slice,Sem.run_bind,run_underlying hu,Result.andThen_ok,this,Sem.run_pure,run_sizeOf hs]
            simp [hml,addr_add,Nat.add_assoc]
        | sliceX hc hsx=>
          rename_i p
          unfold tight at ht
          split at ht
          · rename_i cs k hi
            obtain ⟨q,hq,hr⟩:=h.obj i _ hi rfl
            rw [hc] at hq;cases hq
            obtain ⟨r1,r2,r3,_⟩:=hr
            have:=run_bounds (P:=P) (b:=true) (len:=len) (cap:=cap+p.extra) (m:=(cap+p.extra:Nat)) hl hh (.none (c:=c)) el eh rfl ⟨hb.1,hb.2.1,by omega,by omega⟩ (by simp) w
            by_cases hml:cap+p.extra=l.toNat
            · refine .pure h (v':= .slice (some ⟨p.block,p.base+off,none⟩) (h1.toNat - l.toNat) (cap+p.extra - l.toNat)) ?_ ?_ hk
              · simp only [Instr.sliceAt,Instr.slice,Sem.run_bind,run_underlying hu,Result.andThen_ok,this,Sem.run_pure,run_sizeOf hs,Int.toNat_natCast]
                rw [if_pos hml]
              · have e1:h1.toNat - l.toNat=0:=by omega
                have e2:cap - l.toNat=0:=by omega
                have e3:cap+p.extra - l.toNat=0:=by omega
                rw [e1,e2,e3];exact .sliceZ hc
            · refine .pure h (v':= .slice (some ⟨p.block,p.base+(off+l.toNat*s),none⟩) (h1.toNat - l.toNat) (cap - l.toNat+p.extra)) ?_ ?_ hk
              · simp only [Instr.sliceAt,Instr.slice,Sem.run_bind,run_underlying hu,Result.andThen_ok,this,Sem.run_pure,run_sizeOf hs]
                simp only [Int.toNat_natCast,hml,if_false,Option.map_some,addr_add,Nat.add_assoc]
                congr 2;omega
              · rcases ht with ht|ht
                · refine .sliceX hc ?_
                  have:l.toNat≤cap:=by omega
                  rw [r2,ht] at hsx ⊢
                  rw [← hsx,Nat.add_assoc,←Nat.add_mul]
                  congr 2;omega
                · have hz:=r3 ht
                  rw [hz.1]
                  exact .slice hc
          · exact ht.elim
        | @sliceZ _ _ ad p hc=>
          obtain ⟨b,x,sp⟩:=ad
          have:=run_bounds (P:=P) (b:=true) (len:=0) (cap:=0) (m:=(0:Nat)) hl hh (.none (c:=c)) el eh rfl ⟨hb.1,hb.2.1,hb.2.2,by omega⟩ (by simp) w
          refine .pure h (v':= .slice (some ⟨b,x,sp⟩) 0 0) ?_ ?_ hk
          · simp only [Instr.sliceAt,Instr.slice,Sem.run_bind,run_underlying hu,Result.andThen_ok,this,Sem.run_pure,run_sizeOf hs]
            have e1:l.toNat=0:=by omega
            have e2:h1.toNat=0:=by omega
            simp [e1,e2]
          · have e1:h1.toNat - l.toNat=0:=by omega
            rw [e1];simp only [Nat.zero_sub];exact .sliceZ hc
      · rename_i q m
        obtain ⟨hb,hx,hk⟩:=hw
        have hmv:∀cap',cap≤cap'→(Instr.sliceBounds true len cap' lo' hi' mx').run P w= .ok (l.toNat,h1.toNat,m.toNat) w:=fun cap' hc'=>
          run_bounds (P:=P) (b:=true) hl hh hm el eh rfl ⟨hb.1,hb.2.1,hb.2.2.1,by omega⟩ (fun _=>hx) w
        have key:∀cap' (p:Place),cap≤cap'→c i=some p→Gives P (Instr.sliceAt t (.slice (some ⟨p.block,p.base+off,none⟩) len cap') lo' hi' mx') c H w K:=fun cap' p hcap hc=>by
          refine .pure h (v':= .slice (some ⟨p.block,p.base+(if m=l then off else off+l.toNat*s),none⟩) (h1.toNat - l.toNat) (m.toNat - l.toNat)) ?_ (.slice hc) hk
          simp only [Instr.sliceAt,Instr.slice,Sem.run_bind,run_underlying hu,Result.andThen_ok,hmv cap' hcap,Sem.run_pure,run_sizeOf hs]
          have e:(m.toNat=l.toNat)↔(m=l):=by omega
          by_cases hml:m=l
          · simp [hml]
          · simp [hml,e,addr_add,Nat.add_assoc]
        cases ha with
        |slice hc=>exact key cap _ (Nat.le_refl _) hc
        |sliceX hc hsx=>exact key _ _ (by omega) hc
        | @sliceZ _ _ ad p hc=>
          obtain ⟨b,x,sp⟩:=ad
          have e0:m.toNat=0:=by omega
          have e1:l.toNat=0:=by omega
          have e2:h1.toNat=0:=by omega
          refine .pure h (v':= .slice (some ⟨b,x,sp⟩) 0 0) ?_ ?_ hk
          · simp only [Instr.sliceAt,Instr.slice,Sem.run_bind,run_underlying hu,Result.andThen_ok,hmv 0 (by omega),Sem.run_pure,run_sizeOf hs]
            simp [e0,e1,e2]
          · rw [e0,e1,e2];exact .sliceZ hc
      · exact hw.elim
    · exact hw.elim
  · rename_i n e hu
    split at hw
    · rename_i i off
      obtain ⟨s,hs,hw⟩:=wth_elim hw
      obtain ⟨l,el,hw⟩:=wth_elim hw
      obtain ⟨h1,eh,hb,hk⟩:=wth_elim hw
      cases hm
      cases ha with
      | ptr hc=>
        rename_i p
        have:=run_bounds (P:=P) (b:=false) (len:=n) (cap:=n) (m:=n) hl hh (.none (c:=c)) el eh rfl ⟨hb.1,hb.2.1,hb.2.2,by omega⟩ (by simp) w
        by_cases hml:n=l.toNat
        · refine .pure h (v':= .slice (some ⟨p.block,p.base+off,none⟩) (h1.toNat - l.toNat) (n - l.toNat)) ?_ ?_ hk
          · simp only [Instr.sliceAt,Sem.run_bind,run_underlying hu,Result.andThen_ok,Instr.sureAddr,this,Sem.run_pure,run_sizeOf hs,Int.toNat_natCast]
            rw [if_pos hml]
          · have e1:h1.toNat - l.toNat=0:=by omega
            have e2:n - l.toNat=0:=by omega
            rw [e1,e2];exact .sliceZ hc
        · refine .pure h (v':= .slice (some ⟨p.block,p.base+(off+l.toNat*s),none⟩) (h1.toNat - l.toNat) (n - l.toNat)) ?_ (.slice hc) hk
          simp only [Instr.sliceAt,Sem.run_bind,run_underlying hu,Result.andThen_ok,Instr.sureAddr,this,Sem.run_pure,run_sizeOf hs]
          simp [hml,addr_add,Nat.add_assoc]
    · exact hw.elim
  · exact hw.elim
end Go.Aw

set_option linter.unusedVariables false
set_option linter.unusedSimpArgs false
namespace Go.Aw
def bytesC (l:List UInt8):List Value:=l.map fun b=> .int .u8 b.toNat
theorem bytesC_length (l:List UInt8):(bytesC l).length=l.length:=by simp [bytesC]
theorem bytesC_scalar (l:List UInt8):(bytesC l).all scalar=true:=by simp [bytesC,scalar]
theorem bytesC_flat (l:List UInt8):(bytesC l).all flat=true:=by
 induction l with
 |nil=>rfl
 |cons b l ih=>simp only [bytesC,List.map_cons,List.all_cons,flat,Bool.true_and] at*;exact ih
def u8s:List Value→Option (List UInt8)
 |[]=>some []
 | .int .u8 n::r=>(u8s r).map (UInt8.ofNat n.toNat:: ·)
 |_=>none
theorem u8s_bytesC (l:List UInt8):u8s (bytesC l)=some l:=by
 induction l with
 |nil=>rfl
 |cons b l ih=>simp only [bytesC,List.map_cons,u8s] at*;rw [ih];simp
theorem u8s_ints {l:List Value} {r:List UInt8} (h:u8s l=some r):∃ns:List Int,l=ns.map (Value.int .u8)∧r=ns.map fun n=>UInt8.ofNat n.toNat:=by
 induction l generalizing r with
 |nil=>simp [u8s] at h;subst h;exact ⟨[],rfl,rfl⟩
 | cons v l ih=>
  cases v<;> try (simp [u8s] at h;done)
  rename_i k n
  cases k<;> try (simp [u8s] at h;done)
  simp only [u8s] at h
  cases hr:u8s l with
  |none=>simp [hr] at h
  |some r'=>
   simp [hr] at h;subst h
   obtain ⟨ns,rfl,rfl⟩:=ih hr
   exact ⟨n::ns,rfl,rfl⟩
theorem VRels.ints {c:Ctx} {ns:List Int} {l:List Value} (h:VRels c (ns.map (Value.int .u8)) l):l=ns.map (Value.int .u8):=by
 induction ns generalizing l with
 |nil=>cases h;rfl
 |cons n ns ih=>cases h with|cons a b=>cases a;rw [ih b];rfl
def convW (P:Program) (src dst:TypeId) (x:Value) (H:AHeap) (K:Value→AHeap→Prop):Prop:=
 match P.underlying src,P.underlying dst,x with
 |some _,some (.int k),.int _ n=>K (.int k (k.wrap n)) H
 |some _,some .string,.int _ n=>K (.string (Utf8.encode n)) H
 |some _,some .string,.string s=>K (.string s) H
 |some .string,some (.slice e),.string s=>P.underlying e=some (.int .u8)∧K (.slice (some ⟨H.length,0,none⟩) s.data.toList.length s.data.toList.length) (H++ [.cells (bytesC s.data.toList) ⟨e,1,true,0,none⟩])
 |some (.slice e),some .string,.slice none _ _=>P.underlying e=some (.int .u8)∧K (.string ByteArray.empty) H
 |some (.slice e),some .string,.slice (some ⟨i,off,none⟩) len _=>P.underlying e=some (.int .u8)∧
  (match H[i]? with
  |some (.cells cs _)=>off+len≤cs.length∧wth (u8s ((cs.drop off).take len)) fun l=>K (.string (bs l)) H
  |_=>False)
 |_,_,_=>False
theorem foldl_push (ns:List Int):∀(r:ByteArray),(ns.foldl (fun r n=>r.push (UInt8.ofNat n.toNat)) r)=⟨⟨r.data.toList++ns.map fun n=>UInt8.ofNat n.toNat⟩⟩:=by
 induction ns with
 |nil=>intro r;simp
 |cons n ns ih=>intro r;simp only [List.foldl_cons,ih];simp [ByteArray.push]
theorem convW_ok {P:Program} {src dst:TypeId} {c:Ctx} {H:AHeap} {w:World} {K:Value→AHeap→Prop} (h:HRel c H w) {x x':Value} (hx:VRel c x x') (hw:convW P src dst x H K):Gives P (convert src dst x') c H w K:=by
 unfold convW at hw
 split at hw
 ·rename_i hs hd;cases hx
  refine .pure h ?_ (.int _ _) hw
  simp only [convert,Sem.run_bind,run_underlying hs,run_underlying hd,Result.andThen_ok,Conv.intToInt]
  rfl
 ·rename_i hs hd;cases hx
  refine .pure h ?_ (.string _) hw
  simp only [convert,Sem.run_bind,run_underlying hs,run_underlying hd,Result.andThen_ok,Conv.intToString]
  rfl
 ·rename_i hs hd;cases hx
  refine .pure h ?_ (.string _) hw
  simp only [convert,Sem.run_bind,run_underlying hs,run_underlying hd,Result.andThen_ok]
  rfl
 ·rename_i e s hs hd;cases hx
  obtain ⟨he,hk⟩:=hw
  obtain ⟨cap,hcapd⟩:∃cap,cap=grownCap w s.size 0 e:=⟨_,rfl⟩
  have hcap:s.size≤cap:=by rw [hcapd];exact grownCap_ge w s.size 0 e
  obtain ⟨arr,harrd⟩:∃arr,arr=bytesRow s cap:=⟨_,rfl⟩
  have hsz:s.data.size=s.size:=rfl
  have harr:arr.size=cap:=by rw [harrd];simp [bytesRow];omega
  obtain ⟨w',hw'⟩:∃w',w'=w.drew.alloc (.cells arr e (cap,cap+1)):=⟨_,rfl⟩
  have hlen:s.data.toList.length=s.size:=by simp
  have hrun:(convert src dst (.string s)).run P w= .ok (.slice (some ⟨w.heap.size,0,none⟩) s.size cap) w':=by
   rw [run_bytes_of_string w src dst e s hs hd he,←hcapd,←harrd,harr,hw']
  have hnew:w'.heap[w.heap.size]? =some (.cells arr e (cap,cap+1)):=by rw [hw'];show (w.heap.push _)[w.heap.size]? =_;simp
  have hold:∀b,b<w.heap.size→w'.heap[b]? =w.heap[b]? :=fun b hb=>by rw [hw'];show (w.heap.push _)[b]? =_;rw [Array.getElem?_push,if_neg (by omega)]
  have hsame:WSame w w':=by rw [hw'];exact ⟨rfl,rfl,rfl⟩
  have hsize:w.heap.size≤w'.heap.size:=by rw [hw'];simp
  clear hw'
  have horel:ORel (c.add H.length ⟨w.heap.size,0,s.data.toList.length,1,cap - s.size⟩) ⟨w.heap.size,0,s.data.toList.length,1,cap - s.size⟩ w' (.cells (bytesC s.data.toList) ⟨e,1,true,0,none⟩):=by
   refine ⟨by simp [bytesC],rfl,fun h=>(by cases h),fun n h=>(by cases h),arr,cap,cap+1,hnew,?_,by simp only [hlen,harr];omega,fun _ off _ ho=>by simp only [hlen] at ho;omega⟩
   intro k v e
   have hk:k<s.data.size:=by have:=(List.getElem?_eq_some_iff.1 e).1;simpa [bytesC] using this
   have hb:bytesC s.data.toList=(s.data.map fun b=>Value.int .u8 b.toNat).toList:=by simp [bytesC]
   rw [hb] at e
   refine ⟨v,?_,?_⟩
   ·simp only [Nat.zero_add,harrd,bytesRow]
    rw [Array.getElem?_append_left (by simpa using hk)]
    simpa using e
   ·simp at e;obtain ⟨b,_,rfl⟩:=e;exact .int _ _
  obtain ⟨h1,h2,h3⟩:=h.extend hsame hsize hold (Nat.le_refl _) horel 0
  refine ⟨_,w',hrun,_,_,_,hk,?_,h3,h1,fun n=>{h2 with names:=fun i p _ e=>h3 i p e}⟩
  have:=VRel.sliceX (c:=c.add H.length ⟨w.heap.size,0,s.data.toList.length,1,cap - s.size⟩) (i:=H.length) (off:=0) (len:=s.data.toList.length) (cap:=s.data.toList.length) (Ctx.add_self _ _ _) (by simp)
  simp only [Nat.zero_add] at this
  rwa [hlen,show s.size+(cap - s.size)=cap from by omega] at this
 ·rename_i e l n hs hd;cases hx
  obtain ⟨he,hk⟩:=hw
  refine .pure h ?_ (.string _) hk
  rw [run_convert_bytes_string w src dst e _ _ _ hs he hd]
  rfl
 ·rename_i e i off len cap hs hd
  obtain ⟨he,hw⟩:=hw
  split at hw
  ·rename_i cs k hi
   obtain ⟨hle,hw⟩:=hw
   obtain ⟨l,hl,hk⟩:=wth_elim hw
   obtain ⟨ns,e1,e2⟩:=u8s_ints hl
   have key:∀(p:Place) cap',c i=some p→Gives P (convert src dst (.slice (some ⟨p.block,p.base+off,none⟩) len cap')) c H w K:=fun p cap' hc=>by
    obtain ⟨l',hl',hv,hrun⟩:=h.cellsAt hi hc off len hle
    rw [e1] at hv
    have:=hv.ints
    subst this
    refine .pure h ?_ (.string _) hk
    rw [run_convert_bytes_string w src dst e _ _ _ hs he hd,run_bytesToString w _ len cap' ns (by simpa [loadCells] using hrun P #[]),foldl_push,e2]
    rfl
   cases hx with
   |slice hc=>exact key _ _ hc
   |sliceX hc _=>exact key _ _ hc
   |sliceZ hc=>
    have:ns=[]:=by simpa using e1.symm
    subst this
    simp at e2
    subst e2
    refine .pure h ?_ (.string _) hk
    rw [run_convert_bytes_string w src dst e _ _ _ hs he hd]
    rfl
  ·exact hw.elim
 ·exact hw.elim
def ifaceW (P:Program) (t:TypeId) (v:Value) (H:AHeap) (K:Value→AHeap→Prop):Prop:=P.concrete t=true∧K (.iface t v) H
theorem ifaceW_ok {P:Program} {t:TypeId} {c:Ctx} {H:AHeap} {w:World} {K:Value→AHeap→Prop} (h:HRel c H w) {v v':Value} (hv:VRel c v v') (hw:ifaceW P t v H K):Gives P (Instr.makeInterface t v') c H w K:=
 .pure h (run_makeInterface w t v' hw.1) (.iface hv) hw.2
def extractW (v:Value) (ix:Nat) (H:AHeap) (K:Value→AHeap→Prop):Prop:=
 match v with
 | .tuple ⟨l⟩=>wth l[ix]? fun u=>K u H
 |_=>False
theorem extractW_ok {P:Program} {ix:Nat} {c:Ctx} {H:AHeap} {w:World} {K:Value→AHeap→Prop} (h:HRel c H w) {v v':Value} (hv:VRel c v v') (hw:extractW v ix H K):Gives P (Instr.extract v' ix) c H w K:=by
 unfold extractW at hw
 split at hw
 ·obtain ⟨u,hu,hk⟩:=wth_elim hw
  cases hv with
  |tuple hl=>
   obtain ⟨u',h1,h2⟩:=hl.get hu
   refine .pure h (v':=u') ?_ h2 hk
   simp [Instr.extract,h1]
 ·exact hw.elim
def tV (P:Program) (t:TypeId):Option Value:=(P.info? t).bind (·.zero)
theorem run_zeroV {P:Program} {t:TypeId} {z:Value} (h:tV P t=some z) (w:World):(zeroValue t).run P w= .ok z w:=by
 unfold tV at h
 cases hi:P.info? t with
 |none=>rw [hi] at h;cases h
 |some i=>rw [hi] at h;simp at h;simp [zeroValue,typeInfo,hi,h]
def missing (P:Program) (want:Array (String×TypeId)) (t:TypeId):Option Bool:=(P.info? t).map fun i=>(Instr.missingMethod want i.methods).isSome
def assertW (P:Program) (x:Value) (xt t:TypeId) (ok:Bool) (H:AHeap) (K:Value→AHeap→Prop):Prop:=
 match P.underlying t,x with
 |some (.interface want),.iface u v=>wth (missing P want u) fun m=>if m=true then ok=true∧wth (tV P t) fun z=>plain z=true∧K (.tuple ⟨[z,.bool false]⟩) H else K (if ok=true then .tuple ⟨[.iface u v,.bool true]⟩ else .iface u v) H
 |some (.interface _),.nilIface=>ok=true∧wth (tV P t) fun z=>plain z=true∧K (.tuple ⟨[z,.bool false]⟩) H
 |some _,.nilIface=>ok=true∧wth (tV P t) fun z=>plain z=true∧K (.tuple ⟨[z,.bool false]⟩) H
 |some _,.iface u v=>if u=t then K (if ok=true then .tuple ⟨[v,.bool true]⟩ else v) H else ok=true∧wth (tV P t) fun z=>plain z=true∧K (.tuple ⟨[z,.bool false]⟩) H
 |_,_=>False
theorem assertW_ok {P:Program} {t xt:TypeId} {ok:Bool} {c:Ctx} {H:AHeap} {w:World} {K:Value→AHeap→Prop} (h:HRel c H w) {x x':Value} (hx:VRel c x x') (hw:assertW P x xt t ok H K):Gives P (Instr.typeAssert x' xt t ok) c H w K:=by
 unfold assertW at hw
 split at hw
 ·rename_i want u v hu
  obtain ⟨m,hm,hw⟩:=wth_elim hw
  cases hx with
  | iface hv=>
   rename_i v'
   unfold missing at hm
   cases hi:P.info? u with
   |none=>rw [hi] at hm;cases hm
   | some i=>
    rw [hi] at hm;simp only [Option.map_some,Option.some.injEq] at hm
    cases hmm:Instr.missingMethod want i.methods with
    | none=>
     rw [hmm] at hm;subst hm
     simp only [Option.isSome_none,Bool.false_eq_true,if_false] at hw
     refine .pure h (v':=if ok=true then .tuple ⟨[.iface u v',.bool true]⟩ else .iface u v') ?_ ?_ hw
     ·simp only [Instr.typeAssert,Sem.run_bind,run_underlying hu,Result.andThen_ok,typeInfo,run_program,hi,Sem.run_pure,hmm]
     ·cases ok
      ·exact .iface hv
      ·exact .tuple (.cons (.iface hv) (.cons (.bool _) .nil))
    |some s=>
     rw [hmm] at hm;subst hm
     simp only [Option.isSome_some,if_true] at hw
     obtain ⟨hok,hw⟩:=hw
     obtain ⟨z,hz,hp,hk⟩:=wth_elim hw
     refine .pure h (v':= .tuple ⟨[z,.bool false]⟩) ?_ (.tuple (.cons (.of_plain hp) (.cons (.bool _) .nil))) hk
     simp only [Instr.typeAssert,Sem.run_bind,run_underlying hu,Result.andThen_ok,typeInfo,run_program,hi,Sem.run_pure,hmm,hok,if_true,run_zeroV hz]
 ·rename_i want hu
  obtain ⟨hok,hw⟩:=hw
  obtain ⟨z,hz,hp,hk⟩:=wth_elim hw
  cases hx
  refine .pure h (v':= .tuple ⟨[z,.bool false]⟩) ?_ (.tuple (.cons (.of_plain hp) (.cons (.bool _) .nil))) hk
  simp only [Instr.typeAssert,Sem.run_bind,run_underlying hu,Result.andThen_ok,Sem.run_pure,hok,if_true,run_zeroV hz]
 ·rename_i d hni hu
  obtain ⟨hok,hw⟩:=hw
  obtain ⟨z,hz,hp,hk⟩:=wth_elim hw
  cases hx
  refine .pure h (v':= .tuple ⟨[z,.bool false]⟩) ?_ (.tuple (.cons (.of_plain hp) (.cons (.bool _) .nil))) hk
  cases d<;> first
   |(exact (hni _ rfl).elim)
   |(simp only [Instr.typeAssert,Sem.run_bind,run_underlying hu,Result.andThen_ok,Sem.run_pure,hok,if_true,run_zeroV hz])
 ·rename_i d u v hni hu
  cases hx with
  | iface hv=>
   rename_i v'
   by_cases hut:u=t
   ·rw [if_pos hut] at hw
    refine .pure h (v':=if ok=true then .tuple ⟨[v',.bool true]⟩ else v') ?_ ?_ hw
    ·cases d<;> first
      |(exact (hni _ rfl).elim)
      |(simp only [Instr.typeAssert,Sem.run_bind,run_underlying hu,Result.andThen_ok,Sem.run_pure,hut,if_true])
    ·cases ok
     ·exact hv
     ·exact .tuple (.cons hv (.cons (.bool _) .nil))
   ·rw [if_neg hut] at hw
    obtain ⟨hok,hw⟩:=hw
    obtain ⟨z,hz,hp,hk⟩:=wth_elim hw
    refine .pure h (v':= .tuple ⟨[z,.bool false]⟩) ?_ (.tuple (.cons (.of_plain hp) (.cons (.bool _) .nil))) hk
    cases d<;> first
     |(exact (hni _ rfl).elim)
     |(simp only [Instr.typeAssert,Sem.run_bind,run_underlying hu,Result.andThen_ok,Sem.run_pure,hut,if_false,hok,if_true,run_zeroV hz])
 ·exact hw.elim
def fillL (place:Nat→Option (Nat×Nat)) (cells:List Value):List (Nat×Value)→Option (List Value)
 |[]=>some cells
 |(i,v)::r=>(place i).bind fun p=>if (cellsOf v).length=p.2∧p.1+p.2≤cells.length then fillL place (putCells cells p.1 (cellsOf v)) r else none
inductive PRels (c:Ctx):List (Nat×Value)→List (Nat×Value)→Prop
 |nil:PRels c [] []
 |cons {i:Nat} {v v':Value} {l l':List (Nat×Value)}:VRel c v v'→PRels c l l'→PRels c ((i,v)::l) ((i,v')::l')
theorem VRels.set {c:Ctx}:∀{xs ys:List Value} (k:Nat) {v v':Value},VRels c xs ys→VRel c v v'→VRels c (xs.set k v) (ys.set k v')
 |_,_,_,_,_,.nil,_=>by simpa using VRels.nil
 |_,_,0,_,_,.cons a b,hv=> .cons hv b
 |_,_,k+1,_,_,.cons a b,hv=> .cons a (VRels.set k b hv)
theorem foldl_setIfInBounds:∀(l:List Value) (cs:List Value) (off j:Nat),(l.zipIdx j).foldl (fun (cs:Array Value) (p:Value×Nat)=>cs.setIfInBounds (off+p.2) p.1) ⟨cs⟩=⟨putCells cs (off+j) l⟩
 |[],cs,off,j=>rfl
 |v::l,cs,off,j=>by
  simp only [List.zipIdx_cons,List.foldl_cons,putCells]
  have:(⟨cs⟩:Array Value).setIfInBounds (off+j) v=⟨cs.set (off+j) v⟩:=by simp
  rw [this,foldl_setIfInBounds l _ off (j+1)]
  rfl
theorem putCells_rel {c:Ctx}:∀{l l':List Value},VRels c l l'→∀{cs cs':List Value} (off:Nat),VRels c cs cs'→VRels c (putCells cs off l) (putCells cs' off l')
 |_,_,.nil,_,_,off,h=>h
 |_,_,.cons a b,_,_,off,h=>putCells_rel b (off+1) (VRels.set off h a)
theorem fill_rel {c:Ctx} {place:Nat→Option (Nat×Nat)}:∀{l l':List (Nat×Value)},PRels c l l'→∀{cs cs' r:List Value},VRels c cs cs'→fillL place cs l=some r→∃r',Instr.fill place ⟨cs'⟩ l'=some ⟨r'⟩∧VRels c r r'
 |_,_,.nil,cs,cs',r,h,e=>by simp [fillL] at e;subst e;exact ⟨cs',rfl,h⟩
 | (i,v)::l,(_,v')::l',.cons hv hl,cs,cs',r,h,e=>by
  simp only [fillL] at e
  cases hp:place i with
  |none=>simp [hp] at e
  | some p=>
   simp only [hp,Option.bind_some] at e
   split at e
   ·rename_i hc
    obtain ⟨r',h1,h2⟩:=fill_rel hl (putCells_rel hv.cells p.1 h) e
    refine ⟨r',?_,h2⟩
    have e1:v'.cells.size=(cellsOf v).length:=by rw [hv.cells.length];rfl
    have e2:cs'.length=cs.length:=h.length.symm
    simp only [Instr.fill,hp,e1,List.size_toArray,e2]
    rw [if_neg (by simp;omega)]
    have:v'.cells.zipIdx.foldl (fun (cs:Array Value) (p':Value×Nat)=>cs.setIfInBounds (p.1+p'.2) p'.1) ⟨cs'⟩=⟨putCells cs' p.1 (cellsOf v')⟩:=by
     rw [← Array.foldl_toList,Array.toList_zipIdx]
     exact foldl_setIfInBounds (cellsOf v') cs' p.1 0
    rw [this]
    exact h1
   ·cases e
def tP (P:Program) (t:TypeId):Option (List (Nat×Nat) ⊕ Nat):=
 match P.underlying t with
 |some (.struct fs)=>(fs.toList.mapM fun f=>(P.info? f.type).map fun i=>(f.offset,i.size)).map .inl
 |some (.array _ e)=>(tS P e).map .inr
 |_=>none
def placeOf:List (Nat×Nat) ⊕ Nat→Nat→Option (Nat×Nat)
 | .inl l,i=>l[i]?
 | .inr s,i=>some (i*s,s)
def buildW (P:Program) (t:TypeId) (parts:List (Nat×Value)) (H:AHeap) (K:Value→AHeap→Prop):Prop:=
 wth (tZ P t) fun z=>z.all scalar=true∧wth (tP P t) fun p=>wth (fillL (placeOf p) z parts) fun cs=>K (.agg ⟨cs⟩) H
theorem buildW_ok {P:Program} {t:TypeId} {c:Ctx} {H:AHeap} {w:World} {K:Value→AHeap→Prop} (h:HRel c H w) {parts parts':List (Nat×Value)} (hp:PRels c parts parts') (hw:buildW P t parts H K):
  Gives P (Instr.build t ⟨parts'⟩) c H w K:=by
 obtain ⟨z,hz,hs,hw⟩:=wth_elim hw
 obtain ⟨pl,hpl,hw⟩:=wth_elim hw
 obtain ⟨cs,hcs,hk⟩:=wth_elim hw
 obtain ⟨r',h1,h2⟩:=fill_rel hp (VRels.of_scalars (c:=c) hs) hcs
 refine .pure h (v':= .agg ⟨r'⟩) ?_ (.agg h2) hk
 refine run_build w t ⟨parts'⟩ ⟨r'⟩ ?_
 unfold tZ at hz
 unfold tP at hpl
 unfold Program.built
 cases hi:P.info? t with
 |none=>rw [hi] at hz;cases hz
 | some i=>
  rw [hi] at hz;simp only [Option.bind_some] at hz
  cases hzz:i.zero with
  |none=>rw [hzz] at hz;cases hz
  | some zv=>
   rw [hzz] at hz;simp only [Option.map_some,Option.some.injEq] at hz
   have hzc:zv.cells=⟨z⟩:=by rw [← hz];rfl
   cases hu:P.underlying t with
   |none=>rw [hu] at hpl;cases hpl
   | some d=>
    rw [hu] at hpl
    cases d<;> try (cases hpl;done)
    case array n e=>
     simp only [Option.map_eq_some_iff] at hpl
     obtain ⟨s,hs2,rfl⟩:=hpl
     unfold tS at hs2
     cases hie:P.info? e with
     |none=>rw [hie] at hs2;cases hs2
     |some ie=>
      rw [hie] at hs2;simp at hs2;subst hs2
      simp only [hzz,hie,hzc]
      exact h1
    case struct fs=>
     simp only [Option.map_eq_some_iff] at hpl
     obtain ⟨l,hl,rfl⟩:=hpl
     simp only [hzz,hl,hzc]
     have:(fun x=>l.toArray[x]?)=placeOf (.inl l):=by funext x;simp [placeOf]
     rw [this]
     exact h1
def repZ (n:Nat) (z:List Value):List Value:=(List.replicate n z).flatten
theorem repZ_length (n:Nat) (z:List Value):(repZ n z).length=n*z.length:=by simp [repZ,List.length_flatten,List.map_replicate,List.sum_replicate_nat]
theorem repZ_scalar {n:Nat} {z:List Value} (h:z.all scalar=true):(repZ n z).all scalar=true:=by
 simp only [repZ,List.all_eq_true,List.mem_flatten,List.mem_replicate] at*
 rintro x ⟨l,⟨_,rfl⟩,hx⟩
 exact h x hx
theorem repZ_get (n:Nat) (z:List Value) (k:Nat) (hk:k<n*z.length):(repZ n z)[k]? =some (z[k%z.length]!):=by
 induction n generalizing k with
 |zero=>simp at hk
 | succ n ih=>
  have hz:0<z.length:=by rcases Nat.eq_zero_or_pos z.length with h|h;(rw [h] at hk;omega);exact h
  have e:repZ (n+1) z=z++repZ n z:=by simp [repZ,List.replicate_succ]
  rw [e]
  by_cases h:k<z.length
  ·rw [List.getElem?_append_left h,Nat.mod_eq_of_lt h,List.getElem?_eq_getElem h]
   simp [h]
  ·rw [List.getElem?_append_right (by omega),ih (k - z.length) (by rw [Nat.add_mul] at hk;omega)]
   congr 2
   rw [← Nat.mod_eq_sub_mod (by omega)]
theorem repZ_array (n:Nat) (z:List Value):(Array.range (n*z.length)).map (z.toArray[· %z.toArray.size]!)=⟨repZ n z⟩:=by
 apply Array.ext_getElem?
 intro k
 by_cases hk:k<n*z.length
 ·have:=repZ_get n z k hk
  simp only [List.getElem?_toArray,this]
  simp [hk]
 ·simp [hk,repZ_length]
def buildSliceW (P:Program) (t:TypeId) (len:Nat) (parts:List (Nat×Value)) (H:AHeap) (K:Value→AHeap→Prop):Prop:=
 match P.underlying t with
 | some (.slice e)=>wth (tS P e) fun s=>wth (tZ P e) fun z=>z.all scalar=true∧z.length=s∧len*s≤16777216∧wth (fillL (placeOf (.inr s)) (repZ len z) parts) fun cs=>
   K (.slice (some ⟨H.length,0,none⟩) len len) (H++ [.cells cs ⟨e,0,true,0,none⟩])
 |_=>False
theorem buildSliceW_ok {P:Program} {t:TypeId} {len:Nat} {c:Ctx} {H:AHeap} {w:World} {K:Value→AHeap→Prop} (h:HRel c H w) {parts parts':List (Nat×Value)} (hp:PRels c parts parts') (hw:buildSliceW P t len parts H K):
  Gives P (Instr.buildSlice t len ⟨parts'⟩) c H w K:=by
 unfold buildSliceW at hw
 split at hw
 ·rename_i e hu
  obtain ⟨s,hs,hw⟩:=wth_elim hw
  obtain ⟨z,hz,hsc,hl,h24,hw⟩:=wth_elim hw
  obtain ⟨cs,hcs,hk⟩:=wth_elim hw
  obtain ⟨zv,hzv,hzc⟩:=run_zeroValue hz w
  obtain ⟨r',h1,h2⟩:=fill_rel hp (VRels.of_scalars (c:=c) (repZ_scalar hsc)) hcs
  obtain ⟨g1,g2,g3⟩:=h.alloc h2 e 0 0
  refine ⟨.slice (some ⟨w.heap.size,0,none⟩) len len,_,?_,_,_,_,hk,?_,g3,g1,fun n=>(h.alloc h2 e 0 n).2.1⟩
  ·have hcells:zv.cells=z.toArray:=by rw [← hzc];rfl
   have hfill:Instr.fill (fun i=>some (i*s,s)) ⟨repZ len z⟩ parts'=some ⟨r'⟩:=h1
   have h24':¬(len*s>2 ^ 24):=by omega
   by_cases h0:len*s=0
   ·have e0:repZ len z=[]:=List.eq_nil_of_length_eq_zero (by rw [repZ_length,hl];exact h0)
    rw [e0] at hfill
    have harr:(Array.range (len*s)).map ((#[]:Array Value)[· % (#[]:Array Value).size]!)=(⟨[]⟩:Array Value):=by rw [h0];simp
    simp only [Instr.buildSlice,Sem.run_bind,run_underlying hu,Result.andThen_ok,run_sizeOf hs]
    rw [if_neg h24']
    simp only [if_pos h0,pure_bind,harr,hfill,newRow,run_newObj,Sem.run_pure,Sem.run_bind,Result.andThen_ok]
    rfl
   ·have harr:(Array.range (len*s)).map (zv.cells[· %zv.cells.size]!)=(⟨repZ len z⟩:Array Value):=by rw [hcells,←hl];exact repZ_array len z
    simp only [Instr.buildSlice,Sem.run_bind,run_underlying hu,Result.andThen_ok,run_sizeOf hs]
    rw [if_neg h24']
    simp only [if_neg h0,pure_bind,bind_assoc,Sem.run_bind,hzv,Result.andThen_ok,harr,hfill,newRow,run_newObj,Sem.run_pure]
    rfl
  ·exact .slice (p:=⟨w.heap.size,0,cs.length,0,0⟩) (Ctx.add_self _ _ _)
 ·exact hw.elim
end Go.Aw

set_option linter.unusedVariables false
set_option linter.unusedSimpArgs false
namespace Go.Aw
def makeSliceW (P:Program) (t:TypeId) (a b:Value) (H:AHeap) (K:Value→AHeap→Prop):Prop:=
 match P.underlying t,a,b with
 | some (.slice e),.int _ l,.int _ n=>wth (tS P e) fun s=>wth (tB P e) fun y=>wth (tZ P e) fun z=>z.all scalar=true∧z.length=s∧(0≤l∧l≤n∧n≤9223372036854775807∧n*y≤281474976710656)∧
   K (.slice (some ⟨H.length,0,none⟩) l.toNat n.toNat) (H++ [.cells (repZ n.toNat z) ⟨e,0,true,0,none⟩])
 |_,_,_=>False
theorem wrap_i64 {n:Int} (h0:0≤n) (h1:n≤9223372036854775807):IntKind.i64.wrap n=n:=IntWalk.i64_in (by omega) (by omega)
theorem makeSliceW_ok {P:Program} {t:TypeId} {c:Ctx} {H:AHeap} {w:World} {K:Value→AHeap→Prop} (h:HRel c H w) {a a' b b':Value} (ha:VRel c a a') (hb:VRel c b b') (hw:makeSliceW P t a b H K):
  Gives P (Instr.makeSlice t a' b') c H w K:=by
 unfold makeSliceW at hw
 split at hw
 ·rename_i e j l j' n hu
  obtain ⟨s,hs,hw⟩:=wth_elim hw
  obtain ⟨y,hy,hw⟩:=wth_elim hw
  obtain ⟨z,hz,hsc,hl,⟨b0,b1,b2,b3⟩,hk⟩:=wth_elim hw
  cases ha;cases hb
  obtain ⟨zv,hzv,hzc⟩:=run_zeroValue hz w
  have hcells:zv.cells=z.toArray:=by rw [← hzc];rfl
  have hby:∃i,P.info? e=some i∧i.bytes=y:=by
   unfold tB at hy
   cases hi:P.info? e with
   |none=>rw [hi] at hy;cases hy
   |some i=>rw [hi] at hy;simp at hy;exact ⟨i,rfl,hy⟩
  obtain ⟨i,hi,hiy⟩:=hby
  have hvr:VRels c (repZ n.toNat z) (repZ n.toNat z):=VRels.of_scalars (repZ_scalar hsc)
  obtain ⟨g1,g2,g3⟩:=h.alloc hvr e 0 0
  refine ⟨.slice (some ⟨w.heap.size,0,none⟩) l.toNat n.toNat,w.alloc (.cells ⟨repZ n.toNat z⟩ e (0,0)),?_,_,_,_,hk,?_,g3,g1,fun n'=>(h.alloc hvr e 0 n').2.1⟩
  ·have w1:=wrap_i64 b0 (by omega:l≤9223372036854775807)
   have w2:=wrap_i64 (by omega:0≤n) b2
   have hyn:(y:Int)*n≤281474976710656:=by rw [Int.mul_comm];exact b3
   have t1:(decide (n<0)||decide ((y:Int)*n>2 ^ 48))=false:=by simp;omega
   have hti:(typeInfo e).run P w= .ok i w:=by simp [typeInfo,hi]
   simp only [Instr.makeSlice,asInt,asIntOf,pure_bind,Sem.run_bind,run_underlying hu,Result.andThen_ok,hti,hiy,w1,w2]
   have hcond:((decide (n<0)||decide ((y:Int)*n>2 ^ 48))||decide (l<0)||decide (l>n))=true↔False:=by rw [t1];simp;omega
   have hcond':¬((decide (n<0)||decide ((y:Int)*n>2 ^ 48)||decide (l<0)||decide (l>n))=true):=by rw [hcond];exact id
   simp only [Sem.run_ite,hcond',if_false]
   by_cases h0:n.toNat*s=0
   ·have e0:repZ n.toNat z=[]:=List.eq_nil_of_length_eq_zero (by rw [repZ_length,hl];exact h0)
    have harr:(Array.range (n.toNat*s)).map ((#[]:Array Value)[· % (#[]:Array Value).size]!)=(⟨[]⟩:Array Value):=by rw [h0];simp
    simp only [Bool.false_eq_true,if_false,Sem.run_bind,run_askRoom,Result.andThen_ok,run_sizeOf hs,Sem.run_ite]
    rw [if_pos h0]
    simp only [harr,newRow,Sem.run_bind,run_newObj,Sem.run_pure,Result.andThen_ok,e0]
    rfl
   ·have harr:(Array.range (n.toNat*s)).map (zv.cells[· %zv.cells.size]!)=(⟨repZ n.toNat z⟩:Array Value):=by rw [hcells,←hl];exact repZ_array n.toNat z
    simp only [Bool.false_eq_true,if_false,Sem.run_bind,run_askRoom,Result.andThen_ok,run_sizeOf hs,Sem.run_ite]
    rw [if_neg h0]
    simp only [hzv,Result.andThen_ok,harr,newRow,Sem.run_bind,run_newObj,Sem.run_pure]
    rfl
  ·exact .slice (p:=⟨w.heap.size,0,(repZ n.toNat z).length,0,0⟩) (Ctx.add_self _ _ _)
 ·exact hw.elim
def lenW (P:Program) (t:TypeId) (x:Value) (H:AHeap) (K:Value→AHeap→Prop):Prop:=
 match P.underlying t,x with
 |some .string,.string s=>K (.int .i64 s.data.toList.length) H
 |some (.slice _),.slice _ n _=>K (.int .i64 n) H
 |some (.array n _),_=>K (.int .i64 n) H
 |some (.map _ _),.map none=>K (.int .i64 (0:Nat)) H
 |some (.map _ _),.map (some i)=>(match H[i]? with
  |some (.amap es _ _)=>K (.int .i64 es.length) H
  |_=>False)
 |_,_=>False
theorem lenW_ok {P:Program} {t ty:TypeId} {c:Ctx} {H:AHeap} {w:World} {K:Value→AHeap→Prop} (h:HRel c H w) {x x':Value} (hx:VRel c x x') (hw:lenW P t x H K):Gives P (Builtin.len_ #[t] ty #[x']) c H w K:=by
 unfold lenW at hw
 split at hw
 ·rename_i s hu;cases hx
  refine .pure h (v':= .int .i64 s.size) ?_ ?_ hw
  ·simp [Builtin.len_,run_underlying hu,goInt]
  ·have:s.data.toList.length=s.size:=by simp
   rw [this];exact .int _ _
 ·rename_i hu
  cases hx with
  |nilSlice=>exact .pure h (by simp [Builtin.len_,run_underlying hu,goInt]) (.int _ _) hw
  |slice=>exact .pure h (by simp [Builtin.len_,run_underlying hu,goInt]) (.int _ _) hw
  |sliceX=>exact .pure h (by simp [Builtin.len_,run_underlying hu,goInt]) (.int _ _) hw
  |sliceZ=>exact .pure h (v':= .int .i64 (0:Nat)) (by simp [Builtin.len_,run_underlying hu,goInt]) (.int _ _) hw
 ·rename_i hu
  exact .pure h (by simp [Builtin.len_,run_underlying hu,goInt]) (.int _ _) hw
 ·rename_i hu;cases hx
  exact .pure h (v':= .int .i64 (0:Nat)) (by simp [Builtin.len_,run_underlying hu,goInt]) (.int _ _) hw
 ·rename_i i hu
  cases hx with
  | map hc=>
   split at hw
   ·rename_i es ck own hi
    obtain ⟨q,hq,hr⟩:=h.obj i _ hi rfl
    rw [hc] at hq;cases hq
    obtain ⟨ms,hb,hm,_⟩:=hr
    have hl:es.length=ms.size:=by have:=hm.length;simpa using this
    refine .pure h (v':= .int .i64 es.length) ?_ (.int _ _) hw
    simp [Builtin.len_,run_underlying hu,goInt,getObj,Sem.run,hb,hl]
   ·exact hw.elim
 ·exact hw.elim
theorem VRels.one {c:Ctx} {a:Value} {l':List Value} (h:VRels c [a] l'):∃a',l'=[a']∧VRel c a a':=by
 cases h with
 |cons h1 h2=>cases h2;exact ⟨_,rfl,h1⟩
theorem VRels.two {c:Ctx} {a b:Value} {l':List Value} (h:VRels c [a,b] l'):∃a' b',l'=[a',b']∧VRel c a a'∧VRel c b b':=by
 cases h with
 |cons h1 h2=>obtain ⟨b',rfl,hb⟩:=h2.one;exact ⟨_,_,rfl,h1,hb⟩
theorem VRels.three {c:Ctx} {a b d:Value} {l':List Value} (h:VRels c [a,b,d] l'):∃a' b' d',l'=[a',b',d']∧VRel c a a'∧VRel c b b'∧VRel c d d':=by
 cases h with
 |cons h1 h2=>obtain ⟨b',d',rfl,hb,hd⟩:=h2.two;exact ⟨_,_,_,rfl,h1,hb,hd⟩
def minMaxW (mx:Bool) (l:List Value) (H:AHeap) (K:Value→AHeap→Prop):Prop:=
 match l with
 | [.int k a,.int _ b]=>K (.int k (if mx=true then max a b else min a b)) H
 | [.int k a,.int _ b,.int _ d]=>K (.int k (if mx=true then max (max a b) d else min (min a b) d)) H
 |_=>False
theorem minMaxW_ok {P:Program} {mx:Bool} {ts:Array TypeId} {t:TypeId} {c:Ctx} {H:AHeap} {w:World} {K:Value→AHeap→Prop} (h:HRel c H w) {l l':List Value} (hx:VRels c l l') (hw:minMaxW mx l H K):
  Gives P (if mx=true then Builtin.max_ ts t ⟨l'⟩ else Builtin.min_ ts t ⟨l'⟩) c H w K:=by
 unfold minMaxW at hw
 split at hw
 ·rename_i k a k2 b
  obtain ⟨a',b',rfl,h1,h2⟩:=hx.two
  cases h1;cases h2
  refine .pure h ?_ (.int _ _) hw
  cases mx
  ·simp [Builtin.min_,Builtin.min2];omega
  ·simp [Builtin.max_,Builtin.max2];omega
 ·rename_i k a k2 b k3 d
  obtain ⟨a',b',d',rfl,h1,h2,h3⟩:=hx.three
  cases h1;cases h2;cases h3
  refine .pure h ?_ (.int _ _) hw
  cases mx
  ·simp [Builtin.min_,Builtin.min2];omega
  ·simp [Builtin.max_,Builtin.max2];omega
 ·exact hw.elim
end Go.Aw

set_option linter.unusedVariables false
set_option linter.unusedSimpArgs false
namespace Go.Aw
theorem HRel.kill {c:Ctx} {H:AHeap} {w:World} (h:HRel c H w) (i:Nat) (n:Nat):HRel c (H.set i .dead) w∧Trans n c H w c (H.set i .dead) w:=by
 have back:∀j o,(H.set i .dead)[j]? =some o→o.live=true→H[j]? =some o∧j≠i:=by
  intro j o e hl
  by_cases hj:j=i
  ·subst hj
   have hlt:j<H.length:=by have:=(List.getElem?_eq_some_iff.1 e).1;simpa using this
   rw [List.getElem?_set_self hlt] at e;cases e;cases hl
  ·rw [List.getElem?_set_ne (Ne.symm hj)] at e;exact ⟨e,hj⟩
 have lv:∀o:AObj,o.own=true→o.live=true:=by intro o ho;cases o<;> first|rfl|cases ho
 refine ⟨⟨fun j o e hl=>h.obj j o (back j o e hl).1 hl,?_,fun j hj=>h.fresh j (by simpa using hj)⟩,⟨fun _ _ _ e=>e,rfl,rfl,rfl,Nat.le_refl _,fun _ _ _=>rfl,?_⟩⟩
 ·intro a b oa ob pa pb hab ea eb ca cb hoa hlb
  exact h.sep a b oa ob pa pb hab (back a oa ea (lv oa hoa)).1 (back b ob eb hlb).1 ca cb hoa hlb
 ·rintro b ⟨j,o,p,e,cj,ho,hb⟩
  exact .inl ⟨j,o,p,(back j o e (lv o ho)).1,cj,ho,hb⟩
theorem setCells_heap:∀(vs:List Value) (w:World) (b o:Nat) (arr:Array Value) (e:TypeId) (fr:Nat×Nat),w.heap[b]? =some (.cells arr e fr)→o+vs.length≤arr.size→
  ∃arr':Array Value,(w.setCells b o vs).heap[b]? =some (.cells arr' e fr)∧arr'.size=arr.size∧ (∀ k v,vs[k]? =some v→arr'[o+k]? =some v)∧ (∀ k,k<o→arr'[k]? =arr[k]?)∧
   (∀ c,c≠b→(w.setCells b o vs).heap[c]? =w.heap[c]?)∧WSame w (w.setCells b o vs)∧(w.setCells b o vs).heap.size=w.heap.size
 |[],w,b,o,arr,e,fr,hb,_=>⟨arr,hb,rfl,fun k v h=>by simp at h,fun _ _=>rfl,fun _ _=>rfl,WSame.refl w,rfl⟩
 | v::vs,w,b,o,arr,e,fr,hb,hl=>by
  simp only [List.length_cons] at hl
  have h1:(w.setCell ⟨b,o,none⟩ v).heap[b]? =some (.cells (arr.setIfInBounds o v) e fr):=by simp [World.setCell,Array.getElem?_modify,hb]
  obtain ⟨arr',g1,g2,g3,g4,g5,g6,g7⟩:=setCells_heap vs (w.setCell ⟨b,o,none⟩ v) b (o+1) _ e fr h1 (by simp;omega)
  refine ⟨arr',g1,by simpa using g2,?_,?_,?_,⟨g6.tape,g6.os,g6.output⟩,by rw [World.setCells,g7];simp⟩
  ·intro k u hk
   cases k with
   |zero=>
    simp at hk;subst hk
    rw [Nat.add_zero,g4 o (by omega)]
    have:o<arr.size:=by omega
    simp [this]
   |succ k=>have:=g3 k u (by simpa using hk);rwa [show o+1+k=o+(k+1) from by omega] at this
  ·intro k hk
   rw [g4 k (by omega),Array.getElem?_setIfInBounds_ne (by omega)]
  ·intro d hd
   rw [World.setCells,g5 d hd]
   simp only [World.setCell,Array.getElem?_modify]
   rw [if_neg (Ne.symm hd)]
def srcW (P:Program) (size:Nat) (tx:TypeId) (x:Value) (H:AHeap) (f:Nat→List Value→Prop):Prop:=
 match P.underlying tx,x with
 |some (.slice _),.slice none n _=>n=0∧f 0 []
 |some (.slice _),.slice (some ⟨j,off,none⟩) n _=>(match H[j]? with
  |some (.cells cs _)=>off+n*size≤cs.length∧f n ((cs.drop off).take (n*size))
  |_=>False)
 |some .string,.string s=>size=1∧f s.data.toList.length (bytesC s.data.toList)
 |_,_=>False
theorem VRels.oneCells {c:Ctx}:∀{l l':List Value},VRels c l l'→l.all flat=true→∀u∈l',u.oneCell'=true
 |_,_,.nil,_,u,hu=>by cases hu
 |v::l,v'::l',.cons a b,hf,u,hu=>by
  simp only [List.all_cons,Bool.and_eq_true] at hf
  rcases List.mem_cons.1 hu with rfl|hu
  ·exact oneCell_of a (flat_ne hf.1)
  ·exact VRels.oneCells b (by simpa using hf.2) u hu
theorem srcW_ok {P:Program} {size:Nat} {tx:TypeId} {c:Ctx} {H:AHeap} {w:World} {f:Nat→List Value→Prop} (h:HRel c H w) {x x':Value} (hx:VRel c x x') (hw:srcW P size tx x H f):
  ∃n news news',f n news∧VRels c news news'∧(news.all flat=true→Src P size tx x' n news' w):=by
 unfold srcW at hw
 split at hw
 ·rename_i e n cp hu
  obtain ⟨rfl,hf⟩:=hw
  cases hx
  exact ⟨0,[],[],hf,.nil,fun _=>Src.ofNil w hu _⟩
 ·rename_i e j off n cp hu
  split at hw
  ·rename_i cs k hj
   obtain ⟨hle,hf⟩:=hw
   have key:∀(p:Place) cap',c j=some p→∃n1 news news',f n1 news∧VRels c news news'∧(news.all flat=true→Src P size tx (.slice (some ⟨p.block,p.base+off,none⟩) n cap') n1 news' w):=fun p cap' hc=>by
    obtain ⟨l',hl',hv,hcell⟩:=h.cellsAt' hj hc off (n*size) hle
    refine ⟨n,_,l',hf,hv,fun hflat=> ?_⟩
    refine ⟨.inl ⟨e,hu⟩,fun _=>rfl,?_,?_,hl',hv.oneCells hflat⟩
    ·have:=run_cells (P:=P) (w:=w) (b:=p.block) (o:=p.base+off) (l:=[]) (l':=l') #[] 0 (fun j v' e=>by simpa using hcell j v' e)
     rw [hl'] at this
     simpa [Builtin.firstCells,loadCells] using this
    ·have:=run_cells (P:=P) (w:=w.drew) (b:=p.block) (o:=p.base+off) (l:=[]) (l':=l') #[] 0 (fun j v' e=>by simpa using hcell j v' e)
     rw [hl'] at this
     simpa [Builtin.firstCells,loadCells] using this
   cases hx with
   |slice hc=>exact key _ _ hc
   |sliceX hc _=>exact key _ _ hc
   |sliceZ hc=>
    refine ⟨0,_,[],hf,by simp;exact .nil,fun _=> ?_⟩
    exact ⟨.inl ⟨e,hu⟩,fun _=>rfl,by simp [Builtin.firstCells,loadCells,loadCellsFrom],by simp [Builtin.firstCells,loadCells,loadCellsFrom],by simp,fun _ h=>by cases h⟩
  ·exact hw.elim
 ·rename_i s hu
  obtain ⟨rfl,hf⟩:=hw
  cases hx
  have hb:bytesC s.data.toList=byteCells s:=rfl
  refine ⟨_,_,byteCells s,hf,by rw [← hb];exact .of_scalars (bytesC_scalar _),fun _=> ?_⟩
  have:=Src.ofString w hu s
  simpa using this
 ·exact hw.elim
def appendTo (P:Program) (e:TypeId) (size y:Nat) (sv:Value) (n:Nat) (news:List Value) (H:AHeap) (K:Value→AHeap→Prop):Prop:=
 match sv with
 | .slice none len cap=>(len=0∧cap=0)∧(n=0→K (.slice none 0 0) H)∧(n≠0→(n*y≤140737488355328∧n≤4611686018427387904)∧K (.slice (some ⟨H.length,0,none⟩) n n) (H++ [.cells news ⟨e,size,true,0,none⟩]))
 | .slice (some ⟨i,off,none⟩) len cap=>
  match H[i]? with
  | some (.cells cs k)=>
   (len+n≤cap→(n=0→K sv H)∧(n≠0→(ownW k (off+len*size)∧off+len*size+n*size≤cs.length)∧K (.slice (some ⟨i,off,none⟩) (len+n) cap) (H.set i (.cells (putCells cs (off+len*size) news) k))))∧
   (¬ len+n≤cap→(off+len*size≤cs.length∧(len+n)*y≤140737488355328∧len+n≤4611686018427387904)∧
    (k.esz≠0∧off+cap*k.esz=cs.length→(k.own=true∧k.esz=size∧k.fz≤off+len*size∧k.e=e)∧
     K (.slice (some ⟨H.length,0,none⟩) (len+n) (len+n)) (H.set i .dead++ [.cells ((cs.drop off).take (len*size)++news) ⟨e,size,true,k.fz - off,none⟩]))∧
    (¬ (k.esz≠0∧off+cap*k.esz=cs.length)→
     K (.slice (some ⟨H.length,0,none⟩) (len+n) (len+n)) (H++ [.cells ((cs.drop off).take (len*size)++news) ⟨e,size,true,0,none⟩])))
  |_=>False
 |_=>False
def appendW (P:Program) (t tx:TypeId) (sv x:Value) (H:AHeap) (K:Value→AHeap→Prop):Prop:=
 match P.underlying t with
 | some (.slice e)=>wth (tS P e) fun size=>wth (tB P e) fun y=>wth (tZ P e) fun z=>z.length=size∧0<size∧
   srcW P size tx x H fun n news=>news.all flat=true∧news.length=n*size∧appendTo P e size y sv n news H K
 |_=>False
theorem HRel.grown {c:Ctx} {H:AHeap} {w:World} (h:HRel c H w) {l l':List Value} (hv:VRels c l l') (e:TypeId) (size:Nat) {need cap:Nat} (hn:l.length=need*size) (hc:need≤cap) {rest:Array Value} (hr:rest.size=(cap - need)*size) (hs:0<size) (fz:Nat):
  ∃c',HRel c' (H++ [.cells l ⟨e,size,true,fz,none⟩]) (w.drew.alloc (.cells (l'.toArray++rest) e (0,0)))∧ (∀ n,Trans n c H w c' (H++ [.cells l ⟨e,size,true,fz,none⟩]) (w.drew.alloc (.cells (l'.toArray++rest) e (0,0))))∧c.le c'∧
   VRel c' (.slice (some ⟨H.length,0,none⟩) need need) (.slice (some ⟨w.heap.size,0,none⟩) need cap):=by
 have key:∀n,_:=fun n=>h.extend (w':=w.drew.alloc (.cells (l'.toArray++rest) e (0,0))) (p:=⟨w.heap.size,0,l.length,size,cap - need⟩) (o:= .cells l ⟨e,size,true,fz,none⟩) ⟨rfl,rfl,rfl⟩ (by simp)
  (fun b hb=>by show (w.heap.push _)[b]? =_;rw [Array.getElem?_push,if_neg (by omega)]) (Nat.le_refl _) (by
   refine ⟨rfl,rfl,fun h=>(by simp at h;omega),fun n h=>(by cases h),l'.toArray++rest,0,0,by show (w.heap.push _)[w.heap.size]? =_;simp,?_,?_,fun _ off _ ho=>by omega⟩
   ·intro k v ek
    obtain ⟨v',h1,h2⟩:=hv.get ek
    have hk:k<l'.length:=(List.getElem?_eq_some_iff.1 h1).1
    refine ⟨v',?_,h2.mono (Ctx.le_add _ (h.fresh _ (Nat.le_refl _)))⟩
    rw [Nat.zero_add,Array.getElem?_append_left (by simpa using hk)]
    simpa using h1
   ·simp only [Array.size_append,List.size_toArray,hr,hv.length];omega) n
 refine ⟨_,(key 0).1,fun n=>(key n).2.1,(key 0).2.2,?_⟩
 have:=VRel.sliceX (c:=c.add H.length ⟨w.heap.size,0,l.length,size,cap - need⟩) (i:=H.length) (off:=0) (len:=need) (cap:=need) (Ctx.add_self _ _ _) (by simp [hn])
 simp only [Nat.zero_add] at this
 rwa [show need+(cap - need)=cap from by omega] at this
theorem HRel.regrown {c:Ctx} {H:AHeap} {w:World} (h:HRel c H w) {i:Nat} {cs:List Value} {k:CK} (hi:H[i]? =some (.cells cs k)) (hk:k.own=true) {p:Place} (hc:c i=some p) {news news':List Value} (hv:VRels c news news')
  {off len n cap size:Nat} (hz:k.esz=size) (hs:0<size) (hn:news.length=n*size) (hcap:off+cap*size=cs.length) (hlen:len≤cap) (hroom:len+n≤cap+p.extra) (hfz:k.fz≤off+len*size):
  (∀ j,j<news'.length→(w.cell? ⟨p.block,p.base+off+len*size+j,none⟩).isSome=true)∧ (∀ j,j<news'.length→w.frozen? ⟨p.block,p.base+off+len*size+j,none⟩=false)∧
  ∃c',HRel c' (H.set i .dead++ [.cells ((cs.drop off).take (len*size)++news) ⟨k.e,size,true,k.fz - off,none⟩]) (w.setCells p.block (p.base+off+len*size) news')∧
   (∀ m,Trans m c H w c' (H.set i .dead++ [.cells ((cs.drop off).take (len*size)++news) ⟨k.e,size,true,k.fz - off,none⟩]) (w.setCells p.block (p.base+off+len*size) news'))∧c.le c'∧
   VRel c' (.slice (some ⟨H.length,0,none⟩) (len+n) (len+n)) (.slice (some ⟨p.block,p.base+off,none⟩) (len+n) (cap+p.extra)):=by
 obtain ⟨q,hq,hr⟩:=h.obj i _ hi rfl
 rw [hc] at hq;cases hq
 obtain ⟨r1,r2,r3,hgl,arr,lo,hi',hb,hcs,r4,r5⟩:=hr
 have hnl:news'.length=n*size:=by rw [← hv.length,hn]
 rw [r2,hz] at r4 r5
 have hlt:i<H.length:=(List.getElem?_eq_some_iff.1 hi).1
 have hcm:len*size≤cap*size:=Nat.mul_le_mul_right _ hlen
 have hrm:(len+n)*size≤(cap+p.extra)*size:=Nat.mul_le_mul_right _ hroom
 rw [Nat.add_mul,Nat.add_mul] at hrm
 have hin:p.base+off+len*size+news'.length≤arr.size:=by omega
 refine ⟨fun j hj=> ?_,fun j hj=> ?_,?_⟩
 ·have:p.base+off+len*size+j<arr.size:=by omega
  simp [World.cell?,hb,this]
 ·have:=r5 hk (p.base+off+len*size+j) (by omega) (by omega)
  simp only [World.frozen?,hb]
  simpa using this
 ·obtain ⟨arr',g1,g2,g3,g4,g5,g6,g7⟩:=setCells_heap news' w p.block (p.base+off+len*size) arr k.e (lo,hi') hb hin
  generalize hw':w.setCells p.block (p.base+off+len*size) news'=w' at*
  have hold:∀j v,((cs.drop off).take (len*size))[j]? =some v→∃v',arr[p.base+off+j]? =some v'∧VRel c v v':=by
   intro j v e
   have hj:j<len*size:=by have:=(List.getElem?_eq_some_iff.1 e).1;simp at this;omega
   rw [List.getElem?_take_of_lt hj,List.getElem?_drop] at e
   obtain ⟨v',h1,h2⟩:=hcs (off+j) v e
   exact ⟨v',by rw [Nat.add_assoc];exact h1,h2⟩
  let np:Place:=⟨p.block,p.base+off,(len+n)*size,size,cap+p.extra - (len+n)⟩
  have hle:c.le (c.add H.length np):=Ctx.le_add np (h.fresh _ (Nat.le_refl _))
  have htl:((cs.drop off).take (len*size)).length=len*size:=by simp;omega
  have horel:ORel (c.add H.length np) np w' (.cells ((cs.drop off).take (len*size)++news) ⟨k.e,size,true,k.fz - off,none⟩):=by
   refine ⟨?_,rfl,fun h=>(by simp at h;omega),fun n h=>(by cases h),arr',lo,hi',g1,?_,?_,?_⟩
   ·simp only [np,List.length_append,htl,hn,Nat.add_mul]
   ·intro j v e
    by_cases hj:j<len*size
    ·rw [List.getElem?_append_left (by rw [htl];exact hj)] at e
     obtain ⟨v',h1,h2⟩:=hold j v e
     exact ⟨v',by rw [g4 _ (by simp only [np];omega)];exact h1,h2.mono hle⟩
    ·rw [List.getElem?_append_right (by rw [htl];omega),htl] at e
     obtain ⟨v',h1,h2⟩:=hv.get e
     refine ⟨v',?_,h2.mono hle⟩
     have:=g3 _ _ h1
     rwa [show p.base+off+len*size+(j - len*size)=np.base+j from by simp only [np];omega] at this
   ·simp only [np,g2]
    have:(len+n)*size+(cap+p.extra - (len+n))*size=(cap+p.extra)*size:=by rw [← Nat.add_mul];congr 1;omega
    rw [Nat.add_mul cap] at this
    omega
   ·intro _ o ho1 ho2
    simp only [np] at ho1 ho2
    have:(len+n)*size+(cap+p.extra - (len+n))*size=(cap+p.extra)*size:=by rw [← Nat.add_mul];congr 1;omega
    rw [Nat.add_mul cap] at this
    exact r5 hk o (by omega) (by omega)
  have hsep:∀j oj pj,j≠i→H[j]? =some oj→c j=some pj→oj.live=true→p.block≠pj.block:=fun j oj pj hj ej cj hl=>h.sep i j _ oj p pj (Ne.symm hj) hi ej hc cj hk hl
  have back:∀j o,(H.set i .dead++ [.cells ((cs.drop off).take (len*size)++news) ⟨k.e,size,true,k.fz - off,none⟩])[j]? =some o→o.live=true→(j=H.length∧o= .cells ((cs.drop off).take (len*size)++news) ⟨k.e,size,true,k.fz - off,none⟩)∨(j≠i∧j≠H.length∧H[j]? =some o):=by
   intro j o e hl
   have hjl:j<(H.set i .dead++[AObj.cells ((cs.drop off).take (len*size)++news) ⟨k.e,size,true,k.fz - off,none⟩]).length:=(List.getElem?_eq_some_iff.1 e).1
   simp at hjl
   by_cases hj:j=H.length
   ·subst hj
    have:(H.set i .dead).length=H.length:=by simp
    rw [List.getElem?_append_right (by simp),this,Nat.sub_self] at e
    simp at e
    exact .inl ⟨rfl,e.symm⟩
   ·rw [List.getElem?_append_left (by simp;omega)] at e
    by_cases hji:j=i
    ·subst hji;rw [List.getElem?_set_self hlt] at e;cases e;cases hl
    ·rw [List.getElem?_set_ne (Ne.symm hji)] at e
     exact .inr ⟨hji,hj,e⟩
  have lv:∀o:AObj,o.own=true→o.live=true:=by intro o ho;cases o<;> first|rfl|cases ho
  refine ⟨c.add H.length np,⟨?_,?_,?_⟩,fun m=>⟨fun j q _ e=>hle j q e,g6.tape,g6.os,g6.output,by omega,?_,?_⟩,hle,?_⟩
  ·intro j o e hl
   rcases back j o e hl with ⟨rfl,rfl⟩|⟨h1,h2,h3⟩
   ·exact ⟨np,Ctx.add_self _ _ _,horel⟩
   ·obtain ⟨q,hq,hrq⟩:=h.obj j o h3 hl
    refine ⟨q,by rw [Ctx.add_other _ _ h2];exact hq,hrq.keep hle hl (g5 _ (Ne.symm (hsep j o q h1 h3 hq hl)))⟩
  ·intro a b oa ob pa pb hab ea eb ca cb hoa hlb
   rcases back a oa ea (lv _ hoa) with ⟨rfl,rfl⟩|⟨a1,a2,a3⟩
   ·rw [Ctx.add_self] at ca;cases ca
    rcases back b ob eb hlb with ⟨rfl,rfl⟩|⟨b1,b2,b3⟩
    ·exact absurd rfl hab
    ·rw [Ctx.add_other _ _ b2] at cb
     exact hsep b ob pb b1 b3 cb hlb
   ·rw [Ctx.add_other _ _ a2] at ca
    rcases back b ob eb hlb with ⟨rfl,rfl⟩|⟨b1,b2,b3⟩
    ·rw [Ctx.add_self] at cb;cases cb
     exact Ne.symm (hsep a oa pa a1 a3 ca (lv _ hoa))
    ·rw [Ctx.add_other _ _ b2] at cb
     exact h.sep a b oa ob pa pb hab a3 b3 ca cb hoa hlb
  ·intro j hj
   simp at hj
   rw [Ctx.add_other _ _ (by omega)]
   exact h.fresh j (by omega)
  ·intro b hb hno
   refine g5 b (fun hbp=>hno ⟨i,_,p,hi,hc,hk,hbp.symm⟩)
  ·rintro b ⟨j,o,q,e,cj,ho,hbq⟩
   rcases back j o e (lv _ ho) with ⟨rfl,rfl⟩|⟨a1,a2,a3⟩
   ·rw [Ctx.add_self] at cj;cases cj
    exact .inl ⟨i,_,p,hi,hc,hk,hbq⟩
   ·rw [Ctx.add_other _ _ a2] at cj
    exact .inl ⟨j,o,q,a3,cj,ho,hbq⟩
  ·have:=VRel.sliceX (c:=c.add H.length np) (i:=H.length) (off:=0) (len:=len+n) (cap:=len+n) (Ctx.add_self _ _ _) (by simp [np])
   simp only [np,Nat.add_zero] at this
   rwa [show len+n+(cap+p.extra - (len+n))=cap+p.extra from by omega] at this
end Go.Aw

set_option linter.unusedVariables false
set_option linter.unusedSimpArgs false
namespace Go.Aw
theorem run_append_zero {P:Program} (w:World) (t tx ty e:TypeId) (i:TypeInfo) (ht:P.underlying t=some (.slice e)) (hi:P.info? e=some i) (a:Addr) (x:Value) (hs:Src P i.size tx x 0 [] w):
  (Builtin.append_ #[t,tx] ty #[.slice (some a) 0 0,x]).run P w= .ok (.slice (some a) 0 0) w:=by
 rcases hs.kind with ⟨e',hk⟩|hk<;> simp [Builtin.append_,run_underlying ht,run_underlying hk,sizeOf,typeInfo,hi,hs.len,hs.cells,storeCells]
theorem set_same {H:AHeap} {i:Nat} {o:AObj} (h:H[i]? =some o):H.set i o=H:=by
 have hlt:i<H.length:=(List.getElem?_eq_some_iff.1 h).1
 apply List.ext_getElem?
 intro m
 by_cases hm:m=i
 ·subst hm;rw [List.getElem?_set_self hlt,h]
 ·rw [List.getElem?_set_ne (Ne.symm hm)]
theorem HRel.setCells {c:Ctx} {i:Nat} {k:CK} {p:Place} (hk:k.own=true) (hc:c i=some p):∀{l l':List Value},VRels c l l'→∀(cs:List Value) (H:AHeap) (w:World) (off:Nat),HRel c H w→H[i]? =some (.cells cs k)→off+l.length≤cs.length→k.fz≤off→
  (∀ j,j<l'.length→(w.cell? ⟨p.block,p.base+off+j,none⟩).isSome=true)∧ (∀ j,j<l'.length→w.frozen? ⟨p.block,p.base+off+j,none⟩=false)∧
  HRel c (H.set i (.cells (putCells cs off l) k)) (w.setCells p.block (p.base+off) l')∧∀n,Trans n c H w c (H.set i (.cells (putCells cs off l) k)) (w.setCells p.block (p.base+off) l')
 |_,_,.nil,cs,H,w,off,h,hi,_,_=>by
  simp only [putCells,set_same hi,World.setCells]
  exact ⟨fun j hj=>by simp at hj,fun j hj=>by simp at hj,h,fun n=> .refl n c H w⟩
 | v::l,v'::l',.cons hv hvs,cs,H,w,off,h,hi,hle,hf=>by
  simp only [List.length_cons] at hle
  have hlt:i<H.length:=(List.getElem?_eq_some_iff.1 hi).1
  obtain ⟨⟨u,hu⟩,hfr,h1,ht1⟩:=h.setCell hi hk hc (off:=off) (by omega) hf hv 0
  obtain ⟨g1,g2,g3,g4⟩:=HRel.setCells hk hc hvs (cs.set off v) _ _ (off+1) h1 (List.getElem?_set_self hlt) (by simp;omega) (by omega)
  refine ⟨fun j hj=> ?_,fun j hj=> ?_,?_,fun n=> ?_⟩
  ·cases j with
   |zero=>simp [hu]
   |succ j=>
    have:=g1 j (by simpa using hj)
    rw [World.cell?_setCell_other _ _ _ _ (by simp)] at this
    rwa [show p.base+(off+1)+j=p.base+off+(j+1) from by omega] at this
  ·cases j with
   |zero=>simpa using hfr
   |succ j=>
    have:=g2 j (by simpa using hj)
    rw [World.frozen?_setCell] at this
    rwa [show p.base+(off+1)+j=p.base+off+(j+1) from by omega] at this
  ·simpa [List.set_set,putCells,World.setCells,Nat.add_assoc] using g3
  ·have t1:=(h.setCell hi hk hc (off:=off) (by omega) hf hv n).2.2.2
   have:=t1.trans (g4 n)
   simpa [List.set_set,putCells,World.setCells,Nat.add_assoc] using this
theorem tS_info {P:Program} {t:TypeId} {n:Nat} (h:tS P t=some n):∃i,P.info? t=some i∧i.size=n:=by
 unfold tS at h
 cases hi:P.info? t with
 |none=>rw [hi] at h;cases h
 |some i=>rw [hi] at h;simp at h;exact ⟨i,rfl,h⟩
theorem appendW_ok {P:Program} {t tx ty:TypeId} {c:Ctx} {H:AHeap} {w:World} {K:Value→AHeap→Prop} (h:HRel c H w) {sv sv' x x':Value} (hs:VRel c sv sv') (hx:VRel c x x') (hw:appendW P t tx sv x H K):
  Gives P (Builtin.append_ #[t,tx] ty #[sv',x']) c H w K:=by
 unfold appendW at hw
 split at hw
 ·rename_i e hu
  obtain ⟨size,hsz,hwa⟩:=wth_elim hw
  clear hw
  obtain ⟨y,hy,hwb⟩:=wth_elim hwa
  clear hwa
  obtain ⟨z,hz,hzl,hpos,hwc⟩:=wth_elim hwb
  clear hwb
  obtain ⟨n,news,news',⟨hfl,hnl,hw⟩,hnv,hsrc⟩:=srcW_ok h hx hwc
  clear hwc
  have hsrc:=hsrc hfl
  obtain ⟨i,hi,his⟩:=tS_info hsz
  have hiy:i.bytes=y:=by unfold tB at hy;rw [hi] at hy;simpa using hy
  have hiz:∃zv,i.zero=some zv∧zv.cells.size=size:=by
   unfold tZ at hz;rw [hi] at hz;simp at hz
   obtain ⟨zv,h1,h2⟩:=hz
   exact ⟨zv,h1,by rw [← hzl,←h2];rfl⟩
  obtain ⟨zv,hzv,hzs⟩:=hiz
  have hnl':news'.length=n*size:=by rw [← hnv.length,hnl]
  have grow:∀(H0:AHeap) (base:Option Addr) (len cap':Nat) (olds olds':List Value) (hh:HRel c H0 w) (ht:∀m,Trans m c H w c H0 w) (hlen:H0.length=H.length),VRels c olds olds'→olds.length=len*size→
    (Builtin.firstCells size len (.slice base len cap')).run P w.drew= .ok olds'.toArray w.drew→cap'<len+n→(len+n)*y≤140737488355328→len+n≤4611686018427387904→∀fz,
    K (.slice (some ⟨H.length,0,none⟩) (len+n) (len+n)) (H0++ [.cells (olds++news) ⟨e,size,true,fz,none⟩])→
    Gives P (Builtin.append_ #[t,tx] ty #[.slice base len cap',x']) c H w K:=by
   intro H0 base len cap' olds olds' hh ht hlen ho hol hold hg hby h63 fz hk
   have hge:=grownCap_ge w (len+n) cap' e
   have hrun:=run_append_grow_src (P:=P) w t tx ty e i zv hu hi hzv base len cap' olds' (by rw [his];exact hold) x' n news' (by rw [his];exact hsrc) hg (by omega) (growslice_fits hg (by rw [hiy];exact hby))
   obtain ⟨c',g1,g2,g3,g4⟩:=hh.grown (ho.append hnv) e size (need:=len+n) (cap:=grownCap w (len+n) cap' e) (by rw [List.length_append,hol,hnl,Nat.add_mul]) hge (rest:=Builtin.zeroCells zv.cells (grownCap w (len+n) cap' e - (len+n))) (by rw [size_zeroCells,hzs]) hpos fz
   rw [hlen] at g4
   refine ⟨_,_,hrun,_,_,c',hk,g4,g3,g1,fun m=>(ht m).trans (g2 m)⟩
  unfold appendTo at hw
  split at hw
  ·rename_i len cap
   obtain ⟨⟨rfl,rfl⟩,hw0,hw1⟩:=hw
   cases hs
   by_cases hn:n=0
   ·subst hn
    refine .pure h ?_ (.nilSlice 0 0) (hw0 rfl)
    rcases hsrc.kind with ⟨e',hk⟩|hk<;> simp [Builtin.append_,run_underlying hu,run_underlying hk,sizeOf,typeInfo,hi,his,hsrc.len,hsrc.cells]
   ·obtain ⟨⟨hb1,hb2⟩,hk⟩:=hw1 hn
    refine grow H none 0 0 [] [] h (fun m=> .refl m c H w) rfl .nil (by simp) (by simp [Builtin.firstCells]) (by omega) (by simpa using hb1) (by omega) 0 ?_
    simpa using hk
  ·rename_i i0 off len cap
   split at hw
   ·rename_i cs k hi0
    obtain ⟨hroomW,hgrowW⟩:=hw
    have olds:∀(p:Place) cap',c i0=some p→off+len*size≤cs.length→∃l',VRels c ((cs.drop off).take (len*size)) l'∧(Builtin.firstCells size len (.slice (some ⟨p.block,p.base+off,none⟩) len cap')).run P w.drew= .ok l'.toArray w.drew:=fun p cap' hc hle=>by
     obtain ⟨hd,_⟩:=h.drew 0
     obtain ⟨l',hl',hv,hrun⟩:=hd.cellsAt hi0 hc off (len*size) hle
     refine ⟨l',hv,?_⟩
     have:=hrun P #[]
     simpa [Builtin.firstCells,loadCells] using this
    have room:∀(p:Place) cap',c i0=some p→cap≤cap'→len+n≤cap→VRel c (.slice (some ⟨i0,off,none⟩) (len+n) cap) (.slice (some ⟨p.block,p.base+off,none⟩) (len+n) cap')→VRel c (.slice (some ⟨i0,off,none⟩) len cap) (.slice (some ⟨p.block,p.base+off,none⟩) len cap')→
      Gives P (Builtin.append_ #[t,tx] ty #[.slice (some ⟨p.block,p.base+off,none⟩) len cap',x']) c H w K:=fun p cap' hc hcc hr hv1 hv2=>by
     obtain ⟨k0,k1⟩:=hroomW hr
     by_cases hn:n=0
     ·subst hn
      have hne:news'=[]:=List.eq_nil_of_length_eq_zero (by rw [hnl'];simp)
      subst hne
      refine .pure h ?_ hv2 (k0 rfl)
      have:=run_append_room_src (P:=P) w t tx ty e i hu hi p.block (p.base+off) len cap' x' 0 [] (by rw [his];exact hsrc) (by omega) (fun j hj=>by simp at hj) (fun j hj=>by simp at hj)
      simpa [World.setCells] using this
     ·obtain ⟨⟨⟨o1,o2⟩,hin⟩,hk⟩:=k1 hn
      obtain ⟨g1,g2,g3,g4⟩:=HRel.setCells o1 hc hnv cs H w (off+len*size) h hi0 (by omega) o2
      rw [← Nat.add_assoc] at g1 g2 g3 g4
      have hrun:=run_append_room_src (P:=P) w t tx ty e i hu hi p.block (p.base+off) len cap' x' n news' (by rw [his];exact hsrc) (by omega) (by rw [his];exact g1) (by rw [his];exact g2)
      rw [his] at hrun
      exact ⟨_,_,hrun,_,_,c,hk,hv1,Ctx.le_refl c,g3,g4⟩
    cases hs with
    | slice hc=>
     rename_i p
     by_cases hr:len+n≤cap
     ·exact room p cap hc (Nat.le_refl _) hr (.slice hc) (.slice hc)
     ·obtain ⟨⟨b1,b2,b3⟩,k1,k2⟩:=hgrowW hr
      obtain ⟨l',hv,hold⟩:=olds p cap hc b1
      have hol:((cs.drop off).take (len*size)).length=len*size:=by simp;omega
      by_cases hx2:k.esz≠0∧off+cap*k.esz=cs.length
      ·obtain ⟨_,hk⟩:=k1 hx2
       exact grow (H.set i0 .dead) _ len cap _ l' (h.kill i0 0).1 (fun m=>(h.kill i0 m).2) (by simp) hv hol hold (by omega) b2 b3 _ hk
      ·exact grow H _ len cap _ l' h (fun m=> .refl m c H w) rfl hv hol hold (by omega) b2 b3 0 (k2 hx2)
    | sliceX hc hsx=>
     rename_i p
     by_cases hr:len+n≤cap
     ·exact room p _ hc (by omega) hr (.sliceX hc hsx) (.sliceX hc hsx)
     ·obtain ⟨⟨b1,b2,b3⟩,k1,k2⟩:=hgrowW hr
      obtain ⟨l',hv,hold⟩:=olds p (cap+p.extra) hc b1
      have hol:((cs.drop off).take (len*size)).length=len*size:=by simp;omega
      obtain ⟨q,hq,hro⟩:=h.obj i0 _ hi0 rfl
      rw [hc] at hq;cases hq
      obtain ⟨r1,r2,r3,_⟩:=hro
      by_cases hz0:k.esz=0
      ·have hx0:=r3 hz0
       have hx2:¬(k.esz≠0∧off+cap*k.esz=cs.length):=fun hh=>hh.1 hz0
       exact grow H _ len _ _ l' h (fun m=> .refl m c H w) rfl hv hol hold (by omega) b2 b3 0 (k2 hx2)
      ·have hend:off+cap*k.esz=cs.length:=by rw [← r2,hsx,r1]
       obtain ⟨⟨o1,o2,o3,o4⟩,hk⟩:=k1 ⟨hz0,hend⟩
       by_cases hfit:len+n≤cap+p.extra
       ·have hlc:len≤cap:=by
         rw [o2] at hend
         have:len*size≤cap*size:=by omega
         exact Nat.le_of_mul_le_mul_right this hpos
        obtain ⟨g1,g2,c',g3,g4,g5,g6⟩:=h.regrown hi0 o1 hc hnv o2 hpos hnl (by rw [← o2];exact hend) hlc hfit o3
        have hrun:=run_append_room_src (P:=P) w t tx ty e i hu hi p.block (p.base+off) len (cap+p.extra) x' n news' (by rw [his];exact hsrc) hfit (by rw [his];exact g1) (by rw [his];exact g2)
        rw [his] at hrun
        rw [o4] at g3 g4
        exact ⟨_,_,hrun,_,_,c',hk,g6,g5,g3,g4⟩
       ·exact grow (H.set i0 .dead) _ len _ _ l' (h.kill i0 0).1 (fun m=>(h.kill i0 m).2) (by simp) hv hol hold (by omega) b2 b3 _ hk
    | @sliceZ _ _ ad p hc=>
     obtain ⟨b0,x0,sp0⟩:=ad
     by_cases hn:n=0
     ·subst hn
      obtain ⟨k0,_⟩:=hroomW (by omega)
      refine .pure h ?_ (.sliceZ (a:=⟨b0,x0,sp0⟩) hc) (k0 rfl)
      have hne:news'=[]:=List.eq_nil_of_length_eq_zero (by rw [hnl'];simp)
      subst hne
      exact run_append_zero (P:=P) w t tx ty e i hu hi ⟨b0,x0,sp0⟩ x' (by rw [his];exact hsrc)
     ·obtain ⟨⟨b1,b2,b3⟩,k1,k2⟩:=hgrowW (by omega)
      have hold:(Builtin.firstCells size 0 (.slice (some ⟨b0,x0,sp0⟩) 0 0)).run P w.drew= .ok ([]:List Value).toArray w.drew:=by simp [Builtin.firstCells,loadCells,loadCellsFrom]
      by_cases hx2:k.esz≠0∧off+0*k.esz=cs.length
      ·obtain ⟨_,hk⟩:=k1 hx2
       exact grow (H.set i0 .dead) _ 0 0 [] [] (h.kill i0 0).1 (fun m=>(h.kill i0 m).2) (by simp) .nil (by simp) hold (by omega) b2 b3 _ (by simpa using hk)
      ·exact grow H _ 0 0 [] [] h (fun m=> .refl m c H w) rfl .nil (by simp) hold (by omega) b2 b3 0 (by simpa using k2 hx2)
   ·exact hw.elim
  ·exact hw.elim
 ·exact hw.elim
def copyW (P:Program) (dT:TypeId) (d x:Value) (H:AHeap) (K:Value→AHeap→Prop):Prop:=
 match P.underlying dT with
 | some (.slice e)=>wth (tS P e) fun size=>
  match d,x with
  | .slice (some ⟨i,o,none⟩) dl _,.slice (some ⟨j,off,none⟩) m _=>
   (match H[i]?,H[j]? with
   | some (.cells cs k),some (.cells cs2 _)=>((cs2.drop off).take (min m dl*size)).all flat=true∧off+min m dl*size≤cs2.length∧o+min m dl*size≤cs.length∧ownW k o∧
     K (.int .i64 (min m dl:Nat)) (H.set i (.cells (putCells cs o ((cs2.drop off).take (min m dl*size))) k))
   |_,_=>False)
  | .slice (some ⟨i,o,none⟩) dl _,.string s=>
   (match H[i]? with
   | some (.cells cs k)=>size=1∧o+min s.data.toList.length dl≤cs.length∧ownW k o∧
     K (.int .i64 (min s.data.toList.length dl:Nat)) (H.set i (.cells (putCells cs o (bytesC (s.data.toList.take (min s.data.toList.length dl)))) k))
   |_=>False)
  | .slice none 0 _,.slice none 0 _| .slice none 0 _,.slice (some _) _ _| .slice (some _) _ _,.slice none 0 _| .slice none 0 _,.string _=>K (.int .i64 (0:Nat)) H
  |_,_=>False
 |_=>False
theorem copyW_ok {P:Program} {t tx ty:TypeId} {c:Ctx} {H:AHeap} {w:World} {K:Value→AHeap→Prop} (h:HRel c H w) {d d' x x':Value} (hd:VRel c d d') (hx:VRel c x x') (hw:copyW P t d x H K):
  Gives P (Builtin.copy_ #[t,tx] ty #[d',x']) c H w K:=by
 unfold copyW at hw
 split at hw
 ·rename_i e hu
  obtain ⟨size,hsz,hwa⟩:=wth_elim hw
  clear hw
  split at hwa
  ·rename_i i o dl dc j off m mc
   split at hwa
   ·rename_i cs k cs2 k2 hi hj
    obtain ⟨hfl,hin2,hin,⟨o1,o2⟩,hk⟩:=hwa
    have key:∀(p q:Place) c1 c2,c i=some p→c j=some q→Gives P (Builtin.copy_ #[t,tx] ty #[.slice (some ⟨p.block,p.base+o,none⟩) dl c1,.slice (some ⟨q.block,q.base+off,none⟩) m c2]) c H w K:=fun p q c1 c2 hp hq=>by
     obtain ⟨l',hl',hv,hrun⟩:=h.cellsAt hj hq off (min m dl*size) hin2
     obtain ⟨w',hr,h1,ht⟩:=run_storeCellsA (P:=P) o1 hp hv hfl cs H w o 0 h hi (by simp;omega) (by omega)
     refine ⟨.int .i64 (min m dl:Nat),w',?_,_,_,c,hk,.int _ _,Ctx.le_refl c,by simpa using h1,by simpa using ht⟩
     have hmin:Nat.min m dl=min m dl:=rfl
     simp only [Builtin.copy_,Sem.run_bind,run_underlying hu,Result.andThen_ok,Builtin.lenOf,Sem.run_pure,List.getElem?_toArray,List.getElem?_cons_zero,List.getElem?_cons_succ,run_sizeOf hsz,Builtin.firstCells,loadCells,hmin,hrun]
     simp [hr,goInt]
    have none1:∀(a b:Addr) c1 c2,min m dl=0→Gives P (Builtin.copy_ #[t,tx] ty #[.slice (some a) dl c1,.slice (some b) m c2]) c H w K:=fun a b c1 c2 h0=>by
     refine .pure h (v':= .int .i64 (min m dl:Nat)) ?_ (.int _ _) ?_
     ·have hmin:Nat.min m dl=0:=h0
      simp only [Builtin.copy_,Sem.run_bind,run_underlying hu,Result.andThen_ok,Builtin.lenOf,Sem.run_pure,List.getElem?_toArray,List.getElem?_cons_zero,List.getElem?_cons_succ,run_sizeOf hsz,Builtin.firstCells,hmin,h0]
      simp [loadCells,loadCellsFrom,storeCells,goInt]
     ·rw [h0] at hk ⊢
      simpa [putCells,set_same hi] using hk
    cases hd with
    |slice hp=>
     cases hx with
     |slice hq=>exact key _ _ _ _ hp hq
     |sliceX hq _=>exact key _ _ _ _ hp hq
     |sliceZ hq=>exact none1 _ _ _ _ (by simp)
    |sliceX hp _=>
     cases hx with
     |slice hq=>exact key _ _ _ _ hp hq
     |sliceX hq _=>exact key _ _ _ _ hp hq
     |sliceZ hq=>exact none1 _ _ _ _ (by simp)
    |sliceZ hp=>
     cases hx with
     |slice hq=>exact none1 _ _ _ _ (by simp)
     |sliceX hq _=>exact none1 _ _ _ _ (by simp)
     |sliceZ hq=>exact none1 _ _ _ _ (by simp)
   ·exact hwa.elim
  ·rename_i i o dl dc s
   split at hwa
   ·rename_i cs k hi
    obtain ⟨rfl,hin,⟨o1,o2⟩,hk⟩:=hwa
    cases hx
    have hlen:s.data.toList.length=s.size:=by simp
    rw [hlen] at hin hk
    have hcells:∀n,n≤s.size→((s.extract 0 n).data.map fun b=>Value.int .u8 b.toNat)=⟨bytesC (s.data.toList.take n)⟩:=fun n hn=>by
     apply Array.ext'
     simp [bytesC]
    have key:∀(p:Place) c1,c i=some p→Gives P (Builtin.copy_ #[t,tx] ty #[.slice (some ⟨p.block,p.base+o,none⟩) dl c1,.string s]) c H w K:=fun p c1 hp=>by
     have hb:(bytesC (s.data.toList.take (min s.size dl))).length=min s.size dl:=by rw [bytesC_length,List.length_take,hlen];omega
     obtain ⟨w',hr,h1,ht⟩:=run_storeCellsA (P:=P) o1 hp (VRels.of_scalars (c:=c) (bytesC_scalar (s.data.toList.take (min s.size dl)))) (bytesC_flat _) cs H w o 0 h hi (by omega) (by omega)
     refine ⟨.int .i64 (min s.size dl:Nat),w',?_,_,_,c,hk,.int _ _,Ctx.le_refl c,by simpa using h1,by simpa using ht⟩
     have hmin:Nat.min s.size dl=min s.size dl:=rfl
     simp only [Builtin.copy_,Sem.run_bind,run_underlying hu,Result.andThen_ok,Builtin.lenOf,Sem.run_pure,List.getElem?_toArray,List.getElem?_cons_zero,List.getElem?_cons_succ,run_sizeOf hsz,Builtin.firstCells,hmin,hcells _ (Nat.min_le_left _ _)]
     simp [hr,goInt]
    cases hd with
    |slice hp=>exact key _ _ hp
    |sliceX hp _=>exact key _ _ hp
    | @sliceZ _ _ ad p hp=>
     obtain ⟨b0,x0,sp0⟩:=ad
     refine .pure h (v':= .int .i64 (0:Nat)) ?_ (.int _ _) (by simpa [putCells,bytesC,set_same hi] using hk)
     have hmin:Nat.min s.size 0=0:=by simp
     simp only [Builtin.copy_,Sem.run_bind,run_underlying hu,Result.andThen_ok,Builtin.lenOf,Sem.run_pure,List.getElem?_toArray,List.getElem?_cons_zero,List.getElem?_cons_succ,run_sizeOf hsz,Builtin.firstCells,hmin]
     simp [storeCells,goInt]
   ·exact hwa.elim
  ·cases hd;cases hx
   refine .pure h (v':= .int .i64 (0:Nat)) ?_ (.int _ _) hwa
   simp [Builtin.copy_,run_underlying hu,Builtin.lenOf,run_sizeOf hsz,Builtin.firstCells,goInt]
  ·cases hd
   have:∀(a:Addr) m mc cp,(Builtin.copy_ #[t,tx] ty #[.slice none 0 cp,.slice (some a) m mc]).run P w= .ok (.int .i64 (0:Nat)) w:=fun a m mc cp=>by
    have hmin:Nat.min m 0=0:=by simp
    simp only [Builtin.copy_,Sem.run_bind,run_underlying hu,Result.andThen_ok,Builtin.lenOf,Sem.run_pure,List.getElem?_toArray,List.getElem?_cons_zero,List.getElem?_cons_succ,run_sizeOf hsz,Builtin.firstCells,hmin]
    simp [loadCells,loadCellsFrom,goInt]
   cases hx<;> exact .pure h (v':= .int .i64 (0:Nat)) (this _ _ _ _) (.int _ _) hwa
  ·cases hx
   have:∀(a:Addr) m mc cp,(Builtin.copy_ #[t,tx] ty #[.slice (some a) m mc,.slice none 0 cp]).run P w= .ok (.int .i64 (0:Nat)) w:=fun a m mc cp=>by
    have hmin:Nat.min 0 m=0:=by simp
    simp only [Builtin.copy_,Sem.run_bind,run_underlying hu,Result.andThen_ok,Builtin.lenOf,Sem.run_pure,List.getElem?_toArray,List.getElem?_cons_zero,List.getElem?_cons_succ,run_sizeOf hsz,Builtin.firstCells,hmin]
    simp [storeCells,goInt]
   cases hd<;> exact .pure h (v':= .int .i64 (0:Nat)) (this _ _ _ _) (.int _ _) hwa
  ·rename_i s
   cases hd;cases hx
   refine .pure h (v':= .int .i64 (0:Nat)) ?_ (.int _ _) hwa
   have hmin:Nat.min s.size 0=0:=by simp
   simp only [Builtin.copy_,Sem.run_bind,run_underlying hu,Result.andThen_ok,Builtin.lenOf,Sem.run_pure,List.getElem?_toArray,List.getElem?_cons_zero,List.getElem?_cons_succ,run_sizeOf hsz,Builtin.firstCells,hmin]
   simp [goInt]
  ·exact hwa.elim
 ·exact hw.elim
end Go.Aw

set_option linter.unusedVariables false
set_option linter.unusedSimpArgs false
namespace Go.Aw
abbrev MEs:=List (Value×Value×Nat)
def keyB (d:Option TypeDesc) (k:Value):Bool:=
 match d,k with
 |some .bool,.bool _=>true
 |some (.int a),.int b _=>decide (b=a)
 |some .string,.string _=>true
 |_,_=>false
def sameK:Value→Value→Bool
 | .bool a,.bool b=>a==b
 | .int k a,.int j b=>decide (k=j)&&a==b
 | .string a,.string b=>a==b
 |_,_=>false
def mIx (k:Value) (es:MEs):Option Nat:=es.findIdx? fun e=>sameK k e.1
def mGet (k:Value) (es:MEs):Option Value:=(mIx k es).bind fun j=>(es[j]?).map (·.2.1)
def mPut (k v:Value) (ck:Nat) (es:MEs):MEs:=match mIx k es with
 |some j=>es.modify j fun e=>(k,v,e.2.2)
 |none=>es++[(k,v,ck)]
def mCk (k:Value) (ck:Nat) (es:MEs):Nat:=if (mIx k es).isSome then ck else ck+1
def mDel (k:Value) (es:MEs):MEs:=match mIx k es with
 |some j=>es.eraseIdx j
 |none=>es
def keysB (d:Option TypeDesc) (es:MEs):Bool:=es.all fun e=>keyB d e.1
theorem keyB_isKey {d:Option TypeDesc} {k:Value} (h:keyB d k=true):∃d0,d=some d0∧MapKept.IsKey d0 k:=by
 unfold keyB at h
 split at h
 ·exact ⟨_,rfl,trivial⟩
 ·exact ⟨_,rfl,by simpa [MapKept.IsKey] using h⟩
 ·exact ⟨_,rfl,trivial⟩
 ·cases h
theorem keyB_scalar {d:Option TypeDesc} {k:Value} (h:keyB d k=true):scalar k=true:=by
 unfold keyB at h
 split at h<;> first|rfl|cases h
theorem sameK_iff {d:Option TypeDesc} {a b:Value} (ha:keyB d a=true) (hb:keyB d b=true):sameK a b=true↔a=b:=by
 unfold keyB at ha hb
 split at ha
 ·split at hb<;> first|(simp [sameK];done)|(simp_all;done)
 ·split at hb<;> first|(simp_all [sameK];done)|(simp_all;done)
 ·split at hb<;> first|(simp [sameK,MapKept.bytes_beq];done)|(simp_all;done)
 ·cases ha
theorem MapRel.nil {c:Ctx}:MapRel c [] []:= ⟨.nil,.nil,rfl⟩
theorem MapRel.get {c:Ctx} {es:MEs} {ms:List MapEntry} (h:MapRel c es ms) {j:Nat} {e:Value×Value×Nat} (he:es[j]? =some e):∃m,ms[j]? =some m∧VRel c e.1 m.key∧VRel c e.2.1 m.val∧m.born=e.2.2:=by
 obtain ⟨h1,h2,h3⟩:=h
 obtain ⟨k',a1,a2⟩:=h1.get (k:=j) (v:=e.1) (by rw [List.getElem?_map,he];rfl)
 obtain ⟨v',b1,b2⟩:=h2.get (k:=j) (v:=e.2.1) (by rw [List.getElem?_map,he];rfl)
 rw [List.getElem?_map,Option.map_eq_some_iff] at a1 b1
 obtain ⟨m,c1,c2⟩:=a1
 obtain ⟨m',d1,d2⟩:=b1
 rw [c1] at d1;cases d1
 subst c2;subst d2
 refine ⟨m,c1,a2,b2,?_⟩
 have:=congrArg (·[j]?) h3
 simp only [List.getElem?_map,he,c1,Option.map_some,Option.some.injEq] at this
 exact this
theorem MapRel.len {c:Ctx} {es:MEs} {ms:List MapEntry} (h:MapRel c es ms):es.length=ms.length:=by
 have:=h.1.length;simpa using this
theorem MapRel.of_get {c:Ctx} {es:MEs} {ms:List MapEntry} (hl:es.length=ms.length) (h:∀(j:Nat) (e:Value×Value×Nat) (m:MapEntry),es[j]? =some e→ms[j]? =some m→VRel c e.1 m.key∧VRel c e.2.1 m.val∧m.born=e.2.2):MapRel c es ms:=by
 refine ⟨VRels.of_get (by simpa using hl) fun k v v' e1 e2=> ?_,VRels.of_get (by simpa using hl) fun k v v' e1 e2=> ?_,List.ext_getElem? fun j=> ?_⟩
 ·rw [List.getElem?_map,Option.map_eq_some_iff] at e1 e2
  obtain ⟨a,a1,rfl⟩:=e1
  obtain ⟨b,b1,rfl⟩:=e2
  exact (h k a b a1 b1).1
 ·rw [List.getElem?_map,Option.map_eq_some_iff] at e1 e2
  obtain ⟨a,a1,rfl⟩:=e1
  obtain ⟨b,b1,rfl⟩:=e2
  exact (h k a b a1 b1).2.1
 ·rw [List.getElem?_map,List.getElem?_map]
  by_cases hj:j<es.length
  ·rw [List.getElem?_eq_getElem hj,List.getElem?_eq_getElem (by omega:j<ms.length)]
   simp only [Option.map_some,Option.some.injEq]
   exact (h j _ _ (List.getElem?_eq_getElem hj) (List.getElem?_eq_getElem (by omega))).2.2
  ·rw [List.getElem?_eq_none (by omega),List.getElem?_eq_none (by omega)];rfl
theorem MapRel.snoc {c:Ctx} {es:MEs} {ms:List MapEntry} (h:MapRel c es ms) {k v v':Value} {b:Nat} (hk:scalar k=true) (hv:VRel c v v'):MapRel c (es++[(k,v,b)]) (ms++[{key:=k,val:=v',born:=b}]):=by
 obtain ⟨h1,h2,h3⟩:=h
 refine ⟨?_,?_,?_⟩
 ·simpa using h1.append (.cons (.of_scalar hk) .nil)
 ·simpa using h2.append (.cons hv .nil)
 ·simp [h3]
theorem MapRel.modify {c:Ctx} {es:MEs} {ms:List MapEntry} (h:MapRel c es ms) (j:Nat) {f:Value×Value×Nat→Value×Value×Nat} {g:MapEntry→MapEntry}
  (hf:∀e m,es[j]? =some e→ms[j]? =some m→VRel c (f e).1 (g m).key∧VRel c (f e).2.1 (g m).val∧(g m).born=(f e).2.2):MapRel c (es.modify j f) (ms.modify j g):=by
 refine .of_get (by simp [h.len]) fun i e m he hm=> ?_
 rw [List.getElem?_modify] at he hm
 by_cases hij:j=i
 ·subst hij
  simp only [if_true,Option.map_eq_map,Option.map_eq_some_iff] at he hm
  obtain ⟨e0,h1,rfl⟩:=he
  obtain ⟨m0,h2,rfl⟩:=hm
  exact hf e0 m0 h1 h2
 ·simp only [if_neg hij,id_eq,Option.map_eq_map,Option.map_id_fun'] at he hm
  obtain ⟨m1,a1,a2,a3,a4⟩:=h.get he
  rw [hm] at a1;cases a1
  exact ⟨a2,a3,a4⟩
theorem MapRel.erase {c:Ctx} {es:MEs} {ms:List MapEntry} (h:MapRel c es ms) (j:Nat):MapRel c (es.eraseIdx j) (ms.eraseIdx j):=by
 refine .of_get (by simp [List.length_eraseIdx,h.len]) fun i e m he hm=> ?_
 rw [List.getElem?_eraseIdx] at he hm
 split at he
 ·rename_i hij
  rw [if_pos hij] at hm
  obtain ⟨m1,a1,a2,a3,a4⟩:=h.get he
  rw [hm] at a1;cases a1
  exact ⟨a2,a3,a4⟩
 ·rename_i hij
  rw [if_neg hij] at hm
  obtain ⟨m1,a1,a2,a3,a4⟩:=h.get he
  rw [hm] at a1;cases a1
  exact ⟨a2,a3,a4⟩
theorem sameNow_sameK {d0:TypeDesc} {a b:Value} (ha:MapKept.IsKey d0 a) (hb:MapKept.IsKey d0 b):Instr.sameNow d0 a b=some (sameK a b):=by
 cases d0<;> cases a<;> cases b<;> simp_all [MapKept.IsKey,Instr.sameNow,sameK]
theorem find_ok {c:Ctx} {d:Option TypeDesc} {k:Value} (hk:keyB d k=true) {d0:TypeDesc} (hd:d=some d0):∀{es:MEs} {ms:List MapEntry} (i:Nat),keysB d es=true→MapRel c es ms→
  match mIx k es with
  |none=>Instr.findNow d0 k ms i=some none
  |some j=>∃m,ms[j]? =some m∧m.key=k∧Instr.findNow d0 k ms i=some (some (i+j,m.val))
 |[],[],i,_,_=>by simp [mIx,Instr.findNow]
 |[],_::_,i,_,h=>by have:=h.len;simp at this
 |_::_,[],i,_,h=>by have:=h.len;simp at this
 | e::es,m::ms,i,hb,h=>by
  obtain ⟨h1,h2,h3⟩:=h
  simp only [List.map_cons] at h1 h2 h3
  cases h1 with
  |cons a1 a2=>
  cases h2 with
  |cons b1 b2=>
  simp only [List.cons.injEq] at h3
  simp only [keysB,List.all_cons,Bool.and_eq_true] at hb
  have hke:=a1.scalar_eq (keyB_scalar hb.1)
  obtain ⟨d1,q1,q2⟩:=keyB_isKey hk
  obtain ⟨d2,q3,q4⟩:=keyB_isKey hb.1
  rw [hd] at q1 q3;cases q1;cases q3
  have ih:=find_ok (c:=c) hk hd (es:=es) (ms:=ms) (i+1) hb.2 ⟨a2,b2,h3.2⟩
  have hs:Instr.sameNow d0 k m.key=some (sameK k e.1):=by rw [hke];exact sameNow_sameK q2 q4
  unfold mIx at ih ⊢
  rw [List.findIdx?_cons]
  by_cases hc:sameK k e.1=true
  ·rw [if_pos hc]
   rw [hc] at hs
   refine ⟨m,rfl,?_,by simp [Instr.findNow,hs]⟩
   rw [hke];exact ((sameK_iff hk hb.1).1 hc).symm
  ·rw [if_neg hc]
   rw [Bool.not_eq_true] at hc
   rw [hc] at hs
   cases hx:List.findIdx? (fun e=>sameK k e.1) es with
   |none=>rw [hx] at ih;simpa [Instr.findNow,hs] using ih
   |some j=>
    rw [hx] at ih
    obtain ⟨m1,r1,r2,r3⟩:=ih
    refine ⟨m1,by simpa using r1,r2,?_⟩
    simp only [Instr.findNow,hs,r3]
    rw [show i+1+j=i+(j+1) by omega]
theorem run_stays {P:Program} {w:World} {d:Option TypeDesc} {k:Value} (hk:keyB d k=true):(Instr.keyThatStays k k).run P w= .ok k w:=by
 have:Instr.sameBits 10000 k k=true:=by
  unfold keyB at hk
  split at hk
  ·simp [Instr.sameBits]
  ·simp [Instr.sameBits]
  ·simp [Instr.sameBits,MapKept.bytes_beq]
  ·cases hk
 simp [Instr.keyThatStays,this]
def lkRes (ok:Bool) (r:Option Value) (z:Value):Value:=if ok then .tuple ⟨[r.getD z,.bool r.isSome]⟩ else r.getD z
def lookupW (P:Program) (t:TypeId) (m k:Value) (ok:Bool) (H:AHeap) (K:Value→AHeap→Prop):Prop:=
 match P.underlying t with
 | some (.map kt et)=>keyB (P.underlying kt) k=true∧wth (tV P et) fun z=>plain z=true∧(match m with
  | .map none=>K (lkRes ok none z) H
  | .map (some i)=>(match H[i]? with
   |some (.amap es _ _)=>keysB (P.underlying kt) es=true∧K (lkRes ok (mGet k es) z) H
   |_=>False)
  |_=>False)
 |_=>False
theorem lookupW_ok {P:Program} {t:TypeId} {ok:Bool} {c:Ctx} {H:AHeap} {w:World} {K:Value→AHeap→Prop} (h:HRel c H w) {m m' k k':Value} (hm:VRel c m m') (hk:VRel c k k') (hw:lookupW P t m k ok H K):Gives P (Instr.lookup t m' k' ok) c H w K:=by
 unfold lookupW at hw
 split at hw
 ·rename_i kt et hu
  obtain ⟨hkb,hw⟩:=hw
  obtain ⟨z,hz,hpl,hw⟩:=wth_elim hw
  have hke:=hk.scalar_eq (keyB_scalar hkb)
  subst hke
  obtain ⟨d0,hd0,hik⟩:=keyB_isKey hkb
  have hzr:=run_zeroV hz
  split at hw
  ·cases hm
   refine .pure h (v':=lkRes ok none z) ?_ ?_ hw
   ·have hf:(Instr.findKey kt k' []).run P w= .ok none w:=MapKept.run_findKey hd0 rfl
    have hck:=fun e=>MapKept.run_checkKey (w:=w) hd0 hik e 9999
    simp only [Instr.lookup,Sem.run_bind,run_underlying hu,Result.andThen_ok,Sem.run_pure]
    have h0:(Instr.checkKey (#[]:Array MapEntry).isEmpty 10000 kt k').run P w= .ok () w:=hck _
    rw [h0]
    simp only [Result.andThen_ok]
    rw [hf]
    simp only [Result.andThen_ok,Sem.run_bind,hzr,Sem.run_pure]
    cases ok<;> rfl
   ·cases ok
    ·exact .of_plain hpl
    ·exact .tuple (.cons (.of_plain hpl) (.cons (.bool _) .nil))
  ·rename_i i _
   cases hm with
   |map hc=>
   split at hw
   ·rename_i es ck own hi
    obtain ⟨hes,hw⟩:=hw
    obtain ⟨q,hq,hr⟩:=h.obj i _ hi rfl
    rw [hc] at hq;cases hq
    obtain ⟨ms,hb,hmr⟩:=hr
    have hf:=find_ok hkb hd0 0 hes hmr
    have hck:(Instr.checkKey ms.isEmpty 10000 kt k').run P w= .ok () w:=MapKept.run_checkKey hd0 hik _ 9999
    have hgo:=MapKept.run_getObj_map (P:=P) hb
    cases hx:mIx k' es with
    | none=>
     rw [hx] at hf
     have hg:mGet k' es=none:=by simp [mGet,hx]
     rw [hg] at hw
     refine .pure h (v':=lkRes ok none z) ?_ ?_ hw
     ·simp only [Instr.lookup,Sem.run_bind,run_underlying hu,Result.andThen_ok,hgo,Sem.run_pure,hck,MapKept.run_findKey hd0 hf,hzr]
      cases ok<;> rfl
     ·cases ok
      ·exact .of_plain hpl
      ·exact .tuple (.cons (.of_plain hpl) (.cons (.bool _) .nil))
    | some j=>
     rw [hx] at hf
     obtain ⟨m,r1,r2,r3⟩:=hf
     have hjl:j<es.length:=by rw [hmr.len];exact (List.getElem?_eq_some_iff.1 r1).1
     obtain ⟨m1,s1,s2,s3,s4⟩:=hmr.get (List.getElem?_eq_getElem hjl)
     rw [r1] at s1;cases s1
     have hg:mGet k' es=some es[j].2.1:=by simp [mGet,hx,List.getElem?_eq_getElem hjl]
     rw [hg] at hw
     refine .pure h (v':=lkRes ok (some m.val) z) ?_ ?_ hw
     ·simp only [Instr.lookup,Sem.run_bind,run_underlying hu,Result.andThen_ok,hgo,Sem.run_pure,hck,MapKept.run_findKey hd0 r3]
      cases ok<;> rfl
     ·cases ok
      ·exact s3
      ·exact .tuple (.cons s3 (.cons (.bool _) .nil))
   ·exact hw.elim
  ·exact hw.elim
 ·exact hw.elim
def makeMapW (n:Option Value) (H:AHeap) (K:Value→AHeap→Prop):Prop:=n=none∧K (.map (some H.length)) (H++ [.amap [] 0 true])
theorem makeMapW_ok {P:Program} {t:TypeId} {n n':Option Value} {c:Ctx} {H:AHeap} {w:World} {K:Value→AHeap→Prop} (h:HRel c H w) (hn:n=none→n'=none) (hw:makeMapW n H K):Gives P (Instr.makeMap t n') c H w K:=by
 obtain ⟨h0,hk⟩:=hw
 rw [hn h0]
 have hext:=fun n=>h.extend (w':=w.alloc (.map #[] 0)) (p:=⟨w.heap.size,0,0,0,0⟩) ⟨rfl,rfl,rfl⟩ (by simp) (fun b hb=>by simp only [World.alloc,Array.getElem?_push];rw [if_neg (by omega)]) (Nat.le_refl _) (o:= .amap [] 0 true) ⟨#[],by show (w.heap.push _)[w.heap.size]? =_;simp,MapRel.nil⟩ n
 refine ⟨.map (some w.heap.size),w.alloc (.map #[] 0),?_,_,_,_,hk,.map (p:=⟨w.heap.size,0,0,0,0⟩) (by simp),(hext 0).2.2,(hext 0).1,fun n=>(hext n).2.1⟩
 simp only [Instr.makeMap,Sem.run_bind,run_newObj,Result.andThen_ok,Sem.run_pure]
 rfl
theorem HRel.putMap {c:Ctx} {H:AHeap} {w:World} (h:HRel c H w) {i:Nat} {es:MEs} {ck:Nat} (hi:H[i]? =some (.amap es ck true)) {p:Place} (hc:c i=some p) {ms ms':Array MapEntry} (hb:w.heap[p.block]? =some (.map ms ck)) {es':MEs} {ck':Nat} (hr:MapRel c es' ms'.toList) (n:Nat):
  HRel c (H.set i (.amap es' ck' true)) {w with heap:=w.heap.setIfInBounds p.block (.map ms' ck')}∧Trans n c H w c (H.set i (.amap es' ck' true)) {w with heap:=w.heap.setIfInBounds p.block (.map ms' ck')}:=by
 have hs:=MapKept.heap_set (o':= .map ms' ck') hb
 exact h.change (w':={w with heap:=w.heap.setIfInBounds p.block (.map ms' ck')}) (o:= .amap es ck true) (o':= .amap es' ck' true) ⟨rfl,rfl,rfl⟩ (by simp) hi rfl hc (fun b hbn=>hs.2 b hbn) ⟨ms',hs.1,hr⟩ (fun _=>rfl) n
def mapUpdateW (P:Program) (t:TypeId) (m k v:Value) (H:AHeap) (K:AHeap→Prop):Prop:=
 match P.underlying t,m with
 |some (.map kt _),.map (some i)=>(match H[i]? with
  |some (.amap es ck own)=>own=true∧keyB (P.underlying kt) k=true∧keysB (P.underlying kt) es=true∧K (H.set i (.amap (mPut k v ck es) (mCk k ck es) true))
  |_=>False)
 |_,_=>False
theorem mapUpdateW_ok {P:Program} {t:TypeId} {c:Ctx} {H:AHeap} {w:World} {K:AHeap→Prop} (h:HRel c H w) {m m' k k' v v':Value} (hm:VRel c m m') (hk:VRel c k k') (hv:VRel c v v') (hw:mapUpdateW P t m k v H K):
  ∃w' H',(Instr.mapUpdate t m' k' v').run P w= .ok () w'∧K H'∧HRel c H' w'∧∀n,Trans n c H w c H' w':=by
 unfold mapUpdateW at hw
 split at hw
 ·rename_i kt et i hu
  cases hm with
  |map hc=>
  split at hw
  ·rename_i es ck own hi
   obtain ⟨ho,hkb,hes,hw⟩:=hw
   subst ho
   have hke:=hk.scalar_eq (keyB_scalar hkb)
   subst hke
   obtain ⟨d0,hd0,hik⟩:=keyB_isKey hkb
   obtain ⟨q,hq,hr⟩:=h.obj i _ hi rfl
   rw [hc] at hq;cases hq
   obtain ⟨ms,hb,hmr⟩:=hr
   have hf:=find_ok hkb hd0 0 hes hmr
   have hck:(Instr.checkKey false 10000 kt k').run P w= .ok () w:=MapKept.run_checkKey hd0 hik _ 9999
   have hgo:=MapKept.run_getObj_map (P:=P) hb
   cases hx:mIx k' es with
   |none=>
    rw [hx] at hf
    have e1:mPut k' v ck es=es++[(k',v,ck)]:=by simp [mPut,hx]
    have e2:mCk k' ck es=ck+1:=by simp [mCk,hx]
    rw [e1,e2] at hw
    have hp:=fun n=>h.putMap hi hc hb (ms':=ms.push {key:=k',val:=v',born:=ck}) (ck':=ck+1) (by simpa using hmr.snoc (b:=ck) (keyB_scalar hkb) hv) n
    refine ⟨_,_,?_,hw,(hp 0).1,fun n=>(hp n).2⟩
    simp only [Instr.mapUpdate,Sem.run_bind,run_underlying hu,Result.andThen_ok,hgo,hck,MapKept.run_findKey hd0 hf]
    exact MapKept.run_setObj_map _ hb
   | some j=>
    rw [hx] at hf
    obtain ⟨m,r1,r2,r3⟩:=hf
    have e1:mPut k' v ck es=es.modify j fun e=>(k',v,e.2.2):=by simp [mPut,hx]
    have e2:mCk k' ck es=ck:=by simp [mCk,hx]
    rw [e1,e2] at hw
    have r1':ms[j]? =some m:=by rw [← r1];simp
    have hkey:((ms[j]?).map (·.key)).getD k'=k':=by rw [r1'];exact r2
    have hp:=fun n=>h.putMap hi hc hb (ms':=ms.modify j fun e=>{e with key:=k',val:=v'}) (ck':=ck) (es':=es.modify j fun e=>(k',v,e.2.2)) (by
     rw [Array.toList_modify]
     refine hmr.modify j fun e m he hm=> ⟨.of_scalar (keyB_scalar hkb),hv,?_⟩
     obtain ⟨m1,a1,a2,a3,a4⟩:=hmr.get he
     rw [hm] at a1;cases a1
     exact a4) n
    refine ⟨_,_,?_,hw,(hp 0).1,fun n=>(hp n).2⟩
    simp only [Instr.mapUpdate,Sem.run_bind,run_underlying hu,Result.andThen_ok,hgo,hck,MapKept.run_findKey hd0 r3,Nat.zero_add,hkey,run_stays hkb]
    exact MapKept.run_setObj_map _ hb
  ·exact hw.elim
 ·exact hw.elim
def deleteW (P:Program) (t:TypeId) (m k:Value) (H:AHeap) (K:Value→AHeap→Prop):Prop:=
 match P.underlying t,m with
 |some (.map kt _),.map (some i)=>(match H[i]? with
  |some (.amap es ck own)=>own=true∧keyB (P.underlying kt) k=true∧keysB (P.underlying kt) es=true∧K (.tuple ⟨[]⟩) (H.set i (.amap (mDel k es) ck true))
  |_=>False)
 |_,_=>False
theorem deleteW_ok {P:Program} {t ty:TypeId} {ts:Array TypeId} {c:Ctx} {H:AHeap} {w:World} {K:Value→AHeap→Prop} (hts:ts[0]? =some t) (h:HRel c H w) {m m' k k':Value} (hm:VRel c m m') (hk:VRel c k k') (hw:deleteW P t m k H K):Gives P (Builtin.delete_ ts ty #[m',k']) c H w K:=by
 unfold deleteW at hw
 split at hw
 ·rename_i kt et i hu
  cases hm with
  |map hc=>
  split at hw
  ·rename_i es ck own hi
   obtain ⟨ho,hkb,hes,hw⟩:=hw
   subst ho
   have hke:=hk.scalar_eq (keyB_scalar hkb)
   subst hke
   obtain ⟨d0,hd0,hik⟩:=keyB_isKey hkb
   obtain ⟨q,hq,hr⟩:=h.obj i _ hi rfl
   rw [hc] at hq;cases hq
   obtain ⟨ms,hb,hmr⟩:=hr
   have hf:=find_ok hkb hd0 0 hes hmr
   have hck:(Instr.checkKey ms.isEmpty 10000 kt k').run P w= .ok () w:=MapKept.run_checkKey hd0 hik _ 9999
   have hgo:=MapKept.run_getObj_map (P:=P) hb
   have e0: (#[Value.map (some (by assumption:Place).block),k']:Array Value).size=2:=rfl
   cases hx:mIx k' es with
   |none=>
    rw [hx] at hf
    have e1:mDel k' es=es:=by simp [mDel,hx]
    rw [e1] at hw
    have hp:=fun n=>h.putMap hi hc hb (ms':=ms) (ck':=ck) hmr n
    refine ⟨.tuple ⟨[]⟩,_,?_,_,_,c,hw,.tuple .nil,Ctx.le_refl c,(hp 0).1,fun n=>(hp n).2⟩
    unfold Builtin.delete_
    simp only [hts,List.getElem?_toArray,List.getElem?_cons_zero,List.getElem?_cons_succ,Sem.run_bind,run_underlying hu,Result.andThen_ok,hgo,hck,MapKept.run_findKey hd0 hf,MapKept.run_setObj_map _ hb,Sem.run_pure]
   | some j=>
    rw [hx] at hf
    obtain ⟨m,r1,r2,r3⟩:=hf
    have e1:mDel k' es=es.eraseIdx j:=by simp [mDel,hx]
    rw [e1] at hw
    have hjl:j<ms.size:=by have:=(List.getElem?_eq_some_iff.1 r1).1;simpa using this
    have hp:=fun n=>h.putMap hi hc hb (ms':=ms.eraseIdxIfInBounds j) (ck':=ck) (es':=es.eraseIdx j) (by
     have:(ms.eraseIdxIfInBounds j).toList=ms.toList.eraseIdx j:=by
      unfold Array.eraseIdxIfInBounds;rw [dif_pos hjl];simp
     rw [this]
     exact hmr.erase j) n
    refine ⟨.tuple ⟨[]⟩,_,?_,_,_,c,hw,.tuple .nil,Ctx.le_refl c,(hp 0).1,fun n=>(hp n).2⟩
    unfold Builtin.delete_
    simp only [hts,List.getElem?_toArray,List.getElem?_cons_zero,List.getElem?_cons_succ,Sem.run_bind,run_underlying hu,Result.andThen_ok,hgo,hck,MapKept.run_findKey hd0 r3,Nat.zero_add,MapKept.run_setObj_map _ hb,Sem.run_pure]
  ·exact hw.elim
 ·exact hw.elim
def mStamp (k:Value) (ck:Nat) (es:MEs):Nat:=((mIx k es).bind fun j=>(es[j]?).map (·.2.2)).getD ck
def mEnt (k z:Value) (ck:Nat) (es:MEs):MEs:=match mIx k es with
 |some j=>es.modify j fun e=>(k,e.2.1,e.2.2)
 |none=>es++[(k,z,ck)]
def mapEntryW (P:Program) (t:TypeId) (m k:Value) (H:AHeap) (K:Value→AHeap→Prop):Prop:=
 match P.underlying t,m with
 |some (.map kt et),.map (some i)=>(match H[i]? with
  | some (.amap es ck own)=>own=true∧keyB (P.underlying kt) k=true∧keysB (P.underlying kt) es=true∧wth (tV P et) fun z=>plain z=true∧
    K (.tuple ⟨[(mGet k es).getD z,.int .i64 (mStamp k ck es:Nat)]⟩) (H.set i (.amap (mEnt k z ck es) (mCk k ck es) true))
  |_=>False)
 |_,_=>False
theorem mapEntryW_ok {P:Program} {t:TypeId} {c:Ctx} {H:AHeap} {w:World} {K:Value→AHeap→Prop} (h:HRel c H w) {m m' k k':Value} (hm:VRel c m m') (hk:VRel c k k') (hw:mapEntryW P t m k H K):Gives P (Instr.mapEntry t m' k') c H w K:=by
 unfold mapEntryW at hw
 split at hw
 ·rename_i kt et i hu
  cases hm with
  |map hc=>
  split at hw
  ·rename_i es ck own hi
   obtain ⟨ho,hkb,hes,hw⟩:=hw
   obtain ⟨z,hz,hpl,hw⟩:=wth_elim hw
   subst ho
   have hzr:=run_zeroV hz
   have hke:=hk.scalar_eq (keyB_scalar hkb)
   subst hke
   obtain ⟨d0,hd0,hik⟩:=keyB_isKey hkb
   obtain ⟨q,hq,hr⟩:=h.obj i _ hi rfl
   rw [hc] at hq;cases hq
   obtain ⟨ms,hb,hmr⟩:=hr
   have hf:=find_ok hkb hd0 0 hes hmr
   have hck:(Instr.checkKey false 10000 kt k').run P w= .ok () w:=MapKept.run_checkKey hd0 hik _ 9999
   have hgo:=MapKept.run_getObj_map (P:=P) hb
   cases hx:mIx k' es with
   |none=>
    rw [hx] at hf
    have e1:mEnt k' z ck es=es++[(k',z,ck)]:=by simp [mEnt,hx]
    have e2:mCk k' ck es=ck+1:=by simp [mCk,hx]
    have e3:mGet k' es=none:=by simp [mGet,hx]
    have e4:mStamp k' ck es=ck:=by simp [mStamp,hx]
    rw [e1,e2,e3,e4] at hw
    have hp:=fun n=>h.putMap hi hc hb (ms':=ms.push {key:=k',val:=z,born:=ck}) (ck':=ck+1) (by simpa using hmr.snoc (b:=ck) (keyB_scalar hkb) (.of_plain hpl)) n
    refine ⟨.tuple ⟨[z,.int .i64 (ck:Nat)]⟩,_,?_,_,_,c,hw,.tuple (.cons (.of_plain hpl) (.cons (.int _ _) .nil)),Ctx.le_refl c,(hp 0).1,fun n=>(hp n).2⟩
    simp only [Instr.mapEntry,Sem.run_bind,run_underlying hu,Result.andThen_ok,hgo,hck,MapKept.run_findKey hd0 hf,hzr,MapKept.run_setObj_map _ hb,Sem.run_pure]
    rfl
   | some j=>
    rw [hx] at hf
    obtain ⟨m,r1,r2,r3⟩:=hf
    have hjl:j<es.length:=by rw [hmr.len];exact (List.getElem?_eq_some_iff.1 r1).1
    obtain ⟨m1,s1,s2,s3,s4⟩:=hmr.get (List.getElem?_eq_getElem hjl)
    rw [r1] at s1;cases s1
    have r1':ms[j]? =some m:=by rw [← r1];simp
    have hkey:((ms[j]?).map (·.key)).getD k'=k':=by rw [r1'];exact r2
    have hborn:((ms[j]?).map (fun x=>(x.born:Int))).getD 0=((es[j].2.2:Nat):Int):=by rw [r1',←s4];rfl
    have e1:mEnt k' z ck es=es.modify j fun e=>(k',e.2.1,e.2.2):=by simp [mEnt,hx]
    have e2:mCk k' ck es=ck:=by simp [mCk,hx]
    have e3:mGet k' es=some es[j].2.1:=by simp [mGet,hx,List.getElem?_eq_getElem hjl]
    have e4:mStamp k' ck es=es[j].2.2:=by simp [mStamp,hx,List.getElem?_eq_getElem hjl]
    rw [e1,e2,e3,e4] at hw
    have hp:=fun n=>h.putMap hi hc hb (ms':=ms.modify j fun e=>{e with key:=k'}) (ck':=ck) (es':=es.modify j fun e=>(k',e.2.1,e.2.2)) (by
     rw [Array.toList_modify]
     refine hmr.modify j fun e m he hm=> ?_
     obtain ⟨m1,a1,a2,a3,a4⟩:=hmr.get he
     rw [hm] at a1;cases a1
     exact ⟨.of_scalar (keyB_scalar hkb),a3,a4⟩) n
    refine ⟨.tuple ⟨[m.val,.int .i64 (es[j].2.2:Nat)]⟩,_,?_,_,_,c,hw,.tuple (.cons s3 (.cons (.int _ _) .nil)),Ctx.le_refl c,(hp 0).1,fun n=>(hp n).2⟩
    simp only [Instr.mapEntry,Sem.run_bind,run_underlying hu,Result.andThen_ok,hgo,hck,MapKept.run_findKey hd0 r3,Nat.zero_add,hkey,run_stays hkb,MapKept.run_setObj_map _ hb,Sem.run_pure,hborn]
    rfl
  ·exact hw.elim
 ·exact hw.elim
def mSto (n:Int) (v:Value) (es:MEs):Option MEs:=(es.findIdx? fun e=>(e.2.2:Int)==n).map fun j=>es.modify j fun e=>(e.1,v,e.2.2)
def entryStoreW (m s v:Value) (H:AHeap) (K:AHeap→Prop):Prop:=
 match m,s with
 | .map (some i),.int .i64 n=>(match H[i]? with
  |some (.amap es ck own)=>own=true∧wth (mSto n v es) fun es'=>K (H.set i (.amap es' ck true))
  |_=>False)
 |_,_=>False
theorem findIdx_map {α β:Type} (f:α→β) (p:β→Bool):∀l:List α,(l.map f).findIdx? p=l.findIdx? fun a=>p (f a)
 |[]=>rfl
 |a::l=>by simp only [List.map_cons,List.findIdx?_cons,findIdx_map f p l]
theorem entryStoreW_ok {P:Program} {t:TypeId} {c:Ctx} {H:AHeap} {w:World} {K:AHeap→Prop} (h:HRel c H w) {m m' s s' v v':Value} (hm:VRel c m m') (hs:VRel c s s') (hv:VRel c v v') (hw:entryStoreW m s v H K):
  ∃w' H',(Instr.entryStore t m' s' v').run P w= .ok () w'∧K H'∧HRel c H' w'∧∀n,Trans n c H w c H' w':=by
 unfold entryStoreW at hw
 split at hw
 ·rename_i i n
  cases hm with
  |map hc=>
  cases hs
  split at hw
  ·rename_i es ck own hi
   obtain ⟨ho,hw⟩:=hw
   subst ho
   obtain ⟨es',he,hw⟩:=wth_elim hw
   obtain ⟨q,hq,hr⟩:=h.obj i _ hi rfl
   rw [hc] at hq;cases hq
   obtain ⟨ms,hb,hmr⟩:=hr
   have hgo:=MapKept.run_getObj_map (P:=P) hb
   unfold mSto at he
   rw [Option.map_eq_some_iff] at he
   obtain ⟨j,hj,rfl⟩:=he
   have hfi:ms.findIdx? (fun e=>(e.born:Int)==n)=some j:=by
    have ht:=List.findIdx?_toArray (fun e:MapEntry=>(e.born:Int)==n) ms.toList
    rw [Array.toArray_toList] at ht
    rw [ht,←hj,←findIdx_map (fun e:MapEntry=>e.born) (fun b=>(b:Int)==n),hmr.2.2,findIdx_map]
   have hp:=fun n=>h.putMap hi hc hb (ms':=ms.modify j fun e=>{e with val:=v'}) (ck':=ck) (es':=es.modify j fun e=>(e.1,v,e.2.2)) (by
    rw [Array.toList_modify]
    refine hmr.modify j fun e m he hm=> ?_
    obtain ⟨m1,a1,a2,a3,a4⟩:=hmr.get he
    rw [hm] at a1;cases a1
    exact ⟨a2,hv,a4⟩) n
   refine ⟨_,_,?_,hw,(hp 0).1,fun n=>(hp n).2⟩
   simp only [Instr.entryStore,Sem.run_bind,hgo,Result.andThen_ok,asInt,asIntOf,Sem.run_pure,hfi]
   exact MapKept.run_setObj_map _ hb
  ·exact hw.elim
 ·exact hw.elim
end Go.Aw

set_option linter.unusedVariables false
set_option linter.unusedSimpArgs false
namespace Go.Aw
def usdW (x:Value) (H:AHeap) (K:Value→AHeap→Prop):Prop:=
 match x with
 | .slice none _ _=>K (.pointer none) H
 | .slice (some ⟨i,off,none⟩) _ c=>c≠0∧K (.pointer (some ⟨i,off,none⟩)) H
 |_=>False
theorem usdW_ok {P:Program} {ts:Array TypeId} {ty:TypeId} {c:Ctx} {H:AHeap} {w:World} {K:Value→AHeap→Prop} (h:HRel c H w) {x x':Value} (hx:VRel c x x') (hw:usdW x H K):Gives P (Builtin.unsafeSliceData_ ts ty #[x']) c H w K:=by
 unfold usdW at hw
 split at hw
 ·cases hx
  exact .pure h (Lib.run_unsafeSliceData_nil w ts ty _ _) .nilPtr hw
 ·rename_i i off n cap
  obtain ⟨h0,hw⟩:=hw
  cases hx with
  |slice hc=>exact .pure h (Lib.run_unsafeSliceData_row w ts ty _ _ _ h0) (.ptr hc) hw
  |sliceX hc _=>exact .pure h (Lib.run_unsafeSliceData_row w ts ty _ _ _ (by omega)) (.ptr hc) hw
  |sliceZ hc=>exact absurd rfl h0
 ·exact hw.elim
theorem liesAt_off {P:Program} {e:TypeId} (hc:P.cellsOf e=1) (count off n:Nat) (hn:off+n≤count):liesAt P P.depth e count off e n=true:=by
 have hd:P.depth=(2*(P.types.size+Made.depth)+1)+1:=rfl
 rw [hd]
 simp only [liesAt,Bool.or_eq_true]
 left
 rw [hd]
 simp [rowAt,hc,hn,sameLayout,Nat.mod_one]
theorem run_unsafeString_off {P:Program} (w:World) (pt it ty e:TypeId) (hp:P.underlying pt=some (.pointer e)) (hc:P.cellsOf e=1) (g o cells:Nat) (hsh:w.shape? g=some (e,cells)) (l:List UInt8) (h0:l≠[]) (hn:o+l.length≤cells) (h63:l.length≤9223372036854775807)
  (hcell:∀j x,l[j]? =some x→w.cell? ((⟨g,o,none⟩:Addr).add j)=some (.int .u8 x.toNat)):
  (Builtin.unsafeString_ #[pt,it] ty #[.pointer (some ⟨g,o,none⟩),.int .i64 l.length]).run P w= .ok (.string ⟨l.toArray⟩) (w.freeze ⟨g,o,none⟩ l.length):=by
 have hl:l.length≠0:=by simpa using h0
 have hlb:=Lib.run_loadBytes (P:=P) w l ⟨g,o,none⟩ .empty hcell
 have hlies:=liesAt_off (P:=P) hc (cells / P.cellsOf e) o l.length (by rw [hc];simpa using hn)
 have h63':¬(9223372036854775807:Int)<(l.length:Int):=by omega
 have hdef:Builtin.unsafeString_ #[pt,it] ty #[.pointer (some ⟨g,o,none⟩),.int .i64 l.length]=
   (do
    let n ←asInt (.int .i64 l.length)
    if n<0 then runtimePanic (.error "unsafe.String: len out of range")
    if n>IntKind.i64.max then unsupported (.unsafePointer "String: a length above the largest int")
    if n=0 then pure (.string .empty)
    else if ←variablesAt ⟨g,o,none⟩ (← elemOf pt) n.toNat then do
     let s ←loadBytes ⟨g,o,none⟩ .empty n.toNat
     freeze ⟨g,o,none⟩ n.toNat
     pure (.string s)
    else unsupported (.unsafePointer "String: not so many bytes at ptr")):=rfl
 rw [hdef]
 have hmax:IntKind.i64.max=9223372036854775807:=rfl
 have hneg:¬(l.length:Int)<0:=by omega
 simp [asInt,asIntOf,hmax,h63',hneg,hl,variablesAt,hsh,elemOf,run_underlying hp,hlies,hlb]
def usW (P:Program) (pt:TypeId) (p n:Value) (H:AHeap) (K:Value→AHeap→Prop):Prop:=
 match p,n with
 | .pointer none,.int .i64 n=>n=0∧K (.string (bs [])) H
 | .pointer (some ⟨i,off,none⟩),.int .i64 n=>(match H[i]? with
  | some (.cells cs k)=>k.own=true∧k.glob=none∧0<n∧n≤9223372036854775807∧off+n.toNat≤cs.length∧P.underlying pt=some (.pointer k.e)∧P.cellsOf k.e=1∧
    wth (u8s ((cs.drop off).take n.toNat)) fun l=>(cs.drop off).take n.toNat=bytesC l∧K (.string (bs l)) (H.set i .dead)
  |_=>False)
 |_,_=>False
theorem freeze_heap {w:World} {a:Addr} {n:Nat} (hn:n≠0) {arr:Array Value} {e:TypeId} {lo hi:Nat} (hb:w.heap[a.block]? =some (.cells arr e (lo,hi))):
  (w.freeze a n).heap[a.block]? =some (.cells arr e (if lo==hi then (a.off,a.off+n) else (min lo a.off,max hi (a.off+n))))∧ (∀ b,b≠a.block→(w.freeze a n).heap[b]? =w.heap[b]?)∧(w.freeze a n).heap.size=w.heap.size:=by
 unfold World.freeze
 rw [if_neg hn]
 refine ⟨?_,fun b hbn=> ?_,by simp⟩
 ·simp [Array.getElem?_modify,hb]
 ·simp only [Array.getElem?_modify];rw [if_neg (Ne.symm hbn)]
theorem usW_ok {P:Program} {pt it ty:TypeId} {c:Ctx} {H:AHeap} {w:World} {K:Value→AHeap→Prop} (h:HRel c H w) {p p' n n':Value} (hp:VRel c p p') (hn:VRel c n n') (hw:usW P pt p n H K):Gives P (Builtin.unsafeString_ #[pt,it] ty #[p',n']) c H w K:=by
 unfold usW at hw
 split at hw
 ·obtain ⟨h0,hw⟩:=hw
  subst h0
  cases hp;cases hn
  exact .pure h (Lib.run_unsafeString_none w pt it ty none) (.string _) hw
 ·rename_i i off m
  cases hp with
  |ptr hc=>
  rename_i pl
  cases hn
  split at hw
  ·rename_i cs k hi
   obtain ⟨ho,hgl,hm,hmx,hle,hpt,hce,hw⟩:=hw
   obtain ⟨l,hl,hbl,hw⟩:=wth_elim hw
   have hll:l.length=m.toNat:=by
    obtain ⟨ns,e1,e2⟩:=u8s_ints hl
    have:=congrArg List.length e1
    rw [e2,List.length_map]
    simp at this;omega
   obtain ⟨q,hq,hr⟩:=h.obj i _ hi rfl
   rw [hc] at hq;cases hq
   have hr0:=hr
   obtain ⟨r1,r2,r3,r4,arr,lo,hi',r5,r6,r7,r8⟩:=hr
   have hsh:w.shape? pl.block=some (k.e,arr.size):=by simp [World.shape?,r5]
   have hcell:∀j x,l[j]? =some x→w.cell? ((⟨pl.block,pl.base+off,none⟩:Addr).add j)=some (.int .u8 x.toNat):=by
    intro j x hx
    have hj:j<l.length:=(List.getElem?_eq_some_iff.1 hx).1
    have hg:cs[off+j]? =some (.int .u8 x.toNat):=by
     have h1:=congrArg (·[j]?) hbl
     simp only [List.getElem?_take_of_lt (show j<m.toNat by omega),List.getElem?_drop] at h1
     rw [h1];simp [bytesC,hx]
    obtain ⟨v',c1,c2⟩:=h.cell hi hc hg
    have:v'= .int .u8 x.toNat:=c2.scalar_eq rfl
    subst this
    have ha:(⟨pl.block,pl.base+off,none⟩:Addr).add j=⟨pl.block,pl.base+(off+j),none⟩:=by unfold Addr.add;split<;> simp_all<;> omega
    rw [ha];exact c1
   have hne:l≠[]:=by intro e;subst e;simp at hll;omega
   have hrun:=run_unsafeString_off (P:=P) w pt it ty k.e hpt hce pl.block (pl.base+off) arr.size hsh l hne (by rw [hll];omega) (by rw [hll];omega) hcell
   have hmi:(m:Int)=(l.length:Nat):=by rw [hll];omega
   obtain ⟨f1,f2,f3⟩:=freeze_heap (w:=w) (a:=⟨pl.block,pl.base+off,none⟩) (n:=l.length) (by rw [hll];omega) r5
   have hch:=fun n=>h.change (w':=w.freeze ⟨pl.block,pl.base+off,none⟩ l.length) (o:= .cells cs k) (o':= .dead) (by
     unfold World.freeze;split<;> exact ⟨rfl,rfl,rfl⟩) f3 hi ho hc f2 trivial (fun e=>by cases e) n
   refine ⟨.string ⟨l.toArray⟩,_,by rw [hmi];exact hrun,_,_,c,hw,.string _,Ctx.le_refl c,(hch 0).1,fun n=>(hch n).2⟩
  ·exact hw.elim
 ·exact hw.elim
end Go.Aw

set_option linter.unusedVariables false
set_option linter.unusedSimpArgs false
namespace Go.Aw
def clearW (P:Program) (t:TypeId) (x:Value) (H:AHeap) (K:Value→AHeap→Prop):Prop:=
 match P.underlying t,x with
 |some (.slice e),.slice none _ _=>K (.tuple ⟨[]⟩) H
 |some (.slice e),.slice (some ⟨i,o,none⟩) n _=>wth (tZ P e) fun z=>
  match H[i]? with
  |some (.cells cs k)=>(repZ n z).all flat=true∧(repZ n z).all scalar=true∧o+(repZ n z).length≤cs.length∧ownW k o∧K (.tuple ⟨[]⟩) (H.set i (.cells (putCells cs o (repZ n z)) k))
  |_=>False
 |_,_=>False
theorem zeroCells_eq (z:List Value) (n:Nat):(Builtin.zeroCells z.toArray n).toList=repZ n z:=by
 unfold Builtin.zeroCells
 have h:z.toArray.size=z.length:=rfl
 have e:=repZ_array n z
 rw [h]
 rw [h] at e
 rw [e]
theorem clearW_ok {P:Program} {t ty:TypeId} {c:Ctx} {H:AHeap} {w:World} {K:Value→AHeap→Prop} (h:HRel c H w) {x x':Value} (hx:VRel c x x') (hw:clearW P t x H K):
  Gives P (Builtin.clear_ #[t] ty #[x']) c H w K:=by
 unfold clearW at hw
 split at hw
 ·rename_i e l n hu
  cases hx
  refine .pure h (v':= .tuple ⟨[]⟩) ?_ (.tuple .nil) hw
  simp [Builtin.clear_,run_underlying hu]
 ·rename_i e i o n cap hu
  obtain ⟨z,hz,hw⟩:=wth_elim hw
  split at hw
  ·rename_i cs k hi
   obtain ⟨hfl,hsc,hle,⟨o1,o2⟩,hk⟩:=hw
   obtain ⟨zv,hzv,hzc⟩:=run_zeroValue hz w
   have hcells:zv.cells=z.toArray:=by rw [← hzc];rfl
   have hvr:VRels c (repZ n z) (repZ n z):=VRels.of_scalars hsc
   have key:∀(p:Place) c1,c i=some p→Gives P (Builtin.clear_ #[t] ty #[.slice (some ⟨p.block,p.base+o,none⟩) n c1]) c H w K:=fun p c1 hp=>by
    rcases Nat.eq_zero_or_pos n with h0|h0
    ·subst h0
     refine .pure h (v':= .tuple ⟨[]⟩) ?_ (.tuple .nil) ?_
     ·simp [Builtin.clear_,run_underlying hu]
     ·have e0:repZ 0 z=[]:=rfl
      rw [e0] at hk
      simpa [putCells,set_same hi] using hk
    ·obtain ⟨w',hr,h1,ht⟩:=run_storeCellsA (P:=P) o1 hp hvr hfl cs H w o 0 h hi (by omega) (by omega)
     refine ⟨.tuple ⟨[]⟩,w',?_,_,_,c,hk,.tuple .nil,Ctx.le_refl c,by simpa using h1,by simpa using ht⟩
     obtain ⟨m,rfl⟩:∃m,n=m+1:=⟨n - 1,by omega⟩
     simp only [Builtin.clear_,Sem.run_bind,run_underlying hu,Result.andThen_ok,List.getElem?_toArray,List.getElem?_cons_zero,hzv,hcells,zeroCells_eq,hr]
     rfl
   cases hx with
   |slice hp=>exact key _ _ hp
   |sliceX hp _=>exact key _ _ hp
   | sliceZ hp=>
    refine .pure h (v':= .tuple ⟨[]⟩) ?_ (.tuple .nil) ?_
    ·simp [Builtin.clear_,run_underlying hu]
    ·have e0:repZ 0 z=[]:=rfl
     rw [e0] at hk
     simpa [putCells,set_same hi] using hk
  ·exact hw.elim
 ·exact hw.elim
end Go.Aw

set_option linter.unusedVariables false
set_option linter.unusedSimpArgs false
namespace Go.Aw
open Go.ChangeMaps (setBlock)
def rangeW (P:Program) (t:TypeId) (a:Value) (H:AHeap) (K:Value→AHeap→Prop):Prop:=
 match P.underlying t with
 | some (.map _ _)=>(match a with
  | .map none=>K (ptrTo H.length 0) (H++ [.iter (.map none) 0 [] 0])
  | .map (some i)=>(match H[i]? with
   |some (.amap _ ck _)=>K (ptrTo H.length 0) (H++ [.iter (.map (some i)) ck [] ck])
   |_=>False)
  |_=>False)
 |_=>False
def nextW (a:Value) (s:Bool) (H:AHeap) (K:Value→AHeap→Prop):Prop:=
 s=false∧(match a with
 | .pointer (some ⟨r,0,none⟩)=>(match H[r]? with
  |some (.iter (.map none) _ _ _)=>K (.tuple ⟨[.bool false]⟩) H
  | some (.iter (.map (some i)) since seen last)=>(match H[i]? with
   |some (.amap es ck _)=>(since≤last∧∀e∈es,e.2.2<since)∧((∀ e∈es,e.2.2∈seen)→K (.tuple ⟨[.bool false]⟩) H)∧
    ∀e∈es,e.2.2∉seen→K (.tuple ⟨[.bool true,e.1,e.2.1]⟩) (H.set r (.iter (.map (some i)) since (seen++[e.2.2]) ck))
   |_=>False)
  |_=>False)
 |_=>False)
def entryW (a:Value) (H:AHeap) (K:Value→AHeap→Prop):Prop:=
 match a with
 | .pointer (some ⟨r,0,none⟩)=>(match H[r]? with
  |some (.iter (.map (some i)) _ seen last)=>(match H[i]? with
   |some (.amap es ck _)=>last=ck∧wth seen.getLast? fun st=>wth (es.find? fun e=>e.2.2==st) fun e=>K (.tuple ⟨[e.1,e.2.1]⟩) H
   |_=>False)
  |_=>False)
 |_=>False
theorem HRel.newIter {c:Ctx} {H:AHeap} {w:World} (h:HRel c H w) {m:Value} {mm:Option Nat} (hm:VRel c m (.map mm)) (s l:Nat):
  ∃c',HRel c' (H++ [.iter m s [] l]) (w.alloc (.mapIter mm s #[] l))∧ (∀ n,Trans n c H w c' (H++ [.iter m s [] l]) (w.alloc (.mapIter mm s #[] l)))∧c.le c'∧VRel c' (ptrTo H.length 0) (.pointer (some ⟨w.heap.size,0,none⟩)):=by
 have hext:=fun n=>h.extend (w':=w.alloc (.mapIter mm s #[] l)) (p:=⟨w.heap.size,0,0,0,0⟩) ⟨rfl,rfl,rfl⟩ (by simp) (fun b hb=>by simp only [World.alloc,Array.getElem?_push];rw [if_neg (by omega)]) (Nat.le_refl _) (o:= .iter m s [] l)
  ⟨rfl,mm,by show (w.heap.push _)[w.heap.size]? =_;simp,hm.mono (Ctx.le_add _ (h.fresh _ (Nat.le_refl _)))⟩ n
 exact ⟨_,(hext 0).1,fun n=>(hext n).2.1,(hext 0).2.2,.ptr (p:=⟨w.heap.size,0,0,0,0⟩) (off:=0) (by simp)⟩
theorem rangeW_ok {P:Program} {t:TypeId} {c:Ctx} {H:AHeap} {w:World} {K:Value→AHeap→Prop} (h:HRel c H w) {m m':Value} (hm:VRel c m m') (hw:rangeW P t m H K):Gives P (Instr.range t m') c H w K:=by
 unfold rangeW at hw
 split at hw
 ·rename_i kt et hu
  split at hw
  ·cases hm
   obtain ⟨c',h1,h2,h3,h4⟩:=h.newIter .nilMap 0 0
   refine ⟨_,_,?_,_,_,c',hw,h4,h3,h1,h2⟩
   simp only [Instr.range,Sem.run_bind,run_underlying hu,Result.andThen_ok,Sem.run_pure,run_newObj]
   rfl
  ·rename_i i
   cases hm with
   |map hc=>
   split at hw
   ·rename_i es ck own hi
    obtain ⟨q,hq,hr⟩:=h.obj i _ hi rfl
    rw [hc] at hq;cases hq
    obtain ⟨ms,hb,hmr⟩:=hr
    obtain ⟨c',h1,h2,h3,h4⟩:=h.newIter (.map hc) ck ck
    refine ⟨_,_,?_,_,_,c',hw,h4,h3,h1,h2⟩
    simp only [Instr.range,Sem.run_bind,run_underlying hu,Result.andThen_ok,MapKept.run_getObj_map hb,Sem.run_pure,run_newObj]
    rfl
   ·exact hw.elim
  ·exact hw.elim
 ·exact hw.elim
theorem MapRel.stamps {c:Ctx} {es:MEs} {ms:List MapEntry} (h:MapRel c es ms) {m:MapEntry} (hm:m∈ms):∃e∈es,e.2.2=m.born∧VRel c e.1 m.key∧VRel c e.2.1 m.val:=by
 obtain ⟨j,hj⟩:=List.getElem?_of_mem hm
 have hjl:j<es.length:=by rw [h.len];exact (List.getElem?_eq_some_iff.1 hj).1
 obtain ⟨m1,a1,a2,a3,a4⟩:=h.get (List.getElem?_eq_getElem hjl)
 rw [hj] at a1;cases a1
 exact ⟨_,List.getElem_mem hjl,a4.symm,a2,a3⟩
theorem MapRel.mem {c:Ctx} {es:MEs} {ms:List MapEntry} (h:MapRel c es ms) {e:Value×Value×Nat} (he:e∈es):∃m∈ms,m.born=e.2.2:=by
 obtain ⟨j,hj⟩:=List.getElem?_of_mem he
 obtain ⟨m1,a1,a2,a3,a4⟩:=h.get hj
 exact ⟨m1,List.mem_of_getElem? a1,a4⟩
theorem HRel.putIter {c:Ctx} {H:AHeap} {w:World} (h:HRel c H w) {r:Nat} {v:Value} {s l s' l':Nat} {b b':List Nat} (hi:H[r]? =some (.iter v s b l)) {p:Place} (hc:c r=some p) {mm mm':Option Nat} (hb:w.heap[p.block]? =some (.mapIter mm s ⟨b⟩ l)) (hp:p.base=0) {v':Value} (hv:VRel c v' (.map mm')) (n:Nat):
  HRel c (H.set r (.iter v' s' b' l')) (setBlock w p.block (.mapIter mm' s' ⟨b'⟩ l'))∧Trans n c H w c (H.set r (.iter v' s' b' l')) (setBlock w p.block (.mapIter mm' s' ⟨b'⟩ l')):=by
 have hs:=MapKept.heap_set (o':= .mapIter mm' s' ⟨b'⟩ l') hb
 exact h.change (w':=setBlock w p.block (.mapIter mm' s' ⟨b'⟩ l')) (o:= .iter v s b l) (o':= .iter v' s' b' l') ⟨rfl,rfl,rfl⟩ (by simp [setBlock]) hi rfl hc (fun b hbn=>hs.2 b hbn) ⟨hp,mm',hs.1,hv⟩ (fun _=>rfl) n
theorem nextW_ok {P:Program} {c:Ctx} {H:AHeap} {w:World} {s:Bool} {ty:TypeId} {K:Value→AHeap→Prop} (h:HRel c H w) {m m':Value} (hm:VRel c m m') (hw:nextW m s H K):Gives P (Instr.next m' s ty) c H w K:=by
 unfold nextW at hw
 obtain ⟨rfl,hw⟩:=hw
 split at hw
 ·rename_i r
  cases hm with
  |ptr hc=>
  rename_i p
  split at hw
  ·rename_i a b d hi
   obtain ⟨q,hq,hr⟩:=h.obj r _ hi rfl
   rw [hc] at hq;cases hq
   obtain ⟨h0,mm,hb,hv⟩:=hr
   cases hv
   refine .pure h ?_ (.tuple (.cons (.bool false) .nil)) hw
   rw [h0]
   simp only [Instr.next,getObj,Sem.run_bind,Sem.run,hb,Result.andThen]
   rfl
  ·rename_i i since seen last hi
   split at hw
   ·rename_i es ck own hm2
    obtain ⟨⟨hsl,hold⟩,hk1,hk2⟩:=hw
    obtain ⟨q,hq,hr⟩:=h.obj r _ hi rfl
    rw [hc] at hq;cases hq
    obtain ⟨h0,mm,hb,hv⟩:=hr
    cases hv with
    |map hci=>
    rename_i pm
    obtain ⟨q,hq,hr⟩:=h.obj i _ hm2 rfl
    rw [hci] at hq;cases hq
    obtain ⟨ms,hbm,hmr⟩:=hr
    have hrun:=run_next_at (P:=P) w ty p.block pm.block since last ⟨seen⟩ ms ck hb hbm (fun x hx=>by
     obtain ⟨e,he,e1,_⟩:=hmr.stamps hx
     rw [← e1];exact hold e he) hsl
    rw [h0,Nat.zero_add]
    rcases hrun with ⟨h1,h2⟩|⟨e,he,w1,hw1,h2⟩
    ·refine .pure h h2 (.tuple (.cons (.bool false) .nil)) (hk1 fun e he=> ?_)
     obtain ⟨m,hm,hmb⟩:=hmr.mem he
     have h3:leftOf ms ⟨seen⟩= #[]:=Array.eq_empty_of_size_eq_zero h1
     unfold leftOf at h3
     rw [Array.filter_eq_empty_iff] at h3
     have:=h3 m (by simpa using hm)
     rw [← hmb]
     simpa using this
    ·have he':e∈ms.toList∧e.born∉seen:=by
      unfold leftOf at he
      simpa using he
     obtain ⟨a,ha,a1,a2,a3⟩:=hmr.stamps he'.1
     have hd:∀n,HRel c H w1∧Trans n c H w c H w1:=fun n=>by
      rcases hw1 with rfl|rfl
      ·exact ⟨h,.refl n c H w1⟩
      ·exact h.drew n
     have hb1:w1.heap[p.block]? =some (.mapIter (some pm.block) since ⟨seen⟩ last):=by rcases hw1 with rfl|rfl<;> exact hb
     have hp:=fun n=>(hd 0).1.putIter hi hc hb1 h0 (v':= .map (some i)) (mm':=some pm.block) (s':=since) (b':=seen++[a.2.2]) (l':=ck) (.map hci) n
     refine ⟨_,_,h2,_,_,c,hk2 a ha (by rw [a1];exact he'.2),?_,Ctx.le_refl c,?_,fun n=>((hd n).2.trans ?_)⟩
     ·exact .tuple (.cons (.bool true) (.cons a2 (.cons a3 .nil)))
     ·have:=(hp 0).1
      rw [a1] at this ⊢
      simpa using this
     ·have:=(hp n).2
      rw [a1] at this ⊢
      simpa using this
   ·exact hw.elim
  ·exact hw.elim
 ·exact hw.elim
theorem entryW_ok {P:Program} {c:Ctx} {H:AHeap} {w:World} {K:Value→AHeap→Prop} (h:HRel c H w) {m m':Value} (hm:VRel c m m') (hw:entryW m H K):Gives P (Instr.entry m') c H w K:=by
 unfold entryW at hw
 split at hw
 ·rename_i r
  cases hm with
  |ptr hc=>
  rename_i p
  split at hw
  ·rename_i i since seen last hi
   split at hw
   ·rename_i es ck own hm2
    obtain ⟨rfl,hw⟩:=hw
    obtain ⟨st,hst,hw⟩:=wth_elim hw
    obtain ⟨e,hfe,hw⟩:=wth_elim hw
    obtain ⟨q,hq,hr⟩:=h.obj r _ hi rfl
    rw [hc] at hq;cases hq
    obtain ⟨h0,mm,hb,hv⟩:=hr
    cases hv with
    |map hci=>
    rename_i pm
    obtain ⟨q,hq,hr⟩:=h.obj i _ hm2 rfl
    rw [hci] at hq;cases hq
    obtain ⟨ms,hbm,hmr⟩:=hr
    rw [h0,Nat.zero_add]
    have hback:(⟨seen⟩:Array Nat).back? =some st:=by
     rw [Array.back?_eq_getElem?,←Array.getElem?_toList]
     rw [List.getLast?_eq_getElem?] at hst
     simpa using hst
    obtain ⟨mf,hmf,hk,hvv⟩:∃mf,ms.find? (fun x=>x.born==st)=some mf∧VRel c e.1 mf.key∧VRel c e.2.1 mf.val:=by
     rw [← Array.find?_toList]
     have key:∀(es:MEs) (ms:List MapEntry),MapRel c es ms→es.find? (fun e=>e.2.2==st)=some e→∃mf,ms.find? (fun x=>x.born==st)=some mf∧VRel c e.1 mf.key∧VRel c e.2.1 mf.val:=by
      intro es
      induction es with
      |nil=>intro ms _ h;cases h
      | cons a es ih=>
       intro ms hr hf
       cases ms with
       |nil=>have:=hr.len;simp at this
       | cons b ms=>
        obtain ⟨r1,r2,r3⟩:=hr
        simp only [List.map_cons] at r1 r2 r3
        cases r1 with
        |cons r1a r1b=>
        cases r2 with
        |cons r2a r2b=>
        injection r3 with r3a r3b
        rw [List.find?_cons] at hf ⊢
        rw [r3a]
        cases hab:(a.2.2==st) with
        |true=>
         rw [hab] at hf
         cases hf
         exact ⟨b,rfl,r1a,r2a⟩
        |false=>
         rw [hab] at hf
         exact ih ms ⟨r1b,r2b,r3b⟩ hf
     exact key es ms.toList hmr hfe
    refine .pure h ?_ (.tuple (.cons hk (.cons hvv .nil))) hw
    simp only [Instr.entry,getObj,Sem.run_bind,Sem.run,hb,hbm,Result.andThen,hback,bne_self_eq_false,Bool.false_eq_true,if_false,hmf]
    rfl
   ·exact hw.elim
  ·exact hw.elim
 ·exact hw.elim
end Go.Aw

set_option linter.unusedVariables false
set_option linter.unusedSimpArgs false
namespace Go.Aw
inductive ARes where
 |ret (v:Value)
 |pan (v:Value)
inductive RRel (c:Ctx):ARes→Ending→Prop
 |ret {v v':Value}:VRel c v v'→RRel c (.ret v) (.returned v')
 |pan {v v':Value}:VRel c v v'→RRel c (.pan v) (.panicked [{v:=v',recovered:=false}])
def CPost (K:ARes→AHeap→Prop) (c:Ctx) (H:AHeap) (w:World) (e:Ending) (w':World):Prop:=
 ∃r c' H',K r H'∧RRel c' r e∧HRel c' H' w'∧Trans H.length c H w c' H' w'
def CallTo (P:Program) (f:FuncId) (args:Array Value) (w:World) (R:Ending→World→Prop):Prop:=
 match (callFunc f args).run P w with
 | .ok (.enter f' args') w'=>Calls P f' args' w' R
 | .ok (.value v) w'=>R (.returned v) w'
 | .halt (.panic v) w'=>R (.panicked [{v,recovered:=false}]) w'
 |_=>False
def AC (P:Program) (f:FuncId) (args:List Value) (H:AHeap) (K:ARes→AHeap→Prop):Prop:=
 ∀c w vargs,HRel c H w→VRels c args vargs→CallTo P f ⟨vargs⟩ w (CPost K c H w)
theorem CPost.mono {K K':ARes→AHeap→Prop} (h:∀r H,K r H→K' r H) {c:Ctx} {H:AHeap} {w:World} {e:Ending} {w':World} (hp:CPost K c H w e w'):CPost K' c H w e w':=
 let ⟨r,c',H',h1,h2⟩:=hp;⟨r,c',H',h _ _ h1,h2⟩
theorem CallTo.mono {P:Program} {f:FuncId} {args:Array Value} {w:World} {R R':Ending→World→Prop} (h:CallTo P f args w R) (hr:∀e w',R e w'→R' e w'):CallTo P f args w R':=by
 unfold CallTo at*
 split<;> simp_all
 rename_i f' args' w' _
 exact h.mono hr
theorem AC.mono {P:Program} {f:FuncId} {args:List Value} {H:AHeap} {K K':ARes→AHeap→Prop} (h:AC P f args H K) (hk:∀r H',K r H'→K' r H'):AC P f args H K':=
 fun c w vargs hh hv=>(h c w vargs hh hv).mono fun _ _ hp=>hp.mono hk
def ARet (P:Program) (f:FuncId) (args:List Value) (H:AHeap) (v:Value) (H':AHeap):Prop:=AC P f args H fun r H1=>r= .ret v∧H1=H'
theorem ARet.use {P:Program} {f:FuncId} {args:List Value} {H H':AHeap} {v:Value} {K:ARes→AHeap→Prop} (h:ARet P f args H v H') (hk:K (.ret v) H'):AC P f args H K:=
 h.mono fun r H1 ⟨h1,h2⟩=>by subst h1;subst h2;exact hk
def AY (P:Program) (i:Nat) (args:List Value) (H:AHeap) (K:Value→AHeap→Prop):Prop:=
 ∀c w vargs p,HRel c H w→VRels c args vargs→c i=some p→∃f tmps assign body w1,(Instr.yield p.block ⟨vargs⟩).run P w= .ok (.round p.block f tmps assign body) w1∧
  RoundIn Fence.wide 0 P p.block f tmps assign body w1 (CPost (fun r H'=>∃v,r= .ret v∧K v H') c H w)
def resK (K:ASt→Prop) (Kp:Value→ASt→Prop) (st:ASt) (dst:Option Tmp):ARes→AHeap→Prop
 | .ret v,H'=>K (ASt.put ⟨st.env,st.defs,H'⟩ dst v)
 | .pan v,H'=>Kp v ⟨st.env,st.defs,H'⟩
def callV (P:Program) (fv:Value) (args:List Value) (st:ASt) (dst:Option Tmp) (K:ASt→Prop) (Kp:Value→ASt→Prop):Prop:=
 match fv with
 | .func (.func f) ⟨first⟩ ⟨cap⟩=>AC P f (first++args++cap) st.H (resK K Kp st dst)
 | .func (.yield i) ⟨[]⟩ ⟨[]⟩=>AY P i args st.H fun v H'=>resK K Kp st dst (.ret v) H'
 |_=>False
def tM (P:Program) (t:TypeId) (name:String):Option FuncId:=
 (P.info? t).bind fun i=>(i.methods.find? (·.name==name)).bind fun m=>
  if m.path.isEmpty=true then
   m.func.bind fun p=>match P.underlying t,p.2 with
    |some (.pointer _),true=>some p.1
    |some (.pointer _),false=>none
    |some _,false=>some p.1
    |_,_=>none
  else none
def evs (st:ASt):List Operand→Option (List Value)
 |[]=>some []
 |x::r=>(ev st x).bind fun v=>(evs st r).map (v:: ·)
def evP (st:ASt):List (Nat×Operand)→Option (List (Nat×Value))
 |[]=>some []
 |(i,x)::r=>(ev st x).bind fun v=>(evP st r).map ((i,v):: ·)
def evO (st:ASt):Option Operand→Option (Option Value)
 |none=>some none
 |some x=>(ev st x).map some
def kv (st:ASt) (dst:Option Tmp) (K:ASt→Prop):Value→AHeap→Prop:=fun v H'=>K (ASt.put ⟨st.env,st.defs,H'⟩ dst v)
def noVal:Value:= .tuple ⟨[]⟩
def builtinW (P:Program) (b:Builtin) (ts:List TypeId) (args:List Value) (st:ASt) (dst:Option Tmp) (K:ASt→Prop):Prop:=
 match b,ts,args with
 | .len,[t],[x]=>lenW P t x st.H (kv st dst K)
 | .append,[t,tx],[s,x]=>appendW P t tx s x st.H (kv st dst K)
 | .copy,[t,_],[d,x]=>copyW P t d x st.H (kv st dst K)
 | .min,_,l=>minMaxW false l st.H (kv st dst K)
 | .max,_,l=>minMaxW true l st.H (kv st dst K)
 | .delete,t::_,[m,k]=>deleteW P t m k st.H (kv st dst K)
 | .unsafeSliceData,_,[x]=>usdW x st.H (kv st dst K)
 | .unsafeString,[t,_],[p,n]=>usW P t p n st.H (kv st dst K)
 | .clear,[t],[x]=>clearW P t x st.H (kv st dst K)
 |_,_,_=>False
def opW (g:Cfg) (o:Oper) (st:ASt) (K:ASt→Prop) (Kp:Value→ASt→Prop):Prop:=
 match o.op with
 | .move x| .assign x=>wth (ev st x) fun v=>K (st.put o.dst v)
 | .pick c a b=>wth (ev st c) fun u=>match u with
  | .bool t=>(t=true→wth (ev st a) fun v=>K (st.put o.dst v))∧(t=false→wth (ev st b) fun v=>K (st.put o.dst v))
  |_=>False
 | .alloc e=>allocW g.P e st.H (kv st o.dst K)
 | .box e x=>wth (ev st x) fun v=>boxW e v st.H (kv st o.dst K)
 | .build t ps=>wth (evP st ps.toList) fun l=>buildW g.P t l st.H (kv st o.dst K)
 | .buildSlice t n ps=>wth (evP st ps.toList) fun l=>buildSliceW g.P t n l st.H (kv st o.dst K)
 | .load t a=>wth (ev st a) fun v=>loadW g.P t v st.H (kv st o.dst K)
 | .store t a x=>wth (ev st a) fun v=>wth (ev st x) fun u=>storeW g.P t v u st.H fun H'=>K (ASt.put ⟨st.env,st.defs,H'⟩ o.dst noVal)
 | .nilCheck x=>wth (ev st x) fun v=>match v with
  | .pointer (some a)=>K (st.put o.dst (.pointer (some a)))
  | .func (.func f) y z=>K (st.put o.dst (.func (.func f) y z))
  | .iface t u=>K (st.put o.dst (.iface t u))
  |_=>False
 | .binOp op t x y _=>wth (ev st x) fun a=>wth (ev st y) fun b=>binW g.P op t x y a b fun v=>K (st.put o.dst v)
 | .unOp op _ x=>wth (ev st x) fun a=>unW op a fun v=>K (st.put o.dst v)
 | .convert s d x=>wth (ev st x) fun a=>convW g.P s d a st.H (kv st o.dst K)
 | .makeInterface t x=>wth (ev st x) fun a=>ifaceW g.P t a st.H (kv st o.dst K)
 | .makeFunc f xs ys=>(match f with| .func _=>True|_=>False)∧wth (evs st xs.toList) fun a=>wth (evs st ys.toList) fun b=>K (st.put o.dst (.func f ⟨a⟩ ⟨b⟩))
 | .makeSlice t l n=>wth (ev st l) fun a=>wth (ev st n) fun b=>makeSliceW g.P t a b st.H (kv st o.dst K)
 | .slice t x lo hi mx=>wth (ev st x) fun a=>wth (evO st lo) fun l=>wth (evO st hi) fun h=>wth (evO st mx) fun m=>sliceW g.P t a l h m st.H (kv st o.dst K)
 | .fieldAddr t x f=>wth (ev st x) fun a=>fieldAddrW g.P t a f st.H (kv st o.dst K)
 | .field t x f=>wth (ev st x) fun a=>fieldW g.P t a f st.H (kv st o.dst K)
 | .indexAddr t x i=>wth (ev st x) fun a=>wth (ev st i) fun b=>indexAddrW g.P t a b st.H (kv st o.dst K)
 | .index t x i=>wth (ev st x) fun a=>wth (ev st i) fun b=>indexW g.P t a b st.H (kv st o.dst K)
 | .typeAssert x xt t ok=>wth (ev st x) fun a=>assertW g.P a xt t ok st.H (kv st o.dst K)
 | .extract x i=>wth (ev st x) fun a=>extractW a i st.H (kv st o.dst K)
 | .call c=>wth (evs st c.args.toList) fun args=>(match c.callee with
  | .value x=>wth (ev st x) fun fv=>callV g.P fv args st o.dst K Kp
  | .builtin b=>builtinW g.P b c.argTypes.toList args st o.dst K
  | .invoke x name=>wth (ev st x) fun r=>match r with
   | .iface t v=>wth (tM g.P t name) fun f=>AC g.P f (v::args) st.H (resK K Kp st o.dst)
   |_=>False)
 | .defer c=>g.lr=none∧wth (evs st c.args.toList) fun args=>(match c.callee with
  | .value x=>wth (ev st x) fun fv=>match fv with
   | .func f ⟨first⟩ ⟨cap⟩=>K (ASt.put ⟨st.env,.call f cap (first++args)::st.defs,st.H⟩ o.dst noVal)
   |_=>False
  |_=>False)
 | .panic x=>wth (ev st x) fun v=>match v with
  | .iface t u=>Kp (.iface t u) st
  |_=>False
 | .range t x=>wth (ev st x) fun a=>rangeW g.P t a st.H (kv st o.dst K)
 | .next x s=>wth (ev st x) fun a=>nextW a s st.H (kv st o.dst K)
 | .entry x=>wth (ev st x) fun a=>entryW a st.H (kv st o.dst K)
 | .makeMap _ r=>makeMapW (r.map fun _=>noVal) st.H (kv st o.dst K)
 | .lookup t x i ok=>wth (ev st x) fun a=>wth (ev st i) fun b=>lookupW g.P t a b ok st.H (kv st o.dst K)
 | .mapUpdate t m k x=>wth (ev st m) fun a=>wth (ev st k) fun b=>wth (ev st x) fun u=>mapUpdateW g.P t a b u st.H fun H'=>K (ASt.put ⟨st.env,st.defs,H'⟩ o.dst noVal)
 | .insert t m k x=>wth (ev st m) fun a=>wth (ev st k) fun b=>wth (ev st x) fun u=>mapUpdateW g.P t a b u st.H fun H'=>K (ASt.put ⟨st.env,st.defs,H'⟩ o.dst noVal)
 | .mapEntry t m k=>wth (ev st m) fun a=>wth (ev st k) fun b=>mapEntryW g.P t a b st.H (kv st o.dst K)
 | .entryStore t m s x=>wth (ev st m) fun a=>wth (ev st s) fun b=>wth (ev st x) fun u=>entryStoreW a b u st.H fun H'=>K (ASt.put ⟨st.env,st.defs,H'⟩ o.dst noVal)
 |_=>False
def OnlyPut (o:Oper) (c c':Ctx) (a a':Act):Prop:=c.le c'∧∃u,a'.tmps=(a.put o.dst u).tmps
def OpOk (g:Cfg) (o:Oper) (st:ASt) (K:ASt→Prop) (Kp:Value→ASt→Prop):Prop:=
 ∀c w a (Q:Exit→Act→World→Prop) (next:Act→World→Prop),SRel g.N c st w a→
  (∀ st' c' a' w',K st'→SRel g.N c' st' w' a'→Trans g.n0 c st.H w c' st'.H w'→OnlyPut o c c' a a'→next a' w')→
  (∀ v v' st' c' a' w',Kp v st'→VRel c' v v'→SRel g.N c' st' w' a'→Trans g.n0 c st.H w c' st'.H w'→Q (.panic [{v:=v',recovered:=false}]) a' w')→
  o.wpIn (fenceOf g.lr) 0 g.P a w next Q
section
variable {g:Cfg} {o:Oper} {st:ASt} {K:ASt→Prop} {Kp:Value→ASt→Prop}
theorem about_any (lr:Option Nat) {P:Program} {w:World} {ρ :Operand→Value}:∀f,o.about P w ρ=some f→(fenceOf lr).fn f:=fun f _=>fenceOf_fn lr f
theorem OpOk.value (hd:∀d,o.dst=some d→d<g.N.n) (hnd:∀c,o.op≠ .defer c)
  (h:∀c w a,SRel g.N c st w a→∃v' w',(execOp a.eval o).run g.P w= .ok (.value v') w'∧∃v H' c',K (ASt.put ⟨st.env,st.defs,H'⟩ o.dst v)∧VRel c' v v'∧c.le c'∧HRel c' H' w'∧∀n,Trans n c st.H w c' H' w'):OpOk g o st K Kp:=by
 intro c w a Q next hs hk _
 obtain ⟨v',w',hr,v,H',c',hK,hv,hle,hh,ht⟩:=h c w a hs
 refine ⟨about_any g.lr,?_⟩
 rw [Oper.semAt_eq _ _ _ hnd,hr]
 have:=(hs.step hle (ht g.n0) hh).put hd hv
 refine hk _ c' _ w' hK this ?_ ⟨hle,_,rfl⟩
 cases ho:o.dst<;> exact ht g.n0
theorem run_v {P:Program} {s:Sem Value} {v:Value} {w w':World} (h:s.run P w= .ok v w'):(do pure (Next.value (← s)):Sem Next).run P w= .ok (.value v) w':=by
 simp [h]
theorem OpOk.gives (hd:∀d,o.dst=some d→d<g.N.n) (hnd:∀c,o.op≠ .defer c) (s:Act→Sem Value) (he:∀a:Act,execOp a.eval o=do pure (Next.value (← s a)))
  (h:∀c w a,SRel g.N c st w a→Gives g.P (s a) c st.H w (kv st o.dst K)):OpOk g o st K Kp:=
 .value hd hnd fun c w a hs=>
  let ⟨v',w',hr,v,H',c',hk,hv,hle,hh,ht⟩:=h c w a hs
  ⟨v',w',by rw [he];exact run_v hr,v,H',c',hk,hv,hle,hh,ht⟩
theorem OpOk.still (hd:∀d,o.dst=some d→d<g.N.n) (hnd:∀c,o.op≠ .defer c)
  (h:∀c w a,SRel g.N c st w a→∃v v',(execOp a.eval o).run g.P w= .ok (.value v') w∧VRel c v v'∧K (st.put o.dst v)):OpOk g o st K Kp:=
 .value hd hnd fun c w a hs=>
  let ⟨v,v',hr,hv,hk⟩:=h c w a hs
  ⟨v',w,hr,v,st.H,c,hk,hv,Ctx.le_refl c,hs.heap,fun n=> .refl n c st.H w⟩
theorem evs_rel {N:Fr} {c:Ctx} {w:World} {a:Act} (h:SRel N c st w a):∀{xs:List Operand} {vs:List Value},evs st xs=some vs→VRels c vs (xs.map a.eval)
 |[],vs,e=>by simp [evs] at e;subst e;exact .nil
 | x::xs,vs,e=>by
  simp only [evs] at e
  cases hx:ev st x with
  |none=>simp [hx] at e
  |some v=>
   cases hxs:evs st xs with
   |none=>simp [hx,hxs] at e
   |some us=>simp [hx,hxs] at e;subst e;exact .cons (ev_rel h hx) (evs_rel h hxs)
theorem evP_rel {N:Fr} {c:Ctx} {w:World} {a:Act} (h:SRel N c st w a):∀{xs:List (Nat×Operand)} {vs:List (Nat×Value)},evP st xs=some vs→PRels c vs (xs.map fun p=>(p.1,a.eval p.2))
 |[],vs,e=>by simp [evP] at e;subst e;exact .nil
 | (i,x)::xs,vs,e=>by
  simp only [evP] at e
  cases hx:ev st x with
  |none=>simp [hx] at e
  |some v=>
   cases hxs:evP st xs with
   |none=>simp [hx,hxs] at e
   |some us=>simp [hx,hxs] at e;subst e;exact .cons (ev_rel h hx) (evP_rel h hxs)
theorem evO_rel {N:Fr} {c:Ctx} {w:World} {a:Act} (h:SRel N c st w a) {x:Option Operand} {v:Option Value} (e:evO st x=some v):ORels c v (x.map a.eval):=by
 cases x with
 |none=>simp [evO] at e;subst e;exact .none
 |some x=>
  simp only [evO] at e
  cases hx:ev st x with
  |none=>simp [hx] at e
  |some u=>simp [hx] at e;subst e;exact .some (ev_rel h hx)
theorem callsIn_of {lr:Option Nat} {P:Program} {f:FuncId} {args:Array Value} {w:World} {R:Ending→World→Prop} (h:Calls P f args w R) (n:Nat):CallsIn (fenceOf lr) n P f args w R:=by
 have h':CallsIn Fence.wide n P f args w R:=callsIn_wide.2 h
 cases lr with
 |none=>exact h'
 |some l=>exact h'
theorem roundIn_of {lr:Option Nat} {P:Program} {l:Nat} {f:FuncId} {tmps:Array Value} {assign body:Code} {w:World} {R:Ending→World→Prop} {n:Nat} (h:RoundIn Fence.wide n P l f tmps assign body w R):RoundIn (fenceOf lr) n P l f tmps assign body w R:=by
 cases lr with
 |none=>exact h
 |some l=>exact h
theorem CPost.next {c:Ctx} {w:World} {a:Act} {Q:Exit→Act→World→Prop} {nx:Act→World→Prop} (hd:∀d,o.dst=some d→d<g.N.n) (hs:SRel g.N c st w a)
  (hk:∀st' c' a' w',K st'→SRel g.N c' st' w' a'→Trans g.n0 c st.H w c' st'.H w'→OnlyPut o c c' a a'→nx a' w')
  (hp:∀v v' st' c' a' w',Kp v st'→VRel c' v v'→SRel g.N c' st' w' a'→Trans g.n0 c st.H w c' st'.H w'→Q (.panic [{v:=v',recovered:=false}]) a' w')
  {e:Ending} {w':World} (h:CPost (resK K Kp st o.dst) c st.H w e w'):
  (match e,w' with
   | .returned v,w''=>nx (a.put o.dst v) w''
   | .panicked chain,w''=>Q (.panic chain) a w''
   | .outgrown,_=>LetsOut Q):=by
 obtain ⟨r,c',H',hK,hr,hh,ht⟩:=h
 have hle:c.le c':=ht.le hs.heap
 have ht0:Trans g.n0 c st.H w c' H' w':={ht with names:=fun i p _ e=>hle i p e}
 cases hr with
 |ret hv=>
  refine hk _ c' _ w' hK ((hs.step hle ht hh).put hd hv) ?_ ⟨hle,_,rfl⟩
  cases ho:o.dst<;> exact ht0
 |pan hv=>exact hp _ _ _ c' _ w' hK hv (hs.step hle ht hh) ht0
theorem CallTo.wpIn {c:Ctx} {w:World} {a:Act} {Q:Exit→Act→World→Prop} {nx:Act→World→Prop} (hd:∀d,o.dst=some d→d<g.N.n) (hs:SRel g.N c st w a)
  (hk:∀st' c' a' w',K st'→SRel g.N c' st' w' a'→Trans g.n0 c st.H w c' st'.H w'→OnlyPut o c c' a a'→nx a' w')
  (hp:∀v v' st' c' a' w',Kp v st'→VRel c' v v'→SRel g.N c' st' w' a'→Trans g.n0 c st.H w c' st'.H w'→Q (.panic [{v:=v',recovered:=false}]) a' w')
  {f:FuncId} {args:Array Value} (he:∀w,(execOp a.eval o).run g.P w=(callFunc f args).run g.P w) (hnd:∀c,o.op≠ .defer c) (h:CallTo g.P f args w (CPost (resK K Kp st o.dst) c st.H w)):
  o.wpIn (fenceOf g.lr) 0 g.P a w nx Q:=by
 refine ⟨about_any g.lr,?_⟩
 rw [Oper.semAt_eq _ _ _ hnd,he]
 unfold CallTo at h
 split at h
 ·rename_i f' args' w' hr
  rw [hr]
  exact ⟨fenceOf_depth g.lr,(callsIn_of h _).mono fun e w'' hpost=>by
   have:=hpost.next hd hs hk hp
   cases e<;> exact this⟩
 ·rename_i v w' hr
  rw [hr]
  exact h.next hd hs hk hp
 ·rename_i v w' hr
  rw [hr]
  exact h.next hd hs hk hp
 ·exact h.elim
end
end Go.Aw

set_option linter.unusedVariables false
set_option linter.unusedSimpArgs false
namespace Go.Aw
section
variable {g:Cfg} {o:Oper} {st:ASt} {K:ASt→Prop} {Kp:Value→ASt→Prop}
theorem callV_ok {fv:Value} {args:List Value} (hd:∀d,o.dst=some d→d<g.N.n) (cl:Call) (ho:o.op= .call cl) (x:Operand) (hc:cl.callee= .value x) (hx:ev st x=some fv) (ha:evs st cl.args.toList=some args)
  (h:callV g.P fv args st o.dst K Kp):OpOk g o st K Kp:=by
 intro c w a Q next hs hk hp
 have hnd:∀c,o.op≠ .defer c:=fun c e=>by rw [ho] at e;cases e
 have hfv:=ev_rel hs hx
 have hargs:=evs_rel hs ha
 have hargs':cl.args.map a.eval=⟨cl.args.toList.map a.eval⟩:=by apply Array.ext';simp
 unfold callV at h
 split at h
 ·rename_i f first cap
  generalize hev:a.eval x=fv' at hfv
  cases hfv with
  |func hf h1 h2=>
   cases hf
   rename_i first' cap'
   refine CallTo.wpIn hd hs hk hp (f:=f) (args:=⟨first'++cl.args.toList.map a.eval++cap'⟩) (fun w=> ?_) hnd (h c w _ hs.heap ((h1.append hargs).append h2))
   simp only [execOp,ho,resolve,hc,hev,Deferred.ofValue,pure_bind,invoke,hargs']
   congr 2
   apply Array.ext'
   simp
 ·rename_i i
  generalize hev:a.eval x=fv' at hfv
  cases hfv with
  | func hf h1 h2=>
   cases hf with
   | yield hci=>
    rename_i p
    cases h1;cases h2
    obtain ⟨f,tmps,assign,body,w1,hy,hr⟩:=h c w _ p hs.heap hargs hci
    refine ⟨about_any g.lr,?_⟩
    have he:(execOp a.eval o).run g.P w= .ok (.round p.block f tmps assign body) w1:=by
     simp only [execOp,ho,resolve,hc,hev,Deferred.ofValue,pure_bind,invoke,hargs']
     simpa using hy
    rw [Oper.semAt_eq _ _ _ hnd,he]
    exact ⟨fenceOf_depth g.lr,(roundIn_of hr).mono fun e w'' hpost=>by
     have hpost':CPost (resK K Kp st o.dst) c st.H w e w'':=hpost.mono fun r H' ⟨v,hr,hk⟩=>by subst hr;exact hk
     have:=hpost'.next hd hs hk hp
     cases e<;> exact this⟩
 ·exact h.elim
theorem invoke_ok {t:TypeId} {v:Value} {args:List Value} {f:FuncId} {name:String} (hd:∀d,o.dst=some d→d<g.N.n) (cl:Call) (ho:o.op= .call cl) (x:Operand) (hc:cl.callee= .invoke x name) (hx:ev st x=some (.iface t v))
  (ha:evs st cl.args.toList=some args) (hm:tM g.P t name=some f) (h:AC g.P f (v::args) st.H (resK K Kp st o.dst)):OpOk g o st K Kp:=by
 intro c w a Q next hs hk hp
 have hnd:∀c,o.op≠ .defer c:=fun c e=>by rw [ho] at e;cases e
 have hxv:=ev_rel hs hx
 have hargs:=evs_rel hs ha
 have hargs':cl.args.map a.eval=⟨cl.args.toList.map a.eval⟩:=by apply Array.ext';simp
 generalize hev:a.eval x=xv at hxv
 cases hxv with
 | iface hv=>
  rename_i v'
  refine CallTo.wpIn hd hs hk hp (f:=f) (args:=⟨v'::cl.args.toList.map a.eval⟩) (fun w=> ?_) hnd (h c w _ hs.heap (.cons hv hargs))
  have hmeth:∀w,(Go.method (g.P.types.size+Made.depth) t v' name).run g.P w= .ok (f,v') w:=by
   intro w
   unfold tM at hm
   cases hi:g.P.info? t with
   |none=>rw [hi] at hm;cases hm
   | some i=>
    rw [hi] at hm;simp only [Option.bind_some] at hm
    cases hf:i.methods.find? (·.name==name) with
    |none=>rw [hf] at hm;cases hm
    | some m=>
     rw [hf] at hm;simp only [Option.bind_some] at hm
     split at hm
     ·rename_i hp0
      have hp1:m.path= #[]:=by simpa using hp0
      cases hmf:m.func with
      |none=>rw [hmf] at hm;cases hm
      | some q=>
       obtain ⟨f1,b⟩:=q
       rw [hmf] at hm;simp only [Option.bind_some] at hm
       have hti:(typeInfo t).run g.P w= .ok i w:=by simp [typeInfo,hi]
       show (Go.method ((g.P.types.size+99)+1) t v' name).run g.P w=_
       unfold Go.method
       simp only [Sem.run_bind,hti,Result.andThen_ok,hf,hp1,Go.follow,Sem.run_pure,hmf]
       cases hu:g.P.underlying t with
       |none=>rw [hu] at hm;cases b<;> cases hm
       | some d=>
        rw [hu] at hm
        cases d<;> cases b<;> first
         |(cases hm;done)
         |(simp only [Option.some.injEq] at hm;subst hm;simp only [Go.receiverAt,Sem.run_bind,run_underlying hu,Result.andThen_ok,Go.Place.get,Sem.run_pure])
     ·cases hm
  simp only [execOp,ho,resolve,hc,hev,pure_bind,invoke,hargs']
  have e0: (#[Value.iface t v']++(⟨cl.args.toList.map a.eval⟩:Array Value))[0]? =some (.iface t v'):=by simp
  simp only [e0]
  have e1: (#[Value.iface t v']++(⟨cl.args.toList.map a.eval⟩:Array Value)).extract 1 (#[Value.iface t v']++(⟨cl.args.toList.map a.eval⟩:Array Value)).size=⟨cl.args.toList.map a.eval⟩:=by
   apply Array.ext';simp [List.take_of_length_le]
  simp only [e1,callMethod,Sem.run_bind,run_program,Result.andThen_ok,hmeth]
  have e2: #[v']++(⟨cl.args.toList.map a.eval⟩:Array Value)=⟨v'::cl.args.toList.map a.eval⟩:=by apply Array.ext';simp
  rw [e2]
theorem builtin_ok {b:Builtin} {args:List Value} (hd:∀d,o.dst=some d→d<g.N.n) (cl:Call) (ho:o.op= .call cl) (hc:cl.callee= .builtin b) (ha:evs st cl.args.toList=some args)
  (h:builtinW g.P b cl.argTypes.toList args st o.dst K):OpOk g o st K Kp:=by
 have hnd:∀c,o.op≠ .defer c:=fun c e=>by rw [ho] at e;cases e
 have he:∀(a:Act) (args':List Value) (ts:List TypeId),cl.args.toList.map a.eval=args'→cl.argTypes.toList=ts→∃consts,execOp a.eval o=builtin b ⟨ts⟩ o.type consts ⟨args'⟩:=by
  intro a args' ts e1 e2
  have hargs':cl.args.map a.eval=⟨args'⟩:=by apply Array.ext';simp [← e1]
  have hts:cl.argTypes=⟨ts⟩:=by apply Array.ext';simp [← e2]
  exact ⟨_,by simp only [execOp,ho,resolve,hc,pure_bind,invoke,hargs',hts];rfl⟩
 unfold builtinW at h
 split at h
 all_goals try (exact h.elim)
 all_goals
  intro c w a Q next hs hk hp
  have hargs:=evs_rel hs ha
  generalize hl:cl.args.toList.map a.eval=l' at hargs
 ·rename_i t x hts
  obtain ⟨x',rfl,hx⟩:=hargs.one
  obtain ⟨consts,hex⟩:=he a _ _ hl hts
  obtain ⟨v',w',hr,v,H',c',hK,hv,hle,hh,ht⟩:=lenW_ok (ty:=o.type) hs.heap hx h
  refine ⟨about_any g.lr,?_⟩
  rw [Oper.semAt_eq _ _ _ hnd,hex]
  have:(builtin .len ⟨_⟩ o.type consts ⟨[x']⟩).run g.P w= .ok (.value v') w':=run_v hr
  rw [this]
  refine hk _ c' _ w' hK ((hs.step hle (ht g.n0) hh).put hd hv) ?_ ⟨hle,_,rfl⟩
  cases o.dst<;> exact ht g.n0
 ·rename_i t tx s x hts
  obtain ⟨s',x',rfl,hsv,hx⟩:=hargs.two
  obtain ⟨consts,hex⟩:=he a _ _ hl hts
  obtain ⟨v',w',hr,v,H',c',hK,hv,hle,hh,ht⟩:=appendW_ok (ty:=o.type) hs.heap hsv hx h
  refine ⟨about_any g.lr,?_⟩
  rw [Oper.semAt_eq _ _ _ hnd,hex]
  have:(builtin .append ⟨_⟩ o.type consts ⟨[s',x']⟩).run g.P w= .ok (.value v') w':=run_v hr
  rw [this]
  refine hk _ c' _ w' hK ((hs.step hle (ht g.n0) hh).put hd hv) ?_ ⟨hle,_,rfl⟩
  cases o.dst<;> exact ht g.n0
 ·rename_i t tx s x hts
  obtain ⟨s',x',rfl,hsv,hx⟩:=hargs.two
  obtain ⟨consts,hex⟩:=he a _ _ hl hts
  obtain ⟨v',w',hr,v,H',c',hK,hv,hle,hh,ht⟩:=copyW_ok (ty:=o.type) hs.heap hsv hx h
  refine ⟨about_any g.lr,?_⟩
  rw [Oper.semAt_eq _ _ _ hnd,hex]
  have:(builtin .copy ⟨_⟩ o.type consts ⟨[s',x']⟩).run g.P w= .ok (.value v') w':=run_v hr
  rw [this]
  refine hk _ c' _ w' hK ((hs.step hle (ht g.n0) hh).put hd hv) ?_ ⟨hle,_,rfl⟩
  cases o.dst<;> exact ht g.n0
 ·obtain ⟨consts,hex⟩:=he a _ _ hl rfl
  obtain ⟨v',w',hr,v,H',c',hK,hv,hle,hh,ht⟩:=minMaxW_ok (P:=g.P) (mx:=false) (ts:=⟨cl.argTypes.toList⟩) (t:=o.type) hs.heap hargs h
  refine ⟨about_any g.lr,?_⟩
  rw [Oper.semAt_eq _ _ _ hnd,hex]
  have:(builtin .min ⟨cl.argTypes.toList⟩ o.type consts ⟨l'⟩).run g.P w= .ok (.value v') w':=run_v hr
  rw [this]
  refine hk _ c' _ w' hK ((hs.step hle (ht g.n0) hh).put hd hv) ?_ ⟨hle,_,rfl⟩
  cases o.dst<;> exact ht g.n0
 ·obtain ⟨consts,hex⟩:=he a _ _ hl rfl
  obtain ⟨v',w',hr,v,H',c',hK,hv,hle,hh,ht⟩:=minMaxW_ok (P:=g.P) (mx:=true) (ts:=⟨cl.argTypes.toList⟩) (t:=o.type) hs.heap hargs h
  refine ⟨about_any g.lr,?_⟩
  rw [Oper.semAt_eq _ _ _ hnd,hex]
  have:(builtin .max ⟨cl.argTypes.toList⟩ o.type consts ⟨l'⟩).run g.P w= .ok (.value v') w':=run_v hr
  rw [this]
  refine hk _ c' _ w' hK ((hs.step hle (ht g.n0) hh).put hd hv) ?_ ⟨hle,_,rfl⟩
  cases o.dst<;> exact ht g.n0
 ·rename_i t tr s x hts
  obtain ⟨s',x',rfl,hsv,hx⟩:=hargs.two
  obtain ⟨consts,hex⟩:=he a _ _ hl hts
  obtain ⟨v',w',hr,v,H',c',hK,hv,hle,hh,ht⟩:=deleteW_ok (ts:=⟨t::tr⟩) (ty:=o.type) rfl hs.heap hsv hx h
  refine ⟨about_any g.lr,?_⟩
  rw [Oper.semAt_eq _ _ _ hnd,hex]
  have:(builtin .delete ⟨_⟩ o.type consts ⟨[s',x']⟩).run g.P w= .ok (.value v') w':=run_v hr
  rw [this]
  refine hk _ c' _ w' hK ((hs.step hle (ht g.n0) hh).put hd hv) ?_ ⟨hle,_,rfl⟩
  cases o.dst<;> exact ht g.n0
 ·rename_i ts x
  obtain ⟨x',rfl,hx⟩:=hargs.one
  obtain ⟨consts,hex⟩:=he a _ _ hl rfl
  obtain ⟨v',w',hr,v,H',c',hK,hv,hle,hh,ht⟩:=usdW_ok (P:=g.P) (ts:=⟨cl.argTypes.toList⟩) (ty:=o.type) hs.heap hx h
  refine ⟨about_any g.lr,?_⟩
  rw [Oper.semAt_eq _ _ _ hnd,hex]
  have:(builtin .unsafeSliceData ⟨cl.argTypes.toList⟩ o.type consts ⟨[x']⟩).run g.P w= .ok (.value v') w':=run_v hr
  rw [this]
  refine hk _ c' _ w' hK ((hs.step hle (ht g.n0) hh).put hd hv) ?_ ⟨hle,_,rfl⟩
  cases o.dst<;> exact ht g.n0
 ·rename_i t it s x hts
  obtain ⟨s',x',rfl,hsv,hx⟩:=hargs.two
  obtain ⟨consts,hex⟩:=he a _ _ hl hts
  obtain ⟨v',w',hr,v,H',c',hK,hv,hle,hh,ht⟩:=usW_ok (it:=it) (ty:=o.type) hs.heap hsv hx h
  refine ⟨about_any g.lr,?_⟩
  rw [Oper.semAt_eq _ _ _ hnd,hex]
  have:(builtin .unsafeString ⟨_⟩ o.type consts ⟨[s',x']⟩).run g.P w= .ok (.value v') w':=run_v hr
  rw [this]
  refine hk _ c' _ w' hK ((hs.step hle (ht g.n0) hh).put hd hv) ?_ ⟨hle,_,rfl⟩
  cases o.dst<;> exact ht g.n0
 ·rename_i t x hts
  obtain ⟨x',rfl,hx⟩:=hargs.one
  obtain ⟨consts,hex⟩:=he a _ _ hl hts
  obtain ⟨v',w',hr,v,H',c',hK,hv,hle,hh,ht⟩:=clearW_ok (ty:=o.type) hs.heap hx h
  refine ⟨about_any g.lr,?_⟩
  rw [Oper.semAt_eq _ _ _ hnd,hex]
  have:(builtin .clear ⟨_⟩ o.type consts ⟨[x']⟩).run g.P w= .ok (.value v') w':=run_v hr
  rw [this]
  refine hk _ c' _ w' hK ((hs.step hle (ht g.n0) hh).put hd hv) ?_ ⟨hle,_,rfl⟩
  cases o.dst<;> exact ht g.n0
theorem opW_ok (hd:∀d,o.dst=some d→d<g.N.n) (h:opW g o st K Kp):OpOk g o st K Kp:=by
 cases ho:o.op<;> simp only [opW,ho] at h<;> try (exact h.elim)
 case move x=>
  obtain ⟨v,hv,hk⟩:=wth_elim h
  exact .still hd (fun c e=>by rw [ho] at e;cases e) fun c w a hs=>⟨v,_,by simp only [execOp,ho];rfl,ev_rel hs hv,hk⟩
 case assign x=>
  obtain ⟨v,hv,hk⟩:=wth_elim h
  exact .still hd (fun c e=>by rw [ho] at e;cases e) fun c w a hs=>⟨v,_,by simp only [execOp,ho];rfl,ev_rel hs hv,hk⟩
 case pick x y z=>
  obtain ⟨u,hu,hk⟩:=wth_elim h
  split at hk
  ·rename_i t
   cases t with
   |true=>
    obtain ⟨v,hv,hk⟩:=wth_elim (hk.1 rfl)
    refine .still hd (fun c e=>by rw [ho] at e;cases e) fun c w a hs=>⟨v,_,?_,ev_rel hs hv,hk⟩
    have:=ev_rel hs hu
    generalize hev:a.eval x=q at this
    cases this
    simp only [execOp,ho,hev,asBool];rfl
   |false=>
    obtain ⟨v,hv,hk⟩:=wth_elim (hk.2 rfl)
    refine .still hd (fun c e=>by rw [ho] at e;cases e) fun c w a hs=>⟨v,_,?_,ev_rel hs hv,hk⟩
    have:=ev_rel hs hu
    generalize hev:a.eval x=q at this
    cases this
    simp only [execOp,ho,hev,asBool];rfl
  ·exact hk.elim
 case alloc e=>
  exact .gives hd (fun c e=>by rw [ho] at e;cases e) (fun _=>Instr.alloc e true (.tuple #[])) (fun a=>by simp only [execOp,ho]) fun c w a hs=>allocW_ok hs.heap h
 case box e x=>
  obtain ⟨v,hv,hk⟩:=wth_elim h
  exact .gives hd (fun c e=>by rw [ho] at e;cases e) (fun a=>Instr.box e (a.eval x)) (fun a=>by simp only [execOp,ho]) fun c w a hs=>boxW_ok hs.heap (ev_rel hs hv) hk
 case build t ps=>
  obtain ⟨l,hl,hk⟩:=wth_elim h
  refine .gives hd (fun c e=>by rw [ho] at e;cases e) (fun a=>Instr.build t ⟨ps.toList.map fun p=>(p.1,a.eval p.2)⟩) (fun a=> ?_) fun c w a hs=>buildW_ok hs.heap (evP_rel hs hl) hk
  simp only [execOp,ho]
  have:ps.map (fun x=>(x.1,a.eval x.2))=⟨ps.toList.map fun p=>(p.1,a.eval p.2)⟩:=by apply Array.ext';simp
  rw [← this]
 case buildSlice t n ps=>
  obtain ⟨l,hl,hk⟩:=wth_elim h
  refine .gives hd (fun c e=>by rw [ho] at e;cases e) (fun a=>Instr.buildSlice t n ⟨ps.toList.map fun p=>(p.1,a.eval p.2)⟩) (fun a=> ?_) fun c w a hs=>buildSliceW_ok hs.heap (evP_rel hs hl) hk
  simp only [execOp,ho]
  have:ps.map (fun x=>(x.1,a.eval x.2))=⟨ps.toList.map fun p=>(p.1,a.eval p.2)⟩:=by apply Array.ext';simp
  rw [← this]
 case load t x=>
  obtain ⟨v,hv,hk⟩:=wth_elim h
  exact .gives hd (fun c e=>by rw [ho] at e;cases e) (fun a=>Instr.loadAt t (a.eval x)) (fun a=>by simp only [execOp,ho]) fun c w a hs=>loadW_ok hs.heap (ev_rel hs hv) hk
 case store t x y=>
  obtain ⟨v,hv,hk⟩:=wth_elim h
  obtain ⟨u,hu,hk⟩:=wth_elim hk
  intro c w a Q next hs hk' _
  obtain ⟨w',H',hr,hK,hh,ht⟩:=storeW_ok hs.heap (ev_rel hs hv) (ev_rel hs hu) hk
  refine ⟨about_any g.lr,?_⟩
  have:(execOp a.eval o).run g.P w= .ok .skip w':=by simp only [execOp,ho];simp [hr]
  rw [Oper.semAt_eq _ _ _ (fun c e=>by rw [ho] at e;cases e),this]
  refine hk' _ c _ w' hK ((hs.step (Ctx.le_refl c) (ht g.n0) hh).put hd (.tuple .nil)) ?_ ⟨Ctx.le_refl c,_,rfl⟩
  cases o.dst<;> exact ht g.n0
 case nilCheck x=>
  obtain ⟨v,hv,hk⟩:=wth_elim h
  refine .still hd (fun c e=>by rw [ho] at e;cases e) fun c w a hs=> ?_
  have hx:=ev_rel hs hv
  split at hk
  ·generalize hev:a.eval x=q at hx
   refine ⟨_,q,?_,hx,hk⟩
   cases hx
   simp only [execOp,ho,hev];rfl
  ·generalize hev:a.eval x=q at hx
   refine ⟨_,q,?_,hx,hk⟩
   cases hx with
   |func hf _ _=>cases hf;simp only [execOp,ho,hev];rfl
  ·generalize hev:a.eval x=q at hx
   refine ⟨_,q,?_,hx,hk⟩
   cases hx
   simp only [execOp,ho,hev];rfl
  ·exact hk.elim
 case binOp op t x y t2=>
  obtain ⟨u,hu,hk⟩:=wth_elim h
  obtain ⟨v,hv,hk⟩:=wth_elim hk
  refine .still hd (fun c e=>by rw [ho] at e;cases e) fun c w a hs=> ?_
  obtain ⟨r,hr,hsc,hK⟩:=binW_ok hk (ev_rel hs hu) (ev_rel hs hv) w
  exact ⟨r,r,by simp only [execOp,ho];exact run_v hr,.of_scalar hsc,hK⟩
 case unOp op t x=>
  obtain ⟨u,hu,hk⟩:=wth_elim h
  refine .still hd (fun c e=>by rw [ho] at e;cases e) fun c w a hs=> ?_
  obtain ⟨r,hr,hsc,hK⟩:=unW_ok (P:=g.P) hk (ev_rel hs hu) w
  exact ⟨r,r,by simp only [execOp,ho];exact run_v hr,.of_scalar hsc,hK⟩
 case convert s d x=>
  obtain ⟨v,hv,hk⟩:=wth_elim h
  exact .gives hd (fun c e=>by rw [ho] at e;cases e) (fun a=>convert s d (a.eval x)) (fun a=>by simp only [execOp,ho]) fun c w a hs=>convW_ok hs.heap (ev_rel hs hv) hk
 case makeInterface t x=>
  obtain ⟨v,hv,hk⟩:=wth_elim h
  exact .gives hd (fun c e=>by rw [ho] at e;cases e) (fun a=>Instr.makeInterface t (a.eval x)) (fun a=>by simp only [execOp,ho]) fun c w a hs=>ifaceW_ok hs.heap (ev_rel hs hv) hk
 case makeFunc f xs ys=>
  obtain ⟨hf,h⟩:=h
  obtain ⟨u,hu,hk⟩:=wth_elim h
  obtain ⟨v,hv,hk⟩:=wth_elim hk
  refine .still hd (fun c e=>by rw [ho] at e;cases e) fun c w a hs=> ?_
  refine ⟨_,.func f ⟨xs.toList.map a.eval⟩ ⟨ys.toList.map a.eval⟩,?_,.func ?_ (evs_rel hs hu) (evs_rel hs hv),hk⟩
  ·have e1:xs.map a.eval=⟨xs.toList.map a.eval⟩:=by apply Array.ext';simp
   have e2:ys.map a.eval=⟨ys.toList.map a.eval⟩:=by apply Array.ext';simp
   simp only [execOp,ho,Instr.makeFunc,e1,e2];rfl
  ·cases f<;> first|exact .func _|exact hf.elim
 case makeMap t r=>
  refine .gives hd (fun c e=>by rw [ho] at e;cases e) (fun a=>Instr.makeMap t (r.map a.eval)) (fun a=>by simp only [execOp,ho]) fun c w a hs=>makeMapW_ok hs.heap (fun e=> ?_) h
  cases r<;> first|rfl|cases e
 case lookup t x i ok=>
  obtain ⟨u,hu,hk⟩:=wth_elim h
  obtain ⟨v,hv,hk⟩:=wth_elim hk
  exact .gives hd (fun c e=>by rw [ho] at e;cases e) (fun a=>Instr.lookup t (a.eval x) (a.eval i) ok) (fun a=>by simp only [execOp,ho]) fun c w a hs=>lookupW_ok hs.heap (ev_rel hs hu) (ev_rel hs hv) hk
 case mapEntry t x i=>
  obtain ⟨u,hu,hk⟩:=wth_elim h
  obtain ⟨v,hv,hk⟩:=wth_elim hk
  exact .gives hd (fun c e=>by rw [ho] at e;cases e) (fun a=>Instr.mapEntry t (a.eval x) (a.eval i)) (fun a=>by simp only [execOp,ho]) fun c w a hs=>mapEntryW_ok hs.heap (ev_rel hs hu) (ev_rel hs hv) hk
 case mapUpdate t m k x=>
  obtain ⟨v1,hv1,hk⟩:=wth_elim h
  obtain ⟨v2,hv2,hk⟩:=wth_elim hk
  obtain ⟨v3,hv3,hk⟩:=wth_elim hk
  intro c w a Q next hs hk' _
  obtain ⟨w',H',hr,hK,hh,ht⟩:=mapUpdateW_ok (t:=t) hs.heap (ev_rel hs hv1) (ev_rel hs hv2) (ev_rel hs hv3) hk
  refine ⟨about_any g.lr,?_⟩
  have:(execOp a.eval o).run g.P w= .ok .skip w':=by simp only [execOp,ho];simp [hr]
  rw [Oper.semAt_eq _ _ _ (fun c e=>by rw [ho] at e;cases e),this]
  refine hk' _ c _ w' hK ((hs.step (Ctx.le_refl c) (ht g.n0) hh).put hd (.tuple .nil)) ?_ ⟨Ctx.le_refl c,_,rfl⟩
  cases o.dst<;> exact ht g.n0
 case insert t m k x=>
  obtain ⟨v1,hv1,hk⟩:=wth_elim h
  obtain ⟨v2,hv2,hk⟩:=wth_elim hk
  obtain ⟨v3,hv3,hk⟩:=wth_elim hk
  intro c w a Q next hs hk' _
  obtain ⟨w',H',hr,hK,hh,ht⟩:=mapUpdateW_ok (t:=t) hs.heap (ev_rel hs hv1) (ev_rel hs hv2) (ev_rel hs hv3) hk
  refine ⟨about_any g.lr,?_⟩
  have:(execOp a.eval o).run g.P w= .ok .skip w':=by simp only [execOp,ho];simp [hr]
  rw [Oper.semAt_eq _ _ _ (fun c e=>by rw [ho] at e;cases e),this]
  refine hk' _ c _ w' hK ((hs.step (Ctx.le_refl c) (ht g.n0) hh).put hd (.tuple .nil)) ?_ ⟨Ctx.le_refl c,_,rfl⟩
  cases o.dst<;> exact ht g.n0
 case entryStore t m k x=>
  obtain ⟨v1,hv1,hk⟩:=wth_elim h
  obtain ⟨v2,hv2,hk⟩:=wth_elim hk
  obtain ⟨v3,hv3,hk⟩:=wth_elim hk
  intro c w a Q next hs hk' _
  obtain ⟨w',H',hr,hK,hh,ht⟩:=entryStoreW_ok (P:=g.P) (t:=t) hs.heap (ev_rel hs hv1) (ev_rel hs hv2) (ev_rel hs hv3) hk
  refine ⟨about_any g.lr,?_⟩
  have:(execOp a.eval o).run g.P w= .ok .skip w':=by simp only [execOp,ho];simp [hr]
  rw [Oper.semAt_eq _ _ _ (fun c e=>by rw [ho] at e;cases e),this]
  refine hk' _ c _ w' hK ((hs.step (Ctx.le_refl c) (ht g.n0) hh).put hd (.tuple .nil)) ?_ ⟨Ctx.le_refl c,_,rfl⟩
  cases o.dst<;> exact ht g.n0
 case range t x=>
  obtain ⟨u,hu,hk⟩:=wth_elim h
  exact .gives hd (fun c e=>by rw [ho] at e;cases e) (fun a=>Instr.range t (a.eval x)) (fun a=>by simp only [execOp,ho]) fun c w a hs=>rangeW_ok hs.heap (ev_rel hs hu) hk
 case next x s=>
  obtain ⟨u,hu,hk⟩:=wth_elim h
  exact .gives hd (fun c e=>by rw [ho] at e;cases e) (fun a=>Instr.next (a.eval x) s o.type) (fun a=>by simp only [execOp,ho]) fun c w a hs=>nextW_ok hs.heap (ev_rel hs hu) hk
 case entry x=>
  obtain ⟨u,hu,hk⟩:=wth_elim h
  exact .gives hd (fun c e=>by rw [ho] at e;cases e) (fun a=>Instr.entry (a.eval x)) (fun a=>by simp only [execOp,ho]) fun c w a hs=>entryW_ok hs.heap (ev_rel hs hu) hk
 case makeSlice t l n=>
  obtain ⟨u,hu,hk⟩:=wth_elim h
  obtain ⟨v,hv,hk⟩:=wth_elim hk
  exact .gives hd (fun c e=>by rw [ho] at e;cases e) (fun a=>Instr.makeSlice t (a.eval l) (a.eval n)) (fun a=>by simp only [execOp,ho]) fun c w a hs=>makeSliceW_ok hs.heap (ev_rel hs hu) (ev_rel hs hv) hk
 case slice t x lo hi mx=>
  obtain ⟨u,hu,hk⟩:=wth_elim h
  obtain ⟨l,hl,hk⟩:=wth_elim hk
  obtain ⟨m,hm,hk⟩:=wth_elim hk
  obtain ⟨n,hn,hk⟩:=wth_elim hk
  exact .gives hd (fun c e=>by rw [ho] at e;cases e) (fun a=>Instr.sliceAt t (a.eval x) (lo.map a.eval) (hi.map a.eval) (mx.map a.eval)) (fun a=>by simp only [execOp,ho]) fun c w a hs=>sliceW_ok hs.heap (ev_rel hs hu) (evO_rel hs hl) (evO_rel hs hm) (evO_rel hs hn) hk
 case fieldAddr t x f=>
  obtain ⟨v,hv,hk⟩:=wth_elim h
  exact .gives hd (fun c e=>by rw [ho] at e;cases e) (fun a=>Instr.fieldAt t (a.eval x) f) (fun a=>by simp only [execOp,ho]) fun c w a hs=>fieldAddrW_ok hs.heap (ev_rel hs hv) hk
 case field t x f=>
  obtain ⟨v,hv,hk⟩:=wth_elim h
  exact .gives hd (fun c e=>by rw [ho] at e;cases e) (fun a=>Instr.field t (a.eval x) f) (fun a=>by simp only [execOp,ho]) fun c w a hs=>fieldW_ok hs.heap (ev_rel hs hv) hk
 case indexAddr t x i=>
  obtain ⟨u,hu,hk⟩:=wth_elim h
  obtain ⟨v,hv,hk⟩:=wth_elim hk
  exact .gives hd (fun c e=>by rw [ho] at e;cases e) (fun a=>Instr.indexAt t (a.eval x) (a.eval i)) (fun a=>by simp only [execOp,ho]) fun c w a hs=>indexAddrW_ok hs.heap (ev_rel hs hu) (ev_rel hs hv) hk
 case index t x i=>
  obtain ⟨u,hu,hk⟩:=wth_elim h
  obtain ⟨v,hv,hk⟩:=wth_elim hk
  exact .gives hd (fun c e=>by rw [ho] at e;cases e) (fun a=>Instr.index t (a.eval x) (a.eval i)) (fun a=>by simp only [execOp,ho]) fun c w a hs=>indexW_ok hs.heap (ev_rel hs hu) (ev_rel hs hv) hk
 case typeAssert x xt t ok=>
  obtain ⟨v,hv,hk⟩:=wth_elim h
  exact .gives hd (fun c e=>by rw [ho] at e;cases e) (fun a=>Instr.typeAssert (a.eval x) xt t ok) (fun a=>by simp only [execOp,ho]) fun c w a hs=>assertW_ok hs.heap (ev_rel hs hv) hk
 case extract x i=>
  obtain ⟨v,hv,hk⟩:=wth_elim h
  exact .gives hd (fun c e=>by rw [ho] at e;cases e) (fun a=>Instr.extract (a.eval x) i) (fun a=>by simp only [execOp,ho]) fun c w a hs=>extractW_ok hs.heap (ev_rel hs hv) hk
 case call cl=>
  obtain ⟨args,ha,h⟩:=wth_elim h
  split at h
  ·rename_i x hc
   obtain ⟨fv,hx,hk⟩:=wth_elim h
   exact callV_ok hd cl ho x hc hx ha hk
  ·rename_i b hc
   exact builtin_ok hd cl ho hc ha h
  ·rename_i x name hc
   obtain ⟨r,hr,hk⟩:=wth_elim h
   split at hk
   ·obtain ⟨f,hf,hk⟩:=wth_elim hk
    exact invoke_ok hd cl ho x hc hr ha hf hk
   ·exact hk.elim
 case defer cl=>
  obtain ⟨hlr,h⟩:=h
  obtain ⟨args,ha,h⟩:=wth_elim h
  split at h
  ·rename_i x hc
   obtain ⟨fv,hx,hk⟩:=wth_elim h
   split at hk
   ·rename_i f first cap
    intro c w a Q next hs hk' _
    have hfv:=ev_rel hs hx
    have hargs:=evs_rel hs ha
    have hargs':cl.args.map a.eval=⟨cl.args.toList.map a.eval⟩:=by apply Array.ext';simp
    generalize hev:a.eval x=q at hfv
    cases hfv with
    | func hf h1 h2=>
     rename_i f' first' cap'
     refine ⟨about_any g.lr,?_⟩
     have:(Oper.semAt (fenceOf g.lr).round a.eval o).run g.P w= .ok (.defer {target:= .fn f' ⟨cap'⟩,args:=⟨first'++cl.args.toList.map a.eval⟩}) w:=by
      rw [fenceOf_round,hlr,Oper.semAt_none]
      simp only [execOp,ho,resolve,hc,hev,Deferred.ofValue,pure_bind,hargs']
      simp
     rw [this]
     refine hk' _ c _ w hk ?_ ?_ ⟨Ctx.le_refl c,undef,by cases o.dst<;> rfl⟩
     ·have hs1:SRel g.N c ⟨st.env,.call f cap (first++args)::st.defs,st.H⟩ w {a with defers:={target:= .fn f' ⟨cap'⟩,args:=⟨first'++cl.args.toList.map a.eval⟩}::a.defers}:=
       ⟨hs.heap,hs.size,hs.tmps,.call hf h2 (h1.append hargs) hs.defs⟩
      exact hs1.put hd (.tuple .nil)
     ·cases o.dst<;> exact .refl _ _ _ _
   ·exact hk.elim
  ·exact h.elim
 case panic x=>
  obtain ⟨v,hv,hk⟩:=wth_elim h
  split at hk
  ·rename_i t1 u1
   intro c w a Q next hs _ hp
   have hx:=ev_rel hs hv
   obtain ⟨v2,hev,hu⟩:∃v2,a.eval x= .iface t1 v2∧VRel c u1 v2:=by
    generalize a.eval x=q at hx
    cases hx with
    |iface hu=>exact ⟨_,rfl,hu⟩
   refine ⟨about_any g.lr,?_⟩
   have:(execOp a.eval o).run g.P w= .halt (.panic (.iface t1 v2)) w:=by simp only [execOp,ho,hev,Instr.panic];rfl
   rw [Oper.semAt_eq _ _ _ (fun c e=>by rw [ho] at e;cases e),this]
   exact hp _ _ st c a w hk (.iface hu) hs (.refl _ _ _ _)
  ·exact hk.elim
end
end Go.Aw
