/-
  A part of the proof of a statement of this seat.
-/
import Derived.Test.YtdgmcckfdgnicaaUy
set_option linter.unusedVariables false
set_option linter.unusedSimpArgs false
set_option maxRecDepth 20000
namespace Go.Proofs.Ytdgmcckfdgnicaa
open Go Go.Aw Go.Proofs
inductive All2 {α β:Type} (R:α→β→Prop):List α→List β→Prop
 |nil:All2 R [] []
 |cons {a:α} {b:β} {l:List α} {m:List β} (h:R a b) (t:All2 R l m):All2 R (a::l) (b::m)
namespace All2
variable {α β:Type} {R S:α→β→Prop}
theorem append {l l':List α} {m m':List β} (h:All2 R l m) (h':All2 R l' m'):All2 R (l++l') (m++m'):=by
 induction h with
 |nil=>exact h'
 |cons h t ih=>exact .cons h ih
theorem mono {l:List α} {m:List β} (h:All2 R l m) (hi:∀a b,a∈l→b∈m→R a b→S a b):All2 S l m:=by
 induction h with
 |nil=>exact .nil
 |cons h t ih=>exact .cons (hi _ _ (List.mem_cons_self ..) (List.mem_cons_self ..) h) (ih fun a b ha hb=>hi a b (List.mem_cons_of_mem _ ha) (List.mem_cons_of_mem _ hb))
theorem len {l:List α} {m:List β} (h:All2 R l m):l.length=m.length:=by
 induction h with
 |nil=>rfl
 |cons h t ih=>simp [ih]
theorem take {l:List α} {m:List β} (h:All2 R l m):∀n,All2 R (l.take n) (m.take n):=by
 induction h with
 |nil=>intro n;simp;exact .nil
 |cons h t ih=>
  intro n
  cases n with
  |zero=>exact .nil
  |succ n=>exact .cons h (ih n)
theorem drop {l:List α} {m:List β} (h:All2 R l m):∀n,All2 R (l.drop n) (m.drop n):=by
 induction h with
 |nil=>intro n;simp;exact .nil
 |cons h t ih=>
  intro n
  cases n with
  |zero=>exact .cons h t
  |succ n=>exact ih n
theorem get {l:List α} {m:List β} (h:All2 R l m):∀{n:Nat} {a:α} {b:β},l[n]? =some a→m[n]? =some b→R a b:=by
 induction h with
 |nil=>intro n a b h1;simp at h1
 | @cons x y l m h t ih=>
  intro n a b h1 h2
  cases n with
  |zero=>
   have e1:x=a:=by simpa using h1
   have e2:y=b:=by simpa using h2
   subst e1;subst e2
   exact h
  |succ n=>exact ih (n:=n) (by simpa using h1) (by simpa using h2)
theorem filter {l:List α} {m:List β} (h:All2 R l m) {p:α→Bool} {q:β→Bool} (hp:∀a b,a∈l→b∈m→R a b→p a=q b):All2 R (l.filter p) (m.filter q):=by
 induction h with
 |nil=>exact .nil
 | @cons x y l m h t ih=>
  have h1:=hp x y (List.mem_cons_self ..) (List.mem_cons_self ..) h
  have h2:=ih fun a b ha hb=>hp a b (List.mem_cons_of_mem _ ha) (List.mem_cons_of_mem _ hb)
  rw [List.filter_cons,List.filter_cons,h1]
  split
  ·exact .cons h h2
  ·exact h2
theorem map_eq {γ :Type} {l:List α} {m:List β} (h:All2 R l m) {f:α→γ} {g:β→γ} (hf:∀a b,a∈l→b∈m→R a b→f a=g b):l.map f=m.map g:=by
 induction h with
 |nil=>rfl
 | @cons x y l m h t ih=>
  rw [List.map_cons,List.map_cons,hf x y (List.mem_cons_self ..) (List.mem_cons_self ..) h,ih fun a b ha hb=>hf a b (List.mem_cons_of_mem _ ha) (List.mem_cons_of_mem _ hb)]
end All2
structure SgB (B:Prop) (by_:Int) (p q:Sg):Prop where
 kind:q.kind=p.kind
 conn:q.conn=p.conn
 seq:q.seq=(p.seq+by_)%65536
 window:q.window=p.window
 marks:q.marks=p.marks
 body:q.body=p.body
 time:q.time=p.time
 late:q.late=p.late
 ack:B→q.ack=(p.ack+by_)%65536
theorem SgB.mono {B C:Prop} {by_:Int} {p q:Sg} (h:SgB B by_ p q) (hc:C→B):SgB C by_ p q:=⟨h.kind,h.conn,h.seq,h.window,h.marks,h.body,h.time,h.late,fun c=>h.ack (hc c)⟩
def SgS (by_:Int) (p q:Sg):Prop:=SgB (p.kind=2∨p.kind=3∨p.kind=4) by_ p q
def KS (by_:Int) (x y:Int×Sg):Prop:=y.1=(x.1+by_)%65536∧SgS by_ x.2 y.2
def shP (d:Int) (p:Pk):Pk:={p with number:=p.number+d}
structure ES (d by_:Int) (s t:E):Prop where
 form:t={s with flight:=s.flight.map (shP d),next:=s.next+d,acked:=s.acked+d,base:=t.base,kept:=t.kept}
 base:(s.kept=[]∧t.kept=[]∧(s.state=0∨s.state=1∨s.state=5))∨t.base=(s.base+by_)%65536
 kept:All2 (KS by_) s.kept t.kept
theorem zs_sh (d:Int):∀l:List Pk,zs (l.map (shP d))=zs l
 |[]=>rfl
 |p::l=>by
  rw [List.map_cons,zs_cons,zs_cons,zs_sh d l]
  rfl
theorem ES.flight {d by_:Int} {s t:E} (h:ES d by_ s t):t.flight=s.flight.map (shP d):=by rw [h.form]
theorem ES.kB {d by_:Int} {s t:E} (h:ES d by_ s t):keptB t.kept=keptB s.kept:=by
 unfold keptB
 rw [h.kept.map_eq (f:=fun x=>x.2.body.length) (g:=fun x=>x.2.body.length) fun a b _ _ hr=>by rw [hr.2.body]]
theorem ES.space {d by_:Int} {s t:E} (h:ES d by_ s t):spaceR t=spaceR s:=by
 have h1:=h.kB
 have h2:t.room=s.room∧t.ready=s.ready:=by rw [h.form];exact ⟨rfl,rfl⟩
 unfold spaceR
 rw [h1,h2.1,h2.2]
theorem ES.far {d by_:Int} {s t:E} (h:ES d by_ s t):farR t.base t.kept=farR s.base s.kept:=by
 rcases h.base with ⟨h1,h2,_⟩|h1
 ·rw [h1,h2];rfl
 ·unfold farR
  refine (h.kept.map_eq (f:=fun x=>((x.1 - s.base)%65536 - 2).toNat) (g:=fun x=>((x.1 - t.base)%65536 - 2).toNat) fun a b _ _ hr=> ?_).symm
  have h3:=hr.1
  rw [h3,h1,show ((a.1+by_)%65536 - (s.base+by_)%65536)%65536=(a.1 - s.base)%65536 by omega]
def ByOk (d by_:Int):Prop:=(d - by_)%65536=0
theorem ES.made {d by_:Int} {s t:E} (h:ES d by_ s t) (hd:ByOk d by_) (kind number number2:Int) (body:List UInt8) (hn:number2=number+d):SgB (t.base=(s.base+by_)%65536) by_ (madeR s kind number body) (madeR t kind number2 body):=by
 have h1:=h.space
 have h2:=h.far
 have h3:t.conn=s.conn∧t.now=s.now∧t.some=s.some∧t.late=s.late:=by rw [h.form];exact ⟨rfl,rfl,rfl,rfl⟩
 unfold ByOk at hd
 unfold madeR
 rw [h1,h2,h3.1,h3.2.1,h3.2.2.1,h3.2.2.2,hn]
 exact ⟨rfl,rfl,by dsimp only;omega,rfl,rfl,rfl,rfl,rfl,fun g=>g⟩
theorem ES.fits {d by_:Int} {s t:E} (h:ES d by_ s t) (p p2:Pk) (hp:p2.body=p.body):fitsR t p2=fitsR s p:=by
 have h1:t.window=s.window∧t.limit=s.limit:=by rw [h.form];exact ⟨rfl,rfl⟩
 unfold fitsR szP
 rw [flyN_zs,flyN_zs,flyB_zs,flyB_zs,h.flight,zs_sh,h1.1,h1.2,hp]
theorem ES.may {d by_:Int} {s t:E} (h:ES d by_ s t) (p:Pk):mayR t p=mayR s p:=by
 have h1:t.state=s.state∧t.opener=s.opener∧t.heard=s.heard:=by rw [h.form];exact ⟨rfl,rfl,rfl⟩
 unfold mayR
 rw [h1.1,h1.2.1,h1.2.2]
theorem ES.of {d by_:Int} {s t s' t':E} (h:ES d by_ s t) (hf:t'={s' with flight:=s'.flight.map (shP d),next:=s'.next+d,acked:=s'.acked+d,base:=t'.base,kept:=t'.kept}) (h1:s'.base=s.base) (h2:t'.base=t.base) (h3:s'.kept=s.kept) (h4:t'.kept=t.kept) (h5:s'.state=s.state∨s'.state=5∨(s.state≠0∧s.state≠1∧s.state≠5)):ES d by_ s' t':=by
 refine ⟨hf,?_,by rw [h3,h4];exact h.kept⟩
 rw [h1,h2,h3,h4]
 rcases h.base with ⟨a,b,c⟩|g
 ·refine .inl ⟨a,b,?_⟩
  omega
 ·exact .inr g
theorem set_sh {d:Int} {l:List Pk} {i:Nat} {p:Pk}:(l.map (shP d)).set i (shP d p)=(l.set i p).map (shP d):=by rw [List.map_set]
theorem ES.again {d by_:Int} {s t:E} (h:ES d by_ s t) (i:Nat) (p:Pk):ES d by_ (againS s i p) (againS t i (shP d p)):=by
 have hf:=h.form
 refine h.of ?_ rfl rfl rfl rfl (.inl rfl)
 generalize t.base=tb at*
 generalize t.kept=tk at*
 subst hf
 unfold againS sentS unlostS
 have e1:((s.flight.map (shP d)).set i {shP d p with lost:=false}).set i {({shP d p with lost:=false}:Pk) with sent:=s.now,times:=IntKind.i64.wrap ((shP d p).times+1)}=((s.flight.set i {p with lost:=false}).set i {({p with lost:=false}:Pk) with sent:=s.now,times:=IntKind.i64.wrap (p.times+1)}).map (shP d):=by
  rw [← set_sh,←set_sh];rfl
 dsimp only at e1 ⊢
 rw [e1]
theorem ES.fresh {d by_:Int} {s t:E} (h:ES d by_ s t) (p:Pk) (ws:List Pk) (hst:p.kind=4→s.state=2∨s.state=3) (hn:IntKind.i64.wrap (s.next+d+1)=IntKind.i64.wrap (s.next+1)+d):ES d by_ (freshS s p ws) (freshS t p ws):=by
 have hf:=h.form
 have hS:∀x:E,(freshS x p ws).state=if p.kind=4 then 3 else x.state:=fun _=>rfl
 refine h.of ?_ rfl rfl rfl rfl ?_
 ·generalize t.base=tb at*
  generalize t.kept=tk at*
  subst hf
  unfold freshS sentS newS
  have e1:(s.flight.map (shP d)++[{p with number:=s.next+d}]).set (s.flight.map (shP d)).length {p with number:=s.next+d,sent:=s.now,times:=IntKind.i64.wrap (p.times+1)}=((s.flight++[{p with number:=s.next}]).set s.flight.length {p with number:=s.next,sent:=s.now,times:=IntKind.i64.wrap (p.times+1)}).map (shP d):=by
   rw [List.map_set,List.map_append,List.length_map];rfl
  dsimp only at e1 ⊢
  rw [e1,hn]
 ·rw [hS]
  split
  ·rename_i h4
   have:=hst h4
   exact .inr (.inr (by omega))
  ·exact .inl rfl
theorem againGo_ES {d by_:Int} (hd:ByOk d by_) {B:Prop}:∀(k i:Nat) (s t:E) (o o2:List Sg),(B→t.base=(s.base+by_)%65536)→ES d by_ s t→All2 (SgB B by_) o o2→
  (againGo k i t o2).1=(againGo k i s o).1∧ES d by_ (againGo k i s o).2.1 (againGo k i t o2).2.1∧All2 (SgB B by_) (againGo k i s o).2.2 (againGo k i t o2).2.2
 |0,i,s,t,o,o2,hB,h,ho=>⟨rfl,h,ho⟩
 | k +1,i,s,t,o,o2,hB,h,ho=>by
  unfold againGo
  rw [h.flight,List.getElem?_map]
  cases hp:s.flight[i]? with
  |none=>exact ⟨rfl,h,ho⟩
  | some p=>
   simp only [Option.map_some]
   rw [h.fits p (shP d p) rfl]
   rw [show (shP d p).lost=p.lost from rfl]
   split
   ·split
    ·have h2:=h.again i p
     have hm:=h2.made hd p.kind p.number (p.number+d) p.body rfl
     exact againGo_ES hd k (i+1) _ _ _ _ hB h2 (ho.append (.cons (hm.mono hB) .nil))
    ·exact ⟨rfl,h,ho⟩
   ·exact againGo_ES hd k (i+1) _ _ _ _ hB h ho
theorem newGo_ES {d by_:Int} (hd:ByOk d by_) (hd2: -65536≤d∧d≤65536) {B:Prop}:∀(k:Nat) (s t:E) (o o2:List Sg),(B→t.base=(s.base+by_)%65536)→ -1000000000≤s.next∧s.next+k≤1000000000→ES d by_ s t→All2 (SgB B by_) o o2→
  ES d by_ (newGo k s o).1 (newGo k t o2).1∧All2 (SgB B by_) (newGo k s o).2 (newGo k t o2).2
 |0,s,t,o,o2,hB,hn,h,ho=>⟨h,ho⟩
 | k +1,s,t,o,o2,hB,hn,h,ho=>by
  unfold newGo
  have hw:t.waiting=s.waiting:=by rw [h.form]
  have hnx:t.next=s.next+d:=by rw [h.form]
  rw [hw]
  cases hws:s.waiting with
  |nil=>exact ⟨h,ho⟩
  | cons p ws=>
   dsimp only
   rw [h.fits p p rfl,h.may p,hnx]
   split
   ·rename_i hc
    rw [Bool.and_eq_true] at hc
    have h4:p.kind=4→s.state=2∨s.state=3:=fun h4=>by
     have:=hc.1
     unfold mayR at this
     rw [if_neg (by omega)] at this
     simp at this
     exact this.1
    have h2:=h.fresh p ws h4 (by rw [wi64 (by omega),wi64 (by omega)];omega)
    have hm:=h2.made hd p.kind s.next (s.next+d) p.body rfl
    have hn2:(freshS s p ws).next=s.next+1:=wi64 (by omega)
    exact newGo_ES hd hd2 k _ _ _ _ hB (by rw [hn2];omega) h2 (ho.append (.cons (hm.mono hB) .nil))
   ·exact ⟨h,ho⟩
theorem dueGo_ES {d by_:Int} (hd:ByOk d by_) (hd2: -65536≤d∧d≤65536) {B:Prop} (s t:E) (o o2:List Sg) (hB:B→t.base=(s.base+by_)%65536) (hn: -1000000000≤s.next∧s.next+s.waiting.length≤1000000000) (h:ES d by_ s t) (ho:All2 (SgB B by_) o o2):
  ES d by_ (dueGo s o).1 (dueGo t o2).1∧All2 (SgB B by_) (dueGo s o).2 (dueGo t o2).2:=by
 unfold dueGo goC
 have hl:t.flight.length=s.flight.length:=by rw [h.flight,List.length_map]
 have h1:=againGo_ES hd (s.flight.length - 0) 0 s t o o2 hB h ho
 have hb1:=againGo_ind (P:=fun a _=>a.base=s.base∧a.waiting=s.waiting∧a.next=s.next) (fun a b i p h _ _ _=>h) (s.flight.length - 0) 0 s o ⟨rfl,rfl,rfl⟩
 have hb2:=againGo_ind (P:=fun a _=>a.base=t.base) (fun a b i p h _ _ _=>h) (s.flight.length - 0) 0 t o2 rfl
 rw [hl]
 rcases hx:againGo (s.flight.length - 0) 0 s o with ⟨b,s1,o1⟩
 rcases hy:againGo (s.flight.length - 0) 0 t o2 with ⟨b',t1,o1'⟩
 rw [hx,hy] at h1
 rw [hx] at hb1
 rw [hy] at hb2
 dsimp only at h1 hb1 hb2
 obtain ⟨rfl,h3,h4⟩:=h1
 simp only [hx,hy]
 cases b' with
 |false=>exact ⟨h3,h4⟩
 |true=>
  have hw:t1.waiting=s1.waiting:=by rw [h3.form]
  dsimp only
  rw [hw]
  exact newGo_ES hd hd2 _ _ _ _ _ (by rw [hb1.1,hb2];exact hB) (by rw [hb1.2.1,hb1.2.2];exact hn) h3 h4
end Go.Proofs.Ytdgmcckfdgnicaa

set_option linter.unusedVariables false
set_option linter.unusedSimpArgs false
set_option maxRecDepth 20000
namespace Go.Proofs.Ytdgmcckfdgnicaa
open Go Go.Aw Go.Proofs
theorem underN_sh (d:Int) (l:List Pk):underN (l.map (shP d))=underN l:=by
 have h:∀i,nl (l.map (shP d)) i=nl l i:=fun i=>by
  unfold nl
  rw [List.getElem?_map]
  cases l[i]? <;> rfl
 unfold underN
 rw [List.length_map,show nl (l.map (shP d))=nl l from funext h]
theorem earl_sh (d:Int) (l:List Pk):earl (l.map (shP d))=earl l:=by
 have h:∀(ns:List Nat) (a:Int×Bool),(∀ n∈ns,n<l.length)→(ns.map fun i=>(l.map (shP d)).getD i default).foldl eStep a=(ns.map fun i=>l.getD i default).foldl eStep a:=by
  intro ns
  induction ns with
  |nil=>intro a _;rfl
  | cons n ns ih=>
   intro a hn
   have hnl:=hn n (List.mem_cons_self ..)
   rw [List.map_cons,List.map_cons,List.foldl_cons,List.foldl_cons]
   have e1:eStep a ((l.map (shP d)).getD n default)=eStep a (l.getD n default):=by
    rw [List.getD_eq_getElem?_getD,List.getD_eq_getElem?_getD,List.getElem?_map,List.getElem?_eq_getElem hnl]
    rfl
   rw [e1]
   exact ih _ fun m hm=>hn m (List.mem_cons_of_mem _ hm)
 unfold earl earlN
 rw [underN_sh]
 refine h _ _ fun n hn=> ?_
 have:=List.mem_of_mem_take hn
 unfold underN at this
 rw [List.mem_filter,List.mem_range] at this
 exact this.1
theorem ES.over {d by_:Int} {s t:E} (h:ES d by_ s t):ES d by_ (overdueR s) (overdueR t):=by
 have hf:=h.form
 have he:earl t.flight=earl s.flight:=by rw [h.flight,earl_sh]
 have hw:waitR t=waitR s:=by
  unfold waitR
  rw [show t.out=s.out from by rw [hf],show t.outs=s.outs from by rw [hf]]
 have hn:t.now=s.now∧t.outs=s.outs:=by rw [hf];exact ⟨rfl,rfl⟩
 unfold overdueR
 rw [he,hw,hn.1,hn.2]
 split
 ·exact h
 ·split
  ·refine h.of ?_ rfl rfl rfl rfl (.inr (.inl rfl))
   generalize t.base=tb at*
   generalize t.kept=tk at*
   subst hf
   rfl
  ·refine h.of ?_ rfl rfl rfl rfl (.inl rfl)
   generalize t.base=tb at*
   generalize t.kept=tk at*
   subst hf
   have e1:allLost (s.flight.map (shP d))=(allLost s.flight).map (shP d):=by
    unfold allLost
    rw [List.map_map,List.map_map]
    rfl
   dsimp only
   rw [e1]
theorem ES.ov2 {d by_:Int} {s t:E} (h:ES d by_ s t):ES d by_ (over2 s) (over2 t):=by
 unfold over2
 rw [show t.state=s.state from by rw [h.form]]
 split
 ·exact h
 ·exact h.over
theorem ES.put {d by_:Int} {s t:E} (h:ES d by_ s t) (g:E→E) (hg:∀x,g x={x with outs:=(g x).outs,answer:=(g x).answer,replies:=(g x).replies,now:=(g x).now,waiting:=(g x).waiting,closing:=(g x).closing,ready:=(g x).ready,heard:=(g x).heard,late:=(g x).late,some:=(g x).some,window:=(g x).window,doubles:=(g x).doubles,state:=(g x).state,done:=(g x).done})
  (he:(g t).outs=(g s).outs∧(g t).answer=(g s).answer∧(g t).replies=(g s).replies∧(g t).now=(g s).now∧(g t).waiting=(g s).waiting∧(g t).closing=(g s).closing∧(g t).ready=(g s).ready∧(g t).heard=(g s).heard∧(g t).late=(g s).late∧(g t).some=(g s).some∧(g t).window=(g s).window∧(g t).doubles=(g s).doubles∧(g t).state=(g s).state∧(g t).done=(g s).done)
  (hst:(g s).state=s.state∨(g s).state=5∨(s.state≠0∧s.state≠1∧s.state≠5)):ES d by_ (g s) (g t):=by
 have hs:=hg s
 have ht:=hg t
 have hf:=h.form
 obtain ⟨e1,e2,e3,e4,e5,e6,e7,e8,e9,e10,e11,e12,e13,e14⟩:=he
 refine h.of ?_ (by rw [hs]) (by rw [ht]) (by rw [hs]) (by rw [ht]) hst
 have b1:(g t).base=t.base:=by rw [ht]
 have k1:(g t).kept=t.kept:=by rw [ht]
 rw [b1,k1]
 rw [ht,e1,e2,e3,e4,e5,e6,e7,e8,e9,e10,e11,e12,e13,e14]
 generalize hgs:g s=gs at*
 clear e1 e2 e3 e4 e5 e6 e7 e8 e9 e10 e11 e12 e13 e14 ht b1 k1 hgs
 generalize t.base=tb at*
 generalize t.kept=tk at*
 subst hf
 rw [hs]
theorem ES.send {d by_:Int} {s t:E} (h:ES d by_ s t) (hd:ByOk d by_) (hd2: -65536≤d∧d≤65536) (hn: -1000000000≤s.next∧s.next+s.waiting.length≤1000000000) (now:Int):
  (sendR t now).1=(sendR s now).1∧ES d by_ (sendR s now).2.1 (sendR t now).2.1∧All2 (SgB (t.base=(s.base+by_)%65536) by_) (sendR s now).2.2 (sendR t now).2.2:=by
 have hat:atR t now=atR s now:=by unfold atR;rw [show t.now=s.now from by rw [h.form]]
 unfold sendR
 rw [hat]
 split
 ·refine ⟨rfl,?_⟩
  have h0:ES d by_ {s with now:=now} {t with now:=now}:=h.put (fun x=>{x with now:=now}) (fun _=>rfl) (by rw [h.form];exact ⟨rfl,rfl,rfl,rfl,rfl,rfl,rfl,rfl,rfl,rfl,rfl,rfl,rfl,rfl⟩) (.inl rfl)
  have h1:=h0.ov2
  have hP:=over2_P {s with now:=now}
  have hQ:=over2_P {t with now:=now}
  dsimp only
  generalize hsb:over2 {s with now:=now}=s1 at*
  generalize htb:over2 {t with now:=now}=t1 at*
  have hbs:s1.base=s.base∧s1.next=s.next∧s1.waiting=s.waiting:=by
   obtain ⟨_,_,_,_,e⟩:=hP.of_;rw [e];exact ⟨rfl,rfl,rfl⟩
  have hbt:t1.base=t.base:=by
   obtain ⟨_,_,_,_,e⟩:=hQ.of_;rw [e]
  have hf1:=h1.form
  have heq:t1.replies=s1.replies∧t1.next=s1.next+d∧t1.state=s1.state∧t1.answer=s1.answer:=by rw [hf1];exact ⟨rfl,rfl,rfl,rfl⟩
  have key:∀(a b:E) (o o2:List Sg),ES d by_ a b→a.base=s.base→b.base=t.base→a.next=s.next→a.waiting=s.waiting→All2 (SgB (t.base=(s.base+by_)%65536) by_) o o2→
    ES d by_ (send2 a o).1 (send2 b o2).1∧All2 (SgB (t.base=(s.base+by_)%65536) by_) (send2 a o).2 (send2 b o2).2:=by
   intro a b o o2 hab ha hb hna hwa ho
   have hfa:=hab.form
   have hsta:b.state=a.state:=by rw [hfa]
   unfold send2
   by_cases c0:a.state=5∨a.state=0
   ·rw [if_pos c0,if_pos (show b.state=5∨b.state=0 by rw [hsta];exact c0)]
    have hpt:=hab.put (fun x=>{x with answer:=false}) (fun _=>rfl) (by rw [hfa];exact ⟨rfl,rfl,rfl,rfl,rfl,rfl,rfl,rfl,rfl,rfl,rfl,rfl,rfl,rfl⟩) (.inl rfl)
    exact ⟨hpt,ho⟩
   ·rw [if_neg c0,if_neg (show ¬(b.state=5∨b.state=0) by rw [hsta];exact c0)]
    obtain ⟨h3,h4⟩:=dueGo_ES hd hd2 a b o o2 (by rw [ha,hb];exact id) (by rw [hna,hwa];exact hn) hab ho
    have hba:=dueGo_ind (P:=fun x _=>x.base=a.base) (fun _ _ _ _ h _ _ _=>h) (fun _ _ _ _ h _ _ _=>h) a o rfl
    have hbb:=dueGo_ind (P:=fun x _=>x.base=b.base) (fun _ _ _ _ h _ _ _=>h) (fun _ _ _ _ h _ _ _=>h) b o2 rfl
    generalize (dueGo a o).1=a2 at*
    generalize (dueGo b o2).1=b2 at*
    generalize (dueGo a o).2=oa at*
    generalize (dueGo b o2).2=ob at*
    have hfb:=h3.form
    have han:b2.answer=a2.answer∧b2.next=a2.next+d:=by rw [hfb];exact ⟨rfl,rfl⟩
    have hnil:ob=[]↔oa=[]:=by
     have:=h4.len
     rw [← List.length_eq_zero_iff,←List.length_eq_zero_iff,this]
    have hm:=h3.made hd 3 a2.next b2.next [] han.2
    have hput:=h3.put (fun x=>{x with answer:=false}) (fun _=>rfl) (by rw [hfb];exact ⟨rfl,rfl,rfl,rfl,rfl,rfl,rfl,rfl,rfl,rfl,rfl,rfl,rfl,rfl⟩) (.inl rfl)
    unfold send3
    by_cases c1:oa=[]∧a2.answer=true
    ·rw [if_pos c1,if_pos ⟨hnil.2 c1.1,han.1.trans c1.2⟩]
     exact ⟨hput,.cons (hm.mono (by rw [hba,hbb,ha,hb];exact id)) .nil⟩
    ·rw [if_neg c1,if_neg (fun g:ob=[]∧b2.answer=true=>c1 ⟨hnil.1 g.1,han.1.symm.trans g.2⟩)]
     by_cases c2:oa=[]
     ·rw [if_pos c2,if_pos (hnil.2 c2)]
      exact ⟨h3,.nil⟩
     ·rw [if_neg c2,if_neg (fun g=>c2 (hnil.1 g))]
      exact ⟨hput,h4⟩
  unfold send1
  rw [heq.1]
  split
  ·refine key _ _ _ _ (h1.put (fun x=>{x with replies:=false}) (fun _=>rfl) (by rw [hf1];exact ⟨rfl,rfl,rfl,rfl,rfl,rfl,rfl,rfl,rfl,rfl,rfl,rfl,rfl,rfl⟩) (.inl rfl)) hbs.1 hbt hbs.2.1 hbs.2.2 ?_
   have hr0:=h1.put (fun x=>{x with replies:=false}) (fun _=>rfl) (by rw [hf1];exact ⟨rfl,rfl,rfl,rfl,rfl,rfl,rfl,rfl,rfl,rfl,rfl,rfl,rfl,rfl⟩) (.inl rfl)
   have hm:=hr0.made hd 5 s1.next t1.next [] heq.2.1
   exact .cons (hm.mono (by show _→t1.base=(s1.base+by_)%65536;rw [hbs.1,hbt];exact id)) .nil
  ·exact key _ _ _ _ h1 hbs.1 hbt hbs.2.1 hbs.2.2 .nil
 ·exact ⟨rfl,h,.nil⟩
end Go.Proofs.Ytdgmcckfdgnicaa
