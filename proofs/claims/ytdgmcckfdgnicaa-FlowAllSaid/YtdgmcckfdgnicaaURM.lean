/-
  A part of the proof of a statement of this seat.
-/
import Derived.Test.YtdgmcckfdgnicaaUQ
import Derived.Test.YtdgmcckfdgnicaaAwC
set_option linter.unusedVariables false
set_option linter.unusedSimpArgs false
set_option maxRecDepth 20000
set_option maxHeartbeats 8000000
namespace Go.Proofs.Ytdgmcckfdgnicaa
open Go Go.Aw Go.Proofs
def sgF (l:List Sg):List Value:=(l.map Sg.c).flatten
theorem sgF_len:∀l:List Sg,(sgF l).length=l.length*9
 |[]=>rfl
 |x::l=>by
  have:=sgF_len l
  unfold sgF at*
  rw [List.map_cons,List.flatten_cons,List.length_append,this,List.length_cons]
  have:x.c.length=9:=rfl
  omega
theorem sgF_append (l m:List Sg):sgF (l++m)=sgF l++sgF m:=by unfold sgF;rw [List.map_append,List.flatten_append]
theorem sgF_cons (x:Sg) (m:List Sg):sgF (x::m)=x.c++sgF m:=rfl
theorem sgF_take:∀(l:List Sg) (n:Nat),(sgF l).take (n*9)=sgF (l.take n)
 |[],n=>by simp [sgF]
 |x::l,0=>by simp [sgF]
 |x::l,n+1=>by
  have hx:x.c.length=9:=rfl
  rw [sgF_cons,List.take_succ_cons,sgF_cons,List.take_append,hx,←sgF_take l n,List.take_of_length_le (by omega),show (n+1)*9 - 9=n*9 by omega]
theorem sgF_drop:∀(l:List Sg) (n:Nat),(sgF l).drop (n*9)=sgF (l.drop n)
 |[],n=>by simp [sgF]
 |x::l,0=>by simp [sgF]
 |x::l,n+1=>by
  have hx:x.c.length=9:=rfl
  rw [sgF_cons,List.drop_succ_cons,List.drop_append,hx,←sgF_drop l n,List.drop_eq_nil_of_le (by omega),List.nil_append,show (n+1)*9 - 9=n*9 by omega]
theorem sgF_at {l:List Sg} {i:Nat} {x:Sg} (h:l[i]? =some x):((sgF l).drop (i*9)).take 9=x.c:=by
 have hi:=(List.getElem?_eq_some_iff.1 h).1
 have hx:x.c.length=9:=rfl
 rw [sgF_drop,List.drop_eq_getElem_cons hi,sgF_cons,List.take_append,(List.getElem?_eq_some_iff.1 h).2,List.take_of_length_le (by omega),hx]
 simp
def RowS (H:AHeap) (v:Value) (l:List Sg) (js:List Nat):Prop:=
 (v= .slice none 0 0∧l=[]∧js=[])∨∃j off cap cs es,v= .slice (some ⟨j,off,none⟩) l.length cap∧js=[j]∧H[j]? =some (.cells cs ⟨44,es,true,0,none⟩)∧(es=9∨es=0)∧off+cap*9=cs.length∧l.length≤cap∧(cs.drop off).take (l.length*9)=sgF l
theorem RowS.nil (H:AHeap):RowS H (.slice none 0 0) [] []:= .inl ⟨rfl,rfl,rfl⟩
theorem RowS.lenW {H H':AHeap} {v:Value} {l:List Sg} {js:List Nat} {K:Value→AHeap→Prop} (h:RowS H v l js):lenW Try.prog 31 v H' K=K (.int .i64 (l.length:Nat)) H':=by
 rcases h with ⟨rfl,rfl,_⟩|⟨j,off,cap,cs,es,rfl,_⟩
 ·simp only [go_sem,sevalprocAttr,reduceCtorEq]
 ·simp only [go_sem,sevalprocAttr,reduceCtorEq]
theorem RowS.frm {S:List Nat} {H H2:AHeap} {v:Value} {l:List Sg} {js:List Nat} (h:RowS H v l js) (hf:Frm S H H2) (hs:∀j∈js,j∉S):RowS H2 v l js:=by
 rcases h with h|⟨j,off,cap,cs,es,h1,rfl,h3,h4⟩
 ·exact .inl h
 ·exact .inr ⟨j,off,cap,cs,es,h1,rfl,hf.get h3 (hs j (List.mem_singleton.2 rfl)),h4⟩
theorem RowS.more {H:AHeap} {v:Value} {l:List Sg} {js:List Nat} (h:RowS H v l js) (X:AHeap):RowS (H++X) v l js:=h.frm (S:=[]) Frm.app (by simp)
theorem RowS.lt {H:AHeap} {v:Value} {l:List Sg} {js:List Nat} (h:RowS H v l js):∀j∈js,j<H.length:=by
 rcases h with ⟨_,_,rfl⟩|⟨j,off,cap,cs,es,h1,rfl,h3,_⟩
 ·intro j hj;cases hj
 ·intro i hi;rw [List.mem_singleton.1 hi];exact lt_of_get h3
theorem RowS.cells {H:AHeap} {v:Value} {l:List Sg} {js:List Nat} (h:RowS H v l js):cellsOf v=[v]∧flat v=true:=by
 rcases h with ⟨rfl,_,_⟩|⟨j,off,cap,cs,es,rfl,_⟩<;> exact ⟨rfl,rfl⟩
theorem RowS.get {H:AHeap} {v:Value} {l:List Sg} {js:List Nat} (h:RowS H v l js) {i:Nat} {x:Sg} (hi:l[i]? =some x):
  ∃j off cap cs es,v= .slice (some ⟨j,off,none⟩) l.length cap∧js=[j]∧H[j]? =some (.cells cs ⟨44,es,true,0,none⟩)∧l.length≤cap∧off+(i*9+9)≤cs.length∧(cs.drop (off+i*9)).take 9=x.c:=by
 rcases h with ⟨_,rfl,_⟩|⟨j,off,cap,cs,es,h1,h2,h3,h4,h5,h6,h7⟩
 ·simp at hi
 ·have hlt:=(List.getElem?_eq_some_iff.1 hi).1
  refine ⟨j,off,cap,cs,es,h1,h2,h3,h6,by omega,?_⟩
  have:=sgF_at hi
  rw [← h7,List.drop_take,List.drop_drop,List.take_take,Nat.min_eq_left (by omega)] at this
  exact this
theorem putCells_end {cs:List Value} {off n:Nat} {new:List Value} (h:off+n+new.length≤cs.length):((putCells cs (off+n) new).drop off).take (n+new.length)=(cs.drop off).take n++new:=by
 rw [putCells_eq _ _ _ h,List.append_assoc,List.drop_append,List.length_take,Nat.min_eq_left (by omega),Nat.sub_eq_zero_of_le (by omega),List.drop_zero,List.drop_take,Nat.add_sub_cancel_left]
 rw [List.take_append,List.length_take,List.length_drop,Nat.min_eq_left (by omega),Nat.add_sub_cancel_left,List.take_append,Nat.sub_self,List.take_zero,List.append_nil,List.take_take,Nat.min_eq_right (by omega),List.take_of_length_le (Nat.le_refl _)]
theorem RowS.appendD {H:AHeap} {v:Value} {l:List Sg} {js:List Nat} (h:RowS H v l js) (ns:List Sg) (hl:l.length+ns.length<1099511627776):
  ∃v2 H2 js2,RowS H2 v2 (l++ns) js2∧Frm js H H2∧ (∀ j∈js2,j∈js∨j=H.length)∧∀K:Value→AHeap→Prop,K v2 H2→appendTo Try.prog 44 9 88 v ns.length (sgF ns) H K:=by
 have hsl:=sgF_len ns
 rcases h with ⟨rfl,rfl,rfl⟩|⟨j,off,cap,cs,es,rfl,rfl,h3,hes,h4,h5,h6⟩
 ·by_cases h0:ns.length=0
  ·have:ns=[]:=List.eq_nil_of_length_eq_zero h0
   subst this
   exact ⟨_,H,[],.inl ⟨rfl,rfl,rfl⟩,Frm.refl _ _,by simp,fun K hK=>⟨⟨rfl,rfl⟩,fun _=>hK,fun h=>absurd rfl h⟩⟩
  ·refine ⟨.slice (some ⟨H.length,0,none⟩) ns.length ns.length,H++ [.cells (sgF ns) ⟨44,9,true,0,none⟩],[H.length],.inr ⟨H.length,0,ns.length,sgF ns,9,rfl,rfl,hget0 rfl,.inl rfl,by omega,by simp,?_⟩,Frm.app,fun j hj=> .inr (List.mem_singleton.1 hj),fun K hK=>⟨⟨rfl,rfl⟩,fun h=>absurd h h0,fun _=>⟨⟨by simp at hl;omega,by simp at hl;omega⟩,hK⟩⟩⟩
   rw [List.drop_zero,List.nil_append,←hsl,List.take_length]
 ·have hjl:=lt_of_get h3
  have hls:=sgF_len l
  by_cases hc:l.length+ns.length≤cap
  ·by_cases h0:ns.length=0
   ·have:ns=[]:=List.eq_nil_of_length_eq_zero h0
    subst this
    refine ⟨.slice (some ⟨j,off,none⟩) l.length cap,H,[j],.inr ⟨j,off,cap,cs,es,by simp,rfl,h3,hes,h4,by simpa using h5,by simpa using h6⟩,Frm.refl _ _,fun i hi=> .inl hi,fun K hK=> ?_⟩
    unfold appendTo
    simp only [h3]
    exact ⟨fun _=>⟨fun _=>by simpa using hK,fun h=>absurd rfl h⟩,fun h=>absurd hc h⟩
   ·refine ⟨.slice (some ⟨j,off,none⟩) (l.length+ns.length) cap,H.set j (.cells (putCells cs (off+l.length*9) (sgF ns)) ⟨44,es,true,0,none⟩),[j],.inr ⟨j,off,cap,putCells cs (off+l.length*9) (sgF ns),es,by simp,rfl,List.getElem?_set_self hjl,hes,?_,by simp;omega,?_⟩,Frm.set (Frm.refl _ _) (.inl (List.mem_singleton.2 rfl)),fun i hi=> .inl hi,fun K hK=> ?_⟩
    ·rw [putCells_length];exact h4
    ·rw [sgF_append,←h6,List.length_append,Nat.add_mul,←hsl]
     exact putCells_end (by omega)
    ·unfold appendTo
     simp only [h3]
     exact ⟨fun _=>⟨fun h=>absurd h h0,fun _=>⟨⟨⟨rfl,Nat.zero_le _⟩,by omega⟩,hK⟩⟩,fun h=>absurd hc h⟩
  ·have hnew:(List.drop 0 (sgF l++sgF ns)).take ((l++ns).length*9)=sgF (l++ns):=by
    rw [List.drop_zero,sgF_append,List.take_of_length_le (by simp;omega)]
   rcases hes with rfl|rfl
   ·refine ⟨.slice (some ⟨H.length,0,none⟩) (l.length+ns.length) (l.length+ns.length),H.set j .dead++ [.cells (sgF l++sgF ns) ⟨44,9,true,0,none⟩],[H.length],.inr ⟨H.length,0,l.length+ns.length,sgF l++sgF ns,9,by simp,rfl,hget0 (by simp),.inl rfl,by rw [List.length_append];omega,by simp,hnew⟩,(Frm.set (Frm.refl _ _) (.inl (List.mem_singleton.2 rfl))).more,fun i hi=> .inr (List.mem_singleton.1 hi),fun K hK=> ?_⟩
    unfold appendTo
    simp only [h3]
    exact ⟨fun h=>absurd h hc,fun _=>⟨⟨by omega,by omega,by omega⟩,fun _=>⟨⟨trivial,trivial,Nat.zero_le _,trivial⟩,by rw [h6,Nat.zero_sub];exact hK⟩,fun hno=>absurd ⟨by decide,by omega⟩ hno⟩⟩
   ·refine ⟨.slice (some ⟨H.length,0,none⟩) (l.length+ns.length) (l.length+ns.length),H++ [.cells (sgF l++sgF ns) ⟨44,9,true,0,none⟩],[H.length],.inr ⟨H.length,0,l.length+ns.length,sgF l++sgF ns,9,by simp,rfl,hget0 rfl,.inl rfl,by rw [List.length_append];omega,by simp,hnew⟩,Frm.app,fun i hi=> .inr (List.mem_singleton.1 hi),fun K hK=> ?_⟩
    unfold appendTo
    simp only [h3]
    exact ⟨fun h=>absurd h hc,fun _=>⟨⟨by omega,by omega,by omega⟩,fun h0=>absurd rfl h0.1,fun _=>by rw [h6];exact hK⟩⟩
theorem RowS.cut {H:AHeap} {l:List Sg} {js:List Nat} {j off cap L:Nat} (h:RowS H (.slice (some ⟨j,off,none⟩) L cap) l js) {n:Nat} (hn:n≤l.length):RowS H (.slice (some ⟨j,off+n*9,none⟩) (L - n) (cap - n)) (l.drop n) js∧RowS H (.slice (some ⟨j,off,none⟩) n cap) (l.take n) js:=by
 rcases h with ⟨h,_⟩|⟨j2,off2,cap2,cs,es,h1,h2,h3,h4,h5,h6,h7⟩
 ·cases h
 ·cases h1
  refine ⟨.inr ⟨j,off+n*9,cap - n,cs,es,by rw [List.length_drop],h2,h3,h4,by rw [Nat.sub_mul];omega,by rw [List.length_drop];omega,?_⟩,.inr ⟨j,off,cap,cs,es,by rw [List.length_take,Nat.min_eq_left hn],h2,h3,h4,h5,by rw [List.length_take];omega,?_⟩⟩
  ·have:=sgF_drop l n
   rw [← h7,List.drop_take,List.drop_drop] at this
   rw [List.length_drop,←this,Nat.sub_mul]
  ·have:=sgF_take l n
   rw [← h7,List.take_take] at this
   rw [List.length_take,←this,Nat.min_eq_left hn,Nat.min_eq_left (by omega)]
end Go.Proofs.Ytdgmcckfdgnicaa

set_option linter.unusedVariables false
set_option linter.unusedSimpArgs false
namespace Go.Proofs.Ytdgmcckfdgnicaa
open Go Go.Aw Go.Proofs
def againS (s:E) (i:Nat) (p:Pk):E:=sentS (unlostS s i p) i {p with lost:=false}
def freshS (s:E) (p:Pk) (ws:List Pk):E:=sentS (newS s p ws) s.flight.length {p with number:=s.next}
def againGo:Nat→Nat→E→List Sg→Bool×E×List Sg
 |0,i,s,o=>(true,s,o)
 |k+1,i,s,o=>match s.flight[i]? with
  |none=>(true,s,o)
  |some p=>if p.lost=true then (if fitsR s p=true then againGo k (i+1) (againS s i p) (o++[madeR (againS s i p) p.kind p.number p.body]) else (false,s,o)) else againGo k (i+1) s o
def newGo:Nat→E→List Sg→E×List Sg
 |0,s,o=>(s,o)
 |k+1,s,o=>match s.waiting with
  |[]=>(s,o)
  |p::ws=>if (mayR s p&&fitsR s p)=true then newGo k (freshS s p ws) (o++[madeR (freshS s p ws) p.kind s.next p.body]) else (s,o)
def goC (c:Option Nat) (s:E) (o:List Sg):E×List Sg:=
 match c with
 |some i=>match againGo (s.flight.length - i) i s o with
  |(true,s1,o1)=>newGo s1.waiting.length s1 o1
  |(false,s1,o1)=>(s1,o1)
 |none=>newGo s.waiting.length s o
def dueGo (s:E) (o:List Sg):E×List Sg:=goC (some 0) s o
theorem goC_skip {s:E} {o:List Sg} {i:Nat} {p:Pk} (h:s.flight[i]? =some p) (hl:p.lost=false):goC (some i) s o=goC (some (i+1)) s o:=by
 have hi:=(List.getElem?_eq_some_iff.1 h).1
 unfold goC
 dsimp only
 rw [show s.flight.length - i=(s.flight.length - (i+1))+1 by omega]
 simp only [againGo,h,hl,Bool.false_eq_true,if_false]
theorem goC_fin {s:E} {o:List Sg}:goC (some s.flight.length) s o=goC none s o:=by
 simp only [goC,Nat.sub_self,againGo]
theorem goC_again {s:E} {o:List Sg} {i:Nat} {p:Pk} (h:s.flight[i]? =some p) (hl:p.lost=true) (hf:fitsR s p=true):goC (some i) s o=goC (some (i+1)) (againS s i p) (o++[madeR (againS s i p) p.kind p.number p.body]):=by
 have hi:=(List.getElem?_eq_some_iff.1 h).1
 have hlen:(againS s i p).flight.length=s.flight.length:=by simp [againS,sentS,unlostS]
 unfold goC
 dsimp only
 rw [hlen,show s.flight.length - i=(s.flight.length - (i+1))+1 by omega]
 simp only [againGo,h,hl,hf,if_true]
theorem goC_new {s:E} {o:List Sg} {p:Pk} {ws:List Pk} (h:s.waiting=p::ws) (hm:mayR s p=true) (hf:fitsR s p=true):goC none s o=goC none (freshS s p ws) (o++[madeR (freshS s p ws) p.kind s.next p.body]):=by
 have hw:(freshS s p ws).waiting=ws:=rfl
 unfold goC
 rw [hw,h,List.length_cons]
 simp only [newGo,h,hm,hf,Bool.and_self,if_true]
theorem goC_stop {c:Option Nat} {s:E} {o:List Sg} (h:stopR c s=true):goC c s o=(s,o):=by
 unfold stopR at h
 cases c with
 | none=>
  unfold goC
  dsimp only at h ⊢
  cases hw:s.waiting with
  |nil=>rfl
  |cons p ws=>
   rw [hw] at h
   dsimp only at h
   rw [List.length_cons]
   simp only [newGo,hw]
   rw [if_neg (fun hc=>by rw [hc] at h;cases h)]
 | some i=>
  dsimp only at h
  cases hp:s.flight[i]? with
  |none=>rw [hp] at h;cases h
  |some p=>
   have hi:=(List.getElem?_eq_some_iff.1 hp).1
   rw [hp] at h
   dsimp only at h
   rw [Bool.and_eq_true] at h
   unfold goC
   dsimp only
   rw [show s.flight.length - i=(s.flight.length - (i+1))+1 by omega]
   simp only [againGo,hp,h.1,if_true]
   rw [if_neg (by simpa using h.2)]
def send3 (s:E) (o:List Sg):E×List Sg:=if o=[]∧s.answer=true then ({s with answer:=false},[madeR s 3 s.next []]) else if o=[] then (s,[]) else ({s with answer:=false},o)
def send2 (s:E) (o:List Sg):E×List Sg:=if s.state=5∨s.state=0 then ({s with answer:=false},o) else send3 (dueGo s o).1 (dueGo s o).2
def send1 (s:E):E×List Sg:=if s.replies=true then send2 {s with replies:=false} [madeR s 5 s.next []] else send2 s []
def over2 (s:E):E:=if s.state=5 then s else overdueR s
def sendR (s:E) (now:Int):Int×E×List Sg:=if atR s now=0 then (0,send1 (over2 {s with now:=now})) else (atR s now,s,[])
structure MadeOk (s:E):Prop where
 room:0≤s.room∧s.room≤1099511627776
 ready:s.ready.length<1099511627776
 kept:s.kept.length<1099511627776
 bodies:∀x∈s.kept,x.2.body.length≤100000
 far:FarOk s
theorem MadeOk.of {s s':E} (h:MadeOk s) (h1:s'.room=s.room) (h2:s'.ready=s.ready) (h3:s'.kept=s.kept) (h4:s'.base=s.base):MadeOk s':=
 ⟨by rw [h1];exact h.room,by rw [h2];exact h.ready,by rw [h3];exact h.kept,by rw [h3];exact h.bodies,by unfold FarOk;rw [h3,h4];exact h.far⟩
theorem madeE {H:AHeap} {e:Nat} {s:E} {q:Q} (h:EndI H e s q) (hm:MadeOk s) (kind number:Int) (body:List UInt8):ARet Try.prog 41 [ptr e,.int .i64 kind,.int .i64 number,.string (bs body)] H (madeR s kind number body).v H:=
 made h hm.room hm.ready hm.kept hm.bodies hm.far kind number body
theorem DueOk.again {s:E} (h:DueOk s) {i:Nat} {p:Pk} (hp:s.flight[i]? =some p):DueOk (againS s i p):=by
 have hm:=h.fb p (List.mem_of_getElem? hp)
 refine ⟨by simp [againS,sentS,unlostS];exact h.fl,h.wl,fun x hx=> ?_,h.wb⟩
 simp only [againS,sentS,unlostS] at hx
 rw [List.set_set] at hx
 rcases List.mem_or_eq_of_mem_set hx with hx|rfl
 ·exact h.fb x hx
 ·exact hm
theorem DueOk.fresh {s:E} (h:DueOk s) (hl:s.flight.length+s.waiting.length<1099511627776) {p:Pk} {ws:List Pk} (hw:s.waiting=p::ws):DueOk (freshS s p ws):=by
 have hm:=h.wb p (by rw [hw];simp)
 have hwl:=h.wl
 rw [hw,List.length_cons] at hwl hl
 refine ⟨by simp [freshS,sentS,newS];omega,by show ws.length<_;omega,fun x hx=> ?_,fun x hx=>h.wb x (by rw [hw];exact List.mem_cons_of_mem _ hx)⟩
 simp only [freshS,sentS,newS] at hx
 rcases List.mem_or_eq_of_mem_set hx with hx|rfl
 ·rcases List.mem_append.1 hx with hx|hx
  ·exact h.fb x hx
  ·rw [List.mem_singleton.1 hx];exact hm
 ·exact hm
end Go.Proofs.Ytdgmcckfdgnicaa

set_option linter.unusedVariables false
set_option linter.unusedSimpArgs false
set_option maxRecDepth 20000
set_option maxHeartbeats 8000000
namespace Go.Proofs.Ytdgmcckfdgnicaa
open Go Go.Aw Go.Proofs
theorem Sg.c9 (x:Sg):x.c.length=9:=rfl
theorem Sg.cput (x:Sg):putCells [.int .i64 0,.int .i64 0,.int .i64 0,.int .i64 0,.int .i64 0,.string (bs []),.string (bs []),.int .i64 0,.int .i64 0] 0 x.c=x.c:=rfl
theorem Sg.ctake (x:Sg):x.c.take 9=x.c:=rfl
theorem Sg.cflat (x:Sg):x.c.all flat=true:=rfl
structure SJ (H:AHeap) (e bx r:Nat) (q:Q) (s:E) (o:List Sg) (H4:AHeap) (q4:Q) (v:Value) (js:List Nat):Prop where
 end_:EndI H4 e s q4
 frm:Frm (q.names e) H H4
 names:∀j∈q4.names e,j∈q.names e∨H.length≤j
 bxo:H4[bx]? =some (.cells [ptr e] ⟨29,0,true,0,none⟩)
 ro:H4[r]? =some (.cells [v] ⟨31,0,true,0,none⟩)
 row:RowS H4 v o js
 jsn:∀j∈js,H.length≤j∧j∉q4.names e∧j≠bx∧j≠r
 bxn:bx∉q4.names e
 rn:r∉q4.names e
 br:bx≠r
 old:H.length≤bx∧H.length≤r
theorem SJ.step {H:AHeap} {e bx r:Nat} {q:Q} {s s':E} {o:List Sg} {H4 H5:AHeap} {q4 q5:Q} {v:Value} {js:List Nat} (h:SJ H e bx r q s o H4 q4 v js) (h1:EndI H5 e s' q5) (h2:Frm (q4.names e) H4 H5) (h3:∀j∈q5.names e,j∈q4.names e∨H4.length≤j):SJ H e bx r q s' o H5 q5 v js where
 end_:=h1
 frm:=h.frm.trans h2 (fun j hj=>h.names j hj)
 names:=fun j hj=>by
  rcases h3 j hj with g|g
  ·exact h.names j g
  ·have:=h.frm.1;exact .inr (by omega)
 bxo:=h2.get h.bxo h.bxn
 ro:=h2.get h.ro h.rn
 row:=h.row.frm h2 fun j hj=>(h.jsn j hj).2.1
 jsn:=fun j hj=>⟨(h.jsn j hj).1,fun hm=>by
  rcases h3 j hm with g|g
  ·exact (h.jsn j hj).2.1 g
  ·have:=h.row.lt j hj;omega,(h.jsn j hj).2.2⟩
 bxn:=fun hm=>by
  rcases h3 _ hm with g|g
  ·exact h.bxn g
  ·have:=lt_of_get h.bxo;omega
 rn:=fun hm=>by
  rcases h3 _ hm with g|g
  ·exact h.rn g
  ·have:=lt_of_get h.ro;omega
 br:=h.br
 old:=h.old
theorem SJ.put {H:AHeap} {e bx r:Nat} {q:Q} {s:E} {o:List Sg} {H4:AHeap} {q4:Q} {v:Value} {js:List Nat} (h:SJ H e bx r q s o H4 q4 v js) (s':E) (hw:s'.waiting=s.waiting) (hf:s'.flight=s.flight) (hk:s'.kept=s.kept):SJ H e bx r q s' o (H4.set e (.cells (endC s' q4) kE)) q4 v js:=
 h.step (h.end_.put s' q4.told hw hf hk) (Frm.set (Frm.refl _ _) (.inl (by simp [Q.names]))) (fun j hj=> .inl hj)
theorem SJ.more {H:AHeap} {e bx r:Nat} {q:Q} {s:E} {o:List Sg} {H4:AHeap} {q4:Q} {v:Value} {js:List Nat} (h:SJ H e bx r q s o H4 q4 v js) (X:AHeap):SJ H e bx r q s o (H4++X) q4 v js:=
 h.step (h.end_.more X) Frm.app (fun j hj=> .inl hj)
theorem SJ.other {H:AHeap} {e bx r x:Nat} {q:Q} {s:E} {o:List Sg} {H4 H5:AHeap} {q4:Q} {v:Value} {js:List Nat} (h:SJ H e bx r q s o H4 q4 v js) (hF:Frm [x] H4 H5) (h1:x∉q4.names e) (h2:x≠bx) (h3:x≠r) (h4:x∉js) (h5:H.length≤x):SJ H e bx r q s o H5 q4 v js where
 end_:=h.end_.frm hF fun j hj hm=>h1 (by rw [← List.mem_singleton.1 hm];exact hj)
 frm:=h.frm.trans hF fun j hj=> .inr (by rw [List.mem_singleton.1 hj];exact h5)
 names:=h.names
 bxo:=hF.get h.bxo fun hm=>h2 (List.mem_singleton.1 hm).symm
 ro:=hF.get h.ro fun hm=>h3 (List.mem_singleton.1 hm).symm
 row:=h.row.frm hF fun j hj hm=>h4 (by rw [← List.mem_singleton.1 hm];exact hj)
 jsn:=h.jsn
 bxn:=h.bxn
 rn:=h.rn
 br:=h.br
 old:=h.old
theorem SJ.push {H:AHeap} {e bx r:Nat} {q:Q} {s:E} {o o2:List Sg} {H4 H5:AHeap} {q4:Q} {v v2:Value} {js js2:List Nat} (h:SJ H e bx r q s o H4 q4 v js) (hr:RowS H5 v2 o2 js2) (hF:Frm js H4 H5) (hj:∀j∈js2,j∈js∨j=H4.length):SJ H e bx r q s o2 (H5.set r (.cells [v2] ⟨31,0,true,0,none⟩)) q4 v2 js2 where
 end_:=(h.end_.frm hF fun j hj hm=>(h.jsn j hm).2.1 hj).frm (S:=[r]) (Frm.set (Frm.refl _ _) (.inl (List.mem_singleton.2 rfl))) fun j hj hm=>h.rn (by rw [← List.mem_singleton.1 hm];exact hj)
 frm:=(h.frm.trans hF (fun j hj=> .inr (h.jsn j hj).1)).set (.inr h.old.2)
 names:=h.names
 bxo:=by
  rw [List.getElem?_set_ne (fun g=>h.br g.symm)]
  exact hF.get h.bxo fun hm=>(h.jsn _ hm).2.2.1 rfl
 ro:=List.getElem?_set_self (by have:=hF.1;have:=lt_of_get h.ro;omega)
 row:=hr.frm (S:=[r]) (Frm.set (Frm.refl _ _) (.inl (List.mem_singleton.2 rfl))) fun j hj' hm=>by
  rw [List.mem_singleton] at hm
  subst hm
  rcases hj j hj' with g|g
  ·exact (h.jsn j g).2.2.2 rfl
  ·have:=lt_of_get h.ro;omega
 jsn:=fun j hj'=>by
  rcases hj j hj' with g|g
  ·exact h.jsn j g
  ·subst g
   have h1:=h.frm.1
   exact ⟨h1,fun hm=>by have:=h.end_.lt _ hm;omega,fun g=>by have:=lt_of_get h.bxo;omega,fun g=>by have:=lt_of_get h.ro;omega⟩
 bxn:=h.bxn
 rn:=h.rn
 br:=h.br
 old:=h.old
theorem SJ.pushX {H:AHeap} {e bx r:Nat} {q:Q} {s:E} {o:List Sg} {H4:AHeap} {q4:Q} {v:Value} {js:List Nat} (h:SJ H e bx r q s o H4 q4 v js) (x:Sg) (X:AHeap) (hl:o.length<1000000):
  ∃v2 H5 js2,SJ H e bx r q s (o++[x]) (H5.set r (.cells [v2] ⟨31,0,true,0,none⟩)) q4 v2 js2∧Frm js (H4++X) H5∧ (∀ j∈js2,j∈js∨H4.length≤j)∧H5[r]? =some (.cells [v] ⟨31,0,true,0,none⟩)∧cellsOf v2=[v2]∧flat v2=true∧r<H5.length∧∀K:Value→AHeap→Prop,K v2 H5→appendTo Try.prog 44 9 88 v 1 x.c (H4++X) K:=by
 have h':=h.more X
 obtain ⟨v2,H5,js2,a1,a2,a3,a4⟩:=h'.row.appendD [x] (by simp;omega)
 refine ⟨v2,H5,js2,h'.push a1 a2 a3,a2,fun j hj=>(a3 j hj).imp id (fun g=>by rw [g,List.length_append];omega),a2.get h'.ro (fun hm=>(h'.jsn _ hm).2.2.2 rfl),a1.cells.1,a1.cells.2,by have:=a2.1;have:=lt_of_get h'.ro;omega,fun K hK=> ?_⟩
 have:=a4 K hK
 simpa only [sgF,List.map_cons,List.map_nil,List.flatten_cons,List.flatten_nil,List.append_nil,List.length_cons,List.length_nil,Nat.zero_add] using this
end Go.Proofs.Ytdgmcckfdgnicaa
