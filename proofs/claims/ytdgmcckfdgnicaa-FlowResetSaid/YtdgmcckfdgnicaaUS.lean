/-
 What an end sends (plain).
-/
import Derived.Test.YtdgmcckfdgnicaaUR
set_option linter.unusedVariables false
set_option linter.unusedSimpArgs false
namespace Go.Proofs.Ytdgmcckfdgnicaa
open Go Go.Aw Go.Proofs
def againS (s:E) (i:Nat) (p:Pk):E:=sentS (unlostS s i p) i {p with lost:=false}
def freshS (s:E) (p:Pk) (ws:List Pk):E:=sentS (newS s p ws) s.flight.length {p with number:=s.next}
def againGo:Nat→Nat→E→List Sg→Bool×E×List Sg
 |0,i,s,o=>(true,s,o)
 |k+1,i,s,o=>match s.flight[i]? with
  |none=>(true,s,o)
  |some p=>if p.lost=true then (if fitsR s p=true then againGo k (i+1) (againS s i p) (o++[madeR (againS s i p) p.kind p.number p.body]) else (false,s,o)) else againGo k (i+1) s o
def newGo:Nat→E→List Sg→E×List Sg
 |0,s,o=>(s,o)
 |k+1,s,o=>match s.waiting with
  |[]=>(s,o)
  |p::ws=>if (mayR s p&&fitsR s p)=true then newGo k (freshS s p ws) (o++[madeR (freshS s p ws) p.kind s.next p.body]) else (s,o)
def goC (c:Option Nat) (s:E) (o:List Sg):E×List Sg:=
 match c with
 |some i=>match againGo (s.flight.length - i) i s o with
  |(true,s1,o1)=>newGo s1.waiting.length s1 o1
  |(false,s1,o1)=>(s1,o1)
 |none=>newGo s.waiting.length s o
def dueGo (s:E) (o:List Sg):E×List Sg:=goC (some 0) s o
theorem goC_skip {s:E} {o:List Sg} {i:Nat} {p:Pk} (h:s.flight[i]? =some p) (hl:p.lost=false):goC (some i) s o=goC (some (i+1)) s o:=by
 have hi:=(List.getElem?_eq_some_iff.1 h).1
 unfold goC
 dsimp only
 rw [show s.flight.length - i=(s.flight.length - (i+1))+1 by omega]
 simp only [againGo,h,hl,Bool.false_eq_true,if_false]
theorem goC_fin {s:E} {o:List Sg}:goC (some s.flight.length) s o=goC none s o:=by
 simp only [goC,Nat.sub_self,againGo]
theorem goC_again {s:E} {o:List Sg} {i:Nat} {p:Pk} (h:s.flight[i]? =some p) (hl:p.lost=true) (hf:fitsR s p=true):goC (some i) s o=goC (some (i+1)) (againS s i p) (o++[madeR (againS s i p) p.kind p.number p.body]):=by
 have hi:=(List.getElem?_eq_some_iff.1 h).1
 have hlen:(againS s i p).flight.length=s.flight.length:=by simp [againS,sentS,unlostS]
 unfold goC
 dsimp only
 rw [hlen,show s.flight.length - i=(s.flight.length - (i+1))+1 by omega]
 simp only [againGo,h,hl,hf,if_true]
theorem goC_new {s:E} {o:List Sg} {p:Pk} {ws:List Pk} (h:s.waiting=p::ws) (hm:mayR s p=true) (hf:fitsR s p=true):goC none s o=goC none (freshS s p ws) (o++[madeR (freshS s p ws) p.kind s.next p.body]):=by
 have hw:(freshS s p ws).waiting=ws:=rfl
 unfold goC
 rw [hw,h,List.length_cons]
 simp only [newGo,h,hm,hf,Bool.and_self,if_true]
theorem goC_stop {c:Option Nat} {s:E} {o:List Sg} (h:stopR c s=true):goC c s o=(s,o):=by
 unfold stopR at h
 cases c with
 | none=>
  unfold goC
  dsimp only at h ⊢
  cases hw:s.waiting with
  |nil=>rfl
  |cons p ws=>
   rw [hw] at h
   dsimp only at h
   rw [List.length_cons]
   simp only [newGo,hw]
   rw [if_neg (fun hc=>by rw [hc] at h;cases h)]
 | some i=>
  dsimp only at h
  cases hp:s.flight[i]? with
  |none=>rw [hp] at h;cases h
  |some p=>
   have hi:=(List.getElem?_eq_some_iff.1 hp).1
   rw [hp] at h
   dsimp only at h
   rw [Bool.and_eq_true] at h
   unfold goC
   dsimp only
   rw [show s.flight.length - i=(s.flight.length - (i+1))+1 by omega]
   simp only [againGo,hp,h.1,if_true]
   rw [if_neg (by simpa using h.2)]
def send3 (s:E) (o:List Sg):E×List Sg:=if o=[]∧s.answer=true then ({s with answer:=false},[madeR s 3 s.next []]) else if o=[] then (s,[]) else ({s with answer:=false},o)
def send2 (s:E) (o:List Sg):E×List Sg:=if s.state=5∨s.state=0 then ({s with answer:=false},o) else send3 (dueGo s o).1 (dueGo s o).2
def send1 (s:E):E×List Sg:=if s.replies=true then send2 {s with replies:=false} [madeR s 5 s.next []] else send2 s []
def over2 (s:E):E:=if s.state=5 then s else overdueR s
def sendR (s:E) (now:Int):Int×E×List Sg:=if atR s now=0 then (0,send1 (over2 {s with now:=now})) else (atR s now,s,[])
structure MadeOk (s:E):Prop where
 room:0≤s.room∧s.room≤1099511627776
 ready:s.ready.length<1099511627776
 kept:s.kept.length<1099511627776
 bodies:∀x∈s.kept,x.2.body.length≤100000
 far:FarOk s
theorem MadeOk.of {s s':E} (h:MadeOk s) (h1:s'.room=s.room) (h2:s'.ready=s.ready) (h3:s'.kept=s.kept) (h4:s'.base=s.base):MadeOk s':=
 ⟨by rw [h1];exact h.room,by rw [h2];exact h.ready,by rw [h3];exact h.kept,by rw [h3];exact h.bodies,by unfold FarOk;rw [h3,h4];exact h.far⟩
theorem madeE {H:AHeap} {e:Nat} {s:E} {q:Q} (h:EndI H e s q) (hm:MadeOk s) (kind number:Int) (body:List UInt8):ARet Try.prog 41 [ptr e,.int .i64 kind,.int .i64 number,.string (bs body)] H (madeR s kind number body).v H:=
 made h hm.room hm.ready hm.kept hm.bodies hm.far kind number body
theorem DueOk.again {s:E} (h:DueOk s) {i:Nat} {p:Pk} (hp:s.flight[i]? =some p):DueOk (againS s i p):=by
 have hm:=h.fb p (List.mem_of_getElem? hp)
 refine ⟨by simp [againS,sentS,unlostS];exact h.fl,h.wl,fun x hx=> ?_,h.wb⟩
 simp only [againS,sentS,unlostS] at hx
 rw [List.set_set] at hx
 rcases List.mem_or_eq_of_mem_set hx with hx|rfl
 ·exact h.fb x hx
 ·exact hm
theorem DueOk.fresh {s:E} (h:DueOk s) (hl:s.flight.length+s.waiting.length<1099511627776) {p:Pk} {ws:List Pk} (hw:s.waiting=p::ws):DueOk (freshS s p ws):=by
 have hm:=h.wb p (by rw [hw];simp)
 have hwl:=h.wl
 rw [hw,List.length_cons] at hwl hl
 refine ⟨by simp [freshS,sentS,newS];omega,by show ws.length<_;omega,fun x hx=> ?_,fun x hx=>h.wb x (by rw [hw];exact List.mem_cons_of_mem _ hx)⟩
 simp only [freshS,sentS,newS] at hx
 rcases List.mem_or_eq_of_mem_set hx with hx|rfl
 ·rcases List.mem_append.1 hx with hx|hx
  ·exact h.fb x hx
  ·rw [List.mem_singleton.1 hx];exact hm
 ·exact hm
end Go.Proofs.Ytdgmcckfdgnicaa
