/-
 What an end sends keeps what is said of it (plain).
-/
import Derived.Test.YtdgmcckfdgnicaaUkM
set_option linter.unusedVariables false
set_option linter.unusedSimpArgs false
set_option maxRecDepth 20000
namespace Go.Proofs.Ytdgmcckfdgnicaa
open Go Go.Aw Go.Proofs
theorem againGo_ind {P:E→List Sg→Prop} (h:∀s o i p,P s o→s.flight[i]? =some p→p.lost=true→fitsR s p=true→P (againS s i p) (o++[madeR (againS s i p) p.kind p.number p.body])):∀k i s o,P s o→P (againGo k i s o).2.1 (againGo k i s o).2.2
 |0,i,s,o,hp=>hp
 | k+1,i,s,o,hp=>by
  unfold againGo
  cases hf:s.flight[i]? with
  |none=>exact hp
  | some p=>
   dsimp only
   split
   ·split
    ·exact againGo_ind h k _ _ _ (h _ _ _ _ hp hf (by assumption) (by assumption))
    ·exact hp
   ·exact againGo_ind h k _ _ _ hp
theorem newGo_ind {P:E→List Sg→Prop} (h:∀s o p ws,P s o→s.waiting=p::ws→mayR s p=true→fitsR s p=true→P (freshS s p ws) (o++[madeR (freshS s p ws) p.kind s.next p.body])):∀k s o,P s o→P (newGo k s o).1 (newGo k s o).2
 |0,s,o,hp=>hp
 | k+1,s,o,hp=>by
  unfold newGo
  cases hw:s.waiting with
  |nil=>exact hp
  | cons p ws=>
   dsimp only
   split
   ·rename_i hc
    rw [Bool.and_eq_true] at hc
    exact newGo_ind h k _ _ (h _ _ _ _ hp hw hc.1 hc.2)
   ·exact hp
theorem dueGo_ind {P:E→List Sg→Prop} (h1:∀s o i p,P s o→s.flight[i]? =some p→p.lost=true→fitsR s p=true→P (againS s i p) (o++[madeR (againS s i p) p.kind p.number p.body]))
  (h2:∀s o p ws,P s o→s.waiting=p::ws→mayR s p=true→fitsR s p=true→P (freshS s p ws) (o++[madeR (freshS s p ws) p.kind s.next p.body])) (s:E) (o:List Sg) (hp:P s o):P (dueGo s o).1 (dueGo s o).2:=by
 unfold dueGo goC
 have h3:=againGo_ind h1 (s.flight.length - 0) 0 s o hp
 rcases hx:againGo (s.flight.length - 0) 0 s o with ⟨b,s1,o1⟩
 rw [hx] at h3
 simp only [hx]
 cases b with
 |false=>exact h3
 |true=>exact newGo_ind h2 _ _ _ h3
theorem againGo_len:∀k i s o,(againGo k i s o).2.2.length≤o.length+k
 |0,i,s,o=>by simp [againGo]
 | k +1,i,s,o=>by
  unfold againGo
  cases hf:s.flight[i]? with
  |none=>simp
  | some p=>
   dsimp only
   split
   ·split
    ·have:=againGo_len k (i+1) (againS s i p) (o++[madeR (againS s i p) p.kind p.number p.body])
     simp only [List.length_append,List.length_singleton] at this
     omega
    ·dsimp only;omega
   ·have:=againGo_len k (i+1) s o
    omega
theorem newGo_len:∀k s o,(newGo k s o).2.length≤o.length+k
 |0,s,o=>by simp [newGo]
 | k+1,s,o=>by
  unfold newGo
  cases hw:s.waiting with
  |nil=>simp
  | cons p ws=>
   dsimp only
   split
   ·have:=newGo_len k (freshS s p ws) (o++[madeR (freshS s p ws) p.kind s.next p.body])
    simp only [List.length_append,List.length_singleton] at this
    omega
   ·dsimp only;omega
theorem dueGo_len (s:E) (o:List Sg):(dueGo s o).2.length≤o.length+s.flight.length+s.waiting.length:=by
 unfold dueGo goC
 have h3:=againGo_ind (P:=fun a _=>a.waiting=s.waiting) (fun a b i p h _ _ _=>h) (s.flight.length - 0) 0 s o rfl
 have h4:=againGo_len (s.flight.length - 0) 0 s o
 rcases hx:againGo (s.flight.length - 0) 0 s o with ⟨b,s1,o1⟩
 rw [hx] at h3 h4
 simp only [hx]
 dsimp only at h3 h4
 cases b with
 |false=>dsimp only;omega
 |true=>
  have:=newGo_len s1.waiting.length s1 o1
  dsimp only
  rw [h3] at this ⊢
  omega
structure Fix (e:E) (op:Bool) (conn room limit now:Int):Prop where
 opener:e.opener=op
 conn:e.conn=conn
 room:e.room=room
 limit:e.limit=limit
 body:1≤e.body∧e.body≤1400
 now:0≤e.now∧e.now≤now
 outs:e.outs≤6∧(e.state≠5→e.outs≤5)
theorem spaceR_le (s:E) (hr:0≤s.room):0≤spaceR s∧spaceR s≤s.room:=by unfold spaceR;omega
theorem markB_len (l:List Nat):(markB l).length≤4:=by
 unfold markB
 rw [List.length_take,bytes4_len]
 omega
theorem made_ok {s:E} {kind number:Int} {body:List UInt8} (hk:1≤kind∧kind≤5) (hb:body.length≤1400) (hkb:kind=2↔0<body.length) (hc:0≤s.conn∧s.conn<65536) (hr:0≤s.room∧s.room≤1000000) (hba:0≤s.base∧s.base<65536) (hn:0≤s.now):(madeR s kind number body).ok:=by
 have h1:=spaceR_le s hr.1
 have h2:=markB_len (lowF (farR s.base s.kept))
 unfold Sg.ok okP madeR
 dsimp only
 refine ⟨hk.1,hk.2,hc,by omega,hba,h1.1,by omega,h2,hb,hkb,?_,?_⟩
 ·rw [Int.tmod_eq_emod_of_nonneg hn];omega
 ·split<;> omega
theorem prefix_get {L L':List Msg} (h:L <+: L') {i:Nat} {m:Msg} (hi:L[i]? =some m):L'[i]? =some m:=by
 obtain ⟨X,rfl⟩:=h
 rw [List.getElem?_append_left (List.getElem?_eq_some_iff.1 hi).1]
 exact hi
theorem Snd.again {e:E} {f:Int} {L:List Msg} {w:List UInt8} (h:Snd e f L w) {i:Nat} {p:Pk} (hp:e.flight[i]? =some p) (hl:p.lost=true) (hf:fitsR e p=true):Snd (againS e i p) f L w:=by
 have hfl:(againS e i p).flight=e.flight.set i {p with lost:=false,sent:=e.now,times:=IntKind.i64.wrap (p.times+1)}:=by
  show ((e.flight.set i {p with lost:=false}).set i {p with lost:=false,sent:=e.now,times:=IntKind.i64.wrap (p.times+1)})=_
  rw [List.set_set]
 refine ⟨h.next,h.acked,fun q hq=> ?_,by rw [hfl,List.length_set];exact h.fll,h.tok,h.text,?_⟩
 ·rw [hfl] at hq
  rcases List.mem_or_eq_of_mem_set hq with hq|rfl
  ·exact h.fl q hq
  ·exact h.fl p (List.mem_of_getElem? hp)
 ·rw [hfl]
  have h1:=zs_set (p':={p with lost:=false,sent:=e.now,times:=IntKind.i64.wrap (p.times+1)}) hp hl rfl
  have h2:=fits_ok hf
  have h3:szP {p with lost:=false,sent:=e.now,times:=IntKind.i64.wrap (p.times+1)}=szP p:=rfl
  have h4:(againS e i p).limit=e.limit:=rfl
  unfold UOkZ
  rw [h4]
  omega
theorem Snd.fresh {e:E} {f:Int} {L:List Msg} {w:List UInt8} (h:Snd e f L w) (hf0:0≤f∧f<65536) (hL:L.length<1000000) {p:Pk} {ws:List Pk} (hw:e.waiting=p::ws) (hlo:p.lost=false) (hf:fitsR e p=true):Snd (freshS e p ws) f (L++[msg p]) w:=by
 have hn:=h.next
 have hwr:IntKind.i64.wrap (e.next+1)=e.next+1:=wi64 (by omega)
 have hfl:(freshS e p ws).flight=e.flight++[{p with number:=e.next,sent:=e.now,times:=IntKind.i64.wrap (p.times+1)}]:=by
  show (e.flight++[{p with number:=e.next}]).set e.flight.length {p with number:=e.next,sent:=e.now,times:=IntKind.i64.wrap (p.times+1)}=_
  rw [List.set_append_right _ _ (Nat.le_refl _),Nat.sub_self]
  rfl
 have hT:(L++[msg p])++(freshS e p ws).waiting.map msg=L++e.waiting.map msg:=by
  rw [hw]
  show (L++[msg p])++ws.map msg=_
  simp
 have hnx:(freshS e p ws).next=e.next+1:=hwr
 have hg:∀i m,L[i]? =some m→(L++[msg p])[i]? =some m:=fun i m hi=>prefix_get ⟨_,rfl⟩ hi
 refine ⟨by rw [hnx,List.length_append,List.length_singleton];omega,by rw [hnx];have:=h.acked;exact ⟨this.1,by show e.acked<_;omega⟩,fun q hq=> ?_,by rw [hfl,List.length_append,List.length_append];have:=h.fll;simp only [List.length_singleton];omega,by rw [hT];exact h.tok,by rw [hT];exact h.text,?_⟩
 ·rw [hfl] at hq
  rcases List.mem_append.1 hq with hq|hq
  ·obtain ⟨i,h1,h2⟩:=h.fl q hq
   exact ⟨i,hg _ _ h1,h2⟩
  ·rw [List.mem_singleton.1 hq]
   exact ⟨L.length,by simp [msg],hn⟩
 ·rw [hfl]
  have h1:=zs_snoc e.flight {p with number:=e.next,sent:=e.now,times:=IntKind.i64.wrap (p.times+1)} hlo
  have h2:=fits_ok hf
  have h3:szP {p with number:=e.next,sent:=e.now,times:=IntKind.i64.wrap (p.times+1)}=szP p:=rfl
  have h4:(freshS e p ws).limit=e.limit:=rfl
  unfold UOkZ
  rw [h4]
  omega
def SentOf (a b:E):Prop:=∃w fl n c g st,b={a with waiting:=w,flight:=fl,next:=n,count:=c,again:=g,state:=st}∧(st=a.state∨(st=3∧(a.state=2∨a.state=3)))
theorem SentOf.refl (a:E):SentOf a a:=⟨_,_,_,_,_,_,rfl,.inl rfl⟩
theorem SentOf.again {a b:E} (h:SentOf a b) (i:Nat) (p:Pk):SentOf a (againS b i p):=by
 obtain ⟨w,fl,n,c,g,st,rfl,hs⟩:=h
 exact ⟨_,_,_,_,_,_,rfl,hs⟩
theorem SentOf.fresh {a b:E} (h:SentOf a b) (p:Pk) (ws:List Pk) (hm:p.kind=4→b.state=2∨b.state=3):SentOf a (freshS b p ws):=by
 obtain ⟨w,fl,n,c,g,st,rfl,hs⟩:=h
 refine ⟨_,_,_,_,_,if p.kind=4 then 3 else st,rfl,?_⟩
 by_cases hk:p.kind=4
 ·rw [if_pos hk]
  have hm:st=2∨st=3:=hm hk
  rcases hs with hs|⟨hs,h2⟩
  ·exact .inr ⟨rfl,by omega⟩
  ·exact .inr ⟨rfl,h2⟩
 ·rw [if_neg hk];exact hs
structure SndP (a:E) (f:Int) (L:List Msg) (w:List UInt8) (e:E) (o:List Sg):Prop where
 of_:SentOf a e
 ex:∃L',L <+: L'∧Snd e f L' w∧ (∀ p∈o,SgOk f L' p)∧(a.opener=false→a.heard=false→L'=L)∧L'++e.waiting.map msg=L++a.waiting.map msg
 kinds:∀p∈o,p.kind≠3
 low:a.state=1→ (∀ p∈a.flight,p.kind=1)→ (∀ p∈o,p.kind=1∨p.kind=5)∧ (∀ p∈e.flight,p.kind=1)
 lostW:∀p∈e.waiting,p.lost=false
theorem Snd.len {e:E} {f:Int} {L:List Msg} {w:List UInt8} (h:Snd e f L w):L.length+e.waiting.length≤w.length+2:=by
 have:=h.tok.len
 rw [h.text,List.length_append,List.length_map] at this
 exact this
theorem Snd.msgW {e:E} {f:Int} {L:List Msg} {w:List UInt8} (h:Snd e f L w) {p:Pk} (hp:p∈e.waiting):(p.kind=1∨p.kind=2∨p.kind=4)∧(p.kind=2↔p.body≠[])∧p.body.length≤1400:=
 h.tok.kinds (msg p) (List.mem_append_right _ (List.mem_map.2 ⟨p,hp,rfl⟩))
theorem Snd.msgF {e:E} {f:Int} {L:List Msg} {w:List UInt8} (h:Snd e f L w) {p:Pk} (hp:p∈e.flight):(p.kind=1∨p.kind=2∨p.kind=4)∧(p.kind=2↔p.body≠[])∧p.body.length≤1400:=by
 obtain ⟨i,h1,_⟩:=h.fl p hp
 exact h.tok.kinds (msg p) (List.mem_append_left _ (List.mem_of_getElem? h1))
theorem lenpos {b:List UInt8}:b≠[]↔0<b.length:=List.length_pos_iff.symm
section
variable {a:E} {f conn room limit now:Int} {L:List Msg} {w:List UInt8} {op:Bool} (hf0:0≤f∧f<65536) (hw:w.length<100000) (hc:0≤a.conn∧a.conn<65536) (hr:0≤a.room∧a.room≤1000000) (hba:0≤a.base∧a.base<65536) (hn:0≤a.now)
include hc hr hba hn
theorem SndP.again {e:E} {o:List Sg} (h:SndP a f L w e o) {i:Nat} {p:Pk} (hp:e.flight[i]? =some p) (hl:p.lost=true) (hf:fitsR e p=true):SndP a f L w (againS e i p) (o++[madeR (againS e i p) p.kind p.number p.body]):=by
 obtain ⟨L',hL,hS,ho,hh,hT⟩:=h.ex
 have hS2:=hS.again hp hl hf
 have hpm:=hS.msgF (List.mem_of_getElem? hp)
 obtain ⟨j,hj,hjn⟩:=hS.fl p (List.mem_of_getElem? hp)
 have hof:=h.of_.again i p
 have hok:(madeR (againS e i p) p.kind p.number p.body).ok:=by
  obtain ⟨w',fl,n,c,g,st,he,hs⟩:=hof
  rw [he]
  exact made_ok (by omega) hpm.2.2 (hpm.2.1.trans lenpos) hc hr hba hn
 refine ⟨hof,⟨L',hL,hS2,fun q hq=> ?_,hh,hT⟩,fun q hq=> ?_,fun h1 h2=> ?_,h.lostW⟩
 ·rcases List.mem_append.1 hq with hq|hq
  ·exact ho q hq
  ·rw [List.mem_singleton.1 hq]
   exact ⟨hok,fun _=>⟨j,hj,by show p.number%65536=_;rw [hjn]⟩⟩
 ·rcases List.mem_append.1 hq with hq|hq
  ·exact h.kinds q hq
  ·rw [List.mem_singleton.1 hq]
   have:=hpm.1
   show p.kind≠3
   omega
 ·obtain ⟨h3,h4⟩:=h.low h1 h2
  have hk:=h4 p (List.mem_of_getElem? hp)
  refine ⟨fun q hq=> ?_,fun q hq=> ?_⟩
  ·rcases List.mem_append.1 hq with hq|hq
   ·exact h3 q hq
   ·rw [List.mem_singleton.1 hq];exact .inl hk
  ·have hfl:(againS e i p).flight=(e.flight.set i {p with lost:=false}).set i {p with lost:=false,sent:=e.now,times:=IntKind.i64.wrap (p.times+1)}:=rfl
   rw [hfl,List.set_set] at hq
   rcases List.mem_or_eq_of_mem_set hq with hq|rfl
   ·exact h4 q hq
   ·exact hk
include hf0 hw
theorem SndP.fresh {e:E} {o:List Sg} (h:SndP a f L w e o) {p:Pk} {ws:List Pk} (hwt:e.waiting=p::ws) (hm:mayR e p=true) (hf:fitsR e p=true):SndP a f L w (freshS e p ws) (o++[madeR (freshS e p ws) p.kind e.next p.body]):=by
 obtain ⟨L',hL,hS,ho,hh,hT⟩:=h.ex
 have hpw:p∈e.waiting:=by rw [hwt];exact List.mem_cons_self ..
 have hlen:=hS.len
 have hS2:=hS.fresh hf0 (by omega) hwt (h.lostW p hpw) hf
 have hpm:=hS.msgW hpw
 have hm1:p.kind≠1→(e.state=2∨e.state=3)∧(e.opener=true∨e.heard=true):=fun hk=>by
  unfold mayR at hm
  rw [if_neg hk] at hm
  simpa using hm
 have hm2:p.kind=1→e.state=1:=fun hk=>by
  unfold mayR at hm
  rw [if_pos hk] at hm
  simpa using hm
 have hof:=h.of_.fresh p ws (fun hk=>(hm1 (by omega)).1)
 have hok:(madeR (freshS e p ws) p.kind e.next p.body).ok:=by
  obtain ⟨w',fl,n,c,g,st,he,hs⟩:=hof
  rw [he]
  exact made_ok (by omega) hpm.2.2 (hpm.2.1.trans lenpos) hc hr hba hn
 have hpl:L' <+: L'++[msg p]:=⟨_,rfl⟩
 have hfl:(freshS e p ws).flight=e.flight++[{p with number:=e.next,sent:=e.now,times:=IntKind.i64.wrap (p.times+1)}]:=by
  show (e.flight++[{p with number:=e.next}]).set e.flight.length {p with number:=e.next,sent:=e.now,times:=IntKind.i64.wrap (p.times+1)}=_
  rw [List.set_append_right _ _ (Nat.le_refl _),Nat.sub_self]
  rfl
 refine ⟨hof,⟨L'++[msg p],hL.trans hpl,hS2,fun q hq=> ?_,fun h1 h2=> ?_,by rw [← hT,hwt];show (L'++[msg p])++ws.map msg=_;simp⟩,fun q hq=> ?_,fun h1 h2=> ?_,fun q hq=>h.lostW q ?_⟩
 ·rcases List.mem_append.1 hq with hq|hq
  ·exact (ho q hq).mono hpl
  ·rw [List.mem_singleton.1 hq]
   exact ⟨hok,fun _=>⟨L'.length,by simp [msg,madeR],by show e.next%65536=_;rw [hS.next]⟩⟩
 ·exfalso
  have ho2:e.opener=false∧e.heard=false:=by
   obtain ⟨w',fl,n,c,g,st,rfl,hs⟩:=h.of_
   exact ⟨h1,h2⟩
  have hk:p.kind≠1:=fun hk=>by
   have:=(hS.tok.first L'.length (msg p) (by rw [List.getElem?_append_right (Nat.le_refl _),hwt];simp)).1 hk
   rw [ho2.1] at this
   exact absurd this.2 (by simp)
  have:=(hm1 hk).2
  rw [ho2.1,ho2.2] at this
  simp at this
 ·rcases List.mem_append.1 hq with hq|hq
  ·exact h.kinds q hq
  ·rw [List.mem_singleton.1 hq]
   have:=hpm.1
   show p.kind≠3
   omega
 ·obtain ⟨h3,h4⟩:=h.low h1 h2
  have hk:p.kind=1:=by
   by_cases hk:p.kind=1
   ·exact hk
   ·have h5:=(hm1 hk).1
    obtain ⟨w',fl,n,c,g,st,rfl,hs⟩:=h.of_
    have h5:st=2∨st=3:=h5
    omega
  refine ⟨fun q hq=> ?_,fun q hq=> ?_⟩
  ·rcases List.mem_append.1 hq with hq|hq
   ·exact h3 q hq
   ·rw [List.mem_singleton.1 hq];exact .inl hk
  ·rw [hfl] at hq
   rcases List.mem_append.1 hq with hq|hq
   ·exact h4 q hq
   ·rw [List.mem_singleton.1 hq];exact hk
 ·have hq:q∈ws:=hq
  rw [hwt];exact List.mem_cons_of_mem _ hq
theorem SndP.due {e:E} {o:List Sg} (h:SndP a f L w e o):SndP a f L w (dueGo e o).1 (dueGo e o).2:=
 dueGo_ind (P:=SndP a f L w) (fun s o i p hP hp hl hf=>SndP.again hc hr hba hn hP hp hl hf) (fun s o p ws hP hwt hm hf=>SndP.fresh hf0 hw hc hr hba hn hP hwt hm hf) e o h
end
theorem Snd.lost {e:E} {f:Int} {L:List Msg} {w:List UInt8} (h:Snd e f L w) (e':E) (h1:e'.next=e.next) (h2:e'.acked=e.acked) (h3:e'.flight=allLost e.flight) (h4:e'.waiting=e.waiting) (h5:e'.opener=e.opener) (h6:e'.closing=e.closing) (h7:e'.limit=e.limit):Snd e' f L w where
 next:=h1 ▸ h.next
 acked:=by rw [h1,h2];exact h.acked
 fl:=by
  rw [h3]
  intro p hp
  obtain ⟨x,hx,rfl⟩:=List.mem_map.1 hp
  exact h.fl x hx
 fll:=by rw [h3];simpa [allLost] using h.fll
 tok:=by rw [h4,h5,h6];exact h.tok
 text:=by rw [h4];exact h.text
 under:=by rw [h3];exact .inl (by rw [zs_lost];simp)
structure OverP (a b:E):Prop where
 of_:∃o fl st r,b={a with outs:=o,flight:=fl,state:=st,replies:=r}
 cases_:(b.state=a.state∧b.replies=a.replies∧(b.flight=a.flight∨b.flight=allLost a.flight))∨(b.state=5∧b.flight=a.flight)
 outs:a.outs≤6∧(a.state≠5→a.outs≤5)→b.outs≤6∧(b.state≠5→b.outs≤5)
theorem over2_P (a:E):OverP a (over2 a):=by
 unfold over2
 split
 ·exact ⟨⟨_,_,_,_,rfl⟩,.inl ⟨rfl,rfl,.inl rfl⟩,id⟩
 ·unfold overdueR
  split
  ·exact ⟨⟨_,_,_,_,rfl⟩,.inl ⟨rfl,rfl,.inl rfl⟩,id⟩
  ·split
   ·refine ⟨⟨_,_,_,_,rfl⟩,.inr ⟨rfl,rfl⟩,fun h=> ⟨?_,fun h2=>absurd rfl h2⟩⟩
    show a.outs+1≤6;omega
   ·refine ⟨⟨_,_,_,_,rfl⟩,.inl ⟨rfl,rfl,.inr rfl⟩,fun h=> ⟨?_,fun h2=> ?_⟩⟩
    ·show a.outs+1≤6;have:=h.2 (by assumption);omega
    ·show a.outs+1≤5;have:=h.2 (by assumption);omega
theorem Snd.over {e:E} {f:Int} {L:List Msg} {w:List UInt8} (h:Snd e f L w):Snd (over2 e) f L w:=by
 have hP:=over2_P e
 obtain ⟨o,fl,st,r,he⟩:=hP.of_
 have hc:(over2 e).flight=e.flight∨(over2 e).flight=allLost e.flight:=by
  rcases hP.cases_ with g|g
  ·exact g.2.2
  ·exact .inl g.2
 generalize over2 e=b at*
 subst he
 rcases hc with hc|hc
 ·exact h.of rfl rfl hc rfl rfl rfl rfl
 ·exact h.lost _ rfl rfl hc rfl rfl rfl rfl
structure SentP (a:E) (f:Int) (L:List Msg) (w:List UInt8) (now:Int) (e:E) (o:List Sg):Prop where
 of_:∃w fl n c g st ou r an,e={a with waiting:=w,flight:=fl,next:=n,count:=c,again:=g,state:=st,outs:=ou,replies:=r,answer:=an,now:=now}∧(st=a.state∨st=5∨(st=3∧(a.state=2∨a.state=3)))∧(an=true→a.answer=true)
 ex:∃L',L <+: L'∧Snd e f L' w∧ (∀ p∈o,SgOk f L' p)∧(a.opener=false→a.heard=false→L'=L)∧L'++e.waiting.map msg=L++a.waiting.map msg
 three:∀p∈o,p.kind=3→p.seq=e.next%65536
 low:a.state=1→a.answer=false→ (∀ p∈a.flight,p.kind=1)→ (∀ p∈o,p.kind=1∨p.kind=5)∧ (∀ p∈e.flight,p.kind=1)
 lostW:∀p∈e.waiting,p.lost=false
 outs:a.outs≤6∧(a.state≠5→a.outs≤5)→e.outs≤6∧(e.state≠5→e.outs≤5)
 len:o.length≤a.flight.length+a.waiting.length+2
theorem SndP.nil {a:E} {f:Int} {L:List Msg} {w:List UInt8} (h:Snd a f L w) (hl:∀p∈a.waiting,p.lost=false):SndP a f L w a []:=
 ⟨.refl a,⟨L,⟨[],by simp⟩,h,by simp,fun _ _=>rfl,rfl⟩,by simp,fun _ h=>⟨by simp,h⟩,hl⟩
theorem sent_P {a:E} {f now:Int} {L:List Msg} {w:List UInt8} (hf0:0≤f∧f<65536) (hw:w.length<100000) (hc:0≤a.conn∧a.conn<65536) (hr:0≤a.room∧a.room≤1000000) (hba:0≤a.base∧a.base<65536) (hn:0≤now) (hS:Snd a f L w) (hlw:∀p∈a.waiting,p.lost=false):
  SentP a f L w now (send1 (over2 {a with now:=now})).1 (send1 (over2 {a with now:=now})).2:=by
 have hS0:Snd {a with now:=now} f L w:=hS.of rfl rfl rfl rfl rfl rfl rfl
 have hP:=over2_P {a with now:=now}
 have hS1:=hS0.over
 generalize over2 {a with now:=now}=b at*
 obtain ⟨ou,fl0,st0,r0,hb⟩:=hP.of_
 have hcs:=hP.cases_
 have hou:=hP.outs
 have hfl0:b.flight.length=a.flight.length∧(a.state=1→ (∀ p∈a.flight,p.kind=1)→∀p∈b.flight,p.kind=1):=by
  have h2:∀(h:b.flight=a.flight∨b.flight=allLost a.flight),b.flight.length=a.flight.length∧(a.state=1→ (∀ p∈a.flight,p.kind=1)→∀p∈b.flight,p.kind=1):=by
   rintro (h|h)
   ·rw [h];exact ⟨rfl,fun _ h=>h⟩
   ·rw [h]
    refine ⟨by simp [allLost],fun _ hk p hp=> ?_⟩
    obtain ⟨x,hx,rfl⟩:=List.mem_map.1 hp
    exact hk x hx
  rcases hcs with g|g
  ·exact h2 g.2.2
  ·exact h2 (.inl g.2)
 have hst:b.state=a.state∨b.state=5:=hcs.imp (fun g=>g.1) (fun g=>g.1)
 have hbc:0≤b.conn∧b.conn<65536:=by rw [hb];exact hc
 have hbr:0≤b.room∧b.room≤1000000:=by rw [hb];exact hr
 have hbb:0≤b.base∧b.base<65536:=by rw [hb];exact hba
 have hbn:0≤b.now:=by rw [hb];exact hn
 have hbw:∀p∈b.waiting,p.lost=false:=by rw [hb];exact hlw
 have hbwl:b.waiting.length=a.waiting.length:=by rw [hb]
 have hbwt:b.waiting=a.waiting:=by rw [hb]
 have hban:b.answer=a.answer∧b.opener=a.opener∧b.heard=a.heard:=by rw [hb];exact ⟨rfl,rfl,rfl⟩
 have hkn:∀n:Int,(madeR b 5 n []).ok∧(madeR b 3 n []).ok:=fun n=>⟨made_ok (by omega) (by simp) (by simp) hbc hbr hbb hbn,made_ok (by omega) (by simp) (by simp) hbc hbr hbb hbn⟩
 have key:∀(c:E) (o:List Sg),c={b with replies:=c.replies}→(o=[]∨∃n,o=[madeR b 5 n []])→SentP a f L w now (send2 c o).1 (send2 c o).2:=by
  intro c o hcb ho
  have hcS:Snd c f L w:=by rw [hcb];exact hS1.of rfl rfl rfl rfl rfl rfl rfl
  have hcf:c.flight=b.flight∧c.state=b.state∧c.answer=b.answer∧c.waiting=b.waiting∧c.opener=b.opener∧c.heard=b.heard∧c.conn=b.conn∧c.room=b.room∧c.base=b.base∧c.now=b.now∧c.outs=b.outs:=by rw [hcb];exact ⟨rfl,rfl,rfl,rfl,rfl,rfl,rfl,rfl,rfl,rfl,rfl⟩
  have hol:o.length≤1∧ (∀ p∈o,p.kind=5∧p.ok):=by
   rcases ho with rfl|⟨n,rfl⟩
   ·simp
   ·refine ⟨by simp,fun p hp=> ?_⟩
    rw [List.mem_singleton.1 hp]
    exact ⟨rfl,(hkn n).1⟩
  have hoS:∀p∈o,SgOk f L p:=fun p hp=>⟨(hol.2 p hp).2,fun h=>by have:=(hol.2 p hp).1;omega⟩
  have hcform:∃w fl n c' g st ou r an,c={a with waiting:=w,flight:=fl,next:=n,count:=c',again:=g,state:=st,outs:=ou,replies:=r,answer:=an,now:=now}∧(st=a.state∨st=5)∧(an=true→a.answer=true):=by
   refine ⟨c.waiting,c.flight,c.next,c.count,c.again,c.state,c.outs,c.replies,c.answer,?_,?_,?_⟩
   ·rw [hcb,hb]
   ·rw [hcf.2.1];exact hst
   ·rw [hcf.2.2.1,hban.1];exact id
  unfold send2
  split
  ·rename_i h5
   dsimp only
   obtain ⟨w',fl',n',c',g',st',ou',r',an',he,h6,h7⟩:=hcform
   refine ⟨⟨w',fl',n',c',g',st',ou',r',false,by rw [he],h6.imp id .inl,by simp⟩,⟨L,⟨[],by simp⟩,hcS.of rfl rfl rfl rfl rfl rfl rfl,hoS,fun _ _=>rfl,by show L++c.waiting.map msg=_;rw [hcf.2.2.2.1,hbwt]⟩,fun p hp h3=> ?_,fun h1 h2 h3=>⟨fun p hp=> .inr (hol.2 p hp).1,?_⟩,?_,?_,?_⟩
   ·have:=(hol.2 p hp).1;omega
   ·show ∀p∈c.flight,_;rw [hcf.1];exact hfl0.2 h1 h3
   ·show ∀p∈c.waiting,_;rw [hcf.2.2.2.1];exact hbw
   ·show _→c.outs≤6∧(c.state≠5→c.outs≤5);rw [hcf.2.1,hcf.2.2.2.2.2.2.2.2.2.2];exact hou
   ·omega
  ·rename_i h5
   have hinit:SndP c f L w c o:=by
    refine ⟨.refl c,⟨L,⟨[],by simp⟩,hcS,hoS,fun _ _=>rfl,rfl⟩,fun p hp h3=> ?_,fun _ h=>⟨fun p hp=> .inr (hol.2 p hp).1,h⟩,by rw [hcf.2.2.2.1];exact hbw⟩
    have:=(hol.2 p hp).1;omega
   have hd:=SndP.due hf0 hw (by rw [hcf.2.2.2.2.2.2.1];exact hbc) (by rw [hcf.2.2.2.2.2.2.2.1];exact hbr) (by rw [hcf.2.2.2.2.2.2.2.2.1];exact hbb) (by rw [hcf.2.2.2.2.2.2.2.2.2.1];exact hbn) hinit
   have hdl:=dueGo_len c o
   generalize hd1:(dueGo c o).1=d at*
   generalize hd2:(dueGo c o).2=o2 at*
   obtain ⟨L',hL,hS',ho',hh,hT⟩:=hd.ex
   rw [hcf.2.2.2.1,hbwt] at hT
   obtain ⟨w1,fl1,n1,c1,g1,st1,hde,hds⟩:=hd.of_
   have hdo:d.outs=b.outs∧(d.state=5→b.state=5):=by
    rw [hde]
    refine ⟨hcf.2.2.2.2.2.2.2.2.2.2,fun h=> ?_⟩
    have h:st1=5:=h
    rw [hcf.2.1] at hds
    omega
   have hform:∀an2:Bool,(an2=true→d.answer=true)→∃w fl n c' g st ou r an,({d with answer:=an2}:E)={a with waiting:=w,flight:=fl,next:=n,count:=c',again:=g,state:=st,outs:=ou,replies:=r,answer:=an,now:=now}∧(st=a.state∨st=5∨(st=3∧(a.state=2∨a.state=3)))∧(an=true→a.answer=true):=by
    intro an2 han
    obtain ⟨w',fl',n',c',g',st',ou',r',an',he,h6,h7⟩:=hcform
    refine ⟨w1,fl1,n1,c1,g1,st1,ou',r',an2,by rw [hde,he],?_,fun h=> ?_⟩
    ·rw [he] at hds
     have hds:st1=st'∨(st1=3∧(st'=2∨st'=3)):=hds
     omega
    ·have h8:=han h
     rw [hde,he] at h8
     exact h7 h8
   have hlow:a.state=1→ (∀ p∈a.flight,p.kind=1)→ (∀ p∈o2,p.kind=1∨p.kind=5)∧ (∀ p∈d.flight,p.kind=1):=fun h1 h2=>by
    refine hd.low ?_ ?_
    ·rw [hcf.2.1];rcases hst with g|g
     ·omega
     ·exact absurd (.inl (hcf.2.1.trans g)) h5
    ·rw [hcf.1];exact hfl0.2 h1 h2
   have houts:a.outs≤6∧(a.state≠5→a.outs≤5)→d.outs≤6∧(d.state≠5→d.outs≤5):=fun h=>by
    have:=hou h
    rw [hdo.1]
    exact ⟨this.1,fun h2=>this.2 fun h3=>by
     have:c.state=5:=hcf.2.1.trans h3
     exact h5 (.inl this)⟩
   have hlen:o2.length≤a.flight.length+a.waiting.length+1:=by
    rw [hcf.1,hcf.2.2.2.1,hfl0.1,hbwl] at hdl
    omega
   unfold send3
   split
   ·rename_i h6
    dsimp only
    refine ⟨hform false (by simp),⟨L',hL,hS'.of rfl rfl rfl rfl rfl rfl rfl,fun p hp=> ?_,fun h1 h2=>hh (by rw [hcf.2.2.2.2.1,hban.2.1];exact h1) (by rw [hcf.2.2.2.2.2.1,hban.2.2];exact h2),hT⟩,fun p hp h3=> ?_,fun h1 h2 h3=> ?_,hd.lostW,houts,by simp⟩
    ·rw [List.mem_singleton.1 hp]
     refine ⟨?_,fun h=>absurd h (by show ¬((3:Int)=1∨(3:Int)=2∨(3:Int)=4);omega)⟩
     rw [hde]
     exact made_ok (by omega) (by simp) (by simp) (by rw [hcf.2.2.2.2.2.2.1];exact hbc) (by rw [hcf.2.2.2.2.2.2.2.1];exact hbr) (by rw [hcf.2.2.2.2.2.2.2.2.1];exact hbb) (by rw [hcf.2.2.2.2.2.2.2.2.2.1];exact hbn)
    ·rw [List.mem_singleton.1 hp];rfl
    ·exfalso
     have h8:=h6.2
     rw [hde] at h8
     have h8:c.answer=true:=h8
     rw [hcf.2.2.1,hban.1,h2] at h8
     exact absurd h8 (by simp)
   ·split
    ·rename_i h7 h6
     refine ⟨hform d.answer id,⟨L',hL,hS',by simp,fun h1 h2=>hh (by rw [hcf.2.2.2.2.1,hban.2.1];exact h1) (by rw [hcf.2.2.2.2.2.1,hban.2.2];exact h2),hT⟩,by simp,fun h1 h2 h3=>⟨by simp,(hlow h1 h3).2⟩,hd.lostW,houts,by simp⟩
    ·dsimp only
     refine ⟨hform false (by simp),⟨L',hL,hS'.of rfl rfl rfl rfl rfl rfl rfl,ho',fun h1 h2=>hh (by rw [hcf.2.2.2.2.1,hban.2.1];exact h1) (by rw [hcf.2.2.2.2.2.1,hban.2.2];exact h2),hT⟩,fun p hp h3=>absurd h3 (hd.kinds p hp),fun h1 h2 h3=>hlow h1 h3,hd.lostW,houts,by omega⟩
 unfold send1
 split
 ·exact key {b with replies:=false} _ rfl (.inr ⟨_,rfl⟩)
 ·exact key b _ rfl (.inl rfl)
end Go.Proofs.Ytdgmcckfdgnicaa
