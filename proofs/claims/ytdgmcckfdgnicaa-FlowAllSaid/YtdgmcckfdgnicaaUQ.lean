/-
 What goes now,one packet after the other:the walk of due.
-/
import Derived.Test.YtdgmcckfdgnicaaUEM
set_option linter.unusedVariables false
set_option linter.unusedSimpArgs false
set_option maxRecDepth 20000
set_option maxHeartbeats 8000000
namespace Go.Proofs.Ytdgmcckfdgnicaa
open Go Go.Aw Go.Proofs
theorem EndI.popW {H:AHeap} {e:Nat} {s:E} {q:Q} (h:EndI H e s q) {n:Nat} {wn:List Nat} {p:Pk} {ws:List Pk} {v2:Value} (hw:q.wn=n::wn) (hs:s.waiting=p::ws) (hr:RowP H v2 wn q.wj) (s':E) (t:Told) (h1:s'.waiting=ws) (h2:s'.flight=s.flight) (h3:s'.kept=s.kept):
  EndI (H.set e (.cells (endC s' {q with wv:=v2,wn:=wn,told:=t}) kE)) e s' {q with wv:=v2,wn:=wn,told:=t}∧n∉Q.names e {q with wv:=v2,wn:=wn,told:=t}:=by
 have hF:Frm [e] H (H.set e (.cells (endC s' {q with wv:=v2,wn:=wn,told:=t}) kE)):=Frm.set (Frm.refl _ _) (.inl (List.mem_singleton.2 rfl))
 have hn:∀j∈q.m::(q.wj++(q.fj++(q.wn++q.fn))),j∉[e]:=fun j hj hm=>h.ne hj (List.mem_singleton.1 hm)
 have hnd:=h.nodup
 unfold Q.names at hnd
 rw [hw] at hnd hn
 have hp0:(e::q.m::(q.wj++(q.fj++(n::wn++q.fn)))).Perm (n::(e::q.m::(q.wj++(q.fj++(wn++q.fn))))):=by
  refine List.perm_iff_count.2 fun z=> ?_
  simp only [List.count_cons,List.count_append,List.count_nil]
  omega
 have h0:=hp0.nodup hnd
 rw [List.nodup_cons] at h0
 have hl:=h.wpk.1
 rw [hw,hs] at hl
 refine ⟨⟨List.getElem?_set_self (lt_of_get h.cell),hr.frm hF fun j hj=>hn j (by simp [hj]),h.frow.frm hF fun j hj=>hn j (by simp [hj]),⟨?_,fun i m p' k1 k2=> ?_⟩,by rw [h2];exact h.fpk.frm hF fun j hj=>hn j (by simp [hj]),by rw [h3];exact hF.get h.map (hn _ (by simp)),by rw [h3];exact h.mis,h0.2⟩,h0.1⟩
 ·rw [h1];simpa using hl
 ·rw [h1] at k2
  have k1':wn[i]? =some m:=k1
  have hm:=List.mem_of_getElem? k1'
  exact hF.get (h.wpk.2 (i+1) m p' (by rw [hw];exact k1') (by rw [hs];exact k2)) (hn m (by simp [hm]))
def stopR (c:Option Nat) (s:E):Bool:=
 match c with
 |some k=>match s.flight[k]? with|some p=>p.lost&& !fitsR s p|none=>false
 |none=>match s.waiting with|[]=>true|p::_=> !(mayR s p&&fitsR s p)
structure DueOk (s:E):Prop where
 fl:s.flight.length<1099511627776
 wl:s.waiting.length<1099511627776
 fb:∀p∈s.flight,p.body.length≤100000
 wb:∀p∈s.waiting,p.body.length≤100000
theorem due (e:Nat) (H:AHeap):ARet Try.prog 42 [ptr e] H (.func (.func 59) ⟨[]⟩ ⟨[ptr H.length]⟩) (H++ [.cells [ptr e] ⟨29,0,true,0,none⟩]):=by
 refine AC.enter Try.func42 rfl (by kernel_rfl) 4 rfl [.tmp 2] rfl (by simp) fun hsc B=> ?_
 repeat first|refine kw0 ?_|exact kwz
structure DueI (e j i:Nat) (I:Option Nat→E→Q→AHeap→Prop):Prop where
 hI:∀c s q H,I c s q H→EndI H e s q∧ (∃ kk,H[j]? =some (.cells [ptr e] kk))∧j∉q.names e∧DueOk s
 skip:∀k s q H p,I (some k) s q H→s.flight[k]? =some p→p.lost=false→I (some (k+1)) s q H
 fin:∀s q H,I (some s.flight.length) s q H→I none s q H
 more:∀c s q H X,I c s q H→I c s q (H++X)
 again:∀k s q H H2 p n t,I (some k) s q H→s.flight[k]? =some p→p.lost=true→fitsR s p=true→q.fn[k]? =some n→EndI H2 e (unlostS s k p) {q with told:=t}→Frm (q.names e) H H2→AY Try.prog i [ptr n] H2 (fun u H3=>u= .bool true∧∃t2,I (some (k+1)) (sentS (unlostS s k p) k {p with lost:=false}) {q with told:=t2} H3)
 new:∀s q q2 H H2 p ws n,I none s q H→s.waiting=p::ws→mayR s p=true→fitsR s p=true→EndI H2 e (newS s p ws) q2→Frm (q.names e) H H2→ (∀ j∈q2.names e,j∈q.names e∨H.length≤j)→q2.fn[s.flight.length]? =some n→AY Try.prog i [ptr n] H2 (fun u H3=>u= .bool true∧∃q3,I none (sentS (newS s p ws) s.flight.length {p with number:=s.next}) q3 H3)
theorem AWP.seqE {g:Cfg} {Q:AExit→ASt→Prop} {st:ASt} {x y:Code} (J:ASt→Prop) (h:AWP g x (next (fun s=>∃st2,J st2∧Weak g.n0 s st2) Q) st) (k:∀st2,J st2→AWP g y Q st2):AWP g (.seq x y) Q st:=by
 refine AWP.seq (h.mono ?_)
 intro e s hq
 cases e with
 |normal=>
  obtain ⟨st2,h1,h2⟩:=hq
  exact Go.Aw.AWP.weak h2 (k _ h1)
 |exit i=>exact hq
 |goto i=>exact hq
 |ret=>exact hq
 |panic v=>exact hq
def DueJ (e j i n L:Nat) (s:E) (q:Q) (H:AHeap) (env:List (Nat×Value)) (st:ASt):Prop:=
 ∃H8 q8 kk,EndI H8 e s q8∧Frm (q.names e) H H8∧ (∀ j∈q8.names e,j∈q.names e∨H.length≤j)∧q8.fn[L]? =some n∧H8[j]? =some (.cells [ptr e] kk)∧st=⟨env,[],H8⟩
theorem due1a {e j i:Nat} {I:Option Nat→E→Q→AHeap→Prop} (hD:DueI e j i I) {H:AHeap} {s:E} {q:Q} (h0:I (some 0) s q H):
  AC Try.prog 59 [.func (.yield i) ⟨[]⟩ ⟨[]⟩,ptr j] H (fun r H2=>r= .ret noVal∧∃c s q,I c s q H2∧stopR c s=true):=by
 obtain ⟨hE0,⟨kj,hj0⟩,hjn,hok0⟩:=hD.hI _ _ _ _ h0
 have hc0:=hE0.cell
 simp only [endC] at hc0
 have q1:∀H' K,lenW Try.prog 69 q.fv H' K=K (.int .i64 (q.fn.length:Nat)) H':=fun H' K=>hE0.frow.lenW
 refine AC.enter Try.func59 rfl (by kernel_rfl) 134 rfl [] rfl (by simp) fun hsc B=> ?_
 repeat first|with_reducible refine kc ?_|((with_reducible first|refine kr ?_ ?_|refine kt ?_ ?_);exact rfl)|((with_reducible refine kf ?_ ?_);exact rfl)|simp only [go_sem,sevalprocAttr,reduceCtorEq,hj0,hc0,q1]|simp (disch:=omega) only [wz]
 have hll0:=hE0.fpk.1
 refine AWP.loopP (fun s2:Nat×E×Q×AHeap=>⟨[(0,.func (.yield i) ⟨[]⟩ ⟨[]⟩),(1,ptr j),(10,q.fv),(11,.int .i64 (q.fn.length:Nat)),(12,.int .i64 (s2.1:Nat))],[],s2.2.2.2⟩) (fun s2=>s2.1≤q.fn.length∧s2.2.2.1.fv=q.fv∧s2.2.2.1.fn=q.fn∧I (some s2.1) s2.2.1 s2.2.2.1 s2.2.2.2) (fun s2=>q.fn.length - s2.1) (0,s,q,H) ?_ ⟨Nat.zero_le _,rfl,rfl,h0⟩ ?_
 ·exact Weak.env (by simp [envIn,lk_cons,wth_some])
 rintro ⟨k,s1,q1,H1⟩ ⟨hk,hfv,hfn,hI1⟩
 simp only at hk hfv hfn hI1
 obtain ⟨hE1,⟨kj1,hj1⟩,hjn1,hok1⟩:=hD.hI _ _ _ _ hI1
 have hll:=hE1.fpk.1
 rw [hfn] at hll
 have hfl:=hok1.fl
 have hje:j≠e:=fun h=>hjn1 (by rw [h];simp [Q.names])
 by_cases hc:k<q.fn.length
 ·have hc':(k:Int)<(q.fn.length:Int):=by omega
  have hnk:q1.fn[k]? =some q.fn[k]:=by rw [hfn];exact List.getElem?_eq_getElem hc
  have hpk:s1.flight[k]? =some (s1.flight[k]'(by omega)):=List.getElem?_eq_getElem (by omega)
  generalize (s1.flight[k]'(by omega))=p at hpk
  generalize hnn:q.fn[k]=n at hnk
  obtain ⟨ji,off,cap,cs,hv,_,hji,_,_,_,hg⟩:=hE1.frow.get hnk
  rw [hfv,hfn] at hv
  have hpn0:=hE1.fpk.2 k n p hnk hpk
  have hpn:=hpn0
  unfold pkC at hpn
  have hnm:n∈q1.fn:=List.mem_of_getElem? hnk
  have hne:n≠e:=hE1.ne (by simp [hnm])
  have hjnn:n≠j:=fun h=>hjn1 (by rw [← h];simp [Q.names,hnm])
  have hnl:=lt_of_get hpn
  cases hlost:p.lost with
  |false=>
   rw [hlost] at hpn
   repeat first|refine kw6 hj1 hc' hv hji hg hpn ?_|exact kwy
   exact ⟨(k+1,s1,q1,H1),Weak.env (by simp [envIn,lk_cons,wth_some,hv]),by omega,hfv.trans hv,hfn,hD.skip _ _ _ _ _ hI1 hpk hlost,by simp;omega⟩
  | true=>
   have hfit:=fits hE1 n p hpn0 hok1.fl hok1.fb (hok1.fb p (List.mem_of_getElem? hpk))
   cases hfr:fitsR s1 p with
   |false=>
    rw [hfr] at hfit
    rw [hlost] at hpn
    repeat first|with_reducible refine hfit.use ?_|refine kw6 hj1 hc' hv hji hg hpn ?_|exact kwy
    exact ⟨_,_,.refl _ _ _,rfl,some k,s1,q1,hI1,by simp [stopR,hpk,hlost,hfr]⟩
   |true=>
    rw [hfr] at hfit
    rw [hlost] at hpn
    have hE2:=(hE1.setF hnk hpk {p with lost:=false}).put (unlostS s1 k p) q1.told rfl rfl rfl
    have hcl1:=lt_of_get hE1.cell
    have hc1:=hE1.cell
    simp only [endC] at hc1
    have hF2:Frm (q1.names e) H1 ((H1.set n (.cells (pkC {p with lost:=false}) kP)).set e (.cells (endC (unlostS s1 k p) q1) kE)):=((Frm.refl _ _).set (.inl (by simp [Q.names,hnm]))).set (.inl (by simp [Q.names]))
    have hag:=hD.again k s1 q1 H1 _ p n q1.told hI1 hpk hlost hfr hnk hE2 hF2
    simp only [endC,pkC,unlostS] at hag
    have hsn:∀o,(H1.set n o)[e]? =H1[e]? :=fun o=>List.getElem?_set_ne hne
    have hsj:∀o,(H1.set n o)[j]? =H1[j]? :=fun o=>List.getElem?_set_ne hjnn
    repeat first|with_reducible refine hfit.use ?_|refine kw11 hj1 hc' hv hji hg hpn hnl hsn hsj hc1 hcl1 ?_|exact kwy
    refine AY.mono hag ?_
    rintro v H2 ⟨rfl,t2,hI2⟩
    repeat first|refine kw1 hv ?_|exact kwy
    exact ⟨(k+1,sentS (unlostS s1 k p) k {p with lost:=false},{q1 with told:=t2},H2),Weak.env (by simp [envIn,lk_cons,wth_some,hv]),by omega,hfv.trans hv,hfn,hI2,by simp;omega⟩
 ·have : k=q.fn.length:=by omega
  subst this
  have hc':¬(q.fn.length:Int)<(q.fn.length:Int):=by omega
  repeat first|refine kw1 hc' ?_|exact kwy
  rw [hll] at hI1
  have hI2:=hD.fin _ _ _ hI1
  clear hI1 hE1 hj1 hjn1 hok1 hfv hfn hll hll0 hk hc hc' hfl
  refine AWP.loopP (fun s2:E×Q×AHeap=>⟨[(0,.func (.yield i) ⟨[]⟩ ⟨[]⟩),(1,ptr j)],[],s2.2.2⟩) (fun s2=>I none s2.1 s2.2.1 s2.2.2) (fun s2=>s2.1.waiting.length) (s1,q1,H1) ?_ hI2 ?_
  ·exact Weak.env (by simp [envIn,lk_cons,wth_some])
  clear hI2
  rintro ⟨s2,q2,H2⟩ hI2
  simp only at hI2
  obtain ⟨hE2,⟨kj2,hj2⟩,hjn2,hok2⟩:=hD.hI _ _ _ _ hI2
  have hc2:=hE2.cell
  have hcl2:=lt_of_get hc2
  simp only [endC] at hc2
  have hwl:=hE2.wpk.1
  cases hws:s2.waiting with
  | nil=>
   have hwn:q2.wn=[]:=List.eq_nil_of_length_eq_zero (by rw [hwl,hws];rfl)
   have q2l:∀H' K,lenW Try.prog 69 q2.wv H' K=K (.int .i64 (0:Nat)) H':=fun H' K=>by rw [hE2.wrow.lenW,hwn];rfl
   repeat first|refine kw0 ?_|exact kwy
   apply AWP.regionX [] [(0,0),(0,0),(0,0),(0,0),(0,0),(0,0),(0,0),(0,0),(0,0),(0,0),(0,0),(0,0),(0,0),(0,0),(0,0),(0,0),(0,0),(0,0),(0,0),(0,0),(0,0),(0,0),(0,0),(0,0),(0,0),(0,0),(0,0),(0,0),(0,0)] [40,41,42,43,44,45,46,47,48,49,50,51,52,53,54,55,56,57,58,59,60,61,62,63,64,65,66,67,68] [] [(40,_),(41,_),(42,_),(43,_),(44,_),(45,_),(46,_),(47,_),(48,_),(49,_),(50,_),(51,_),(52,_),(53,_),(54,_),(55,_),(56,_),(57,_),(58,_),(59,_),(60,_),(61,_),(62,_),(63,_),(64,_),(65,_),(66,_),(67,_),(68,_)]
   ·kernel_rfl
   ·kernel_rfl
   ·kernel_rfl
   ·kernel_rfl
   ·rfl
   ·simp only [eachB,runB]
    repeat' with_reducible refine And.intro ?_ ?_
    iterate 2 all_goals try ((repeat' first|with_reducible refine And.intro ?_ ?_|refine kx3 hj2 hc2 q2l ?_|exact kwy|exact rfl);done)
   repeat first|refine kw0 ?_|exact kwy
   exact ⟨_,_,.refl _ _ _,rfl,none,s2,q2,hI2,by simp [stopR,hws]⟩
  | cons p ws=>
   obtain ⟨n,wn,hwn,hpn0,hnm,hne⟩:=hE2.wname hws
   have hpn:=hpn0
   unfold pkC at hpn
   have hnl:=lt_of_get hpn
   have hrow:=hE2.wrow
   rw [hwn] at hrow
   obtain ⟨jw,off,cap,cs,hwv,hwj,hjw,hcap,hlc,hg,hrow2⟩:=hrow.tail
   have hjnn:n≠j:=fun h=>hjn2 (by rw [← h];exact hnm)
   have hmay:=may hE2 n p hpn0
   have hfit:=fits hE2 n p hpn0 hok2.fl hok2.fb (hok2.wb p (by rw [hws];simp))
   rw [hws] at hwl
   have hwb:=hok2.wl
   rw [hws,List.length_cons] at hwb
   rw [hwn,List.length_cons,List.length_cons] at hwl
   have hgt:((wn.length+1:Nat):Int)>0:=by omega
   cases hmr:mayR s2 p with
   | false=>
    rw [hmr] at hmay
    repeat first|refine kw0 ?_|exact kwy
    apply AWP.regionX [] [(0,0),(0,0),(0,0),(0,0),(0,0),(0,0),(0,0),(0,0),(0,0),(0,0),(0,0),(0,0),(0,0),(0,0),(0,0),(0,0),(0,0),(0,0),(0,0),(0,0),(0,0),(0,0),(0,0),(0,0),(0,0),(0,0),(0,0),(0,0),(0,0)] [40,41,42,43,44,45,46,47,48,49,50,51,52,53,54,55,56,57,58,59,60,61,62,63,64,65,66,67,68] [] [(40,_),(41,_),(42,_),(43,_),(44,_),(45,_),(46,_),(47,_),(48,_),(49,_),(50,_),(51,_),(52,_),(53,_),(54,_),(55,_),(56,_),(57,_),(58,_),(59,_),(60,_),(61,_),(62,_),(63,_),(64,_),(65,_),(66,_),(67,_),(68,_)]
    ·kernel_rfl
    ·kernel_rfl
    ·kernel_rfl
    ·kernel_rfl
    ·rfl
    ·simp only [eachB,runB]
     repeat' with_reducible refine And.intro ?_ ?_
     iterate 2 all_goals try ((repeat' first|with_reducible refine And.intro ?_ ?_|with_reducible (first|refine hmay.use ?_|refine hfit.use ?_)|refine kx6 hj2 hc2 hwv hjw hg hgt ?_|exact kwy|exact rfl);done)
    repeat first|refine kw0 ?_|exact kwy
    exact ⟨_,_,.refl _ _ _,rfl,none,s2,q2,hI2,by simp [stopR,hws,hmr]⟩
   | true =>
    rw [hmr] at hmay
    cases hfr:fitsR s2 p with
    | false=>
     rw [hfr] at hfit
     repeat first|refine kw0 ?_|exact kwy
     apply AWP.regionX [] [(0,0),(0,0),(0,0),(0,0),(0,0),(0,0),(0,0),(0,0),(0,0),(0,0),(0,0),(0,0),(0,0),(0,0),(0,0),(0,0),(0,0),(0,0),(0,0),(0,0),(0,0),(0,0),(0,0),(0,0),(0,0),(0,0),(0,0),(0,0),(0,0)] [40,41,42,43,44,45,46,47,48,49,50,51,52,53,54,55,56,57,58,59,60,61,62,63,64,65,66,67,68] [] [(40,_),(41,_),(42,_),(43,_),(44,_),(45,_),(46,_),(47,_),(48,_),(49,_),(50,_),(51,_),(52,_),(53,_),(54,_),(55,_),(56,_),(57,_),(58,_),(59,_),(60,_),(61,_),(62,_),(63,_),(64,_),(65,_),(66,_),(67,_),(68,_)]
     ·kernel_rfl
     ·kernel_rfl
     ·kernel_rfl
     ·kernel_rfl
     ·rfl
     ·simp only [eachB,runB]
      repeat' with_reducible refine And.intro ?_ ?_
      iterate 2 all_goals try ((repeat' first|with_reducible refine And.intro ?_ ?_|with_reducible (first|refine hmay.use ?_|refine hfit.use ?_)|refine kx6 hj2 hc2 hwv hjw hg hgt ?_|exact kwy|exact rfl);done)
     repeat first|refine kw0 ?_|exact kwy
     exact ⟨_,_,.refl _ _ _,rfl,none,s2,q2,hI2,by simp [stopR,hws,hmr,hfr]⟩
    | true=>
     rw [hfr] at hfit
     repeat first|refine kw0 ?_|exact kwy
     apply AWP.regionX [] [(0,0),(0,0),(0,0),(0,0),(0,0),(0,0),(0,0),(0,0),(0,0),(0,0),(0,0),(0,0),(0,0),(0,0),(0,0),(0,0),(0,0),(0,0),(0,0),(0,0),(0,0),(0,0),(0,0),(0,0),(0,0),(0,0),(0,0),(0,0),(0,0)] [40,41,42,43,44,45,46,47,48,49,50,51,52,53,54,55,56,57,58,59,60,61,62,63,64,65,66,67,68] [] [(40,_),(41,_),(42,_),(43,_),(44,_),(45,_),(46,_),(47,_),(48,_),(49,_),(50,_),(51,_),(52,_),(53,_),(54,_),(55,_),(56,_),(57,_),(58,_),(59,_),(60,_),(61,_),(62,_),(63,_),(64,_),(65,_),(66,_),(67,_),(68,_)]
     ·kernel_rfl
     ·kernel_rfl
     ·kernel_rfl
     ·kernel_rfl
     ·rfl
     ·simp only [eachB,runB]
      repeat' with_reducible refine And.intro ?_ ?_
      iterate 2 all_goals try ((repeat' first|with_reducible refine And.intro ?_ ?_|with_reducible (first|refine hmay.use ?_|refine hfit.use ?_)|refine kx6 hj2 hc2 hwv hjw hg hgt ?_|exact kwy|exact rfl);done)
     repeat first|refine kw0 ?_|exact kwy
     clear hmay hfit hgt
     obtain ⟨hE3,hn3⟩:=hE2.popW hwn hws hrow2 {s2 with waiting:=ws} q2.told rfl rfl rfl
     obtain ⟨H3,hH3⟩:∃H3,H3=H2.set e (.cells (endC {s2 with waiting:=ws} {q2 with wv:= .slice (some ⟨jw,off+1,none⟩) wn.length (cap - 1),wn:=wn,told:=q2.told}) kE):=⟨_,rfl⟩
     rw [← hH3] at hE3
     have hF3:Frm (q2.names e) H2 H3:=by rw [hH3];exact Frm.set (Frm.refl _ _) (.inl (by simp [Q.names]))
     have hl3:H3.length=H2.length:=by rw [hH3,List.length_set]
     have hj3:H3[j]? =some (.cells [ptr e] kj2):=by rw [hH3,List.getElem?_set_ne (fun h=>hje h.symm)];exact hj2
     have hp3:H3[n]? =some (.cells [.int .i64 p.kind,.int .i64 p.number,.string (bs p.body),.int .i64 p.sent,.int .i64 p.times,.int .i64 p.later,.bool p.quick,.bool p.lost] kP):=by rw [hH3,List.getElem?_set_ne (fun h=>hne h.symm)];exact hpn
     have hH3':=hH3.symm
     simp only [endC] at hH3'
     clear hH3
     have hc3:=hE3.cell
     simp only [endC] at hc3
     obtain ⟨H4,hH4⟩:∃H4,H4=H3.set n (.cells (pkC {p with number:=s2.next}) kP):=⟨_,rfl⟩
     have hF4:Frm [n] H3 H4:=by rw [hH4];exact Frm.set (Frm.refl _ _) (.inl (List.mem_singleton.2 rfl))
     have hE4:=hE3.frm hF4 (fun j hj hm=>hn3 (by rw [← List.mem_singleton.1 hm];exact hj))
     have hj4:H4[j]? =some (.cells [ptr e] kj2):=hF4.get hj3 (fun hm=>hjnn (List.mem_singleton.1 hm).symm)
     have hp4:H4[n]? =some (.cells (pkC {p with number:=s2.next}) kP):=by rw [hH4];exact List.getElem?_set_self (by omega)
     have hH4':=hH4.symm
     simp only [pkC] at hH4' hp4
     have hc4:=hE4.cell
     have hcl4:=lt_of_get hc4
     simp only [endC] at hc4
     have hl4:H4.length=H2.length:=by rw [hH4,List.length_set];exact hl3
     clear hH4
     have hgt2:0<((wn.length+1:Nat):Int):=by omega
     repeat first|refine kw7 hj2 hc2 hcl2 hwv hjw hg hgt2 ?_|exact kwy
     have hgt3:1≤((wn.length+1:Nat):Int):=by omega
     have hgt4:((wn.length+1:Nat):Int)≤(cap:Int):=by omega
     apply AWP.regionX [10] [(0,0),(0,0),(0,0),(0,0),(0,0),(0,0),(0,0),(0,0),(0,0),(0,0),(0,0)] [76,77,78,79,80,81,82,83,84,85] [_] [(76,_),(77,_),(78,_),(79,_),(80,_),(81,_),(82,_),(83,_),(84,_),(85,_)]
     ·kernel_rfl
     ·kernel_rfl
     ·kernel_rfl
     ·kernel_rfl
     ·rfl
     ·simp only [eachB,runB]
      repeat' with_reducible refine And.intro ?_ ?_
      iterate 2 all_goals try ((repeat' first|with_reducible refine And.intro ?_ ?_|refine kx8 hj2 hc2 hcl2 hwv hjw hH3' hgt3 hgt4 ?_|exact kwy|exact rfl);done)
     repeat first|refine kw6 hj3 hc3 hp3 hH4' hnl hl3 ?_|exact kwy
     have hE5:=hE4.put {s2 with waiting:=ws,next:=IntKind.i64.wrap (s2.next+1)} q2.told rfl rfl rfl
     obtain ⟨H5,hH5⟩:∃H5,H5=H4.set e (.cells (endC {s2 with waiting:=ws,next:=IntKind.i64.wrap (s2.next+1)} {q2 with wv:= .slice (some ⟨jw,off+1,none⟩) wn.length (cap - 1),wn:=wn,told:=q2.told}) kE):=⟨_,rfl⟩
     have hF5:Frm [e] H4 H5:=by rw [hH5];exact Frm.set (Frm.refl _ _) (.inl (List.mem_singleton.2 rfl))
     rw [← hH5] at hE5
     have hH5':=hH5.symm
     simp only [endC] at hH5'
     have hj5:=hF5.get hj4 (fun hm=>hje (List.mem_singleton.1 hm))
     have hp5:=hF5.get hp4 (fun hm=>hne (List.mem_singleton.1 hm))
     have hl5:H5.length=H2.length:=by rw [hH5,List.length_set];exact hl4
     have hc5:=hE5.cell
     have hcl5:=lt_of_get hc5
     simp only [endC] at hc5
     clear hH5
     have hE6:=hE5.put {s2 with waiting:=ws,next:=IntKind.i64.wrap (s2.next+1),count:=IntKind.i64.wrap (s2.count+1)} q2.told rfl rfl rfl
     obtain ⟨H6,hH6⟩:∃H6,H6=H5.set e (.cells (endC {s2 with waiting:=ws,next:=IntKind.i64.wrap (s2.next+1),count:=IntKind.i64.wrap (s2.count+1)} {q2 with wv:= .slice (some ⟨jw,off+1,none⟩) wn.length (cap - 1),wn:=wn,told:=q2.told}) kE):=⟨_,rfl⟩
     have hF6:Frm [e] H5 H6:=by rw [hH6];exact Frm.set (Frm.refl _ _) (.inl (List.mem_singleton.2 rfl))
     rw [← hH6] at hE6
     have hH6':=hH6.symm
     simp only [endC] at hH6'
     have hj6:=hF6.get hj5 (fun hm=>hje (List.mem_singleton.1 hm))
     have hp6:=hF6.get hp5 (fun hm=>hne (List.mem_singleton.1 hm))
     have hl6:H6.length=H2.length:=by rw [hH6,List.length_set];exact hl5
     have hc6:=hE6.cell
     have hcl6:=lt_of_get hc6
     simp only [endC] at hc6
     clear hH6
     repeat first|with_reducible refine AWP.seqE (x:= .region 15 _ _) (DueJ e j i n s2.flight.length {s2 with waiting:=ws,flight:=s2.flight++[{p with number:=s2.next}],next:=IntKind.i64.wrap (s2.next+1),count:=IntKind.i64.wrap (s2.count+1)} q2 H2 [(0,.func (.yield i) ⟨[]⟩ ⟨[]⟩),(1,ptr j),(5,ptr n)]) ?_ ?_|refine kw8 hj4 hc4 hcl4 hH5' hj5 hc5 hcl5 hH6' ?_|exact kwy
     ·refine AWP.regionM 9 [0,1,5,7,8] [(1,ptr e)] (.both (.step 0 (.both (.step 1 (.both (.run [5,7,8]) (.run [7,5,8]))) (.run [7,1,5,8]))) (.both (.step 1 (.both (.step 0 (.both (.run [5,7,8]) (.run [7,5,8]))) (.both (.step 5 (.both (.run [0,7,8]) (.step 7 (.both (.run [0,8]) (.run [8,0]))))) (.step 7 (.both (.run [0,5,8]) (.step 5 (.both (.run [0,8]) (.run [8,0])))))))) (.step 7 (.both (.run [0,1,5,8]) (.step 1 (.both (.run [0,5,8]) (.step 5 (.both (.run [0,8]) (.run [8,0]))))))))) (by kernel_rfl) (by decide) (by kernel_rfl) (by kernel_rfl) (by kernel_rfl) ?_
      have hjl6:=lt_of_get hj6
      have hF26:Frm (q2.names e) H2 H6:=((hF3.trans (hF4.mono fun j hm=>by rw [List.mem_singleton.1 hm];exact hnm) (fun j hm=> .inl hm)).trans (hF5.mono fun j hm=>by rw [List.mem_singleton.1 hm];simp [Q.names]) (fun j hm=> .inl hm)).trans (hF6.mono fun j hm=>by rw [List.mem_singleton.1 hm];simp [Q.names]) (fun j hm=> .inl hm)
      have hsub:∀j∈Q.names e {q2 with wv:= .slice (some ⟨jw,off+1,none⟩) wn.length (cap - 1),wn:=wn,told:=q2.told},j∈q2.names e:=fun j hm=>by
       simp only [Q.names,hwn,List.mem_cons,List.mem_append] at hm ⊢
       rcases hm with h|h|h|h|h|h
       ·exact .inl h
       ·exact .inr (.inl h)
       ·exact .inr (.inr (.inl h))
       ·exact .inr (.inr (.inr (.inl h)))
       ·exact .inr (.inr (.inr (.inr (.inl (.inr h)))))
       ·exact .inr (.inr (.inr (.inr (.inr h))))
      have hffl:=hE6.fpk.1
      simp only at hffl
      have hjf:j∉q2.fj:=fun hm=>hjn2 (by simp [Q.names,hm])
      repeat' first|with_reducible refine canW_n ?_|with_reducible refine canW_m (by decide) ?_|((with_reducible apply canW_p (by decide));focus (intro H;(simp only [go_sem,sevalprocAttr,reduceCtorEq,hj6,hc6,hcl6,hgetl,hjl6,List.map_cons,List.map_nil]);exact rfl))|with_reducible refine memW_b ?_ ?_|with_reducible refine memW_s rfl ?_|with_reducible refine memW_r rfl ?_|with_reducible refine memW_e ?_|simp only [List.take_succ_cons,List.take_zero,List.drop_succ_cons,List.drop_zero]|omega|with_reducible refine And.intro ?_ ?_|refine kw7 hj6 hc6 hcl6 @hgetl hjl6 @List.map_cons.{0,0} @List.map_nil.{0,0} ?_|exact kwy|fail
      all_goals
       refine (hE6.frow.add _).append (n:=n) (by simp only;have:=hok2.fl;omega) fun v7 H7 js7 hr hF hj=> ?_
       have he7:=hF.get (show (H6++_)[e]? =_ from by rw [hgetl hcl6];exact hc6) (fun hm=>hE6.ne (j:=e) (by simp [hm]) rfl)
       have hj7:=hF.get (show (H6++_)[j]? =_ from by rw [hgetl hjl6];exact hj6) hjf
       have hel7:=lt_of_get he7
       obtain ⟨hv1,hv2⟩:=hr.cells
       repeat' first|with_reducible refine canW_n ?_|with_reducible refine canW_m (by decide) ?_|((with_reducible apply canW_p (by decide));focus (intro H;(simp only [go_sem,sevalprocAttr,reduceCtorEq,he7,hel7,hj7,hv1,List.map_cons,List.map_nil]);exact rfl))|with_reducible refine memW_b ?_ ?_|with_reducible refine memW_s rfl ?_|with_reducible refine memW_r rfl ?_|with_reducible refine memW_e ?_|simp only [List.take_succ_cons,List.take_zero,List.drop_succ_cons,List.drop_zero]|omega|with_reducible refine And.intro ?_ ?_|refine kw6 he7 hel7 hj7 hv1 @List.map_cons.{0,0} @List.map_nil.{0,0} ?_|exact kwy|fail
       ·exact hv2
       ·have hP:=hE6.pushF (H2:=H7) (v2:=v7) (js2:=js7) (n:=n) (p:={p with number:=s2.next}) (Frm.trans Frm.app hF (fun j hj=> .inl hj)) hr (fun j hm=>(hj j hm).imp id fun h=>by rw [h,List.length_append];omega) hn3 (by omega) hp6 {s2 with waiting:=ws,flight:=s2.flight++[{p with number:=s2.next}],next:=IntKind.i64.wrap (s2.next+1),count:=IntKind.i64.wrap (s2.count+1)} q2.told rfl rfl rfl
        have hP1:=hP.1
        have hP2:=hP.2
        simp only [endC] at hP1 hP2
        refine ⟨_,⟨_,_,kj2,hP1,hF26.trans (hP2.mono hsub) (fun j hm=> .inl hm),fun j hm=> ?_,?_,?_,rfl⟩,Weak.env (by simp [envIn,lk_cons,wth_some])⟩
        ·simp only [Q.names,hwn,List.mem_cons,List.mem_append,List.not_mem_nil,or_false] at hm ⊢
         rcases hm with h|h|h|h|h|h|h
         ·exact .inl (.inl h)
         ·exact .inl (.inr (.inl h))
         ·exact .inl (.inr (.inr (.inl h)))
         ·rcases hj j h with h|h
          ·exact .inl (.inr (.inr (.inr (.inl h))))
          ·exact .inr (by rw [h,List.length_append];omega)
         ·exact .inl (.inr (.inr (.inr (.inr (.inl (.inr h))))))
         ·exact .inl (.inr (.inr (.inr (.inr (.inr h)))))
         ·exact .inl (.inr (.inr (.inr (.inr (.inl (.inl h))))))
        ·simp only
         rw [← hffl,List.getElem?_append_right (Nat.le_refl _),Nat.sub_self];rfl
        ·rw [List.getElem?_set_ne (fun h=>hje h.symm)];exact hj7
     ·rintro _ ⟨H8,q8,kk8,hE8,hF8,hn8,hfn8,hj8,rfl⟩
      have hc8:=hE8.cell
      have hcl8:=lt_of_get hc8
      simp only [endC] at hc8
      have hp8:=hE8.fpk.2 s2.flight.length n {p with number:=s2.next} hfn8 (by simp)
      simp only [pkC] at hp8
      have hnew:=hD.new s2 q2
      by_cases hk4:p.kind=4
      ·have hk4':(p.kind==4)=true:=by simp [hk4]
       have hE9:=hE8.put (newS s2 p ws) q8.told rfl rfl rfl
       have hag:=hnew _ H2 _ p ws n hI2 hws hmr hfr hE9 (hF8.set (.inl (by simp [Q.names]))) hn8 hfn8
       simp only [newS,endC,hk4,if_true] at hag
       repeat first|refine kw5 hj8 hc8 hcl8 hp8 hk4' ?_|exact kwy
       refine AY.mono hag ?_
       rintro v H9 ⟨rfl,q9,hI9⟩
       repeat first|refine kw0 ?_|exact kwy
       exact ⟨(sentS (newS s2 p ws) s2.flight.length {p with number:=s2.next},q9,H9),Weak.env (by simp [envIn,lk_cons,wth_some]),by simpa only [newS,hk4,if_true] using hI9,by simp [sentS,newS,hws]⟩
      ·have hk4':(p.kind==4)=false:=by simp [hk4]
       have hag:=hnew q8 H2 H8 p ws n hI2 hws hmr hfr (by unfold newS;rw [if_neg hk4];exact hE8) hF8 hn8 hfn8
       repeat first|refine kw5 hj8 hc8 hcl8 hp8 hk4' ?_|exact kwy
       refine AY.mono hag ?_
       rintro v H9 ⟨rfl,q9,hI9⟩
       repeat first|refine kw0 ?_|exact kwy
       exact ⟨(sentS (newS s2 p ws) s2.flight.length {p with number:=s2.next},q9,H9),Weak.env (by simp [envIn,lk_cons,wth_some]),hI9,by simp [sentS,newS,hws]⟩
end Go.Proofs.Ytdgmcckfdgnicaa
