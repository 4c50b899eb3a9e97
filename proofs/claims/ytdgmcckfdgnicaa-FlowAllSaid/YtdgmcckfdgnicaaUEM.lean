/-
  A part of the proof of a statement of this seat.
-/
import Derived.Test.YtdgmcckfdgnicaaUD
import Derived.Test.YtdgmcckfdgnicaaUMM
set_option linter.unusedVariables false
set_option linter.unusedSimpArgs false
set_option maxRecDepth 20000
set_option maxHeartbeats 8000000
namespace Go.Proofs.Ytdgmcckfdgnicaa
open Go Go.Aw Go.Proofs
theorem nodup_get {α :Type}:∀{l:List α},l.Nodup→∀{i j:Nat} {x:α},l[i]? =some x→l[j]? =some x→i=j
 |[],_,i,j,x,h,_=>by simp at h
 | y::l,hn,i,j,x,h1,h2=>by
  rw [List.nodup_cons] at hn
  cases i with
  | zero=>
   cases j with
   |zero=>rfl
   |succ j=>
    have e1:y=x:=by simpa using h1
    have e2:l[j]? =some x:=by simpa using h2
    exact absurd (e1 ▸ List.mem_of_getElem? e2) hn.1
  | succ i=>
   cases j with
   |zero=>
    have e1:y=x:=by simpa using h2
    have e2:l[i]? =some x:=by simpa using h1
    exact absurd (e1 ▸ List.mem_of_getElem? e2) hn.1
   |succ j=>
    have:=nodup_get hn.2 (i:=i) (j:=j) (x:=x) (by simpa using h1) (by simpa using h2)
    omega
theorem rank_of {fl:List Pk} {n i:Nat} (h:(underN fl)[n]? =some i):rankP fl i=n:=by
 have hm:=List.mem_of_getElem? h
 unfold underN at hm
 rw [List.mem_filter,List.mem_range] at hm
 have h2:=filter_range_get hm.1 hm.2
 have hnd:(underN fl).Nodup:=List.nodup_range.filter _
 have h3:(underN fl)[rankP fl i]? =some i:=h2
 exact nodup_get hnd h3 h
theorem rank_lt {fl:List Pk} {i:Nat} (hi:i<fl.length) (h:nl fl i=true):rankP fl i<(underN fl).length∧(underN fl)[rankP fl i]? =some i:=by
 have h3:(underN fl)[rankP fl i]? =some i:=filter_range_get hi h
 exact ⟨(List.getElem?_eq_some_iff.1 h3).1,h3⟩
def lostN (fl:List Pk) (n i:Nat) (p:Pk):Pk:=if nl fl i=true∧rankP fl i<n then {p with lost:=true} else p
def LostAt (H:AHeap) (fn:List Nat) (fl:List Pk) (n:Nat):Prop:=∀(i m:Nat) (p:Pk),fn[i]? =some m→fl[i]? =some p→H[m]? =some (.cells (pkC (lostN fl n i p)) kP)
def allLost (fl:List Pk):List Pk:=fl.map fun p=>{p with lost:=true}
def overdueR (s:E):E:=
 if (earl s.flight).2=false∨IntKind.i64.wrap (s.now - (earl s.flight).1)≤waitR s then s
 else if s.outs+1=6 then {s with outs:=s.outs+1,state:=5,replies:=true}
 else {s with outs:=s.outs+1,flight:=allLost s.flight}
theorem RowP.more' {H:AHeap} {v:Value} {l js:List Nat} (h:RowP H v l js) (X:AHeap):RowP (H++X) v l js:=h.frm (S:=[]) Frm.app (by simp)
theorem overdue {H:AHeap} {e:Nat} {s:E} {q:Q} (h:EndI H e s q) (hl:s.flight.length<1099511627776) (ho:s.outs<1000):
  AC Try.prog 40 [ptr e] H (fun r H2=>r= .ret noVal∧∃t,EndI H2 e (overdueR s) {q with told:=t}∧Frm (q.names e) H H2):=by
 have hc:=h.cell
 simp only [endC] at hc
 have hcl:=lt_of_get hc
 have hea:=earliest e q.fv q.fn q.fj s.flight H h.u h.frow h.fpk hl
 have hw:=wait h
 have hself:e∈q.names e:=by simp [Q.names]
 unfold overdueR
 rcases hE:earl s.flight with ⟨a0,sm⟩
 rw [hE] at hea
 cases sm with
 | false=>
  rw [if_pos (.inl rfl)]
  refine AC.enter Try.func40 rfl (by kernel_rfl) 62 rfl [] rfl (by simp) fun hsc B=> ?_
  repeat first|with_reducible refine hea.use ?_|refine kw0 ?_|exact kwy
  apply AWP.regionX [] [(0,0),(0,0),(0,0),(0,0),(0,0),(0,0),(0,0),(0,0),(0,0),(0,0),(0,0),(0,0),(0,0)] [10,11,12,13,14,15,16,17,18,19,20,21,22] [] [(10,_),(11,_),(12,_),(13,_),(14,_),(15,_),(16,_),(17,_),(18,_),(19,_),(20,_),(21,_),(22,_)]
  ·kernel_rfl
  ·kernel_rfl
  ·kernel_rfl
  ·kernel_rfl
  ·rfl
  ·simp only [eachB,runB]
   repeat' with_reducible refine And.intro ?_ ?_
   iterate 2 all_goals try ((repeat' first|with_reducible refine And.intro ?_ ?_|with_reducible refine hw.use ?_|refine kx1 hc ?_|exact kwy|exact rfl);done)
  repeat first|refine kw0 ?_|exact kwy
  exact ⟨_,_,.refl _ _ _,rfl,q.told,h,Frm.refl _ _⟩
 | true =>
  by_cases hle:IntKind.i64.wrap (s.now - a0)≤waitR s
  ·rw [if_pos (.inr hle)]
   refine AC.enter Try.func40 rfl (by kernel_rfl) 62 rfl [] rfl (by simp) fun hsc B=> ?_
   repeat first|with_reducible refine hea.use ?_|refine kw0 ?_|exact kwy
   apply AWP.regionX [] [(0,0),(0,0),(0,0),(0,0),(0,0),(0,0),(0,0),(0,0),(0,0),(0,0),(0,0),(0,0),(0,0)] [10,11,12,13,14,15,16,17,18,19,20,21,22] [] [(10,_),(11,_),(12,_),(13,_),(14,_),(15,_),(16,_),(17,_),(18,_),(19,_),(20,_),(21,_),(22,_)]
   ·kernel_rfl
   ·kernel_rfl
   ·kernel_rfl
   ·kernel_rfl
   ·rfl
   ·simp only [eachB,runB]
    repeat' with_reducible refine And.intro ?_ ?_
    iterate 2 all_goals try ((repeat' first|with_reducible refine And.intro ?_ ?_|with_reducible refine hw.use ?_|refine kx2 hc hle ?_|exact kwy|exact rfl);done)
   repeat first|refine kw0 ?_|exact kwy
   exact ⟨_,_,.refl _ _ _,rfl,q.told,h,Frm.refl _ _⟩
  ·rw [if_neg (by simp;omega)]
   have ho1:(((s.outs:Nat):Int)+1)=((s.outs+1:Nat):Int):=by omega
   by_cases h6:s.outs+1=6
   ·rw [if_pos h6]
    have h6':(((s.outs:Nat):Int)+1==6)=true:=by simp;omega
    refine AC.enter Try.func40 rfl (by kernel_rfl) 62 rfl [] rfl (by simp) fun hsc B=> ?_
    repeat first|with_reducible refine hea.use ?_|refine kw0 ?_|exact kwy
    apply AWP.regionX [] [(0,0),(0,0),(0,0),(0,0),(0,0),(0,0),(0,0),(0,0),(0,0),(0,0),(0,0),(0,0),(0,0)] [10,11,12,13,14,15,16,17,18,19,20,21,22] [] [(10,_),(11,_),(12,_),(13,_),(14,_),(15,_),(16,_),(17,_),(18,_),(19,_),(20,_),(21,_),(22,_)]
    ·kernel_rfl
    ·kernel_rfl
    ·kernel_rfl
    ·kernel_rfl
    ·rfl
    ·simp only [eachB,runB]
     repeat' with_reducible refine And.intro ?_ ?_
     iterate 2 all_goals try ((repeat' first|with_reducible refine And.intro ?_ ?_|with_reducible refine hw.use ?_|refine kx2 hc hle ?_|exact kwy|exact rfl);done)
    repeat first|refine kw3 hc hcl h6' ?_|exact kwy
    refine ⟨_,_,.refl _ _ _,rfl,{q.told with outs:=IntKind.i64.wrap (q.told.outs+1)},?_,Frm.set (Frm.refl _ _) (.inl hself)⟩
    have:=h.put {s with outs:=s.outs+1,state:=5,replies:=true} {q.told with outs:=IntKind.i64.wrap (q.told.outs+1)} rfl rfl rfl
    simpa only [endC,Int.natCast_add,Int.natCast_one] using this
   ·rw [if_neg h6]
    have h6':(((s.outs:Nat):Int)+1==6)=false:=by simp;omega
    have hput:=h.put {s with outs:=s.outs+1} {q.told with outs:=IntKind.i64.wrap (q.told.outs+1)} rfl rfl rfl
    obtain ⟨H1,hH1⟩:∃H1,H1=H.set e (.cells (endC {s with outs:=s.outs+1} {q with told:={q.told with outs:=IntKind.i64.wrap (q.told.outs+1)}}) kE):=⟨_,rfl⟩
    rw [← hH1] at hput
    have hF1:Frm [e] H H1:=by rw [hH1];exact Frm.set (Frm.refl _ _) (.inl (List.mem_singleton.2 rfl))
    have hlen:H1.length=H.length:=by rw [hH1,List.length_set]
    have hH1':=hH1.symm
    simp only [endC,Int.natCast_add,Int.natCast_one] at hH1'
    clear hH1
    generalize {q.told with outs:=IntKind.i64.wrap (q.told.outs+1)}=t2 at hput
    have hfnl:∀j∈q.fn,j<H1.length:=fun j hj=>by
     obtain ⟨i,hi⟩:=List.getElem?_of_mem hj
     have hil:=(List.getElem?_eq_some_iff.1 hi).1
     have hp1:=hput.fpk.1
     exact lt_of_get (hput.fpk.2 i j _ hi (List.getElem?_eq_getElem (by dsimp only at hp1 ⊢;omega)))
    have hfnd:q.fn.Nodup:=by
     have:=hput.nodup
     unfold Q.names at this
     dsimp only at this
     rw [List.nodup_cons,List.nodup_cons,List.nodup_append,List.nodup_append,List.nodup_append] at this
     exact this.2.2.2.1.2.1.2.1
    have hpk:=hput.fpk
    dsimp only at hpk
    refine AC.enter Try.func40 rfl (by kernel_rfl) 62 rfl [] rfl (by simp) fun hsc B=> ?_
    repeat first|with_reducible refine hea.use ?_|refine kw0 ?_|exact kwy
    apply AWP.regionX [] [(0,0),(0,0),(0,0),(0,0),(0,0),(0,0),(0,0),(0,0),(0,0),(0,0),(0,0),(0,0),(0,0)] [10,11,12,13,14,15,16,17,18,19,20,21,22] [] [(10,_),(11,_),(12,_),(13,_),(14,_),(15,_),(16,_),(17,_),(18,_),(19,_),(20,_),(21,_),(22,_)]
    ·kernel_rfl
    ·kernel_rfl
    ·kernel_rfl
    ·kernel_rfl
    ·rfl
    ·simp only [eachB,runB]
     repeat' with_reducible refine And.intro ?_ ?_
     iterate 2 all_goals try ((repeat' first|with_reducible refine And.intro ?_ ?_|with_reducible refine hw.use ?_|refine kx2 hc hle ?_|exact kwy|exact rfl);done)
    repeat first|with_reducible refine (under _ _).use ?_|refine kw4 hc hcl h6' hH1' ?_|exact kwy
    refine AWP.rangeI (under1 e H1.length q.fv q.fn q.fj s.flight hl) rfl (by simp [hlen]) (by simp only [go_sem,sevalprocAttr,reduceCtorEq]) fun L hL=>
     ⟨fun n H2=>n≤(underN s.flight).length∧Frm q.fn (H1++ [.cells [ptr e] ⟨100,0,true,0,none⟩,.loop L]) H2∧LostAt H2 q.fn s.flight n,fun _=>False,⟨Nat.zero_le _,?_,?_⟩,?_,?_,?_⟩
    ·rw [List.append_assoc];exact Frm.refl _ _
    ·intro i m p h1 h2
     rw [hgetl (by have:=lt_of_get (hpk.2 i m p h1 h2);simp;omega),hgetl (lt_of_get (hpk.2 i m p h1 h2))]
     unfold lostN
     rw [if_neg (by omega)]
     exact hpk.2 i m p h1 h2
    ·rintro n H2 ⟨hn,hF,hA⟩
     have hnf:∀j∈(Q.names e {q with told:=t2}),j∉q.fn→∀o,H1[j]? =some o→H2[j]? =some o:=fun j _ hj o ho=>hF.get (by rw [hgetl (lt_of_get ho)];exact ho) hj
     have hnd:=hput.nodup
     unfold Q.names at hnd
     dsimp only at hnd
     have hdis:∀j∈e::q.m::(q.wj++(q.fj++q.wn)),j∉q.fn:=fun j hj hm=>by
      have:((e::q.m::(q.wj++(q.fj++q.wn)))++q.fn).Nodup:=by simpa [List.append_assoc] using hnd
      rw [List.nodup_append] at this
      exact this.2.2 j hj j hm rfl
     refine ⟨⟨⟨100,0,true,0,none⟩,hF.get (by simp) (fun hm=>by have:=hfnl _ hm;omega)⟩,⟨_,_,hF.get (by rw [hgetl (lt_of_get hput.cell)];exact hput.cell) (hdis e (by simp)),rfl⟩,(hput.frow.more' _).frm hF (fun j hj=>hdis j (by simp [hj])),hpk.1,fun i m p h1 h2=> ?_⟩
     refine ⟨_,_,(lostN s.flight n i p).lost,hA i m p h1 h2,rfl,fun h=> ?_,fun h hk=> ?_⟩
     ·unfold lostN;split
      ·rfl
      ·exact h
     ·unfold lostN;rw [if_neg (by omega)];exact h
    ·rintro n args H2 ha ⟨hn,hF,hA⟩
     obtain ⟨i,m,p,h1,h2,h3,h4,rfl⟩:=underA_get hpk.1 ha
     have hri:=rank_of h1
     have hnl:nl s.flight i=true:=by unfold nl;rw [h3];simp [h4]
     have hm:=hA i m p h2 h3
     unfold lostN pkC at hm
     rw [if_neg (by omega)] at hm
     have hml:=lt_of_get hm
     have hmf:m∈q.fn:=List.mem_of_getElem? h2
     have hmH:=hfnl m hmf
     have hLp:H2[H1.length+1]? =some (.loop L):=hF.get (by rw [List.getElem?_append_right (by omega)];simp) (fun hm=>by have:=hfnl _ hm;omega)
     have hLl:=lt_of_get hLp
     have hn2:=(List.getElem?_eq_some_iff.1 h1).1
     simp only [go_sem,sevalprocAttr,reduceCtorEq]
     refine AY.of (L:=L) hLp (by rw [hL]) (by rw [hL];rfl) (by rw [hL];simp) fun hsc2 lr B2=> ?_
     subst hL
     simp only [zipEnv]
     have hsm:∀o,(H2.set (H1.length+1) o)[m]? =H2[m]? :=fun o=>List.getElem?_set_ne (by omega)
     repeat first|refine kw3 hm hml hsm ?_|exact kwy
     refine ⟨_,hLp,rfl,?_⟩
     repeat first|refine kw3 hm hml hsm ?_|exact kwy
     refine ⟨_,(List.getElem?_set_ne (by omega)).trans (List.getElem?_set_self hLl),?_⟩
     repeat first|refine kw3 hm hml hsm ?_|exact kwy
     refine ⟨_,.refl _ _ _,true,rfl,fun _=>⟨by omega,⟨by simpa using hF.1,fun j hj hjn=> ?_⟩,fun i' m' p' k2 k3=> ?_⟩,fun e=>by cases e⟩
     ·by_cases hj1:j=H1.length+1
      ·subst hj1
       rw [List.getElem?_set_self (by simpa using hLl),List.getElem?_append_right (by omega)]
       simp
      ·rw [List.getElem?_set_ne (fun e=>hj1 e.symm),List.getElem?_set_ne (show m≠j from fun e=>hjn (e ▸ hmf)),List.getElem?_set_ne (fun e=>hj1 e.symm)]
       exact hF.2 j hj hjn
     ·have hm'H:=hfnl m' (List.mem_of_getElem? k2)
      rw [List.getElem?_set_ne (by omega)]
      by_cases hii:i'=i
      ·subst hii
       rw [h2] at k2;cases k2
       rw [h3] at k3;cases k3
       rw [List.getElem?_set_self (by simpa using hml)]
       unfold lostN
       rw [if_pos ⟨hnl,by omega⟩]
       rfl
      ·have hmm:m≠m':=fun e=>hii (nodup_get hfnd k2 (e ▸ h2))
       rw [List.getElem?_set_ne hmm,List.getElem?_set_ne (by omega),hA i' m' p' k2 k3]
       have hiff:(nl s.flight i'=true∧rankP s.flight i'<n+1)↔(nl s.flight i'=true∧rankP s.flight i'<n):=by
        constructor
        ·rintro ⟨g1,g2⟩
         refine ⟨g1,?_⟩
         have g3:=(rank_lt (List.getElem?_eq_some_iff.1 k3).1 g1).2
         have:rankP s.flight i'≠n:=fun e=>by
          rw [e,h1] at g3
          exact hii (Option.some.inj g3).symm
         omega
        ·rintro ⟨g1,g2⟩
         exact ⟨g1,by omega⟩
       unfold lostN
       simp only [hiff]
    ·rintro H2 (⟨hn,hF,hA⟩|h)
     ·subst hL
      have hLp:H2[H1.length+1]? =some (.loop _):=hF.get (by rw [List.getElem?_append_right (by omega)];simp;rfl) (fun hm=>by have:=hfnl _ hm;omega)
      repeat first|refine kw0 ?_|exact kwy
      refine ⟨_,hLp,by simp,?_⟩
      dsimp only
      have hLl:=lt_of_get hLp
      have hF2:Frm q.fn H1 (H2.set (H1.length+1) .dead):=(Frm.trans Frm.app hF (fun s hs=> .inl hs)).set (.inr (by omega))
      have hnd:=hput.nodup
      unfold Q.names at hnd
      dsimp only at hnd
      have hdis:∀j∈e::q.m::(q.wj++(q.fj++q.wn)),j∉q.fn:=fun j hj hm=>by
       have:((e::q.m::(q.wj++(q.fj++q.wn)))++q.fn).Nodup:=by simpa [List.append_assoc] using hnd
       rw [List.nodup_append] at this
       exact this.2.2 j hj j hm rfl
      refine ⟨_,_,.refl _ _ _,rfl,t2,⟨hF2.get hput.cell (hdis e (by simp)),hput.wrow.frm hF2 fun j hj=>hdis j (by simp [hj]),hput.frow.frm hF2 fun j hj=>hdis j (by simp [hj]),hput.wpk.frm hF2 fun j hj=>hdis j (by simp [hj]),⟨by rw [hpk.1];unfold allLost;rw [List.length_map],fun i m p h1 h2=> ?_⟩,hF2.get hput.map (hdis _ (by simp)),hput.mis,hput.nodup⟩,?_⟩
      ·unfold allLost at h2
       rw [List.getElem?_map,Option.map_eq_some_iff] at h2
       obtain ⟨p0,h2,rfl⟩:=h2
       have hil:=(List.getElem?_eq_some_iff.1 h2).1
       have:=hA i m p0 h1 h2
       rw [List.getElem?_set_ne (by have:=hfnl m (List.mem_of_getElem? h1);omega),this]
       unfold lostN
       rw [show (underA q.fn s.flight).length=(underN s.flight).length by unfold underA;rw [List.length_map]]
       split
       ·rfl
       ·rename_i hno
        have hnl:nl s.flight i=false:=by
         cases hx:nl s.flight i with
         |false=>rfl
         |true=>exact absurd ⟨hx,(rank_lt hil hx).1⟩ hno
        unfold nl at hnl
        rw [h2] at hnl
        have hl2:p0.lost=true:=by simpa using hnl
        cases p0
        dsimp only at hl2
        rw [hl2]
      ·refine Frm.trans (hF1.mono fun j hj=> ?_) (hF2.mono (S':=q.names e) fun j hj=>by simp [Q.names,hj]) (fun j hj=> .inl hj)
       rw [List.mem_singleton.1 hj];exact hself
     ·exact h.elim
end Go.Proofs.Ytdgmcckfdgnicaa

set_option linter.unusedVariables false
set_option linter.unusedSimpArgs false
set_option maxRecDepth 20000
set_option maxHeartbeats 8000000
namespace Go.Proofs.Ytdgmcckfdgnicaa
open Go Go.Aw Go.Proofs
def unlostS (s:E) (k:Nat) (p:Pk):E:={s with flight:=s.flight.set k {p with lost:=false},again:=IntKind.i64.wrap (s.again+1)}
def newS (s:E) (p:Pk) (ws:List Pk):E:={s with waiting:=ws,flight:=s.flight++[{p with number:=s.next}],next:=IntKind.i64.wrap (s.next+1),count:=IntKind.i64.wrap (s.count+1),state:=if p.kind=4 then 3 else s.state}
def sentS (s:E) (k:Nat) (p:Pk):E:={s with flight:=s.flight.set k {p with sent:=s.now,times:=IntKind.i64.wrap (p.times+1)}}
theorem EndI.setF {H:AHeap} {e:Nat} {s:E} {q:Q} (h:EndI H e s q) {i n:Nat} {p:Pk} (hn:q.fn[i]? =some n) (hi:s.flight[i]? =some p) (p':Pk):EndI (H.set n (.cells (pkC p') kP)) e {s with flight:=s.flight.set i p'} q:=by
 have hnd:=h.nodup
 have hmem:=List.mem_of_getElem? hn
 have hF:Frm [n] H (H.set n (.cells (pkC p') kP)):=Frm.set (Frm.refl _ _) (.inl (List.mem_singleton.2 rfl))
 have hdis:∀j∈e::q.m::(q.wj++(q.fj++q.wn)),j∉[n]:=fun j hj hm=>by
  rw [List.mem_singleton] at hm
  subst hm
  unfold Q.names at hnd
  have:((e::q.m::(q.wj++(q.fj++q.wn)))++q.fn).Nodup:=by simpa [List.append_assoc] using hnd
  rw [List.nodup_append] at this
  exact this.2.2 j hj j hmem rfl
 have hfnd:q.fn.Nodup:=by
  unfold Q.names at hnd
  rw [List.nodup_cons,List.nodup_cons,List.nodup_append,List.nodup_append,List.nodup_append] at hnd
  exact hnd.2.2.2.1.2.1.2.1
 refine ⟨hF.get h.cell (hdis e (by simp)),h.wrow.frm hF fun j hj=>hdis j (by simp [hj]),h.frow.frm hF fun j hj=>hdis j (by simp [hj]),h.wpk.frm hF fun j hj=>hdis j (by simp [hj]),⟨by rw [List.length_set];exact h.fpk.1,fun i' m p2 h1 h2=> ?_⟩,hF.get h.map (hdis _ (by simp)),h.mis,h.nodup⟩
 by_cases hii:i=i'
 ·subst hii
  rw [hn] at h1;cases h1
  rw [List.getElem?_set_self (List.getElem?_eq_some_iff.1 hi).1] at h2;cases h2
  exact List.getElem?_set_self (lt_of_get (h.fpk.2 i n p hn hi))
 ·rw [List.getElem?_set_ne hii] at h2
  rw [List.getElem?_set_ne (fun (he:n=m)=>hii (nodup_get hfnd hn (by rw [he];exact h1)))]
  exact h.fpk.2 i' m p2 h1 h2
theorem EndI.fname {H:AHeap} {e:Nat} {s:E} {q:Q} (h:EndI H e s q) {i:Nat} {p:Pk} (hi:s.flight[i]? =some p):∃n,q.fn[i]? =some n∧H[n]? =some (.cells (pkC p) kP)∧n∈q.names e∧n≠e:=by
 have hil:=(List.getElem?_eq_some_iff.1 hi).1
 have hl:=h.fpk.1
 have hn:q.fn[i]? =some q.fn[i]:=List.getElem?_eq_getElem (by omega)
 have hm:=List.mem_of_getElem? hn
 exact ⟨_,hn,h.fpk.2 i _ p hn hi,by simp [Q.names,hm],h.ne (by simp [hm])⟩
theorem EndI.wname {H:AHeap} {e:Nat} {s:E} {q:Q} (h:EndI H e s q) {p:Pk} {ws:List Pk} (hi:s.waiting=p::ws):∃n wn,q.wn=n::wn∧H[n]? =some (.cells (pkC p) kP)∧n∈q.names e∧n≠e:=by
 have hl:=h.wpk.1
 rw [hi] at hl
 cases hw:q.wn with
 |nil=>rw [hw] at hl;simp at hl
 |cons n wn=>
  refine ⟨n,wn,rfl,h.wpk.2 0 n p (by rw [hw];rfl) (by rw [hi];rfl),by simp [Q.names,hw],h.ne (by simp [hw])⟩
theorem RowP.tail {H:AHeap} {v:Value} {n:Nat} {l js:List Nat} (h:RowP H v (n::l) js):∃j off cap cs,v= .slice (some ⟨j,off,none⟩) (l.length+1) cap∧js=[j]∧H[j]? =some (.cells cs ⟨79,1,true,0,none⟩)∧off+cap=cs.length∧l.length+1≤cap∧cs[off]? =some (ptr n)∧RowP H (.slice (some ⟨j,off+1,none⟩) l.length (cap - 1)) l js:=by
 rcases h with ⟨_,h,_⟩|⟨j,off,cap,cs,h1,h2,h3,h4,h5,h6⟩
 ·cases h
 ·rw [List.length_cons] at h1 h5 h6
  have hlt:off<cs.length:=by omega
  have hd:cs.drop off=cs[off]::cs.drop (off+1):=List.drop_eq_getElem_cons hlt
  rw [hd,List.take_succ_cons,List.map_cons,List.cons.injEq] at h6
  refine ⟨j,off,cap,cs,h1,h2,h3,h4,h5,by rw [List.getElem?_eq_getElem hlt,h6.1],.inr ⟨j,off+1,cap - 1,cs,rfl,h2,h3,by omega,by omega,h6.2⟩⟩
theorem EndI.pushF {H:AHeap} {e:Nat} {s:E} {q:Q} (h:EndI H e s q) {H2:AHeap} {v2:Value} {js2:List Nat} {n:Nat} {p:Pk} (hF:Frm q.fj H H2) (hr:RowP H2 v2 (q.fn++[n]) js2) (hj:∀j∈js2,j∈q.fj∨H.length≤j) (hn:n∉q.names e) (hnl:n<H.length) (hp:H[n]? =some (.cells (pkC p) kP))
  (s':E) (t:Told) (hw:s'.waiting=s.waiting) (hf:s'.flight=s.flight++[p]) (hk:s'.kept=s.kept):
  EndI (H2.set e (.cells (endC s' {q with fv:=v2,fn:=q.fn++[n],fj:=js2,told:=t}) kE)) e s' {q with fv:=v2,fn:=q.fn++[n],fj:=js2,told:=t}∧Frm (q.names e) H (H2.set e (.cells (endC s' {q with fv:=v2,fn:=q.fn++[n],fj:=js2,told:=t}) kE)):=by
 have hel:=lt_of_get h.cell
 have hF1:=hF.1
 have hnd:=h.nodup
 have hlt:=h.lt
 have hnj:n∉js2:=fun hm=>by
  rcases hj n hm with h2|h2
  ·exact hn (by simp [Q.names,h2])
  ·omega
 have hfj:∀j∈q.m::(q.wj++(q.wn++q.fn)),j∉e::q.fj:=fun j hj hm=>by
  rcases List.mem_cons.1 hm with rfl|hm
  ·refine h.ne (j:=j) ?_ rfl
   simp only [List.mem_cons,List.mem_append] at hj ⊢
   rcases hj with h|h|h|h
   ·exact .inl h
   ·exact .inr (.inl h)
   ·exact .inr (.inr (.inr (.inl h)))
   ·exact .inr (.inr (.inr (.inr h)))
  ·unfold Q.names at hnd
   have:(q.fj++(e::q.m::(q.wj++(q.wn++q.fn)))).Nodup:=by
    refine List.Perm.nodup (List.perm_iff_count.2 fun z=> ?_) hnd
    simp only [List.count_cons,List.count_append,List.count_nil]
    omega
   rw [List.nodup_append] at this
   exact this.2.2 j hm j (List.mem_cons_of_mem _ hj) rfl
 have hnf:n∉e::q.fj:=fun hm=>hn (by rcases List.mem_cons.1 hm with h|h<;> simp [Q.names,h])
 have hFe:Frm (e::q.fj) H (H2.set e (.cells (endC s' {q with fv:=v2,fn:=q.fn++[n],fj:=js2,told:=t}) kE)):=(hF.mono fun j hj=>List.mem_cons_of_mem _ hj).set (.inl (List.mem_cons_self ..))
 have hFe2:Frm [e] H2 (H2.set e (.cells (endC s' {q with fv:=v2,fn:=q.fn++[n],fj:=js2,told:=t}) kE)):=(Frm.refl _ _).set (.inl (List.mem_singleton.2 rfl))
 refine ⟨⟨List.getElem?_set_self (by omega),h.wrow.frm hFe fun j hj=>hfj j (by simp [hj]),hr.frm hFe2 fun j hj' hm=> ?_,by rw [hw];exact h.wpk.frm hFe fun j hj=>hfj j (by simp [hj]),⟨?_,fun i m p' k1 k2=> ?_⟩,by rw [hk];exact hFe.get h.map (hfj _ (by simp)),by rw [hk];exact h.mis,?_⟩,hFe.mono fun j hj=> ?_⟩
 ·rw [List.mem_singleton] at hm
  subst hm
  rcases hj j hj' with h2|h2
  ·exact h.ne (j:=j) (by simp [h2]) rfl
  ·omega
 ·rw [hf,List.length_append,List.length_append,h.fpk.1];rfl
 ·rw [hf] at k2
  have hll:=h.fpk.1
  by_cases hi:i<q.fn.length
  ·rw [List.getElem?_append_left hi] at k1
   rw [List.getElem?_append_left (by omega)] at k2
   exact (h.fpk.frm hFe fun j hj=>hfj j (by simp [hj])).2 i m p' k1 k2
  ·rw [List.getElem?_append_right (by omega)] at k1 k2
   have h0:i - q.fn.length=0:=by
    have:=(List.getElem?_eq_some_iff.1 k1).1
    simp at this;omega
   rw [h0] at k1
   rw [show i - s.flight.length=0 by omega] at k2
   cases k1;cases k2
   exact hFe.get hp hnf
 ·have hjn:=hr.jnodup
  unfold Q.names at hn hnd hlt ⊢
  dsimp only
  have hp1:(e::q.m::(q.wj++(js2++(q.wn++(q.fn++[n]))))).Perm (n::(js2++(e::q.m::(q.wj++(q.wn++q.fn))))):=by
   refine List.perm_iff_count.2 fun z=> ?_
   simp only [List.count_cons,List.count_append,List.count_nil]
   omega
  have hp0:(e::q.m::(q.wj++(q.fj++(q.wn++q.fn)))).Perm (q.fj++(e::q.m::(q.wj++(q.wn++q.fn)))):=by
   refine List.perm_iff_count.2 fun z=> ?_
   simp only [List.count_cons,List.count_append,List.count_nil]
   omega
  have h0:=hp0.nodup hnd
  rw [List.nodup_append] at h0
  have hsub:∀j∈e::q.m::(q.wj++(q.wn++q.fn)),j∈e::q.m::(q.wj++(q.fj++(q.wn++q.fn))):=fun j hj=>hp0.symm.subset (List.mem_append_right _ hj)
  refine hp1.symm.nodup ?_
  rw [List.nodup_cons,List.nodup_append]
  refine ⟨fun hm=> ?_,hjn,h0.2.1,fun i hi j hj2=> ?_⟩
  ·rcases List.mem_append.1 hm with hm|hm
   ·exact hnj hm
   ·exact hn (hsub n hm)
  ·rcases hj i hi with h|h
   ·exact h0.2.2 i h j hj2
   ·have:=hlt j (hsub j hj2);omega
 ·rcases List.mem_cons.1 hj with rfl|hj
  ·simp [Q.names]
  ·simp [Q.names,hj]
end Go.Proofs.Ytdgmcckfdgnicaa
