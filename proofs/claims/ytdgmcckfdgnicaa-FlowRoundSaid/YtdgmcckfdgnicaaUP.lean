/-
 What goes now:again,then new packets (plain,and what stands in memory).
-/
import Derived.Test.YtdgmcckfdgnicaaUO
import Derived.Test.YtdgmcckfdgnicaaUE
set_option linter.unusedVariables false
set_option linter.unusedSimpArgs false
set_option maxRecDepth 20000
set_option maxHeartbeats 8000000
namespace Go.Proofs.Ytdgmcckfdgnicaa
open Go Go.Aw Go.Proofs
def unlostS (s:E) (k:Nat) (p:Pk):E:={s with flight:=s.flight.set k {p with lost:=false},again:=IntKind.i64.wrap (s.again+1)}
def newS (s:E) (p:Pk) (ws:List Pk):E:={s with waiting:=ws,flight:=s.flight++[{p with number:=s.next}],next:=IntKind.i64.wrap (s.next+1),count:=IntKind.i64.wrap (s.count+1),state:=if p.kind=4 then 3 else s.state}
def sentS (s:E) (k:Nat) (p:Pk):E:={s with flight:=s.flight.set k {p with sent:=s.now,times:=IntKind.i64.wrap (p.times+1)}}
theorem EndI.setF {H:AHeap} {e:Nat} {s:E} {q:Q} (h:EndI H e s q) {i n:Nat} {p:Pk} (hn:q.fn[i]? =some n) (hi:s.flight[i]? =some p) (p':Pk):EndI (H.set n (.cells (pkC p') kP)) e {s with flight:=s.flight.set i p'} q:=by
 have hnd:=h.nodup
 have hmem:=List.mem_of_getElem? hn
 have hF:Frm [n] H (H.set n (.cells (pkC p') kP)):=Frm.set (Frm.refl _ _) (.inl (List.mem_singleton.2 rfl))
 have hdis:∀j∈e::q.m::(q.wj++(q.fj++q.wn)),j∉[n]:=fun j hj hm=>by
  rw [List.mem_singleton] at hm
  subst hm
  unfold Q.names at hnd
  have:((e::q.m::(q.wj++(q.fj++q.wn)))++q.fn).Nodup:=by simpa [List.append_assoc] using hnd
  rw [List.nodup_append] at this
  exact this.2.2 j hj j hmem rfl
 have hfnd:q.fn.Nodup:=by
  unfold Q.names at hnd
  rw [List.nodup_cons,List.nodup_cons,List.nodup_append,List.nodup_append,List.nodup_append] at hnd
  exact hnd.2.2.2.1.2.1.2.1
 refine ⟨hF.get h.cell (hdis e (by simp)),h.wrow.frm hF fun j hj=>hdis j (by simp [hj]),h.frow.frm hF fun j hj=>hdis j (by simp [hj]),h.wpk.frm hF fun j hj=>hdis j (by simp [hj]),⟨by rw [List.length_set];exact h.fpk.1,fun i' m p2 h1 h2=> ?_⟩,hF.get h.map (hdis _ (by simp)),h.mis,h.nodup⟩
 by_cases hii:i=i'
 ·subst hii
  rw [hn] at h1;cases h1
  rw [List.getElem?_set_self (List.getElem?_eq_some_iff.1 hi).1] at h2;cases h2
  exact List.getElem?_set_self (lt_of_get (h.fpk.2 i n p hn hi))
 ·rw [List.getElem?_set_ne hii] at h2
  rw [List.getElem?_set_ne (fun (he:n=m)=>hii (nodup_get hfnd hn (by rw [he];exact h1)))]
  exact h.fpk.2 i' m p2 h1 h2
theorem EndI.fname {H:AHeap} {e:Nat} {s:E} {q:Q} (h:EndI H e s q) {i:Nat} {p:Pk} (hi:s.flight[i]? =some p):∃n,q.fn[i]? =some n∧H[n]? =some (.cells (pkC p) kP)∧n∈q.names e∧n≠e:=by
 have hil:=(List.getElem?_eq_some_iff.1 hi).1
 have hl:=h.fpk.1
 have hn:q.fn[i]? =some q.fn[i]:=List.getElem?_eq_getElem (by omega)
 have hm:=List.mem_of_getElem? hn
 exact ⟨_,hn,h.fpk.2 i _ p hn hi,by simp [Q.names,hm],h.ne (by simp [hm])⟩
theorem EndI.wname {H:AHeap} {e:Nat} {s:E} {q:Q} (h:EndI H e s q) {p:Pk} {ws:List Pk} (hi:s.waiting=p::ws):∃n wn,q.wn=n::wn∧H[n]? =some (.cells (pkC p) kP)∧n∈q.names e∧n≠e:=by
 have hl:=h.wpk.1
 rw [hi] at hl
 cases hw:q.wn with
 |nil=>rw [hw] at hl;simp at hl
 |cons n wn=>
  refine ⟨n,wn,rfl,h.wpk.2 0 n p (by rw [hw];rfl) (by rw [hi];rfl),by simp [Q.names,hw],h.ne (by simp [hw])⟩
theorem RowP.tail {H:AHeap} {v:Value} {n:Nat} {l js:List Nat} (h:RowP H v (n::l) js):∃j off cap cs,v= .slice (some ⟨j,off,none⟩) (l.length+1) cap∧js=[j]∧H[j]? =some (.cells cs ⟨79,1,true,0,none⟩)∧off+cap=cs.length∧l.length+1≤cap∧cs[off]? =some (ptr n)∧RowP H (.slice (some ⟨j,off+1,none⟩) l.length (cap - 1)) l js:=by
 rcases h with ⟨_,h,_⟩|⟨j,off,cap,cs,h1,h2,h3,h4,h5,h6⟩
 ·cases h
 ·rw [List.length_cons] at h1 h5 h6
  have hlt:off<cs.length:=by omega
  have hd:cs.drop off=cs[off]::cs.drop (off+1):=List.drop_eq_getElem_cons hlt
  rw [hd,List.take_succ_cons,List.map_cons,List.cons.injEq] at h6
  refine ⟨j,off,cap,cs,h1,h2,h3,h4,h5,by rw [List.getElem?_eq_getElem hlt,h6.1],.inr ⟨j,off+1,cap - 1,cs,rfl,h2,h3,by omega,by omega,h6.2⟩⟩
theorem EndI.pushF {H:AHeap} {e:Nat} {s:E} {q:Q} (h:EndI H e s q) {H2:AHeap} {v2:Value} {js2:List Nat} {n:Nat} {p:Pk} (hF:Frm q.fj H H2) (hr:RowP H2 v2 (q.fn++[n]) js2) (hj:∀j∈js2,j∈q.fj∨H.length≤j) (hn:n∉q.names e) (hnl:n<H.length) (hp:H[n]? =some (.cells (pkC p) kP))
  (s':E) (t:Told) (hw:s'.waiting=s.waiting) (hf:s'.flight=s.flight++[p]) (hk:s'.kept=s.kept):
  EndI (H2.set e (.cells (endC s' {q with fv:=v2,fn:=q.fn++[n],fj:=js2,told:=t}) kE)) e s' {q with fv:=v2,fn:=q.fn++[n],fj:=js2,told:=t}∧Frm (q.names e) H (H2.set e (.cells (endC s' {q with fv:=v2,fn:=q.fn++[n],fj:=js2,told:=t}) kE)):=by
 have hel:=lt_of_get h.cell
 have hF1:=hF.1
 have hnd:=h.nodup
 have hlt:=h.lt
 have hnj:n∉js2:=fun hm=>by
  rcases hj n hm with h2|h2
  ·exact hn (by simp [Q.names,h2])
  ·omega
 have hfj:∀j∈q.m::(q.wj++(q.wn++q.fn)),j∉e::q.fj:=fun j hj hm=>by
  rcases List.mem_cons.1 hm with rfl|hm
  ·refine h.ne (j:=j) ?_ rfl
   simp only [List.mem_cons,List.mem_append] at hj ⊢
   rcases hj with h|h|h|h
   ·exact .inl h
   ·exact .inr (.inl h)
   ·exact .inr (.inr (.inr (.inl h)))
   ·exact .inr (.inr (.inr (.inr h)))
  ·unfold Q.names at hnd
   have:(q.fj++(e::q.m::(q.wj++(q.wn++q.fn)))).Nodup:=by
    refine List.Perm.nodup (List.perm_iff_count.2 fun z=> ?_) hnd
    simp only [List.count_cons,List.count_append,List.count_nil]
    omega
   rw [List.nodup_append] at this
   exact this.2.2 j hm j (List.mem_cons_of_mem _ hj) rfl
 have hnf:n∉e::q.fj:=fun hm=>hn (by rcases List.mem_cons.1 hm with h|h<;> simp [Q.names,h])
 have hFe:Frm (e::q.fj) H (H2.set e (.cells (endC s' {q with fv:=v2,fn:=q.fn++[n],fj:=js2,told:=t}) kE)):=(hF.mono fun j hj=>List.mem_cons_of_mem _ hj).set (.inl (List.mem_cons_self ..))
 have hFe2:Frm [e] H2 (H2.set e (.cells (endC s' {q with fv:=v2,fn:=q.fn++[n],fj:=js2,told:=t}) kE)):=(Frm.refl _ _).set (.inl (List.mem_singleton.2 rfl))
 refine ⟨⟨List.getElem?_set_self (by omega),h.wrow.frm hFe fun j hj=>hfj j (by simp [hj]),hr.frm hFe2 fun j hj' hm=> ?_,by rw [hw];exact h.wpk.frm hFe fun j hj=>hfj j (by simp [hj]),⟨?_,fun i m p' k1 k2=> ?_⟩,by rw [hk];exact hFe.get h.map (hfj _ (by simp)),by rw [hk];exact h.mis,?_⟩,hFe.mono fun j hj=> ?_⟩
 ·rw [List.mem_singleton] at hm
  subst hm
  rcases hj j hj' with h2|h2
  ·exact h.ne (j:=j) (by simp [h2]) rfl
  ·omega
 ·rw [hf,List.length_append,List.length_append,h.fpk.1];rfl
 ·rw [hf] at k2
  have hll:=h.fpk.1
  by_cases hi:i<q.fn.length
  ·rw [List.getElem?_append_left hi] at k1
   rw [List.getElem?_append_left (by omega)] at k2
   exact (h.fpk.frm hFe fun j hj=>hfj j (by simp [hj])).2 i m p' k1 k2
  ·rw [List.getElem?_append_right (by omega)] at k1 k2
   have h0:i - q.fn.length=0:=by
    have:=(List.getElem?_eq_some_iff.1 k1).1
    simp at this;omega
   rw [h0] at k1
   rw [show i - s.flight.length=0 by omega] at k2
   cases k1;cases k2
   exact hFe.get hp hnf
 ·have hjn:=hr.jnodup
  unfold Q.names at hn hnd hlt ⊢
  dsimp only
  have hp1:(e::q.m::(q.wj++(js2++(q.wn++(q.fn++[n]))))).Perm (n::(js2++(e::q.m::(q.wj++(q.wn++q.fn))))):=by
   refine List.perm_iff_count.2 fun z=> ?_
   simp only [List.count_cons,List.count_append,List.count_nil]
   omega
  have hp0:(e::q.m::(q.wj++(q.fj++(q.wn++q.fn)))).Perm (q.fj++(e::q.m::(q.wj++(q.wn++q.fn)))):=by
   refine List.perm_iff_count.2 fun z=> ?_
   simp only [List.count_cons,List.count_append,List.count_nil]
   omega
  have h0:=hp0.nodup hnd
  rw [List.nodup_append] at h0
  have hsub:∀j∈e::q.m::(q.wj++(q.wn++q.fn)),j∈e::q.m::(q.wj++(q.fj++(q.wn++q.fn))):=fun j hj=>hp0.symm.subset (List.mem_append_right _ hj)
  refine hp1.symm.nodup ?_
  rw [List.nodup_cons,List.nodup_append]
  refine ⟨fun hm=> ?_,hjn,h0.2.1,fun i hi j hj2=> ?_⟩
  ·rcases List.mem_append.1 hm with hm|hm
   ·exact hnj hm
   ·exact hn (hsub n hm)
  ·rcases hj i hi with h|h
   ·exact h0.2.2 i h j hj2
   ·have:=hlt j (hsub j hj2);omega
 ·rcases List.mem_cons.1 hj with rfl|hj
  ·simp [Q.names]
  ·simp [Q.names,hj]
end Go.Proofs.Ytdgmcckfdgnicaa
