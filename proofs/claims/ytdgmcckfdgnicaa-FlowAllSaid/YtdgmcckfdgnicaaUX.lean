/-
 An acknowledged packet is taken out.
-/
import Derived.Test.YtdgmcckfdgnicaaUW
set_option linter.unusedVariables false
set_option linter.unusedSimpArgs false
set_option maxRecDepth 20000
set_option maxHeartbeats 8000000
namespace Go.Proofs.Ytdgmcckfdgnicaa
open Go Go.Aw Go.Proofs
def bumpP (p:Pk):Pk:=if IntKind.i64.wrap (p.later+1)≥3∧p.quick=false∧p.lost=false then {p with later:=IntKind.i64.wrap (p.later+1),quick:=true,lost:=true} else {p with later:=IntKind.i64.wrap (p.later+1)}
def goneAt (s:E) (i:Nat) (p:Pk):E:={s with flight:=(s.flight.take i).map bumpP++s.flight.drop (i+1),outs:=0,done:=s.done||p.kind==4}
def goneR (s:E) (n:Int):E:=match s.flight.findIdx? (fun p=>p.number==n) with
 |none=>s
 |some i=>match s.flight[i]? with
  |none=>s
  |some p=>goneAt s i p
theorem EndI.popF {H:AHeap} {e:Nat} {s:E} {q:Q} (h:EndI H e s q) {i:Nat} {v2:Value} {HD:AHeap} (hr:RowP HD v2 (q.fn.eraseIdx i) q.fj) (hF:Frm q.fj H HD) (s':E) (t:Told) (h1:s'.waiting=s.waiting) (h2:s'.flight=s.flight.eraseIdx i) (h3:s'.kept=s.kept):
  EndI (HD.set e (.cells (endC s' {q with fv:=v2,fn:=q.fn.eraseIdx i,told:=t}) kE)) e s' {q with fv:=v2,fn:=q.fn.eraseIdx i,told:=t}:=by
 have hel:=lt_of_get h.cell
 have hF1:=hF.1
 have hnd:=h.nodup
 have hfj:∀j∈q.m::(q.wj++(q.wn++q.fn)),j∉e::q.fj:=fun j hj hm=>by
  rcases List.mem_cons.1 hm with rfl|hm
  ·refine h.ne (j:=j) ?_ rfl
   simp only [List.mem_cons,List.mem_append] at hj ⊢
   rcases hj with h|h|h|h
   ·exact .inl h
   ·exact .inr (.inl h)
   ·exact .inr (.inr (.inr (.inl h)))
   ·exact .inr (.inr (.inr (.inr h)))
  ·unfold Q.names at hnd
   have:(q.fj++(e::q.m::(q.wj++(q.wn++q.fn)))).Nodup:=by
    refine List.Perm.nodup (List.perm_iff_count.2 fun z=> ?_) hnd
    simp only [List.count_cons,List.count_append,List.count_nil]
    omega
   rw [List.nodup_append] at this
   exact this.2.2 j hm j (List.mem_cons_of_mem _ hj) rfl
 have hFe:Frm (e::q.fj) H (HD.set e (.cells (endC s' {q with fv:=v2,fn:=q.fn.eraseIdx i,told:=t}) kE)):=(hF.mono fun j hj=>List.mem_cons_of_mem _ hj).set (.inl (List.mem_cons_self ..))
 have hFe2:Frm [e] HD (HD.set e (.cells (endC s' {q with fv:=v2,fn:=q.fn.eraseIdx i,told:=t}) kE)):=(Frm.refl _ _).set (.inl (List.mem_singleton.2 rfl))
 have hpk:=h.fpk.frm hFe fun j hj=>hfj j (by simp [hj])
 refine ⟨List.getElem?_set_self (by omega),h.wrow.frm hFe fun j hj=>hfj j (by simp [hj]),hr.frm hFe2 fun j hj hm=>h.ne (j:=j) (by simp [hj]) (List.mem_singleton.1 hm),by rw [h1];exact h.wpk.frm hFe fun j hj=>hfj j (by simp [hj]),⟨by rw [h2,List.length_eraseIdx,List.length_eraseIdx,h.fpk.1],fun k m p k1 k2=> ?_⟩,by rw [h3];exact hFe.get h.map (hfj _ (by simp)),by rw [h3];exact h.mis,?_⟩
 ·rw [h2] at k2
  rw [List.getElem?_eraseIdx] at k1 k2
  split at k1
  ·rename_i hk;rw [if_pos hk] at k2;exact hpk.2 k m p k1 k2
  ·rename_i hk;rw [if_neg hk] at k2;exact hpk.2 (k+1) m p k1 k2
 ·unfold Q.names at hnd ⊢
  exact List.Sublist.nodup (((((List.eraseIdx_sublist q.fn i).append_left q.wn).append_left q.fj).append_left q.wj).cons_cons q.m |>.cons_cons e) hnd
def GoneJ (e m i:Nat) (HD:AHeap) (s':E) (q':Q) (st:ASt):Prop:=∃t,st=⟨[(0,ptr e),(4,.int .i64 (i:Nat)),(5,ptr m)],[],HD.set e (.cells (endC s' {q' with told:=t}) kE)⟩
theorem gone {H:AHeap} {e:Nat} {s:E} {q:Q} (h:EndI H e s q) (n:Int) (hl:s.flight.length<1099511627776):AC Try.prog 72 [ptr e,.int .i64 n] H (fun r H2=>r= .ret noVal∧Steps H e q (goneR s n) H2):=by
 have hm:=h.more [.cells [.int .i64 n] ⟨3,0,true,0,none⟩]
 have hIx:=IndexFunc q.fv q.fn q.fj s.flight H.length n ⟨3,0,true,0,none⟩ _ hm.frow hm.fpk hl (by simp)
 have hc:=hm.cell
 simp only [endC] at hc
 unfold idxF at hIx
 unfold goneR
 cases hfi:s.flight.findIdx? (fun p=>p.number==n) with
 |none=>
  rw [hfi] at hIx
  have h1: (-1:Int)<0:=by decide
  refine AC.enter Try.func72 rfl (by kernel_rfl) 173 rfl [] rfl (by simp) fun hsc B=> ?_
  repeat first|with_reducible refine hIx.use ?_|refine kw1 hc ?_|exact kwy
  exact ⟨_,_,.refl _ _ _,rfl,Steps.more h (Steps.refl hm)⟩
 | some i=>
  rw [hfi] at hIx
  dsimp only at hIx ⊢
  have hil:i<s.flight.length:=by
   rw [List.findIdx?_eq_some_iff_getElem] at hfi
   exact hfi.1
  have hp:s.flight[i]? =some s.flight[i]:=List.getElem?_eq_getElem hil
  generalize s.flight[i]=p at hp
  rw [hp]
  dsimp only
  obtain ⟨m,hfn,hpm,hmn,hme⟩:=hm.fname hp
  have hfl:=hm.fpk.1
  obtain ⟨j,off,cap,HD,hdel,hrowD,hFD,hcap,hjs⟩:=Delete hm.frow (by omega) i (by omega)
  obtain ⟨jr,offr,capr,csr,hvr,_,hjr,_,_,_,hgr⟩:=hm.frow.get hfn
  rw [hvr] at hIx hdel
  have hneg:¬(i:Int)<0:=by omega
  have hcD:=hFD.get hc (fun hx=>hm.ne (j:=e) (by simp [hx]) rfl)
  have hclD:=lt_of_get hcD
  have hmfj:m∉q.fj:=fun hx=>by
   have hnd:=h.nodup
   unfold Q.names at hnd
   have:(q.fj++(e::q.m::(q.wj++(q.wn++q.fn)))).Nodup:=by
    refine List.Perm.nodup (List.perm_iff_count.2 fun z=> ?_) hnd
    simp only [List.count_cons,List.count_append,List.count_nil]
    omega
   rw [List.nodup_append] at this
   exact this.2.2 m hx m (by simp [List.mem_of_getElem? hfn]) rfl
  have hpD:=hFD.get hpm hmfj
  have hsz:=fun o=>size m p (HD.set e o) (by rw [List.getElem?_set_ne (fun hx=>hme hx.symm)];exact hpD)
  unfold pkC at hpm hpD
  have hsm:∀o,(HD.set e o)[m]? =HD[m]? :=fun o=>List.getElem?_set_ne (fun hx=>hme hx.symm)
  have hw1:IntKind.i64.wrap ((i:Int)+1)=(i:Int)+1:=IntWalk.i64_in _ (by omega)
  have hlt:(i:Int)<(q.fn.length:Int):=by omega
  refine AC.enter Try.func72 rfl (by kernel_rfl) 173 rfl [] rfl (by simp) fun hsc B=> ?_
  repeat first|with_reducible (first|refine hIx.use ?_|refine hdel.use ?_)|refine kw10 hc hneg hvr hjr hgr hpm hcD hclD hw1 hlt ?_|exact kwy
  apply AWP.regionX [11] [(0,0),(0,0),(0,0),(0,0),(0,0),(0,0),(0,0),(0,0),(0,0),(0,0),(0,0),(0,0)] [42,43,44,45,46,47,48,49,50,51,52] [_] [(42,_),(43,_),(44,_),(45,_),(46,_),(47,_),(48,_),(49,_),(50,_),(51,_),(52,_)]
  ·kernel_rfl
  ·kernel_rfl
  ·kernel_rfl
  ·kernel_rfl
  ·rfl
  ·simp only [eachB,runB]
   repeat' with_reducible refine And.intro ?_ ?_
   iterate 2 all_goals try ((repeat' first|with_reducible refine And.intro ?_ ?_|with_reducible refine (hsz _).use ?_|refine kx1 hclD ?_|exact kwy|exact rfl);done)
  repeat first|with_reducible refine AWP.seqE (x:= .seq (.region 7 _ _) _) (GoneJ e m i HD {s with flight:=s.flight.eraseIdx i,outs:=0} {q with fv:= .slice (some ⟨j,off,none⟩) (q.fn.length - 1) cap,fn:=q.fn.eraseIdx i}) ?_ ?_|refine kw0 ?_|exact kwy
  ·cases ht:(p.times==1) with
   | false=>
    repeat first|refine kw0 ?_|exact kwy
    apply AWP.regionX [] [(0,0),(0,0),(0,0),(0,0),(0,0),(0,0),(0,0),(0,0),(0,0),(0,0),(0,0),(0,0),(0,0),(0,0),(0,0),(0,0),(0,0),(0,0),(0,0),(0,0),(0,0),(0,0),(0,0),(0,0),(0,0)] [53,54,55,56,57,58,59,60,61,62,63,64,65,66,67,68,69,70,71,72,73,74,75,76,77] [] [(53,_),(54,_),(55,_),(56,_),(57,_),(58,_),(59,_),(60,_),(61,_),(62,_),(63,_),(64,_),(65,_),(66,_),(67,_),(68,_),(69,_),(70,_),(71,_),(72,_),(73,_),(74,_),(75,_),(76,_),(77,_)]
    ·kernel_rfl
    ·kernel_rfl
    ·kernel_rfl
    ·kernel_rfl
    ·rfl
    ·simp only [eachB,runB]
     repeat' with_reducible refine And.intro ?_ ?_
     iterate 2 all_goals try ((repeat' first|with_reducible refine And.intro ?_ ?_|refine kx4 hsm hpD hclD ht ?_|exact kwy|exact rfl);done)
    repeat first|refine kw0 ?_|exact kwy
    exact ⟨_,⟨⟨_,_,_,_,_,_⟩,rfl⟩,Weak.env (by simp [envIn,lk_cons,wth_some])⟩
   | true=>
    cases hs:q.told.some with
    | false=>
     repeat first|refine kw0 ?_|exact kwy
     apply AWP.regionX [] [(0,0),(0,0),(0,0),(0,0),(0,0),(0,0),(0,0),(0,0),(0,0),(0,0),(0,0),(0,0),(0,0),(0,0),(0,0),(0,0),(0,0),(0,0),(0,0),(0,0),(0,0),(0,0),(0,0),(0,0),(0,0)] [53,54,55,56,57,58,59,60,61,62,63,64,65,66,67,68,69,70,71,72,73,74,75,76,77] [] [(53,_),(54,_),(55,_),(56,_),(57,_),(58,_),(59,_),(60,_),(61,_),(62,_),(63,_),(64,_),(65,_),(66,_),(67,_),(68,_),(69,_),(70,_),(71,_),(72,_),(73,_),(74,_),(75,_),(76,_),(77,_)]
     ·kernel_rfl
     ·kernel_rfl
     ·kernel_rfl
     ·kernel_rfl
     ·rfl
     ·simp only [eachB,runB]
      repeat' with_reducible refine And.intro ?_ ?_
      iterate 2 all_goals try ((repeat' first|with_reducible refine And.intro ?_ ?_|refine kx5 hsm hpD hclD ht hs ?_|exact kwy|exact rfl);done)
     repeat first|refine kw0 ?_|exact kwy
     apply AWP.regionX [19,23,27] [(0,0),(0,1),(0,2),(0,0),(0,0),(0,0),(0,0),(0,0),(0,0),(0,0),(0,0),(0,0),(0,0),(0,0),(0,0),(0,2),(0,0),(0,0),(0,0),(0,0),(1,0),(1,0),(1,0),(1,0),(2,0),(2,0),(2,0),(2,0)] [78,79,80,81,82,83,84,85,86,87,88,89,90,91,92,93,94,95,96,97,98,99,100,101,102] [_,_,_] [(78,_),(79,_),(80,_),(81,_),(82,_),(83,_),(84,_),(85,_),(86,_),(87,_),(88,_),(89,_),(90,_),(91,_),(92,_),(93,_),(94,_),(95,_),(96,_),(97,_),(98,_),(99,_),(100,_),(101,_),(102,_)]
     ·kernel_rfl
     ·kernel_rfl
     ·kernel_rfl
     ·kernel_rfl
     ·rfl
     ·simp only [eachB,runB]
      repeat' with_reducible refine And.intro ?_ ?_
      iterate 2 all_goals try ((repeat' first|with_reducible refine And.intro ?_ ?_|refine kx3 hsm hpD hclD ?_|exact kwy|exact rfl);done)
     repeat first|refine kw0 ?_|exact kwy
     exact ⟨_,⟨⟨_,_,_,_,_,_⟩,rfl⟩,Weak.env (by simp [envIn,lk_cons,wth_some])⟩
    | true=>
     by_cases hnw:p.number>q.told.newest
     ·repeat first|refine kw0 ?_|exact kwy
      apply AWP.regionX [] [(0,0),(0,0),(0,0),(0,0),(0,0),(0,0),(0,0),(0,0),(0,0),(0,0),(0,0),(0,0),(0,0),(0,0),(0,0),(0,0),(0,0),(0,0),(0,0),(0,0),(0,0),(0,0),(0,0),(0,0),(0,0)] [53,54,55,56,57,58,59,60,61,62,63,64,65,66,67,68,69,70,71,72,73,74,75,76,77] [] [(53,_),(54,_),(55,_),(56,_),(57,_),(58,_),(59,_),(60,_),(61,_),(62,_),(63,_),(64,_),(65,_),(66,_),(67,_),(68,_),(69,_),(70,_),(71,_),(72,_),(73,_),(74,_),(75,_),(76,_),(77,_)]
      ·kernel_rfl
      ·kernel_rfl
      ·kernel_rfl
      ·kernel_rfl
      ·rfl
      ·simp only [eachB,runB]
       repeat' with_reducible refine And.intro ?_ ?_
       iterate 2 all_goals try ((repeat' first|with_reducible refine And.intro ?_ ?_|refine kx6 hsm hpD hclD ht hs hnw ?_|exact kwy|exact rfl);done)
      repeat first|refine kw0 ?_|exact kwy
      apply AWP.regionX [19,23,27] [(0,0),(0,1),(0,2),(0,0),(0,0),(0,0),(0,0),(0,0),(0,0),(0,0),(0,0),(0,0),(0,0),(0,0),(0,0),(0,2),(0,0),(0,0),(0,0),(0,0),(1,0),(1,0),(1,0),(1,0),(2,0),(2,0),(2,0),(2,0)] [78,79,80,81,82,83,84,85,86,87,88,89,90,91,92,93,94,95,96,97,98,99,100,101,102] [_,_,_] [(78,_),(79,_),(80,_),(81,_),(82,_),(83,_),(84,_),(85,_),(86,_),(87,_),(88,_),(89,_),(90,_),(91,_),(92,_),(93,_),(94,_),(95,_),(96,_),(97,_),(98,_),(99,_),(100,_),(101,_),(102,_)]
      ·kernel_rfl
      ·kernel_rfl
      ·kernel_rfl
      ·kernel_rfl
      ·rfl
      ·simp only [eachB,runB]
       repeat' with_reducible refine And.intro ?_ ?_
       iterate 2 all_goals try ((repeat' first|with_reducible refine And.intro ?_ ?_|refine kx3 hsm hpD hclD ?_|exact kwy|exact rfl);done)
      repeat first|refine kw0 ?_|exact kwy
      exact ⟨_,⟨⟨_,_,_,_,_,_⟩,rfl⟩,Weak.env (by simp [envIn,lk_cons,wth_some])⟩
     ·repeat first|refine kw0 ?_|exact kwy
      apply AWP.regionX [] [(0,0),(0,0),(0,0),(0,0),(0,0),(0,0),(0,0),(0,0),(0,0),(0,0),(0,0),(0,0),(0,0),(0,0),(0,0),(0,0),(0,0),(0,0),(0,0),(0,0),(0,0),(0,0),(0,0),(0,0),(0,0)] [53,54,55,56,57,58,59,60,61,62,63,64,65,66,67,68,69,70,71,72,73,74,75,76,77] [] [(53,_),(54,_),(55,_),(56,_),(57,_),(58,_),(59,_),(60,_),(61,_),(62,_),(63,_),(64,_),(65,_),(66,_),(67,_),(68,_),(69,_),(70,_),(71,_),(72,_),(73,_),(74,_),(75,_),(76,_),(77,_)]
      ·kernel_rfl
      ·kernel_rfl
      ·kernel_rfl
      ·kernel_rfl
      ·rfl
      ·simp only [eachB,runB]
       repeat' with_reducible refine And.intro ?_ ?_
       iterate 2 all_goals try ((repeat' first|with_reducible refine And.intro ?_ ?_|refine kx6 hsm hpD hclD ht hs hnw ?_|exact kwy|exact rfl);done)
      repeat first|refine kw0 ?_|exact kwy
      exact ⟨_,⟨⟨_,_,_,_,_,_⟩,rfl⟩,Weak.env (by simp [envIn,lk_cons,wth_some])⟩
  ·rintro _ ⟨t,rfl⟩
   clear hIx hdel hjr hgr hpm hsz hc hcD
   have hpop:=fun s' t=>hm.popF hrowD hFD s' t
   have hdl:(s.done||p.kind==4)=(s.done||p.kind==4):=rfl
   have hpre:EndI (HD.set e (.cells (endC {s with flight:=s.flight.eraseIdx i,outs:=0,done:=s.done||p.kind==4} {q with fv:= .slice (some ⟨j,off,none⟩) (q.fn.length - 1) cap,fn:=q.fn.eraseIdx i,told:=t}) kE)) e {s with flight:=s.flight.eraseIdx i,outs:=0,done:=s.done||p.kind==4} {q with fv:= .slice (some ⟨j,off,none⟩) (q.fn.length - 1) cap,fn:=q.fn.eraseIdx i,told:=t}:=hpop _ t rfl rfl rfl
   obtain ⟨HE,hHE⟩:∃HE,HE=HD.set e (.cells (endC {s with flight:=s.flight.eraseIdx i,outs:=0,done:=s.done||p.kind==4} {q with fv:= .slice (some ⟨j,off,none⟩) (q.fn.length - 1) cap,fn:=q.fn.eraseIdx i,told:=t}) kE):=⟨_,rfl⟩
   rw [← hHE] at hpre
   have hFE:Frm (q.names e) H HE:=by
    rw [hHE]
    exact ((Frm.trans Frm.app (hFD.mono fun x hx=>by simp [Q.names,hx]) (fun x hx=> .inl hx)).set (.inl (by simp [Q.names])))
   have hHE':=hHE.symm
   simp only [endC] at hHE'
   clear hHE
   have hcE:=hpre.cell
   simp only [endC] at hcE
   refine AWP.seqJ (x:= .region 9 _ _) ⟨[(0,ptr e),(4,.int .i64 (i:Nat))],[],HE⟩ ?_ ?_
   ·cases hdn:s.done with
    |true=>
     rw [hdn] at hHE'
     simp only [endC,hdn]
     simp only [Bool.true_or,Int.natCast_zero] at hHE'
     repeat first|refine kw3 hsm hpD hclD ?_|exact kwy
     rw [hHE']
     exact Weak.env (by simp [envIn,lk_cons,wth_some])
    |false=>
     rw [hdn] at hHE'
     simp only [endC,hdn]
     simp only [Bool.false_or,Int.natCast_zero] at hHE'
     repeat first|refine kw3 hsm hpD hclD ?_|exact kwy
     rw [hHE']
     exact Weak.env (by simp [envIn,lk_cons,wth_some])
   ·clear hHE'
    have hjE:∃cs,HE[j]? =some (.cells cs ⟨79,1,true,0,none⟩):=by
     rcases hpre.frow with ⟨hx,_⟩|⟨j2,off2,cap2,cs,hx,_,hx2,_⟩
     ·cases hx
     ·obtain ⟨hx1,_,_⟩:=Value.slice.inj hx
      cases hx1
      exact ⟨cs,hx2⟩
    obtain ⟨csE,hjE⟩:=hjE
    have hic:(i:Int)≤(cap:Int):=by omega
    repeat first|refine kw3 hcE hjE hic ?_|exact kwy
    refine AWP.loopP (fun s2:Nat×E×Q×AHeap=>⟨[(0,ptr e),(125,.slice (some ⟨j,off,none⟩) i cap),(126,.int .i64 (i:Nat)),(127,.int .i64 (s2.1:Nat))],[],s2.2.2.2⟩) (fun s2=>s2.1≤i∧s2.2.2.1.fv= .slice (some ⟨j,off,none⟩) (q.fn.length - 1) cap∧s2.2.2.1.fn=q.fn.eraseIdx i∧EndI s2.2.2.2 e s2.2.1 s2.2.2.1∧s2.2.1={s with flight:=((s.flight.eraseIdx i).take s2.1).map bumpP++(s.flight.eraseIdx i).drop s2.1,outs:=0,done:=s.done||p.kind==4}∧Frm (q.names e) H s2.2.2.2∧∀x∈s2.2.2.1.names e,x∈q.names e) (fun s2=>i - s2.1) (0,_,_,HE) ?_ ⟨Nat.zero_le _,rfl,rfl,hpre,by simp,hFE,?_⟩ ?_
    ·exact Weak.env (by simp [envIn,lk_cons,wth_some])
    ·intro x hx
     simp only [Q.names,List.mem_cons,List.mem_append] at hx ⊢
     rcases hx with h|h|h|h|h|h
     ·exact .inl h
     ·exact .inr (.inl h)
     ·exact .inr (.inr (.inl h))
     ·exact .inr (.inr (.inr (.inl h)))
     ·exact .inr (.inr (.inr (.inr (.inl h))))
     ·exact .inr (.inr (.inr (.inr (.inr (List.mem_of_mem_eraseIdx h)))))
    clear hpre hFE hcE hjE
    rintro ⟨k,s1,q1,H1⟩ ⟨hk,hfv,hfnk,hE1,hs1,hF1,hn1⟩
    simp only at hk hfv hfnk hE1 hs1 hF1 hn1
    have hc1:=hE1.cell
    have hcl1:=lt_of_get hc1
    simp only [endC] at hc1
    have hel:(s.flight.eraseIdx i).length=s.flight.length - 1:=by rw [List.length_eraseIdx,if_pos hil]
    by_cases hki:k<i
    ·have hki':(k:Int)<(i:Int):=by omega
     have hge:(s.flight.eraseIdx i)[k]? =some s.flight[k]:=by rw [List.getElem?_eraseIdx,if_pos hki];exact List.getElem?_eq_getElem (by omega)
     generalize (s.flight[k]'(by omega))=p1 at hge
     have hkl:k<(s.flight.eraseIdx i).length:=by omega
     have hp1:s1.flight[k]? =some p1:=by
      rw [hs1]
      dsimp only
      rw [List.getElem?_append_right (by rw [List.length_map,List.length_take];exact Nat.min_le_left _ _),List.length_map,List.length_take,Nat.min_eq_left (by omega),Nat.sub_self,List.getElem?_drop,Nat.add_zero]
      exact hge
     obtain ⟨n1,hfn1,hpn1,hnn1,hne1⟩:=hE1.fname hp1
     have hset:{s1 with flight:=s1.flight.set k (bumpP p1)}={s with flight:=((s.flight.eraseIdx i).take (k+1)).map bumpP++(s.flight.eraseIdx i).drop (k+1),outs:=0,done:=s.done||p.kind==4}:=by
      rw [hs1]
      dsimp only
      have hd:(s.flight.eraseIdx i).drop k=p1::(s.flight.eraseIdx i).drop (k+1):=by
       rw [List.drop_eq_getElem_cons hkl]
       rw [List.getElem?_eq_getElem hkl] at hge
       rw [Option.some.inj hge]
      have ht:(s.flight.eraseIdx i).take (k+1)=(s.flight.eraseIdx i).take k++[p1]:=by rw [List.take_add_one,hge];rfl
      rw [hd,ht,List.map_append,List.set_append_right _ _ (by rw [List.length_map,List.length_take];exact Nat.min_le_left _ _),List.length_map,List.length_take,Nat.min_eq_left (by omega),Nat.sub_self,List.set_cons_zero,List.append_assoc]
      rfl
     obtain ⟨ji,off3,cap3,cs3,hv3,_,hji,_,_,_,hg3⟩:=hE1.frow.get hfn1
     rw [hfv] at hv3
     obtain ⟨hv4,_,hv5⟩:=Value.slice.inj hv3
     cases hv4
     have hsetF:=hE1.setF hfn1 hp1 (bumpP p1)
     have hpn:=hpn1
     unfold pkC at hpn
     have hnl1:=lt_of_get hpn
     have hs1n:∀o,(H1.set n1 o)[e]? =H1[e]? :=fun o=>List.getElem?_set_ne hne1
     have hwk:IntKind.i64.wrap ((k:Int)+1)=((k+1:Nat):Int):=by rw [wi64 (by omega)];omega
     by_cases hb:IntKind.i64.wrap (p1.later+1)≥3∧p1.quick=false∧p1.lost=false
     ·obtain ⟨hb1,hb2,hb3⟩:=hb
      have hbp:bumpP p1={p1 with later:=IntKind.i64.wrap (p1.later+1),quick:=true,lost:=true}:=by unfold bumpP;rw [if_pos ⟨hb1,hb2,hb3⟩]
      rw [hb2,hb3] at hpn
      have hP:=hsetF.put {s1 with flight:=s1.flight.set k (bumpP p1)} {q1.told with lost:=IntKind.i64.wrap (q1.told.lost+1)} rfl rfl rfl
      have hFr:Frm (q.names e) H ((H1.set n1 (.cells (pkC (bumpP p1)) kP)).set e (.cells (endC {s1 with flight:=s1.flight.set k (bumpP p1)} {q1 with told:={q1.told with lost:=IntKind.i64.wrap (q1.told.lost+1)}}) kE)):=(hF1.set (.inl (hn1 _ hnn1))).set (.inl (by simp [Q.names]))
      have hcell:pkC (bumpP p1)= [.int .i64 p1.kind,.int .i64 p1.number,.string (bs p1.body),.int .i64 p1.sent,.int .i64 p1.times,.int .i64 (IntKind.i64.wrap (p1.later+1)),.bool true,.bool true]:=by rw [hbp];rfl
      rw [hcell] at hP hFr
      simp only [endC] at hP hFr
      repeat first|refine kw10 hc1 hcl1 hki' hji hg3 hpn hnl1 hs1n hwk hb1 ?_|exact kwy
      exact ⟨(k+1,{s1 with flight:=s1.flight.set k (bumpP p1)},{q1 with told:={q1.told with lost:=IntKind.i64.wrap (q1.told.lost+1)}},_),Weak.env (by simp [envIn,lk_cons,wth_some]),by omega,hfv,hfnk,hP,hset,hFr,hn1,by omega⟩
     ·have hbp:bumpP p1={p1 with later:=IntKind.i64.wrap (p1.later+1)}:=by unfold bumpP;rw [if_neg hb]
      have hFr:Frm (q.names e) H (H1.set n1 (.cells (pkC (bumpP p1)) kP)):=hF1.set (.inl (hn1 _ hnn1))
      by_cases hb1:IntKind.i64.wrap (p1.later+1)≥3
      ·cases hb2:p1.quick with
       |true=>
        have hcell:pkC (bumpP p1)= [.int .i64 p1.kind,.int .i64 p1.number,.string (bs p1.body),.int .i64 p1.sent,.int .i64 p1.times,.int .i64 (IntKind.i64.wrap (p1.later+1)),.bool true,.bool p1.lost]:=by rw [hbp];unfold pkC;rw [hb2]
        rw [hb2] at hpn
        rw [hcell] at hsetF hFr
        repeat first|refine kw10 hc1 hcl1 hki' hji hg3 hpn hnl1 hs1n hwk hb1 ?_|exact kwy
        exact ⟨(k+1,{s1 with flight:=s1.flight.set k (bumpP p1)},q1,_),Weak.env (by simp [envIn,lk_cons,wth_some]),by omega,hfv,hfnk,hsetF,hset,hFr,hn1,by omega⟩
       | false=>
        have hb3:p1.lost=true:=by
         cases hb3:p1.lost with
         |true=>rfl
         |false=>exact absurd ⟨hb1,hb2,hb3⟩ hb
        have hcell:pkC (bumpP p1)= [.int .i64 p1.kind,.int .i64 p1.number,.string (bs p1.body),.int .i64 p1.sent,.int .i64 p1.times,.int .i64 (IntKind.i64.wrap (p1.later+1)),.bool false,.bool true]:=by rw [hbp];unfold pkC;rw [hb2,hb3]
        rw [hb2,hb3] at hpn
        rw [hcell] at hsetF hFr
        repeat first|refine kw10 hc1 hcl1 hki' hji hg3 hpn hnl1 hs1n hwk hb1 ?_|exact kwy
        exact ⟨(k+1,{s1 with flight:=s1.flight.set k (bumpP p1)},q1,_),Weak.env (by simp [envIn,lk_cons,wth_some]),by omega,hfv,hfnk,hsetF,hset,hFr,hn1,by omega⟩
      ·have hcell:pkC (bumpP p1)= [.int .i64 p1.kind,.int .i64 p1.number,.string (bs p1.body),.int .i64 p1.sent,.int .i64 p1.times,.int .i64 (IntKind.i64.wrap (p1.later+1)),.bool p1.quick,.bool p1.lost]:=by rw [hbp];rfl
       rw [hcell] at hsetF hFr
       repeat first|refine kw10 hc1 hcl1 hki' hji hg3 hpn hnl1 hs1n hwk hb1 ?_|exact kwy
       exact ⟨(k+1,{s1 with flight:=s1.flight.set k (bumpP p1)},q1,_),Weak.env (by simp [envIn,lk_cons,wth_some]),by omega,hfv,hfnk,hsetF,hset,hFr,hn1,by omega⟩
    ·have:k=i:=by omega
     subst this
     have hki':¬(k:Int)<(k:Int):=by omega
     repeat first|refine kw1 hki' ?_|exact kwy
     refine ⟨_,_,.refl _ _ _,rfl,q1,?_,hF1,fun x hx=> .inl (hn1 x hx)⟩
     have he1:(s.flight.eraseIdx k).take k=s.flight.take k:=by rw [List.eraseIdx_eq_take_drop_succ,List.take_append_of_le_length (by rw [List.length_take];omega),List.take_take,Nat.min_self]
     have he2:(s.flight.eraseIdx k).drop k=s.flight.drop (k+1):=by rw [List.eraseIdx_eq_take_drop_succ,List.drop_append,List.drop_eq_nil_of_le (by rw [List.length_take];omega),List.nil_append,List.length_take,Nat.min_eq_left (by omega),Nat.sub_self,List.drop_zero]
     rw [he1,he2] at hs1
     unfold goneAt
     rw [← hs1]
     exact hE1
end Go.Proofs.Ytdgmcckfdgnicaa
