/-
  A part of the proof of a statement of this seat.
-/
import Derived.Test.YtdgmcckfdgnicaaUF
set_option linter.unusedVariables false
set_option linter.unusedSimpArgs false
set_option maxRecDepth 20000
set_option maxHeartbeats 8000000
namespace Go.Proofs.Ytdgmcckfdgnicaa
open Go Go.Aw Go.Proofs
theorem RowP.lt {H:AHeap} {v:Value} {l js:List Nat} (h:RowP H v l js):∀j∈js,j<H.length:=by
 rcases h with ⟨_,_,rfl⟩|⟨j,off,cap,cs,h1,rfl,h3,_⟩
 ·intro j hj;cases hj
 ·intro i hi;rw [List.mem_singleton.1 hi];exact lt_of_get h3
theorem RowP.add {H:AHeap} {v:Value} {l js:List Nat} (h:RowP H v l js) (X:AHeap):RowP (H++X) v l js:=h.frm (S:=[]) Frm.app (by simp)
theorem RowP.cells {H:AHeap} {v:Value} {l js:List Nat} (h:RowP H v l js):cellsOf v=[v]∧flat v=true:=by
 rcases h with ⟨rfl,_,_⟩|⟨j,off,cap,cs,rfl,_⟩<;> exact ⟨rfl,rfl⟩
theorem RowP.jnodup {H:AHeap} {v:Value} {l js:List Nat} (h:RowP H v l js):js.Nodup:=by
 rcases h with ⟨_,_,rfl⟩|⟨j,off,cap,cs,h1,rfl,h3,_⟩<;> simp
theorem PksAt.lt {H:AHeap} {fn:List Nat} {fl:List Pk} (h:PksAt H fn fl):∀j∈fn,j<H.length:=fun j hj=>by
 obtain ⟨i,hi⟩:=List.getElem?_of_mem hj
 have hil:=(List.getElem?_eq_some_iff.1 hi).1
 have hp1:=h.1
 exact lt_of_get (h.2 i j _ hi (List.getElem?_eq_getElem (by omega)))
theorem EndI.lt {H:AHeap} {e:Nat} {s:E} {q:Q} (h:EndI H e s q):∀j∈q.names e,j<H.length:=fun j hj=>by
 simp only [Q.names,List.mem_cons,List.mem_append] at hj
 rcases hj with rfl|rfl|hj|hj|hj|hj
 ·exact lt_of_get h.cell
 ·exact lt_of_get h.map
 ·exact h.wrow.lt j hj
 ·exact h.frow.lt j hj
 ·exact h.wpk.lt j hj
 ·exact h.fpk.lt j hj
theorem RowP.append {H:AHeap} {v:Value} {l js:List Nat} {n:Nat} {K:Value→AHeap→Prop} (h:RowP H v l js) (hl:l.length<1099511627776)
  (hk:∀v2 H2 js2,RowP H2 v2 (l++[n]) js2→Frm js H H2→ (∀ j∈js2,j∈js∨j=H.length)→K v2 H2):appendTo Try.prog 79 1 8 v 1 [ptr n] H K:=by
 rcases h with ⟨rfl,rfl,rfl⟩|⟨j,off,cap,cs,rfl,rfl,h3,h4,h5,h6⟩
 ·refine appendTo_nil (by decide) (by decide) (by decide) (hk _ _ [H.length] (.inr ⟨H.length,0,1,[ptr n],rfl,rfl,hget0 rfl,rfl,by simp,by simp⟩) Frm.app fun j hj=> .inr (List.mem_singleton.1 hj))
 ·unfold appendTo
  simp only [h3]
  have hjl:=lt_of_get h3
  refine ⟨fun hc=>⟨fun h=>absurd h (by decide),fun _=>⟨⟨⟨rfl,Nat.zero_le _⟩,by omega⟩,?_⟩⟩,fun hc=>⟨by omega,fun _=>⟨⟨trivial,trivial,Nat.zero_le _,trivial⟩,?_⟩,fun hno=>absurd ⟨by decide,by omega⟩ hno⟩⟩
  ·refine hk _ _ [j] (.inr ⟨j,off,cap,putCells cs (off+l.length*1) [ptr n],by simp,rfl,List.getElem?_set_self hjl,?_,by simp;omega,?_⟩) (Frm.set (Frm.refl _ _) (.inl (List.mem_singleton.2 rfl))) fun i hi=> .inl hi
   ·rw [putCells_length];exact h4
   ·show ((cs.set (off+l.length*1) (ptr n)).drop off).take (l++[n]).length=_
    rw [Nat.mul_one,List.length_append,List.length_singleton,List.map_append,←h6,List.drop_set,if_neg (by omega),Nat.add_sub_cancel_left]
    rw [List.take_add_one,List.getElem?_set_self (by rw [List.length_drop];omega),List.take_set_of_le (Nat.le_refl _)]
    rfl
  ·rw [Nat.mul_one,h6,Nat.zero_sub]
   refine hk _ _ [H.length] (.inr ⟨H.length,0,l.length+1,l.map ptr++[ptr n],by simp,rfl,hget0 (by simp),by simp,by simp,by rw [List.drop_zero,List.take_of_length_le (by simp)];simp⟩) ((Frm.set (Frm.refl _ _) (.inl (List.mem_singleton.2 rfl))).more) fun i hi=> .inr (List.mem_singleton.1 hi)
theorem nodup_push {x y L n:Nat} {a b c d a2:List Nat} (h:(x::y::(a++(b++(c++d)))).Nodup) (hlt:∀j∈x::y::(a++(b++(c++d))),j<L) (ha:a2.Nodup) (ha2:∀j∈a2,j∈a∨L≤j) (hn:L≤n) (hna:n∉a2):(x::y::(a2++(b++((c++[n])++d)))).Nodup:=by
 have l1:∀j,j∈x::y::(b++(c++d))→j<L:=fun j hj=>hlt j (by
  simp only [List.mem_cons,List.mem_append] at hj ⊢
  rcases hj with h|h|h|h|h
  ·exact .inl h
  ·exact .inr (.inl h)
  ·exact .inr (.inr (.inr (.inl h)))
  ·exact .inr (.inr (.inr (.inr (.inl h))))
  ·exact .inr (.inr (.inr (.inr (.inr h)))))
 have hp:(x::y::(a2++(b++((c++[n])++d)))).Perm (n::(a2++(x::y::(b++(c++d))))):=by
  refine List.perm_iff_count.2 fun z=> ?_
  simp only [List.count_cons,List.count_append,List.count_nil]
  omega
 have hp0:(x::y::(a++(b++(c++d)))).Perm (a++(x::y::(b++(c++d)))):=by
  refine List.perm_iff_count.2 fun z=> ?_
  simp only [List.count_cons,List.count_append,List.count_nil]
  omega
 have h0:=hp0.nodup h
 rw [List.nodup_append] at h0
 refine hp.symm.nodup ?_
 rw [List.nodup_cons,List.nodup_append]
 refine ⟨fun hm=> ?_,ha,h0.2.1,fun i hi j hj=> ?_⟩
 ·rcases List.mem_append.1 hm with hm|hm
  ·exact hna hm
  ·have:=l1 n hm;omega
 ·rcases ha2 i hi with h|h
  ·exact h0.2.2 i h j hj
  ·have:=l1 j hj;omega
theorem EndI.pushW {H:AHeap} {e:Nat} {s:E} {q:Q} (h:EndI H e s q) {H2:AHeap} {v2:Value} {js2:List Nat} {n:Nat} {p:Pk} (hF:Frm q.wj H H2) (hr:RowP H2 v2 (q.wn++[n]) js2) (hj:∀j∈js2,j∈q.wj∨H.length≤j) (hn:H.length≤n) (hnj:n∉js2) (hp:H2[n]? =some (.cells (pkC p) kP))
  (s':E) (t:Told) (hw:s'.waiting=s.waiting++[p]) (hf:s'.flight=s.flight) (hk:s'.kept=s.kept):
  EndI (H2.set e (.cells (endC s' {q with wv:=v2,wn:=q.wn++[n],wj:=js2,told:=t}) kE)) e s' {q with wv:=v2,wn:=q.wn++[n],wj:=js2,told:=t}∧Frm (q.names e) H (H2.set e (.cells (endC s' {q with wv:=v2,wn:=q.wn++[n],wj:=js2,told:=t}) kE)):=by
 have hel:=lt_of_get h.cell
 have hF1:=hF.1
 have hnd:=h.nodup
 have hlt:=h.lt
 have hwj:∀j∈q.m::(q.fj++(q.wn++q.fn)),j∉e::q.wj:=fun j hj hm=>by
  rcases List.mem_cons.1 hm with rfl|hm
  ·refine h.ne (j:=j) ?_ rfl
   simp only [List.mem_cons,List.mem_append] at hj ⊢
   rcases hj with h|h|h|h
   ·exact .inl h
   ·exact .inr (.inr (.inl h))
   ·exact .inr (.inr (.inr (.inl h)))
   ·exact .inr (.inr (.inr (.inr h)))
  ·unfold Q.names at hnd
   rw [List.nodup_cons,List.nodup_cons,List.nodup_append] at hnd
   rcases List.mem_cons.1 hj with rfl|hj
   ·exact hnd.2.1 (List.mem_append_left _ hm)
   ·exact hnd.2.2.2.2 j hm j hj rfl
 have hFe:Frm (e::q.wj) H (H2.set e (.cells (endC s' {q with wv:=v2,wn:=q.wn++[n],wj:=js2,told:=t}) kE)):=(hF.mono fun j hj=>List.mem_cons_of_mem _ hj).set (.inl (List.mem_cons_self ..))
 have hFe2:Frm [e] H2 (H2.set e (.cells (endC s' {q with wv:=v2,wn:=q.wn++[n],wj:=js2,told:=t}) kE)):=(Frm.refl _ _).set (.inl (List.mem_singleton.2 rfl))
 refine ⟨⟨List.getElem?_set_self (by omega),hr.frm hFe2 fun j hj' hm=> ?_,h.frow.frm hFe fun j hj=>hwj j (by simp [hj]),⟨?_,fun i m p' k1 k2=> ?_⟩,by rw [hf];exact h.fpk.frm hFe fun j hj=>hwj j (by simp [hj]),by rw [hk];exact hFe.get h.map (hwj _ (by simp)),by rw [hk];exact h.mis,?_⟩,hFe.mono fun j hj=> ?_⟩
 ·rw [List.mem_singleton] at hm
  subst hm
  rcases hj j hj' with h2|h2
  ·exact h.ne (j:=j) (by simp [h2]) rfl
  ·omega
 ·rw [hw,List.length_append,List.length_append,h.wpk.1];rfl
 ·rw [hw] at k2
  have hll:=h.wpk.1
  by_cases hi:i<q.wn.length
  ·rw [List.getElem?_append_left hi] at k1
   rw [List.getElem?_append_left (by omega)] at k2
   exact (h.wpk.frm hFe fun j hj=>hwj j (by simp [hj])).2 i m p' k1 k2
  ·rw [List.getElem?_append_right (by omega)] at k1 k2
   have h0:i - q.wn.length=0:=by
    have:=(List.getElem?_eq_some_iff.1 k1).1
    simp at this;omega
   rw [h0] at k1
   rw [show i - s.waiting.length=0 by omega] at k2
   cases k1;cases k2
   rw [List.getElem?_set_ne (by omega)]
   exact hp
 ·exact nodup_push (L:=H.length) hnd hlt hr.jnodup hj hn hnj
 ·rcases List.mem_cons.1 hj with rfl|hj
  ·simp [Q.names]
  ·simp [Q.names,hj]
end Go.Proofs.Ytdgmcckfdgnicaa

set_option linter.unusedVariables false
set_option linter.unusedSimpArgs false
set_option maxRecDepth 20000
set_option maxHeartbeats 8000000
namespace Go.Proofs.Ytdgmcckfdgnicaa
open Go Go.Aw Go.Proofs
def Steps (H:AHeap) (e:Nat) (q:Q) (s':E) (H2:AHeap):Prop:=∃q2,EndI H2 e s' q2∧Frm (q.names e) H H2∧∀j∈q2.names e,j∈q.names e∨H.length≤j
theorem Steps.refl {H:AHeap} {e:Nat} {s:E} {q:Q} (h:EndI H e s q):Steps H e q s H:=⟨q,h,Frm.refl _ _,fun j hj=> .inl hj⟩
theorem Steps.trans {H H2 H3:AHeap} {e:Nat} {s2 s3:E} {q q2:Q} (h2:EndI H2 e s2 q2) (hF:Frm (q.names e) H H2) (hn:∀j∈q2.names e,j∈q.names e∨H.length≤j) (k:Steps H2 e q2 s3 H3):Steps H e q s3 H3:=by
 obtain ⟨q3,k1,k2,k3⟩:=k
 refine ⟨q3,k1,hF.trans k2 hn,fun j hj=> ?_⟩
 rcases k3 j hj with h|h
 ·exact hn j h
 ·have:=hF.1;exact .inr (by omega)
theorem Steps.put {H:AHeap} {e:Nat} {s:E} {q:Q} (h:EndI H e s q) (s':E) (t:Told) (hw:s'.waiting=s.waiting) (hf:s'.flight=s.flight) (hk:s'.kept=s.kept):Steps H e q s' (H.set e (.cells (endC s' {q with told:=t}) kE)):=
 ⟨_,h.put s' t hw hf hk,Frm.set (Frm.refl _ _) (.inl (by simp [Q.names])),fun j hj=> .inl hj⟩
def newP (kind:Int) (body:List UInt8):Pk:=⟨kind,0,body,0,0,0,false,false⟩
def openR (s:E) (now:Int):Int×E:=
 if atR s now=0 then (if s.opener=true∧s.state=0 then (0,{s with now:=now,state:=1,waiting:=s.waiting++[newP 1 []]}) else (9,s)) else (atR s now,s)
theorem Open {H:AHeap} {e:Nat} {s:E} {q:Q} (h:EndI H e s q) (now:Int) (hl:s.waiting.length<1099511627776):
  AC Try.prog 33 [ptr e,.int .i64 now] H (fun r H2=>r= .ret (.int .i64 (openR s now).1)∧Steps H e q (openR s now).2 H2):=by
 have hc:=h.cell
 have ha:=at_ h now
 have hll:=h.wpk.1
 simp only [endC] at hc
 have hcl:=lt_of_get hc
 unfold openR
 by_cases h0:atR s now=0
 ·have h0':(atR s now != 0)=false:=by simp [h0]
  rw [if_pos h0]
  cases hop:s.opener with
  |false=>
   rw [if_neg (by simp)]
   refine AC.enter Try.func33 rfl (by kernel_rfl) 44 rfl [.tmp 4] rfl (by simp) fun hsc B=> ?_
   repeat first|with_reducible refine kc ?_|((with_reducible first|refine kr ?_ ?_|refine kt ?_ ?_);exact rfl)|((with_reducible refine kf ?_ ?_);exact rfl)|with_reducible refine ha.use ?_|simp only [go_sem,sevalprocAttr,reduceCtorEq,hc,h0',hop]|simp (disch:=omega) only [wz]
   exact ⟨_,_,.refl _ _ _,rfl,Steps.refl h⟩
  | true=>
   by_cases h1:s.state=0
   ·have h1':(s.state != 0)=false:=by simp [h1]
    rw [if_pos ⟨rfl,h1⟩]
    have h1:=h.put {s with now:=now,state:=1} q.told rfl rfl rfl
    obtain ⟨H1,hH1⟩:∃H1,H1=H.set e (.cells (endC {s with now:=now,state:=1} q) kE):=⟨_,rfl⟩
    rw [← hH1] at h1
    have hF1:Frm (q.names e) H H1:=by rw [hH1];exact Frm.set (Frm.refl _ _) (.inl (by simp [Q.names]))
    have hlen:H1.length=H.length:=by rw [hH1,List.length_set]
    have hH1':=hH1.symm
    simp only [endC,hop] at hH1'
    have hc1:=h1.cell
    simp only [endC,hop] at hc1
    have hcl1:=lt_of_get hc1
    clear hH1
    refine AC.enter Try.func33 rfl (by kernel_rfl) 44 rfl [.tmp 4] rfl (by simp) fun hsc B=> ?_
    repeat first|with_reducible refine kc ?_|((with_reducible first|refine kr ?_ ?_|refine kt ?_ ?_);exact rfl)|((with_reducible refine kf ?_ ?_);exact rfl)|with_reducible refine ha.use ?_|simp only [go_sem,sevalprocAttr,reduceCtorEq,hc,h0',hop,h1',hcl,hH1',hc1,hgetl,hcl1,hlen,List.map_cons,List.map_nil]|simp (disch:=omega) only [wz]
    refine (h1.wrow.add _).append (n:=H.length) (by dsimp only;omega) fun v2 H2 js2 hr hF hj=> ?_
    have he2:=hF.get (show (H1++_)[e]? =_ from by rw [hgetl hcl1];exact hc1) (fun hm=>h1.ne (j:=e) (by simp [hm]) rfl)
    have hel2:=lt_of_get he2
    obtain ⟨hv1,hv2⟩:=hr.cells
    repeat first|with_reducible refine kc ?_|((with_reducible first|refine kr ?_ ?_|refine kt ?_ ?_);exact rfl)|((with_reducible refine kf ?_ ?_);exact rfl)|simp only [go_sem,sevalprocAttr,reduceCtorEq,he2,hel2,hv1]|simp (disch:=omega) only [wz]
    refine ⟨hv2,?_⟩
    repeat first|with_reducible refine kc ?_|((with_reducible first|refine kr ?_ ?_|refine kt ?_ ?_);exact rfl)|((with_reducible refine kf ?_ ?_);exact rfl)|simp only [go_sem,sevalprocAttr,reduceCtorEq]|simp (disch:=omega) only [wz]
    have hF1l:=hF.1
    have hwlt:=h1.wrow.lt
    have hpush:=h1.pushW (H2:=H2) (v2:=v2) (js2:=js2) (n:=H.length) (p:=newP 1 []) (Frm.trans Frm.app hF (fun j hj=> .inl hj)) hr (fun j hj2=>by
     rcases hj j hj2 with h|h
     ·exact .inl h
     ·exact .inr (by rw [h];simp)) (by omega) (fun hm=>by
     rcases hj _ hm with h|h
     ·have:=hwlt _ h;omega
     ·simp at h;omega) (hF.get (by rw [← hlen];simp [newP,pkC]) (fun hm=>by have:=hwlt _ hm;omega)) {s with now:=now,state:=1,waiting:=s.waiting++[newP 1 []]} q.told rfl rfl rfl
    simp only [endC,hop] at hpush
    refine ⟨_,_,.refl _ _ _,rfl,_,hpush.1,hF1.trans hpush.2 (fun j hj=> .inl hj),fun j hj3=> ?_⟩
    simp only [Q.names,List.mem_cons,List.mem_append,List.not_mem_nil,or_false] at hj3 ⊢
    rcases hj3 with h|h|h|h|(h|h)|h
    ·exact .inl (.inl h)
    ·exact .inl (.inr (.inl h))
    ·rcases hj j h with h|h
     ·exact .inl (.inr (.inr (.inl h)))
     ·exact .inr (by rw [h,List.length_append];omega)
    ·exact .inl (.inr (.inr (.inr (.inl h))))
    ·exact .inl (.inr (.inr (.inr (.inr (.inl h)))))
    ·exact .inr (by omega)
    ·exact .inl (.inr (.inr (.inr (.inr (.inr h)))))
   ·have h1':(s.state != 0)=true:=by simp [h1]
    rw [if_neg (fun h=>h1 h.2)]
    refine AC.enter Try.func33 rfl (by kernel_rfl) 44 rfl [.tmp 4] rfl (by simp) fun hsc B=> ?_
    repeat first|with_reducible refine kc ?_|((with_reducible first|refine kr ?_ ?_|refine kt ?_ ?_);exact rfl)|((with_reducible refine kf ?_ ?_);exact rfl)|with_reducible refine ha.use ?_|simp only [go_sem,sevalprocAttr,reduceCtorEq,hc,h0',hop,h1']|simp (disch:=omega) only [wz]
    exact ⟨_,_,.refl _ _ _,rfl,Steps.refl h⟩
 ·have h0':(atR s now != 0)=true:=by simp [h0]
  rw [if_neg h0]
  refine AC.enter Try.func33 rfl (by kernel_rfl) 44 rfl [.tmp 4] rfl (by simp) fun hsc B=> ?_
  repeat first|with_reducible refine kc ?_|((with_reducible first|refine kr ?_ ?_|refine kt ?_ ?_);exact rfl)|((with_reducible refine kf ?_ ?_);exact rfl)|with_reducible refine ha.use ?_|simp only [go_sem,sevalprocAttr,reduceCtorEq,hc,h0']|simp (disch:=omega) only [wz]
  exact ⟨_,_,.refl _ _ _,rfl,Steps.refl h⟩
end Go.Proofs.Ytdgmcckfdgnicaa
