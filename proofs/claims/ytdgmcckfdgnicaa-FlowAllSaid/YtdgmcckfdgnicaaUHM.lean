/-
  A part of the proof of a statement of this seat.
-/
import Derived.Test.YtdgmcckfdgnicaaUCM
set_option linter.unusedVariables false
set_option linter.unusedSimpArgs false
set_option maxRecDepth 20000
set_option maxHeartbeats 8000000
namespace Go.Proofs.Ytdgmcckfdgnicaa
open Go Go.Aw Go.Proofs
def Steps (H:AHeap) (e:Nat) (q:Q) (s':E) (H2:AHeap):Prop:=∃q2,EndI H2 e s' q2∧Frm (q.names e) H H2∧∀j∈q2.names e,j∈q.names e∨H.length≤j
theorem Steps.refl {H:AHeap} {e:Nat} {s:E} {q:Q} (h:EndI H e s q):Steps H e q s H:=⟨q,h,Frm.refl _ _,fun j hj=> .inl hj⟩
theorem Steps.trans {H H2 H3:AHeap} {e:Nat} {s2 s3:E} {q q2:Q} (h2:EndI H2 e s2 q2) (hF:Frm (q.names e) H H2) (hn:∀j∈q2.names e,j∈q.names e∨H.length≤j) (k:Steps H2 e q2 s3 H3):Steps H e q s3 H3:=by
 obtain ⟨q3,k1,k2,k3⟩:=k
 refine ⟨q3,k1,hF.trans k2 hn,fun j hj=> ?_⟩
 rcases k3 j hj with h|h
 ·exact hn j h
 ·have:=hF.1;exact .inr (by omega)
theorem Steps.put {H:AHeap} {e:Nat} {s:E} {q:Q} (h:EndI H e s q) (s':E) (t:Told) (hw:s'.waiting=s.waiting) (hf:s'.flight=s.flight) (hk:s'.kept=s.kept):Steps H e q s' (H.set e (.cells (endC s' {q with told:=t}) kE)):=
 ⟨_,h.put s' t hw hf hk,Frm.set (Frm.refl _ _) (.inl (by simp [Q.names])),fun j hj=> .inl hj⟩
def newP (kind:Int) (body:List UInt8):Pk:=⟨kind,0,body,0,0,0,false,false⟩
def openR (s:E) (now:Int):Int×E:=
 if atR s now=0 then (if s.opener=true∧s.state=0 then (0,{s with now:=now,state:=1,waiting:=s.waiting++[newP 1 []]}) else (9,s)) else (atR s now,s)
theorem Open {H:AHeap} {e:Nat} {s:E} {q:Q} (h:EndI H e s q) (now:Int) (hl:s.waiting.length<1099511627776):
  AC Try.prog 33 [ptr e,.int .i64 now] H (fun r H2=>r= .ret (.int .i64 (openR s now).1)∧Steps H e q (openR s now).2 H2):=by
 have hc:=h.cell
 have ha:=at_ h now
 have hll:=h.wpk.1
 simp only [endC] at hc
 have hcl:=lt_of_get hc
 unfold openR
 by_cases h0:atR s now=0
 ·have h0':(atR s now != 0)=false:=by simp [h0]
  rw [if_pos h0]
  cases hop:s.opener with
  |false=>
   rw [if_neg (by simp)]
   refine AC.enter Try.func33 rfl (by kernel_rfl) 44 rfl [.tmp 4] rfl (by simp) fun hsc B=> ?_
   repeat first|with_reducible refine ha.use ?_|refine kw3 hc h0' hop ?_|exact kwy
   exact ⟨_,_,.refl _ _ _,rfl,Steps.refl h⟩
  | true=>
   by_cases h1:s.state=0
   ·have h1':(s.state != 0)=false:=by simp [h1]
    rw [if_pos ⟨rfl,h1⟩]
    have h1:=h.put {s with now:=now,state:=1} q.told rfl rfl rfl
    obtain ⟨H1,hH1⟩:∃H1,H1=H.set e (.cells (endC {s with now:=now,state:=1} q) kE):=⟨_,rfl⟩
    rw [← hH1] at h1
    have hF1:Frm (q.names e) H H1:=by rw [hH1];exact Frm.set (Frm.refl _ _) (.inl (by simp [Q.names]))
    have hlen:H1.length=H.length:=by rw [hH1,List.length_set]
    have hH1':=hH1.symm
    simp only [endC,hop] at hH1'
    have hc1:=h1.cell
    simp only [endC,hop] at hc1
    have hcl1:=lt_of_get hc1
    clear hH1
    refine AC.enter Try.func33 rfl (by kernel_rfl) 44 rfl [.tmp 4] rfl (by simp) fun hsc B=> ?_
    repeat first|with_reducible refine ha.use ?_|refine kw12 hc h0' hop h1' hcl hH1' hc1 @hgetl hcl1 hlen @List.map_cons.{0,0} @List.map_nil.{0,0} ?_|exact kwy
    refine (h1.wrow.add _).append (n:=H.length) (by dsimp only;omega) fun v2 H2 js2 hr hF hj=> ?_
    have he2:=hF.get (show (H1++_)[e]? =_ from by rw [hgetl hcl1];exact hc1) (fun hm=>h1.ne (j:=e) (by simp [hm]) rfl)
    have hel2:=lt_of_get he2
    obtain ⟨hv1,hv2⟩:=hr.cells
    repeat first|refine kw3 he2 hel2 hv1 ?_|exact kwy
    refine ⟨hv2,?_⟩
    repeat first|refine kw0 ?_|exact kwy
    have hF1l:=hF.1
    have hwlt:=h1.wrow.lt
    have hpush:=h1.pushW (H2:=H2) (v2:=v2) (js2:=js2) (n:=H.length) (p:=newP 1 []) (Frm.trans Frm.app hF (fun j hj=> .inl hj)) hr (fun j hj2=>by
     rcases hj j hj2 with h|h
     ·exact .inl h
     ·exact .inr (by rw [h];simp)) (by omega) (fun hm=>by
     rcases hj _ hm with h|h
     ·have:=hwlt _ h;omega
     ·simp at h;omega) (hF.get (by rw [← hlen];simp [newP,pkC]) (fun hm=>by have:=hwlt _ hm;omega)) {s with now:=now,state:=1,waiting:=s.waiting++[newP 1 []]} q.told rfl rfl rfl
    simp only [endC,hop] at hpush
    refine ⟨_,_,.refl _ _ _,rfl,_,hpush.1,hF1.trans hpush.2 (fun j hj=> .inl hj),fun j hj3=> ?_⟩
    simp only [Q.names,List.mem_cons,List.mem_append,List.not_mem_nil,or_false] at hj3 ⊢
    rcases hj3 with h|h|h|h|(h|h)|h
    ·exact .inl (.inl h)
    ·exact .inl (.inr (.inl h))
    ·rcases hj j h with h|h
     ·exact .inl (.inr (.inr (.inl h)))
     ·exact .inr (by rw [h,List.length_append];omega)
    ·exact .inl (.inr (.inr (.inr (.inl h))))
    ·exact .inl (.inr (.inr (.inr (.inr (.inl h)))))
    ·exact .inr (by omega)
    ·exact .inl (.inr (.inr (.inr (.inr (.inr h)))))
   ·have h1':(s.state != 0)=true:=by simp [h1]
    rw [if_neg (fun h=>h1 h.2)]
    refine AC.enter Try.func33 rfl (by kernel_rfl) 44 rfl [.tmp 4] rfl (by simp) fun hsc B=> ?_
    repeat first|with_reducible refine ha.use ?_|refine kw4 hc h0' hop h1' ?_|exact kwy
    exact ⟨_,_,.refl _ _ _,rfl,Steps.refl h⟩
 ·have h0':(atR s now != 0)=true:=by simp [h0]
  rw [if_neg h0]
  refine AC.enter Try.func33 rfl (by kernel_rfl) 44 rfl [.tmp 4] rfl (by simp) fun hsc B=> ?_
  repeat first|with_reducible refine ha.use ?_|refine kw2 hc h0' ?_|exact kwy
  exact ⟨_,_,.refl _ _ _,rfl,Steps.refl h⟩
end Go.Proofs.Ytdgmcckfdgnicaa

set_option linter.unusedVariables false
set_option linter.unusedSimpArgs false
set_option maxRecDepth 20000
set_option maxHeartbeats 8000000
namespace Go.Proofs.Ytdgmcckfdgnicaa
open Go Go.Aw Go.Proofs
def closeR (s:E) (now:Int):Int×E:=
 if atR s now=0 then (if s.closing=false∧(s.state=1∨s.state=2) then (0,{s with now:=now,closing:=true,waiting:=s.waiting++[newP 4 []]}) else (9,s)) else (atR s now,s)
theorem Close {H:AHeap} {e:Nat} {s:E} {q:Q} (h:EndI H e s q) (now:Int) (hl:s.waiting.length<1099511627776):
  AC Try.prog 26 [ptr e,.int .i64 now] H (fun r H2=>r= .ret (.int .i64 (closeR s now).1)∧Steps H e q (closeR s now).2 H2):=by
 have hc:=h.cell
 have ha:=at_ h now
 have hll:=h.wpk.1
 simp only [endC] at hc
 have hcl:=lt_of_get hc
 unfold closeR
 by_cases h0:atR s now=0
 ·have h0':(atR s now != 0)=false:=by simp [h0]
  rw [if_pos h0]
  cases hop:s.closing with
  |true=>
   rw [if_neg (by simp)]
   refine AC.enter Try.func26 rfl (by kernel_rfl) 52 rfl [.tmp 4] rfl (by simp) fun hsc B=> ?_
   repeat first|with_reducible refine ha.use ?_|refine kw3 hc h0' hop ?_|exact kwy
   exact ⟨_,_,.refl _ _ _,rfl,Steps.refl h⟩
  | false=>
   by_cases hs:s.state=1∨s.state=2
   ·rw [if_pos ⟨rfl,hs⟩]
    by_cases h1:s.state=1
    ·have h1':(s.state != 1)=false:=by simp [h1]
     have h2':(s.state != 2)=true:=by simp [h1]
     clear h1
     have h1:=h.put {s with now:=now,closing:=true} q.told rfl rfl rfl
     obtain ⟨H1,hH1⟩:∃H1,H1=H.set e (.cells (endC {s with now:=now,closing:=true} q) kE):=⟨_,rfl⟩
     rw [← hH1] at h1
     have hF1:Frm (q.names e) H H1:=by rw [hH1];exact Frm.set (Frm.refl _ _) (.inl (by simp [Q.names]))
     have hlen:H1.length=H.length:=by rw [hH1,List.length_set]
     have hH1':=hH1.symm
     simp only [endC] at hH1'
     have hc1:=h1.cell
     simp only [endC] at hc1
     have hcl1:=lt_of_get hc1
     clear hH1
     refine AC.enter Try.func26 rfl (by kernel_rfl) 52 rfl [.tmp 4] rfl (by simp) fun hsc B=> ?_
     repeat first|with_reducible refine ha.use ?_|refine kw13 hc h0' hop h1' h2' hcl hH1' hc1 @hgetl hcl1 hlen @List.map_cons.{0,0} @List.map_nil.{0,0} ?_|exact kwy
     refine (h1.wrow.add _).append (n:=H.length) (by dsimp only;omega) fun v2 H2 js2 hr hF hj=> ?_
     have he2:=hF.get (show (H1++_)[e]? =_ from by rw [hgetl hcl1];exact hc1) (fun hm=>h1.ne (j:=e) (by simp [hm]) rfl)
     have hel2:=lt_of_get he2
     obtain ⟨hv1,hv2⟩:=hr.cells
     repeat first|refine kw3 he2 hel2 hv1 ?_|exact kwy
     refine ⟨hv2,?_⟩
     repeat first|refine kw0 ?_|exact kwy
     have hF1l:=hF.1
     have hwlt:=h1.wrow.lt
     have hpush:=h1.pushW (H2:=H2) (v2:=v2) (js2:=js2) (n:=H.length) (p:=newP 4 []) (Frm.trans Frm.app hF (fun j hj=> .inl hj)) hr (fun j hj2=>by
      rcases hj j hj2 with h|h
      ·exact .inl h
      ·exact .inr (by rw [h];simp)) (by omega) (fun hm=>by
      rcases hj _ hm with h|h
      ·have:=hwlt _ h;omega
      ·simp at h;omega) (hF.get (by rw [← hlen];simp [newP,pkC]) (fun hm=>by have:=hwlt _ hm;omega)) {s with now:=now,closing:=true,waiting:=s.waiting++[newP 4 []]} q.told rfl rfl rfl
     simp only [endC] at hpush
     refine ⟨_,_,.refl _ _ _,rfl,_,hpush.1,hF1.trans hpush.2 (fun j hj=> .inl hj),fun j hj3=> ?_⟩
     simp only [Q.names,List.mem_cons,List.mem_append,List.not_mem_nil,or_false] at hj3 ⊢
     rcases hj3 with h|h|h|h|(h|h)|h
     ·exact .inl (.inl h)
     ·exact .inl (.inr (.inl h))
     ·rcases hj j h with h|h
      ·exact .inl (.inr (.inr (.inl h)))
      ·exact .inr (by rw [h,List.length_append];omega)
     ·exact .inl (.inr (.inr (.inr (.inl h))))
     ·exact .inl (.inr (.inr (.inr (.inr (.inl h)))))
     ·exact .inr (by omega)
     ·exact .inl (.inr (.inr (.inr (.inr (.inr h)))))
    ·have h1':(s.state != 1)=true:=by simp [h1]
     have h2':(s.state != 2)=false:=by simp;omega
     clear h1
     have h1:=h.put {s with now:=now,closing:=true} q.told rfl rfl rfl
     obtain ⟨H1,hH1⟩:∃H1,H1=H.set e (.cells (endC {s with now:=now,closing:=true} q) kE):=⟨_,rfl⟩
     rw [← hH1] at h1
     have hF1:Frm (q.names e) H H1:=by rw [hH1];exact Frm.set (Frm.refl _ _) (.inl (by simp [Q.names]))
     have hlen:H1.length=H.length:=by rw [hH1,List.length_set]
     have hH1':=hH1.symm
     simp only [endC] at hH1'
     have hc1:=h1.cell
     simp only [endC] at hc1
     have hcl1:=lt_of_get hc1
     clear hH1
     refine AC.enter Try.func26 rfl (by kernel_rfl) 52 rfl [.tmp 4] rfl (by simp) fun hsc B=> ?_
     repeat first|with_reducible refine ha.use ?_|refine kw13 hc h0' hop h1' h2' hcl hH1' hc1 @hgetl hcl1 hlen @List.map_cons.{0,0} @List.map_nil.{0,0} ?_|exact kwy
     refine (h1.wrow.add _).append (n:=H.length) (by dsimp only;omega) fun v2 H2 js2 hr hF hj=> ?_
     have he2:=hF.get (show (H1++_)[e]? =_ from by rw [hgetl hcl1];exact hc1) (fun hm=>h1.ne (j:=e) (by simp [hm]) rfl)
     have hel2:=lt_of_get he2
     obtain ⟨hv1,hv2⟩:=hr.cells
     repeat first|refine kw3 he2 hel2 hv1 ?_|exact kwy
     refine ⟨hv2,?_⟩
     repeat first|refine kw0 ?_|exact kwy
     have hF1l:=hF.1
     have hwlt:=h1.wrow.lt
     have hpush:=h1.pushW (H2:=H2) (v2:=v2) (js2:=js2) (n:=H.length) (p:=newP 4 []) (Frm.trans Frm.app hF (fun j hj=> .inl hj)) hr (fun j hj2=>by
      rcases hj j hj2 with h|h
      ·exact .inl h
      ·exact .inr (by rw [h];simp)) (by omega) (fun hm=>by
      rcases hj _ hm with h|h
      ·have:=hwlt _ h;omega
      ·simp at h;omega) (hF.get (by rw [← hlen];simp [newP,pkC]) (fun hm=>by have:=hwlt _ hm;omega)) {s with now:=now,closing:=true,waiting:=s.waiting++[newP 4 []]} q.told rfl rfl rfl
     simp only [endC] at hpush
     refine ⟨_,_,.refl _ _ _,rfl,_,hpush.1,hF1.trans hpush.2 (fun j hj=> .inl hj),fun j hj3=> ?_⟩
     simp only [Q.names,List.mem_cons,List.mem_append,List.not_mem_nil,or_false] at hj3 ⊢
     rcases hj3 with h|h|h|h|(h|h)|h
     ·exact .inl (.inl h)
     ·exact .inl (.inr (.inl h))
     ·rcases hj j h with h|h
      ·exact .inl (.inr (.inr (.inl h)))
      ·exact .inr (by rw [h,List.length_append];omega)
     ·exact .inl (.inr (.inr (.inr (.inl h))))
     ·exact .inl (.inr (.inr (.inr (.inr (.inl h)))))
     ·exact .inr (by omega)
     ·exact .inl (.inr (.inr (.inr (.inr (.inr h)))))
   ·have h1':(s.state != 1)=true:=by simp;omega
    have h2':(s.state != 2)=true:=by simp;omega
    rw [if_neg (fun h=>hs h.2)]
    refine AC.enter Try.func26 rfl (by kernel_rfl) 52 rfl [.tmp 4] rfl (by simp) fun hsc B=> ?_
    repeat first|with_reducible refine ha.use ?_|refine kw5 hc h0' hop h1' h2' ?_|exact kwy
    exact ⟨_,_,.refl _ _ _,rfl,Steps.refl h⟩
 ·have h0':(atR s now != 0)=true:=by simp [h0]
  rw [if_neg h0]
  refine AC.enter Try.func26 rfl (by kernel_rfl) 52 rfl [.tmp 4] rfl (by simp) fun hsc B=> ?_
  repeat first|with_reducible refine ha.use ?_|refine kw2 hc h0' ?_|exact kwy
  exact ⟨_,_,.refl _ _ _,rfl,Steps.refl h⟩
end Go.Proofs.Ytdgmcckfdgnicaa
