/-
 Taking packets of the kinds open and reset.
-/
import Derived.Test.YtdgmcckfdgnicaaUHM
set_option linter.unusedVariables false
set_option linter.unusedSimpArgs false
set_option maxRecDepth 20000
set_option maxHeartbeats 8000000
namespace Go.Proofs.Ytdgmcckfdgnicaa
open Go Go.Aw Go.Proofs
theorem Steps.more {H:AHeap} {e:Nat} {s s':E} {q:Q} {X H2:AHeap} (h:EndI H e s q) (k:Steps (H++X) e q s' H2):Steps H e q s' H2:=Steps.trans (h.more X) Frm.app (fun j hj=> .inl hj) k
def openT (s:E) (p:Sg):E:=if s.opener=true∨s.state=1∨s.state=5 then s else if s.state=0 then {s with state:=2,base:=p.seq,answer:=true} else {s with answer:=true}
theorem takeOpen {H:AHeap} {e:Nat} {s:E} {q:Q} (h:EndI H e s q) (p:Sg):AC Try.prog 64 [ptr e,p.v] H (fun r H2=>r= .ret noVal∧Steps H e q (openT s p) H2):=by
 have hc:=h.cell
 have hcl:=lt_of_get hc
 simp only [endC] at hc
 have hse:∀(o o1:AObj),((H++[o1]).set e o)[H.length]? =some o1:=fun o o1=>by rw [List.getElem?_set_ne (by omega)];simp
 unfold openT Sg.v Sg.c sgC
 by_cases h0:s.opener=true∨s.state=1∨s.state=5
 ·rw [if_pos h0]
  cases hop:s.opener with
  |true=>
   refine AC.enter Try.func64 rfl (by kernel_rfl) 46 rfl [] rfl (by simp) fun hsc B=> ?_
   repeat first|with_reducible refine kc ?_|((with_reducible first|refine kr ?_ ?_|refine kt ?_ ?_);exact rfl)|((with_reducible refine kf ?_ ?_);exact rfl)|simp only [go_sem,sevalprocAttr,reduceCtorEq,hc,hcl,hgetl,hop]|simp (disch:=omega) only [wz]
   exact ⟨_,_,.refl _ _ _,rfl,Steps.more h (Steps.refl (h.more _))⟩
  | false=>
   by_cases h1:s.state=1
   ·have h1':(s.state==1)=true:=by simp [h1]
    refine AC.enter Try.func64 rfl (by kernel_rfl) 46 rfl [] rfl (by simp) fun hsc B=> ?_
    repeat first|with_reducible refine kc ?_|((with_reducible first|refine kr ?_ ?_|refine kt ?_ ?_);exact rfl)|((with_reducible refine kf ?_ ?_);exact rfl)|simp only [go_sem,sevalprocAttr,reduceCtorEq,hc,hcl,hgetl,hop,h1']|simp (disch:=omega) only [wz]
    exact ⟨_,_,.refl _ _ _,rfl,Steps.more h (Steps.refl (h.more _))⟩
   ·have h1':(s.state==1)=false:=by simp [h1]
    have h5':(s.state==5)=true:=by simp [hop] at h0;simp;omega
    refine AC.enter Try.func64 rfl (by kernel_rfl) 46 rfl [] rfl (by simp) fun hsc B=> ?_
    repeat first|with_reducible refine kc ?_|((with_reducible first|refine kr ?_ ?_|refine kt ?_ ?_);exact rfl)|((with_reducible refine kf ?_ ?_);exact rfl)|simp only [go_sem,sevalprocAttr,reduceCtorEq,hc,hcl,hgetl,hop,h1',h5']|simp (disch:=omega) only [wz]
    exact ⟨_,_,.refl _ _ _,rfl,Steps.more h (Steps.refl (h.more _))⟩
 ·rw [if_neg h0]
  have hop:s.opener=false:=by cases ho:s.opener with|false=>rfl|true=>exact absurd (.inl ho) h0
  have h1':(s.state==1)=false:=by simp;intro hx;exact h0 (.inr (.inl hx))
  have h5':(s.state==5)=false:=by simp;intro hx;exact h0 (.inr (.inr hx))
  by_cases hz:s.state=0
  ·rw [if_pos hz]
   have hz':(s.state==0)=true:=by simp [hz]
   refine AC.enter Try.func64 rfl (by kernel_rfl) 46 rfl [] rfl (by simp) fun hsc B=> ?_
   repeat first|with_reducible refine kc ?_|((with_reducible first|refine kr ?_ ?_|refine kt ?_ ?_);exact rfl)|((with_reducible refine kf ?_ ?_);exact rfl)|simp only [go_sem,sevalprocAttr,reduceCtorEq,hc,hcl,hgetl,hop,h1',h5',hz']|simp (disch:=omega) only [wz]
   apply AWP.regionX [6,10] [(0,0),(0,1),(0,1),(0,1),(0,0),(0,0),(0,0),(1,0),(1,0),(1,0),(1,0)] [33,34,35,36,37,38,39,40,41] [_,_] [(33,_),(34,_),(35,_),(36,_),(37,_),(38,_),(39,_),(40,_),(41,_)]
   ·kernel_rfl
   ·kernel_rfl
   ·kernel_rfl
   ·kernel_rfl
   ·rfl
   ·simp only [eachB,runB]
    repeat' with_reducible refine And.intro ?_ ?_
    all_goals try (
     repeat' first
      |with_reducible refine And.intro ?_ ?_|with_reducible refine kc ?_|((with_reducible first|refine kr ?_ ?_|refine kt ?_ ?_);exact rfl)|((with_reducible refine kf ?_ ?_);exact rfl)|simp only [go_sem,sevalprocAttr,reduceCtorEq,hc,hcl,hgetl,hse,stepS,hpL,List.getD_cons_zero,List.getD_cons_succ,List.contains_cons,List.contains_nil,and_imp,forall_eq,implies_true,List.map_cons,List.map_nil]|simp (disch:=omega) only [wz]
      |exact rfl
     done)
    all_goals (
     repeat' first
      |with_reducible refine And.intro ?_ ?_|with_reducible refine kc ?_|((with_reducible first|refine kr ?_ ?_|refine kt ?_ ?_);exact rfl)|((with_reducible refine kf ?_ ?_);exact rfl)|simp only [go_sem,sevalprocAttr,reduceCtorEq,hc,hcl,hgetl,hse,stepS,hpL,List.getD_cons_zero,List.getD_cons_succ,List.contains_cons,List.contains_nil,and_imp,forall_eq,implies_true,List.map_cons,List.map_nil]|simp (disch:=omega) only [wz]
      |exact rfl)
   repeat first|with_reducible refine kc ?_|((with_reducible first|refine kr ?_ ?_|refine kt ?_ ?_);exact rfl)|((with_reducible refine kf ?_ ?_);exact rfl)|simp only [go_sem,sevalprocAttr,reduceCtorEq,hc,hcl,hgetl]|simp (disch:=omega) only [wz]
   have hS:=Steps.put (h.more [.cells [.int .i64 p.kind,.int .i64 p.conn,.int .i64 p.seq,.int .i64 p.ack,.int .i64 p.window,.string (bs p.marks),.string (bs p.body),.int .i64 p.time,.int .i64 p.late] ⟨44,0,true,0,none⟩]) {s with state:=2,base:=p.seq,answer:=true} q.told rfl rfl rfl
   simp only [endC,hop] at hS
   try simp only [hop]
   exact ⟨_,_,.refl _ _ _,rfl,Steps.more h hS⟩
  ·rw [if_neg hz]
   have hz':(s.state==0)=false:=by simp [hz]
   refine AC.enter Try.func64 rfl (by kernel_rfl) 46 rfl [] rfl (by simp) fun hsc B=> ?_
   repeat first|with_reducible refine kc ?_|((with_reducible first|refine kr ?_ ?_|refine kt ?_ ?_);exact rfl)|((with_reducible refine kf ?_ ?_);exact rfl)|simp only [go_sem,sevalprocAttr,reduceCtorEq,hc,hcl,hgetl,hop,h1',h5',hz']|simp (disch:=omega) only [wz]
   have hS:=Steps.put (h.more [.cells [.int .i64 p.kind,.int .i64 p.conn,.int .i64 p.seq,.int .i64 p.ack,.int .i64 p.window,.string (bs p.marks),.string (bs p.body),.int .i64 p.time,.int .i64 p.late] ⟨44,0,true,0,none⟩]) {s with answer:=true} q.told rfl rfl rfl
   simp only [endC,hop] at hS
   try simp only [hop]
   exact ⟨_,_,.refl _ _ _,rfl,Steps.more h hS⟩
def dropT (s:E):E:=if s.state≠0∧s.state≠4 then {s with state:=5,replies:=false} else s
theorem takeDrop {H:AHeap} {e:Nat} {s:E} {q:Q} (h:EndI H e s q) (p:Sg):AC Try.prog 67 [ptr e,p.v] H (fun r H2=>r= .ret noVal∧Steps H e q (dropT s) H2):=by
 have hc:=h.cell
 have hcl:=lt_of_get hc
 simp only [endC] at hc
 unfold dropT Sg.v Sg.c sgC
 by_cases h0:s.state=0
 ·have h0':(s.state != 0)=false:=by simp [h0]
  rw [if_neg (fun hx=>hx.1 h0)]
  refine AC.enter Try.func67 rfl (by kernel_rfl) 23 rfl [] rfl (by simp) fun hsc B=> ?_
  repeat first|with_reducible refine kc ?_|((with_reducible first|refine kr ?_ ?_|refine kt ?_ ?_);exact rfl)|((with_reducible refine kf ?_ ?_);exact rfl)|simp only [go_sem,sevalprocAttr,reduceCtorEq,hc,hcl,hgetl,h0']|simp (disch:=omega) only [wz]
  exact ⟨_,_,.refl _ _ _,rfl,Steps.more h (Steps.refl (h.more _))⟩
 ·have h0':(s.state != 0)=true:=by simp [h0]
  by_cases h4:s.state=4
  ·have h4':(s.state != 4)=false:=by simp [h4]
   rw [if_neg (fun hx=>hx.2 h4)]
   refine AC.enter Try.func67 rfl (by kernel_rfl) 23 rfl [] rfl (by simp) fun hsc B=> ?_
   repeat first|with_reducible refine kc ?_|((with_reducible first|refine kr ?_ ?_|refine kt ?_ ?_);exact rfl)|((with_reducible refine kf ?_ ?_);exact rfl)|simp only [go_sem,sevalprocAttr,reduceCtorEq,hc,hcl,hgetl,h0',h4']|simp (disch:=omega) only [wz]
   exact ⟨_,_,.refl _ _ _,rfl,Steps.more h (Steps.refl (h.more _))⟩
  ·have h4':(s.state != 4)=true:=by simp [h4]
   rw [if_pos ⟨h0,h4⟩]
   refine AC.enter Try.func67 rfl (by kernel_rfl) 23 rfl [] rfl (by simp) fun hsc B=> ?_
   repeat first|with_reducible refine kc ?_|((with_reducible first|refine kr ?_ ?_|refine kt ?_ ?_);exact rfl)|((with_reducible refine kf ?_ ?_);exact rfl)|simp only [go_sem,sevalprocAttr,reduceCtorEq,hc,hcl,hgetl,h0',h4']|simp (disch:=omega) only [wz]
   have hS:=Steps.put (h.more [.cells [.int .i64 p.kind,.int .i64 p.conn,.int .i64 p.seq,.int .i64 p.ack,.int .i64 p.window,.string (bs p.marks),.string (bs p.body),.int .i64 p.time,.int .i64 p.late] ⟨44,0,true,0,none⟩]) {s with state:=5,replies:=false} q.told rfl rfl rfl
   simp only [endC] at hS
   exact ⟨_,_,.refl _ _ _,rfl,Steps.more h hS⟩
end Go.Proofs.Ytdgmcckfdgnicaa
