/-
 Keeping what came.
-/
import Derived.Test.YtdgmcckfdgnicaaUYM
set_option linter.unusedVariables false
set_option linter.unusedSimpArgs false
set_option maxRecDepth 20000
set_option maxHeartbeats 8000000
namespace Go.Proofs.Ytdgmcckfdgnicaa
open Go Go.Aw Go.Proofs
def keepD (s:E) (p:Sg):Int:=(p.seq - s.base)%65536
def keepOld (s:E) (p:Sg):Prop:=keepD s p=0∨keepD s p≥32768∨(kept? s.kept p.seq).isSome=true
def keepNo (s:E) (p:Sg):Prop:=s.state=4∨s.ended=true∨keepD s p>34∨(p.body.length:Int)>spaceR s
instance (s:E) (p:Sg):Decidable (keepOld s p):=by unfold keepOld;infer_instance
instance (s:E) (p:Sg):Decidable (keepNo s p):=by unfold keepNo;infer_instance
def keepR (s:E) (p:Sg):E:=
 if keepOld s p then {s with answer:=true,doubles:=IntKind.i64.wrap (s.doubles+1)}
 else if keepNo s p then {s with answer:=true}
 else passR {s with answer:=true,kept:=s.kept++[(p.seq,p)]}
theorem keep {H:AHeap} {e:Nat} {s:E} {q:Q} (h:EndI H e s q) (p:Sg) (hb:0≤s.base∧s.base<65536) (hr:0≤s.room∧s.room≤1099511627776) (hR:s.ready.length+keptB s.kept<1000000000) (hk:s.kept.length<1000000) (hkb:∀x∈s.kept,x.2.body.length≤100000) (hpb:p.body.length≤100000):
  AC Try.prog 71 [ptr e,p.v] H (fun r H2=>r= .ret noVal∧Steps H e q (keepR s p) H2):=by
 have hJ0:=((AJ.of h).add (.cells p.c ⟨44,0,true,0,none⟩)).put {s with answer:=true} rfl rfl rfl
 obtain ⟨H1,hH1⟩:∃H1,H1=(H++[AObj.cells p.c ⟨44,0,true,0,none⟩]).set e (.cells (endC {s with answer:=true} q) kE):=⟨_,rfl⟩
 rw [← hH1] at hJ0
 have hl1:H1.length=H.length+1:=by rw [hH1];simp
 have hH1':=hH1.symm
 clear hH1
 have hcl:=lt_of_get h.cell
 have hc0:=h.cell
 have hbx:=(hJ0.box _ (List.mem_cons_self ..)).1
 simp only at hbx
 have hc1:=hJ0.end_.cell
 have hm1:=hJ0.end_.map
 have hml1:=lt_of_get hm1
 have hget:=mGet_esOf (k:=p.seq) hJ0.end_.mis.len
 have hkeys:=keysB_esOf ({s with answer:=true}:E).kept q.st
 simp only at hm1 hget hkeys
 unfold Sg.c sgC at hbx hH1'
 unfold Sg.v Sg.c sgC
 simp only [endC] at hH1' hc0 hc1
 unfold keysB keyB at hkeys
 have hcl1:=lt_of_get hc1
 have hbl1:=lt_of_get hbx
 unfold keepR
 obtain ⟨d,hd⟩:∃d,d=keepD s p:=⟨_,rfl⟩
 have hd2:(p.seq - s.base)%65536=d:=hd.symm
 refine AC.enter Try.func71 rfl (by kernel_rfl) 82 rfl [] rfl (by simp) fun hsc B=> ?_
 repeat first|refine kw4 hc0 @hgetl hcl hH1' ?_|exact kwy
 apply AWP.regionX [] [(0,0),(0,0),(0,0),(0,0),(0,0),(0,0),(0,0),(0,0),(0,0)] [11,12,13,14,15,16,17,18,4] [] [(11,_),(12,_),(13,_),(14,_),(15,_),(16,_),(17,_),(18,_),(4,_)]
 ·kernel_rfl
 ·kernel_rfl
 ·kernel_rfl
 ·kernel_rfl
 ·rfl
 ·simp only [eachB,runB]
  repeat' with_reducible refine And.intro ?_ ?_
  iterate 2 all_goals try ((repeat' first|with_reducible refine And.intro ?_ ?_|with_reducible refine (ahead _ _ _).use ?_|refine kx3 hc1 hbx hd2 ?_|exact kwy|exact rfl);done)
 refine AWP.seqE (x:= .region 3 _ _) (fun st=>∃X,st=⟨[(0,ptr e),(3,ptr H.length),(4,.int .i64 d),(6,.bool (kept? s.kept p.seq).isSome)],[],H1++[X]⟩) ?_ ?_
 ·cases hkq:kept? s.kept p.seq with
  | none=>
   rw [hkq] at hget
   simp only [Option.map_none] at hget
   repeat first|refine kw0 ?_|exact kwy
   apply AWP.regionX [11,12] [(0,1),(0,1),(0,1),(0,1),(0,1),(0,1),(0,1),(0,1),(0,1),(0,1),(0,2),(0,0),(1,0),(2,0)] [20,21,22,23,24,25,26,27,19,28,29,5,6] [_,_] [(20,_),(21,_),(22,_),(23,_),(24,_),(25,_),(26,_),(27,_),(19,_),(28,_),(29,_),(5,_),(6,_)]
   ·kernel_rfl
   ·kernel_rfl
   ·kernel_rfl
   ·kernel_rfl
   ·rfl
   ·simp only [eachB,runB]
    repeat' with_reducible refine And.intro ?_ ?_
    iterate 2 all_goals try ((repeat' first|with_reducible refine And.intro ?_ ?_|refine kx11 hc1 hbx hm1 hget hkeys @Option.getD_none.{0} @Option.isSome_none.{0} @hgetl hcl1 hbl1 hml1 ?_|exact kwy|exact rfl);done)
   repeat first|refine kw0 ?_|exact kwy
   exact ⟨_,⟨_,rfl⟩,Weak.env (by simp [envIn,lk_cons,wth_some])⟩
  | some p0=>
   rw [hkq] at hget
   simp only [Option.map_some,Sg.v,Sg.c,sgC] at hget
   repeat first|refine kw0 ?_|exact kwy
   apply AWP.regionX [11,12] [(0,1),(0,1),(0,1),(0,1),(0,1),(0,1),(0,1),(0,1),(0,1),(0,1),(0,2),(0,0),(1,0),(2,0)] [20,21,22,23,24,25,26,27,19,28,29,5,6] [_,_] [(20,_),(21,_),(22,_),(23,_),(24,_),(25,_),(26,_),(27,_),(19,_),(28,_),(29,_),(5,_),(6,_)]
   ·kernel_rfl
   ·kernel_rfl
   ·kernel_rfl
   ·kernel_rfl
   ·rfl
   ·simp only [eachB,runB]
    repeat' with_reducible refine And.intro ?_ ?_
    iterate 2 all_goals try ((repeat' first|with_reducible refine And.intro ?_ ?_|refine kx11 hc1 hbx hm1 hget hkeys @Option.getD_some.{0} @Option.isSome_some.{0} @hgetl hcl1 hbl1 hml1 ?_|exact kwy|exact rfl);done)
   repeat first|refine kw0 ?_|exact kwy
   exact ⟨_,⟨_,rfl⟩,Weak.env (by simp [envIn,lk_cons,wth_some])⟩
 ·rintro _ ⟨X,rfl⟩
  have hJ1:=hJ0.more [X]
  have hbx2:=(hJ1.box _ (List.mem_cons_self ..)).1
  simp only at hbx2
  unfold Sg.c sgC at hbx2
  have hc2:=hJ1.end_.cell
  have hcl2:=lt_of_get hc2
  have hbl2:=lt_of_get hbx2
  have hm2:=hJ1.end_.map
  simp only [endC] at hc2
  simp only at hm2
  have hml2:=lt_of_get hm2
  generalize hH2:H1++[X]=H2 at*
  clear hbx hc1 hm1 hml1 hget hkeys hcl1 hbl1 hH1' hJ0 hc0
  by_cases hold:keepOld s p
  ·rw [if_pos hold]
   have hJ3:=hJ1.put {s with answer:=true,doubles:=IntKind.i64.wrap (s.doubles+1)} rfl rfl rfl
   have hS:=hJ3.done
   simp only [endC] at hS
   by_cases h0:d=0
   ·have h0':(d==0)=true:=by simp [h0]
    repeat first|refine kw3 h0' hc2 hcl2 ?_|exact kwy
    exact ⟨_,_,.refl _ _ _,rfl,hS⟩
   ·have h0':(d==0)=false:=by simp [h0]
    by_cases h1:d≥32768
    ·repeat first|refine kw4 h0' h1 hc2 hcl2 ?_|exact kwy
     exact ⟨_,_,.refl _ _ _,rfl,hS⟩
    ·have h2:(kept? s.kept p.seq).isSome=true:=by
      rcases hold with h|h|h
      ·exact absurd (hd.trans h) h0
      ·exact absurd (hd ▸ h) h1
      ·exact h
     repeat first|refine kw5 h0' h1 h2 hc2 hcl2 ?_|exact kwy
     exact ⟨_,_,.refl _ _ _,rfl,hS⟩
  ·rw [if_neg hold]
   have h0':(d==0)=false:=by
    have:¬d=0:=fun h=>hold (.inl (hd ▸ h))
    simp [this]
   have h1:¬d≥32768:=fun h=>hold (.inr (.inl (hd ▸ h)))
   have h2:(kept? s.kept p.seq).isSome=false:=by
    cases hx:(kept? s.kept p.seq).isSome with
    |false=>rfl
    |true=>exact absurd (.inr (.inr hx)) hold
   have hsp':=space hJ1.end_ hr (by show s.ready.length<_;omega) (by show s.kept.length<_;omega) hkb
   have hsp:ARet Try.prog 58 [ptr e] H2 (.int .i64 (spaceR s)) H2:=hsp'
   clear hsp'
   by_cases hno:keepNo s p
   ·rw [if_pos hno]
    have hS:=hJ1.done
    by_cases n1:s.state=4
    ·have n1':(s.state==4)=true:=by simp [n1]
     repeat first|refine kw5 h0' h1 h2 hc2 hcl2 ?_|exact kwy
     apply AWP.regionX [] [(0,0),(0,0),(0,0),(0,0),(0,0),(0,0),(0,0),(0,0),(0,0),(0,0),(0,0),(0,0),(0,0),(0,0),(0,0),(0,0),(0,0),(0,0),(0,0),(0,0),(0,0),(0,0),(0,0),(0,0),(0,0)] [58,59,60,61,62,63,64,65,66,67,68,69,70,71,72,73,74,75,76,77,78,79,80,81,57] [] [(58,_),(59,_),(60,_),(61,_),(62,_),(63,_),(64,_),(65,_),(66,_),(67,_),(68,_),(69,_),(70,_),(71,_),(72,_),(73,_),(74,_),(75,_),(76,_),(77,_),(78,_),(79,_),(80,_),(81,_),(57,_)]
     ·kernel_rfl
     ·kernel_rfl
     ·kernel_rfl
     ·kernel_rfl
     ·rfl
     ·simp only [eachB,runB]
      repeat' with_reducible refine And.intro ?_ ?_
      iterate 2 all_goals try ((repeat' first|with_reducible refine And.intro ?_ ?_|with_reducible refine hsp.use ?_|refine kx7 h0' h1 h2 hc2 hcl2 hbx2 n1' ?_|exact kwy|exact rfl);done)
     repeat first|refine kw0 ?_|exact kwy
     exact ⟨_,_,.refl _ _ _,rfl,hS⟩
    ·have n1':(s.state==4)=false:=by simp [n1]
     cases n2:s.ended with
     | true=>
      rw [n2] at hc2 hS
      repeat first|refine kw5 h0' h1 h2 hc2 hcl2 ?_|exact kwy
      apply AWP.regionX [] [(0,0),(0,0),(0,0),(0,0),(0,0),(0,0),(0,0),(0,0),(0,0),(0,0),(0,0),(0,0),(0,0),(0,0),(0,0),(0,0),(0,0),(0,0),(0,0),(0,0),(0,0),(0,0),(0,0),(0,0),(0,0)] [58,59,60,61,62,63,64,65,66,67,68,69,70,71,72,73,74,75,76,77,78,79,80,81,57] [] [(58,_),(59,_),(60,_),(61,_),(62,_),(63,_),(64,_),(65,_),(66,_),(67,_),(68,_),(69,_),(70,_),(71,_),(72,_),(73,_),(74,_),(75,_),(76,_),(77,_),(78,_),(79,_),(80,_),(81,_),(57,_)]
      ·kernel_rfl
      ·kernel_rfl
      ·kernel_rfl
      ·kernel_rfl
      ·rfl
      ·simp only [eachB,runB]
       repeat' with_reducible refine And.intro ?_ ?_
       iterate 2 all_goals try ((repeat' first|with_reducible refine And.intro ?_ ?_|with_reducible refine hsp.use ?_|refine kx7 h0' h1 h2 hc2 hcl2 hbx2 n1' ?_|exact kwy|exact rfl);done)
      repeat first|refine kw0 ?_|exact kwy
      exact ⟨_,_,.refl _ _ _,rfl,hS⟩
     | false=>
      rw [n2] at hc2 hS
      by_cases n3:d>34
      ·repeat first|refine kw5 h0' h1 h2 hc2 hcl2 ?_|exact kwy
       apply AWP.regionX [] [(0,0),(0,0),(0,0),(0,0),(0,0),(0,0),(0,0),(0,0),(0,0),(0,0),(0,0),(0,0),(0,0),(0,0),(0,0),(0,0),(0,0),(0,0),(0,0),(0,0),(0,0),(0,0),(0,0),(0,0),(0,0)] [58,59,60,61,62,63,64,65,66,67,68,69,70,71,72,73,74,75,76,77,78,79,80,81,57] [] [(58,_),(59,_),(60,_),(61,_),(62,_),(63,_),(64,_),(65,_),(66,_),(67,_),(68,_),(69,_),(70,_),(71,_),(72,_),(73,_),(74,_),(75,_),(76,_),(77,_),(78,_),(79,_),(80,_),(81,_),(57,_)]
       ·kernel_rfl
       ·kernel_rfl
       ·kernel_rfl
       ·kernel_rfl
       ·rfl
       ·simp only [eachB,runB]
        repeat' with_reducible refine And.intro ?_ ?_
        iterate 2 all_goals try ((repeat' first|with_reducible refine And.intro ?_ ?_|with_reducible refine hsp.use ?_|refine kx8 h0' h1 h2 hc2 hcl2 hbx2 n1' n3 ?_|exact kwy|exact rfl);done)
       repeat first|refine kw0 ?_|exact kwy
       exact ⟨_,_,.refl _ _ _,rfl,hS⟩
      ·have n4:(p.body.length:Int)>spaceR s:=by
        rcases hno with h|h|h|h
        ·exact absurd h n1
        ·rw [n2] at h;cases h
        ·exact absurd (hd ▸ h) n3
        ·exact h
       repeat first|refine kw5 h0' h1 h2 hc2 hcl2 ?_|exact kwy
       apply AWP.regionX [] [(0,0),(0,0),(0,0),(0,0),(0,0),(0,0),(0,0),(0,0),(0,0),(0,0),(0,0),(0,0),(0,0),(0,0),(0,0),(0,0),(0,0),(0,0),(0,0),(0,0),(0,0),(0,0),(0,0),(0,0),(0,0)] [58,59,60,61,62,63,64,65,66,67,68,69,70,71,72,73,74,75,76,77,78,79,80,81,57] [] [(58,_),(59,_),(60,_),(61,_),(62,_),(63,_),(64,_),(65,_),(66,_),(67,_),(68,_),(69,_),(70,_),(71,_),(72,_),(73,_),(74,_),(75,_),(76,_),(77,_),(78,_),(79,_),(80,_),(81,_),(57,_)]
       ·kernel_rfl
       ·kernel_rfl
       ·kernel_rfl
       ·kernel_rfl
       ·rfl
       ·simp only [eachB,runB]
        repeat' with_reducible refine And.intro ?_ ?_
        iterate 2 all_goals try ((repeat' first|with_reducible refine And.intro ?_ ?_|with_reducible refine hsp.use ?_|refine kx9 h0' h1 h2 hc2 hcl2 hbx2 n1' n3 n4 ?_|exact kwy|exact rfl);done)
       repeat first|refine kw0 ?_|exact kwy
       exact ⟨_,_,.refl _ _ _,rfl,hS⟩
   ·rw [if_neg hno]
    have n1':(s.state==4)=false:=by
     have:¬s.state=4:=fun h=>hno (.inl h)
     simp [this]
    have n2:s.ended=false:=by
     cases hx:s.ended with
     |false=>rfl
     |true=>exact absurd (.inr (.inl hx)) hno
    have n3:¬d>34:=fun h=>hno (.inr (.inr (.inl (hd ▸ h))))
    have n4:¬(p.body.length:Int)>spaceR s:=fun h=>hno (.inr (.inr (.inr h)))
    rw [n2] at hc2
    repeat first|refine kw5 h0' h1 h2 hc2 hcl2 ?_|exact kwy
    apply AWP.regionX [] [(0,0),(0,0),(0,0),(0,0),(0,0),(0,0),(0,0),(0,0),(0,0),(0,0),(0,0),(0,0),(0,0),(0,0),(0,0),(0,0),(0,0),(0,0),(0,0),(0,0),(0,0),(0,0),(0,0),(0,0),(0,0)] [58,59,60,61,62,63,64,65,66,67,68,69,70,71,72,73,74,75,76,77,78,79,80,81,57] [] [(58,_),(59,_),(60,_),(61,_),(62,_),(63,_),(64,_),(65,_),(66,_),(67,_),(68,_),(69,_),(70,_),(71,_),(72,_),(73,_),(74,_),(75,_),(76,_),(77,_),(78,_),(79,_),(80,_),(81,_),(57,_)]
    ·kernel_rfl
    ·kernel_rfl
    ·kernel_rfl
    ·kernel_rfl
    ·rfl
    ·simp only [eachB,runB]
     repeat' with_reducible refine And.intro ?_ ?_
     iterate 2 all_goals try ((repeat' first|with_reducible refine And.intro ?_ ?_|with_reducible refine hsp.use ?_|refine kx9 h0' h1 h2 hc2 hcl2 hbx2 n1' n3 n4 ?_|exact kwy|exact rfl);done)
    repeat first|refine kw0 ?_|exact kwy
    have hkn:kept? s.kept p.seq=none:=by
     cases hx:kept? s.kept p.seq with
     |none=>rfl
     |some y=>rw [hx] at h2;cases h2
    obtain ⟨m1,m2,m3⟩:=mPut_new (p:=p) hJ1.end_.mis hkn
    have hE3:=hJ1.end_.setMap m3
    have hJ3:=hJ1.step hE3 (Frm.set (Frm.refl _ _) (.inl (by simp [Q.names]))) (fun j hj=> .inl hj)
    obtain ⟨H3,hH3⟩:∃H3,H3=H2.set q.m (.amap (esOf (s.kept++[(p.seq,p)]) (q.st++[q.ck])) (q.ck+1) true):=⟨_,rfl⟩
    simp only at hJ3
    rw [← hH3] at hJ3
    have hH3':=hH3.symm
    have hkeys:=keysB_esOf s.kept q.st
    unfold keysB keyB at hkeys
    simp only at m1 m2
    simp only [Sg.v,Sg.c,sgC] at m1
    apply AWP.regionX [8] [(0,0),(0,0),(0,0),(0,0),(0,0),(0,0),(0,0),(0,0),(0,0)] [30,31,32,33,34,35,36,37] [_] [(30,_),(31,_),(32,_),(33,_),(34,_),(35,_),(36,_),(37,_)]
    ·kernel_rfl
    ·kernel_rfl
    ·kernel_rfl
    ·kernel_rfl
    ·rfl
    ·simp only [eachB,runB]
     repeat' with_reducible refine And.intro ?_ ?_
     iterate 2 all_goals try ((repeat' first|with_reducible refine And.intro ?_ ?_|refine kx9 hc2 hcl2 hbx2 hm2 hml2 hkeys m1 m2 hH3' ?_|exact kwy|exact rfl);done)
    repeat first|refine kw0 ?_|exact kwy
    have hkB:keptB (s.kept++[(p.seq,p)])=keptB s.kept+p.body.length:=by simp [keptB]
    refine AC.mono (pass hJ3.end_ hb (by show s.ready.length+keptB (s.kept++[(p.seq,p)])<_;omega)) ?_
    rintro r H4 ⟨rfl,hS⟩
    obtain ⟨q4,hJ4⟩:=hJ3.steps hS
    repeat first|refine kw0 ?_|exact kwy
    exact ⟨_,_,.refl _ _ _,rfl,hJ4.done⟩
end Go.Proofs.Ytdgmcckfdgnicaa
