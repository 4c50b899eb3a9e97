/-
 Two ends are made.
-/
import Derived.Test.YtdgmcckfdgnicaaUj
import Derived.Test.YtdgmcckfdgnicaaUHM
set_option linter.unusedVariables false
set_option linter.unusedSimpArgs false
set_option maxRecDepth 20000
set_option maxHeartbeats 8000000
namespace Go.Proofs.Ytdgmcckfdgnicaa
open Go Go.Aw Go.Proofs
def limE (s:E) (limit body:Int):E:={s with limit:=limit,body:=body}
def begE (opener:Bool) (conn first room limit body:Int):E:=limE (newE opener conn first room) limit body
def beginS (conn first other room limit body:Int) (numbers:List Int):PS where
 e:=fun W=>if W=0 then (openR (begE true conn first room limit body) 0).2 else begE false conn other room limit body
 way:=fun _=>[]
 wrote:=fun _=>[]
 read:=fun _=>[]
 now:=0
 numbers:=numbers
 pos:=0
def begin0 (conn first other room limit body:Int) (numbers:List Int):PS where
 e:=fun W=>if W=0 then begE true conn first room limit body else begE false conn other room limit body
 way:=fun _=>[]
 wrote:=fun _=>[]
 read:=fun _=>[]
 now:=0
 numbers:=numbers
 pos:=0
def beginQ (n:Nat) (nv:Value):PQ:=⟨fun W=>if W=0 then n else n+2,fun W=>if W=0 then newQ (n+1) else newQ (n+2+1),fun _=> .slice none 0 0,fun _=>[],nv⟩
theorem begin_ (conn first other room limit body:Int) (numbers:List Int) (nv:Value) (hc:0≤conn∧conn<65536) (hf:0≤first∧first<65536) (ho:0≤other∧other<65536) (hr:1400≤room∧room≤1000000) (hli:1≤limit∧limit≤1000000) (hbo:1≤body∧body≤1400) (H:AHeap) (hnv:Rd H nv (intsC numbers)):
  AC Try.prog 10 [.int .i64 conn,.int .i64 first,.int .i64 other,.int .i64 room,.int .i64 limit,.int .i64 body,nv] H (fun r H2=>∃pp x,r= .ret (.tuple ⟨[ptr pp,.bool true]⟩)∧PairI H2 pp (beginS conn first other room limit body numbers) x∧Frm [] H H2∧ (∀ j∈x.names pp,H.length≤j)∧x.nv=nv):=by
 have n1:=New true conn first room hc hf hr H
 have a1:=New_end true conn first room H
 obtain ⟨H1,hH1⟩:∃H1,H1=H++[AObj.cells (endC (newE true conn first room) (newQ (H.length+1))) kE,.amap [] 0 true]:=⟨_,rfl⟩
 rw [← hH1] at n1 a1
 have hl1:H1.length=H.length+2:=by rw [hH1];simp
 have hF1:Frm [] H H1:=by rw [hH1];exact Frm.app
 have n2:=New false conn other room hc ho hr H1
 have b2:=New_end false conn other room H1
 obtain ⟨H2,hH2⟩:∃H2,H2=H1++[AObj.cells (endC (newE false conn other room) (newQ (H1.length+1))) kE,.amap [] 0 true]:=⟨_,rfl⟩
 have a2:=a1.more [AObj.cells (endC (newE false conn other room) (newQ (H1.length+1))) kE,.amap [] 0 true]
 rw [← hH2] at n2 b2 a2
 have hl2:H2.length=H.length+4:=by rw [hH2];simp;omega
 have hF2:Frm [] H H2:=hF1.trans (S':=[]) (by rw [hH2];exact Frm.app) (by simp)
 clear hH1 hH2
 rw [hl1] at n2 b2
 have a3:=a2.more [.cells [ptr H.length,ptr (H.length+2)] ⟨29,0,true,0,none⟩]
 have b3:=b2.more [.cells [ptr H.length,ptr (H.length+2)] ⟨29,0,true,0,none⟩]
 obtain ⟨H3,hH3⟩:∃H3,H3=H2++[AObj.cells [ptr H.length,ptr (H.length+2)] ⟨29,0,true,0,none⟩]:=⟨_,rfl⟩
 rw [← hH3] at a3 b3
 have hl3:H3.length=H.length+5:=by rw [hH3];simp;omega
 have hr3:H3[H.length+4]? =some (.cells [ptr H.length,ptr (H.length+2)] ⟨29,0,true,0,none⟩):=by rw [hH3,←hl2];simp
 have hF3:Frm [] H H3:=hF2.trans (S':=[]) (by rw [hH3];exact Frm.app) (by simp)
 have hH3':=hH3.symm
 clear hH3
 have hla:=Limit a3 limit hli
 have a4:=a3.put {newE true conn first room with limit:=limit} (newQ (H.length+1)).told rfl rfl rfl
 have hba:=Body a4 body hbo
 have a5:=a3.put (begE true conn first room limit body) (newQ (H.length+1)).told rfl rfl rfl
 obtain ⟨HA,hHA⟩:∃HA,HA=H3.set H.length (.cells (endC (begE true conn first room limit body) (newQ (H.length+1))) kE):=⟨_,rfl⟩
 have hFA:Frm [H.length] H3 HA:=by rw [hHA];exact Frm.set (Frm.refl _ _) (.inl (List.mem_singleton.2 rfl))
 have hdis:∀j∈Q.names (H.length+2) (newQ (H.length+2+1)),j∉[H.length]:=fun j hj hm=>by
  simp [Q.names,newQ] at hj hm;omega
 have b5:=b3.frm hFA hdis
 have hba2:ARet Try.prog 32 [ptr H.length,.int .i64 body] (H3.set H.length (.cells (endC {newE true conn first room with limit:=limit} (newQ (H.length+1))) kE)) (.int .i64 0) HA:=by
  have:=hba
  simp only [hset_set] at this
  rw [hHA]
  exact this
 rw [← hHA] at a5
 have hrA:=hFA.get hr3 (by simp)
 clear hba
 have hlb:=Limit b5 limit hli
 have b6:=b5.put {newE false conn other room with limit:=limit} (newQ (H.length+2+1)).told rfl rfl rfl
 have hbb:=Body b6 body hbo
 have b7:=b5.put (begE false conn other room limit body) (newQ (H.length+2+1)).told rfl rfl rfl
 obtain ⟨HB,hHB⟩:∃HB,HB=HA.set (H.length+2) (.cells (endC (begE false conn other room limit body) (newQ (H.length+2+1))) kE):=⟨_,rfl⟩
 have hFB:Frm [H.length+2] HA HB:=by rw [hHB];exact Frm.set (Frm.refl _ _) (.inl (List.mem_singleton.2 rfl))
 have hdis2:∀j∈Q.names H.length (newQ (H.length+1)),j∉[H.length+2]:=fun j hj hm=>by
  simp [Q.names,newQ] at hj hm;omega
 have a7:=a5.frm hFB hdis2
 have hbb2:ARet Try.prog 32 [ptr (H.length+2),.int .i64 body] (HA.set (H.length+2) (.cells (endC {newE false conn other room with limit:=limit} (newQ (H.length+2+1))) kE)) (.int .i64 0) HB:=by
  have:=hbb
  simp only [hset_set] at this
  rw [hHB]
  exact this
 rw [← hHB] at b7
 have hlB:HB.length=H.length+5:=by rw [hHB,List.length_set,hHA,List.length_set];exact hl3
 have hFH:Frm [] H HB:=(hF3.trans hFA (by simp)).trans hFB (by simp)
 clear hbb hHA hHB
 have hnvc:cellsOf nv=[nv]:=by rcases hnv with ⟨rfl,_⟩|⟨i,o,c,cs,k,rfl,_⟩<;> rfl
 have hnvl:∀i o n c,nv= .slice (some ⟨i,o,none⟩) n c→i<H.length:=fun i o n c hx=>by
  rcases hnv with ⟨rfl,_⟩|⟨i2,o2,c2,cs,k,rfl,hi,_⟩
  ·cases hx
  ·cases hx;exact lt_of_get hi
 have hP0:PairI (HB++ [.cells (pairC (begin0 conn first other room limit body numbers) (beginQ H.length nv)) kW]) (H.length+5) (begin0 conn first other room limit body numbers) (beginQ H.length nv):=by
  have ha:=a7.more [.cells (pairC (begin0 conn first other room limit body numbers) (beginQ H.length nv)) kW]
  have hb:=b7.more [.cells (pairC (begin0 conn first other room limit body numbers) (beginQ H.length nv)) kW]
  refine ⟨by rw [← hlB];simp,fun W hW=> ?_,fun W hW=>RowS.nil _,(hnv.frm hFH (by simp)).more _,fun i o n c hx hm=> ?_,fun W hW hm=> ?_,fun W hW hm=>(by cases hm),fun W V hW hV hWV j hj hm=> ?_,fun W V hW hV j hj=>(by cases hj),fun W V hW hV hWV j hj=>(by cases hj)⟩
  ·rcases (by omega:W=0∨W=1) with rfl|rfl
   ·exact ha
   ·exact hb
  ·have h1:=hnvl i o n c hx
   rcases PQ.mem.1 hm with g|⟨W,hW,g⟩|⟨W,hW,g⟩
   ·omega
   ·rcases (by omega:W=0∨W=1) with rfl|rfl<;> simp [PQ.en,beginQ,Q.names,newQ] at g<;> omega
   ·cases g
  ·rcases (by omega:W=0∨W=1) with rfl|rfl<;> simp [PQ.en,beginQ,Q.names,newQ] at hm<;> omega
  ·rcases (by omega:W=0∨W=1) with rfl|rfl<;> rcases (by omega:V=0∨V=1) with rfl|rfl<;> simp [PQ.en,beginQ,Q.names,newQ] at hj hm<;> omega
 have hnm0:∀j∈(beginQ H.length nv).names (H.length+5),H.length≤j:=fun j hm=>by
  rcases PQ.mem.1 hm with g|⟨W,hW,g⟩|⟨W,hW,g⟩
  ·omega
  ·rcases (by omega:W=0∨W=1) with rfl|rfl<;> simp [PQ.en,beginQ,Q.names,newQ] at g<;> omega
  ·cases g
 have hOp:=Open (hP0.end_ 0 (by omega)) 0 (by simp [begin0,begE,limE,newE])
 have hop1:(openR ((begin0 conn first other room limit body numbers).e 0) 0).1=0:=rfl
 rw [hop1] at hOp
 have hcell:pairC (begin0 conn first other room limit body numbers) (beginQ H.length nv)=[ptr H.length,ptr (H.length+2),.slice none 0 0,.slice none 0 0,.string (bs []),.string (bs []),.string (bs []),.string (bs []),.int .i64 0,nv,.int .i64 0]:=rfl
 refine AC.enter Try.func10 rfl (by kernel_rfl) 78 rfl [.tmp 14,.tmp 15] rfl (by simp) fun hsc B=> ?_
 repeat first|with_reducible refine kc ?_|((with_reducible first|refine kr ?_ ?_|refine kt ?_ ?_);exact rfl)|((with_reducible refine kf ?_ ?_);exact rfl)|with_reducible (first|refine n1.use ?_|refine n2.use ?_)|simp only [go_sem,sevalprocAttr,reduceCtorEq,hl2,hH3']|simp (disch:=omega) only [wz]|with_reducible_and_instances exact finR|((with_reducible refine finR' ?_ ?_)<;> rfl)|((with_reducible refine finD hsc (NRel.of_plain ?_));exact rfl)
 refine AWP.loopP (fun k:Nat=>⟨[(0,.int .i64 conn),(4,.int .i64 limit),(5,.int .i64 body),(6,nv),(16,ptr H.length),(18,ptr (H.length+2)),(52,.slice (some ⟨H.length+4,0,none⟩) 2 2),(53,.int .i64 2),(54,.int .i64 (k:Nat))],[],if k=0 then H3 else if k=1 then HA else HB⟩) (fun k=>k≤2) (fun k=>2 - k) 0 ?_ (by omega) ?_
 ·exact Weak.env (by simp [envIn,lk_cons,wth_some])
 intro k hk
 rcases (by omega:k=0∨k=1∨k=2) with rfl|rfl|rfl
 ·simp only [if_true,Int.natCast_zero]
  repeat first|with_reducible refine kc ?_|((with_reducible first|refine kr ?_ ?_|refine kt ?_ ?_);exact rfl)|((with_reducible refine kf ?_ ?_);exact rfl)|with_reducible (first|refine hla.use ?_|refine hba2.use ?_)|simp only [go_sem,sevalprocAttr,reduceCtorEq,hr3]|simp (disch:=omega) only [wz]|with_reducible_and_instances exact finR|((with_reducible refine finR' ?_ ?_)<;> rfl)|((with_reducible refine finD hsc (NRel.of_plain ?_));exact rfl)
  exact ⟨1,Weak.env (by simp [envIn,lk_cons,wth_some]),by omega,by omega⟩
 ·simp only [if_true,Int.natCast_one,Nat.one_ne_zero,if_false]
  repeat first|with_reducible refine kc ?_|((with_reducible first|refine kr ?_ ?_|refine kt ?_ ?_);exact rfl)|((with_reducible refine kf ?_ ?_);exact rfl)|with_reducible (first|refine hlb.use ?_|refine hbb2.use ?_)|simp only [go_sem,sevalprocAttr,reduceCtorEq,hrA]|simp (disch:=omega) only [wz]|with_reducible_and_instances exact finR|((with_reducible refine finR' ?_ ?_)<;> rfl)|((with_reducible refine finD hsc (NRel.of_plain ?_));exact rfl)
  exact ⟨2,Weak.env (by simp [envIn,lk_cons,wth_some]),by omega,by omega⟩
 ·simp only [Nat.reduceEqDiff,if_false]
  repeat first|with_reducible refine kc ?_|((with_reducible first|refine kr ?_ ?_|refine kt ?_ ?_);exact rfl)|((with_reducible refine kf ?_ ?_);exact rfl)|simp only [go_sem,sevalprocAttr,reduceCtorEq,hnvc]|simp (disch:=omega) only [wz]|with_reducible_and_instances exact finR|((with_reducible refine finR' ?_ ?_)<;> rfl)|((with_reducible refine finD hsc (NRel.of_plain ?_));exact rfl)
  have hpt:(beginQ H.length nv).es 0=H.length:=rfl
  rw [hcell] at hP0 hOp
  rw [hpt] at hOp
  refine AC.mono hOp ?_
  rintro r H4 ⟨rfl,q4,k1,k2,k3⟩
  have hJ:=hP0.jE (by omega:0<2) k1 k2 k3
  repeat first|with_reducible refine kc ?_|((with_reducible first|refine kr ?_ ?_|refine kt ?_ ?_);exact rfl)|((with_reducible refine kf ?_ ?_);exact rfl)|simp only [go_sem,sevalprocAttr,reduceCtorEq,hlB]|simp (disch:=omega) only [wz]|with_reducible_and_instances exact finR|((with_reducible refine finR' ?_ ?_)<;> rfl)|((with_reducible refine finD hsc (NRel.of_plain ?_));exact rfl)
  have hs:({begin0 conn first other room limit body numbers with e:=upd (begin0 conn first other room limit body numbers).e 0 (openR ((begin0 conn first other room limit body numbers).e 0) 0).2}:PS)=beginS conn first other room limit body numbers:=by
   have he:upd (begin0 conn first other room limit body numbers).e 0 (openR ((begin0 conn first other room limit body numbers).e 0) 0).2=(beginS conn first other room limit body numbers).e:=by
    funext W
    unfold upd
    by_cases hW:W=0
    ·rw [if_pos hW]
     show _=if W=0 then _ else _
     rw [if_pos hW];rfl
    ·rw [if_neg hW]
     show (if W=0 then _ else _)=if W=0 then _ else _
     rw [if_neg hW,if_neg hW]
   rw [he];rfl
  have hPP:=hJ.pair
  rw [hs] at hPP
  have hFF:Frm [] H H4:=(hFH.more).trans hJ.frm (fun j hj=> .inr (hnm0 j hj))
  have hNN:=fun j (hj:j∈PQ.names (H.length+5) _)=>(hJ.names j hj).elim (hnm0 j) (fun g=>by rw [List.length_append] at g;omega:_→H.length≤j)
  exact ⟨_,_,.refl _ _ _,H.length+5,rfl,_,hPP,hFF,hNN,rfl⟩
end Go.Proofs.Ytdgmcckfdgnicaa
