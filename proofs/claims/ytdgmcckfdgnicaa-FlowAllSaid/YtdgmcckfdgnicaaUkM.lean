/-
  A part of the proof of a statement of this seat.
-/
import Derived.Test.YtdgmcckfdgnicaaUj
import Derived.Test.YtdgmcckfdgnicaaUHM
set_option linter.unusedVariables false
set_option linter.unusedSimpArgs false
set_option maxRecDepth 20000
set_option maxHeartbeats 8000000
namespace Go.Proofs.Ytdgmcckfdgnicaa
open Go Go.Aw Go.Proofs
def limE (s:E) (limit body:Int):E:={s with limit:=limit,body:=body}
def begE (opener:Bool) (conn first room limit body:Int):E:=limE (newE opener conn first room) limit body
def beginS (conn first other room limit body:Int) (numbers:List Int):PS where
 e:=fun W=>if W=0 then (openR (begE true conn first room limit body) 0).2 else begE false conn other room limit body
 way:=fun _=>[]
 wrote:=fun _=>[]
 read:=fun _=>[]
 now:=0
 numbers:=numbers
 pos:=0
def begin0 (conn first other room limit body:Int) (numbers:List Int):PS where
 e:=fun W=>if W=0 then begE true conn first room limit body else begE false conn other room limit body
 way:=fun _=>[]
 wrote:=fun _=>[]
 read:=fun _=>[]
 now:=0
 numbers:=numbers
 pos:=0
def beginQ (n:Nat) (nv:Value):PQ:=⟨fun W=>if W=0 then n else n+2,fun W=>if W=0 then newQ (n+1) else newQ (n+2+1),fun _=> .slice none 0 0,fun _=>[],nv⟩
theorem begin_ (conn first other room limit body:Int) (numbers:List Int) (nv:Value) (hc:0≤conn∧conn<65536) (hf:0≤first∧first<65536) (ho:0≤other∧other<65536) (hr:1400≤room∧room≤1000000) (hli:1≤limit∧limit≤1000000) (hbo:1≤body∧body≤1400) (H:AHeap) (hnv:Rd H nv (intsC numbers)):
  AC Try.prog 10 [.int .i64 conn,.int .i64 first,.int .i64 other,.int .i64 room,.int .i64 limit,.int .i64 body,nv] H (fun r H2=>∃pp x,r= .ret (.tuple ⟨[ptr pp,.bool true]⟩)∧PairI H2 pp (beginS conn first other room limit body numbers) x∧Frm [] H H2∧ (∀ j∈x.names pp,H.length≤j)∧x.nv=nv):=by
 have n1:=New true conn first room hc hf hr H
 have a1:=New_end true conn first room H
 obtain ⟨H1,hH1⟩:∃H1,H1=H++[AObj.cells (endC (newE true conn first room) (newQ (H.length+1))) kE,.amap [] 0 true]:=⟨_,rfl⟩
 rw [← hH1] at n1 a1
 have hl1:H1.length=H.length+2:=by rw [hH1];simp
 have hF1:Frm [] H H1:=by rw [hH1];exact Frm.app
 have n2:=New false conn other room hc ho hr H1
 have b2:=New_end false conn other room H1
 obtain ⟨H2,hH2⟩:∃H2,H2=H1++[AObj.cells (endC (newE false conn other room) (newQ (H1.length+1))) kE,.amap [] 0 true]:=⟨_,rfl⟩
 have a2:=a1.more [AObj.cells (endC (newE false conn other room) (newQ (H1.length+1))) kE,.amap [] 0 true]
 rw [← hH2] at n2 b2 a2
 have hl2:H2.length=H.length+4:=by rw [hH2];simp;omega
 have hF2:Frm [] H H2:=hF1.trans (S':=[]) (by rw [hH2];exact Frm.app) (by simp)
 clear hH1 hH2
 rw [hl1] at n2 b2
 have a3:=a2.more [.cells [ptr H.length,ptr (H.length+2)] ⟨29,0,true,0,none⟩]
 have b3:=b2.more [.cells [ptr H.length,ptr (H.length+2)] ⟨29,0,true,0,none⟩]
 obtain ⟨H3,hH3⟩:∃H3,H3=H2++[AObj.cells [ptr H.length,ptr (H.length+2)] ⟨29,0,true,0,none⟩]:=⟨_,rfl⟩
 rw [← hH3] at a3 b3
 have hl3:H3.length=H.length+5:=by rw [hH3];simp;omega
 have hr3:H3[H.length+4]? =some (.cells [ptr H.length,ptr (H.length+2)] ⟨29,0,true,0,none⟩):=by rw [hH3,←hl2];simp
 have hF3:Frm [] H H3:=hF2.trans (S':=[]) (by rw [hH3];exact Frm.app) (by simp)
 have hH3':=hH3.symm
 clear hH3
 have hla:=Limit a3 limit hli
 have a4:=a3.put {newE true conn first room with limit:=limit} (newQ (H.length+1)).told rfl rfl rfl
 have hba:=Body a4 body hbo
 have a5:=a3.put (begE true conn first room limit body) (newQ (H.length+1)).told rfl rfl rfl
 obtain ⟨HA,hHA⟩:∃HA,HA=H3.set H.length (.cells (endC (begE true conn first room limit body) (newQ (H.length+1))) kE):=⟨_,rfl⟩
 have hFA:Frm [H.length] H3 HA:=by rw [hHA];exact Frm.set (Frm.refl _ _) (.inl (List.mem_singleton.2 rfl))
 have hdis:∀j∈Q.names (H.length+2) (newQ (H.length+2+1)),j∉[H.length]:=fun j hj hm=>by
  simp [Q.names,newQ] at hj hm;omega
 have b5:=b3.frm hFA hdis
 have hba2:ARet Try.prog 32 [ptr H.length,.int .i64 body] (H3.set H.length (.cells (endC {newE true conn first room with limit:=limit} (newQ (H.length+1))) kE)) (.int .i64 0) HA:=by
  have:=hba
  simp only [hset_set] at this
  rw [hHA]
  exact this
 rw [← hHA] at a5
 have hrA:=hFA.get hr3 (by simp)
 clear hba
 have hlb:=Limit b5 limit hli
 have b6:=b5.put {newE false conn other room with limit:=limit} (newQ (H.length+2+1)).told rfl rfl rfl
 have hbb:=Body b6 body hbo
 have b7:=b5.put (begE false conn other room limit body) (newQ (H.length+2+1)).told rfl rfl rfl
 obtain ⟨HB,hHB⟩:∃HB,HB=HA.set (H.length+2) (.cells (endC (begE false conn other room limit body) (newQ (H.length+2+1))) kE):=⟨_,rfl⟩
 have hFB:Frm [H.length+2] HA HB:=by rw [hHB];exact Frm.set (Frm.refl _ _) (.inl (List.mem_singleton.2 rfl))
 have hdis2:∀j∈Q.names H.length (newQ (H.length+1)),j∉[H.length+2]:=fun j hj hm=>by
  simp [Q.names,newQ] at hj hm;omega
 have a7:=a5.frm hFB hdis2
 have hbb2:ARet Try.prog 32 [ptr (H.length+2),.int .i64 body] (HA.set (H.length+2) (.cells (endC {newE false conn other room with limit:=limit} (newQ (H.length+2+1))) kE)) (.int .i64 0) HB:=by
  have:=hbb
  simp only [hset_set] at this
  rw [hHB]
  exact this
 rw [← hHB] at b7
 have hlB:HB.length=H.length+5:=by rw [hHB,List.length_set,hHA,List.length_set];exact hl3
 have hFH:Frm [] H HB:=(hF3.trans hFA (by simp)).trans hFB (by simp)
 clear hbb hHA hHB
 have hnvc:cellsOf nv=[nv]:=by rcases hnv with ⟨rfl,_⟩|⟨i,o,c,cs,k,rfl,_⟩<;> rfl
 have hnvl:∀i o n c,nv= .slice (some ⟨i,o,none⟩) n c→i<H.length:=fun i o n c hx=>by
  rcases hnv with ⟨rfl,_⟩|⟨i2,o2,c2,cs,k,rfl,hi,_⟩
  ·cases hx
  ·cases hx;exact lt_of_get hi
 have hP0:PairI (HB++ [.cells (pairC (begin0 conn first other room limit body numbers) (beginQ H.length nv)) kW]) (H.length+5) (begin0 conn first other room limit body numbers) (beginQ H.length nv):=by
  have ha:=a7.more [.cells (pairC (begin0 conn first other room limit body numbers) (beginQ H.length nv)) kW]
  have hb:=b7.more [.cells (pairC (begin0 conn first other room limit body numbers) (beginQ H.length nv)) kW]
  refine ⟨by rw [← hlB];simp,fun W hW=> ?_,fun W hW=>RowS.nil _,(hnv.frm hFH (by simp)).more _,fun i o n c hx hm=> ?_,fun W hW hm=> ?_,fun W hW hm=>(by cases hm),fun W V hW hV hWV j hj hm=> ?_,fun W V hW hV j hj=>(by cases hj),fun W V hW hV hWV j hj=>(by cases hj)⟩
  ·rcases (by omega:W=0∨W=1) with rfl|rfl
   ·exact ha
   ·exact hb
  ·have h1:=hnvl i o n c hx
   rcases PQ.mem.1 hm with g|⟨W,hW,g⟩|⟨W,hW,g⟩
   ·omega
   ·rcases (by omega:W=0∨W=1) with rfl|rfl<;> simp [PQ.en,beginQ,Q.names,newQ] at g<;> omega
   ·cases g
  ·rcases (by omega:W=0∨W=1) with rfl|rfl<;> simp [PQ.en,beginQ,Q.names,newQ] at hm<;> omega
  ·rcases (by omega:W=0∨W=1) with rfl|rfl<;> rcases (by omega:V=0∨V=1) with rfl|rfl<;> simp [PQ.en,beginQ,Q.names,newQ] at hj hm<;> omega
 have hnm0:∀j∈(beginQ H.length nv).names (H.length+5),H.length≤j:=fun j hm=>by
  rcases PQ.mem.1 hm with g|⟨W,hW,g⟩|⟨W,hW,g⟩
  ·omega
  ·rcases (by omega:W=0∨W=1) with rfl|rfl<;> simp [PQ.en,beginQ,Q.names,newQ] at g<;> omega
  ·cases g
 have hOp:=Open (hP0.end_ 0 (by omega)) 0 (by simp [begin0,begE,limE,newE])
 have hop1:(openR ((begin0 conn first other room limit body numbers).e 0) 0).1=0:=rfl
 rw [hop1] at hOp
 have hcell:pairC (begin0 conn first other room limit body numbers) (beginQ H.length nv)=[ptr H.length,ptr (H.length+2),.slice none 0 0,.slice none 0 0,.string (bs []),.string (bs []),.string (bs []),.string (bs []),.int .i64 0,nv,.int .i64 0]:=rfl
 refine AC.enter Try.func10 rfl (by kernel_rfl) 78 rfl [.tmp 14,.tmp 15] rfl (by simp) fun hsc B=> ?_
 repeat first|with_reducible (first|refine n1.use ?_|refine n2.use ?_)|refine kw2 hl2 hH3' ?_|exact kwz
 refine AWP.loopP (fun k:Nat=>⟨[(0,.int .i64 conn),(4,.int .i64 limit),(5,.int .i64 body),(6,nv),(16,ptr H.length),(18,ptr (H.length+2)),(52,.slice (some ⟨H.length+4,0,none⟩) 2 2),(53,.int .i64 2),(54,.int .i64 (k:Nat))],[],if k=0 then H3 else if k=1 then HA else HB⟩) (fun k=>k≤2) (fun k=>2 - k) 0 ?_ (by omega) ?_
 ·exact Weak.env (by simp [envIn,lk_cons,wth_some])
 intro k hk
 rcases (by omega:k=0∨k=1∨k=2) with rfl|rfl|rfl
 ·simp only [if_true,Int.natCast_zero]
  repeat first|with_reducible (first|refine hla.use ?_|refine hba2.use ?_)|refine kw1 hr3 ?_|exact kwz
  exact ⟨1,Weak.env (by simp [envIn,lk_cons,wth_some]),by omega,by omega⟩
 ·simp only [if_true,Int.natCast_one,Nat.one_ne_zero,if_false]
  repeat first|with_reducible (first|refine hlb.use ?_|refine hbb2.use ?_)|refine kw1 hrA ?_|exact kwz
  exact ⟨2,Weak.env (by simp [envIn,lk_cons,wth_some]),by omega,by omega⟩
 ·simp only [Nat.reduceEqDiff,if_false]
  repeat first|refine kw1 hnvc ?_|exact kwz
  have hpt:(beginQ H.length nv).es 0=H.length:=rfl
  rw [hcell] at hP0 hOp
  rw [hpt] at hOp
  refine AC.mono hOp ?_
  rintro r H4 ⟨rfl,q4,k1,k2,k3⟩
  have hJ:=hP0.jE (by omega:0<2) k1 k2 k3
  repeat first|refine kw1 hlB ?_|exact kwz
  have hs:({begin0 conn first other room limit body numbers with e:=upd (begin0 conn first other room limit body numbers).e 0 (openR ((begin0 conn first other room limit body numbers).e 0) 0).2}:PS)=beginS conn first other room limit body numbers:=by
   have he:upd (begin0 conn first other room limit body numbers).e 0 (openR ((begin0 conn first other room limit body numbers).e 0) 0).2=(beginS conn first other room limit body numbers).e:=by
    funext W
    unfold upd
    by_cases hW:W=0
    ·rw [if_pos hW]
     show _=if W=0 then _ else _
     rw [if_pos hW];rfl
    ·rw [if_neg hW]
     show (if W=0 then _ else _)=if W=0 then _ else _
     rw [if_neg hW,if_neg hW]
   rw [he];rfl
  have hPP:=hJ.pair
  rw [hs] at hPP
  have hFF:Frm [] H H4:=(hFH.more).trans hJ.frm (fun j hj=> .inr (hnm0 j hj))
  have hNN:=fun j (hj:j∈PQ.names (H.length+5) _)=>(hJ.names j hj).elim (hnm0 j) (fun g=>by rw [List.length_append] at g;omega:_→H.length≤j)
  exact ⟨_,_,.refl _ _ _,H.length+5,rfl,_,hPP,hFF,hNN,rfl⟩
end Go.Proofs.Ytdgmcckfdgnicaa

set_option linter.unusedVariables false
set_option linter.unusedSimpArgs false
set_option maxRecDepth 20000
namespace Go.Proofs.Ytdgmcckfdgnicaa
open Go Go.Aw Go.Proofs
def zs (l:List Pk):List Int:=(l.filter fun p=> !p.lost).map szP
theorem zs_nil:zs []=[]:=rfl
theorem zs_cons (p:Pk) (l:List Pk):zs (p::l)=if p.lost=true then zs l else szP p::zs l:=by
 unfold zs
 rw [List.filter_cons]
 cases p.lost<;> rfl
theorem zs_append (l m:List Pk):zs (l++m)=zs l++zs m:=by simp [zs]
theorem szP_pos (p:Pk):1≤szP p:=by unfold szP;omega
theorem zs_pos {l:List Pk}:∀z∈zs l,0≤z:=fun z hz=>by
 obtain ⟨p,_,rfl⟩:=List.mem_map.1 hz
 have:=szP_pos p;omega
theorem underN_cons (p:Pk) (l:List Pk):underN (p::l)=if p.lost=true then (underN l).map Nat.succ else 0::(underN l).map Nat.succ:=by
 have h0:nl (p::l) 0= !p.lost:=rfl
 have h1:(nl (p::l))∘Nat.succ=nl l:=by
  funext i
  simp [nl]
 unfold underN
 rw [List.length_cons,List.range_succ_eq_map,List.filter_cons,h0,List.filter_map,h1]
 cases p.lost<;> rfl
theorem under_zs:∀l:List Pk,(underN l).map (fun i=>szP (l.getD i default))=zs l
 |[]=>rfl
 | p::l=>by
  have ih:=under_zs l
  have h2:(fun i=>szP ((p::l).getD i default))∘Nat.succ=fun i=>szP (l.getD i default):=by
   funext i
   simp
  rw [underN_cons,zs_cons]
  split
  ·rw [List.map_map,h2,ih]
  ·rw [List.map_cons,List.map_map,h2,ih]
   rfl
theorem flyN_zs (l:List Pk):flyN l=(zs l).length:=by
 rw [← under_zs l,List.length_map];rfl
theorem flyB_zs (l:List Pk):flyB l=(zs l).sum:=by
 rw [← under_zs l]
 unfold flyB szsU
 rw [List.take_of_length_le (Nat.le_refl _)]
theorem sum_sub {a b:List Int} (h:a.Sublist b): (∀ z∈b,0≤z)→a.sum≤b.sum:=by
 induction h with
 |slnil=>intro _;exact Int.le_refl _
 | @cons l1 l2 x h ih=>
  intro hp
  have:=ih fun z hz=>hp z (List.mem_cons_of_mem _ hz)
  have:=hp x (List.mem_cons_self ..)
  rw [List.sum_cons];omega
 | @cons_cons l1 l2 x h ih=>
  intro hp
  have:=ih fun z hz=>hp z (List.mem_cons_of_mem _ hz)
  rw [List.sum_cons,List.sum_cons];omega
def UOkZ (limit:Int) (l:List Pk):Prop:=(zs l).length≤1∨(zs l).sum≤limit
theorem UOkZ.sub {limit:Int} {l l':List Pk} (h:UOkZ limit l) (hs:(zs l').Sublist (zs l)):UOkZ limit l':=by
 rcases h with h|h
 ·exact .inl (Nat.le_trans hs.length_le h)
 ·exact .inr (Int.le_trans (sum_sub hs zs_pos) h)
theorem zs_set:∀{fl:List Pk} {i:Nat} {p p':Pk},fl[i]? =some p→p.lost=true→p'.lost=false→(zs (fl.set i p')).length=(zs fl).length+1∧(zs (fl.set i p')).sum=(zs fl).sum+szP p'
 |[],i,p,p',h,_,_=>by simp at h
 |x::l,0,p,p',h,h1,h2=>by
  have:x=p:=by simpa using h
  subst this
  rw [List.set_cons_zero,zs_cons,zs_cons,if_pos h1,if_neg (by rw [h2];simp),List.length_cons,List.sum_cons]
  omega
 |x::l,i+1,p,p',h,h1,h2=>by
  have ih:=zs_set (fl:=l) (i:=i) (p:=p) (p':=p') (by simpa using h) h1 h2
  rw [List.set_cons_succ,zs_cons,zs_cons]
  split
  ·exact ih
  ·simp only [List.length_cons,List.sum_cons];omega
theorem zs_snoc (l:List Pk) (p:Pk) (h:p.lost=false):(zs (l++[p])).length=(zs l).length+1∧(zs (l++[p])).sum=(zs l).sum+szP p:=by
 rw [zs_append,zs_cons,if_neg (by rw [h];simp),zs_nil]
 simp
theorem fits_ok {s:E} {p:Pk} (h:fitsR s p=true):(zs s.flight).length=0∨(zs s.flight).sum+szP p≤s.limit:=by
 unfold fitsR at h
 rw [flyN_zs,flyB_zs] at h
 simp only [Bool.or_eq_true,decide_eq_true_eq] at h
 omega
theorem bump_body (p:Pk):(bumpP p).body=p.body∧(bumpP p).kind=p.kind∧(bumpP p).number=p.number∧(p.lost=true→(bumpP p).lost=true):=by
 unfold bumpP
 split
 ·exact ⟨rfl,rfl,rfl,fun _=>rfl⟩
 ·exact ⟨rfl,rfl,rfl,fun h=>h⟩
theorem zs_bump:∀l:List Pk,(zs (l.map bumpP)).Sublist (zs l)
 |[]=> .slnil
 | p::l=>by
  have ih:=zs_bump l
  obtain ⟨h1,_,_,h4⟩:=bump_body p
  have h5:szP (bumpP p)=szP p:=by unfold szP;rw [h1]
  rw [List.map_cons,zs_cons,zs_cons,h5]
  cases hl:p.lost with
  |true=>rw [h4 hl];simpa using ih
  |false=>cases (bumpP p).lost with
   |true=>simpa using ih.cons (szP p)
   |false=>simpa using ih.cons_cons (szP p)
theorem zs_sub {l l':List Pk} (h:l'.Sublist l):(zs l').Sublist (zs l):=(h.filter _).map _
theorem zs_lost (l:List Pk):zs (allLost l)=[]:=by
 unfold zs allLost
 rw [List.filter_eq_nil_iff.2]
 ·rfl
 ·intro p hp
  obtain ⟨x,_,rfl⟩:=List.mem_map.1 hp
  simp
abbrev Msg:=Int×List UInt8
def msg (p:Pk):Msg:=(p.kind,p.body)
def bodies (T:List Msg):List UInt8:=(T.map (·.2)).flatten
theorem bodies_append (a b:List Msg):bodies (a++b)=bodies a++bodies b:=by simp [bodies]
theorem bodies_cons (m:Msg) (b:List Msg):bodies (m::b)=m.2++bodies b:=by simp [bodies]
structure TOk (T:List Msg) (op closing:Bool):Prop where
 kinds:∀m∈T,(m.1=1∨m.1=2∨m.1=4)∧(m.1=2↔m.2≠[])∧m.2.length≤1400
 first:∀(i:Nat) (m:Msg),T[i]? =some m→(m.1=1↔(i=0∧op=true))
 last:∀(i:Nat) (m:Msg),T[i]? =some m→m.1=4→i+1=T.length∧closing=true
theorem len_bodies:∀{T:List Msg},(∀ m∈T,m.2≠[])→T.length≤(bodies T).length
 |[],_=>Nat.zero_le _
 |m::T,h=>by
  have:=len_bodies (T:=T) fun m hm=>h m (List.mem_cons_of_mem _ hm)
  have h1:=List.length_pos_iff.2 (h m (List.mem_cons_self ..))
  rw [bodies_cons,List.length_append,List.length_cons]
  omega
theorem bodies_sub {a b:List Msg} (h:a.Sublist b):(bodies a).length≤(bodies b).length:=by
 induction h with
 |slnil=>exact Nat.le_refl _
 | @cons l1 l2 x h ih=>rw [bodies_cons,List.length_append];omega
 | @cons_cons l1 l2 x h ih=>rw [bodies_cons,bodies_cons,List.length_append,List.length_append];omega
theorem TOk.len {T:List Msg} {op cl:Bool} (h:TOk T op cl):T.length≤(bodies T).length+2:=by
 have h1:((T.drop 1).dropLast).Sublist T:=(List.dropLast_sublist _).trans (List.drop_sublist _ _)
 have h2:∀m∈(T.drop 1).dropLast,m.2≠[]:=by
  intro m hm
  obtain ⟨i,hi⟩:=List.getElem?_of_mem hm
  have hl:=(List.getElem?_eq_some_iff.1 hi).1
  rw [List.length_dropLast,List.length_drop] at hl
  rw [List.getElem?_dropLast,List.length_drop,if_pos hl,List.getElem?_drop] at hi
  have hk:=h.kinds m (List.mem_of_getElem? hi)
  have hf:=h.first _ _ hi
  have hla:=h.last _ _ hi
  refine hk.2.1.1 ?_
  rcases hk.1 with g|g|g
  ·have:=(hf.1 g).1;omega
  ·exact g
  ·have:=(hla g).1;omega
 have h3:=len_bodies h2
 have h4:=bodies_sub h1
 rw [List.length_dropLast,List.length_drop] at h3
 omega
structure Snd (e:E) (f:Int) (L:List Msg) (w:List UInt8):Prop where
 next:e.next=f+L.length
 acked:f - 1≤e.acked∧e.acked<e.next
 fl:∀p∈e.flight,∃i:Nat,L[i]? =some (msg p)∧p.number=f+i
 fll:e.flight.length≤L.length
 tok:TOk (L++e.waiting.map msg) e.opener e.closing
 text:bodies (L++e.waiting.map msg)=w
 under:UOkZ e.limit e.flight
theorem Snd.of {e e':E} {f:Int} {L:List Msg} {w:List UInt8} (h:Snd e f L w) (h1:e'.next=e.next) (h2:e'.acked=e.acked) (h3:e'.flight=e.flight) (h4:e'.waiting=e.waiting) (h5:e'.opener=e.opener) (h6:e'.closing=e.closing) (h7:e'.limit=e.limit):Snd e' f L w where
 next:=h1 ▸ h.next
 acked:=by rw [h1,h2];exact h.acked
 fl:=by rw [h3];exact h.fl
 fll:=by rw [h3];exact h.fll
 tok:=by rw [h4,h5,h6];exact h.tok
 text:=by rw [h4];exact h.text
 under:=by rw [h7,h3];exact h.under
structure SgOk (f:Int) (L:List Msg) (p:Sg):Prop where
 ok:p.ok
 in_:p.kind=1∨p.kind=2∨p.kind=4→∃i:Nat,L[i]? =some (p.kind,p.body)∧p.seq=(f+i)%65536
theorem SgOk.mono {f:Int} {L L':List Msg} {p:Sg} (h:SgOk f L p) (hL:L <+: L'):SgOk f L' p:=⟨h.ok,fun g=>by
 obtain ⟨i,h1,h2⟩:=h.in_ g
 obtain ⟨X,rfl⟩:=hL
 exact ⟨i,by rw [List.getElem?_append_left (List.getElem?_eq_some_iff.1 h1).1];exact h1,h2⟩⟩
structure Got (e:E) (f:Int) (L:List Msg) (rd:List UInt8) (k:Nat):Prop where
 le:k≤L.length
 base:e.base=(f+k - 1)%65536
 text:rd++e.ready=bodies (L.take k)
 ended:e.ended=true→e.kept=[]∧1≤k∧∃m,L[k - 1]? =some m∧m.1=4
 kept:∀x∈e.kept,∃j:Nat,k<j∧j<k+34∧L[j]? =some (x.2.kind,x.2.body)∧x.1=(f+j)%65536∧(x.2.kind=2∨x.2.kind=4)
structure Rcv (e:E) (f:Int) (L:List Msg) (rd:List UInt8):Prop where
 base:0≤e.base∧e.base<65536
 room:(e.ready.length:Int)+(keptB e.kept:Int)≤e.room
 got:(e.kept=[]∧e.ready=[]∧rd=[]∧e.ended=false∧(e.state=0∨e.state=1∨e.state=5))∨∃k,Got e f L rd k∧(e.state≠0∧e.state≠1)
theorem Rcv.of {e e':E} {f:Int} {L:List Msg} {rd:List UInt8} (h:Rcv e f L rd) (h1:e'.base=e.base) (h2:e'.ready=e.ready) (h3:e'.kept=e.kept) (h4:e'.room=e.room) (h5:e'.ended=e.ended) (h6:e'.state=e.state∨e'.state=5∨(e.state≠0∧e.state≠1∧e.state≠5∧e'.state≠0∧e'.state≠1)):Rcv e' f L rd where
 base:=by rw [h1];exact h.base
 room:=by rw [h2,h3,h4];exact h.room
 got:=by
  rcases h.got with ⟨a,b,c,d,g⟩|⟨k,hk,g1,g2⟩
  ·refine .inl ⟨h3.trans a,h2.trans b,c,h5.trans d,?_⟩
   rcases h6 with h6|h6|h6
   ·rw [h6];exact g
   ·exact .inr (.inr h6)
   ·omega
  ·refine .inr ⟨k,⟨hk.le,h1.trans hk.base,by rw [h2];exact hk.text,by rw [h5,h3];exact hk.ended,by rw [h3];exact hk.kept⟩,by omega⟩
theorem Rcv.mono {e:E} {f:Int} {L L':List Msg} {rd:List UInt8} (h:Rcv e f L rd) (hL:L <+: L'):Rcv e f L' rd where
 base:=h.base
 room:=h.room
 got:=by
  rcases h.got with g|⟨k,hk,g⟩
  ·exact .inl g
  ·obtain ⟨X,rfl⟩:=hL
   have hg:∀i m,L[i]? =some m→(L++X)[i]? =some m:=fun i m hi=>by rw [List.getElem?_append_left (List.getElem?_eq_some_iff.1 hi).1];exact hi
   refine .inr ⟨k,⟨by have:=hk.le;rw [List.length_append];omega,hk.base,by rw [List.take_append_of_le_length hk.le];exact hk.text,fun he=> ?_,fun x hx=> ?_⟩,g⟩
   ·obtain ⟨a,b,m,c,d⟩:=hk.ended he
    exact ⟨a,b,m,hg _ _ c,d⟩
   ·obtain ⟨j,a,b,c,d⟩:=hk.kept x hx
    exact ⟨j,a,b,hg _ _ c,d⟩
end Go.Proofs.Ytdgmcckfdgnicaa
