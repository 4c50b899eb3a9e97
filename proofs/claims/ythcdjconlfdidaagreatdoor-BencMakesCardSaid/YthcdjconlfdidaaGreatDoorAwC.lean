/-
  The abstract memory and the walk of code over it, part 3.
-/
import Derived.Test.YthcdjconlfdidaaGreatDoorAwB
import Derived.Shelf.Strings.OnBuilder
set_option linter.unusedVariables false
set_option linter.unusedSimpArgs false
namespace Go.Aw
def fzO:AObj→AObj
 | .cells cs k=> .cells cs {k with own:=false}
 |o=>o
def fz:AHeap→List Nat→AHeap
 |H,[]=>H
 |H,j::S=>fz (H.modify j fzO) S
theorem fz_length:∀(S:List Nat) (H:AHeap),(fz H S).length=H.length
 |[],H=>rfl
 |j::S,H=>by rw [fz,fz_length S,List.length_modify]
theorem fzO_idem (o:AObj):fzO (fzO o)=fzO o:=by cases o<;> rfl
theorem fz_get:∀(S:List Nat) (H:AHeap) (i:Nat),(fz H S)[i]? =if i∈S then H[i]?.map fzO else H[i]?
 |[],H,i=>by simp [fz]
 | j::S,H,i=>by
  rw [fz,fz_get S,List.getElem?_modify]
  by_cases hj:j=i
  ·subst hj
   simp only [List.mem_cons,true_or,if_true]
   split
   ·cases h:H[j]? with
    |none=>rfl
    |some o=>simp [fzO_idem]
   ·simp
  ·have hji:¬i=j:=fun e=>hj e.symm
   simp only [List.mem_cons,hji,false_or]
   simp [hj]
theorem fz_cells {S:List Nat} {H:AHeap} {i:Nat} {cs:List Value} {k:CK} (h:H[i]? =some (.cells cs k)):∃k2:CK,(fz H S)[i]? =some (.cells cs k2)∧k2.e=k.e∧k2.esz=k.esz∧(i∈S→k2.own=false)∧(k.own=false→k2.own=false):=by
 rw [fz_get,h]
 by_cases hs:i∈S
 ·rw [if_pos hs]
  exact ⟨_,rfl,rfl,rfl,fun _=>rfl,fun _=>rfl⟩
 ·rw [if_neg hs]
  exact ⟨k,rfl,rfl,rfl,fun h=>absurd h hs,id⟩
theorem fz_kept (S:List Nat) (H:AHeap):Kept H (fz H S):=fun j cs k h ho=>by
 rw [fz_get,h]
 by_cases hs:j∈S
 ·rw [if_pos hs]
  obtain ⟨a,b,c,d,e⟩:=k
  dsimp only at ho
  subst ho
  rfl
 ·rw [if_neg hs]
theorem modify_fz {H:AHeap} {j:Nat}: (∃ cs k,H[j]? =some (.cells cs k)∧H.modify j fzO=H.set j (.cells cs {k with own:=false}))∨H.modify j fzO=H:=by
 cases h:H[j]? with
 |none=>
  refine .inr ?_
  apply List.ext_getElem?
  intro i
  rw [List.getElem?_modify]
  by_cases e:j=i
  ·subst e;rw [h];simp
  ·simp [e]
 | some o=>
  cases o with
  |cells cs k=>
   refine .inl ⟨cs,k,rfl,?_⟩
   apply List.ext_getElem?
   intro i
   rw [List.getElem?_modify]
   by_cases e:j=i
   ·subst e;rw [h,List.getElem?_set_self (lt_of_get h)];simp [fzO]
   ·rw [List.getElem?_set_ne e];simp [e]
  |_=>
   refine .inr ?_
   apply List.ext_getElem?
   intro i
   rw [List.getElem?_modify]
   by_cases e:j=i
   ·subst e;rw [h];simp [fzO]
   ·simp [e]
theorem Weak.trans0 {n0:Nat} {a b d:ASt} (h:Weak n0 a b) (k:Weak n0 b d):Weak n0 a d:=fun N c w x hs=>
 let ⟨c1,h1,t1⟩:=h N c w x hs
 let ⟨c2,h2,t2⟩:=k N c1 w x h1
 ⟨c2,h2,t1.trans t2⟩
theorem Weak.fz {n0:Nat} {env:List (Nat×Value)} {ds:List ADef}:∀(S:List Nat) (H:AHeap),Weak n0 ⟨env,ds,H⟩ ⟨env,ds,fz H S⟩
 |[],H=>fun N c w a hs=>⟨c,hs,.refl _ _ _ _⟩
 | j::S,H=>by
  rw [Go.Aw.fz]
  rcases modify_fz (H:=H) (j:=j) with ⟨cs,k,h1,h2⟩|h2
  ·rw [h2]
   exact (Weak.freeze h1).trans0 (Weak.fz S _)
  ·rw [h2];exact Weak.fz S H
theorem WeakV.trans0 {n0:Nat} {H1 H2 H3:AHeap} {v1 v2 v3:Value} (h:WeakV n0 H1 v1 H2 v2) (k:WeakV n0 H2 v2 H3 v3):WeakV n0 H1 v1 H3 v3:=fun c w v' hh hr=>
 let ⟨c1,h1,r1,t1⟩:=h c w v' hh hr
 let ⟨c2,h2,r2,t2⟩:=k c1 w v' h1 r1
 ⟨c2,h2,r2,t1.trans t2⟩
theorem WeakV.fz {n0:Nat} {v:Value}:∀(S:List Nat) (H:AHeap),WeakV n0 H v (fz H S) v
 |[],H=> .refl _ _ _
 | j::S,H=>by
  rw [Go.Aw.fz]
  rcases modify_fz (H:=H) (j:=j) with ⟨cs,k,h1,h2⟩|h2
  ·rw [h2]
   exact (WeakV.freeze h1).trans0 (WeakV.fz S _)
  ·rw [h2];exact WeakV.fz S H
theorem ARet.thaw {P:Program} {f:FuncId} {args:List Value} {H:AHeap} {v:Value} {j:Nat} {cs:List Value} {k:CK} (hj:H[j]? =some (.cells cs k)) (h:ARet P f args (H.set j (.cells cs {k with own:=false})) v (H.set j (.cells cs {k with own:=false}))):ARet P f args H v H:=
 fun c w vargs hh hv=>(h c w vargs (hh.freeze hj) hv).mono fun e w' hp=>by
  obtain ⟨r,c',H',⟨rfl,rfl⟩,h2,h3,h4⟩:=hp
  have hlt:=lt_of_get hj
  have hnm:∀(i:Nat) (o:AObj),H[i]? =some o→o.live=true→∀p,c' i=some p→c i=some p:=fun i o hi hl p hp=>by
   obtain ⟨q,hq,_⟩:=hh.obj i o hi hl
   have:=h4.names i q (by simpa using lt_of_get hi) hq
   rw [hp] at this;cases this;exact hq
  have hle:c.le c':=fun i p e=>h4.names i p (by simpa using hh.lt e) e
  have lv:∀o:AObj,o.own=true→o.live=true:=by intro o ho;cases o<;> first|rfl|cases ho
  obtain ⟨q,hq,hr⟩:=hh.obj j _ hj rfl
  have hno:¬Owns c (H.set j (.cells cs {k with own:=false})) q.block:=by
   rintro ⟨i,o,p,hi,hp,ho,hb⟩
   by_cases e:j=i
   ·subst e
    rw [List.getElem?_set_self hlt] at hi
    cases hi;cases ho
   ·rw [List.getElem?_set_ne e] at hi
    exact hh.sep i j o _ p q (fun h=>e h.symm) hi hj hp hq ho rfl hb
  have hblk:=h4.frame q.block (hr.block_lt rfl) hno
  refine ⟨.ret v,c',H,⟨rfl,rfl⟩,h2,⟨?_,?_,?_⟩,⟨fun i p hi e=>h4.names i p (by simpa using hi) e,h4.tape,h4.os,h4.output,h4.size,?_,?_⟩⟩
  ·intro i o hi hl
   by_cases e:j=i
   ·subst e
    rw [hj] at hi;cases hi
    exact ⟨q,hle _ _ hq,hr.keep hle rfl hblk⟩
   ·exact h3.obj i o (by rw [List.getElem?_set_ne e];exact hi) hl
  ·intro i i' oi oi' pi pi' hne hi hi' ci ci' ho hl
   exact hh.sep i i' oi oi' pi pi' hne hi hi' (hnm i oi hi (lv oi ho) pi ci) (hnm i' oi' hi' hl pi' ci') ho hl
  ·intro i hi
   exact h3.fresh i (by simpa using hi)
  ·intro b hb hn
   exact h4.frame b hb fun ho=>hn (ho.freeze hj)
  ·rintro b ⟨i,o,p,hi,hp,ho,hb⟩
   exact .inl ⟨i,o,p,hi,hnm i o hi (lv o ho) p hp,ho,hb⟩
theorem ARet.thawS {P:Program} {f:FuncId} {args:List Value} {v:Value}:∀(S:List Nat) (H:AHeap),ARet P f args (fz H S) v (fz H S)→ARet P f args H v H
 |[],H,h=>h
 |j::S,H,h=>by
  rw [fz] at h
  have h1:=ARet.thawS S _ h
  rcases modify_fz (H:=H) (j:=j) with ⟨cs,k,e1,e2⟩|e2
  ·rw [e2] at h1;exact h1.thaw e1
  ·rwa [e2] at h1
theorem HRel.alias {c:Ctx} {H:AHeap} {w:World} (h:HRel c H w) {i:Nat} {cs:List Value} {k:CK} {p:Place} (hi:H[i]? =some (.cells cs k)) (hp:c i=some p) (hko:k.own=false) {off m:Nat} (hoff:off+m≤cs.length):
  HRel (c.add H.length ⟨p.block,p.base+off,m,0,0⟩) (H++ [.cells ((cs.drop off).take m) ⟨k.e,0,false,0,none⟩]) w∧ (∀ n,Trans n c H w (c.add H.length ⟨p.block,p.base+off,m,0,0⟩) (H++ [.cells ((cs.drop off).take m) ⟨k.e,0,false,0,none⟩]) w)∧c.le (c.add H.length ⟨p.block,p.base+off,m,0,0⟩):=by
 have hle:c.le (c.add H.length ⟨p.block,p.base+off,m,0,0⟩):=Ctx.le_add _ (h.fresh _ (Nat.le_refl _))
 have old:∀(j:Nat) (o:AObj),(H++[AObj.cells ((cs.drop off).take m) ⟨k.e,0,false,0,none⟩])[j]? =some o→j≠H.length→H[j]? =some o:=by
  intro j o e hj
  have hlt:=(List.getElem?_eq_some_iff.1 e).1
  rw [List.getElem?_append_left (by simp at hlt;omega)] at e
  exact e
 obtain ⟨q,hq,r1,r2,r3,r4,arr,lo,hh,r5,r6,r7,r8⟩:=h.obj i _ hi rfl
 rw [hp] at hq;cases hq
 have hlen:((cs.drop off).take m).length=m:=by rw [List.length_take,List.length_drop];omega
 refine ⟨⟨?_,?_,?_⟩,fun n=>⟨fun j q _ e=>hle _ _ e,rfl,rfl,rfl,Nat.le_refl _,fun _ _ _=>rfl,?_⟩,hle⟩
 ·intro j o e hl
  by_cases hj:j=H.length
  ·subst hj
   simp at e;subst e
   refine ⟨⟨p.block,p.base+off,m,0,0⟩,by simp [Ctx.add],?_⟩
   refine ⟨hlen.symm,rfl,(fun _=>⟨rfl,fun hf=>(by cases hf)⟩),(fun n hf=>(by cases hf)),arr,lo,hh,r5,?_,?_,fun hf=>by cases hf⟩
   ·intro x v hv
    have hx:x<m:=by have:=(List.getElem?_eq_some_iff.1 hv).1;omega
    rw [List.getElem?_take_of_lt hx,List.getElem?_drop] at hv
    obtain ⟨v',e1,e2⟩:=r6 _ _ hv
    exact ⟨v',by rw [← e1,Nat.add_assoc],e2.mono hle⟩
   ·dsimp only
    omega
  ·obtain ⟨q,hq,hr⟩:=h.obj j o (old j o e hj) hl
   exact ⟨q,by rw [Ctx.add_other _ _ hj];exact hq,hr.keep hle hl rfl⟩
 ·intro a b oa ob pa pb hab ea eb ca cb hoa hlb
  by_cases h1:a=H.length
  ·subst h1
   simp at ea;subst ea;cases hoa
  ·rw [Ctx.add_other _ _ h1] at ca
   by_cases h2:b=H.length
   ·subst h2
    simp [Ctx.add] at cb
    subst cb
    have hai:a≠i:=fun e=>by
     subst e
     rw [old a oa ea h1] at hi
     cases hi
     rw [show (AObj.cells cs k).own=k.own from rfl,hko] at hoa
     cases hoa
    exact h.sep a i oa _ pa p hai (old a oa ea h1) hi ca hp hoa rfl
   ·rw [Ctx.add_other _ _ h2] at cb
    exact h.sep a b oa ob pa pb hab (old a oa ea h1) (old b ob eb h2) ca cb hoa hlb
 ·intro j hj
  simp at hj
  rw [Ctx.add_other _ _ (by omega)]
  exact h.fresh j (by omega)
 ·rintro b ⟨j,o,q,e,cj,ho,hb⟩
  by_cases hj:j=H.length
  ·subst hj
   simp at e;subst e;cases ho
  ·rw [Ctx.add_other _ _ hj] at cj
   exact .inl ⟨j,o,q,old j o e hj,cj,ho,hb⟩
section
variable {g:Cfg} {o:Oper} {st:ASt} {K:ASt→Prop} {Kp:Value→ASt→Prop}
theorem OpOk.clip (hd:∀d,o.dst=some d→d<g.N.n) {t e:TypeId} {x y z:Operand} (ho:o.op= .slice t x none (some y) (some z)) {i off n cap s:Nat} (hx:ev st x=some (.slice (some ⟨i,off,none⟩) n cap)) (hy:ev st y=some (.int .i64 (n:Nat))) (hz:ev st z=some (.int .i64 (n:Nat)))
  (hn:n≤cap) (hu:g.P.underlying t=some (.slice e)) (hs:tS g.P e=some s) {cs:List Value} {k:CK} (hi:st.H[i]? =some (.cells cs k)) (hl:off+n*s≤cs.length)
  (hK:K (ASt.put ⟨st.env,st.defs,fz st.H [i]++ [.cells ((cs.drop off).take (n*s)) ⟨k.e,0,false,0,none⟩]⟩ o.dst (.slice (some ⟨st.H.length,0,none⟩) n n))):OpOk g o st K Kp:=by
 refine .gives hd (fun c e=>by rw [ho] at e;cases e) (fun a=>Instr.sliceAt t (a.eval x) none (some (a.eval y)) (some (a.eval z))) (fun a=>by simp only [execOp,ho];rfl) fun c w a hsr=> ?_
 have hxr:=ev_rel hsr hx
 have hyr:=ev_rel hsr hy
 have hzr:=ev_rel hsr hz
 generalize a.eval x=x' at hxr
 generalize a.eval y=y' at hyr
 generalize a.eval z=z' at hzr
 cases hyr;cases hzr
 have hfz:=hsr.heap.freeze hi
 have hH:fz st.H [i]=st.H.set i (.cells cs {k with own:=false}):=by
  rw [fz,fz]
  rcases modify_fz (H:=st.H) (j:=i) with ⟨cs2,k2,e1,e2⟩|e2
  ·rw [hi] at e1;cases e1;exact e2
  ·apply List.ext_getElem?
   intro j
   rw [List.getElem?_modify]
   by_cases e:i=j
   ·subst e;rw [hi,List.getElem?_set_self (lt_of_get hi)];simp [fzO]
   ·rw [List.getElem?_set_ne e];simp [e]
 obtain ⟨p,hp,_⟩:=hsr.heap.obj i _ hi rfl
 have hi2:(st.H.set i (.cells cs {k with own:=false}))[i]? =some (.cells cs {k with own:=false}):=List.getElem?_set_self (lt_of_get hi)
 obtain ⟨a1,a2,a3⟩:=hfz.alias hi2 hp rfl (off:=off) (m:=n*s) hl
 rw [hH] at hK
 have hT:∀m,Trans m c st.H w c (st.H.set i (.cells cs {k with own:=false})) w:=fun m=>⟨fun _ _ _ h=>h,rfl,rfl,rfl,Nat.le_refl _,fun _ _ _=>rfl,fun b h=> .inl (h.freeze hi)⟩
 have hlen:(st.H.set i (.cells cs {k with own:=false})).length=st.H.length:=List.length_set
 rw [hlen] at a1 a2 a3
 have hb:∀cap',n≤cap'→(Instr.sliceBounds true n cap' none (some (.int .i64 (n:Nat))) (some (.int .i64 (n:Nat)))).run g.P w= .ok (0,n,n) w:=fun cap' hc=>by
  have:=run_bounds (P:=g.P) (b:=true) (len:=n) (cap:=cap') (m:=((n:Nat):Int)) (.none (c:=c)) (.some (.int .i64 (n:Nat))) (.some (.int .i64 (n:Nat))) (l:=0) (h:=((n:Nat):Int)) rfl rfl rfl ⟨by omega,by omega,by omega,by omega⟩ (fun _=>rfl) w
  simpa using this
 have fin:∀v',(Instr.sliceAt t x' none (some (.int .i64 (n:Nat))) (some (.int .i64 (n:Nat)))).run g.P w= .ok v' w→VRel (c.add st.H.length ⟨p.block,p.base+off,n*s,0,0⟩) (.slice (some ⟨st.H.length,0,none⟩) n n) v'→
   Gives g.P (Instr.sliceAt t x' none (some (.int .i64 (n:Nat))) (some (.int .i64 (n:Nat)))) c st.H w (kv st o.dst K):=fun v' hr hv=>
  ⟨v',w,hr,_,_,_,hK,hv,a3,a1,fun m=>(hT m).trans (a2 m)⟩
 have hnew:(c.add st.H.length ⟨p.block,p.base+off,n*s,0,0⟩) st.H.length=some ⟨p.block,p.base+off,n*s,0,0⟩:=by simp [Ctx.add]
 have key:∀cap',n≤cap'→x'= .slice (some ⟨p.block,p.base+off,none⟩) n cap'→Gives g.P (Instr.sliceAt t x' none (some (.int .i64 (n:Nat))) (some (.int .i64 (n:Nat)))) c st.H w (kv st o.dst K):=fun cap' hc ex=>by
  refine fin (.slice (some ⟨p.block,p.base+off+0,none⟩) n n) ?_ (.slice hnew)
  rw [ex]
  simp only [Instr.sliceAt,Instr.slice,Sem.run_bind,run_underlying hu,Result.andThen_ok,hb cap' hc,Sem.run_pure,run_sizeOf hs]
  by_cases h0:n=0
  ·simp [h0]
  ·simp [h0,addr_add]
 cases hxr with
 |slice hc=>rw [hp] at hc;cases hc;exact key cap hn rfl
 |sliceX hc hsx=>rw [hp] at hc;cases hc;exact key _ (by omega) rfl
 | @sliceZ _ _ ad p2 hc=>
  obtain ⟨b,u,sp⟩:=ad
  refine fin (.slice (some ⟨b,u,sp⟩) 0 0) ?_ (.sliceZ hnew)
  have:=hb 0 (Nat.le_refl _)
  simp only [Instr.sliceAt,Instr.slice,Sem.run_bind,run_underlying hu,Result.andThen_ok,this,Sem.run_pure,run_sizeOf hs]
  simp
theorem OpOk.cap (hd:∀d,o.dst=some d→d<g.N.n) {t e:TypeId} {x:Operand} (ho:o.op= .call ⟨.builtin .cap,#[x],#[t]⟩) {i off n cap:Nat} (hx:ev st x=some (.slice (some ⟨i,off,none⟩) n cap))
  (hu:g.P.underlying t=some (.slice e)) {cs:List Value} {k:CK} (hi:st.H[i]? =some (.cells cs k)) (hz:k.esz=0)
  (hK:K (ASt.put st o.dst (.int .i64 (cap:Nat)))):OpOk g o st K Kp:=by
 refine .still hd (fun c e=>by rw [ho] at e;cases e) fun c w a hsr=> ?_
 have hxr:=ev_rel hsr hx
 obtain ⟨p,hp,hr⟩:=hsr.heap.obj i _ hi rfl
 have hex:p.extra=0:=(hr.2.2.1 hz).1
 have hrun:∀ad c',a.eval x= .slice ad n c'→c'=cap→(execOp a.eval o).run g.P w= .ok (.value (.int .i64 (cap:Nat))) w:=fun ad c' e1 e2=>by
  subst e2
  have:(Go.Builtin.cap_ #[t] o.type (#[x].map a.eval)).run g.P w= .ok (.int .i64 (c':Nat)) w:=by
   simp [Builtin.cap_,run_underlying hu,goInt,e1]
  simp only [execOp,ho,resolve,pure_bind,invoke,builtin]
  exact run_v this
 generalize hxe:a.eval x=x' at hxr
 cases hxr with
 |slice hc=>exact ⟨_,_,hrun _ _ hxe rfl,.int _ _,hK⟩
 |sliceX hc hsx=>
  rw [hp] at hc;cases hc
  exact ⟨_,_,hrun _ _ hxe (by rw [hex];rfl),.int _ _,hK⟩
 |sliceZ hc=>exact ⟨_,_,hrun _ _ hxe rfl,.int _ _,hK⟩
end
theorem regionL_ok {g:Cfg} {Q:AExit→ASt→Prop} (ops post:List Oper):∀(l:List Oper) (st:ASt),dstsOk g.N.n l=true→regionW g ops l st (fun st'=>∀c w a,SRel g.N c st' w a→wpListIn (fenceOf g.lr) 0 g.P ops.toArray (APost g Q c st'.H w) post a w) (fun v st'=>Q (.panic v) st')→
  ∀c w a,SRel g.N c st w a→wpListIn (fenceOf g.lr) 0 g.P ops.toArray (APost g Q c st.H w) (l++post) a w
 |[],st,_,h,c,w,a,hs=>h c w a hs
 | o::l,st,hd,h,c,w,a,hs=>by
  simp only [dstsOk,List.all_cons,Bool.and_eq_true] at hd
  have hd1:∀d,o.dst=some d→d<g.N.n:=fun d e=>by rw [e] at hd;simpa using hd.1
  simp only [regionW] at h
  simp only [List.cons_append,wpListIn]
  rcases wantW_elim hs h with ⟨hw,hr⟩|⟨hw,hr⟩
  ·rw [if_pos hw]
   refine opW_ok hd1 hr c w a _ _ hs ?_ ?_
   ·intro st' c' a' w' hK hs' ht _
    have:=regionL_ok ops post l st' (by simpa [dstsOk] using hd.2) hK c' w' a' hs'
    have hback:∀e a2 w2,APost g Q c' st'.H w' e a2 w2→APost g Q c st.H w e a2 w2:=fun e a2 w2 hp=>hp.back ht
    exact region_ok.wpList_mono hback _ this
   ·intro v v' st' c' a' w' hKp hv hs' ht
    exact ⟨.panic v,st',c',hKp,.panic hv,hs',ht⟩
  ·rw [if_neg (by rw [hw];simp)]
   refine ⟨about_any g.lr,?_⟩
   have hs':SRel g.N c (st.put o.dst noVal) w (a.put o.dst undef):=hs.put hd1 (.tuple .nil)
   have:=regionL_ok ops post l (st.put o.dst noVal) (by simpa [dstsOk] using hd.2) hr c w _ hs'
   have hH:(st.put o.dst noVal).H=st.H:=by cases o.dst<;> rfl
   rw [hH] at this
   exact this
def LOk (g:Cfg) (Q:AExit→ASt→Prop) (l post:List Oper) (st:ASt):Prop:=∀c w a,SRel g.N c st w a→wpListIn (fenceOf g.lr) 0 g.P l.toArray (APost g Q c st.H w) post a w
theorem LOk.step {g:Cfg} {Q:AExit→ASt→Prop} {l post:List Oper} {o:Oper} {st:ASt} (hg:o.guard=none) (hd:dstsOk g.N.n post=true)
  (h:OpOk g o st (fun st2=>regionW g l post st2 (fun st'=>Q .normal st') (fun v st'=>Q (.panic v) st')) (fun v st'=>Q (.panic v) st')):LOk g Q l (o::post) st:=by
 intro c1 w1 a1 hs1
 simp only [wpListIn]
 rw [if_pos (by simp [Region.wanted,hg])]
 refine h c1 w1 a1 _ _ hs1 ?_ ?_
 ·intro st' c' a' w' hK hs' ht _
  have:=region_ok l post st' hd hK c' w' a' hs'
  have hback:∀e a2 w2,APost g Q c' st'.H w' e a2 w2→APost g Q c1 st.H w1 e a2 w2:=fun e a2 w2 hp=>hp.back ht
  exact region_ok.wpList_mono hback _ this
 ·intro v v' st' c' a' w' hKp hv hs' ht
  exact ⟨.panic v,st',c',hKp,.panic hv,hs',ht⟩
theorem AWP.regionO {g:Cfg} {Q:AExit→ASt→Prop} {st:ASt} {id:Nat} {l:List Oper} (k:Nat) (hd:dstsOk g.N.n (l.take k)=true)
  (h:regionW g l (l.take k) st (fun st1=>LOk g Q l (l.drop k) st1) (fun v st'=>Q (.panic v) st')):
  AWP g (.region id l.toArray false) Q st:=fun c w a hs=>wpIn_region_lit (by
 have:=regionL_ok l (l.drop k) (l.take k) st hd (Q:=Q) h c w a hs
 rw [List.take_append_drop] at this
 exact this)
end Go.Aw

set_option linter.unusedVariables false
set_option linter.unusedSimpArgs false
namespace Go.Aw
theorem run_append_grow_make {P:Program} (w:World) (t tx ty e:TypeId) (kk:IntKind) (i:TypeInfo) (z:Value) (ht:P.underlying t=some (.slice e)) (hk:P.underlying tx=some (.int kk)) (hi:P.info? e=some i) (hz:i.zero=some z) (base:Option Addr) (sLen sCap:Nat) (olds:List Value)
  (hold:(Builtin.firstCells i.size sLen (.slice base sLen sCap)).run P w.drew= .ok olds.toArray w.drew) (k2:IntKind) (n:Nat) (hpos:0<n*i.size) (hnb:(n:Int)*i.bytes≤281474976710656)
  (hg:sCap<sLen+n) (h63:((sLen+n:Nat):Int)≤9223372036854775807) (hfit:Builtin.nextslicecap (sLen+n) sCap*i.bytes≤281474976710656):
  (Builtin.append_ #[t,tx] ty #[.slice base sLen sCap,.int k2 (n:Nat)]).run P w=
   .ok (.slice (some ⟨w.heap.size,0,none⟩) (sLen+n) (grownCap w (sLen+n) sCap e))
    (w.drew.alloc (.cells ((olds.toArray++Builtin.zeroCells z.cells n)++Builtin.zeroCells z.cells (grownCap w (sLen+n) sCap e - (sLen+n))) e)):=by
 have hn:¬(sLen+n≤sCap):=by omega
 have h63':¬(9223372036854775807<((sLen:Int)+(n:Int))):=by omega
 have h48':¬(281474976710656<Builtin.nextslicecap (sLen+n) sCap*i.bytes):=by omega
 have hw:IntKind.i64.wrap (n:Int)=(n:Int):=wi64 (by omega)
 have hneg:¬(n:Int)<0:=by omega
 have hbig:¬((n:Int)*(i.bytes:Int)>2 ^ 48):=by
  have:(2:Int) ^ 48=281474976710656:=by decide
  omega
 have hbig2:¬(281474976710656<(n:Int)*(i.bytes:Int)):=by omega
 have hmax:max (n:Int) 0=(n:Int):=by omega
 have hp0:¬n*i.size=0:=by omega
 simp [Builtin.append_,run_underlying ht,run_underlying hk,sizeOf,typeInfo,zeroValue,hi,hz,hn,h63',h48',Question.forced,hold,newRow,grownCap,asInt,asIntOf,hw,hneg,hbig,hbig2,hmax,hp0]
end Go.Aw

set_option linter.unusedVariables false
set_option linter.unusedSimpArgs false
namespace Go.Aw
theorem HRel.grownX {c:Ctx} {H:AHeap} {w:World} (h:HRel c H w) {l l':List Value} (hv:VRels c l l') (e:TypeId) {arr:Array Value} (ha:arr=l'.toArray) (need cap:Nat):
  ∃c',HRel c' (H++ [.cells l ⟨e,0,true,0,none⟩]) (w.drew.alloc (.cells arr e (0,0)))∧ (∀ n,Trans n c H w c' (H++ [.cells l ⟨e,0,true,0,none⟩]) (w.drew.alloc (.cells arr e (0,0))))∧c.le c'∧
   VRel c' (.slice (some ⟨H.length,0,none⟩) need cap) (.slice (some ⟨w.heap.size,0,none⟩) need cap):=by
 subst ha
 have hnew:(w.drew.alloc (.cells l'.toArray e (0,0))).heap[w.heap.size]? =some (.cells l'.toArray e (0,0)):=by show (w.heap.push _)[w.heap.size]? =_;simp
 have key:∀n,_:=fun n=>h.extend (w':=w.drew.alloc (.cells l'.toArray e (0,0))) (p:=⟨w.heap.size,0,l.length,0,0⟩) (o:= .cells l ⟨e,0,true,0,none⟩) ⟨rfl,rfl,rfl⟩ (by simp)
  (fun b hb=>by show (w.heap.push _)[b]? =_;rw [Array.getElem?_push,if_neg (by omega)]) (Nat.le_refl _) (by
   refine ⟨rfl,rfl,fun _=>⟨rfl,fun _=>⟨rfl,fun arr r hh=> ?_⟩⟩,fun n h=>(by cases h),l'.toArray,0,0,hnew,?_,?_,fun _ off _ ho=>by omega⟩
   ·rw [hnew] at hh;cases hh;simp [hv.length]
   ·intro k v ek
    obtain ⟨v',h1,h2⟩:=hv.get ek
    exact ⟨v',by rw [Nat.zero_add];simpa using h1,h2.mono (Ctx.le_add _ (h.fresh _ (Nat.le_refl _)))⟩
   ·simp [hv.length]) n
 refine ⟨_,(key 0).1,fun n=>(key n).2.1,(key 0).2.2,?_⟩
 have:=VRel.slice (c:=c.add H.length ⟨w.heap.size,0,l.length,0,0⟩) (i:=H.length) (off:=0) (len:=need) (cap:=cap) (Ctx.add_self _ _ _)
 simpa using this
theorem zeros_list (z:Value) (l:List Value) (h:z.cells.toList=l) (n:Nat):(Builtin.zeroCells z.cells n).toList=repZ n l:=by
 have:z.cells=l.toArray:=by rw [← h]
 rw [this];exact zeroCells_eq l n
section
variable {g:Cfg} {o:Oper} {st:ASt} {K:ASt→Prop} {Kp:Value→ASt→Prop}
def GrowS (H:AHeap) (size n:Nat) (sv:Value) (len:Nat) (olds:List Value):Prop:=
 (sv= .slice none 0 0∧len=0∧olds=[]∧0<n)∨∃b off cap cs k,sv= .slice (some ⟨b,off,none⟩) len cap∧H[b]? =some (.cells cs k)∧k.esz=0∧cap<len+n∧off+len*size≤cs.length∧olds=(cs.drop off).take (len*size)
theorem GrowS.rel {c:Ctx} {H:AHeap} {w:World} {size n len:Nat} {sv sv':Value} {olds:List Value} {P:Program} (h:HRel c H w) (hg:GrowS H size n sv len olds) (hv:VRel c sv sv'):
  ∃base cap' l',sv'= .slice base len cap'∧cap'<len+n∧VRels c olds l'∧olds.length=len*size∧(Builtin.firstCells size len (.slice base len cap')).run P w.drew= .ok l'.toArray w.drew:=by
 rcases hg with ⟨rfl,rfl,rfl,hn⟩|⟨b,off,cap,cs,k,rfl,hb,hz,hc,hle,rfl⟩
 ·cases hv
  exact ⟨none,0,[],rfl,by omega,.nil,by simp,by simp [Builtin.firstCells]⟩
 ·obtain ⟨p,hp,hro⟩:=h.obj b _ hb rfl
  have hex:p.extra=0:=(hro.2.2.1 hz).1
  obtain ⟨hdr,_⟩:=h.drew 0
  obtain ⟨l',hl',hv',hrun0⟩:=hdr.cellsAt hb hp off (len*size) hle
  have hol:((cs.drop off).take (len*size)).length=len*size:=by simp;omega
  have holdp:∀cap',(Builtin.firstCells size len (.slice (some ⟨p.block,p.base+off,none⟩) len cap')).run P w.drew= .ok l'.toArray w.drew:=fun cap'=>by
   have:=hrun0 P #[]
   simpa [Builtin.firstCells,loadCells] using this
  cases hv with
  |slice hc=>rw [hp] at hc;cases hc;exact ⟨_,_,l',rfl,by assumption,hv',hol,holdp _⟩
  |sliceX hc hsx=>rw [hp] at hc;cases hc;exact ⟨_,_,l',rfl,by omega,hv',hol,holdp _⟩
  | @sliceZ _ _ ad p2 hc=>
   have hl0:l'=[]:=List.eq_nil_of_length_eq_zero (by rw [hl'];simp)
   subst hl0
   exact ⟨_,_,[],rfl,by omega,hv',hol,by simp [Builtin.firstCells,loadCells,loadCellsFrom]⟩
theorem OpOk.appendX (hd:∀d,o.dst=some d→d<g.N.n) {t tx e e2:TypeId} {sx xx:Operand} (ho:o.op= .call ⟨.builtin .append,#[sx,xx],#[t,tx]⟩) {j off2 n c2 len size y:Nat} {z olds news:List Value} {sv:Value}
  (hx:ev st sx=some sv) (hn:ev st xx=some (.slice (some ⟨j,off2,none⟩) n c2)) (hut:g.P.underlying t=some (.slice e)) (huk:g.P.underlying tx=some (.slice e2)) (hs:tS g.P e=some size) (hy:tB g.P e=some y) (hz:tZ g.P e=some z)
  (hg:GrowS st.H size n sv len olds) {cs2:List Value} {k2:CK} (hj:st.H[j]? =some (.cells cs2 k2)) (hle2:off2+n*size≤cs2.length) (hnews:(cs2.drop off2).take (n*size)=news) (hfl:news.all flat=true)
  (hzs:z.all scalar=true) (hby:(len+n)*y≤140737488355328) (h63:len+n≤4611686018427387904)
  (hK:∀m,K (ASt.put ⟨st.env,st.defs,st.H++ [.cells (olds++(news++repZ m z)) ⟨e,0,true,0,none⟩]⟩ o.dst (.slice (some ⟨st.H.length,0,none⟩) (len+n) (len+n+m)))):OpOk g o st K Kp:=by
 refine .value hd (fun c e=>by rw [ho] at e;cases e) fun c w a hsr=> ?_
 have hxr:=ev_rel hsr hx
 have hnr:=ev_rel hsr hn
 have h:=hsr.heap
 obtain ⟨i,hi,his⟩:=tS_info hs
 have hiy:i.bytes=y:=by unfold tB at hy;rw [hi] at hy;simpa using hy
 have hiz:∃zv,i.zero=some zv∧zv.cells.toList=z:=by
  unfold tZ at hz;rw [hi] at hz;simp at hz
  obtain ⟨zv,h1,h2⟩:=hz
  exact ⟨zv,h1,h2⟩
 obtain ⟨zv,hzv,hzs2⟩:=hiz
 obtain ⟨base,cap',l',e1,hcap,hv,hol,hold⟩:=hg.rel (P:=g.P) h hxr
 have hsrcW:srcW g.P size tx (.slice (some ⟨j,off2,none⟩) n c2) st.H (fun n2 news2=>n2=n∧news2=news):=by
  unfold srcW;rw [huk];simp only [hj];exact ⟨hle2,⟨trivial,hnews⟩⟩
 obtain ⟨n2,news2,news',⟨rfl,rfl⟩,hnv,hsrc⟩:=srcW_ok h hnr hsrcW
 have hsrc:=hsrc hfl
 have hge:=grownCap_ge w (len+n2) cap' e
 have hrun:=run_append_grow_src (P:=g.P) w t tx o.type e i zv hut hi hzv base len cap' l' (by rw [his];exact hold) (a.eval xx) n2 news' (by rw [his];exact hsrc) hcap (by omega) (growslice_fits hcap (by rw [hiy];exact hby))
 obtain ⟨m,hm⟩:∃m,grownCap w (len+n2) cap' e=len+n2+m:=⟨_,(Nat.add_sub_cancel' hge).symm⟩
 rw [hm,Nat.add_sub_cancel_left] at hrun
 obtain ⟨c',g1,g2,g3,g4⟩:=h.grownX (hv.append (hnv.append (VRels.of_scalars (repZ_scalar (n:=m) hzs)))) e (arr:=(l'++news').toArray++Builtin.zeroCells zv.cells m) (by
  apply Array.ext'
  simp [zeros_list zv z hzs2 m,List.append_assoc]) (len+n2) (len+n2+m)
 refine ⟨_,_,?_,_,_,c',hK m,g4,g3,g1,g2⟩
 have hr2:=hrun
 rw [← e1,show #[a.eval sx,a.eval xx]= #[sx,xx].map a.eval by simp] at hr2
 simp only [execOp,ho,resolve,pure_bind,invoke,builtin]
 exact run_v hr2
theorem OpOk.appendMakeX (hd:∀d,o.dst=some d→d<g.N.n) {t tx e:TypeId} {sx xx:Operand} {kk k2:IntKind} (ho:o.op= .call ⟨.builtin .append,#[sx,xx],#[t,tx]⟩) {n len size y:Nat} {z olds:List Value} {sv:Value}
  (hx:ev st sx=some sv) (hn:ev st xx=some (.int k2 (n:Nat))) (hut:g.P.underlying t=some (.slice e)) (huk:g.P.underlying tx=some (.int kk)) (hs:tS g.P e=some size) (hy:tB g.P e=some y) (hz:tZ g.P e=some z)
  (hg:GrowS st.H size n sv len olds) (hzs:z.all scalar=true) (hpos:0<size) (hn0:0<n) (hby:(len+n)*y≤140737488355328) (h63:len+n≤4611686018427387904)
  (hK:∀m,K (ASt.put ⟨st.env,st.defs,st.H++ [.cells (olds++(repZ n z++repZ m z)) ⟨e,0,true,0,none⟩]⟩ o.dst (.slice (some ⟨st.H.length,0,none⟩) (len+n) (len+n+m)))):OpOk g o st K Kp:=by
 refine .value hd (fun c e=>by rw [ho] at e;cases e) fun c w a hsr=> ?_
 have hxr:=ev_rel hsr hx
 have hnr:=ev_rel hsr hn
 have h:=hsr.heap
 obtain ⟨i,hi,his⟩:=tS_info hs
 have hiy:i.bytes=y:=by unfold tB at hy;rw [hi] at hy;simpa using hy
 have hiz:∃zv,i.zero=some zv∧zv.cells.toList=z:=by
  unfold tZ at hz;rw [hi] at hz;simp at hz
  obtain ⟨zv,h1,h2⟩:=hz
  exact ⟨zv,h1,h2⟩
 obtain ⟨zv,hzv,hzs2⟩:=hiz
 obtain ⟨base,cap',l',e1,hcap,hv,hol,hold⟩:=hg.rel (P:=g.P) h hxr
 have hge:=grownCap_ge w (len+n) cap' e
 have hny:((n:Nat):Int)*(i.bytes:Int)≤281474976710656:=by
  rw [hiy]
  have hle2:n*y≤(len+n)*y:=Nat.mul_le_mul_right y (by omega)
  have h1:((n*y:Nat):Int)≤140737488355328:=by omega
  rw [Int.natCast_mul] at h1
  omega
 have hrun:=run_append_grow_make (P:=g.P) w t tx o.type e kk i zv hut huk hi hzv base len cap' l' (by rw [his];exact hold) k2 n (by rw [his];exact Nat.mul_pos hn0 hpos) hny hcap (by omega) (growslice_fits hcap (by rw [hiy];exact hby))
 obtain ⟨m,hm⟩:∃m,grownCap w (len+n) cap' e=len+n+m:=⟨_,(Nat.add_sub_cancel' hge).symm⟩
 rw [hm,Nat.add_sub_cancel_left] at hrun
 obtain ⟨c',g1,g2,g3,g4⟩:=h.grownX (hv.append ((VRels.of_scalars (repZ_scalar (n:=n) hzs)).append (VRels.of_scalars (repZ_scalar (n:=m) hzs)))) e (arr:=(l'.toArray++Builtin.zeroCells zv.cells n)++Builtin.zeroCells zv.cells m) (by
  apply Array.ext'
  simp [zeros_list zv z hzs2,List.append_assoc]) (len+n) (len+n+m)
 refine ⟨_,_,?_,_,_,c',hK m,g4,g3,g1,g2⟩
 have hr2:=hrun
 generalize hne:a.eval xx=n' at hnr
 cases hnr
 rw [← e1,←hne,show #[a.eval sx,a.eval xx]= #[sx,xx].map a.eval by simp] at hr2
 simp only [execOp,ho,resolve,pure_bind,invoke,builtin]
 exact run_v hr2
end
theorem ARet.overlaps {P:Program} {f:FuncId} {fn:Func} {ps rs:Array TypeId} (hf:P.funcs[f]? =some fn) (hname:(fn.name== "runtime.NumGoroutine")=false) (hb:fn.body.isNone=true) (hn:Extern.findNext fn=none) (he:Extern.find fn=some (Extern.SlicesOverlaps.overlaps ps rs))
  {t e:TypeId} {size:Nat} (hps:ps[0]? =some t) (hu:P.underlying t=some (.slice e)) (hs:tS P e=some size) {H:AHeap} {i off n cap j off2 m cap2:Nat} {cs cs2:List Value} {k k2:CK} (hi:H[i]? =some (.cells cs k)) (hj:H[j]? =some (.cells cs2 k2)) (hij:i≠j)
  (ho:k.own=true) (hz:k.esz=0) (hfz:k.fz=0) (hcs:0<cs.length) (hcs2:0<cs2.length):
  ARet P f [.slice (some ⟨i,off,none⟩) n cap,.slice (some ⟨j,off2,none⟩) m cap2] H (.bool false) H:=by
 intro c w vargs hh hv
 obtain ⟨p,hp,hro⟩:=hh.obj i _ hi rfl
 obtain ⟨q,hq,hrq⟩:=hh.obj j _ hj rfl
 have hpq:p.block≠q.block:=hh.sep i j _ _ p q hij hi hj hp hq ho rfl
 obtain ⟨r1,r2,r3,_,arr,lo,hi',hbk,_,r4,r5⟩:=hro
 obtain ⟨s1,s2,s3,_,arr2,lo2,hi2,hbk2,_,s4,s5⟩:=hrq
 have hnf:∀off,p.base≤off→¬(lo≤off∧off<hi'):=fun off h0=>r5 ho off (by omega) (fun h=>absurd hz h)
 have ha0:arr.size≠0:=by omega
 have hb0:arr2.size≠0:=by omega
 have hpb:p.base≤arr.size:=by omega
 have hnfo:=hnf (p.base+off) (by omega)
 have hnfa:=hnf arr.size hpb
 have key:∀(aa:Addr) (n2 c2:Nat) (bb:Addr) (m2 c3:Nat),(m2=0∨(bb=⟨q.block,q.base+off2,none⟩))→(n2=0∨aa=⟨p.block,p.base+off,none⟩)→
   (Extern.SlicesOverlaps.overlaps ps rs #[.slice (some aa) n2 c2,.slice (some bb) m2 c3]).run P w= .ok (.bool false) w:=by
  intro aa n2 c2 bb m2 c3 h1 h2
  conv=>
   lhs
   arg 2
   whnf
  simp only [hps,Sem.run_bind,run_underlying hu,Result.andThen_ok,run_sizeOf hs]
  by_cases h0:n2=0∨m2=0∨size=0
  ·rw [if_pos h0];rfl
  ·rw [if_neg h0]
   obtain ⟨e1,e2,e3⟩:n2≠0∧m2≠0∧size≠0:=⟨fun h=>h0 (.inl h),fun h=>h0 (.inr (.inl h)),fun h=>h0 (.inr (.inr h))⟩
   have h1:=h1.resolve_left e2
   have h2:=h2.resolve_left e1
   subst h1 h2
   have hfo:w.frozen? ⟨p.block,p.base+off,none⟩=false:=by
    simp only [World.frozen?,hbk];simpa using hnfo
   have hfa:w.frozen? ⟨p.block,arr.size,none⟩=false:=by
    simp only [World.frozen?,hbk];simpa using hnfa
   have hsp:w.shape? p.block=some (k.e,arr.size):=by simp only [World.shape?,hbk]
   have hsq:w.shape? q.block=some (k2.e,arr2.size):=by simp only [World.shape?,hbk2]
   simp [hpq,hfo,noView,viewAt,mayBeOne,stringish,hsp,hsq,hfa,ha0,hb0]
 have hcall:∀args:Array Value,(Extern.SlicesOverlaps.overlaps ps rs args).run P w= .ok (.bool false) w→CallTo P f args w (CPost (fun r H1=>r= .ret (.bool false)∧H1=H) c H w):=by
  intro args hr
  unfold CallTo
  rw [run_callFunc_extern hf hname hb hn he args w,hr]
  exact ⟨.ret (.bool false),c,H,⟨rfl,rfl⟩,.ret (.bool false),hh,.refl _ _ _ _⟩
 cases hv with
 | cons hv1 hv2=>
  cases hv2 with
  | cons hv2 hv3=>
   cases hv3
   apply hcall
   cases hv1 with
   |slice hc=>
    rw [hp] at hc;cases hc
    cases hv2 with
    |slice hd=>rw [hq] at hd;cases hd;exact key _ _ _ _ _ _ (.inr rfl) (.inr rfl)
    |sliceX hd _=>rw [hq] at hd;cases hd;exact key _ _ _ _ _ _ (.inr rfl) (.inr rfl)
    |sliceZ hd=>exact key _ _ _ _ _ _ (.inl rfl) (.inr rfl)
   |sliceX hc _=>
    rw [hp] at hc;cases hc
    cases hv2 with
    |slice hd=>rw [hq] at hd;cases hd;exact key _ _ _ _ _ _ (.inr rfl) (.inr rfl)
    |sliceX hd _=>rw [hq] at hd;cases hd;exact key _ _ _ _ _ _ (.inr rfl) (.inr rfl)
    |sliceZ hd=>exact key _ _ _ _ _ _ (.inl rfl) (.inr rfl)
   | @sliceZ _ _ ad _ hc=>
    cases hv2 with
    |slice hd=>rw [hq] at hd;cases hd;exact key _ _ _ _ _ _ (.inr rfl) (.inl rfl)
    |sliceX hd _=>rw [hq] at hd;cases hd;exact key _ _ _ _ _ _ (.inr rfl) (.inl rfl)
    |sliceZ hd=>exact key _ _ _ _ _ _ (.inl rfl) (.inl rfl)
end Go.Aw

set_option linter.unusedVariables false
set_option linter.unusedSimpArgs false
namespace Go.Aw
open Go.Proofs Go.Shelf Go.ChangeShapes Go.WideShapes Go.ChangeAt Go.RowKit
end Go.Aw
namespace Go.Aw
end Go.Aw
namespace Go.Aw
theorem DName.one {m:Names} {f:FuncId} {i j:Nat} (h:m i=some i):DName m [.call (.func f) [] [.pointer (some ⟨i,j,none⟩)]] [.call (.func f) [] [.pointer (some ⟨i,j,none⟩)]]:=
 .call .nil (.cons (.ptr h) .nil) .nil
end Go.Aw

set_option linter.unusedVariables false
namespace Go.Aw
theorem AC.forget {P:Program} {f:FuncId} {args:List Value} {H:AHeap} {v:Value} (hv:plain v=true) (h:AC P f args H (fun r H2=>r= .ret v∧Frm [] H H2)):ARet P f args H v H:=
 fun c w vargs hh hvs=>(h c w vargs hh hvs).mono fun e w' hp=>by
  obtain ⟨r,c',H',⟨rfl,hf⟩,h2,h3,h4⟩:=hp
  have hspl:∃Y,H'=H++Y:=by
   have hf':Frm [] (H++[]) H':=by rw [List.append_nil];exact hf
   exact Frm.split hf' (fun s hs=>by cases hs)
  obtain ⟨Y,rfl⟩:=hspl
  cases h2 with
  |ret hr=>
   obtain ⟨c2,g1,g2,g3⟩:=WeakV.drop (l:=Y) (n:=H.length) rfl hh.inside (NRel.of_plain hv) c' w' _ h3 hr
   exact ⟨_,c2,H,⟨rfl,rfl⟩,.ret g2,g1,Trans.trans h4 g3⟩
end Go.Aw

set_option linter.unusedVariables false
set_option linter.unusedSimpArgs false
namespace Go.Aw
theorem inv_run {g:Cfg} {Q:AExit→ASt→Prop} {ops:List Oper} (J:List Nat→ASt→Prop)
  (hstep:∀(L:List Nat) (st:ASt) (j:Nat) (o:Oper),j∈enabled ops L→ops[j]? =some o→J L st→wantW ops o st (∃ K:ASt→Prop,opW g o st K (fun v st'=>Q (.panic v) st')∧∀st',K st'→J (j::L) st') (J (j::L) (st.put o.dst noVal)))
  (hdone:∀(L:List Nat) (st:ASt),enabled ops L=[]→J L st→Q .normal st) (hds:dstsOk g.N.n ops=true) (hed:edgesOk ops=true):∀(fuel:Nat) (L:List Nat) (listed:Array Bool) (st:ASt),(∀ i,i<ops.length→(isOn listed i↔i∈L))→Lst ops listed→fuel=left listed listed.size→
  J L st→∀c w a,SRel g.N c st w a→wpAnyIn (fenceOf g.lr) 0 g.P .any ops.toArray (APost g Q c st.H w) fuel listed a w:=by
 have hen:∀(L:List Nat) (listed:Array Bool),(∀ i,i<ops.length→(isOn listed i↔i∈L))→Lst ops listed→∀i∈Region.ready .any ops.toArray listed,i∈enabled ops L:=fun L listed hon hl i hi=>by
  obtain ⟨h1,h2,h3,_⟩:=hl.ready hi
  refine List.mem_filter.2 ⟨List.mem_range.2 h1,?_⟩
  rw [List.getElem?_eq_getElem h1]
  simp only [Bool.and_eq_true,Bool.not_eq_true',List.all_eq_true]
  refine ⟨?_,fun e he=> ?_⟩
  ·have:¬i∈L:=fun h=>h2 ((hon i h1).2 h)
   simpa using this
  ·have hoe:=h3 _ (List.getElem?_eq_getElem h1) e he
   have hlt:e<i:=by
    have:=allLt_spec hed i h1
    rw [List.getElem?_eq_getElem h1] at this
    simpa using List.all_eq_true.1 this e he
   simpa using (hon e (by omega)).1 hoe
 intro fuel
 induction fuel with
 | zero=>
  intro L listed st hon hl hf hJ c w a hs
  have hall:∀i,i<ops.length→isOn listed i:=fun i hi=>by
   rcases Classical.em (isOn listed i) with h'|h'
   ·exact h'
   ·have:=left_set (by rw [hl.size];exact hi) h'
    omega
  have hnil:enabled ops L=[]:=by
   apply List.eq_nil_iff_forall_not_mem.2
   intro i hi
   have h1:=enabled_lt hi
   have h2:=(List.mem_filter.1 hi).2
   have h3:=(hon i h1).1 (hall i h1)
   simp [h3] at h2
  refine ⟨?_,.normal,st,c,hdone L st hnil hJ,.normal,hs,.refl _ _ _ _⟩
  apply List.eq_nil_iff_forall_not_mem.2
  intro i hi
  obtain ⟨h1,h2,_⟩:=hl.ready hi
  exact h2 (hall i h1)
 | succ fuel ih=>
  intro L listed st hon hl hf hJ c w a hs
  refine ⟨fun hnil=> ?_,fun i hi=> ?_⟩
  ·exfalso
   have hall:∀i,i<ops.length→isOn listed i:=fun i hi=>by
    rcases Classical.em (isOn listed i) with h'|h'
    ·exact h'
    ·exact absurd hnil (hl.some_ready' hed hi h')
   have:=left_eq (listed:=listed) (m:=ops.length) (n:=ops.length) (Nat.le_refl _) (fun i hi=>⟨fun _=>hi,fun _=>hall i hi⟩)
   rw [hl.size] at hf
   omega
  ·have hie:=hen L listed hon hl i hi
   obtain ⟨h1,h2,_,_⟩:=hl.ready hi
   have hoat:ops[i]? =some ops[i]:=List.getElem?_eq_getElem h1
   generalize ops[i]=o at hoat
   have hw:=hstep L st i o hie hoat hJ
   have hl':=hl.set hi
   have hon':∀j,j<ops.length→(isOn (listed.setIfInBounds i true) j↔j∈i::L):=fun j hj=>by
    rw [isOn_set (by rw [hl.size];exact h1),hon j hj]
    simp [eq_comm]
   have hfuel:fuel=left (listed.setIfInBounds i true) (listed.setIfInBounds i true).size:=by
    have:=left_set (by rw [hl.size];exact h1) h2
    simp;omega
   have hd1:∀d,o.dst=some d→d<g.N.n:=fun d e=>by
    unfold dstsOk at hds
    rw [List.all_eq_true] at hds
    have:=hds o (List.mem_iff_getElem?.2 ⟨_,hoat⟩)
    rw [e] at this
    simpa using this
   unfold wpOpIn
   have hoa:ops.toArray[i]? =some o:=by simpa using hoat
   simp only [hoa]
   rcases wantW_elim hs hw with ⟨hwn,hr⟩|⟨hwn,hr⟩
   ·rw [if_pos hwn]
    obtain ⟨K,hrK,hKJ⟩:=hr
    refine opW_ok hd1 hrK c w a _ _ hs ?_ ?_
    ·intro st' c' a' w' hK hs' ht _
     replace hK:=hKJ st' hK
     have:=ih (i::L) _ st' hon' hl' hfuel hK c' w' a' hs'
     exact any_tail.wpAny_mono (fun e a2 w2 hp=>hp.back ht) this
    ·intro v v' st' c' a' w' hKp hv hs' ht
     exact ⟨.panic v,st',c',hKp,.panic hv,hs',ht⟩
   ·rw [if_neg (by rw [hwn];simp)]
    refine ⟨about_any g.lr,?_⟩
    have hs':SRel g.N c (st.put o.dst noVal) w (a.put o.dst undef):=hs.put hd1 (.tuple .nil)
    have:=ih (i::L) _ (st.put o.dst noVal) hon' hl' hfuel hr c w _ hs'
    rw [put_H] at this
    exact this
theorem AWP.regionI {g:Cfg} {Q:AExit→ASt→Prop} {st:ASt} {id:Nat} {ops:List Oper} (J:List Nat→ASt→Prop) (hm:g.P.follows .mixedOrders=true) (hok:(dstsOk g.N.n ops&&edgesOk ops)=true) (h0:J [] st)
  (hstep:∀(L:List Nat) (st:ASt) (j:Nat) (o:Oper),j∈enabled ops L→ops[j]? =some o→J L st→wantW ops o st (∃ K:ASt→Prop,opW g o st K (fun v st'=>Q (.panic v) st')∧∀st',K st'→J (j::L) st') (J (j::L) (st.put o.dst noVal)))
  (hdone:∀(L:List Nat) (st:ASt),enabled ops L=[]→J L st→Q .normal st):AWP g (.region id ops.toArray true) Q st:=by
 intro c w a hs
 rw [Bool.and_eq_true] at hok
 obtain ⟨hds,hed⟩:=hok
 refine wpIn_region_any hm ?_
 obtain ⟨hh,ht⟩:=hs.heap.drew g.n0
 have hs':SRel g.N c st w.drew a:=⟨hh,hs.size,hs.tmps,hs.defs.step (n:=g.n0) (Ctx.le_refl c) ht⟩
 have:=inv_run J hstep hdone hds hed ops.length [] (Array.replicate ops.length false) st ?_ ?_ ?_ h0 c w.drew a hs'
 ·have:=any_tail.wpAny_mono (fun e a2 w2 hp=>hp.back ht) this
  simpa using this
 ·intro i hi
  exact ⟨fun h=>absurd h (not_isOn_replicate _ _),fun h=>by cases h⟩
 ·refine ⟨by simp,fun j o ho hj=> ?_⟩
  exact absurd hj (not_isOn_replicate _ _)
 ·have:=left_eq (listed:=Array.replicate ops.length false) (m:=0) (n:=ops.length) (Nat.zero_le _) (fun i hi=>⟨fun h=>absurd h (not_isOn_replicate _ _),fun h=>by omega⟩)
  simpa using this.symm
theorem enabled_spec {ops:List Oper} {L:List Nat} {j:Nat} {o:Oper} (h:j∈enabled ops L) (ho:ops[j]? =some o):j∉L∧∀e∈binding o,e∈L:=by
 have:=(List.mem_filter.1 h).2
 rw [ho] at this
 simp only [Bool.and_eq_true,Bool.not_eq_true',List.all_eq_true] at this
 refine ⟨fun hm=> ?_,fun e he=> ?_⟩
 ·have h1:=this.1
  rw [List.contains_eq_mem,decide_eq_false_iff_not] at h1
  exact h1 hm
 ·have h1:=this.2 e he
  rw [List.contains_eq_mem,decide_eq_true_eq] at h1
  exact h1
theorem enabled_nil {ops:List Oper} (hed:edgesOk ops=true) {L:List Nat} (h:enabled ops L=[]):∀i,i<ops.length→i∈L:=by
 intro i hi
 rcases Classical.em (i∈L) with h'|h'
 ·exact h'
 obtain ⟨k,⟨hk1,hk2⟩,hmin⟩:=least (p:=fun k=>k<ops.length∧¬k∈L) ⟨i,hi,h'⟩
 have:k∈enabled ops L:=by
  refine List.mem_filter.2 ⟨List.mem_range.2 hk1,?_⟩
  rw [List.getElem?_eq_getElem hk1]
  simp only [Bool.and_eq_true,Bool.not_eq_true',List.all_eq_true]
  refine ⟨by rw [List.contains_eq_mem,decide_eq_false_iff_not];exact hk2,fun e he=> ?_⟩
  rw [List.contains_eq_mem,decide_eq_true_eq]
  have hlt:e<k:=by
   have:=allLt_spec hed k hk1
   rw [List.getElem?_eq_getElem hk1] at this
   simpa using List.all_eq_true.1 this e he
  rcases Classical.em (e∈L) with h3|h3
  ·exact h3
  ·have:=hmin e ⟨by omega,h3⟩
   omega
 rw [h] at this
 cases this
def eachW (P:Nat→Oper→Prop):Nat→List Oper→Prop
 |_,[]=>True
 |k,o::r=>P k o∧eachW P (k+1) r
theorem eachW_get {P:Nat→Oper→Prop}:∀(l:List Oper) (k:Nat),eachW P k l→∀(j:Nat) (o:Oper),l[j]? =some o→P (k+j) o
 |[],k,_,j,o,h=>by simp at h
 |x::l,k,h,0,o,ho=>by cases ho;exact h.1
 |x::l,k,h,j+1,o,ho=>by
  have:=eachW_get l (k+1) h.2 j o (by simpa using ho)
  rwa [show k+1+j=k+(j+1) by omega] at this
def RPost (ops:List Oper) (sp:Nat→Option Nat) (B:List (Nat×Value)→AHeap→Prop) (R:Nat→List (Nat×Value)→AHeap→Prop) (j:Nat) (E:List (Nat×Value)) (H:AHeap) (s:ASt):Prop:=
 s.defs=[]∧B s.env s.H∧R j s.env s.H∧∀i oi,ops[i]? =some oi→i≠j→sp i≠some j→j∉binding oi→R i E H→R i s.env s.H
def bfr (ops:List Oper):Nat→Nat→List Nat
 |0,_=>[]
 |f+1,i=>match ops[i]? with
  |some o=>binding o++(binding o).flatMap (bfr ops f)
  |none=>[]
theorem bfr_closed {ops:List Oper} {L:List Nat} (hL:∀i∈L,∀oi,ops[i]? =some oi→∀e∈binding oi,e∈L):∀(f i:Nat),i∈L→∀j∈bfr ops f i,j∈L
 |0,i,hi,j,hj=>by simp [bfr] at hj
 | f+1,i,hi,j,hj=>by
  unfold bfr at hj
  split at hj
  ·rename_i o ho
   rcases List.mem_append.1 hj with h|h
   ·exact hL i hi o ho j h
   ·obtain ⟨e,he,h⟩:=List.mem_flatMap.1 h
    exact bfr_closed hL f e (hL i hi o ho e he) j h
  ·cases hj
def UPost (ops:List Oper) (f:Nat) (sp:Nat→Option Nat) (B:List (Nat×Value)→AHeap→Prop) (R U:Nat→List (Nat×Value)→AHeap→Prop) (j:Nat) (E:List (Nat×Value)) (H:AHeap) (s:ASt):Prop:=
 s.defs=[]∧B s.env s.H∧R j s.env s.H∧ (∀ i,i<ops.length→i≠j→sp i≠some j→j∉bfr ops f i→R i E H→R i s.env s.H)∧∀i,i<ops.length→i≠j→U i E H→U i s.env s.H
theorem AWP.regionU {g:Cfg} {Q:AExit→ASt→Prop} {env:List (Nat×Value)} {H:AHeap} {id:Nat} {ops:List Oper} (f:Nat) (sp:Nat→Option Nat) (B:List (Nat×Value)→AHeap→Prop) (R U:Nat→List (Nat×Value)→AHeap→Prop)
  (hm:g.P.follows .mixedOrders=true) (hok:(dstsOk g.N.n ops&&edgesOk ops)=true) (hng:ops.all (fun o=>o.guard.isNone)=true) (h0:B env H) (hU:∀i,i<ops.length→U i env H)
  (hstep:eachW (fun j o=>∀E H,B E H→ (∀ e∈bfr ops f j,sp e=none∨sp e=some j→R e E H)→ (∀ i,i<ops.length→i=j∨j∈bfr ops f i→U i E H)→
   opW g o ⟨E,[],H⟩ (UPost ops f sp B R U j E H) (fun v s=>Q (.panic v) s)) 0 ops)
  (hdone:∀E H,B E H→ (∀ i,i<ops.length→sp i=none→R i E H)→Q .normal ⟨E,[],H⟩):AWP g (.region id ops.toArray true) Q ⟨env,[],H⟩:=by
 refine AWP.regionI (fun L st=>st.defs=[]∧B st.env st.H∧ (∀ i∈L,(∃ oi,ops[i]? =some oi∧∀e∈binding oi,e∈L)∧((∃ j∈L,sp i=some j)∨R i st.env st.H))∧∀i,i<ops.length→i∉L→U i st.env st.H) hm hok ⟨rfl,h0,(fun i hi=>by cases hi),fun i hi _=>hU i hi⟩ ?_ ?_
 ·rintro L ⟨E,ds,H1⟩ j o hj ho ⟨rfl,hB,hL,hUL⟩
  dsimp only at hB hL hUL
  obtain ⟨hjL,hbd⟩:=enabled_spec hj ho
  have hjl:=enabled_lt hj
  have hclosed:∀i∈L,∀oi,ops[i]? =some oi→∀e∈binding oi,e∈L:=fun i hi oi hoi e he=>by
   obtain ⟨o',ho',h⟩:=(hL i hi).1
   rw [hoi] at ho'
   cases ho'
   exact h e he
  have hg:o.guard=none:=by
   have:=List.all_eq_true.1 hng o (List.mem_of_getElem? ho)
   simpa using this
  have hanc:∀e∈bfr ops f j,e∈L:=fun e he=>by
   cases f with
   |zero=>simp [bfr] at he
   | succ f=>
    unfold bfr at he
    rw [ho] at he
    rcases List.mem_append.1 he with h|h
    ·exact hbd e h
    ·obtain ⟨x,hx,h⟩:=List.mem_flatMap.1 h
     exact bfr_closed hclosed f x (hbd x hx) e h
  have hs:=eachW_get ops 0 hstep j o ho
  rw [Nat.zero_add] at hs
  have hw:=hs E H1 hB (fun e he hse=>by
   have:=hL e (hanc e he)
   rcases this.2 with ⟨j',hj',hsp⟩|h
   ·rcases hse with h|h
    ·rw [h] at hsp;cases hsp
    ·rw [h] at hsp
     cases hsp
     exact absurd hj' hjL
   ·exact h) (fun i hi hij=>hUL i hi fun hm=>by
    rcases hij with rfl|h
    ·exact hjL hm
    ·exact hjL (bfr_closed hclosed f i hm j h))
  unfold wantW
  rw [hg]
  refine ⟨_,hw,?_⟩
  rintro s ⟨h1,h2,h3,h4,h5⟩
  refine ⟨h1,h2,fun i hi=> ?_,fun i hi hn=>h5 i hi (fun e=>hn (e ▸ List.mem_cons_self ..)) (hUL i hi (fun h=>hn (List.mem_cons_of_mem _ h)))⟩
  rcases List.mem_cons.1 hi with rfl|hi
  ·exact ⟨⟨o,ho,fun e he=>List.mem_cons_of_mem _ (hbd e he)⟩,.inr h3⟩
  ·have hiL:=hL i hi
   obtain ⟨oi,hoi,hib⟩:=hiL.1
   refine ⟨⟨oi,hoi,fun e he=>List.mem_cons_of_mem _ (hib e he)⟩,?_⟩
   have hij:i≠j:=fun e=>hjL (e ▸ hi)
   have hil:i<ops.length:=(List.getElem?_eq_some_iff.1 hoi).1
   by_cases hsp:sp i=some j
   ·exact .inl ⟨j,List.mem_cons_self ..,hsp⟩
   ·rcases hiL.2 with ⟨j',hj',h⟩|h
    ·exact .inl ⟨j',List.mem_cons_of_mem _ hj',h⟩
    ·exact .inr (h4 i hil hij hsp (fun h=>hjL (bfr_closed hclosed f i hi j h)) h)
 ·rintro L ⟨E,ds,H1⟩ hnil ⟨rfl,hB,hL,_⟩
  rw [Bool.and_eq_true] at hok
  refine hdone E H1 hB fun i hi hsp=> ?_
  rcases (hL i (enabled_nil hok.2 hnil i hi)).2 with ⟨j',_,h⟩|h
  ·rw [hsp] at h;cases h
  ·exact h
theorem lk_self {d:Nat} {v:Value} {E:List (Nat×Value)}:lk d ((d,v)::E)=some v:=by rw [lk_cons,if_pos rfl]
theorem lk_other {d t:Nat} {v:Value} {E:List (Nat×Value)} (h:t≠d):lk t ((d,v)::E)=lk t E:=by
 rw [lk_cons,if_neg (fun e=>h e.symm)]
def RV (tm:Nat→Nat) (Q:Nat→Value→AHeap→Prop) (i:Nat) (E:List (Nat×Value)) (H:AHeap):Prop:=∃v,lk (tm i) E=some v∧Q i v H
def BL (l:List (Nat×Value)) (S:List Nat) (Hc:AHeap) (E:List (Nat×Value)) (H:AHeap):Prop:= (∀ t v,(t,v)∈l→lk t E=some v)∧Frm S Hc H
theorem BL.of {l:List (Nat×Value)} {S:List Nat} {Hc:AHeap} {E:List (Nat×Value)} {H:AHeap} (h:envIn E (fun v u=>u=v) l) (hf:Frm S Hc H):BL l S Hc E H:=by
 refine ⟨?_,hf⟩
 induction l with
 |nil=>intro t v h;cases h
 | cons x l ih=>
  obtain ⟨y,u⟩:=x
  unfold envIn at h
  intro t v hm
  rcases List.mem_cons.1 hm with e|hm
  ·cases e
   have h1:=h.1
   cases hl:lk y E with
   |none=>rw [hl] at h1;exact h1.elim
   |some v2=>rw [hl] at h1;exact congrArg some h1
  ·exact ih h.2 t v hm
def tmOk (ops:List Oper) (f:Nat) (sp:Nat→Option Nat) (tm:Nat→Nat) (j:Nat):Bool:=(List.range ops.length).all fun i=>i==j||tm i != tm j||(bfr ops f i).contains j||sp i==some j
theorem UPost.put {ops:List Oper} {f:Nat} {sp:Nat→Option Nat} {l:List (Nat×Value)} {S:List Nat} {Hc:AHeap} {tm:Nat→Nat} {Q:Nat→Value→AHeap→Prop} {U:Nat→List (Nat×Value)→AHeap→Prop} {j:Nat} {E:List (Nat×Value)} {H H2:AHeap} {v:Value}
  (htm:tmOk ops f sp tm j=true) (hB:BL l S Hc E H) (hl:l.all (fun x=>x.1 != tm j)=true) (hf:Frm S Hc H2) (hQ:Q j v H2)
  (hst:∀i w,i<ops.length→i≠j→sp i≠some j→j∉bfr ops f i→Q i w H→Q i w H2) (hU:∀i,i<ops.length→i≠j→U i E H→U i ((tm j,v)::E) H2):
  UPost ops f sp (BL l S Hc) (RV tm Q) U j E H ⟨(tm j,v)::E,[],H2⟩:=by
 refine ⟨rfl,⟨fun t u hm=> ?_,hf⟩,⟨v,lk_self,hQ⟩,fun i hi hij hsp hbf h=> ?_,hU⟩
 ·have:=List.all_eq_true.1 hl _ hm
  rw [lk_other (by simpa using this)]
  exact hB.1 t u hm
 ·obtain ⟨w,h1,h2⟩:=h
  have:=List.all_eq_true.1 htm i (List.mem_range.2 hi)
  simp only [Bool.or_eq_true,beq_iff_eq,bne_iff_ne,ne_eq,List.contains_eq_mem,decide_eq_true_eq] at this
  rcases this with ((h|h)|h)|h
  ·exact absurd h hij
  ·exact ⟨w,by rw [lk_other h];exact h1,hst i w hi hij hsp hbf h2⟩
  ·exact absurd h hbf
  ·exact absurd h hsp
theorem UPost.more {ops:List Oper} {f:Nat} {sp:Nat→Option Nat} {l:List (Nat×Value)} {S:List Nat} {Hc:AHeap} {tm:Nat→Nat} {Q:Nat→Value→AHeap→Prop} {j:Nat} {E:List (Nat×Value)} {H H2:AHeap} {v:Value}
  (hQs:∀i w H H2,Q i w H→Frm [] H H2→Q i w H2) (htm:tmOk ops f sp tm j=true) (hB:BL l S Hc E H) (hl:l.all (fun x=>x.1 != tm j)=true) (hf:Frm [] H H2) (hQ:Q j v H2):
  UPost ops f sp (BL l S Hc) (RV tm Q) (fun _ _ _=>True) j E H ⟨(tm j,v)::E,[],H2⟩:=
 .put htm hB hl (Frm.trans hB.2 hf (fun x hx=>by cases hx)) hQ (fun i w _ _ _ _ h=>hQs i w _ _ h hf) (fun _ _ _ _=>trivial)
theorem UPost.none {ops:List Oper} {f:Nat} {sp:Nat→Option Nat} {l:List (Nat×Value)} {S:List Nat} {Hc:AHeap} {tm:Nat→Nat} {Q:Nat→Value→AHeap→Prop} {U:Nat→List (Nat×Value)→AHeap→Prop} {j:Nat} {E:List (Nat×Value)} {H H2:AHeap}
  (hB:BL l S Hc E H) (hf:Frm S Hc H2) (hQ:RV tm Q j E H2) (hst:∀i w,i<ops.length→i≠j→sp i≠some j→j∉bfr ops f i→Q i w H→Q i w H2) (hU:∀i,i<ops.length→i≠j→U i E H→U i E H2):
  UPost ops f sp (BL l S Hc) (RV tm Q) U j E H ⟨E,[],H2⟩:=by
 refine ⟨rfl,⟨hB.1,hf⟩,hQ,fun i hi hij hsp hbf h=> ?_,hU⟩
 obtain ⟨w,h1,h2⟩:=h
 exact ⟨w,h1,hst i w hi hij hsp hbf h2⟩
end Go.Aw

set_option linter.unusedVariables false
set_option linter.unusedSimpArgs false
namespace Go.Aw
open Go.RowKit Go.ChangeShapes Go.WideShapes Go.ChangeAt
inductive FK where
 |i (k:IntKind)
 |s
 |b
def FK.fits (bnd:Nat):FK→Value→Prop
 | .i k,v=>∃z,v= .int k z∧(Lit.int k z).wf=true
 | .s,v=>∃s:List UInt8,v= .string (bs s)∧s.length≤bnd
 | .b,v=>∃c:Bool,v= .bool c
inductive Fits (bnd:Nat):List FK→List Value→Prop
 |nil:Fits bnd [] []
 |cons {k:FK} {v:Value} {ks:List FK} {vs:List Value}:k.fits bnd v→Fits bnd ks vs→Fits bnd (k::ks) (v::vs)
theorem Fits.append {bnd:Nat}:∀{ks:List FK} {vs:List Value} {ks':List FK} {vs':List Value},Fits bnd ks vs→Fits bnd ks' vs'→Fits bnd (ks++ks') (vs++vs')
 |_,_,_,_,.nil,h=>h
 |_,_,_,_,.cons a b,h=> .cons a (Fits.append b h)
theorem Fits.len {bnd:Nat}:∀{ks:List FK} {vs:List Value},Fits bnd ks vs→vs.length=ks.length
 |_,_,.nil=>rfl
 |_,_,.cons a b=>by simp [Fits.len b]
theorem FK.fits_scalar {bnd:Nat} {k:FK} {v:Value} (h:k.fits bnd v):scalar v=true:=by
 cases k<;> (unfold FK.fits at h;obtain ⟨_,h⟩:=h;first|(obtain ⟨rfl,_⟩:=h;rfl)|(subst h;rfl))
theorem Fits.scalar {bnd:Nat}:∀{ks:List FK} {vs:List Value},Fits bnd ks vs→vs.all Go.Aw.scalar=true
 |_,_,.nil=>rfl
 |_,_,.cons a b=>by rw [List.all_cons,FK.fits_scalar a,Fits.scalar b];rfl
end Go.Aw
