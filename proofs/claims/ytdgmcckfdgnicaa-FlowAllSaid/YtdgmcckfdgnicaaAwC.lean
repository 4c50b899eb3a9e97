/-
  The abstract memory and the walk of code over it, part 3.
-/
import Derived.Test.YtdgmcckfdgnicaaAwB
set_option linter.unusedVariables false
set_option linter.unusedSimpArgs false
namespace Go.Aw
structure MidS (g:Cfg) (ops:List Oper) (known:List (Nat×Value)) (ds:List ADef) (H:AHeap) (L:List Nat) (c:Ctx) (w:World) (a:Act):Prop where
  heap:HRel c H w
  size:a.tmps.size=g.N.n
  tmps:∀t v,lk t known=some v→ (∀ j o,ops[j]? =some o→o.dst=some t→j∈L)→∃v',a.tmps[t]? =some v'∧VRel c v v'
  defs:DRel g.N.B c H w ds a.defers
def stepS (g:Cfg) (ops:List Oper) (o:Oper) (known:List (Nat×Value)) (ds:List ADef) (H H2:AHeap):Prop:=
  wantW ops o (ASt.only ops o ⟨known,ds,H⟩) (opW g o (ASt.only ops o ⟨known,ds,H⟩) (fun s=>(s.H=H2∧s.defs=ds)∧∀d,o.dst=some d→∀v,lk d known=some v→lk d s.env=some v) (fun _ _=>False))
    (H2=H∧∀d,o.dst=some d→∀v,lk d known=some v→v=noVal)
def runB (F:Nat→Prop):Nat→Nat→Prop
  |a,0=>F a
  |a,n+1=>F a∧runB F (a+1) n
theorem runB_get {F:Nat→Prop}:∀{n a:Nat},runB F a n→∀k,a≤k→k≤a+n→F k
  | 0, a, h, k, h1, h2 => by have:k=a:=by omega
                             subst this;exact h
  | n+1,a,h,k,h1,h2=>by
    by_cases e:k=a
    · subst e;exact h.1
    · exact runB_get h.2 k (by omega) (by omega)
def eachB (P:Nat→Oper→Nat→Prop):Nat→List Oper→List (Nat×Nat)→Prop
  |_,[],_=>True
  |_,_::_,[]=>False
  |k,o::r,b::bs=>runB (P k o) b.1 b.2∧eachB P (k+1) r bs
theorem eachB_get {P:Nat→Oper→Nat→Prop}:∀(l:List Oper) (bs:List (Nat×Nat)) (k:Nat),eachB P k l bs→∀(j:Nat) (o:Oper),l[j]? =some o→∃b,bs[j]? =some b∧∀q,b.1≤q→q≤b.1+b.2→P (k+j) o q
  |[],_,k,_,j,o,h=>by simp at h
  |x::l,[],k,h,j,o,ho=>h.elim
  |x::l,b::bs,k,h,0,o,ho=>by cases ho;exact ⟨b,rfl,fun q h1 h2=>runB_get h.1 q h1 h2⟩
  | x::l,b::bs,k,h,j+1,o,ho=>by
    obtain ⟨b',h1,h2⟩:=eachB_get l bs (k+1) h.2 j o (by simpa using ho)
    refine ⟨b',by simpa using h1,fun q h3 h4=> ?_⟩
    rw [show k+(j+1)=k+1+j by omega]
    exact h2 q h3 h4
def cntS (eff L:List Nat):Nat:=eff.countP fun i=>L.contains i
def bdOk (ops:List Oper) (eff:List Nat) (bd:List (Nat×Nat)):Bool:=
  let an:=ancs ops []
  allLt ops.length fun j=>match bd[j]? with
    |some b=>decide (b.1≤eff.countP fun i=>(an.getD j []).contains i)&&decide ((eff.countP fun i=>i != j&& !(an.getD i []).contains j)≤b.1+b.2)
    |none=>false
def nodupB:List Nat→Bool
  |[]=>true
  |x::l=> !l.contains x&&nodupB l
theorem cntS_cons {L:List Nat} {j:Nat} (hj:j∉L):∀{eff:List Nat},nodupB eff=true→cntS eff (j::L)=if eff.contains j then cntS eff L+1 else cntS eff L
  |[],_=>rfl
  | x ::l,h=>by
    unfold nodupB at h
    rw [Bool.and_eq_true] at h
    have ih:=cntS_cons (L:=L) hj h.2
    unfold cntS at ih ⊢
    rw [List.countP_cons,List.countP_cons,ih]
    by_cases e:x=j
    · subst e
      have hx:x∉l:=by simpa using h.1
      simp [hx,hj]
    · have e1:(j::L).contains x=L.contains x:=by simp [List.contains_cons,e]
      have e2:(x::l).contains j=l.contains j:=by
        rw [List.contains_cons,show (j==x)=false from beq_eq_false_iff_ne.2 fun h=>e h.symm,Bool.false_or]
      rw [e1,e2]
      split<;> omega
theorem inv_S {g:Cfg} {Q:AExit→ASt→Prop} {ops:List Oper} {known:List (Nat×Value)} {ds:List ADef} {eff:List Nat} {bd:List (Nat×Nat)} (hp:Nat→AHeap) (hok:AnyOk g.N.n ops ops.length) (hnd:nodupB eff=true) (hbd:bdOk ops eff bd=true) (hel:∀i∈eff,i<ops.length) (hed:edgesOk ops=true)
    (hstep:eachB (fun j o k=>stepS g ops o known ds (hp k) (hp (if eff.contains j then k+1 else k))) 0 ops bd)
    (hdone:Q .normal ⟨known,ds,hp eff.length⟩):∀(fuel:Nat) (L:List Nat) (listed:Array Bool),(∀ i,i<ops.length→(isOn listed i↔i∈L))→Lst ops listed→fuel=left listed listed.size→
    ∀c w a,MidS g ops known ds (hp (cntS eff L)) L c w a→wpAnyIn (fenceOf g.lr) 0 g.P .any ops.toArray (APost g Q c (hp (cntS eff L)) w) fuel listed a w:=by
  have hfin:∀(L:List Nat) c w a,(∀ i,i<ops.length→i∈L)→MidS g ops known ds (hp (cntS eff L)) L c w a→APost g Q c (hp (cntS eff L)) w .normal a w:=fun L c w a hall hm=>by
    have hc:cntS eff L=eff.length:=by
      unfold cntS
      rw [List.countP_eq_length]
      intro i hi
      simpa using hall i (hel i hi)
    rw [hc] at hm ⊢
    exact ⟨.normal,_,c,hdone,.normal,⟨hm.heap,hm.size,fun t v e=>hm.tmps t v e fun j o ho _=>hall j (List.getElem?_eq_some_iff.1 ho).1,hm.defs⟩,.refl _ _ _ _⟩
  intro fuel
  induction fuel with
  | zero=>
    intro L listed hon hl hf c w a hm
    have hall:∀i,i<ops.length→isOn listed i:=fun i hi=>by
      rcases Classical.em (isOn listed i) with h'|h'
      · exact h'
      · have:=left_set (by rw [hl.size];exact hi) h'
        omega
    refine ⟨?_,hfin L c w a (fun i hi=>(hon i hi).1 (hall i hi)) hm⟩
    apply List.eq_nil_iff_forall_not_mem.2
    intro i hi
    obtain ⟨h1,h2,_⟩:=hl.ready hi
    exact h2 (hall i h1)
  | succ fuel ih=>
    intro L listed hon hl hf c w a hm
    refine ⟨fun hnil=> ?_,fun i hi=> ?_⟩
    · exfalso
      have hall:∀i,i<ops.length→isOn listed i:=fun i hi=>by
        rcases Classical.em (isOn listed i) with h'|h'
        · exact h'
        · exact absurd hnil (hl.some_ready' hed hi h')
      have:=left_eq (listed:=listed) (m:=ops.length) (n:=ops.length) (Nat.le_refl _) (fun i hi=>⟨fun _=>hi,fun _=>hall i hi⟩)
      rw [hl.size] at hf
      omega
    · obtain ⟨h1,h2,h3,_⟩:=hl.ready hi
      have hoat:ops[i]? =some ops[i]:=List.getElem?_eq_getElem h1
      generalize ops[i]=o at hoat
      have hiL:i∉L:=fun h=>h2 ((hon i h1).2 h)
      have hcl:∀(j:Nat) o',ops[j]? =some o'→isOn listed j→∀e∈binding o',isOn listed e:=hl.closed
      have hanc:∀x∈(ancs ops []).getD i [],x∈L:=fun x hx=>by
        have hlt:=anc_lt hok i x hx
        refine (hon x (by omega)).1 (ancs_ok (ops:=ops) (listed:=isOn listed) hcl [] rfl rfl (fun j' _ hlt=>by simp at hlt) i (fun o' ho' e he=> ?_) h1 x hx)
        exact h3 o' ho' e he
      have hancL:∀j∈L,j<ops.length→∀x∈(ancs ops []).getD j [],x∈L:=fun j hj hjl x hx=>by
        have hlt:=anc_lt hok j x hx
        exact (hon x (by omega)).1 (ancs_ok (ops:=ops) (listed:=isOn listed) hcl [] rfl rfl (fun j' _ hlt=>by simp at hlt) j (fun o' ho' e he=>hcl j o' ho' ((hon j hjl).2 hj) e he) hjl x hx)
      obtain ⟨b,hb,hs⟩:=eachB_get ops bd 0 hstep i o hoat
      rw [Nat.zero_add] at hs
      have hbd':=allLt_spec hbd i h1
      simp only [hb,Bool.and_eq_true,decide_eq_true_eq] at hbd'
      have hk1:b.1≤cntS eff L:=Nat.le_trans hbd'.1 (List.countP_mono_left fun x hx hc=>by
        have:=hanc x (by simpa using hc)
        simpa using this)
      have hk2:cntS eff L≤b.1+b.2:=Nat.le_trans (List.countP_mono_left fun x hx hc=>by
        have hxL:x∈L:=by simpa using hc
        have hne:x≠i:=fun e=>hiL (e ▸ hxL)
        have hnc:i∉(ancs ops []).getD x []:=fun h=>hiL (hancL x hxL (hel x hx) i h)
        simp only [Bool.and_eq_true,bne_iff_ne,ne_eq,Bool.not_eq_true']
        exact ⟨hne,by simpa using hnc⟩) hbd'.2
      have hw:=hs _ hk1 hk2
      have hcc:=cntS_cons hiL hnd
      rw [← hcc] at hw
      have hl':=hl.set hi
      have hon':∀j,j<ops.length→(isOn (listed.setIfInBounds i true) j↔j∈i::L):=fun j hj=>by
        rw [isOn_set (by rw [hl.size];exact h1),hon j hj]
        simp [eq_comm]
      have hfuel:fuel=left (listed.setIfInBounds i true) (listed.setIfInBounds i true).size:=by
        have:=left_set (by rw [hl.size];exact h1) h2
        simp;omega
      have hd1:∀d,o.dst=some d→d<g.N.n:=fun d e=>by
        have:=hok.dsts
        unfold dstsOk at this
        rw [List.all_eq_true] at this
        have:=this o (List.mem_iff_getElem?.2 ⟨_,hoat⟩)
        rw [e] at this
        simpa using this
      have hs1:SRel g.N c (ASt.only ops o ⟨known,ds,hp (cntS eff L)⟩) w a:=by
        refine ⟨hm.heap,hm.size,fun t x e=> ?_,hm.defs⟩
        obtain ⟨e1,e2⟩:=lk_restrict e
        exact hm.tmps t x e2 fun j p hp hd=>hanc j (hok.reads i j o p t h1 (List.getElem?_eq_some_iff.1 hp).1 hoat hp hd e1)
      have hmid:∀(c':Ctx) (a':Act) (w':World) (u:Value),c.le c'→HRel c' (hp (cntS eff (i::L))) w'→DRel g.N.B c' (hp (cntS eff (i::L))) w' ds a'.defers→a'.tmps=(a.put o.dst u).tmps→ (∀ d,o.dst=some d→∀v,lk d known=some v→VRel c' v u)→MidS g ops known ds (hp (cntS eff (i::L))) (i::L) c' w' a':=by
        intro c' a' w' u hle hh hdf ht hu
        refine ⟨hh,?_,?_,hdf⟩
        · rw [ht,←hm.size];cases o.dst<;> simp [Act.put]
        · intro t x e hx
          by_cases hdt:o.dst=some t
          · refine ⟨u,?_,hu t hdt x e⟩
            rw [ht,hdt]
            simp [Act.put,hm.size,hd1 t hdt]
          · obtain ⟨x',k1,k2⟩:=hm.tmps t x e (fun j o' ho' hd'=>by
              rcases List.mem_cons.1 (hx j o' ho' hd') with rfl|h'
              · rw [hoat] at ho';cases ho';exact absurd hd' hdt
              · exact h')
            refine ⟨x',?_,k2.mono hle⟩
            rw [ht]
            cases hd:o.dst with
            |none=>simpa [Act.put] using k1
            | some d=>
              have hne:d≠t:=fun e=>hdt (by rw [hd,e])
              simp [Act.put,hne,k1]
      unfold wpOpIn
      have hoa:ops.toArray[i]? =some o:=by simpa using hoat
      simp only [hoa]
      unfold stepS at hw
      rcases wantW_elim hs1 hw with ⟨hwn,hr⟩|⟨hwn,hr⟩
      · rw [if_pos hwn]
        refine opW_ok hd1 hr c w a _ _ hs1 ?_ ?_
        · rintro st' c' a' w' ⟨⟨hKH,hKd⟩,hK⟩ hs' ht ⟨hle,u,hu⟩
          have hh:=hs'.heap
          have hdf:=hs'.defs
          rw [hKH] at hh hdf
          rw [hKd] at hdf
          rw [hKH] at ht
          have:=ih (i::L) _ hon' hl' hfuel c' w' a' (hmid c' a' w' u hle hh hdf hu fun d hd v hv=>by
            obtain ⟨v',k1,k2⟩:=hs'.tmps d v (hK d hd v hv)
            rw [hu,hd] at k1
            have hlt:d<a.tmps.size:=by rw [hm.size];exact hd1 d hd
            simp [Act.put,hlt] at k1
            rw [k1];exact k2)
          exact any_tail.wpAny_mono (fun e a2 w2 hp=>hp.back ht) this
        · intro v v' st' c' a' w' hKp
          exact hKp.elim
      · rw [if_neg (by rw [hwn];simp)]
        refine ⟨about_any g.lr,?_⟩
        have hh:=hm.heap
        have hdf:=hm.defs
        rw [← hr.1] at hh hdf
        have:=ih (i::L) _ hon' hl' hfuel c w (a.put o.dst undef) (hmid c _ w undef (Ctx.le_refl c) hh (by
          have:(a.put o.dst undef).defers=a.defers:=by cases o.dst<;> rfl
          rw [this];exact hdf) rfl fun d hd v hv=>by
          rw [hr.2 d hd v hv];exact .tuple .nil)
        rw [hr.1] at this
        exact this
theorem AWP.regionS {g:Cfg} {Q:AExit→ASt→Prop} {env:List (Nat×Value)} {ds:List ADef} {H:AHeap} {id:Nat} {ops:List Oper} (eff:List Nat) (bd:List (Nat×Nat)) (hp:Nat→AHeap) (known:List (Nat×Value)) (hm:g.P.follows .mixedOrders=true)
    (hok:anyOk g.N.n ops ops.length=true) (hch:(nodupB eff&&bdOk ops eff bd&&eff.all (fun i=>decide (i<ops.length))&&edgesOk ops)=true) (h0:hp 0=H)
    (hb:∀t v,lk t known=some v→ (∀ o∈ops,o.dst≠some t)→lk t env=some v)
    (hstep:eachB (fun j o k=>stepS g ops o known ds (hp k) (hp (if eff.contains j then k+1 else k))) 0 ops bd)
    (hdone:Q .normal ⟨known,ds,hp eff.length⟩):AWP g (.region id ops.toArray true) Q ⟨env,ds,H⟩:=by
  intro c w a hs
  simp only [Bool.and_eq_true] at hch
  obtain ⟨⟨⟨hnd,hbd⟩,hel⟩,hed⟩:=hch
  refine wpIn_region_any hm ?_
  obtain ⟨hh,ht⟩:=hs.heap.drew g.n0
  have hc0:cntS eff []=0:=by unfold cntS;rw [List.countP_eq_zero];intro i _;simp
  have:=inv_S (g:=g) (Q:=Q) (known:=known) (ds:=ds) (bd:=bd) hp (AnyOk.of hok) hnd hbd (fun i hi=>by simpa using List.all_eq_true.1 hel i hi) hed hstep hdone ops.length [] (Array.replicate ops.length false) ?_ ?_ ?_ c w.drew a ?_
  · rw [hc0,h0] at this
    have:=any_tail.wpAny_mono (fun e a2 w2 hp=>hp.back ht) this
    simpa using this
  · intro i hi
    exact ⟨fun h=>absurd h (not_isOn_replicate _ _),fun h=>by cases h⟩
  · refine ⟨by simp,fun j o ho hj=> ?_⟩
    exact absurd hj (not_isOn_replicate _ _)
  · have:=left_eq (listed:=Array.replicate ops.length false) (m:=0) (n:=ops.length) (Nat.zero_le _) (fun i hi=>⟨fun h=>absurd h (not_isOn_replicate _ _),fun h=>by omega⟩)
    simpa using this.symm
  · rw [hc0,h0]
    exact ⟨hh,hs.size,fun t v e hx=>hs.tmps t v (hb t v e fun o ho hd=>by
      obtain ⟨j,hj⟩:=List.getElem?_of_mem ho
      have:=hx j o hj hd
      cases this),hs.defs.step (n:=g.n0) (Ctx.le_refl c) ht⟩
theorem lk_vals {t:Nat} {v:Value}:∀{vals env:List (Nat×Value)},lk t (vals++env)=some v→t∉vals.map (·.1)→lk t env=some v
  |[],_,h,_=>h
  | (k,u)::l,env,h,hn=>by
    rw [List.cons_append,lk_cons] at h
    rw [List.map_cons,List.mem_cons,not_or] at hn
    rw [if_neg (fun e=>hn.1 e.symm)] at h
    exact lk_vals h hn.2
def hpL (l:List AHeap) (k:Nat):AHeap:=l.getD k []
attribute [go_sem] hpL List.getD_cons_zero List.getD_cons_succ
theorem AWP.regionX {g:Cfg} {Q:AExit→ASt→Prop} {env:List (Nat×Value)} {ds:List ADef} {H:AHeap} {id:Nat} {ops:List Oper} (eff:List Nat) (bd:List (Nat×Nat)) (ts:List Nat) (hs:List AHeap) (vals:List (Nat×Value)) (hm:g.P.follows .mixedOrders=true)
    (hok:anyOk g.N.n ops ops.length=true) (hch:(nodupB eff&&bdOk ops eff bd&&eff.all (fun i=>decide (i<ops.length))&&edgesOk ops)=true) (hts:ts.all (fun t=>ops.any fun o=>o.dst==some t)=true) (hv:vals.map (·.1)=ts)
    (hstep:eachB (fun j o k=>stepS g ops o (vals++env) ds (hpL (H::hs) k) (hpL (H::hs) (if eff.contains j then k+1 else k))) 0 ops bd)
    (hdone:Q .normal ⟨vals++env,ds,hpL (H::hs) eff.length⟩):AWP g (.region id ops.toArray true) Q ⟨env,ds,H⟩:=
  AWP.regionS eff bd (hpL (H::hs)) (vals++env) hm hok hch rfl (fun t v h hn=>lk_vals h fun hm=>by
    rw [hv] at hm
    have:=List.all_eq_true.1 hts t hm
    rw [List.any_eq_true] at this
    obtain ⟨o,ho,h⟩:=this
    exact hn o ho (by simpa using h)) hstep hdone
theorem kx0 {P Q:Prop} (k:Q) (z:Q→P:=by intro k;(fail_if_success with_reducible exact trivial);refine kwp ?_ ?_;(focus (first|with_reducible refine kc ?_|((with_reducible first|refine kr ?_ ?_|refine kt ?_ ?_);exact rfl)|((with_reducible refine kf ?_ ?_);exact rfl)|simp only [go_sem,sevalprocAttr,reduceCtorEq,stepS,hpL,List.getD_cons_zero,List.getD_cons_succ,List.contains_cons,List.contains_nil,and_imp,forall_eq,implies_true,List.map_cons,List.map_nil]|simp (disch:=omega) only [wz]));exact k;all_goals trivial):P:=z k
theorem kx1 {A1 P Q:Prop} (a:A1) (k:Q) (z:A1→Q→P:=by intro a k;(fail_if_success with_reducible exact trivial);refine kwp ?_ ?_;(focus (first|with_reducible refine kc ?_|((with_reducible first|refine kr ?_ ?_|refine kt ?_ ?_);exact rfl)|((with_reducible refine kf ?_ ?_);exact rfl)|simp only [go_sem,sevalprocAttr,reduceCtorEq,a,stepS,hpL,List.getD_cons_zero,List.getD_cons_succ,List.contains_cons,List.contains_nil,and_imp,forall_eq,implies_true,List.map_cons,List.map_nil]|simp (disch:=omega) only [wz]));exact k;all_goals trivial):P:=z a k
theorem kx2 {A1 B1 P Q:Prop} (a:A1) (b:B1) (k:Q) (z:A1→B1→Q→P:=by intro a b k;(fail_if_success with_reducible exact trivial);refine kwp ?_ ?_;(focus (first|with_reducible refine kc ?_|((with_reducible first|refine kr ?_ ?_|refine kt ?_ ?_);exact rfl)|((with_reducible refine kf ?_ ?_);exact rfl)|simp only [go_sem,sevalprocAttr,reduceCtorEq,a,b,stepS,hpL,List.getD_cons_zero,List.getD_cons_succ,List.contains_cons,List.contains_nil,and_imp,forall_eq,implies_true,List.map_cons,List.map_nil]|simp (disch:=omega) only [wz]));exact k;all_goals trivial):P:=z a b k
theorem kx3 {A1 B1 C1 P Q:Prop} (a:A1) (b:B1) (c:C1) (k:Q) (z:A1→B1→C1→Q→P:=by intro a b c k;(fail_if_success with_reducible exact trivial);refine kwp ?_ ?_;(focus (first|with_reducible refine kc ?_|((with_reducible first|refine kr ?_ ?_|refine kt ?_ ?_);exact rfl)|((with_reducible refine kf ?_ ?_);exact rfl)|simp only [go_sem,sevalprocAttr,reduceCtorEq,a,b,c,stepS,hpL,List.getD_cons_zero,List.getD_cons_succ,List.contains_cons,List.contains_nil,and_imp,forall_eq,implies_true,List.map_cons,List.map_nil]|simp (disch:=omega) only [wz]));exact k;all_goals trivial):P:=z a b c k
theorem kx4 {A1 B1 C1 D1 P Q:Prop} (a:A1) (b:B1) (c:C1) (d:D1) (k:Q) (z:A1→B1→C1→D1→Q→P:=by intro a b c d k;(fail_if_success with_reducible exact trivial);refine kwp ?_ ?_;(focus (first|with_reducible refine kc ?_|((with_reducible first|refine kr ?_ ?_|refine kt ?_ ?_);exact rfl)|((with_reducible refine kf ?_ ?_);exact rfl)|simp only [go_sem,sevalprocAttr,reduceCtorEq,a,b,c,d,stepS,hpL,List.getD_cons_zero,List.getD_cons_succ,List.contains_cons,List.contains_nil,and_imp,forall_eq,implies_true,List.map_cons,List.map_nil]|simp (disch:=omega) only [wz]));exact k;all_goals trivial):P:=z a b c d k
theorem kx5 {A1 B1 C1 D1 E1 P Q:Prop} (a:A1) (b:B1) (c:C1) (d:D1) (e:E1) (k:Q) (z:A1→B1→C1→D1→E1→Q→P:=by intro a b c d e k;(fail_if_success with_reducible exact trivial);refine kwp ?_ ?_;(focus (first|with_reducible refine kc ?_|((with_reducible first|refine kr ?_ ?_|refine kt ?_ ?_);exact rfl)|((with_reducible refine kf ?_ ?_);exact rfl)|simp only [go_sem,sevalprocAttr,reduceCtorEq,a,b,c,d,e,stepS,hpL,List.getD_cons_zero,List.getD_cons_succ,List.contains_cons,List.contains_nil,and_imp,forall_eq,implies_true,List.map_cons,List.map_nil]|simp (disch:=omega) only [wz]));exact k;all_goals trivial):P:=z a b c d e k
theorem kx6 {A1 B1 C1 D1 E1 F1 P Q:Prop} (a:A1) (b:B1) (c:C1) (d:D1) (e:E1) (f:F1) (k:Q) (z:A1→B1→C1→D1→E1→F1→Q→P:=by intro a b c d e f k;(fail_if_success with_reducible exact trivial);refine kwp ?_ ?_;(focus (first|with_reducible refine kc ?_|((with_reducible first|refine kr ?_ ?_|refine kt ?_ ?_);exact rfl)|((with_reducible refine kf ?_ ?_);exact rfl)|simp only [go_sem,sevalprocAttr,reduceCtorEq,a,b,c,d,e,f,stepS,hpL,List.getD_cons_zero,List.getD_cons_succ,List.contains_cons,List.contains_nil,and_imp,forall_eq,implies_true,List.map_cons,List.map_nil]|simp (disch:=omega) only [wz]));exact k;all_goals trivial):P:=z a b c d e f k
theorem kx7 {A1 B1 C1 D1 E1 F1 G1 P Q:Prop} (a:A1) (b:B1) (c:C1) (d:D1) (e:E1) (f:F1) (g:G1) (k:Q) (z:A1→B1→C1→D1→E1→F1→G1→Q→P:=by intro a b c d e f g k;(fail_if_success with_reducible exact trivial);refine kwp ?_ ?_;(focus (first|with_reducible refine kc ?_|((with_reducible first|refine kr ?_ ?_|refine kt ?_ ?_);exact rfl)|((with_reducible refine kf ?_ ?_);exact rfl)|simp only [go_sem,sevalprocAttr,reduceCtorEq,a,b,c,d,e,f,g,stepS,hpL,List.getD_cons_zero,List.getD_cons_succ,List.contains_cons,List.contains_nil,and_imp,forall_eq,implies_true,List.map_cons,List.map_nil]|simp (disch:=omega) only [wz]));exact k;all_goals trivial):P:=z a b c d e f g k
theorem kx8 {A1 B1 C1 D1 E1 F1 G1 H1 P Q:Prop} (a:A1) (b:B1) (c:C1) (d:D1) (e:E1) (f:F1) (g:G1) (h:H1) (k:Q) (z:A1→B1→C1→D1→E1→F1→G1→H1→Q→P:=by intro a b c d e f g h k;(fail_if_success with_reducible exact trivial);refine kwp ?_ ?_;(focus (first|with_reducible refine kc ?_|((with_reducible first|refine kr ?_ ?_|refine kt ?_ ?_);exact rfl)|((with_reducible refine kf ?_ ?_);exact rfl)|simp only [go_sem,sevalprocAttr,reduceCtorEq,a,b,c,d,e,f,g,h,stepS,hpL,List.getD_cons_zero,List.getD_cons_succ,List.contains_cons,List.contains_nil,and_imp,forall_eq,implies_true,List.map_cons,List.map_nil]|simp (disch:=omega) only [wz]));exact k;all_goals trivial):P:=z a b c d e f g h k
theorem kx9 {A1 B1 C1 D1 E1 F1 G1 H1 I1 P Q:Prop} (a:A1) (b:B1) (c:C1) (d:D1) (e:E1) (f:F1) (g:G1) (h:H1) (i:I1) (k:Q) (z:A1→B1→C1→D1→E1→F1→G1→H1→I1→Q→P:=by intro a b c d e f g h i k;(fail_if_success with_reducible exact trivial);refine kwp ?_ ?_;(focus (first|with_reducible refine kc ?_|((with_reducible first|refine kr ?_ ?_|refine kt ?_ ?_);exact rfl)|((with_reducible refine kf ?_ ?_);exact rfl)|simp only [go_sem,sevalprocAttr,reduceCtorEq,a,b,c,d,e,f,g,h,i,stepS,hpL,List.getD_cons_zero,List.getD_cons_succ,List.contains_cons,List.contains_nil,and_imp,forall_eq,implies_true,List.map_cons,List.map_nil]|simp (disch:=omega) only [wz]));exact k;all_goals trivial):P:=z a b c d e f g h i k
theorem kx11 {A1 B1 C1 D1 E1 F1 G1 H1 I1 J1 L1 P Q:Prop} (a:A1) (b:B1) (c:C1) (d:D1) (e:E1) (f:F1) (g:G1) (h:H1) (i:I1) (j:J1) (l:L1) (k:Q) (z:A1→B1→C1→D1→E1→F1→G1→H1→I1→J1→L1→Q→P:=by intro a b c d e f g h i j l k;(fail_if_success with_reducible exact trivial);refine kwp ?_ ?_;(focus (first|with_reducible refine kc ?_|((with_reducible first|refine kr ?_ ?_|refine kt ?_ ?_);exact rfl)|((with_reducible refine kf ?_ ?_);exact rfl)|simp only [go_sem,sevalprocAttr,reduceCtorEq,a,b,c,d,e,f,g,h,i,j,l,stepS,hpL,List.getD_cons_zero,List.getD_cons_succ,List.contains_cons,List.contains_nil,and_imp,forall_eq,implies_true,List.map_cons,List.map_nil]|simp (disch:=omega) only [wz]));exact k;all_goals trivial):P:=z a b c d e f g h i j l k
theorem kx13 {A1 B1 C1 D1 E1 F1 G1 H1 I1 J1 L1 M1 N1 P Q:Prop} (a:A1) (b:B1) (c:C1) (d:D1) (e:E1) (f:F1) (g:G1) (h:H1) (i:I1) (j:J1) (l:L1) (m:M1) (n:N1) (k:Q) (z:A1→B1→C1→D1→E1→F1→G1→H1→I1→J1→L1→M1→N1→Q→P:=by intro a b c d e f g h i j l m n k;(fail_if_success with_reducible exact trivial);refine kwp ?_ ?_;(focus (first|with_reducible refine kc ?_|((with_reducible first|refine kr ?_ ?_|refine kt ?_ ?_);exact rfl)|((with_reducible refine kf ?_ ?_);exact rfl)|simp only [go_sem,sevalprocAttr,reduceCtorEq,a,b,c,d,e,f,g,h,i,j,l,m,n,stepS,hpL,List.getD_cons_zero,List.getD_cons_succ,List.contains_cons,List.contains_nil,and_imp,forall_eq,implies_true,List.map_cons,List.map_nil]|simp (disch:=omega) only [wz]));exact k;all_goals trivial):P:=z a b c d e f g h i j l m n k
end Go.Aw

set_option linter.unusedVariables false
namespace Go.Aw
theorem AC.forget {P:Program} {f:FuncId} {args:List Value} {H:AHeap} {v:Value} (hv:plain v=true) (h:AC P f args H (fun r H2=>r= .ret v∧Frm [] H H2)):ARet P f args H v H:=
 fun c w vargs hh hvs=>(h c w vargs hh hvs).mono fun e w' hp=>by
  obtain ⟨r,c',H',⟨rfl,hf⟩,h2,h3,h4⟩:=hp
  have hspl:∃Y,H'=H++Y:=by
   have hf':Frm [] (H++[]) H':=by rw [List.append_nil];exact hf
   exact Frm.split hf' (fun s hs=>by cases hs)
  obtain ⟨Y,rfl⟩:=hspl
  cases h2 with
  |ret hr=>
   obtain ⟨c2,g1,g2,g3⟩:=WeakV.drop (l:=Y) (n:=H.length) rfl hh.inside (NRel.of_plain hv) c' w' _ h3 hr
   exact ⟨_,c2,H,⟨rfl,rfl⟩,.ret g2,g1,Trans.trans h4 g3⟩
end Go.Aw

set_option linter.unusedVariables false
namespace Go.Aw
end Go.Aw

set_option linter.unusedVariables false
namespace Go.Aw
def hP:UInt64:=1099511628211
def hG:UInt64:=11400714819323198485
def hB:UInt64:=14695981039346656037
def hMix (h:UInt64):UInt64:=h ^^^ h >>> 29
def hMix2 (h:UInt64):UInt64:=h ^^^ h >>> 32
def hStep (h:UInt64) (b:UInt8):UInt64:=hMix ((h ^^^ b.toUInt64)*hP)
def hEnd (n:Nat) (h:UInt64):UInt64:=hMix2 ((h ^^^ UInt64.ofNat n)*hP)*hP
def hBeg (k:Nat):UInt64:=hB+UInt64.ofNat k*hG
def lanes0:List UInt64:=(List.range 4).map hBeg
def takeL (l:List UInt64) (b:UInt8):List UInt64:=l.map fun h=>hStep h b
def be8 (h:UInt64):List UInt8:=(List.range 8).map fun j=>(h >>> UInt64.ofNat (56 - 8*j)).toUInt8
def endL (l:List UInt64) (n:Nat):List UInt8:=l.flatMap fun h=>be8 (hEnd n h)
def sumL (s:List UInt8):List UInt8:=endL (s.foldl takeL lanes0) s.length
theorem takeL_len (l:List UInt64) (b:UInt8):(takeL l b).length=l.length:=by simp [takeL]
theorem foldl_len (s:List UInt8):∀l:List UInt64,(s.foldl takeL l).length=l.length:=by
 induction s with
 |nil=>intro l;rfl
 |cons b s ih=>intro l;rw [List.foldl_cons,ih,takeL_len]
theorem turnS {α :Type} (f:α→α) (l:List α) (n:Nat) (h:n<l.length):((l.take n).map f++l.drop n).set n (f l[n])=(l.take (n+1)).map f++l.drop (n+1):=by
 have h1:((l.take n).map f).length=n:=by simp;omega
 rw [List.set_append_right _ _ (by omega),h1,Nat.sub_self,List.drop_eq_getElem_cons h,List.set_cons_zero,List.take_add_one,List.getElem?_eq_getElem h,List.map_append]
 simp
end Go.Aw
namespace Go.Aw
end Go.Aw
namespace Go.Aw
end Go.Aw
namespace Go.Aw
theorem putCells_eq:∀(l cs:List Value) (off:Nat),off+l.length≤cs.length→putCells cs off l=cs.take off++l++cs.drop (off+l.length)
 |[],cs,off,h=>by simp [putCells]
 |v::l,cs,off,h=>by
  rw [List.length_cons] at h
  unfold putCells
  rw [putCells_eq l (cs.set off v) (off+1) (by rw [List.length_set];omega),List.take_add_one,List.getElem?_set_self (by omega),List.take_set_of_le (Nat.le_refl _),List.drop_set_of_lt (by omega),List.length_cons]
  simp [Nat.add_assoc,Nat.add_comm 1]
end Go.Aw

set_option linter.unusedVariables false
set_option linter.unusedSimpArgs false
namespace Go.Aw
def splitOk (ops:List Oper) (e:Nat):Bool:=
 let an:=ancs ops []
 allLt ops.length fun j=>decide (j=e)||(if j<e then (an.getD e []).contains j else (an.getD j []).contains e)
def stepZ {T:Type} (g:Cfg) (ops:List Oper) (o:Oper) (known:List (Nat×Value)) (kn2:T→List (Nat×Value)) (ds:List ADef) (H:AHeap) (H2:T→AHeap) (G:T→Prop):Prop:=
 wantW ops o (ASt.only ops o ⟨known,ds,H⟩) (opW g o (ASt.only ops o ⟨known,ds,H⟩) (fun s=>∃t,G t∧(s.H=H2 t∧s.defs=ds)∧∀d,o.dst=some d→∀v,lk d (kn2 t)=some v→lk d s.env=some v) (fun _ _=>False)) False
theorem inv_Z {T:Type} {g:Cfg} {Q:AExit→ASt→Prop} {ops:List Oper} {kn:Option T→List (Nat×Value)} {ds:List ADef} {eff:List Nat} {bd:List (Nat×Nat)} (hp:Option T→Nat→AHeap) (G:T→Prop) (e:Nat) {oe:Oper} (hoe:ops[e]? =some oe) (hsp:splitOk ops e=true) (hee:eff.contains e=true)
  (hkn:∀t,G t→∀x v,lk x (kn (some t))=some v→oe.dst≠some x→ (∀ j o,ops[j]? =some o→o.dst=some x→j<e)→lk x (kn none)=some v) (hok:AnyOk g.N.n ops ops.length) (hnd:nodupB eff=true) (hbd:bdOk ops eff bd=true) (hel:∀i∈eff,i<ops.length) (hed:edgesOk ops=true)
  (hs1:∀(j:Nat) (o:Oper) (b:Nat×Nat),j<e→ops[j]? =some o→bd[j]? =some b→∀k,b.1≤k→k≤b.1+b.2→stepS g ops o (kn none) ds (hp none k) (hp none (if eff.contains j then k+1 else k)))
  (hs2:∀t,G t→∀(j:Nat) (o:Oper) (b:Nat×Nat),e<j→ops[j]? =some o→bd[j]? =some b→∀k,b.1≤k→k≤b.1+b.2→stepS g ops o (kn (some t)) ds (hp (some t) k) (hp (some t) (if eff.contains j then k+1 else k)))
  (hse:∀(b:Nat×Nat),bd[e]? =some b→∀k,b.1≤k→k≤b.1+b.2→stepZ g ops oe (kn none) (fun t=>kn (some t)) ds (hp none k) (fun t=>hp (some t) (k+1)) G)
  (hdone:∀t,G t→Q .normal ⟨kn (some t),ds,hp (some t) eff.length⟩):∀(fuel:Nat) (L:List Nat) (listed:Array Bool),(∀ i,i<ops.length→(isOn listed i↔i∈L))→Lst ops listed→fuel=left listed listed.size→
  ∀ (θ :Option T),(e∈L↔θ.isSome=true)→ (∀ t,θ=some t→G t)→∀c w a,MidS g ops (kn θ) ds (hp θ (cntS eff L)) L c w a→wpAnyIn (fenceOf g.lr) 0 g.P .any ops.toArray (APost g Q c (hp θ (cntS eff L)) w) fuel listed a w:=by
 have hel0:=(List.getElem?_eq_some_iff.1 hoe).1
 have hfin:∀(L:List Nat) t c w a,G t→ (∀ i,i<ops.length→i∈L)→MidS g ops (kn (some t)) ds (hp (some t) (cntS eff L)) L c w a→APost g Q c (hp (some t) (cntS eff L)) w .normal a w:=fun L t c w a hG hall hm=>by
  have hc:cntS eff L=eff.length:=by
   unfold cntS
   rw [List.countP_eq_length]
   intro i hi
   simpa using hall i (hel i hi)
  rw [hc] at hm ⊢
  exact ⟨.normal,_,c,hdone t hG,.normal,⟨hm.heap,hm.size,fun t v e=>hm.tmps t v e fun j o ho _=>hall j (List.getElem?_eq_some_iff.1 ho).1,hm.defs⟩,.refl _ _ _ _⟩
 intro fuel
 induction fuel with
 | zero=>
  intro L listed hon hl hf θ hθ hG c w a hm
  have hall:∀i,i<ops.length→isOn listed i:=fun i hi=>by
   rcases Classical.em (isOn listed i) with h'|h'
   ·exact h'
   ·have:=left_set (by rw [hl.size];exact hi) h'
    omega
  obtain ⟨t,rfl⟩:=Option.isSome_iff_exists.1 (hθ.1 ((hon e hel0).1 (hall e hel0)))
  refine ⟨?_,hfin L t c w a (hG t rfl) (fun i hi=>(hon i hi).1 (hall i hi)) hm⟩
  apply List.eq_nil_iff_forall_not_mem.2
  intro i hi
  obtain ⟨h1,h2,_⟩:=hl.ready hi
  exact h2 (hall i h1)
 | succ fuel ih=>
  intro L listed hon hl hf θ hθ hG c w a hm
  refine ⟨fun hnil=> ?_,fun i hi=> ?_⟩
  ·exfalso
   have hall:∀i,i<ops.length→isOn listed i:=fun i hi=>by
    rcases Classical.em (isOn listed i) with h'|h'
    ·exact h'
    ·exact absurd hnil (hl.some_ready' hed hi h')
   have:=left_eq (listed:=listed) (m:=ops.length) (n:=ops.length) (Nat.le_refl _) (fun i hi=>⟨fun _=>hi,fun _=>hall i hi⟩)
   rw [hl.size] at hf
   omega
  ·obtain ⟨h1,h2,h3,_⟩:=hl.ready hi
   have hoat:ops[i]? =some ops[i]:=List.getElem?_eq_getElem h1
   generalize ops[i]=o at hoat
   have hiL:i∉L:=fun h=>h2 ((hon i h1).2 h)
   have hcl:∀(j:Nat) o',ops[j]? =some o'→isOn listed j→∀e∈binding o',isOn listed e:=hl.closed
   have hanc:∀x∈(ancs ops []).getD i [],x∈L:=fun x hx=>by
    have hlt:=anc_lt hok i x hx
    refine (hon x (by omega)).1 (ancs_ok (ops:=ops) (listed:=isOn listed) hcl [] rfl rfl (fun j' _ hlt=>by simp at hlt) i (fun o' ho' e he=> ?_) h1 x hx)
    exact h3 o' ho' e he
   have hancL:∀j∈L,j<ops.length→∀x∈(ancs ops []).getD j [],x∈L:=fun j hj hjl x hx=>by
    have hlt:=anc_lt hok j x hx
    exact (hon x (by omega)).1 (ancs_ok (ops:=ops) (listed:=isOn listed) hcl [] rfl rfl (fun j' _ hlt=>by simp at hlt) j (fun o' ho' e he=>hcl j o' ho' ((hon j hjl).2 hj) e he) hjl x hx)
   have hbd0:=allLt_spec hbd i h1
   obtain ⟨b,hb⟩:∃b,bd[i]? =some b:=by
    cases hx:bd[i]? with
    |none=>rw [hx] at hbd0;cases hbd0
    |some b=>exact ⟨b,rfl⟩
   have hbd':=allLt_spec hbd i h1
   simp only [hb,Bool.and_eq_true,decide_eq_true_eq] at hbd'
   have hk1:b.1≤cntS eff L:=Nat.le_trans hbd'.1 (List.countP_mono_left fun x hx hc=>by
    have:=hanc x (by simpa using hc)
    simpa using this)
   have hk2:cntS eff L≤b.1+b.2:=Nat.le_trans (List.countP_mono_left fun x hx hc=>by
    have hxL:x∈L:=by simpa using hc
    have hne:x≠i:=fun e=>hiL (e ▸ hxL)
    have hnc:i∉(ancs ops []).getD x []:=fun h=>hiL (hancL x hxL (hel x hx) i h)
    simp only [Bool.and_eq_true,bne_iff_ne,ne_eq,Bool.not_eq_true']
    exact ⟨hne,by simpa using hnc⟩) hbd'.2
   have hcc:=cntS_cons hiL hnd
   have hspi:=allLt_spec hsp
   have hl':=hl.set hi
   have hon':∀j,j<ops.length→(isOn (listed.setIfInBounds i true) j↔j∈i::L):=fun j hj=>by
    rw [isOn_set (by rw [hl.size];exact h1),hon j hj]
    simp [eq_comm]
   have hfuel:fuel=left (listed.setIfInBounds i true) (listed.setIfInBounds i true).size:=by
    have:=left_set (by rw [hl.size];exact h1) h2
    simp;omega
   have hd1:∀d,o.dst=some d→d<g.N.n:=fun d e=>by
    have:=hok.dsts
    unfold dstsOk at this
    rw [List.all_eq_true] at this
    have:=this o (List.mem_iff_getElem?.2 ⟨_,hoat⟩)
    rw [e] at this
    simpa using this
   have hs1':SRel g.N c (ASt.only ops o ⟨kn θ,ds,hp θ (cntS eff L)⟩) w a:=by
    refine ⟨hm.heap,hm.size,fun t x e=> ?_,hm.defs⟩
    obtain ⟨e1,e2⟩:=lk_restrict e
    exact hm.tmps t x e2 fun j p hp hd=>hanc j (hok.reads i j o p t h1 (List.getElem?_eq_some_iff.1 hp).1 hoat hp hd e1)
   have hmid:∀ (θ' :Option T) (c':Ctx) (a':Act) (w':World) (u:Value),(∀ x v,lk x (kn θ')=some v→o.dst≠some x→ (∀ j o',ops[j]? =some o'→o'.dst=some x→j∈L)→lk x (kn θ)=some v)→c.le c'→HRel c' (hp θ' (cntS eff (i::L))) w'→DRel g.N.B c' (hp θ' (cntS eff (i::L))) w' ds a'.defers→a'.tmps=(a.put o.dst u).tmps→ (∀ d,o.dst=some d→∀v,lk d (kn θ')=some v→VRel c' v u)→MidS g ops (kn θ') ds (hp θ' (cntS eff (i::L))) (i::L) c' w' a':=by
    intro θ' c' a' w' u hsame hle hh hdf ht hu
    refine ⟨hh,?_,?_,hdf⟩
    ·rw [ht,←hm.size];cases o.dst<;> simp [Act.put]
    ·intro t x e hx
     by_cases hdt:o.dst=some t
     ·refine ⟨u,?_,hu t hdt x e⟩
      rw [ht,hdt]
      simp [Act.put,hm.size,hd1 t hdt]
     ·have hxL:∀j o',ops[j]? =some o'→o'.dst=some t→j∈L:=fun j o' ho' hd'=>by
       rcases List.mem_cons.1 (hx j o' ho' hd') with rfl|h'
       ·rw [hoat] at ho';cases ho';exact absurd hd' hdt
       ·exact h'
      obtain ⟨x',k1,k2⟩:=hm.tmps t x (hsame t x e hdt hxL) hxL
      refine ⟨x',?_,k2.mono hle⟩
      rw [ht]
      cases hd:o.dst with
      |none=>simpa [Act.put] using k1
      |some d=>
       have hne:d≠t:=fun e=>hdt (by rw [hd,e])
       simp [Act.put,hne,k1]
   unfold wpOpIn
   have hoa:ops.toArray[i]? =some o:=by simpa using hoat
   simp only [hoa]
   have hord:(i<e→e∉L)∧(i=e→e∉L)∧(e<i→e∈L):=by
    refine ⟨fun hlt he=> ?_,fun h he=>hiL (h ▸ he),fun hlt=> ?_⟩
    ·have:=hspi i h1
     simp only [if_pos hlt,Bool.or_eq_true,decide_eq_true_eq] at this
     rcases this with h|h
     ·omega
     ·exact hiL (hancL e he hel0 i (by simpa using h))
    ·have:=hspi i h1
     simp only [if_neg (show ¬i<e by omega),Bool.or_eq_true,decide_eq_true_eq] at this
     rcases this with h|h
     ·omega
     ·exact hanc e (by simpa using h)
   by_cases hie:i=e
   ·subst hie
    have hθn:θ=none:=by
     cases θ with
     |none=>rfl
     |some t=>exact absurd (hθ.2 rfl) (hord.2.1 rfl)
    subst hθn
    rw [hoe] at hoat;cases hoat
    have hw:=hse b hb _ hk1 hk2
    have hcc2:cntS eff (i::L)=cntS eff L+1:=by rw [hcc,hee];rfl
    rw [← hcc2] at hw
    unfold stepZ at hw
    rcases wantW_elim hs1' hw with ⟨hwn,hr⟩|⟨hwn,hr⟩
    ·rw [if_pos hwn]
     refine opW_ok hd1 hr c w a _ _ hs1' ?_ ?_
     ·rintro st' c' a' w' ⟨t,hGt,⟨hKH,hKd⟩,hK⟩ hs' ht ⟨hle,u,hu⟩
      have hh:=hs'.heap
      have hdf:=hs'.defs
      rw [hKH] at hh hdf
      rw [hKd] at hdf
      rw [hKH] at ht
      have:=ih (i::L) _ hon' hl' hfuel (some t) (by simp) (fun t' h=>by cases h;exact hGt) c' w' a' (hmid (some t) c' a' w' u (fun x v hx hdx hjL=>hkn t hGt x v hx hdx fun j o' ho' hd'=>by
       have hjl:=hjL j o' ho' hd'
       have hjlt:=(List.getElem?_eq_some_iff.1 ho').1
       rcases Nat.lt_trichotomy j i with h|h|h
       ·exact h
       ·exact absurd (h ▸ hjl) hiL
       ·have h4:=hspi j hjlt
        simp only [if_neg (show ¬j<i by omega),Bool.or_eq_true,decide_eq_true_eq] at h4
        rcases h4 with h4|h4
        ·omega
        ·exact absurd (hancL j hjl hjlt i (by simpa using h4)) hiL) hle hh hdf hu fun d hd v hv=>by
       obtain ⟨v',k1,k2⟩:=hs'.tmps d v (hK d hd v hv)
       rw [hu,hd] at k1
       have hlt:d<a.tmps.size:=by rw [hm.size];exact hd1 d hd
       simp [Act.put,hlt] at k1
       rw [k1];exact k2)
      exact any_tail.wpAny_mono (fun e a2 w2 hp=>hp.back ht) this
     ·intro v v' st' c' a' w' hKp
      exact hKp.elim
    ·exact hr.elim
   ·have hw:stepS g ops o (kn θ) ds (hp θ (cntS eff L)) (hp θ (cntS eff (i::L))):=by
     rw [hcc]
     rcases Nat.lt_or_ge i e with hlt|hge
     ·have hθn:θ=none:=by
       cases θ with
       |none=>rfl
       |some t=>exact absurd (hθ.2 rfl) (hord.1 hlt)
      subst hθn
      exact hs1 i o b hlt hoat hb _ hk1 hk2
     ·have hgt:e<i:=by omega
      obtain ⟨t,rfl⟩:=Option.isSome_iff_exists.1 (hθ.1 (hord.2.2 hgt))
      exact hs2 t (hG t rfl) i o b hgt hoat hb _ hk1 hk2
    have hθ2:e∈i::L↔θ.isSome=true:=by
     rw [List.mem_cons,←hθ]
     exact ⟨fun h=>h.resolve_left (fun h=>hie h.symm),.inr⟩
    unfold stepS at hw
    rcases wantW_elim hs1' hw with ⟨hwn,hr⟩|⟨hwn,hr⟩
    ·rw [if_pos hwn]
     refine opW_ok hd1 hr c w a _ _ hs1' ?_ ?_
     ·rintro st' c' a' w' ⟨⟨hKH,hKd⟩,hK⟩ hs' ht ⟨hle,u,hu⟩
      have hh:=hs'.heap
      have hdf:=hs'.defs
      rw [hKH] at hh hdf
      rw [hKd] at hdf
      rw [hKH] at ht
      have:=ih (i::L) _ hon' hl' hfuel θ hθ2 hG c' w' a' (hmid θ c' a' w' u (fun x v hx _ _=>hx) hle hh hdf hu fun d hd v hv=>by
       obtain ⟨v',k1,k2⟩:=hs'.tmps d v (hK d hd v hv)
       rw [hu,hd] at k1
       have hlt:d<a.tmps.size:=by rw [hm.size];exact hd1 d hd
       simp [Act.put,hlt] at k1
       rw [k1];exact k2)
      exact any_tail.wpAny_mono (fun e a2 w2 hp=>hp.back ht) this
     ·intro v v' st' c' a' w' hKp
      exact hKp.elim
    ·rw [if_neg (by rw [hwn];simp)]
     refine ⟨about_any g.lr,?_⟩
     have hh:=hm.heap
     have hdf:=hm.defs
     rw [← hr.1] at hh hdf
     have:=ih (i::L) _ hon' hl' hfuel θ hθ2 hG c w (a.put o.dst undef) (hmid θ c _ w undef (fun x v hx _ _=>hx) (Ctx.le_refl c) hh (by
      have:(a.put o.dst undef).defers=a.defers:=by cases o.dst<;> rfl
      rw [this];exact hdf) rfl fun d hd v hv=>by
      rw [hr.2 d hd v hv];exact .tuple .nil)
     rw [hr.1] at this
     exact this
theorem any_ge {ops:List Oper} {e x:Nat} (h:((ops.drop e).any fun o=>o.dst==some x)=true):∃(j:Nat) (o:Oper),e≤j∧ops[j]? =some o∧o.dst=some x:=by
 rw [List.any_eq_true] at h
 obtain ⟨o,ho,hd⟩:=h
 obtain ⟨j,hj⟩:=List.getElem?_of_mem ho
 rw [List.getElem?_drop] at hj
 exact ⟨e+j,o,by omega,hj,by simpa using hd⟩
theorem AWP.regionZ {T:Type} {g:Cfg} {Q:AExit→ASt→Prop} {env:List (Nat×Value)} {ds:List ADef} {H:AHeap} {id:Nat} {ops:List Oper} (e K0:Nat) {oe:Oper} (G:T→Prop) (eff:List Nat) (bd:List (Nat×Nat)) (ts1 ts2:List Nat) (hs1:List AHeap) (hs2:T→List AHeap) (vals1:List (Nat×Value)) (vals2:T→List (Nat×Value)) (hm:g.P.follows .mixedOrders=true)
  (hok:anyOk g.N.n ops ops.length=true) (hch:(nodupB eff&&bdOk ops eff bd&&eff.all (fun i=>decide (i<ops.length))&&edgesOk ops&&splitOk ops e&&eff.contains e)=true) (hoe:ops[e]? =some oe) (hbe:bd[e]? =some (K0,0))
  (hts1:ts1.all (fun t=>ops.any fun o=>o.dst==some t)=true) (hts2:ts2.all (fun t=>(ops.drop e).any fun o=>o.dst==some t)=true) (hv1:vals1.map (·.1)=ts1) (hv2:∀t,(vals2 t).map (·.1)=ts2)
  (hst1:eachB (fun j o k=>stepS g ops o (vals1++env) ds (hpL (H::hs1) k) (hpL (H::hs1) (if eff.contains j then k+1 else k))) 0 (ops.take e) (bd.take e))
  (hste:stepZ g ops oe (vals1++env) (fun t=>vals2 t++(vals1++env)) ds (hpL (H::hs1) K0) (fun t=>hpL (H::(hs1++hs2 t)) (K0+1)) G)
  (hst2:∀t,G t→eachB (fun j o k=>stepS g ops o (vals2 t++(vals1++env)) ds (hpL (H::(hs1++hs2 t)) k) (hpL (H::(hs1++hs2 t)) (if eff.contains j then k+1 else k))) (e+1) (ops.drop (e+1)) (bd.drop (e+1)))
  (hdone:∀t,G t→Q .normal ⟨vals2 t++(vals1++env),ds,hpL (H::(hs1++hs2 t)) eff.length⟩):AWP g (.region id ops.toArray true) Q ⟨env,ds,H⟩:=by
 intro c w a hs
 simp only [Bool.and_eq_true] at hch
 obtain ⟨⟨⟨⟨⟨hnd,hbd⟩,hel⟩,hed⟩,hsp⟩,hee⟩:=hch
 refine wpIn_region_any hm ?_
 obtain ⟨hh,ht⟩:=hs.heap.drew g.n0
 have hc0:cntS eff []=0:=by unfold cntS;rw [List.countP_eq_zero];intro i _;simp
 have hel0:=(List.getElem?_eq_some_iff.1 hoe).1
 have hb:∀t v,lk t (vals1++env)=some v→ (∀ o∈ops,o.dst≠some t)→lk t env=some v:=fun t v h hn=>lk_vals h fun hm=>by
  rw [hv1] at hm
  have:=List.all_eq_true.1 hts1 t hm
  rw [List.any_eq_true] at this
  obtain ⟨o,ho,h⟩:=this
  exact hn o ho (by simpa using h)
 have:=inv_Z (g:=g) (Q:=Q) (ops:=ops) (kn:=fun θ:Option T=>match θ with|none=>vals1++env|some t=>vals2 t++(vals1++env)) (ds:=ds) (eff:=eff) (bd:=bd) (fun θ k=>match θ with|none=>hpL (H::hs1) k|some t=>hpL (H::(hs1++hs2 t)) k) G e hoe hsp hee
  (fun t _ x v hx hdx hj=>lk_vals hx fun hmem=>by
   rw [hv2] at hmem
   obtain ⟨j,o,h1,h2,h3⟩:=any_ge (List.all_eq_true.1 hts2 x hmem)
   have:=hj j o h2 h3
   omega)
  (AnyOk.of hok) hnd hbd (fun i hi=>by simpa using List.all_eq_true.1 hel i hi) hed
  (fun j o b hlt ho hb k h1 h2=>by
   obtain ⟨b',g1,g2⟩:=eachB_get (ops.take e) (bd.take e) 0 hst1 j o (by rw [List.getElem?_take_of_lt hlt];exact ho)
   rw [List.getElem?_take_of_lt hlt,hb] at g1
   cases g1
   have:=g2 k h1 h2
   rw [Nat.zero_add] at this
   exact this)
  (fun t hG j o b hlt ho hb k h1 h2=>by
   obtain ⟨b',g1,g2⟩:=eachB_get (ops.drop (e+1)) (bd.drop (e+1)) (e+1) (hst2 t hG) (j - (e+1)) o (by rw [List.getElem?_drop,show e+1+(j - (e+1))=j by omega];exact ho)
   rw [List.getElem?_drop,show e+1+(j - (e+1))=j by omega,hb] at g1
   cases g1
   have:=g2 k h1 h2
   rw [show e+1+(j - (e+1))=j by omega] at this
   exact this)
  (fun b hb k h1 h2=>by
   rw [hbe] at hb;cases hb
   have:k=K0:=by simp only at h1 h2;omega
   subst this
   exact hste)
  hdone ops.length [] (Array.replicate ops.length false) ?_ ?_ ?_ none ?_ ?_ c w.drew a ?_
 ·rw [hc0] at this
  have:=any_tail.wpAny_mono (fun e a2 w2 hp=>hp.back ht) this
  simpa using this
 ·intro i hi
  exact ⟨fun h=>absurd h (not_isOn_replicate _ _),fun h=>by cases h⟩
 ·refine ⟨by simp,fun j o ho hj=> ?_⟩
  exact absurd hj (not_isOn_replicate _ _)
 ·have:=left_eq (listed:=Array.replicate ops.length false) (m:=0) (n:=ops.length) (Nat.zero_le _) (fun i hi=>⟨fun h=>absurd h (not_isOn_replicate _ _),fun h=>by omega⟩)
  simpa using this.symm
 ·exact ⟨fun h=>(by cases h),fun h=>(by cases h)⟩
 ·intro t h;cases h
 ·rw [hc0]
  exact ⟨hh,hs.size,fun t v e hx=>hs.tmps t v (hb t v e fun o ho hd=>by
   obtain ⟨j,hj⟩:=List.getElem?_of_mem ho
   have:=hx j o hj hd
   cases this),hs.defs.step (n:=g.n0) (Ctx.le_refl c) ht⟩
end Go.Aw

set_option linter.unusedVariables false
set_option linter.unusedSimpArgs false
namespace Go.Aw
open Go.RowKit Go.ChangeShapes Go.WideShapes Go.ChangeAt
inductive FK where
 |i (k:IntKind)
 |s
 |b
def FK.fits (bnd:Nat):FK→Value→Prop
 | .i k,v=>∃z,v= .int k z∧(Lit.int k z).wf=true
 | .s,v=>∃s:List UInt8,v= .string (bs s)∧s.length≤bnd
 | .b,v=>∃c:Bool,v= .bool c
inductive Fits (bnd:Nat):List FK→List Value→Prop
 |nil:Fits bnd [] []
 |cons {k:FK} {v:Value} {ks:List FK} {vs:List Value}:k.fits bnd v→Fits bnd ks vs→Fits bnd (k::ks) (v::vs)
theorem Fits.append {bnd:Nat}:∀{ks:List FK} {vs:List Value} {ks':List FK} {vs':List Value},Fits bnd ks vs→Fits bnd ks' vs'→Fits bnd (ks++ks') (vs++vs')
 |_,_,_,_,.nil,h=>h
 |_,_,_,_,.cons a b,h=> .cons a (Fits.append b h)
theorem Fits.len {bnd:Nat}:∀{ks:List FK} {vs:List Value},Fits bnd ks vs→vs.length=ks.length
 |_,_,.nil=>rfl
 |_,_,.cons a b=>by simp [Fits.len b]
theorem FK.fits_scalar {bnd:Nat} {k:FK} {v:Value} (h:k.fits bnd v):scalar v=true:=by
 cases k<;> (unfold FK.fits at h;obtain ⟨_,h⟩:=h;first|(obtain ⟨rfl,_⟩:=h;rfl)|(subst h;rfl))
theorem Fits.scalar {bnd:Nat}:∀{ks:List FK} {vs:List Value},Fits bnd ks vs→vs.all Go.Aw.scalar=true
 |_,_,.nil=>rfl
 |_,_,.cons a b=>by rw [List.all_cons,FK.fits_scalar a,Fits.scalar b];rfl
def leafsF (f:TypeId→Option (List FK)) (P:Program) (tot:Nat):List Field→Nat→Option (List FK)
 |[],o=>if o=tot then some [] else none
 |fd::r,o=>if fd.offset=o then (f fd.type).bind fun l=>if l.length=P.cellsOf fd.type then (leafsF f P tot r (o+l.length)).map (l++ ·) else none else none
def leafs (P:Program):Nat→TypeId→Option (List FK)
 |0,_=>none
 |d+1,t=>
  match P.underlying t with
  |some (.int k)=>some [.i k]
  |some .string=>some [.s]
  |some .bool=>some [.b]
  |some (.struct fs)=>leafsF (leafs P d) P (P.cellsOf t) fs.toList 0
  |_=>none
theorem trod_leafs {D:Type} {enc:TypeId×Value→D} {P:Program} {w:World} {bnd:Nat}:∀(d:Nat) {t:TypeId} {ks:List FK} {n:Nat} {cs:List Value} {y:DataW D×List MemPlace},leafs P d t=some ks→
  DataW.trod enc P w 0 (fun _=>true) true n t cs=some y→(y.1.weights P t).all (· ≤bnd)=true→Fits bnd ks cs
 |0,_,_,_,_,_,h,_,_=>by simp [leafs] at h
 | d + 1,t,ks,n,cs,y,h,ht,hw=>by
  unfold leafs at h
  split at h
  ·rename_i k hu
   cases h
   obtain ⟨z,rfl,_,hz⟩:=DataW.trod_int hu ht
   exact .cons ⟨z,rfl,hz⟩ .nil
  ·rename_i hu
   cases h
   obtain ⟨s,rfl,hy,_⟩:=DataW.trod_string hu ht
   rw [hy] at hw
   exact .cons ⟨s.data.toList,rfl,by simpa [DataW.weights] using hw⟩ .nil
  ·rename_i hu
   cases h
   obtain ⟨c,rfl,_⟩:=DataW.trod_bool hu ht
   exact .cons ⟨c,rfl⟩ .nil
  ·rename_i fs hu
   obtain ⟨xs,n',_,hy,hlen,hxl,hall⟩:=DataW.trod_struct hu ht
   have hwe:∀(i:Nat) (f:Field) (x:DataW D×List MemPlace),fs[i]? =some f→xs[i]? =some x→(x.1.weights P f.type).all (· ≤bnd)=true:=fun i f x hf hx=>by
    refine List.all_eq_true.2 fun q hq=>List.all_eq_true.1 hw q ?_
    rw [hy]
    simp only [DataW.weights,hu]
    refine DataW.weights_mem_each (j:=i) (t:=f.type) (d:=x.1) ?_ ?_ q hq
    ·rw [List.getElem?_map,Array.getElem?_toList,hf];rfl
    ·rw [List.getElem?_map,hx];rfl
   have key:∀(l:List Field) (i o:Nat) (ks:List FK),fs.toList.drop i=l→leafsF (leafs P d) P (P.cellsOf t) l o=some ks→Fits bnd ks (cs.drop o):=by
    intro l
    induction l with
    | nil=>
     intro i o ks hi hl
     unfold leafsF at hl
     split at hl
     ·rename_i ho
      cases hl
      rw [List.drop_eq_nil_of_le (by rw [hlen];omega)]
      exact .nil
     ·cases hl
    | cons fd r ih=>
     intro i o ks hi hl
     unfold leafsF at hl
     split at hl
     ·rename_i ho
      rw [Option.bind_eq_some_iff] at hl
      obtain ⟨l1,h1,hl⟩:=hl
      split at hl
      ·rename_i hll
       rw [Option.map_eq_some_iff] at hl
       obtain ⟨l2,h2,rfl⟩:=hl
       have hfi:fs[i]? =some fd:=by
        have:=congrArg (·[0]?) hi
        simp only [List.getElem?_drop,Nat.add_zero,List.getElem?_cons_zero] at this
        rw [← Array.getElem?_toList];exact this
       have hix:i<xs.length:=by rw [hxl];exact (Array.getElem?_eq_some_iff.1 hfi).1
       have h3:=hall i fd hfi
       rw [List.getElem?_eq_getElem hix,ho,←hll] at h3
       have hf1:=trod_leafs (bnd:=bnd) d h1 h3 (hwe i fd _ hfi (List.getElem?_eq_getElem hix))
       have hr:fs.toList.drop (i+1)=r:=by
        rw [← List.drop_drop,hi];rfl
       have hf2:=ih (i+1) (o+l1.length) l2 hr h2
       have:=hf1.append hf2
       rw [← List.drop_drop,List.take_append_drop] at this
       exact this
      ·cases hl
     ·cases hl
   have:=key fs.toList 0 0 ks rfl h
   simpa using this
  ·cases h
end Go.Aw
