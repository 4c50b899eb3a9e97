/-
  The abstract memory and the walk of code over it, part 3.
-/
import Derived.Test.YtdgmcckfdgnicaaAwB
set_option linter.unusedVariables false
set_option linter.unusedSimpArgs false
namespace Go.Aw
def splitOk (ops:List Oper) (e:Nat):Bool:=
 let an:=ancs ops []
 allLt ops.length fun j=>decide (j=e)||(if j<e then (an.getD e []).contains j else (an.getD j []).contains e)
def stepZ {T:Type} (g:Cfg) (ops:List Oper) (o:Oper) (known:List (Nat×Value)) (kn2:T→List (Nat×Value)) (ds:List ADef) (H:AHeap) (H2:T→AHeap) (G:T→Prop):Prop:=
 wantW ops o (ASt.only ops o ⟨known,ds,H⟩) (opW g o (ASt.only ops o ⟨known,ds,H⟩) (fun s=>∃t,G t∧(s.H=H2 t∧s.defs=ds)∧∀d,o.dst=some d→∀v,lk d (kn2 t)=some v→lk d s.env=some v) (fun _ _=>False)) False
theorem inv_Z {T:Type} {g:Cfg} {Q:AExit→ASt→Prop} {ops:List Oper} {kn:Option T→List (Nat×Value)} {ds:List ADef} {eff:List Nat} {bd:List (Nat×Nat)} (hp:Option T→Nat→AHeap) (G:T→Prop) (e:Nat) {oe:Oper} (hoe:ops[e]? =some oe) (hsp:splitOk ops e=true) (hee:eff.contains e=true)
  (hkn:∀t,G t→∀x v,lk x (kn (some t))=some v→oe.dst≠some x→ (∀ j o,ops[j]? =some o→o.dst=some x→j<e)→lk x (kn none)=some v) (hok:AnyOk g.N.n ops ops.length) (hnd:nodupB eff=true) (hbd:bdOk ops eff bd=true) (hel:∀i∈eff,i<ops.length) (hed:edgesOk ops=true)
  (hs1:∀(j:Nat) (o:Oper) (b:Nat×Nat),j<e→ops[j]? =some o→bd[j]? =some b→∀k,b.1≤k→k≤b.1+b.2→stepS g ops o (kn none) ds (hp none k) (hp none (if eff.contains j then k+1 else k)))
  (hs2:∀t,G t→∀(j:Nat) (o:Oper) (b:Nat×Nat),e<j→ops[j]? =some o→bd[j]? =some b→∀k,b.1≤k→k≤b.1+b.2→stepS g ops o (kn (some t)) ds (hp (some t) k) (hp (some t) (if eff.contains j then k+1 else k)))
  (hse:∀(b:Nat×Nat),bd[e]? =some b→∀k,b.1≤k→k≤b.1+b.2→stepZ g ops oe (kn none) (fun t=>kn (some t)) ds (hp none k) (fun t=>hp (some t) (k+1)) G)
  (hdone:∀t,G t→Q .normal ⟨kn (some t),ds,hp (some t) eff.length⟩):∀(fuel:Nat) (L:List Nat) (listed:Array Bool),(∀ i,i<ops.length→(isOn listed i↔i∈L))→Lst ops listed→fuel=left listed listed.size→
  ∀ (θ :Option T),(e∈L↔θ.isSome=true)→ (∀ t,θ=some t→G t)→∀c w a,MidS g ops (kn θ) ds (hp θ (cntS eff L)) L c w a→wpAnyIn (fenceOf g.lr) 0 g.P .any ops.toArray (APost g Q c (hp θ (cntS eff L)) w) fuel listed a w:=by
 have hel0:=(List.getElem?_eq_some_iff.1 hoe).1
 have hfin:∀(L:List Nat) t c w a,G t→ (∀ i,i<ops.length→i∈L)→MidS g ops (kn (some t)) ds (hp (some t) (cntS eff L)) L c w a→APost g Q c (hp (some t) (cntS eff L)) w .normal a w:=fun L t c w a hG hall hm=>by
  have hc:cntS eff L=eff.length:=by
   unfold cntS
   rw [List.countP_eq_length]
   intro i hi
   simpa using hall i (hel i hi)
  rw [hc] at hm ⊢
  exact ⟨.normal,_,c,hdone t hG,.normal,⟨hm.heap,hm.size,fun t v e=>hm.tmps t v e fun j o ho _=>hall j (List.getElem?_eq_some_iff.1 ho).1,hm.defs⟩,.refl _ _ _ _⟩
 intro fuel
 induction fuel with
 | zero=>
  intro L listed hon hl hf θ hθ hG c w a hm
  have hall:∀i,i<ops.length→isOn listed i:=fun i hi=>by
   rcases Classical.em (isOn listed i) with h'|h'
   ·exact h'
   ·have:=left_set (by rw [hl.size];exact hi) h'
    omega
  obtain ⟨t,rfl⟩:=Option.isSome_iff_exists.1 (hθ.1 ((hon e hel0).1 (hall e hel0)))
  refine ⟨?_,hfin L t c w a (hG t rfl) (fun i hi=>(hon i hi).1 (hall i hi)) hm⟩
  apply List.eq_nil_iff_forall_not_mem.2
  intro i hi
  obtain ⟨h1,h2,_⟩:=hl.ready hi
  exact h2 (hall i h1)
 | succ fuel ih=>
  intro L listed hon hl hf θ hθ hG c w a hm
  refine ⟨fun hnil=> ?_,fun i hi=> ?_⟩
  ·exfalso
   have hall:∀i,i<ops.length→isOn listed i:=fun i hi=>by
    rcases Classical.em (isOn listed i) with h'|h'
    ·exact h'
    ·exact absurd hnil (hl.some_ready' hed hi h')
   have:=left_eq (listed:=listed) (m:=ops.length) (n:=ops.length) (Nat.le_refl _) (fun i hi=>⟨fun _=>hi,fun _=>hall i hi⟩)
   rw [hl.size] at hf
   omega
  ·obtain ⟨h1,h2,h3,_⟩:=hl.ready hi
   have hoat:ops[i]? =some ops[i]:=List.getElem?_eq_getElem h1
   generalize ops[i]=o at hoat
   have hiL:i∉L:=fun h=>h2 ((hon i h1).2 h)
   have hcl:∀(j:Nat) o',ops[j]? =some o'→isOn listed j→∀e∈binding o',isOn listed e:=hl.closed
   have hanc:∀x∈(ancs ops []).getD i [],x∈L:=fun x hx=>by
    have hlt:=anc_lt hok i x hx
    refine (hon x (by omega)).1 (ancs_ok (ops:=ops) (listed:=isOn listed) hcl [] rfl rfl (fun j' _ hlt=>by simp at hlt) i (fun o' ho' e he=> ?_) h1 x hx)
    exact h3 o' ho' e he
   have hancL:∀j∈L,j<ops.length→∀x∈(ancs ops []).getD j [],x∈L:=fun j hj hjl x hx=>by
    have hlt:=anc_lt hok j x hx
    exact (hon x (by omega)).1 (ancs_ok (ops:=ops) (listed:=isOn listed) hcl [] rfl rfl (fun j' _ hlt=>by simp at hlt) j (fun o' ho' e he=>hcl j o' ho' ((hon j hjl).2 hj) e he) hjl x hx)
   have hbd0:=allLt_spec hbd i h1
   obtain ⟨b,hb⟩:∃b,bd[i]? =some b:=by
    cases hx:bd[i]? with
    |none=>rw [hx] at hbd0;cases hbd0
    |some b=>exact ⟨b,rfl⟩
   have hbd':=allLt_spec hbd i h1
   simp only [hb,Bool.and_eq_true,decide_eq_true_eq] at hbd'
   have hk1:b.1≤cntS eff L:=Nat.le_trans hbd'.1 (List.countP_mono_left fun x hx hc=>by
    have:=hanc x (by simpa using hc)
    simpa using this)
   have hk2:cntS eff L≤b.1+b.2:=Nat.le_trans (List.countP_mono_left fun x hx hc=>by
    have hxL:x∈L:=by simpa using hc
    have hne:x≠i:=fun e=>hiL (e ▸ hxL)
    have hnc:i∉(ancs ops []).getD x []:=fun h=>hiL (hancL x hxL (hel x hx) i h)
    simp only [Bool.and_eq_true,bne_iff_ne,ne_eq,Bool.not_eq_true']
    exact ⟨hne,by simpa using hnc⟩) hbd'.2
   have hcc:=cntS_cons hiL hnd
   have hspi:=allLt_spec hsp
   have hl':=hl.set hi
   have hon':∀j,j<ops.length→(isOn (listed.setIfInBounds i true) j↔j∈i::L):=fun j hj=>by
    rw [isOn_set (by rw [hl.size];exact h1),hon j hj]
    simp [eq_comm]
   have hfuel:fuel=left (listed.setIfInBounds i true) (listed.setIfInBounds i true).size:=by
    have:=left_set (by rw [hl.size];exact h1) h2
    simp;omega
   have hd1:∀d,o.dst=some d→d<g.N.n:=fun d e=>by
    have:=hok.dsts
    unfold dstsOk at this
    rw [List.all_eq_true] at this
    have:=this o (List.mem_iff_getElem?.2 ⟨_,hoat⟩)
    rw [e] at this
    simpa using this
   have hs1':SRel g.N c (ASt.only ops o ⟨kn θ,ds,hp θ (cntS eff L)⟩) w a:=by
    refine ⟨hm.heap,hm.size,fun t x e=> ?_,hm.defs⟩
    obtain ⟨e1,e2⟩:=lk_restrict e
    exact hm.tmps t x e2 fun j p hp hd=>hanc j (hok.reads i j o p t h1 (List.getElem?_eq_some_iff.1 hp).1 hoat hp hd e1)
   have hmid:∀ (θ' :Option T) (c':Ctx) (a':Act) (w':World) (u:Value),(∀ x v,lk x (kn θ')=some v→o.dst≠some x→ (∀ j o',ops[j]? =some o'→o'.dst=some x→j∈L)→lk x (kn θ)=some v)→c.le c'→HRel c' (hp θ' (cntS eff (i::L))) w'→DRel g.N.B c' (hp θ' (cntS eff (i::L))) w' ds a'.defers→a'.tmps=(a.put o.dst u).tmps→ (∀ d,o.dst=some d→∀v,lk d (kn θ')=some v→VRel c' v u)→MidS g ops (kn θ') ds (hp θ' (cntS eff (i::L))) (i::L) c' w' a':=by
    intro θ' c' a' w' u hsame hle hh hdf ht hu
    refine ⟨hh,?_,?_,hdf⟩
    ·rw [ht,←hm.size];cases o.dst<;> simp [Act.put]
    ·intro t x e hx
     by_cases hdt:o.dst=some t
     ·refine ⟨u,?_,hu t hdt x e⟩
      rw [ht,hdt]
      simp [Act.put,hm.size,hd1 t hdt]
     ·have hxL:∀j o',ops[j]? =some o'→o'.dst=some t→j∈L:=fun j o' ho' hd'=>by
       rcases List.mem_cons.1 (hx j o' ho' hd') with rfl|h'
       ·rw [hoat] at ho';cases ho';exact absurd hd' hdt
       ·exact h'
      obtain ⟨x',k1,k2⟩:=hm.tmps t x (hsame t x e hdt hxL) hxL
      refine ⟨x',?_,k2.mono hle⟩
      rw [ht]
      cases hd:o.dst with
      |none=>simpa [Act.put] using k1
      |some d=>
       have hne:d≠t:=fun e=>hdt (by rw [hd,e])
       simp [Act.put,hne,k1]
   unfold wpOpIn
   have hoa:ops.toArray[i]? =some o:=by simpa using hoat
   simp only [hoa]
   have hord:(i<e→e∉L)∧(i=e→e∉L)∧(e<i→e∈L):=by
    refine ⟨fun hlt he=> ?_,fun h he=>hiL (h ▸ he),fun hlt=> ?_⟩
    ·have:=hspi i h1
     simp only [if_pos hlt,Bool.or_eq_true,decide_eq_true_eq] at this
     rcases this with h|h
     ·omega
     ·exact hiL (hancL e he hel0 i (by simpa using h))
    ·have:=hspi i h1
     simp only [if_neg (show ¬i<e by omega),Bool.or_eq_true,decide_eq_true_eq] at this
     rcases this with h|h
     ·omega
     ·exact hanc e (by simpa using h)
   by_cases hie:i=e
   ·subst hie
    have hθn:θ=none:=by
     cases θ with
     |none=>rfl
     |some t=>exact absurd (hθ.2 rfl) (hord.2.1 rfl)
    subst hθn
    rw [hoe] at hoat;cases hoat
    have hw:=hse b hb _ hk1 hk2
    have hcc2:cntS eff (i::L)=cntS eff L+1:=by rw [hcc,hee];rfl
    rw [← hcc2] at hw
    unfold stepZ at hw
    rcases wantW_elim hs1' hw with ⟨hwn,hr⟩|⟨hwn,hr⟩
    ·rw [if_pos hwn]
     refine opW_ok hd1 hr c w a _ _ hs1' ?_ ?_
     ·rintro st' c' a' w' ⟨t,hGt,⟨hKH,hKd⟩,hK⟩ hs' ht ⟨hle,u,hu⟩
      have hh:=hs'.heap
      have hdf:=hs'.defs
      rw [hKH] at hh hdf
      rw [hKd] at hdf
      rw [hKH] at ht
      have:=ih (i::L) _ hon' hl' hfuel (some t) (by simp) (fun t' h=>by cases h;exact hGt) c' w' a' (hmid (some t) c' a' w' u (fun x v hx hdx hjL=>hkn t hGt x v hx hdx fun j o' ho' hd'=>by
       have hjl:=hjL j o' ho' hd'
       have hjlt:=(List.getElem?_eq_some_iff.1 ho').1
       rcases Nat.lt_trichotomy j i with h|h|h
       ·exact h
       ·exact absurd (h ▸ hjl) hiL
       ·have h4:=hspi j hjlt
        simp only [if_neg (show ¬j<i by omega),Bool.or_eq_true,decide_eq_true_eq] at h4
        rcases h4 with h4|h4
        ·omega
        ·exact absurd (hancL j hjl hjlt i (by simpa using h4)) hiL) hle hh hdf hu fun d hd v hv=>by
       obtain ⟨v',k1,k2⟩:=hs'.tmps d v (hK d hd v hv)
       rw [hu,hd] at k1
       have hlt:d<a.tmps.size:=by rw [hm.size];exact hd1 d hd
       simp [Act.put,hlt] at k1
       rw [k1];exact k2)
      exact any_tail.wpAny_mono (fun e a2 w2 hp=>hp.back ht) this
     ·intro v v' st' c' a' w' hKp
      exact hKp.elim
    ·exact hr.elim
   ·have hw:stepS g ops o (kn θ) ds (hp θ (cntS eff L)) (hp θ (cntS eff (i::L))):=by
     rw [hcc]
     rcases Nat.lt_or_ge i e with hlt|hge
     ·have hθn:θ=none:=by
       cases θ with
       |none=>rfl
       |some t=>exact absurd (hθ.2 rfl) (hord.1 hlt)
      subst hθn
      exact hs1 i o b hlt hoat hb _ hk1 hk2
     ·have hgt:e<i:=by omega
      obtain ⟨t,rfl⟩:=Option.isSome_iff_exists.1 (hθ.1 (hord.2.2 hgt))
      exact hs2 t (hG t rfl) i o b hgt hoat hb _ hk1 hk2
    have hθ2:e∈i::L↔θ.isSome=true:=by
     rw [List.mem_cons,←hθ]
     exact ⟨fun h=>h.resolve_left (fun h=>hie h.symm),.inr⟩
    unfold stepS at hw
    rcases wantW_elim hs1' hw with ⟨hwn,hr⟩|⟨hwn,hr⟩
    ·rw [if_pos hwn]
     refine opW_ok hd1 hr c w a _ _ hs1' ?_ ?_
     ·rintro st' c' a' w' ⟨⟨hKH,hKd⟩,hK⟩ hs' ht ⟨hle,u,hu⟩
      have hh:=hs'.heap
      have hdf:=hs'.defs
      rw [hKH] at hh hdf
      rw [hKd] at hdf
      rw [hKH] at ht
      have:=ih (i::L) _ hon' hl' hfuel θ hθ2 hG c' w' a' (hmid θ c' a' w' u (fun x v hx _ _=>hx) hle hh hdf hu fun d hd v hv=>by
       obtain ⟨v',k1,k2⟩:=hs'.tmps d v (hK d hd v hv)
       rw [hu,hd] at k1
       have hlt:d<a.tmps.size:=by rw [hm.size];exact hd1 d hd
       simp [Act.put,hlt] at k1
       rw [k1];exact k2)
      exact any_tail.wpAny_mono (fun e a2 w2 hp=>hp.back ht) this
     ·intro v v' st' c' a' w' hKp
      exact hKp.elim
    ·rw [if_neg (by rw [hwn];simp)]
     refine ⟨about_any g.lr,?_⟩
     have hh:=hm.heap
     have hdf:=hm.defs
     rw [← hr.1] at hh hdf
     have:=ih (i::L) _ hon' hl' hfuel θ hθ2 hG c w (a.put o.dst undef) (hmid θ c _ w undef (fun x v hx _ _=>hx) (Ctx.le_refl c) hh (by
      have:(a.put o.dst undef).defers=a.defers:=by cases o.dst<;> rfl
      rw [this];exact hdf) rfl fun d hd v hv=>by
      rw [hr.2 d hd v hv];exact .tuple .nil)
     rw [hr.1] at this
     exact this
theorem any_ge {ops:List Oper} {e x:Nat} (h:((ops.drop e).any fun o=>o.dst==some x)=true):∃(j:Nat) (o:Oper),e≤j∧ops[j]? =some o∧o.dst=some x:=by
 rw [List.any_eq_true] at h
 obtain ⟨o,ho,hd⟩:=h
 obtain ⟨j,hj⟩:=List.getElem?_of_mem ho
 rw [List.getElem?_drop] at hj
 exact ⟨e+j,o,by omega,hj,by simpa using hd⟩
theorem AWP.regionZ {T:Type} {g:Cfg} {Q:AExit→ASt→Prop} {env:List (Nat×Value)} {ds:List ADef} {H:AHeap} {id:Nat} {ops:List Oper} (e K0:Nat) {oe:Oper} (G:T→Prop) (eff:List Nat) (bd:List (Nat×Nat)) (ts1 ts2:List Nat) (hs1:List AHeap) (hs2:T→List AHeap) (vals1:List (Nat×Value)) (vals2:T→List (Nat×Value)) (hm:g.P.follows .mixedOrders=true)
  (hok:anyOk g.N.n ops ops.length=true) (hch:(nodupB eff&&bdOk ops eff bd&&eff.all (fun i=>decide (i<ops.length))&&edgesOk ops&&splitOk ops e&&eff.contains e)=true) (hoe:ops[e]? =some oe) (hbe:bd[e]? =some (K0,0))
  (hts1:ts1.all (fun t=>ops.any fun o=>o.dst==some t)=true) (hts2:ts2.all (fun t=>(ops.drop e).any fun o=>o.dst==some t)=true) (hv1:vals1.map (·.1)=ts1) (hv2:∀t,(vals2 t).map (·.1)=ts2)
  (hst1:eachB (fun j o k=>stepS g ops o (vals1++env) ds (hpL (H::hs1) k) (hpL (H::hs1) (if eff.contains j then k+1 else k))) 0 (ops.take e) (bd.take e))
  (hste:stepZ g ops oe (vals1++env) (fun t=>vals2 t++(vals1++env)) ds (hpL (H::hs1) K0) (fun t=>hpL (H::(hs1++hs2 t)) (K0+1)) G)
  (hst2:∀t,G t→eachB (fun j o k=>stepS g ops o (vals2 t++(vals1++env)) ds (hpL (H::(hs1++hs2 t)) k) (hpL (H::(hs1++hs2 t)) (if eff.contains j then k+1 else k))) (e+1) (ops.drop (e+1)) (bd.drop (e+1)))
  (hdone:∀t,G t→Q .normal ⟨vals2 t++(vals1++env),ds,hpL (H::(hs1++hs2 t)) eff.length⟩):AWP g (.region id ops.toArray true) Q ⟨env,ds,H⟩:=by
 intro c w a hs
 simp only [Bool.and_eq_true] at hch
 obtain ⟨⟨⟨⟨⟨hnd,hbd⟩,hel⟩,hed⟩,hsp⟩,hee⟩:=hch
 refine wpIn_region_any hm ?_
 obtain ⟨hh,ht⟩:=hs.heap.drew g.n0
 have hc0:cntS eff []=0:=by unfold cntS;rw [List.countP_eq_zero];intro i _;simp
 have hel0:=(List.getElem?_eq_some_iff.1 hoe).1
 have hb:∀t v,lk t (vals1++env)=some v→ (∀ o∈ops,o.dst≠some t)→lk t env=some v:=fun t v h hn=>lk_vals h fun hm=>by
  rw [hv1] at hm
  have:=List.all_eq_true.1 hts1 t hm
  rw [List.any_eq_true] at this
  obtain ⟨o,ho,h⟩:=this
  exact hn o ho (by simpa using h)
 have:=inv_Z (g:=g) (Q:=Q) (ops:=ops) (kn:=fun θ:Option T=>match θ with|none=>vals1++env|some t=>vals2 t++(vals1++env)) (ds:=ds) (eff:=eff) (bd:=bd) (fun θ k=>match θ with|none=>hpL (H::hs1) k|some t=>hpL (H::(hs1++hs2 t)) k) G e hoe hsp hee
  (fun t _ x v hx hdx hj=>lk_vals hx fun hmem=>by
   rw [hv2] at hmem
   obtain ⟨j,o,h1,h2,h3⟩:=any_ge (List.all_eq_true.1 hts2 x hmem)
   have:=hj j o h2 h3
   omega)
  (AnyOk.of hok) hnd hbd (fun i hi=>by simpa using List.all_eq_true.1 hel i hi) hed
  (fun j o b hlt ho hb k h1 h2=>by
   obtain ⟨b',g1,g2⟩:=eachB_get (ops.take e) (bd.take e) 0 hst1 j o (by rw [List.getElem?_take_of_lt hlt];exact ho)
   rw [List.getElem?_take_of_lt hlt,hb] at g1
   cases g1
   have:=g2 k h1 h2
   rw [Nat.zero_add] at this
   exact this)
  (fun t hG j o b hlt ho hb k h1 h2=>by
   obtain ⟨b',g1,g2⟩:=eachB_get (ops.drop (e+1)) (bd.drop (e+1)) (e+1) (hst2 t hG) (j - (e+1)) o (by rw [List.getElem?_drop,show e+1+(j - (e+1))=j by omega];exact ho)
   rw [List.getElem?_drop,show e+1+(j - (e+1))=j by omega,hb] at g1
   cases g1
   have:=g2 k h1 h2
   rw [show e+1+(j - (e+1))=j by omega] at this
   exact this)
  (fun b hb k h1 h2=>by
   rw [hbe] at hb;cases hb
   have:k=K0:=by simp only at h1 h2;omega
   subst this
   exact hste)
  hdone ops.length [] (Array.replicate ops.length false) ?_ ?_ ?_ none ?_ ?_ c w.drew a ?_
 ·rw [hc0] at this
  have:=any_tail.wpAny_mono (fun e a2 w2 hp=>hp.back ht) this
  simpa using this
 ·intro i hi
  exact ⟨fun h=>absurd h (not_isOn_replicate _ _),fun h=>by cases h⟩
 ·refine ⟨by simp,fun j o ho hj=> ?_⟩
  exact absurd hj (not_isOn_replicate _ _)
 ·have:=left_eq (listed:=Array.replicate ops.length false) (m:=0) (n:=ops.length) (Nat.zero_le _) (fun i hi=>⟨fun h=>absurd h (not_isOn_replicate _ _),fun h=>by omega⟩)
  simpa using this.symm
 ·exact ⟨fun h=>(by cases h),fun h=>(by cases h)⟩
 ·intro t h;cases h
 ·rw [hc0]
  exact ⟨hh,hs.size,fun t v e hx=>hs.tmps t v (hb t v e fun o ho hd=>by
   obtain ⟨j,hj⟩:=List.getElem?_of_mem ho
   have:=hx j o hj hd
   cases this),hs.defs.step (n:=g.n0) (Ctx.le_refl c) ht⟩
end Go.Aw
