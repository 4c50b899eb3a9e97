/-
  A drawing region by all its orders: a tree of the orders that its edges leave open.
-/
import Derived.Test.YtdeoaadkngiilaaDoorAw29
set_option linter.unusedVariables false
set_option linter.unusedSimpArgs false
namespace Go.Aw
/-- Orders: one path, one operation ahead of others, or either of two. -/
inductive Tr where
  | run (l : List Nat)
  | step (j : Nat) (t : Tr)
  | both (a b : Tr)
def Tr.firsts : Tr → List Nat
  | .run l => l.take 1
  | .step j _ => [j]
  | .both a b => a.firsts ++ b.firsts
def enabled (ops : List Oper) (L : List Nat) : List Nat := (List.range ops.length).filter fun i => !L.contains i && (match ops[i]? with | some o => (binding o).all fun e => L.contains e | none => false)
def okRun (ops : List Oper) : List Nat → List Nat → Bool
  | _, [] => true
  | L, j :: r => (enabled ops L).contains j && ((enabled ops (j :: L)).all fun i => (r.take 1).contains i) && okRun ops (j :: L) r
def okIn (ops : List Oper) : List Nat → Tr → Bool
  | L, .run l => okRun ops L l
  | L, .step j t => (enabled ops L).contains j && ((enabled ops (j :: L)).all fun i => t.firsts.contains i) && okIn ops (j :: L) t
  | L, .both a b => okIn ops L a && okIn ops L b
def treeOk (n : Nat) (ops : List Oper) (t : Tr) : Bool := dstsOk n ops && edgesOk ops && ((enabled ops []).all fun i => t.firsts.contains i) && okIn ops [] t
def pickO (ops : List Oper) : List Nat → List Oper
  | [] => []
  | j :: r => match ops[j]? with
    | some o => o :: pickO ops r
    | none => pickO ops r
def treeW (g : Cfg) (ops : List Oper) : Tr → ASt → (ASt → Prop) → (Value → ASt → Prop) → Prop
  | .run l, st, K, Kp => regionW g ops (pickO ops l) st K Kp
  | .step j t, st, K, Kp => wth ops[j]? fun o => wantW ops o st (opW g o st (fun st' => treeW g ops t st' K Kp) Kp) (treeW g ops t (st.put o.dst noVal) K Kp)
  | .both a b, st, K, Kp => treeW g ops a st K Kp ∧ treeW g ops b st K Kp
theorem enabled_lt {ops : List Oper} {L : List Nat} {i : Nat} (h : i ∈ enabled ops L) : i < ops.length := by
  have := List.mem_filter.1 h
  exact List.mem_range.1 this.1
theorem tree_pick {g : Cfg} {ops : List Oper} {K : ASt → Prop} {Kp : Value → ASt → Prop} {st : ASt} {L : List Nat} {j : Nat} {o : Oper} (ho : ops[j]? = some o) : ∀ (t : Tr), okIn ops L t = true → treeW g ops t st K Kp → j ∈ t.firsts →
    ∃ t', (∀ i ∈ enabled ops (j :: L), i ∈ t'.firsts) ∧ okIn ops (j :: L) t' = true ∧ wantW ops o st (opW g o st (fun st' => treeW g ops t' st' K Kp) Kp) (treeW g ops t' (st.put o.dst noVal) K Kp)
  | .run [], _, _, hj => by simp [Tr.firsts] at hj
  | .run (i :: r), hok, ht, hj => by
    simp [Tr.firsts] at hj
    subst hj
    simp only [okIn, okRun, Bool.and_eq_true] at hok
    refine ⟨.run r, fun i hi => ?_, hok.2, ?_⟩
    · have := List.all_eq_true.1 hok.1.2 i hi
      simpa [Tr.firsts] using this
    · unfold treeW pickO at ht
      rw [ho] at ht
      exact ht
  | .step i t, hok, ht, hj => by
    simp [Tr.firsts] at hj
    subst hj
    simp only [okIn, Bool.and_eq_true] at hok
    refine ⟨t, fun i hi => ?_, hok.2, ?_⟩
    · have := List.all_eq_true.1 hok.1.2 i hi
      simpa using this
    · unfold treeW at ht
      rw [ho, wth_some] at ht
      exact ht
  | .both a b, hok, ht, hj => by
    simp only [okIn, Bool.and_eq_true] at hok
    unfold treeW at ht
    simp only [Tr.firsts, List.mem_append] at hj
    rcases hj with hj | hj
    · exact tree_pick ho a hok.1 ht.1 hj
    · exact tree_pick ho b hok.2 ht.2 hj
theorem tree_done {g : Cfg} {ops : List Oper} {K : ASt → Prop} {Kp : Value → ASt → Prop} {st : ASt} {L : List Nat} (hL : enabled ops L = []) : ∀ (t : Tr), okIn ops L t = true → treeW g ops t st K Kp → K st
  | .run [], _, ht => ht
  | .run (i :: r), hok, _ => by
    simp only [okIn, okRun, Bool.and_eq_true, hL] at hok
    simp at hok
  | .step i t, hok, _ => by
    simp only [okIn, Bool.and_eq_true, hL] at hok
    simp at hok
  | .both a b, hok, ht => by
    simp only [okIn, Bool.and_eq_true] at hok
    exact tree_done hL a hok.1 ht.1
theorem Lst.some_ready' {ops : List Oper} {listed : Array Bool} (h : Lst ops listed) (hed : edgesOk ops = true) {j : Nat} (hj : j < ops.length) (hn : ¬ isOn listed j) : Region.ready .any ops.toArray listed ≠ [] := by
  obtain ⟨i, ⟨hi1, hi2⟩, hmin⟩ := least (p := fun i => i < ops.length ∧ ¬ isOn listed i) ⟨j, hj, hn⟩
  have : i ∈ Region.ready .any ops.toArray listed := by
    refine mem_ready.2 ⟨(getD_size (by rw [h.size]; exact hi1)).2 hi2, ops[i], by simp [hi1], fun e he hb => ?_⟩
    have hlt : e.on < i := by
      have := allLt_spec hed i hi1
      rw [List.getElem?_eq_getElem hi1] at this
      simpa using List.all_eq_true.1 this e.on (binding_mem he hb)
    rcases Classical.em (isOn listed e.on) with h' | h'
    · exact h'
    · have := hmin e.on ⟨by omega, h'⟩; omega
  intro he
  rw [he] at this; cases this
theorem tree_run {g : Cfg} {Q : AExit → ASt → Prop} {ops : List Oper} (hds : dstsOk g.N.n ops = true) (hed : edgesOk ops = true) : ∀ (fuel : Nat) (t : Tr) (L : List Nat) (listed : Array Bool) (st : ASt), (∀ i, i < ops.length → (isOn listed i ↔ i ∈ L)) → Lst ops listed → fuel = left listed listed.size →
    (∀ i ∈ enabled ops L, i ∈ t.firsts) → okIn ops L t = true → treeW g ops t st (fun st' => Q .normal st') (fun v st' => Q (.panic v) st') → ∀ c w a, SRel g.N c st w a → wpAnyIn (fenceOf g.lr) 0 g.P .any ops.toArray (APost g Q c st.H w) fuel listed a w := by
  have hen : ∀ (L : List Nat) (listed : Array Bool), (∀ i, i < ops.length → (isOn listed i ↔ i ∈ L)) → Lst ops listed → ∀ i ∈ Region.ready .any ops.toArray listed, i ∈ enabled ops L := fun L listed hon hl i hi => by
    obtain ⟨h1, h2, h3, _⟩ := hl.ready hi
    refine List.mem_filter.2 ⟨List.mem_range.2 h1, ?_⟩
    rw [List.getElem?_eq_getElem h1]
    simp only [Bool.and_eq_true, Bool.not_eq_true', List.all_eq_true]
    refine ⟨?_, fun e he => ?_⟩
    · have : ¬ i ∈ L := fun h => h2 ((hon i h1).2 h)
      simpa using this
    · have hoe := h3 _ (List.getElem?_eq_getElem h1) e he
      have hlt : e < i := by
        have := allLt_spec hed i h1
        rw [List.getElem?_eq_getElem h1] at this
        simpa using List.all_eq_true.1 this e he
      simpa using (hon e (by omega)).1 hoe
  intro fuel
  induction fuel with
  | zero =>
    intro t L listed st hon hl hf hfi hok ht c w a hs
    have hall : ∀ i, i < ops.length → isOn listed i := fun i hi => by
      rcases Classical.em (isOn listed i) with h' | h'
      · exact h'
      · have := left_set (by rw [hl.size]; exact hi) h'
        omega
    have hnil : enabled ops L = [] := by
      apply List.eq_nil_iff_forall_not_mem.2
      intro i hi
      have h1 := enabled_lt hi
      have h2 := (List.mem_filter.1 hi).2
      have h3 := (hon i h1).1 (hall i h1)
      simp [h3] at h2
    refine ⟨?_, .normal, st, c, tree_done hnil t hok ht, .normal, hs, .refl _ _ _ _⟩
    apply List.eq_nil_iff_forall_not_mem.2
    intro i hi
    obtain ⟨h1, h2, _⟩ := hl.ready hi
    exact h2 (hall i h1)
  | succ fuel ih =>
    intro t L listed st hon hl hf hfi hok ht c w a hs
    refine ⟨fun hnil => ?_, fun i hi => ?_⟩
    · exfalso
      have hall : ∀ i, i < ops.length → isOn listed i := fun i hi => by
        rcases Classical.em (isOn listed i) with h' | h'
        · exact h'
        · exact absurd hnil (hl.some_ready' hed hi h')
      have := left_eq (listed := listed) (m := ops.length) (n := ops.length) (Nat.le_refl _) (fun i hi => ⟨fun _ => hi, fun _ => hall i hi⟩)
      rw [hl.size] at hf
      omega
    · have hie := hen L listed hon hl i hi
      obtain ⟨h1, h2, _, _⟩ := hl.ready hi
      have hoat : ops[i]? = some ops[i] := List.getElem?_eq_getElem h1
      generalize ops[i] = o at hoat
      obtain ⟨t', hfi', hok', hw⟩ := tree_pick hoat t hok ht (hfi i hie)
      have hl' := hl.set hi
      have hon' : ∀ j, j < ops.length → (isOn (listed.setIfInBounds i true) j ↔ j ∈ i :: L) := fun j hj => by
        rw [isOn_set (by rw [hl.size]; exact h1), hon j hj]
        simp [eq_comm]
      have hfuel : fuel = left (listed.setIfInBounds i true) (listed.setIfInBounds i true).size := by
        have := left_set (by rw [hl.size]; exact h1) h2
        simp; omega
      have hd1 : ∀ d, o.dst = some d → d < g.N.n := fun d e => by
        unfold dstsOk at hds
        rw [List.all_eq_true] at hds
        have := hds o (List.mem_iff_getElem?.2 ⟨_, hoat⟩)
        rw [e] at this
        simpa using this
      unfold wpOpIn
      have hoa : ops.toArray[i]? = some o := by simpa using hoat
      simp only [hoa]
      rcases wantW_elim hs hw with ⟨hwn, hr⟩ | ⟨hwn, hr⟩
      · rw [if_pos hwn]
        refine opW_ok hd1 hr c w a _ _ hs ?_ ?_
        · intro st' c' a' w' hK hs' ht _
          have := ih t' (i :: L) _ st' hon' hl' hfuel hfi' hok' hK c' w' a' hs'
          exact any_tail.wpAny_mono (fun e a2 w2 hp => hp.back ht) this
        · intro v v' st' c' a' w' hKp hv hs' ht
          exact ⟨.panic v, st', c', hKp, .panic hv, hs', ht⟩
      · rw [if_neg (by rw [hwn]; simp)]
        refine ⟨about_any g.lr, ?_⟩
        have hs' : SRel g.N c (st.put o.dst noVal) w (a.put o.dst undef) := hs.put hd1 (.tuple .nil)
        have := ih t' (i :: L) _ (st.put o.dst noVal) hon' hl' hfuel hfi' hok' hr c w _ hs'
        rw [put_H] at this
        exact this
theorem AWP.regionT {g : Cfg} {Q : AExit → ASt → Prop} {st : ASt} {id : Nat} {ops : List Oper} (t : Tr) (hm : g.P.follows .mixedOrders = true) (hok : treeOk g.N.n ops t = true)
    (h : treeW g ops t st (fun st' => Q .normal st') (fun v st' => Q (.panic v) st')) : AWP g (.region id ops.toArray true) Q st := by
  intro c w a hs
  simp only [treeOk, Bool.and_eq_true] at hok
  obtain ⟨⟨⟨hds, hed⟩, hfi⟩, hin⟩ := hok
  refine wpIn_region_any hm ?_
  obtain ⟨hh, ht⟩ := hs.heap.drew g.n0
  have hs' : SRel g.N c st w.drew a := ⟨hh, hs.size, hs.tmps, hs.defs.step (n := g.n0) (Ctx.le_refl c) ht⟩
  have := tree_run hds hed ops.length t [] (Array.replicate ops.length false) st ?_ ?_ ?_ ?_ hin h c w.drew a hs'
  · have := any_tail.wpAny_mono (fun e a2 w2 hp => hp.back ht) this
    simpa using this
  · intro i hi
    exact ⟨fun h => absurd h (not_isOn_replicate _ _), fun h => by cases h⟩
  · refine ⟨by simp, fun j o ho hj => ?_⟩
    exact absurd hj (not_isOn_replicate _ _)
  · have := left_eq (listed := Array.replicate ops.length false) (m := 0) (n := ops.length) (Nat.zero_le _) (fun i hi => ⟨fun h => absurd h (not_isOn_replicate _ _), fun h => by omega⟩)
    simpa using this.symm
  · intro i hi
    have := List.all_eq_true.1 hfi i hi
    simpa using this
theorem treeW_run {g : Cfg} {ops : List Oper} {l : List Nat} {st : ASt} {K : ASt → Prop} {Kp : Value → ASt → Prop} : treeW g ops (.run l) st K Kp = regionW g ops (pickO ops l) st K Kp := rfl
theorem treeW_step {g : Cfg} {ops : List Oper} {j : Nat} {t : Tr} {st : ASt} {K : ASt → Prop} {Kp : Value → ASt → Prop} : treeW g ops (.step j t) st K Kp = wth ops[j]? fun o => wantW ops o st (opW g o st (fun st' => treeW g ops t st' K Kp) Kp) (treeW g ops t (st.put o.dst noVal) K Kp) := rfl
theorem treeW_both {g : Cfg} {ops : List Oper} {a b : Tr} {st : ASt} {K : ASt → Prop} {Kp : Value → ASt → Prop} : treeW g ops (.both a b) st K Kp = (treeW g ops a st K Kp ∧ treeW g ops b st K Kp) := rfl
theorem pickO_cons {ops : List Oper} {j : Nat} {r : List Nat} {o : Oper} (h : ops[j]? = some o) : pickO ops (j :: r) = o :: pickO ops r := by simp [pickO, h]
end Go.Aw
