/-
  Links: what a link's state is in memory; telling a time; the small questions.
-/
import Derived.Test.YtnfkbgpbligloaaDoorW1
set_option linter.unusedVariables false
set_option linter.unusedSimpArgs false
set_option maxRecDepth 20000
set_option maxHeartbeats 4000000
namespace Go.Proofs.YtnfkbgpbligloaaDoor
open Go Go.Aw Go.Proofs
/-- A packet. -/
structure Pc where
  id : Int
  size : Int
  sent : Int
  begun : Int
  time : Int
  body : List UInt8
def Pc.c (p : Pc) : List Value := [.int .i64 p.id, .int .i64 p.size, .int .i64 p.sent, .int .i64 p.begun, .int .i64 p.time, .string (bs p.body)]
/-- A packet that comes. -/
structure Cm where
  time : Int
  id : Int
  copy : Int
  p : Pc
structure Lk where
  pipe : Pp
  nums : List Int
  now : Int
  free : Int
  id : Int
  wait : List (Int × Int)
  under : List Cm
  put : Int
  arr : Int
  lost : Int
  drop : Int
  dbl : Int
def Lk.c (s : Lk) (vn vw vu : Value) : List Value := [.int .i64 s.pipe.delay, .int .i64 s.pipe.rate, .int .i64 s.pipe.room, .int .i64 s.pipe.loss, .int .i64 s.pipe.dbl, .int .i64 s.pipe.jit, vn, .int .i64 s.now, .int .i64 s.free, .int .i64 s.id, vw, vu, .int .i64 s.put, .int .i64 s.arr, .int .i64 s.lost, .int .i64 s.drop, .int .i64 s.dbl]
/-- Objects that links change. -/
def mutK (k : CK) : Bool := k.own && (k.e == 52 || k.e == 66 || (k.e == 44 && k.esz == 6))
def Mut (H : AHeap) (S : List Nat) : Prop := ∀ s ∈ S, ∃ cs k, H[s]? = some (.cells cs k) ∧ mutK k = true
/-- What links do not change is as it was. -/
def Fix (H H2 : AHeap) : Prop := ∀ (j : Nat) (cs : List Value) (k : CK), H[j]? = some (.cells cs k) → mutK k = false → H2[j]? = some (.cells cs k)
theorem Fix.refl (H : AHeap) : Fix H H := fun _ _ _ h _ => h
theorem Fix.trans {H H1 H2 : AHeap} (h : Fix H H1) (k : Fix H1 H2) : Fix H H2 := fun j cs kk a b => k j cs kk (h j cs kk a b) b
theorem Frm.fix {S : List Nat} {H H2 : AHeap} (h : Frm S H H2) (hm : Mut H S) : Fix H H2 := fun j cs k hj hk => h.get hj fun hs => by
  obtain ⟨cs', k', e, hk'⟩ := hm j hs
  rw [hj] at e
  cases e
  rw [hk] at hk'; cases hk'
theorem Mut.nil (H : AHeap) : Mut H [] := fun _ h => absurd h (by simp)
theorem Fix.more (H X : AHeap) : Fix H (H ++ X) := fun j cs k h _ => by rw [hgetl (lt_of_get h)]; exact h
/-- Objects that nobody changes, and that are no packets. -/
def fixK (k : CK) : Bool := !mutK k && (k.e != 44 && (k.e != 74 && k.e != 5))
theorem fixK_mut {k : CK} (h : fixK k = true) : mutK k = false := by
  unfold fixK at h
  simp only [Bool.and_eq_true, Bool.not_eq_true'] at h
  exact h.1
/-- In H the slice v, of elements of m cells, reads l; no link changes what it lies in. -/
def RdF (H : AHeap) (m : Nat) (v : Value) (l : List (List Value)) : Prop :=
  (v = .slice none 0 0 ∧ l = []) ∨ ∃ i off cap cs k, v = .slice (some ⟨i, off, none⟩) l.length cap ∧ l.length ≤ cap ∧ H[i]? = some (.cells cs k) ∧ fixK k = true ∧ (k.esz = m ∨ k.esz = 0) ∧ (l ≠ [] → off + l.length * m ≤ cs.length) ∧ ∀ j r, l[j]? = some r → (cs.drop (off + j * m)).take m = r
theorem RdF.fix {H H2 : AHeap} {m : Nat} {v : Value} {l : List (List Value)} (h : RdF H m v l) (hf : Fix H H2) : RdF H2 m v l := by
  rcases h with h | ⟨i, off, cap, cs, k, e, hc, hi, hk, hz, hl, hr⟩
  · exact .inl h
  · exact .inr ⟨i, off, cap, cs, k, e, hc, hf i cs k hi (fixK_mut hk), hk, hz, hl, hr⟩
/-- A packet's own box changes. -/
theorem RdF.box {H H2 : AHeap} {m b : Nat} {v : Value} {l : List (List Value)} (h : RdF H m v l) (hf : Frm [b] H H2) {csb : List Value} {kb : CK} (hb : H[b]? = some (.cells csb kb)) (he : kb.e = 44) : RdF H2 m v l := by
  rcases h with h | ⟨i, off, cap, cs, k, e, hc, hi, hk, hz, hl, hr⟩
  · exact .inl h
  · refine .inr ⟨i, off, cap, cs, k, e, hc, hf.get hi fun h => ?_, hk, hz, hl, hr⟩
    rw [List.mem_singleton.1 h, hb] at hi
    cases hi
    simp [fixK, he] at hk
theorem RdF.lenT {P : Program} {t : TypeId} {H H' : AHeap} {m : Nat} {v : Value} {l : List (List Value)} {K : Value → AHeap → Prop} (h : RdF H m v l) (hu : tSl P t = true) : Go.Aw.lenW P t v H' K = K (.int .i64 l.length) H' := by
  rcases h with ⟨rfl, rfl⟩ | ⟨i, off, cap, cs, k, rfl, _⟩
  · rw [lenW_sl hu]; rfl
  · rw [lenW_sl hu]
theorem RdF.nil {H : AHeap} {m : Nat} : RdF H m (.slice none 0 0) [] := .inl ⟨rfl, rfl⟩
/-- The function value gives a packet. -/
inductive Gv (H : AHeap) : Value → Pc → Prop
  | one {i : Nat} {k : CK} {p : Pc} : H[i]? = some (.cells p.c k) → mutK k = false → Gv H (.func (.func 22) ⟨[]⟩ ⟨[.pointer (some ⟨i, 0, none⟩)]⟩) p
  | two {i j : Nat} {k k' : CK} {p : Pc} : H[j]? = some (.cells [.func (.func 22) ⟨[]⟩ ⟨[.pointer (some ⟨i, 0, none⟩)]⟩] k') → mutK k' = false → H[i]? = some (.cells p.c k) → mutK k = false →
      Gv H (.func (.func 41) ⟨[]⟩ ⟨[.pointer (some ⟨j, 0, none⟩)]⟩) { p with time := p.time + 1 }
theorem Gv.fix {H H2 : AHeap} {v : Value} {p : Pc} (h : Gv H v p) (hf : Fix H H2) : Gv H2 v p := by
  cases h with
  | one a b => exact .one (hf _ _ _ a b) b
  | two a b c d => exact .two (hf _ _ _ a b) b (hf _ _ _ c d) d
def cmC (u : Cm × Value) : List Value := [.int .i64 u.1.time, .int .i64 u.1.id, .int .i64 u.1.copy, u.2]
def cmsC (us : List (Cm × Value)) : List Value := us.flatMap cmC
theorem cmsC_len (us : List (Cm × Value)) : (cmsC us).length = us.length * 4 := by
  induction us with
  | nil => rfl
  | cons u us ih =>
    have : (cmsC (u :: us)) = cmC u ++ cmsC us := rfl
    rw [this, List.length_append, ih, List.length_cons]; simp [cmC]; omega
theorem cmsC_snoc (us : List (Cm × Value)) (u : Cm × Value) : cmsC (us ++ [u]) = cmsC us ++ cmC u := by
  unfold cmsC; rw [List.flatMap_append]; simp
structure LkP (H : AHeap) (i : Nat) (s : Lk) (vn vw vu : Value) (us : List (Cm × Value)) (Su : List Nat) : Prop where
  at_ : H[i]? = some (.cells (s.c vn vw vu) ⟨52, 0, true, 0, none⟩)
  nums : RdF H 1 vn (s.nums.map fun n => [.int .i64 n])
  wait : RdF H 2 vw (s.wait.map fun w => [.int .i64 w.1, .int .i64 w.2])
  und : us.map (·.1) = s.under
  own : OwnL H 66 4 us.length (cmsC us) vu Su
  give : ∀ u ∈ us, Gv H u.2 u.1.p
/-- At i is a link in the state s; S names what of it changes. -/
def LkAt (H : AHeap) (i : Nat) (s : Lk) (S : List Nat) : Prop := ∃ vn vw vu us Su, LkP H i s vn vw vu us Su ∧ S = i :: Su
def LkTo (H : AHeap) (i : Nat) (S : List Nat) (s : Lk) (H2 : AHeap) : Prop := ∃ S2, LkAt H2 i s S2 ∧ Frm S H H2 ∧ ∀ t ∈ S2, t ∈ S ∨ H.length ≤ t
theorem OwnL.mut {H : AHeap} {n : Nat} {l : List Value} {v : Value} {S : List Nat} (h : OwnL H 66 4 n l v S) : Mut H S := by
  rcases h with ⟨_, _, _, rfl⟩ | ⟨i, o, cs, _, hi, _, _, rfl⟩
  · exact .nil H
  · intro s hs
    simp only [List.mem_singleton] at hs
    subst hs
    exact ⟨_, _, hi, rfl⟩
theorem LkP.mut {H : AHeap} {i : Nat} {s : Lk} {vn vw vu : Value} {us : List (Cm × Value)} {Su : List Nat} (h : LkP H i s vn vw vu us Su) : Mut H (i :: Su) := by
  intro t ht
  rcases List.mem_cons.1 ht with rfl | ht
  · exact ⟨_, _, h.at_, rfl⟩
  · exact OwnL.mut h.own t ht
theorem LkAt.mut {H : AHeap} {i : Nat} {s : Lk} {S : List Nat} (h : LkAt H i s S) : Mut H S := by
  obtain ⟨vn, vw, vu, us, Su, hp, rfl⟩ := h
  exact hp.mut
theorem LkP.out {H : AHeap} {i : Nat} {s : Lk} {vn vw vu : Value} {us : List (Cm × Value)} {Su : List Nat} (h : LkP H i s vn vw vu us Su) : i ∉ Su := by
  intro hi
  rcases h.own with ⟨_, _, _, rfl⟩ | ⟨j, o, cs, _, hj, _, _, rfl⟩
  · simp at hi
  · simp only [List.mem_singleton] at hi
    subst hi
    rw [h.at_] at hj
    simp at hj
theorem LkTo.trans {H H1 H2 : AHeap} {i : Nat} {S S1 : List Nat} {s : Lk} (h1 : Frm S H H1) (hs : ∀ t ∈ S1, t ∈ S ∨ H.length ≤ t) (h2 : LkTo H1 i S1 s H2) : LkTo H i S s H2 := by
  obtain ⟨S2, ha, hf, hm⟩ := h2
  refine ⟨S2, ha, h1.trans hf hs, fun t ht => ?_⟩
  rcases hm t ht with h | h
  · exact hs t h
  · exact .inr (by have := h1.1; omega)
/-- Beside a link. -/
theorem LkAt.frm {H H2 : AHeap} {i : Nat} {s : Lk} {S T : List Nat} (h : LkAt H i s S) (hf : Frm T H H2) (hm : Mut H T) (hd : ∀ t ∈ S, t ∉ T) : LkAt H2 i s S := by
  obtain ⟨vn, vw, vu, us, Su, hp, rfl⟩ := h
  have hx := Frm.fix hf hm
  exact ⟨vn, vw, vu, us, Su, ⟨hf.get hp.at_ (hd i (List.mem_cons_self ..)), hp.nums.fix hx, hp.wait.fix hx, hp.und, hp.own.frm hf fun s hs => hd s (List.mem_cons_of_mem _ hs), fun u hu => (hp.give u hu).fix hx⟩, rfl⟩
theorem LkAt.more {H : AHeap} {i : Nat} {s : Lk} {S : List Nat} (h : LkAt H i s S) (X : AHeap) : LkAt (H ++ X) i s S := h.frm (T := []) Frm.app (.nil H) (by simp)
theorem LkAt.grown {H H2 : AHeap} {i : Nat} {s : Lk} {S : List Nat} (h : LkAt H i s S) (hf : Frm [] H H2) : LkAt H2 i s S := h.frm hf (.nil H) (by simp)
/-- Only the link's own record changes. -/
theorem LkP.to {H H2 : AHeap} {i : Nat} {s s' : Lk} {vn vw vu : Value} {us : List (Cm × Value)} {Su : List Nat} (h : LkP H i s vn vw vu us Su) (hf : Frm [i] H H2) (hi : H2[i]? = some (.cells (s'.c vn vw vu) ⟨52, 0, true, 0, none⟩)) (e1 : s'.nums = s.nums) (e2 : s'.wait = s.wait) (e3 : s'.under = s.under) :
    LkTo H i (i :: Su) s' H2 := by
  have hx := Frm.fix hf (fun t ht => by rw [List.mem_singleton.1 ht]; exact ⟨_, _, h.at_, rfl⟩)
  refine ⟨i :: Su, ⟨vn, vw, vu, us, Su, ⟨hi, e1 ▸ h.nums.fix hx, e2 ▸ h.wait.fix hx, e3 ▸ h.und, h.own.frm hf fun s hs e => ?_, fun u hu => (h.give u hu).fix hx⟩, rfl⟩, hf.mono fun s hs => by rw [List.mem_singleton.1 hs]; exact List.mem_cons_self .., fun t ht => .inl ht⟩
  rw [List.mem_singleton.1 e] at hs
  exact h.out hs
theorem LkP.to' {H H2 : AHeap} {i : Nat} {s s' : Lk} {vn vw vu : Value} {us : List (Cm × Value)} {Su : List Nat} (h : LkP H i s vn vw vu us Su) (hf : Frm [i] H H2) (hi : H2[i]? = some (.cells (s'.c vn vw vu) ⟨52, 0, true, 0, none⟩)) (e1 : s'.nums = s.nums) (e2 : s'.wait = s.wait) (e3 : s'.under = s.under) :
    LkP H2 i s' vn vw vu us Su := by
  have hx := Frm.fix hf (fun t ht => by rw [List.mem_singleton.1 ht]; exact ⟨_, _, h.at_, rfl⟩)
  refine ⟨hi, e1 ▸ h.nums.fix hx, e2 ▸ h.wait.fix hx, e3 ▸ h.und, h.own.frm hf fun s hs e => ?_, fun u hu => (h.give u hu).fix hx⟩
  rw [List.mem_singleton.1 e] at hs
  exact h.out hs
theorem LkP.beside {H H2 : AHeap} {i : Nat} {s : Lk} {vn vw vu : Value} {us : List (Cm × Value)} {Su T : List Nat} (h : LkP H i s vn vw vu us Su) (hf : Frm T H H2) (hm : Mut H T) (hd : ∀ t ∈ i :: Su, t ∉ T) : LkP H2 i s vn vw vu us Su := by
  have hx := Frm.fix hf hm
  exact ⟨hf.get h.at_ (hd i (List.mem_cons_self ..)), h.nums.fix hx, h.wait.fix hx, h.und, h.own.frm hf fun s hs => hd s (List.mem_cons_of_mem _ hs), fun u hu => (h.give u hu).fix hx⟩
def badT (s : Lk) (now : Int) : Bool := decide (now < s.now) || decide (now > 1000000000)
theorem tellNo {H : AHeap} {i : Nat} {s : Lk} {S : List Nat} (h : LkAt H i s S) (now : Int) (hb : badT s now = true) : ARet Tryd.prog 23 [.pointer (some ⟨i, 0, none⟩), .int .i64 now] H (.int .i64 7) H := by
  obtain ⟨vn, vw, vu, us, Su, ⟨hi, -, -, -, -, -⟩, rfl⟩ := h
  have hil := lt_of_get hi
  unfold Lk.c at hi
  unfold badT at hb
  by_cases h1 : now < s.now
  · skip
    refine AC.enter Tryd.func23 rfl (by kernel_rfl) 23 rfl [.tmp 4] rfl (by simp) fun hsc B => ?_
    repeat first
      | with_reducible refine AWP.seq ?_
      | ((with_reducible refine AWP.region ?_ ?_); exact rfl)
      | with_reducible refine AWP.block ?_
      | with_reducible refine AWP.skip ?_
      | with_reducible refine AWP.exit ?_
      | with_reducible refine AWP.ret ?_
      | with_reducible refine AWP.label ?_
      | with_reducible refine AWP.goto ?_
      | ((with_reducible refine AWP.condT ?_ ?_); focus (simp only [ev, lk_cons, ↓reduceIte, Nat.reduceEqDiff]; done))
      | ((with_reducible refine AWP.condF ?_ ?_); focus (simp only [ev, lk_cons, ↓reduceIte, Nat.reduceEqDiff]; done))
      | simp only [go_sem, ↓reduceIte, Nat.reduceEqDiff, reduceCtorEq, Nat.reduceAdd, Int.reduceEq, Int.reduceBNe, Int.reduceBEq, Int.reduceToNat, Int.reduceLT, Int.reduceLE, Int.reduceGT, Int.reduceGE, Nat.reduceSub, Nat.reduceBEq, Nat.reduceBNe, Int.reduceAdd, Int.reduceSub, Int.reduceMul, Int.reduceNeg, Nat.reduceMul, Nat.reduceLeDiff, Nat.reduceLT, hi, hil, h1]
      | simp (disch := omega) only [wi64, wu8, wu16, wu32, wu64, Int.tdiv_eq_ediv_of_nonneg, Int.tmod_eq_emod_of_nonneg]
      | with_reducible_and_instances exact finR
      | ((with_reducible refine finR' ?_ ?_) <;> rfl)
      | ((with_reducible refine finD hsc (NRel.of_plain ?_)); exact rfl)
  · have h2 : now > 1000000000 := by simpa [h1] using hb
    refine AC.enter Tryd.func23 rfl (by kernel_rfl) 23 rfl [.tmp 4] rfl (by simp) fun hsc B => ?_
    repeat first
      | with_reducible refine AWP.seq ?_
      | ((with_reducible refine AWP.region ?_ ?_); exact rfl)
      | with_reducible refine AWP.block ?_
      | with_reducible refine AWP.skip ?_
      | with_reducible refine AWP.exit ?_
      | with_reducible refine AWP.ret ?_
      | with_reducible refine AWP.label ?_
      | with_reducible refine AWP.goto ?_
      | ((with_reducible refine AWP.condT ?_ ?_); focus (simp only [ev, lk_cons, ↓reduceIte, Nat.reduceEqDiff]; done))
      | ((with_reducible refine AWP.condF ?_ ?_); focus (simp only [ev, lk_cons, ↓reduceIte, Nat.reduceEqDiff]; done))
      | simp only [go_sem, ↓reduceIte, Nat.reduceEqDiff, reduceCtorEq, Nat.reduceAdd, Int.reduceEq, Int.reduceBNe, Int.reduceBEq, Int.reduceToNat, Int.reduceLT, Int.reduceLE, Int.reduceGT, Int.reduceGE, Nat.reduceSub, Nat.reduceBEq, Nat.reduceBNe, Int.reduceAdd, Int.reduceSub, Int.reduceMul, Int.reduceNeg, Nat.reduceMul, Nat.reduceLeDiff, Nat.reduceLT, hi, hil, h1, h2]
      | simp (disch := omega) only [wi64, wu8, wu16, wu32, wu64, Int.tdiv_eq_ediv_of_nonneg, Int.tmod_eq_emod_of_nonneg]
      | with_reducible_and_instances exact finR
      | ((with_reducible refine finR' ?_ ?_) <;> rfl)
      | ((with_reducible refine finD hsc (NRel.of_plain ?_)); exact rfl)
theorem tellOk {H : AHeap} {i : Nat} {s : Lk} {S : List Nat} (h : LkAt H i s S) (now : Int) (hb : badT s now = false) : ARex Tryd.prog 23 [.pointer (some ⟨i, 0, none⟩), .int .i64 now] H (.int .i64 0) (LkTo H i S { s with now := now }) := by
  obtain ⟨vn, vw, vu, us, Su, hp, rfl⟩ := h
  have hi := hp.at_
  have hil := lt_of_get hi
  unfold Lk.c at hi
  unfold badT at hb
  simp only [Bool.or_eq_false_iff, decide_eq_false_iff_not] at hb
  have h1 := hb.1
  have h2 := hb.2
  refine AC.enter Tryd.func23 rfl (by kernel_rfl) 23 rfl [.tmp 4] rfl (by simp) fun hsc B => ?_
  repeat first
    | with_reducible refine AWP.seq ?_
    | ((with_reducible refine AWP.region ?_ ?_); exact rfl)
    | with_reducible refine AWP.block ?_
    | with_reducible refine AWP.skip ?_
    | with_reducible refine AWP.exit ?_
    | with_reducible refine AWP.ret ?_
    | with_reducible refine AWP.label ?_
    | with_reducible refine AWP.goto ?_
    | ((with_reducible refine AWP.condT ?_ ?_); focus (simp only [ev, lk_cons, ↓reduceIte, Nat.reduceEqDiff]; done))
    | ((with_reducible refine AWP.condF ?_ ?_); focus (simp only [ev, lk_cons, ↓reduceIte, Nat.reduceEqDiff]; done))
    | simp only [go_sem, ↓reduceIte, Nat.reduceEqDiff, reduceCtorEq, Nat.reduceAdd, Int.reduceEq, Int.reduceBNe, Int.reduceBEq, Int.reduceToNat, Int.reduceLT, Int.reduceLE, Int.reduceGT, Int.reduceGE, Nat.reduceSub, Nat.reduceBEq, Nat.reduceBNe, Int.reduceAdd, Int.reduceSub, Int.reduceMul, Int.reduceNeg, Nat.reduceMul, Nat.reduceLeDiff, Nat.reduceLT, hi, hil, h1, h2]
    | simp (disch := omega) only [wi64, wu8, wu16, wu32, wu64, Int.tdiv_eq_ediv_of_nonneg, Int.tmod_eq_emod_of_nonneg]
    | with_reducible_and_instances exact finR
    | ((with_reducible refine finR' ?_ ?_) <;> rfl)
    | ((with_reducible refine finD hsc (NRel.of_plain ?_)); exact rfl)
  exact ⟨_, _, .refl _ _ _, rfl, hp.to (s' := { s with now := now }) (Frm.set (.refl _ _) (.inl (by simp))) (by rw [hset_self hil]; rfl) rfl rfl rfl⟩
theorem now_ {H : AHeap} {i : Nat} {s : Lk} {S : List Nat} (h : LkAt H i s S) : ARet Tryd.prog 8 [.pointer (some ⟨i, 0, none⟩)] H (.int .i64 s.now) H := by
  obtain ⟨vn, vw, vu, us, Su, ⟨hi, -, -, -, -, -⟩, rfl⟩ := h
  unfold Lk.c at hi
  refine AC.enter Tryd.func8 rfl (by kernel_rfl) 9 rfl [.tmp 2] rfl (by simp) fun hsc B => ?_
  repeat first
    | with_reducible refine AWP.seq ?_
    | ((with_reducible refine AWP.region ?_ ?_); exact rfl)
    | with_reducible refine AWP.block ?_
    | with_reducible refine AWP.skip ?_
    | with_reducible refine AWP.exit ?_
    | with_reducible refine AWP.ret ?_
    | with_reducible refine AWP.label ?_
    | with_reducible refine AWP.goto ?_
    | ((with_reducible refine AWP.condT ?_ ?_); focus (simp only [ev, lk_cons, ↓reduceIte, Nat.reduceEqDiff]; done))
    | ((with_reducible refine AWP.condF ?_ ?_); focus (simp only [ev, lk_cons, ↓reduceIte, Nat.reduceEqDiff]; done))
    | simp only [go_sem, ↓reduceIte, Nat.reduceEqDiff, reduceCtorEq, Nat.reduceAdd, Int.reduceEq, Int.reduceBNe, Int.reduceBEq, Int.reduceToNat, Int.reduceLT, Int.reduceLE, Int.reduceGT, Int.reduceGE, Nat.reduceSub, Nat.reduceBEq, Nat.reduceBNe, Int.reduceAdd, Int.reduceSub, Int.reduceMul, Int.reduceNeg, Nat.reduceMul, Nat.reduceLeDiff, Nat.reduceLT, hi]
    | simp (disch := omega) only [wi64, wu8, wu16, wu32, wu64, Int.tdiv_eq_ediv_of_nonneg, Int.tmod_eq_emod_of_nonneg]
    | with_reducible_and_instances exact finR
    | ((with_reducible refine finR' ?_ ?_) <;> rfl)
    | ((with_reducible refine finD hsc (NRel.of_plain ?_)); exact rfl)
theorem OwnL.lenT {P : Program} {t : TypeId} {H H' : AHeap} {e size n : Nat} {l : List Value} {v : Value} {S : List Nat} {K : Value → AHeap → Prop} (h : OwnL H e size n l v S) (hu : tSl P t = true) : Go.Aw.lenW P t v H' K = K (.int .i64 n) H' := by
  rcases h with ⟨rfl, rfl, rfl, rfl⟩ | ⟨i, off, cs, rfl, _⟩
  · rw [lenW_sl hu]
  · rw [lenW_sl hu]
end Go.Proofs.YtnfkbgpbligloaaDoor
