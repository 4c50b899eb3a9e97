/-
  The specification's links: what its state is in memory; its small functions.
-/
import Derived.Test.YtnfkbgpbligloaaXK
set_option linter.unusedVariables false
set_option linter.unusedSimpArgs false
set_option maxRecDepth 20000
set_option maxHeartbeats 4000000
namespace Go.Proofs.Ytnfkbgpbligloaa
open Go Go.Aw Go.Proofs
/-- v is a list of n elements of that many cells, with room behind them perhaps. -/
def OwnC (H : AHeap) (e size n : Nat) (l : List Value) (v : Value) (S : List Nat) : Prop :=
  (n = 0 ∧ l = [] ∧ v = .slice none 0 0 ∧ S = []) ∨
  ∃ i off cap cs, v = .slice (some ⟨i, off, none⟩) n cap ∧ n ≤ cap ∧ H[i]? = some (.cells cs ⟨e, size, true, 0, none⟩) ∧ cs.length = off + cap * size ∧ (cs.drop off).take (n * size) = l ∧ S = [i]
theorem OwnC.frm {S T : List Nat} {H H2 : AHeap} {e size n : Nat} {l : List Value} {v : Value} (h : OwnC H e size n l v S) (hf : Frm T H H2) (hn : ∀ s ∈ S, s ∉ T) : OwnC H2 e size n l v S := by
  rcases h with h | ⟨i, off, cap, cs, e1, hc, hi, hl, hd, e2⟩
  · exact .inl h
  · exact .inr ⟨i, off, cap, cs, e1, hc, hf.get hi (hn i (by rw [e2]; exact List.mem_cons_self ..)), hl, hd, e2⟩
theorem OwnC.lt {S : List Nat} {H : AHeap} {e size n : Nat} {l : List Value} {v : Value} (h : OwnC H e size n l v S) : ∀ s ∈ S, s < H.length := by
  rcases h with ⟨_, _, _, rfl⟩ | ⟨i, off, cap, cs, e1, hc, hi, hl, hd, rfl⟩
  · simp
  · intro s hs; rw [List.mem_singleton.1 hs]; exact lt_of_get hi
theorem OwnC.lenT {P : Program} {t : TypeId} {H H' : AHeap} {e size n : Nat} {l : List Value} {v : Value} {S : List Nat} {K : Value → AHeap → Prop} (h : OwnC H e size n l v S) (hu : tSl P t = true) : Go.Aw.lenW P t v H' K = K (.int .i64 n) H' := by
  rcases h with ⟨rfl, rfl, rfl, rfl⟩ | ⟨i, off, cap, cs, rfl, _⟩
  · rw [lenW_sl hu]
  · rw [lenW_sl hu]
/-- One element more: in the room, or in a new row. -/
theorem OwnC.append {P : Program} {S : List Nat} {H : AHeap} {e size y n : Nat} {l : List Value} {v : Value} {news : List Value} {K : Value → AHeap → Prop} (h : OwnC H e size n l v S) (hs : size ≠ 0) (hnw : news.length = size) (hll : l.length = n * size) (h1 : (n + 1) * y ≤ 140737488355328) (h2 : n + 1 ≤ 4611686018427387904)
    (hk : ∀ H' i o cap S', OwnC H' e size (n + 1) (l ++ news) (.slice (some ⟨i, o, none⟩) (n + 1) cap) S' → Frm S H H' → (∀ t ∈ S', t ∈ S ∨ H.length ≤ t) → K (.slice (some ⟨i, o, none⟩) (n + 1) cap) H') : appendTo P e size y v 1 news H K := by
  rcases h with ⟨rfl, rfl, rfl, rfl⟩ | ⟨i, off, cap, cs, rfl, hc, hi, hl, hd, rfl⟩
  · refine appendTo_nil (by omega) (by omega) (by omega) ?_
    exact hk _ H.length 0 1 [H.length] (.inr ⟨H.length, 0, 1, news, rfl, Nat.le_refl _, hget0 rfl, by omega, by rw [List.drop_zero, Nat.zero_add, Nat.one_mul, ← hnw, List.take_length]; rfl, rfl⟩) Frm.app (fun t ht => by rw [List.mem_singleton.1 ht]; exact .inr (Nat.le_refl _))
  · rcases Nat.lt_or_ge n cap with hlt | hge
    · have hcs : (n + 1) * size ≤ cap * size := Nat.mul_le_mul_right _ hlt
      rw [Nat.add_mul, Nat.one_mul] at hcs
      refine appendTo_in hi (by omega) (by omega) rfl (Nat.zero_le _) (by omega) ?_
      have hpc : putCells cs (off + n * size) news = cs.take (off + n * size) ++ news ++ cs.drop (off + n * size + news.length) := putCells_eq _ _ _ (by omega)
      refine hk _ i off cap [i] (.inr ⟨i, off, cap, _, rfl, hlt, hset_self (lt_of_get hi), by rw [putCells_length, hl], ?_, rfl⟩) (Frm.set (.refl _ _) (.inl (by simp))) (fun t ht => .inl ht)
      rw [hpc]
      have e1 : (cs.take (off + n * size)).length = off + n * size := by rw [List.length_take]; omega
      have e2 : ((cs.take (off + n * size) ++ news ++ cs.drop (off + n * size + news.length)).drop off) = (cs.take (off + n * size)).drop off ++ news ++ cs.drop (off + n * size + news.length) := by
        rw [List.append_assoc, List.drop_append_of_le_length (by rw [e1]; omega), List.append_assoc]
      have e3 : (cs.take (off + n * size)).drop off = l := by rw [← hd, List.drop_take]; congr 1; omega
      rw [e2, e3, List.take_append_of_le_length (by rw [List.length_append, hll, hnw, Nat.add_mul]; omega)]
      rw [List.take_of_length_le (by rw [List.length_append, hll, hnw, Nat.add_mul]; omega)]
    · obtain rfl : n = cap := by omega
      have e3 : (cs.drop off).take (n * size) = cs.drop off := List.take_of_length_le (by rw [List.length_drop]; omega)
      rw [e3] at hd
      have hown : OwnL H e size n l (.slice (some ⟨i, off, none⟩) n n) [i] := .inr ⟨i, off, cs, rfl, hi, hl, hd, rfl⟩
      refine hown.append hs h1 h2 fun H' hlen hH' => ?_
      refine hk _ H.length 0 (n + 1) [H.length] (.inr ⟨H.length, 0, n + 1, _, rfl, Nat.le_refl _, hget0 hlen, ?_, ?_, rfl⟩) ?_ (fun t ht => by rw [List.mem_singleton.1 ht]; exact .inr (Nat.le_refl _))
      · rw [List.length_append, hll, hnw, Nat.add_mul]; omega
      · rw [List.drop_zero, List.take_of_length_le (by rw [List.length_append, hll, hnw, Nat.add_mul]; omega)]
      · exact Frm.more ⟨by omega, fun j _ hn => hH' j hn⟩
structure Rk where
  pipe : Pp
  nums : List Int
  all : List Pc
  under : List Cm
  free : Int
  now : Int
  put : Int
  arr : Int
  lost : Int
  drop : Int
  dbl : Int
def Rk.c (r : Rk) (vn va vu : Value) : List Value := [.int .i64 r.pipe.delay, .int .i64 r.pipe.rate, .int .i64 r.pipe.room, .int .i64 r.pipe.loss, .int .i64 r.pipe.dbl, .int .i64 r.pipe.jit, vn, va, vu, .int .i64 r.free, .int .i64 r.now, .int .i64 r.put, .int .i64 r.arr, .int .i64 r.lost, .int .i64 r.drop, .int .i64 r.dbl]
def flC (x : Cm) : List Value := [.int .i64 x.p.id, .int .i64 x.p.size, .int .i64 x.p.sent, .int .i64 x.p.begun, .int .i64 x.p.time, .string (bs x.p.body), .bool (x.copy == 1)]
def flsC (l : List Cm) : List Value := l.flatMap flC
theorem flsC_len (l : List Cm) : (flsC l).length = l.length * 7 := by
  induction l with
  | nil => rfl
  | cons u us ih =>
    have : (flsC (u :: us)) = flC u ++ flsC us := rfl
    rw [this, List.length_append, ih, List.length_cons]; simp [flC]; omega
theorem flsC_snoc (l : List Cm) (w : Cm) : flsC (l ++ [w]) = flsC l ++ flC w := by
  unfold flsC; rw [List.flatMap_append]; simp
structure RkP (H : AHeap) (i : Nat) (r : Rk) (vn va vu : Value) (Sa Su : List Nat) : Prop where
  at_ : H[i]? = some (.cells (r.c vn va vu) ⟨83, 0, true, 0, none⟩)
  nums : RdF H 1 vn (r.nums.map fun n => [.int .i64 n])
  all : OwnL H 42 6 r.all.length (pcsC r.all) va Sa
  und : OwnC H 94 7 r.under.length (flsC r.under) vu Su
def RkAt (H : AHeap) (i : Nat) (r : Rk) (S : List Nat) : Prop := ∃ vn va vu Sa Su, RkP H i r vn va vu Sa Su ∧ S = i :: (Sa ++ Su)
def RkTo (H : AHeap) (i : Nat) (S : List Nat) (r : Rk) (H2 : AHeap) : Prop := ∃ S2, RkAt H2 i r S2 ∧ Frm S H H2 ∧ ∀ t ∈ S2, t ∈ S ∨ H.length ≤ t
/-- What objects a list names: their type. -/
def Kn (H : AHeap) (S : List Nat) (f : CK → Bool) : Prop := ∀ s ∈ S, ∃ cs k, H[s]? = some (.cells cs k) ∧ f k = true
theorem Kn.mut {H : AHeap} {S : List Nat} {f : CK → Bool} (h : Kn H S f) (hf : ∀ k, f k = true → mutK k = true) : Mut H S := fun s hs => by
  obtain ⟨cs, k, e, hk⟩ := h s hs
  exact ⟨cs, k, e, hf k hk⟩
theorem Kn.apart {H : AHeap} {S T : List Nat} {f g : CK → Bool} (h : Kn H S f) (h2 : Kn H T g) (hfg : ∀ k, f k = true → g k = true → False) : ∀ s ∈ S, s ∉ T := fun s hs ht => by
  obtain ⟨cs, k, e, hk⟩ := h s hs
  obtain ⟨cs2, k2, e2, hk2⟩ := h2 s ht
  rw [e] at e2
  cases e2
  exact hfg k hk hk2
def kL (k : CK) : Bool := k.e == 61 || (k.e == 75 && k.esz == 4)
def kR (k : CK) : Bool := k.e == 83 || (k.e == 42 && k.esz == 6) || k.e == 94
theorem LkAt.kn {H : AHeap} {i : Nat} {s : Lk} {S : List Nat} (h : LkAt H i s S) : Kn H S kL := by
  obtain ⟨vn, vw, vu, us, Su, hp, rfl⟩ := h
  intro t ht
  rcases List.mem_cons.1 ht with rfl | ht
  · exact ⟨_, _, hp.at_, rfl⟩
  · rcases hp.own with ⟨_, _, _, rfl⟩ | ⟨j, o, cs, _, hj, _, _, rfl⟩
    · simp at ht
    · rw [List.mem_singleton.1 ht]; exact ⟨_, _, hj, rfl⟩
theorem RkP.ka {H : AHeap} {i : Nat} {r : Rk} {vn va vu : Value} {Sa Su : List Nat} (h : RkP H i r vn va vu Sa Su) : Kn H Sa fun k => k.e == 42 && k.esz == 6 := by
  intro t ht
  rcases h.all with ⟨_, _, _, rfl⟩ | ⟨j, o, cs, _, hj, _, _, rfl⟩
  · simp at ht
  · rw [List.mem_singleton.1 ht]; exact ⟨_, _, hj, rfl⟩
theorem RkP.ku {H : AHeap} {i : Nat} {r : Rk} {vn va vu : Value} {Sa Su : List Nat} (h : RkP H i r vn va vu Sa Su) : Kn H Su fun k => k.e == 94 := by
  intro t ht
  rcases h.und with ⟨_, _, _, rfl⟩ | ⟨j, o, cap, cs, _, _, hj, _, _, rfl⟩
  · simp at ht
  · rw [List.mem_singleton.1 ht]; exact ⟨_, _, hj, rfl⟩
theorem RkP.ki {H : AHeap} {i : Nat} {r : Rk} {vn va vu : Value} {Sa Su : List Nat} (h : RkP H i r vn va vu Sa Su) : Kn H [i] fun k => k.e == 83 := by
  intro t ht
  rw [List.mem_singleton.1 ht]; exact ⟨_, _, h.at_, rfl⟩
theorem RkP.kn {H : AHeap} {i : Nat} {r : Rk} {vn va vu : Value} {Sa Su : List Nat} (h : RkP H i r vn va vu Sa Su) : Kn H (i :: (Sa ++ Su)) kR := by
  intro t ht
  rcases List.mem_cons.1 ht with rfl | ht
  · exact ⟨_, _, h.at_, rfl⟩
  · rcases List.mem_append.1 ht with ht | ht
    · obtain ⟨cs, k, e, hk⟩ := h.ka t ht
      exact ⟨cs, k, e, by simp [kR] at hk ⊢; simp [hk]⟩
    · obtain ⟨cs, k, e, hk⟩ := h.ku t ht
      exact ⟨cs, k, e, by simp [kR] at hk ⊢; simp [hk]⟩
theorem RkAt.kn {H : AHeap} {i : Nat} {r : Rk} {S : List Nat} (h : RkAt H i r S) : Kn H S kR := by
  obtain ⟨vn, va, vu, Sa, Su, hp, rfl⟩ := h
  exact hp.kn
theorem kR_mut (k : CK) (h : kR k = true) : mutK k = true := by
  simp only [kR, mutK, Bool.or_eq_true, Bool.and_eq_true, beq_iff_eq] at h ⊢
  rcases h with (h | h) | h
  · exact .inl (.inl (.inr h))
  · exact .inr h
  · exact .inl (.inr h)
theorem kL_mut (k : CK) (h : kL k = true) : mutK k = true := by
  simp only [kL, mutK, Bool.or_eq_true, Bool.and_eq_true, beq_iff_eq] at h ⊢
  rcases h with h | h
  · exact .inl (.inl (.inl (.inl h)))
  · exact .inl (.inl (.inl (.inr h.1)))
theorem RkP.iSa {H : AHeap} {i : Nat} {r : Rk} {vn va vu : Value} {Sa Su : List Nat} (h : RkP H i r vn va vu Sa Su) : i ∉ Sa := fun hi => by
  exact h.ki.apart h.ka (fun k a b => by simp at a b; rw [a] at b; exact absurd b.1 (by decide)) i (by simp) hi
theorem RkP.iSu {H : AHeap} {i : Nat} {r : Rk} {vn va vu : Value} {Sa Su : List Nat} (h : RkP H i r vn va vu Sa Su) : i ∉ Su := fun hi => by
  exact h.ki.apart h.ku (fun k a b => by simp at a b; rw [a] at b; exact absurd b (by decide)) i (by simp) hi
theorem RkP.SaSu {H : AHeap} {i : Nat} {r : Rk} {vn va vu : Value} {Sa Su : List Nat} (h : RkP H i r vn va vu Sa Su) : ∀ s ∈ Sa, s ∉ Su :=
  h.ka.apart h.ku fun k a b => by simp at a b; rw [b] at a; exact absurd a.1 (by decide)
theorem RkP.beside {H H2 : AHeap} {i : Nat} {r : Rk} {vn va vu : Value} {Sa Su T : List Nat} (h : RkP H i r vn va vu Sa Su) (hf : Frm T H H2) (hm : Mut H T) (hd : ∀ t ∈ i :: (Sa ++ Su), t ∉ T) : RkP H2 i r vn va vu Sa Su :=
  ⟨hf.get h.at_ (hd i (List.mem_cons_self ..)), h.nums.fix (Frm.fix hf hm), h.all.frm hf fun s hs => hd s (List.mem_cons_of_mem _ (List.mem_append_left _ hs)), h.und.frm hf fun s hs => hd s (List.mem_cons_of_mem _ (List.mem_append_right _ hs))⟩
theorem RkAt.frm {H H2 : AHeap} {i : Nat} {r : Rk} {S T : List Nat} (h : RkAt H i r S) (hf : Frm T H H2) (hm : Mut H T) (hd : ∀ t ∈ S, t ∉ T) : RkAt H2 i r S := by
  obtain ⟨vn, va, vu, Sa, Su, hp, rfl⟩ := h
  exact ⟨vn, va, vu, Sa, Su, hp.beside hf hm hd, rfl⟩
theorem RkAt.more {H : AHeap} {i : Nat} {r : Rk} {S : List Nat} (h : RkAt H i r S) (X : AHeap) : RkAt (H ++ X) i r S := h.frm (T := []) Frm.app (.nil H) (by simp)
theorem RkAt.grown {H H2 : AHeap} {i : Nat} {r : Rk} {S : List Nat} (h : RkAt H i r S) (hf : Frm [] H H2) : RkAt H2 i r S := h.frm hf (.nil H) (by simp)
theorem RkTo.trans {H H1 H2 : AHeap} {i : Nat} {S S1 : List Nat} {s : Rk} (h1 : Frm S H H1) (hs : ∀ t ∈ S1, t ∈ S ∨ H.length ≤ t) (h2 : RkTo H1 i S1 s H2) : RkTo H i S s H2 := by
  obtain ⟨S2, ha, hf, hm⟩ := h2
  refine ⟨S2, ha, h1.trans hf hs, fun t ht => ?_⟩
  rcases hm t ht with h | h
  · exact hs t h
  · exact .inr (by have := h1.1; omega)
/-- Only the record changes. -/
theorem RkP.to' {H H2 : AHeap} {i : Nat} {r r' : Rk} {vn va vu : Value} {Sa Su : List Nat} (h : RkP H i r vn va vu Sa Su) (hf : Frm [i] H H2) (hi : H2[i]? = some (.cells (r'.c vn va vu) ⟨83, 0, true, 0, none⟩)) (e1 : r'.nums = r.nums) (e2 : r'.all = r.all) (e3 : r'.under = r.under) : RkP H2 i r' vn va vu Sa Su := by
  have hm : Mut H [i] := h.ki.mut fun k hk => by simp [mutK] at hk ⊢; simp [hk]
  exact ⟨hi, e1 ▸ h.nums.fix (Frm.fix hf hm), e2 ▸ h.all.frm hf fun s hs e => h.iSa (by rw [← List.mem_singleton.1 e]; exact hs), e3 ▸ h.und.frm hf fun s hs e => h.iSu (by rw [← List.mem_singleton.1 e]; exact hs)⟩
theorem RkP.to {H H2 : AHeap} {i : Nat} {r r' : Rk} {vn va vu : Value} {Sa Su : List Nat} (h : RkP H i r vn va vu Sa Su) (hf : Frm [i] H H2) (hi : H2[i]? = some (.cells (r'.c vn va vu) ⟨83, 0, true, 0, none⟩)) (e1 : r'.nums = r.nums) (e2 : r'.all = r.all) (e3 : r'.under = r.under) : RkTo H i (i :: (Sa ++ Su)) r' H2 :=
  ⟨_, ⟨_, _, _, _, _, h.to' hf hi e1 e2 e3, rfl⟩, hf.mono fun s hs => by rw [List.mem_singleton.1 hs]; exact List.mem_cons_self .., fun t ht => .inl ht⟩
theorem rWithin (n a b : Int) (H : AHeap) : ARet Try.prog 36 [.int .i64 n, .int .i64 a, .int .i64 b] H (.bool (wi n a b)) H := by
  unfold wi
  by_cases h : a ≤ n
  · have h' : (n ≥ a) = True := by simpa using h
    rw [decide_eq_true h, Bool.true_and]
    refine AC.enter Try.func36 rfl (by kernel_rfl) 15 rfl [.tmp 6] rfl (by simp) fun hsc B => ?_
    repeat first
      | with_reducible refine AWP.seq ?_
      | ((with_reducible refine AWP.region ?_ ?_); exact rfl)
      | with_reducible refine AWP.block ?_
      | with_reducible refine AWP.skip ?_
      | with_reducible refine AWP.exit ?_
      | with_reducible refine AWP.ret ?_
      | with_reducible refine AWP.label ?_
      | with_reducible refine AWP.goto ?_
      | ((with_reducible refine AWP.condT ?_ ?_); focus (simp only [ev, lk_cons, ↓reduceIte, Nat.reduceEqDiff]; done))
      | ((with_reducible refine AWP.condF ?_ ?_); focus (simp only [ev, lk_cons, ↓reduceIte, Nat.reduceEqDiff]; done))
      | simp only [go_sem, ↓reduceIte, Nat.reduceEqDiff, reduceCtorEq, Nat.reduceAdd, Int.reduceEq, Int.reduceBNe, Int.reduceBEq, Int.reduceToNat, Int.reduceLT, Int.reduceLE, Int.reduceGT, Int.reduceGE, Nat.reduceSub, Nat.reduceBEq, Nat.reduceBNe, Int.reduceAdd, Int.reduceSub, Int.reduceMul, Int.reduceNeg, Nat.reduceMul, Nat.reduceLeDiff, Nat.reduceLT, h']
      | simp (disch := omega) only [wi64, wu8, wu16, wu32, wu64, Int.tdiv_eq_ediv_of_nonneg, Int.tmod_eq_emod_of_nonneg]
      | with_reducible_and_instances exact finR
      | ((with_reducible refine finR' ?_ ?_) <;> rfl)
      | ((with_reducible refine finD hsc (NRel.of_plain ?_)); exact rfl)
  · have h' : (n ≥ a) = False := by simpa using h
    rw [decide_eq_false h, Bool.false_and]
    refine AC.enter Try.func36 rfl (by kernel_rfl) 15 rfl [.tmp 6] rfl (by simp) fun hsc B => ?_
    repeat first
      | with_reducible refine AWP.seq ?_
      | ((with_reducible refine AWP.region ?_ ?_); exact rfl)
      | with_reducible refine AWP.block ?_
      | with_reducible refine AWP.skip ?_
      | with_reducible refine AWP.exit ?_
      | with_reducible refine AWP.ret ?_
      | with_reducible refine AWP.label ?_
      | with_reducible refine AWP.goto ?_
      | ((with_reducible refine AWP.condT ?_ ?_); focus (simp only [ev, lk_cons, ↓reduceIte, Nat.reduceEqDiff]; done))
      | ((with_reducible refine AWP.condF ?_ ?_); focus (simp only [ev, lk_cons, ↓reduceIte, Nat.reduceEqDiff]; done))
      | simp only [go_sem, ↓reduceIte, Nat.reduceEqDiff, reduceCtorEq, Nat.reduceAdd, Int.reduceEq, Int.reduceBNe, Int.reduceBEq, Int.reduceToNat, Int.reduceLT, Int.reduceLE, Int.reduceGT, Int.reduceGE, Nat.reduceSub, Nat.reduceBEq, Nat.reduceBNe, Int.reduceAdd, Int.reduceSub, Int.reduceMul, Int.reduceNeg, Nat.reduceMul, Nat.reduceLeDiff, Nat.reduceLT, h']
      | simp (disch := omega) only [wi64, wu8, wu16, wu32, wu64, Int.tdiv_eq_ediv_of_nonneg, Int.tmod_eq_emod_of_nonneg]
      | with_reducible_and_instances exact finR
      | ((with_reducible refine finR' ?_ ?_) <;> rfl)
      | ((with_reducible refine finD hsc (NRel.of_plain ?_)); exact rfl)
theorem rValid (p : Pp) (H : AHeap) : ARet Try.prog 17 [.agg ⟨p.c⟩] H (.bool p.ok) H := by
  obtain ⟨d, r, m, l, b, j⟩ := p
  unfold Pp.c Pp.ok
  simp only
  have hw := rWithin
  cases h1 : wi d 0 10000
  · simp only [h1, Bool.and_true, Bool.true_and, Bool.and_false, Bool.false_and]
    refine AC.enter Try.func17 rfl (by kernel_rfl) 31 rfl [.tmp 2] rfl (by simp) fun hsc B => ?_
    repeat first
      | with_reducible refine AWP.seq ?_
      | ((with_reducible refine AWP.region ?_ ?_); exact rfl)
      | with_reducible refine AWP.block ?_
      | with_reducible refine AWP.skip ?_
      | with_reducible refine AWP.exit ?_
      | with_reducible refine AWP.ret ?_
      | with_reducible refine AWP.label ?_
      | with_reducible refine AWP.goto ?_
      | ((with_reducible refine AWP.condT ?_ ?_); focus (simp only [ev, lk_cons, ↓reduceIte, Nat.reduceEqDiff]; done))
      | ((with_reducible refine AWP.condF ?_ ?_); focus (simp only [ev, lk_cons, ↓reduceIte, Nat.reduceEqDiff]; done))
      | with_reducible refine (hw _ _ _ _).use ?_
      | simp only [go_sem, ↓reduceIte, Nat.reduceEqDiff, reduceCtorEq, Nat.reduceAdd, Int.reduceEq, Int.reduceBNe, Int.reduceBEq, Int.reduceToNat, Int.reduceLT, Int.reduceLE, Int.reduceGT, Int.reduceGE, Nat.reduceSub, Nat.reduceBEq, Nat.reduceBNe, Int.reduceAdd, Int.reduceSub, Int.reduceMul, Int.reduceNeg, Nat.reduceMul, Nat.reduceLeDiff, Nat.reduceLT, h1]
      | simp (disch := omega) only [wi64, wu8, wu16, wu32, wu64, Int.tdiv_eq_ediv_of_nonneg, Int.tmod_eq_emod_of_nonneg]
      | with_reducible_and_instances exact finR
      | ((with_reducible refine finR' ?_ ?_) <;> rfl)
      | ((with_reducible refine finD hsc (NRel.of_plain ?_)); exact rfl)
  cases h2 : wi r 1 1000000
  · simp only [h1, h2, Bool.and_true, Bool.true_and, Bool.and_false, Bool.false_and]
    refine AC.enter Try.func17 rfl (by kernel_rfl) 31 rfl [.tmp 2] rfl (by simp) fun hsc B => ?_
    repeat first
      | with_reducible refine AWP.seq ?_
      | ((with_reducible refine AWP.region ?_ ?_); exact rfl)
      | with_reducible refine AWP.block ?_
      | with_reducible refine AWP.skip ?_
      | with_reducible refine AWP.exit ?_
      | with_reducible refine AWP.ret ?_
      | with_reducible refine AWP.label ?_
      | with_reducible refine AWP.goto ?_
      | ((with_reducible refine AWP.condT ?_ ?_); focus (simp only [ev, lk_cons, ↓reduceIte, Nat.reduceEqDiff]; done))
      | ((with_reducible refine AWP.condF ?_ ?_); focus (simp only [ev, lk_cons, ↓reduceIte, Nat.reduceEqDiff]; done))
      | with_reducible refine (hw _ _ _ _).use ?_
      | simp only [go_sem, ↓reduceIte, Nat.reduceEqDiff, reduceCtorEq, Nat.reduceAdd, Int.reduceEq, Int.reduceBNe, Int.reduceBEq, Int.reduceToNat, Int.reduceLT, Int.reduceLE, Int.reduceGT, Int.reduceGE, Nat.reduceSub, Nat.reduceBEq, Nat.reduceBNe, Int.reduceAdd, Int.reduceSub, Int.reduceMul, Int.reduceNeg, Nat.reduceMul, Nat.reduceLeDiff, Nat.reduceLT, h1, h2]
      | simp (disch := omega) only [wi64, wu8, wu16, wu32, wu64, Int.tdiv_eq_ediv_of_nonneg, Int.tmod_eq_emod_of_nonneg]
      | with_reducible_and_instances exact finR
      | ((with_reducible refine finR' ?_ ?_) <;> rfl)
      | ((with_reducible refine finD hsc (NRel.of_plain ?_)); exact rfl)
  cases h3 : wi m 0 1000000
  · simp only [h1, h2, h3, Bool.and_true, Bool.true_and, Bool.and_false, Bool.false_and]
    refine AC.enter Try.func17 rfl (by kernel_rfl) 31 rfl [.tmp 2] rfl (by simp) fun hsc B => ?_
    repeat first
      | with_reducible refine AWP.seq ?_
      | ((with_reducible refine AWP.region ?_ ?_); exact rfl)
      | with_reducible refine AWP.block ?_
      | with_reducible refine AWP.skip ?_
      | with_reducible refine AWP.exit ?_
      | with_reducible refine AWP.ret ?_
      | with_reducible refine AWP.label ?_
      | with_reducible refine AWP.goto ?_
      | ((with_reducible refine AWP.condT ?_ ?_); focus (simp only [ev, lk_cons, ↓reduceIte, Nat.reduceEqDiff]; done))
      | ((with_reducible refine AWP.condF ?_ ?_); focus (simp only [ev, lk_cons, ↓reduceIte, Nat.reduceEqDiff]; done))
      | with_reducible refine (hw _ _ _ _).use ?_
      | simp only [go_sem, ↓reduceIte, Nat.reduceEqDiff, reduceCtorEq, Nat.reduceAdd, Int.reduceEq, Int.reduceBNe, Int.reduceBEq, Int.reduceToNat, Int.reduceLT, Int.reduceLE, Int.reduceGT, Int.reduceGE, Nat.reduceSub, Nat.reduceBEq, Nat.reduceBNe, Int.reduceAdd, Int.reduceSub, Int.reduceMul, Int.reduceNeg, Nat.reduceMul, Nat.reduceLeDiff, Nat.reduceLT, h1, h2, h3]
      | simp (disch := omega) only [wi64, wu8, wu16, wu32, wu64, Int.tdiv_eq_ediv_of_nonneg, Int.tmod_eq_emod_of_nonneg]
      | with_reducible_and_instances exact finR
      | ((with_reducible refine finR' ?_ ?_) <;> rfl)
      | ((with_reducible refine finD hsc (NRel.of_plain ?_)); exact rfl)
  cases h4 : wi l 0 100
  · simp only [h1, h2, h3, h4, Bool.and_true, Bool.true_and, Bool.and_false, Bool.false_and]
    refine AC.enter Try.func17 rfl (by kernel_rfl) 31 rfl [.tmp 2] rfl (by simp) fun hsc B => ?_
    repeat first
      | with_reducible refine AWP.seq ?_
      | ((with_reducible refine AWP.region ?_ ?_); exact rfl)
      | with_reducible refine AWP.block ?_
      | with_reducible refine AWP.skip ?_
      | with_reducible refine AWP.exit ?_
      | with_reducible refine AWP.ret ?_
      | with_reducible refine AWP.label ?_
      | with_reducible refine AWP.goto ?_
      | ((with_reducible refine AWP.condT ?_ ?_); focus (simp only [ev, lk_cons, ↓reduceIte, Nat.reduceEqDiff]; done))
      | ((with_reducible refine AWP.condF ?_ ?_); focus (simp only [ev, lk_cons, ↓reduceIte, Nat.reduceEqDiff]; done))
      | with_reducible refine (hw _ _ _ _).use ?_
      | simp only [go_sem, ↓reduceIte, Nat.reduceEqDiff, reduceCtorEq, Nat.reduceAdd, Int.reduceEq, Int.reduceBNe, Int.reduceBEq, Int.reduceToNat, Int.reduceLT, Int.reduceLE, Int.reduceGT, Int.reduceGE, Nat.reduceSub, Nat.reduceBEq, Nat.reduceBNe, Int.reduceAdd, Int.reduceSub, Int.reduceMul, Int.reduceNeg, Nat.reduceMul, Nat.reduceLeDiff, Nat.reduceLT, h1, h2, h3, h4]
      | simp (disch := omega) only [wi64, wu8, wu16, wu32, wu64, Int.tdiv_eq_ediv_of_nonneg, Int.tmod_eq_emod_of_nonneg]
      | with_reducible_and_instances exact finR
      | ((with_reducible refine finR' ?_ ?_) <;> rfl)
      | ((with_reducible refine finD hsc (NRel.of_plain ?_)); exact rfl)
  cases h5 : wi b 0 100
  · simp only [h1, h2, h3, h4, h5, Bool.and_true, Bool.true_and, Bool.and_false, Bool.false_and]
    refine AC.enter Try.func17 rfl (by kernel_rfl) 31 rfl [.tmp 2] rfl (by simp) fun hsc B => ?_
    repeat first
      | with_reducible refine AWP.seq ?_
      | ((with_reducible refine AWP.region ?_ ?_); exact rfl)
      | with_reducible refine AWP.block ?_
      | with_reducible refine AWP.skip ?_
      | with_reducible refine AWP.exit ?_
      | with_reducible refine AWP.ret ?_
      | with_reducible refine AWP.label ?_
      | with_reducible refine AWP.goto ?_
      | ((with_reducible refine AWP.condT ?_ ?_); focus (simp only [ev, lk_cons, ↓reduceIte, Nat.reduceEqDiff]; done))
      | ((with_reducible refine AWP.condF ?_ ?_); focus (simp only [ev, lk_cons, ↓reduceIte, Nat.reduceEqDiff]; done))
      | with_reducible refine (hw _ _ _ _).use ?_
      | simp only [go_sem, ↓reduceIte, Nat.reduceEqDiff, reduceCtorEq, Nat.reduceAdd, Int.reduceEq, Int.reduceBNe, Int.reduceBEq, Int.reduceToNat, Int.reduceLT, Int.reduceLE, Int.reduceGT, Int.reduceGE, Nat.reduceSub, Nat.reduceBEq, Nat.reduceBNe, Int.reduceAdd, Int.reduceSub, Int.reduceMul, Int.reduceNeg, Nat.reduceMul, Nat.reduceLeDiff, Nat.reduceLT, h1, h2, h3, h4, h5]
      | simp (disch := omega) only [wi64, wu8, wu16, wu32, wu64, Int.tdiv_eq_ediv_of_nonneg, Int.tmod_eq_emod_of_nonneg]
      | with_reducible_and_instances exact finR
      | ((with_reducible refine finR' ?_ ?_) <;> rfl)
      | ((with_reducible refine finD hsc (NRel.of_plain ?_)); exact rfl)
  cases h6 : wi j 0 1000
  · simp only [h1, h2, h3, h4, h5, h6, Bool.and_true, Bool.true_and, Bool.and_false, Bool.false_and]
    refine AC.enter Try.func17 rfl (by kernel_rfl) 31 rfl [.tmp 2] rfl (by simp) fun hsc B => ?_
    repeat first
      | with_reducible refine AWP.seq ?_
      | ((with_reducible refine AWP.region ?_ ?_); exact rfl)
      | with_reducible refine AWP.block ?_
      | with_reducible refine AWP.skip ?_
      | with_reducible refine AWP.exit ?_
      | with_reducible refine AWP.ret ?_
      | with_reducible refine AWP.label ?_
      | with_reducible refine AWP.goto ?_
      | ((with_reducible refine AWP.condT ?_ ?_); focus (simp only [ev, lk_cons, ↓reduceIte, Nat.reduceEqDiff]; done))
      | ((with_reducible refine AWP.condF ?_ ?_); focus (simp only [ev, lk_cons, ↓reduceIte, Nat.reduceEqDiff]; done))
      | with_reducible refine (hw _ _ _ _).use ?_
      | simp only [go_sem, ↓reduceIte, Nat.reduceEqDiff, reduceCtorEq, Nat.reduceAdd, Int.reduceEq, Int.reduceBNe, Int.reduceBEq, Int.reduceToNat, Int.reduceLT, Int.reduceLE, Int.reduceGT, Int.reduceGE, Nat.reduceSub, Nat.reduceBEq, Nat.reduceBNe, Int.reduceAdd, Int.reduceSub, Int.reduceMul, Int.reduceNeg, Nat.reduceMul, Nat.reduceLeDiff, Nat.reduceLT, h1, h2, h3, h4, h5, h6]
      | simp (disch := omega) only [wi64, wu8, wu16, wu32, wu64, Int.tdiv_eq_ediv_of_nonneg, Int.tmod_eq_emod_of_nonneg]
      | with_reducible_and_instances exact finR
      | ((with_reducible refine finR' ?_ ?_) <;> rfl)
      | ((with_reducible refine finD hsc (NRel.of_plain ?_)); exact rfl)
  simp only [h1, h2, h3, h4, h5, h6, Bool.and_true, Bool.true_and, Bool.and_false, Bool.false_and]
  refine AC.enter Try.func17 rfl (by kernel_rfl) 31 rfl [.tmp 2] rfl (by simp) fun hsc B => ?_
  repeat first
    | with_reducible refine AWP.seq ?_
    | ((with_reducible refine AWP.region ?_ ?_); exact rfl)
    | with_reducible refine AWP.block ?_
    | with_reducible refine AWP.skip ?_
    | with_reducible refine AWP.exit ?_
    | with_reducible refine AWP.ret ?_
    | with_reducible refine AWP.label ?_
    | with_reducible refine AWP.goto ?_
    | ((with_reducible refine AWP.condT ?_ ?_); focus (simp only [ev, lk_cons, ↓reduceIte, Nat.reduceEqDiff]; done))
    | ((with_reducible refine AWP.condF ?_ ?_); focus (simp only [ev, lk_cons, ↓reduceIte, Nat.reduceEqDiff]; done))
    | with_reducible refine (hw _ _ _ _).use ?_
    | simp only [go_sem, ↓reduceIte, Nat.reduceEqDiff, reduceCtorEq, Nat.reduceAdd, Int.reduceEq, Int.reduceBNe, Int.reduceBEq, Int.reduceToNat, Int.reduceLT, Int.reduceLE, Int.reduceGT, Int.reduceGE, Nat.reduceSub, Nat.reduceBEq, Nat.reduceBNe, Int.reduceAdd, Int.reduceSub, Int.reduceMul, Int.reduceNeg, Nat.reduceMul, Nat.reduceLeDiff, Nat.reduceLT, h1, h2, h3, h4, h5, h6]
    | simp (disch := omega) only [wi64, wu8, wu16, wu32, wu64, Int.tdiv_eq_ediv_of_nonneg, Int.tmod_eq_emod_of_nonneg]
    | with_reducible_and_instances exact finR
    | ((with_reducible refine finR' ?_ ?_) <;> rfl)
    | ((with_reducible refine finD hsc (NRel.of_plain ?_)); exact rfl)
theorem rTime (p : Pp) (hp : p.ok = true) (size : Int) (h0 : 0 ≤ size) (h1 : size ≤ 100000) (H : AHeap) : ARet Try.prog 51 [.agg ⟨p.c⟩, .int .i64 size] H (.int .i64 (p.gone size)) H := by
  obtain ⟨-, hr, -⟩ := p.ok_iff.1 hp
  obtain ⟨d, r, m, l, b, j⟩ := p
  unfold Pp.c Pp.gone
  simp only at hr ⊢
  by_cases hz : size = 0
  · subst hz
    have e0 : ((0 * 1000 + r - 1) / r : Int) = 0 := by
      rw [Int.zero_mul, Int.zero_add]
      exact Int.ediv_eq_zero_of_lt (by omega) (by omega)
    rw [e0]
    refine AC.enter Try.func51 rfl (by kernel_rfl) 17 rfl [.tmp 4] rfl (by simp) fun hsc B => ?_
    repeat first
      | with_reducible refine AWP.seq ?_
      | ((with_reducible refine AWP.region ?_ ?_); exact rfl)
      | with_reducible refine AWP.block ?_
      | with_reducible refine AWP.skip ?_
      | with_reducible refine AWP.exit ?_
      | with_reducible refine AWP.ret ?_
      | with_reducible refine AWP.label ?_
      | with_reducible refine AWP.goto ?_
      | ((with_reducible refine AWP.condT ?_ ?_); focus (simp only [ev, lk_cons, ↓reduceIte, Nat.reduceEqDiff]; done))
      | ((with_reducible refine AWP.condF ?_ ?_); focus (simp only [ev, lk_cons, ↓reduceIte, Nat.reduceEqDiff]; done))
      | simp only [go_sem, ↓reduceIte, Nat.reduceEqDiff, reduceCtorEq, Nat.reduceAdd, Int.reduceEq, Int.reduceBNe, Int.reduceBEq, Int.reduceToNat, Int.reduceLT, Int.reduceLE, Int.reduceGT, Int.reduceGE, Nat.reduceSub, Nat.reduceBEq, Nat.reduceBNe, Int.reduceAdd, Int.reduceSub, Int.reduceMul, Int.reduceNeg, Nat.reduceMul, Nat.reduceLeDiff, Nat.reduceLT]
      | simp (disch := omega) only [wi64, wu8, wu16, wu32, wu64, Int.tdiv_eq_ediv_of_nonneg, Int.tmod_eq_emod_of_nonneg]
      | with_reducible_and_instances exact finR
      | ((with_reducible refine finR' ?_ ?_) <;> rfl)
      | ((with_reducible refine finD hsc (NRel.of_plain ?_)); exact rfl)
  · have hz' : (size == 0) = false := by rw [beq_eq_false_iff_ne]; exact hz
    have e1 : IntKind.i64.wrap (size * 1000) = size * 1000 := wi64 (by omega)
    have e2 : IntKind.i64.wrap (size * 1000 + r) = size * 1000 + r := wi64 (by omega)
    have e3 : IntKind.i64.wrap (size * 1000 + r - 1) = size * 1000 + r - 1 := wi64 (by omega)
    have hd : (size * 1000 + r - 1).tdiv r = (size * 1000 + r - 1) / r := Int.tdiv_eq_ediv_of_nonneg (by omega)
    have hb : 1 ≤ (size * 1000 + r - 1) / r ∧ (size * 1000 + r - 1) / r ≤ size * 1000 + r - 1 := ⟨(Int.le_ediv_iff_mul_le (by omega)).2 (by omega), Int.ediv_le_self _ (by omega)⟩
    have e4 : IntKind.i64.wrap ((size * 1000 + r - 1) / r) = (size * 1000 + r - 1) / r := wi64 (by omega)
    have hn : r ≠ 0 := by omega
    have hmx : max 1 ((size * 1000 + r - 1) / r) = (size * 1000 + r - 1) / r := by omega
    generalize hq : (size * 1000 + r - 1) / r = qq at *
    refine AC.enter Try.func51 rfl (by kernel_rfl) 17 rfl [.tmp 4] rfl (by simp) fun hsc B => ?_
    repeat first
      | with_reducible refine AWP.seq ?_
      | ((with_reducible refine AWP.region ?_ ?_); exact rfl)
      | with_reducible refine AWP.block ?_
      | with_reducible refine AWP.skip ?_
      | with_reducible refine AWP.exit ?_
      | with_reducible refine AWP.ret ?_
      | with_reducible refine AWP.label ?_
      | with_reducible refine AWP.goto ?_
      | ((with_reducible refine AWP.condT ?_ ?_); focus (simp only [ev, lk_cons, ↓reduceIte, Nat.reduceEqDiff]; done))
      | ((with_reducible refine AWP.condF ?_ ?_); focus (simp only [ev, lk_cons, ↓reduceIte, Nat.reduceEqDiff]; done))
      | simp only [go_sem, ↓reduceIte, Nat.reduceEqDiff, reduceCtorEq, Nat.reduceAdd, Int.reduceEq, Int.reduceBNe, Int.reduceBEq, Int.reduceToNat, Int.reduceLT, Int.reduceLE, Int.reduceGT, Int.reduceGE, Nat.reduceSub, Nat.reduceBEq, Nat.reduceBNe, Int.reduceAdd, Int.reduceSub, Int.reduceMul, Int.reduceNeg, Nat.reduceMul, Nat.reduceLeDiff, Nat.reduceLT, hz', e1, e2, e3, hd, e4, hn, minMaxW, hmx]
      | simp (disch := omega) only [wi64, wu8, wu16, wu32, wu64, Int.tdiv_eq_ediv_of_nonneg, Int.tmod_eq_emod_of_nonneg]
      | with_reducible_and_instances exact finR
      | ((with_reducible refine finR' ?_ ?_) <;> rfl)
      | ((with_reducible refine finD hsc (NRel.of_plain ?_)); exact rfl)
theorem rGoneF (p : Pp) (size : Int) (H : AHeap) : ARet Try.prog 21 [.agg ⟨p.c⟩, .int .i64 size] H (if p.ok then (if 0 ≤ size ∧ size ≤ 100000 then .tuple ⟨[.int .i64 (p.gone size), .int .i64 0]⟩ else .tuple ⟨[.int .i64 0, .int .i64 7]⟩) else .tuple ⟨[.int .i64 0, .int .i64 1]⟩) H := by
  have hv := rValid p
  have hg := rTime p
  have hw := rWithin size 0 100000
  cases hp : p.ok with
  | false =>
    rw [hp] at hv
    simp only [Bool.false_eq_true, if_false]
    unfold Pp.c at *
    refine AC.enter Try.func21 rfl (by kernel_rfl) 17 rfl [.tmp 4, .tmp 5] rfl (by simp) fun hsc B => ?_
    repeat first
      | with_reducible refine AWP.seq ?_
      | ((with_reducible refine AWP.region ?_ ?_); exact rfl)
      | with_reducible refine AWP.block ?_
      | with_reducible refine AWP.skip ?_
      | with_reducible refine AWP.exit ?_
      | with_reducible refine AWP.ret ?_
      | with_reducible refine AWP.label ?_
      | with_reducible refine AWP.goto ?_
      | ((with_reducible refine AWP.condT ?_ ?_); focus (simp only [ev, lk_cons, ↓reduceIte, Nat.reduceEqDiff]; done))
      | ((with_reducible refine AWP.condF ?_ ?_); focus (simp only [ev, lk_cons, ↓reduceIte, Nat.reduceEqDiff]; done))
      | with_reducible refine (hv _).use ?_
      | simp only [go_sem, ↓reduceIte, Nat.reduceEqDiff, reduceCtorEq, Nat.reduceAdd, Int.reduceEq, Int.reduceBNe, Int.reduceBEq, Int.reduceToNat, Int.reduceLT, Int.reduceLE, Int.reduceGT, Int.reduceGE, Nat.reduceSub, Nat.reduceBEq, Nat.reduceBNe, Int.reduceAdd, Int.reduceSub, Int.reduceMul, Int.reduceNeg, Nat.reduceMul, Nat.reduceLeDiff, Nat.reduceLT]
      | simp (disch := omega) only [wi64, wu8, wu16, wu32, wu64, Int.tdiv_eq_ediv_of_nonneg, Int.tmod_eq_emod_of_nonneg]
      | with_reducible_and_instances exact finR
      | ((with_reducible refine finR' ?_ ?_) <;> rfl)
      | ((with_reducible refine finD hsc (NRel.of_plain ?_)); exact rfl)
  | true =>
    rw [hp] at hv
    simp only [if_true]
    by_cases h0 : 0 ≤ size ∧ size ≤ 100000
    · rw [if_pos h0]
      have hwi : wi size 0 100000 = true := by simp [wi, h0]
      rw [hwi] at hw
      have hg := hg hp size h0.1 h0.2
      unfold Pp.c at *
      refine AC.enter Try.func21 rfl (by kernel_rfl) 17 rfl [.tmp 4, .tmp 5] rfl (by simp) fun hsc B => ?_
      repeat first
        | with_reducible refine AWP.seq ?_
        | ((with_reducible refine AWP.region ?_ ?_); exact rfl)
        | with_reducible refine AWP.block ?_
        | with_reducible refine AWP.skip ?_
        | with_reducible refine AWP.exit ?_
        | with_reducible refine AWP.ret ?_
        | with_reducible refine AWP.label ?_
        | with_reducible refine AWP.goto ?_
        | ((with_reducible refine AWP.condT ?_ ?_); focus (simp only [ev, lk_cons, ↓reduceIte, Nat.reduceEqDiff]; done))
        | ((with_reducible refine AWP.condF ?_ ?_); focus (simp only [ev, lk_cons, ↓reduceIte, Nat.reduceEqDiff]; done))
        | with_reducible refine (hv _).use ?_
        | with_reducible refine (hw _).use ?_
        | with_reducible refine (hg _).use ?_
        | simp only [go_sem, ↓reduceIte, Nat.reduceEqDiff, reduceCtorEq, Nat.reduceAdd, Int.reduceEq, Int.reduceBNe, Int.reduceBEq, Int.reduceToNat, Int.reduceLT, Int.reduceLE, Int.reduceGT, Int.reduceGE, Nat.reduceSub, Nat.reduceBEq, Nat.reduceBNe, Int.reduceAdd, Int.reduceSub, Int.reduceMul, Int.reduceNeg, Nat.reduceMul, Nat.reduceLeDiff, Nat.reduceLT]
        | simp (disch := omega) only [wi64, wu8, wu16, wu32, wu64, Int.tdiv_eq_ediv_of_nonneg, Int.tmod_eq_emod_of_nonneg]
        | with_reducible_and_instances exact finR
        | ((with_reducible refine finR' ?_ ?_) <;> rfl)
        | ((with_reducible refine finD hsc (NRel.of_plain ?_)); exact rfl)
    · rw [if_neg h0]
      have hwi : wi size 0 100000 = false := by
        rw [← Bool.not_eq_true]; intro h; apply h0
        simpa [wi] using h
      rw [hwi] at hw
      unfold Pp.c at *
      refine AC.enter Try.func21 rfl (by kernel_rfl) 17 rfl [.tmp 4, .tmp 5] rfl (by simp) fun hsc B => ?_
      repeat first
        | with_reducible refine AWP.seq ?_
        | ((with_reducible refine AWP.region ?_ ?_); exact rfl)
        | with_reducible refine AWP.block ?_
        | with_reducible refine AWP.skip ?_
        | with_reducible refine AWP.exit ?_
        | with_reducible refine AWP.ret ?_
        | with_reducible refine AWP.label ?_
        | with_reducible refine AWP.goto ?_
        | ((with_reducible refine AWP.condT ?_ ?_); focus (simp only [ev, lk_cons, ↓reduceIte, Nat.reduceEqDiff]; done))
        | ((with_reducible refine AWP.condF ?_ ?_); focus (simp only [ev, lk_cons, ↓reduceIte, Nat.reduceEqDiff]; done))
        | with_reducible refine (hv _).use ?_
        | with_reducible refine (hw _).use ?_
        | simp only [go_sem, ↓reduceIte, Nat.reduceEqDiff, reduceCtorEq, Nat.reduceAdd, Int.reduceEq, Int.reduceBNe, Int.reduceBEq, Int.reduceToNat, Int.reduceLT, Int.reduceLE, Int.reduceGT, Int.reduceGE, Nat.reduceSub, Nat.reduceBEq, Nat.reduceBNe, Int.reduceAdd, Int.reduceSub, Int.reduceMul, Int.reduceNeg, Nat.reduceMul, Nat.reduceLeDiff, Nat.reduceLT]
        | simp (disch := omega) only [wi64, wu8, wu16, wu32, wu64, Int.tdiv_eq_ediv_of_nonneg, Int.tmod_eq_emod_of_nonneg]
        | with_reducible_and_instances exact finR
        | ((with_reducible refine finR' ?_ ?_) <;> rfl)
        | ((with_reducible refine finD hsc (NRel.of_plain ?_)); exact rfl)
section
variable {H : AHeap} {i : Nat} {r : Rk} {S : List Nat}
theorem rNow (h : RkAt H i r S) : ARet Try.prog 38 [.pointer (some ⟨i, 0, none⟩)] H (.int .i64 r.now) H := by
  obtain ⟨vn, va, vu, Sa, Su, ⟨hi, -, -, -⟩, rfl⟩ := h
  unfold Rk.c at hi
  refine AC.enter Try.func38 rfl (by kernel_rfl) 7 rfl [.tmp 2] rfl (by simp) fun hsc B => ?_
  repeat first
    | with_reducible refine AWP.seq ?_
    | ((with_reducible refine AWP.region ?_ ?_); exact rfl)
    | with_reducible refine AWP.block ?_
    | with_reducible refine AWP.skip ?_
    | with_reducible refine AWP.exit ?_
    | with_reducible refine AWP.ret ?_
    | with_reducible refine AWP.label ?_
    | with_reducible refine AWP.goto ?_
    | ((with_reducible refine AWP.condT ?_ ?_); focus (simp only [ev, lk_cons, ↓reduceIte, Nat.reduceEqDiff]; done))
    | ((with_reducible refine AWP.condF ?_ ?_); focus (simp only [ev, lk_cons, ↓reduceIte, Nat.reduceEqDiff]; done))
    | simp only [go_sem, ↓reduceIte, Nat.reduceEqDiff, reduceCtorEq, Nat.reduceAdd, Int.reduceEq, Int.reduceBNe, Int.reduceBEq, Int.reduceToNat, Int.reduceLT, Int.reduceLE, Int.reduceGT, Int.reduceGE, Nat.reduceSub, Nat.reduceBEq, Nat.reduceBNe, Int.reduceAdd, Int.reduceSub, Int.reduceMul, Int.reduceNeg, Nat.reduceMul, Nat.reduceLeDiff, Nat.reduceLT, hi]
    | simp (disch := omega) only [wi64, wu8, wu16, wu32, wu64, Int.tdiv_eq_ediv_of_nonneg, Int.tmod_eq_emod_of_nonneg]
    | with_reducible_and_instances exact finR
    | ((with_reducible refine finR' ?_ ?_) <;> rfl)
    | ((with_reducible refine finD hsc (NRel.of_plain ?_)); exact rfl)
theorem rCounts (h : RkAt H i r S) : ARet Try.prog 47 [.pointer (some ⟨i, 0, none⟩)] H (.tuple ⟨[.int .i64 r.put, .int .i64 r.arr, .int .i64 r.lost, .int .i64 r.drop, .int .i64 r.dbl]⟩) H := by
  obtain ⟨vn, va, vu, Sa, Su, ⟨hi, -, -, -⟩, rfl⟩ := h
  unfold Rk.c at hi
  refine AC.enter Try.func47 rfl (by kernel_rfl) 27 rfl [.tmp 2, .tmp 3, .tmp 4, .tmp 5, .tmp 6] rfl (by simp) fun hsc B => ?_
  repeat first
    | with_reducible refine AWP.seq ?_
    | ((with_reducible refine AWP.region ?_ ?_); exact rfl)
    | with_reducible refine AWP.block ?_
    | with_reducible refine AWP.skip ?_
    | with_reducible refine AWP.exit ?_
    | with_reducible refine AWP.ret ?_
    | with_reducible refine AWP.label ?_
    | with_reducible refine AWP.goto ?_
    | ((with_reducible refine AWP.condT ?_ ?_); focus (simp only [ev, lk_cons, ↓reduceIte, Nat.reduceEqDiff]; done))
    | ((with_reducible refine AWP.condF ?_ ?_); focus (simp only [ev, lk_cons, ↓reduceIte, Nat.reduceEqDiff]; done))
    | simp only [go_sem, ↓reduceIte, Nat.reduceEqDiff, reduceCtorEq, Nat.reduceAdd, Int.reduceEq, Int.reduceBNe, Int.reduceBEq, Int.reduceToNat, Int.reduceLT, Int.reduceLE, Int.reduceGT, Int.reduceGE, Nat.reduceSub, Nat.reduceBEq, Nat.reduceBNe, Int.reduceAdd, Int.reduceSub, Int.reduceMul, Int.reduceNeg, Nat.reduceMul, Nat.reduceLeDiff, Nat.reduceLT, hi]
    | simp (disch := omega) only [wi64, wu8, wu16, wu32, wu64, Int.tdiv_eq_ediv_of_nonneg, Int.tmod_eq_emod_of_nonneg]
    | with_reducible_and_instances exact finR
    | ((with_reducible refine finR' ?_ ?_) <;> rfl)
    | ((with_reducible refine finD hsc (NRel.of_plain ?_)); exact rfl)
  refine AWP.regionK 24 (by kernel_rfl) (by decide) (by kernel_rfl) ?_
  repeat first
    | with_reducible refine AWP.seq ?_
    | ((with_reducible refine AWP.region ?_ ?_); exact rfl)
    | with_reducible refine AWP.block ?_
    | with_reducible refine AWP.skip ?_
    | with_reducible refine AWP.exit ?_
    | with_reducible refine AWP.ret ?_
    | with_reducible refine AWP.label ?_
    | with_reducible refine AWP.goto ?_
    | ((with_reducible refine AWP.condT ?_ ?_); focus (simp only [ev, lk_cons, ↓reduceIte, Nat.reduceEqDiff]; done))
    | ((with_reducible refine AWP.condF ?_ ?_); focus (simp only [ev, lk_cons, ↓reduceIte, Nat.reduceEqDiff]; done))
    | simp only [go_sem, ↓reduceIte, Nat.reduceEqDiff, reduceCtorEq, Nat.reduceAdd, Int.reduceEq, Int.reduceBNe, Int.reduceBEq, Int.reduceToNat, Int.reduceLT, Int.reduceLE, Int.reduceGT, Int.reduceGE, Nat.reduceSub, Nat.reduceBEq, Nat.reduceBNe, Int.reduceAdd, Int.reduceSub, Int.reduceMul, Int.reduceNeg, Nat.reduceMul, Nat.reduceLeDiff, Nat.reduceLT, hi]
    | simp (disch := omega) only [wi64, wu8, wu16, wu32, wu64, Int.tdiv_eq_ediv_of_nonneg, Int.tmod_eq_emod_of_nonneg]
    | with_reducible_and_instances exact finR
    | ((with_reducible refine finR' ?_ ?_) <;> rfl)
    | ((with_reducible refine finD hsc (NRel.of_plain ?_)); exact rfl)
theorem rUnder (h : RkAt H i r S) : ARet Try.prog 50 [.pointer (some ⟨i, 0, none⟩)] H (.int .i64 r.under.length) H := by
  obtain ⟨vn, va, vu, Sa, Su, ⟨hi, -, -, hu⟩, rfl⟩ := h
  have q : ∀ H' K, lenW Try.prog 81 vu H' K = K (.int .i64 (r.under.length : Nat)) H' := fun H' K => hu.lenT (by simp only [go_sem, ↓reduceIte, Nat.reduceEqDiff, reduceCtorEq, Nat.reduceAdd, Int.reduceEq, Int.reduceBNe, Int.reduceBEq, Int.reduceToNat, Int.reduceLT, Int.reduceLE, Int.reduceGT, Int.reduceGE, Nat.reduceSub, Nat.reduceBEq, Nat.reduceBNe, Int.reduceAdd, Int.reduceSub, Int.reduceMul, Int.reduceNeg, Nat.reduceMul, Nat.reduceLeDiff, Nat.reduceLT])
  unfold Rk.c at hi
  refine AC.enter Try.func50 rfl (by kernel_rfl) 8 rfl [.tmp 2] rfl (by simp) fun hsc B => ?_
  repeat first
    | with_reducible refine AWP.seq ?_
    | ((with_reducible refine AWP.region ?_ ?_); exact rfl)
    | with_reducible refine AWP.block ?_
    | with_reducible refine AWP.skip ?_
    | with_reducible refine AWP.exit ?_
    | with_reducible refine AWP.ret ?_
    | with_reducible refine AWP.label ?_
    | with_reducible refine AWP.goto ?_
    | ((with_reducible refine AWP.condT ?_ ?_); focus (simp only [ev, lk_cons, ↓reduceIte, Nat.reduceEqDiff]; done))
    | ((with_reducible refine AWP.condF ?_ ?_); focus (simp only [ev, lk_cons, ↓reduceIte, Nat.reduceEqDiff]; done))
    | simp only [go_sem, ↓reduceIte, Nat.reduceEqDiff, reduceCtorEq, Nat.reduceAdd, Int.reduceEq, Int.reduceBNe, Int.reduceBEq, Int.reduceToNat, Int.reduceLT, Int.reduceLE, Int.reduceGT, Int.reduceGE, Nat.reduceSub, Nat.reduceBEq, Nat.reduceBNe, Int.reduceAdd, Int.reduceSub, Int.reduceMul, Int.reduceNeg, Nat.reduceMul, Nat.reduceLeDiff, Nat.reduceLT, hi, q]
    | simp (disch := omega) only [wi64, wu8, wu16, wu32, wu64, Int.tdiv_eq_ediv_of_nonneg, Int.tmod_eq_emod_of_nonneg]
    | with_reducible_and_instances exact finR
    | ((with_reducible refine finR' ?_ ?_) <;> rfl)
    | ((with_reducible refine finD hsc (NRel.of_plain ?_)); exact rfl)
def rBad (r : Rk) (now : Int) : Bool := decide (now < r.now) || decide (now > 1000000000)
theorem rAt (h : RkAt H i r S) (now : Int) : ARet Try.prog 61 [.pointer (some ⟨i, 0, none⟩), .int .i64 now] H (.int .i64 (if rBad r now then 7 else 0)) H := by
  obtain ⟨vn, va, vu, Sa, Su, ⟨hi, -, -, -⟩, rfl⟩ := h
  unfold Rk.c at hi
  unfold rBad
  by_cases h1 : now < r.now
  · rw [decide_eq_true h1]
    simp only [Bool.true_or, if_true]
    refine AC.enter Try.func61 rfl (by kernel_rfl) 15 rfl [.tmp 4] rfl (by simp) fun hsc B => ?_
    repeat first
      | with_reducible refine AWP.seq ?_
      | ((with_reducible refine AWP.region ?_ ?_); exact rfl)
      | with_reducible refine AWP.block ?_
      | with_reducible refine AWP.skip ?_
      | with_reducible refine AWP.exit ?_
      | with_reducible refine AWP.ret ?_
      | with_reducible refine AWP.label ?_
      | with_reducible refine AWP.goto ?_
      | ((with_reducible refine AWP.condT ?_ ?_); focus (simp only [ev, lk_cons, ↓reduceIte, Nat.reduceEqDiff]; done))
      | ((with_reducible refine AWP.condF ?_ ?_); focus (simp only [ev, lk_cons, ↓reduceIte, Nat.reduceEqDiff]; done))
      | simp only [go_sem, ↓reduceIte, Nat.reduceEqDiff, reduceCtorEq, Nat.reduceAdd, Int.reduceEq, Int.reduceBNe, Int.reduceBEq, Int.reduceToNat, Int.reduceLT, Int.reduceLE, Int.reduceGT, Int.reduceGE, Nat.reduceSub, Nat.reduceBEq, Nat.reduceBNe, Int.reduceAdd, Int.reduceSub, Int.reduceMul, Int.reduceNeg, Nat.reduceMul, Nat.reduceLeDiff, Nat.reduceLT, hi, h1]
      | simp (disch := omega) only [wi64, wu8, wu16, wu32, wu64, Int.tdiv_eq_ediv_of_nonneg, Int.tmod_eq_emod_of_nonneg]
      | with_reducible_and_instances exact finR
      | ((with_reducible refine finR' ?_ ?_) <;> rfl)
      | ((with_reducible refine finD hsc (NRel.of_plain ?_)); exact rfl)
  · by_cases h2 : now > 1000000000
    · rw [decide_eq_true h2, Bool.or_true, if_pos rfl]
      refine AC.enter Try.func61 rfl (by kernel_rfl) 15 rfl [.tmp 4] rfl (by simp) fun hsc B => ?_
      repeat first
        | with_reducible refine AWP.seq ?_
        | ((with_reducible refine AWP.region ?_ ?_); exact rfl)
        | with_reducible refine AWP.block ?_
        | with_reducible refine AWP.skip ?_
        | with_reducible refine AWP.exit ?_
        | with_reducible refine AWP.ret ?_
        | with_reducible refine AWP.label ?_
        | with_reducible refine AWP.goto ?_
        | ((with_reducible refine AWP.condT ?_ ?_); focus (simp only [ev, lk_cons, ↓reduceIte, Nat.reduceEqDiff]; done))
        | ((with_reducible refine AWP.condF ?_ ?_); focus (simp only [ev, lk_cons, ↓reduceIte, Nat.reduceEqDiff]; done))
        | simp only [go_sem, ↓reduceIte, Nat.reduceEqDiff, reduceCtorEq, Nat.reduceAdd, Int.reduceEq, Int.reduceBNe, Int.reduceBEq, Int.reduceToNat, Int.reduceLT, Int.reduceLE, Int.reduceGT, Int.reduceGE, Nat.reduceSub, Nat.reduceBEq, Nat.reduceBNe, Int.reduceAdd, Int.reduceSub, Int.reduceMul, Int.reduceNeg, Nat.reduceMul, Nat.reduceLeDiff, Nat.reduceLT, hi, h1, h2]
        | simp (disch := omega) only [wi64, wu8, wu16, wu32, wu64, Int.tdiv_eq_ediv_of_nonneg, Int.tmod_eq_emod_of_nonneg]
        | with_reducible_and_instances exact finR
        | ((with_reducible refine finR' ?_ ?_) <;> rfl)
        | ((with_reducible refine finD hsc (NRel.of_plain ?_)); exact rfl)
    · rw [decide_eq_false h1, decide_eq_false h2]
      simp only [Bool.or_false, Bool.false_eq_true, if_false]
      refine AC.enter Try.func61 rfl (by kernel_rfl) 15 rfl [.tmp 4] rfl (by simp) fun hsc B => ?_
      repeat first
        | with_reducible refine AWP.seq ?_
        | ((with_reducible refine AWP.region ?_ ?_); exact rfl)
        | with_reducible refine AWP.block ?_
        | with_reducible refine AWP.skip ?_
        | with_reducible refine AWP.exit ?_
        | with_reducible refine AWP.ret ?_
        | with_reducible refine AWP.label ?_
        | with_reducible refine AWP.goto ?_
        | ((with_reducible refine AWP.condT ?_ ?_); focus (simp only [ev, lk_cons, ↓reduceIte, Nat.reduceEqDiff]; done))
        | ((with_reducible refine AWP.condF ?_ ?_); focus (simp only [ev, lk_cons, ↓reduceIte, Nat.reduceEqDiff]; done))
        | simp only [go_sem, ↓reduceIte, Nat.reduceEqDiff, reduceCtorEq, Nat.reduceAdd, Int.reduceEq, Int.reduceBNe, Int.reduceBEq, Int.reduceToNat, Int.reduceLT, Int.reduceLE, Int.reduceGT, Int.reduceGE, Nat.reduceSub, Nat.reduceBEq, Nat.reduceBNe, Int.reduceAdd, Int.reduceSub, Int.reduceMul, Int.reduceNeg, Nat.reduceMul, Nat.reduceLeDiff, Nat.reduceLT, hi, h1, h2]
        | simp (disch := omega) only [wi64, wu8, wu16, wu32, wu64, Int.tdiv_eq_ediv_of_nonneg, Int.tmod_eq_emod_of_nonneg]
        | with_reducible_and_instances exact finR
        | ((with_reducible refine finR' ?_ ?_) <;> rfl)
        | ((with_reducible refine finD hsc (NRel.of_plain ?_)); exact rfl)
theorem rSet (h : RkAt H i r S) (p : Pp) (hp : p.ok = true) : ARex Try.prog 45 [.pointer (some ⟨i, 0, none⟩), .agg ⟨p.c⟩] H (.int .i64 0) (RkTo H i S { r with pipe := p }) := by
  have hv := rValid p
  rw [hp] at hv
  obtain ⟨vn, va, vu, Sa, Su, hp, rfl⟩ := h
  have hi := hp.at_
  have hil := lt_of_get hi
  unfold Rk.c at hi
  unfold Pp.c at *
  refine AC.enter Try.func45 rfl (by kernel_rfl) 16 rfl [.tmp 4] rfl (by simp) fun hsc B => ?_
  repeat first
    | with_reducible refine AWP.seq ?_
    | ((with_reducible refine AWP.region ?_ ?_); exact rfl)
    | with_reducible refine AWP.block ?_
    | with_reducible refine AWP.skip ?_
    | with_reducible refine AWP.exit ?_
    | with_reducible refine AWP.ret ?_
    | with_reducible refine AWP.label ?_
    | with_reducible refine AWP.goto ?_
    | ((with_reducible refine AWP.condT ?_ ?_); focus (simp only [ev, lk_cons, ↓reduceIte, Nat.reduceEqDiff]; done))
    | ((with_reducible refine AWP.condF ?_ ?_); focus (simp only [ev, lk_cons, ↓reduceIte, Nat.reduceEqDiff]; done))
    | with_reducible refine (hv _).use ?_
    | simp only [go_sem, ↓reduceIte, Nat.reduceEqDiff, reduceCtorEq, Nat.reduceAdd, Int.reduceEq, Int.reduceBNe, Int.reduceBEq, Int.reduceToNat, Int.reduceLT, Int.reduceLE, Int.reduceGT, Int.reduceGE, Nat.reduceSub, Nat.reduceBEq, Nat.reduceBNe, Int.reduceAdd, Int.reduceSub, Int.reduceMul, Int.reduceNeg, Nat.reduceMul, Nat.reduceLeDiff, Nat.reduceLT, hi, hil, hgetl]
    | simp (disch := omega) only [wi64, wu8, wu16, wu32, wu64, Int.tdiv_eq_ediv_of_nonneg, Int.tmod_eq_emod_of_nonneg]
    | with_reducible_and_instances exact finR
    | ((with_reducible refine finR' ?_ ?_) <;> rfl)
    | ((with_reducible refine finD hsc (NRel.of_plain ?_)); exact rfl)
  refine ⟨_, _, .refl _ _ _, rfl, hp.to (r' := { r with pipe := p }) ?_ (by rw [hset_self (by rw [List.length_append]; omega)]; rfl) rfl rfl rfl⟩
  exact Frm.set (Frm.more (.refl _ _)) (.inl (by simp))
theorem rSetNo (h : RkAt H i r S) (p : Pp) (hp : p.ok = false) : ARex Try.prog 45 [.pointer (some ⟨i, 0, none⟩), .agg ⟨p.c⟩] H (.int .i64 1) (RkTo H i S r) := by
  have hv := rValid p
  rw [hp] at hv
  have h' := h
  unfold Pp.c at *
  refine AC.enter Try.func45 rfl (by kernel_rfl) 16 rfl [.tmp 4] rfl (by simp) fun hsc B => ?_
  repeat first
    | with_reducible refine AWP.seq ?_
    | ((with_reducible refine AWP.region ?_ ?_); exact rfl)
    | with_reducible refine AWP.block ?_
    | with_reducible refine AWP.skip ?_
    | with_reducible refine AWP.exit ?_
    | with_reducible refine AWP.ret ?_
    | with_reducible refine AWP.label ?_
    | with_reducible refine AWP.goto ?_
    | ((with_reducible refine AWP.condT ?_ ?_); focus (simp only [ev, lk_cons, ↓reduceIte, Nat.reduceEqDiff]; done))
    | ((with_reducible refine AWP.condF ?_ ?_); focus (simp only [ev, lk_cons, ↓reduceIte, Nat.reduceEqDiff]; done))
    | with_reducible refine (hv _).use ?_
    | simp only [go_sem, ↓reduceIte, Nat.reduceEqDiff, reduceCtorEq, Nat.reduceAdd, Int.reduceEq, Int.reduceBNe, Int.reduceBEq, Int.reduceToNat, Int.reduceLT, Int.reduceLE, Int.reduceGT, Int.reduceGE, Nat.reduceSub, Nat.reduceBEq, Nat.reduceBNe, Int.reduceAdd, Int.reduceSub, Int.reduceMul, Int.reduceNeg, Nat.reduceMul, Nat.reduceLeDiff, Nat.reduceLT]
    | simp (disch := omega) only [wi64, wu8, wu16, wu32, wu64, Int.tdiv_eq_ediv_of_nonneg, Int.tmod_eq_emod_of_nonneg]
    | with_reducible_and_instances exact finR
    | ((with_reducible refine finR' ?_ ?_) <;> rfl)
    | ((with_reducible refine finD hsc (NRel.of_plain ?_)); exact rfl)
  exact ⟨_, _, .refl _ _ _, rfl, S, h'.more _, Frm.app, fun t ht => .inl ht⟩
theorem rWaitNo (h : RkAt H i r S) (now : Int) (hb : rBad r now = true) : ARet Try.prog 43 [.pointer (some ⟨i, 0, none⟩), .int .i64 now] H (.tuple ⟨[.int .i64 0, .int .i64 7]⟩) H := by
  have hA := rAt h now
  rw [hb, if_pos rfl] at hA
  refine AC.enter Try.func43 rfl (by kernel_rfl) 26 rfl [.tmp 4, .tmp 5] rfl (by simp) fun hsc B => ?_
  repeat first
    | with_reducible refine AWP.seq ?_
    | ((with_reducible refine AWP.region ?_ ?_); exact rfl)
    | with_reducible refine AWP.block ?_
    | with_reducible refine AWP.skip ?_
    | with_reducible refine AWP.exit ?_
    | with_reducible refine AWP.ret ?_
    | with_reducible refine AWP.label ?_
    | with_reducible refine AWP.goto ?_
    | ((with_reducible refine AWP.condT ?_ ?_); focus (simp only [ev, lk_cons, ↓reduceIte, Nat.reduceEqDiff]; done))
    | ((with_reducible refine AWP.condF ?_ ?_); focus (simp only [ev, lk_cons, ↓reduceIte, Nat.reduceEqDiff]; done))
    | with_reducible refine hA.use ?_
    | simp only [go_sem, ↓reduceIte, Nat.reduceEqDiff, reduceCtorEq, Nat.reduceAdd, Int.reduceEq, Int.reduceBNe, Int.reduceBEq, Int.reduceToNat, Int.reduceLT, Int.reduceLE, Int.reduceGT, Int.reduceGE, Nat.reduceSub, Nat.reduceBEq, Nat.reduceBNe, Int.reduceAdd, Int.reduceSub, Int.reduceMul, Int.reduceNeg, Nat.reduceMul, Nat.reduceLeDiff, Nat.reduceLT]
    | simp (disch := omega) only [wi64, wu8, wu16, wu32, wu64, Int.tdiv_eq_ediv_of_nonneg, Int.tmod_eq_emod_of_nonneg]
    | with_reducible_and_instances exact finR
    | ((with_reducible refine finR' ?_ ?_) <;> rfl)
    | ((with_reducible refine finD hsc (NRel.of_plain ?_)); exact rfl)
theorem rWait (h : RkAt H i r S) (hf : 0 ≤ r.free ∧ r.free < 1152921504606846976) (h0 : 0 ≤ r.now) (now : Int) (hb : rBad r now = false) : ARex Try.prog 43 [.pointer (some ⟨i, 0, none⟩), .int .i64 now] H (.tuple ⟨[.int .i64 (max 0 (r.free - now)), .int .i64 0]⟩) (RkTo H i S { r with now := now }) := by
  have hA := rAt h now
  rw [hb] at hA
  simp only [Bool.false_eq_true, if_false] at hA
  unfold rBad at hb
  simp only [Bool.or_eq_false_iff, decide_eq_false_iff_not] at hb
  have hwr : IntKind.i64.wrap (r.free - now) = r.free - now := wi64 (by omega)
  obtain ⟨vn, va, vu, Sa, Su, hp, rfl⟩ := h
  have hi := hp.at_
  have hil := lt_of_get hi
  unfold Rk.c at hi
  refine AC.enter Try.func43 rfl (by kernel_rfl) 26 rfl [.tmp 4, .tmp 5] rfl (by simp) fun hsc B => ?_
  repeat first
    | with_reducible refine AWP.seq ?_
    | ((with_reducible refine AWP.region ?_ ?_); exact rfl)
    | with_reducible refine AWP.block ?_
    | with_reducible refine AWP.skip ?_
    | with_reducible refine AWP.exit ?_
    | with_reducible refine AWP.ret ?_
    | with_reducible refine AWP.label ?_
    | with_reducible refine AWP.goto ?_
    | ((with_reducible refine AWP.condT ?_ ?_); focus (simp only [ev, lk_cons, ↓reduceIte, Nat.reduceEqDiff]; done))
    | ((with_reducible refine AWP.condF ?_ ?_); focus (simp only [ev, lk_cons, ↓reduceIte, Nat.reduceEqDiff]; done))
    | with_reducible refine hA.use ?_
    | simp only [go_sem, ↓reduceIte, Nat.reduceEqDiff, reduceCtorEq, Nat.reduceAdd, Int.reduceEq, Int.reduceBNe, Int.reduceBEq, Int.reduceToNat, Int.reduceLT, Int.reduceLE, Int.reduceGT, Int.reduceGE, Nat.reduceSub, Nat.reduceBEq, Nat.reduceBNe, Int.reduceAdd, Int.reduceSub, Int.reduceMul, Int.reduceNeg, Nat.reduceMul, Nat.reduceLeDiff, Nat.reduceLT, hi, hil, hwr, minMaxW]
    | simp (disch := omega) only [wi64, wu8, wu16, wu32, wu64, Int.tdiv_eq_ediv_of_nonneg, Int.tmod_eq_emod_of_nonneg]
    | with_reducible_and_instances exact finR
    | ((with_reducible refine finR' ?_ ?_) <;> rfl)
    | ((with_reducible refine finD hsc (NRel.of_plain ?_)); exact rfl)
  exact ⟨_, _, .refl _ _ _, rfl, hp.to (r' := { r with now := now }) (Frm.set (.refl _ _) (.inl (by simp))) (by rw [hset_self hil]; rfl) rfl rfl rfl⟩
end
end Go.Proofs.Ytnfkbgpbligloaa
