/-
  The walk of tokens: a seed that is changed; how many IPs are counted, the program's and the specification's.
-/
import Derived.Test.YtmpkgdilmkeacaaDoorS5
set_option linter.unusedVariables false
set_option linter.unusedSimpArgs false
set_option maxRecDepth 20000
set_option maxHeartbeats 4000000
namespace Go.Proofs.YtmpkgdilmkeacaaDoor
open Go Go.Aw Go.Proofs Go.Shelf Go.RowKit Go.ChangeShapes
def chE (K : Kp) (t : Int) (seed : List UInt8) : Int := if (seed.length : Int) > 100 then 1 else timeE K.now t
def Kp.change (K : Kp) (t : Int) (seed : List UInt8) : Kp := if chE K t seed = 0 then { K.tell t with seed := seed, old := K.seed, ch := t / K.per } else K
theorem Change (K : Kp) (hok : K.ok) (i m : Nat) (t : Int) (seed : List UInt8) (H : AHeap) (h : Kst H i m K) :
    ARex Tryd.prog 17 [.pointer (some ⟨i, 0, none⟩), .int .i64 t, .string (bs seed)] H (.int .i64 (chE K t seed)) (Kto H i m (K.change t seed)) := by
  have hh := h.hi
  unfold Kp.o at hh
  unfold Kp.change
  by_cases hs : (seed.length : Int) > 100
  · have e : chE K t seed = 1 := if_pos hs
    rw [e, if_neg (by decide)]
    refine ARet.rex (H' := H) ?_ (Kto.refl h)
    refine AC.enter Tryd.func17 rfl (by kernel_rfl) 37 rfl [.tmp 6] rfl (by simp) fun hsc B => ?_
    repeat first
      | with_reducible refine AWP.seq ?_
      | ((with_reducible refine AWP.region ?_ ?_); exact rfl)
      | with_reducible refine AWP.block ?_
      | with_reducible refine AWP.skip ?_
      | with_reducible refine AWP.exit ?_
      | with_reducible refine AWP.ret ?_
      | with_reducible refine AWP.label ?_
      | with_reducible refine AWP.goto ?_
      | ((with_reducible refine AWP.condT ?_ ?_); focus (simp only [ev, lk_cons, ↓reduceIte, Nat.reduceEqDiff]; done))
      | ((with_reducible refine AWP.condF ?_ ?_); focus (simp only [ev, lk_cons, ↓reduceIte, Nat.reduceEqDiff]; done))
      | simp only [go_sem, ↓reduceIte, Nat.reduceEqDiff, reduceCtorEq, Nat.reduceAdd, Int.reduceEq, Int.reduceBNe, Int.reduceBEq, Int.reduceToNat, Int.reduceLT, Int.reduceLE, Int.reduceGT, Int.reduceGE, Nat.reduceSub, Nat.reduceBEq, Nat.reduceBNe, Int.reduceAdd, Int.reduceSub, Int.reduceMul, Int.reduceNeg, Nat.reduceMul, Nat.reduceLeDiff, Nat.reduceLT, hs]
      | simp (disch := omega) only [wi64, wu8, wu16, wu32, wu64, Int.tdiv_eq_ediv_of_nonneg, Int.tmod_eq_emod_of_nonneg]
      | with_reducible_and_instances exact finR
      | ((with_reducible refine finR' ?_ ?_) <;> rfl)
      | ((with_reducible refine finD hsc (NRel.of_plain ?_)); exact rfl)
  by_cases ht : t < K.now ∨ t > 1000000000
  · have e : chE K t seed = 7 := by unfold chE timeE; rw [if_neg hs, if_pos ht]
    rw [e, if_neg (by decide)]
    have hT := tellB i m K.seed K.old K.ch K.per K.most K.now K.cnt t H hh ht
    refine ARet.rex (H' := H) ?_ (Kto.refl h)
    refine AC.enter Tryd.func17 rfl (by kernel_rfl) 37 rfl [.tmp 6] rfl (by simp) fun hsc B => ?_
    repeat first
      | with_reducible refine AWP.seq ?_
      | ((with_reducible refine AWP.region ?_ ?_); exact rfl)
      | with_reducible refine AWP.block ?_
      | with_reducible refine AWP.skip ?_
      | with_reducible refine AWP.exit ?_
      | with_reducible refine AWP.ret ?_
      | with_reducible refine AWP.label ?_
      | with_reducible refine AWP.goto ?_
      | ((with_reducible refine AWP.condT ?_ ?_); focus (simp only [ev, lk_cons, ↓reduceIte, Nat.reduceEqDiff]; done))
      | ((with_reducible refine AWP.condF ?_ ?_); focus (simp only [ev, lk_cons, ↓reduceIte, Nat.reduceEqDiff]; done))
      | with_reducible refine hT.use ?_
      | simp only [go_sem, ↓reduceIte, Nat.reduceEqDiff, reduceCtorEq, Nat.reduceAdd, Int.reduceEq, Int.reduceBNe, Int.reduceBEq, Int.reduceToNat, Int.reduceLT, Int.reduceLE, Int.reduceGT, Int.reduceGE, Nat.reduceSub, Nat.reduceBEq, Nat.reduceBNe, Int.reduceAdd, Int.reduceSub, Int.reduceMul, Int.reduceNeg, Nat.reduceMul, Nat.reduceLeDiff, Nat.reduceLT, hs]
      | simp (disch := omega) only [wi64, wu8, wu16, wu32, wu64, Int.tdiv_eq_ediv_of_nonneg, Int.tmod_eq_emod_of_nonneg]
      | with_reducible_and_instances exact finR
      | ((with_reducible refine finR' ?_ ?_) <;> rfl)
      | ((with_reducible refine finD hsc (NRel.of_plain ?_)); exact rfl)
  have e : chE K t seed = 0 := by unfold chE timeE; rw [if_neg hs, if_neg ht]
  rw [e, if_pos rfl]
  have ht1 : ¬ t < K.now := fun h => ht (.inl h)
  have ht2 : ¬ t > 1000000000 := fun h => ht (.inr h)
  have hT := tell K hok i m t ht1 ht2 H h
  have hp0 := hok.per0
  have hpz : ¬ K.per = 0 := by omega
  have hn0 := hok.now0
  obtain ⟨q0, q1⟩ := per_q (t := t) (p := K.per) (by omega) (by omega) hp0
  have hq : t.tdiv K.per = t / K.per := Int.tdiv_eq_ediv_of_nonneg (by omega)
  have hwq : IntKind.i64.wrap (t / K.per) = t / K.per := wi64 (by omega)
  refine AC.enter Tryd.func17 rfl (by kernel_rfl) 37 rfl [.tmp 6] rfl (by simp) fun hsc B => ?_
  repeat first
    | with_reducible refine AWP.seq ?_
    | ((with_reducible refine AWP.region ?_ ?_); exact rfl)
    | with_reducible refine AWP.block ?_
    | with_reducible refine AWP.skip ?_
    | with_reducible refine AWP.exit ?_
    | with_reducible refine AWP.ret ?_
    | with_reducible refine AWP.label ?_
    | with_reducible refine AWP.goto ?_
    | ((with_reducible refine AWP.condT ?_ ?_); focus (simp only [ev, lk_cons, ↓reduceIte, Nat.reduceEqDiff]; done))
    | ((with_reducible refine AWP.condF ?_ ?_); focus (simp only [ev, lk_cons, ↓reduceIte, Nat.reduceEqDiff]; done))
    | simp only [go_sem, ↓reduceIte, Nat.reduceEqDiff, reduceCtorEq, Nat.reduceAdd, Int.reduceEq, Int.reduceBNe, Int.reduceBEq, Int.reduceToNat, Int.reduceLT, Int.reduceLE, Int.reduceGT, Int.reduceGE, Nat.reduceSub, Nat.reduceBEq, Nat.reduceBNe, Int.reduceAdd, Int.reduceSub, Int.reduceMul, Int.reduceNeg, Nat.reduceMul, Nat.reduceLeDiff, Nat.reduceLT, hs]
    | simp (disch := omega) only [wi64, wu8, wu16, wu32, wu64, Int.tdiv_eq_ediv_of_nonneg, Int.tmod_eq_emod_of_nonneg]
    | with_reducible_and_instances exact finR
    | ((with_reducible refine finR' ?_ ?_) <;> rfl)
    | ((with_reducible refine finD hsc (NRel.of_plain ?_)); exact rfl)
  refine hT.use fun H1 hk => ?_
  obtain ⟨m1, hs1, hf1, hm1⟩ := hk
  have hi1 := hs1.hi
  have hil1 := lt_of_get hi1
  unfold Kp.o kC Kp.tell at hi1
  simp only at hi1
  have hfin : Kto H i m { K.tell t with seed := seed, old := K.seed, ch := t / K.per } (H1.set i (.cells [.string (bs seed), .string (bs K.seed), .int .i64 (t / K.per), .int .i64 K.per, .int .i64 K.most, .int .i64 t, .int .i64 (t / K.per), .map (some m1)] ⟨67, 0, true, 0, none⟩)) := by
    refine ⟨m1, ⟨hset_self hil1, by rw [hset_ne hs1.ne]; exact hs1.hm, ?_⟩, hf1.set (.inl (by simp)), hm1⟩
    exact hs1.tab.frm ((Frm.refl [i] H1).set (.inl (by simp))) fun e s hs => hs1.tabNe e s (by simp only [List.mem_cons, List.not_mem_nil, or_false] at hs ⊢; exact .inl hs)
  repeat first
    | with_reducible refine AWP.seq ?_
    | ((with_reducible refine AWP.region ?_ ?_); exact rfl)
    | with_reducible refine AWP.block ?_
    | with_reducible refine AWP.skip ?_
    | with_reducible refine AWP.exit ?_
    | with_reducible refine AWP.ret ?_
    | with_reducible refine AWP.label ?_
    | with_reducible refine AWP.goto ?_
    | ((with_reducible refine AWP.condT ?_ ?_); focus (simp only [ev, lk_cons, ↓reduceIte, Nat.reduceEqDiff]; done))
    | ((with_reducible refine AWP.condF ?_ ?_); focus (simp only [ev, lk_cons, ↓reduceIte, Nat.reduceEqDiff]; done))
    | simp only [go_sem, ↓reduceIte, Nat.reduceEqDiff, reduceCtorEq, Nat.reduceAdd, Int.reduceEq, Int.reduceBNe, Int.reduceBEq, Int.reduceToNat, Int.reduceLT, Int.reduceLE, Int.reduceGT, Int.reduceGE, Nat.reduceSub, Nat.reduceBEq, Nat.reduceBNe, Int.reduceAdd, Int.reduceSub, Int.reduceMul, Int.reduceNeg, Nat.reduceMul, Nat.reduceLeDiff, Nat.reduceLT]
    | simp (disch := omega) only [wi64, wu8, wu16, wu32, wu64, Int.tdiv_eq_ediv_of_nonneg, Int.tmod_eq_emod_of_nonneg]
    | with_reducible_and_instances exact finR
    | ((with_reducible refine finR' ?_ ?_) <;> rfl)
    | ((with_reducible refine finD hsc (NRel.of_plain ?_)); exact rfl)
  refine AWP.regionK 14 (by kernel_rfl) (by decide) (by kernel_rfl) ?_
  repeat first
    | with_reducible refine AWP.seq ?_
    | ((with_reducible refine AWP.region ?_ ?_); exact rfl)
    | with_reducible refine AWP.block ?_
    | with_reducible refine AWP.skip ?_
    | with_reducible refine AWP.exit ?_
    | with_reducible refine AWP.ret ?_
    | with_reducible refine AWP.label ?_
    | with_reducible refine AWP.goto ?_
    | ((with_reducible refine AWP.condT ?_ ?_); focus (simp only [ev, lk_cons, ↓reduceIte, Nat.reduceEqDiff]; done))
    | ((with_reducible refine AWP.condF ?_ ?_); focus (simp only [ev, lk_cons, ↓reduceIte, Nat.reduceEqDiff]; done))
    | simp only [go_sem, ↓reduceIte, Nat.reduceEqDiff, reduceCtorEq, Nat.reduceAdd, Int.reduceEq, Int.reduceBNe, Int.reduceBEq, Int.reduceToNat, Int.reduceLT, Int.reduceLE, Int.reduceGT, Int.reduceGE, Nat.reduceSub, Nat.reduceBEq, Nat.reduceBNe, Int.reduceAdd, Int.reduceSub, Int.reduceMul, Int.reduceNeg, Nat.reduceMul, Nat.reduceLeDiff, Nat.reduceLT, hi1, hil1, hpz, hq, hwq, List.map_cons, List.map_nil]
    | simp (disch := omega) only [wi64, wu8, wu16, wu32, wu64, Int.tdiv_eq_ediv_of_nonneg, Int.tmod_eq_emod_of_nonneg]
    | with_reducible_and_instances exact finR
    | ((with_reducible refine finR' ?_ ?_) <;> rfl)
    | ((with_reducible refine finD hsc (NRel.of_plain ?_)); exact rfl)
  exact ⟨_, _, .refl _ _ _, rfl, hfin⟩
theorem CountN (K : Kp) (i m : Nat) (H : AHeap) (h : Kst H i m K) : ARet Tryd.prog 59 [.pointer (some ⟨i, 0, none⟩)] H (.int .i64 (K.cs.length : Nat)) H := by
  have hi := h.hi
  have hm := h.hm
  unfold Kp.o kC at hi
  unfold Kp.mo at hm
  have hl := esC_len K.cs 0
  refine AC.enter Tryd.func59 rfl (by kernel_rfl) 10 rfl [.tmp 2] rfl (by simp) fun hsc B => ?_
  repeat first
    | with_reducible refine AWP.seq ?_
    | ((with_reducible refine AWP.region ?_ ?_); exact rfl)
    | with_reducible refine AWP.block ?_
    | with_reducible refine AWP.skip ?_
    | with_reducible refine AWP.exit ?_
    | with_reducible refine AWP.ret ?_
    | with_reducible refine AWP.label ?_
    | with_reducible refine AWP.goto ?_
    | ((with_reducible refine AWP.condT ?_ ?_); focus (simp only [ev, lk_cons, ↓reduceIte, Nat.reduceEqDiff]; done))
    | ((with_reducible refine AWP.condF ?_ ?_); focus (simp only [ev, lk_cons, ↓reduceIte, Nat.reduceEqDiff]; done))
    | simp only [go_sem, ↓reduceIte, Nat.reduceEqDiff, reduceCtorEq, Nat.reduceAdd, Int.reduceEq, Int.reduceBNe, Int.reduceBEq, Int.reduceToNat, Int.reduceLT, Int.reduceLE, Int.reduceGT, Int.reduceGE, Nat.reduceSub, Nat.reduceBEq, Nat.reduceBNe, Int.reduceAdd, Int.reduceSub, Int.reduceMul, Int.reduceNeg, Nat.reduceMul, Nat.reduceLeDiff, Nat.reduceLT, hi, hm, hl, lenW_mp]
    | simp (disch := omega) only [wi64, wu8, wu16, wu32, wu64, Int.tdiv_eq_ediv_of_nonneg, Int.tmod_eq_emod_of_nonneg]
    | with_reducible_and_instances exact finR
    | ((with_reducible refine finR' ?_ ?_) <;> rfl)
    | ((with_reducible refine finD hsc (NRel.of_plain ?_)); exact rfl)
/-- The entries of a set of texts. -/
def esB : Nat → List (List UInt8) → MEs
  | _, [] => []
  | j, k :: r => (.string (bs k), .bool true, j) :: esB (j + 1) r
def insB (l : List (List UInt8)) (x : List UInt8) : List (List UInt8) := if l.contains x then l else l ++ [x]
theorem esB_len : ∀ (l : List (List UInt8)) (j : Nat), (esB j l).length = l.length
  | [], _ => rfl
  | k :: r, j => by simp only [esB, List.length_cons, esB_len r]
theorem keysB_b {d : Option TypeDesc} (h : d = some .string) : ∀ (l : List (List UInt8)) (j : Nat), keysB d (esB j l) = true := by
  subst h
  intro l
  induction l with
  | nil => intro j; rfl
  | cons k r ih =>
    intro j
    have := ih (j + 1)
    show (keyB (some .string) (.string (bs k)) && keysB (some .string) (esB (j + 1) r)) = true
    rw [this]; rfl
theorem mIx_b (x : List UInt8) (l : List (List UInt8)) (j : Nat) : mIx (.string (bs x)) (esB j l) = l.findIdx? (fun e => e == x) := by
  unfold mIx
  induction l generalizing j with
  | nil => rfl
  | cons k r ih => simp only [esB, List.findIdx?_cons, sameK_s, ih]
theorem find_contains (x : List UInt8) (l : List (List UInt8)) : (l.findIdx? (fun e => e == x)).isSome = l.contains x := by
  induction l with
  | nil => rfl
  | cons k r ih =>
    by_cases h : k = x
    · subst h
      simp [List.findIdx?_cons]
    · have hb : (k == x) = false := beq_eq_false_iff_ne.2 h
      have hb2 : (x == k) = false := beq_eq_false_iff_ne.2 (Ne.symm h)
      simp only [List.findIdx?_cons, hb, Bool.false_eq_true, if_false, List.contains_cons, hb2, Bool.false_or]
      rw [← ih]
      cases r.findIdx? (fun e => e == x) <;> rfl
theorem mPut_b (x : List UInt8) (l : List (List UInt8)) (j : Nat) : mPut (.string (bs x)) (.bool true) (j + l.length) (esB j l) = esB j (insB l x) := by
  unfold mPut
  rw [mIx_b]
  induction l generalizing j with
  | nil => rfl
  | cons k r ih =>
    by_cases h : k = x
    · subst h
      simp [List.findIdx?_cons, esB, insB]
    · have hb : (k == x) = false := beq_eq_false_iff_ne.2 h
      have hb2 : (x == k) = false := beq_eq_false_iff_ne.2 (Ne.symm h)
      have := ih (j + 1)
      have hins : insB (k :: r) x = k :: insB r x := by
        unfold insB
        rw [List.contains_cons, hb2, Bool.false_or]
        split <;> rfl
      rw [hins]
      simp only [List.findIdx?_cons, hb, Bool.false_eq_true, if_false, List.length_cons, esB]
      rw [show j + 1 + r.length = j + (r.length + 1) by omega] at this
      rw [← this]
      cases r.findIdx? (fun e => e == x) with
      | none => simp
      | some a => simp
theorem mCk_b (x : List UInt8) (l : List (List UInt8)) : mCk (.string (bs x)) l.length (esB 0 l) = (insB l x).length := by
  unfold mCk insB
  rw [mIx_b, find_contains]
  split <;> simp_all
def setStep (p : Int) (acc : List (List UInt8)) (e : Int × List UInt8) : List (List UInt8) := if e.1 = p then insB acc e.2 else acc
def ipsL (R : Rk) : List (List UInt8) := R.taken.foldl (setStep (R.now / R.per)) []
theorem rCountN (R : Rk) (hok : R.ok) (i js jt : Nat) (H : AHeap) (h : Rst H i js jt R) : ARet Tryd.prog 60 [.pointer (some ⟨i, 0, none⟩)] H (.int .i64 ((ipsL R).length : Nat)) H := by
  have hi := h.at_
  unfold rkC at hi
  have hil := lt_of_get hi
  have hn0 := hok.now0
  have hn1 := hok.now1
  have hp0 := hok.per0
  have hpz : ¬ R.per = 0 := by omega
  have htl := hok.tl
  obtain ⟨q0, q1⟩ := per_q (t := R.now) (p := R.per) (by omega) (by omega) hp0
  have hq : R.now.tdiv R.per = R.now / R.per := Int.tdiv_eq_ediv_of_nonneg hn0
  have hwq : IntKind.i64.wrap (R.now / R.per) = R.now / R.per := wi64 (by omega)
  have hat := prC_at R.taken
  have hcl := prC_len R.taken
  have ht := h.ht
  unfold ipsL
  have hcnt : ∀ acc e, setStep (R.now / R.per) acc e = if e.1 = R.now / R.per then insB acc e.2 else acc := fun _ _ => rfl
  generalize setStep (R.now / R.per) = stp at *
  generalize hl : R.taken = l at *
  refine AC.enter Tryd.func60 rfl (by kernel_rfl) 36 rfl [.tmp 2] rfl (by simp) fun hsc B => ?_
  repeat first
    | with_reducible refine AWP.seq ?_
    | ((with_reducible refine AWP.region ?_ ?_); exact rfl)
    | with_reducible refine AWP.block ?_
    | with_reducible refine AWP.skip ?_
    | with_reducible refine AWP.exit ?_
    | with_reducible refine AWP.ret ?_
    | with_reducible refine AWP.label ?_
    | with_reducible refine AWP.goto ?_
    | ((with_reducible refine AWP.condT ?_ ?_); focus (simp only [ev, lk_cons, ↓reduceIte, Nat.reduceEqDiff]; done))
    | ((with_reducible refine AWP.condF ?_ ?_); focus (simp only [ev, lk_cons, ↓reduceIte, Nat.reduceEqDiff]; done))
    | simp only [go_sem, ↓reduceIte, Nat.reduceEqDiff, reduceCtorEq, Nat.reduceAdd, Int.reduceEq, Int.reduceBNe, Int.reduceBEq, Int.reduceToNat, Int.reduceLT, Int.reduceLE, Int.reduceGT, Int.reduceGE, Nat.reduceSub, Nat.reduceBEq, Nat.reduceBNe, Int.reduceAdd, Int.reduceSub, Int.reduceMul, Int.reduceNeg, Nat.reduceMul, Nat.reduceLeDiff, Nat.reduceLT, hi, hil, hgetl, lenW_gt]
    | simp (disch := omega) only [wi64, wu8, wu16, wu32, wu64, Int.tdiv_eq_ediv_of_nonneg, Int.tmod_eq_emod_of_nonneg]
    | with_reducible_and_instances exact finR
    | ((with_reducible refine finR' ?_ ?_) <;> rfl)
    | ((with_reducible refine finD hsc (NRel.of_plain ?_)); exact rfl)
  refine AWP.loopP (fun s : Nat × AHeap => ⟨[(0, .pointer (some ⟨i, 0, none⟩)), (3, .map (some H.length)), (12, gS jt l.length), (13, .int .i64 (l.length : Nat)), (14, .int .i64 (s.1 : Nat))], [], H ++ (.amap (esB 0 ((l.take s.1).foldl stp [])) ((l.take s.1).foldl stp []).length true :: s.2)⟩) (fun s => s.1 ≤ l.length) (fun s => l.length - s.1) (0, []) ?_ (Nat.zero_le _) ?_
  · exact Weak.env (by simp [envIn, lk_cons, wth_some])
  rintro ⟨n, X⟩ hn
  simp only at hn ⊢
  by_cases hc : n < l.length
  · have hc' : (n : Int) < (l.length : Int) := by omega
    have hne : l ≠ [] := fun e => by rw [e] at hc; simp at hc
    obtain ⟨z, hz, ht1⟩ := ht hne
    have hjl := lt_of_get ht1
    have hat1 := hat n hc
    have hfl : (l.take (n + 1)).foldl stp [] = stp ((l.take n).foldl stp []) l[n] := by
      rw [List.take_add_one, List.getElem?_eq_getElem hc, List.foldl_append]; rfl
    rw [hcnt] at hfl
    obtain ⟨t, q, h0⟩ : ∃ t q, l[n] = (t, q) := ⟨_, _, rfl⟩
    simp only [h0] at hfl hat1
    have hle : n * 2 + 2 ≤ (prC l).length := by omega
    have b0 : 0 + n * 2 = n * 2 := Nat.zero_add _
    have hgp : gS jt l.length = .slice (some ⟨jt, 0, none⟩) l.length l.length := gS_pos (by omega)
    rw [hgp]
    generalize (l.take n).foldl stp [] = acc at *
    have hput := mPut_b q acc 0
    rw [Nat.zero_add] at hput
    have hck := mCk_b q acc
    repeat' first
      | omega
      | with_reducible refine And.intro ?_ ?_
      | with_reducible refine AWP.seq ?_
      | ((with_reducible refine AWP.region ?_ ?_); exact rfl)
      | with_reducible refine AWP.block ?_
      | with_reducible refine AWP.skip ?_
      | with_reducible refine AWP.exit ?_
      | with_reducible refine AWP.ret ?_
      | with_reducible refine AWP.label ?_
      | with_reducible refine AWP.goto ?_
      | ((with_reducible refine AWP.condT ?_ ?_); focus (simp only [ev, lk_cons, ↓reduceIte, Nat.reduceEqDiff]; done))
      | ((with_reducible refine AWP.condF ?_ ?_); focus (simp only [ev, lk_cons, ↓reduceIte, Nat.reduceEqDiff]; done))
      | simp only [go_sem, ↓reduceIte, Nat.reduceEqDiff, reduceCtorEq, Nat.reduceAdd, Int.reduceEq, Int.reduceBNe, Int.reduceBEq, Int.reduceToNat, Int.reduceLT, Int.reduceLE, Int.reduceGT, Int.reduceGE, Nat.reduceSub, Nat.reduceBEq, Nat.reduceBNe, Int.reduceAdd, Int.reduceSub, Int.reduceMul, Int.reduceNeg, Nat.reduceMul, Nat.reduceLeDiff, Nat.reduceLT, hc', ht1, hjl, hgetl, hat1, hle, b0]
      | simp (disch := omega) only [wi64, wu8, wu16, wu32, wu64, Int.tdiv_eq_ediv_of_nonneg, Int.tmod_eq_emod_of_nonneg]
      | with_reducible_and_instances exact finR
      | ((with_reducible refine finR' ?_ ?_) <;> rfl)
      | ((with_reducible refine finD hsc (NRel.of_plain ?_)); exact rfl)
    refine AWP.regionK 12 (by kernel_rfl) (by decide) (by kernel_rfl) ?_
    by_cases hb : t = R.now / R.per
    · have hb' : (t == R.now / R.per) = true := beq_iff_eq.2 hb
      rw [if_pos hb] at hfl
      repeat first
        | with_reducible refine AWP.seq ?_
        | ((with_reducible refine AWP.region ?_ ?_); exact rfl)
        | with_reducible refine AWP.block ?_
        | with_reducible refine AWP.skip ?_
        | with_reducible refine AWP.exit ?_
        | with_reducible refine AWP.ret ?_
        | with_reducible refine AWP.label ?_
        | with_reducible refine AWP.goto ?_
        | ((with_reducible refine AWP.condT ?_ ?_); focus (simp only [ev, lk_cons, ↓reduceIte, Nat.reduceEqDiff]; done))
        | ((with_reducible refine AWP.condF ?_ ?_); focus (simp only [ev, lk_cons, ↓reduceIte, Nat.reduceEqDiff]; done))
        | simp only [go_sem, ↓reduceIte, Nat.reduceEqDiff, reduceCtorEq, Nat.reduceAdd, Int.reduceEq, Int.reduceBNe, Int.reduceBEq, Int.reduceToNat, Int.reduceLT, Int.reduceLE, Int.reduceGT, Int.reduceGE, Nat.reduceSub, Nat.reduceBEq, Nat.reduceBNe, Int.reduceAdd, Int.reduceSub, Int.reduceMul, Int.reduceNeg, Nat.reduceMul, Nat.reduceLeDiff, Nat.reduceLT, hi, hil, hgetl, hpz, hq, hwq, hb']
        | simp (disch := omega) only [wi64, wu8, wu16, wu32, wu64, Int.tdiv_eq_ediv_of_nonneg, Int.tmod_eq_emod_of_nonneg]
        | with_reducible_and_instances exact finR
        | ((with_reducible refine finR' ?_ ?_) <;> rfl)
        | ((with_reducible refine finD hsc (NRel.of_plain ?_)); exact rfl)
      refine ⟨keysB_b rfl _ _, ?_⟩
      repeat first
        | with_reducible refine AWP.seq ?_
        | ((with_reducible refine AWP.region ?_ ?_); exact rfl)
        | with_reducible refine AWP.block ?_
        | with_reducible refine AWP.skip ?_
        | with_reducible refine AWP.exit ?_
        | with_reducible refine AWP.ret ?_
        | with_reducible refine AWP.label ?_
        | with_reducible refine AWP.goto ?_
        | ((with_reducible refine AWP.condT ?_ ?_); focus (simp only [ev, lk_cons, ↓reduceIte, Nat.reduceEqDiff]; done))
        | ((with_reducible refine AWP.condF ?_ ?_); focus (simp only [ev, lk_cons, ↓reduceIte, Nat.reduceEqDiff]; done))
        | simp only [go_sem, ↓reduceIte, Nat.reduceEqDiff, reduceCtorEq, Nat.reduceAdd, Int.reduceEq, Int.reduceBNe, Int.reduceBEq, Int.reduceToNat, Int.reduceLT, Int.reduceLE, Int.reduceGT, Int.reduceGE, Nat.reduceSub, Nat.reduceBEq, Nat.reduceBNe, Int.reduceAdd, Int.reduceSub, Int.reduceMul, Int.reduceNeg, Nat.reduceMul, Nat.reduceLeDiff, Nat.reduceLT, hput, hck]
        | simp (disch := omega) only [wi64, wu8, wu16, wu32, wu64, Int.tdiv_eq_ediv_of_nonneg, Int.tmod_eq_emod_of_nonneg]
        | with_reducible_and_instances exact finR
        | ((with_reducible refine finR' ?_ ?_) <;> rfl)
        | ((with_reducible refine finD hsc (NRel.of_plain ?_)); exact rfl)
      exact ⟨(n + 1, X ++ [.cells [.int .i64 t, .string (bs q)] ⟨114, 0, true, 0, none⟩]), by rw [hfl]; exact Weak.env (by simp [envIn, lk_cons, wth_some, hgp]), by simp only; omega, by simp only; omega⟩
    · have hb' : (t == R.now / R.per) = false := beq_eq_false_iff_ne.2 hb
      rw [if_neg hb] at hfl
      repeat first
        | with_reducible refine AWP.seq ?_
        | ((with_reducible refine AWP.region ?_ ?_); exact rfl)
        | with_reducible refine AWP.block ?_
        | with_reducible refine AWP.skip ?_
        | with_reducible refine AWP.exit ?_
        | with_reducible refine AWP.ret ?_
        | with_reducible refine AWP.label ?_
        | with_reducible refine AWP.goto ?_
        | ((with_reducible refine AWP.condT ?_ ?_); focus (simp only [ev, lk_cons, ↓reduceIte, Nat.reduceEqDiff]; done))
        | ((with_reducible refine AWP.condF ?_ ?_); focus (simp only [ev, lk_cons, ↓reduceIte, Nat.reduceEqDiff]; done))
        | simp only [go_sem, ↓reduceIte, Nat.reduceEqDiff, reduceCtorEq, Nat.reduceAdd, Int.reduceEq, Int.reduceBNe, Int.reduceBEq, Int.reduceToNat, Int.reduceLT, Int.reduceLE, Int.reduceGT, Int.reduceGE, Nat.reduceSub, Nat.reduceBEq, Nat.reduceBNe, Int.reduceAdd, Int.reduceSub, Int.reduceMul, Int.reduceNeg, Nat.reduceMul, Nat.reduceLeDiff, Nat.reduceLT, hi, hil, hgetl, hpz, hq, hwq, hb']
        | simp (disch := omega) only [wi64, wu8, wu16, wu32, wu64, Int.tdiv_eq_ediv_of_nonneg, Int.tmod_eq_emod_of_nonneg]
        | with_reducible_and_instances exact finR
        | ((with_reducible refine finR' ?_ ?_) <;> rfl)
        | ((with_reducible refine finD hsc (NRel.of_plain ?_)); exact rfl)
      exact ⟨(n + 1, X ++ [.cells [.int .i64 t, .string (bs q)] ⟨114, 0, true, 0, none⟩]), by rw [hfl]; exact Weak.env (by simp [envIn, lk_cons, wth_some, hgp]), by simp only; omega, by simp only; omega⟩
  · have : n = l.length := by omega
    subst this
    have hc' : ¬ (l.length : Int) < (l.length : Int) := by omega
    have hel := esB_len (l.foldl stp []) 0
    rw [List.take_length]
    repeat first
      | with_reducible refine AWP.seq ?_
      | ((with_reducible refine AWP.region ?_ ?_); exact rfl)
      | with_reducible refine AWP.block ?_
      | with_reducible refine AWP.skip ?_
      | with_reducible refine AWP.exit ?_
      | with_reducible refine AWP.ret ?_
      | with_reducible refine AWP.label ?_
      | with_reducible refine AWP.goto ?_
      | ((with_reducible refine AWP.condT ?_ ?_); focus (simp only [ev, lk_cons, ↓reduceIte, Nat.reduceEqDiff]; done))
      | ((with_reducible refine AWP.condF ?_ ?_); focus (simp only [ev, lk_cons, ↓reduceIte, Nat.reduceEqDiff]; done))
      | simp only [go_sem, ↓reduceIte, Nat.reduceEqDiff, reduceCtorEq, Nat.reduceAdd, Int.reduceEq, Int.reduceBNe, Int.reduceBEq, Int.reduceToNat, Int.reduceLT, Int.reduceLE, Int.reduceGT, Int.reduceGE, Nat.reduceSub, Nat.reduceBEq, Nat.reduceBNe, Int.reduceAdd, Int.reduceSub, Int.reduceMul, Int.reduceNeg, Nat.reduceMul, Nat.reduceLeDiff, Nat.reduceLT, hc', hel, lenW_mp]
      | simp (disch := omega) only [wi64, wu8, wu16, wu32, wu64, Int.tdiv_eq_ediv_of_nonneg, Int.tmod_eq_emod_of_nonneg]
      | with_reducible_and_instances exact finR
      | ((with_reducible refine finR' ?_ ?_) <;> rfl)
      | ((with_reducible refine finD hsc (NRel.of_plain ?_)); exact rfl)
end Go.Proofs.YtmpkgdilmkeacaaDoor
