/-
  The walk of nodes: packing nodes.
-/
import Derived.Test.YtdbdnknnaekbhaaNJ
set_option linter.unusedVariables false
set_option linter.unusedSimpArgs false
set_option maxRecDepth 20000
set_option maxHeartbeats 4000000
namespace Go.Proofs.Ytdbdnknnaekbhaa
open Go Go.Aw Go.Proofs
/-- The entries of counts. -/
def esM : Nat → List (Int × List UInt8) → MEs
  | _, [] => []
  | j, (k, n) :: r => (.int .i64 k, .string (bs n), j) :: esM (j + 1) r
def lookM : List (Int × List UInt8) → Int → List UInt8
  | [], _ => []
  | (k, n) :: r, x => if k = x then n else lookM r x
def putM : List (Int × List UInt8) → Int → List UInt8 → List (Int × List UInt8)
  | [], x, v => [(x, v)]
  | (k, n) :: r, x, v => if k = x then (k, v) :: r else (k, n) :: putM r x v
def memM (cs : List (Int × List UInt8)) (x : Int) : Bool := cs.any fun e => e.1 == x
theorem esM_len : ∀ (cs : List (Int × List UInt8)) (j : Nat), (esM j cs).length = cs.length
  | [], _ => rfl
  | (k, n) :: r, j => by simp only [esM, List.length_cons, esM_len r]
theorem keysB_m {d : Option TypeDesc} (h : d = some (.int .i64)) : ∀ (cs : List (Int × List UInt8)) (j : Nat), keysB d (esM j cs) = true := by
  subst h
  intro cs
  induction cs with
  | nil => intro j; rfl
  | cons e r ih =>
    intro j
    obtain ⟨k, n⟩ := e
    have := ih (j + 1)
    show (keyB (some (.int .i64)) (.int .i64 k) && keysB (some (.int .i64)) (esM (j + 1) r)) = true
    rw [this]; rfl
theorem sameK_n (a b : Int) : sameK (.int .i64 a) (.int .i64 b) = (b == a) := by
  rw [sameK_i]
  by_cases e : a = b
  · subst e; rfl
  · rw [beq_eq_false_iff_ne.2 e, beq_eq_false_iff_ne.2 fun h => e h.symm]
theorem mIx_m (x : Int) (cs : List (Int × List UInt8)) (j : Nat) : mIx (.int .i64 x) (esM j cs) = cs.findIdx? (fun e => e.1 == x) := by
  unfold mIx
  induction cs generalizing j with
  | nil => rfl
  | cons e r ih =>
    obtain ⟨k, n⟩ := e
    simp only [esM, List.findIdx?_cons, sameK_n, ih]
theorem mGet_m (x : Int) (cs : List (Int × List UInt8)) (j : Nat) : (mGet (.int .i64 x) (esM j cs)).getD (.string (bs [])) = .string (bs (lookM cs x)) := by
  unfold mGet
  rw [mIx_m]
  induction cs generalizing j with
  | nil => rfl
  | cons e r ih =>
    obtain ⟨k, n⟩ := e
    by_cases h : k = x
    · subst h
      simp [List.findIdx?_cons, esM, lookM]
    · have hb : (k == x) = false := beq_eq_false_iff_ne.2 h
      simp only [List.findIdx?_cons, hb, lookM, if_neg h, Bool.false_eq_true, if_false]
      rw [← ih (j + 1)]
      cases r.findIdx? (fun e => e.1 == x) with
      | none => rfl
      | some a => simp [esM]
theorem mPut_m (x : Int) (v : List UInt8) (cs : List (Int × List UInt8)) (j : Nat) : mPut (.int .i64 x) (.string (bs v)) (j + cs.length) (esM j cs) = esM j (putM cs x v) := by
  unfold mPut
  rw [mIx_m]
  induction cs generalizing j with
  | nil => rfl
  | cons e r ih =>
    obtain ⟨k, n⟩ := e
    by_cases h : k = x
    · subst h
      simp [List.findIdx?_cons, esM, putM]
    · have hb : (k == x) = false := beq_eq_false_iff_ne.2 h
      have := ih (j + 1)
      simp only [List.findIdx?_cons, hb, putM, if_neg h, Bool.false_eq_true, if_false, List.length_cons, esM]
      rw [show j + 1 + r.length = j + (r.length + 1) by omega] at this
      rw [← this]
      cases r.findIdx? (fun e => e.1 == x) with
      | none => simp
      | some a => simp
theorem putM_len (cs : List (Int × List UInt8)) (x : Int) (v : List UInt8) : (putM cs x v).length = if (cs.findIdx? (fun e => e.1 == x)).isSome then cs.length else cs.length + 1 := by
  induction cs with
  | nil => rfl
  | cons e r ih =>
    obtain ⟨k, n⟩ := e
    by_cases h : k = x
    · subst h
      simp [List.findIdx?_cons, putM]
    · have hb : (k == x) = false := beq_eq_false_iff_ne.2 h
      simp only [List.findIdx?_cons, hb, putM, if_neg h, Bool.false_eq_true, if_false, List.length_cons, ih]
      cases r.findIdx? (fun e => e.1 == x) with
      | none => simp
      | some a => simp
theorem mCk_m (x : Int) (v : List UInt8) (cs : List (Int × List UInt8)) : mCk (.int .i64 x) cs.length (esM 0 cs) = (putM cs x v).length := by
  unfold mCk
  rw [mIx_m, putM_len]
theorem lookM_put (cs : List (Int × List UInt8)) (x : Int) (v : List UInt8) (y : Int) : lookM (putM cs x v) y = if x = y then v else lookM cs y := by
  induction cs with
  | nil => simp [putM, lookM]
  | cons e r ih =>
    obtain ⟨k, n⟩ := e
    unfold putM
    by_cases h : k = x
    · subst h
      rw [if_pos rfl]
      unfold lookM
      by_cases h2 : k = y
      · rw [if_pos h2, if_pos h2]
      · rw [if_neg h2, if_neg h2, if_neg h2]
    · rw [if_neg h]
      show (if k = y then n else lookM (putM r x v) y) = if x = y then v else if k = y then n else lookM r y
      rw [ih]
      by_cases h2 : k = y
      · subst h2
        rw [if_pos rfl, if_pos rfl, if_neg (fun e => h e.symm)]
      · rw [if_neg h2, if_neg h2]
/-- The packs of nodes of a family; of nodes of the others. -/
def pkL (f : Bool) : List Nd → List UInt8
  | [] => []
  | x :: r => if (x.a.fam == 4) = f then x.id ++ packL x.a ++ pkL f r else pkL f r
theorem pkL_snoc (f : Bool) (l : List Nd) (x : Nd) : pkL f (l ++ [x]) = pkL f l ++ (if (x.a.fam == 4) = f then x.id ++ packL x.a else []) := by
  induction l with
  | nil => simp only [List.nil_append, pkL]; split <;> simp
  | cons y r ih =>
    simp only [List.cons_append, pkL, ih]
    split <;> simp
theorem pkL_le (f : Bool) : ∀ l : List Nd, (∀ x ∈ l, x.ok = true) → (pkL f l).length ≤ 40 * l.length
  | [], _ => Nat.le_refl _
  | x :: r, h => by
    have h1 := pkL_le f r fun y hy => h y (List.mem_cons_of_mem _ hy)
    have h2 := h x (List.mem_cons_self ..)
    unfold Nd.ok at h2
    simp only [Bool.and_eq_true, decide_eq_true_eq] at h2
    obtain ⟨h3, -⟩ := ok_fam h2.2
    simp only [pkL, List.length_cons]
    split
    · simp only [List.length_append, packL, List.length_cons, List.length_nil]; omega
    · omega
theorem rPackL (l : List Nd) (hl : l.length ≤ 100) (hok : ∀ x ∈ l, x.ok = true) (v : Value) (H : AHeap) (hv : RdN H 4 v (l.map ndC)) : ARet Try.prog 20 [v] H (.tuple ⟨[.string (bs (pkL true l)), .string (bs (pkL false l))]⟩) H := by
  have q1 : ∀ H' K, lenW Try.prog 34 v H' K = K (.int .i64 (l.length : Nat)) H' := fun H' K => by rw [hv.lenT (by simp only [go_sem, ↓reduceIte, Nat.reduceEqDiff, reduceCtorEq, Nat.reduceAdd, Int.reduceEq, Int.reduceBNe, Int.reduceBEq, Int.reduceToNat, Int.reduceLT, Int.reduceLE, Int.reduceGT, Int.reduceGE, Nat.reduceSub, Nat.reduceBEq, Nat.reduceBNe, Int.reduceAdd, Int.reduceSub, Int.reduceMul, Int.reduceNeg, Nat.reduceMul, Nat.reduceLeDiff, Nat.reduceLT]), ndsN_len]
  have hat := ndAt_of hv
  refine AC.enter Try.func20 rfl (by kernel_rfl) 39 rfl [.tmp 2, .tmp 3] rfl (by simp) fun hsc B => ?_
  repeat first
    | with_reducible refine AWP.seq ?_
    | ((with_reducible refine AWP.region ?_ ?_); exact rfl)
    | with_reducible refine AWP.block ?_
    | with_reducible refine AWP.skip ?_
    | with_reducible refine AWP.exit ?_
    | with_reducible refine AWP.ret ?_
    | with_reducible refine AWP.label ?_
    | with_reducible refine AWP.goto ?_
    | ((with_reducible refine AWP.condT ?_ ?_); focus (simp only [ev, lk_cons, ↓reduceIte, Nat.reduceEqDiff]; done))
    | ((with_reducible refine AWP.condF ?_ ?_); focus (simp only [ev, lk_cons, ↓reduceIte, Nat.reduceEqDiff]; done))
    | simp only [go_sem, ↓reduceIte, Nat.reduceEqDiff, reduceCtorEq, Nat.reduceAdd, Int.reduceEq, Int.reduceBNe, Int.reduceBEq, Int.reduceToNat, Int.reduceLT, Int.reduceLE, Int.reduceGT, Int.reduceGE, Nat.reduceSub, Nat.reduceBEq, Nat.reduceBNe, Int.reduceAdd, Int.reduceSub, Int.reduceMul, Int.reduceNeg, Nat.reduceMul, Nat.reduceLeDiff, Nat.reduceLT, q1]
    | simp (disch := omega) only [wi64, wu8, wu16, wu32, wu64, Int.tdiv_eq_ediv_of_nonneg, Int.tmod_eq_emod_of_nonneg]
    | with_reducible_and_instances exact finR
    | ((with_reducible refine finR' ?_ ?_) <;> rfl)
    | ((with_reducible refine finD hsc (NRel.of_plain ?_)); exact rfl)
  refine AWP.loopP (fun s : Nat × AHeap => ⟨[(2, .string (bs (pkL true (l.take s.1)))), (3, .string (bs (pkL false (l.take s.1)))), (8, v), (9, .int .i64 (l.length : Nat)), (10, .int .i64 (s.1 : Nat))], [], H ++ s.2⟩) (fun s => s.1 ≤ l.length) (fun s => l.length - s.1) (0, []) ?_ (Nat.zero_le _) ?_
  · simp only [List.append_nil, List.take_zero, pkL]
    exact Weak.env (by simp [envIn, lk_cons, wth_some])
  rintro ⟨n, X⟩ hn
  simp only at hn ⊢
  by_cases hc : n < l.length
  · have hc' : (n : Int) < (l.length : Int) := by omega
    obtain ⟨i, o, cap, cs, k, rfl, hi, hg, hg2⟩ := hat n hc
    have hil := lt_of_get hi
    have hwn : IntKind.i64.wrap ((n : Int) + 1) = ((n + 1 : Nat) : Int) := by rw [wi64 (by omega)]; omega
    have hxk := hok l[n] (List.getElem_mem _)
    have ht : l.take (n + 1) = l.take n ++ [l[n]] := by rw [List.take_add_one, List.getElem?_eq_getElem hc]; rfl
    have e1 := pkL_snoc true (l.take n) l[n]
    have e2 := pkL_snoc false (l.take n) l[n]
    rw [← ht] at e1 e2
    have b1 := pkL_le true (l.take n) fun x hx => hok x (List.mem_of_mem_take hx)
    have b2 := pkL_le false (l.take n) fun x hx => hok x (List.mem_of_mem_take hx)
    rw [List.length_take] at b1 b2
    generalize l[n] = x at *
    have hx2 := hxk
    unfold Nd.ok at hx2
    simp only [Bool.and_eq_true, decide_eq_true_eq] at hx2
    obtain ⟨hid, hao⟩ := hx2
    obtain ⟨hf3, -⟩ := ok_fam hao
    have hpl : (packL x.a).length ≤ 18 := by simp only [packL, List.length_append, List.length_cons, List.length_nil]; omega
    have hP := rPack x.a hao
    generalize packL x.a = pl at *
    generalize pkL true (l.take n) = p4 at *
    generalize pkL false (l.take n) = p6 at *
    unfold ndC at hg
    unfold Ad.v at hP
    by_cases h4 : x.a.fam = 4
    · have h4' : (x.a.fam == 4) = true := beq_iff_eq.2 h4
      rw [h4', if_pos rfl] at e1
      rw [h4', if_neg (by decide), List.append_nil] at e2
      repeat' first
        | omega
        | with_reducible refine And.intro ?_ ?_
        | with_reducible refine AWP.seq ?_
        | ((with_reducible refine AWP.region ?_ ?_); exact rfl)
        | with_reducible refine AWP.block ?_
        | with_reducible refine AWP.skip ?_
        | with_reducible refine AWP.exit ?_
        | with_reducible refine AWP.ret ?_
        | with_reducible refine AWP.label ?_
        | with_reducible refine AWP.goto ?_
        | ((with_reducible refine AWP.condT ?_ ?_); focus (simp only [ev, lk_cons, ↓reduceIte, Nat.reduceEqDiff]; done))
        | ((with_reducible refine AWP.condF ?_ ?_); focus (simp only [ev, lk_cons, ↓reduceIte, Nat.reduceEqDiff]; done))
        | with_reducible refine (hP _).use ?_
        | simp only [go_sem, ↓reduceIte, Nat.reduceEqDiff, reduceCtorEq, Nat.reduceAdd, Int.reduceEq, Int.reduceBNe, Int.reduceBEq, Int.reduceToNat, Int.reduceLT, Int.reduceLE, Int.reduceGT, Int.reduceGE, Nat.reduceSub, Nat.reduceBEq, Nat.reduceBNe, Int.reduceAdd, Int.reduceSub, Int.reduceMul, Int.reduceNeg, Nat.reduceMul, Nat.reduceLeDiff, Nat.reduceLT, hc', hi, hil, hgetl, hg, hg2, hwn, h4']
        | simp (disch := omega) only [wi64, wu8, wu16, wu32, wu64, Int.tdiv_eq_ediv_of_nonneg, Int.tmod_eq_emod_of_nonneg]
        | with_reducible_and_instances exact finR
        | ((with_reducible refine finR' ?_ ?_) <;> rfl)
        | ((with_reducible refine finD hsc (NRel.of_plain ?_)); exact rfl)
      exact ⟨(n + 1, X ++ [.cells (ndC x) ⟨46, 0, true, 0, none⟩]), Weak.env (by simp [envIn, lk_cons, wth_some, e1, e2]), by show n + 1 ≤ _; omega, by show l.length - (n + 1) < _; omega⟩
    · have h4' : (x.a.fam == 4) = false := beq_eq_false_iff_ne.2 h4
      rw [h4', if_neg (by decide), List.append_nil] at e1
      rw [h4', if_pos rfl] at e2
      repeat' first
        | omega
        | with_reducible refine And.intro ?_ ?_
        | with_reducible refine AWP.seq ?_
        | ((with_reducible refine AWP.region ?_ ?_); exact rfl)
        | with_reducible refine AWP.block ?_
        | with_reducible refine AWP.skip ?_
        | with_reducible refine AWP.exit ?_
        | with_reducible refine AWP.ret ?_
        | with_reducible refine AWP.label ?_
        | with_reducible refine AWP.goto ?_
        | ((with_reducible refine AWP.condT ?_ ?_); focus (simp only [ev, lk_cons, ↓reduceIte, Nat.reduceEqDiff]; done))
        | ((with_reducible refine AWP.condF ?_ ?_); focus (simp only [ev, lk_cons, ↓reduceIte, Nat.reduceEqDiff]; done))
        | with_reducible refine (hP _).use ?_
        | simp only [go_sem, ↓reduceIte, Nat.reduceEqDiff, reduceCtorEq, Nat.reduceAdd, Int.reduceEq, Int.reduceBNe, Int.reduceBEq, Int.reduceToNat, Int.reduceLT, Int.reduceLE, Int.reduceGT, Int.reduceGE, Nat.reduceSub, Nat.reduceBEq, Nat.reduceBNe, Int.reduceAdd, Int.reduceSub, Int.reduceMul, Int.reduceNeg, Nat.reduceMul, Nat.reduceLeDiff, Nat.reduceLT, hc', hi, hil, hgetl, hg, hg2, hwn, h4']
        | simp (disch := omega) only [wi64, wu8, wu16, wu32, wu64, Int.tdiv_eq_ediv_of_nonneg, Int.tmod_eq_emod_of_nonneg]
        | with_reducible_and_instances exact finR
        | ((with_reducible refine finR' ?_ ?_) <;> rfl)
        | ((with_reducible refine finD hsc (NRel.of_plain ?_)); exact rfl)
      exact ⟨(n + 1, X ++ [.cells (ndC x) ⟨46, 0, true, 0, none⟩]), Weak.env (by simp [envIn, lk_cons, wth_some, e1, e2]), by show n + 1 ≤ _; omega, by show l.length - (n + 1) < _; omega⟩
  · have : n = l.length := by omega
    subst this
    have hc' : ¬ (l.length : Int) < (l.length : Int) := by omega
    rw [List.take_length]
    repeat first
      | with_reducible refine AWP.seq ?_
      | ((with_reducible refine AWP.region ?_ ?_); exact rfl)
      | with_reducible refine AWP.block ?_
      | with_reducible refine AWP.skip ?_
      | with_reducible refine AWP.exit ?_
      | with_reducible refine AWP.ret ?_
      | with_reducible refine AWP.label ?_
      | with_reducible refine AWP.goto ?_
      | ((with_reducible refine AWP.condT ?_ ?_); focus (simp only [ev, lk_cons, ↓reduceIte, Nat.reduceEqDiff]; done))
      | ((with_reducible refine AWP.condF ?_ ?_); focus (simp only [ev, lk_cons, ↓reduceIte, Nat.reduceEqDiff]; done))
      | simp only [go_sem, ↓reduceIte, Nat.reduceEqDiff, reduceCtorEq, Nat.reduceAdd, Int.reduceEq, Int.reduceBNe, Int.reduceBEq, Int.reduceToNat, Int.reduceLT, Int.reduceLE, Int.reduceGT, Int.reduceGE, Nat.reduceSub, Nat.reduceBEq, Nat.reduceBNe, Int.reduceAdd, Int.reduceSub, Int.reduceMul, Int.reduceNeg, Nat.reduceMul, Nat.reduceLeDiff, Nat.reduceLT, hc']
      | simp (disch := omega) only [wi64, wu8, wu16, wu32, wu64, Int.tdiv_eq_ediv_of_nonneg, Int.tmod_eq_emod_of_nonneg]
      | with_reducible_and_instances exact finR
      | ((with_reducible refine finR' ?_ ?_) <;> rfl)
      | ((with_reducible refine finD hsc (NRel.of_plain ?_)); exact rfl)
theorem PackL (l : List Nd) (hl : l.length ≤ 100) (hok : ∀ x ∈ l, x.ok = true) (v : Value) (H : AHeap) (hv : RdN H 4 v (l.map ndC)) : ARet Try.prog 18 [v] H (.tuple ⟨[.string (bs (pkL true l)), .string (bs (pkL false l)), .int .i64 0]⟩) H := by
  have q1 : ∀ H' K, lenW Try.prog 34 v H' K = K (.int .i64 (l.length : Nat)) H' := fun H' K => by rw [hv.lenT (by simp only [go_sem, ↓reduceIte, Nat.reduceEqDiff, reduceCtorEq, Nat.reduceAdd, Int.reduceEq, Int.reduceBNe, Int.reduceBEq, Int.reduceToNat, Int.reduceLT, Int.reduceLE, Int.reduceGT, Int.reduceGE, Nat.reduceSub, Nat.reduceBEq, Nat.reduceBNe, Int.reduceAdd, Int.reduceSub, Int.reduceMul, Int.reduceNeg, Nat.reduceMul, Nat.reduceLeDiff, Nat.reduceLT]), ndsN_len]
  have hat := ndAt_of hv
  have hO := odd l (by omega) v H hv
  rw [List.all_eq_true.2 hok] at hO
  refine AC.enter Try.func18 rfl (by kernel_rfl) 40 rfl [.tmp 2, .tmp 3, .tmp 4] rfl (by simp) fun hsc B => ?_
  repeat first
    | with_reducible refine AWP.seq ?_
    | ((with_reducible refine AWP.region ?_ ?_); exact rfl)
    | with_reducible refine AWP.block ?_
    | with_reducible refine AWP.skip ?_
    | with_reducible refine AWP.exit ?_
    | with_reducible refine AWP.ret ?_
    | with_reducible refine AWP.label ?_
    | with_reducible refine AWP.goto ?_
    | ((with_reducible refine AWP.condT ?_ ?_); focus (simp only [ev, lk_cons, ↓reduceIte, Nat.reduceEqDiff]; done))
    | ((with_reducible refine AWP.condF ?_ ?_); focus (simp only [ev, lk_cons, ↓reduceIte, Nat.reduceEqDiff]; done))
    | with_reducible refine hO.use ?_
    | simp only [go_sem, ↓reduceIte, Nat.reduceEqDiff, reduceCtorEq, Nat.reduceAdd, Int.reduceEq, Int.reduceBNe, Int.reduceBEq, Int.reduceToNat, Int.reduceLT, Int.reduceLE, Int.reduceGT, Int.reduceGE, Nat.reduceSub, Nat.reduceBEq, Nat.reduceBNe, Int.reduceAdd, Int.reduceSub, Int.reduceMul, Int.reduceNeg, Nat.reduceMul, Nat.reduceLeDiff, Nat.reduceLT, q1]
    | simp (disch := omega) only [wi64, wu8, wu16, wu32, wu64, Int.tdiv_eq_ediv_of_nonneg, Int.tmod_eq_emod_of_nonneg]
    | with_reducible_and_instances exact finR
    | ((with_reducible refine finR' ?_ ?_) <;> rfl)
    | ((with_reducible refine finD hsc (NRel.of_plain ?_)); exact rfl)
  refine AWP.loopP (fun s : Nat × List (Int × List UInt8) × AHeap => ⟨[(0, v), (5, .map (some H.length)), (13, v), (14, .int .i64 (l.length : Nat)), (15, .int .i64 (s.1 : Nat))], [], H ++ (.amap (esM 0 s.2.1) s.2.1.length true :: s.2.2)⟩) (fun s => s.1 ≤ l.length ∧ lookM s.2.1 4 = pkL true (l.take s.1) ∧ lookM s.2.1 6 = pkL false (l.take s.1)) (fun s => l.length - s.1) (0, [], []) ?_ ⟨Nat.zero_le _, rfl, rfl⟩ ?_
  · exact Weak.env (by simp [envIn, lk_cons, wth_some])
  rintro ⟨n, ms, X⟩ ⟨hn, hm4, hm6⟩
  simp only at hn hm4 hm6 ⊢
  by_cases hc : n < l.length
  · have hc' : (n : Int) < (l.length : Int) := by omega
    obtain ⟨i, o, cap, cs, k, rfl, hi, hg, hg2⟩ := hat n hc
    have hil := lt_of_get hi
    have hwn : IntKind.i64.wrap ((n : Int) + 1) = ((n + 1 : Nat) : Int) := by rw [wi64 (by omega)]; omega
    have hxk := hok l[n] (List.getElem_mem _)
    have ht : l.take (n + 1) = l.take n ++ [l[n]] := by rw [List.take_add_one, List.getElem?_eq_getElem hc]; rfl
    have e1 := pkL_snoc true (l.take n) l[n]
    have e2 := pkL_snoc false (l.take n) l[n]
    rw [← ht] at e1 e2
    have b1 := pkL_le true (l.take n) fun x hx => hok x (List.mem_of_mem_take hx)
    have b2 := pkL_le false (l.take n) fun x hx => hok x (List.mem_of_mem_take hx)
    rw [List.length_take] at b1 b2
    generalize l[n] = x at *
    have hx2 := hxk
    unfold Nd.ok at hx2
    simp only [Bool.and_eq_true, decide_eq_true_eq] at hx2
    obtain ⟨hid, hao⟩ := hx2
    obtain ⟨hf3, -⟩ := ok_fam hao
    have hpl : (packL x.a).length ≤ 18 := by simp only [packL, List.length_append, List.length_cons, List.length_nil]; omega
    have hP := Pack x.a hao
    generalize packL x.a = pl at *
    generalize pkL true (l.take n) = p4 at *
    generalize pkL false (l.take n) = p6 at *
    unfold ndC at hg
    unfold Ad.v at hP
    have hget := mGet_m x.a.fam ms 0
    have hlk : lookM ms x.a.fam = if x.a.fam = 4 then p4 else p6 := by
      rcases hf3 with ⟨h, _⟩ | ⟨h, _⟩
      · rw [h, hm4]; rfl
      · rw [h, hm6]; rfl
    have hlb : (lookM ms x.a.fam).length ≤ 4000 := by rw [hlk]; split <;> omega
    have hput := mPut_m x.a.fam (lookM ms x.a.fam ++ (x.id ++ pl)) ms 0
    rw [Nat.zero_add] at hput
    have hck := mCk_m x.a.fam (lookM ms x.a.fam ++ (x.id ++ pl)) ms
    have hkb := keysB_m (d := some (.int .i64)) rfl ms 0
    have hfin : lookM (putM ms x.a.fam (lookM ms x.a.fam ++ (x.id ++ pl))) 4 = pkL true (l.take (n + 1)) ∧ lookM (putM ms x.a.fam (lookM ms x.a.fam ++ (x.id ++ pl))) 6 = pkL false (l.take (n + 1)) := by
      rw [lookM_put, lookM_put, e1, e2, hm4, hm6, hlk]
      rcases hf3 with ⟨h, _⟩ | ⟨h, _⟩ <;> simp [h]
    generalize lookM ms x.a.fam = lk0 at *
    repeat' first
      | omega
      | with_reducible refine And.intro ?_ ?_
      | with_reducible refine AWP.seq ?_
      | ((with_reducible refine AWP.region ?_ ?_); exact rfl)
      | with_reducible refine AWP.block ?_
      | with_reducible refine AWP.skip ?_
      | with_reducible refine AWP.exit ?_
      | with_reducible refine AWP.ret ?_
      | with_reducible refine AWP.label ?_
      | with_reducible refine AWP.goto ?_
      | ((with_reducible refine AWP.condT ?_ ?_); focus (simp only [ev, lk_cons, ↓reduceIte, Nat.reduceEqDiff]; done))
      | ((with_reducible refine AWP.condF ?_ ?_); focus (simp only [ev, lk_cons, ↓reduceIte, Nat.reduceEqDiff]; done))
      | with_reducible refine (hP _).use ?_
      | simp only [go_sem, ↓reduceIte, Nat.reduceEqDiff, reduceCtorEq, Nat.reduceAdd, Int.reduceEq, Int.reduceBNe, Int.reduceBEq, Int.reduceToNat, Int.reduceLT, Int.reduceLE, Int.reduceGT, Int.reduceGE, Nat.reduceSub, Nat.reduceBEq, Nat.reduceBNe, Int.reduceAdd, Int.reduceSub, Int.reduceMul, Int.reduceNeg, Nat.reduceMul, Nat.reduceLeDiff, Nat.reduceLT, hc', hi, hil, hgetl, hg, hg2, hwn, hget]
      | simp (disch := omega) only [wi64, wu8, wu16, wu32, wu64, Int.tdiv_eq_ediv_of_nonneg, Int.tmod_eq_emod_of_nonneg]
      | with_reducible_and_instances exact finR
      | ((with_reducible refine finR' ?_ ?_) <;> rfl)
      | ((with_reducible refine finD hsc (NRel.of_plain ?_)); exact rfl)
    · exact keysB_m rfl _ _
    repeat' first
      | omega
      | with_reducible refine And.intro ?_ ?_
      | with_reducible refine AWP.seq ?_
      | ((with_reducible refine AWP.region ?_ ?_); exact rfl)
      | with_reducible refine AWP.block ?_
      | with_reducible refine AWP.skip ?_
      | with_reducible refine AWP.exit ?_
      | with_reducible refine AWP.ret ?_
      | with_reducible refine AWP.label ?_
      | with_reducible refine AWP.goto ?_
      | ((with_reducible refine AWP.condT ?_ ?_); focus (simp only [ev, lk_cons, ↓reduceIte, Nat.reduceEqDiff]; done))
      | ((with_reducible refine AWP.condF ?_ ?_); focus (simp only [ev, lk_cons, ↓reduceIte, Nat.reduceEqDiff]; done))
      | simp only [go_sem, ↓reduceIte, Nat.reduceEqDiff, reduceCtorEq, Nat.reduceAdd, Int.reduceEq, Int.reduceBNe, Int.reduceBEq, Int.reduceToNat, Int.reduceLT, Int.reduceLE, Int.reduceGT, Int.reduceGE, Nat.reduceSub, Nat.reduceBEq, Nat.reduceBNe, Int.reduceAdd, Int.reduceSub, Int.reduceMul, Int.reduceNeg, Nat.reduceMul, Nat.reduceLeDiff, Nat.reduceLT, hget]
      | simp (disch := omega) only [wi64, wu8, wu16, wu32, wu64, Int.tdiv_eq_ediv_of_nonneg, Int.tmod_eq_emod_of_nonneg]
      | with_reducible_and_instances exact finR
      | ((with_reducible refine finR' ?_ ?_) <;> rfl)
      | ((with_reducible refine finD hsc (NRel.of_plain ?_)); exact rfl)
    · exact keysB_m rfl _ _
    repeat' first
      | omega
      | with_reducible refine And.intro ?_ ?_
      | with_reducible refine AWP.seq ?_
      | ((with_reducible refine AWP.region ?_ ?_); exact rfl)
      | with_reducible refine AWP.block ?_
      | with_reducible refine AWP.skip ?_
      | with_reducible refine AWP.exit ?_
      | with_reducible refine AWP.ret ?_
      | with_reducible refine AWP.label ?_
      | with_reducible refine AWP.goto ?_
      | ((with_reducible refine AWP.condT ?_ ?_); focus (simp only [ev, lk_cons, ↓reduceIte, Nat.reduceEqDiff]; done))
      | ((with_reducible refine AWP.condF ?_ ?_); focus (simp only [ev, lk_cons, ↓reduceIte, Nat.reduceEqDiff]; done))
      | simp only [go_sem, ↓reduceIte, Nat.reduceEqDiff, reduceCtorEq, Nat.reduceAdd, Int.reduceEq, Int.reduceBNe, Int.reduceBEq, Int.reduceToNat, Int.reduceLT, Int.reduceLE, Int.reduceGT, Int.reduceGE, Nat.reduceSub, Nat.reduceBEq, Nat.reduceBNe, Int.reduceAdd, Int.reduceSub, Int.reduceMul, Int.reduceNeg, Nat.reduceMul, Nat.reduceLeDiff, Nat.reduceLT, hput, hck]
      | simp (disch := omega) only [wi64, wu8, wu16, wu32, wu64, Int.tdiv_eq_ediv_of_nonneg, Int.tmod_eq_emod_of_nonneg]
      | with_reducible_and_instances exact finR
      | ((with_reducible refine finR' ?_ ?_) <;> rfl)
      | ((with_reducible refine finD hsc (NRel.of_plain ?_)); exact rfl)
    exact ⟨(n + 1, putM ms x.a.fam (lk0 ++ (x.id ++ pl)), X ++ [.cells (ndC x) ⟨46, 0, true, 0, none⟩]), Weak.env (by simp [envIn, lk_cons, wth_some]), by show n + 1 ≤ _; omega, hfin.1, hfin.2, by show l.length - (n + 1) < _; omega⟩
  · have : n = l.length := by omega
    subst this
    have hc' : ¬ (l.length : Int) < (l.length : Int) := by omega
    have g4 := mGet_m 4 ms 0
    have g6 := mGet_m 6 ms 0
    rw [hm4, List.take_length] at g4
    rw [hm6, List.take_length] at g6
    repeat first
      | with_reducible refine AWP.seq ?_
      | ((with_reducible refine AWP.region ?_ ?_); exact rfl)
      | with_reducible refine AWP.block ?_
      | with_reducible refine AWP.skip ?_
      | with_reducible refine AWP.exit ?_
      | with_reducible refine AWP.ret ?_
      | with_reducible refine AWP.label ?_
      | with_reducible refine AWP.goto ?_
      | ((with_reducible refine AWP.condT ?_ ?_); focus (simp only [ev, lk_cons, ↓reduceIte, Nat.reduceEqDiff]; done))
      | ((with_reducible refine AWP.condF ?_ ?_); focus (simp only [ev, lk_cons, ↓reduceIte, Nat.reduceEqDiff]; done))
      | simp only [go_sem, ↓reduceIte, Nat.reduceEqDiff, reduceCtorEq, Nat.reduceAdd, Int.reduceEq, Int.reduceBNe, Int.reduceBEq, Int.reduceToNat, Int.reduceLT, Int.reduceLE, Int.reduceGT, Int.reduceGE, Nat.reduceSub, Nat.reduceBEq, Nat.reduceBNe, Int.reduceAdd, Int.reduceSub, Int.reduceMul, Int.reduceNeg, Nat.reduceMul, Nat.reduceLeDiff, Nat.reduceLT, hc']
      | simp (disch := omega) only [wi64, wu8, wu16, wu32, wu64, Int.tdiv_eq_ediv_of_nonneg, Int.tmod_eq_emod_of_nonneg]
      | with_reducible_and_instances exact finR
      | ((with_reducible refine finR' ?_ ?_) <;> rfl)
      | ((with_reducible refine finD hsc (NRel.of_plain ?_)); exact rfl)
    refine AWP.regionK 5 (by kernel_rfl) (by decide) (by kernel_rfl) ?_
    repeat first
      | with_reducible refine AWP.seq ?_
      | ((with_reducible refine AWP.region ?_ ?_); exact rfl)
      | with_reducible refine AWP.block ?_
      | with_reducible refine AWP.skip ?_
      | with_reducible refine AWP.exit ?_
      | with_reducible refine AWP.ret ?_
      | with_reducible refine AWP.label ?_
      | with_reducible refine AWP.goto ?_
      | ((with_reducible refine AWP.condT ?_ ?_); focus (simp only [ev, lk_cons, ↓reduceIte, Nat.reduceEqDiff]; done))
      | ((with_reducible refine AWP.condF ?_ ?_); focus (simp only [ev, lk_cons, ↓reduceIte, Nat.reduceEqDiff]; done))
      | simp only [go_sem, ↓reduceIte, Nat.reduceEqDiff, reduceCtorEq, Nat.reduceAdd, Int.reduceEq, Int.reduceBNe, Int.reduceBEq, Int.reduceToNat, Int.reduceLT, Int.reduceLE, Int.reduceGT, Int.reduceGE, Nat.reduceSub, Nat.reduceBEq, Nat.reduceBNe, Int.reduceAdd, Int.reduceSub, Int.reduceMul, Int.reduceNeg, Nat.reduceMul, Nat.reduceLeDiff, Nat.reduceLT, g4, g6]
      | simp (disch := omega) only [wi64, wu8, wu16, wu32, wu64, Int.tdiv_eq_ediv_of_nonneg, Int.tmod_eq_emod_of_nonneg]
      | with_reducible_and_instances exact finR
      | ((with_reducible refine finR' ?_ ?_) <;> rfl)
      | ((with_reducible refine finD hsc (NRel.of_plain ?_)); exact rfl)
    refine ⟨keysB_m rfl _ _, keysB_m rfl _ _, ?_⟩
    repeat first
      | with_reducible refine AWP.seq ?_
      | ((with_reducible refine AWP.region ?_ ?_); exact rfl)
      | with_reducible refine AWP.block ?_
      | with_reducible refine AWP.skip ?_
      | with_reducible refine AWP.exit ?_
      | with_reducible refine AWP.ret ?_
      | with_reducible refine AWP.label ?_
      | with_reducible refine AWP.goto ?_
      | ((with_reducible refine AWP.condT ?_ ?_); focus (simp only [ev, lk_cons, ↓reduceIte, Nat.reduceEqDiff]; done))
      | ((with_reducible refine AWP.condF ?_ ?_); focus (simp only [ev, lk_cons, ↓reduceIte, Nat.reduceEqDiff]; done))
      | simp only [go_sem, ↓reduceIte, Nat.reduceEqDiff, reduceCtorEq, Nat.reduceAdd, Int.reduceEq, Int.reduceBNe, Int.reduceBEq, Int.reduceToNat, Int.reduceLT, Int.reduceLE, Int.reduceGT, Int.reduceGE, Nat.reduceSub, Nat.reduceBEq, Nat.reduceBNe, Int.reduceAdd, Int.reduceSub, Int.reduceMul, Int.reduceNeg, Nat.reduceMul, Nat.reduceLeDiff, Nat.reduceLT]
      | simp (disch := omega) only [wi64, wu8, wu16, wu32, wu64, Int.tdiv_eq_ediv_of_nonneg, Int.tmod_eq_emod_of_nonneg]
      | with_reducible_and_instances exact finR
      | ((with_reducible refine finR' ?_ ?_) <;> rfl)
      | ((with_reducible refine finD hsc (NRel.of_plain ?_)); exact rfl)
end Go.Proofs.Ytdbdnknnaekbhaa
