/-
  Links: the document's example; acts that are few and small.
-/
import Derived.Test.YtnfkbgpbligloaaDoorWC
set_option linter.unusedVariables false
set_option linter.unusedSimpArgs false
set_option maxRecDepth 20000
set_option maxHeartbeats 4000000
namespace Go.Proofs.YtnfkbgpbligloaaDoor
open Go Go.Aw Go.Proofs
def exP : Pp := ⟨10, 1000, 1000, 0, 0, 0⟩
def exS : Lk := newS exP []
def exA : Pc := ⟨1, 100, 0, 0, 110, [97]⟩
def exB : Pc := ⟨2, 100, 0, 100, 210, [98]⟩
def exS1 : Lk := ⟨exP, [], 0, 100, 1, [(0, 100)], [exA.cm], 1, 0, 0, 0, 0⟩
def exS2 : Lk := ⟨exP, [], 0, 200, 2, [(100, 100)], [exA.cm, exB.cm], 2, 0, 0, 0, 0⟩
theorem ex1 : exS.putS 0 100 [97] = exS1 := by rfl
theorem ex2 : exS1.putS 0 100 [98] = exS2 := by rfl
theorem inv_ok {s : Lk} {n : Nat} (h : s.inv n) : s.okB := h.ok
theorem exI : exS.inv 0 := inv_new exP [] rfl rfl rfl
theorem exI1 : exS1.inv 1 := ex1 ▸ inv_put exI (by omega) [97] (by decide) (by decide)
theorem exI2 : exS2.inv 2 := ex2 ▸ inv_put exI1 (by omega) [98] (by decide) (by decide)
theorem awake (H : AHeap) : ARex Tryd.prog 5 [] H (.bool true) (Frm [] H) := by
  have hN := New exP [] (by decide) (.slice none 0 0) H (.inl ⟨rfl, rfl⟩) rfl
  have hpc : exP.c = [.int .i64 10, .int .i64 1000, .int .i64 1000, .int .i64 0, .int .i64 0, .int .i64 0] := rfl
  rw [hpc] at hN
  refine AC.enter Tryd.func5 rfl (by kernel_rfl) 45 rfl [.tmp 0] rfl (by simp) fun hsc B => ?_
  repeat first
    | with_reducible refine AWP.seq ?_
    | ((with_reducible refine AWP.region ?_ ?_); exact rfl)
    | with_reducible refine AWP.block ?_
    | with_reducible refine AWP.skip ?_
    | with_reducible refine AWP.exit ?_
    | with_reducible refine AWP.ret ?_
    | with_reducible refine AWP.label ?_
    | with_reducible refine AWP.goto ?_
    | ((with_reducible refine AWP.condT ?_ ?_); focus (simp only [ev, lk_cons, ↓reduceIte, Nat.reduceEqDiff]; done))
    | ((with_reducible refine AWP.condF ?_ ?_); focus (simp only [ev, lk_cons, ↓reduceIte, Nat.reduceEqDiff]; done))
    | simp only [go_sem, ↓reduceIte, Nat.reduceEqDiff, reduceCtorEq, Nat.reduceAdd, Int.reduceEq, Int.reduceBNe, Int.reduceBEq, Int.reduceToNat, Int.reduceLT, Int.reduceLE, Int.reduceGT, Int.reduceGE, Nat.reduceSub, Nat.reduceBEq, Nat.reduceBNe, Int.reduceAdd, Int.reduceSub, Int.reduceMul, Int.reduceNeg, Nat.reduceMul, Nat.reduceLeDiff, Nat.reduceLT]
    | simp (disch := omega) only [wi64, wu8, wu16, wu32, wu64, Int.tdiv_eq_ediv_of_nonneg, Int.tmod_eq_emod_of_nonneg]
    | with_reducible_and_instances exact finR
    | ((with_reducible refine finR' ?_ ?_) <;> rfl)
    | ((with_reducible refine finD hsc (NRel.of_plain ?_)); exact rfl)
  refine AC.mono hN ?_
  rintro r H1 ⟨i, S, rfl, hA, hf1, hS⟩
  have hP := putOk (s := exS) hA exI.ok 0 100 [97] (by decide) (by decide) (by decide) (by decide)
  rw [ex1] at hP
  have hid : exS.id + 1 = 1 := rfl
  rw [hid] at hP
  repeat first
    | with_reducible refine AWP.seq ?_
    | ((with_reducible refine AWP.region ?_ ?_); exact rfl)
    | with_reducible refine AWP.block ?_
    | with_reducible refine AWP.skip ?_
    | with_reducible refine AWP.exit ?_
    | with_reducible refine AWP.ret ?_
    | with_reducible refine AWP.label ?_
    | with_reducible refine AWP.goto ?_
    | ((with_reducible refine AWP.condT ?_ ?_); focus (simp only [ev, lk_cons, ↓reduceIte, Nat.reduceEqDiff]; done))
    | ((with_reducible refine AWP.condF ?_ ?_); focus (simp only [ev, lk_cons, ↓reduceIte, Nat.reduceEqDiff]; done))
    | simp only [go_sem, ↓reduceIte, Nat.reduceEqDiff, reduceCtorEq, Nat.reduceAdd, Int.reduceEq, Int.reduceBNe, Int.reduceBEq, Int.reduceToNat, Int.reduceLT, Int.reduceLE, Int.reduceGT, Int.reduceGE, Nat.reduceSub, Nat.reduceBEq, Nat.reduceBNe, Int.reduceAdd, Int.reduceSub, Int.reduceMul, Int.reduceNeg, Nat.reduceMul, Nat.reduceLeDiff, Nat.reduceLT]
    | simp (disch := omega) only [wi64, wu8, wu16, wu32, wu64, Int.tdiv_eq_ediv_of_nonneg, Int.tmod_eq_emod_of_nonneg]
    | with_reducible_and_instances exact finR
    | ((with_reducible refine finR' ?_ ?_) <;> rfl)
    | ((with_reducible refine finD hsc (NRel.of_plain ?_)); exact rfl)
  have hb97 : (⟨#[97]⟩ : ByteArray) = bs [97] := rfl
  have hb98 : (⟨#[98]⟩ : ByteArray) = bs [98] := rfl
  refine hP.use fun H2 ⟨S2, hA2, hf2, hS2⟩ => ?_
  have hP2 := putOk hA2 exI1.ok 0 100 [98] (by decide) (by decide) (by decide) (by decide)
  rw [ex2] at hP2
  repeat first
    | with_reducible refine AWP.seq ?_
    | ((with_reducible refine AWP.region ?_ ?_); exact rfl)
    | with_reducible refine AWP.block ?_
    | with_reducible refine AWP.skip ?_
    | with_reducible refine AWP.exit ?_
    | with_reducible refine AWP.ret ?_
    | with_reducible refine AWP.label ?_
    | with_reducible refine AWP.goto ?_
    | ((with_reducible refine AWP.condT ?_ ?_); focus (simp only [ev, lk_cons, ↓reduceIte, Nat.reduceEqDiff]; done))
    | ((with_reducible refine AWP.condF ?_ ?_); focus (simp only [ev, lk_cons, ↓reduceIte, Nat.reduceEqDiff]; done))
    | simp only [go_sem, ↓reduceIte, Nat.reduceEqDiff, reduceCtorEq, Nat.reduceAdd, Int.reduceEq, Int.reduceBNe, Int.reduceBEq, Int.reduceToNat, Int.reduceLT, Int.reduceLE, Int.reduceGT, Int.reduceGE, Nat.reduceSub, Nat.reduceBEq, Nat.reduceBNe, Int.reduceAdd, Int.reduceSub, Int.reduceMul, Int.reduceNeg, Nat.reduceMul, Nat.reduceLeDiff, Nat.reduceLT]
    | simp (disch := omega) only [wi64, wu8, wu16, wu32, wu64, Int.tdiv_eq_ediv_of_nonneg, Int.tmod_eq_emod_of_nonneg]
    | with_reducible_and_instances exact finR
    | ((with_reducible refine finR' ?_ ?_) <;> rfl)
    | ((with_reducible refine finD hsc (NRel.of_plain ?_)); exact rfl)
  refine hP2.use fun H3 ⟨S3, hA3, hf3, hS3⟩ => ?_
  have hT := Take hA3 300 (by decide) (inv_inB exI2) (by decide) (by decide)
  repeat first
    | with_reducible refine AWP.seq ?_
    | ((with_reducible refine AWP.region ?_ ?_); exact rfl)
    | with_reducible refine AWP.block ?_
    | with_reducible refine AWP.skip ?_
    | with_reducible refine AWP.exit ?_
    | with_reducible refine AWP.ret ?_
    | with_reducible refine AWP.label ?_
    | with_reducible refine AWP.goto ?_
    | ((with_reducible refine AWP.condT ?_ ?_); focus (simp only [ev, lk_cons, ↓reduceIte, Nat.reduceEqDiff]; done))
    | ((with_reducible refine AWP.condF ?_ ?_); focus (simp only [ev, lk_cons, ↓reduceIte, Nat.reduceEqDiff]; done))
    | simp only [go_sem, ↓reduceIte, Nat.reduceEqDiff, reduceCtorEq, Nat.reduceAdd, Int.reduceEq, Int.reduceBNe, Int.reduceBEq, Int.reduceToNat, Int.reduceLT, Int.reduceLE, Int.reduceGT, Int.reduceGE, Nat.reduceSub, Nat.reduceBEq, Nat.reduceBNe, Int.reduceAdd, Int.reduceSub, Int.reduceMul, Int.reduceNeg, Nat.reduceMul, Nat.reduceLeDiff, Nat.reduceLT]
    | simp (disch := omega) only [wi64, wu8, wu16, wu32, wu64, Int.tdiv_eq_ediv_of_nonneg, Int.tmod_eq_emod_of_nonneg]
    | with_reducible_and_instances exact finR
    | ((with_reducible refine finR' ?_ ?_) <;> rfl)
    | ((with_reducible refine finD hsc (NRel.of_plain ?_)); exact rfl)
  refine AC.mono hT ?_
  rintro r H4 ⟨l, vo, rfl, hperm, hsrt, ⟨So, hO, -⟩, S4, hA4, hf4, -⟩
  have hl := sort_same hperm hsrt (inv_bef exI2)
  subst hl
  have htw : (exS2.under.takeWhile fun x => decide (x.time ≤ 300)) = exS2.under := rfl
  rw [htw] at hO
  have hpcs : pcsC (exS2.under.map (·.p)) = exA.c ++ exB.c := rfl
  rw [hpcs] at hO
  rcases hO with ⟨h1, _⟩ | ⟨j, o, cs, rfl, hj, hcl, hd, rfl⟩
  · exact absurd h1 (by decide)
  have hjl := lt_of_get hj
  have g1 : cs[o + 4]? = some (.int .i64 110) := by rw [← List.getElem?_drop, hd]; rfl
  have g2 : cs[o + 10]? = some (.int .i64 210) := by rw [← List.getElem?_drop, hd]; rfl
  have hln : exS2.under.length = 2 := rfl
  rw [hln]
  repeat first
    | with_reducible refine AWP.seq ?_
    | ((with_reducible refine AWP.region ?_ ?_); exact rfl)
    | with_reducible refine AWP.block ?_
    | with_reducible refine AWP.skip ?_
    | with_reducible refine AWP.exit ?_
    | with_reducible refine AWP.ret ?_
    | with_reducible refine AWP.label ?_
    | with_reducible refine AWP.goto ?_
    | ((with_reducible refine AWP.condT ?_ ?_); focus (simp only [ev, lk_cons, ↓reduceIte, Nat.reduceEqDiff]; done))
    | ((with_reducible refine AWP.condF ?_ ?_); focus (simp only [ev, lk_cons, ↓reduceIte, Nat.reduceEqDiff]; done))
    | simp only [go_sem, ↓reduceIte, Nat.reduceEqDiff, reduceCtorEq, Nat.reduceAdd, Int.reduceEq, Int.reduceBNe, Int.reduceBEq, Int.reduceToNat, Int.reduceLT, Int.reduceLE, Int.reduceGT, Int.reduceGE, Nat.reduceSub, Nat.reduceBEq, Nat.reduceBNe, Int.reduceAdd, Int.reduceSub, Int.reduceMul, Int.reduceNeg, Nat.reduceMul, Nat.reduceLeDiff, Nat.reduceLT, hj, hjl, g1, g2]
    | simp (disch := omega) only [wi64, wu8, wu16, wu32, wu64, Int.tdiv_eq_ediv_of_nonneg, Int.tmod_eq_emod_of_nonneg]
    | with_reducible_and_instances exact finR
    | ((with_reducible refine finR' ?_ ?_) <;> rfl)
    | ((with_reducible refine finD hsc (NRel.of_plain ?_)); exact rfl)
  refine ⟨_, _, .refl _ _ _, rfl, ?_⟩
  refine ((hf1.trans hf2 fun t ht => .inr (hS t ht)).trans hf3 fun t ht => ?_).trans hf4 fun t ht => ?_
  · rcases hS2 t ht with h | h
    · exact .inr (hS t h)
    · have := hf1.1; exact .inr (by omega)
  · have h1 := hf1.1
    have h2 := hf2.1
    rcases hS3 t ht with h | h
    · rcases hS2 t h with h | h
      · exact .inr (hS t h)
      · exact .inr (by omega)
    · exact .inr (by omega)
/-- Something that a link is asked. -/
structure Ac where
  kind : Int
  later : Int
  size : Int
  body : List UInt8
  pipe : Pp
def acC (a : Ac) : List Value := [.int .i64 a.kind, .int .i64 a.later, .int .i64 a.size, .string (bs a.body), .int .i64 a.pipe.delay, .int .i64 a.pipe.rate, .int .i64 a.pipe.room, .int .i64 a.pipe.loss, .int .i64 a.pipe.dbl, .int .i64 a.pipe.jit]
def Ac.light (a : Ac) : Bool := decide (a.body.length ≤ 100) && decide (a.later ≤ 1000000)
def lightB (n : Nat) (l : List Ac) : Bool := decide (n ≤ 200) && decide (l.length ≤ 120) && l.all Ac.light
theorem acs_at {H : AHeap} {v : Value} {l : List Ac} (h : RdN H 10 v (l.map acC)) {n : Nat} (hn : n < l.length) :
    ∃ i off cap cs k, v = .slice (some ⟨i, off, none⟩) l.length cap ∧ H[i]? = some (.cells cs k) ∧ (cs.drop (off + n * 10)).take 10 = acC l[n] ∧ off + (n * 10 + 10) ≤ cs.length := by
  rcases h with ⟨_, e⟩ | ⟨i, off, cap, cs, k, e, hi, hl, hr⟩
  · cases l with
    | nil => simp at hn
    | cons a b => simp at e
  · rw [List.length_map] at *
    have h1 := hl (by cases l with | nil => simp at hn | cons a b => simp)
    refine ⟨i, off, cap, cs, k, e, hi, hr n _ (by rw [List.getElem?_map, List.getElem?_eq_getElem hn]; rfl), ?_⟩
    omega
theorem light (l : List Ac) (v : Value) (H : AHeap) (hv : RdN H 10 v (l.map acC)) (vn : Value) (nn : Nat) (hq : ∀ H' K, lenW Tryd.prog 24 vn H' K = K (.int .i64 (nn : Nat)) H') : ARet Tryd.prog 4 [vn, v] H (.bool (lightB nn l)) H := by
  have q1 : ∀ H' K, lenW Tryd.prog 25 v H' K = K (.int .i64 (l.length : Nat)) H' := fun H' K => by rw [hv.lenT (by simp only [go_sem, ↓reduceIte, Nat.reduceEqDiff, reduceCtorEq, Nat.reduceAdd, Int.reduceEq, Int.reduceBNe, Int.reduceBEq, Int.reduceToNat, Int.reduceLT, Int.reduceLE, Int.reduceGT, Int.reduceGE, Nat.reduceSub, Nat.reduceBEq, Nat.reduceBNe, Int.reduceAdd, Int.reduceSub, Int.reduceMul, Int.reduceNeg, Nat.reduceMul, Nat.reduceLeDiff, Nat.reduceLT]), List.length_map]
  by_cases h1 : (nn : Int) > 200
  · have : lightB nn l = false := by unfold lightB; rw [decide_eq_false (by omega)]; rfl
    rw [this]
    refine AC.enter Tryd.func4 rfl (by kernel_rfl) 31 rfl [.tmp 4] rfl (by simp) fun hsc B => ?_
    repeat first
      | with_reducible refine AWP.seq ?_
      | ((with_reducible refine AWP.region ?_ ?_); exact rfl)
      | with_reducible refine AWP.block ?_
      | with_reducible refine AWP.skip ?_
      | with_reducible refine AWP.exit ?_
      | with_reducible refine AWP.ret ?_
      | with_reducible refine AWP.label ?_
      | with_reducible refine AWP.goto ?_
      | ((with_reducible refine AWP.condT ?_ ?_); focus (simp only [ev, lk_cons, ↓reduceIte, Nat.reduceEqDiff]; done))
      | ((with_reducible refine AWP.condF ?_ ?_); focus (simp only [ev, lk_cons, ↓reduceIte, Nat.reduceEqDiff]; done))
      | simp only [go_sem, ↓reduceIte, Nat.reduceEqDiff, reduceCtorEq, Nat.reduceAdd, Int.reduceEq, Int.reduceBNe, Int.reduceBEq, Int.reduceToNat, Int.reduceLT, Int.reduceLE, Int.reduceGT, Int.reduceGE, Nat.reduceSub, Nat.reduceBEq, Nat.reduceBNe, Int.reduceAdd, Int.reduceSub, Int.reduceMul, Int.reduceNeg, Nat.reduceMul, Nat.reduceLeDiff, Nat.reduceLT, hq, h1]
      | simp (disch := omega) only [wi64, wu8, wu16, wu32, wu64, Int.tdiv_eq_ediv_of_nonneg, Int.tmod_eq_emod_of_nonneg]
      | with_reducible_and_instances exact finR
      | ((with_reducible refine finR' ?_ ?_) <;> rfl)
      | ((with_reducible refine finD hsc (NRel.of_plain ?_)); exact rfl)
  by_cases h2 : (l.length : Int) > 120
  · have : lightB nn l = false := by unfold lightB; rw [decide_eq_false (p := l.length ≤ 120) (by omega)]; simp
    rw [this]
    refine AC.enter Tryd.func4 rfl (by kernel_rfl) 31 rfl [.tmp 4] rfl (by simp) fun hsc B => ?_
    repeat first
      | with_reducible refine AWP.seq ?_
      | ((with_reducible refine AWP.region ?_ ?_); exact rfl)
      | with_reducible refine AWP.block ?_
      | with_reducible refine AWP.skip ?_
      | with_reducible refine AWP.exit ?_
      | with_reducible refine AWP.ret ?_
      | with_reducible refine AWP.label ?_
      | with_reducible refine AWP.goto ?_
      | ((with_reducible refine AWP.condT ?_ ?_); focus (simp only [ev, lk_cons, ↓reduceIte, Nat.reduceEqDiff]; done))
      | ((with_reducible refine AWP.condF ?_ ?_); focus (simp only [ev, lk_cons, ↓reduceIte, Nat.reduceEqDiff]; done))
      | simp only [go_sem, ↓reduceIte, Nat.reduceEqDiff, reduceCtorEq, Nat.reduceAdd, Int.reduceEq, Int.reduceBNe, Int.reduceBEq, Int.reduceToNat, Int.reduceLT, Int.reduceLE, Int.reduceGT, Int.reduceGE, Nat.reduceSub, Nat.reduceBEq, Nat.reduceBNe, Int.reduceAdd, Int.reduceSub, Int.reduceMul, Int.reduceNeg, Nat.reduceMul, Nat.reduceLeDiff, Nat.reduceLT, hq, h1, q1, h2]
      | simp (disch := omega) only [wi64, wu8, wu16, wu32, wu64, Int.tdiv_eq_ediv_of_nonneg, Int.tmod_eq_emod_of_nonneg]
      | with_reducible_and_instances exact finR
      | ((with_reducible refine finR' ?_ ?_) <;> rfl)
      | ((with_reducible refine finD hsc (NRel.of_plain ?_)); exact rfl)
  have hL : lightB nn l = l.all Ac.light := by unfold lightB; rw [decide_eq_true (p := nn ≤ 200) (by omega), decide_eq_true (p := l.length ≤ 120) (by omega)]; rfl
  rw [hL]
  refine AC.enter Tryd.func4 rfl (by kernel_rfl) 31 rfl [.tmp 4] rfl (by simp) fun hsc B => ?_
  repeat first
    | with_reducible refine AWP.seq ?_
    | ((with_reducible refine AWP.region ?_ ?_); exact rfl)
    | with_reducible refine AWP.block ?_
    | with_reducible refine AWP.skip ?_
    | with_reducible refine AWP.exit ?_
    | with_reducible refine AWP.ret ?_
    | with_reducible refine AWP.label ?_
    | with_reducible refine AWP.goto ?_
    | ((with_reducible refine AWP.condT ?_ ?_); focus (simp only [ev, lk_cons, ↓reduceIte, Nat.reduceEqDiff]; done))
    | ((with_reducible refine AWP.condF ?_ ?_); focus (simp only [ev, lk_cons, ↓reduceIte, Nat.reduceEqDiff]; done))
    | simp only [go_sem, ↓reduceIte, Nat.reduceEqDiff, reduceCtorEq, Nat.reduceAdd, Int.reduceEq, Int.reduceBNe, Int.reduceBEq, Int.reduceToNat, Int.reduceLT, Int.reduceLE, Int.reduceGT, Int.reduceGE, Nat.reduceSub, Nat.reduceBEq, Nat.reduceBNe, Int.reduceAdd, Int.reduceSub, Int.reduceMul, Int.reduceNeg, Nat.reduceMul, Nat.reduceLeDiff, Nat.reduceLT, hq, h1, q1, h2]
    | simp (disch := omega) only [wi64, wu8, wu16, wu32, wu64, Int.tdiv_eq_ediv_of_nonneg, Int.tmod_eq_emod_of_nonneg]
    | with_reducible_and_instances exact finR
    | ((with_reducible refine finR' ?_ ?_) <;> rfl)
    | ((with_reducible refine finD hsc (NRel.of_plain ?_)); exact rfl)
  refine AWP.loopP (fun s : Nat × AHeap => ⟨[(15, v), (16, .int .i64 (l.length : Nat)), (17, .int .i64 (s.1 : Nat))], [], H ++ s.2⟩) (fun s => s.1 ≤ l.length ∧ (l.take s.1).all Ac.light = true) (fun s => l.length - s.1) (0, []) ?_ ⟨Nat.zero_le _, by simp⟩ ?_
  · simp only [List.append_nil]
    exact Weak.env (by simp [envIn, lk_cons, wth_some])
  rintro ⟨n, X⟩ ⟨hn, hall⟩
  simp only at hn hall ⊢
  by_cases hc : n < l.length
  · have hc' : (n : Int) < (l.length : Int) := by omega
    obtain ⟨j, o, cap, cs, k, rfl, hj, hg, hle⟩ := acs_at hv hc
    have hjl := lt_of_get hj
    have hwn : IntKind.i64.wrap ((n : Int) + 1) = ((n + 1 : Nat) : Int) := by rw [wi64 (by omega)]; omega
    have htk : (l.take (n + 1)).all Ac.light = ((l.take n).all Ac.light && l[n].light) := by
      rw [List.take_add_one, List.getElem?_eq_getElem hc, List.all_append]; simp
    have hmem : l[n] ∈ l := List.getElem_mem hc
    generalize l[n] = a at *
    unfold acC at hg
    by_cases g1 : (a.body.length : Int) > 100
    · have : l.all Ac.light = false := List.all_eq_false.2 ⟨a, hmem, by unfold Ac.light; rw [decide_eq_false (by omega)]; simp⟩
      rw [this]
      repeat first
        | with_reducible refine AWP.seq ?_
        | ((with_reducible refine AWP.region ?_ ?_); exact rfl)
        | with_reducible refine AWP.block ?_
        | with_reducible refine AWP.skip ?_
        | with_reducible refine AWP.exit ?_
        | with_reducible refine AWP.ret ?_
        | with_reducible refine AWP.label ?_
        | with_reducible refine AWP.goto ?_
        | ((with_reducible refine AWP.condT ?_ ?_); focus (simp only [ev, lk_cons, ↓reduceIte, Nat.reduceEqDiff]; done))
        | ((with_reducible refine AWP.condF ?_ ?_); focus (simp only [ev, lk_cons, ↓reduceIte, Nat.reduceEqDiff]; done))
        | simp only [go_sem, ↓reduceIte, Nat.reduceEqDiff, reduceCtorEq, Nat.reduceAdd, Int.reduceEq, Int.reduceBNe, Int.reduceBEq, Int.reduceToNat, Int.reduceLT, Int.reduceLE, Int.reduceGT, Int.reduceGE, Nat.reduceSub, Nat.reduceBEq, Nat.reduceBNe, Int.reduceAdd, Int.reduceSub, Int.reduceMul, Int.reduceNeg, Nat.reduceMul, Nat.reduceLeDiff, Nat.reduceLT, hc', hj, hjl, hgetl, hg, hle, g1]
        | simp (disch := omega) only [wi64, wu8, wu16, wu32, wu64, Int.tdiv_eq_ediv_of_nonneg, Int.tmod_eq_emod_of_nonneg]
        | with_reducible_and_instances exact finR
        | ((with_reducible refine finR' ?_ ?_) <;> rfl)
        | ((with_reducible refine finD hsc (NRel.of_plain ?_)); exact rfl)
    by_cases g2 : a.later > 1000000
    · have : l.all Ac.light = false := List.all_eq_false.2 ⟨a, hmem, by unfold Ac.light; rw [decide_eq_false (p := a.later ≤ 1000000) (by omega)]; simp⟩
      rw [this]
      repeat first
        | with_reducible refine AWP.seq ?_
        | ((with_reducible refine AWP.region ?_ ?_); exact rfl)
        | with_reducible refine AWP.block ?_
        | with_reducible refine AWP.skip ?_
        | with_reducible refine AWP.exit ?_
        | with_reducible refine AWP.ret ?_
        | with_reducible refine AWP.label ?_
        | with_reducible refine AWP.goto ?_
        | ((with_reducible refine AWP.condT ?_ ?_); focus (simp only [ev, lk_cons, ↓reduceIte, Nat.reduceEqDiff]; done))
        | ((with_reducible refine AWP.condF ?_ ?_); focus (simp only [ev, lk_cons, ↓reduceIte, Nat.reduceEqDiff]; done))
        | simp only [go_sem, ↓reduceIte, Nat.reduceEqDiff, reduceCtorEq, Nat.reduceAdd, Int.reduceEq, Int.reduceBNe, Int.reduceBEq, Int.reduceToNat, Int.reduceLT, Int.reduceLE, Int.reduceGT, Int.reduceGE, Nat.reduceSub, Nat.reduceBEq, Nat.reduceBNe, Int.reduceAdd, Int.reduceSub, Int.reduceMul, Int.reduceNeg, Nat.reduceMul, Nat.reduceLeDiff, Nat.reduceLT, hc', hj, hjl, hgetl, hg, hle, g1, g2]
        | simp (disch := omega) only [wi64, wu8, wu16, wu32, wu64, Int.tdiv_eq_ediv_of_nonneg, Int.tmod_eq_emod_of_nonneg]
        | with_reducible_and_instances exact finR
        | ((with_reducible refine finR' ?_ ?_) <;> rfl)
        | ((with_reducible refine finD hsc (NRel.of_plain ?_)); exact rfl)
    have hla : a.light = true := by unfold Ac.light; rw [decide_eq_true (p := a.later ≤ 1000000) (by omega), decide_eq_true (p := a.body.length ≤ 100) (by omega)]; rfl
    rw [hla, hall] at htk
    repeat first
      | with_reducible refine AWP.seq ?_
      | ((with_reducible refine AWP.region ?_ ?_); exact rfl)
      | with_reducible refine AWP.block ?_
      | with_reducible refine AWP.skip ?_
      | with_reducible refine AWP.exit ?_
      | with_reducible refine AWP.ret ?_
      | with_reducible refine AWP.label ?_
      | with_reducible refine AWP.goto ?_
      | ((with_reducible refine AWP.condT ?_ ?_); focus (simp only [ev, lk_cons, ↓reduceIte, Nat.reduceEqDiff]; done))
      | ((with_reducible refine AWP.condF ?_ ?_); focus (simp only [ev, lk_cons, ↓reduceIte, Nat.reduceEqDiff]; done))
      | simp only [go_sem, ↓reduceIte, Nat.reduceEqDiff, reduceCtorEq, Nat.reduceAdd, Int.reduceEq, Int.reduceBNe, Int.reduceBEq, Int.reduceToNat, Int.reduceLT, Int.reduceLE, Int.reduceGT, Int.reduceGE, Nat.reduceSub, Nat.reduceBEq, Nat.reduceBNe, Int.reduceAdd, Int.reduceSub, Int.reduceMul, Int.reduceNeg, Nat.reduceMul, Nat.reduceLeDiff, Nat.reduceLT, hc', hj, hjl, hgetl, hg, hle, g1, g2, hwn]
      | simp (disch := omega) only [wi64, wu8, wu16, wu32, wu64, Int.tdiv_eq_ediv_of_nonneg, Int.tmod_eq_emod_of_nonneg]
      | with_reducible_and_instances exact finR
      | ((with_reducible refine finR' ?_ ?_) <;> rfl)
      | ((with_reducible refine finD hsc (NRel.of_plain ?_)); exact rfl)
    exact ⟨(n + 1, X ++ [.cells (acC a) ⟨33, 0, true, 0, none⟩]), Weak.env (by simp [envIn, lk_cons, wth_some, acC]), by show n + 1 ≤ _; omega, htk, by show l.length - (n + 1) < _; omega⟩
  · have hc' : ¬ (n : Int) < (l.length : Int) := by omega
    have : n = l.length := by omega
    subst this
    rw [List.take_length] at hall
    rw [hall]
    repeat first
      | with_reducible refine AWP.seq ?_
      | ((with_reducible refine AWP.region ?_ ?_); exact rfl)
      | with_reducible refine AWP.block ?_
      | with_reducible refine AWP.skip ?_
      | with_reducible refine AWP.exit ?_
      | with_reducible refine AWP.ret ?_
      | with_reducible refine AWP.label ?_
      | with_reducible refine AWP.goto ?_
      | ((with_reducible refine AWP.condT ?_ ?_); focus (simp only [ev, lk_cons, ↓reduceIte, Nat.reduceEqDiff]; done))
      | ((with_reducible refine AWP.condF ?_ ?_); focus (simp only [ev, lk_cons, ↓reduceIte, Nat.reduceEqDiff]; done))
      | simp only [go_sem, ↓reduceIte, Nat.reduceEqDiff, reduceCtorEq, Nat.reduceAdd, Int.reduceEq, Int.reduceBNe, Int.reduceBEq, Int.reduceToNat, Int.reduceLT, Int.reduceLE, Int.reduceGT, Int.reduceGE, Nat.reduceSub, Nat.reduceBEq, Nat.reduceBNe, Int.reduceAdd, Int.reduceSub, Int.reduceMul, Int.reduceNeg, Nat.reduceMul, Nat.reduceLeDiff, Nat.reduceLT, hc']
      | simp (disch := omega) only [wi64, wu8, wu16, wu32, wu64, Int.tdiv_eq_ediv_of_nonneg, Int.tmod_eq_emod_of_nonneg]
      | with_reducible_and_instances exact finR
      | ((with_reducible refine finR' ?_ ?_) <;> rfl)
      | ((with_reducible refine finD hsc (NRel.of_plain ?_)); exact rfl)
end Go.Proofs.YtnfkbgpbligloaaDoor
