/-
  The walk of nodes: reading nodes.
-/
import Derived.Test.YtdbdnknnaekbhaaNF
set_option linter.unusedVariables false
set_option linter.unusedSimpArgs false
set_option maxRecDepth 20000
set_option maxHeartbeats 4000000
namespace Go.Proofs.Ytdbdnknnaekbhaa
open Go Go.Aw Go.Proofs
def sizeL (f : Int) : Nat := if f = 4 then 26 else if f = 6 then 38 else 0
def ndAt (sz : Nat) (s : List UInt8) (j : Nat) : Nd := ⟨(s.drop (j * sz)).take 20, adOf ((s.drop (j * sz + 20)).take (sz - 20))⟩
def badAt (sz : Nat) (s : List UInt8) (j : Nat) : Bool := (ndAt sz s j).a.port == 0
def unE (s : List UInt8) (f : Int) : Int := if sizeL f = 0 then 7 else if s.length % sizeL f ≠ 0 then 11 else if (List.range (s.length / sizeL f)).any (badAt (sizeL f) s) = true then 12 else 0
def unL (s : List UInt8) (f : Int) : List Nd := if unE s f = 0 then (List.range (s.length / sizeL f)).map (ndAt (sizeL f) s) else []
def ndsC (l : List Nd) : List Value := l.flatMap ndC
theorem ndsC_len (l : List Nd) : (ndsC l).length = l.length * 4 := by
  induction l with
  | nil => rfl
  | cons x l ih =>
    show (ndC x ++ ndsC l).length = _
    rw [List.length_append, ih, List.length_cons]
    show 4 + _ = _
    omega
theorem ndsC_snoc (l : List Nd) (x : Nd) : ndsC (l ++ [x]) = ndsC l ++ ndC x := by
  unfold ndsC
  rw [List.flatMap_append, List.flatMap_singleton]
theorem ndsC_at : ∀ (l : List Nd) (n : Nat) (h : n < l.length), ((ndsC l).drop (n * 4)).take 4 = ndC l[n]
  | e :: l, 0, _ => rfl
  | e :: l, n + 1, h => by
    rw [show ndsC (e :: l) = .string (bs e.id) :: .int .i64 e.a.fam :: .string (bs e.a.ip) :: .int .i64 e.a.port :: ndsC l from rfl, show (n + 1) * 4 = n * 4 + 1 + 1 + 1 + 1 by omega, List.drop_succ_cons, List.drop_succ_cons, List.drop_succ_cons, List.drop_succ_cons]
    exact ndsC_at l n (by simpa using h)
theorem RdN.nds {H : AHeap} {i : Nat} {k : CK} {l : List Nd} {n cap : Nat} (h : H[i]? = some (.cells (ndsC l) k)) (hn : n = l.length) : RdN H 4 (.slice (some ⟨i, 0, none⟩) n cap) (l.map ndC) := by
  subst hn
  refine .inr ⟨i, 0, cap, _, k, by rw [List.length_map], h, fun _ => by rw [List.length_map, ndsC_len]; omega, fun j r hr => ?_⟩
  rw [List.getElem?_map] at hr
  obtain ⟨x, hx, rfl⟩ := Option.map_eq_some_iff.1 hr
  obtain ⟨hj, hx⟩ := List.getElem?_eq_some_iff.1 hx
  rw [Nat.zero_add, ndsC_at l j hj, hx]
theorem sameK_i (a b : Int) : sameK (.int .i64 a) (.int .i64 b) = (a == b) := by
  have k1 : keyB (some (.int .i64)) (.int .i64 a) = true := by simp [keyB]
  have k2 : keyB (some (.int .i64)) (.int .i64 b) = true := by simp [keyB]
  have h := sameK_iff k1 k2
  by_cases e : a = b
  · subst e
    rw [h.2 rfl]; simp
  · rw [beq_eq_false_iff_ne.2 e, Bool.eq_false_iff]
    intro h2
    have := h.1 h2
    simp only [Value.int.injEq, true_and] at this
    exact e this
theorem mget (f : Int) : (mGet (.int .i64 f) (mPut (.int .i64 6) (.int .i64 38) (mCk (.int .i64 4) 0 []) (mPut (.int .i64 4) (.int .i64 26) 0 []))).getD (.int .i64 0) = .int .i64 ((sizeL f : Nat) : Int) := by
  have e : mPut (.int .i64 6) (.int .i64 38) (mCk (.int .i64 4) 0 []) (mPut (.int .i64 4) (.int .i64 26) 0 []) = [(.int .i64 4, .int .i64 26, 0), (.int .i64 6, .int .i64 38, 1)] := by kernel_rfl
  rw [e]
  unfold mGet mIx sizeL
  simp only [List.findIdx?_cons, sameK_i]
  by_cases h4 : f = 4
  · subst h4; rfl
  · have b4 : (f == 4) = false := beq_eq_false_iff_ne.2 h4
    rw [b4, if_neg h4]
    by_cases h6 : f = 6
    · subst h6; rfl
    · have b6 : (f == 6) = false := beq_eq_false_iff_ne.2 h6
      rw [b6, if_neg h6]; rfl
def UnP (s : List UInt8) (f : Int) (H : AHeap) : ARes → AHeap → Prop := fun r H' => ∃ v X, r = .ret (.tuple ⟨[v, .int .i64 (unE s f)]⟩) ∧ H' = H ++ X ∧ RdN (H ++ X) 4 v ((unL s f).map ndC)
theorem Unpack (s : List UInt8) (hs : s.length ≤ 4000) (f : Int) (H : AHeap) : AC Try.prog 15 [.string (bs s), .int .i64 f] H (UnP s f H) := by
  have hU := Unpack1
  unfold UnP
  by_cases hz : sizeL f = 0
  · have e : unE s f = 7 := if_pos hz
    have el : unL s f = [] := by unfold unL; rw [e]; rfl
    have hm := mget f
    rw [hz] at hm
    rw [e, el]
    refine AC.enter Try.func15 rfl (by kernel_rfl) 55 rfl [.tmp 4, .tmp 5] rfl (by simp) fun hsc B => ?_
    repeat first
      | with_reducible refine AWP.seq ?_
      | ((with_reducible refine AWP.region ?_ ?_); exact rfl)
      | with_reducible refine AWP.block ?_
      | with_reducible refine AWP.skip ?_
      | with_reducible refine AWP.exit ?_
      | with_reducible refine AWP.ret ?_
      | with_reducible refine AWP.label ?_
      | with_reducible refine AWP.goto ?_
      | ((with_reducible refine AWP.condT ?_ ?_); focus (simp only [ev, lk_cons, ↓reduceIte, Nat.reduceEqDiff]; done))
      | ((with_reducible refine AWP.condF ?_ ?_); focus (simp only [ev, lk_cons, ↓reduceIte, Nat.reduceEqDiff]; done))
      | simp only [go_sem, ↓reduceIte, Nat.reduceEqDiff, reduceCtorEq, Nat.reduceAdd, Int.reduceEq, Int.reduceBNe, Int.reduceBEq, Int.reduceToNat, Int.reduceLT, Int.reduceLE, Int.reduceGT, Int.reduceGE, Nat.reduceSub, Nat.reduceBEq, Nat.reduceBNe, Int.reduceAdd, Int.reduceSub, Int.reduceMul, Int.reduceNeg, Nat.reduceMul, Nat.reduceLeDiff, Nat.reduceLT]
      | simp (disch := omega) only [wi64, wu8, wu16, wu32, wu64, Int.tdiv_eq_ediv_of_nonneg, Int.tmod_eq_emod_of_nonneg]
      | with_reducible_and_instances exact finR
      | ((with_reducible refine finR' ?_ ?_) <;> rfl)
      | ((with_reducible refine finD hsc (NRel.of_plain ?_)); exact rfl)
    refine ⟨rfl, rfl, ?_⟩
    repeat first
      | with_reducible refine AWP.seq ?_
      | ((with_reducible refine AWP.region ?_ ?_); exact rfl)
      | with_reducible refine AWP.block ?_
      | with_reducible refine AWP.skip ?_
      | with_reducible refine AWP.exit ?_
      | with_reducible refine AWP.ret ?_
      | with_reducible refine AWP.label ?_
      | with_reducible refine AWP.goto ?_
      | ((with_reducible refine AWP.condT ?_ ?_); focus (simp only [ev, lk_cons, ↓reduceIte, Nat.reduceEqDiff]; done))
      | ((with_reducible refine AWP.condF ?_ ?_); focus (simp only [ev, lk_cons, ↓reduceIte, Nat.reduceEqDiff]; done))
      | simp only [go_sem, ↓reduceIte, Nat.reduceEqDiff, reduceCtorEq, Nat.reduceAdd, Int.reduceEq, Int.reduceBNe, Int.reduceBEq, Int.reduceToNat, Int.reduceLT, Int.reduceLE, Int.reduceGT, Int.reduceGE, Nat.reduceSub, Nat.reduceBEq, Nat.reduceBNe, Int.reduceAdd, Int.reduceSub, Int.reduceMul, Int.reduceNeg, Nat.reduceMul, Nat.reduceLeDiff, Nat.reduceLT, hm]
      | simp (disch := omega) only [wi64, wu8, wu16, wu32, wu64, Int.tdiv_eq_ediv_of_nonneg, Int.tmod_eq_emod_of_nonneg]
      | with_reducible_and_instances exact finR
      | ((with_reducible refine finR' ?_ ?_) <;> rfl)
      | ((with_reducible refine finD hsc (NRel.of_plain ?_)); exact rfl)
    exact ⟨_, _, .refl _ _ _, _, rfl, _, rfl, .inl ⟨rfl, rfl⟩⟩
  have hm := mget f
  obtain ⟨sz, hsz⟩ : ∃ sz, sz = sizeL f := ⟨_, rfl⟩
  have hsv : sz = 26 ∨ sz = 38 := by
    rw [hsz]
    unfold sizeL at *
    split
    · exact .inl rfl
    · rename_i h4
      rw [if_neg h4] at hz
      split
      · exact .inr rfl
      · rename_i h6
        rw [if_neg h6] at hz
        exact absurd rfl hz
  rw [← hsz] at hm hz
  have hz' : ¬ ((sz : Nat) : Int) = 0 := by omega
  have hz2 : (((sz : Nat) : Int) == 0) = false := beq_eq_false_iff_ne.2 hz'
  have hmod : (s.length : Int).tmod (sz : Int) = ((s.length % sz : Nat) : Int) := by rw [Int.tmod_eq_emod_of_nonneg (by omega)]; rfl
  by_cases hl : s.length % sz = 0
  · have hl' : (((s.length % sz : Nat) : Int) != 0) = false := by rw [bne_eq_false_iff_eq]; omega
    have hlen : s.length = s.length / sz * sz := by have := Nat.div_add_mod s.length sz; rw [hl, Nat.mul_comm] at this; omega
    obtain ⟨N, hN⟩ : ∃ N, N = s.length / sz := ⟨_, rfl⟩
    have hN2 : N ≤ 4000 := by rw [hN]; exact Nat.le_trans (Nat.div_le_self _ _) hs
    have eE : unE s f = if (List.range N).any (badAt sz s) = true then 12 else 0 := by unfold unE; rw [← hsz, if_neg hz, if_neg (by omega), hN]
    have eL : (List.range N).any (badAt sz s) = false → unL s f = (List.range N).map (ndAt sz s) := by
      intro h
      unfold unL
      rw [eE, h, if_neg (by decide : ¬ false = true), if_pos rfl, ← hsz, hN]
    have eL2 : (List.range N).any (badAt sz s) = true → unL s f = [] := by
      intro h
      unfold unL
      rw [eE, h, if_pos rfl, if_neg (by decide : ¬ (12 : Int) = 0)]
    rw [← hN] at hlen
    clear hN
    refine AC.enter Try.func15 rfl (by kernel_rfl) 55 rfl [.tmp 4, .tmp 5] rfl (by simp) fun hsc B => ?_
    repeat first
      | with_reducible refine AWP.seq ?_
      | ((with_reducible refine AWP.region ?_ ?_); exact rfl)
      | with_reducible refine AWP.block ?_
      | with_reducible refine AWP.skip ?_
      | with_reducible refine AWP.exit ?_
      | with_reducible refine AWP.ret ?_
      | with_reducible refine AWP.label ?_
      | with_reducible refine AWP.goto ?_
      | ((with_reducible refine AWP.condT ?_ ?_); focus (simp only [ev, lk_cons, ↓reduceIte, Nat.reduceEqDiff]; done))
      | ((with_reducible refine AWP.condF ?_ ?_); focus (simp only [ev, lk_cons, ↓reduceIte, Nat.reduceEqDiff]; done))
      | simp only [go_sem, ↓reduceIte, Nat.reduceEqDiff, reduceCtorEq, Nat.reduceAdd, Int.reduceEq, Int.reduceBNe, Int.reduceBEq, Int.reduceToNat, Int.reduceLT, Int.reduceLE, Int.reduceGT, Int.reduceGE, Nat.reduceSub, Nat.reduceBEq, Nat.reduceBNe, Int.reduceAdd, Int.reduceSub, Int.reduceMul, Int.reduceNeg, Nat.reduceMul, Nat.reduceLeDiff, Nat.reduceLT]
      | simp (disch := omega) only [wi64, wu8, wu16, wu32, wu64, Int.tdiv_eq_ediv_of_nonneg, Int.tmod_eq_emod_of_nonneg]
      | with_reducible_and_instances exact finR
      | ((with_reducible refine finR' ?_ ?_) <;> rfl)
      | ((with_reducible refine finD hsc (NRel.of_plain ?_)); exact rfl)
    refine ⟨rfl, rfl, ?_⟩
    repeat first
      | with_reducible refine AWP.seq ?_
      | ((with_reducible refine AWP.region ?_ ?_); exact rfl)
      | with_reducible refine AWP.block ?_
      | with_reducible refine AWP.skip ?_
      | with_reducible refine AWP.exit ?_
      | with_reducible refine AWP.ret ?_
      | with_reducible refine AWP.label ?_
      | with_reducible refine AWP.goto ?_
      | ((with_reducible refine AWP.condT ?_ ?_); focus (simp only [ev, lk_cons, ↓reduceIte, Nat.reduceEqDiff]; done))
      | ((with_reducible refine AWP.condF ?_ ?_); focus (simp only [ev, lk_cons, ↓reduceIte, Nat.reduceEqDiff]; done))
      | simp only [go_sem, ↓reduceIte, Nat.reduceEqDiff, reduceCtorEq, Nat.reduceAdd, Int.reduceEq, Int.reduceBNe, Int.reduceBEq, Int.reduceToNat, Int.reduceLT, Int.reduceLE, Int.reduceGT, Int.reduceGE, Nat.reduceSub, Nat.reduceBEq, Nat.reduceBNe, Int.reduceAdd, Int.reduceSub, Int.reduceMul, Int.reduceNeg, Nat.reduceMul, Nat.reduceLeDiff, Nat.reduceLT, hm, hz', hz2, hmod, hl']
      | simp (disch := omega) only [wi64, wu8, wu16, wu32, wu64, Int.tdiv_eq_ediv_of_nonneg, Int.tmod_eq_emod_of_nonneg]
      | with_reducible_and_instances exact finR
      | ((with_reducible refine finR' ?_ ?_) <;> rfl)
      | ((with_reducible refine finD hsc (NRel.of_plain ?_)); exact rfl)
    generalize AObj.amap (mPut (.int .i64 6) (.int .i64 38) (mCk (.int .i64 4) 0 []) (mPut (.int .i64 4) (.int .i64 26) 0 [])) (mCk (.int .i64 6) (mCk (.int .i64 4) 0 []) (mPut (.int .i64 4) (.int .i64 26) 0 [])) true = mo
    refine AWP.loopP (fun st : Nat × Nat × AHeap => ⟨[(0, .string (bs s)), (6, .int .i64 (sz : Nat)), (7, gS (H.length + st.2.1) st.1), (8, .int .i64 (st.1 * sz : Nat))], [], H ++ st.2.2⟩)
      (fun st => st.1 ≤ N ∧ (∀ j', j' < st.1 → badAt sz s j' = false) ∧ (0 < st.1 → st.2.2[st.2.1]? = some (.cells (ndsC ((List.range st.1).map (ndAt sz s))) ⟨46, 4, true, 0, none⟩))) (fun st => N - st.1) (0, 0, [mo]) ?_ ⟨Nat.zero_le _, fun j' h => absurd h (Nat.not_lt_zero _), fun h => absurd h (Nat.lt_irrefl _)⟩ ?_
    · exact Weak.env (by simp [envIn, lk_cons, wth_some, gS_zero])
    rintro ⟨j, k, X⟩ ⟨hj, hbad, hX⟩
    simp only at hj hbad hX ⊢
    have hmul : j * sz ≤ N * sz := Nat.mul_le_mul_right _ hj
    by_cases hc : j < N
    · have hmul1 : (j + 1) * sz ≤ N * sz := Nat.mul_le_mul_right _ hc
      rw [Nat.add_mul, Nat.one_mul] at hmul1
      have hnd : ndAt sz s j = ⟨(s.drop (j * sz)).take 20, adOf ((s.drop (j * sz + 20)).take (sz - 20))⟩ := rfl
      have hbd : badAt sz s j = ((adOf ((s.drop (j * sz + 20)).take (sz - 20))).port == 0) := rfl
      have hnx : (j + 1) * sz = j * sz + sz := by rw [Nat.add_mul, Nat.one_mul]
      rw [← hlen] at hmul1
      obtain ⟨i, hi⟩ : ∃ i, i = j * sz := ⟨_, rfl⟩
      rw [← hi] at hmul1 hnd hbd hnx ⊢
      have hc' : (i : Int) < (s.length : Int) := by omega
      have hcl : ((s.drop (i + 20)).take (sz - 20)).length = sz - 20 := by rw [List.length_take, List.length_drop]; omega
      have hU1 := fun H => hU ((s.drop (i + 20)).take (sz - 20)) (by rw [hcl]; omega) H
      have hsl : (s.take ((i : Int) + (sz : Int)).toNat).drop ((i : Int) + 20).toNat = (s.drop (i + 20)).take (sz - 20) := by
        rw [show ((i : Int) + (sz : Int)).toNat = i + sz by omega, show ((i : Int) + 20).toNat = i + 20 by omega, List.drop_take, show i + sz - (i + 20) = sz - 20 by omega]
      have hsl2 : (s.take ((i : Int) + 20).toNat).drop i = (s.drop i).take 20 := by
        rw [show ((i : Int) + 20).toNat = i + 20 by omega, List.drop_take, show i + 20 - i = 20 by omega]
      generalize (s.drop (i + 20)).take (sz - 20) = ct at *
      generalize (s.drop i).take 20 = idt at *
      unfold adV at hU1
      by_cases hp : (adOf ct).port = 0
      · rw [if_pos hp] at hU1
        have hany : (List.range N).any (badAt sz s) = true := List.any_eq_true.2 ⟨j, List.mem_range.2 hc, by rw [hbd, hp]; rfl⟩
        rw [eE, hany, if_pos rfl, eL2 hany]
        repeat' first
          | omega
          | with_reducible refine And.intro ?_ ?_
          | with_reducible refine AWP.seq ?_
          | ((with_reducible refine AWP.region ?_ ?_); exact rfl)
          | with_reducible refine AWP.block ?_
          | with_reducible refine AWP.skip ?_
          | with_reducible refine AWP.exit ?_
          | with_reducible refine AWP.ret ?_
          | with_reducible refine AWP.label ?_
          | with_reducible refine AWP.goto ?_
          | ((with_reducible refine AWP.condT ?_ ?_); focus (simp only [ev, lk_cons, ↓reduceIte, Nat.reduceEqDiff]; done))
          | ((with_reducible refine AWP.condF ?_ ?_); focus (simp only [ev, lk_cons, ↓reduceIte, Nat.reduceEqDiff]; done))
          | with_reducible refine (hU1 _).use ?_
          | simp only [go_sem, ↓reduceIte, Nat.reduceEqDiff, reduceCtorEq, Nat.reduceAdd, Int.reduceEq, Int.reduceBNe, Int.reduceBEq, Int.reduceToNat, Int.reduceLT, Int.reduceLE, Int.reduceGT, Int.reduceGE, Nat.reduceSub, Nat.reduceBEq, Nat.reduceBNe, Int.reduceAdd, Int.reduceSub, Int.reduceMul, Int.reduceNeg, Nat.reduceMul, Nat.reduceLeDiff, Nat.reduceLT, hc', hsl]
          | simp (disch := omega) only [wi64, wu8, wu16, wu32, wu64, Int.tdiv_eq_ediv_of_nonneg, Int.tmod_eq_emod_of_nonneg]
          | with_reducible_and_instances exact finR
          | ((with_reducible refine finR' ?_ ?_) <;> rfl)
          | ((with_reducible refine finD hsc (NRel.of_plain ?_)); exact rfl)
        exact ⟨_, _, .refl _ _ _, _, rfl, _, rfl, .inl ⟨rfl, rfl⟩⟩
      · rw [if_neg hp] at hU1
        have hbf : badAt sz s j = false := by rw [hbd]; exact beq_eq_false_iff_ne.2 hp
        generalize adOf ct = ad at *
        obtain ⟨fm, ip, po⟩ := ad
        unfold Ad.v at hU1
        simp only at hU1
        repeat' first
          | omega
          | with_reducible refine And.intro ?_ ?_
          | with_reducible refine AWP.seq ?_
          | ((with_reducible refine AWP.region ?_ ?_); exact rfl)
          | with_reducible refine AWP.block ?_
          | with_reducible refine AWP.skip ?_
          | with_reducible refine AWP.exit ?_
          | with_reducible refine AWP.ret ?_
          | with_reducible refine AWP.label ?_
          | with_reducible refine AWP.goto ?_
          | ((with_reducible refine AWP.condT ?_ ?_); focus (simp only [ev, lk_cons, ↓reduceIte, Nat.reduceEqDiff]; done))
          | ((with_reducible refine AWP.condF ?_ ?_); focus (simp only [ev, lk_cons, ↓reduceIte, Nat.reduceEqDiff]; done))
          | with_reducible refine (hU1 _).use ?_
          | simp only [go_sem, ↓reduceIte, Nat.reduceEqDiff, reduceCtorEq, Nat.reduceAdd, Int.reduceEq, Int.reduceBNe, Int.reduceBEq, Int.reduceToNat, Int.reduceLT, Int.reduceLE, Int.reduceGT, Int.reduceGE, Nat.reduceSub, Nat.reduceBEq, Nat.reduceBNe, Int.reduceAdd, Int.reduceSub, Int.reduceMul, Int.reduceNeg, Nat.reduceMul, Nat.reduceLeDiff, Nat.reduceLT, hc', hsl]
          | simp (disch := omega) only [wi64, wu8, wu16, wu32, wu64, Int.tdiv_eq_ediv_of_nonneg, Int.tmod_eq_emod_of_nonneg]
          | with_reducible_and_instances exact finR
          | ((with_reducible refine finR' ?_ ?_) <;> rfl)
          | ((with_reducible refine finD hsc (NRel.of_plain ?_)); exact rfl)
        refine AWP.regionM 9 [6, 8] [(6, .agg ⟨[.int .i64 fm, .string (bs ip), .int .i64 po]⟩)] (.run [6, 8]) (by kernel_rfl) (by decide) (by kernel_rfl) (by kernel_rfl) (by kernel_rfl) ?_
        have n1 : 0 ≤ (i : Int) := by omega
        have n2 : (i : Int) ≤ (i : Int) + 20 := by omega
        have n3 : (i : Int) + 20 ≤ (s.length : Int) := by omega
        repeat' first
          | with_reducible refine canW_n ?_
          | with_reducible refine canW_m (by decide) ?_
          | ((with_reducible apply canW_p (by decide)); focus (intro H; (simp only [go_sem, ↓reduceIte, Nat.reduceEqDiff, reduceCtorEq, Nat.reduceAdd, Int.reduceEq, Int.reduceBNe, Int.reduceBEq, Int.reduceToNat, Int.reduceLT, Int.reduceLE, Int.reduceGT, Int.reduceGE, Nat.reduceSub, Nat.reduceBEq, Nat.reduceBNe, Int.reduceAdd, Int.reduceSub, Int.reduceMul, Int.reduceNeg, Nat.reduceMul, Nat.reduceLeDiff, Nat.reduceLT, hsl2, Int.toNat_natCast, n1, n2, n3, List.map_cons, List.map_nil]); exact rfl))
          | with_reducible refine memW_b ?_ ?_
          | with_reducible refine memW_s rfl ?_
          | with_reducible refine memW_r rfl ?_
          | with_reducible refine memW_e ?_
          | simp only [List.take_succ_cons, List.take_zero, List.drop_succ_cons, List.drop_zero]
          | omega
          | with_reducible refine And.intro ?_ ?_
          | with_reducible refine AWP.seq ?_
          | ((with_reducible refine AWP.region ?_ ?_); exact rfl)
          | with_reducible refine AWP.block ?_
          | with_reducible refine AWP.skip ?_
          | with_reducible refine AWP.exit ?_
          | with_reducible refine AWP.ret ?_
          | with_reducible refine AWP.label ?_
          | with_reducible refine AWP.goto ?_
          | ((with_reducible refine AWP.condT ?_ ?_); focus (simp only [ev, lk_cons, ↓reduceIte, Nat.reduceEqDiff]; done))
          | ((with_reducible refine AWP.condF ?_ ?_); focus (simp only [ev, lk_cons, ↓reduceIte, Nat.reduceEqDiff]; done))
          | simp only [go_sem, ↓reduceIte, Nat.reduceEqDiff, reduceCtorEq, Nat.reduceAdd, Int.reduceEq, Int.reduceBNe, Int.reduceBEq, Int.reduceToNat, Int.reduceLT, Int.reduceLE, Int.reduceGT, Int.reduceGE, Nat.reduceSub, Nat.reduceBEq, Nat.reduceBNe, Int.reduceAdd, Int.reduceSub, Int.reduceMul, Int.reduceNeg, Nat.reduceMul, Nat.reduceLeDiff, Nat.reduceLT, hsl2, Int.toNat_natCast, n1, n2, n3, List.map_cons, List.map_nil]
          | simp (disch := omega) only [wi64, wu8, wu16, wu32, wu64, Int.tdiv_eq_ediv_of_nonneg, Int.tmod_eq_emod_of_nonneg]
          | with_reducible_and_instances exact finR
          | ((with_reducible refine finR' ?_ ?_) <;> rfl)
          | ((with_reducible refine finD hsc (NRel.of_plain ?_)); exact rfl)
        have hsn : (List.range (j + 1)).map (ndAt sz s) = (List.range j).map (ndAt sz s) ++ [⟨idt, ⟨fm, ip, po⟩⟩] := by
          rw [List.range_succ, List.map_append, List.map_singleton, hnd]
        have hbad2 : ∀ j', j' < j + 1 → badAt sz s j' = false := fun j' h => by
          rcases Nat.lt_or_ge j' j with h' | h'
          · exact hbad j' h'
          · rw [show j' = j by omega]; exact hbf
        have hcell : ndsC ((List.range j).map (ndAt sz s)) ++ [.string (bs idt), .int .i64 fm, .string (bs ip), .int .i64 po] = ndsC ((List.range (j + 1)).map (ndAt sz s)) := by
          rw [hsn, ndsC_snoc]; rfl
        have hll : (ndsC ((List.range j).map (ndAt sz s))).length = j * 4 := by rw [ndsC_len, List.length_map, List.length_range]
        have hwn : IntKind.i64.wrap ((i : Int) + (sz : Int)) = ((i + sz : Nat) : Int) := by rw [wi64 (by omega)]; omega
        rcases Nat.eq_zero_or_pos j with rfl | hpos
        · simp only [gS_zero]
          refine appendTo_nil (by decide) (by decide) (by decide) ?_
          repeat first
            | with_reducible refine AWP.seq ?_
            | ((with_reducible refine AWP.region ?_ ?_); exact rfl)
            | with_reducible refine AWP.block ?_
            | with_reducible refine AWP.skip ?_
            | with_reducible refine AWP.exit ?_
            | with_reducible refine AWP.ret ?_
            | with_reducible refine AWP.label ?_
            | with_reducible refine AWP.goto ?_
            | ((with_reducible refine AWP.condT ?_ ?_); focus (simp only [ev, lk_cons, ↓reduceIte, Nat.reduceEqDiff]; done))
            | ((with_reducible refine AWP.condF ?_ ?_); focus (simp only [ev, lk_cons, ↓reduceIte, Nat.reduceEqDiff]; done))
            | simp only [go_sem, ↓reduceIte, Nat.reduceEqDiff, reduceCtorEq, Nat.reduceAdd, Int.reduceEq, Int.reduceBNe, Int.reduceBEq, Int.reduceToNat, Int.reduceLT, Int.reduceLE, Int.reduceGT, Int.reduceGE, Nat.reduceSub, Nat.reduceBEq, Nat.reduceBNe, Int.reduceAdd, Int.reduceSub, Int.reduceMul, Int.reduceNeg, Nat.reduceMul, Nat.reduceLeDiff, Nat.reduceLT, hwn]
            | simp (disch := omega) only [wi64, wu8, wu16, wu32, wu64, Int.tdiv_eq_ediv_of_nonneg, Int.tmod_eq_emod_of_nonneg]
            | with_reducible_and_instances exact finR
            | ((with_reducible refine finR' ?_ ?_) <;> rfl)
            | ((with_reducible refine finD hsc (NRel.of_plain ?_)); exact rfl)
          refine ⟨(0 + 1, X.length + 2, X ++ [AObj.cells [.int .i64 fm, .string (bs ip), .int .i64 po] ⟨44, 0, true, 0, none⟩, .cells [.string (bs idt), .int .i64 fm, .string (bs ip), .int .i64 po] ⟨46, 0, true, 0, none⟩, .cells (ndsC ((List.range (0 + 1)).map (ndAt sz s))) ⟨46, 4, true, 0, none⟩]), ?_, by show 0 + 1 ≤ N; omega, hbad2, fun _ => ?_, by show N - (0 + 1) < N - 0; omega⟩
          · rw [← hcell]
            exact Weak.env (by simp [envIn, lk_cons, wth_some, gS_succ, hnx])
          · show (X ++ _)[X.length + 2]? = _
            rw [List.getElem?_append_right (by omega)]
            simp
        · rw [gS_pos hpos]
          have hX' := hX hpos
          have hkX := lt_of_get hX'
          have hX2 : (X ++ [AObj.cells [.int .i64 fm, .string (bs ip), .int .i64 po] ⟨44, 0, true, 0, none⟩, .cells [.string (bs idt), .int .i64 fm, .string (bs ip), .int .i64 po] ⟨46, 0, true, 0, none⟩])[k]? = some (.cells (ndsC ((List.range j).map (ndAt sz s))) ⟨46, 4, true, 0, none⟩) := by rw [List.getElem?_append_left hkX]; exact hX'
          refine appendTo_own (cs := ndsC ((List.range j).map (ndAt sz s))) (by simp only [go_sem, ↓reduceIte, Nat.reduceEqDiff, reduceCtorEq, Nat.reduceAdd, Int.reduceEq, Int.reduceBNe, Int.reduceBEq, Int.reduceToNat, Int.reduceLT, Int.reduceLE, Int.reduceGT, Int.reduceGE, Nat.reduceSub, Nat.reduceBEq, Nat.reduceBNe, Int.reduceAdd, Int.reduceSub, Int.reduceMul, Int.reduceNeg, Nat.reduceMul, Nat.reduceLeDiff, Nat.reduceLT, hX2]) (by decide) hll (by decide) (by omega) (by omega) ?_
          repeat first
            | with_reducible refine AWP.seq ?_
            | ((with_reducible refine AWP.region ?_ ?_); exact rfl)
            | with_reducible refine AWP.block ?_
            | with_reducible refine AWP.skip ?_
            | with_reducible refine AWP.exit ?_
            | with_reducible refine AWP.ret ?_
            | with_reducible refine AWP.label ?_
            | with_reducible refine AWP.goto ?_
            | ((with_reducible refine AWP.condT ?_ ?_); focus (simp only [ev, lk_cons, ↓reduceIte, Nat.reduceEqDiff]; done))
            | ((with_reducible refine AWP.condF ?_ ?_); focus (simp only [ev, lk_cons, ↓reduceIte, Nat.reduceEqDiff]; done))
            | simp only [go_sem, ↓reduceIte, Nat.reduceEqDiff, reduceCtorEq, Nat.reduceAdd, Int.reduceEq, Int.reduceBNe, Int.reduceBEq, Int.reduceToNat, Int.reduceLT, Int.reduceLE, Int.reduceGT, Int.reduceGE, Nat.reduceSub, Nat.reduceBEq, Nat.reduceBNe, Int.reduceAdd, Int.reduceSub, Int.reduceMul, Int.reduceNeg, Nat.reduceMul, Nat.reduceLeDiff, Nat.reduceLT, hwn]
            | simp (disch := omega) only [wi64, wu8, wu16, wu32, wu64, Int.tdiv_eq_ediv_of_nonneg, Int.tmod_eq_emod_of_nonneg]
            | with_reducible_and_instances exact finR
            | ((with_reducible refine finR' ?_ ?_) <;> rfl)
            | ((with_reducible refine finD hsc (NRel.of_plain ?_)); exact rfl)
          refine ⟨(j + 1, X.length + 2, (X ++ [AObj.cells [.int .i64 fm, .string (bs ip), .int .i64 po] ⟨44, 0, true, 0, none⟩, .cells [.string (bs idt), .int .i64 fm, .string (bs ip), .int .i64 po] ⟨46, 0, true, 0, none⟩]).set k .dead ++ [.cells (ndsC ((List.range (j + 1)).map (ndAt sz s))) ⟨46, 4, true, 0, none⟩]), ?_, by show j + 1 ≤ N; omega, hbad2, fun _ => ?_, by show N - (j + 1) < N - j; omega⟩
          · rw [← hcell]
            exact Weak.env (by simp [envIn, lk_cons, wth_some, gS_succ, hnx])
          · show (_ ++ _)[X.length + 2]? = _
            rw [List.getElem?_append_right (by simp)]
            simp
    · have : j = N := by omega
      subst this
      have hany : (List.range j).any (badAt sz s) = false := by
        rw [Bool.eq_false_iff]
        intro h
        obtain ⟨j', h1, h2⟩ := List.any_eq_true.1 h
        rw [hbad j' (List.mem_range.1 h1)] at h2
        cases h2
      have hc' : ¬ ((j * sz : Nat) : Int) < (s.length : Int) := by omega
      rw [eE, hany, if_neg (by decide : ¬ false = true), eL hany]
      repeat first
        | with_reducible refine AWP.seq ?_
        | ((with_reducible refine AWP.region ?_ ?_); exact rfl)
        | with_reducible refine AWP.block ?_
        | with_reducible refine AWP.skip ?_
        | with_reducible refine AWP.exit ?_
        | with_reducible refine AWP.ret ?_
        | with_reducible refine AWP.label ?_
        | with_reducible refine AWP.goto ?_
        | ((with_reducible refine AWP.condT ?_ ?_); focus (simp only [ev, lk_cons, ↓reduceIte, Nat.reduceEqDiff]; done))
        | ((with_reducible refine AWP.condF ?_ ?_); focus (simp only [ev, lk_cons, ↓reduceIte, Nat.reduceEqDiff]; done))
        | simp only [go_sem, ↓reduceIte, Nat.reduceEqDiff, reduceCtorEq, Nat.reduceAdd, Int.reduceEq, Int.reduceBNe, Int.reduceBEq, Int.reduceToNat, Int.reduceLT, Int.reduceLE, Int.reduceGT, Int.reduceGE, Nat.reduceSub, Nat.reduceBEq, Nat.reduceBNe, Int.reduceAdd, Int.reduceSub, Int.reduceMul, Int.reduceNeg, Nat.reduceMul, Nat.reduceLeDiff, Nat.reduceLT, hc']
        | simp (disch := omega) only [wi64, wu8, wu16, wu32, wu64, Int.tdiv_eq_ediv_of_nonneg, Int.tmod_eq_emod_of_nonneg]
        | with_reducible_and_instances exact finR
        | ((with_reducible refine finR' ?_ ?_) <;> rfl)
        | ((with_reducible refine finD hsc (NRel.of_plain ?_)); exact rfl)
      refine ⟨_, _, .refl _ _ _, _, rfl, X, rfl, ?_⟩
      rcases Nat.eq_zero_or_pos j with rfl | hpos
      · exact .inl ⟨rfl, rfl⟩
      · rw [gS_pos hpos]
        exact RdN.nds ((hgetk rfl).trans (hX hpos)) (by rw [List.length_map, List.length_range])
  · have e : unE s f = 11 := by unfold unE; rw [← hsz, if_neg hz, if_pos hl]
    have el : unL s f = [] := by unfold unL; rw [e]; rfl
    have hl' : (((s.length % sz : Nat) : Int) != 0) = true := by rw [bne_iff_ne]; omega
    rw [e, el]
    refine AC.enter Try.func15 rfl (by kernel_rfl) 55 rfl [.tmp 4, .tmp 5] rfl (by simp) fun hsc B => ?_
    repeat first
      | with_reducible refine AWP.seq ?_
      | ((with_reducible refine AWP.region ?_ ?_); exact rfl)
      | with_reducible refine AWP.block ?_
      | with_reducible refine AWP.skip ?_
      | with_reducible refine AWP.exit ?_
      | with_reducible refine AWP.ret ?_
      | with_reducible refine AWP.label ?_
      | with_reducible refine AWP.goto ?_
      | ((with_reducible refine AWP.condT ?_ ?_); focus (simp only [ev, lk_cons, ↓reduceIte, Nat.reduceEqDiff]; done))
      | ((with_reducible refine AWP.condF ?_ ?_); focus (simp only [ev, lk_cons, ↓reduceIte, Nat.reduceEqDiff]; done))
      | simp only [go_sem, ↓reduceIte, Nat.reduceEqDiff, reduceCtorEq, Nat.reduceAdd, Int.reduceEq, Int.reduceBNe, Int.reduceBEq, Int.reduceToNat, Int.reduceLT, Int.reduceLE, Int.reduceGT, Int.reduceGE, Nat.reduceSub, Nat.reduceBEq, Nat.reduceBNe, Int.reduceAdd, Int.reduceSub, Int.reduceMul, Int.reduceNeg, Nat.reduceMul, Nat.reduceLeDiff, Nat.reduceLT]
      | simp (disch := omega) only [wi64, wu8, wu16, wu32, wu64, Int.tdiv_eq_ediv_of_nonneg, Int.tmod_eq_emod_of_nonneg]
      | with_reducible_and_instances exact finR
      | ((with_reducible refine finR' ?_ ?_) <;> rfl)
      | ((with_reducible refine finD hsc (NRel.of_plain ?_)); exact rfl)
    refine ⟨rfl, rfl, ?_⟩
    repeat first
      | with_reducible refine AWP.seq ?_
      | ((with_reducible refine AWP.region ?_ ?_); exact rfl)
      | with_reducible refine AWP.block ?_
      | with_reducible refine AWP.skip ?_
      | with_reducible refine AWP.exit ?_
      | with_reducible refine AWP.ret ?_
      | with_reducible refine AWP.label ?_
      | with_reducible refine AWP.goto ?_
      | ((with_reducible refine AWP.condT ?_ ?_); focus (simp only [ev, lk_cons, ↓reduceIte, Nat.reduceEqDiff]; done))
      | ((with_reducible refine AWP.condF ?_ ?_); focus (simp only [ev, lk_cons, ↓reduceIte, Nat.reduceEqDiff]; done))
      | simp only [go_sem, ↓reduceIte, Nat.reduceEqDiff, reduceCtorEq, Nat.reduceAdd, Int.reduceEq, Int.reduceBNe, Int.reduceBEq, Int.reduceToNat, Int.reduceLT, Int.reduceLE, Int.reduceGT, Int.reduceGE, Nat.reduceSub, Nat.reduceBEq, Nat.reduceBNe, Int.reduceAdd, Int.reduceSub, Int.reduceMul, Int.reduceNeg, Nat.reduceMul, Nat.reduceLeDiff, Nat.reduceLT, hm, hz', hz2, hmod, hl']
      | simp (disch := omega) only [wi64, wu8, wu16, wu32, wu64, Int.tdiv_eq_ediv_of_nonneg, Int.tmod_eq_emod_of_nonneg]
      | with_reducible_and_instances exact finR
      | ((with_reducible refine finR' ?_ ?_) <;> rfl)
      | ((with_reducible refine finD hsc (NRel.of_plain ?_)); exact rfl)
    exact ⟨_, _, .refl _ _ _, _, rfl, _, rfl, .inl ⟨rfl, rfl⟩⟩
end Go.Proofs.Ytdbdnknnaekbhaa
