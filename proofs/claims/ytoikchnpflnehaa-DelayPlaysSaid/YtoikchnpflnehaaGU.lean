/-
  The specification's control: a sample is taken.
-/
import Derived.Test.YtoikchnpflnehaaGT
set_option linter.unusedVariables false
set_option linter.unusedSimpArgs false
set_option maxRecDepth 20000
set_option maxHeartbeats 4000000
namespace Go.Proofs.Ytoikchnpflnehaa
open Go Go.Aw Go.Proofs
def rsampleD (R : RCtl) (now bytes delay under : Int) : Prop := timeD R.now now ∧ (0 ≤ bytes ∧ bytes ≤ 1000000) ∧ (0 ≤ delay ∧ delay ≤ 4294967295) ∧ (0 ≤ under ∧ under ≤ 1000000)
instance (R : RCtl) (a b c d : Int) : Decidable (rsampleD R a b c d) := by unfold rsampleD; infer_instance
def RCtl.taken (R : RCtl) (now delay : Int) : RCtl := ⟨R.time, R.ever, R.target, R.limit, now, R.all ++ [(now, delay)]⟩
def roffL (R : RCtl) : Int := max (R.target - rqueueL R) (-R.target)
def rstepL (R : RCtl) (bytes under : Int) : Int := if (3000 * roffL R * bytes).tdiv (R.target * R.limit) > 0 then (if 2 * under < R.limit then 0 else min ((3000 * roffL R * bytes).tdiv (R.target * R.limit)) bytes) else (3000 * roffL R * bytes).tdiv (R.target * R.limit)
def RCtl.changeL (R : RCtl) (bytes under : Int) : RCtl := ⟨R.time, R.ever, R.target, min (max (R.limit + rstepL R bytes under) 1500) 1000000, R.now, R.all⟩
def RCtl.sampleL (R : RCtl) (now bytes delay under : Int) : RCtl := if rsampleD R now bytes delay under then (R.taken now delay).changeL bytes under else R
def rsampleE (R : RCtl) (now bytes delay under : Int) : Int := if rsampleD R now bytes delay under then 0 else 7
structure RCtl.ok (R : RCtl) : Prop where
  now : 0 ≤ R.now ∧ R.now ≤ 1000000000
  time : 0 ≤ R.time ∧ R.time ≤ R.now
  target : 1 ≤ R.target ∧ R.target ≤ 1000
  limit : 1500 ≤ R.limit ∧ R.limit ≤ 1000000
  srt : R.all.Pairwise fun a b => a.1 ≤ b.1
  all : ∀ s ∈ R.all, 0 ≤ s.1 ∧ s.1 ≤ R.now
theorem rqueueL_bnd (R : RCtl) : 0 ≤ rqueueL R ∧ rqueueL R ≤ 10000 := by unfold rqueueL; split <;> omega
theorem taken_ok {R : RCtl} (h : R.ok) {now delay : Int} (hd : timeD R.now now) : (R.taken now delay).ok := by
  unfold timeD at hd
  obtain ⟨h1, h2, h3, h4, h5, h6⟩ := h
  refine ⟨⟨by show 0 ≤ now; omega, hd.2⟩, ⟨h2.1, by show R.time ≤ now; omega⟩, h3, h4, ?_, ?_⟩
  · show (R.all ++ [(now, delay)]).Pairwise _
    rw [List.pairwise_append]
    refine ⟨h5, by simp, fun a ha b hb => ?_⟩
    simp at hb; subst hb
    have := h6 a ha
    show a.1 ≤ now
    omega
  · show ∀ s ∈ R.all ++ [(now, delay)], 0 ≤ s.1 ∧ s.1 ≤ now
    intro s hs
    rcases List.mem_append.1 hs with h | h
    · have := h6 s h; omega
    · simp at h; subst h; simp only; omega
theorem pastC_snoc' (q : List (Int × Int)) (m d : Int) : pastC q ++ [.int .i64 m, .int .i64 d] = pastC (q ++ [(m, d)]) := by simp [pastC]
theorem rSample (c : Nat) (R : RCtl) (hok : R.ok) (av : Value) (S : List Nat) (now bytes delay under : Int) (hal : R.all.length < 549755813888) (H : AHeap) (hR : RAt H c R av S) :
    AC Try.prog 55 [.pointer (some ⟨c, 0, none⟩), .int .i64 now, .int .i64 bytes, .int .i64 delay, .int .i64 under] H (fun r H2 => r = .ret (.int .i64 (rsampleE R now bytes delay under)) ∧ ∃ av' S', RAt H2 c (R.sampleL now bytes delay under) av' S' ∧ Frm (c :: S) H H2 ∧ ∀ s ∈ S', s ∈ S ∨ H.length ≤ s) := by
  have hc := hR.at_
  have hcl := lt_of_get hc
  simp only [rcO, rctlC] at hc
  by_cases hd : timeD R.now now
  · have d1 : decide (R.now ≤ now ∧ now ≤ 1000000000) = true := decide_eq_true hd
    by_cases hb : 0 ≤ bytes ∧ bytes ≤ 1000000
    · have d2 : decide (0 ≤ bytes ∧ bytes ≤ 1000000) = true := decide_eq_true hb
      by_cases hde : 0 ≤ delay ∧ delay ≤ 4294967295
      · have d3 : decide (0 ≤ delay ∧ delay ≤ 4294967295) = true := decide_eq_true hde
        by_cases hu : 0 ≤ under ∧ under ≤ 1000000
        · have d4 : decide (0 ≤ under ∧ under ≤ 1000000) = true := decide_eq_true hu
          have hD : rsampleD R now bytes delay under := ⟨hd, hb, hde, hu⟩
          have hE : rsampleE R now bytes delay under = 0 := if_pos hD
          have hS : R.sampleL now bytes delay under = (R.taken now delay).changeL bytes under := if_pos hD
          have hok2 := taken_ok hok (delay := delay) hd
          rw [hE, hS]
          have ht := hok.target
          have hl := hok.limit
          have hq := rqueueL_bnd (R.taken now delay)
          have hoff : -1000 ≤ roffL (R.taken now delay) ∧ roffL (R.taken now delay) ≤ 1000 := by
            unfold roffL
            have e1 : (R.taken now delay).target = R.target := rfl
            rw [e1]; omega
          have hm1 := mul_bnd (x := 3000 * roffL (R.taken now delay)) (y := bytes) (A := 3000000) (B := 1000000) (by omega) (by omega) hb.1 hb.2 (by omega)
          have hm2 := mul_bnd (x := R.target) (y := R.limit) (A := 1000) (B := 1000000) (by omega) (by omega) (by omega) hl.2 (by omega)
          have hm3 : 1500 ≤ R.target * R.limit := by
            have : 1 * R.limit ≤ R.target * R.limit := Int.mul_le_mul_of_nonneg_right ht.1 (by omega)
            omega
          have hdb := tdiv_bnd (A := 3000000 * 1000000) hm1.1 hm1.2 (by omega : 1 ≤ R.target * R.limit)
          have hwo : max (R.target - rqueueL (R.taken now delay)) (0 - R.target) = roffL (R.taken now delay) := by rw [Int.zero_sub]; rfl
          have hz : ¬ R.target * R.limit = 0 := by omega
          have hlim : ((R.taken now delay).changeL bytes under) = ⟨R.time, R.ever, R.target, min (max (R.limit + rstepL (R.taken now delay) bytes under) 1500) 1000000, now, R.all ++ [(now, delay)]⟩ := rfl
          have hstp : rstepL (R.taken now delay) bytes under = if (3000 * roffL (R.taken now delay) * bytes).tdiv (R.target * R.limit) > 0 then (if 2 * under < R.limit then 0 else min ((3000 * roffL (R.taken now delay) * bytes).tdiv (R.target * R.limit)) bytes) else (3000 * roffL (R.taken now delay) * bytes).tdiv (R.target * R.limit) := rfl
          have hfr0 : Frm (c :: S) H (H.set c (.cells [.int .i64 R.time, .bool R.ever, .int .i64 R.target, .int .i64 R.limit, .int .i64 now, av] ⟨83, 0, true, 0, none⟩)) := (Frm.refl _ _).set (.inl (List.mem_cons_self ..))
          have hO := hR.all.frm (T := [c]) (H2 := H.set c (.cells [.int .i64 R.time, .bool R.ever, .int .i64 R.target, .int .i64 R.limit, .int .i64 now, av] ⟨83, 0, true, 0, none⟩)) ((Frm.refl _ _).set (.inl (by simp))) (fun s hs => by simp; intro e; exact hR.n1 (e ▸ hs))
          refine AC.enter Try.func55 rfl (by kernel_rfl) 109 rfl [.tmp 10] rfl (by simp) fun hsc B => ?_
          repeat first
            | with_reducible refine AWP.seq ?_
            | ((with_reducible refine AWP.region ?_ ?_); exact rfl)
            | with_reducible refine AWP.block ?_
            | with_reducible refine AWP.skip ?_
            | with_reducible refine AWP.exit ?_
            | with_reducible refine AWP.ret ?_
            | with_reducible refine AWP.label ?_
            | with_reducible refine AWP.goto ?_
            | ((with_reducible refine AWP.condT ?_ ?_); focus (simp only [ev, lk_cons, ↓reduceIte, Nat.reduceEqDiff]; done))
            | ((with_reducible refine AWP.condF ?_ ?_); focus (simp only [ev, lk_cons, ↓reduceIte, Nat.reduceEqDiff]; done))
            | with_reducible refine (right _ _ _ _).use ?_
            | simp only [go_sem, ↓reduceIte, Nat.reduceEqDiff, reduceCtorEq, Nat.reduceAdd, Int.reduceEq, Int.reduceBNe, Int.reduceBEq, Int.reduceToNat, Int.reduceLT, Int.reduceLE, Int.reduceGT, Int.reduceGE, Nat.reduceSub, Nat.reduceBEq, Nat.reduceBNe, Int.reduceAdd, Int.reduceSub, Int.reduceMul, Int.reduceNeg, Nat.reduceMul, Nat.reduceLeDiff, Nat.reduceLT, d1, d2, d3, d4, hc, hcl]
            | simp (disch := omega) only [wi64, wu8, wu16, wu32, wu64, Int.tdiv_eq_ediv_of_nonneg, Int.tmod_eq_emod_of_nonneg]
            | with_reducible_and_instances exact finR
            | ((with_reducible refine finR' ?_ ?_) <;> rfl)
            | ((with_reducible refine finD hsc (NRel.of_plain ?_)); exact rfl)
          refine (hO.frm (T := []) (Frm.app (X := [.cells [.int .i64 now, .int .i64 delay] ⟨98, 0, true, 0, none⟩])) (by simp)).append (by decide) (by omega) (by omega) fun H' hlen hH' => ?_
          have hc' : H'[c]? = some (.cells [.int .i64 R.time, .bool R.ever, .int .i64 R.target, .int .i64 R.limit, .int .i64 now, av] ⟨83, 0, true, 0, none⟩) := by
            rw [hH' c hR.n1, hgetl (by rw [List.length_set]; exact hcl), hset_self hcl]
          have hcl' := lt_of_get hc'
          have hlen2 : H'.length = H.length + 1 := by rw [hlen]; simp
          have hcl1 : c < H.length + 1 := by omega
          have hf1 : Frm (c :: S) H H' := by
            refine ⟨by omega, fun j hj hn => ?_⟩
            simp only [List.mem_cons, not_or] at hn
            rw [hH' j hn.2, hgetl (by rw [List.length_set]; exact hj), hset_ne (fun e => hn.1 e.symm)]
          clear hH' hlen
          obtain ⟨v2, hv2⟩ : ∃ v2 : Value, v2 = .slice (some ⟨H.length + 1, 0, none⟩) (R.all.length + 1) (R.all.length + 1) := ⟨_, rfl⟩
          have hR2 : RAt (H'.set c (rcO (R.taken now delay) v2) ++ [.cells (pastC R.all ++ [.int .i64 now, .int .i64 delay]) ⟨98, 2, true, 0, none⟩]) c (R.taken now delay) v2 [H.length + 1] := by
            refine ⟨?_, .inr ⟨H.length + 1, 0, pastC R.all ++ [.int .i64 now, .int .i64 delay], ?_, ?_, ?_, ?_, rfl⟩, by simp; omega⟩
            · rw [hgetl (by rw [List.length_set]; exact hcl'), hset_self hcl']
            · rw [hv2]; show Value.slice _ _ _ = Value.slice _ (R.all ++ [(now, delay)]).length (R.all ++ [(now, delay)]).length; rw [List.length_append, List.length_singleton]
            · exact hget0 (by rw [List.length_set, hlen2])
            · show _ = 0 + (R.all ++ [(now, delay)]).length * 2
              rw [List.length_append, pastC_length, List.length_append]; simp; omega
            · rw [List.drop_zero, pastC_snoc']; rfl
          have hQ := rQueueing c (R.taken now delay) v2 [H.length + 1] (by show (R.all ++ [(now, delay)]).length < _; simp; omega) hok2.srt (fun s hs => by have h1 := hok2.all s hs; have h2 := hok2.now; exact ⟨h1.1, by omega⟩) _ hR2
          have hask : raskE (R.taken now delay) = 0 := if_neg (by show ¬ R.all ++ [(now, delay)] = []; simp)
          rw [hask] at hQ
          have hend : ∀ L : Int, L = min (max (R.limit + rstepL (R.taken now delay) bytes under) 1500) 1000000 → ∃ av' S', RAt ((H'.set c (.cells [.int .i64 R.time, .bool R.ever, .int .i64 R.target, .int .i64 L, .int .i64 now, v2] ⟨83, 0, true, 0, none⟩)) ++ [.cells (pastC R.all ++ [.int .i64 now, .int .i64 delay]) ⟨98, 2, true, 0, none⟩]) c ((R.taken now delay).changeL bytes under) av' S' ∧ Frm (c :: S) H ((H'.set c (.cells [.int .i64 R.time, .bool R.ever, .int .i64 R.target, .int .i64 L, .int .i64 now, v2] ⟨83, 0, true, 0, none⟩)) ++ [.cells (pastC R.all ++ [.int .i64 now, .int .i64 delay]) ⟨98, 2, true, 0, none⟩]) ∧ ∀ s ∈ S', s ∈ S ∨ H.length ≤ s := by
            rintro L rfl
            refine ⟨v2, [H.length + 1], ?_, (hf1.set (.inl (List.mem_cons_self ..))).more, by simp⟩
            have := hR2.put (R' := (R.taken now delay).changeL bytes under) rfl
            rw [hsetl (by rw [List.length_set]; exact hcl'), hset_set] at this
            exact this
          simp only [rcO, rctlC] at hQ
          have hQ : ARet Try.prog 58 [.pointer (some ⟨c, 0, none⟩)] (H'.set c (.cells [.int .i64 R.time, .bool R.ever, .int .i64 R.target, .int .i64 R.limit, .int .i64 now, v2] ⟨83, 0, true, 0, none⟩) ++ [.cells (pastC R.all ++ [.int .i64 now, .int .i64 delay]) ⟨98, 2, true, 0, none⟩]) (.tuple ⟨[.int .i64 (rqueueL (R.taken now delay)), .int .i64 0]⟩) (H'.set c (.cells [.int .i64 R.time, .bool R.ever, .int .i64 R.target, .int .i64 R.limit, .int .i64 now, v2] ⟨83, 0, true, 0, none⟩) ++ [.cells (pastC R.all ++ [.int .i64 now, .int .i64 delay]) ⟨98, 2, true, 0, none⟩]) := hQ
          obtain ⟨T, hT⟩ : ∃ T, (3000 * roffL (R.taken now delay) * bytes).tdiv (R.target * R.limit) = T := ⟨_, rfl⟩
          rw [hT] at hdb hstp
          have hlenS : ∀ o, (H'.set c o).length = H.length + 1 := fun o => by rw [List.length_set]; exact hlen2
          simp only [List.length_append, List.length_set, List.length_singleton]
          rw [← hv2]
          have hcv : cellsOf v2 = [v2] := by rw [hv2]; rfl
          repeat first
            | with_reducible refine AWP.seq ?_
            | ((with_reducible refine AWP.region ?_ ?_); exact rfl)
            | with_reducible refine AWP.block ?_
            | with_reducible refine AWP.skip ?_
            | with_reducible refine AWP.exit ?_
            | with_reducible refine AWP.ret ?_
            | with_reducible refine AWP.label ?_
            | with_reducible refine AWP.goto ?_
            | ((with_reducible refine AWP.condT ?_ ?_); focus (simp only [ev, lk_cons, ↓reduceIte, Nat.reduceEqDiff]; done))
            | ((with_reducible refine AWP.condF ?_ ?_); focus (simp only [ev, lk_cons, ↓reduceIte, Nat.reduceEqDiff]; done))
            | simp only [go_sem, ↓reduceIte, Nat.reduceEqDiff, reduceCtorEq, Nat.reduceAdd, Int.reduceEq, Int.reduceBNe, Int.reduceBEq, Int.reduceToNat, Int.reduceLT, Int.reduceLE, Int.reduceGT, Int.reduceGE, Nat.reduceSub, Nat.reduceBEq, Nat.reduceBNe, Int.reduceAdd, Int.reduceSub, Int.reduceMul, Int.reduceNeg, Nat.reduceMul, Nat.reduceLeDiff, Nat.reduceLT, hc', hcl', hcl1, hgetl, hsetl, hlenS, hcv]
            | simp (disch := omega) only [wi64, wu8, wu16, wu32, wu64, Int.tdiv_eq_ediv_of_nonneg, Int.tmod_eq_emod_of_nonneg]
            | with_reducible_and_instances exact finR
            | ((with_reducible refine finR' ?_ ?_) <;> rfl)
            | ((with_reducible refine finD hsc (NRel.of_plain ?_)); exact rfl)
          refine ⟨by rw [hv2], ?_⟩
          repeat first
            | with_reducible refine AWP.seq ?_
            | ((with_reducible refine AWP.region ?_ ?_); exact rfl)
            | with_reducible refine AWP.block ?_
            | with_reducible refine AWP.skip ?_
            | with_reducible refine AWP.exit ?_
            | with_reducible refine AWP.ret ?_
            | with_reducible refine AWP.label ?_
            | with_reducible refine AWP.goto ?_
            | ((with_reducible refine AWP.condT ?_ ?_); focus (simp only [ev, lk_cons, ↓reduceIte, Nat.reduceEqDiff]; done))
            | ((with_reducible refine AWP.condF ?_ ?_); focus (simp only [ev, lk_cons, ↓reduceIte, Nat.reduceEqDiff]; done))
            | with_reducible refine hQ.use ?_
            | simp only [go_sem, ↓reduceIte, Nat.reduceEqDiff, reduceCtorEq, Nat.reduceAdd, Int.reduceEq, Int.reduceBNe, Int.reduceBEq, Int.reduceToNat, Int.reduceLT, Int.reduceLE, Int.reduceGT, Int.reduceGE, Nat.reduceSub, Nat.reduceBEq, Nat.reduceBNe, Int.reduceAdd, Int.reduceSub, Int.reduceMul, Int.reduceNeg, Nat.reduceMul, Nat.reduceLeDiff, Nat.reduceLT, hc', hcl', hcl1, hgetl, hsetl, hlenS, hcv]
            | simp (disch := omega) only [wi64, wu8, wu16, wu32, wu64, Int.tdiv_eq_ediv_of_nonneg, Int.tmod_eq_emod_of_nonneg]
            | with_reducible_and_instances exact finR
            | ((with_reducible refine finR' ?_ ?_) <;> rfl)
            | ((with_reducible refine finD hsc (NRel.of_plain ?_)); exact rfl)
          refine AWP.regionK 12 (by kernel_rfl) (by decide) (by kernel_rfl) ?_
          repeat first
            | with_reducible refine AWP.seq ?_
            | ((with_reducible refine AWP.region ?_ ?_); exact rfl)
            | with_reducible refine AWP.block ?_
            | with_reducible refine AWP.skip ?_
            | with_reducible refine AWP.exit ?_
            | with_reducible refine AWP.ret ?_
            | with_reducible refine AWP.label ?_
            | with_reducible refine AWP.goto ?_
            | ((with_reducible refine AWP.condT ?_ ?_); focus (simp only [ev, lk_cons, ↓reduceIte, Nat.reduceEqDiff]; done))
            | ((with_reducible refine AWP.condF ?_ ?_); focus (simp only [ev, lk_cons, ↓reduceIte, Nat.reduceEqDiff]; done))
            | simp only [go_sem, ↓reduceIte, Nat.reduceEqDiff, reduceCtorEq, Nat.reduceAdd, Int.reduceEq, Int.reduceBNe, Int.reduceBEq, Int.reduceToNat, Int.reduceLT, Int.reduceLE, Int.reduceGT, Int.reduceGE, Nat.reduceSub, Nat.reduceBEq, Nat.reduceBNe, Int.reduceAdd, Int.reduceSub, Int.reduceMul, Int.reduceNeg, Nat.reduceMul, Nat.reduceLeDiff, Nat.reduceLT, hcl', hgetl, minMaxW, hwo]
            | simp (disch := omega) only [wi64, wu8, wu16, wu32, wu64, Int.tdiv_eq_ediv_of_nonneg, Int.tmod_eq_emod_of_nonneg]
            | with_reducible_and_instances exact finR
            | ((with_reducible refine finR' ?_ ?_) <;> rfl)
            | ((with_reducible refine finD hsc (NRel.of_plain ?_)); exact rfl)
          refine AWP.regionK 14 (by kernel_rfl) (by decide) (by kernel_rfl) ?_
          repeat first
            | with_reducible refine AWP.seq ?_
            | ((with_reducible refine AWP.region ?_ ?_); exact rfl)
            | with_reducible refine AWP.block ?_
            | with_reducible refine AWP.skip ?_
            | with_reducible refine AWP.exit ?_
            | with_reducible refine AWP.ret ?_
            | with_reducible refine AWP.label ?_
            | with_reducible refine AWP.goto ?_
            | ((with_reducible refine AWP.condT ?_ ?_); focus (simp only [ev, lk_cons, ↓reduceIte, Nat.reduceEqDiff]; done))
            | ((with_reducible refine AWP.condF ?_ ?_); focus (simp only [ev, lk_cons, ↓reduceIte, Nat.reduceEqDiff]; done))
            | simp only [go_sem, ↓reduceIte, Nat.reduceEqDiff, reduceCtorEq, Nat.reduceAdd, Int.reduceEq, Int.reduceBNe, Int.reduceBEq, Int.reduceToNat, Int.reduceLT, Int.reduceLE, Int.reduceGT, Int.reduceGE, Nat.reduceSub, Nat.reduceBEq, Nat.reduceBNe, Int.reduceAdd, Int.reduceSub, Int.reduceMul, Int.reduceNeg, Nat.reduceMul, Nat.reduceLeDiff, Nat.reduceLT, hcl', hgetl, hz, hT]
            | simp (disch := omega) only [wi64, wu8, wu16, wu32, wu64, Int.tdiv_eq_ediv_of_nonneg, Int.tmod_eq_emod_of_nonneg]
            | with_reducible_and_instances exact finR
            | ((with_reducible refine finR' ?_ ?_) <;> rfl)
            | ((with_reducible refine finD hsc (NRel.of_plain ?_)); exact rfl)
          by_cases h1 : T > 0
          · rw [if_pos h1] at hstp
            by_cases h3 : 2 * under < R.limit
            · rw [if_pos h3] at hstp
              have he := hend (min (max (R.limit + 0) 1500) 1000000) (by rw [hstp])
              repeat first
                | with_reducible refine AWP.seq ?_
                | ((with_reducible refine AWP.region ?_ ?_); exact rfl)
                | with_reducible refine AWP.block ?_
                | with_reducible refine AWP.skip ?_
                | with_reducible refine AWP.exit ?_
                | with_reducible refine AWP.ret ?_
                | with_reducible refine AWP.label ?_
                | with_reducible refine AWP.goto ?_
                | ((with_reducible refine AWP.condT ?_ ?_); focus (simp only [ev, lk_cons, ↓reduceIte, Nat.reduceEqDiff]; done))
                | ((with_reducible refine AWP.condF ?_ ?_); focus (simp only [ev, lk_cons, ↓reduceIte, Nat.reduceEqDiff]; done))
                | simp only [go_sem, ↓reduceIte, Nat.reduceEqDiff, reduceCtorEq, Nat.reduceAdd, Int.reduceEq, Int.reduceBNe, Int.reduceBEq, Int.reduceToNat, Int.reduceLT, Int.reduceLE, Int.reduceGT, Int.reduceGE, Nat.reduceSub, Nat.reduceBEq, Nat.reduceBNe, Int.reduceAdd, Int.reduceSub, Int.reduceMul, Int.reduceNeg, Nat.reduceMul, Nat.reduceLeDiff, Nat.reduceLT, hcl', hgetl, hsetl, h1, h3, minMaxW]
                | simp (disch := omega) only [wi64, wu8, wu16, wu32, wu64, Int.tdiv_eq_ediv_of_nonneg, Int.tmod_eq_emod_of_nonneg]
                | with_reducible_and_instances exact finR
                | ((with_reducible refine finR' ?_ ?_) <;> rfl)
                | ((with_reducible refine finD hsc (NRel.of_plain ?_)); exact rfl)
              exact ⟨_, _, .refl _ _ _, rfl, he⟩
            · rw [if_neg h3] at hstp
              have he := hend (min (max (R.limit + min T bytes) 1500) 1000000) (by rw [hstp])
              repeat first
                | with_reducible refine AWP.seq ?_
                | ((with_reducible refine AWP.region ?_ ?_); exact rfl)
                | with_reducible refine AWP.block ?_
                | with_reducible refine AWP.skip ?_
                | with_reducible refine AWP.exit ?_
                | with_reducible refine AWP.ret ?_
                | with_reducible refine AWP.label ?_
                | with_reducible refine AWP.goto ?_
                | ((with_reducible refine AWP.condT ?_ ?_); focus (simp only [ev, lk_cons, ↓reduceIte, Nat.reduceEqDiff]; done))
                | ((with_reducible refine AWP.condF ?_ ?_); focus (simp only [ev, lk_cons, ↓reduceIte, Nat.reduceEqDiff]; done))
                | simp only [go_sem, ↓reduceIte, Nat.reduceEqDiff, reduceCtorEq, Nat.reduceAdd, Int.reduceEq, Int.reduceBNe, Int.reduceBEq, Int.reduceToNat, Int.reduceLT, Int.reduceLE, Int.reduceGT, Int.reduceGE, Nat.reduceSub, Nat.reduceBEq, Nat.reduceBNe, Int.reduceAdd, Int.reduceSub, Int.reduceMul, Int.reduceNeg, Nat.reduceMul, Nat.reduceLeDiff, Nat.reduceLT, hcl', hgetl, hsetl, h1, h3, minMaxW]
                | simp (disch := omega) only [wi64, wu8, wu16, wu32, wu64, Int.tdiv_eq_ediv_of_nonneg, Int.tmod_eq_emod_of_nonneg]
                | with_reducible_and_instances exact finR
                | ((with_reducible refine finR' ?_ ?_) <;> rfl)
                | ((with_reducible refine finD hsc (NRel.of_plain ?_)); exact rfl)
              exact ⟨_, _, .refl _ _ _, rfl, he⟩
          · rw [if_neg h1] at hstp
            have he := hend (min (max (R.limit + T) 1500) 1000000) (by rw [hstp])
            repeat first
              | with_reducible refine AWP.seq ?_
              | ((with_reducible refine AWP.region ?_ ?_); exact rfl)
              | with_reducible refine AWP.block ?_
              | with_reducible refine AWP.skip ?_
              | with_reducible refine AWP.exit ?_
              | with_reducible refine AWP.ret ?_
              | with_reducible refine AWP.label ?_
              | with_reducible refine AWP.goto ?_
              | ((with_reducible refine AWP.condT ?_ ?_); focus (simp only [ev, lk_cons, ↓reduceIte, Nat.reduceEqDiff]; done))
              | ((with_reducible refine AWP.condF ?_ ?_); focus (simp only [ev, lk_cons, ↓reduceIte, Nat.reduceEqDiff]; done))
              | simp only [go_sem, ↓reduceIte, Nat.reduceEqDiff, reduceCtorEq, Nat.reduceAdd, Int.reduceEq, Int.reduceBNe, Int.reduceBEq, Int.reduceToNat, Int.reduceLT, Int.reduceLE, Int.reduceGT, Int.reduceGE, Nat.reduceSub, Nat.reduceBEq, Nat.reduceBNe, Int.reduceAdd, Int.reduceSub, Int.reduceMul, Int.reduceNeg, Nat.reduceMul, Nat.reduceLeDiff, Nat.reduceLT, hcl', hgetl, hsetl, h1, minMaxW]
              | simp (disch := omega) only [wi64, wu8, wu16, wu32, wu64, Int.tdiv_eq_ediv_of_nonneg, Int.tmod_eq_emod_of_nonneg]
              | with_reducible_and_instances exact finR
              | ((with_reducible refine finR' ?_ ?_) <;> rfl)
              | ((with_reducible refine finD hsc (NRel.of_plain ?_)); exact rfl)
            exact ⟨_, _, .refl _ _ _, rfl, he⟩
        · have d4 : decide (0 ≤ under ∧ under ≤ 1000000) = false := decide_eq_false hu
          have hD : ¬ rsampleD R now bytes delay under := fun h => hu h.2.2.2
          have hE : rsampleE R now bytes delay under = 7 := if_neg hD
          have hS : R.sampleL now bytes delay under = R := if_neg hD
          rw [hE, hS]
          refine AC.enter Try.func55 rfl (by kernel_rfl) 109 rfl [.tmp 10] rfl (by simp) fun hsc B => ?_
          repeat first
            | with_reducible refine AWP.seq ?_
            | ((with_reducible refine AWP.region ?_ ?_); exact rfl)
            | with_reducible refine AWP.block ?_
            | with_reducible refine AWP.skip ?_
            | with_reducible refine AWP.exit ?_
            | with_reducible refine AWP.ret ?_
            | with_reducible refine AWP.label ?_
            | with_reducible refine AWP.goto ?_
            | ((with_reducible refine AWP.condT ?_ ?_); focus (simp only [ev, lk_cons, ↓reduceIte, Nat.reduceEqDiff]; done))
            | ((with_reducible refine AWP.condF ?_ ?_); focus (simp only [ev, lk_cons, ↓reduceIte, Nat.reduceEqDiff]; done))
            | with_reducible refine (right _ _ _ _).use ?_
            | simp only [go_sem, ↓reduceIte, Nat.reduceEqDiff, reduceCtorEq, Nat.reduceAdd, Int.reduceEq, Int.reduceBNe, Int.reduceBEq, Int.reduceToNat, Int.reduceLT, Int.reduceLE, Int.reduceGT, Int.reduceGE, Nat.reduceSub, Nat.reduceBEq, Nat.reduceBNe, Int.reduceAdd, Int.reduceSub, Int.reduceMul, Int.reduceNeg, Nat.reduceMul, Nat.reduceLeDiff, Nat.reduceLT, d1, d2, d3, d4, hc, hcl]
            | simp (disch := omega) only [wi64, wu8, wu16, wu32, wu64, Int.tdiv_eq_ediv_of_nonneg, Int.tmod_eq_emod_of_nonneg]
            | with_reducible_and_instances exact finR
            | ((with_reducible refine finR' ?_ ?_) <;> rfl)
            | ((with_reducible refine finD hsc (NRel.of_plain ?_)); exact rfl)
          exact ⟨_, _, .refl _ _ _, rfl, av, S, hR, .refl _ _, fun s hs => .inl hs⟩
      · have d3 : decide (0 ≤ delay ∧ delay ≤ 4294967295) = false := decide_eq_false hde
        have hD : ¬ rsampleD R now bytes delay under := fun h => hde h.2.2.1
        have hE : rsampleE R now bytes delay under = 7 := if_neg hD
        have hS : R.sampleL now bytes delay under = R := if_neg hD
        rw [hE, hS]
        refine AC.enter Try.func55 rfl (by kernel_rfl) 109 rfl [.tmp 10] rfl (by simp) fun hsc B => ?_
        repeat first
          | with_reducible refine AWP.seq ?_
          | ((with_reducible refine AWP.region ?_ ?_); exact rfl)
          | with_reducible refine AWP.block ?_
          | with_reducible refine AWP.skip ?_
          | with_reducible refine AWP.exit ?_
          | with_reducible refine AWP.ret ?_
          | with_reducible refine AWP.label ?_
          | with_reducible refine AWP.goto ?_
          | ((with_reducible refine AWP.condT ?_ ?_); focus (simp only [ev, lk_cons, ↓reduceIte, Nat.reduceEqDiff]; done))
          | ((with_reducible refine AWP.condF ?_ ?_); focus (simp only [ev, lk_cons, ↓reduceIte, Nat.reduceEqDiff]; done))
          | with_reducible refine (right _ _ _ _).use ?_
          | simp only [go_sem, ↓reduceIte, Nat.reduceEqDiff, reduceCtorEq, Nat.reduceAdd, Int.reduceEq, Int.reduceBNe, Int.reduceBEq, Int.reduceToNat, Int.reduceLT, Int.reduceLE, Int.reduceGT, Int.reduceGE, Nat.reduceSub, Nat.reduceBEq, Nat.reduceBNe, Int.reduceAdd, Int.reduceSub, Int.reduceMul, Int.reduceNeg, Nat.reduceMul, Nat.reduceLeDiff, Nat.reduceLT, d1, d2, d3, hc, hcl]
          | simp (disch := omega) only [wi64, wu8, wu16, wu32, wu64, Int.tdiv_eq_ediv_of_nonneg, Int.tmod_eq_emod_of_nonneg]
          | with_reducible_and_instances exact finR
          | ((with_reducible refine finR' ?_ ?_) <;> rfl)
          | ((with_reducible refine finD hsc (NRel.of_plain ?_)); exact rfl)
        exact ⟨_, _, .refl _ _ _, rfl, av, S, hR, .refl _ _, fun s hs => .inl hs⟩
    · have d2 : decide (0 ≤ bytes ∧ bytes ≤ 1000000) = false := decide_eq_false hb
      have hD : ¬ rsampleD R now bytes delay under := fun h => hb h.2.1
      have hE : rsampleE R now bytes delay under = 7 := if_neg hD
      have hS : R.sampleL now bytes delay under = R := if_neg hD
      rw [hE, hS]
      refine AC.enter Try.func55 rfl (by kernel_rfl) 109 rfl [.tmp 10] rfl (by simp) fun hsc B => ?_
      repeat first
        | with_reducible refine AWP.seq ?_
        | ((with_reducible refine AWP.region ?_ ?_); exact rfl)
        | with_reducible refine AWP.block ?_
        | with_reducible refine AWP.skip ?_
        | with_reducible refine AWP.exit ?_
        | with_reducible refine AWP.ret ?_
        | with_reducible refine AWP.label ?_
        | with_reducible refine AWP.goto ?_
        | ((with_reducible refine AWP.condT ?_ ?_); focus (simp only [ev, lk_cons, ↓reduceIte, Nat.reduceEqDiff]; done))
        | ((with_reducible refine AWP.condF ?_ ?_); focus (simp only [ev, lk_cons, ↓reduceIte, Nat.reduceEqDiff]; done))
        | with_reducible refine (right _ _ _ _).use ?_
        | simp only [go_sem, ↓reduceIte, Nat.reduceEqDiff, reduceCtorEq, Nat.reduceAdd, Int.reduceEq, Int.reduceBNe, Int.reduceBEq, Int.reduceToNat, Int.reduceLT, Int.reduceLE, Int.reduceGT, Int.reduceGE, Nat.reduceSub, Nat.reduceBEq, Nat.reduceBNe, Int.reduceAdd, Int.reduceSub, Int.reduceMul, Int.reduceNeg, Nat.reduceMul, Nat.reduceLeDiff, Nat.reduceLT, d1, d2, hc, hcl]
        | simp (disch := omega) only [wi64, wu8, wu16, wu32, wu64, Int.tdiv_eq_ediv_of_nonneg, Int.tmod_eq_emod_of_nonneg]
        | with_reducible_and_instances exact finR
        | ((with_reducible refine finR' ?_ ?_) <;> rfl)
        | ((with_reducible refine finD hsc (NRel.of_plain ?_)); exact rfl)
      exact ⟨_, _, .refl _ _ _, rfl, av, S, hR, .refl _ _, fun s hs => .inl hs⟩
  · have d1 : decide (R.now ≤ now ∧ now ≤ 1000000000) = false := decide_eq_false hd
    have hD : ¬ rsampleD R now bytes delay under := fun h => hd h.1
    have hE : rsampleE R now bytes delay under = 7 := if_neg hD
    have hS : R.sampleL now bytes delay under = R := if_neg hD
    rw [hE, hS]
    refine AC.enter Try.func55 rfl (by kernel_rfl) 109 rfl [.tmp 10] rfl (by simp) fun hsc B => ?_
    repeat first
      | with_reducible refine AWP.seq ?_
      | ((with_reducible refine AWP.region ?_ ?_); exact rfl)
      | with_reducible refine AWP.block ?_
      | with_reducible refine AWP.skip ?_
      | with_reducible refine AWP.exit ?_
      | with_reducible refine AWP.ret ?_
      | with_reducible refine AWP.label ?_
      | with_reducible refine AWP.goto ?_
      | ((with_reducible refine AWP.condT ?_ ?_); focus (simp only [ev, lk_cons, ↓reduceIte, Nat.reduceEqDiff]; done))
      | ((with_reducible refine AWP.condF ?_ ?_); focus (simp only [ev, lk_cons, ↓reduceIte, Nat.reduceEqDiff]; done))
      | with_reducible refine (right _ _ _ _).use ?_
      | simp only [go_sem, ↓reduceIte, Nat.reduceEqDiff, reduceCtorEq, Nat.reduceAdd, Int.reduceEq, Int.reduceBNe, Int.reduceBEq, Int.reduceToNat, Int.reduceLT, Int.reduceLE, Int.reduceGT, Int.reduceGE, Nat.reduceSub, Nat.reduceBEq, Nat.reduceBNe, Int.reduceAdd, Int.reduceSub, Int.reduceMul, Int.reduceNeg, Nat.reduceMul, Nat.reduceLeDiff, Nat.reduceLT, d1, hc, hcl]
      | simp (disch := omega) only [wi64, wu8, wu16, wu32, wu64, Int.tdiv_eq_ediv_of_nonneg, Int.tmod_eq_emod_of_nonneg]
      | with_reducible_and_instances exact finR
      | ((with_reducible refine finR' ?_ ?_) <;> rfl)
      | ((with_reducible refine finD hsc (NRel.of_plain ?_)); exact rfl)
    exact ⟨_, _, .refl _ _ _, rfl, av, S, hR, .refl _ _, fun s hs => .inl hs⟩
end Go.Proofs.Ytoikchnpflnehaa
