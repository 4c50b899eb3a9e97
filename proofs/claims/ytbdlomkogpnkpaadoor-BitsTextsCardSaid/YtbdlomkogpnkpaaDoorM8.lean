/-
  The walk of the program's fields of bits: the bits that are set, one after the other.
-/
import Derived.Test.YtbdlomkogpnkpaaDoorM5
set_option linter.unusedVariables false
set_option linter.unusedSimpArgs false
set_option maxRecDepth 20000
namespace Go.Proofs.YtbdlomkogpnkpaaDoor
open Go Go.Aw Go.Proofs
theorem Len8 (b : Nat) (hb : b < 256) (H : AHeap) : ARet Tryd.prog 84 [.int .u8 (b : Nat)] H (.int .i64 (len8 b : Nat)) H := by
  have h0 : (0 : Int) ≤ (b : Int) := by omega
  have h1 := len8_get b hb
  have h2 := len8_lt b hb
  have h3 : (((UInt8.ofNat (len8 b)).toNat : Nat) : Int) = (len8 b : Nat) := by rw [toNat_ofNat8 (by omega)]
  have h4 : IntKind.i64.wrap ((len8 b : Nat) : Int) = (len8 b : Nat) := wi64 (by omega)
  refine AC.enter Tryd.func84 rfl (by kernel_rfl) 6 rfl [.tmp 2] rfl (by simp) fun hsc B => ?_
  repeat first
    | with_reducible refine AWP.seq ?_
    | ((with_reducible refine AWP.region ?_ ?_); exact rfl)
    | with_reducible refine AWP.block ?_
    | with_reducible refine AWP.skip ?_
    | with_reducible refine AWP.exit ?_
    | with_reducible refine AWP.ret ?_
    | with_reducible refine AWP.label ?_
    | with_reducible refine AWP.goto ?_
    | ((with_reducible refine AWP.condT ?_ ?_); focus (simp only [ev, lk_cons, ↓reduceIte, Nat.reduceEqDiff]; done))
    | ((with_reducible refine AWP.condF ?_ ?_); focus (simp only [ev, lk_cons, ↓reduceIte, Nat.reduceEqDiff]; done))
    | simp only [go_sem, ↓reduceIte, Nat.reduceEqDiff, reduceCtorEq, Nat.reduceAdd, Int.reduceEq, Int.reduceBNe, Int.reduceBEq, Int.reduceToNat, Int.reduceLT, Int.reduceLE, Int.reduceGT, Int.reduceGE, Nat.reduceSub, Nat.reduceBEq, Nat.reduceBNe, Int.reduceAdd, Int.reduceSub, Int.reduceMul, Int.reduceNeg, Nat.reduceMul, Nat.reduceLeDiff, Nat.reduceLT, h0]
    | simp (disch := omega) only [wi64, wu8, wu16, wu32, wu64]
    | with_reducible_and_instances exact finR
    | ((with_reducible refine finR' ?_ ?_) <;> rfl)
    | ((with_reducible refine finD hsc (NRel.of_plain ?_)); exact rfl)
  refine wth_get (by kernel_rfl) h1 ?_
  repeat first
    | with_reducible refine AWP.seq ?_
    | ((with_reducible refine AWP.region ?_ ?_); exact rfl)
    | with_reducible refine AWP.block ?_
    | with_reducible refine AWP.skip ?_
    | with_reducible refine AWP.exit ?_
    | with_reducible refine AWP.ret ?_
    | with_reducible refine AWP.label ?_
    | with_reducible refine AWP.goto ?_
    | ((with_reducible refine AWP.condT ?_ ?_); focus (simp only [ev, lk_cons, ↓reduceIte, Nat.reduceEqDiff]; done))
    | ((with_reducible refine AWP.condF ?_ ?_); focus (simp only [ev, lk_cons, ↓reduceIte, Nat.reduceEqDiff]; done))
    | simp only [go_sem, ↓reduceIte, Nat.reduceEqDiff, reduceCtorEq, Nat.reduceAdd, Int.reduceEq, Int.reduceBNe, Int.reduceBEq, Int.reduceToNat, Int.reduceLT, Int.reduceLE, Int.reduceGT, Int.reduceGE, Nat.reduceSub, Nat.reduceBEq, Nat.reduceBNe, Int.reduceAdd, Int.reduceSub, Int.reduceMul, Int.reduceNeg, Nat.reduceMul, Nat.reduceLeDiff, Nat.reduceLT, h3, h4]
    | simp (disch := omega) only [wi64, wu8, wu16, wu32, wu64]
    | with_reducible_and_instances exact finR
    | ((with_reducible refine finR' ?_ ?_) <;> rfl)
    | ((with_reducible refine finD hsc (NRel.of_plain ?_)); exact rfl)
theorem LeadingZeros8 (b : Nat) (hb : b < 256) (H : AHeap) : ARet Tryd.prog 75 [.int .u8 (b : Nat)] H (.int .i64 (8 - len8 b : Nat)) H := by
  have h2 := len8_lt b hb
  have h5 : (8 : Int) - ((len8 b : Nat) : Int) = ((8 - len8 b : Nat) : Int) := by omega
  refine AC.enter Tryd.func75 rfl (by kernel_rfl) 6 rfl [.tmp 2] rfl (by simp) fun hsc B => ?_
  repeat first
    | with_reducible refine AWP.seq ?_
    | ((with_reducible refine AWP.region ?_ ?_); exact rfl)
    | with_reducible refine AWP.block ?_
    | with_reducible refine AWP.skip ?_
    | with_reducible refine AWP.exit ?_
    | with_reducible refine AWP.ret ?_
    | with_reducible refine AWP.label ?_
    | with_reducible refine AWP.goto ?_
    | ((with_reducible refine AWP.condT ?_ ?_); focus (simp only [ev, lk_cons, ↓reduceIte, Nat.reduceEqDiff]; done))
    | ((with_reducible refine AWP.condF ?_ ?_); focus (simp only [ev, lk_cons, ↓reduceIte, Nat.reduceEqDiff]; done))
    | with_reducible refine (Len8 b hb _).use ?_
    | simp only [go_sem, ↓reduceIte, Nat.reduceEqDiff, reduceCtorEq, Nat.reduceAdd, Int.reduceEq, Int.reduceBNe, Int.reduceBEq, Int.reduceToNat, Int.reduceLT, Int.reduceLE, Int.reduceGT, Int.reduceGE, Nat.reduceSub, Nat.reduceBEq, Nat.reduceBNe, Int.reduceAdd, Int.reduceSub, Int.reduceMul, Int.reduceNeg, Nat.reduceMul, Nat.reduceLeDiff, Nat.reduceLT, h5]
    | simp (disch := omega) only [wi64, wu8, wu16, wu32, wu64]
    | with_reducible_and_instances exact finR
    | ((with_reducible refine finR' ?_ ?_) <;> rfl)
    | ((with_reducible refine finD hsc (NRel.of_plain ?_)); exact rfl)
def allA (s : List UInt8) : List (List Value) := (allL s).map fun (i : Nat) => [.int .i64 (i : Nat)]
theorem all (n cap i : Nat) (s : List UInt8) (H : AHeap) : ARet Tryd.prog 63 [.agg ⟨[.int .i64 (n : Nat), .slice (some ⟨i, 0, none⟩) s.length cap]⟩] H (.func (.func 74) ⟨[]⟩ ⟨[.pointer (some ⟨H.length, 0, none⟩)]⟩) (H ++ [.cells [.int .i64 (n : Nat), .slice (some ⟨i, 0, none⟩) s.length cap] ⟨53, 0, true, 0, none⟩]) := by
  refine AC.enter Tryd.func63 rfl (by kernel_rfl) 4 rfl [.tmp 2] rfl (by simp) fun hsc B => ?_
  repeat first
    | with_reducible refine AWP.seq ?_
    | ((with_reducible refine AWP.region ?_ ?_); exact rfl)
    | with_reducible refine AWP.block ?_
    | with_reducible refine AWP.skip ?_
    | with_reducible refine AWP.exit ?_
    | with_reducible refine AWP.ret ?_
    | with_reducible refine AWP.label ?_
    | with_reducible refine AWP.goto ?_
    | ((with_reducible refine AWP.condT ?_ ?_); focus (simp only [ev, lk_cons, ↓reduceIte, Nat.reduceEqDiff]; done))
    | ((with_reducible refine AWP.condF ?_ ?_); focus (simp only [ev, lk_cons, ↓reduceIte, Nat.reduceEqDiff]; done))
    | simp only [go_sem, ↓reduceIte, Nat.reduceEqDiff, reduceCtorEq, Nat.reduceAdd, Int.reduceEq, Int.reduceBNe, Int.reduceBEq, Int.reduceToNat, Int.reduceLT, Int.reduceLE, Int.reduceGT, Int.reduceGE, Nat.reduceSub, Nat.reduceBEq, Nat.reduceBNe, Int.reduceAdd, Int.reduceSub, Int.reduceMul, Int.reduceNeg, Nat.reduceMul, Nat.reduceLeDiff, Nat.reduceLT]
    | simp (disch := omega) only [wi64, wu8, wu16, wu32, wu64]
    | with_reducible_and_instances exact finR
    | ((with_reducible refine finR' ?_ ?_) <;> rfl)
    | ((with_reducible refine finD hsc (NRel.of_plain ?_)); exact rfl)
theorem all1 (s : List UInt8) (hs : s.length < 100000) (j ib n cap : Nat) : SeqG Tryd.prog 74 [.pointer (some ⟨j, 0, none⟩)] (allA s) (fun H => (∃ k, H[j]? = some (.cells [.int .i64 (n : Nat), .slice (some ⟨ib, 0, none⟩) s.length cap] k)) ∧ ∃ k, H[ib]? = some (.cells (bytesC s) k)) := by
  refine ⟨⟨_, Tryd.func74, by kernel_rfl, by kernel_rfl⟩, fun i H I D h0 hok hx hy => ?_⟩
  refine AC.enter Tryd.func74 rfl (by kernel_rfl) 30 rfl [] rfl (by simp) fun hsc B => ?_
  obtain ⟨⟨k0, hk0⟩, ⟨k1, hk1⟩⟩ := hok 0 H h0
  repeat first
    | with_reducible refine AWP.seq ?_
    | ((with_reducible refine AWP.region ?_ ?_); exact rfl)
    | with_reducible refine AWP.block ?_
    | with_reducible refine AWP.skip ?_
    | with_reducible refine AWP.exit ?_
    | with_reducible refine AWP.ret ?_
    | with_reducible refine AWP.label ?_
    | with_reducible refine AWP.goto ?_
    | ((with_reducible refine AWP.condT ?_ ?_); focus (simp only [ev, lk_cons, ↓reduceIte, Nat.reduceEqDiff]; done))
    | ((with_reducible refine AWP.condF ?_ ?_); focus (simp only [ev, lk_cons, ↓reduceIte, Nat.reduceEqDiff]; done))
    | simp only [go_sem, ↓reduceIte, Nat.reduceEqDiff, reduceCtorEq, Nat.reduceAdd, Int.reduceEq, Int.reduceBNe, Int.reduceBEq, Int.reduceToNat, Int.reduceLT, Int.reduceLE, Int.reduceGT, Int.reduceGE, Nat.reduceSub, Nat.reduceBEq, Nat.reduceBNe, Int.reduceAdd, Int.reduceSub, Int.reduceMul, Int.reduceNeg, Nat.reduceMul, Nat.reduceLeDiff, Nat.reduceLT, hk0]
    | simp (disch := omega) only [wi64, wu8, wu16, wu32, wu64]
    | with_reducible_and_instances exact finR
    | ((with_reducible refine finR' ?_ ?_) <;> rfl)
    | ((with_reducible refine finD hsc (NRel.of_plain ?_)); exact rfl)
  refine AWP.loopP (fun s2 : Nat × AHeap => ⟨[(0, .func (.yield i) ⟨[]⟩ ⟨[]⟩), (1, .pointer (some ⟨j, 0, none⟩)), (7, .slice (some ⟨ib, 0, none⟩) s.length cap), (8, .int .i64 (s.length : Nat)), (9, .int .i64 (s2.1 : Nat))], [], s2.2⟩) (fun s2 => s2.1 ≤ s.length ∧ I (cntB s (8 * s2.1)) s2.2) (fun s2 => s.length - s2.1) (0, H) ?_ ⟨by simp, h0⟩ ?_
  · exact Weak.env (by simp [envIn, lk_cons, wth_some])
  rintro ⟨k, H1⟩ ⟨hk, hn1⟩
  simp only at hk hn1
  by_cases hc : k < s.length
  · have hc' : (k : Int) < (s.length : Int) := by omega
    obtain ⟨_, ⟨kk, hkk⟩⟩ := hok _ H1 hn1
    have hg : s[k]? = some (s.getD k 0) := by rw [List.getD_eq_getElem?_getD, List.getElem?_eq_getElem (by omega)]; rfl
    repeat first
      | with_reducible refine AWP.seq ?_
      | ((with_reducible refine AWP.region ?_ ?_); exact rfl)
      | with_reducible refine AWP.block ?_
      | with_reducible refine AWP.skip ?_
      | with_reducible refine AWP.exit ?_
      | with_reducible refine AWP.ret ?_
      | with_reducible refine AWP.label ?_
      | with_reducible refine AWP.goto ?_
      | ((with_reducible refine AWP.condT ?_ ?_); focus (simp only [ev, lk_cons, ↓reduceIte, Nat.reduceEqDiff]; done))
      | ((with_reducible refine AWP.condF ?_ ?_); focus (simp only [ev, lk_cons, ↓reduceIte, Nat.reduceEqDiff]; done))
      | simp only [go_sem, ↓reduceIte, Nat.reduceEqDiff, reduceCtorEq, Nat.reduceAdd, Int.reduceEq, Int.reduceBNe, Int.reduceBEq, Int.reduceToNat, Int.reduceLT, Int.reduceLE, Int.reduceGT, Int.reduceGE, Nat.reduceSub, Nat.reduceBEq, Nat.reduceBNe, Int.reduceAdd, Int.reduceSub, Int.reduceMul, Int.reduceNeg, Nat.reduceMul, Nat.reduceLeDiff, Nat.reduceLT, hc', hkk, bytesC_get, hg]
      | simp (disch := omega) only [wi64, wu8, wu16, wu32, wu64]
      | with_reducible_and_instances exact finR
      | ((with_reducible refine finR' ?_ ?_) <;> rfl)
      | ((with_reducible refine finD hsc (NRel.of_plain ?_)); exact rfl)
    have hx8 := UInt8.toNat_lt (s.getD k 0)
    have hbit : ∀ j, j < 8 → (s.getD k 0).toNat.testBit (7 - j) = bitAt s (8 * k + j) := fun j hj => by
      unfold bitAt; rw [show (8 * k + j) / 8 = k by omega, show (8 * k + j) % 8 = j by omega]
    generalize s.getD k 0 = x at *
    have hF := len8_facts x.toNat
    refine AWP.loopP (fun s2 : Nat × AHeap => ⟨[(0, .func (.yield i) ⟨[]⟩ ⟨[]⟩), (1, .pointer (some ⟨j, 0, none⟩)), (7, .slice (some ⟨ib, 0, none⟩) s.length cap), (8, .int .i64 (s.length : Nat)), (9, .int .i64 (k : Nat)), (3, .int .i64 (k : Nat)), (4, .int .u8 (x.toNat % 2 ^ (8 - s2.1) : Nat))], [], s2.2⟩) (fun s2 => s2.1 ≤ 8 ∧ I (cntB s (8 * k + s2.1)) s2.2) (fun s2 => 8 - s2.1) (0, H1) ?_ ⟨by simp, hn1⟩ ?_
    · rw [show x.toNat % 2 ^ (8 - 0) = x.toNat by omega]
      exact Weak.env (by simp [envIn, lk_cons, wth_some])
    rintro ⟨q, H2⟩ ⟨hq, hq1⟩
    simp only at hq hq1
    obtain ⟨f1, f2⟩ := hF q hx8 hq
    have hb8 : x.toNat % 2 ^ (8 - q) < 256 := Nat.lt_of_le_of_lt (Nat.mod_le _ _) hx8
    generalize x.toNat % 2 ^ (8 - q) = b at *
    by_cases hb : b = 0
    · have hsm := cntB_same s (8 * k + q) (8 - q) fun j a c => by
        have := f1 hb (j - 8 * k) (by omega) (by omega)
        rw [hbit _ (by omega), show 8 * k + (j - 8 * k) = j by omega] at this
        exact this
      rw [show 8 * k + q + (8 - q) = 8 * (k + 1) by omega] at hsm
      subst hb
      repeat first
        | with_reducible refine AWP.seq ?_
        | ((with_reducible refine AWP.region ?_ ?_); exact rfl)
        | with_reducible refine AWP.block ?_
        | with_reducible refine AWP.skip ?_
        | with_reducible refine AWP.exit ?_
        | with_reducible refine AWP.ret ?_
        | with_reducible refine AWP.label ?_
        | with_reducible refine AWP.goto ?_
        | ((with_reducible refine AWP.condT ?_ ?_); focus (simp only [ev, lk_cons, ↓reduceIte, Nat.reduceEqDiff]; done))
        | ((with_reducible refine AWP.condF ?_ ?_); focus (simp only [ev, lk_cons, ↓reduceIte, Nat.reduceEqDiff]; done))
        | simp only [go_sem, ↓reduceIte, Nat.reduceEqDiff, reduceCtorEq, Nat.reduceAdd, Int.reduceEq, Int.reduceBNe, Int.reduceBEq, Int.reduceToNat, Int.reduceLT, Int.reduceLE, Int.reduceGT, Int.reduceGE, Nat.reduceSub, Nat.reduceBEq, Nat.reduceBNe, Int.reduceAdd, Int.reduceSub, Int.reduceMul, Int.reduceNeg, Nat.reduceMul, Nat.reduceLeDiff, Nat.reduceLT]
        | simp (disch := omega) only [wi64, wu8, wu16, wu32, wu64]
        | with_reducible_and_instances exact finR
        | ((with_reducible refine finR' ?_ ?_) <;> rfl)
        | ((with_reducible refine finD hsc (NRel.of_plain ?_)); exact rfl)
      exact ⟨(k + 1, H2), Weak.env (by simp [envIn, lk_cons, wth_some]), by omega, by rw [hsm]; exact hq1, by simp; omega⟩
    · obtain ⟨g1, g2, g3, g4, g5⟩ := f2 hb
      have hL := LeadingZeros8 b hb8
      generalize 8 - len8 b = m at *
      have hsm := cntB_same s (8 * k + q) (m - q) fun j a c => by
        have := g4 (j - 8 * k) (by omega) (by omega)
        rw [hbit _ (by omega), show 8 * k + (j - 8 * k) = j by omega] at this
        exact this
      rw [show 8 * k + q + (m - q) = 8 * k + m by omega] at hsm
      rw [hbit m g2] at g3
      have hne : ((b : Int) != 0) = true := by simp; omega
      have hl : (allA s)[cntB s (8 * k + q)]? = some [.int .i64 ((8 * k + m : Nat) : Int)] := by
        unfold allA
        rw [List.getElem?_map, ← hsm, allL_get (by omega) g3]; rfl
      have hyy := hy _ _ H2 hl hq1
      have hce : (8 : Int) * (k : Int) + (m : Int) = ((8 * k + m : Nat) : Int) := by omega
      repeat first
        | with_reducible refine AWP.seq ?_
        | ((with_reducible refine AWP.region ?_ ?_); exact rfl)
        | with_reducible refine AWP.block ?_
        | with_reducible refine AWP.skip ?_
        | with_reducible refine AWP.exit ?_
        | with_reducible refine AWP.ret ?_
        | with_reducible refine AWP.label ?_
        | with_reducible refine AWP.goto ?_
        | ((with_reducible refine AWP.condT ?_ ?_); focus (simp only [ev, lk_cons, ↓reduceIte, Nat.reduceEqDiff]; done))
        | ((with_reducible refine AWP.condF ?_ ?_); focus (simp only [ev, lk_cons, ↓reduceIte, Nat.reduceEqDiff]; done))
        | with_reducible refine (hL _).use ?_
        | simp only [go_sem, ↓reduceIte, Nat.reduceEqDiff, reduceCtorEq, Nat.reduceAdd, Int.reduceEq, Int.reduceBNe, Int.reduceBEq, Int.reduceToNat, Int.reduceLT, Int.reduceLE, Int.reduceGT, Int.reduceGE, Nat.reduceSub, Nat.reduceBEq, Nat.reduceBNe, Int.reduceAdd, Int.reduceSub, Int.reduceMul, Int.reduceNeg, Nat.reduceMul, Nat.reduceLeDiff, Nat.reduceLT, hne, hce]
        | simp (disch := omega) only [wi64, wu8, wu16, wu32, wu64]
        | with_reducible_and_instances exact finR
        | ((with_reducible refine finR' ?_ ?_) <;> rfl)
        | ((with_reducible refine finD hsc (NRel.of_plain ?_)); exact rfl)
      refine AY.mono hyy ?_
      rintro v H3 ⟨bb, rfl, hb1, hb2⟩
      cases bb with
      | true =>
        have hsh : shrI .u8 128 (m : Int) = ((2 ^ (7 - m) : Nat) : Int) := by
          have := mask8 m
          rwa [Nat.mod_eq_of_lt g2] at this
        have h2p : 2 ^ (7 - m) < 256 := Nat.pow_lt_pow_right (n := 8) (by omega) (by omega)
        have han := andNotI_n8 b (2 ^ (7 - m)) hb8 h2p
        rw [g5] at han
        have hcs : cntB s (8 * k + (m + 1)) = cntB s (8 * k + q) + 1 := by
          rw [← hsm, ← Nat.add_assoc]
          unfold cntB
          rw [filter_range_succ, if_pos g3]
        repeat first
          | with_reducible refine AWP.seq ?_
          | ((with_reducible refine AWP.region ?_ ?_); exact rfl)
          | with_reducible refine AWP.block ?_
          | with_reducible refine AWP.skip ?_
          | with_reducible refine AWP.exit ?_
          | with_reducible refine AWP.ret ?_
          | with_reducible refine AWP.label ?_
          | with_reducible refine AWP.goto ?_
          | ((with_reducible refine AWP.condT ?_ ?_); focus (simp only [ev, lk_cons, ↓reduceIte, Nat.reduceEqDiff]; done))
          | ((with_reducible refine AWP.condF ?_ ?_); focus (simp only [ev, lk_cons, ↓reduceIte, Nat.reduceEqDiff]; done))
          | simp only [go_sem, ↓reduceIte, Nat.reduceEqDiff, reduceCtorEq, Nat.reduceAdd, Int.reduceEq, Int.reduceBNe, Int.reduceBEq, Int.reduceToNat, Int.reduceLT, Int.reduceLE, Int.reduceGT, Int.reduceGE, Nat.reduceSub, Nat.reduceBEq, Nat.reduceBNe, Int.reduceAdd, Int.reduceSub, Int.reduceMul, Int.reduceNeg, Nat.reduceMul, Nat.reduceLeDiff, Nat.reduceLT, hsh, han]
          | simp (disch := omega) only [wi64, wu8, wu16, wu32, wu64]
          | with_reducible_and_instances exact finR
          | ((with_reducible refine finR' ?_ ?_) <;> rfl)
          | ((with_reducible refine finD hsc (NRel.of_plain ?_)); exact rfl)
        exact ⟨(m + 1, H3), Weak.env (by simp [envIn, lk_cons, wth_some]), by omega, by rw [hcs]; exact hb1 rfl, by simp; omega⟩
      | false =>
        repeat first
          | with_reducible refine AWP.seq ?_
          | ((with_reducible refine AWP.region ?_ ?_); exact rfl)
          | with_reducible refine AWP.block ?_
          | with_reducible refine AWP.skip ?_
          | with_reducible refine AWP.exit ?_
          | with_reducible refine AWP.ret ?_
          | with_reducible refine AWP.label ?_
          | with_reducible refine AWP.goto ?_
          | ((with_reducible refine AWP.condT ?_ ?_); focus (simp only [ev, lk_cons, ↓reduceIte, Nat.reduceEqDiff]; done))
          | ((with_reducible refine AWP.condF ?_ ?_); focus (simp only [ev, lk_cons, ↓reduceIte, Nat.reduceEqDiff]; done))
          | simp only [go_sem, ↓reduceIte, Nat.reduceEqDiff, reduceCtorEq, Nat.reduceAdd, Int.reduceEq, Int.reduceBNe, Int.reduceBEq, Int.reduceToNat, Int.reduceLT, Int.reduceLE, Int.reduceGT, Int.reduceGE, Nat.reduceSub, Nat.reduceBEq, Nat.reduceBNe, Int.reduceAdd, Int.reduceSub, Int.reduceMul, Int.reduceNeg, Nat.reduceMul, Nat.reduceLeDiff, Nat.reduceLT]
          | simp (disch := omega) only [wi64, wu8, wu16, wu32, wu64]
          | with_reducible_and_instances exact finR
          | ((with_reducible refine finR' ?_ ?_) <;> rfl)
          | ((with_reducible refine finD hsc (NRel.of_plain ?_)); exact rfl)
        exact ⟨_, _, .refl _ _ _, rfl, .inr (hb2 rfl)⟩
  · have hc' : ¬ (k : Int) < (s.length : Int) := by omega
    have : k = s.length := by omega
    subst this
    repeat first
      | with_reducible refine AWP.seq ?_
      | ((with_reducible refine AWP.region ?_ ?_); exact rfl)
      | with_reducible refine AWP.block ?_
      | with_reducible refine AWP.skip ?_
      | with_reducible refine AWP.exit ?_
      | with_reducible refine AWP.ret ?_
      | with_reducible refine AWP.label ?_
      | with_reducible refine AWP.goto ?_
      | ((with_reducible refine AWP.condT ?_ ?_); focus (simp only [ev, lk_cons, ↓reduceIte, Nat.reduceEqDiff]; done))
      | ((with_reducible refine AWP.condF ?_ ?_); focus (simp only [ev, lk_cons, ↓reduceIte, Nat.reduceEqDiff]; done))
      | simp only [go_sem, ↓reduceIte, Nat.reduceEqDiff, reduceCtorEq, Nat.reduceAdd, Int.reduceEq, Int.reduceBNe, Int.reduceBEq, Int.reduceToNat, Int.reduceLT, Int.reduceLE, Int.reduceGT, Int.reduceGE, Nat.reduceSub, Nat.reduceBEq, Nat.reduceBNe, Int.reduceAdd, Int.reduceSub, Int.reduceMul, Int.reduceNeg, Nat.reduceMul, Nat.reduceLeDiff, Nat.reduceLT, hc']
      | simp (disch := omega) only [wi64, wu8, wu16, wu32, wu64]
      | with_reducible_and_instances exact finR
      | ((with_reducible refine finR' ?_ ?_) <;> rfl)
      | ((with_reducible refine finD hsc (NRel.of_plain ?_)); exact rfl)
    exact ⟨_, _, .refl _ _ _, rfl, .inl (by unfold allA allL; rw [List.length_map]; exact hn1)⟩
end Go.Proofs.YtbdlomkogpnkpaaDoor
