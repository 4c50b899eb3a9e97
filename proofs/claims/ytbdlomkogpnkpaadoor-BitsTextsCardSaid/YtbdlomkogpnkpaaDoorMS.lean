/-
  The walk of texts of runs: numbers in decimal, texts cut apart.
-/
import Derived.Test.YtbdlomkogpnkpaaDoorMQx
import Derived.Test.YtbdlomkogpnkpaaDoorMG
import Derived.Test.YtbdlomkogpnkpaaDoorMR
import Derived.Test.YtbdlomkogpnkpaaDoorLg
import Derived.Test.YtbdlomkogpnkpaaDoorBt
set_option linter.unusedVariables false
set_option linter.unusedSimpArgs false
set_option maxRecDepth 20000
set_option maxHeartbeats 1000000
namespace Go.Proofs.YtbdlomkogpnkpaaDoor
open Go Go.Aw Go.Proofs Go.Shelf Go.RowKit Go.ChangeShapes
/-- What is lent: the variables that the library reads. -/
structure GlobH (H : AHeap) : Prop where
  maxLen : ∃ e m, H[0]? = some (globO e 0 (.int .i64 m))
  tab : ∃ e, H[1]? = some (tabO e 1 .u64 Lib.pow10Tab)
  errSyntax : ∃ e t v, H[3]? = some (globO e 2 (.iface t v))
  errRange : ∃ e t v, H[5]? = some (globO e 3 (.iface t v))
theorem GlobH.more {H : AHeap} (h : GlobH H) (X : AHeap) : GlobH (H ++ X) := by
  obtain ⟨⟨a1, a2, h1⟩, ⟨a3, h2⟩, ⟨a4, a5, a6, h3⟩, ⟨a7, a8, a9, h4⟩⟩ := h
  exact ⟨⟨a1, a2, by rw [hgetl (lt_of_get h1)]; exact h1⟩, ⟨a3, by rw [hgetl (lt_of_get h2)]; exact h2⟩, ⟨a4, a5, a6, by rw [hgetl (lt_of_get h3)]; exact h3⟩, ⟨a7, a8, a9, by rw [hgetl (lt_of_get h4)]; exact h4⟩⟩
theorem gTab : Tryd.prog.globalNamed "internal/strconv.uint64pow10" = some 1 := by kernel_rfl
theorem Itoa (n : Int) (h0 : -9223372036854775808 ≤ n) (h1 : n ≤ 9223372036854775807) (H : AHeap) (hT : GlobH H) : ARet Tryd.prog 66 [.int .i64 n] H (.string (bs (Lib.itoa n))) H := by
  obtain ⟨e, hT⟩ := hT.tab
  exact ARet.itoa Tryd.laysItoa Tryd.func66 rfl (by kernel_rfl) gTab hT h0 h1
theorem Split {s : List UInt8} (hs : s.length < 4294967281) (H : AHeap) (hT : GlobH H) : ARet Tryd.prog 69 [.string (bs s), .string (bs [44])] H (.slice (some ⟨H.length, 0, none⟩) (cutsL 44 s).length (cutsL 44 s).length) (H ++ [.cells (strsC (cutsL 44 s)) ⟨9, 1, true, 0, none⟩]) := by
  obtain ⟨e, m, hT⟩ := hT.maxLen
  have h := ARet.split (Tryd.laysSplit.ton146) Tryd.laysSplit.i9 Tryd.func69 rfl (by kernel_rfl) (sep := [44]) hT hs (by decide)
  have e1 : (Lib.splitB (bs [44]) 0 (Lib.countB (bs s) (bs [44])) (bs s)).map (·.data.toList) = cutsL 44 s := by
    rw [Lib.splitB_data]; exact splitK_cuts 44 s
  have e2 : (Lib.splitB (bs [44]) 0 (Lib.countB (bs s) (bs [44])) (bs s)).map Value.string = strsC (cutsL 44 s) := by
    rw [← e1]; unfold strsC; rw [List.map_map]; rfl
  have e3 : Lib.countB (bs s) (bs [44]) + 1 = (cutsL 44 s).length := by
    rw [← e1, List.length_map, Lib.splitB_all _ (by decide) _ _ _ rfl]
  rw [e2, e3] at h
  exact h
theorem Cut {s : List UInt8} (hs : s.length < 4294967281) (H : AHeap) (hT : GlobH H) : ARet Tryd.prog 70 [.string (bs s), .string (bs [45])] H (.tuple ⟨[.string (bs (Lib.cut s [45]).1), .string (bs (Lib.cut s [45]).2.1), .bool (Lib.cut s [45]).2.2]⟩) H := by
  obtain ⟨e, m, hT⟩ := hT.maxLen
  exact ARet.cut (Tryd.laysCut.ton145) Tryd.func70 rfl (by kernel_rfl) (sep := [45]) hT hs
theorem number {s : List UInt8} (hs : s.length ≤ 65536) : ∃ (n : Int) (b : Bool), (∀ H, GlobH H → ARet Tryd.prog 71 [.string (bs s)] H (.tuple ⟨[.int .i64 n, .bool b]⟩) H) ∧ (b = true → 0 ≤ n ∧ n ≤ 9223372036854775807 ∧ s = Lib.decDigits n.toNat) ∧ (b = false → numO s = none) := by
  by_cases hok : ∃ v, Lib.atoiAll s = .ok v
  · obtain ⟨v, ha⟩ := hok
    have hA : ∀ H, ARet Tryd.prog 83 [.string (bs s)] H (.tuple ⟨[.int .i64 v, .nilIface]⟩) H := fun H => ARet.atoi_ok (H := H) Tryd.laysAtoi Tryd.func83 rfl (by kernel_rfl) (s := s) (by omega) ha
    obtain ⟨b0, b1⟩ := Lib.atoiAll_bounds ha
    by_cases h0 : v ≥ 0
    · have hit : Lib.itoa v = Lib.decDigits v.toNat := by unfold Lib.itoa; rw [if_neg (by omega)]
      refine ⟨v, Lib.itoa v == s, fun H hT => ?_, fun hb => ⟨h0, b1, by rw [← hit]; exact (beq_iff_eq.1 hb).symm⟩, fun hb => numO_none fun u hu e => ?_⟩
      · have hI := Itoa v b0 b1 H hT
        refine AC.enter Tryd.func71 rfl (by kernel_rfl) 24 rfl [.tmp 2, .tmp 3] rfl (by simp) fun hsc B => ?_
        repeat first
          | with_reducible refine AWP.seq ?_
          | ((with_reducible refine AWP.region ?_ ?_); exact rfl)
          | with_reducible refine AWP.block ?_
          | with_reducible refine AWP.skip ?_
          | with_reducible refine AWP.exit ?_
          | with_reducible refine AWP.ret ?_
          | with_reducible refine AWP.label ?_
          | with_reducible refine AWP.goto ?_
          | ((with_reducible refine AWP.condT ?_ ?_); focus (simp only [ev, lk_cons, ↓reduceIte, Nat.reduceEqDiff]; done))
          | ((with_reducible refine AWP.condF ?_ ?_); focus (simp only [ev, lk_cons, ↓reduceIte, Nat.reduceEqDiff]; done))
          | with_reducible refine (hA _).use ?_
          | with_reducible refine hI.use ?_
          | simp only [go_sem, ↓reduceIte, Nat.reduceEqDiff, reduceCtorEq, Nat.reduceAdd, Int.reduceEq, Int.reduceBNe, Int.reduceBEq, Int.reduceToNat, Int.reduceLT, Int.reduceLE, Int.reduceGT, Int.reduceGE, Nat.reduceSub, Nat.reduceBEq, Nat.reduceBNe, Int.reduceAdd, Int.reduceSub, Int.reduceMul, Int.reduceNeg, Nat.reduceMul, Nat.reduceLeDiff, Nat.reduceLT, h0]
          | simp (disch := omega) only [wi64, wu8, wu16, wu32, wu64]
          | with_reducible_and_instances exact finR
          | ((with_reducible refine finR' ?_ ?_) <;> rfl)
          | ((with_reducible refine finD hsc (NRel.of_plain ?_)); exact rfl)
      · rw [e, dd_atoi u (by omega)] at ha
        cases ha
        rw [hit] at hb
        simp [e] at hb
    · refine ⟨v, false, fun H hT => ?_, (fun hb => by cases hb), fun _ => numO_none fun u hu e => ?_⟩
      · skip
        refine AC.enter Tryd.func71 rfl (by kernel_rfl) 24 rfl [.tmp 2, .tmp 3] rfl (by simp) fun hsc B => ?_
        repeat first
          | with_reducible refine AWP.seq ?_
          | ((with_reducible refine AWP.region ?_ ?_); exact rfl)
          | with_reducible refine AWP.block ?_
          | with_reducible refine AWP.skip ?_
          | with_reducible refine AWP.exit ?_
          | with_reducible refine AWP.ret ?_
          | with_reducible refine AWP.label ?_
          | with_reducible refine AWP.goto ?_
          | ((with_reducible refine AWP.condT ?_ ?_); focus (simp only [ev, lk_cons, ↓reduceIte, Nat.reduceEqDiff]; done))
          | ((with_reducible refine AWP.condF ?_ ?_); focus (simp only [ev, lk_cons, ↓reduceIte, Nat.reduceEqDiff]; done))
          | with_reducible refine (hA _).use ?_
          | simp only [go_sem, ↓reduceIte, Nat.reduceEqDiff, reduceCtorEq, Nat.reduceAdd, Int.reduceEq, Int.reduceBNe, Int.reduceBEq, Int.reduceToNat, Int.reduceLT, Int.reduceLE, Int.reduceGT, Int.reduceGE, Nat.reduceSub, Nat.reduceBEq, Nat.reduceBNe, Int.reduceAdd, Int.reduceSub, Int.reduceMul, Int.reduceNeg, Nat.reduceMul, Nat.reduceLeDiff, Nat.reduceLT, h0]
          | simp (disch := omega) only [wi64, wu8, wu16, wu32, wu64]
          | with_reducible_and_instances exact finR
          | ((with_reducible refine finR' ?_ ?_) <;> rfl)
          | ((with_reducible refine finD hsc (NRel.of_plain ?_)); exact rfl)
      · rw [e, dd_atoi u (by omega)] at ha
        cases ha
        omega
  · have hno : ∀ v, Lib.atoiAll s ≠ .ok v := fun v e => hok ⟨v, e⟩
    obtain ⟨n, hN⟩ := ARet.atoi_no Tryd.laysAtoi Tryd.func83 rfl (by kernel_rfl) (s := s) (by omega) hno
    refine ⟨n, false, fun H hT => ?_, (fun hb => by cases hb), fun _ => numO_none fun u hu e => hno u (by rw [e]; exact dd_atoi u (by omega))⟩
    obtain ⟨e1, t1, v1, g1⟩ := hT.errSyntax
    obtain ⟨e2, t2, v2, g2⟩ := hT.errRange
    have hA : ARet Tryd.prog 83 [.string (bs s)] H (.tuple ⟨[.int .i64 n, .iface 123 (.pointer (some ⟨H.length, 0, none⟩))]⟩) (H ++ [.dead]) := hN H ⟨_, _, _, _, g1⟩ ⟨_, _, _, _, g2⟩
    refine AC.enter Tryd.func71 rfl (by kernel_rfl) 24 rfl [.tmp 2, .tmp 3] rfl (by simp) fun hsc B => ?_
    repeat first
      | with_reducible refine AWP.seq ?_
      | ((with_reducible refine AWP.region ?_ ?_); exact rfl)
      | with_reducible refine AWP.block ?_
      | with_reducible refine AWP.skip ?_
      | with_reducible refine AWP.exit ?_
      | with_reducible refine AWP.ret ?_
      | with_reducible refine AWP.label ?_
      | with_reducible refine AWP.goto ?_
      | ((with_reducible refine AWP.condT ?_ ?_); focus (simp only [ev, lk_cons, ↓reduceIte, Nat.reduceEqDiff]; done))
      | ((with_reducible refine AWP.condF ?_ ?_); focus (simp only [ev, lk_cons, ↓reduceIte, Nat.reduceEqDiff]; done))
      | with_reducible refine hA.use ?_
      | simp only [go_sem, ↓reduceIte, Nat.reduceEqDiff, reduceCtorEq, Nat.reduceAdd, Int.reduceEq, Int.reduceBNe, Int.reduceBEq, Int.reduceToNat, Int.reduceLT, Int.reduceLE, Int.reduceGT, Int.reduceGE, Nat.reduceSub, Nat.reduceBEq, Nat.reduceBNe, Int.reduceAdd, Int.reduceSub, Int.reduceMul, Int.reduceNeg, Nat.reduceMul, Nat.reduceLeDiff, Nat.reduceLT]
      | simp (disch := omega) only [wi64, wu8, wu16, wu32, wu64]
      | with_reducible_and_instances exact finR
      | ((with_reducible refine finR' ?_ ?_) <;> rfl)
      | ((with_reducible refine finD hsc (NRel.of_plain ?_)); exact rfl)
end Go.Proofs.YtbdlomkogpnkpaaDoor
