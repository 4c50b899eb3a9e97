/-
  The walk of fields of bits: bits, errors.
-/
import Derived.Test.YtbdlomkogpnkpaaDoorAwC
import Derived.Test.YtbdlomkogpnkpaaDoorBp
import Derived.Test.YtbdlomkogpnkpaaDoorTM
set_option linter.unusedVariables false
set_option linter.unusedSimpArgs false
set_option maxRecDepth 20000
namespace Go.Proofs.YtbdlomkogpnkpaaDoor
open Go Go.Aw Go.Proofs
abbrev pf (e : Int) : Value := .iface 85 (.int .i64 e)
theorem failF (e : Int) (H : AHeap) : ARet Tryd.prog 60 [.bool false, .int .i64 e] H noVal H := by
  refine AC.enter Tryd.func60 rfl (by kernel_rfl) 7 rfl [] rfl (by simp) fun hsc B => ?_
  repeat first
    | with_reducible refine AWP.seq ?_
    | ((with_reducible refine AWP.region ?_ ?_); exact rfl)
    | with_reducible refine AWP.block ?_
    | with_reducible refine AWP.skip ?_
    | with_reducible refine AWP.exit ?_
    | with_reducible refine AWP.ret ?_
    | with_reducible refine AWP.label ?_
    | with_reducible refine AWP.goto ?_
    | ((with_reducible refine AWP.condT ?_ ?_); focus (simp only [ev, lk_cons, ↓reduceIte, Nat.reduceEqDiff]; done))
    | ((with_reducible refine AWP.condF ?_ ?_); focus (simp only [ev, lk_cons, ↓reduceIte, Nat.reduceEqDiff]; done))
    | simp only [go_sem, ↓reduceIte, Nat.reduceEqDiff, reduceCtorEq, Nat.reduceAdd, Int.reduceEq, Int.reduceBNe, Int.reduceBEq, Int.reduceToNat, Int.reduceLT, Int.reduceLE, Int.reduceGT, Int.reduceGE, Nat.reduceSub, Nat.reduceBEq, Nat.reduceBNe, Int.reduceAdd, Int.reduceSub, Int.reduceMul, Int.reduceNeg, Nat.reduceMul, Nat.reduceLeDiff, Nat.reduceLT]
    | simp (disch := omega) only [wi64, wu8, wu16, wu32, wu64]
    | with_reducible_and_instances exact finR
    | ((with_reducible refine finR' ?_ ?_) <;> rfl)
    | ((with_reducible refine finD hsc (NRel.of_plain ?_)); exact rfl)
theorem failT (e : Int) (H : AHeap) : APan Tryd.prog 60 [.bool true, .int .i64 e] H (pf e) H := by
  refine AC.enter Tryd.func60 rfl (by kernel_rfl) 7 rfl [] rfl (by simp) fun hsc B => ?_
  repeat first
    | with_reducible refine finP
    | with_reducible refine AWP.seq ?_
    | ((with_reducible refine AWP.region ?_ ?_); exact rfl)
    | with_reducible refine AWP.block ?_
    | with_reducible refine AWP.skip ?_
    | with_reducible refine AWP.exit ?_
    | with_reducible refine AWP.ret ?_
    | with_reducible refine AWP.label ?_
    | with_reducible refine AWP.goto ?_
    | ((with_reducible refine AWP.condT ?_ ?_); focus (simp only [ev, lk_cons, ↓reduceIte, Nat.reduceEqDiff]; done))
    | ((with_reducible refine AWP.condF ?_ ?_); focus (simp only [ev, lk_cons, ↓reduceIte, Nat.reduceEqDiff]; done))
    | simp only [go_sem, ↓reduceIte, Nat.reduceEqDiff, reduceCtorEq, Nat.reduceAdd, Int.reduceEq, Int.reduceBNe, Int.reduceBEq, Int.reduceToNat, Int.reduceLT, Int.reduceLE, Int.reduceGT, Int.reduceGE, Nat.reduceSub, Nat.reduceBEq, Nat.reduceBNe, Int.reduceAdd, Int.reduceSub, Int.reduceMul, Int.reduceNeg, Nat.reduceMul, Nat.reduceLeDiff, Nat.reduceLT]
    | simp (disch := omega) only [wi64, wu8, wu16, wu32, wu64]
    | with_reducible_and_instances exact finR
    | ((with_reducible refine finR' ?_ ?_) <;> rfl)
    | ((with_reducible refine finD hsc (NRel.of_plain ?_)); exact rfl)
theorem caughtR {H : AHeap} {i off : Nat} {K : AMode → AHeap → Prop} (hk : K .ret H) : AD Tryd.prog 55 [.pointer (some ⟨i, off, none⟩)] H .ret K := by
  refine AD.enterR Tryd.func55 rfl (by kernel_rfl) 19 rfl rfl (Nat.le_of_ble_eq_true rfl) rfl rfl rfl rfl rfl rfl (by decide) (by decide) rfl fun hsc B => ?_
  repeat first
    | with_reducible refine AWP.seq ?_
    | ((with_reducible refine AWP.region ?_ ?_); exact rfl)
    | with_reducible refine AWP.block ?_
    | with_reducible refine AWP.skip ?_
    | with_reducible refine AWP.exit ?_
    | with_reducible refine AWP.ret ?_
    | with_reducible refine AWP.label ?_
    | with_reducible refine AWP.goto ?_
    | ((with_reducible refine AWP.condT ?_ ?_); focus (simp only [ev, lk_cons, ↓reduceIte, Nat.reduceEqDiff]; done))
    | ((with_reducible refine AWP.condF ?_ ?_); focus (simp only [ev, lk_cons, ↓reduceIte, Nat.reduceEqDiff]; done))
    | simp only [go_sem, ↓reduceIte, Nat.reduceEqDiff, reduceCtorEq, Nat.reduceAdd, Int.reduceEq, Int.reduceBNe, Int.reduceBEq, Int.reduceToNat, Int.reduceLT, Int.reduceLE, Int.reduceGT, Int.reduceGE, Nat.reduceSub, Nat.reduceBEq, Nat.reduceBNe, Int.reduceAdd, Int.reduceSub, Int.reduceMul, Int.reduceNeg, Nat.reduceMul, Nat.reduceLeDiff, Nat.reduceLT]
    | simp (disch := omega) only [wi64, wu8, wu16, wu32, wu64]
    | with_reducible_and_instances exact finR
    | ((with_reducible refine finR' ?_ ?_) <;> rfl)
    | ((with_reducible refine finD hsc (NRel.of_plain ?_)); exact rfl)
  exact ⟨rfl, _, WeakV.refl _ _ _, hk⟩
theorem caughtP {H : AHeap} {i : Nat} {e : Int} {v : Value} {K : AMode → AHeap → Prop} (hi : H[i]? = some (.cells [v] ⟨24, 0, true, 0, none⟩)) (hk : K .ret (H.set i (.cells [.int .i64 e] ⟨24, 0, true, 0, none⟩))) : AD Tryd.prog 55 [.pointer (some ⟨i, 0, none⟩)] H (.pan (pf e)) K := by
  refine AD.enterR Tryd.func55 rfl (by kernel_rfl) 19 rfl rfl (Nat.le_of_ble_eq_true rfl) rfl rfl rfl rfl rfl rfl (by decide) (by decide) rfl fun hsc B => ?_
  repeat first
    | with_reducible refine AWP.seq ?_
    | ((with_reducible refine AWP.region ?_ ?_); exact rfl)
    | with_reducible refine AWP.block ?_
    | with_reducible refine AWP.skip ?_
    | with_reducible refine AWP.exit ?_
    | with_reducible refine AWP.ret ?_
    | with_reducible refine AWP.label ?_
    | with_reducible refine AWP.goto ?_
    | ((with_reducible refine AWP.condT ?_ ?_); focus (simp only [ev, lk_cons, ↓reduceIte, Nat.reduceEqDiff]; done))
    | ((with_reducible refine AWP.condF ?_ ?_); focus (simp only [ev, lk_cons, ↓reduceIte, Nat.reduceEqDiff]; done))
    | simp only [go_sem, ↓reduceIte, Nat.reduceEqDiff, reduceCtorEq, Nat.reduceAdd, Int.reduceEq, Int.reduceBNe, Int.reduceBEq, Int.reduceToNat, Int.reduceLT, Int.reduceLE, Int.reduceGT, Int.reduceGE, Nat.reduceSub, Nat.reduceBEq, Nat.reduceBNe, Int.reduceAdd, Int.reduceSub, Int.reduceMul, Int.reduceNeg, Nat.reduceMul, Nat.reduceLeDiff, Nat.reduceLT, hi]
    | simp (disch := omega) only [wi64, wu8, wu16, wu32, wu64]
    | with_reducible_and_instances exact finR
    | ((with_reducible refine finR' ?_ ?_) <;> rfl)
    | ((with_reducible refine finD hsc (NRel.of_plain ?_)); exact rfl)
  exact ⟨rfl, _, WeakV.refl _ _ _, hk⟩
theorem caughtP0 {A l : AHeap} {e : Int} {v : Value} {K : AMode → AHeap → Prop} (hk : K .ret (A ++ .cells [.int .i64 e] ⟨24, 0, true, 0, none⟩ :: l)) : AD Tryd.prog 55 [.pointer (some ⟨A.length, 0, none⟩)] (A ++ .cells [v] ⟨24, 0, true, 0, none⟩ :: l) (.pan (pf e)) K :=
  caughtP (v := v) (by rw [hget0 rfl]; rfl) (by rw [hset0 rfl]; exact hk)
theorem caughtP1 {A l : AHeap} {o : AObj} {e : Int} {v : Value} {K : AMode → AHeap → Prop} (hk : K .ret (A ++ o :: .cells [.int .i64 e] ⟨24, 0, true, 0, none⟩ :: l)) : AD Tryd.prog 55 [.pointer (some ⟨A.length + 1, 0, none⟩)] (A ++ o :: .cells [v] ⟨24, 0, true, 0, none⟩ :: l) (.pan (pf e)) K :=
  caughtP (v := v) (by rw [hgetk rfl]; rfl) (by rw [hsetk rfl]; exact hk)
theorem andNotI_n8 (a b : Nat) (ha : a < 256) (hb : b < 256) : andNotI .u8 (a : Int) (b : Int) = ((a &&& (255 - b) : Nat) : Int) := by
  unfold andNotI
  have e : (BitVec.ofInt IntKind.u8.bits (a : Int) &&& ~~~BitVec.ofInt IntKind.u8.bits (b : Int)).toNat = a &&& (255 - b) := by
    rw [BitVec.toNat_and, BitVec.toNat_not]
    have e1 : (BitVec.ofInt IntKind.u8.bits (a : Int)).toNat = a := Go.Aw.bits_nat 8 a ha
    have e2 : (BitVec.ofInt IntKind.u8.bits (b : Int)).toNat = b := Go.Aw.bits_nat 8 b hb
    rw [e1, e2]
    rfl
  rw [e]
  exact wu8 ⟨by omega, by have : a &&& (255 - b) ≤ a := Nat.and_le_left; omega⟩
theorem mask8 (m : Nat) : shrI .u8 128 ((m % 8 : Nat) : Int) = ((2 ^ (7 - m % 8) : Nat) : Int) := by
  have h : ∀ j, j < 8 → shrI .u8 128 ((j : Nat) : Int) = ((2 ^ (7 - j) : Nat) : Int) := by decide
  exact h _ (by omega)
theorem has (n : Int) (s : List UInt8) (i cap m : Nat) (k : CK) (H : AHeap) (hi : H[i]? = some (.cells (bytesC s) k)) (hm : m / 8 < s.length) (hm2 : m < 100000) :
    ARet Tryd.prog 51 [.agg ⟨[.int .i64 n, .slice (some ⟨i, 0, none⟩) s.length cap]⟩, .int .i64 (m : Nat)] H (.bool (bitAt s m)) H := by
  have hb : (andI .u8 (shrI .u8 ((s.getD (m / 8) 0).toNat : Int) ((7 - m % 8 : Nat) : Int)) 1 == 1) = bitAt s m := bit8 (s.getD (m / 8) 0) (7 - m % 8) (by omega)
  have hc : (7 : Int) - ((m % 8 : Nat) : Int) = ((7 - m % 8 : Nat) : Int) := by omega
  have hg : s[m / 8]? = some (s.getD (m / 8) 0) := by rw [List.getD_eq_getElem?_getD, List.getElem?_eq_getElem hm]; rfl
  have hlt := lt_of_get hi
  have hw : IntKind.i64.wrap ((m / 8 : Nat) : Int) = ((m / 8 : Nat) : Int) := wi64 (by omega)
  have h0 : (0 : Int) ≤ ((m / 8 : Nat) : Int) := by omega
  have h1 : ((m / 8 : Nat) : Int) < (s.length : Int) := by omega
  refine AC.enter Tryd.func51 rfl (by kernel_rfl) 17 rfl [.tmp 4] rfl (by simp) fun hsc B => ?_
  repeat first
    | with_reducible refine AWP.seq ?_
    | ((with_reducible refine AWP.region ?_ ?_); exact rfl)
    | with_reducible refine AWP.block ?_
    | with_reducible refine AWP.skip ?_
    | with_reducible refine AWP.exit ?_
    | with_reducible refine AWP.ret ?_
    | with_reducible refine AWP.label ?_
    | with_reducible refine AWP.goto ?_
    | ((with_reducible refine AWP.condT ?_ ?_); focus (simp only [ev, lk_cons, ↓reduceIte, Nat.reduceEqDiff]; done))
    | ((with_reducible refine AWP.condF ?_ ?_); focus (simp only [ev, lk_cons, ↓reduceIte, Nat.reduceEqDiff]; done))
    | simp only [go_sem, ↓reduceIte, Nat.reduceEqDiff, reduceCtorEq, Nat.reduceAdd, Int.reduceEq, Int.reduceBNe, Int.reduceBEq, Int.reduceToNat, Int.reduceLT, Int.reduceLE, Int.reduceGT, Int.reduceGE, Nat.reduceSub, Nat.reduceBEq, Nat.reduceBNe, Int.reduceAdd, Int.reduceSub, Int.reduceMul, Int.reduceNeg, Nat.reduceMul, Nat.reduceLeDiff, Nat.reduceLT, tdiv8, tmod8, hi, hgetl, hlt, bytesC_get, hg, hc, hb, hw, h0, h1]
    | simp (disch := omega) only [wi64, wu8, wu16, wu32, wu64]
    | with_reducible_and_instances exact finR
    | ((with_reducible refine finR' ?_ ?_) <;> rfl)
    | ((with_reducible refine finD hsc (NRel.of_plain ?_)); exact rfl)
theorem set (n : Int) (s : List UInt8) (i cap m : Nat) (k : CK) (b : Bool) (H : AHeap) (hi : H[i]? = some (.cells (bytesC s) k)) (hk : k.own = true ∧ k.fz = 0) (hm : m / 8 < s.length) (hm2 : m < 100000) :
    ARet Tryd.prog 58 [.agg ⟨[.int .i64 n, .slice (some ⟨i, 0, none⟩) s.length cap]⟩, .int .i64 (m : Nat), .bool b] H noVal (H.set i (.cells (bytesC (setB s m b)) k)) := by
  have hg : s[m / 8]? = some (s.getD (m / 8) 0) := by rw [List.getD_eq_getElem?_getD, List.getElem?_eq_getElem hm]; rfl
  have hlt := lt_of_get hi
  have hw : IntKind.i64.wrap ((m / 8 : Nat) : Int) = ((m / 8 : Nat) : Int) := wi64 (by omega)
  have h0 : (0 : Int) ≤ ((m / 8 : Nat) : Int) := by omega
  have h1 : ((m / 8 : Nat) : Int) < (s.length : Int) := by omega
  have hp : 2 ^ (7 - m % 8) < 256 := Nat.pow_lt_pow_right (n := 8) (by omega) (by omega)
  have ho := orI_n8 (s.getD (m / 8) 0).toNat _ (UInt8.toNat_lt _) hp
  have ha := andNotI_n8 (s.getD (m / 8) 0).toNat _ (UInt8.toNat_lt _) hp
  have h256 : (s.getD (m / 8) 0).toNat ||| 2 ^ (7 - m % 8) < 256 := Nat.or_lt_two_pow (n := 8) (UInt8.toNat_lt _) hp
  have h257 : (s.getD (m / 8) 0).toNat &&& (255 - 2 ^ (7 - m % 8)) < 256 := Nat.lt_of_le_of_lt Nat.and_le_left (UInt8.toNat_lt _)
  have hs1 : (bytesC s).set (m / 8) (.int .u8 (((s.getD (m / 8) 0).toNat ||| 2 ^ (7 - m % 8) : Nat) : Int)) = bytesC (setB s m true) := by
    unfold setB
    rw [← bytesC_set, toNat_ofNat8 (by rw [if_pos rfl]; exact h256), if_pos rfl]
  have hs2 : (bytesC s).set (m / 8) (.int .u8 (((s.getD (m / 8) 0).toNat &&& (255 - 2 ^ (7 - m % 8)) : Nat) : Int)) = bytesC (setB s m false) := by
    unfold setB
    rw [← bytesC_set, toNat_ofNat8 (by rw [if_neg (by decide)]; exact h257), if_neg (by decide)]
  cases b
  · skip
    refine AC.enter Tryd.func58 rfl (by kernel_rfl) 29 rfl [] rfl (by simp) fun hsc B => ?_
    repeat first
      | with_reducible refine AWP.seq ?_
      | ((with_reducible refine AWP.region ?_ ?_); exact rfl)
      | with_reducible refine AWP.block ?_
      | with_reducible refine AWP.skip ?_
      | with_reducible refine AWP.exit ?_
      | with_reducible refine AWP.ret ?_
      | with_reducible refine AWP.label ?_
      | with_reducible refine AWP.goto ?_
      | ((with_reducible refine AWP.condT ?_ ?_); focus (simp only [ev, lk_cons, ↓reduceIte, Nat.reduceEqDiff]; done))
      | ((with_reducible refine AWP.condF ?_ ?_); focus (simp only [ev, lk_cons, ↓reduceIte, Nat.reduceEqDiff]; done))
      | simp only [go_sem, ↓reduceIte, Nat.reduceEqDiff, reduceCtorEq, Nat.reduceAdd, Int.reduceEq, Int.reduceBNe, Int.reduceBEq, Int.reduceToNat, Int.reduceLT, Int.reduceLE, Int.reduceGT, Int.reduceGE, Nat.reduceSub, Nat.reduceBEq, Nat.reduceBNe, Int.reduceAdd, Int.reduceSub, Int.reduceMul, Int.reduceNeg, Nat.reduceMul, Nat.reduceLeDiff, Nat.reduceLT, tdiv8, tmod8, hi, hgetl, hsetl, hlt, bytesC_get, hg, hk, hw, h0, h1, mask8, ha, hs2]
      | simp (disch := omega) only [wi64, wu8, wu16, wu32, wu64]
      | with_reducible_and_instances exact finR
      | ((with_reducible refine finR' ?_ ?_) <;> rfl)
      | ((with_reducible refine finD hsc (NRel.of_plain ?_)); exact rfl)
    exact ⟨by omega, finDS hsc (bare_bytes _ _) (.tuple .nil)⟩
  · skip
    refine AC.enter Tryd.func58 rfl (by kernel_rfl) 29 rfl [] rfl (by simp) fun hsc B => ?_
    repeat first
      | with_reducible refine AWP.seq ?_
      | ((with_reducible refine AWP.region ?_ ?_); exact rfl)
      | with_reducible refine AWP.block ?_
      | with_reducible refine AWP.skip ?_
      | with_reducible refine AWP.exit ?_
      | with_reducible refine AWP.ret ?_
      | with_reducible refine AWP.label ?_
      | with_reducible refine AWP.goto ?_
      | ((with_reducible refine AWP.condT ?_ ?_); focus (simp only [ev, lk_cons, ↓reduceIte, Nat.reduceEqDiff]; done))
      | ((with_reducible refine AWP.condF ?_ ?_); focus (simp only [ev, lk_cons, ↓reduceIte, Nat.reduceEqDiff]; done))
      | simp only [go_sem, ↓reduceIte, Nat.reduceEqDiff, reduceCtorEq, Nat.reduceAdd, Int.reduceEq, Int.reduceBNe, Int.reduceBEq, Int.reduceToNat, Int.reduceLT, Int.reduceLE, Int.reduceGT, Int.reduceGE, Nat.reduceSub, Nat.reduceBEq, Nat.reduceBNe, Int.reduceAdd, Int.reduceSub, Int.reduceMul, Int.reduceNeg, Nat.reduceMul, Nat.reduceLeDiff, Nat.reduceLT, tdiv8, tmod8, hi, hgetl, hsetl, hlt, bytesC_get, hg, hk, hw, h0, h1, mask8, ho, hs1]
      | simp (disch := omega) only [wi64, wu8, wu16, wu32, wu64]
      | with_reducible_and_instances exact finR
      | ((with_reducible refine finR' ?_ ?_) <;> rfl)
      | ((with_reducible refine finD hsc (NRel.of_plain ?_)); exact rfl)
    exact ⟨by omega, finDS hsc (bare_bytes _ _) (.tuple .nil)⟩
end Go.Proofs.YtbdlomkogpnkpaaDoor
