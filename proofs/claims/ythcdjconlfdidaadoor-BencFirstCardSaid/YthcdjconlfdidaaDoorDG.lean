/-
  Text builders: a byte more; a text with its length.
-/
import Derived.Test.YthcdjconlfdidaaDoorDF
set_option linter.unusedVariables false
set_option linter.unusedSimpArgs false
set_option maxHeartbeats 4000000
set_option maxRecDepth 20000
namespace Go.Proofs.YthcdjconlfdidaaDoor
open Go Go.Aw Go.Proofs Go.Shelf
/-- A builder that held l at b, its row at j, now holds l2. -/
def Wrote (H : AHeap) (b j : Nat) (l2 : List UInt8) (H2 : AHeap) : Prop := ∃ j2, Bld H2 b j2 l2 ∧ Frm [b, j] H H2 ∧ (j2 = j ∨ H.length ≤ j2)
theorem WriteByte (b j : Nat) (l : List UInt8) (c : UInt8) (hl : l.length + 1 ≤ 1099511627776) (H : AHeap) (hB : Bld H b j l) :
    AC Tryd.prog 86 [.pointer (some ⟨b, 0, none⟩), .int .u8 c.toNat] H (fun r H2 => r = .ret .nilIface ∧ Wrote H b j (l ++ [c]) H2) := by
  obtain ⟨⟨p, h1, h2⟩, h3⟩ := hB
  have hbl := lt_of_get h1
  have hc := copyCheck h1 h2
  have g1 : ∀ x Y, (H.set b x ++ Y)[b]? = some x := fun x Y => by rw [hgetl (by simpa using hbl)]; exact List.getElem?_set_self hbl
  have g0 : ∀ x, (H.set b x)[b]? = some x := fun x => List.getElem?_set_self hbl
  refine AC.enter Tryd.func86 rfl (by kernel_rfl) 17 rfl [.tmp 4] rfl (by simp) fun hsc B => ?_
  repeat first
    | with_reducible refine AWP.seq ?_
    | ((with_reducible refine AWP.region ?_ ?_); exact rfl)
    | with_reducible refine AWP.block ?_
    | with_reducible refine AWP.skip ?_
    | with_reducible refine AWP.exit ?_
    | with_reducible refine AWP.ret ?_
    | with_reducible refine AWP.label ?_
    | with_reducible refine AWP.goto ?_
    | ((with_reducible refine AWP.condT ?_ ?_); focus (simp only [ev, lk_cons, ↓reduceIte, Nat.reduceEqDiff]; done))
    | ((with_reducible refine AWP.condF ?_ ?_); focus (simp only [ev, lk_cons, ↓reduceIte, Nat.reduceEqDiff]; done))
    | with_reducible refine hc.use ?_
    | simp only [go_sem, ↓reduceIte, Nat.reduceEqDiff, reduceCtorEq, Nat.reduceAdd, Int.reduceEq, Int.reduceBNe, Int.reduceBEq, Int.reduceToNat, Int.reduceLT, Int.reduceLE, Int.reduceGT, Int.reduceGE, Nat.reduceSub, Nat.reduceBEq, Nat.reduceBNe, Int.reduceAdd, Int.reduceSub, Int.reduceMul, Int.reduceNeg, Nat.reduceMul, Nat.reduceLeDiff, Nat.reduceLT, g1, g0]
    | simp (disch := omega) only [wi64, wu8, wu16, wu32, wu64]
    | with_reducible_and_instances exact finR
    | ((with_reducible refine finR' ?_ ?_) <;> rfl)
    | ((with_reducible refine finD hsc (NRel.of_plain ?_)); exact rfl)
  rcases Nat.eq_zero_or_pos l.length with h0 | h0
  · have hnil : l = [] := List.eq_nil_of_length_eq_zero h0
    subst hnil
    simp only [List.length_nil, gS_zero, List.nil_append] at hl ⊢
    refine appendTo_nil (by omega) (by omega) (by omega) ?_
    repeat first
      | with_reducible refine AWP.seq ?_
      | ((with_reducible refine AWP.region ?_ ?_); exact rfl)
      | with_reducible refine AWP.block ?_
      | with_reducible refine AWP.skip ?_
      | with_reducible refine AWP.exit ?_
      | with_reducible refine AWP.ret ?_
      | with_reducible refine AWP.label ?_
      | with_reducible refine AWP.goto ?_
      | ((with_reducible refine AWP.condT ?_ ?_); focus (simp only [ev, lk_cons, ↓reduceIte, Nat.reduceEqDiff]; done))
      | ((with_reducible refine AWP.condF ?_ ?_); focus (simp only [ev, lk_cons, ↓reduceIte, Nat.reduceEqDiff]; done))
      | simp only [go_sem, ↓reduceIte, Nat.reduceEqDiff, reduceCtorEq, Nat.reduceAdd, Int.reduceEq, Int.reduceBNe, Int.reduceBEq, Int.reduceToNat, Int.reduceLT, Int.reduceLE, Int.reduceGT, Int.reduceGE, Nat.reduceSub, Nat.reduceBEq, Nat.reduceBNe, Int.reduceAdd, Int.reduceSub, Int.reduceMul, Int.reduceNeg, Nat.reduceMul, Nat.reduceLeDiff, Nat.reduceLT, g1, g0]
      | simp (disch := omega) only [wi64, wu8, wu16, wu32, wu64]
      | with_reducible_and_instances exact finR
      | ((with_reducible refine finR' ?_ ?_) <;> rfl)
      | ((with_reducible refine finD hsc (NRel.of_plain ?_)); exact rfl)
    refine ⟨_, _, .refl _ _ _, rfl, H.length + 1, ⟨⟨_, ?_, .inr rfl⟩, fun _ => ⟨by omega, ?_⟩⟩, ?_, .inr (by omega)⟩
    · rw [gS_pos (by simp)]; exact List.getElem?_set_self (by simp; omega)
    · rw [List.getElem?_set_ne (by omega), List.getElem?_append_right (by simp)]; simp [bytesC]
    · exact Frm.set (Frm.more (Frm.set (Frm.refl _ _) (.inl (by simp)))) (.inl (by simp))
  · rw [gS_pos h0]
    obtain ⟨hjb, hj⟩ := h3 h0
    have hjl := lt_of_get hj
    refine appendTo_own (cs := bytesC l) (by rw [hgetl (by simpa using hjl), List.getElem?_set_ne (Ne.symm hjb)]; exact hj) (by decide) (by rw [bytesC_length]; omega) (by omega) (by omega) (by omega) ?_
    have g3 : ∀ (x y z : AObj) (Y : AHeap), ((H.set b x ++ [y]).set j z ++ Y)[b]? = some x := fun x y z Y => by
      rw [hgetl (by simp; omega), List.getElem?_set_ne hjb, hgetl (by simpa using hbl)]; exact List.getElem?_set_self hbl
    repeat first
      | with_reducible refine AWP.seq ?_
      | ((with_reducible refine AWP.region ?_ ?_); exact rfl)
      | with_reducible refine AWP.block ?_
      | with_reducible refine AWP.skip ?_
      | with_reducible refine AWP.exit ?_
      | with_reducible refine AWP.ret ?_
      | with_reducible refine AWP.label ?_
      | with_reducible refine AWP.goto ?_
      | ((with_reducible refine AWP.condT ?_ ?_); focus (simp only [ev, lk_cons, ↓reduceIte, Nat.reduceEqDiff]; done))
      | ((with_reducible refine AWP.condF ?_ ?_); focus (simp only [ev, lk_cons, ↓reduceIte, Nat.reduceEqDiff]; done))
      | simp only [go_sem, ↓reduceIte, Nat.reduceEqDiff, reduceCtorEq, Nat.reduceAdd, Int.reduceEq, Int.reduceBNe, Int.reduceBEq, Int.reduceToNat, Int.reduceLT, Int.reduceLE, Int.reduceGT, Int.reduceGE, Nat.reduceSub, Nat.reduceBEq, Nat.reduceBNe, Int.reduceAdd, Int.reduceSub, Int.reduceMul, Int.reduceNeg, Nat.reduceMul, Nat.reduceLeDiff, Nat.reduceLT, g3]
      | simp (disch := omega) only [wi64, wu8, wu16, wu32, wu64]
      | with_reducible_and_instances exact finR
      | ((with_reducible refine finR' ?_ ?_) <;> rfl)
      | ((with_reducible refine finD hsc (NRel.of_plain ?_)); exact rfl)
    refine ⟨_, _, .refl _ _ _, rfl, H.length + 1, ⟨⟨_, ?_, .inr rfl⟩, fun _ => ⟨by omega, ?_⟩⟩, ?_, .inr (by omega)⟩
    · rw [gS_pos (by simp), List.length_append]; exact List.getElem?_set_self (by simp; omega)
    · rw [List.getElem?_set_ne (by omega), List.getElem?_append_right (by simp), ← bytesC_append]; simp [bytesC]
    · exact Frm.set (Frm.more (Frm.set (Frm.more (Frm.set (Frm.refl _ _) (.inl (by simp)))) (.inl (by simp)))) (.inl (by simp))
theorem wtext (b j : Nat) (l s : List UInt8) (hl : l.length + (BV.wText s).length ≤ 1099511627776) (H : AHeap) (hT : TabH H) (hB : Bld H b j l) :
    AC Tryd.prog 84 [.pointer (some ⟨b, 0, none⟩), .string (bs s)] H (fun r H2 => r = .ret noVal ∧ Wrote H b j (l ++ BV.wText s) H2) := by
  have hw : BV.wText s = Lib.itoa (s.length : Nat) ++ ([58] ++ s) := rfl
  have hlen : (BV.wText s).length = (Lib.itoa (s.length : Nat)).length + (1 + s.length) := by rw [hw]; simp; omega
  have hI := Itoa (s.length : Nat) (by omega) (by omega) H hT
  have hW := WriteString b j l (BV.wText s) (by omega) hl H hB
  refine AC.enter Tryd.func84 rfl (by kernel_rfl) 12 rfl [] rfl (by simp) fun hsc B => ?_
  repeat first
    | with_reducible refine AWP.seq ?_
    | ((with_reducible refine AWP.region ?_ ?_); exact rfl)
    | with_reducible refine AWP.block ?_
    | with_reducible refine AWP.skip ?_
    | with_reducible refine AWP.exit ?_
    | with_reducible refine AWP.ret ?_
    | with_reducible refine AWP.label ?_
    | with_reducible refine AWP.goto ?_
    | ((with_reducible refine AWP.condT ?_ ?_); focus (simp only [ev, lk_cons, ↓reduceIte, Nat.reduceEqDiff]; done))
    | ((with_reducible refine AWP.condF ?_ ?_); focus (simp only [ev, lk_cons, ↓reduceIte, Nat.reduceEqDiff]; done))
    | with_reducible refine hI.use ?_
    | simp only [go_sem, ↓reduceIte, Nat.reduceEqDiff, reduceCtorEq, Nat.reduceAdd, Int.reduceEq, Int.reduceBNe, Int.reduceBEq, Int.reduceToNat, Int.reduceLT, Int.reduceLE, Int.reduceGT, Int.reduceGE, Nat.reduceSub, Nat.reduceBEq, Nat.reduceBNe, Int.reduceAdd, Int.reduceSub, Int.reduceMul, Int.reduceNeg, Nat.reduceMul, Nat.reduceLeDiff, Nat.reduceLT]
    | simp (disch := omega) only [wi64, wu8, wu16, wu32, wu64]
    | with_reducible_and_instances exact finR
    | ((with_reducible refine finR' ?_ ?_) <;> rfl)
    | ((with_reducible refine finD hsc (NRel.of_plain ?_)); exact rfl)
  refine ⟨by omega, by omega, AC.mono hW ?_⟩
  rintro r H2 ⟨rfl, h⟩
  repeat first
    | with_reducible refine AWP.seq ?_
    | ((with_reducible refine AWP.region ?_ ?_); exact rfl)
    | with_reducible refine AWP.block ?_
    | with_reducible refine AWP.skip ?_
    | with_reducible refine AWP.exit ?_
    | with_reducible refine AWP.ret ?_
    | with_reducible refine AWP.label ?_
    | with_reducible refine AWP.goto ?_
    | ((with_reducible refine AWP.condT ?_ ?_); focus (simp only [ev, lk_cons, ↓reduceIte, Nat.reduceEqDiff]; done))
    | ((with_reducible refine AWP.condF ?_ ?_); focus (simp only [ev, lk_cons, ↓reduceIte, Nat.reduceEqDiff]; done))
    | simp only [go_sem, ↓reduceIte, Nat.reduceEqDiff, reduceCtorEq, Nat.reduceAdd, Int.reduceEq, Int.reduceBNe, Int.reduceBEq, Int.reduceToNat, Int.reduceLT, Int.reduceLE, Int.reduceGT, Int.reduceGE, Nat.reduceSub, Nat.reduceBEq, Nat.reduceBNe, Int.reduceAdd, Int.reduceSub, Int.reduceMul, Int.reduceNeg, Nat.reduceMul, Nat.reduceLeDiff, Nat.reduceLT]
    | simp (disch := omega) only [wi64, wu8, wu16, wu32, wu64]
    | with_reducible_and_instances exact finR
    | ((with_reducible refine finR' ?_ ?_) <;> rfl)
    | ((with_reducible refine finD hsc (NRel.of_plain ?_)); exact rfl)
  exact ⟨_, _, .refl _ _ _, rfl, h⟩
end Go.Proofs.YthcdjconlfdidaaDoor

