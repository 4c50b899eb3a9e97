/-
  A part of the proof of a statement of this seat.
-/
import Derived.Test.YthcdjconlfdidaaDoorDCM
import Derived.Test.YthcdjconlfdidaaDoorAwC
import Derived.Test.YthcdjconlfdidaaDoorAwB
set_option linter.unusedVariables false
set_option linter.unusedSimpArgs false
set_option maxRecDepth 20000
namespace Go.Proofs.YthcdjconlfdidaaDoor
open Go Go.Aw Go.Proofs Go.Shelf
/-- At b there is a builder that holds l, its row at j. -/
def Bld (H : AHeap) (b j : Nat) (l : List UInt8) : Prop :=
 (∃ p, H[b]? = some (.cells [p, gS j l.length] ⟨91, 0, true, 0, none⟩) ∧ (p = .pointer none ∨ p = .pointer (some ⟨b, 0, none⟩))) ∧ (0 < l.length → j ≠ b ∧ H[j]? = some (.cells (bytesC l) ⟨5, 1, true, 0, none⟩))
theorem Bld.more {H : AHeap} {b j : Nat} {l : List UInt8} (h : Bld H b j l) (X : AHeap) : Bld (H ++ X) b j l := by
 obtain ⟨⟨p, h1, h2⟩, h3⟩ := h
 exact ⟨⟨p, by rw [hgetl (lt_of_get h1)]; exact h1, h2⟩, fun h => ⟨(h3 h).1, by rw [hgetl (lt_of_get (h3 h).2)]; exact (h3 h).2⟩⟩
theorem Bld.lt {H : AHeap} {b j : Nat} {l : List UInt8} (h : Bld H b j l) : b < H.length := by
 obtain ⟨⟨p, h1, h2⟩, h3⟩ := h
 exact lt_of_get h1
theorem lays240 : Lays.n240 Tryd.prog Tryd.laysCheck_ren := Tryd.laysCheck
theorem x72 : Builder.X72 Tryd.prog Tryd.laysCheck_ren := { sizeBuilder := by kernel_rfl, liesBuilder := by kernel_rfl }
theorem copyCheck {i : Nat} {p sl : Value} {H : AHeap} (hi : H[i]? = some (.cells [p, sl] ⟨91, 0, true, 0, none⟩)) (hp : p = .pointer none ∨ p = .pointer (some ⟨i, 0, none⟩)) :
  ARet Tryd.prog 100 [.pointer (some ⟨i, 0, none⟩)] H noVal (H.set i (.cells [.pointer (some ⟨i, 0, none⟩), sl] ⟨91, 0, true, 0, none⟩)) :=
 ARet.copyCheck lays240 x72 (by kernel_rfl) (by kernel_rfl) hi hp
theorem WriteString (b j : Nat) (l s : List UInt8) (hs : 0 < s.length) (hl : l.length + s.length ≤ 1099511627776) (H : AHeap) (hB : Bld H b j l) :
  AC Tryd.prog 82 [.pointer (some ⟨b, 0, none⟩), .string (bs s)] H (fun r H2 => r = .ret (.tuple ⟨[.int .i64 (s.length : Nat), .nilIface]⟩) ∧ ∃ j2, Bld H2 b j2 (l ++ s) ∧ Frm [b, j] H H2 ∧ (j2 = j ∨ H.length ≤ j2)) := by
 obtain ⟨⟨p, h1, h2⟩, h3⟩ := hB
 have hbl := lt_of_get h1
 have hc := copyCheck h1 h2
 have g1 : ∀ x, (H.set b x)[b]? = some x := fun x => List.getElem?_set_self hbl
 refine AC.enter Tryd.func82 rfl (by kernel_rfl) 19 rfl [.tmp 4, .tmp 5] rfl (by simp) fun hsc B => ?_
 repeat first | with_reducible refine AWP.ctl (by constructor) ?_ | ((with_reducible (first | refine AWP.region ?_ ?_ | refine AWP.condT ?_ ?_)); exact rfl) | ((with_reducible refine AWP.condF ?_ ?_); exact rfl) | with_reducible refine hc.use ?_ | simp only [go_sem, sevalprocAttr, reduceCtorEq, g1] | simp (disch := omega) only [wz]
 rcases Nat.eq_zero_or_pos l.length with h0 | h0
 ·have hnil : l = [] := List.eq_nil_of_length_eq_zero h0
  subst hnil
  simp only [List.length_nil, gS_zero, List.nil_append] at hl ⊢
  have g2 : ∀ x Y, (H.set b x ++ Y)[b]? = some x := fun x Y => by rw [hgetl (by simpa using hbl)]; exact List.getElem?_set_self hbl
  have s2 : ∀ x y Y, (H.set b x ++ Y).set b y = H.set b y ++ Y := fun x y Y => by rw [List.set_append_left _ _ (by simpa using hbl), List.set_set]
  refine ⟨bytesC_flat _, appendTo_nil (by omega) (by omega) (by omega) ?_⟩
  repeat first | with_reducible refine AWP.ctl (by constructor) ?_ | ((with_reducible (first | refine AWP.region ?_ ?_ | refine AWP.condT ?_ ?_)); exact rfl) | ((with_reducible refine AWP.condF ?_ ?_); exact rfl) | simp only [go_sem, sevalprocAttr, reduceCtorEq, g2, s2] | simp (disch := omega) only [wz]
  refine ⟨_, _, .refl _ _ _, rfl, H.length, ⟨⟨_, ?_, .inr rfl⟩, fun _ => ⟨by omega, ?_⟩⟩, ?_, .inr (Nat.le_refl _)⟩
  ·rw [gS_pos hs]; exact g2 _ _
  ·rw [List.getElem?_append_right (by simp)]; simp
  ·exact Frm.more (Frm.set (Frm.refl _ _) (.inl (by simp)))
 ·rw [gS_pos h0]
  obtain ⟨hjb, hj⟩ := h3 h0
  have hjl := lt_of_get hj
  have g2 : ∀ x y Y, ((H.set b x).set j y ++ Y)[b]? = some x := fun x y Y => by rw [hgetl (by simpa using hbl), List.getElem?_set_ne hjb]; exact List.getElem?_set_self hbl
  have s2 : ∀ x y z Y, ((H.set b x).set j y ++ Y).set b z = (H.set b z).set j y ++ Y := fun x y z Y => by rw [List.set_append_left _ _ (by simpa using hbl), List.set_comm _ _ hjb, List.set_set]
  refine ⟨bytesC_flat _, appendTo_own (cs := bytesC l) (by rw [List.getElem?_set_ne (Ne.symm hjb)]; exact hj) (by decide) (by rw [bytesC_length]; omega) (by omega) (by omega) (by omega) ?_⟩
  repeat first | with_reducible refine AWP.ctl (by constructor) ?_ | ((with_reducible (first | refine AWP.region ?_ ?_ | refine AWP.condT ?_ ?_)); exact rfl) | ((with_reducible refine AWP.condF ?_ ?_); exact rfl) | simp only [go_sem, sevalprocAttr, reduceCtorEq, g2, s2] | simp (disch := omega) only [wz]
  refine ⟨_, _, .refl _ _ _, rfl, H.length, ⟨⟨_, ?_, .inr rfl⟩, fun _ => ⟨by omega, ?_⟩⟩, ?_, .inr (Nat.le_refl _)⟩
  ·rw [gS_pos (by rw [List.length_append]; omega), List.length_append]; exact g2 _ _ _
  ·rw [List.getElem?_append_right (by simp)]; simp
  ·exact Frm.more (Frm.set (Frm.set (Frm.refl _ _) (.inl (by simp))) (.inl (by simp)))
theorem BString (b j : Nat) (l : List UInt8) (hl : 0 < l.length) (hl2 : l.length ≤ 1099511627776) (H : AHeap) (hB : Bld H b j l) : ARet Tryd.prog 64 [.pointer (some ⟨b, 0, none⟩)] H (.string (bs l)) (H.set j .dead) := by
 obtain ⟨⟨p, h1, h2⟩, h3⟩ := hB
 rw [gS_pos hl] at h1
 obtain ⟨hjb, hj⟩ := h3 hl
 have hp57 : Tryd.prog.underlying 113 = some (.pointer 5) := Tryd.underlying113
 have hc5 : Tryd.prog.cellsOf 5 = 1 := by kernel_rfl
 have htk : List.take l.length (bytesC l) = bytesC l := List.take_of_length_le (by rw [bytesC_length]; omega)
 have hne : l.length ≠ 0 := by omega
 have hz : ((l.length : Nat) : Int) > 0 := by omega
 refine AC.enter Tryd.func64 rfl (by kernel_rfl) 14 rfl [.tmp 2] rfl (by simp) fun hsc B => ?_
 repeat first | with_reducible refine AWP.ctl (by constructor) ?_ | ((with_reducible (first | refine AWP.region ?_ ?_ | refine AWP.condT ?_ ?_)); exact rfl) | ((with_reducible refine AWP.condF ?_ ?_); exact rfl) | simp only [go_sem, sevalprocAttr, reduceCtorEq] | simp (disch := omega) only [wz] | with_reducible_and_instances exact finR | ((with_reducible refine finR' ?_ ?_) <;> rfl) | ((with_reducible refine finD hsc (NRel.of_plain ?_)); exact rfl)
 refine AWP.regionK 10 (by kernel_rfl) (by decide) (by kernel_rfl) ?_
 repeat first | with_reducible refine AWP.ctl (by constructor) ?_ | ((with_reducible (first | refine AWP.region ?_ ?_ | refine AWP.condT ?_ ?_)); exact rfl) | ((with_reducible refine AWP.condF ?_ ?_); exact rfl) | simp only [go_sem, sevalprocAttr, reduceCtorEq, h1, hj, hp57, hc5, htk, hne] | simp (disch := omega) only [wz] | with_reducible_and_instances exact finR | ((with_reducible refine finR' ?_ ?_) <;> rfl) | ((with_reducible refine finD hsc (NRel.of_plain ?_)); exact rfl)
 refine ⟨by omega, by omega, ?_⟩
 repeat first | with_reducible refine AWP.ctl (by constructor) ?_ | ((with_reducible (first | refine AWP.region ?_ ?_ | refine AWP.condT ?_ ?_)); exact rfl) | ((with_reducible refine AWP.condF ?_ ?_); exact rfl) | simp only [go_sem, sevalprocAttr, reduceCtorEq] | simp (disch := omega) only [wz] | with_reducible_and_instances exact finR | ((with_reducible refine finR' ?_ ?_) <;> rfl) | ((with_reducible refine finD hsc (NRel.of_plain ?_)); exact rfl)
end Go.Proofs.YthcdjconlfdidaaDoor


set_option linter.unusedVariables false
set_option linter.unusedSimpArgs false
set_option maxHeartbeats 4000000
set_option maxRecDepth 20000
namespace Go.Proofs.YthcdjconlfdidaaDoor
open Go Go.Aw Go.Proofs Go.Shelf
/-- A builder that held l at b, its row at j, now holds l2. -/
def Wrote (H : AHeap) (b j : Nat) (l2 : List UInt8) (H2 : AHeap) : Prop := ∃ j2, Bld H2 b j2 l2 ∧ Frm [b, j] H H2 ∧ (j2 = j ∨ H.length ≤ j2)
theorem WriteByte (b j : Nat) (l : List UInt8) (c : UInt8) (hl : l.length + 1 ≤ 1099511627776) (H : AHeap) (hB : Bld H b j l) :
  AC Tryd.prog 86 [.pointer (some ⟨b, 0, none⟩), .int .u8 c.toNat] H (fun r H2 => r = .ret .nilIface ∧ Wrote H b j (l ++ [c]) H2) := by
 obtain ⟨⟨p, h1, h2⟩, h3⟩ := hB
 have hbl := lt_of_get h1
 have hc := copyCheck h1 h2
 have g1 : ∀ x Y, (H.set b x ++ Y)[b]? = some x := fun x Y => by rw [hgetl (by simpa using hbl)]; exact List.getElem?_set_self hbl
 have g0 : ∀ x, (H.set b x)[b]? = some x := fun x => List.getElem?_set_self hbl
 refine AC.enter Tryd.func86 rfl (by kernel_rfl) 17 rfl [.tmp 4] rfl (by simp) fun hsc B => ?_
 repeat first | with_reducible refine AWP.ctl (by constructor) ?_ | ((with_reducible (first | refine AWP.region ?_ ?_ | refine AWP.condT ?_ ?_)); exact rfl) | ((with_reducible refine AWP.condF ?_ ?_); exact rfl) | with_reducible refine hc.use ?_ | simp only [go_sem, sevalprocAttr, reduceCtorEq, g1, g0] | simp (disch := omega) only [wz]
 rcases Nat.eq_zero_or_pos l.length with h0 | h0
 ·have hnil : l = [] := List.eq_nil_of_length_eq_zero h0
  subst hnil
  simp only [List.length_nil, gS_zero, List.nil_append] at hl ⊢
  refine appendTo_nil (by omega) (by omega) (by omega) ?_
  repeat first | with_reducible refine AWP.ctl (by constructor) ?_ | ((with_reducible (first | refine AWP.region ?_ ?_ | refine AWP.condT ?_ ?_)); exact rfl) | ((with_reducible refine AWP.condF ?_ ?_); exact rfl) | simp only [go_sem, sevalprocAttr, reduceCtorEq, g1, g0] | simp (disch := omega) only [wz]
  refine ⟨_, _, .refl _ _ _, rfl, H.length + 1, ⟨⟨_, ?_, .inr rfl⟩, fun _ => ⟨by omega, ?_⟩⟩, ?_, .inr (by omega)⟩
  ·rw [gS_pos (by simp)]; exact List.getElem?_set_self (by simp; omega)
  ·rw [List.getElem?_set_ne (by omega), List.getElem?_append_right (by simp)]; simp [bytesC]
  ·exact Frm.set (Frm.more (Frm.set (Frm.refl _ _) (.inl (by simp)))) (.inl (by simp))
 ·rw [gS_pos h0]
  obtain ⟨hjb, hj⟩ := h3 h0
  have hjl := lt_of_get hj
  refine appendTo_own (cs := bytesC l) (by rw [hgetl (by simpa using hjl), List.getElem?_set_ne (Ne.symm hjb)]; exact hj) (by decide) (by rw [bytesC_length]; omega) (by omega) (by omega) (by omega) ?_
  have g3 : ∀ (x y z : AObj) (Y : AHeap), ((H.set b x ++ [y]).set j z ++ Y)[b]? = some x := fun x y z Y => by
   rw [hgetl (by simp; omega), List.getElem?_set_ne hjb, hgetl (by simpa using hbl)]; exact List.getElem?_set_self hbl
  repeat first | with_reducible refine AWP.ctl (by constructor) ?_ | ((with_reducible (first | refine AWP.region ?_ ?_ | refine AWP.condT ?_ ?_)); exact rfl) | ((with_reducible refine AWP.condF ?_ ?_); exact rfl) | simp only [go_sem, sevalprocAttr, reduceCtorEq, g3] | simp (disch := omega) only [wz]
  refine ⟨_, _, .refl _ _ _, rfl, H.length + 1, ⟨⟨_, ?_, .inr rfl⟩, fun _ => ⟨by omega, ?_⟩⟩, ?_, .inr (by omega)⟩
  ·rw [gS_pos (by simp), List.length_append]; exact List.getElem?_set_self (by simp; omega)
  ·rw [List.getElem?_set_ne (by omega), List.getElem?_append_right (by simp), ← bytesC_append]; simp [bytesC]
  ·exact Frm.set (Frm.more (Frm.set (Frm.more (Frm.set (Frm.refl _ _) (.inl (by simp)))) (.inl (by simp)))) (.inl (by simp))
theorem wtext (b j : Nat) (l s : List UInt8) (hl : l.length + (BV.wText s).length ≤ 1099511627776) (H : AHeap) (hT : TabH H) (hB : Bld H b j l) :
  AC Tryd.prog 84 [.pointer (some ⟨b, 0, none⟩), .string (bs s)] H (fun r H2 => r = .ret noVal ∧ Wrote H b j (l ++ BV.wText s) H2) := by
 have hw : BV.wText s = Lib.itoa (s.length : Nat) ++ ([58] ++ s) := rfl
 have hlen : (BV.wText s).length = (Lib.itoa (s.length : Nat)).length + (1 + s.length) := by rw [hw]; simp; omega
 have hI := Itoa (s.length : Nat) (by omega) (by omega) H hT
 have hW := WriteString b j l (BV.wText s) (by omega) hl H hB
 refine AC.enter Tryd.func84 rfl (by kernel_rfl) 12 rfl [] rfl (by simp) fun hsc B => ?_
 repeat first | with_reducible refine AWP.ctl (by constructor) ?_ | ((with_reducible (first | refine AWP.region ?_ ?_ | refine AWP.condT ?_ ?_)); exact rfl) | ((with_reducible refine AWP.condF ?_ ?_); exact rfl) | with_reducible refine hI.use ?_ | simp only [go_sem, sevalprocAttr, reduceCtorEq] | simp (disch := omega) only [wz]
 refine ⟨by omega, by omega, AC.mono hW ?_⟩
 rintro r H2 ⟨rfl, h⟩
 repeat first | with_reducible refine AWP.ctl (by constructor) ?_ | ((with_reducible (first | refine AWP.region ?_ ?_ | refine AWP.condT ?_ ?_)); exact rfl) | ((with_reducible refine AWP.condF ?_ ?_); exact rfl) | simp only [go_sem, sevalprocAttr, reduceCtorEq] | simp (disch := omega) only [wz]
 exact ⟨_, _, .refl _ _ _, rfl, h⟩
end Go.Proofs.YthcdjconlfdidaaDoor

