/-
  Text builders, as a call uses one of its own.
-/
import Derived.Test.YthcdjconlfdidaaDoorDE
import Derived.Test.YthcdjconlfdidaaDoorAwC
import Derived.Test.YthcdjconlfdidaaDoorAwB
set_option linter.unusedVariables false
set_option linter.unusedSimpArgs false
set_option maxRecDepth 20000
namespace Go.Proofs.YthcdjconlfdidaaDoor
open Go Go.Aw Go.Proofs Go.Shelf
/-- At b there is a builder that holds l, its row at j. -/
def Bld (H : AHeap) (b j : Nat) (l : List UInt8) : Prop :=
  (∃ p, H[b]? = some (.cells [p, gS j l.length] ⟨91, 0, true, 0, none⟩) ∧ (p = .pointer none ∨ p = .pointer (some ⟨b, 0, none⟩))) ∧ (0 < l.length → j ≠ b ∧ H[j]? = some (.cells (bytesC l) ⟨5, 1, true, 0, none⟩))
theorem Bld.more {H : AHeap} {b j : Nat} {l : List UInt8} (h : Bld H b j l) (X : AHeap) : Bld (H ++ X) b j l := by
  obtain ⟨⟨p, h1, h2⟩, h3⟩ := h
  exact ⟨⟨p, by rw [hgetl (lt_of_get h1)]; exact h1, h2⟩, fun h => ⟨(h3 h).1, by rw [hgetl (lt_of_get (h3 h).2)]; exact (h3 h).2⟩⟩
theorem Bld.lt {H : AHeap} {b j : Nat} {l : List UInt8} (h : Bld H b j l) : b < H.length := by
  obtain ⟨⟨p, h1, h2⟩, h3⟩ := h
  exact lt_of_get h1
theorem lays240 : Lays.n240 Tryd.prog Tryd.laysCheck_ren := Tryd.laysCheck
theorem x72 : Builder.X72 Tryd.prog Tryd.laysCheck_ren := { sizeBuilder := by kernel_rfl, liesBuilder := by kernel_rfl }
theorem copyCheck {i : Nat} {p sl : Value} {H : AHeap} (hi : H[i]? = some (.cells [p, sl] ⟨91, 0, true, 0, none⟩)) (hp : p = .pointer none ∨ p = .pointer (some ⟨i, 0, none⟩)) :
    ARet Tryd.prog 100 [.pointer (some ⟨i, 0, none⟩)] H noVal (H.set i (.cells [.pointer (some ⟨i, 0, none⟩), sl] ⟨91, 0, true, 0, none⟩)) :=
  ARet.copyCheck lays240 x72 (by kernel_rfl) (by kernel_rfl) hi hp
theorem WriteString (b j : Nat) (l s : List UInt8) (hs : 0 < s.length) (hl : l.length + s.length ≤ 1099511627776) (H : AHeap) (hB : Bld H b j l) :
    AC Tryd.prog 82 [.pointer (some ⟨b, 0, none⟩), .string (bs s)] H (fun r H2 => r = .ret (.tuple ⟨[.int .i64 (s.length : Nat), .nilIface]⟩) ∧ ∃ j2, Bld H2 b j2 (l ++ s) ∧ Frm [b, j] H H2 ∧ (j2 = j ∨ H.length ≤ j2)) := by
  obtain ⟨⟨p, h1, h2⟩, h3⟩ := hB
  have hbl := lt_of_get h1
  have hc := copyCheck h1 h2
  have g1 : ∀ x, (H.set b x)[b]? = some x := fun x => List.getElem?_set_self hbl
  refine AC.enter Tryd.func82 rfl (by kernel_rfl) 19 rfl [.tmp 4, .tmp 5] rfl (by simp) fun hsc B => ?_
  repeat first
    | with_reducible refine AWP.seq ?_
    | ((with_reducible refine AWP.region ?_ ?_); exact rfl)
    | with_reducible refine AWP.block ?_
    | with_reducible refine AWP.skip ?_
    | with_reducible refine AWP.exit ?_
    | with_reducible refine AWP.ret ?_
    | with_reducible refine AWP.label ?_
    | with_reducible refine AWP.goto ?_
    | ((with_reducible refine AWP.condT ?_ ?_); focus (simp only [ev, lk_cons, ↓reduceIte, Nat.reduceEqDiff]; done))
    | ((with_reducible refine AWP.condF ?_ ?_); focus (simp only [ev, lk_cons, ↓reduceIte, Nat.reduceEqDiff]; done))
    | with_reducible refine hc.use ?_
    | simp only [go_sem, ↓reduceIte, Nat.reduceEqDiff, reduceCtorEq, Nat.reduceAdd, Int.reduceEq, Int.reduceBNe, Int.reduceBEq, Int.reduceToNat, Int.reduceLT, Int.reduceLE, Int.reduceGT, Int.reduceGE, Nat.reduceSub, Nat.reduceBEq, Nat.reduceBNe, Int.reduceAdd, Int.reduceSub, Int.reduceMul, Int.reduceNeg, Nat.reduceMul, Nat.reduceLeDiff, Nat.reduceLT, g1]
    | simp (disch := omega) only [wi64, wu8, wu16, wu32, wu64]
    | with_reducible_and_instances exact finR
    | ((with_reducible refine finR' ?_ ?_) <;> rfl)
    | ((with_reducible refine finD hsc (NRel.of_plain ?_)); exact rfl)
  rcases Nat.eq_zero_or_pos l.length with h0 | h0
  · have hnil : l = [] := List.eq_nil_of_length_eq_zero h0
    subst hnil
    simp only [List.length_nil, gS_zero, List.nil_append] at hl ⊢
    have g2 : ∀ x Y, (H.set b x ++ Y)[b]? = some x := fun x Y => by rw [hgetl (by simpa using hbl)]; exact List.getElem?_set_self hbl
    have s2 : ∀ x y Y, (H.set b x ++ Y).set b y = H.set b y ++ Y := fun x y Y => by rw [List.set_append_left _ _ (by simpa using hbl), List.set_set]
    refine ⟨bytesC_flat _, appendTo_nil (by omega) (by omega) (by omega) ?_⟩
    repeat first
      | with_reducible refine AWP.seq ?_
      | ((with_reducible refine AWP.region ?_ ?_); exact rfl)
      | with_reducible refine AWP.block ?_
      | with_reducible refine AWP.skip ?_
      | with_reducible refine AWP.exit ?_
      | with_reducible refine AWP.ret ?_
      | with_reducible refine AWP.label ?_
      | with_reducible refine AWP.goto ?_
      | ((with_reducible refine AWP.condT ?_ ?_); focus (simp only [ev, lk_cons, ↓reduceIte, Nat.reduceEqDiff]; done))
      | ((with_reducible refine AWP.condF ?_ ?_); focus (simp only [ev, lk_cons, ↓reduceIte, Nat.reduceEqDiff]; done))
      | simp only [go_sem, ↓reduceIte, Nat.reduceEqDiff, reduceCtorEq, Nat.reduceAdd, Int.reduceEq, Int.reduceBNe, Int.reduceBEq, Int.reduceToNat, Int.reduceLT, Int.reduceLE, Int.reduceGT, Int.reduceGE, Nat.reduceSub, Nat.reduceBEq, Nat.reduceBNe, Int.reduceAdd, Int.reduceSub, Int.reduceMul, Int.reduceNeg, Nat.reduceMul, Nat.reduceLeDiff, Nat.reduceLT, g2, s2]
      | simp (disch := omega) only [wi64, wu8, wu16, wu32, wu64]
      | with_reducible_and_instances exact finR
      | ((with_reducible refine finR' ?_ ?_) <;> rfl)
      | ((with_reducible refine finD hsc (NRel.of_plain ?_)); exact rfl)
    refine ⟨_, _, .refl _ _ _, rfl, H.length, ⟨⟨_, ?_, .inr rfl⟩, fun _ => ⟨by omega, ?_⟩⟩, ?_, .inr (Nat.le_refl _)⟩
    · rw [gS_pos hs]; exact g2 _ _
    · rw [List.getElem?_append_right (by simp)]; simp
    · exact Frm.more (Frm.set (Frm.refl _ _) (.inl (by simp)))
  · rw [gS_pos h0]
    obtain ⟨hjb, hj⟩ := h3 h0
    have hjl := lt_of_get hj
    have g2 : ∀ x y Y, ((H.set b x).set j y ++ Y)[b]? = some x := fun x y Y => by rw [hgetl (by simpa using hbl), List.getElem?_set_ne hjb]; exact List.getElem?_set_self hbl
    have s2 : ∀ x y z Y, ((H.set b x).set j y ++ Y).set b z = (H.set b z).set j y ++ Y := fun x y z Y => by rw [List.set_append_left _ _ (by simpa using hbl), List.set_comm _ _ hjb, List.set_set]
    refine ⟨bytesC_flat _, appendTo_own (cs := bytesC l) (by rw [List.getElem?_set_ne (Ne.symm hjb)]; exact hj) (by decide) (by rw [bytesC_length]; omega) (by omega) (by omega) (by omega) ?_⟩
    repeat first
      | with_reducible refine AWP.seq ?_
      | ((with_reducible refine AWP.region ?_ ?_); exact rfl)
      | with_reducible refine AWP.block ?_
      | with_reducible refine AWP.skip ?_
      | with_reducible refine AWP.exit ?_
      | with_reducible refine AWP.ret ?_
      | with_reducible refine AWP.label ?_
      | with_reducible refine AWP.goto ?_
      | ((with_reducible refine AWP.condT ?_ ?_); focus (simp only [ev, lk_cons, ↓reduceIte, Nat.reduceEqDiff]; done))
      | ((with_reducible refine AWP.condF ?_ ?_); focus (simp only [ev, lk_cons, ↓reduceIte, Nat.reduceEqDiff]; done))
      | simp only [go_sem, ↓reduceIte, Nat.reduceEqDiff, reduceCtorEq, Nat.reduceAdd, Int.reduceEq, Int.reduceBNe, Int.reduceBEq, Int.reduceToNat, Int.reduceLT, Int.reduceLE, Int.reduceGT, Int.reduceGE, Nat.reduceSub, Nat.reduceBEq, Nat.reduceBNe, Int.reduceAdd, Int.reduceSub, Int.reduceMul, Int.reduceNeg, Nat.reduceMul, Nat.reduceLeDiff, Nat.reduceLT, g2, s2]
      | simp (disch := omega) only [wi64, wu8, wu16, wu32, wu64]
      | with_reducible_and_instances exact finR
      | ((with_reducible refine finR' ?_ ?_) <;> rfl)
      | ((with_reducible refine finD hsc (NRel.of_plain ?_)); exact rfl)
    refine ⟨_, _, .refl _ _ _, rfl, H.length, ⟨⟨_, ?_, .inr rfl⟩, fun _ => ⟨by omega, ?_⟩⟩, ?_, .inr (Nat.le_refl _)⟩
    · rw [gS_pos (by rw [List.length_append]; omega), List.length_append]; exact g2 _ _ _
    · rw [List.getElem?_append_right (by simp)]; simp
    · exact Frm.more (Frm.set (Frm.set (Frm.refl _ _) (.inl (by simp))) (.inl (by simp)))
theorem BString (b j : Nat) (l : List UInt8) (hl : 0 < l.length) (hl2 : l.length ≤ 1099511627776) (H : AHeap) (hB : Bld H b j l) : ARet Tryd.prog 64 [.pointer (some ⟨b, 0, none⟩)] H (.string (bs l)) (H.set j .dead) := by
  obtain ⟨⟨p, h1, h2⟩, h3⟩ := hB
  rw [gS_pos hl] at h1
  obtain ⟨hjb, hj⟩ := h3 hl
  have hp57 : Tryd.prog.underlying 113 = some (.pointer 5) := Tryd.underlying113
  have hc5 : Tryd.prog.cellsOf 5 = 1 := by kernel_rfl
  have htk : List.take l.length (bytesC l) = bytesC l := List.take_of_length_le (by rw [bytesC_length]; omega)
  have hne : l.length ≠ 0 := by omega
  have hz : ((l.length : Nat) : Int) > 0 := by omega
  refine AC.enter Tryd.func64 rfl (by kernel_rfl) 14 rfl [.tmp 2] rfl (by simp) fun hsc B => ?_
  repeat first
    | with_reducible refine AWP.seq ?_
    | ((with_reducible refine AWP.region ?_ ?_); exact rfl)
    | with_reducible refine AWP.block ?_
    | with_reducible refine AWP.skip ?_
    | with_reducible refine AWP.exit ?_
    | with_reducible refine AWP.ret ?_
    | with_reducible refine AWP.label ?_
    | with_reducible refine AWP.goto ?_
    | ((with_reducible refine AWP.condT ?_ ?_); focus (simp only [ev, lk_cons, ↓reduceIte, Nat.reduceEqDiff]; done))
    | ((with_reducible refine AWP.condF ?_ ?_); focus (simp only [ev, lk_cons, ↓reduceIte, Nat.reduceEqDiff]; done))
    | simp only [go_sem, ↓reduceIte, Nat.reduceEqDiff, reduceCtorEq, Nat.reduceAdd, Int.reduceEq, Int.reduceBNe, Int.reduceBEq, Int.reduceToNat, Int.reduceLT, Int.reduceLE, Int.reduceGT, Int.reduceGE, Nat.reduceSub, Nat.reduceBEq, Nat.reduceBNe, Int.reduceAdd, Int.reduceSub, Int.reduceMul, Int.reduceNeg, Nat.reduceMul, Nat.reduceLeDiff, Nat.reduceLT]
    | simp (disch := omega) only [wi64, wu8, wu16, wu32, wu64]
    | with_reducible_and_instances exact finR
    | ((with_reducible refine finR' ?_ ?_) <;> rfl)
    | ((with_reducible refine finD hsc (NRel.of_plain ?_)); exact rfl)
  refine AWP.regionK 10 (by kernel_rfl) (by decide) (by kernel_rfl) ?_
  repeat first
    | with_reducible refine AWP.seq ?_
    | ((with_reducible refine AWP.region ?_ ?_); exact rfl)
    | with_reducible refine AWP.block ?_
    | with_reducible refine AWP.skip ?_
    | with_reducible refine AWP.exit ?_
    | with_reducible refine AWP.ret ?_
    | with_reducible refine AWP.label ?_
    | with_reducible refine AWP.goto ?_
    | ((with_reducible refine AWP.condT ?_ ?_); focus (simp only [ev, lk_cons, ↓reduceIte, Nat.reduceEqDiff]; done))
    | ((with_reducible refine AWP.condF ?_ ?_); focus (simp only [ev, lk_cons, ↓reduceIte, Nat.reduceEqDiff]; done))
    | simp only [go_sem, ↓reduceIte, Nat.reduceEqDiff, reduceCtorEq, Nat.reduceAdd, Int.reduceEq, Int.reduceBNe, Int.reduceBEq, Int.reduceToNat, Int.reduceLT, Int.reduceLE, Int.reduceGT, Int.reduceGE, Nat.reduceSub, Nat.reduceBEq, Nat.reduceBNe, Int.reduceAdd, Int.reduceSub, Int.reduceMul, Int.reduceNeg, Nat.reduceMul, Nat.reduceLeDiff, Nat.reduceLT, h1, hj, hp57, hc5, htk, hne]
    | simp (disch := omega) only [wi64, wu8, wu16, wu32, wu64]
    | with_reducible_and_instances exact finR
    | ((with_reducible refine finR' ?_ ?_) <;> rfl)
    | ((with_reducible refine finD hsc (NRel.of_plain ?_)); exact rfl)
  refine ⟨by omega, by omega, ?_⟩
  repeat first
    | with_reducible refine AWP.seq ?_
    | ((with_reducible refine AWP.region ?_ ?_); exact rfl)
    | with_reducible refine AWP.block ?_
    | with_reducible refine AWP.skip ?_
    | with_reducible refine AWP.exit ?_
    | with_reducible refine AWP.ret ?_
    | with_reducible refine AWP.label ?_
    | with_reducible refine AWP.goto ?_
    | ((with_reducible refine AWP.condT ?_ ?_); focus (simp only [ev, lk_cons, ↓reduceIte, Nat.reduceEqDiff]; done))
    | ((with_reducible refine AWP.condF ?_ ?_); focus (simp only [ev, lk_cons, ↓reduceIte, Nat.reduceEqDiff]; done))
    | simp only [go_sem, ↓reduceIte, Nat.reduceEqDiff, reduceCtorEq, Nat.reduceAdd, Int.reduceEq, Int.reduceBNe, Int.reduceBEq, Int.reduceToNat, Int.reduceLT, Int.reduceLE, Int.reduceGT, Int.reduceGE, Nat.reduceSub, Nat.reduceBEq, Nat.reduceBNe, Int.reduceAdd, Int.reduceSub, Int.reduceMul, Int.reduceNeg, Nat.reduceMul, Nat.reduceLeDiff, Nat.reduceLT]
    | simp (disch := omega) only [wi64, wu8, wu16, wu32, wu64]
    | with_reducible_and_instances exact finR
    | ((with_reducible refine finR' ?_ ?_) <;> rfl)
    | ((with_reducible refine finD hsc (NRel.of_plain ?_)); exact rfl)
end Go.Proofs.YthcdjconlfdidaaDoor

