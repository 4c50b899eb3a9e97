/-
  The walk of the reader of bencoded values: Parse.
-/
import Derived.Test.YthcdjconlfdidaaDoorD9
set_option linter.unusedVariables false
set_option linter.unusedSimpArgs false
set_option maxHeartbeats 4000000
set_option maxRecDepth 20000
namespace Go.Proofs.YthcdjconlfdidaaDoor
open Go Go.Aw Go.Proofs
def ParseP (H : AHeap) (R : BV × Int) (res : ARes) (H1 : AHeap) : Prop :=
  ∃ cs, res = .ret (.tuple ⟨[.agg ⟨cs⟩, .int .i64 R.2]⟩) ∧ Frm [] H H1 ∧ RdV H1 R.1 cs
theorem parse (s : List UInt8) (H : AHeap) : AC Tryd.prog 11 [.string (bs s)] H (ParseP H (parseR s)) := by
  have hR : parseR s = if (readR s).2.2.2 ≠ 0 then (.zero, (readR s).2.2.2) else if (readR s).2.1 < s.length then (.zero, 2) else ((readR s).1, 0) := rfl
  rw [hR]
  generalize hr : readR s = R
  obtain ⟨v, u, b, e⟩ := R
  dsimp only
  obtain ⟨H1, hH1⟩ : ∃ H1 : AHeap, H1 = H ++ [.cells [.int .i64 0, .int .i64 0, .string (bs []), .slice none 0 0, .slice none 0 0] ⟨26, 0, true, 0, none⟩] := ⟨_, rfl⟩
  have hf1 : Frm [] H H1 := by rw [hH1]; exact Frm.app
  have hl1 : H1.length = H.length + 1 := by rw [hH1]; simp
  have hb1 : H1[H.length]? = some (.cells [.int .i64 0, .int .i64 0, .string (bs []), .slice none 0 0, .slice none 0 0] ⟨26, 0, true, 0, none⟩) := by rw [hH1, hget0 rfl]; rfl
  have hX := read s H1
  rw [hr] at hX
  refine AC.enter Tryd.func11 rfl (by kernel_rfl) 28 rfl [.cell 2 26, .tmp 3] rfl (by simp) fun hsc B => ?_
  repeat first
    | with_reducible refine AWP.seq ?_
    | ((with_reducible refine AWP.region ?_ ?_); exact rfl)
    | with_reducible refine AWP.block ?_
    | with_reducible refine AWP.skip ?_
    | with_reducible refine AWP.exit ?_
    | with_reducible refine AWP.ret ?_
    | with_reducible refine AWP.label ?_
    | with_reducible refine AWP.goto ?_
    | ((with_reducible refine AWP.condT ?_ ?_); focus (simp only [ev, lk_cons, ↓reduceIte, Nat.reduceEqDiff]; done))
    | ((with_reducible refine AWP.condF ?_ ?_); focus (simp only [ev, lk_cons, ↓reduceIte, Nat.reduceEqDiff]; done))
    | simp only [go_sem, ↓reduceIte, Nat.reduceEqDiff, reduceCtorEq, Nat.reduceAdd, Int.reduceEq, Int.reduceBNe, Int.reduceBEq, Int.reduceToNat, Int.reduceLT, Int.reduceLE, Int.reduceGT, Int.reduceGE, Nat.reduceSub, Nat.reduceBEq, Nat.reduceBNe, Int.reduceAdd, Int.reduceSub, Int.reduceMul, Int.reduceNeg, Nat.reduceMul, Nat.reduceLeDiff, Nat.reduceLT]
    | simp (disch := omega) only [wi64, wu8, wu16, wu32, wu64]
    | with_reducible_and_instances exact finR
    | ((with_reducible refine finR' ?_ ?_) <;> rfl)
    | ((with_reducible refine finD hsc (NRel.of_plain ?_)); exact rfl)
  rw [← hH1]
  refine AC.mono hX ?_
  rintro res H2 ⟨cs, rfl, hf, hRd⟩
  dsimp only at hRd ⊢
  have hb2 := hf.get hb1 (by simp)
  have hf2 := hf1.trans hf (fun x hx => by cases hx)
  have hl2 := hf.1
  have hc5 := hRd.len
  have hfl := RdV_flat hRd
  have hput : putCells [.int .i64 0, .int .i64 0, .string (bs []), .slice none 0 0, .slice none 0 0] 0 cs = cs := by
    match cs, hc5 with
    | [_, _, _, _, _], _ => rfl
  have htk : List.take 5 cs = cs := List.take_of_length_le (by omega)
  have hgl : ∀ (l : AHeap), (H2 ++ l)[H.length]? = H2[H.length]? := fun l => hgetl (by omega)
  have hsl : ∀ (l : AHeap) (o : AObj), (H2 ++ l).set H.length o = H2.set H.length o ++ l := fun l o => List.set_append_left _ _ (by omega)
  have hgs : ∀ (l : AHeap) (o : AObj), (H2.set H.length o ++ l)[H.length]? = some o := fun l o => by rw [hgetl (by rw [List.length_set]; omega), List.getElem?_set_self (by omega)]
  have hal : H.length < H2.length := by omega
  by_cases he : e = 0
  · subst he
    rw [if_neg (by decide)]
    by_cases hu : u < s.length
    · rw [if_pos hu]
      repeat first
        | with_reducible refine AWP.seq ?_
        | ((with_reducible refine AWP.region ?_ ?_); exact rfl)
        | with_reducible refine AWP.block ?_
        | with_reducible refine AWP.skip ?_
        | with_reducible refine AWP.exit ?_
        | with_reducible refine AWP.ret ?_
        | with_reducible refine AWP.label ?_
        | with_reducible refine AWP.goto ?_
        | ((with_reducible refine AWP.condT ?_ ?_); focus (simp only [ev, lk_cons, ↓reduceIte, Nat.reduceEqDiff]; done))
        | ((with_reducible refine AWP.condF ?_ ?_); focus (simp only [ev, lk_cons, ↓reduceIte, Nat.reduceEqDiff]; done))
        | simp only [go_sem, ↓reduceIte, Nat.reduceEqDiff, reduceCtorEq, Nat.reduceAdd, Int.reduceEq, Int.reduceBNe, Int.reduceBEq, Int.reduceToNat, Int.reduceLT, Int.reduceLE, Int.reduceGT, Int.reduceGE, Nat.reduceSub, Nat.reduceBEq, Nat.reduceBNe, Int.reduceAdd, Int.reduceSub, Int.reduceMul, Int.reduceNeg, Nat.reduceMul, Nat.reduceLeDiff, Nat.reduceLT, hc5, hfl, hput, htk, hu, hb2, hgl, hsl, hgs, hal]
        | simp (disch := omega) only [wi64, wu8, wu16, wu32, wu64]
        | with_reducible_and_instances exact finR
        | ((with_reducible refine finR' ?_ ?_) <;> rfl)
        | ((with_reducible refine finD hsc (NRel.of_plain ?_)); exact rfl)
      exact ⟨_, _, .refl _ _ _, _, rfl, (Frm.set hf2 (.inr (Nat.le_refl _))).trans (Frm.app (S := [])) (fun x hx => by cases hx), RdV_zero _⟩
    · rw [if_neg hu]
      repeat first
        | with_reducible refine AWP.seq ?_
        | ((with_reducible refine AWP.region ?_ ?_); exact rfl)
        | with_reducible refine AWP.block ?_
        | with_reducible refine AWP.skip ?_
        | with_reducible refine AWP.exit ?_
        | with_reducible refine AWP.ret ?_
        | with_reducible refine AWP.label ?_
        | with_reducible refine AWP.goto ?_
        | ((with_reducible refine AWP.condT ?_ ?_); focus (simp only [ev, lk_cons, ↓reduceIte, Nat.reduceEqDiff]; done))
        | ((with_reducible refine AWP.condF ?_ ?_); focus (simp only [ev, lk_cons, ↓reduceIte, Nat.reduceEqDiff]; done))
        | simp only [go_sem, ↓reduceIte, Nat.reduceEqDiff, reduceCtorEq, Nat.reduceAdd, Int.reduceEq, Int.reduceBNe, Int.reduceBEq, Int.reduceToNat, Int.reduceLT, Int.reduceLE, Int.reduceGT, Int.reduceGE, Nat.reduceSub, Nat.reduceBEq, Nat.reduceBNe, Int.reduceAdd, Int.reduceSub, Int.reduceMul, Int.reduceNeg, Nat.reduceMul, Nat.reduceLeDiff, Nat.reduceLT, hc5, hfl, hput, htk, hu, hb2, hgl, hsl, hgs, hal]
        | simp (disch := omega) only [wi64, wu8, wu16, wu32, wu64]
        | with_reducible_and_instances exact finR
        | ((with_reducible refine finR' ?_ ?_) <;> rfl)
        | ((with_reducible refine finD hsc (NRel.of_plain ?_)); exact rfl)
      exact ⟨_, _, .refl _ _ _, _, rfl, (Frm.set hf2 (.inr (Nat.le_refl _))).trans (Frm.app (S := [])) (fun x hx => by cases hx), (hRd.kept (Kept.set hb2 rfl _)).kept (Kept.more _ _)⟩
  · rw [if_pos he]
    have e0 : (e == 0) = false := by simpa using he
    have e1 : (e != 0) = true := by simpa using he
    repeat first
      | with_reducible refine AWP.seq ?_
      | ((with_reducible refine AWP.region ?_ ?_); exact rfl)
      | with_reducible refine AWP.block ?_
      | with_reducible refine AWP.skip ?_
      | with_reducible refine AWP.exit ?_
      | with_reducible refine AWP.ret ?_
      | with_reducible refine AWP.label ?_
      | with_reducible refine AWP.goto ?_
      | ((with_reducible refine AWP.condT ?_ ?_); focus (simp only [ev, lk_cons, ↓reduceIte, Nat.reduceEqDiff]; done))
      | ((with_reducible refine AWP.condF ?_ ?_); focus (simp only [ev, lk_cons, ↓reduceIte, Nat.reduceEqDiff]; done))
      | simp only [go_sem, ↓reduceIte, Nat.reduceEqDiff, reduceCtorEq, Nat.reduceAdd, Int.reduceEq, Int.reduceBNe, Int.reduceBEq, Int.reduceToNat, Int.reduceLT, Int.reduceLE, Int.reduceGT, Int.reduceGE, Nat.reduceSub, Nat.reduceBEq, Nat.reduceBNe, Int.reduceAdd, Int.reduceSub, Int.reduceMul, Int.reduceNeg, Nat.reduceMul, Nat.reduceLeDiff, Nat.reduceLT, hc5, hfl, hput, htk, e0, e1, hb2, hgl, hsl, hgs, hal]
      | simp (disch := omega) only [wi64, wu8, wu16, wu32, wu64]
      | with_reducible_and_instances exact finR
      | ((with_reducible refine finR' ?_ ?_) <;> rfl)
      | ((with_reducible refine finD hsc (NRel.of_plain ?_)); exact rfl)
    exact ⟨_, _, .refl _ _ _, _, rfl, (Frm.set hf2 (.inr (Nat.le_refl _))).trans (Frm.app (S := [])) (fun x hx => by cases hx), RdV_zero _⟩
end Go.Proofs.YthcdjconlfdidaaDoor

