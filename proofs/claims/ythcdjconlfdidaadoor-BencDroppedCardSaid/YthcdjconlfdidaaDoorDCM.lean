/-
  A part of the proof of a statement of this seat.
-/
import Derived.Test.YthcdjconlfdidaaDoorD7M
import Derived.Shelf.Strconv.Itoa4
import Derived.Shelf.Strings.Repeat
import Derived.Ground.NamesProg
import Derived.Test.YthcdjconlfdidaaDoorChecked
import Derived.Test.YthcdjconlfdidaaDoorAwC
import Derived.Lib.AppendIntMem
import Derived.Lib.ItoaLen
set_option linter.unusedVariables false
set_option linter.unusedSimpArgs false
set_option maxHeartbeats 4000000
set_option maxRecDepth 20000
namespace Go.Proofs.YthcdjconlfdidaaDoor
open Go Go.Aw Go.Proofs
def ParseP (H : AHeap) (R : BV × Int) (res : ARes) (H1 : AHeap) : Prop :=
 ∃ cs, res = .ret (.tuple ⟨[.agg ⟨cs⟩, .int .i64 R.2]⟩) ∧ Frm [] H H1 ∧ RdV H1 R.1 cs
theorem parse (s : List UInt8) (H : AHeap) : AC Tryd.prog 11 [.string (bs s)] H (ParseP H (parseR s)) := by
 have hR : parseR s = if (readR s).2.2.2 ≠ 0 then (.zero, (readR s).2.2.2) else if (readR s).2.1 < s.length then (.zero, 2) else ((readR s).1, 0) := rfl
 rw [hR]
 generalize hr : readR s = R
 obtain ⟨v, u, b, e⟩ := R
 dsimp only
 obtain ⟨H1, hH1⟩ : ∃ H1 : AHeap, H1 = H ++ [.cells [.int .i64 0, .int .i64 0, .string (bs []), .slice none 0 0, .slice none 0 0] ⟨26, 0, true, 0, none⟩] := ⟨_, rfl⟩
 have hf1 : Frm [] H H1 := by rw [hH1]; exact Frm.app
 have hl1 : H1.length = H.length + 1 := by rw [hH1]; simp
 have hb1 : H1[H.length]? = some (.cells [.int .i64 0, .int .i64 0, .string (bs []), .slice none 0 0, .slice none 0 0] ⟨26, 0, true, 0, none⟩) := by rw [hH1, hget0 rfl]; rfl
 have hX := read s H1
 rw [hr] at hX
 refine AC.enter Tryd.func11 rfl (by kernel_rfl) 28 rfl [.cell 2 26, .tmp 3] rfl (by simp) fun hsc B => ?_
 repeat first | with_reducible refine AWP.ctl (by constructor) ?_ | ((with_reducible (first | refine AWP.region ?_ ?_ | refine AWP.condT ?_ ?_)); exact rfl) | ((with_reducible refine AWP.condF ?_ ?_); exact rfl) | simp only [go_sem, sevalprocAttr, reduceCtorEq] | simp (disch := omega) only [wz]
 rw [← hH1]
 refine AC.mono hX ?_
 rintro res H2 ⟨cs, rfl, hf, hRd⟩
 dsimp only at hRd ⊢
 have hb2 := hf.get hb1 (by simp)
 have hf2 := hf1.trans hf (fun x hx => by cases hx)
 have hl2 := hf.1
 have hc5 := hRd.len
 have hfl := RdV_flat hRd
 have hput : putCells [.int .i64 0, .int .i64 0, .string (bs []), .slice none 0 0, .slice none 0 0] 0 cs = cs := by
  match cs, hc5 with
  | [_, _, _, _, _], _ => rfl
 have htk : List.take 5 cs = cs := List.take_of_length_le (by omega)
 have hgl : ∀ (l : AHeap), (H2 ++ l)[H.length]? = H2[H.length]? := fun l => hgetl (by omega)
 have hsl : ∀ (l : AHeap) (o : AObj), (H2 ++ l).set H.length o = H2.set H.length o ++ l := fun l o => List.set_append_left _ _ (by omega)
 have hgs : ∀ (l : AHeap) (o : AObj), (H2.set H.length o ++ l)[H.length]? = some o := fun l o => by rw [hgetl (by rw [List.length_set]; omega), List.getElem?_set_self (by omega)]
 have hal : H.length < H2.length := by omega
 by_cases he : e = 0
 ·subst he
  rw [if_neg (by decide)]
  by_cases hu : u < s.length
  ·rw [if_pos hu]
   repeat first | with_reducible refine AWP.ctl (by constructor) ?_ | ((with_reducible (first | refine AWP.region ?_ ?_ | refine AWP.condT ?_ ?_)); exact rfl) | ((with_reducible refine AWP.condF ?_ ?_); exact rfl) | simp only [go_sem, sevalprocAttr, reduceCtorEq, hc5, hfl, hput, htk, hu, hb2, hgl, hsl, hgs, hal] | simp (disch := omega) only [wz]
   exact ⟨_, _, .refl _ _ _, _, rfl, (Frm.set hf2 (.inr (Nat.le_refl _))).trans (Frm.app (S := [])) (fun x hx => by cases hx), RdV_zero _⟩
  ·rw [if_neg hu]
   repeat first | with_reducible refine AWP.ctl (by constructor) ?_ | ((with_reducible (first | refine AWP.region ?_ ?_ | refine AWP.condT ?_ ?_)); exact rfl) | ((with_reducible refine AWP.condF ?_ ?_); exact rfl) | simp only [go_sem, sevalprocAttr, reduceCtorEq, hc5, hfl, hput, htk, hu, hb2, hgl, hsl, hgs, hal] | simp (disch := omega) only [wz]
   exact ⟨_, _, .refl _ _ _, _, rfl, (Frm.set hf2 (.inr (Nat.le_refl _))).trans (Frm.app (S := [])) (fun x hx => by cases hx), (hRd.kept (Kept.set hb2 rfl _)).kept (Kept.more _ _)⟩
 ·rw [if_pos he]
  have e0 : (e == 0) = false := by simpa using he
  have e1 : (e != 0) = true := by simpa using he
  repeat first | with_reducible refine AWP.ctl (by constructor) ?_ | ((with_reducible (first | refine AWP.region ?_ ?_ | refine AWP.condT ?_ ?_)); exact rfl) | ((with_reducible refine AWP.condF ?_ ?_); exact rfl) | simp only [go_sem, sevalprocAttr, reduceCtorEq, hc5, hfl, hput, htk, e0, e1, hb2, hgl, hsl, hgs, hal] | simp (disch := omega) only [wz]
  exact ⟨_, _, .refl _ _ _, _, rfl, (Frm.set hf2 (.inr (Nat.le_refl _))).trans (Frm.app (S := [])) (fun x hx => by cases hx), RdV_zero _⟩
end Go.Proofs.YthcdjconlfdidaaDoor


namespace Go.Proofs
open Go.Shelf
def Tryd.laysItoa_ren : Go.Shelf.Ren := ⟨fun | 171 => 49 | 243 => 80 | 246 => 99 | 283 => 108 | 284 => 109 | 285 => 110 | 286 => 111 | 129 => 117 | 317 => 116 | 318 => 118 | 319 => 119 | 320 => 120 | 337 => 123 | 338 => 124 | n => n, fun | 3 => 3 | 9 => 9 | 2 => 2 | 4 => 4 | 171 => 124 | 0 => 0 | 53 => 125 | 37 => 89 | 5 => 5 | 173 => 128 | 212 => 138 | 51 => 139 | 20 => 20 | 213 => 140 | 46 => 107 | 232 => 148 | 233 => 149 | n => n, fun | 17 => 2 | 18 => 3 | 19 => 4 | n => n⟩
theorem Tryd.laysItoa : Go.Proofs.LaysM.n171 Tryd.prog Tryd.laysItoa_ren where
 mixed := by kernel_rfl
 f129 := Tryd.func117.trans (congrArg some (by kernel_rfl))
 f171 := Tryd.func49.trans (congrArg some (by kernel_rfl))
 f243 := Tryd.func80.trans (congrArg some (by kernel_rfl))
 f246 := Tryd.func99.trans (congrArg some (by kernel_rfl))
 f283 := Tryd.func108.trans (congrArg some (by kernel_rfl))
 f284 := Tryd.func109.trans (congrArg some (by kernel_rfl))
 f285 := Tryd.func110.trans (congrArg some (by kernel_rfl))
 f286 := Tryd.func111.trans (congrArg some (by kernel_rfl))
 f317 := Tryd.func116.trans (congrArg some (by kernel_rfl))
 f318 := Tryd.func118.trans (congrArg some (by kernel_rfl))
 f319 := Tryd.func119.trans (congrArg some (by kernel_rfl))
 f320 := Tryd.func120.trans (congrArg some (by kernel_rfl))
 f337 := Tryd.func123.trans (congrArg some (by kernel_rfl))
 f338 := Tryd.func124.trans (congrArg some (by kernel_rfl))
 t0 := Tryd.underlying0
 a0 := Tryd.isAgg0
 z0 := Tryd.sizeOf0
 v0 := Tryd.zeroValue0
 t2 := Tryd.underlying2
 a2 := Tryd.isAgg2
 z2 := Tryd.sizeOf2
 v2 := Tryd.zeroValue2
 t3 := Tryd.underlying3
 a3 := Tryd.isAgg3
 z3 := Tryd.sizeOf3
 v3 := Tryd.zeroValue3
 t4 := Tryd.underlying4
 a4 := Tryd.isAgg4
 z4 := Tryd.sizeOf4
 v4 := Tryd.zeroValue4
 t5 := Tryd.underlying5
 a5 := Tryd.isAgg5
 z5 := Tryd.sizeOf5
 v5 := Tryd.zeroValue5
 t9 := Tryd.underlying9
 a9 := Tryd.isAgg9
 z9 := Tryd.sizeOf9
 v9 := Tryd.zeroValue9
 t20 := Tryd.underlying20
 a20 := Tryd.isAgg20
 z20 := Tryd.sizeOf20
 v20 := Tryd.zeroValue20
 t37 := Tryd.underlying89
 a37 := Tryd.isAgg89
 z37 := Tryd.sizeOf89
 v37 := Tryd.zeroValue89
 t46 := Tryd.underlying107
 a46 := Tryd.isAgg107
 z46 := Tryd.sizeOf107
 v46 := Tryd.zeroValue107
 t51 := Tryd.underlying139
 a51 := Tryd.isAgg139
 z51 := Tryd.sizeOf139
 v51 := Tryd.zeroValue139
 t53 := Tryd.underlying125
 a53 := Tryd.isAgg125
 z53 := Tryd.sizeOf125
 v53 := Tryd.zeroValue125
 t171 := Tryd.underlying124
 a171 := Tryd.isAgg124
 z171 := Tryd.sizeOf124
 v171 := Tryd.zeroValue124
 t173 := Tryd.underlying128
 a173 := Tryd.isAgg128
 z173 := Tryd.sizeOf128
 v173 := Tryd.zeroValue128
 t212 := Tryd.underlying138
 a212 := Tryd.isAgg138
 z212 := Tryd.sizeOf138
 v212 := Tryd.zeroValue138
 t213 := Tryd.underlying140
 a213 := Tryd.isAgg140
 z213 := Tryd.sizeOf140
 t232 := Tryd.underlying148
 a232 := Tryd.isAgg148
 z232 := Tryd.sizeOf148
 v232 := Tryd.zeroValue148
 t233 := Tryd.underlying149
 a233 := Tryd.isAgg149
 z233 := Tryd.sizeOf149
 v233 := Tryd.zeroValue149
 g17 := by kernel_rfl
 g18 := by kernel_rfl
 g19 := by kernel_rfl
 i0 := by kernel_rfl
 i2 := by kernel_rfl
 i3 := by kernel_rfl
 i4 := by kernel_rfl
 i5 := by kernel_rfl
 i9 := by kernel_rfl
 i20 := by kernel_rfl
 i37 := by kernel_rfl
 i46 := by kernel_rfl
 i51 := by kernel_rfl
 i53 := by kernel_rfl
 i171 := by kernel_rfl
 i173 := by kernel_rfl
 i212 := by kernel_rfl
 i232 := by kernel_rfl
 i233 := by kernel_rfl
 m17 := by kernel_rfl
 m18 := by kernel_rfl
 m19 := by kernel_rfl
def Tryd.laysCheck_ren : Go.Shelf.Ren := ⟨fun | 240 => 100 | 276 => 112 | n => n, fun | 70 => 88 | 72 => 91 | 164 => 130 | 37 => 89 | n => n, fun | n => n⟩
theorem Tryd.laysCheck : Go.Proofs.Lays.n240 Tryd.prog Tryd.laysCheck_ren where
 mixed := by kernel_rfl
 f240 := Tryd.func100.trans (congrArg some (by kernel_rfl))
 f276 := Tryd.func112.trans (congrArg some (by kernel_rfl))
 t0 := Tryd.underlying0
 a0 := Tryd.isAgg0
 z0 := Tryd.sizeOf0
 v0 := Tryd.zeroValue0
 t4 := Tryd.underlying4
 a4 := Tryd.isAgg4
 z4 := Tryd.sizeOf4
 v4 := Tryd.zeroValue4
 t9 := Tryd.underlying9
 a9 := Tryd.isAgg9
 z9 := Tryd.sizeOf9
 v9 := Tryd.zeroValue9
 t20 := Tryd.underlying20
 a20 := Tryd.isAgg20
 z20 := Tryd.sizeOf20
 v20 := Tryd.zeroValue20
 t70 := Tryd.underlying88
 a70 := Tryd.isAgg88
 z70 := Tryd.sizeOf88
 v70 := Tryd.zeroValue88
 t72 := Tryd.underlying91
 a72 := Tryd.isAgg91
 z72 := Tryd.sizeOf91
 v72 := Tryd.zeroValue91
 t164 := Tryd.underlying130
 a164 := Tryd.isAgg130
 z164 := Tryd.sizeOf130
 v164 := Tryd.zeroValue130

end Go.Proofs


set_option linter.unusedVariables false
set_option linter.unusedSimpArgs false
set_option maxHeartbeats 4000000
set_option maxRecDepth 20000
namespace Go.Proofs.YthcdjconlfdidaaDoor
open Go Go.Aw Go.Proofs
theorem gTab : Tryd.prog.globalNamed "internal/strconv.uint64pow10" = some 2 := by kernel_rfl
def TabH (H : AHeap) : Prop := ∃ e, H[2]? = some (tabO e 2 .u64 Lib.pow10Tab)
theorem TabH.more {H : AHeap} (h : TabH H) (X : AHeap) : TabH (H ++ X) := by
 obtain ⟨e, h⟩ := h
 exact ⟨e, by rw [hgetl (lt_of_get h)]; exact h⟩
theorem TabH.frm {H H1 : AHeap} {S : List Nat} (h : TabH H) (hf : Frm S H H1) (h0 : ¬ 2 ∈ S) : TabH H1 := by
 obtain ⟨e, h⟩ := h
 exact ⟨e, hf.get h h0⟩
theorem Itoa (n : Int) (h0 : -9223372036854775808 ≤ n) (h1 : n ≤ 9223372036854775807) (H : AHeap) (hT : TabH H) : ARet Tryd.prog 49 [.int .i64 n] H (.string (bs (Lib.itoa n))) H := by
 obtain ⟨e, hT⟩ := hT
 refine ARet.ofCallsT Tryd.func49 rfl (by kernel_rfl) rfl rfl H (fun w => Lib.TabIs Tryd.prog w "internal/strconv.uint64pow10" .u64 Lib.pow10Tab) (fun c w hh => tabIs_of_rel hh gTab hT) (fun w hw => ?_)
 refine (Any.strconv_Itoa Tryd.laysItoa n h0 h1 w hw).mono fun e w' ⟨he, k, os, hw'⟩ => ⟨he, ?_⟩
 subst hw'
 exact Lib.below_grow _ w (Nat.le_refl _) k os
theorem dec_le : ∀ (n k : Nat), 0 < k → n < 10 ^ k → (Lib.decDigits n).length ≤ k
 | n, 0, h, _ => by omega
 | n, k + 1, _, h => by
  rw [Lib.decDigits]
  split
  ·simp
  ·have hk : 0 < k := by
    rcases Nat.eq_zero_or_pos k with rfl | h'
    ·simp at h; omega
    ·exact h'
   have := dec_le (n / 10) k hk (by rw [Nat.pow_succ] at h; omega)
   rw [List.length_append, List.length_singleton]; omega
theorem itoa_le (n : Int) (h0 : -9223372036854775808 ≤ n) (h1 : n ≤ 9223372036854775807) : (Lib.itoa n).length ≤ 20 := by
 unfold Lib.itoa
 split
 ·have := dec_le n.natAbs 19 (by omega) (by omega)
  simp; omega
 ·have := dec_le n.toNat 19 (by omega) (by omega)
  omega
theorem digits (n : Nat) (h1 : (n : Int) ≤ 9223372036854775807) (H : AHeap) (hT : TabH H) : ARet Tryd.prog 67 [.int .i64 (n : Nat)] H (.int .i64 (((Lib.itoa (n : Nat)).length + 1 : Nat) : Int)) H := by
 have hI := Itoa (n : Nat) (by omega) h1 H hT
 have hl := itoa_le (n : Nat) (by omega) h1
 have hw : IntKind.i64.wrap (((Lib.itoa (n : Nat)).length : Int) + 1) = (((Lib.itoa (n : Nat)).length + 1 : Nat) : Int) := by rw [wi64 (by omega)]; omega
 refine AC.enter Tryd.func67 rfl (by kernel_rfl) 7 rfl [.tmp 2] rfl (by simp) fun hsc B => ?_
 repeat first | with_reducible refine AWP.ctl (by constructor) ?_ | ((with_reducible (first | refine AWP.region ?_ ?_ | refine AWP.condT ?_ ?_)); exact rfl) | ((with_reducible refine AWP.condF ?_ ?_); exact rfl) | with_reducible refine hI.use ?_ | simp only [go_sem, sevalprocAttr, reduceCtorEq, hw] | simp (disch := omega) only [wz] | with_reducible_and_instances exact finR | ((with_reducible refine finR' ?_ ?_) <;> rfl) | ((with_reducible refine finD hsc (NRel.of_plain ?_)); exact rfl)
end Go.Proofs.YthcdjconlfdidaaDoor

