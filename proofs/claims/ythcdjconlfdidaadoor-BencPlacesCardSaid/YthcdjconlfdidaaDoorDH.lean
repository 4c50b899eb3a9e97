/-
  The walk of the writer of bencoded values: the table of writers, numbers, texts.
-/
import Derived.Test.YthcdjconlfdidaaDoorDFM
set_option linter.unusedVariables false
set_option linter.unusedSimpArgs false
set_option maxHeartbeats 4000000
set_option maxRecDepth 20000
namespace Go.Proofs.YthcdjconlfdidaaDoor
open Go Go.Aw Go.Proofs Go.Shelf
def wTab : Value := .agg ⟨[.nilFunc, .func (.func 81) ⟨[]⟩ ⟨[]⟩, .func (.func 83) ⟨[]⟩ ⟨[]⟩, .func (.func 85) ⟨[]⟩ ⟨[]⟩, .func (.func 87) ⟨[]⟩ ⟨[]⟩]⟩
theorem writesF (H : AHeap) : ARet Tryd.prog 63 [] H wTab H := by
  unfold wTab
  refine AC.enter Tryd.func63 rfl (by kernel_rfl) 2 rfl [.cell 0 93] rfl (by simp) fun hsc B => ?_
  repeat first | with_reducible refine AWP.ctl (by constructor) ?_ | ((with_reducible (first | refine AWP.region ?_ ?_ | refine AWP.condT ?_ ?_)); exact rfl) | ((with_reducible refine AWP.condF ?_ ?_); exact rfl) | simp only [go_sem, sevalprocAttr, reduceCtorEq] | simp (disch := omega) only [wz] | with_reducible_and_instances exact finR | ((with_reducible refine finR' ?_ ?_) <;> rfl) | ((with_reducible refine finD hsc (NRel.of_plain ?_)); exact rfl)
  exact finD hsc (by simp [nr_agg, nrs_cons, nrs_nil, nr_nilFunc, nr_func])
/-- A builder as the writers use it. -/
structure BO (H : AHeap) (b j : Nat) (l : List UInt8) : Prop where
  bld : Bld H b j l
  nil : l = [] → j = b
  tab : TabH H
theorem BO.own {H : AHeap} {b j : Nat} {l : List UInt8} (h : BO H b j l) : ∀ x ∈ [b, j], ∃ cs k, H[x]? = some (.cells cs k) ∧ k.own = true := by
  obtain ⟨⟨p, h1, h2⟩, h3⟩ := h.bld
  intro x hx
  simp only [List.mem_cons, List.not_mem_nil, or_false] at hx
  rcases hx with rfl | rfl
  · exact ⟨_, _, h1, rfl⟩
  · rcases Nat.eq_zero_or_pos l.length with h0 | h0
    · have := h.nil (List.eq_nil_of_length_eq_zero h0)
      subst this
      exact ⟨_, _, h1, rfl⟩
    · exact ⟨_, _, (h3 h0).2, rfl⟩
theorem BO.no2 {H : AHeap} {b j : Nat} {l : List UInt8} (h : BO H b j l) : ¬ 2 ∈ [b, j] := fun hx => by
  obtain ⟨cs, k, e, ho⟩ := h.own 2 hx
  obtain ⟨t, ht⟩ := h.tab
  rw [ht] at e
  unfold tabO at e
  cases e
  cases ho
theorem BO.wrote {H H2 : AHeap} {b j : Nat} {l l2 : List UInt8} (h : BO H b j l) (hw : Wrote H b j l2 H2) (hne : l2 ≠ []) : ∃ j2, BO H2 b j2 l2 ∧ Frm [b, j] H H2 ∧ (j2 = j ∨ H.length ≤ j2) ∧ Kept H H2 := by
  obtain ⟨j2, h1, h2, h3⟩ := hw
  exact ⟨j2, ⟨h1, fun e => absurd e hne, h.tab.frm h2 h.no2⟩, h2, h3, Kept.frm h2 h.own⟩
theorem BO.more {H : AHeap} {b j : Nat} {l : List UInt8} (h : BO H b j l) (X : AHeap) : BO (H ++ X) b j l := ⟨h.bld.more X, h.nil, h.tab.more X⟩
theorem Wrote.of_more {H X H2 : AHeap} {b j : Nat} {l2 : List UInt8} (h : Wrote (H ++ X) b j l2 H2) : Wrote H b j l2 H2 := by
  obtain ⟨j2, h1, h2, h3⟩ := h
  rw [List.length_append] at h3
  exact ⟨j2, h1, (Frm.app (S := [b, j])).trans h2 (fun x hx => .inl hx), h3.imp id (fun h => by omega)⟩
theorem Wrote.trans {H H1 H2 : AHeap} {b j j1 : Nat} {l2 : List UInt8} (hf : Frm [b, j] H H1) (hj : j1 = j ∨ H.length ≤ j1) (h : Wrote H1 b j1 l2 H2) : Wrote H b j l2 H2 := by
  obtain ⟨j2, h1, h2, h3⟩ := h
  have hl := hf.1
  refine ⟨j2, h1, hf.trans h2 (fun x hx => ?_), ?_⟩
  · simp only [List.mem_cons, List.not_mem_nil, or_false] at hx ⊢
    rcases hx with rfl | rfl
    · exact .inl (.inl rfl)
    · exact hj.imp .inr id
  · rcases h3 with rfl | h3
    · exact hj
    · exact .inr (by omega)
def WrP (fn : Nat) (v : BV) : Prop := ∀ (b j : Nat) (l : List UInt8) (H : AHeap) (cs : List Value), BO H b j l → RdV H v cs → l.length + v.write.length ≤ 1099511627776 →
  AC Tryd.prog fn [.pointer (some ⟨b, 0, none⟩), .agg ⟨cs⟩] H (fun r H2 => r = .ret noVal ∧ Wrote H b j (l ++ v.write) H2)
theorem wr1 (n : Int) (s : List UInt8) (kids : List BV) (keys : List (List UInt8)) (h0 : -9223372036854775808 ≤ n) (h1 : n ≤ 9223372036854775807) : WrP 81 (.mk 1 n s kids keys) := by
  intro b j l H cs hB hR hl
  have hw : (BV.mk 1 n s kids keys).write = 105 :: (Lib.itoa n ++ [101]) := by unfold BV.write; rw [if_pos rfl]
  rw [hw] at hl ⊢
  unfold RdV at hR
  obtain ⟨vk, vs, css, rfl, hk, hL, hs⟩ := hR
  have e1 : Go.Aw.flat vk = true := by rcases hk with ⟨rfl, _⟩ | ⟨_, _, _, _, _, rfl, _⟩ <;> rfl
  have e3 : Go.Aw.flat vs = true := by rcases hs with ⟨rfl, _⟩ | ⟨_, _, _, _, _, rfl, _⟩ <;> rfl
  obtain ⟨H1, hH1⟩ : ∃ H1 : AHeap, H1 = H ++ [.cells [.int .i64 1, .int .i64 n, .string (bs s), vk, vs] ⟨26, 0, true, 0, none⟩] := ⟨_, rfl⟩
  have hb1 : H1[H.length]? = some (.cells [.int .i64 1, .int .i64 n, .string (bs s), vk, vs] ⟨26, 0, true, 0, none⟩) := by rw [hH1, hget0 rfl]; rfl
  have hB1 : BO H1 b j l := by rw [hH1]; exact hB.more _
  have hI := Itoa n h0 h1 H1 hB1.tab
  have hX := WriteString b j l (105 :: (Lib.itoa n ++ [101])) (by simp) (by omega) H1 hB1.bld
  have hlen : (105 :: (Lib.itoa n ++ [101])).length = (Lib.itoa n).length + 2 := by simp
  refine AC.enter Tryd.func81 rfl (by kernel_rfl) 11 rfl [] rfl (by simp) fun hsc B => ?_
  repeat first | with_reducible refine AWP.ctl (by constructor) ?_ | ((with_reducible (first | refine AWP.region ?_ ?_ | refine AWP.condT ?_ ?_)); exact rfl) | ((with_reducible refine AWP.condF ?_ ?_); exact rfl) | simp only [go_sem, sevalprocAttr, reduceCtorEq] | simp (disch := omega) only [wz] | with_reducible_and_instances exact finR | ((with_reducible refine finR' ?_ ?_) <;> rfl) | ((with_reducible refine finD hsc (NRel.of_plain ?_)); exact rfl)
  rw [← hH1]
  repeat first | with_reducible refine AWP.ctl (by constructor) ?_ | ((with_reducible (first | refine AWP.region ?_ ?_ | refine AWP.condT ?_ ?_)); exact rfl) | ((with_reducible refine AWP.condF ?_ ?_); exact rfl) | with_reducible refine hI.use ?_ | simp only [go_sem, sevalprocAttr, reduceCtorEq] | simp (disch := omega) only [wz] | with_reducible_and_instances exact finR | ((with_reducible refine finR' ?_ ?_) <;> rfl) | ((with_reducible refine finD hsc (NRel.of_plain ?_)); exact rfl)
  refine ⟨by omega, by omega, AC.mono hX ?_⟩
  rintro r H2 ⟨rfl, h⟩
  repeat first | with_reducible refine AWP.ctl (by constructor) ?_ | ((with_reducible (first | refine AWP.region ?_ ?_ | refine AWP.condT ?_ ?_)); exact rfl) | ((with_reducible refine AWP.condF ?_ ?_); exact rfl) | simp only [go_sem, sevalprocAttr, reduceCtorEq] | simp (disch := omega) only [wz] | with_reducible_and_instances exact finR | ((with_reducible refine finR' ?_ ?_) <;> rfl) | ((with_reducible refine finD hsc (NRel.of_plain ?_)); exact rfl)
  exact ⟨_, _, .refl _ _ _, rfl, Wrote.of_more (hH1 ▸ h)⟩
theorem wr2 (n : Int) (s : List UInt8) (kids : List BV) (keys : List (List UInt8)) : WrP 83 (.mk 2 n s kids keys) := by
  intro b j l H cs hB hR hl
  have hw : (BV.mk 2 n s kids keys).write = BV.wText s := by unfold BV.write; rw [if_neg (by decide), if_pos rfl]
  rw [hw] at hl ⊢
  unfold RdV at hR
  obtain ⟨vk, vs, css, rfl, hk, hL, hs⟩ := hR
  have e1 : Go.Aw.flat vk = true := by rcases hk with ⟨rfl, _⟩ | ⟨_, _, _, _, _, rfl, _⟩ <;> rfl
  have e3 : Go.Aw.flat vs = true := by rcases hs with ⟨rfl, _⟩ | ⟨_, _, _, _, _, rfl, _⟩ <;> rfl
  obtain ⟨H1, hH1⟩ : ∃ H1 : AHeap, H1 = H ++ [.cells [.int .i64 2, .int .i64 n, .string (bs s), vk, vs] ⟨26, 0, true, 0, none⟩] := ⟨_, rfl⟩
  have hb1 : H1[H.length]? = some (.cells [.int .i64 2, .int .i64 n, .string (bs s), vk, vs] ⟨26, 0, true, 0, none⟩) := by rw [hH1, hget0 rfl]; rfl
  have hB1 : BO H1 b j l := by rw [hH1]; exact hB.more _
  have hX := wtext b j l s (by omega) H1 hB1.tab hB1.bld
  refine AC.enter Tryd.func83 rfl (by kernel_rfl) 8 rfl [] rfl (by simp) fun hsc B => ?_
  repeat first | with_reducible refine AWP.ctl (by constructor) ?_ | ((with_reducible (first | refine AWP.region ?_ ?_ | refine AWP.condT ?_ ?_)); exact rfl) | ((with_reducible refine AWP.condF ?_ ?_); exact rfl) | simp only [go_sem, sevalprocAttr, reduceCtorEq] | simp (disch := omega) only [wz] | with_reducible_and_instances exact finR | ((with_reducible refine finR' ?_ ?_) <;> rfl) | ((with_reducible refine finD hsc (NRel.of_plain ?_)); exact rfl)
  rw [← hH1]
  refine AC.mono hX ?_
  rintro r H2 ⟨rfl, h⟩
  repeat first | with_reducible refine AWP.ctl (by constructor) ?_ | ((with_reducible (first | refine AWP.region ?_ ?_ | refine AWP.condT ?_ ?_)); exact rfl) | ((with_reducible refine AWP.condF ?_ ?_); exact rfl) | simp only [go_sem, sevalprocAttr, reduceCtorEq] | simp (disch := omega) only [wz] | with_reducible_and_instances exact finR | ((with_reducible refine finR' ?_ ?_) <;> rfl) | ((with_reducible refine finD hsc (NRel.of_plain ?_)); exact rfl)
  exact ⟨_, _, .refl _ _ _, rfl, Wrote.of_more (hH1 ▸ h)⟩
end Go.Proofs.YthcdjconlfdidaaDoor

