/-
  Links, plainly: what holds of a link at all times; sorting, and taking step by step.
-/
import Derived.Test.YtnfkbgpbligloaaDoorWH
set_option linter.unusedVariables false
set_option linter.unusedSimpArgs false
set_option maxRecDepth 20000
set_option maxHeartbeats 1000000
namespace Go.Proofs.YtnfkbgpbligloaaDoor
open Go Go.Aw Go.Proofs
/-- A packet under way. -/
structure Cm.wf (x : Cm) (n : Nat) (put : Int) : Prop where
  time : x.time = x.p.time
  id : x.id = x.p.id
  copy : x.copy = 0 ∨ x.copy = 1
  timeb : 0 ≤ x.time ∧ x.time ≤ 1000000000 + n * 101000000 + 20000
  idb : 1 ≤ x.id ∧ x.id ≤ put
  size : 0 ≤ x.p.size ∧ x.p.size ≤ 100000
  sent : 0 ≤ x.p.sent ∧ x.p.sent ≤ 1000000000
  begun : 0 ≤ x.p.begun ∧ x.p.begun ≤ 1000000000 + n * 101000000
  body : x.p.body.length ≤ 65536
structure Lk.iv (s : Lk) (n : Nat) : Prop where
  pok : s.pipe.ok = true
  numb : ∀ m ∈ s.nums, 0 ≤ m ∧ m ≤ 999999999
  numL : s.nums.length ≤ 1000
  nowb : 0 ≤ s.now ∧ s.now ≤ 1000000000
  freeb : 0 ≤ s.free ∧ s.free ≤ 1000000000 + n * 101000000
  putb : 0 ≤ s.put ∧ s.put ≤ n
  arrb : 0 ≤ s.arr ∧ s.arr + s.under.length ≤ 2 * n
  lostb : 0 ≤ s.lost ∧ s.lost ≤ n
  dropb : 0 ≤ s.drop ∧ s.drop ≤ n
  dblb : 0 ≤ s.dbl ∧ s.dbl ≤ n
  waitb : ∀ w ∈ s.wait, (0 ≤ w.1 ∧ w.1 ≤ 1000000000 + n * 101000000) ∧ (0 ≤ w.2 ∧ w.2 ≤ 100000)
  waitL : s.wait.length ≤ n
  id : s.id = s.put
  wf : ∀ x ∈ s.under, x.wf n s.put
  key : ∀ a ∈ s.under, ∀ b ∈ s.under, a.id = b.id → a.copy = b.copy → a = b
section
variable {s : Lk} {n : Nat}
theorem Lk.iv.okS (h : s.iv n) (hn : n < 1000) : s.okB := by
  have h1 := h.freeb
  have h2 := h.putb
  have h3 := h.arrb
  have h4 := h.lostb
  have h5 := h.dropb
  have h6 := h.dblb
  have h7 := h.id
  have h8 := h.waitL
  exact ⟨h.pok, h.numb, h.nowb, by omega, by omega, by omega, by omega, by omega, by omega, by omega, fun w hw => (h.waitb w hw).2, by omega, by omega⟩
theorem Lk.iv.inB (h : s.iv n) (hn : n < 1000) : ∀ x ∈ s.under, x.inB ∧ 0 ≤ x.p.time ∧ x.p.time < 1152921504606846976 := fun x hx => by
  obtain ⟨w1, w2, w3, w4, w5, _⟩ := h.wf x hx
  have h2 := h.putb
  rw [w1] at w4
  unfold Cm.inB
  rw [w1]
  refine ⟨⟨⟨by omega, by omega⟩, ⟨by omega, by omega⟩, ?_⟩, by omega, by omega⟩
  rcases w3 with w3 | w3 <;> rw [w3] <;> decide
theorem Lk.iv.okT (h : s.iv n) (hn : n < 1000) : s.okT := by
  have h1 := h.freeb
  have h2 := h.putb
  have h3 := h.arrb
  have h4 := h.lostb
  have h5 := h.dropb
  have h6 := h.dblb
  have h7 := h.id
  have h8 := h.waitL
  have h9 := h.nowb
  obtain ⟨p1, p2, p3, p4, p5, p6⟩ := s.pipe.ok_iff.1 h.pok
  refine ⟨?_, ?_, fun m hm => ?_, by have := h.numL; omega, fun w hw => ?_, by omega, fun x hx => ⟨(h.inB hn x hx).1, (h.inB hn x hx).2, ?_, (h.wf x hx).body⟩, by omega⟩
  · intro m hm
    simp only [head1, List.mem_cons, List.not_mem_nil, or_false] at hm
    unfold i64B
    rcases hm with rfl | rfl | rfl | rfl | rfl | rfl <;> omega
  · intro m hm
    simp only [head2, List.mem_cons, List.not_mem_nil, or_false] at hm
    unfold i64B
    rcases hm with rfl | rfl | rfl | rfl | rfl | rfl | rfl | rfl <;> omega
  · have := h.numb m hm
    unfold i64B; omega
  · obtain ⟨w1, w2⟩ := h.waitb w hw
    unfold i64B; omega
  · intro m hm
    obtain ⟨w1, w2, w3, w4, w5, w6, w7, w8, _⟩ := h.wf x hx
    simp only [cmI, List.mem_cons, List.not_mem_nil, or_false] at hm
    rw [w1] at w4
    rw [w2] at w5
    unfold i64B
    rcases hm with rfl | rfl | rfl | rfl | rfl | rfl <;> omega
theorem iv_new (p : Pp) (nums : List Int) (ho : okN p nums = true) : (newS p nums).iv 0 := by
  unfold okN at ho
  simp only [Bool.and_eq_true, Bool.not_eq_true', decide_eq_true_eq] at ho
  obtain ⟨⟨hp, h1⟩, h2⟩ := ho
  have hn : ∀ n ∈ nums, 0 ≤ n ∧ n ≤ 999999999 := fun n hn => by
    have := List.any_eq_false.1 h2 n hn
    simp [badN, wi] at this
    omega
  exact ⟨hp, hn, h1, by simp [newS], by simp [newS], by simp [newS], by simp [newS], by simp [newS], by simp [newS], by simp [newS], by simp [newS], by simp [newS], rfl, by simp [newS], by simp [newS]⟩
theorem Cm.wf.mono {x : Cm} {n : Nat} {put put' : Int} (h : x.wf n put) (hp : put ≤ put') : x.wf (n + 1) put' := by
  have h1 := h.timeb
  have h2 := h.begun
  have h3 := h.idb
  exact ⟨h.time, h.id, h.copy, by omega, by omega, h.size, h.sent, by omega, h.body⟩
theorem iv_mono (h : s.iv n) : s.iv (n + 1) := by
  have h1 := h.freeb
  have h2 := h.putb
  have h3 := h.arrb
  have h4 := h.lostb
  have h5 := h.dropb
  have h6 := h.dblb
  have h8 := h.waitL
  exact ⟨h.pok, h.numb, h.numL, h.nowb, by omega, by omega, by omega, by omega, by omega, by omega, fun w hw => by have := h.waitb w hw; omega, by omega, h.id, fun x hx => (h.wf x hx).mono (Int.le_refl _), h.key⟩
theorem iv_drop (h : s.iv n) {now size : Int} (hb : badS s now size = false) : ({ s with now := now, drop := s.drop + 1 } : Lk).iv (n + 1) := by
  unfold badS at hb
  simp only [Bool.or_eq_false_iff, decide_eq_false_iff_not] at hb
  obtain ⟨⟨⟨b1, b2⟩, b3⟩, b4⟩ := hb
  have h0 := h.nowb
  have h1 := h.freeb
  have h2 := h.putb
  have h3 := h.arrb
  have h4 := h.lostb
  have h5 := h.dropb
  have h6 := h.dblb
  have h8 := h.waitL
  exact ⟨h.pok, h.numb, h.numL, by simp only; omega, by simp only; omega, by simp only; omega, by simp only; omega, by simp only; omega, by simp only; omega, by simp only; omega, fun w hw => by have := h.waitb w hw; omega, by simp only; omega, h.id, fun x hx => (h.wf x hx).mono (Int.le_refl _), h.key⟩
theorem iv_put (h : s.iv n) (hn : n < 1000) {now size : Int} (body : List UInt8) (hbd : ¬ (body.length : Int) > 65536) (hb : badS s now size = false) : (s.putS now size body).iv (n + 1) := by
  unfold badS at hb
  simp only [Bool.or_eq_false_iff, decide_eq_false_iff_not] at hb
  obtain ⟨⟨⟨b1, b2⟩, b3⟩, b4⟩ := hb
  have ho := h.okS hn
  have h0 := h.nowb
  have h1 := h.freeb
  have h2 := h.putb
  have h3 := h.arrb
  have h4 := h.lostb
  have h5 := h.dropb
  have h6 := h.dblb
  have h7 := h.waitL
  have hid := h.id
  have hg := gone_bd s.pipe ho.pipe size (by omega) (by omega)
  have hkb := kk_bd s ho
  obtain ⟨hpd, -, -, -, -, hpj⟩ := s.pipe.ok_iff.1 ho.pipe
  have hmod : 0 ≤ s.kk / 10000 % (s.pipe.jit + 1) ∧ s.kk / 10000 % (s.pipe.jit + 1) ≤ 1000 := ⟨Int.emod_nonneg _ (by omega), by have := Int.emod_lt_of_pos (s.kk / 10000) (b := s.pipe.jit + 1) (by omega); omega⟩
  have hpt : (s.pk now size body).time = max now s.free + s.pipe.gone size + s.pipe.delay + s.kk / 10000 % (s.pipe.jit + 1) := rfl
  have hpi : (s.pk now size body).id = s.put + 1 := by show s.id + 1 = _; rw [hid]
  have hcm : ∀ x ∈ s.coms now size body, x.wf (n + 1) (s.put + 1) ∧ x.id = s.put + 1 := fun x hx => by
    have w0 : (s.pk now size body).cm.wf (n + 1) (s.put + 1) := ⟨rfl, rfl, .inl rfl, by show 0 ≤ (s.pk now size body).time ∧ (s.pk now size body).time ≤ _; rw [hpt]; omega, by show 1 ≤ (s.pk now size body).id ∧ (s.pk now size body).id ≤ _; rw [hpi]; omega, by show 0 ≤ size ∧ size ≤ _; omega, by show 0 ≤ now ∧ now ≤ _; omega, by show 0 ≤ max now s.free ∧ max now s.free ≤ _; omega, by show body.length ≤ _; omega⟩
    have w1 : (s.pk now size body).cm.again.wf (n + 1) (s.put + 1) := ⟨rfl, rfl, .inr rfl, by show 0 ≤ (s.pk now size body).time + 1 ∧ (s.pk now size body).time + 1 ≤ _; rw [hpt]; omega, by show 1 ≤ (s.pk now size body).id ∧ (s.pk now size body).id ≤ _; rw [hpi]; omega, by show 0 ≤ size ∧ size ≤ _; omega, by show 0 ≤ now ∧ now ≤ _; omega, by show 0 ≤ max now s.free ∧ max now s.free ≤ _; omega, by show body.length ≤ _; omega⟩
    unfold Lk.coms at hx
    split at hx
    · simp at hx
    · split at hx
      · simp only [List.mem_cons, List.not_mem_nil, or_false] at hx
        rcases hx with rfl | rfl
        · exact ⟨w0, hpi⟩
        · exact ⟨w1, hpi⟩
      · rw [List.mem_singleton.1 hx]
        exact ⟨w0, hpi⟩
  have hcl : (s.coms now size body).length ≤ 2 := by
    unfold Lk.coms
    split
    · simp
    · split <;> simp
  have hck : ∀ a ∈ s.coms now size body, ∀ b ∈ s.coms now size body, a.copy = b.copy → a = b := fun a ha b hb' hab => by
    unfold Lk.coms at ha hb'
    split at ha
    · simp at ha
    · rename_i q1
      rw [if_neg q1] at hb'
      split at ha
      · rename_i q2
        rw [if_pos q2] at hb'
        simp only [List.mem_cons, List.not_mem_nil, or_false] at ha hb'
        rcases ha with rfl | rfl <;> rcases hb' with rfl | rfl
        · rfl
        · exact absurd hab (by show ¬ (0 : Int) = 1; decide)
        · exact absurd hab (by show ¬ (1 : Int) = 0; decide)
        · rfl
      · rename_i q2
        rw [if_neg q2] at hb'
        rw [List.mem_singleton.1 ha, List.mem_singleton.1 hb']
  refine ⟨ho.pipe, fun m hm => h.numb m (List.mem_of_mem_tail hm), by have := h.numL; simp only [Lk.putS, List.length_tail]; omega, by simp only [Lk.putS]; omega, by simp only [Lk.putS]; omega, by simp only [Lk.putS]; omega, by simp only [Lk.putS, List.length_append]; omega, by simp only [Lk.putS]; split <;> omega, by simp only [Lk.putS]; omega, by simp only [Lk.putS]; split <;> omega, ?_, ?_, ?_, ?_, ?_⟩
  · intro w hw
    simp only [Lk.putS, List.mem_append, List.mem_singleton] at hw
    rcases hw with hw | rfl
    · have := h.waitb w (List.mem_filter.1 hw).1
      omega
    · simp only; omega
  · simp only [Lk.putS, List.length_append, List.length_singleton]
    have := wq_len s.wait now
    omega
  · simp only [Lk.putS]; rw [hid]
  · intro x hx
    simp only [Lk.putS, List.mem_append] at hx ⊢
    rcases hx with hx | hx
    · exact (h.wf x hx).mono (by omega)
    · exact (hcm x hx).1
  · intro a ha b hb' e1 e2
    simp only [Lk.putS, List.mem_append] at ha hb'
    rcases ha with ha | ha <;> rcases hb' with hb' | hb'
    · exact h.key a ha b hb' e1 e2
    · have w1 := (h.wf a ha).idb
      have w2 := (hcm b hb').2
      omega
    · have w1 := (h.wf b hb').idb
      have w2 := (hcm a ha).2
      omega
    · exact hck a ha b hb' e2
/-- Some of what is under way arrived. -/
theorem iv_take (h : s.iv n) {now : Int} (h0 : s.now ≤ now) (h1 : now ≤ 1000000000) {u : List Cm} {k : Nat} (hu : ∀ x ∈ u, x ∈ s.under) (hk : k + u.length = s.under.length) : ({ s with now := now, under := u, arr := s.arr + k } : Lk).iv n := by
  have h2 := h.arrb
  have h3 := h.nowb
  exact ⟨h.pok, h.numb, h.numL, by simp only; omega, h.freeb, h.putb, by simp only; omega, h.lostb, h.dropb, h.dblb, h.waitb, h.waitL, h.id, fun x hx => h.wf x (hu x hx), fun a ha b hb => h.key a (hu a ha) b (hu b hb)⟩
theorem Lk.iv.keyB (h : s.iv n) : ∀ a ∈ s.under, ∀ b ∈ s.under, ¬ bef a b → ¬ bef b a → a = b := fun a ha b hb h1 h2 => by
  refine h.key a ha b hb ?_ ?_ <;> (unfold bef at h1 h2; omega)
end
/-- There is one order. -/
theorem sort_eq {l l' : List Cm} (hp : l.Perm l') (hs : l.Pairwise fun a b => ¬ bef b a) (hs' : l'.Pairwise fun a b => ¬ bef b a) (hk : ∀ a ∈ l, ∀ b ∈ l, ¬ bef a b → ¬ bef b a → a = b) : l = l' := by
  induction l generalizing l' with
  | nil => exact (List.nil_perm.1 hp).symm
  | cons x l ih =>
    cases l' with
    | nil => exact absurd (List.perm_nil.1 hp) (by simp)
    | cons y l' =>
      rw [List.pairwise_cons] at hs hs'
      have hxy : x = y := by
        rcases List.mem_cons.1 (hp.mem_iff.1 (List.mem_cons_self (a := x))) with e | hx
        · exact e
        · rcases List.mem_cons.1 (hp.mem_iff.2 (List.mem_cons_self (a := y))) with e | hy
          · exact e.symm
          · exact hk x (List.mem_cons_self ..) y (List.mem_cons_of_mem _ hy) (hs'.1 x hx) (hs.1 y hy)
      subst hxy
      rw [ih (List.Perm.cons_inv hp) hs.2 hs'.2 fun a ha b hb => hk a (List.mem_cons_of_mem _ ha) b (List.mem_cons_of_mem _ hb)]
theorem takeWhile_end {p : Cm → Bool} {got r : List Cm} (hg : ∀ x ∈ got, p x = true) (hr : r.takeWhile p = []) : (got ++ r).takeWhile p = got ∧ (got ++ r).dropWhile p = r := by
  have e : r.dropWhile p = r := by
    have := List.takeWhile_append_dropWhile (p := p) (l := r)
    rw [hr] at this
    simpa using this
  rw [List.takeWhile_append_of_pos hg, List.dropWhile_append_of_pos hg, hr, e]
  simp
theorem takeWhile_drop {p : Cm → Bool} (l : List Cm) : (l.dropWhile p).takeWhile p = [] := by
  induction l with
  | nil => rfl
  | cons x l ih =>
    by_cases h : p x = true
    · rw [List.dropWhile_cons_of_pos h]; exact ih
    · rw [List.dropWhile_cons_of_neg h, List.takeWhile_cons_of_neg h]
end Go.Proofs.YtnfkbgpbligloaaDoor
