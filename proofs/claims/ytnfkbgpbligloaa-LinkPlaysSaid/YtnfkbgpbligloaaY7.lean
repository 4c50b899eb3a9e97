/-
  Links, plainly: a link and its specification go alike.
-/
import Derived.Test.YtnfkbgpbligloaaY6
set_option linter.unusedVariables false
set_option linter.unusedSimpArgs false
set_option maxRecDepth 20000
set_option maxHeartbeats 1000000
namespace Go.Proofs.Ytnfkbgpbligloaa
open Go Go.Aw Go.Proofs
structure Cpl (s : Lk) (r : Rk) (n : Nat) : Prop where
  pok : s.pipe.ok = true
  numb : ∀ m ∈ r.nums, 0 ≤ m ∧ m ≤ 999999999
  nowb : 0 ≤ s.now ∧ s.now ≤ 1000000000
  freeb : 0 ≤ s.free ∧ s.free ≤ 1000000000 + n * 101000000
  putb : 0 ≤ s.put ∧ s.put ≤ n
  arrb : 0 ≤ s.arr ∧ s.arr + s.under.length ≤ 2 * n
  lostb : 0 ≤ s.lost ∧ s.lost ≤ n
  dropb : 0 ≤ s.drop ∧ s.drop ≤ n
  dblb : 0 ≤ s.dbl ∧ s.dbl ≤ n
  waitb : ∀ w ∈ s.wait, 0 ≤ w.2 ∧ w.2 ≤ 100000
  waitL : s.wait.length ≤ n
  allb : ∀ x ∈ r.all, 0 ≤ x.size ∧ x.size ≤ 100000
  allL : r.all.length ≤ n
  pipe : r.pipe = s.pipe
  now : r.now = s.now
  free : r.free = s.free
  put : r.put = s.put
  id : s.id = s.put
  arr : r.arr = s.arr
  lost : r.lost = s.lost
  drop : r.drop = s.drop
  dbl : r.dbl = s.dbl
  nums : s.nums = r.nums.drop r.put.toNat
  wait : ∀ t, s.now ≤ t → sumW (wq s.wait t) = sumW (wq (allW r.all) t)
  und : s.under.Perm r.under
  wf : ∀ x ∈ s.under, x.wf ∧ (0 ≤ x.time ∧ x.time ≤ 1000000000 + n * 101000000 + 20000) ∧ (1 ≤ x.id ∧ x.id ≤ s.put)
  key : ∀ a ∈ s.under, ∀ b ∈ s.under, a.id = b.id → a.copy = b.copy → a = b
section
variable {s : Lk} {r : Rk} {n : Nat}
theorem Cpl.okS (h : Cpl s r n) (hn : n < 1000) : s.okB := by
  have h1 := h.freeb
  have h2 := h.putb
  have h3 := h.arrb
  have h4 := h.lostb
  have h5 := h.dropb
  have h6 := h.dblb
  have h7 := h.id
  have h8 := h.waitL
  refine ⟨h.pok, fun m hm => h.numb m (List.mem_of_mem_drop (by rw [← h.nums]; exact hm)), h.nowb, by omega, by omega, by omega, by omega, by omega, by omega, by omega, h.waitb, by omega, by omega⟩
theorem Cpl.okR (h : Cpl s r n) (hn : n < 1000) : r.okB := by
  have h1 := h.freeb
  have h2 := h.putb
  have h3 := h.arrb
  have h4 := h.lostb
  have h5 := h.dropb
  have h6 := h.dblb
  have h8 := h.allL
  have h9 := h.und.length_eq
  exact ⟨by rw [h.pipe]; exact h.pok, h.numb, by rw [h.now]; exact h.nowb, by rw [h.free]; omega, by rw [h.put]; omega, by rw [h.arr]; omega, by rw [h.lost]; omega, by rw [h.drop]; omega, by rw [h.dbl]; omega, h.allb, by omega, by omega⟩
theorem Cpl.inB (h : Cpl s r n) (hn : n < 1000) : ∀ x ∈ s.under, x.inB ∧ 0 ≤ x.p.time ∧ x.p.time < 1152921504606846976 := fun x hx => by
  obtain ⟨⟨w1, w2, w3⟩, w4, w5⟩ := h.wf x hx
  have h2 := h.putb
  rw [w1] at w4
  unfold Cm.inB
  rw [w1]
  refine ⟨⟨⟨by omega, by omega⟩, ⟨by omega, by omega⟩, ?_⟩, by omega, by omega⟩
  rcases w3 with w3 | w3 <;> rw [w3] <;> decide
theorem Cpl.wfR (h : Cpl s r n) : ∀ x ∈ r.under, x.wf := fun x hx => (h.wf x (h.und.mem_iff.2 hx)).1
theorem Cpl.keyR (h : Cpl s r n) : ∀ a ∈ r.under, ∀ b ∈ r.under, ¬ bef a b → ¬ bef b a → a = b := fun a ha b hb h1 h2 => by
  have e1 := h.und.mem_iff.2 ha
  have e2 := h.und.mem_iff.2 hb
  have e3 := (h.wf a e1).1.2.2
  have e4 := (h.wf b e2).1.2.2
  unfold bef at h1 h2
  exact h.key a e1 b e2 (by omega) (by omega)
theorem Cpl.mono (h : Cpl s r n) : Cpl s r (n + 1) := by
  have h1 := h.freeb
  have h2 := h.putb
  have h3 := h.arrb
  have h4 := h.lostb
  have h5 := h.dropb
  have h6 := h.dblb
  have h8 := h.allL
  have h9 := h.waitL
  refine { h with freeb := by omega, putb := by omega, arrb := by omega, lostb := by omega, dropb := by omega, dblb := by omega, waitL := by omega, allL := by omega, wf := fun x hx => ?_ }
  obtain ⟨w1, w2, w3⟩ := h.wf x hx
  exact ⟨w1, by omega, w3⟩
theorem Cpl.bad (h : Cpl s r n) (now : Int) : rBad r now = badT s now := by
  unfold rBad badT
  rw [h.now]
theorem Cpl.badS (h : Cpl s r n) (now size : Int) : rBadS r now size = badS s now size := by
  unfold rBadS Go.Proofs.Ytnfkbgpbligloaa.badS rBad wi
  rw [h.now, Bool.eq_iff_iff]
  simp
  omega
/-- A time is told. -/
theorem Cpl.tell (h : Cpl s r n) {now : Int} (hb : badT s now = false) : Cpl { s with now := now } { r with now := now } n := by
  unfold badT at hb
  simp only [Bool.or_eq_false_iff, decide_eq_false_iff_not] at hb
  have h0 := h.nowb
  exact { h with nowb := by simp only; omega, now := rfl, wait := fun t ht => h.wait t (by simp only at ht; omega) }
theorem Cpl.set (h : Cpl s r n) {p : Pp} (hp : p.ok = true) : Cpl { s with pipe := p } { r with pipe := p } n := { h with pok := hp, pipe := rfl }
theorem Cpl.dropQ (h : Cpl s r n) {now size : Int} (hb : Go.Proofs.Ytnfkbgpbligloaa.badS s now size = false) : r.dropQ now size = s.dropQ now size := by
  unfold Go.Proofs.Ytnfkbgpbligloaa.badS at hb
  simp only [Bool.or_eq_false_iff, decide_eq_false_iff_not] at hb
  unfold Rk.dropQ Lk.dropQ
  rw [h.free, h.pipe, h.wait now (by omega)]
theorem Cpl.dropped (h : Cpl s r n) {now size : Int} (hb : Go.Proofs.Ytnfkbgpbligloaa.badS s now size = false) : Cpl { s with now := now, drop := s.drop + 1 } { r with now := now, drop := r.drop + 1 } (n + 1) := by
  unfold Go.Proofs.Ytnfkbgpbligloaa.badS at hb
  simp only [Bool.or_eq_false_iff, decide_eq_false_iff_not] at hb
  have h0 := h.nowb
  have hm := h.mono
  have h5 := h.dropb
  exact { hm with nowb := by simp only; omega, now := rfl, dropb := by simp only; omega, drop := by simp only; rw [h.drop], wait := fun t ht => h.wait t (by simp only at ht; omega) }
theorem headD_drop (l : List Int) : l.headD 0 = l.headD 0 := rfl
theorem Cpl.taken (h : Cpl s r n) (hn : n < 1000) {now size : Int} (body : List UInt8) (hb : Go.Proofs.Ytnfkbgpbligloaa.badS s now size = false) : Cpl (s.putS now size body) (r.putS now size body) (n + 1) ∧ r.put + 1 = s.id + 1 := by
  have hbb := hb
  unfold Go.Proofs.Ytnfkbgpbligloaa.badS at hb
  simp only [Bool.or_eq_false_iff, decide_eq_false_iff_not] at hb
  obtain ⟨⟨⟨b1, b2⟩, b3⟩, b4⟩ := hb
  have ho := h.okS hn
  have h0 := h.nowb
  have h1 := h.freeb
  have h2 := h.putb
  have h3 := h.arrb
  have h4 := h.lostb
  have h5 := h.dropb
  have h6 := h.dblb
  have h7 := h.waitL
  have h8 := h.allL
  have hid := h.id
  have hkk : r.kk = s.kk := by unfold Rk.kk Lk.kk; rw [h.nums]
  have hpk : r.pk now size body = s.pk now size body := by
    unfold Rk.pk Lk.pk
    rw [hkk, h.pipe, h.free, h.put, h.id]
  have hco : r.coms now size body = s.coms now size body := by
    unfold Rk.coms Lk.coms
    rw [hkk, h.pipe, hpk]
  have hg := gone_bd s.pipe ho.pipe size (by omega) (by omega)
  have hkb := kk_bd s ho
  obtain ⟨hpd, -, -, -, -, hpj⟩ := s.pipe.ok_iff.1 ho.pipe
  have hmod : 0 ≤ s.kk / 10000 % (s.pipe.jit + 1) ∧ s.kk / 10000 % (s.pipe.jit + 1) ≤ 1000 := ⟨Int.emod_nonneg _ (by omega), by have := Int.emod_lt_of_pos (s.kk / 10000) (b := s.pipe.jit + 1) (by omega); omega⟩
  have hpt : (s.pk now size body).time = max now s.free + s.pipe.gone size + s.pipe.delay + s.kk / 10000 % (s.pipe.jit + 1) := rfl
  have hpi : (s.pk now size body).id = s.put + 1 := by show s.id + 1 = _; rw [hid]
  have hcm : ∀ x ∈ s.coms now size body, x.wf ∧ (0 ≤ x.time ∧ x.time ≤ 1000000000 + ((n + 1 : Nat) : Int) * 101000000 + 20000) ∧ x.id = s.put + 1 := fun x hx => by
    unfold Lk.coms at hx
    split at hx
    · simp at hx
    · split at hx
      · simp only [List.mem_cons, List.not_mem_nil, or_false] at hx
        rcases hx with rfl | rfl
        · exact ⟨⟨rfl, rfl, .inl rfl⟩, by show 0 ≤ (s.pk now size body).time ∧ (s.pk now size body).time ≤ _; rw [hpt]; omega, hpi⟩
        · exact ⟨⟨rfl, rfl, .inr rfl⟩, by show 0 ≤ (s.pk now size body).time + 1 ∧ (s.pk now size body).time + 1 ≤ _; rw [hpt]; omega, hpi⟩
      · rw [List.mem_singleton.1 hx]
        exact ⟨⟨rfl, rfl, .inl rfl⟩, by show 0 ≤ (s.pk now size body).time ∧ (s.pk now size body).time ≤ _; rw [hpt]; omega, hpi⟩
  have hcl : (s.coms now size body).length ≤ 2 := by
    unfold Lk.coms
    split
    · simp
    · split <;> simp
  have hck : ∀ a ∈ s.coms now size body, ∀ b ∈ s.coms now size body, a.copy = b.copy → a = b := fun a ha b hb' hab => by
    unfold Lk.coms at ha hb'
    split at ha
    · simp at ha
    · rename_i q1
      rw [if_neg q1] at hb'
      split at ha
      · rename_i q2
        rw [if_pos q2] at hb'
        simp only [List.mem_cons, List.not_mem_nil, or_false] at ha hb'
        rcases ha with rfl | rfl <;> rcases hb' with rfl | rfl
        · rfl
        · exact absurd hab (by show ¬ (0 : Int) = 1; decide)
        · exact absurd hab (by show ¬ (1 : Int) = 0; decide)
        · rfl
      · rename_i q2
        rw [if_neg q2] at hb'
        rw [List.mem_singleton.1 ha, List.mem_singleton.1 hb']
  refine ⟨⟨ho.pipe, h.numb, by simp only [Lk.putS]; omega, by simp only [Lk.putS]; omega, by simp only [Lk.putS]; omega, by simp only [Lk.putS, List.length_append]; omega, by simp only [Lk.putS]; split <;> omega, by simp only [Lk.putS]; omega, by simp only [Lk.putS]; split <;> omega, ?_, ?_, ?_, ?_, h.pipe, rfl, ?_, ?_, ?_, h.arr, ?_, h.drop, ?_, ?_, ?_, ?_, ?_, ?_⟩, by rw [h.put, hid]⟩
  · intro w hw
    simp only [Lk.putS, List.mem_append, List.mem_singleton] at hw
    rcases hw with hw | rfl
    · exact ho.wait w (List.mem_filter.1 hw).1
    · simp only; omega
  · simp only [Lk.putS, List.length_append, List.length_singleton]
    have := wq_len s.wait now
    omega
  · intro x hx
    simp only [Rk.putS, List.mem_append, List.mem_singleton] at hx
    rcases hx with hx | rfl
    · exact h.allb x hx
    · simp only [Rk.pk]; omega
  · simp only [Rk.putS, List.length_append, List.length_singleton]; omega
  · simp only [Rk.putS, Lk.putS]; rw [h.free, h.pipe]
  · simp only [Rk.putS, Lk.putS]; rw [h.put]
  · simp only [Lk.putS]; rw [hid]
  · simp only [Rk.putS, Lk.putS]; rw [hkk, h.pipe, h.lost]
  · simp only [Rk.putS, Lk.putS]; rw [hkk, h.pipe, h.dbl]
  · simp only [Rk.putS, Lk.putS]
    rw [h.nums, List.tail_drop]
    congr 1
    rw [h.put]; omega
  · intro t ht
    have ht' : now ≤ t := ht
    simp only [Rk.putS, Lk.putS]
    have e : allW (r.all ++ [r.pk now size body]) = allW r.all ++ [(max now s.free, size)] := by
      unfold allW
      rw [List.map_append, hpk]; rfl
    rw [e, wq_snoc, wq_snoc, wq_wq _ ht']
    have hw := h.wait t (by omega)
    split
    · rw [sumW_snoc, sumW_snoc, hw]
    · rw [List.append_nil, List.append_nil, hw]
  · simp only [Rk.putS, Lk.putS]
    rw [hco]
    exact h.und.append_right _
  · intro x hx
    simp only [Lk.putS, List.mem_append] at hx ⊢
    rcases hx with hx | hx
    · obtain ⟨w1, w2, w3⟩ := h.wf x hx
      exact ⟨w1, by omega, by omega⟩
    · obtain ⟨w1, w2, w3⟩ := hcm x hx
      exact ⟨w1, by omega, by omega⟩
  · intro a ha b hb' e1 e2
    simp only [Lk.putS, List.mem_append] at ha hb'
    rcases ha with ha | ha <;> rcases hb' with hb' | hb'
    · exact h.key a ha b hb' e1 e2
    · have w1 := (h.wf a ha).2.2
      have w2 := (hcm b hb').2.2
      omega
    · have w1 := (h.wf b hb').2.2
      have w2 := (hcm a ha).2.2
      omega
    · exact hck a ha b hb' e2
/-- What arrived is taken. -/
theorem Cpl.take (h : Cpl s r n) {now : Int} (hb : badT s now = false) {l u' : List Cm} (hl : l.Perm s.under) (hu : u'.Perm (l.dropWhile fun x => decide (x.time ≤ now))) :
    Cpl { s with now := now, under := l.dropWhile (fun x => decide (x.time ≤ now)), arr := s.arr + (l.takeWhile fun x => decide (x.time ≤ now)).length } { r with now := now, under := u', arr := r.arr + (l.takeWhile fun x => decide (x.time ≤ now)).length } n := by
  have ht := h.tell hb
  have h3 := h.arrb
  have hlen : (l.takeWhile fun x => decide (x.time ≤ now)).length + (l.dropWhile fun x => decide (x.time ≤ now)).length = s.under.length := by rw [← List.length_append, List.takeWhile_append_dropWhile, hl.length_eq]
  have hm : ∀ x ∈ l.dropWhile (fun x => decide (x.time ≤ now)), x ∈ s.under := fun x hx => hl.mem_iff.1 ((List.dropWhile_sublist _).subset hx)
  exact { ht with arrb := by simp only; omega, arr := by simp only; rw [h.arr], und := hu.symm, wf := fun x hx => h.wf x (hm x hx), key := fun a ha b hb' => h.key a (hm a ha) b (hm b hb') }
end
theorem Cpl.new (p : Pp) (nums : List Int) (ho : okN p nums = true) : Cpl (newS p nums) (rNewS p nums) 0 := by
  unfold okN at ho
  simp only [Bool.and_eq_true, Bool.not_eq_true', decide_eq_true_eq] at ho
  obtain ⟨⟨hp, h1⟩, h2⟩ := ho
  have hn : ∀ n ∈ nums, 0 ≤ n ∧ n ≤ 999999999 := fun n hn => by
    have := List.any_eq_false.1 h2 n hn
    simp [badN, wi] at this
    omega
  refine ⟨hp, hn, by simp [newS], by simp [newS], by simp [newS], by simp [newS], by simp [newS], by simp [newS], by simp [newS], by simp [newS], by simp [newS], by simp [rNewS], by simp [rNewS], rfl, rfl, rfl, rfl, rfl, rfl, rfl, rfl, rfl, by simp [newS, rNewS], fun t _ => by simp [newS, rNewS, wq, sumW, allW], .refl _, by simp [newS], by simp [newS]⟩
end Go.Proofs.Ytnfkbgpbligloaa
