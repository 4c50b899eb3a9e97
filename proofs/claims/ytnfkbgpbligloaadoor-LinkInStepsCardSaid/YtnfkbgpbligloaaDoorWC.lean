/-
  Links, plainly: what holds of a link without doubles and jitter, whatever is put.
-/
import Derived.Test.YtnfkbgpbligloaaDoorWB
set_option linter.unusedVariables false
set_option linter.unusedSimpArgs false
set_option maxRecDepth 20000
namespace Go.Proofs.YtnfkbgpbligloaaDoor
open Go Go.Aw Go.Proofs
theorem sumW_mono (l : List (Int × Int)) (h : ∀ w ∈ l, 0 ≤ w.2) {t u : Int} (htu : t ≤ u) : sumW (wq l u) ≤ sumW (wq l t) := by
  induction l with
  | nil => exact Int.le_refl _
  | cons w l ih =>
    have h1 := ih fun x hx => h x (List.mem_cons_of_mem _ hx)
    have h2 := h w (List.mem_cons_self ..)
    unfold wq at *
    by_cases hu : w.1 > u
    · have ht : w.1 > t := by omega
      rw [List.filter_cons_of_pos (by simpa using hu), List.filter_cons_of_pos (by simpa using ht)]
      simp only [sumW, List.map_cons, List.sum_cons] at *
      omega
    · rw [List.filter_cons_of_neg (by simpa using hu)]
      by_cases ht : w.1 > t
      · rw [List.filter_cons_of_pos (by simpa using ht)]
        simp only [sumW, List.map_cons, List.sum_cons] at *
        omega
      · rw [List.filter_cons_of_neg (by simpa using ht)]; exact h1
theorem wq_wq (l : List (Int × Int)) {t u : Int} (htu : t ≤ u) : wq (wq l t) u = wq l u := by
  unfold wq
  rw [List.filter_filter]
  congr 1
  funext w
  by_cases hu : w.1 > u
  · have : w.1 > t := by omega
    simp [hu, this]
  · simp [hu]
theorem wq_snoc (l : List (Int × Int)) (w : Int × Int) (t : Int) : wq (l ++ [w]) t = wq l t ++ if w.1 > t then [w] else [] := by
  unfold wq
  rw [List.filter_append]
  congr 1
  by_cases h : w.1 > t <;> simp [h]
theorem gone_bd (p : Pp) (hp : p.ok = true) (size : Int) (h0 : 0 ≤ size) (h1 : size ≤ 100000) : 0 ≤ p.gone size ∧ p.gone size ≤ 101000000 ∧ size * 1000 ≤ p.rate * p.gone size := by
  obtain ⟨-, hr, -⟩ := p.ok_iff.1 hp
  unfold Pp.gone
  refine ⟨Int.ediv_nonneg (by omega) (by omega), ?_, ?_⟩
  · have := Int.ediv_le_self (a := size * 1000 + p.rate - 1) p.rate (by omega)
    omega
  · have e := Int.mul_ediv_add_emod (size * 1000 + p.rate - 1) p.rate
    have := Int.emod_lt_of_pos (size * 1000 + p.rate - 1) (b := p.rate) (by omega)
    omega
/-- What holds of a packet that is under way. -/
structure UOk (s : Lk) (x : Cm) : Prop where
  eq : x = x.p.cm
  id : 1 ≤ x.p.id ∧ x.p.id ≤ s.id
  sent : x.p.sent ≤ x.p.begun
  time : x.p.begun + s.pipe.gone x.p.size + s.pipe.delay = x.p.time
  free : x.p.begun + s.pipe.gone x.p.size ≤ s.free
  size : 0 ≤ x.p.size ∧ x.p.size ≤ 100000
  begun : 0 ≤ x.p.begun
structure Lk.inv (s : Lk) (n : Nat) : Prop where
  ok : s.okB
  dbl0 : s.pipe.dbl = 0
  jit0 : s.pipe.jit = 0
  dbln : s.dbl = 0
  id : s.id = s.put
  putb : s.put ≤ n
  free : s.free ≤ 1000000000 + n * 101000000
  arr0 : s.arr = 0
  cnt : s.lost + (s.under.length : Int) = s.put
  und : ∀ x ∈ s.under, UOk s x
  pw : s.under.Pairwise fun a b => a.p.begun + s.pipe.gone a.p.size ≤ b.p.begun ∧ a.p.id < b.p.id
  loss0 : s.pipe.loss = 0 → s.lost = 0
  waitq : ∀ t, s.now ≤ t → sumW (wq s.wait t) ≤ s.pipe.room
  waitL : s.wait.length ≤ n
  dropb : s.drop ≤ n
theorem inv_new (p : Pp) (nums : List Int) (ho : okN p nums = true) (hd : p.dbl = 0) (hj : p.jit = 0) : (newS p nums).inv 0 := by
  unfold okN at ho
  simp only [Bool.and_eq_true, Bool.not_eq_true', decide_eq_true_eq] at ho
  obtain ⟨⟨hp, h1⟩, h2⟩ := ho
  have hn : ∀ n ∈ nums, 0 ≤ n ∧ n ≤ 999999999 := fun n hn => by
    have := List.any_eq_false.1 h2 n hn
    simp [badN, wi] at this
    omega
  obtain ⟨-, -, hr, -⟩ := p.ok_iff.1 hp
  refine ⟨⟨hp, hn, by simp [newS], by simp [newS], by simp [newS], by simp [newS], by simp [newS], by simp [newS], by simp [newS], by simp [newS], by simp [newS], by simp [newS], by simp [newS]⟩, hd, hj, rfl, rfl, by simp [newS], by simp [newS], rfl, by simp [newS], by simp [newS], by simp [newS], fun _ => rfl, fun t _ => ?_, by simp [newS], by simp [newS]⟩
  simp [newS, wq, sumW]; omega
theorem kk_bd (s : Lk) (h : s.okB) : 0 ≤ s.kk ∧ s.kk ≤ 999999999 := by
  unfold Lk.kk
  cases hnn : s.nums with
  | nil => simp
  | cons n l => exact h.nums n (by rw [hnn]; exact List.mem_cons_self ..)
theorem fate_n2 (s : Lk) (h : s.okB) (hd : s.pipe.dbl = 0) : s.pipe.fate s.kk ≠ 2 := by
  have := kk_bd s h
  unfold Pp.fate
  rw [hd]
  split
  · omega
  · rw [if_neg (by omega)]; omega
theorem fate_n1 (s : Lk) (h : s.okB) (hd : s.pipe.loss = 0) : s.pipe.fate s.kk ≠ 1 := by
  have := kk_bd s h
  unfold Pp.fate
  rw [hd, if_neg (by omega)]
  split <;> omega
theorem inv_drop {s : Lk} {n : Nat} (h : s.inv n) (hn : n < 1000) {now size : Int} (hb : badS s now size = false) : ({ s with now := now, drop := s.drop + 1 } : Lk).inv (n + 1) := by
  unfold badS at hb
  simp only [Bool.or_eq_false_iff, decide_eq_false_iff_not] at hb
  obtain ⟨⟨⟨h1, h2⟩, h3⟩, h4⟩ := hb
  have ho := h.ok
  have h5 := ho.now
  have h6 := ho.drop
  have h7 := h.free
  have h8 := h.dropb
  refine ⟨⟨ho.pipe, ho.nums, by simp only; omega, ho.free, ho.id, ho.put, ho.arr, ho.lost, by simp only; omega, ho.dbl, ho.wait, ho.waitL, ho.underL⟩, h.dbl0, h.jit0, h.dbln, h.id, by have := h.putb; simp only; omega, by simp only; omega, h.arr0, h.cnt, fun x hx => ?_, h.pw, h.loss0, fun t ht => h.waitq t (by simp only at ht; omega), by have := h.waitL; simp only; omega, by simp only; omega⟩
  have := h.und x hx
  exact ⟨this.eq, this.id, this.sent, this.time, this.free, this.size, this.begun⟩
theorem inv_put {s : Lk} {n : Nat} (h : s.inv n) (hn : n < 1000) {now size : Int} (body : List UInt8) (hb : badS s now size = false) (hd : s.dropQ now size = false) : (s.putS now size body).inv (n + 1) := by
  unfold badS at hb
  simp only [Bool.or_eq_false_iff, decide_eq_false_iff_not] at hb
  obtain ⟨⟨⟨h1, h2⟩, h3⟩, h4⟩ := hb
  have ho := h.ok
  have h5 := ho.now
  have h6 := ho.put
  have h7 := h.free
  have h8 := h.putb
  have h9 := ho.free
  have h10 := h.cnt
  have h11 := ho.lost
  have hg := gone_bd s.pipe ho.pipe size (by omega) (by omega)
  have f2 := fate_n2 s ho h.dbl0
  have hkk := kk_bd s ho
  obtain ⟨hpd, -, hroom, -⟩ := s.pipe.ok_iff.1 ho.pipe
  have hpt : (s.pk now size body).time = max now s.free + s.pipe.gone size + s.pipe.delay := by
    simp only [Lk.pk, h.jit0]; omega
  have hco : s.coms now size body = if s.pipe.fate s.kk = 1 then [] else [(s.pk now size body).cm] := by
    unfold Lk.coms; rw [if_neg f2]
  have hlw : (wq s.wait now).length ≤ s.wait.length := wq_len ..
  have h12 := h.waitL
  have h13 := ho.drop
  have hid := h.id
  have hul : (s.coms now size body).length ≤ 1 := by rw [hco]; split <;> simp
  have hx : ∀ x ∈ s.under, UOk (s.putS now size body) x := fun x hx => by
    have := h.und x hx
    refine ⟨this.eq, ⟨this.id.1, ?_⟩, this.sent, this.time, ?_, this.size, this.begun⟩
    · have := this.id.2; simp only [Lk.putS]; omega
    · have := this.free; simp only [Lk.putS]; omega
  have hnew : UOk (s.putS now size body) (s.pk now size body).cm := by
    refine ⟨rfl, ?_, ?_, ?_, ?_, ?_, ?_⟩
    · simp only [Lk.pk, Pc.cm, Lk.putS]; omega
    · simp only [Lk.pk, Pc.cm, Lk.putS]; omega
    · show _ = (s.pk now size body).time
      rw [hpt]; rfl
    · simp only [Lk.pk, Pc.cm, Lk.putS]; omega
    · simp only [Lk.pk, Pc.cm, Lk.putS]; omega
    · simp only [Lk.pk, Pc.cm, Lk.putS]; omega
  refine ⟨⟨ho.pipe, fun m hm => ho.nums m (List.mem_of_mem_tail hm), by simp only [Lk.putS]; omega, by simp only [Lk.putS]; omega, by simp only [Lk.putS]; omega, by simp only [Lk.putS]; omega, by simp only [Lk.putS]; have := ho.arr; omega, ?_, ho.drop, ?_, ?_, ?_, ?_⟩, h.dbl0, h.jit0, ?_, by simp only [Lk.putS]; omega, by simp only [Lk.putS]; omega, by simp only [Lk.putS]; omega, h.arr0, ?_, ?_, ?_, ?_, ?_, ?_, by have := h.dropb; simp only [Lk.putS]; omega⟩
  · simp only [Lk.putS]; split <;> omega
  · simp only [Lk.putS]; rw [if_neg f2]; exact ho.dbl
  · intro w hw
    simp only [Lk.putS, List.mem_append, List.mem_singleton] at hw
    rcases hw with hw | rfl
    · exact ho.wait w (List.mem_filter.1 hw).1
    · simp only; omega
  · simp only [Lk.putS, List.length_append, List.length_singleton]; omega
  · simp only [Lk.putS, List.length_append]; have := ho.underL; omega
  · simp only [Lk.putS]; rw [if_neg f2]; exact h.dbln
  · simp only [Lk.putS, List.length_append, hco]
    split
    · simp only [List.length_nil]; omega
    · simp only [List.length_singleton]; omega
  · intro x hxm
    simp only [Lk.putS, List.mem_append] at hxm
    rcases hxm with hxm | hxm
    · exact hx x hxm
    · rw [hco] at hxm
      split at hxm
      · simp at hxm
      · rw [List.mem_singleton.1 hxm]; exact hnew
  · simp only [Lk.putS]
    rw [List.pairwise_append]
    refine ⟨h.pw, ?_, fun a ha b hb => ?_⟩
    · rw [hco]; split <;> simp
    · rw [hco] at hb
      split at hb
      · simp at hb
      · rw [List.mem_singleton.1 hb]
        have := h.und a ha
        have h14 := this.free
        have h15 := this.id
        simp only [Lk.pk, Pc.cm]; omega
  · intro hl0
    have f1 := fate_n1 s ho hl0
    simp only [Lk.putS]; rw [if_neg f1]; exact h.loss0 hl0
  · intro t ht
    have ht' : now ≤ t := ht
    have hq := h.waitq t (by omega)
    simp only [Lk.putS]
    rw [wq_snoc, wq_wq _ ht']
    split
    · rename_i hbt
      rw [sumW_snoc]
      simp only at hbt ⊢
      have hm := sumW_mono s.wait (fun w hw => (ho.wait w hw).1) ht'
      unfold Lk.dropQ at hd
      rw [Bool.and_eq_false_iff, decide_eq_false_iff_not, decide_eq_false_iff_not] at hd
      rcases hd with hd | hd <;> omega
    · rw [List.append_nil]; exact hq
  · simp only [Lk.putS, List.length_append, List.length_singleton]; omega
/-- What is sorted already is what sorting gives. -/
theorem sort_same {l us : List Cm} (hp : l.Perm us) (hs : l.Pairwise fun a b => ¬ bef b a) (hu : us.Pairwise bef) : l = us := by
  have hirr : ∀ a : Cm, ¬ bef a a := fun a => by unfold bef; omega
  induction us generalizing l with
  | nil => exact List.perm_nil.1 hp
  | cons u us ih =>
    rw [List.pairwise_cons] at hu
    cases l with
    | nil => exact absurd (List.nil_perm.1 hp) (by simp)
    | cons x l =>
      rw [List.pairwise_cons] at hs
      have hxu : x = u := by
        rcases List.mem_cons.1 (hp.mem_iff.1 (List.mem_cons_self ..)) with e | hx
        · exact e
        · rcases List.mem_cons.1 (hp.mem_iff.2 (List.mem_cons_self ..)) with e | hu2
          · exact e.symm
          · exact absurd (hu.1 x hx) (hs.1 u hu2)
      subst hxu
      rw [ih (List.Perm.cons_inv hp) hs.2 hu.2]
theorem inv_bef {s : Lk} {n : Nat} (h : s.inv n) : s.under.Pairwise bef := by
  have hpw := h.pw
  have hu := h.und
  refine hpw.imp_of_mem fun {a b} ha hb h2 => ?_
  have ea := hu a ha
  have eb := hu b hb
  have e1 : a.time = a.p.time ∧ a.id = a.p.id := by rw [ea.eq]; exact ⟨rfl, rfl⟩
  have e2 : b.time = b.p.time ∧ b.id = b.p.id := by rw [eb.eq]; exact ⟨rfl, rfl⟩
  have h3 := ea.time
  have h4 := eb.time
  have h5 := (gone_bd s.pipe h.ok.pipe b.p.size eb.size.1 eb.size.2).1
  unfold bef
  omega
theorem inv_inB {s : Lk} {n : Nat} (h : s.inv n) : ∀ x ∈ s.under, x.inB ∧ 0 ≤ x.p.time ∧ x.p.time < 1152921504606846976 := fun x hx => by
  have e := h.und x hx
  have h1 := h.ok.free
  have h2 := h.ok.id
  obtain ⟨hpd, -⟩ := s.pipe.ok_iff.1 h.ok.pipe
  have h3 := (gone_bd s.pipe h.ok.pipe x.p.size e.size.1 e.size.2).1
  have h4 := e.time
  have h5 := e.free
  have h6 := e.begun
  have h7 := e.id
  have e1 : x.time = x.p.time ∧ x.id = x.p.id ∧ x.copy = 0 := by rw [e.eq]; exact ⟨rfl, rfl, rfl⟩
  unfold Cm.inB
  omega
/-- What is sent between two beginnings. -/
theorem rate_le {s : Lk} {n : Nat} (h : s.inv n) {us : List Cm} (hsub : us.Sublist s.under) (i k : Nat) (hk : k < us.length) (hi : i < us.length) (hik : i ≤ k) :
    0 ≤ (((us.drop i).take (k - i)).map (·.p.size)).sum ∧ (((us.drop i).take (k - i)).map (·.p.size)).sum ≤ 100000 * ((k - i : Nat) : Int) ∧
    (((us.drop i).take (k - i)).map (·.p.size)).sum * 1000 ≤ s.pipe.rate * (us[k].p.begun - us[i].p.begun) ∧ 0 ≤ us[k].p.begun - us[i].p.begun := by
  have hpw := h.pw.sublist hsub
  have hm : ∀ x ∈ us, UOk s x := fun x hx => h.und x (hsub.subset hx)
  obtain ⟨-, hr, -⟩ := s.pipe.ok_iff.1 h.ok.pipe
  obtain ⟨d, rfl⟩ : ∃ d, k = i + d := ⟨k - i, by omega⟩
  clear hik
  induction d with
  | zero => simp
  | succ d ih =>
    have hlt : i + d < us.length := by omega
    obtain ⟨i1, i2, i3, i4⟩ := ih hlt
    rw [Nat.add_sub_cancel_left] at *
    have e : (us.drop i).take (d + 1) = (us.drop i).take d ++ [us[i + d]] := by
      rw [List.take_add_one, List.getElem?_drop, List.getElem?_eq_getElem hlt]; rfl
    rw [e, List.map_append, List.sum_append]
    have h1 := (List.pairwise_iff_getElem.1 hpw (i + d) (i + (d + 1)) hlt hk (by omega)).1
    have h2 := (hm us[i + d] (List.getElem_mem _)).size
    have h3 := gone_bd s.pipe h.ok.pipe us[i + d].p.size h2.1 h2.2
    simp only [List.map_cons, List.map_nil, List.sum_cons, List.sum_nil, Int.add_zero]
    have h4 : s.pipe.rate * s.pipe.gone us[i + d].p.size ≤ s.pipe.rate * (us[i + (d + 1)].p.begun - us[i + d].p.begun) := Int.mul_le_mul_of_nonneg_left (by omega) (by omega)
    have h5 : s.pipe.rate * (us[i + (d + 1)].p.begun - us[i].p.begun) = s.pipe.rate * (us[i + d].p.begun - us[i].p.begun) + s.pipe.rate * (us[i + (d + 1)].p.begun - us[i + d].p.begun) := by
      rw [← Int.mul_add]; congr 1; omega
    refine ⟨by omega, by omega, by omega, by omega⟩
end Go.Proofs.YtnfkbgpbligloaaDoor
