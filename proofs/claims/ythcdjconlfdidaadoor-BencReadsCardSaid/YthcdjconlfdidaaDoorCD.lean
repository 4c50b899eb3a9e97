/-
  Plain law: what is written is read, and what is read was written so.
-/
import Derived.Test.YthcdjconlfdidaaDoorCC
set_option linter.unusedVariables false
set_option linter.unusedSimpArgs false
namespace Go.Aw
open Go.Lib BV
theorem itoa_nat (n : Nat) : itoa (n : Int) = decDigits n := by unfold itoa; rw [if_neg (by omega)]; rfl
theorem wText_len (k : List UInt8) : k.length ≤ (wText k).length := by unfold wText; simp; omega
/-- What a reader read was written so. -/
structure Was (s : List UInt8) (lv i n : Nat) (v : BV) (j n' : Nat) : Prop where
  txt : ∃ q, s.drop i = v.write ++ q
  pos : j = i + v.write.length
  form : v.form = true
  nums : v.nums
  cnt : n' = n + v.count
  dep : v.depth ≤ lv
theorem drop_app {s a b : List UInt8} {i : Nat} (h : s.drop i = a ++ b) : s.drop (i + a.length) = b := by rw [← List.drop_drop, h, List.drop_left]
theorem kidsB {s : List UInt8} {f : Nat → Nat → Rr BV} {lv : Nat} (hg : Goes s f) (hf : ∀ i n v j n', i ≤ s.length → f i n = .ok v j n' → Was s lv i n v j n') (d : Bool) :
    ∀ (fuel i n : Nat) (kids : List BV) (keys : List (List UInt8)) (kk : List BV × List (List UInt8)) (j n' : Nat), i ≤ s.length → kidsR f s d fuel i n kids keys = .ok kk j n' →
    ∃ l ks q, kk = (kids ++ l, keys ++ ks) ∧ s.drop i = (if d then writeD ks l else writeL l) ++ 101 :: q ∧ j = i + (if d then writeD ks l else writeL l).length + 1 ∧ (d = true → ks.length = l.length ∧ ascF keys.getLast? ks = true) ∧ (d = false → ks = []) ∧
      formL l = true ∧ numsL l ∧ n' = n + countL l ∧ depthL l ≤ lv
  | 0, i, n, kids, keys, kk, j, n', hi, h => by unfold kidsR at h; cases h
  | fuel + 1, i, n, kids, keys, kk, j, n', hi, h => by
    unfold kidsR at h
    cases hc : s[i]? with
    | none => rw [hc] at h; cases h
    | some c =>
      have hlt := (List.getElem?_eq_some_iff.1 hc).1
      have hsi : s[i] = c := by rw [List.getElem?_eq_getElem hlt] at hc; exact Option.some.inj hc
      rw [hc] at h
      simp only at h
      split at h
      · rename_i he
        cases h
        refine ⟨[], [], s.drop (i + 1), by simp, ?_, ?_, fun _ => ⟨rfl, rfl⟩, fun _ => rfl, rfl, trivial, rfl, Nat.zero_le _⟩
        · rw [List.drop_eq_getElem_cons hlt, hsi, he]; cases d <;> rfl
        · cases d <;> rfl
      · split at h
        · rename_i hd
          subst hd
          split at h
          · cases h
          · cases ht : textR s i with
            | bad a e => rw [ht] at h; cases h
            | ok k j1 m =>
              rw [ht] at h
              simp only at h
              have hto := textR_ok hi ht
              obtain ⟨q1, t1, t2, t3⟩ := text_inv hi ht
              split at h
              · cases h
              · rename_i hbe
                cases hv : f j1 n with
                | bad a e => rw [hv] at h; cases h
                | ok v i2 n2 =>
                  rw [hv] at h
                  simp only at h
                  have hw := hf _ _ _ _ _ hto.2.1 hv
                  have hgo := hg.ok _ _ _ _ _ hto.2.1 hv
                  obtain ⟨l, ks, q, e1, e2, e3, e4, e5, e6, e7, e8, e9⟩ := kidsB hg hf true fuel _ _ _ _ _ _ _ hgo.2.1 h
                  obtain ⟨q2, w1⟩ := hw.txt
                  obtain ⟨e4a, e4b⟩ := e4 rfl
                  have hb : behind keys k = true := by
                    cases hh : behind keys k with
                    | true => rfl
                    | false => exact absurd hh hbe
                  have d1 : q1 = s.drop j1 := by rw [t2, drop_app t1]
                  have d2 : q2 = s.drop i2 := by rw [hw.pos, drop_app w1]
                  rw [List.getLast?_concat] at e4b
                  simp only [if_true] at e2 e3
                  refine ⟨v :: l, k :: ks, q, by rw [e1]; simp, ?_, ?_, fun _ => ⟨by simp [e4a], ?_⟩, (fun h => by cases h), ?_, ⟨hw.nums, e7⟩, ?_, ?_⟩
                  · rw [t1, d1, w1, d2, e2]; simp [writeD]
                  · simp only [writeD, if_true, List.length_append]; rw [e3, hw.pos, t2]; omega
                  · simp only [ascF, e4b, Bool.and_true]; exact hb
                  · simp [formL, hw.form, e6]
                  · simp only [countL]; rw [e8, hw.cnt]; omega
                  · simp only [depthL]; exact Nat.max_le.2 ⟨hw.dep, e9⟩
        · rename_i hd
          have hd : d = false := by cases d with | true => exact absurd rfl hd | false => rfl
          subst hd
          cases hv : f i n with
          | bad a e => rw [hv] at h; cases h
          | ok v i2 n2 =>
            rw [hv] at h
            simp only at h
            have hw := hf _ _ _ _ _ hi hv
            have hgo := hg.ok _ _ _ _ _ hi hv
            obtain ⟨l, ks, q, e1, e2, e3, e4, e5, e6, e7, e8, e9⟩ := kidsB hg hf false fuel _ _ _ _ _ _ _ hgo.2.1 h
            obtain ⟨q2, w1⟩ := hw.txt
            have d2 : q2 = s.drop i2 := by rw [hw.pos, drop_app w1]
            simp only [Bool.false_eq_true, if_false] at e2 e3
            have e5 := e5 rfl
            subst e5
            refine ⟨v :: l, [], q, by rw [e1]; simp, ?_, ?_, (fun h => by cases h), fun _ => rfl, ?_, ⟨hw.nums, e7⟩, ?_, ?_⟩
            · rw [w1, d2, e2]; simp [writeL]
            · simp only [writeL, Bool.false_eq_true, if_false, List.length_append]; rw [e3, hw.pos]; omega
            · simp [formL, hw.form, e6]
            · simp only [countL]; rw [e8, hw.cnt]; omega
            · simp only [depthL]; exact Nat.max_le.2 ⟨hw.dep, e9⟩
theorem val_inv (s : List UInt8) : ∀ (lv i n : Nat) (v : BV) (j n' : Nat), i ≤ s.length → valR s lv i n = .ok v j n' → Was s lv i n v j n'
  | 0, i, n, v, j, n', hi, h => by
    unfold valR at h
    split at h
    · cases h
    · split at h <;> cases h
  | lv + 1, i, n, v, j, n', hi, h => by
    unfold valR at h
    cases hc : s[i]? with
    | none => rw [hc] at h; cases h
    | some c =>
      have hlt := (List.getElem?_eq_some_iff.1 hc).1
      have hsi : s[i] = c := by rw [List.getElem?_eq_getElem hlt] at hc; exact Option.some.inj hc
      rw [hc] at h
      simp only at h
      split at h
      · cases h
      · rename_i hbg
        split at h
        · cases h
        · unfold restR at h
          split at h
          · cases ht : textR s i with
            | bad a e => rw [ht] at h; cases h
            | ok t j1 m =>
              rw [ht] at h
              cases h
              obtain ⟨q1, t1, t2, t3⟩ := text_inv hi ht
              exact ⟨⟨q1, t1⟩, t2, by simp [form, formL], by simp [BV.nums, numsL], rfl, by simp [depth, depthL]⟩
          · rename_i hnd
            split at h
            · rename_i h105
              cases ht : numR s (i + 1) with
              | bad a e => rw [ht] at h; cases h
              | ok t j1 m =>
                rw [ht] at h
                cases h
                obtain ⟨q1, t1, t2, t3⟩ := numR_inv (by omega) ht
                have hw : (BV.mk 1 t [] [] []).write = 105 :: (itoa t ++ [101]) := rfl
                refine ⟨⟨q1, ?_⟩, ?_, by simp [form, formL], ⟨t3, trivial⟩, rfl, by simp [depth, depthL]⟩
                · rw [List.drop_eq_getElem_cons hlt, hsi, h105, t1, hw]; simp
                · rw [hw, t2]; simp; omega
            · rename_i h105
              cases hk : kidsR (valR s lv) s (c == 100) (s.length + 1) (i + 1) (n + 1) [] [] with
              | bad a e => rw [hk] at h; cases h
              | ok kk j1 m =>
                rw [hk] at h
                obtain ⟨l, ks, q, e1, e2, e3, e4, e5, e6, e7, e8, e9⟩ := kidsB (valR_goes s lv) (val_inv s lv) (c == 100) _ _ _ _ _ _ _ _ (by omega) hk
                subst e1
                simp only [List.nil_append] at h
                cases h
                have hcc : c = 108 ∨ c = 100 := by
                  cases hb : begins c with
                  | false => exact absurd hb hbg
                  | true =>
                    unfold begins at hb
                    simp only [Bool.or_eq_true, beq_iff_eq] at hb
                    rcases hb with ((hb | hb) | hb) | hb
                    · exact absurd hb h105
                    · exact .inl hb
                    · exact .inr hb
                    · exact absurd hb hnd
                rcases hcc with hcc | hcc
                · subst hcc
                  have e5 := e5 rfl
                  subst e5
                  simp only [show ((108 : UInt8) == 100) = false from rfl, Bool.false_eq_true, if_false] at e2 e3
                  have hw : (BV.mk 3 0 [] l []).write = 108 :: (writeL l ++ [101]) := rfl
                  rw [show (if (108 : UInt8) = 100 then (4 : Int) else 3) = 3 from rfl]
                  refine ⟨⟨q, ?_⟩, ?_, by simp [form, e6], ⟨by omega, e7⟩, by simp only [count]; rw [e8]; omega, by simp only [depth]; omega⟩
                  · rw [List.drop_eq_getElem_cons hlt, hsi, e2, hw]; simp
                  · rw [hw, e3]; simp; omega
                · subst hcc
                  obtain ⟨e4a, e4b⟩ := e4 rfl
                  simp only [show ((100 : UInt8) == 100) = true from rfl, if_true] at e2 e3
                  have hw : (BV.mk 4 0 [] l ks).write = 100 :: (writeD ks l ++ [101]) := rfl
                  rw [show (if (100 : UInt8) = 100 then (4 : Int) else 3) = 4 from rfl]
                  refine ⟨⟨q, ?_⟩, ?_, by simp [form, e6, e4a, asc]; exact e4b, ⟨by omega, e7⟩, by simp only [count]; rw [e8]; omega, by simp only [depth]; omega⟩
                  · rw [List.drop_eq_getElem_cons hlt, hsi, e2, hw]; simp
                  · rw [hw, e3]; simp; omega
/-- A value is valid. -/
def BV.valid (v : BV) : Bool := v.form && decide (v.count ≤ 1000) && decide (v.depth ≤ 12) && decide (v.write.length ≤ 65536)
theorem parse_inv {s : List UInt8} {v : BV} (h : parseR s = (v, 0)) : v.valid = true ∧ v.nums ∧ s = v.write := by
  unfold parseR readR at h
  split at h
  · simp at h
  · rename_i hl
    cases hv : valR s 12 0 0 with
    | bad a e =>
      rw [hv] at h
      have := (valR_goes s 12).bad _ _ _ _ (Nat.zero_le _) hv
      simp only at h
      split at h
      · injection h with h1 h2; omega
      · rename_i he; omega
    | ok w j n' =>
      rw [hv] at h
      simp only [ne_eq, not_true_eq_false, if_false] at h
      have hgo := (valR_goes s 12).ok _ _ _ _ _ (Nat.zero_le _) hv
      have hw := val_inv s 12 0 0 w j n' (Nat.zero_le _) hv
      split at h
      · injection h with h1 h2; omega
      · rename_i hj
        injection h with h1 h2
        subst h1
        obtain ⟨q, hq⟩ := hw.txt
        rw [List.drop_zero] at hq
        have hlen : s.length = w.write.length + q.length := by rw [hq]; simp
        have hp := hw.pos
        have hq0 : q = [] := List.length_eq_zero_iff.1 (by omega)
        subst hq0
        rw [List.append_nil] at hq
        have hc := hw.cnt
        refine ⟨?_, hw.nums, hq⟩
        unfold BV.valid
        simp only [Bool.and_eq_true, decide_eq_true_eq]
        exact ⟨⟨⟨hw.form, by omega⟩, hw.dep⟩, by omega⟩
end Go.Aw

