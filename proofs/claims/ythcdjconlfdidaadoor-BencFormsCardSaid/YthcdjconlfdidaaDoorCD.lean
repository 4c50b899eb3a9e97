/-
  Plain law: what is written is read, and what is read was written so.
-/
import Derived.Test.YthcdjconlfdidaaDoorCC
set_option linter.unusedVariables false
set_option linter.unusedSimpArgs false
namespace Go.Aw
open Go.Lib BV
theorem itoa_nat (n : Nat) : itoa (n : Int) = decDigits n := by unfold itoa; rw [if_neg (by omega)]; rfl
theorem wText_first (t : List UInt8) : ∃ c r, wText t = c :: r ∧ dig c = true := by
  obtain ⟨c, h1, h2⟩ := dd_first t.length
  unfold wText
  rw [itoa_nat]
  cases hd : decDigits t.length with
  | nil => exact absurd hd (dd_ne _)
  | cons x r =>
    rw [hd] at h1
    cases h1
    exact ⟨_, _, rfl, h2⟩
theorem dig_ne {c : UInt8} (h : dig c = true) {x : UInt8} (hx : 57 < x.toNat) : c ≠ x := fun e => by
  subst e
  unfold dig at h
  simp at h
  omega
theorem write_first {v : BV} (h : v.form = true) : ∃ c r, v.write = c :: r ∧ begins c = true ∧ c ≠ 101 ∧ (c = 105 → v.kind = 1) := by
  cases v with
  | mk k n s kids keys =>
    unfold form at h
    unfold write
    by_cases h1 : k = 1
    · rw [if_pos h1]; exact ⟨_, _, rfl, rfl, by decide, fun _ => h1⟩
    · rw [if_neg h1]
      by_cases h2 : k = 2
      · rw [if_pos h2]
        obtain ⟨c, r, e, hd⟩ := wText_first s
        exact ⟨c, r, e, by unfold begins; rw [hd]; simp, dig_ne hd (by decide), fun e => absurd e (dig_ne hd (by decide))⟩
      · rw [if_neg h2]
        by_cases h3 : k = 3
        · rw [if_pos h3]; exact ⟨_, _, rfl, rfl, by decide, fun e => absurd e (by decide)⟩
        · rw [if_neg h3]; exact ⟨_, _, rfl, rfl, by decide, fun e => absurd e (by decide)⟩
theorem writeL_len : ∀ {l : List BV}, formL l = true → l.length ≤ (writeL l).length
  | [], _ => Nat.zero_le _
  | v :: l, h => by
    simp only [formL, Bool.and_eq_true] at h
    obtain ⟨c, r, e, _⟩ := write_first h.1
    have := writeL_len h.2
    simp only [writeL, e, List.length_append, List.length_cons]
    omega
theorem writeD_len : ∀ {ks : List (List UInt8)} {l : List BV}, formL l = true → ks.length = l.length → l.length ≤ (writeD ks l).length
  | _, [], _, _ => Nat.zero_le _
  | [], v :: l, _, h => by simp at h
  | k :: ks, v :: l, h, hk => by
    simp only [formL, Bool.and_eq_true] at h
    obtain ⟨c, r, e, _⟩ := write_first h.1
    have := writeD_len (ks := ks) h.2 (by simpa using hk)
    simp only [writeD, e, List.length_append, List.length_cons]
    omega
theorem get_at {s p q : List UInt8} {c : UInt8} (hs : s = p ++ c :: q) : s[p.length]? = some c := by rw [hs, List.getElem?_append_right (Nat.le_refl _)]; simp
/-- A reader that reads what is written. -/
def Reads (s : List UInt8) (f : Nat → Nat → Rr BV) (c : BV) : Prop := ∀ p q n, s = p ++ (c.write ++ q) → n + c.count ≤ 1000 → f p.length n = .ok c (p.length + c.write.length) (n + c.count)
theorem kidsA {s : List UInt8} {f : Nat → Nat → Rr BV} : ∀ (l : List BV) (fuel : Nat) (p q : List UInt8) (n : Nat) (kids : List BV), (∀ c ∈ l, Reads s f c) → formL l = true → s = p ++ (writeL l ++ 101 :: q) → l.length < fuel → n + countL l ≤ 1000 →
    kidsR f s false fuel p.length n kids [] = .ok (kids ++ l, []) (p.length + (writeL l).length + 1) (n + countL l)
  | l, 0, p, q, n, kids, hf, hm, hs, hfu, hn => by omega
  | [], fuel + 1, p, q, n, kids, hf, hm, hs, hfu, hn => by
    unfold kidsR
    rw [get_at (by simpa [writeL] using hs)]
    simp [writeL, countL]
  | v :: l, fuel + 1, p, q, n, kids, hf, hm, hs, hfu, hn => by
    simp only [formL, Bool.and_eq_true] at hm
    simp only [countL] at hn
    obtain ⟨c, r, e, hb, hc, _⟩ := write_first hm.1
    have hs1 : s = p ++ (v.write ++ (writeL l ++ 101 :: q)) := by rw [hs]; simp [writeL]
    have h1 := hf v (List.mem_cons_self ..) p _ n hs1 (by omega)
    have hs2 : s = (p ++ v.write) ++ (writeL l ++ 101 :: q) := by rw [hs1]; simp
    have h2 := kidsA l fuel (p ++ v.write) q (n + v.count) (kids ++ [v]) (fun c hc => hf c (List.mem_cons_of_mem _ hc)) hm.2 hs2 (by simp at hfu; omega) (by omega)
    unfold kidsR
    rw [get_at (c := c) (q := r ++ (writeL l ++ 101 :: q)) (by rw [hs1, e]; rfl)]
    simp only [hc, if_false, Bool.false_eq_true, h1]
    rw [List.length_append] at h2
    rw [h2]
    simp [writeL, countL]
    omega
theorem kidsAD {s : List UInt8} {f : Nat → Nat → Rr BV} : ∀ (l : List BV) (ks : List (List UInt8)) (fuel : Nat) (p q : List UInt8) (n : Nat) (kids : List BV) (keys : List (List UInt8)), (∀ c ∈ l, Reads s f c) → formL l = true → ks.length = l.length → ascF keys.getLast? ks = true →
    (∀ k ∈ ks, k.length ≤ 65536) → s = p ++ (writeD ks l ++ 101 :: q) → l.length < fuel → n + countL l ≤ 1000 →
    kidsR f s true fuel p.length n kids keys = .ok (kids ++ l, keys ++ ks) (p.length + (writeD ks l).length + 1) (n + countL l)
  | l, ks, 0, p, q, n, kids, keys, hf, hm, hk, ha, hkl, hs, hfu, hn => by omega
  | [], k :: ks, fuel + 1, p, q, n, kids, keys, hf, hm, hk, ha, hkl, hs, hfu, hn => by simp at hk
  | v :: l, [], fuel + 1, p, q, n, kids, keys, hf, hm, hk, ha, hkl, hs, hfu, hn => by simp at hk
  | [], [], fuel + 1, p, q, n, kids, keys, hf, hm, hk, ha, hkl, hs, hfu, hn => by
    unfold kidsR
    rw [get_at (by simpa [writeD] using hs)]
    simp [writeD, countL]
  | v :: l, k :: ks, fuel + 1, p, q, n, kids, keys, hf, hm, hk, ha, hkl, hs, hfu, hn => by
    simp only [formL, Bool.and_eq_true] at hm
    simp only [countL] at hn
    simp only [ascF, Bool.and_eq_true] at ha
    obtain ⟨c, r, e, hd⟩ := wText_first k
    have hs1 : s = p ++ (wText k ++ (v.write ++ (writeD ks l ++ 101 :: q))) := by rw [hs]; simp [writeD]
    have h0 := text_wText hs1 (hkl k (List.mem_cons_self ..))
    have hs2 : s = (p ++ wText k) ++ (v.write ++ (writeD ks l ++ 101 :: q)) := by rw [hs1]; simp
    have h1 := hf v (List.mem_cons_self ..) (p ++ wText k) _ n hs2 (by omega)
    have hs3 : s = (p ++ wText k ++ v.write) ++ (writeD ks l ++ 101 :: q) := by rw [hs2]; simp
    have h2 := kidsAD l ks fuel (p ++ wText k ++ v.write) q (n + v.count) (kids ++ [v]) (keys ++ [k]) (fun c hc => hf c (List.mem_cons_of_mem _ hc)) hm.2 (by simpa using hk)
      (by rw [List.getLast?_concat]; exact ha.2) (fun k hk => hkl k (List.mem_cons_of_mem _ hk)) hs3 (by simp at hfu; omega) (by omega)
    unfold kidsR
    rw [get_at (c := c) (q := r ++ (v.write ++ (writeD ks l ++ 101 :: q))) (by rw [hs1, e]; rfl)]
    have hbe : behind keys k = true := by unfold behind; exact ha.1
    rw [List.length_append] at h1
    rw [List.length_append, List.length_append] at h2
    simp only [dig_ne hd (show 57 < (101 : UInt8).toNat by decide), if_false, if_true, hd, Bool.true_eq_false, h0, hbe, h1, h2]
    simp [writeD, countL]
    omega
theorem wText_len (k : List UInt8) : k.length ≤ (wText k).length := by unfold wText; simp; omega
theorem writeD_key : ∀ {ks : List (List UInt8)} {l : List BV}, ks.length = l.length → ∀ k ∈ ks, k.length ≤ (writeD ks l).length
  | [], l, _, k, hk => by simp at hk
  | k' :: ks, [], h, k, hk => by simp at h
  | k' :: ks, v :: l, h, k, hk => by
    simp only [writeD, List.length_append]
    rcases List.mem_cons.1 hk with e | hk
    · subst e
      have := wText_len k; omega
    · have := writeD_key (ks := ks) (l := l) (by simpa using h) k hk
      omega
theorem depthL_le : ∀ {l : List BV} {d : Nat}, depthL l ≤ d ↔ ∀ c ∈ l, c.depth ≤ d
  | [], d => by simp [depthL]
  | v :: l, d => by simp [depthL, depthL_le (l := l), Nat.max_le]
theorem writeL_mem : ∀ {l : List BV}, ∀ c ∈ l, c.write.length ≤ (writeL l).length
  | v :: l, c, hc => by
    simp only [writeL, List.length_append]
    rcases List.mem_cons.1 hc with e | hc
    · subst e; omega
    · have := writeL_mem c hc; omega
theorem writeD_mem : ∀ {ks : List (List UInt8)} {l : List BV}, ks.length = l.length → ∀ c ∈ l, c.write.length ≤ (writeD ks l).length
  | [], v :: l, h, c, hc => by simp at h
  | k :: ks, v :: l, h, c, hc => by
    simp only [writeD, List.length_append]
    rcases List.mem_cons.1 hc with e | hc
    · subst e; omega
    · have := writeD_mem (ks := ks) (by simpa using h) c hc; omega
/-- What is written is read. -/
theorem read_write (s : List UInt8) : ∀ (v : BV), v.form = true → v.nums → v.write.length ≤ 65536 → ∀ lv, v.depth ≤ lv → Reads s (valR s lv) v := by
  intro v
  induction v using BV.ind with
  | h k m t kids keys ih =>
    intro hf hnum hlen lv hdep p q n hs hn
    cases lv with
    | zero => simp [depth] at hdep
    | succ lv =>
    simp only [depth] at hdep
    simp only [nums] at hnum
    have hkd : ∀ c ∈ kids, c.depth ≤ lv := depthL_le.1 (by omega)
    obtain ⟨c, r, e, hb, hc, _⟩ := write_first hf
    have hget : s[p.length]? = some c := get_at (q := r ++ q) (by rw [hs, e]; rfl)
    unfold valR
    rw [hget]
    simp only [hb, Bool.true_eq_false, if_false]
    simp only [count] at hn
    rw [if_neg (by omega)]
    unfold restR
    simp only [form, Bool.and_eq_true] at hf
    obtain ⟨hf, hfl⟩ := hf
    by_cases h1 : k = 1
    · simp only [h1, if_true] at hf
      obtain ⟨rfl, rfl, rfl⟩ := of_decide_eq_true hf
      subst h1
      have hw : (BV.mk 1 m [] [] []).write = 105 :: (itoa m ++ [101]) := rfl
      rw [hw] at e
      cases e
      have hs' : s = (p ++ [105]) ++ (itoa m ++ 101 :: q) := by rw [hs, hw]; simp
      have := num_itoa hs' hnum.1
      rw [List.length_append] at this
      rw [if_neg (by decide), if_pos rfl]
      rw [show p.length + 1 = p.length + [(105 : UInt8)].length from rfl, this]
      simp [hw, count, countL]
      omega
    · simp only [h1, if_false] at hf
      by_cases h2 : k = 2
      · simp only [h2, if_true] at hf
        obtain ⟨rfl, rfl, rfl⟩ := of_decide_eq_true hf
        subst h2
        have hw : (BV.mk 2 0 t [] []).write = wText t := rfl
        rw [hw] at e hs hlen
        obtain ⟨c', r', e', hd⟩ := wText_first t
        rw [e'] at e
        cases e
        rw [if_pos hd, text_wText hs (by have := wText_len t; omega)]
        simp [hw, count, countL]
      · simp only [h2, if_false] at hf
        by_cases h3 : k = 3
        · simp only [h3, if_true] at hf
          obtain ⟨rfl, rfl, rfl⟩ := of_decide_eq_true hf
          subst h3
          have hw : (BV.mk 3 0 [] kids []).write = 108 :: (writeL kids ++ [101]) := rfl
          rw [hw] at e hs hlen
          cases e
          have hs' : s = (p ++ [108]) ++ (writeL kids ++ 101 :: q) := by rw [hs]; simp
          have hl : s.length = p.length + 1 + ((writeL kids).length + (1 + q.length)) := by rw [hs']; simp; omega
          have hk := kidsA kids (s.length + 1) (p ++ [108]) q (n + 1) [] (fun c hc => ih c hc (formL_iff.1 hfl c hc) (numsL_iff.1 hnum.2 c hc) (by have := writeL_mem c hc; simp at hlen; omega) lv (hkd c hc)) hfl hs' (by have := writeL_len hfl; omega) (by omega)
          rw [if_neg (by decide), if_neg (by decide)]
          rw [List.length_append] at hk
          rw [show p.length + 1 = p.length + [(108 : UInt8)].length from rfl, show ((108 : UInt8) == 100) = false from rfl, hk]
          simp [hw, count]
          omega
        · simp only [h3, if_false] at hf
          by_cases h4 : k = 4
          · simp only [h4, if_true] at hf
            obtain ⟨rfl, rfl, hkl, hasc⟩ := of_decide_eq_true hf
            subst h4
            have hw : (BV.mk 4 0 [] kids keys).write = 100 :: (writeD keys kids ++ [101]) := rfl
            rw [hw] at e hs hlen
            cases e
            have hs' : s = (p ++ [100]) ++ (writeD keys kids ++ 101 :: q) := by rw [hs]; simp
            have hl : s.length = p.length + 1 + ((writeD keys kids).length + (1 + q.length)) := by rw [hs']; simp; omega
            have hk := kidsAD kids keys (s.length + 1) (p ++ [100]) q (n + 1) [] [] (fun c hc => ih c hc (formL_iff.1 hfl c hc) (numsL_iff.1 hnum.2 c hc) (by have := writeD_mem hkl c hc; simp at hlen; omega) lv (hkd c hc)) hfl hkl hasc
              (fun k hk => by have := writeD_key hkl k hk; simp at hlen; omega) hs' (by have := writeD_len hfl hkl; omega) (by omega)
            rw [if_neg (by decide), if_neg (by decide)]
            rw [List.length_append] at hk
            rw [show p.length + 1 = p.length + [(100 : UInt8)].length from rfl, show ((100 : UInt8) == 100) = true from rfl, hk]
            simp [hw, count]
            omega
          · simp only [h4, if_false] at hf
            simp at hf
/-- What a reader read was written so. -/
structure Was (s : List UInt8) (lv i n : Nat) (v : BV) (j n' : Nat) : Prop where
  txt : ∃ q, s.drop i = v.write ++ q
  pos : j = i + v.write.length
  form : v.form = true
  nums : v.nums
  cnt : n' = n + v.count
  dep : v.depth ≤ lv
theorem drop_app {s a b : List UInt8} {i : Nat} (h : s.drop i = a ++ b) : s.drop (i + a.length) = b := by rw [← List.drop_drop, h, List.drop_left]
theorem kidsB {s : List UInt8} {f : Nat → Nat → Rr BV} {lv : Nat} (hg : Goes s f) (hf : ∀ i n v j n', i ≤ s.length → f i n = .ok v j n' → Was s lv i n v j n') (d : Bool) :
    ∀ (fuel i n : Nat) (kids : List BV) (keys : List (List UInt8)) (kk : List BV × List (List UInt8)) (j n' : Nat), i ≤ s.length → kidsR f s d fuel i n kids keys = .ok kk j n' →
    ∃ l ks q, kk = (kids ++ l, keys ++ ks) ∧ s.drop i = (if d then writeD ks l else writeL l) ++ 101 :: q ∧ j = i + (if d then writeD ks l else writeL l).length + 1 ∧ (d = true → ks.length = l.length ∧ ascF keys.getLast? ks = true) ∧ (d = false → ks = []) ∧
      formL l = true ∧ numsL l ∧ n' = n + countL l ∧ depthL l ≤ lv
  | 0, i, n, kids, keys, kk, j, n', hi, h => by unfold kidsR at h; cases h
  | fuel + 1, i, n, kids, keys, kk, j, n', hi, h => by
    unfold kidsR at h
    cases hc : s[i]? with
    | none => rw [hc] at h; cases h
    | some c =>
      have hlt := (List.getElem?_eq_some_iff.1 hc).1
      have hsi : s[i] = c := by rw [List.getElem?_eq_getElem hlt] at hc; exact Option.some.inj hc
      rw [hc] at h
      simp only at h
      split at h
      · rename_i he
        cases h
        refine ⟨[], [], s.drop (i + 1), by simp, ?_, ?_, fun _ => ⟨rfl, rfl⟩, fun _ => rfl, rfl, trivial, rfl, Nat.zero_le _⟩
        · rw [List.drop_eq_getElem_cons hlt, hsi, he]; cases d <;> rfl
        · cases d <;> rfl
      · split at h
        · rename_i hd
          subst hd
          split at h
          · cases h
          · cases ht : textR s i with
            | bad a e => rw [ht] at h; cases h
            | ok k j1 m =>
              rw [ht] at h
              simp only at h
              have hto := textR_ok hi ht
              obtain ⟨q1, t1, t2, t3⟩ := text_inv hi ht
              split at h
              · cases h
              · rename_i hbe
                cases hv : f j1 n with
                | bad a e => rw [hv] at h; cases h
                | ok v i2 n2 =>
                  rw [hv] at h
                  simp only at h
                  have hw := hf _ _ _ _ _ hto.2.1 hv
                  have hgo := hg.ok _ _ _ _ _ hto.2.1 hv
                  obtain ⟨l, ks, q, e1, e2, e3, e4, e5, e6, e7, e8, e9⟩ := kidsB hg hf true fuel _ _ _ _ _ _ _ hgo.2.1 h
                  obtain ⟨q2, w1⟩ := hw.txt
                  obtain ⟨e4a, e4b⟩ := e4 rfl
                  have hb : behind keys k = true := by
                    cases hh : behind keys k with
                    | true => rfl
                    | false => exact absurd hh hbe
                  have d1 : q1 = s.drop j1 := by rw [t2, drop_app t1]
                  have d2 : q2 = s.drop i2 := by rw [hw.pos, drop_app w1]
                  rw [List.getLast?_concat] at e4b
                  simp only [if_true] at e2 e3
                  refine ⟨v :: l, k :: ks, q, by rw [e1]; simp, ?_, ?_, fun _ => ⟨by simp [e4a], ?_⟩, (fun h => by cases h), ?_, ⟨hw.nums, e7⟩, ?_, ?_⟩
                  · rw [t1, d1, w1, d2, e2]; simp [writeD]
                  · simp only [writeD, if_true, List.length_append]; rw [e3, hw.pos, t2]; omega
                  · simp only [ascF, e4b, Bool.and_true]; exact hb
                  · simp [formL, hw.form, e6]
                  · simp only [countL]; rw [e8, hw.cnt]; omega
                  · simp only [depthL]; exact Nat.max_le.2 ⟨hw.dep, e9⟩
        · rename_i hd
          have hd : d = false := by cases d with | true => exact absurd rfl hd | false => rfl
          subst hd
          cases hv : f i n with
          | bad a e => rw [hv] at h; cases h
          | ok v i2 n2 =>
            rw [hv] at h
            simp only at h
            have hw := hf _ _ _ _ _ hi hv
            have hgo := hg.ok _ _ _ _ _ hi hv
            obtain ⟨l, ks, q, e1, e2, e3, e4, e5, e6, e7, e8, e9⟩ := kidsB hg hf false fuel _ _ _ _ _ _ _ hgo.2.1 h
            obtain ⟨q2, w1⟩ := hw.txt
            have d2 : q2 = s.drop i2 := by rw [hw.pos, drop_app w1]
            simp only [Bool.false_eq_true, if_false] at e2 e3
            have e5 := e5 rfl
            subst e5
            refine ⟨v :: l, [], q, by rw [e1]; simp, ?_, ?_, (fun h => by cases h), fun _ => rfl, ?_, ⟨hw.nums, e7⟩, ?_, ?_⟩
            · rw [w1, d2, e2]; simp [writeL]
            · simp only [writeL, Bool.false_eq_true, if_false, List.length_append]; rw [e3, hw.pos]; omega
            · simp [formL, hw.form, e6]
            · simp only [countL]; rw [e8, hw.cnt]; omega
            · simp only [depthL]; exact Nat.max_le.2 ⟨hw.dep, e9⟩
theorem val_inv (s : List UInt8) : ∀ (lv i n : Nat) (v : BV) (j n' : Nat), i ≤ s.length → valR s lv i n = .ok v j n' → Was s lv i n v j n'
  | 0, i, n, v, j, n', hi, h => by
    unfold valR at h
    split at h
    · cases h
    · split at h <;> cases h
  | lv + 1, i, n, v, j, n', hi, h => by
    unfold valR at h
    cases hc : s[i]? with
    | none => rw [hc] at h; cases h
    | some c =>
      have hlt := (List.getElem?_eq_some_iff.1 hc).1
      have hsi : s[i] = c := by rw [List.getElem?_eq_getElem hlt] at hc; exact Option.some.inj hc
      rw [hc] at h
      simp only at h
      split at h
      · cases h
      · rename_i hbg
        split at h
        · cases h
        · unfold restR at h
          split at h
          · cases ht : textR s i with
            | bad a e => rw [ht] at h; cases h
            | ok t j1 m =>
              rw [ht] at h
              cases h
              obtain ⟨q1, t1, t2, t3⟩ := text_inv hi ht
              exact ⟨⟨q1, t1⟩, t2, by simp [form, formL], by simp [BV.nums, numsL], rfl, by simp [depth, depthL]⟩
          · rename_i hnd
            split at h
            · rename_i h105
              cases ht : numR s (i + 1) with
              | bad a e => rw [ht] at h; cases h
              | ok t j1 m =>
                rw [ht] at h
                cases h
                obtain ⟨q1, t1, t2, t3⟩ := numR_inv (by omega) ht
                have hw : (BV.mk 1 t [] [] []).write = 105 :: (itoa t ++ [101]) := rfl
                refine ⟨⟨q1, ?_⟩, ?_, by simp [form, formL], ⟨t3, trivial⟩, rfl, by simp [depth, depthL]⟩
                · rw [List.drop_eq_getElem_cons hlt, hsi, h105, t1, hw]; simp
                · rw [hw, t2]; simp; omega
            · rename_i h105
              cases hk : kidsR (valR s lv) s (c == 100) (s.length + 1) (i + 1) (n + 1) [] [] with
              | bad a e => rw [hk] at h; cases h
              | ok kk j1 m =>
                rw [hk] at h
                obtain ⟨l, ks, q, e1, e2, e3, e4, e5, e6, e7, e8, e9⟩ := kidsB (valR_goes s lv) (val_inv s lv) (c == 100) _ _ _ _ _ _ _ _ (by omega) hk
                subst e1
                simp only [List.nil_append] at h
                cases h
                have hcc : c = 108 ∨ c = 100 := by
                  cases hb : begins c with
                  | false => exact absurd hb hbg
                  | true =>
                    unfold begins at hb
                    simp only [Bool.or_eq_true, beq_iff_eq] at hb
                    rcases hb with ((hb | hb) | hb) | hb
                    · exact absurd hb h105
                    · exact .inl hb
                    · exact .inr hb
                    · exact absurd hb hnd
                rcases hcc with hcc | hcc
                · subst hcc
                  have e5 := e5 rfl
                  subst e5
                  simp only [show ((108 : UInt8) == 100) = false from rfl, Bool.false_eq_true, if_false] at e2 e3
                  have hw : (BV.mk 3 0 [] l []).write = 108 :: (writeL l ++ [101]) := rfl
                  rw [show (if (108 : UInt8) = 100 then (4 : Int) else 3) = 3 from rfl]
                  refine ⟨⟨q, ?_⟩, ?_, by simp [form, e6], ⟨by omega, e7⟩, by simp only [count]; rw [e8]; omega, by simp only [depth]; omega⟩
                  · rw [List.drop_eq_getElem_cons hlt, hsi, e2, hw]; simp
                  · rw [hw, e3]; simp; omega
                · subst hcc
                  obtain ⟨e4a, e4b⟩ := e4 rfl
                  simp only [show ((100 : UInt8) == 100) = true from rfl, if_true] at e2 e3
                  have hw : (BV.mk 4 0 [] l ks).write = 100 :: (writeD ks l ++ [101]) := rfl
                  rw [show (if (100 : UInt8) = 100 then (4 : Int) else 3) = 4 from rfl]
                  refine ⟨⟨q, ?_⟩, ?_, by simp [form, e6, e4a, asc]; exact e4b, ⟨by omega, e7⟩, by simp only [count]; rw [e8]; omega, by simp only [depth]; omega⟩
                  · rw [List.drop_eq_getElem_cons hlt, hsi, e2, hw]; simp
                  · rw [hw, e3]; simp; omega
/-- A value is valid. -/
def BV.valid (v : BV) : Bool := v.form && decide (v.count ≤ 1000) && decide (v.depth ≤ 12) && decide (v.write.length ≤ 65536)
theorem read_valid {v : BV} (h : v.valid = true) (hn : v.nums) (q : List UInt8) (hq : (v.write ++ q).length ≤ 65536) : readR (v.write ++ q) = (v, ((v.write.length : Nat) : Int), -1, 0) := by
  unfold BV.valid at h
  simp only [Bool.and_eq_true, decide_eq_true_eq] at h
  have := read_write (v.write ++ q) v h.1.1.1 hn h.2 12 h.1.2 [] q 0 rfl (by omega)
  unfold readR
  rw [if_neg (by omega)]
  simp only [List.length_nil, Nat.zero_add] at this
  rw [this]
theorem parse_write {v : BV} (h : v.valid = true) (hn : v.nums) : parseR v.write = (v, 0) := by
  have h0 := h
  unfold BV.valid at h0
  simp only [Bool.and_eq_true, decide_eq_true_eq] at h0
  have := read_valid h hn [] (by simpa using h0.2)
  rw [List.append_nil] at this
  unfold parseR
  rw [this]
  simp
theorem write_inj {v w : BV} (hv : v.valid = true) (hw : w.valid = true) (hnv : v.nums) (hnw : w.nums) (h : v.write = w.write) : v = w := by
  have h1 := parse_write hv hnv
  rw [h, parse_write hw hnw] at h1
  exact (congrArg Prod.fst h1).symm
theorem parse_inv {s : List UInt8} {v : BV} (h : parseR s = (v, 0)) : v.valid = true ∧ v.nums ∧ s = v.write := by
  unfold parseR readR at h
  split at h
  · simp at h
  · rename_i hl
    cases hv : valR s 12 0 0 with
    | bad a e =>
      rw [hv] at h
      have := (valR_goes s 12).bad _ _ _ _ (Nat.zero_le _) hv
      simp only at h
      split at h
      · injection h with h1 h2; omega
      · rename_i he; omega
    | ok w j n' =>
      rw [hv] at h
      simp only [ne_eq, not_true_eq_false, if_false] at h
      have hgo := (valR_goes s 12).ok _ _ _ _ _ (Nat.zero_le _) hv
      have hw := val_inv s 12 0 0 w j n' (Nat.zero_le _) hv
      split at h
      · injection h with h1 h2; omega
      · rename_i hj
        injection h with h1 h2
        subst h1
        obtain ⟨q, hq⟩ := hw.txt
        rw [List.drop_zero] at hq
        have hlen : s.length = w.write.length + q.length := by rw [hq]; simp
        have hp := hw.pos
        have hq0 : q = [] := List.length_eq_zero_iff.1 (by omega)
        subst hq0
        rw [List.append_nil] at hq
        have hc := hw.cnt
        refine ⟨?_, hw.nums, hq⟩
        unfold BV.valid
        simp only [Bool.and_eq_true, decide_eq_true_eq]
        exact ⟨⟨⟨hw.form, by omega⟩, hw.dep⟩, by omega⟩
end Go.Aw

