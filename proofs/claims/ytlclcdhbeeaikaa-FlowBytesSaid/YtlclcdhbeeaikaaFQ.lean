/-
  The packets of a flow as bytes: written, read, read back (plain law).
-/
import Derived.Test.YtlclcdhbeeaikaaFP
import Derived.Test.YtlclcdhbeeaikaaAwC
set_option linter.unusedVariables false
namespace Go.Aw
structure Sg where
  kind : Nat
  conn : Nat
  seq : Nat
  ack : Nat
  window : Nat
  marks : List UInt8
  body : List UInt8
  time : Nat
  late : Nat
def Sg.right (p : Sg) : Prop := (1 ≤ p.kind ∧ p.kind ≤ 5) ∧ p.conn < 65536 ∧ p.seq < 65536 ∧ p.ack < 65536 ∧ p.window ≤ 1000000 ∧ p.marks.length ≤ 4 ∧ p.body.length ≤ 1400 ∧ (p.kind = 2 ↔ p.body ≠ []) ∧ p.time < 4294967296 ∧ p.late < 4294967296
def restL (p : Sg) : List UInt8 := numL p.kind 1 ++ (numL p.marks.length 1 ++ (numL p.conn 2 ++ (numL p.seq 2 ++ (numL p.ack 2 ++ (numL p.time 4 ++ (numL p.late 4 ++ (numL p.window 4 ++ (p.marks ++ p.body))))))))
def encL (p : Sg) : List UInt8 := (sumL (restL p)).take 4 ++ restL p
def sl (s : List UInt8) (a b : Nat) : List UInt8 := (s.take b).drop a
def markN (s : List UInt8) : Nat := (s.getD 5 0).toNat
def kindN (s : List UInt8) : Nat := (s.getD 4 0).toNat
def decP (s : List UInt8) : Sg := ⟨kindN s, valN (sl s 6 8), valN (sl s 8 10), valN (sl s 10 12), valN (sl s 20 24), sl s 24 (24 + markN s), s.drop (24 + markN s), valN (sl s 12 16), valN (sl s 16 20)⟩
/-- Where a text is wrong. -/
def decB (s : List UInt8) : Option Nat :=
  if s.length < 24 then some s.length
  else if markN s ≤ 4 ∧ s.length < 24 + markN s then some s.length
  else if (sumL (s.drop 4)).take 4 ≠ s.take 4 then some 0
  else if kindN s < 1 ∨ kindN s > 5 then some 4
  else if markN s > 4 then some 5
  else if (decP s).window > 1000000 then some 20
  else if kindN s = 2 ∧ (decP s).body = [] then some s.length
  else if kindN s = 2 ∧ (decP s).body.length > 1400 then some (24 + markN s + 1400)
  else if kindN s ≠ 2 ∧ (decP s).body ≠ [] then some (24 + markN s)
  else none
theorem sl_len {s : List UInt8} {a b : Nat} (h : a ≤ b) (hb : b ≤ s.length) : (sl s a b).length = b - a := by
  unfold sl; rw [List.length_drop, List.length_take]; omega
theorem restL_len (p : Sg) : (restL p).length = 20 + p.marks.length + p.body.length := by
  simp only [restL, List.length_append, numL_len]; omega
theorem encL_len (p : Sg) : (encL p).length = 24 + p.marks.length + p.body.length := by
  rw [encL, List.length_append, restL_len, List.length_take, sumL_len]; omega
theorem cut_at {α : Type} {x y : List α} {n : Nat} (h : x.length = n) : (x ++ y).take n = x ∧ (x ++ y).drop n = y := by subst h; simp
theorem encL_drop4 (p : Sg) : (encL p).drop 4 = restL p ∧ (encL p).take 4 = (sumL (restL p)).take 4 := by
  have h : ((sumL (restL p)).take 4).length = 4 := by rw [List.length_take, sumL_len]; rfl
  exact ⟨(cut_at h).2, (cut_at h).1⟩
theorem sl_eq (s : List UInt8) (a b : Nat) : sl s a b = (s.drop a).take (b - a) := by
  unfold sl; rw [List.drop_take]
/-- The parts of what is written, read off. -/
theorem parts (p : Sg) (h : p.right) : sl (encL p) 4 5 = numL p.kind 1 ∧ sl (encL p) 5 6 = numL p.marks.length 1 ∧ sl (encL p) 6 8 = numL p.conn 2 ∧ sl (encL p) 8 10 = numL p.seq 2 ∧ sl (encL p) 10 12 = numL p.ack 2 ∧ sl (encL p) 12 16 = numL p.time 4 ∧ sl (encL p) 16 20 = numL p.late 4 ∧ sl (encL p) 20 24 = numL p.window 4 ∧
    sl (encL p) 24 (24 + p.marks.length) = p.marks ∧ (encL p).drop (24 + p.marks.length) = p.body := by
  have h4 := (encL_drop4 p).1
  have c1 := cut_at (x := numL p.kind 1) (y := numL p.marks.length 1 ++ (numL p.conn 2 ++ (numL p.seq 2 ++ (numL p.ack 2 ++ (numL p.time 4 ++ (numL p.late 4 ++ (numL p.window 4 ++ (p.marks ++ p.body)))))))) (numL_len _ _)
  have c2 := cut_at (x := numL p.marks.length 1) (y := numL p.conn 2 ++ (numL p.seq 2 ++ (numL p.ack 2 ++ (numL p.time 4 ++ (numL p.late 4 ++ (numL p.window 4 ++ (p.marks ++ p.body))))))) (numL_len _ _)
  have c3 := cut_at (x := numL p.conn 2) (y := numL p.seq 2 ++ (numL p.ack 2 ++ (numL p.time 4 ++ (numL p.late 4 ++ (numL p.window 4 ++ (p.marks ++ p.body)))))) (numL_len _ _)
  have c4 := cut_at (x := numL p.seq 2) (y := numL p.ack 2 ++ (numL p.time 4 ++ (numL p.late 4 ++ (numL p.window 4 ++ (p.marks ++ p.body))))) (numL_len _ _)
  have c5 := cut_at (x := numL p.ack 2) (y := numL p.time 4 ++ (numL p.late 4 ++ (numL p.window 4 ++ (p.marks ++ p.body)))) (numL_len _ _)
  have c6 := cut_at (x := numL p.time 4) (y := numL p.late 4 ++ (numL p.window 4 ++ (p.marks ++ p.body))) (numL_len _ _)
  have c7 := cut_at (x := numL p.late 4) (y := numL p.window 4 ++ (p.marks ++ p.body)) (numL_len _ _)
  have c8 := cut_at (x := numL p.window 4) (y := p.marks ++ p.body) (numL_len _ _)
  have c9 := cut_at (x := p.marks) (y := p.body) rfl
  have d5 : (encL p).drop 5 = numL p.marks.length 1 ++ (numL p.conn 2 ++ (numL p.seq 2 ++ (numL p.ack 2 ++ (numL p.time 4 ++ (numL p.late 4 ++ (numL p.window 4 ++ (p.marks ++ p.body))))))) := by
    rw [show 5 = 4 + 1 from rfl, ← List.drop_drop, h4]; exact c1.2
  have step : ∀ {x y : List UInt8} {a n : Nat}, (encL p).drop a = x ++ y → x.length = n → (encL p).drop (a + n) = y := fun h hn => by rw [← List.drop_drop, h]; exact (cut_at hn).2
  have d6 : (encL p).drop 6 = _ := step d5 (numL_len _ _)
  have d8 : (encL p).drop 8 = _ := step d6 (numL_len _ _)
  have d10 : (encL p).drop 10 = _ := step d8 (numL_len _ _)
  have d12 : (encL p).drop 12 = _ := step d10 (numL_len _ _)
  have d16 : (encL p).drop 16 = _ := step d12 (numL_len _ _)
  have d20 : (encL p).drop 20 = _ := step d16 (numL_len _ _)
  have d24 : (encL p).drop 24 = _ := step d20 (numL_len _ _)
  refine ⟨?_, ?_, ?_, ?_, ?_, ?_, ?_, ?_, ?_, ?_⟩
  · rw [sl_eq, h4]; exact c1.1
  · rw [sl_eq, d5]; exact c2.1
  · rw [sl_eq, d6]; exact c3.1
  · rw [sl_eq, d8]; exact c4.1
  · rw [sl_eq, d10]; exact c5.1
  · rw [sl_eq, d12]; exact c6.1
  · rw [sl_eq, d16]; exact c7.1
  · rw [sl_eq, d20]; exact c8.1
  · rw [sl_eq, d24, Nat.add_sub_cancel_left]; exact c9.1
  · rw [← List.drop_drop, d24]; exact c9.2
theorem getD_sl (s : List UInt8) (a : Nat) (h : a < s.length) : sl s a (a + 1) = [s.getD a 0] := by
  rw [sl_eq, Nat.add_sub_cancel_left, List.getD_eq_getElem?_getD, List.getElem?_eq_getElem h, List.drop_eq_getElem_cons h]
  rfl
theorem numL_one (n : Nat) : numL n 1 = [UInt8.ofNat n] := by simp [numL]
theorem byte_of {s : List UInt8} {a n : Nat} (ha : a < s.length) (hn : n < 256) (h : sl s a (a + 1) = numL n 1) : (s.getD a 0).toNat = n := by
  rw [getD_sl s a ha, numL_one] at h
  simp only [List.cons.injEq, and_true] at h
  rw [h]; simp; omega
theorem dec_enc (p : Sg) (h : p.right) : decP (encL p) = p ∧ decB (encL p) = none := by
  obtain ⟨h1, h2, h3, h4, h5, h6, h7, h8, h9, h10⟩ := parts p h
  obtain ⟨r1, r2, r3, r4, r5, r6, r7, r8, r9, r10⟩ := h
  have hl := encL_len p
  have hk : kindN (encL p) = p.kind := byte_of (by omega) (by omega) h1
  have hm : markN (encL p) = p.marks.length := byte_of (by omega) (by omega) h2
  have hp : decP (encL p) = p := by
    unfold decP
    rw [hk, hm, h3, h4, h5, h6, h7, h8, h9, h10, valN_of (by omega), valN_of (by omega), valN_of (by omega), valN_of (by omega), valN_of (by omega), valN_of (by omega)]
  refine ⟨hp, ?_⟩
  unfold decB
  rw [hk, hm, hp, (encL_drop4 p).1, (encL_drop4 p).2]
  rw [if_neg (by omega), if_neg (by omega), if_neg (by simp), if_neg (by omega), if_neg (by omega), if_neg (by omega), if_neg (fun ⟨a, b⟩ => r8.1 a b), if_neg (by omega), if_neg (fun ⟨a, b⟩ => a (r8.2 b))]
theorem enc_dec (s : List UInt8) (h : decB s = none) : (decP s).right ∧ encL (decP s) = s := by
  unfold decB at h
  split at h <;> try (cases h; done)
  rename_i g1
  split at h <;> try (cases h; done)
  rename_i g2
  split at h <;> try (cases h; done)
  rename_i g3
  split at h <;> try (cases h; done)
  rename_i g4
  split at h <;> try (cases h; done)
  rename_i g5
  split at h <;> try (cases h; done)
  rename_i g6
  split at h <;> try (cases h; done)
  rename_i g7
  split at h <;> try (cases h; done)
  rename_i g8
  split at h <;> try (cases h; done)
  rename_i g9
  have hl : 24 + markN s ≤ s.length := by omega
  have l1 : (sl s 24 (24 + markN s)).length = markN s := by rw [sl_len (by omega) hl]; omega
  have v := fun a b (h : a ≤ b) (hb : b ≤ s.length) => (sl_len (s := s) h hb ▸ valN_lt (sl s a b) : valN (sl s a b) < 256 ^ (b - a))
  have hr : (decP s).right := by
    refine ⟨?_, v 6 8 (by omega) (by omega), v 8 10 (by omega) (by omega), v 10 12 (by omega) (by omega), by omega, ?_, ?_, ?_, v 12 16 (by omega) (by omega), v 16 20 (by omega) (by omega)⟩
    · show 1 ≤ kindN s ∧ kindN s ≤ 5; omega
    · show (sl s 24 (24 + markN s)).length ≤ 4; omega
    · by_cases hk : kindN s = 2
      · have := fun hx => g8 ⟨hk, hx⟩; omega
      · have : (decP s).body = [] := by
          by_cases hx : (decP s).body = []
          · exact hx
          · exact absurd ⟨hk, hx⟩ g9
        rw [this]; simp
    · show kindN s = 2 ↔ _
      constructor
      · intro hk hx; exact g7 ⟨hk, hx⟩
      · intro hx
        by_cases hk : kindN s = 2
        · exact hk
        · exact absurd ⟨hk, hx⟩ g9
  have hrest : restL (decP s) = s.drop 4 := by
    have n := fun a b (h : a ≤ b) (hb : b ≤ s.length) => (sl_len (s := s) h hb ▸ numL_valN (sl s a b) : numL (valN (sl s a b)) (b - a) = sl s a b)
    have nk : numL (kindN s) 1 = sl s 4 5 := by
      rw [getD_sl s 4 (by omega), numL_one]
      unfold kindN; congr 1; apply UInt8.toNat.inj; simp
    have nm : numL (sl s 24 (24 + markN s)).length 1 = sl s 5 6 := by
      rw [l1, getD_sl s 5 (by omega), numL_one]
      unfold markN; congr 1; apply UInt8.toNat.inj; simp
    unfold restL
    show numL (kindN s) 1 ++ (numL (sl s 24 (24 + markN s)).length 1 ++ (numL (valN (sl s 6 8)) 2 ++ (numL (valN (sl s 8 10)) 2 ++ (numL (valN (sl s 10 12)) 2 ++ (numL (valN (sl s 12 16)) 4 ++ (numL (valN (sl s 16 20)) 4 ++ (numL (valN (sl s 20 24)) 4 ++ (sl s 24 (24 + markN s) ++ s.drop (24 + markN s))))))))) = _
    rw [nk, nm, n 6 8 (by omega) (by omega), n 8 10 (by omega) (by omega), n 10 12 (by omega) (by omega), n 12 16 (by omega) (by omega), n 16 20 (by omega) (by omega), n 20 24 (by omega) (by omega)]
    have j := fun a b (h : a ≤ b) => (show sl s a b ++ s.drop b = s.drop a by
      rw [sl_eq]
      conv => lhs; rhs; rw [show b = a + (b - a) by omega, ← List.drop_drop]
      exact List.take_append_drop _ _)
    rw [j 24 _ (by omega), j 20 24 (by omega), j 16 20 (by omega), j 12 16 (by omega), j 10 12 (by omega), j 8 10 (by omega), j 6 8 (by omega), j 5 6 (by omega), j 4 5 (by omega)]
  refine ⟨hr, ?_⟩
  unfold encL
  rw [hrest]
  have : (sumL (s.drop 4)).take 4 = s.take 4 := by
    by_cases hx : (sumL (s.drop 4)).take 4 = s.take 4
    · exact hx
    · exact absurd hx g3
  rw [this, List.take_append_drop]
theorem decB_le (s : List UInt8) (n : Nat) (h : decB s = some n) : n ≤ s.length := by
  unfold decB at h
  split at h
  · cases h; omega
  split at h
  · cases h; omega
  split at h
  · cases h; omega
  split at h
  · cases h; omega
  split at h
  · cases h; omega
  split at h
  · cases h; omega
  split at h
  · cases h; omega
  split at h
  · rename_i g
    cases h
    have := g.2
    unfold decP at this
    simp only [List.length_drop] at this
    omega
  split at h
  · cases h; omega
  · cases h
theorem decB_sum (s : List UInt8) (h : 28 ≤ s.length) (hs : (sumL (s.drop 4)).take 4 ≠ s.take 4) : decB s = some 0 := by
  unfold decB
  rw [if_neg (by omega), if_neg (by omega), if_pos hs]
theorem decB_sum' (s : List UInt8) (hs : (sumL (s.drop 4)).take 4 ≠ s.take 4) : ∃ n, decB s = some n := by
  unfold decB
  split
  · exact ⟨_, rfl⟩
  split
  · exact ⟨_, rfl⟩
  first | exact ⟨_, rfl⟩ | (rw [if_pos hs]; exact ⟨_, rfl⟩)
end Go.Aw
