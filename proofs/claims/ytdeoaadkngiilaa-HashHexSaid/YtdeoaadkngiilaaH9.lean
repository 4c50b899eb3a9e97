/-
  FromHex, by the program and by the reference; the walk of HashHex.
-/
import Derived.Test.YtdeoaadkngiilaaH8
set_option linter.unusedVariables false
set_option linter.unusedSimpArgs false
set_option maxRecDepth 20000
namespace Go.Proofs.Ytdeoaadkngiilaa
open Go Go.Aw Go.Proofs Go.Shelf Go.RowKit
def valN (c : UInt8) : Int := Lib.indexByte digs c
def vN (c : UInt8) : Nat := (valN c).toNat
theorem indexByte_lt : ∀ (l : List UInt8) (c : UInt8), Lib.indexByte l c < l.length ∨ l = []
  | [], _ => .inr rfl
  | b :: l, c => by
    left
    unfold Lib.indexByte
    have := indexByte_lt l c
    rcases this with h | h
    · split
      · simp
      · split
        · simp; omega
        · simp; omega
    · subst h
      split
      · simp
      · split <;> simp [Lib.indexByte]
theorem valN_lt (c : UInt8) : valN c < 16 := by
  rcases indexByte_lt digs c with h | h
  · exact h
  · cases h
theorem valN_ge (c : UInt8) : -1 ≤ valN c := Lib.indexByte_ge _ _
theorem vN_eq {c : UInt8} (h : ¬ valN c < 0) : valN c = (vN c : Nat) := by unfold vN; omega
theorem vN_lt (c : UInt8) : vN c < 16 := by have := valN_lt c; unfold vN; omega
theorem valN_hexC : ∀ k, k < 16 → valN (hexC k) = (k : Nat) := by decide
theorem IndexByte (c : UInt8) (H : AHeap) : ARet Try.prog 42 [.string (bs [48, 49, 50, 51, 52, 53, 54, 55, 56, 57, 97, 98, 99, 100, 101, 102]), .int .u8 (c.toNat : Int)] H (.int .i64 (valN c)) H := by
  refine ARet.ofCalls Try.func42 rfl (by kernel_rfl) rfl rfl (fun w => ?_) H
  have h := Any.strings_IndexByte Try.laysIndexByte (bs digs) (c.toNat : Int) w
  have e : (((c.toNat : Int).toNat).toUInt8) = c := by rw [Int.toNat_natCast]; exact UInt8.ofNat_toNat
  rw [e] at h
  exact h.mono fun e w' ⟨h1, h2⟩ => ⟨h1, h2 ▸ Below.refl _ _⟩
def byteAt (s : List UInt8) (j : Nat) : UInt8 := UInt8.ofNat (16 * vN (s.getD (2 * j) 0) + vN (s.getD (2 * j + 1) 0))
def halfAt (s : List UInt8) (j : Nat) : UInt8 := UInt8.ofNat (16 * vN (s.getD (2 * j) 0))
def full (s : List UInt8) (q : Nat) : List UInt8 := (List.range q).map (byteAt s)
theorem full_len (s : List UInt8) (q : Nat) : (full s q).length = q := by simp [full]
theorem full_succ (s : List UInt8) (q : Nat) : full s (q + 1) = full s q ++ [byteAt s q] := by simp [full, List.range_succ]
def outP (s : List UInt8) (i : Nat) : List UInt8 := if i % 2 = 0 then full s (i / 2) else full s (i / 2) ++ [halfAt s (i / 2)]
theorem outP_even (s : List UInt8) (q : Nat) : outP s (2 * q) = full s q := by unfold outP; rw [if_pos (by omega), show 2 * q / 2 = q by omega]
theorem outP_odd (s : List UInt8) (q : Nat) : outP s (2 * q + 1) = full s q ++ [halfAt s q] := by unfold outP; rw [if_neg (by omega), show (2 * q + 1) / 2 = q by omega]
def validL (s : List UInt8) : Prop := ∀ j, j < s.length → ¬ valN (s.getD j 0) < 0
instance (s : List UInt8) : Decidable (validL s) := by unfold validL; infer_instance
def errR (e : Int) : Value := .tuple ⟨[.string (bs []), .int .i64 e]⟩
def fromR (s : List UInt8) : Value := if s.length > 65536 then errR 3 else if s.length % 2 ≠ 0 then errR 2 else if validL s then .tuple ⟨[.string (bs (full s (s.length / 2))), .int .i64 0]⟩ else errR 2
theorem Nibble (c : UInt8) (H : AHeap) : ARet Try.prog 43 [.int .u8 (c.toNat : Int)] H (.int .i64 (valN c)) H := by
  have key : ∀ (l : List UInt8) (k : Nat), (∀ j, j < k → l[j]? ≠ some c) → (l[k]? = some c → Lib.indexByte l c = k) := by
    intro l
    induction l with
    | nil => intro k _ h; simp at h
    | cons b l ih =>
      intro k hk h
      unfold Lib.indexByte
      cases k with
      | zero => simp at h; subst h; simp
      | succ k =>
        have hb : ¬ b = c := fun e => hk 0 (by omega) (by rw [e]; rfl)
        have h1 := ih k (fun j hj h' => hk (j + 1) (by omega) (by simpa using h')) (by simpa using h)
        rw [h1]
        have hb' : (b == c) = false := by simp [hb]
        rw [hb']
        simp only [Bool.false_eq_true, if_false]
        rw [if_neg (by simp)]
        omega
  have key2 : ∀ (l : List UInt8), (∀ j, j < l.length → l[j]? ≠ some c) → Lib.indexByte l c = -1 := by
    intro l
    induction l with
    | nil => intro _; rfl
    | cons b l ih =>
      intro h
      unfold Lib.indexByte
      have hb : ¬ b = c := fun e => h 0 (by simp) (by rw [e]; rfl)
      have hb' : (b == c) = false := by simp [hb]
      rw [hb', ih (fun j hj h' => h (j + 1) (by simpa using hj) (by simpa using h'))]
      rfl
  refine AC.enter Try.func43 rfl (by kernel_rfl) 13 rfl [.tmp 2] rfl (by simp) fun hsc B => ?_
  repeat first
    | with_reducible refine AWP.seq ?_
    | ((with_reducible refine AWP.region ?_ ?_); exact rfl)
    | with_reducible refine AWP.block ?_
    | with_reducible refine AWP.skip ?_
    | with_reducible refine AWP.exit ?_
    | with_reducible refine AWP.ret ?_
    | with_reducible refine AWP.label ?_
    | with_reducible refine AWP.goto ?_
    | ((with_reducible refine AWP.condT ?_ ?_); focus (simp only [ev, lk_cons, ↓reduceIte, Nat.reduceEqDiff]; done))
    | ((with_reducible refine AWP.condF ?_ ?_); focus (simp only [ev, lk_cons, ↓reduceIte, Nat.reduceEqDiff]; done))
    | simp only [go_sem, ↓reduceIte, Nat.reduceEqDiff, reduceCtorEq, Nat.reduceAdd, Int.reduceEq, Int.reduceBNe, Int.reduceBEq, Int.reduceToNat, Int.reduceLT, Int.reduceLE, Int.reduceGT, Int.reduceGE, Nat.reduceSub, Nat.reduceBEq, Nat.reduceBNe, Int.reduceAdd, Int.reduceSub, Int.reduceMul, Int.reduceNeg, Nat.reduceMul, Nat.reduceLeDiff, Nat.reduceLT]
    | simp (disch := omega) only [wi64, wu8, wu16, wu32, wu64]
    | with_reducible_and_instances exact finR
    | ((with_reducible refine finR' ?_ ?_) <;> rfl)
    | ((with_reducible refine finD hsc (NRel.of_plain ?_)); exact rfl)
  refine AWP.loopP (fun n : Nat => ⟨[(0, .int .u8 (c.toNat : Int)), (4, .int .i64 (n : Nat))], [], H⟩)
    (fun n => n ≤ 16 ∧ ∀ j, j < n → digs[j]? ≠ some c) (fun n => 16 - n) 0 ?_ ⟨by simp, fun j hj => by omega⟩ ?_
  · exact Weak.env (by simp [envIn, lk_cons, wth_some])
  rintro n ⟨hn, hj⟩
  by_cases hc : n < 16
  · have hc' : (n : Int) < 16 := by omega
    have hd := digs_get hc
    by_cases he : hexC n = c
    · have hv : valN c = (n : Nat) := key digs n hj (by rw [hd, he])
      have hb : (((hexC n).toNat : Int) == (c.toNat : Int)) = true := by rw [he]; simp
      rw [hv]
      unfold digs at hd
      repeat first
        | with_reducible refine AWP.seq ?_
        | ((with_reducible refine AWP.region ?_ ?_); exact rfl)
        | with_reducible refine AWP.block ?_
        | with_reducible refine AWP.skip ?_
        | with_reducible refine AWP.exit ?_
        | with_reducible refine AWP.ret ?_
        | with_reducible refine AWP.label ?_
        | with_reducible refine AWP.goto ?_
        | ((with_reducible refine AWP.condT ?_ ?_); focus (simp only [ev, lk_cons, ↓reduceIte, Nat.reduceEqDiff]; done))
        | ((with_reducible refine AWP.condF ?_ ?_); focus (simp only [ev, lk_cons, ↓reduceIte, Nat.reduceEqDiff]; done))
        | simp only [go_sem, ↓reduceIte, Nat.reduceEqDiff, reduceCtorEq, Nat.reduceAdd, Int.reduceEq, Int.reduceBNe, Int.reduceBEq, Int.reduceToNat, Int.reduceLT, Int.reduceLE, Int.reduceGT, Int.reduceGE, Nat.reduceSub, Nat.reduceBEq, Nat.reduceBNe, Int.reduceAdd, Int.reduceSub, Int.reduceMul, Int.reduceNeg, Nat.reduceMul, Nat.reduceLeDiff, Nat.reduceLT, hc', hd, hb]
        | simp (disch := omega) only [wi64, wu8, wu16, wu32, wu64]
        | with_reducible_and_instances exact finR
        | ((with_reducible refine finR' ?_ ?_) <;> rfl)
        | ((with_reducible refine finD hsc (NRel.of_plain ?_)); exact rfl)
    · have hb : (((hexC n).toNat : Int) == (c.toNat : Int)) = false := by
        rw [beq_eq_false_iff_ne]
        intro h
        exact he (UInt8.toNat_inj.1 (by omega))
      have hd2 := hd
      unfold digs at hd
      repeat first
        | with_reducible refine AWP.seq ?_
        | ((with_reducible refine AWP.region ?_ ?_); exact rfl)
        | with_reducible refine AWP.block ?_
        | with_reducible refine AWP.skip ?_
        | with_reducible refine AWP.exit ?_
        | with_reducible refine AWP.ret ?_
        | with_reducible refine AWP.label ?_
        | with_reducible refine AWP.goto ?_
        | ((with_reducible refine AWP.condT ?_ ?_); focus (simp only [ev, lk_cons, ↓reduceIte, Nat.reduceEqDiff]; done))
        | ((with_reducible refine AWP.condF ?_ ?_); focus (simp only [ev, lk_cons, ↓reduceIte, Nat.reduceEqDiff]; done))
        | simp only [go_sem, ↓reduceIte, Nat.reduceEqDiff, reduceCtorEq, Nat.reduceAdd, Int.reduceEq, Int.reduceBNe, Int.reduceBEq, Int.reduceToNat, Int.reduceLT, Int.reduceLE, Int.reduceGT, Int.reduceGE, Nat.reduceSub, Nat.reduceBEq, Nat.reduceBNe, Int.reduceAdd, Int.reduceSub, Int.reduceMul, Int.reduceNeg, Nat.reduceMul, Nat.reduceLeDiff, Nat.reduceLT, hc', hd, hb]
        | simp (disch := omega) only [wi64, wu8, wu16, wu32, wu64]
        | with_reducible_and_instances exact finR
        | ((with_reducible refine finR' ?_ ?_) <;> rfl)
        | ((with_reducible refine finD hsc (NRel.of_plain ?_)); exact rfl)
      refine ⟨n + 1, Weak.env (by simp [envIn, lk_cons, wth_some]), by omega, fun j hj' => ?_, by omega⟩
      by_cases e : j = n
      · subst e; rw [hd2]; intro h; exact he (by simpa using h)
      · exact hj j (by omega)
  · have : n = 16 := by omega
    subst this
    have hv : valN c = -1 := key2 digs (fun j hj' => hj j hj')
    rw [hv]
    repeat first
      | with_reducible refine AWP.seq ?_
      | ((with_reducible refine AWP.region ?_ ?_); exact rfl)
      | with_reducible refine AWP.block ?_
      | with_reducible refine AWP.skip ?_
      | with_reducible refine AWP.exit ?_
      | with_reducible refine AWP.ret ?_
      | with_reducible refine AWP.label ?_
      | with_reducible refine AWP.goto ?_
      | ((with_reducible refine AWP.condT ?_ ?_); focus (simp only [ev, lk_cons, ↓reduceIte, Nat.reduceEqDiff]; done))
      | ((with_reducible refine AWP.condF ?_ ?_); focus (simp only [ev, lk_cons, ↓reduceIte, Nat.reduceEqDiff]; done))
      | simp only [go_sem, ↓reduceIte, Nat.reduceEqDiff, reduceCtorEq, Nat.reduceAdd, Int.reduceEq, Int.reduceBNe, Int.reduceBEq, Int.reduceToNat, Int.reduceLT, Int.reduceLE, Int.reduceGT, Int.reduceGE, Nat.reduceSub, Nat.reduceBEq, Nat.reduceBNe, Int.reduceAdd, Int.reduceSub, Int.reduceMul, Int.reduceNeg, Nat.reduceMul, Nat.reduceLeDiff, Nat.reduceLT]
      | simp (disch := omega) only [wi64, wu8, wu16, wu32, wu64]
      | with_reducible_and_instances exact finR
      | ((with_reducible refine finR' ?_ ?_) <;> rfl)
      | ((with_reducible refine finD hsc (NRel.of_plain ?_)); exact rfl)
theorem or_half (a b : Nat) (ha : a < 16) (hb : b < 16) : orI .u8 ((UInt8.ofNat (16 * a)).toNat : Int) (b : Int) = ((UInt8.ofNat (16 * a + b)).toNat : Int) := by
  rw [toNat_ofNat8 (n := 16 * a) (by omega), orI_n8 _ _ (by omega) (by omega), toNat_ofNat8 (by omega), Nat.two_pow_add_eq_or_of_lt (i := 4) hb a]
theorem shl_half (a : Nat) (ha : a < 16) : IntKind.u8.wrap (shlI .i64 (a : Int) 4) = ((UInt8.ofNat (16 * a)).toNat : Int) := by
  rw [toNat_ofNat8 (by omega)]
  unfold shlI
  rw [show min (Int.toNat 4) IntKind.i64.bits = 4 from rfl, show ((a : Int) * 2 ^ 4) = ((16 * a : Nat) : Int) by rw [show (2 : Int) ^ 4 = 16 by decide]; omega, wi64 (by omega), wu8 (by omega)]
theorem wu8_n (b : Nat) (hb : b < 256) : IntKind.u8.wrap (b : Int) = ((UInt8.ofNat b).toNat : Int) := by
  rw [toNat_ofNat8 hb, wu8 (by omega)]
theorem FromHex (s : List UInt8) (hs : s.length ≤ 9223372036854775807) (H : AHeap) : ARet Try.prog 29 [.string (bs s)] H (fromR s) H := by
  unfold fromR errR
  by_cases h1 : s.length > 65536
  · rw [if_pos h1]
    have h1' : (s.length : Int) > 65536 := by omega
    refine AC.enter Try.func29 rfl (by kernel_rfl) 46 rfl [.tmp 2, .tmp 3] rfl (by simp) fun hsc B => ?_
    repeat first
      | with_reducible refine AWP.seq ?_
      | ((with_reducible refine AWP.region ?_ ?_); exact rfl)
      | with_reducible refine AWP.block ?_
      | with_reducible refine AWP.skip ?_
      | with_reducible refine AWP.exit ?_
      | with_reducible refine AWP.ret ?_
      | with_reducible refine AWP.label ?_
      | with_reducible refine AWP.goto ?_
      | ((with_reducible refine AWP.condT ?_ ?_); focus (simp only [ev, lk_cons, ↓reduceIte, Nat.reduceEqDiff]; done))
      | ((with_reducible refine AWP.condF ?_ ?_); focus (simp only [ev, lk_cons, ↓reduceIte, Nat.reduceEqDiff]; done))
      | simp only [go_sem, ↓reduceIte, Nat.reduceEqDiff, reduceCtorEq, Nat.reduceAdd, Int.reduceEq, Int.reduceBNe, Int.reduceBEq, Int.reduceToNat, Int.reduceLT, Int.reduceLE, Int.reduceGT, Int.reduceGE, Nat.reduceSub, Nat.reduceBEq, Nat.reduceBNe, Int.reduceAdd, Int.reduceSub, Int.reduceMul, Int.reduceNeg, Nat.reduceMul, Nat.reduceLeDiff, Nat.reduceLT, h1']
      | simp (disch := omega) only [wi64, wu8, wu16, wu32, wu64]
      | with_reducible_and_instances exact finR
      | ((with_reducible refine finR' ?_ ?_) <;> rfl)
      | ((with_reducible refine finD hsc (NRel.of_plain ?_)); exact rfl)
  rw [if_neg h1]
  have h1' : ¬ (s.length : Int) > 65536 := by omega
  have hm : ((s.length : Nat) : Int).tmod 2 = ((s.length % 2 : Nat) : Int) := Int.ofNat_tmod s.length 2
  by_cases h2 : s.length % 2 ≠ 0
  · rw [if_pos h2]
    have h2' : (((s.length % 2 : Nat) : Int) != 0) = true := by simp; omega
    refine AC.enter Try.func29 rfl (by kernel_rfl) 46 rfl [.tmp 2, .tmp 3] rfl (by simp) fun hsc B => ?_
    repeat first
      | with_reducible refine AWP.seq ?_
      | ((with_reducible refine AWP.region ?_ ?_); exact rfl)
      | with_reducible refine AWP.block ?_
      | with_reducible refine AWP.skip ?_
      | with_reducible refine AWP.exit ?_
      | with_reducible refine AWP.ret ?_
      | with_reducible refine AWP.label ?_
      | with_reducible refine AWP.goto ?_
      | ((with_reducible refine AWP.condT ?_ ?_); focus (simp only [ev, lk_cons, ↓reduceIte, Nat.reduceEqDiff]; done))
      | ((with_reducible refine AWP.condF ?_ ?_); focus (simp only [ev, lk_cons, ↓reduceIte, Nat.reduceEqDiff]; done))
      | simp only [go_sem, ↓reduceIte, Nat.reduceEqDiff, reduceCtorEq, Nat.reduceAdd, Int.reduceEq, Int.reduceBNe, Int.reduceBEq, Int.reduceToNat, Int.reduceLT, Int.reduceLE, Int.reduceGT, Int.reduceGE, Nat.reduceSub, Nat.reduceBEq, Nat.reduceBNe, Int.reduceAdd, Int.reduceSub, Int.reduceMul, Int.reduceNeg, Nat.reduceMul, Nat.reduceLeDiff, Nat.reduceLT, h1', hm, h2']
      | simp (disch := omega) only [wi64, wu8, wu16, wu32, wu64]
      | with_reducible_and_instances exact finR
      | ((with_reducible refine finR' ?_ ?_) <;> rfl)
      | ((with_reducible refine finD hsc (NRel.of_plain ?_)); exact rfl)
  rw [if_neg h2]
  have h2' : (((s.length % 2 : Nat) : Int) != 0) = false := by simp; omega
  refine AC.enter Try.func29 rfl (by kernel_rfl) 46 rfl [.tmp 2, .tmp 3] rfl (by simp) fun hsc B => ?_
  repeat first
    | with_reducible refine AWP.seq ?_
    | ((with_reducible refine AWP.region ?_ ?_); exact rfl)
    | with_reducible refine AWP.block ?_
    | with_reducible refine AWP.skip ?_
    | with_reducible refine AWP.exit ?_
    | with_reducible refine AWP.ret ?_
    | with_reducible refine AWP.label ?_
    | with_reducible refine AWP.goto ?_
    | ((with_reducible refine AWP.condT ?_ ?_); focus (simp only [ev, lk_cons, ↓reduceIte, Nat.reduceEqDiff]; done))
    | ((with_reducible refine AWP.condF ?_ ?_); focus (simp only [ev, lk_cons, ↓reduceIte, Nat.reduceEqDiff]; done))
    | simp only [go_sem, ↓reduceIte, Nat.reduceEqDiff, reduceCtorEq, Nat.reduceAdd, Int.reduceEq, Int.reduceBNe, Int.reduceBEq, Int.reduceToNat, Int.reduceLT, Int.reduceLE, Int.reduceGT, Int.reduceGE, Nat.reduceSub, Nat.reduceBEq, Nat.reduceBNe, Int.reduceAdd, Int.reduceSub, Int.reduceMul, Int.reduceNeg, Nat.reduceMul, Nat.reduceLeDiff, Nat.reduceLT, h1', hm, h2']
    | simp (disch := omega) only [wi64, wu8, wu16, wu32, wu64]
    | with_reducible_and_instances exact finR
    | ((with_reducible refine finR' ?_ ?_) <;> rfl)
    | ((with_reducible refine finD hsc (NRel.of_plain ?_)); exact rfl)
  refine AWP.loopP (fun n : Nat => ⟨[(0, .string (bs s)), (4, gS H.length (outP s n).length), (15, .int .i64 (s.length : Nat)), (16, .int .i64 (n : Nat))], [], H ++ [gO (bytesC (outP s n)) ⟨5, 1, true, 0, none⟩]⟩)
    (fun n => n ≤ s.length ∧ ∀ j, j < n → ¬ valN (s.getD j 0) < 0) (fun n => s.length - n) 0 ?_ ⟨Nat.zero_le _, fun j hj => by omega⟩ ?_
  · exact Weak.pad1 (by simp [envIn, lk_cons, wth_some, gS_zero, outP, full])
  rintro n ⟨hn, hj⟩
  by_cases hc : n < s.length
  · have hc' : (n : Int) < (s.length : Int) := by omega
    have hg : s[n]? = some (s.getD n 0) := by rw [List.getD_eq_getElem?_getD, List.getElem?_eq_getElem hc]; rfl
    have hI := IndexByte (s.getD n 0)
    by_cases hv : valN (s.getD n 0) < 0
    · rw [if_neg (fun hall => hall n hc hv)]
      repeat first
        | with_reducible refine AWP.seq ?_
        | ((with_reducible refine AWP.region ?_ ?_); exact rfl)
        | with_reducible refine AWP.block ?_
        | with_reducible refine AWP.skip ?_
        | with_reducible refine AWP.exit ?_
        | with_reducible refine AWP.ret ?_
        | with_reducible refine AWP.label ?_
        | with_reducible refine AWP.goto ?_
        | ((with_reducible refine AWP.condT ?_ ?_); focus (simp only [ev, lk_cons, ↓reduceIte, Nat.reduceEqDiff]; done))
        | ((with_reducible refine AWP.condF ?_ ?_); focus (simp only [ev, lk_cons, ↓reduceIte, Nat.reduceEqDiff]; done))
        | with_reducible refine (hI _).use ?_
        | simp only [go_sem, ↓reduceIte, Nat.reduceEqDiff, reduceCtorEq, Nat.reduceAdd, Int.reduceEq, Int.reduceBNe, Int.reduceBEq, Int.reduceToNat, Int.reduceLT, Int.reduceLE, Int.reduceGT, Int.reduceGE, Nat.reduceSub, Nat.reduceBEq, Nat.reduceBNe, Int.reduceAdd, Int.reduceSub, Int.reduceMul, Int.reduceNeg, Nat.reduceMul, Nat.reduceLeDiff, Nat.reduceLT, hc', hg, hv]
        | simp (disch := omega) only [wi64, wu8, wu16, wu32, wu64]
        | with_reducible_and_instances exact finR
        | ((with_reducible refine finR' ?_ ?_) <;> rfl)
        | ((with_reducible refine finD hsc (NRel.of_plain ?_)); exact rfl)
    · have hvl := vN_lt (s.getD n 0)
      have hve := vN_eq hv
      have hv' : ¬ ((vN (s.getD n 0) : Nat) : Int) < 0 := by omega
      rw [hve] at hI
      have hnext : ∀ j, j < n + 1 → ¬ valN (s.getD j 0) < 0 := fun j hj' => by
        by_cases e : j = n
        · rw [e]; exact hv
        · exact hj j (by omega)
      rcases (show n % 2 = 0 ∨ n % 2 = 1 by omega) with he | he
      · obtain ⟨q, rfl⟩ : ∃ q, n = 2 * q := ⟨n / 2, by omega⟩
        have t1 : ((((2 * q : Nat) : Int).tmod 2) == 0) = true := by rw [Int.tmod_eq_emod_of_nonneg (by omega), show ((2 * q : Nat) : Int) % 2 = 0 by omega]; rfl
        have sh := shl_half (vN (s.getD (2 * q) 0)) hvl
        have hln : (bytesC (full s q)).length = q := by rw [bytesC_length, full_len]
        have hst : bytesC (full s q) ++ [.int .u8 ((UInt8.ofNat (16 * vN (s.getD (2 * q) 0))).toNat : Int)] = bytesC (outP s (2 * q + 1)) := by rw [outP_odd, bytesC_snoc]; rfl
        rw [outP_even, full_len]
        repeat first
          | with_reducible refine AWP.seq ?_
          | ((with_reducible refine AWP.region ?_ ?_); exact rfl)
          | with_reducible refine AWP.block ?_
          | with_reducible refine AWP.skip ?_
          | with_reducible refine AWP.exit ?_
          | with_reducible refine AWP.ret ?_
          | with_reducible refine AWP.label ?_
          | with_reducible refine AWP.goto ?_
          | ((with_reducible refine AWP.condT ?_ ?_); focus (simp only [ev, lk_cons, ↓reduceIte, Nat.reduceEqDiff]; done))
          | ((with_reducible refine AWP.condF ?_ ?_); focus (simp only [ev, lk_cons, ↓reduceIte, Nat.reduceEqDiff]; done))
          | with_reducible refine (hI _).use ?_
          | simp only [go_sem, ↓reduceIte, Nat.reduceEqDiff, reduceCtorEq, Nat.reduceAdd, Int.reduceEq, Int.reduceBNe, Int.reduceBEq, Int.reduceToNat, Int.reduceLT, Int.reduceLE, Int.reduceGT, Int.reduceGE, Nat.reduceSub, Nat.reduceBEq, Nat.reduceBNe, Int.reduceAdd, Int.reduceSub, Int.reduceMul, Int.reduceNeg, Nat.reduceMul, Nat.reduceLeDiff, Nat.reduceLT, hc', hg, hv', t1, sh]
          | simp (disch := omega) only [wi64, wu8, wu16, wu32, wu64]
          | with_reducible_and_instances exact finR
          | ((with_reducible refine finR' ?_ ?_) <;> rfl)
          | ((with_reducible refine finD hsc (NRel.of_plain ?_)); exact rfl)
        refine appendTo_gn (by simp only [go_sem, ↓reduceIte, Nat.reduceEqDiff, reduceCtorEq, Nat.reduceAdd, Int.reduceEq, Int.reduceBNe, Int.reduceBEq, Int.reduceToNat, Int.reduceLT, Int.reduceLE, Int.reduceGT, Int.reduceGE, Nat.reduceSub, Nat.reduceBEq, Nat.reduceBNe, Int.reduceAdd, Int.reduceSub, Int.reduceMul, Int.reduceNeg, Nat.reduceMul, Nat.reduceLeDiff, Nat.reduceLT]) hln (by omega) (by omega) ?_
        repeat first
          | with_reducible refine AWP.seq ?_
          | ((with_reducible refine AWP.region ?_ ?_); exact rfl)
          | with_reducible refine AWP.block ?_
          | with_reducible refine AWP.skip ?_
          | with_reducible refine AWP.exit ?_
          | with_reducible refine AWP.ret ?_
          | with_reducible refine AWP.label ?_
          | with_reducible refine AWP.goto ?_
          | ((with_reducible refine AWP.condT ?_ ?_); focus (simp only [ev, lk_cons, ↓reduceIte, Nat.reduceEqDiff]; done))
          | ((with_reducible refine AWP.condF ?_ ?_); focus (simp only [ev, lk_cons, ↓reduceIte, Nat.reduceEqDiff]; done))
          | simp only [go_sem, ↓reduceIte, Nat.reduceEqDiff, reduceCtorEq, Nat.reduceAdd, Int.reduceEq, Int.reduceBNe, Int.reduceBEq, Int.reduceToNat, Int.reduceLT, Int.reduceLE, Int.reduceGT, Int.reduceGE, Nat.reduceSub, Nat.reduceBEq, Nat.reduceBNe, Int.reduceAdd, Int.reduceSub, Int.reduceMul, Int.reduceNeg, Nat.reduceMul, Nat.reduceLeDiff, Nat.reduceLT, hst]
          | simp (disch := omega) only [wi64, wu8, wu16, wu32, wu64]
          | with_reducible_and_instances exact finR
          | ((with_reducible refine finR' ?_ ?_) <;> rfl)
          | ((with_reducible refine finD hsc (NRel.of_plain ?_)); exact rfl)
        have hol : (outP s (2 * q + 1)).length = q + 1 := by rw [outP_odd, List.length_append, full_len, List.length_singleton]
        refine ⟨2 * q + 1, ?_, by omega, hnext, by omega⟩
        rw [hol, gO_ne (bytesC_ne (by omega))]
        refine Weak.pick [2] rfl hsc (by simp) ⟨?_, ?_⟩
        · simp [selW_cons, selW_nil, wth_some, onm_cells, nrs_refl (bytesC_scalar _)]
        · simp only [Int.natCast_add, Int.natCast_zero, Int.natCast_one, Int.cast_ofNat_Int, envIn_nil, envIn_cons, lk_co, wth_so, nr_bool, nr_int, nr_string, nr_slice, nr_nilSlice, nr_ptr, nr_nilPtr, nr_map, nr_nilMap, nr_nilFunc, nr_nilIface, nr_iface, nr_agg, nr_tuple, nr_func, nr_yield, nrs_nil, nrs_cons, selN_0, selN_k, selN_lt, upto_lt, List.getElem?_cons_zero, List.getElem?_cons_succ, Option.map_some, Nat.add_zero, and_self, ↓reduceIte, Nat.reduceEqDiff, true_and, and_true, nr_gs]
          omega
      · obtain ⟨q, rfl⟩ : ∃ q, n = 2 * q + 1 := ⟨n / 2, by omega⟩
        have t1 : ((((2 * q + 1 : Nat) : Int).tmod 2) == 0) = false := by rw [Int.tmod_eq_emod_of_nonneg (by omega), show ((2 * q + 1 : Nat) : Int) % 2 = 1 by omega]; rfl
        have t2 : (((2 * q + 1 : Nat) : Int).tdiv 2) = ((q : Nat) : Int) := by rw [Int.tdiv_eq_ediv_of_nonneg (by omega)]; omega
        rw [outP_odd, List.length_append, full_len, List.length_singleton, gS_pos (by omega)]
        rw [gO_ne (bytesC_ne (by rw [List.length_append, full_len, List.length_singleton]; omega))]
        have hq1 : ((q : Nat) : Int) < ((q + 1 : Nat) : Int) := by omega
        have hgq : (bytesC (full s q ++ [halfAt s q]))[q]? = some (.int .u8 ((UInt8.ofNat (16 * vN (s.getD (2 * q) 0))).toNat : Int)) := by
          rw [bytesC_get, List.getElem?_append_right (by rw [full_len]; omega), full_len, Nat.sub_self]; rfl
        have ho := or_half _ _ (vN_lt (s.getD (2 * q) 0)) hvl
        have hst : (full s q ++ [halfAt s q]).set q (UInt8.ofNat (16 * vN (s.getD (2 * q) 0) + vN (s.getD (2 * q + 1) 0))) = full s (q + 1) := by
          rw [List.set_append_right _ _ (by rw [full_len]; omega), full_len, Nat.sub_self, full_succ]; rfl
        have hlq : (full s q ++ [halfAt s q]).length = q + 1 := by rw [List.length_append, full_len, List.length_singleton]
        repeat first
          | with_reducible refine AWP.seq ?_
          | ((with_reducible refine AWP.region ?_ ?_); exact rfl)
          | with_reducible refine AWP.block ?_
          | with_reducible refine AWP.skip ?_
          | with_reducible refine AWP.exit ?_
          | with_reducible refine AWP.ret ?_
          | with_reducible refine AWP.label ?_
          | with_reducible refine AWP.goto ?_
          | ((with_reducible refine AWP.condT ?_ ?_); focus (simp only [ev, lk_cons, ↓reduceIte, Nat.reduceEqDiff]; done))
          | ((with_reducible refine AWP.condF ?_ ?_); focus (simp only [ev, lk_cons, ↓reduceIte, Nat.reduceEqDiff]; done))
          | with_reducible refine (hI _).use ?_
          | simp only [go_sem, ↓reduceIte, Nat.reduceEqDiff, reduceCtorEq, Nat.reduceAdd, Int.reduceEq, Int.reduceBNe, Int.reduceBEq, Int.reduceToNat, Int.reduceLT, Int.reduceLE, Int.reduceGT, Int.reduceGE, Nat.reduceSub, Nat.reduceBEq, Nat.reduceBNe, Int.reduceAdd, Int.reduceSub, Int.reduceMul, Int.reduceNeg, Nat.reduceMul, Nat.reduceLeDiff, Nat.reduceLT, hc', hg, hv', t1, t2, hq1, hgq, ho, hst, hlq]
          | simp (disch := omega) only [wi64, wu8, wu16, wu32, wu64]
          | with_reducible_and_instances exact finR
          | ((with_reducible refine finR' ?_ ?_) <;> rfl)
          | ((with_reducible refine finD hsc (NRel.of_plain ?_)); exact rfl)
        refine ⟨2 * (q + 1), ?_, by omega, hnext, by omega⟩
        rw [outP_even, full_len, gS_pos (by omega), gO_ne (bytesC_ne (by rw [full_len]; omega))]
        exact Weak.env (by simp [envIn, lk_cons, wth_some]; omega)
  · have : n = s.length := by omega
    subst this
    have hc' : ¬ (s.length : Int) < (s.length : Int) := by omega
    rw [if_pos (show validL s from hj)]
    obtain ⟨q, hq⟩ : ∃ q, s.length = 2 * q := ⟨s.length / 2, by omega⟩
    have hq2 : s.length / 2 = q := by omega
    rw [hq2]
    have ho : outP s s.length = full s q := by rw [hq, outP_even]
    rw [ho, full_len]
    have ef : List.take q (full s q) = full s q := List.take_of_length_le (by rw [full_len]; omega)
    rcases Nat.eq_zero_or_pos q with h0 | h0
    · subst h0
      simp only [gS_zero]
      have e0 : full s 0 = [] := rfl
      rw [e0]
      have e9 : ByteArray.empty = bs [] := rfl
      repeat first
        | with_reducible refine AWP.seq ?_
        | ((with_reducible refine AWP.region ?_ ?_); exact rfl)
        | with_reducible refine AWP.block ?_
        | with_reducible refine AWP.skip ?_
        | with_reducible refine AWP.exit ?_
        | with_reducible refine AWP.ret ?_
        | with_reducible refine AWP.label ?_
        | with_reducible refine AWP.goto ?_
        | ((with_reducible refine AWP.condT ?_ ?_); focus (simp only [ev, lk_cons, ↓reduceIte, Nat.reduceEqDiff]; done))
        | ((with_reducible refine AWP.condF ?_ ?_); focus (simp only [ev, lk_cons, ↓reduceIte, Nat.reduceEqDiff]; done))
        | simp only [go_sem, ↓reduceIte, Nat.reduceEqDiff, reduceCtorEq, Nat.reduceAdd, Int.reduceEq, Int.reduceBNe, Int.reduceBEq, Int.reduceToNat, Int.reduceLT, Int.reduceLE, Int.reduceGT, Int.reduceGE, Nat.reduceSub, Nat.reduceBEq, Nat.reduceBNe, Int.reduceAdd, Int.reduceSub, Int.reduceMul, Int.reduceNeg, Nat.reduceMul, Nat.reduceLeDiff, Nat.reduceLT, hc', e9]
        | simp (disch := omega) only [wi64, wu8, wu16, wu32, wu64]
        | with_reducible_and_instances exact finR
        | ((with_reducible refine finR' ?_ ?_) <;> rfl)
        | ((with_reducible refine finD hsc (NRel.of_plain ?_)); exact rfl)
    · rw [gS_pos h0, gO_ne (bytesC_ne (by rw [full_len]; exact h0))]
      repeat first
        | with_reducible refine AWP.seq ?_
        | ((with_reducible refine AWP.region ?_ ?_); exact rfl)
        | with_reducible refine AWP.block ?_
        | with_reducible refine AWP.skip ?_
        | with_reducible refine AWP.exit ?_
        | with_reducible refine AWP.ret ?_
        | with_reducible refine AWP.label ?_
        | with_reducible refine AWP.goto ?_
        | ((with_reducible refine AWP.condT ?_ ?_); focus (simp only [ev, lk_cons, ↓reduceIte, Nat.reduceEqDiff]; done))
        | ((with_reducible refine AWP.condF ?_ ?_); focus (simp only [ev, lk_cons, ↓reduceIte, Nat.reduceEqDiff]; done))
        | simp only [go_sem, ↓reduceIte, Nat.reduceEqDiff, reduceCtorEq, Nat.reduceAdd, Int.reduceEq, Int.reduceBNe, Int.reduceBEq, Int.reduceToNat, Int.reduceLT, Int.reduceLE, Int.reduceGT, Int.reduceGE, Nat.reduceSub, Nat.reduceBEq, Nat.reduceBNe, Int.reduceAdd, Int.reduceSub, Int.reduceMul, Int.reduceNeg, Nat.reduceMul, Nat.reduceLeDiff, Nat.reduceLT, hc', full_len, ef]
        | simp (disch := omega) only [wi64, wu8, wu16, wu32, wu64]
        | with_reducible_and_instances exact finR
        | ((with_reducible refine finR' ?_ ?_) <;> rfl)
        | ((with_reducible refine finD hsc (NRel.of_plain ?_)); exact rfl)
end Go.Proofs.Ytdeoaadkngiilaa
