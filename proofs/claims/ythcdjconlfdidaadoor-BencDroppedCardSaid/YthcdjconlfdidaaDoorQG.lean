/-
 Plain law: values that are put and dropped along a path.
-/
import Derived.Test.YthcdjconlfdidaaDoorQEM
import Derived.Test.YthcdjconlfdidaaDoorQ1M
import Derived.Test.YthcdjconlfdidaaDoorE4
set_option linter.unusedVariables false
set_option linter.unusedSimpArgs false
set_option maxRecDepth 20000
namespace Go.Proofs.YthcdjconlfdidaaDoor
open Go Go.Aw Go.Proofs
/-- Where a text stands or would stand. -/
def lowAt (l : List Tx) (t : Tx) : Nat := (l.takeWhile (fun x => Op.bytesLess x t)).length
theorem lowAt_le (l : List Tx) (t : Tx) : lowAt l t ≤ l.length := (List.takeWhile_prefix _).length_le
theorem low_at {l : List Tx} {t : Tx} {i : Nat} (h : Low l t i) : i = lowAt l t := by
 unfold lowAt
 have h1 : l.takeWhile (fun x => Op.bytesLess x t) = l.take i := by
  have e : l = l.take i ++ l.drop i := (List.take_append_drop i l).symm
  have hp : ∀ x ∈ l.take i, Op.bytesLess x t = true := fun x hx => by
   obtain ⟨j, hj, rfl⟩ := List.getElem_of_mem hx
   rw [List.length_take] at hj
   rw [List.getElem_take]
   exact h.lo j _ (by omega) (List.getElem?_eq_getElem (by omega))
  rw [show l.takeWhile (fun x => Op.bytesLess x t) = (l.take i ++ l.drop i).takeWhile (fun x => Op.bytesLess x t) by rw [List.take_append_drop]]
  rw [List.takeWhile_append_of_pos hp]
  cases hd : l.drop i with
  | nil => simp
  | cons x r =>
   have hx : l[i]? = some x := by
    have := congrArg (fun l => l[0]?) hd
    simpa using this
   rw [List.takeWhile_cons_of_neg (by rw [h.hi i x (Nat.le_refl _) hx]; decide), List.append_nil]
 rw [h1, List.length_take]
 have := h.le
 omega
/-- A value whose lists are others. -/
def withL (v : BV) (kids : List BV) (keys : List Tx) : BV := .mk v.kind v.num v.text kids keys
theorem withL_same (v : BV) : withL v v.kids v.keys = v := (BV.eta v).symm
/-- What the last step of Set makes. -/
def setL (x : BV) (v : BV) (t : Tx) : BV × Int :=
 if (stepR v t).2 = 0 then (withL v (v.kids.set (stepR v t).1.toNat x) v.keys, 0)
 else if (stepR v t).2 = 8 ∧ v.kind = 4 then (withL v (insAt v.kids (lowAt v.keys t) x) (insAt v.keys (lowAt v.keys t) t), 0)
 else if (stepR v t).2 = 8 ∧ t = Lib.decDigits v.kids.length then (withL v (v.kids ++ [x]) v.keys, 0)
 else (v, (stepR v t).2)
/-- What the last step of Drop makes. -/
def dropL (v : BV) (t : Tx) : BV × Int :=
 if (stepR v t).2 = 0 then (withL v (v.kids.eraseIdx (stepR v t).1.toNat) (if v.kind = 4 then v.keys.eraseIdx (stepR v t).1.toNat else v.keys), 0)
 else (v, (stepR v t).2)
/-- What a last step makes at the end of a path. -/
def chR (last : BV → Tx → BV × Int) : BV → List Tx → BV × Int
 | v, [] => (v, 0)
 | v, t :: p => if p = [] then last v t else
  if (stepR v t).2 = 0 then (withL v (v.kids.set (stepR v t).1.toNat (chR last (v.kids.getD (stepR v t).1.toNat .zero) p).1) v.keys, (chR last (v.kids.getD (stepR v t).1.toNat .zero) p).2)
  else (v, (stepR v t).2)
def putR (x v : BV) (p : List Tx) : BV × Int := if p = [] then (x, 0) else chR (setL x) v p
def setR (v : BV) (p : List Tx) (x : BV) : BV × Int :=
 if v.valid = true ∧ x.valid = true then if (putR x v p).2 = 0 then if (putR x v p).1.valid = true then ((putR x v p).1, 0) else (.zero, 4) else (.zero, (putR x v p).2) else (.zero, 1)
def dropR (v : BV) (p : List Tx) : BV × Int :=
 if v.valid = true then if p = [] then (.zero, 7) else if (chR dropL v p).2 = 0 then ((chR dropL v p).1, 0) else (.zero, (chR dropL v p).2) else (.zero, 1)
theorem stepR_withL {v : BV} {t : Tx} {kids : List BV} (h : kids.length = v.kids.length) : stepR (withL v kids v.keys) t = stepR v t := by
 unfold stepR withL
 simp only [BV.kind, BV.keys, BV.kids, h]
 cases v
 rfl
theorem ins_get {α : Type} (l : List α) (i : Nat) (x : α) (hi : i ≤ l.length) : (insAt l i x)[i]? = some x := by
 unfold insAt
 rw [List.getElem?_append_right (by rw [List.length_take]; omega)]
 rw [List.length_take, Nat.min_eq_left hi, Nat.sub_self]
 rfl
theorem ins_lo {α : Type} (l : List α) (i : Nat) (x : α) (j : Nat) (hj : j < i) (hi : i ≤ l.length) : (insAt l i x)[j]? = l[j]? := by
 unfold insAt
 rw [List.getElem?_append_left (by rw [List.length_take]; omega), List.getElem?_take, if_pos hj]
theorem ins_hi {α : Type} (l : List α) (i : Nat) (x : α) (j : Nat) (hj : i ≤ j) (hi : i ≤ l.length) : (insAt l i x)[j + 1]? = l[j]? := by
 unfold insAt
 rw [List.getElem?_append_right (by rw [List.length_take]; omega), List.length_take, Nat.min_eq_left hi, show j + 1 - i = (j - i) + 1 by omega, List.getElem?_cons_succ, List.getElem?_drop]
 congr 1; omega
theorem ins_len {α : Type} (l : List α) (i : Nat) (x : α) (hi : i ≤ l.length) : (insAt l i x).length = l.length + 1 := by
 unfold insAt; simp; omega
theorem era_ins {α : Type} (l : List α) (i : Nat) (x : α) (hi : i ≤ l.length) : (insAt l i x).eraseIdx i = l := by
 unfold insAt
 rw [List.eraseIdx_append_of_length_le (by rw [List.length_take]; omega), List.length_take, Nat.min_eq_left hi, Nat.sub_self]
 exact List.take_append_drop i l
theorem kAt_none_iff {l : List Tx} {t : Tx} : kAt l t = none ↔ t ∉ l := by
 unfold kAt
 rw [List.findIdx?_eq_none_iff]
 constructor
 ·intro h hm
  have := h t hm
  simp at this
 ·intro h x hx
  rw [beq_eq_false_iff_ne]
  rintro rfl
  exact h hx
/-- The first place at which a key stands. -/
theorem kAt_of {l : List Tx} {t : Tx} {i : Nat} (h : l[i]? = some t) (hlo : ∀ j, j < i → l[j]? ≠ some t) : kAt l t = some i := by
 unfold kAt
 rw [List.findIdx?_eq_some_iff_getElem]
 obtain ⟨hi, e⟩ := List.getElem?_eq_some_iff.1 h
 refine ⟨hi, by simp [e], fun j hj => ?_⟩
 have := hlo j hj
 rw [List.getElem?_eq_getElem (by omega)] at this
 simpa using this
theorem kAt_ins {l : List Tx} {t : Tx} {i : Nat} (hi : i ≤ l.length) (hn : t ∉ l) : kAt (insAt l i t) t = some i :=
 kAt_of (ins_get l i t hi) fun j hj e => by
  rw [ins_lo l i t j hj hi] at e
  exact hn (List.mem_of_getElem? e)
theorem kAt_ins_other {l : List Tx} {t u : Tx} {i j : Nat} (hi : i ≤ l.length) (hasc : BV.asc l = true) (hn : t ∉ l) (hu : l[j]? = some u) : kAt (insAt l i t) u = some (if j < i then j else j + 1) := by
 have hne : ∀ k, k < j → l[k]? ≠ some u := fun k hk e => by
  have := asc_at hasc k j _ _ hk e hu
  rw [lt_irr] at this; cases this
 have hut : t ≠ u := fun e => hn (e ▸ List.mem_of_getElem? hu)
 by_cases hji : j < i
 ·rw [if_pos hji]
  refine kAt_of (by rw [ins_lo l i t j hji hi]; exact hu) fun k hk e => ?_
  rw [ins_lo l i t k (by omega) hi] at e
  exact hne k hk e
 ·rw [if_neg hji]
  refine kAt_of (by rw [ins_hi l i t j (by omega) hi]; exact hu) fun k hk e => ?_
  rcases Nat.lt_trichotomy k i with h1 | rfl | h1
  ·rw [ins_lo l i t k h1 hi] at e
   exact hne k (by omega) e
  ·rw [ins_get l k t hi] at e
   exact hut (Option.some.inj e)
  ·obtain ⟨m, rfl⟩ : ∃ m, k = m + 1 := ⟨k - 1, by omega⟩
   rw [ins_hi l i t m (by omega) hi] at e
   exact hne m (by omega) e
theorem stepR_dict {v : BV} (h : v.kind = 4) (t : Tx) : stepR v t = match kAt v.keys t with | some i => ((i : Nat), 0) | none => (0, 8) := by
 unfold stepR; rw [if_pos h]; cases kAt v.keys t <;> rfl
theorem stepR_list {v : BV} (h : v.kind = 3) (t : Tx) : stepR v t = match nAt v.kids.length t with | some i => ((i : Nat), 0) | none => (0, 8) := by
 unfold stepR; rw [if_neg (by rw [h]; decide), if_pos h]; cases nAt v.kids.length t <;> rfl
theorem form_asc' {v : BV} (h : v.form = true) (hk : v.kind = 4) : BV.asc v.keys = true ∧ v.keys.length = v.kids.length := by
 obtain ⟨k, n, s, kids, keys⟩ := v
 exact form_asc h hk
/-- A longer path. -/
theorem goR_app : ∀ (p q : List Tx) (v d : BV), goR v p = (d, 0) → goR v (p ++ q) = goR d q
 | [], q, v, d, h => by rw [goR] at h; cases h; rfl
 | t :: p, q, v, d, h => by
  rw [List.cons_append]
  rw [goR] at h ⊢
  by_cases e0 : (stepR v t).2 = 0
  ·rw [if_pos e0] at h ⊢
   exact goR_app p q _ d h
  ·rw [if_neg e0] at h
   exact absurd (congrArg Prod.snd h) e0
/-- A key that was put into a dictionary and dropped again; and the other keys. -/
theorem put_drop (x : BV) (key : Tx) : ∀ (p : List Tx) (v d : BV), Good v → goR v p = (d, 0) → d.kind = 4 → key ∉ d.keys →
  (chR (setL x) v (p ++ [key])).2 = 0 ∧ chR dropL (chR (setL x) v (p ++ [key])).1 (p ++ [key]) = (v, 0) ∧ ∃ d', goR (chR (setL x) v (p ++ [key])).1 p = (d', 0) ∧ ∀ (i : Nat) (k : Tx), d.keys[i]? = some k → goR d' [k] = (d.kids.getD i .zero, 0)
 | [], v, d, hg, h, hk, hn => by
  rw [goR] at h
  cases h
  rw [List.nil_append, chR, if_pos rfl]
  obtain ⟨hasc, hkl⟩ := form_asc' hg.form hk
  have hle := lowAt_le v.keys key
  have hs8 : stepR v key = (0, 8) := by rw [stepR_dict hk, kAt_none_iff.2 hn]
  have hset : setL x v key = (withL v (insAt v.kids (lowAt v.keys key) x) (insAt v.keys (lowAt v.keys key) key), 0) := by
   unfold setL
   rw [hs8, if_neg (by decide), if_pos ⟨rfl, hk⟩]
  rw [hset]
  have hk2 : (withL v (insAt v.kids (lowAt v.keys key) x) (insAt v.keys (lowAt v.keys key) key)).kind = 4 := hk
  have hst : stepR (withL v (insAt v.kids (lowAt v.keys key) x) (insAt v.keys (lowAt v.keys key) key)) key = (((lowAt v.keys key : Nat) : Int), 0) := by
   rw [stepR_dict hk2]
   have : (withL v (insAt v.kids (lowAt v.keys key) x) (insAt v.keys (lowAt v.keys key) key)).keys = insAt v.keys (lowAt v.keys key) key := rfl
   rw [this, kAt_ins hle hn]
  refine ⟨rfl, ?_, _, by rw [goR], fun i k hi => ?_⟩
  ·rw [chR, if_pos rfl]
   unfold dropL
   rw [hst, if_pos rfl, if_pos hk2, Int.toNat_natCast]
   have h1 : (withL v (insAt v.kids (lowAt v.keys key) x) (insAt v.keys (lowAt v.keys key) key)).kids = insAt v.kids (lowAt v.keys key) x := rfl
   have h2 : (withL v (insAt v.kids (lowAt v.keys key) x) (insAt v.keys (lowAt v.keys key) key)).keys = insAt v.keys (lowAt v.keys key) key := rfl
   rw [h1, h2, era_ins _ _ _ (by omega), era_ins _ _ _ hle]
   show (withL v v.kids v.keys, 0) = (v, 0)
   rw [withL_same]
  ·have hil := (List.getElem?_eq_some_iff.1 hi).1
   rw [goR, stepR_dict hk2]
   have h2 : (withL v (insAt v.kids (lowAt v.keys key) x) (insAt v.keys (lowAt v.keys key) key)).keys = insAt v.keys (lowAt v.keys key) key := rfl
   have h1 : (withL v (insAt v.kids (lowAt v.keys key) x) (insAt v.keys (lowAt v.keys key) key)).kids = insAt v.kids (lowAt v.keys key) x := rfl
   rw [h1, h2, kAt_ins_other hle hasc hn hi]
   dsimp only
   rw [if_pos rfl, goR, Int.toNat_natCast, List.getD_eq_getElem?_getD, List.getD_eq_getElem?_getD]
   split
   ·rename_i hlt
    rw [ins_lo _ _ _ _ hlt (by omega)]
   ·rename_i hlt
    rw [ins_hi _ _ _ _ (by omega) (by omega)]
 | t :: p, v, d, hg, h, hk, hn => by
  rw [goR] at h
  by_cases e0 : (stepR v t).2 = 0
  ·rw [if_pos e0] at h
   obtain ⟨i, hi, hie⟩ := stepR_ok hg.form e0
   rw [hie, Int.toNat_natCast, getD_mem hi] at h
   obtain ⟨h1, h2, d', h3, h4⟩ := put_drop x key p v.kids[i] d (hg.kid (List.getElem_mem hi)) h hk hn
   have hne : p ++ [key] ≠ [] := by simp
   rw [List.cons_append, chR, if_neg hne, if_pos e0, hie, Int.toNat_natCast, getD_mem hi]
   have hkd : ∀ y, (withL v (v.kids.set i y) v.keys).kids = v.kids.set i y := fun y => rfl
   have hgd : ∀ y : BV, (v.kids.set i y).getD i .zero = y := fun y => by
    rw [List.getD_eq_getElem?_getD, List.getElem?_set_self hi]; rfl
   refine ⟨h1, ?_, d', ?_, h4⟩
   ·dsimp only
    rw [chR, if_neg hne, stepR_withL (by simp), if_pos e0, hie, Int.toNat_natCast, hkd, hgd, h2]
    dsimp only
    have : withL (withL v (v.kids.set i (chR (setL x) v.kids[i] (p ++ [key])).1) v.keys) ((v.kids.set i (chR (setL x) v.kids[i] (p ++ [key])).1).set i v.kids[i]) (withL v (v.kids.set i (chR (setL x) v.kids[i] (p ++ [key])).1) v.keys).keys = withL v v.kids v.keys := by
     rw [List.set_set, List.set_getElem_self]
     rfl
    rw [this, withL_same]
   ·dsimp only
    rw [goR, stepR_withL (by simp), if_pos e0, hie, Int.toNat_natCast, hkd, hgd]
    exact h3
  ·rw [if_neg e0] at h
   exact absurd (congrArg Prod.snd h) e0
end Go.Proofs.YthcdjconlfdidaaDoor

