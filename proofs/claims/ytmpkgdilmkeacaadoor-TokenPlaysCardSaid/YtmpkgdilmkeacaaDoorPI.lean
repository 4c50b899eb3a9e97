/-
  Tokens: an address announces at most so often in a period.
-/
import Derived.Test.YtmpkgdilmkeacaaDoorPH
set_option linter.unusedVariables false
set_option linter.unusedSimpArgs false
set_option maxRecDepth 20000
set_option maxHeartbeats 4000000
namespace Go.Proofs.YtmpkgdilmkeacaaDoor
open Go Go.Aw Go.Proofs Go.Shelf Go.RowKit Go.ChangeShapes
theorem kc_ne {H : AHeap} {i m : Nat} {K : Kp} (h : Kst H i m K) {b : Nat} {cs : List Value} {k : CK} (hb : H[b]? = some (.cells cs k)) : b ≠ m := by
  intro e
  rw [e, h.hm] at hb
  cases hb
theorem KtoT.behind {H X H' : AHeap} {i m : Nat} {K : Kp} (h : KtoT (H ++ X) i m K H') : KtoT H i m K H' := by
  obtain ⟨m', h1, h2, h3⟩ := h
  rw [List.length_append] at h3
  exact ⟨m', h1, Frm.behind h2, h3.imp id fun h => by omega⟩
theorem tell_now {K : Kp} (h : K.ok) : K.tell K.now = K := by
  unfold Kp.tell
  rw [← h.cnt, if_pos rfl]
theorem bump_ok {K : Kp} (h : K.ok) (x : List UInt8) : (K.bump x).ok := ⟨h.seed, h.old, h.per0, h.per1, h.most0, h.most1, h.now0, h.now1, h.cnt, h.ch0, h.ch1⟩
theorem until_nonneg {K : Kp} (hok : K.ok) (a : Ad) : ¬ untilL K a (tokL (secL K.seed (K.now / K.per)) a) < 0 := by
  have hp0 := hok.per0
  have hn0 := hok.now0
  have hn1 := hok.now1
  obtain ⟨q0, q1⟩ := per_q (t := K.now) (p := K.per) (by omega) (by omega) hp0
  have m1 : 1 * 1000 ≤ (K.now / K.per + 1 + 1) * K.per := Int.mul_le_mul (by omega) hp0 (by omega) (by omega)
  have hf : ∀ (l : List (List UInt8 × Int)) (tk : List UInt8) (m : Int), 0 ≤ m → 0 ≤ l.foldl (stepL a tk) m := by
    intro l tk
    induction l with
    | nil => intro m h; exact h
    | cons e r ih =>
      intro m h
      refine ih _ ?_
      unfold stepL
      split
      · omega
      · exact h
  have h2 := hf (if K.ch = K.now / K.per then [(secL K.old (K.now / K.per), (K.now / K.per + 1) * K.per - 1)] else if K.now / K.per > 0 then [(secL K.seed (K.now / K.per - 1), (K.now / K.per + 1) * K.per - 1)] else []) (tokL (secL K.seed (K.now / K.per)) a) (max (-1) ((K.now / K.per + 1 + 1) * K.per - 1)) (by omega)
  have h3 : untilL K a (tokL (secL K.seed (K.now / K.per)) a) = (if K.ch = K.now / K.per then [(secL K.old (K.now / K.per), (K.now / K.per + 1) * K.per - 1)] else if K.now / K.per > 0 then [(secL K.seed (K.now / K.per - 1), (K.now / K.per + 1) * K.per - 1)] else []).foldl (stepL a (tokL (secL K.seed (K.now / K.per)) a)) (max (-1) ((K.now / K.per + 1 + 1) * K.per - 1)) := by
    unfold untilL secsL
    rw [List.foldl_cons]
    congr 1
    unfold stepL
    rw [if_pos rfl]
  omega
/-- How many announces are taken of so many. -/
def goodN (most : Int) (j : Nat) : Nat := if most = 0 then j else min j most.toNat
/-- A keeper in a round: whose counts, at that time, are those of c announces of an address. -/
structure Kr (seed : List UInt8) (p m : Int) (now : Int) (x : List UInt8) (c : Nat) (K : Kp) : Prop where
  ok : K.ok
  seed : K.seed = seed
  per : K.per = p
  most : K.most = m
  now : K.now = now
  look : lookC K.cs x = c
theorem Kr.ask0 {seed : List UInt8} {p m now : Int} {x : List UInt8} {c : Nat} {K : Kp} (h : Kr seed p m now x c K) {a : Ad} (ha : a.ok = true) : askE K now a = 0 := by
  have h0 := h.ok.now1
  have h1 := h.now
  unfold askE
  rw [if_neg (by rw [ha]; decide), if_neg (by omega)]
theorem Kr.tell {seed : List UInt8} {p m now : Int} {x : List UInt8} {c : Nat} {K : Kp} (h : Kr seed p m now x c K) : K.tell now = K := by
  have := tell_now h.ok
  rwa [h.now] at this
theorem Kr.take {seed : List UInt8} {p m now : Int} {a : Ad} {j : Nat} {K : Kp} (h : Kr seed p m now (keyL a) (goodN m j) K) (ha : a.ok = true) :
    (takeE K now a (tokL (secL seed (now / p)) a) = 0 ∧ goodN m (j + 1) = goodN m j + 1 ∨ takeE K now a (tokL (secL seed (now / p)) a) = 14 ∧ goodN m (j + 1) = goodN m j) ∧
    Kr seed p m now (keyL a) (goodN m (j + 1)) (K.take now a (tokL (secL seed (now / p)) a)) := by
  have hu := until_nonneg h.ok a
  have hm0 := h.ok.most0
  rw [h.seed, h.now, h.per] at hu
  have hE : takeE K now a (tokL (secL seed (now / p)) a) = if roomL K a = true then 0 else 14 := by
    unfold takeE
    rw [if_pos (h.ask0 ha), h.tell, if_neg hu]
  have hb : ∀ c, Kr seed p m now (keyL a) c K → Kr seed p m now (keyL a) (c + 1) (K.bump (keyL a)) := fun c h => ⟨bump_ok h.ok _, h.seed, h.per, h.most, h.now, by
    show lookC (putC K.cs (keyL a) (lookC K.cs (keyL a) + 1)) (keyL a) = c + 1
    rw [lookC_put, if_pos rfl, h.look]⟩
  have hr : roomL K a = if m = 0 then true else decide (((goodN m j : Nat) : Int) < m) := by unfold roomL; rw [h.most, h.look]
  unfold Kp.take
  rw [hE]
  cases hc : roomL K a with
  | true =>
    have e : goodN m (j + 1) = goodN m j + 1 := by
      rw [hc] at hr
      unfold goodN at *
      by_cases h0 : m = 0
      · rw [if_pos h0, if_pos h0]
      · rw [if_neg h0, if_neg h0] at *
        have := of_decide_eq_true hr.symm
        have := h.most
        omega
    rw [if_pos rfl, if_pos rfl, h.tell, e]
    exact ⟨.inl ⟨rfl, rfl⟩, hb _ h⟩
  | false =>
    have e : goodN m (j + 1) = goodN m j := by
      rw [hc] at hr
      unfold goodN at *
      by_cases h0 : m = 0
      · rw [if_pos h0] at hr; cases hr
      · rw [if_neg h0, if_neg h0] at *
        have := of_decide_eq_false hr.symm
        have := h.most
        omega
    rw [if_neg (by decide), if_neg (by decide), e]
    exact ⟨.inr ⟨rfl, rfl⟩, h⟩
end Go.Proofs.YtmpkgdilmkeacaaDoor
