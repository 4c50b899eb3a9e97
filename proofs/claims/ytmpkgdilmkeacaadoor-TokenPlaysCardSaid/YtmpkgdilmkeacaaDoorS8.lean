/-
  Tokens: the program's keeper and the specification's, side by side.
-/
import Derived.Test.YtmpkgdilmkeacaaDoorS7
set_option linter.unusedVariables false
set_option linter.unusedSimpArgs false
set_option maxRecDepth 20000
set_option maxHeartbeats 4000000
namespace Go.Proofs.YtmpkgdilmkeacaaDoor
open Go Go.Aw Go.Proofs Go.Shelf Go.RowKit Go.ChangeShapes
/-- An address' key, of its IP. -/
def kOf (ip : List UInt8) : List UInt8 := ip ++ [if ip.length = 4 then 4 else 6]
theorem keyL_kOf {a : Ad} (h : a.ok = true) : keyL a = kOf a.ip := by
  obtain ⟨hf, -⟩ := ok_fam h
  unfold keyL kOf
  rcases hf with ⟨h1, h2⟩ | ⟨h1, h2⟩
  · rw [h1, h2]; rfl
  · rw [h1, h2]; rfl
theorem kOf_inj {a b : List UInt8} : kOf a = kOf b ↔ a = b := by
  constructor
  · intro h
    unfold kOf at h
    exact (List.append_inj' h rfl).1
  · intro h
    rw [h]
def csStep (p : Int) (cs : List (List UInt8 × Nat)) (e : Int × List UInt8) : List (List UInt8 × Nat) := if e.1 = p then putC cs (kOf e.2) (lookC cs (kOf e.2) + 1) else cs
def csL (p : Int) (l : List (Int × List UInt8)) : List (List UInt8 × Nat) := l.foldl (csStep p) []
theorem csL_snoc (p : Int) (l : List (Int × List UInt8)) (e : Int × List UInt8) : csL p (l ++ [e]) = csStep p (csL p l) e := by
  unfold csL
  rw [List.foldl_append]; rfl
theorem csL_none {p : Int} : ∀ {l : List (Int × List UInt8)}, (∀ e ∈ l, e.1 < p) → csL p l = [] := by
  intro l
  unfold csL
  generalize ([] : List (List UInt8 × Nat)) = cs
  induction l with
  | nil => intro _; rfl
  | cons e r ih =>
    intro h
    have h1 := h e (List.mem_cons_self ..)
    rw [List.foldl_cons, show csStep p cs e = cs from if_neg (by omega)]
    exact ih fun e he => h e (List.mem_cons_of_mem _ he)
theorem look_fold (p : Int) (ip : List UInt8) : ∀ (l : List (Int × List UInt8)) (cs : List (List UInt8 × Nat)), lookC (l.foldl (csStep p) cs) (kOf ip) = lookC cs (kOf ip) + (l.filter (cntP p ip)).length := by
  intro l
  induction l with
  | nil => intro cs; rfl
  | cons e r ih =>
    intro cs
    rw [List.foldl_cons, ih, List.filter_cons]
    unfold csStep cntP
    by_cases h1 : e.1 = p
    · by_cases h2 : e.2 = ip
      · rw [if_pos h1, lookC_put, if_pos (by rw [h2]), h2]
        simp [h1]; omega
      · rw [if_pos h1, lookC_put, if_neg (by rw [kOf_inj]; exact h2)]
        simp [h1, h2]
    · rw [if_neg h1]
      simp [h1]
theorem putC_keys : ∀ (cs : List (List UInt8 × Nat)) (x : List UInt8) (v : Nat), (putC cs x v).map (·.1) = insB (cs.map (·.1)) x := by
  intro cs x v
  induction cs with
  | nil => rfl
  | cons e r ih =>
    obtain ⟨k, n⟩ := e
    unfold putC
    by_cases h : k = x
    · subst h
      simp [insB]
    · have h' : ¬ x = k := fun e => h e.symm
      rw [if_neg h, List.map_cons, ih]
      unfold insB
      rw [List.map_cons, List.contains_cons, beq_eq_false_iff_ne.2 h', Bool.false_or]
      split <;> simp
theorem insB_map (l : List (List UInt8)) (x : List UInt8) : insB (l.map kOf) (kOf x) = (insB l x).map kOf := by
  have h : (l.map kOf).contains (kOf x) = l.contains x := by
    induction l with
    | nil => rfl
    | cons k r ih =>
      rw [List.map_cons, List.contains_cons, List.contains_cons, ih]
      congr 1
      by_cases e : x = k
      · subst e; simp
      · rw [beq_eq_false_iff_ne.2 e, beq_eq_false_iff_ne.2 fun h => e (kOf_inj.1 h)]
  unfold insB
  rw [h]
  split <;> simp
theorem len_fold (p : Int) : ∀ (l : List (Int × List UInt8)) (cs : List (List UInt8 × Nat)) (ips : List (List UInt8)), cs.map (·.1) = ips.map kOf → (l.foldl (csStep p) cs).length = (l.foldl (setStep p) ips).length := by
  intro l
  induction l with
  | nil =>
    intro cs ips h
    have := congrArg List.length h
    rwa [List.length_map, List.length_map] at this
  | cons e r ih =>
    intro cs ips h
    rw [List.foldl_cons, List.foldl_cons]
    refine ih _ _ ?_
    unfold csStep setStep
    split
    · rw [putC_keys, h, insB_map]
    · exact h
/-- The two keepers, behind n acts. -/
structure Cpl (n : Nat) (K : Kp) (R : Rk) : Prop where
  ok : K.ok
  rok : R.ok
  ne : R.seeds ≠ []
  seed : K.seed = R.last.2
  old : 1 < R.seeds.length → K.old = R.old.2
  ch : K.ch = if 1 < R.seeds.length then R.last.1 / R.per else -1
  per : K.per = R.per
  most : K.most = R.most
  now : K.now = R.now
  tk : ∀ e ∈ R.taken, e.1 ≤ R.now / R.per
  cs : K.cs = csL (R.now / R.per) R.taken
  sl : R.seeds.length ≤ n + 1
  tl : R.taken.length ≤ n
theorem Cpl.start {seed : List UInt8} {p m : Int} (hs : ¬ (seed.length : Int) > 100) (h1 : ¬ p < 1000) (h2 : ¬ p > 10000000) (h3 : ¬ m < 0) (h4 : ¬ m > 1000) : Cpl 0 (newK seed p m) (newR seed p m) where
  ok := newK_ok hs h1 h2 h3 h4
  rok := ⟨by show 1000 ≤ p; omega, by show p ≤ _; omega, by show 0 ≤ m; omega, by show m ≤ _; omega, Int.le_refl _, by show (0 : Int) ≤ _; decide, by
    intro e he
    simp only [newR, List.mem_singleton] at he
    subst he
    exact ⟨by show (0 : Int) ≤ 0; omega, by show (0 : Int) ≤ 1000000000; omega, by show seed.length ≤ 100; omega⟩, by show 1 ≤ 1000; decide, by show 0 ≤ 1000; decide⟩
  ne := by simp [newR]
  seed := rfl
  old := fun h => absurd h (by simp [newR])
  ch := rfl
  per := rfl
  most := rfl
  now := rfl
  tk := fun e he => by simp [newR] at he
  cs := rfl
  sl := Nat.le_refl _
  tl := Nat.le_refl _
theorem Cpl.mono {n m : Nat} {K : Kp} {R : Rk} (h : Cpl n K R) (hm : n ≤ m) : Cpl m K R := { h with sl := by have := h.sl; omega, tl := by have := h.tl; omega }
theorem Cpl.timeE {n : Nat} {K : Kp} {R : Rk} (h : Cpl n K R) (t : Int) : timeE K.now t = timeE R.now t := by rw [h.now]
theorem Cpl.askE {n : Nat} {K : Kp} {R : Rk} (h : Cpl n K R) (t : Int) (a : Ad) : askE K t a = rAskE R t a := by unfold YtmpkgdilmkeacaaDoor.askE rAskE YtmpkgdilmkeacaaDoor.timeE; rw [h.now]
theorem Cpl.tell {n : Nat} {K : Kp} {R : Rk} (h : Cpl n K R) {t : Int} (ht : ¬ (t < R.now ∨ t > 1000000000)) : Cpl n (K.tell t) (R.tell t) := by
  have hp0 := h.rok.per0
  have hmono : R.now / R.per ≤ t / R.per := Int.ediv_le_ediv (by omega) (by omega)
  refine ⟨h.ok.tell (by rw [h.now]; omega) (by omega), h.rok.tell ht, h.ne, h.seed, h.old, h.ch, h.per, h.most, rfl, fun e he => by have := h.tk e he; show e.1 ≤ t / R.per; omega, ?_, h.sl, h.tl⟩
  show (if t / K.per = K.cnt then K.cs else []) = csL (t / R.per) R.taken
  rw [h.ok.cnt, h.per, h.now]
  by_cases he : t / R.per = R.now / R.per
  · rw [if_pos he, he, h.cs]
  · rw [if_neg he, csL_none fun e hm => by have := h.tk e hm; omega]
theorem Cpl.ask {n : Nat} {K : Kp} {R : Rk} (h : Cpl n K R) (t : Int) (a : Ad) : Cpl n (K.ask t a) (R.ask t a) := by
  unfold Kp.ask Rk.ask
  rw [h.askE t a]
  by_cases he : rAskE R t a = 0
  · rw [if_pos he, if_pos he]
    exact h.tell (rAskE0 he).2
  · rw [if_neg he, if_neg he]
    exact h
theorem Cpl.secs {n : Nat} {K : Kp} {R : Rk} (h : Cpl n K R) : secsL K = holdsL R := by
  have hp0 := h.rok.per0
  have hn0 := h.rok.now0
  have hn1 := h.rok.now1
  obtain ⟨q0, q1⟩ := per_q (t := R.now) (p := R.per) (by omega) (by omega) hp0
  unfold secsL holdsL
  rw [h.seed, h.now, h.per, h.ch, show R.now / R.per + 1 + 1 = R.now / R.per + 2 by omega]
  by_cases h1 : 1 < R.seeds.length
  · rw [if_pos h1, h.old h1]
    by_cases h2 : R.last.1 / R.per = R.now / R.per
    · rw [if_pos h2, if_pos ⟨h1, h2⟩]
    · rw [if_neg h2, if_neg (c := 1 < R.seeds.length ∧ R.last.1 / R.per = R.now / R.per) fun h => h2 h.2]
  · rw [if_neg h1, if_neg (by omega), if_neg (c := 1 < R.seeds.length ∧ R.last.1 / R.per = R.now / R.per) fun h => h1 h.1]
theorem Cpl.untilL {n : Nat} {K : Kp} {R : Rk} (h : Cpl n K R) (a : Ad) (tok : List UInt8) : untilL K a tok = rUntilL R a tok := by
  unfold YtmpkgdilmkeacaaDoor.untilL rUntilL
  rw [h.secs]
theorem Cpl.look {n : Nat} {K : Kp} {R : Rk} (h : Cpl n K R) {a : Ad} (ha : a.ok = true) : lookC K.cs (keyL a) = countL R a.ip := by
  rw [h.cs, keyL_kOf ha]
  unfold csL countL
  rw [look_fold]
  exact Nat.zero_add _
theorem Cpl.count {n : Nat} {K : Kp} {R : Rk} (h : Cpl n K R) : K.cs.length = (ipsL R).length := by
  rw [h.cs]
  exact len_fold _ _ _ _ rfl
theorem Cpl.giveV {n : Nat} {K : Kp} {R : Rk} (h : Cpl n K R) (t : Int) (a : Ad) : giveV K t a = rGiveV R t a := by
  unfold YtmpkgdilmkeacaaDoor.giveV rGiveV
  rw [h.askE, h.seed, h.per]
theorem Cpl.tellO {n : Nat} {K : Kp} {R : Rk} (h : Cpl n K R) {t : Int} {a : Ad} (he : rAskE R t a = 0) : Cpl n (K.tell t) (R.tell t) := h.tell (rAskE0 he).2
theorem Cpl.rightV {n : Nat} {K : Kp} {R : Rk} (h : Cpl n K R) (t : Int) (a : Ad) (tok : List UInt8) : rightV K t a tok = rRightV R t a tok := by
  unfold YtmpkgdilmkeacaaDoor.rightV rRightV
  rw [h.askE]
  by_cases he : rAskE R t a = 0
  · rw [if_pos he, if_pos he, (h.tellO he).untilL]
  · rw [if_neg he, if_neg he]
theorem Cpl.takenV {n : Nat} {K : Kp} {R : Rk} (h : Cpl n K R) (t : Int) (a : Ad) : takenV K t a = rTakenV R t a := by
  unfold YtmpkgdilmkeacaaDoor.takenV rTakenV
  rw [h.askE]
  by_cases he : rAskE R t a = 0
  · rw [if_pos he, if_pos he, (h.tellO he).look (rAskE0 he).1]
  · rw [if_neg he, if_neg he]
theorem Cpl.untilE {n : Nat} {K : Kp} {R : Rk} (h : Cpl n K R) (t : Int) (a : Ad) (tok : List UInt8) : untilE K t a tok = rUntilE R t a tok := by
  unfold YtmpkgdilmkeacaaDoor.untilE rUntilE
  rw [h.askE]
  by_cases he : rAskE R t a = 0
  · rw [if_pos he, if_pos he, (h.tellO he).untilL]
  · rw [if_neg he, if_neg he]
theorem rUntilE0 {R : Rk} {t : Int} {a : Ad} {tok : List UInt8} (h : rUntilE R t a tok = 0) : rAskE R t a = 0 := by
  unfold rUntilE at h
  split at h
  · assumption
  · exact h
theorem Cpl.untilV {n : Nat} {K : Kp} {R : Rk} (h : Cpl n K R) (t : Int) (a : Ad) (tok : List UInt8) : untilV K t a tok = rUntilV R t a tok := by
  unfold YtmpkgdilmkeacaaDoor.untilV rUntilV
  rw [h.untilE]
  by_cases he : rUntilE R t a tok = 0
  · rw [if_pos he, if_pos he, (h.tellO (rUntilE0 he)).untilL]
  · rw [if_neg he, if_neg he]
theorem Cpl.untilK {n : Nat} {K : Kp} {R : Rk} (h : Cpl n K R) (t : Int) (a : Ad) (tok : List UInt8) : Cpl n (K.untilK t a tok) (R.untilK t a tok) := by
  unfold Kp.untilK Rk.untilK
  rw [h.untilE]
  by_cases he : rUntilE R t a tok = 0
  · rw [if_pos he, if_pos he]
    exact h.tellO (rUntilE0 he)
  · rw [if_neg he, if_neg he]
    exact h
theorem Cpl.takeE {n : Nat} {K : Kp} {R : Rk} (h : Cpl n K R) (t : Int) (a : Ad) (tok : List UInt8) : takeE K t a tok = rTakeE R t a tok := by
  unfold YtmpkgdilmkeacaaDoor.takeE rTakeE
  rw [h.askE]
  by_cases he : rAskE R t a = 0
  · have h1 := h.tellO he
    rw [if_pos he, if_pos he, h1.untilL]
    by_cases hu : rUntilL (R.tell t) a tok < 0
    · rw [if_pos hu, if_pos hu]
    rw [if_neg hu, if_neg hu]
    unfold roomL
    rw [h1.look (rAskE0 he).1, h1.most]
    have hm := h.rok.most0
    show (if (if R.most = 0 then true else decide ((countL (R.tell t) a.ip : Int) < R.most)) = true then (0 : Int) else 14) = _
    by_cases hz : R.most = 0
    · rw [if_pos hz, if_pos rfl, if_neg (by omega)]
    · rw [if_neg hz]
      by_cases hc : (countL (R.tell t) a.ip : Int) < R.most
      · rw [decide_eq_true hc, if_pos rfl, if_neg (by omega)]
      · rw [decide_eq_false hc, if_neg (by decide), if_pos (by omega)]
  · rw [if_neg he, if_neg he]
theorem rTakeE0 {R : Rk} {t : Int} {a : Ad} {tok : List UInt8} (h : rTakeE R t a tok = 0) : rAskE R t a = 0 := by
  unfold rTakeE at h
  split at h
  · assumption
  · exact h
theorem Cpl.bump {n : Nat} {K : Kp} {R : Rk} (h : Cpl n K R) (hn : n < 900) {a : Ad} (ha : a.ok = true) : Cpl (n + 1) (K.bump (keyL a)) (R.took a.ip) := by
  have htl := h.tl
  have hsl := h.sl
  refine ⟨bump_ok h.ok _, ⟨h.rok.per0, h.rok.per1, h.rok.most0, h.rok.most1, h.rok.now0, h.rok.now1, h.rok.seeds, h.rok.sl, ?_⟩, h.ne, h.seed, h.old, h.ch, h.per, h.most, h.now, ?_, ?_, by show R.seeds.length ≤ _; omega, ?_⟩
  · show (R.taken ++ [_]).length ≤ 1000
    rw [List.length_append, List.length_singleton]; omega
  · intro e he
    rcases List.mem_append.1 he with he | he
    · exact h.tk e he
    · rw [List.mem_singleton.1 he]; exact Int.le_refl _
  · show putC K.cs (keyL a) (lookC K.cs (keyL a) + 1) = csL (R.now / R.per) (R.taken ++ [(R.now / R.per, a.ip)])
    rw [csL_snoc, ← h.cs, keyL_kOf ha]
    exact (if_pos rfl).symm
  · show (R.taken ++ [_]).length ≤ n + 1
    rw [List.length_append, List.length_singleton]; omega
theorem Cpl.take {n : Nat} {K : Kp} {R : Rk} (h : Cpl n K R) (hn : n < 900) (t : Int) (a : Ad) (tok : List UInt8) : Cpl (n + 1) (K.take t a tok) (R.take t a tok) := by
  unfold Kp.take Rk.take
  rw [h.takeE]
  by_cases he : rTakeE R t a tok = 0
  · rw [if_pos he, if_pos he]
    exact (h.tellO (rTakeE0 he)).bump hn (rAskE0 (rTakeE0 he)).1
  · rw [if_neg he, if_neg he]
    exact h.mono (by omega)
theorem Cpl.lookB {n : Nat} {K : Kp} {R : Rk} (h : Cpl n K R) (hn : n < 900) (t : Int) (a : Ad) (ht : YtmpkgdilmkeacaaDoor.askE K t a = 0) : lookC (K.tell t).cs (keyL a) < 1099511627776 := by
  rw [h.askE] at ht
  have h1 := h.tellO ht
  rw [h1.look (rAskE0 ht).1]
  have h2 := h1.tl
  have h3 : countL (R.tell t) a.ip ≤ (R.tell t).taken.length := List.length_filter_le ..
  omega
theorem Cpl.chE {n : Nat} {K : Kp} {R : Rk} (h : Cpl n K R) (t : Int) (seed : List UInt8) : chE K t seed = rChE R t seed := by
  unfold YtmpkgdilmkeacaaDoor.chE rChE
  rw [h.now]
theorem Cpl.change {n : Nat} {K : Kp} {R : Rk} (h : Cpl n K R) (hn : n < 900) (t : Int) (seed : List UInt8) : Cpl (n + 1) (K.change t seed) (R.change t seed) := by
  unfold Kp.change Rk.change
  rw [h.chE]
  by_cases he : rChE R t seed = 0
  · rw [if_pos he, if_pos he]
    have hs : ¬ (seed.length : Int) > 100 := by
      intro hs
      unfold rChE at he
      rw [if_pos hs] at he
      cases he
    have ht : ¬ (t < R.now ∨ t > 1000000000) := by
      intro ht
      unfold rChE YtmpkgdilmkeacaaDoor.timeE at he
      rw [if_neg hs, if_pos ht] at he
      cases he
    have h1 := h.tell ht
    have hp0 := h.rok.per0
    have hn0 := h.rok.now0
    have hsl := h.sl
    obtain ⟨q0, q1⟩ := per_q (t := t) (p := R.per) (by omega) (by omega) hp0
    have hlen : (R.seeds ++ [(t, seed)]).length = R.seeds.length + 1 := by rw [List.length_append, List.length_singleton]
    have hpos : 0 < R.seeds.length := List.length_pos_iff.2 h.ne
    have hlast : ({ R with now := t, seeds := R.seeds ++ [(t, seed)] } : Rk).last = (t, seed) := by
      unfold Rk.last
      simp only [hlen]
      rw [List.getD_eq_getElem?_getD, List.getElem?_append_right (by omega)]
      simp
    have hold : ({ R with now := t, seeds := R.seeds ++ [(t, seed)] } : Rk).old = R.last := by
      unfold Rk.old Rk.last
      simp only [hlen]
      rw [List.getD_eq_getElem?_getD, List.getD_eq_getElem?_getD, List.getElem?_append_left (by omega), show R.seeds.length + 1 - 2 = R.seeds.length - 1 by omega]
    refine ⟨⟨by show seed.length ≤ 100; omega, h.ok.seed, h1.ok.per0, h1.ok.per1, h1.ok.most0, h1.ok.most1, h1.ok.now0, h1.ok.now1, h1.ok.cnt, by show -1 ≤ t / K.per; rw [h.per]; omega, by show t / K.per ≤ _; rw [h.per]; omega⟩,
      ⟨h1.rok.per0, h1.rok.per1, h1.rok.most0, h1.rok.most1, h1.rok.now0, h1.rok.now1, ?_, ?_, h1.rok.tl⟩, by simp, by rw [hlast], ?_, ?_, h.per, h.most, rfl, h1.tk, h1.cs, ?_, by show R.taken.length ≤ _; have := h.tl; omega⟩
    · intro e he
      rcases List.mem_append.1 he with he | he
      · exact h.rok.seeds e he
      · rw [List.mem_singleton.1 he]
        exact ⟨by show 0 ≤ t; omega, by show t ≤ _; omega, by show seed.length ≤ 100; omega⟩
    · show (R.seeds ++ [(t, seed)]).length ≤ 1000
      omega
    · intro _
      rw [hold]
      exact h.seed
    · rw [hlast]
      show t / K.per = if 1 < (R.seeds ++ [(t, seed)]).length then t / R.per else -1
      rw [if_pos (by omega), h.per]
    · show (R.seeds ++ [(t, seed)]).length ≤ n + 1 + 1
      omega
  · rw [if_neg he, if_neg he]
    exact h.mono (by omega)
theorem Cpl.secrL {n : Nat} {K : Kp} {R : Rk} (h : Cpl n K R) (t : Int) : secrL K t = rSecrL R t := by
  unfold YtmpkgdilmkeacaaDoor.secrL rSecrL
  rw [h.timeE]
  by_cases he : YtmpkgdilmkeacaaDoor.timeE R.now t = 0
  · rw [if_pos he, if_pos he]
    have ht : ¬ (t < R.now ∨ t > 1000000000) := by
      intro ht
      unfold YtmpkgdilmkeacaaDoor.timeE at he
      rw [if_pos ht] at he
      cases he
    rw [(h.tell ht).secs]
  · rw [if_neg he, if_neg he]
theorem Cpl.at_ {n : Nat} {K : Kp} {R : Rk} (h : Cpl n K R) (t : Int) : Cpl n (K.at t) (R.at t) := by
  unfold Kp.at Rk.at
  rw [h.timeE]
  by_cases he : YtmpkgdilmkeacaaDoor.timeE R.now t = 0
  · rw [if_pos he, if_pos he]
    refine h.tell fun ht => ?_
    unfold YtmpkgdilmkeacaaDoor.timeE at he
    rw [if_pos ht] at he
    cases he
  · rw [if_neg he, if_neg he]
    exact h
end Go.Proofs.YtmpkgdilmkeacaaDoor
