/-
  The walk of tokens: a keeper's state; what asking makes of it.
-/
import Derived.Test.YtmpkgdilmkeacaaDoorP9
set_option linter.unusedVariables false
set_option linter.unusedSimpArgs false
set_option maxRecDepth 20000
set_option maxHeartbeats 1000000
namespace Go.Proofs.YtmpkgdilmkeacaaDoor
open Go Go.Aw Go.Proofs Go.Shelf Go.RowKit Go.ChangeShapes
/-- A call that returns v, and leaves a heap of which R holds. -/
def ARex (P : Program) (f : FuncId) (args : List Value) (H : AHeap) (v : Value) (R : AHeap → Prop) : Prop := AC P f args H fun r H1 => r = .ret v ∧ R H1
theorem ARex.use {P : Program} {f : FuncId} {args : List Value} {H : AHeap} {v : Value} {R : AHeap → Prop} {K : ARes → AHeap → Prop} (h : ARex P f args H v R) (hk : ∀ H1, R H1 → K (.ret v) H1) : AC P f args H K :=
  AC.mono h fun r H1 ⟨e, hr⟩ => e ▸ hk H1 hr
theorem ARex.mono {P : Program} {f : FuncId} {args : List Value} {H : AHeap} {v : Value} {R R' : AHeap → Prop} (h : ARex P f args H v R) (hk : ∀ H1, R H1 → R' H1) : ARex P f args H v R' :=
  AC.mono h fun r H1 ⟨e, hr⟩ => ⟨e, hk H1 hr⟩
theorem ARet.rex {P : Program} {f : FuncId} {args : List Value} {H H' : AHeap} {v : Value} {R : AHeap → Prop} (h : ARet P f args H v H') (hr : R H') : ARex P f args H v R :=
  AC.mono h fun r H1 ⟨e, e2⟩ => ⟨e, e2 ▸ hr⟩
/-- The entries of counts. -/
def esC : Nat → List (List UInt8 × Nat) → MEs
  | _, [] => []
  | j, (k, n) :: r => (.string (bs k), .int .i64 (n : Nat), j) :: esC (j + 1) r
def lookC : List (List UInt8 × Nat) → List UInt8 → Nat
  | [], _ => 0
  | (k, n) :: r, x => if k = x then n else lookC r x
def putC : List (List UInt8 × Nat) → List UInt8 → Nat → List (List UInt8 × Nat)
  | [], x, v => [(x, v)]
  | (k, n) :: r, x, v => if k = x then (k, v) :: r else (k, n) :: putC r x v
def memC (cs : List (List UInt8 × Nat)) (x : List UInt8) : Bool := cs.any fun e => e.1 == x
theorem esC_len : ∀ (cs : List (List UInt8 × Nat)) (j : Nat), (esC j cs).length = cs.length
  | [], _ => rfl
  | (k, n) :: r, j => by simp only [esC, List.length_cons, esC_len r]
theorem keysB_c {d : Option TypeDesc} (h : d = some .string) : ∀ (cs : List (List UInt8 × Nat)) (j : Nat), keysB d (esC j cs) = true := by
  subst h
  intro cs
  induction cs with
  | nil => intro j; rfl
  | cons e r ih =>
    intro j
    obtain ⟨k, n⟩ := e
    have := ih (j + 1)
    show (keyB (some .string) (.string (bs k)) && keysB (some .string) (esC (j + 1) r)) = true
    rw [this]; rfl
theorem sameK_s (a b : List UInt8) : sameK (.string (bs a)) (.string (bs b)) = (b == a) := by
  have k1 : keyB (some .string) (.string (bs a)) = true := rfl
  have k2 : keyB (some .string) (.string (bs b)) = true := rfl
  have h := sameK_iff k1 k2
  by_cases e : b = a
  · subst e
    rw [h.2 rfl]; simp
  · rw [beq_eq_false_iff_ne.2 e, Bool.eq_false_iff]
    intro h2
    have := h.1 h2
    simp only [Value.string.injEq, bs_inj] at this
    exact e this.symm
theorem mIx_c (x : List UInt8) (cs : List (List UInt8 × Nat)) (j : Nat) : mIx (.string (bs x)) (esC j cs) = cs.findIdx? (fun e => e.1 == x) := by
  unfold mIx
  induction cs generalizing j with
  | nil => rfl
  | cons e r ih =>
    obtain ⟨k, n⟩ := e
    simp only [esC, List.findIdx?_cons, sameK_s, ih]
theorem mGet_c (x : List UInt8) (cs : List (List UInt8 × Nat)) (j : Nat) : (mGet (.string (bs x)) (esC j cs)).getD (.int .i64 0) = .int .i64 (lookC cs x : Nat) := by
  unfold mGet
  rw [mIx_c]
  induction cs generalizing j with
  | nil => rfl
  | cons e r ih =>
    obtain ⟨k, n⟩ := e
    by_cases h : k = x
    · subst h
      simp [List.findIdx?_cons, esC, lookC]
    · have hb : (k == x) = false := beq_eq_false_iff_ne.2 h
      simp only [List.findIdx?_cons, hb, lookC, if_neg h, Bool.false_eq_true, if_false]
      rw [← ih (j + 1)]
      cases r.findIdx? (fun e => e.1 == x) with
      | none => rfl
      | some a => simp [esC]
theorem mPut_c (x : List UInt8) (v : Nat) (cs : List (List UInt8 × Nat)) (j : Nat) : mPut (.string (bs x)) (.int .i64 (v : Nat)) (j + cs.length) (esC j cs) = esC j (putC cs x v) := by
  unfold mPut
  rw [mIx_c]
  induction cs generalizing j with
  | nil => rfl
  | cons e r ih =>
    obtain ⟨k, n⟩ := e
    by_cases h : k = x
    · subst h
      simp [List.findIdx?_cons, esC, putC]
    · have hb : (k == x) = false := beq_eq_false_iff_ne.2 h
      have := ih (j + 1)
      simp only [List.findIdx?_cons, hb, putC, if_neg h, Bool.false_eq_true, if_false, List.length_cons, esC]
      rw [show j + 1 + r.length = j + (r.length + 1) by omega] at this
      rw [← this]
      cases r.findIdx? (fun e => e.1 == x) with
      | none => simp
      | some a => simp
theorem putC_len (cs : List (List UInt8 × Nat)) (x : List UInt8) (v : Nat) : (putC cs x v).length = if (cs.findIdx? (fun e => e.1 == x)).isSome then cs.length else cs.length + 1 := by
  induction cs with
  | nil => rfl
  | cons e r ih =>
    obtain ⟨k, n⟩ := e
    by_cases h : k = x
    · subst h
      simp [List.findIdx?_cons, putC]
    · have hb : (k == x) = false := beq_eq_false_iff_ne.2 h
      simp only [List.findIdx?_cons, hb, putC, if_neg h, Bool.false_eq_true, if_false, List.length_cons, ih]
      cases r.findIdx? (fun e => e.1 == x) with
      | none => simp
      | some a => simp
theorem mCk_c (x : List UInt8) (v : Nat) (cs : List (List UInt8 × Nat)) : mCk (.string (bs x)) cs.length (esC 0 cs) = (putC cs x v).length := by
  unfold mCk
  rw [mIx_c, putC_len]
theorem lookC_put (cs : List (List UInt8 × Nat)) (x : List UInt8) (v : Nat) (y : List UInt8) : lookC (putC cs x v) y = if x = y then v else lookC cs y := by
  induction cs with
  | nil => simp [putC, lookC]
  | cons e r ih =>
    obtain ⟨k, n⟩ := e
    unfold putC
    by_cases h : k = x
    · subst h
      rw [if_pos rfl]
      unfold lookC
      by_cases h2 : k = y
      · rw [if_pos h2, if_pos h2]
      · rw [if_neg h2, if_neg h2, if_neg h2]
    · rw [if_neg h]
      show (if k = y then n else lookC (putC r x v) y) = if x = y then v else if k = y then n else lookC r y
      rw [ih]
      by_cases h2 : k = y
      · subst h2
        rw [if_pos rfl, if_pos rfl, if_neg (fun e => h e.symm)]
      · rw [if_neg h2, if_neg h2]
/-- A keeper. -/
structure Kp where
  seed : List UInt8
  old : List UInt8
  ch : Int
  per : Int
  most : Int
  now : Int
  cnt : Int
  cs : List (List UInt8 × Nat)
structure Kp.ok (K : Kp) : Prop where
  seed : K.seed.length ≤ 100
  old : K.old.length ≤ 100
  per0 : 1000 ≤ K.per
  per1 : K.per ≤ 10000000
  most0 : 0 ≤ K.most
  most1 : K.most ≤ 1000
  now0 : 0 ≤ K.now
  now1 : K.now ≤ 1000000000
  cnt : K.cnt = K.now / K.per
  ch0 : -1 ≤ K.ch
  ch1 : K.ch ≤ 1000000000
def Kp.o (K : Kp) (m : Nat) : AObj := .cells (kC K.seed K.old K.ch K.per K.most K.now K.cnt m) ⟨67, 0, true, 0, none⟩
def Kp.mo (K : Kp) : AObj := .amap (esC 0 K.cs) K.cs.length true
structure Kst (H : AHeap) (i m : Nat) (K : Kp) : Prop where
  hi : H[i]? = some (K.o m)
  hm : H[m]? = some K.mo
  tab : TabH H
theorem Kst.ne {H : AHeap} {i m : Nat} {K : Kp} (h : Kst H i m K) : i ≠ m := by
  intro e
  have h1 := h.hi
  rw [e, h.hm] at h1
  cases h1
theorem Kst.more {H : AHeap} {i m : Nat} {K : Kp} (h : Kst H i m K) (X : AHeap) : Kst (H ++ X) i m K := ⟨by rw [hgetl (lt_of_get h.hi)]; exact h.hi, by rw [hgetl (lt_of_get h.hm)]; exact h.hm, h.tab.more X⟩
theorem TabH.frm {S : List Nat} {H H' : AHeap} (h : TabH H) (hf : Frm S H H') (hs : ∀ e, ∀ s ∈ S, H[s]? ≠ some (tabO e (Tryd.laysItoa_ren.g 17) .u64 Lib.pow10Tab)) : TabH H' := by
  obtain ⟨e, h⟩ := h
  exact ⟨e, hf.get h fun hm => hs e _ hm h⟩
theorem Kst.tabNe {H : AHeap} {i m : Nat} {K : Kp} (h : Kst H i m K) : ∀ e, ∀ s ∈ [i, m], H[s]? ≠ some (tabO e (Tryd.laysItoa_ren.g 17) .u64 Lib.pow10Tab) := by
  intro e s hs he
  simp only [List.mem_cons, List.not_mem_nil, or_false] at hs
  rcases hs with rfl | rfl
  · rw [h.hi] at he; unfold Kp.o tabO at he; simp at he
  · rw [h.hm] at he; unfold Kp.mo tabO at he; simp at he
theorem Kst.frm {H H' : AHeap} {S : List Nat} {i m : Nat} {K : Kp} (h : Kst H i m K) (hf : Frm S H H') (h1 : i ∉ S) (h2 : m ∉ S) (h3 : TabH H') : Kst H' i m K := ⟨hf.get h.hi h1, hf.get h.hm h2, h3⟩
/-- What a call with keeper i, its counts at m, leaves. -/
def Kto (H : AHeap) (i m : Nat) (K : Kp) (H' : AHeap) : Prop := ∃ m', Kst H' i m' K ∧ Frm [i] H H' ∧ (m' = m ∨ H.length ≤ m')
theorem Kto.refl {H : AHeap} {i m : Nat} {K : Kp} (h : Kst H i m K) : Kto H i m K H := ⟨m, h, .refl _ _, .inl rfl⟩
theorem Kto.app {H X : AHeap} {i m : Nat} {K : Kp} (h : Kst H i m K) : Kto H i m K (H ++ X) := ⟨m, h.more X, .app, .inl rfl⟩
theorem Kto.behind {H X H' : AHeap} {i m : Nat} {K : Kp} (h : Kto (H ++ X) i m K H') : Kto H i m K H' := by
  obtain ⟨m', h1, h2, h3⟩ := h
  have hl := h2.1
  rw [List.length_append] at hl h3
  exact ⟨m', h1, ⟨by omega, fun j hj hn => by rw [h2.2 j (by rw [List.length_append]; omega) hn, hgetl hj]⟩, h3.imp id fun h => by omega⟩
theorem Kto.more {H H' X : AHeap} {i m : Nat} {K : Kp} (h : Kto H i m K H') : Kto H i m K (H' ++ X) := by
  obtain ⟨m', h1, h2, h3⟩ := h
  exact ⟨m', h1.more X, h2.more, h3⟩
theorem Kto.trans {H H1 H2 : AHeap} {i m m1 : Nat} {K : Kp} (hf : Frm [i] H H1) (hm : m1 = m ∨ H.length ≤ m1) (h : Kto H1 i m1 K H2) : Kto H i m K H2 := by
  obtain ⟨m', h1, h2, h3⟩ := h
  have := hf.1
  refine ⟨m', h1, hf.trans h2 fun s hs => .inl hs, ?_⟩
  rcases h3 with rfl | h3
  · exact hm
  · exact .inr (by omega)
/-- The same, the counts being changed. -/
def KtoT (H : AHeap) (i m : Nat) (K : Kp) (H' : AHeap) : Prop := ∃ m', Kst H' i m' K ∧ Frm [i, m] H H' ∧ (m' = m ∨ H.length ≤ m')
theorem Kto.t {H H' : AHeap} {i m : Nat} {K : Kp} (h : Kto H i m K H') : KtoT H i m K H' := by
  obtain ⟨m', h1, h2, h3⟩ := h
  exact ⟨m', h1, h2.mono (by simp), h3⟩
/-- What telling a time makes of a keeper. -/
def Kp.tell (K : Kp) (t : Int) : Kp := { K with now := t, cnt := t / K.per, cs := if t / K.per = K.cnt then K.cs else [] }
theorem per_q {t p : Int} (h0 : 0 ≤ t) (h1 : t ≤ 1000000000) (hp : 1000 ≤ p) : 0 ≤ t / p ∧ t / p ≤ 1000000 := by
  have h2 : t / p * p ≤ t := Int.ediv_mul_le t (by omega)
  have h3 : 0 ≤ t / p := Int.ediv_nonneg h0 (by omega)
  refine ⟨h3, ?_⟩
  have h4 : t / p * 1000 ≤ t / p * p := Int.mul_le_mul_of_nonneg_left hp h3
  omega
theorem Kp.ok.tell {K : Kp} (h : K.ok) {t : Int} (ht : ¬ t < K.now) (h2 : ¬ t > 1000000000) : (K.tell t).ok :=
  ⟨h.seed, h.old, h.per0, h.per1, h.most0, h.most1, by have := h.now0; show 0 ≤ t; omega, by show t ≤ _; omega, rfl, h.ch0, h.ch1⟩
theorem tell (K : Kp) (hok : K.ok) (i m : Nat) (t : Int) (ht : ¬ t < K.now) (h2 : ¬ t > 1000000000) (H : AHeap) (h : Kst H i m K) :
    ARex Tryd.prog 48 [.pointer (some ⟨i, 0, none⟩), .int .i64 t] H (.int .i64 0) (Kto H i m (K.tell t)) := by
  have hn0 := hok.now0
  have hp0 := hok.per0
  have hq : t.tdiv K.per = t / K.per := Int.tdiv_eq_ediv_of_nonneg (by omega)
  obtain ⟨q0, q1⟩ := per_q (t := t) (p := K.per) (by omega) (by omega) hp0
  have hil := lt_of_get h.hi
  have hml := lt_of_get h.hm
  have hne := h.ne
  have hh := h.hi
  unfold Kp.o at hh
  by_cases hc : t / K.per = K.cnt
  · rw [← hc] at hh
    refine ARet.rex (tellC i m K.seed K.old K.ch K.per K.most K.now t (t / K.per) H hh ht h2 hp0 hq ⟨q0, by omega⟩) ⟨m, ⟨?_, ?_, ?_⟩, (Frm.refl _ _).set (.inl (by simp)), .inl rfl⟩
    · rw [hset_self hil]; rfl
    · rw [hset_ne hne, h.hm]; unfold Kp.mo Kp.tell; rw [if_pos hc]
    · exact h.tab.frm ((Frm.refl [i, m] H).set (.inl (by simp))) h.tabNe
  · refine ARet.rex (tellD i m K.seed K.old K.ch K.per K.most K.now K.cnt t (t / K.per) H hh ht h2 hp0 hq ⟨q0, by omega⟩ hc) ⟨H.length, ⟨?_, ?_, ?_⟩, ((Frm.refl _ _).set (.inl (by simp))).more, .inr (Nat.le_refl _)⟩
    · rw [hgetl (by rw [List.length_set]; exact hil), hset_self hil]; rfl
    · rw [hget0 (by rw [List.length_set])]; unfold Kp.mo Kp.tell; rw [if_neg hc]; rfl
    · exact h.tab.frm ((Frm.refl [i, m] H).set (.inl (by simp))).more h.tabNe
def askE (K : Kp) (t : Int) (a : Ad) : Int := if a.ok = false then 1 else if t < K.now ∨ t > 1000000000 then 7 else 0
def Kp.ask (K : Kp) (t : Int) (a : Ad) : Kp := if askE K t a = 0 then K.tell t else K
theorem askE0 {K : Kp} {t : Int} {a : Ad} (h : askE K t a = 0) : a.ok = true ∧ ¬ t < K.now ∧ ¬ t > 1000000000 := by
  unfold askE at h
  split at h
  · simp at h
  · rename_i h1
    split at h
    · simp at h
    · rename_i h2
      refine ⟨by simpa using h1, fun h => h2 (.inl h), fun h => h2 (.inr h)⟩
theorem asked (K : Kp) (hok : K.ok) (i m : Nat) (t : Int) (a : Ad) (H : AHeap) (h : Kst H i m K) :
    ARex Tryd.prog 40 [.pointer (some ⟨i, 0, none⟩), .int .i64 t, a.v] H (.int .i64 (askE K t a)) (Kto H i m (K.ask t a)) := by
  have hh := h.hi
  unfold Kp.o at hh
  by_cases ha : a.ok = false
  · have e : askE K t a = 1 := if_pos ha
    unfold Kp.ask
    rw [e]
    exact ARet.rex (askedA i t a ha H) (Kto.refl h)
  have ha' : a.ok = true := by simpa using ha
  by_cases hb : t < K.now ∨ t > 1000000000
  · have e : askE K t a = 7 := by unfold askE; rw [if_neg ha, if_pos hb]
    unfold Kp.ask
    rw [e]
    exact ARet.rex (askedB i m K.seed K.old K.ch K.per K.most K.now K.cnt t a ha' H hh hb) (Kto.refl h)
  have e : askE K t a = 0 := by unfold askE; rw [if_neg ha, if_neg hb]
  have ht : ¬ t < K.now := fun h => hb (.inl h)
  have h2 : ¬ t > 1000000000 := fun h => hb (.inr h)
  have hn0 := hok.now0
  have hp0 := hok.per0
  have hq : t.tdiv K.per = t / K.per := Int.tdiv_eq_ediv_of_nonneg (by omega)
  obtain ⟨q0, q1⟩ := per_q (t := t) (p := K.per) (by omega) (by omega) hp0
  have hil := lt_of_get h.hi
  have hml := lt_of_get h.hm
  have hne := h.ne
  unfold Kp.ask
  rw [e, if_pos rfl]
  by_cases hc : t / K.per = K.cnt
  · rw [← hc] at hh
    refine ARet.rex (askedC i m K.seed K.old K.ch K.per K.most K.now t (t / K.per) a ha' H hml hh ht h2 hp0 hq ⟨q0, by omega⟩) ⟨m, ⟨?_, ?_, ?_⟩, (Frm.refl _ _).set (.inl (by simp)), .inl rfl⟩
    · rw [hset_self hil]; rfl
    · rw [hset_ne hne, h.hm]; unfold Kp.mo Kp.tell; rw [if_pos hc]
    · exact h.tab.frm ((Frm.refl [i, m] H).set (.inl (by simp))) h.tabNe
  · refine ARet.rex (askedD i m K.seed K.old K.ch K.per K.most K.now K.cnt t (t / K.per) a ha' H hh ht h2 hp0 hq ⟨q0, by omega⟩ hc) ⟨H.length + 1, ⟨?_, ?_, ?_⟩, ((Frm.refl _ _).set (.inl (by simp))).more, .inr (by omega)⟩
    · rw [hgetl (by rw [List.length_set]; exact hil), hset_self hil]; rfl
    · rw [hgetk (by rw [List.length_set])]; unfold Kp.mo Kp.tell; rw [if_neg hc]; rfl
    · exact h.tab.frm ((Frm.refl [i, m] H).set (.inl (by simp))).more h.tabNe
end Go.Proofs.YtmpkgdilmkeacaaDoor
