/-
  Tokens: the two keepers in one heap, with what lies beside them.
-/
import Derived.Test.YtmpkgdilmkeacaaDoorS8
set_option linter.unusedVariables false
set_option linter.unusedSimpArgs false
set_option maxRecDepth 20000
set_option maxHeartbeats 4000000
namespace Go.Proofs.YtmpkgdilmkeacaaDoor
open Go Go.Aw Go.Proofs Go.Shelf Go.RowKit Go.ChangeShapes
/-- The program's keeper is i, the specification's ir; B lies beside them. -/
def PS (i ir : Nat) (B : List (Nat × AObj)) (K : Kp) (R : Rk) (H : AHeap) : Prop :=
  ∃ m js jt, Kst H i m K ∧ Rst H ir js jt R ∧ (i ≠ ir ∧ i ≠ js ∧ i ≠ jt) ∧ (m ≠ ir ∧ m ≠ js ∧ m ≠ jt) ∧ ∀ e ∈ B, H[e.1]? = some e.2 ∧ (e.1 ≠ i ∧ e.1 ≠ m ∧ e.1 ≠ ir ∧ e.1 ≠ js ∧ e.1 ≠ jt)
section
variable {i ir : Nat} {B : List (Nat × AObj)} {K K' : Kp} {R R' : Rk} {H H' : AHeap}
theorem PS.box (h : PS i ir B K R H) {e : Nat × AObj} (he : e ∈ B) : H[e.1]? = some e.2 := by
  obtain ⟨m, js, jt, _, _, _, _, hB⟩ := h
  exact (hB e he).1
theorem PS.tab (h : PS i ir B K R H) : TabH H := by
  obtain ⟨m, js, jt, hk, _⟩ := h
  exact hk.tab
theorem PS.sub (h : PS i ir B K R H) {B' : List (Nat × AObj)} (hs : ∀ e ∈ B', e ∈ B) : PS i ir B' K R H := by
  obtain ⟨m, js, jt, h1, h2, h3, h4, hB⟩ := h
  exact ⟨m, js, jt, h1, h2, h3, h4, fun e he => hB e (hs e he)⟩
theorem PS.more (h : PS i ir B K R H) (X : AHeap) : PS i ir B K R (H ++ X) := by
  obtain ⟨m, js, jt, h1, h2, h3, h4, hB⟩ := h
  exact ⟨m, js, jt, h1.more X, h2.more X, h3, h4, fun e he => ⟨by rw [hgetl (lt_of_get (hB e he).1)]; exact (hB e he).1, (hB e he).2⟩⟩
theorem PS.push (h : PS i ir B K R H) (X : AHeap) (k : Nat) (o : AObj) (hk : X[k]? = some o) : PS i ir ((H.length + k, o) :: B) K R (H ++ X) := by
  have h' := h.more X
  obtain ⟨m, js, jt, h1, h2, h3, h4, hB⟩ := h
  obtain ⟨z, hz, hs⟩ := h2.hs
  have l1 := lt_of_get h1.hi
  have l2 := lt_of_get h1.hm
  have l3 := lt_of_get h2.at_
  have l4 := lt_of_get hs
  have l5 := h2.jl
  refine ⟨m, js, jt, h1.more X, h2.more X, h3, h4, fun e he => ?_⟩
  rcases List.mem_cons.1 he with rfl | he
  · exact ⟨(hgetk rfl).trans hk, by simp only; omega⟩
  · exact ⟨by rw [hgetl (lt_of_get (hB e he).1)]; exact (hB e he).1, (hB e he).2⟩
theorem PS.k {m js jt : Nat} (h1 : Kst H i m K) (h2 : Rst H ir js jt R) (h3 : i ≠ ir ∧ i ≠ js ∧ i ≠ jt) (h4 : m ≠ ir ∧ m ≠ js ∧ m ≠ jt)
    (hB : ∀ e ∈ B, H[e.1]? = some e.2 ∧ (e.1 ≠ i ∧ e.1 ≠ m ∧ e.1 ≠ ir ∧ e.1 ≠ js ∧ e.1 ≠ jt)) (hk : KtoT H i m K' H') : PS i ir B K' R H' := by
  obtain ⟨m', hs, hf, hm⟩ := hk
  obtain ⟨z, hz, hsj⟩ := h2.hs
  have l3 := lt_of_get h2.at_
  have l4 := lt_of_get hsj
  have l5 := h2.jl
  have hlen := hf.1
  have hout : ∀ j, j ≠ i → j ≠ m → j ∉ [i, m] := fun j a b => by simp [a, b]
  refine ⟨m', js, jt, hs, ⟨hf.get h2.at_ (hout _ h3.1.symm h4.1.symm), ⟨z, hz, hf.get hsj (hout _ h3.2.1.symm h4.2.1.symm)⟩, fun hn => ?_, h2.ne, hs.tab, by omega⟩, h3, ?_, fun e he => ⟨hf.get (hB e he).1 (hout _ (hB e he).2.1 (hB e he).2.2.1), (hB e he).2.1, ?_, (hB e he).2.2.2⟩⟩
  · obtain ⟨z, hz, h⟩ := h2.ht hn
    exact ⟨z, hz, hf.get h (hout _ h3.2.2.symm h4.2.2.symm)⟩
  · rcases hm with rfl | hm
    · exact h4
    · omega
  · have := lt_of_get (hB e he).1
    rcases hm with rfl | hm
    · exact (hB e he).2.2.1
    · omega
theorem PS.r {m js jt : Nat} (h1 : Kst H i m K) (h2 : Rst H ir js jt R) (h3 : i ≠ ir ∧ i ≠ js ∧ i ≠ jt) (h4 : m ≠ ir ∧ m ≠ js ∧ m ≠ jt)
    (hB : ∀ e ∈ B, H[e.1]? = some e.2 ∧ (e.1 ≠ i ∧ e.1 ≠ m ∧ e.1 ≠ ir ∧ e.1 ≠ js ∧ e.1 ≠ jt)) (hk : Rto H ir js jt R' H') : PS i ir B K R' H' := by
  obtain ⟨js', jt', hs, hf, hj, ht⟩ := hk
  have l1 := lt_of_get h1.hi
  have l2 := lt_of_get h1.hm
  have hout : ∀ j, j ≠ ir → j ≠ js → j ≠ jt → j ∉ [ir, js, jt] := fun j a b c => by simp [a, b, c]
  refine ⟨m, js', jt', ⟨hf.get h1.hi (hout _ h3.1 h3.2.1 h3.2.2), hf.get h1.hm (hout _ h4.1 h4.2.1 h4.2.2), hs.tab⟩, hs, ⟨h3.1, by omega, by omega⟩, ⟨h4.1, by omega, by omega⟩, fun e he => ?_⟩
  obtain ⟨q1, q2, q3, q4, q5, q6⟩ := hB e he
  have := lt_of_get q1
  exact ⟨hf.get q1 (hout _ q4 q5 q6), q2, q3, q4, by omega, by omega⟩
/-- One that lies beside is put elsewhere. -/
theorem PS.swap {j : Nat} {o : AObj} (h : PS i ir ((j, o) :: B) K R H) (hj : ∀ e ∈ B, e.1 ≠ j) (ho : ∀ e, o ≠ tabO e (Tryd.laysItoa_ren.g 17) .u64 Lib.pow10Tab) : PS i ir B K R (H.set j .dead) := by
  obtain ⟨m, js, jt, h1, h2, h3, h4, hB⟩ := h
  obtain ⟨a1, a2, a3, a4, a5, a6⟩ := hB (j, o) (List.mem_cons_self ..)
  simp only at a1 a2 a3 a4 a5 a6
  have hT : TabH (H.set j .dead) := by
    refine h1.tab.frm ((Frm.refl [j] H).set (.inl (by simp))) fun e s hs => ?_
    rw [List.mem_singleton.1 hs, a1]
    exact fun h => ho e (Option.some.inj h)
  obtain ⟨z, hz, hsj⟩ := h2.hs
  refine ⟨m, js, jt, ⟨by rw [hset_ne a2]; exact h1.hi, by rw [hset_ne a3]; exact h1.hm, hT⟩, ⟨by rw [hset_ne a4]; exact h2.at_, ⟨z, hz, by rw [hset_ne a5]; exact hsj⟩, fun hn => ?_, h2.ne, hT, by rw [List.length_set]; exact h2.jl⟩, h3, h4, fun e he => ?_⟩
  · obtain ⟨z, hz, h⟩ := h2.ht hn
    exact ⟨z, hz, by rw [hset_ne a6]; exact h⟩
  · have := hB e (List.mem_cons_of_mem _ he)
    exact ⟨by rw [hset_ne (hj e he).symm]; exact this.1, this.2⟩
theorem PS.give {n : Nat} (h : PS i ir B K R H) (hc : Cpl n K R) (t : Int) (a : Ad) : ARex Tryd.prog 12 [.pointer (some ⟨i, 0, none⟩), .int .i64 t, a.v] H (giveV K t a) (PS i ir B (K.ask t a) R) := by
  obtain ⟨m, js, jt, h1, h2, h3, h4, hB⟩ := h
  exact (Give K hc.ok i m t a H h1).mono fun H1 hk => PS.k h1 h2 h3 h4 hB hk.t
theorem PS.rgive {n : Nat} {K0 : Kp} (h : PS i ir B K R H) (hc : Cpl n K0 R) (t : Int) (a : Ad) : ARex Tryd.prog 50 [.pointer (some ⟨ir, 0, none⟩), .int .i64 t, a.v] H (rGiveV R t a) (PS i ir B K (R.ask t a)) := by
  obtain ⟨m, js, jt, h1, h2, h3, h4, hB⟩ := h
  exact (rGive R hc.rok ir js jt t a H h2).mono fun H1 hk => PS.r h1 h2 h3 h4 hB hk
theorem PS.right {n : Nat} (h : PS i ir B K R H) (hc : Cpl n K R) (t : Int) (a : Ad) (tok : List UInt8) : ARex Tryd.prog 14 [.pointer (some ⟨i, 0, none⟩), .int .i64 t, a.v, .string (bs tok)] H (rightV K t a tok) (PS i ir B (K.ask t a) R) := by
  obtain ⟨m, js, jt, h1, h2, h3, h4, hB⟩ := h
  exact (Right K hc.ok i m t a tok H h1).mono fun H1 hk => PS.k h1 h2 h3 h4 hB hk.t
theorem PS.rright {n : Nat} {K0 : Kp} (h : PS i ir B K R H) (hc : Cpl n K0 R) (t : Int) (a : Ad) (tok : List UInt8) : ARex Tryd.prog 51 [.pointer (some ⟨ir, 0, none⟩), .int .i64 t, a.v, .string (bs tok)] H (rRightV R t a tok) (PS i ir B K (R.ask t a)) := by
  obtain ⟨m, js, jt, h1, h2, h3, h4, hB⟩ := h
  exact (rRight R hc.rok ir js jt t a tok H h2).mono fun H1 hk => PS.r h1 h2 h3 h4 hB hk
theorem putC_le (cs : List (List UInt8 × Nat)) (k x : List UInt8) : lookC (putC cs k (lookC cs k + 1)) x ≤ lookC cs x + 1 := by
  rw [lookC_put]
  split
  · rename_i h; rw [h]; exact Nat.le_refl _
  · omega
theorem fold_le (p : Int) (x : List UInt8) : ∀ (l : List (Int × List UInt8)) (cs : List (List UInt8 × Nat)), lookC (l.foldl (csStep p) cs) x ≤ lookC cs x + l.length := by
  intro l
  induction l with
  | nil => intro cs; exact Nat.le_refl _
  | cons e r ih =>
    intro cs
    have h1 := ih (csStep p cs e)
    have h2 : lookC (csStep p cs e) x ≤ lookC cs x + 1 := by
      unfold csStep
      split
      · exact putC_le _ _ _
      · omega
    rw [List.foldl_cons, List.length_cons]; omega
theorem Cpl.lookA {n : Nat} (h : Cpl n K R) (t : Int) (x : List UInt8) : lookC (K.tell t).cs x ≤ n := by
  have h1 : lookC K.cs x ≤ n := by
    rw [h.cs]
    have := fold_le (R.now / R.per) x R.taken []
    have h2 := h.tl
    unfold csL
    have h3 : lookC [] x = 0 := rfl
    omega
  unfold Kp.tell
  simp only
  split
  · exact h1
  · exact Nat.zero_le _
theorem PS.take {n : Nat} (h : PS i ir B K R H) (hc : Cpl n K R) (hn : n < 900) (t : Int) (a : Ad) (tok : List UInt8) : ARex Tryd.prog 15 [.pointer (some ⟨i, 0, none⟩), .int .i64 t, a.v, .string (bs tok)] H (.int .i64 (takeE K t a tok)) (PS i ir B (K.take t a tok) R) := by
  obtain ⟨m, js, jt, h1, h2, h3, h4, hB⟩ := h
  exact (Take K hc.ok i m t a tok (by have := hc.lookA t (keyL a); omega) H h1).mono fun H1 hk => PS.k h1 h2 h3 h4 hB hk
theorem PS.rtake {n : Nat} {K0 : Kp} (h : PS i ir B K R H) (hc : Cpl n K0 R) (hn : n < 900) (t : Int) (a : Ad) (tok : List UInt8) : ARex Tryd.prog 52 [.pointer (some ⟨ir, 0, none⟩), .int .i64 t, a.v, .string (bs tok)] H (.int .i64 (rTakeE R t a tok)) (PS i ir B K (R.take t a tok)) := by
  obtain ⟨m, js, jt, h1, h2, h3, h4, hB⟩ := h
  have := hc.tl
  exact (rTake R hc.rok (by omega) ir js jt t a tok H h2).mono fun H1 hk => PS.r h1 h2 h3 h4 hB hk
theorem PS.taken {n : Nat} (h : PS i ir B K R H) (hc : Cpl n K R) (t : Int) (a : Ad) : ARex Tryd.prog 16 [.pointer (some ⟨i, 0, none⟩), .int .i64 t, a.v] H (takenV K t a) (PS i ir B (K.ask t a) R) := by
  obtain ⟨m, js, jt, h1, h2, h3, h4, hB⟩ := h
  exact (Taken K hc.ok i m t a H h1).mono fun H1 hk => PS.k h1 h2 h3 h4 hB hk.t
theorem PS.rtaken {n : Nat} {K0 : Kp} (h : PS i ir B K R H) (hc : Cpl n K0 R) (t : Int) (a : Ad) : ARex Tryd.prog 53 [.pointer (some ⟨ir, 0, none⟩), .int .i64 t, a.v] H (rTakenV R t a) (PS i ir B K (R.ask t a)) := by
  obtain ⟨m, js, jt, h1, h2, h3, h4, hB⟩ := h
  exact (rTaken R hc.rok ir js jt t a H h2).mono fun H1 hk => PS.r h1 h2 h3 h4 hB hk
theorem PS.until_ {n : Nat} (h : PS i ir B K R H) (hc : Cpl n K R) (t : Int) (a : Ad) (tok : List UInt8) : ARex Tryd.prog 13 [.pointer (some ⟨i, 0, none⟩), .int .i64 t, a.v, .string (bs tok)] H (untilV K t a tok) (PS i ir B (K.untilK t a tok) R) := by
  obtain ⟨m, js, jt, h1, h2, h3, h4, hB⟩ := h
  exact (Until K hc.ok i m t a tok H h1).mono fun H1 hk => PS.k h1 h2 h3 h4 hB hk.t
theorem PS.runtil {n : Nat} {K0 : Kp} (h : PS i ir B K R H) (hc : Cpl n K0 R) (t : Int) (a : Ad) (tok : List UInt8) : ARex Tryd.prog 58 [.pointer (some ⟨ir, 0, none⟩), .int .i64 t, a.v, .string (bs tok)] H (rUntilV R t a tok) (PS i ir B K (R.untilK t a tok)) := by
  obtain ⟨m, js, jt, h1, h2, h3, h4, hB⟩ := h
  exact (rUntil R hc.rok ir js jt t a tok H h2).mono fun H1 hk => PS.r h1 h2 h3 h4 hB hk
theorem PS.change {n : Nat} (h : PS i ir B K R H) (hc : Cpl n K R) (t : Int) (seed : List UInt8) : ARex Tryd.prog 17 [.pointer (some ⟨i, 0, none⟩), .int .i64 t, .string (bs seed)] H (.int .i64 (chE K t seed)) (PS i ir B (K.change t seed) R) := by
  obtain ⟨m, js, jt, h1, h2, h3, h4, hB⟩ := h
  exact (Change K hc.ok i m t seed H h1).mono fun H1 hk => PS.k h1 h2 h3 h4 hB hk.t
theorem PS.rchange {n : Nat} {K0 : Kp} (h : PS i ir B K R H) (hc : Cpl n K0 R) (hn : n < 900) (t : Int) (seed : List UInt8) : ARex Tryd.prog 54 [.pointer (some ⟨ir, 0, none⟩), .int .i64 t, .string (bs seed)] H (.int .i64 (rChE R t seed)) (PS i ir B K (R.change t seed)) := by
  obtain ⟨m, js, jt, h1, h2, h3, h4, hB⟩ := h
  have := hc.sl
  exact (rChange R hc.rok (by omega) ir js jt t seed H h2).mono fun H1 hk => PS.r h1 h2 h3 h4 hB hk
/-- What lies there reads so. -/
def RdB (B : List (Nat × AObj)) (v : Value) (l : List Value) : Prop := ∀ H : AHeap, (∀ e ∈ B, H[e.1]? = some e.2) → Rd H v l
theorem rd_boxed {v : Value} {l : List Value} {X : AHeap} (h : Rd H v l) (hn : newV X v) : ∃ B, RdB B v l ∧ ∀ e ∈ B, H[e.1]? = some e.2 ∧ X.length ≤ e.1 ∧ ∃ cs k, e.2 = .cells cs k := by
  rcases h with ⟨rfl, rfl⟩ | ⟨i, off, cap, cs, k, rfl, hi, hr⟩
  · exact ⟨[], fun _ _ => Rd.nil, by simp⟩
  · refine ⟨[(i, .cells cs k)], fun H hb => .inr ⟨i, off, cap, cs, k, rfl, hb (i, .cells cs k) (List.mem_singleton.2 rfl), hr⟩, fun e he => ?_⟩
    rw [List.mem_singleton.1 he]
    exact ⟨hi, hn _ _ _ _ rfl, cs, k, rfl⟩
theorem PS.secrets {n : Nat} (h : PS i ir B K R H) (hc : Cpl n K R) (t : Int) : AC Tryd.prog 55 [.pointer (some ⟨i, 0, none⟩), .int .i64 t] H fun r H' => ∃ v B', r = .ret (.tuple ⟨[v, .int .i64 (timeE K.now t)]⟩) ∧ RdB B' v (strsC (secrL K t)) ∧ PS i ir (B' ++ B) (K.at t) R H' := by
  obtain ⟨m, js, jt, h1, h2, h3, h4, hB⟩ := h
  refine (Secrets K hc.ok i m t H h1).mono fun r H1 hk => ?_
  obtain ⟨v, e, hrd, hnv, hto⟩ := hk
  obtain ⟨B', hB1, hB2⟩ := rd_boxed hrd hnv
  refine ⟨v, B', e, hB1, ?_⟩
  obtain ⟨m', js', jt', q1, q2, q3, q4, q5⟩ := PS.k h1 h2 h3 h4 hB hto.t
  obtain ⟨m'', w1, w2, w3⟩ := hto
  have hp := PS.k h1 h2 h3 h4 hB (Kto.t ⟨m'', w1, w2, w3⟩)
  obtain ⟨z, hz, hs⟩ := h2.hs
  have l1 := lt_of_get h1.hi
  have l3 := lt_of_get h2.at_
  have l4 := lt_of_get hs
  have l5 := h2.jl
  have f1 : ∀ j, j < H.length → j ≠ i → H1[j]? = H[j]? := fun j a b => w2.2 j a (by simp [b])
  refine ⟨m'', js, jt, w1, ⟨by rw [f1 _ l3 h3.1.symm]; exact h2.at_, ⟨z, hz, by rw [f1 _ l4 h3.2.1.symm]; exact hs⟩, fun hn => ?_, h2.ne, w1.tab, by have := w2.1; omega⟩, h3, by rcases w3 with rfl | w3 <;> omega, fun e he => ?_⟩
  · obtain ⟨z, hz, h⟩ := h2.ht hn
    exact ⟨z, hz, by rw [f1 _ l5 h3.2.2.symm]; exact h⟩
  · rcases List.mem_append.1 he with he | he
    · obtain ⟨a1, a2, cs, k, a3⟩ := hB2 e he
      refine ⟨a1, by omega, ?_, by omega, by omega, by omega⟩
      intro hm
      rw [hm, w1.hm, a3] at a1
      cases a1
    · obtain ⟨b1, b2, b3, b4⟩ := hB e he
      have := lt_of_get b1
      exact ⟨by rw [f1 _ this b2]; exact b1, b2, by rcases w3 with rfl | w3 <;> omega, b4⟩
theorem PS.rsecrets {n : Nat} {K0 : Kp} (h : PS i ir B K R H) (hc : Cpl n K0 R) (t : Int) : AC Tryd.prog 56 [.pointer (some ⟨ir, 0, none⟩), .int .i64 t] H fun r H' => ∃ v B', r = .ret (.tuple ⟨[v, .int .i64 (timeE R.now t)]⟩) ∧ RdB B' v (strsC (rSecrL R t)) ∧ PS i ir (B' ++ B) K (R.at t) H' := by
  obtain ⟨m, js, jt, h1, h2, h3, h4, hB⟩ := h
  refine (rSecrets R hc.rok ir js jt t H h2).mono fun r H1 hk => ?_
  obtain ⟨v, e, hrd, hnv, w1, w2⟩ := hk
  obtain ⟨B', hB1, hB2⟩ := rd_boxed hrd hnv
  refine ⟨v, B', e, hB1, ?_⟩
  obtain ⟨z, hz, hs⟩ := h2.hs
  have l1 := lt_of_get h1.hi
  have l2 := lt_of_get h1.hm
  have l3 := lt_of_get h2.at_
  have l4 := lt_of_get hs
  have l5 := h2.jl
  have f1 : ∀ j, j < H.length → j ≠ ir → j ≠ js → j ≠ jt → H1[j]? = H[j]? := fun j a b c d => w2.2 j a (by simp [b, c, d])
  refine ⟨m, js, jt, ⟨by rw [f1 _ l1 h3.1 h3.2.1 h3.2.2]; exact h1.hi, by rw [f1 _ l2 h4.1 h4.2.1 h4.2.2]; exact h1.hm, w1.tab⟩, w1, h3, h4, fun e he => ?_⟩
  rcases List.mem_append.1 he with he | he
  · obtain ⟨a1, a2, cs, k, a3⟩ := hB2 e he
    exact ⟨a1, by omega, by omega, by omega, by omega, by omega⟩
  · obtain ⟨b1, b2, b3, b4, b5, b6⟩ := hB e he
    exact ⟨by rw [f1 _ (lt_of_get b1) b4 b5 b6]; exact b1, b2, b3, b4, b5, b6⟩
theorem PS.countN (h : PS i ir B K R H) : ARet Tryd.prog 59 [.pointer (some ⟨i, 0, none⟩)] H (.int .i64 (K.cs.length : Nat)) H := by
  obtain ⟨m, js, jt, h1, h2, h3, h4, hB⟩ := h
  exact CountN K i m H h1
theorem PS.rcountN {n : Nat} {K0 : Kp} (h : PS i ir B K R H) (hc : Cpl n K0 R) : ARet Tryd.prog 60 [.pointer (some ⟨ir, 0, none⟩)] H (.int .i64 (K0.cs.length : Nat)) H := by
  obtain ⟨m, js, jt, h1, h2, h3, h4, hB⟩ := h
  rw [hc.count]
  exact rCountN R hc.rok ir js jt H h2
end
end Go.Proofs.YtmpkgdilmkeacaaDoor
