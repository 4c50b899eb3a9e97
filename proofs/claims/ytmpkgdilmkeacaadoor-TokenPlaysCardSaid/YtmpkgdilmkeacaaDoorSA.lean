/-
  The walk of tokens: a play.
-/
import Derived.Test.YtmpkgdilmkeacaaDoorS9
import Derived.Test.YtmpkgdilmkeacaaDoorAwC
import Derived.Test.YtmpkgdilmkeacaaDoorAwB
set_option linter.unusedVariables false
set_option linter.unusedSimpArgs false
set_option maxRecDepth 20000
set_option maxHeartbeats 4000000
namespace Go.Proofs.YtmpkgdilmkeacaaDoor
open Go Go.Aw Go.Proofs Go.Shelf Go.RowKit Go.ChangeShapes
theorem AWP.seqE {g : Cfg} {Q : AExit → ASt → Prop} {st : ASt} {x y : Code} (J : ASt → Prop) (h : AWP g x (next (fun s => ∃ st2, J st2 ∧ Weak g.n0 s st2) Q) st) (k : ∀ st2, J st2 → AWP g y Q st2) : AWP g (.seq x y) Q st := by
  refine AWP.seq (h.mono ?_)
  intro e s hq
  cases e with
  | normal =>
    obtain ⟨st2, h1, h2⟩ := hq
    exact Go.Aw.AWP.weak h2 (k _ h1)
  | exit i => exact hq
  | goto i => exact hq
  | ret => exact hq
  | panic v => exact hq
structure Act where
  kind : Int
  later : Int
  a : Ad
  given : Int
  tok : List UInt8
  seed : List UInt8
def actC (x : Act) : List Value := [.int .i64 x.kind, .int .i64 x.later, .int .i64 x.a.fam, .string (bs x.a.ip), .int .i64 x.a.port, .int .i64 x.given, .string (bs x.tok), .string (bs x.seed)]
def actsC (l : List Act) : List (List Value) := l.map actC
theorem act_get {l : List Act} {off n : Nat} {cs : List Value} (h : off + (actsC l).length * 8 ≤ cs.length) (hr : ∀ j r, (actsC l)[j]? = some r → (cs.drop (off + j * 8)).take 8 = r) (hn : n < l.length) :
    (cs.drop (off + n * 8)).take 8 = actC l[n] ∧ off + (n * 8 + 8) ≤ cs.length := by
  refine ⟨hr n _ (by simp [actsC, hn]), ?_⟩
  have : (actsC l).length = l.length := by simp [actsC]
  rw [this] at h; omega
/-- The list of the tokens that were given. -/
def BG (gl : List (List UInt8)) (j : Nat) : List (Nat × AObj) := if gl = [] then [] else [(j, .cells (strsC gl) ⟨9, 1, true, 0, none⟩)]
def tokX (gl : List (List UInt8)) (x : Act) : List UInt8 := if 0 < x.given ∧ x.given ≤ (gl.length : Int) then gl.getD (x.given - 1).toNat [] else x.tok
structure PInv (l : List Act) (i ir : Nat) (B : List (Nat × AObj)) (s : Nat × Int × List (List UInt8) × Nat × AHeap) : Prop where
  n : s.1 ≤ l.length
  now0 : 0 ≤ s.2.1
  now1 : s.2.1 ≤ 1000000000
  gl : s.2.2.1.length ≤ s.1
  gj : s.2.2.1 ≠ [] → ∀ e ∈ B, e.1 ≠ s.2.2.2.1
  ps : ∃ K R, Cpl s.1 K R ∧ PS i ir (BG s.2.2.1 s.2.2.2.1 ++ B) K R s.2.2.2.2
def envP (i ir : Nat) (v : Value) (ln : Nat) (s : Nat × Int × List (List UInt8) × Nat × AHeap) : List (Nat × Value) := [(9, .pointer (some ⟨i, 0, none⟩)), (11, .pointer (some ⟨ir, 0, none⟩)), (13, .int .i64 s.2.1), (14, gS s.2.2.2.1 s.2.2.1.length), (71, v), (72, .int .i64 (ln : Nat)), (73, .int .i64 (s.1 : Nat))]
def JP (i ir : Nat) (B : List (Nat × AObj)) (bi : Nat) (v : Value) (ln n : Nat) (now t : Int) (x : Act) (st2 : ASt) : Prop :=
  ∃ K R gl j H', st2 = ⟨[(9, .pointer (some ⟨i, 0, none⟩)), (11, .pointer (some ⟨ir, 0, none⟩)), (13, .int .i64 now), (14, gS j gl.length), (16, .pointer (some ⟨bi, 0, none⟩)), (17, .int .i64 t), (19, .bool true), (71, v), (72, .int .i64 (ln : Nat)), (73, .int .i64 (n : Nat))], [], H'⟩ ∧
    Cpl (n + 1) K R ∧ PS i ir ((bi, .cells (actC x) ⟨44, 0, true, 0, none⟩) :: (BG gl j ++ B)) K R H' ∧ gl.length ≤ n + 1 ∧ (gl ≠ [] → ∀ e ∈ B, e.1 ≠ j)
theorem play (seed : List UInt8) (p m : Int) (l : List Act) (hl : l.length ≤ 60) (v : Value) (H : AHeap) (hT : TabH H) (hv : RdN H 8 v (actsC l)) :
    ARex Tryd.prog 18 [.string (bs seed), .int .i64 p, .int .i64 m, v] H (.bool true) TabH := by
  by_cases hs : (seed.length : Int) > 100
  · have hN := fun H => NewA seed p m hs H
    have hR := fun H => rNewA seed p m hs H
    refine AC.enter Tryd.func18 rfl (by kernel_rfl) 313 rfl [.tmp 8] rfl (by simp) fun hsc B => ?_
    repeat first
      | with_reducible refine AWP.seq ?_
      | ((with_reducible refine AWP.region ?_ ?_); exact rfl)
      | with_reducible refine AWP.block ?_
      | with_reducible refine AWP.skip ?_
      | with_reducible refine AWP.exit ?_
      | with_reducible refine AWP.ret ?_
      | with_reducible refine AWP.label ?_
      | with_reducible refine AWP.goto ?_
      | ((with_reducible refine AWP.condT ?_ ?_); focus (simp only [ev, lk_cons, ↓reduceIte, Nat.reduceEqDiff]; done))
      | ((with_reducible refine AWP.condF ?_ ?_); focus (simp only [ev, lk_cons, ↓reduceIte, Nat.reduceEqDiff]; done))
      | with_reducible refine (hN _).use ?_
      | with_reducible refine (hR _).use ?_
      | simp only [go_sem, ↓reduceIte, Nat.reduceEqDiff, reduceCtorEq, Nat.reduceAdd, Int.reduceEq, Int.reduceBNe, Int.reduceBEq, Int.reduceToNat, Int.reduceLT, Int.reduceLE, Int.reduceGT, Int.reduceGE, Nat.reduceSub, Nat.reduceBEq, Nat.reduceBNe, Int.reduceAdd, Int.reduceSub, Int.reduceMul, Int.reduceNeg, Nat.reduceMul, Nat.reduceLeDiff, Nat.reduceLT]
      | simp (disch := omega) only [wi64, wu8, wu16, wu32, wu64, Int.tdiv_eq_ediv_of_nonneg, Int.tmod_eq_emod_of_nonneg]
      | with_reducible_and_instances exact finR
      | ((with_reducible refine finR' ?_ ?_) <;> rfl)
      | ((with_reducible refine finD hsc (NRel.of_plain ?_)); exact rfl)
    exact ⟨_, _, .refl _ _ _, rfl, hT⟩
  by_cases hb : p < 1000 ∨ p > 10000000 ∨ m < 0 ∨ m > 1000
  · have hN := fun H => NewB seed p m hs hb H
    have hR := fun H => rNewB seed p m hs hb H
    refine AC.enter Tryd.func18 rfl (by kernel_rfl) 313 rfl [.tmp 8] rfl (by simp) fun hsc B => ?_
    repeat first
      | with_reducible refine AWP.seq ?_
      | ((with_reducible refine AWP.region ?_ ?_); exact rfl)
      | with_reducible refine AWP.block ?_
      | with_reducible refine AWP.skip ?_
      | with_reducible refine AWP.exit ?_
      | with_reducible refine AWP.ret ?_
      | with_reducible refine AWP.label ?_
      | with_reducible refine AWP.goto ?_
      | ((with_reducible refine AWP.condT ?_ ?_); focus (simp only [ev, lk_cons, ↓reduceIte, Nat.reduceEqDiff]; done))
      | ((with_reducible refine AWP.condF ?_ ?_); focus (simp only [ev, lk_cons, ↓reduceIte, Nat.reduceEqDiff]; done))
      | with_reducible refine (hN _).use ?_
      | with_reducible refine (hR _).use ?_
      | simp only [go_sem, ↓reduceIte, Nat.reduceEqDiff, reduceCtorEq, Nat.reduceAdd, Int.reduceEq, Int.reduceBNe, Int.reduceBEq, Int.reduceToNat, Int.reduceLT, Int.reduceLE, Int.reduceGT, Int.reduceGE, Nat.reduceSub, Nat.reduceBEq, Nat.reduceBNe, Int.reduceAdd, Int.reduceSub, Int.reduceMul, Int.reduceNeg, Nat.reduceMul, Nat.reduceLeDiff, Nat.reduceLT]
      | simp (disch := omega) only [wi64, wu8, wu16, wu32, wu64, Int.tdiv_eq_ediv_of_nonneg, Int.tmod_eq_emod_of_nonneg]
      | with_reducible_and_instances exact finR
      | ((with_reducible refine finR' ?_ ?_) <;> rfl)
      | ((with_reducible refine finD hsc (NRel.of_plain ?_)); exact rfl)
    exact ⟨_, _, .refl _ _ _, rfl, hT⟩
  have b1 : ¬ p < 1000 := fun h => hb (.inl h)
  have b2 : ¬ p > 10000000 := fun h => hb (.inr (.inl h))
  have b3 : ¬ m < 0 := fun h => hb (.inr (.inr (.inl h)))
  have b4 : ¬ m > 1000 := fun h => hb (.inr (.inr (.inr h)))
  clear hb
  have hN := fun H => NewC seed p m hs b1 b2 b3 b4 H
  have hR := fun H => rNewC seed p m hs b1 b2 b3 b4 H
  have hC0 := Cpl.start hs b1 b2 b3 b4
  have q1 : ∀ H' K, lenW Tryd.prog 42 v H' K = K (.int .i64 ((actsC l).length : Nat)) H' := fun H' K => by rw [hv.lenT (by simp only [go_sem, ↓reduceIte, Nat.reduceEqDiff, reduceCtorEq, Nat.reduceAdd, Int.reduceEq, Int.reduceBNe, Int.reduceBEq, Int.reduceToNat, Int.reduceLT, Int.reduceLE, Int.reduceGT, Int.reduceGE, Nat.reduceSub, Nat.reduceBEq, Nat.reduceBNe, Int.reduceAdd, Int.reduceSub, Int.reduceMul, Int.reduceNeg, Nat.reduceMul, Nat.reduceLeDiff, Nat.reduceLT])]
  have hal : (actsC l).length = l.length := by simp [actsC]
  rw [hal] at q1
  have hK0 : Kst (H ++ [.amap [] 0 true, .cells (kC seed [] (-1) p m 0 0 H.length) ⟨67, 0, true, 0, none⟩]) (H.length + 1) H.length (newK seed p m) := newK_st hT
  have hR0 : Rst ((H ++ [.amap [] 0 true, .cells (kC seed [] (-1) p m 0 0 H.length) ⟨67, 0, true, 0, none⟩]) ++ [.cells [.int .i64 0, .string (bs seed)] ⟨102, 0, true, 0, none⟩, .cells [.slice (some ⟨H.length + 2, 0, none⟩) 1 1, .int .i64 p, .int .i64 m, .int .i64 0, .slice none 0 0] ⟨106, 0, true, 0, none⟩]) (H.length + 3) (H.length + 2) (H.length + 3) (newR seed p m) := by
    have := newR_st (seed := seed) (p := p) (m := m) (hT.more [.amap [] 0 true, .cells (kC seed [] (-1) p m 0 0 H.length) ⟨67, 0, true, 0, none⟩])
    simpa using this
  unfold kC at hN
  refine AC.enter Tryd.func18 rfl (by kernel_rfl) 313 rfl [.tmp 8] rfl (by simp) fun hsc B => ?_
  repeat first
    | with_reducible refine AWP.seq ?_
    | ((with_reducible refine AWP.region ?_ ?_); exact rfl)
    | with_reducible refine AWP.block ?_
    | with_reducible refine AWP.skip ?_
    | with_reducible refine AWP.exit ?_
    | with_reducible refine AWP.ret ?_
    | with_reducible refine AWP.label ?_
    | with_reducible refine AWP.goto ?_
    | ((with_reducible refine AWP.condT ?_ ?_); focus (simp only [ev, lk_cons, ↓reduceIte, Nat.reduceEqDiff]; done))
    | ((with_reducible refine AWP.condF ?_ ?_); focus (simp only [ev, lk_cons, ↓reduceIte, Nat.reduceEqDiff]; done))
    | with_reducible refine (hN _).use ?_
    | with_reducible refine (hR _).use ?_
    | simp only [go_sem, ↓reduceIte, Nat.reduceEqDiff, reduceCtorEq, Nat.reduceAdd, Int.reduceEq, Int.reduceBNe, Int.reduceBEq, Int.reduceToNat, Int.reduceLT, Int.reduceLE, Int.reduceGT, Int.reduceGE, Nat.reduceSub, Nat.reduceBEq, Nat.reduceBNe, Int.reduceAdd, Int.reduceSub, Int.reduceMul, Int.reduceNeg, Nat.reduceMul, Nat.reduceLeDiff, Nat.reduceLT, q1]
    | simp (disch := omega) only [wi64, wu8, wu16, wu32, wu64, Int.tdiv_eq_ediv_of_nonneg, Int.tmod_eq_emod_of_nonneg]
    | with_reducible_and_instances exact finR
    | ((with_reducible refine finR' ?_ ?_) <;> rfl)
    | ((with_reducible refine finD hsc (NRel.of_plain ?_)); exact rfl)
  have hP0 : ∀ B : List (Nat × AObj), (∀ e ∈ B, H[e.1]? = some e.2) → PS (H.length + 1) (H.length + 3) B (newK seed p m) (newR seed p m) (H ++ [.amap [] 0 true, .cells [.string (bs seed), .string (bs []), .int .i64 (-1), .int .i64 p, .int .i64 m, .int .i64 0, .int .i64 0, .map (some H.length)] ⟨67, 0, true, 0, none⟩, .cells [.int .i64 0, .string (bs seed)] ⟨102, 0, true, 0, none⟩, .cells [.slice (some ⟨H.length + 2, 0, none⟩) 1 1, .int .i64 p, .int .i64 m, .int .i64 0, .slice none 0 0] ⟨106, 0, true, 0, none⟩]) := fun B hB => by
    have h1 := hK0.more [.cells [.int .i64 0, .string (bs seed)] ⟨102, 0, true, 0, none⟩, .cells [.slice (some ⟨H.length + 2, 0, none⟩) 1 1, .int .i64 p, .int .i64 m, .int .i64 0, .slice none 0 0] ⟨106, 0, true, 0, none⟩]
    unfold kC at h1 hR0
    rw [List.append_assoc] at h1 hR0
    refine ⟨H.length, H.length + 2, H.length + 3, h1, hR0, by omega, by omega, fun e he => ?_⟩
    have h2 := hB e he
    have := lt_of_get h2
    exact ⟨by rw [hgetl this]; exact h2, by omega⟩
  clear hN hR hK0 hR0
  obtain ⟨B, hB0, hBv⟩ : ∃ B : List (Nat × AObj), (∀ e ∈ B, H[e.1]? = some e.2) ∧ ∀ n, (hn : n < l.length) → ∃ q o cap cs k, v = .slice (some ⟨q, o, none⟩) l.length cap ∧ (q, .cells cs k) ∈ B ∧ (cs.drop (o + n * 8)).take 8 = actC l[n] ∧ o + (n * 8 + 8) ≤ cs.length := by
    rcases hv with ⟨rfl, e1⟩ | ⟨q, o, cap, cs, k, rfl, hi, hle, hrr⟩
    · exact ⟨[], by simp, fun n hn => by rw [← hal, e1] at hn; exact absurd hn (by simp)⟩
    · refine ⟨[(q, .cells cs k)], fun e he => by rw [List.mem_singleton.1 he]; exact hi, fun n hn => ⟨q, o, cap, cs, k, by rw [hal], by simp, act_get (hle ?_) hrr hn⟩⟩
      intro e
      rw [← hal, e] at hn
      exact absurd hn (by simp)
  have hP1 := hP0 B hB0
  clear hP0 hB0
  generalize H ++ [AObj.amap [] 0 true, .cells [.string (bs seed), .string (bs []), .int .i64 (-1), .int .i64 p, .int .i64 m, .int .i64 0, .int .i64 0, .map (some H.length)] ⟨67, 0, true, 0, none⟩, .cells [.int .i64 0, .string (bs seed)] ⟨102, 0, true, 0, none⟩, .cells [.slice (some ⟨H.length + 2, 0, none⟩) 1 1, .int .i64 p, .int .i64 m, .int .i64 0, .slice none 0 0] ⟨106, 0, true, 0, none⟩] = H0 at *
  refine AWP.loopP (fun s => ⟨envP (H.length + 1) (H.length + 3) v l.length s, [], s.2.2.2.2⟩) (PInv l (H.length + 1) (H.length + 3) B) (fun s => l.length - s.1) (0, 0, [], 0, H0) ?_ ⟨Nat.zero_le _, Int.le_refl _, by show (0 : Int) ≤ 1000000000; omega, Nat.le_refl _, fun h => absurd rfl h, _, _, hC0, hP1⟩ ?_
  · exact Weak.env (by simp [envIn, envP, lk_cons, wth_some, gS_zero])
  clear hP1 hC0 q1
  generalize H.length + 1 = i at *
  generalize H.length + 3 = ir at *
  rintro ⟨n, now, gl, j, H1⟩ ⟨hn, now0, now1, hgl, hgj, K, R, hC, hP⟩
  simp only at hn now0 now1 hgl hgj hC hP ⊢
  by_cases hc : n < l.length
  · have hc' : (n : Int) < (l.length : Int) := by omega
    obtain ⟨q, o, cap, cs, k, rfl, hq, hg, hg2⟩ := hBv n hc
    have hi1 := hP.box (List.mem_append_right _ hq)
    have hil1 := lt_of_get hi1
    simp only at hi1 hil1
    unfold envP
    generalize l[n] = x at *
    have hg1 := hg
    unfold actC at hg1
    have hP2 : PS i ir ((H1.length, .cells (actC x) ⟨44, 0, true, 0, none⟩) :: (BG gl j ++ B)) K R (H1 ++ [.cells (actC x) ⟨44, 0, true, 0, none⟩]) := hP.push [.cells (actC x) ⟨44, 0, true, 0, none⟩] 0 _ rfl
    have hbx := hP2.box (List.mem_cons_self ..)
    simp only at hbx
    repeat first
      | with_reducible refine AWP.seqJ (x := .seq (.region 12 _ _) _) ⟨[(9, .pointer (some ⟨i, 0, none⟩)), (11, .pointer (some ⟨ir, 0, none⟩)), (13, .int .i64 now), (14, gS j gl.length), (16, .pointer (some ⟨H1.length, 0, none⟩)), (17, .int .i64 (IntKind.i64.wrap (now + x.later))), (18, .string (bs (tokX gl x))), (71, .slice (some ⟨q, o, none⟩) l.length cap), (72, .int .i64 (l.length : Nat)), (73, .int .i64 (n : Nat))], [], H1 ++ [.cells (actC x) ⟨44, 0, true, 0, none⟩]⟩ ?_ ?_
      | with_reducible refine AWP.seq ?_
      | ((with_reducible refine AWP.region ?_ ?_); exact rfl)
      | with_reducible refine AWP.block ?_
      | with_reducible refine AWP.skip ?_
      | with_reducible refine AWP.exit ?_
      | with_reducible refine AWP.ret ?_
      | with_reducible refine AWP.label ?_
      | with_reducible refine AWP.goto ?_
      | ((with_reducible refine AWP.condT ?_ ?_); focus (simp only [ev, lk_cons, ↓reduceIte, Nat.reduceEqDiff]; done))
      | ((with_reducible refine AWP.condF ?_ ?_); focus (simp only [ev, lk_cons, ↓reduceIte, Nat.reduceEqDiff]; done))
      | simp only [go_sem, ↓reduceIte, Nat.reduceEqDiff, reduceCtorEq, Nat.reduceAdd, Int.reduceEq, Int.reduceBNe, Int.reduceBEq, Int.reduceToNat, Int.reduceLT, Int.reduceLE, Int.reduceGT, Int.reduceGE, Nat.reduceSub, Nat.reduceBEq, Nat.reduceBNe, Int.reduceAdd, Int.reduceSub, Int.reduceMul, Int.reduceNeg, Nat.reduceMul, Nat.reduceLeDiff, Nat.reduceLT, hc', hi1, hil1, hgetl, hg1, hg2]
      | simp (disch := omega) only [wi64, wu8, wu16, wu32, wu64, Int.tdiv_eq_ediv_of_nonneg, Int.tmod_eq_emod_of_nonneg]
      | with_reducible_and_instances exact finR
      | ((with_reducible refine finR' ?_ ?_) <;> rfl)
      | ((with_reducible refine finD hsc (NRel.of_plain ?_)); exact rfl)
    · unfold tokX
      by_cases hgv : 0 < x.given ∧ x.given ≤ (gl.length : Int)
      · obtain ⟨h1, h2⟩ := hgv
        have h1' : x.given > 0 := h1
        obtain ⟨y, hy⟩ : ∃ y : Nat, x.given = (y : Int) + 1 := ⟨(x.given - 1).toNat, by omega⟩
        have hyl : y < gl.length := by omega
        have hwy : IntKind.i64.wrap (x.given - 1) = (y : Int) := by rw [wi64 (by omega)]; omega
        have hgd : gl.getD (x.given - 1).toNat [] = gl[y] := by
          rw [show (x.given - 1).toNat = y by omega, List.getD_eq_getElem?_getD, List.getElem?_eq_getElem hyl]; rfl
        have hgjx : (H1 ++ [AObj.cells (actC x) ⟨44, 0, true, 0, none⟩])[j]? = some (.cells (strsC gl) ⟨9, 1, true, 0, none⟩) := hP2.box (e := (j, .cells (strsC gl) ⟨9, 1, true, 0, none⟩)) (List.mem_cons_of_mem _ (List.mem_append_left _ (by unfold BG; rw [if_neg (by intro e; rw [e] at hyl; simp at hyl)]; exact List.mem_singleton.2 rfl)))
        have hgt : (strsC gl)[y]? = some (.string (bs gl[y])) := strsC_get hyl
        have hlg : gl.length < 1000 := by omega
        rw [if_pos ⟨h1, h2⟩, hgd]
        unfold actC at hbx hgjx
        generalize gl[y] = gy at *
        have hgp : gS j gl.length = .slice (some ⟨j, 0, none⟩) gl.length gl.length := gS_pos (by omega)
        rw [hgp]
        repeat first
          | with_reducible refine AWP.seq ?_
          | ((with_reducible refine AWP.region ?_ ?_); exact rfl)
          | with_reducible refine AWP.block ?_
          | with_reducible refine AWP.skip ?_
          | with_reducible refine AWP.exit ?_
          | with_reducible refine AWP.ret ?_
          | with_reducible refine AWP.label ?_
          | with_reducible refine AWP.goto ?_
          | ((with_reducible refine AWP.condT ?_ ?_); focus (simp only [ev, lk_cons, ↓reduceIte, Nat.reduceEqDiff]; done))
          | ((with_reducible refine AWP.condF ?_ ?_); focus (simp only [ev, lk_cons, ↓reduceIte, Nat.reduceEqDiff]; done))
          | simp only [go_sem, ↓reduceIte, Nat.reduceEqDiff, reduceCtorEq, Nat.reduceAdd, Int.reduceEq, Int.reduceBNe, Int.reduceBEq, Int.reduceToNat, Int.reduceLT, Int.reduceLE, Int.reduceGT, Int.reduceGE, Nat.reduceSub, Nat.reduceBEq, Nat.reduceBNe, Int.reduceAdd, Int.reduceSub, Int.reduceMul, Int.reduceNeg, Nat.reduceMul, Nat.reduceLeDiff, Nat.reduceLT, hbx, h1', h2, hwy, hgjx, hgt, lenW_gt]
          | simp (disch := omega) only [wi64, wu8, wu16, wu32, wu64, Int.tdiv_eq_ediv_of_nonneg, Int.tmod_eq_emod_of_nonneg]
          | with_reducible_and_instances exact finR
          | ((with_reducible refine finR' ?_ ?_) <;> rfl)
          | ((with_reducible refine finD hsc (NRel.of_plain ?_)); exact rfl)
        exact ⟨by omega, Weak.env (by simp [envIn, lk_cons, wth_some])⟩
      · rw [if_neg hgv]
        unfold actC at hbx
        by_cases h1 : x.given > 0
        · have h2 : ¬ x.given ≤ (gl.length : Int) := fun h => hgv ⟨h1, h⟩
          repeat first
            | with_reducible refine AWP.seq ?_
            | ((with_reducible refine AWP.region ?_ ?_); exact rfl)
            | with_reducible refine AWP.block ?_
            | with_reducible refine AWP.skip ?_
            | with_reducible refine AWP.exit ?_
            | with_reducible refine AWP.ret ?_
            | with_reducible refine AWP.label ?_
            | with_reducible refine AWP.goto ?_
            | ((with_reducible refine AWP.condT ?_ ?_); focus (simp only [ev, lk_cons, ↓reduceIte, Nat.reduceEqDiff]; done))
            | ((with_reducible refine AWP.condF ?_ ?_); focus (simp only [ev, lk_cons, ↓reduceIte, Nat.reduceEqDiff]; done))
            | simp only [go_sem, ↓reduceIte, Nat.reduceEqDiff, reduceCtorEq, Nat.reduceAdd, Int.reduceEq, Int.reduceBNe, Int.reduceBEq, Int.reduceToNat, Int.reduceLT, Int.reduceLE, Int.reduceGT, Int.reduceGE, Nat.reduceSub, Nat.reduceBEq, Nat.reduceBNe, Int.reduceAdd, Int.reduceSub, Int.reduceMul, Int.reduceNeg, Nat.reduceMul, Nat.reduceLeDiff, Nat.reduceLT, hbx, h1, h2, lenW_gt]
            | simp (disch := omega) only [wi64, wu8, wu16, wu32, wu64, Int.tdiv_eq_ediv_of_nonneg, Int.tmod_eq_emod_of_nonneg]
            | with_reducible_and_instances exact finR
            | ((with_reducible refine finR' ?_ ?_) <;> rfl)
            | ((with_reducible refine finD hsc (NRel.of_plain ?_)); exact rfl)
          exact Weak.env (by simp [envIn, lk_cons, wth_some])
        · skip
          repeat first
            | with_reducible refine AWP.seq ?_
            | ((with_reducible refine AWP.region ?_ ?_); exact rfl)
            | with_reducible refine AWP.block ?_
            | with_reducible refine AWP.skip ?_
            | with_reducible refine AWP.exit ?_
            | with_reducible refine AWP.ret ?_
            | with_reducible refine AWP.label ?_
            | with_reducible refine AWP.goto ?_
            | ((with_reducible refine AWP.condT ?_ ?_); focus (simp only [ev, lk_cons, ↓reduceIte, Nat.reduceEqDiff]; done))
            | ((with_reducible refine AWP.condF ?_ ?_); focus (simp only [ev, lk_cons, ↓reduceIte, Nat.reduceEqDiff]; done))
            | simp only [go_sem, ↓reduceIte, Nat.reduceEqDiff, reduceCtorEq, Nat.reduceAdd, Int.reduceEq, Int.reduceBNe, Int.reduceBEq, Int.reduceToNat, Int.reduceLT, Int.reduceLE, Int.reduceGT, Int.reduceGE, Nat.reduceSub, Nat.reduceBEq, Nat.reduceBNe, Int.reduceAdd, Int.reduceSub, Int.reduceMul, Int.reduceNeg, Nat.reduceMul, Nat.reduceLeDiff, Nat.reduceLT, hbx, h1, lenW_gt]
            | simp (disch := omega) only [wi64, wu8, wu16, wu32, wu64, Int.tdiv_eq_ediv_of_nonneg, Int.tmod_eq_emod_of_nonneg]
            | with_reducible_and_instances exact finR
            | ((with_reducible refine finR' ?_ ?_) <;> rfl)
            | ((with_reducible refine finD hsc (NRel.of_plain ?_)); exact rfl)
          exact Weak.env (by simp [envIn, lk_cons, wth_some])
    generalize IntKind.i64.wrap (now + x.later) = t at *
    generalize tokX gl x = tk at *
    have hbn : ∀ e ∈ B, e.1 ≠ H1.length := fun e he => by
      have := lt_of_get (hP.box (List.mem_append_right _ he))
      omega
    have hgb : gl ≠ [] → j ≠ H1.length := fun h => by
      have := lt_of_get (hP.box (e := (j, .cells (strsC gl) ⟨9, 1, true, 0, none⟩)) (List.mem_append_left _ (by unfold BG; rw [if_neg h]; exact List.mem_singleton.2 rfl)))
      simp only at this
      omega
    have hn9 : n < 900 := by omega
    clear hP hi1 hil1
    generalize H1 ++ [AObj.cells (actC x) ⟨44, 0, true, 0, none⟩] = H2 at *
    generalize H1.length = bi at *
    have hbl := lt_of_get hbx
    have hJ : ∀ K' R' H', Cpl (n + 1) K' R' → PS i ir ((bi, .cells (actC x) ⟨44, 0, true, 0, none⟩) :: (BG gl j ++ B)) K' R' H' → JP i ir B bi (.slice (some ⟨q, o, none⟩) l.length cap) l.length n now t x ⟨[(9, .pointer (some ⟨i, 0, none⟩)), (11, .pointer (some ⟨ir, 0, none⟩)), (13, .int .i64 now), (14, gS j gl.length), (16, .pointer (some ⟨bi, 0, none⟩)), (17, .int .i64 t), (19, .bool true), (71, .slice (some ⟨q, o, none⟩) l.length cap), (72, .int .i64 (l.length : Nat)), (73, .int .i64 (n : Nat))], [], H'⟩ := fun K' R' H' a b => ⟨K', R', gl, j, H', rfl, a, b, by omega, hgj⟩
    unfold actC at hbx
    have hav : x.a.v = .agg ⟨[.int .i64 x.a.fam, .string (bs x.a.ip), .int .i64 x.a.port]⟩ := rfl
    repeat first
      | with_reducible refine AWP.seqE (x := .seq (.region 15 _ _) (.block 2 _)) (JP i ir B bi (.slice (some ⟨q, o, none⟩) l.length cap) l.length n now t x) ?_ ?_
      | with_reducible refine AWP.seq ?_
      | ((with_reducible refine AWP.region ?_ ?_); exact rfl)
      | with_reducible refine AWP.block ?_
      | with_reducible refine AWP.skip ?_
      | with_reducible refine AWP.exit ?_
      | with_reducible refine AWP.ret ?_
      | with_reducible refine AWP.label ?_
      | with_reducible refine AWP.goto ?_
      | ((with_reducible refine AWP.condT ?_ ?_); focus (simp only [ev, lk_cons, ↓reduceIte, Nat.reduceEqDiff]; done))
      | ((with_reducible refine AWP.condF ?_ ?_); focus (simp only [ev, lk_cons, ↓reduceIte, Nat.reduceEqDiff]; done))
      | simp only [go_sem, ↓reduceIte, Nat.reduceEqDiff, reduceCtorEq, Nat.reduceAdd, Int.reduceEq, Int.reduceBNe, Int.reduceBEq, Int.reduceToNat, Int.reduceLT, Int.reduceLE, Int.reduceGT, Int.reduceGE, Nat.reduceSub, Nat.reduceBEq, Nat.reduceBNe, Int.reduceAdd, Int.reduceSub, Int.reduceMul, Int.reduceNeg, Nat.reduceMul, Nat.reduceLeDiff, Nat.reduceLT]
      | simp (disch := omega) only [wi64, wu8, wu16, wu32, wu64, Int.tdiv_eq_ediv_of_nonneg, Int.tmod_eq_emod_of_nonneg]
      | with_reducible_and_instances exact finR
      | ((with_reducible refine finR' ?_ ?_) <;> rfl)
      | ((with_reducible refine finD hsc (NRel.of_plain ?_)); exact rfl)
    · by_cases hk1 : x.kind = 1 ∨ x.kind = 2 ∨ x.kind = 3
      · skip
        repeat first
          | with_reducible refine AWP.seqJ (x := .seq (.region 19 _ _) _) ⟨[(9, .pointer (some ⟨i, 0, none⟩)), (11, .pointer (some ⟨ir, 0, none⟩)), (13, .int .i64 now), (14, gS j gl.length), (16, .pointer (some ⟨bi, 0, none⟩)), (17, .int .i64 t), (18, .string (bs tk)), (19, .bool true), (71, .slice (some ⟨q, o, none⟩) l.length cap), (72, .int .i64 (l.length : Nat)), (73, .int .i64 (n : Nat)), (100, .int .i64 x.kind), (127, .bool true)], [], H2⟩ ?_ ?_
          | with_reducible refine AWP.seq ?_
          | ((with_reducible refine AWP.region ?_ ?_); exact rfl)
          | with_reducible refine AWP.block ?_
          | with_reducible refine AWP.skip ?_
          | with_reducible refine AWP.exit ?_
          | with_reducible refine AWP.ret ?_
          | with_reducible refine AWP.label ?_
          | with_reducible refine AWP.goto ?_
          | ((with_reducible refine AWP.condT ?_ ?_); focus (simp only [ev, lk_cons, ↓reduceIte, Nat.reduceEqDiff]; done))
          | ((with_reducible refine AWP.condF ?_ ?_); focus (simp only [ev, lk_cons, ↓reduceIte, Nat.reduceEqDiff]; done))
          | simp only [go_sem, ↓reduceIte, Nat.reduceEqDiff, reduceCtorEq, Nat.reduceAdd, Int.reduceEq, Int.reduceBNe, Int.reduceBEq, Int.reduceToNat, Int.reduceLT, Int.reduceLE, Int.reduceGT, Int.reduceGE, Nat.reduceSub, Nat.reduceBEq, Nat.reduceBNe, Int.reduceAdd, Int.reduceSub, Int.reduceMul, Int.reduceNeg, Nat.reduceMul, Nat.reduceLeDiff, Nat.reduceLT, hbl, hbx]
          | simp (disch := omega) only [wi64, wu8, wu16, wu32, wu64, Int.tdiv_eq_ediv_of_nonneg, Int.tmod_eq_emod_of_nonneg]
          | with_reducible_and_instances exact finR
          | ((with_reducible refine finR' ?_ ?_) <;> rfl)
          | ((with_reducible refine finD hsc (NRel.of_plain ?_)); exact rfl)
        · rcases hk1 with h | h | h
          all_goals
            rw [h]
            repeat first
              | with_reducible refine AWP.seq ?_
              | ((with_reducible refine AWP.region ?_ ?_); exact rfl)
              | with_reducible refine AWP.block ?_
              | with_reducible refine AWP.skip ?_
              | with_reducible refine AWP.exit ?_
              | with_reducible refine AWP.ret ?_
              | with_reducible refine AWP.label ?_
              | with_reducible refine AWP.goto ?_
              | ((with_reducible refine AWP.condT ?_ ?_); focus (simp only [ev, lk_cons, ↓reduceIte, Nat.reduceEqDiff]; done))
              | ((with_reducible refine AWP.condF ?_ ?_); focus (simp only [ev, lk_cons, ↓reduceIte, Nat.reduceEqDiff]; done))
              | simp only [go_sem, ↓reduceIte, Nat.reduceEqDiff, reduceCtorEq, Nat.reduceAdd, Int.reduceEq, Int.reduceBNe, Int.reduceBEq, Int.reduceToNat, Int.reduceLT, Int.reduceLE, Int.reduceGT, Int.reduceGE, Nat.reduceSub, Nat.reduceBEq, Nat.reduceBNe, Int.reduceAdd, Int.reduceSub, Int.reduceMul, Int.reduceNeg, Nat.reduceMul, Nat.reduceLeDiff, Nat.reduceLT]
              | simp (disch := omega) only [wi64, wu8, wu16, wu32, wu64, Int.tdiv_eq_ediv_of_nonneg, Int.tmod_eq_emod_of_nonneg]
              | with_reducible_and_instances exact finR
              | ((with_reducible refine finR' ?_ ?_) <;> rfl)
              | ((with_reducible refine finD hsc (NRel.of_plain ?_)); exact rfl)
            exact Weak.env (by simp [envIn, lk_cons, wth_some, h])
        have hG := hP2.give hC t x.a
        have hCa := hC.ask t x.a
        have hgr := hC.giveV t x.a
        unfold giveV at hG hgr
        rw [hav] at hG
        generalize (if askE K t x.a = 0 then tokL (secL K.seed (t / K.per)) x.a else []) = gt at *
        generalize askE K t x.a = e at *
        repeat first
          | with_reducible refine AWP.seq ?_
          | ((with_reducible refine AWP.region ?_ ?_); exact rfl)
          | with_reducible refine AWP.block ?_
          | with_reducible refine AWP.skip ?_
          | with_reducible refine AWP.exit ?_
          | with_reducible refine AWP.ret ?_
          | with_reducible refine AWP.label ?_
          | with_reducible refine AWP.goto ?_
          | ((with_reducible refine AWP.condT ?_ ?_); focus (simp only [ev, lk_cons, ↓reduceIte, Nat.reduceEqDiff]; done))
          | ((with_reducible refine AWP.condF ?_ ?_); focus (simp only [ev, lk_cons, ↓reduceIte, Nat.reduceEqDiff]; done))
          | simp only [go_sem, ↓reduceIte, Nat.reduceEqDiff, reduceCtorEq, Nat.reduceAdd, Int.reduceEq, Int.reduceBNe, Int.reduceBEq, Int.reduceToNat, Int.reduceLT, Int.reduceLE, Int.reduceGT, Int.reduceGE, Nat.reduceSub, Nat.reduceBEq, Nat.reduceBNe, Int.reduceAdd, Int.reduceSub, Int.reduceMul, Int.reduceNeg, Nat.reduceMul, Nat.reduceLeDiff, Nat.reduceLT, hbl, hbx]
          | simp (disch := omega) only [wi64, wu8, wu16, wu32, wu64, Int.tdiv_eq_ediv_of_nonneg, Int.tmod_eq_emod_of_nonneg]
          | with_reducible_and_instances exact finR
          | ((with_reducible refine finR' ?_ ?_) <;> rfl)
          | ((with_reducible refine finD hsc (NRel.of_plain ?_)); exact rfl)
        refine hG.use fun H3 hP3 => ?_
        have hbx3 := hP3.box (List.mem_cons_self ..)
        have hG2 := hP3.rgive hC t x.a
        rw [hav, ← hgr] at hG2
        generalize K.ask t x.a = K4 at *
        generalize R.ask t x.a = R4 at *
        have hbl3 := lt_of_get hbx3
        unfold actC at hbx3
        repeat first
          | with_reducible refine AWP.seq ?_
          | ((with_reducible refine AWP.region ?_ ?_); exact rfl)
          | with_reducible refine AWP.block ?_
          | with_reducible refine AWP.skip ?_
          | with_reducible refine AWP.exit ?_
          | with_reducible refine AWP.ret ?_
          | with_reducible refine AWP.label ?_
          | with_reducible refine AWP.goto ?_
          | ((with_reducible refine AWP.condT ?_ ?_); focus (simp only [ev, lk_cons, ↓reduceIte, Nat.reduceEqDiff]; done))
          | ((with_reducible refine AWP.condF ?_ ?_); focus (simp only [ev, lk_cons, ↓reduceIte, Nat.reduceEqDiff]; done))
          | simp only [go_sem, ↓reduceIte, Nat.reduceEqDiff, reduceCtorEq, Nat.reduceAdd, Int.reduceEq, Int.reduceBNe, Int.reduceBEq, Int.reduceToNat, Int.reduceLT, Int.reduceLE, Int.reduceGT, Int.reduceGE, Nat.reduceSub, Nat.reduceBEq, Nat.reduceBNe, Int.reduceAdd, Int.reduceSub, Int.reduceMul, Int.reduceNeg, Nat.reduceMul, Nat.reduceLeDiff, Nat.reduceLT, hbl3, hbx3]
          | simp (disch := omega) only [wi64, wu8, wu16, wu32, wu64, Int.tdiv_eq_ediv_of_nonneg, Int.tmod_eq_emod_of_nonneg]
          | with_reducible_and_instances exact finR
          | ((with_reducible refine finR' ?_ ?_) <;> rfl)
          | ((with_reducible refine finD hsc (NRel.of_plain ?_)); exact rfl)
        refine hG2.use fun H4 hP4 => ?_
        by_cases he : e = 0
        · have he' : (e == 0) = true := beq_iff_eq.2 he
          have hmk : ∀ (j' : Nat) (H' : AHeap), (∀ e ∈ B, e.1 ≠ j') → PS i ir ((bi, .cells (actC x) ⟨44, 0, true, 0, none⟩) :: (BG (gl ++ [gt]) j' ++ B)) K4 R4 H' → JP i ir B bi (.slice (some ⟨q, o, none⟩) l.length cap) l.length n now t x ⟨[(9, .pointer (some ⟨i, 0, none⟩)), (11, .pointer (some ⟨ir, 0, none⟩)), (13, .int .i64 now), (14, gS j' (gl.length + 1)), (16, .pointer (some ⟨bi, 0, none⟩)), (17, .int .i64 t), (19, .bool true), (71, .slice (some ⟨q, o, none⟩) l.length cap), (72, .int .i64 (l.length : Nat)), (73, .int .i64 (n : Nat))], [], H'⟩ := fun j' H' a b => ⟨K4, R4, gl ++ [gt], j', H', by rw [List.length_append]; rfl, hCa.mono (by omega), b, by rw [List.length_append, List.length_singleton]; omega, fun _ => a⟩
          have hBl := fun e he => lt_of_get (hP4.box (e := e) (List.mem_cons_of_mem _ (List.mem_append_right _ he)))
          have hlg : gl.length < 1000 := by omega
          by_cases hg0 : gl = []
          · subst hg0
            simp only [List.length_nil, gS_zero, List.nil_append] at hmk ⊢
            repeat first
              | with_reducible refine AWP.seq ?_
              | ((with_reducible refine AWP.region ?_ ?_); exact rfl)
              | with_reducible refine AWP.block ?_
              | with_reducible refine AWP.skip ?_
              | with_reducible refine AWP.exit ?_
              | with_reducible refine AWP.ret ?_
              | with_reducible refine AWP.label ?_
              | with_reducible refine AWP.goto ?_
              | ((with_reducible refine AWP.condT ?_ ?_); focus (simp only [ev, lk_cons, ↓reduceIte, Nat.reduceEqDiff]; done))
              | ((with_reducible refine AWP.condF ?_ ?_); focus (simp only [ev, lk_cons, ↓reduceIte, Nat.reduceEqDiff]; done))
              | simp only [go_sem, ↓reduceIte, Nat.reduceEqDiff, reduceCtorEq, Nat.reduceAdd, Int.reduceEq, Int.reduceBNe, Int.reduceBEq, Int.reduceToNat, Int.reduceLT, Int.reduceLE, Int.reduceGT, Int.reduceGE, Nat.reduceSub, Nat.reduceBEq, Nat.reduceBNe, Int.reduceAdd, Int.reduceSub, Int.reduceMul, Int.reduceNeg, Nat.reduceMul, Nat.reduceLeDiff, Nat.reduceLT, he']
              | simp (disch := omega) only [wi64, wu8, wu16, wu32, wu64, Int.tdiv_eq_ediv_of_nonneg, Int.tmod_eq_emod_of_nonneg]
              | with_reducible_and_instances exact finR
              | ((with_reducible refine finR' ?_ ?_) <;> rfl)
              | ((with_reducible refine finD hsc (NRel.of_plain ?_)); exact rfl)
            refine appendTo_nil (by decide) (by decide) (by decide) ?_
            repeat first
              | with_reducible refine AWP.seq ?_
              | ((with_reducible refine AWP.region ?_ ?_); exact rfl)
              | with_reducible refine AWP.block ?_
              | with_reducible refine AWP.skip ?_
              | with_reducible refine AWP.exit ?_
              | with_reducible refine AWP.ret ?_
              | with_reducible refine AWP.label ?_
              | with_reducible refine AWP.goto ?_
              | ((with_reducible refine AWP.condT ?_ ?_); focus (simp only [ev, lk_cons, ↓reduceIte, Nat.reduceEqDiff]; done))
              | ((with_reducible refine AWP.condF ?_ ?_); focus (simp only [ev, lk_cons, ↓reduceIte, Nat.reduceEqDiff]; done))
              | simp only [go_sem, ↓reduceIte, Nat.reduceEqDiff, reduceCtorEq, Nat.reduceAdd, Int.reduceEq, Int.reduceBNe, Int.reduceBEq, Int.reduceToNat, Int.reduceLT, Int.reduceLE, Int.reduceGT, Int.reduceGE, Nat.reduceSub, Nat.reduceBEq, Nat.reduceBNe, Int.reduceAdd, Int.reduceSub, Int.reduceMul, Int.reduceNeg, Nat.reduceMul, Nat.reduceLeDiff, Nat.reduceLT]
              | simp (disch := omega) only [wi64, wu8, wu16, wu32, wu64, Int.tdiv_eq_ediv_of_nonneg, Int.tmod_eq_emod_of_nonneg]
              | with_reducible_and_instances exact finR
              | ((with_reducible refine finR' ?_ ?_) <;> rfl)
              | ((with_reducible refine finD hsc (NRel.of_plain ?_)); exact rfl)
            have hP5 := (hP4.more [.cells [.string (bs gt)] ⟨9, 0, true, 0, none⟩]).push [.cells [.string (bs gt)] ⟨9, 1, true, 0, none⟩] 0 _ rfl
            rw [List.append_assoc, List.length_append] at hP5
            refine ⟨_, hmk (H4.length + 1) _ (fun e he => by have := hBl e he; omega) (hP5.sub fun e he => ?_), Weak.env (by simp [envIn, lk_cons, wth_some, gS_succ])⟩
            simp only [BG, List.mem_cons, List.mem_append, List.append_eq_nil_iff, List.cons_ne_nil, and_false, if_false, List.not_mem_nil, or_false, List.nil_append, if_true] at he ⊢
            rcases he with rfl | rfl | he
            · exact .inr (.inl rfl)
            · exact .inl rfl
            · exact .inr (.inr he)
          · have hgp : gS j gl.length = .slice (some ⟨j, 0, none⟩) gl.length gl.length := gS_pos (List.length_pos_iff.2 hg0)
            rw [hgp]
            have hin : ((j, AObj.cells (strsC gl) ⟨9, 1, true, 0, none⟩) : Nat × AObj) ∈ BG gl j := by unfold BG; rw [if_neg hg0]; exact List.mem_singleton.2 rfl
            have hj4 := hP4.box (List.mem_cons_of_mem _ (List.mem_append_left _ hin))
            have hjl := lt_of_get hj4
            simp only at hj4 hjl
            repeat first
              | with_reducible refine AWP.seq ?_
              | ((with_reducible refine AWP.region ?_ ?_); exact rfl)
              | with_reducible refine AWP.block ?_
              | with_reducible refine AWP.skip ?_
              | with_reducible refine AWP.exit ?_
              | with_reducible refine AWP.ret ?_
              | with_reducible refine AWP.label ?_
              | with_reducible refine AWP.goto ?_
              | ((with_reducible refine AWP.condT ?_ ?_); focus (simp only [ev, lk_cons, ↓reduceIte, Nat.reduceEqDiff]; done))
              | ((with_reducible refine AWP.condF ?_ ?_); focus (simp only [ev, lk_cons, ↓reduceIte, Nat.reduceEqDiff]; done))
              | simp only [go_sem, ↓reduceIte, Nat.reduceEqDiff, reduceCtorEq, Nat.reduceAdd, Int.reduceEq, Int.reduceBNe, Int.reduceBEq, Int.reduceToNat, Int.reduceLT, Int.reduceLE, Int.reduceGT, Int.reduceGE, Nat.reduceSub, Nat.reduceBEq, Nat.reduceBNe, Int.reduceAdd, Int.reduceSub, Int.reduceMul, Int.reduceNeg, Nat.reduceMul, Nat.reduceLeDiff, Nat.reduceLT, he']
              | simp (disch := omega) only [wi64, wu8, wu16, wu32, wu64, Int.tdiv_eq_ediv_of_nonneg, Int.tmod_eq_emod_of_nonneg]
              | with_reducible_and_instances exact finR
              | ((with_reducible refine finR' ?_ ?_) <;> rfl)
              | ((with_reducible refine finD hsc (NRel.of_plain ?_)); exact rfl)
            refine appendTo_own (cs := strsC gl) (by simp only [go_sem, ↓reduceIte, Nat.reduceEqDiff, reduceCtorEq, Nat.reduceAdd, Int.reduceEq, Int.reduceBNe, Int.reduceBEq, Int.reduceToNat, Int.reduceLT, Int.reduceLE, Int.reduceGT, Int.reduceGE, Nat.reduceSub, Nat.reduceBEq, Nat.reduceBNe, Int.reduceAdd, Int.reduceSub, Int.reduceMul, Int.reduceNeg, Nat.reduceMul, Nat.reduceLeDiff, Nat.reduceLT, hjl, hgetl, hj4]) (by decide) (by rw [strsC_length]; omega) (by decide) (by omega) (by omega) ?_
            repeat first
              | with_reducible refine AWP.seq ?_
              | ((with_reducible refine AWP.region ?_ ?_); exact rfl)
              | with_reducible refine AWP.block ?_
              | with_reducible refine AWP.skip ?_
              | with_reducible refine AWP.exit ?_
              | with_reducible refine AWP.ret ?_
              | with_reducible refine AWP.label ?_
              | with_reducible refine AWP.goto ?_
              | ((with_reducible refine AWP.condT ?_ ?_); focus (simp only [ev, lk_cons, ↓reduceIte, Nat.reduceEqDiff]; done))
              | ((with_reducible refine AWP.condF ?_ ?_); focus (simp only [ev, lk_cons, ↓reduceIte, Nat.reduceEqDiff]; done))
              | simp only [go_sem, ↓reduceIte, Nat.reduceEqDiff, reduceCtorEq, Nat.reduceAdd, Int.reduceEq, Int.reduceBNe, Int.reduceBEq, Int.reduceToNat, Int.reduceLT, Int.reduceLE, Int.reduceGT, Int.reduceGE, Nat.reduceSub, Nat.reduceBEq, Nat.reduceBNe, Int.reduceAdd, Int.reduceSub, Int.reduceMul, Int.reduceNeg, Nat.reduceMul, Nat.reduceLeDiff, Nat.reduceLT]
              | simp (disch := omega) only [wi64, wu8, wu16, wu32, wu64, Int.tdiv_eq_ediv_of_nonneg, Int.tmod_eq_emod_of_nonneg]
              | with_reducible_and_instances exact finR
              | ((with_reducible refine finR' ?_ ?_) <;> rfl)
              | ((with_reducible refine finD hsc (NRel.of_plain ?_)); exact rfl)
            have hP5 : PS i ir ((bi, .cells (actC x) ⟨44, 0, true, 0, none⟩) :: B) K4 R4 ((H4 ++ [AObj.cells [.string (bs gt)] ⟨9, 0, true, 0, none⟩]).set j .dead) := by
              refine PS.swap (j := j) (o := .cells (strsC gl) ⟨9, 1, true, 0, none⟩) ((hP4.more _).sub fun e he => ?_) (fun e he => ?_) (fun e => by unfold tabO; simp)
              · rcases List.mem_cons.1 he with rfl | he
                · exact List.mem_cons_of_mem _ (List.mem_append_left _ hin)
                rcases List.mem_cons.1 he with rfl | he
                · exact List.mem_cons_self ..
                · exact List.mem_cons_of_mem _ (List.mem_append_right _ he)
              · rcases List.mem_cons.1 he with rfl | he
                · exact (hgb hg0).symm
                · exact hgj hg0 e he
            have hP6 := hP5.push [.cells (strsC gl ++ [.string (bs gt)]) ⟨9, 1, true, 0, none⟩] 0 _ rfl
            have hln : ((H4 ++ [AObj.cells [.string (bs gt)] ⟨9, 0, true, 0, none⟩]).set j .dead).length = H4.length + 1 := by simp
            rw [hln] at hP6
            refine ⟨_, hmk (H4.length + 1) _ (fun e he => by have := hBl e he; omega) (hP6.sub fun e he => ?_), Weak.env (by simp [envIn, lk_cons, wth_some, gS_succ])⟩
            have hst : strsC (gl ++ [gt]) = strsC gl ++ [.string (bs gt)] := by unfold strsC; rw [List.map_append]; rfl
            simp only [BG, hst, List.mem_cons, List.mem_append, List.append_eq_nil_iff, List.cons_ne_nil, and_false, if_false, List.not_mem_nil, or_false] at he ⊢
            rcases he with rfl | rfl | he
            · exact .inr (.inl rfl)
            · exact .inl rfl
            · exact .inr (.inr he)
        · have he' : (e == 0) = false := beq_eq_false_iff_ne.2 he
          repeat first
            | with_reducible refine AWP.seq ?_
            | ((with_reducible refine AWP.region ?_ ?_); exact rfl)
            | with_reducible refine AWP.block ?_
            | with_reducible refine AWP.skip ?_
            | with_reducible refine AWP.exit ?_
            | with_reducible refine AWP.ret ?_
            | with_reducible refine AWP.label ?_
            | with_reducible refine AWP.goto ?_
            | ((with_reducible refine AWP.condT ?_ ?_); focus (simp only [ev, lk_cons, ↓reduceIte, Nat.reduceEqDiff]; done))
            | ((with_reducible refine AWP.condF ?_ ?_); focus (simp only [ev, lk_cons, ↓reduceIte, Nat.reduceEqDiff]; done))
            | simp only [go_sem, ↓reduceIte, Nat.reduceEqDiff, reduceCtorEq, Nat.reduceAdd, Int.reduceEq, Int.reduceBNe, Int.reduceBEq, Int.reduceToNat, Int.reduceLT, Int.reduceLE, Int.reduceGT, Int.reduceGE, Nat.reduceSub, Nat.reduceBEq, Nat.reduceBNe, Int.reduceAdd, Int.reduceSub, Int.reduceMul, Int.reduceNeg, Nat.reduceMul, Nat.reduceLeDiff, Nat.reduceLT, he']
            | simp (disch := omega) only [wi64, wu8, wu16, wu32, wu64, Int.tdiv_eq_ediv_of_nonneg, Int.tmod_eq_emod_of_nonneg]
            | with_reducible_and_instances exact finR
            | ((with_reducible refine finR' ?_ ?_) <;> rfl)
            | ((with_reducible refine finD hsc (NRel.of_plain ?_)); exact rfl)
          exact ⟨_, hJ _ _ _ (hCa.mono (by omega)) hP4, Weak.env (by simp [envIn, lk_cons, wth_some])⟩
      have k1 : (x.kind == 1) = false := beq_eq_false_iff_ne.2 fun h => hk1 (.inl h)
      have k2 : (x.kind == 2) = false := beq_eq_false_iff_ne.2 fun h => hk1 (.inr (.inl h))
      have k3 : (x.kind == 3) = false := beq_eq_false_iff_ne.2 fun h => hk1 (.inr (.inr h))
      by_cases hk2 : x.kind = 4 ∨ x.kind = 5 ∨ x.kind = 6
      · skip
        repeat first
          | with_reducible refine AWP.seqJ (x := .seq (.region 27 _ _) _) ⟨[(9, .pointer (some ⟨i, 0, none⟩)), (11, .pointer (some ⟨ir, 0, none⟩)), (13, .int .i64 now), (14, gS j gl.length), (16, .pointer (some ⟨bi, 0, none⟩)), (17, .int .i64 t), (18, .string (bs tk)), (19, .bool true), (71, .slice (some ⟨q, o, none⟩) l.length cap), (72, .int .i64 (l.length : Nat)), (73, .int .i64 (n : Nat)), (100, .int .i64 x.kind), (161, .bool true)], [], H2⟩ ?_ ?_
          | with_reducible refine AWP.seq ?_
          | ((with_reducible refine AWP.region ?_ ?_); exact rfl)
          | with_reducible refine AWP.block ?_
          | with_reducible refine AWP.skip ?_
          | with_reducible refine AWP.exit ?_
          | with_reducible refine AWP.ret ?_
          | with_reducible refine AWP.label ?_
          | with_reducible refine AWP.goto ?_
          | ((with_reducible refine AWP.condT ?_ ?_); focus (simp only [ev, lk_cons, ↓reduceIte, Nat.reduceEqDiff]; done))
          | ((with_reducible refine AWP.condF ?_ ?_); focus (simp only [ev, lk_cons, ↓reduceIte, Nat.reduceEqDiff]; done))
          | simp only [go_sem, ↓reduceIte, Nat.reduceEqDiff, reduceCtorEq, Nat.reduceAdd, Int.reduceEq, Int.reduceBNe, Int.reduceBEq, Int.reduceToNat, Int.reduceLT, Int.reduceLE, Int.reduceGT, Int.reduceGE, Nat.reduceSub, Nat.reduceBEq, Nat.reduceBNe, Int.reduceAdd, Int.reduceSub, Int.reduceMul, Int.reduceNeg, Nat.reduceMul, Nat.reduceLeDiff, Nat.reduceLT, hbl, hbx, k1, k2, k3]
          | simp (disch := omega) only [wi64, wu8, wu16, wu32, wu64, Int.tdiv_eq_ediv_of_nonneg, Int.tmod_eq_emod_of_nonneg]
          | with_reducible_and_instances exact finR
          | ((with_reducible refine finR' ?_ ?_) <;> rfl)
          | ((with_reducible refine finD hsc (NRel.of_plain ?_)); exact rfl)
        · rcases hk2 with h | h | h
          all_goals
            rw [h]
            repeat first
              | with_reducible refine AWP.seq ?_
              | ((with_reducible refine AWP.region ?_ ?_); exact rfl)
              | with_reducible refine AWP.block ?_
              | with_reducible refine AWP.skip ?_
              | with_reducible refine AWP.exit ?_
              | with_reducible refine AWP.ret ?_
              | with_reducible refine AWP.label ?_
              | with_reducible refine AWP.goto ?_
              | ((with_reducible refine AWP.condT ?_ ?_); focus (simp only [ev, lk_cons, ↓reduceIte, Nat.reduceEqDiff]; done))
              | ((with_reducible refine AWP.condF ?_ ?_); focus (simp only [ev, lk_cons, ↓reduceIte, Nat.reduceEqDiff]; done))
              | simp only [go_sem, ↓reduceIte, Nat.reduceEqDiff, reduceCtorEq, Nat.reduceAdd, Int.reduceEq, Int.reduceBNe, Int.reduceBEq, Int.reduceToNat, Int.reduceLT, Int.reduceLE, Int.reduceGT, Int.reduceGE, Nat.reduceSub, Nat.reduceBEq, Nat.reduceBNe, Int.reduceAdd, Int.reduceSub, Int.reduceMul, Int.reduceNeg, Nat.reduceMul, Nat.reduceLeDiff, Nat.reduceLT]
              | simp (disch := omega) only [wi64, wu8, wu16, wu32, wu64, Int.tdiv_eq_ediv_of_nonneg, Int.tmod_eq_emod_of_nonneg]
              | with_reducible_and_instances exact finR
              | ((with_reducible refine finR' ?_ ?_) <;> rfl)
              | ((with_reducible refine finD hsc (NRel.of_plain ?_)); exact rfl)
            exact Weak.env (by simp [envIn, lk_cons, wth_some, h])
        have hG := hP2.right hC t x.a tk
        have hCa := hC.ask t x.a
        have hgr := hC.rightV t x.a tk
        unfold rightV at hG hgr
        rw [hav] at hG
        generalize (if askE K t x.a = 0 then decide (untilL (K.tell t) x.a tk ≥ 0) else false) = gt at *
        generalize askE K t x.a = e at *
        repeat first
          | with_reducible refine AWP.seq ?_
          | ((with_reducible refine AWP.region ?_ ?_); exact rfl)
          | with_reducible refine AWP.block ?_
          | with_reducible refine AWP.skip ?_
          | with_reducible refine AWP.exit ?_
          | with_reducible refine AWP.ret ?_
          | with_reducible refine AWP.label ?_
          | with_reducible refine AWP.goto ?_
          | ((with_reducible refine AWP.condT ?_ ?_); focus (simp only [ev, lk_cons, ↓reduceIte, Nat.reduceEqDiff]; done))
          | ((with_reducible refine AWP.condF ?_ ?_); focus (simp only [ev, lk_cons, ↓reduceIte, Nat.reduceEqDiff]; done))
          | simp only [go_sem, ↓reduceIte, Nat.reduceEqDiff, reduceCtorEq, Nat.reduceAdd, Int.reduceEq, Int.reduceBNe, Int.reduceBEq, Int.reduceToNat, Int.reduceLT, Int.reduceLE, Int.reduceGT, Int.reduceGE, Nat.reduceSub, Nat.reduceBEq, Nat.reduceBNe, Int.reduceAdd, Int.reduceSub, Int.reduceMul, Int.reduceNeg, Nat.reduceMul, Nat.reduceLeDiff, Nat.reduceLT, hbl, hbx]
          | simp (disch := omega) only [wi64, wu8, wu16, wu32, wu64, Int.tdiv_eq_ediv_of_nonneg, Int.tmod_eq_emod_of_nonneg]
          | with_reducible_and_instances exact finR
          | ((with_reducible refine finR' ?_ ?_) <;> rfl)
          | ((with_reducible refine finD hsc (NRel.of_plain ?_)); exact rfl)
        refine hG.use fun H3 hP3 => ?_
        have hbx3 := hP3.box (List.mem_cons_self ..)
        have hG2 := hP3.rright hC t x.a tk
        rw [hav, ← hgr] at hG2
        have hbl3 := lt_of_get hbx3
        unfold actC at hbx3
        repeat first
          | with_reducible refine AWP.seq ?_
          | ((with_reducible refine AWP.region ?_ ?_); exact rfl)
          | with_reducible refine AWP.block ?_
          | with_reducible refine AWP.skip ?_
          | with_reducible refine AWP.exit ?_
          | with_reducible refine AWP.ret ?_
          | with_reducible refine AWP.label ?_
          | with_reducible refine AWP.goto ?_
          | ((with_reducible refine AWP.condT ?_ ?_); focus (simp only [ev, lk_cons, ↓reduceIte, Nat.reduceEqDiff]; done))
          | ((with_reducible refine AWP.condF ?_ ?_); focus (simp only [ev, lk_cons, ↓reduceIte, Nat.reduceEqDiff]; done))
          | simp only [go_sem, ↓reduceIte, Nat.reduceEqDiff, reduceCtorEq, Nat.reduceAdd, Int.reduceEq, Int.reduceBNe, Int.reduceBEq, Int.reduceToNat, Int.reduceLT, Int.reduceLE, Int.reduceGT, Int.reduceGE, Nat.reduceSub, Nat.reduceBEq, Nat.reduceBNe, Int.reduceAdd, Int.reduceSub, Int.reduceMul, Int.reduceNeg, Nat.reduceMul, Nat.reduceLeDiff, Nat.reduceLT, hbl3, hbx3]
          | simp (disch := omega) only [wi64, wu8, wu16, wu32, wu64, Int.tdiv_eq_ediv_of_nonneg, Int.tmod_eq_emod_of_nonneg]
          | with_reducible_and_instances exact finR
          | ((with_reducible refine finR' ?_ ?_) <;> rfl)
          | ((with_reducible refine finD hsc (NRel.of_plain ?_)); exact rfl)
        refine hG2.use fun H4 hP4 => ?_
        repeat first
          | with_reducible refine AWP.seq ?_
          | ((with_reducible refine AWP.region ?_ ?_); exact rfl)
          | with_reducible refine AWP.block ?_
          | with_reducible refine AWP.skip ?_
          | with_reducible refine AWP.exit ?_
          | with_reducible refine AWP.ret ?_
          | with_reducible refine AWP.label ?_
          | with_reducible refine AWP.goto ?_
          | ((with_reducible refine AWP.condT ?_ ?_); focus (simp only [ev, lk_cons, ↓reduceIte, Nat.reduceEqDiff]; done))
          | ((with_reducible refine AWP.condF ?_ ?_); focus (simp only [ev, lk_cons, ↓reduceIte, Nat.reduceEqDiff]; done))
          | simp only [go_sem, ↓reduceIte, Nat.reduceEqDiff, reduceCtorEq, Nat.reduceAdd, Int.reduceEq, Int.reduceBNe, Int.reduceBEq, Int.reduceToNat, Int.reduceLT, Int.reduceLE, Int.reduceGT, Int.reduceGE, Nat.reduceSub, Nat.reduceBEq, Nat.reduceBNe, Int.reduceAdd, Int.reduceSub, Int.reduceMul, Int.reduceNeg, Nat.reduceMul, Nat.reduceLeDiff, Nat.reduceLT]
          | simp (disch := omega) only [wi64, wu8, wu16, wu32, wu64, Int.tdiv_eq_ediv_of_nonneg, Int.tmod_eq_emod_of_nonneg]
          | with_reducible_and_instances exact finR
          | ((with_reducible refine finR' ?_ ?_) <;> rfl)
          | ((with_reducible refine finD hsc (NRel.of_plain ?_)); exact rfl)
        exact ⟨_, hJ _ _ _ (hCa.mono (by omega)) hP4, Weak.env (by simp [envIn, lk_cons, wth_some])⟩
      have k4 : (x.kind == 4) = false := beq_eq_false_iff_ne.2 fun h => hk2 (.inl h)
      have k5 : (x.kind == 5) = false := beq_eq_false_iff_ne.2 fun h => hk2 (.inr (.inl h))
      have k6 : (x.kind == 6) = false := beq_eq_false_iff_ne.2 fun h => hk2 (.inr (.inr h))
      by_cases hk3 : x.kind = 7 ∨ x.kind = 8 ∨ x.kind = 9
      · skip
        repeat first
          | with_reducible refine AWP.seqJ (x := .seq (.region 33 _ _) _) ⟨[(9, .pointer (some ⟨i, 0, none⟩)), (11, .pointer (some ⟨ir, 0, none⟩)), (13, .int .i64 now), (14, gS j gl.length), (16, .pointer (some ⟨bi, 0, none⟩)), (17, .int .i64 t), (18, .string (bs tk)), (19, .bool true), (71, .slice (some ⟨q, o, none⟩) l.length cap), (72, .int .i64 (l.length : Nat)), (73, .int .i64 (n : Nat)), (100, .int .i64 x.kind), (191, .bool true)], [], H2⟩ ?_ ?_
          | with_reducible refine AWP.seq ?_
          | ((with_reducible refine AWP.region ?_ ?_); exact rfl)
          | with_reducible refine AWP.block ?_
          | with_reducible refine AWP.skip ?_
          | with_reducible refine AWP.exit ?_
          | with_reducible refine AWP.ret ?_
          | with_reducible refine AWP.label ?_
          | with_reducible refine AWP.goto ?_
          | ((with_reducible refine AWP.condT ?_ ?_); focus (simp only [ev, lk_cons, ↓reduceIte, Nat.reduceEqDiff]; done))
          | ((with_reducible refine AWP.condF ?_ ?_); focus (simp only [ev, lk_cons, ↓reduceIte, Nat.reduceEqDiff]; done))
          | simp only [go_sem, ↓reduceIte, Nat.reduceEqDiff, reduceCtorEq, Nat.reduceAdd, Int.reduceEq, Int.reduceBNe, Int.reduceBEq, Int.reduceToNat, Int.reduceLT, Int.reduceLE, Int.reduceGT, Int.reduceGE, Nat.reduceSub, Nat.reduceBEq, Nat.reduceBNe, Int.reduceAdd, Int.reduceSub, Int.reduceMul, Int.reduceNeg, Nat.reduceMul, Nat.reduceLeDiff, Nat.reduceLT, hbl, hbx, k1, k2, k3, k4, k5, k6]
          | simp (disch := omega) only [wi64, wu8, wu16, wu32, wu64, Int.tdiv_eq_ediv_of_nonneg, Int.tmod_eq_emod_of_nonneg]
          | with_reducible_and_instances exact finR
          | ((with_reducible refine finR' ?_ ?_) <;> rfl)
          | ((with_reducible refine finD hsc (NRel.of_plain ?_)); exact rfl)
        · rcases hk3 with h | h | h
          all_goals
            rw [h]
            repeat first
              | with_reducible refine AWP.seq ?_
              | ((with_reducible refine AWP.region ?_ ?_); exact rfl)
              | with_reducible refine AWP.block ?_
              | with_reducible refine AWP.skip ?_
              | with_reducible refine AWP.exit ?_
              | with_reducible refine AWP.ret ?_
              | with_reducible refine AWP.label ?_
              | with_reducible refine AWP.goto ?_
              | ((with_reducible refine AWP.condT ?_ ?_); focus (simp only [ev, lk_cons, ↓reduceIte, Nat.reduceEqDiff]; done))
              | ((with_reducible refine AWP.condF ?_ ?_); focus (simp only [ev, lk_cons, ↓reduceIte, Nat.reduceEqDiff]; done))
              | simp only [go_sem, ↓reduceIte, Nat.reduceEqDiff, reduceCtorEq, Nat.reduceAdd, Int.reduceEq, Int.reduceBNe, Int.reduceBEq, Int.reduceToNat, Int.reduceLT, Int.reduceLE, Int.reduceGT, Int.reduceGE, Nat.reduceSub, Nat.reduceBEq, Nat.reduceBNe, Int.reduceAdd, Int.reduceSub, Int.reduceMul, Int.reduceNeg, Nat.reduceMul, Nat.reduceLeDiff, Nat.reduceLT]
              | simp (disch := omega) only [wi64, wu8, wu16, wu32, wu64, Int.tdiv_eq_ediv_of_nonneg, Int.tmod_eq_emod_of_nonneg]
              | with_reducible_and_instances exact finR
              | ((with_reducible refine finR' ?_ ?_) <;> rfl)
              | ((with_reducible refine finD hsc (NRel.of_plain ?_)); exact rfl)
            exact Weak.env (by simp [envIn, lk_cons, wth_some, h])
        have hG := hP2.take hC hn9 t x.a tk
        have hCa := hC.take hn9 t x.a tk
        have hgr := hC.takeE t x.a tk
        rw [hav] at hG
        generalize takeE K t x.a tk = e at *
        repeat first
          | with_reducible refine AWP.seq ?_
          | ((with_reducible refine AWP.region ?_ ?_); exact rfl)
          | with_reducible refine AWP.block ?_
          | with_reducible refine AWP.skip ?_
          | with_reducible refine AWP.exit ?_
          | with_reducible refine AWP.ret ?_
          | with_reducible refine AWP.label ?_
          | with_reducible refine AWP.goto ?_
          | ((with_reducible refine AWP.condT ?_ ?_); focus (simp only [ev, lk_cons, ↓reduceIte, Nat.reduceEqDiff]; done))
          | ((with_reducible refine AWP.condF ?_ ?_); focus (simp only [ev, lk_cons, ↓reduceIte, Nat.reduceEqDiff]; done))
          | simp only [go_sem, ↓reduceIte, Nat.reduceEqDiff, reduceCtorEq, Nat.reduceAdd, Int.reduceEq, Int.reduceBNe, Int.reduceBEq, Int.reduceToNat, Int.reduceLT, Int.reduceLE, Int.reduceGT, Int.reduceGE, Nat.reduceSub, Nat.reduceBEq, Nat.reduceBNe, Int.reduceAdd, Int.reduceSub, Int.reduceMul, Int.reduceNeg, Nat.reduceMul, Nat.reduceLeDiff, Nat.reduceLT]
          | simp (disch := omega) only [wi64, wu8, wu16, wu32, wu64, Int.tdiv_eq_ediv_of_nonneg, Int.tmod_eq_emod_of_nonneg]
          | with_reducible_and_instances exact finR
          | ((with_reducible refine finR' ?_ ?_) <;> rfl)
          | ((with_reducible refine finD hsc (NRel.of_plain ?_)); exact rfl)
        refine AWP.regionM 11 [3, 5, 9] [] (.both (.step 3 (.both (.run [5, 9]) (.run [9, 5]))) (.run [9, 3, 5])) (by kernel_rfl) (by decide) (by kernel_rfl) (by kernel_rfl) (by kernel_rfl) ?_
        repeat' first
          | with_reducible refine canW_n ?_
          | with_reducible refine canW_m (by decide) ?_
          | ((with_reducible apply canW_p (by decide)); focus (intro H; (simp only [go_sem, ↓reduceIte, Nat.reduceEqDiff, reduceCtorEq, Nat.reduceAdd, Int.reduceEq, Int.reduceBNe, Int.reduceBEq, Int.reduceToNat, Int.reduceLT, Int.reduceLE, Int.reduceGT, Int.reduceGE, Nat.reduceSub, Nat.reduceBEq, Nat.reduceBNe, Int.reduceAdd, Int.reduceSub, Int.reduceMul, Int.reduceNeg, Nat.reduceMul, Nat.reduceLeDiff, Nat.reduceLT, hbl, hbx, List.map_cons, List.map_nil]); exact rfl))
          | with_reducible refine memW_b ?_ ?_
          | with_reducible refine memW_s rfl ?_
          | with_reducible refine memW_r rfl ?_
          | with_reducible refine memW_e ?_
          | simp only [List.take_succ_cons, List.take_zero, List.drop_succ_cons, List.drop_zero]
          | omega
          | with_reducible refine And.intro ?_ ?_
          | with_reducible refine AWP.seq ?_
          | ((with_reducible refine AWP.region ?_ ?_); exact rfl)
          | with_reducible refine AWP.block ?_
          | with_reducible refine AWP.skip ?_
          | with_reducible refine AWP.exit ?_
          | with_reducible refine AWP.ret ?_
          | with_reducible refine AWP.label ?_
          | with_reducible refine AWP.goto ?_
          | ((with_reducible refine AWP.condT ?_ ?_); focus (simp only [ev, lk_cons, ↓reduceIte, Nat.reduceEqDiff]; done))
          | ((with_reducible refine AWP.condF ?_ ?_); focus (simp only [ev, lk_cons, ↓reduceIte, Nat.reduceEqDiff]; done))
          | simp only [go_sem, ↓reduceIte, Nat.reduceEqDiff, reduceCtorEq, Nat.reduceAdd, Int.reduceEq, Int.reduceBNe, Int.reduceBEq, Int.reduceToNat, Int.reduceLT, Int.reduceLE, Int.reduceGT, Int.reduceGE, Nat.reduceSub, Nat.reduceBEq, Nat.reduceBNe, Int.reduceAdd, Int.reduceSub, Int.reduceMul, Int.reduceNeg, Nat.reduceMul, Nat.reduceLeDiff, Nat.reduceLT, hbl, hbx, List.map_cons, List.map_nil]
          | simp (disch := omega) only [wi64, wu8, wu16, wu32, wu64, Int.tdiv_eq_ediv_of_nonneg, Int.tmod_eq_emod_of_nonneg]
          | with_reducible_and_instances exact finR
          | ((with_reducible refine finR' ?_ ?_) <;> rfl)
          | ((with_reducible refine finD hsc (NRel.of_plain ?_)); exact rfl)
        all_goals
          refine hG.use fun H3 hP3 => ?_
          have hbx3 := hP3.box (List.mem_cons_self ..)
          have hG2 := hP3.rtake hC hn9 t x.a tk
          rw [hav, ← hgr] at hG2
          have hbl3 := lt_of_get hbx3
          unfold actC at hbx3
          repeat' first
            | with_reducible refine canW_n ?_
            | with_reducible refine canW_m (by decide) ?_
            | ((with_reducible apply canW_p (by decide)); focus (intro H; (simp only [go_sem, ↓reduceIte, Nat.reduceEqDiff, reduceCtorEq, Nat.reduceAdd, Int.reduceEq, Int.reduceBNe, Int.reduceBEq, Int.reduceToNat, Int.reduceLT, Int.reduceLE, Int.reduceGT, Int.reduceGE, Nat.reduceSub, Nat.reduceBEq, Nat.reduceBNe, Int.reduceAdd, Int.reduceSub, Int.reduceMul, Int.reduceNeg, Nat.reduceMul, Nat.reduceLeDiff, Nat.reduceLT, hbl3, hbx3, List.map_cons, List.map_nil]); exact rfl))
            | with_reducible refine memW_b ?_ ?_
            | with_reducible refine memW_s rfl ?_
            | with_reducible refine memW_r rfl ?_
            | with_reducible refine memW_e ?_
            | simp only [List.take_succ_cons, List.take_zero, List.drop_succ_cons, List.drop_zero]
            | omega
            | with_reducible refine And.intro ?_ ?_
            | with_reducible refine AWP.seq ?_
            | ((with_reducible refine AWP.region ?_ ?_); exact rfl)
            | with_reducible refine AWP.block ?_
            | with_reducible refine AWP.skip ?_
            | with_reducible refine AWP.exit ?_
            | with_reducible refine AWP.ret ?_
            | with_reducible refine AWP.label ?_
            | with_reducible refine AWP.goto ?_
            | ((with_reducible refine AWP.condT ?_ ?_); focus (simp only [ev, lk_cons, ↓reduceIte, Nat.reduceEqDiff]; done))
            | ((with_reducible refine AWP.condF ?_ ?_); focus (simp only [ev, lk_cons, ↓reduceIte, Nat.reduceEqDiff]; done))
            | simp only [go_sem, ↓reduceIte, Nat.reduceEqDiff, reduceCtorEq, Nat.reduceAdd, Int.reduceEq, Int.reduceBNe, Int.reduceBEq, Int.reduceToNat, Int.reduceLT, Int.reduceLE, Int.reduceGT, Int.reduceGE, Nat.reduceSub, Nat.reduceBEq, Nat.reduceBNe, Int.reduceAdd, Int.reduceSub, Int.reduceMul, Int.reduceNeg, Nat.reduceMul, Nat.reduceLeDiff, Nat.reduceLT, hbl3, hbx3, List.map_cons, List.map_nil]
            | simp (disch := omega) only [wi64, wu8, wu16, wu32, wu64, Int.tdiv_eq_ediv_of_nonneg, Int.tmod_eq_emod_of_nonneg]
            | with_reducible_and_instances exact finR
            | ((with_reducible refine finR' ?_ ?_) <;> rfl)
            | ((with_reducible refine finD hsc (NRel.of_plain ?_)); exact rfl)
          refine hG2.use fun H4 hP4 => ?_
          repeat' first
            | with_reducible refine canW_n ?_
            | with_reducible refine canW_m (by decide) ?_
            | ((with_reducible apply canW_p (by decide)); focus (intro H; (simp only [go_sem, ↓reduceIte, Nat.reduceEqDiff, reduceCtorEq, Nat.reduceAdd, Int.reduceEq, Int.reduceBNe, Int.reduceBEq, Int.reduceToNat, Int.reduceLT, Int.reduceLE, Int.reduceGT, Int.reduceGE, Nat.reduceSub, Nat.reduceBEq, Nat.reduceBNe, Int.reduceAdd, Int.reduceSub, Int.reduceMul, Int.reduceNeg, Nat.reduceMul, Nat.reduceLeDiff, Nat.reduceLT, List.map_cons, List.map_nil]); exact rfl))
            | with_reducible refine memW_b ?_ ?_
            | with_reducible refine memW_s rfl ?_
            | with_reducible refine memW_r rfl ?_
            | with_reducible refine memW_e ?_
            | simp only [List.take_succ_cons, List.take_zero, List.drop_succ_cons, List.drop_zero]
            | omega
            | with_reducible refine And.intro ?_ ?_
            | with_reducible refine AWP.seq ?_
            | ((with_reducible refine AWP.region ?_ ?_); exact rfl)
            | with_reducible refine AWP.block ?_
            | with_reducible refine AWP.skip ?_
            | with_reducible refine AWP.exit ?_
            | with_reducible refine AWP.ret ?_
            | with_reducible refine AWP.label ?_
            | with_reducible refine AWP.goto ?_
            | ((with_reducible refine AWP.condT ?_ ?_); focus (simp only [ev, lk_cons, ↓reduceIte, Nat.reduceEqDiff]; done))
            | ((with_reducible refine AWP.condF ?_ ?_); focus (simp only [ev, lk_cons, ↓reduceIte, Nat.reduceEqDiff]; done))
            | simp only [go_sem, ↓reduceIte, Nat.reduceEqDiff, reduceCtorEq, Nat.reduceAdd, Int.reduceEq, Int.reduceBNe, Int.reduceBEq, Int.reduceToNat, Int.reduceLT, Int.reduceLE, Int.reduceGT, Int.reduceGE, Nat.reduceSub, Nat.reduceBEq, Nat.reduceBNe, Int.reduceAdd, Int.reduceSub, Int.reduceMul, Int.reduceNeg, Nat.reduceMul, Nat.reduceLeDiff, Nat.reduceLT, List.map_cons, List.map_nil]
            | simp (disch := omega) only [wi64, wu8, wu16, wu32, wu64, Int.tdiv_eq_ediv_of_nonneg, Int.tmod_eq_emod_of_nonneg]
            | with_reducible_and_instances exact finR
            | ((with_reducible refine finR' ?_ ?_) <;> rfl)
            | ((with_reducible refine finD hsc (NRel.of_plain ?_)); exact rfl)
          exact ⟨_, hJ _ _ _ hCa hP4, Weak.env (by simp [envIn, lk_cons, wth_some])⟩
      have k7 : (x.kind == 7) = false := beq_eq_false_iff_ne.2 fun h => hk3 (.inl h)
      have k8 : (x.kind == 8) = false := beq_eq_false_iff_ne.2 fun h => hk3 (.inr (.inl h))
      have k9 : (x.kind == 9) = false := beq_eq_false_iff_ne.2 fun h => hk3 (.inr (.inr h))
      repeat first
        | with_reducible refine AWP.seqJ (x := .region 37 _ _) ⟨[(9, .pointer (some ⟨i, 0, none⟩)), (11, .pointer (some ⟨ir, 0, none⟩)), (13, .int .i64 now), (14, gS j gl.length), (16, .pointer (some ⟨bi, 0, none⟩)), (17, .int .i64 t), (18, .string (bs tk)), (19, .bool true), (71, .slice (some ⟨q, o, none⟩) l.length cap), (72, .int .i64 (l.length : Nat)), (73, .int .i64 (n : Nat)), (100, .int .i64 x.kind), (208, .bool (x.kind == 10))], [], H2⟩ ?_ ?_
        | with_reducible refine AWP.seq ?_
        | ((with_reducible refine AWP.region ?_ ?_); exact rfl)
        | with_reducible refine AWP.block ?_
        | with_reducible refine AWP.skip ?_
        | with_reducible refine AWP.exit ?_
        | with_reducible refine AWP.ret ?_
        | with_reducible refine AWP.label ?_
        | with_reducible refine AWP.goto ?_
        | ((with_reducible refine AWP.condT ?_ ?_); focus (simp only [ev, lk_cons, ↓reduceIte, Nat.reduceEqDiff]; done))
        | ((with_reducible refine AWP.condF ?_ ?_); focus (simp only [ev, lk_cons, ↓reduceIte, Nat.reduceEqDiff]; done))
        | simp only [go_sem, ↓reduceIte, Nat.reduceEqDiff, reduceCtorEq, Nat.reduceAdd, Int.reduceEq, Int.reduceBNe, Int.reduceBEq, Int.reduceToNat, Int.reduceLT, Int.reduceLE, Int.reduceGT, Int.reduceGE, Nat.reduceSub, Nat.reduceBEq, Nat.reduceBNe, Int.reduceAdd, Int.reduceSub, Int.reduceMul, Int.reduceNeg, Nat.reduceMul, Nat.reduceLeDiff, Nat.reduceLT, hbl, hbx, k1, k2, k3, k4, k5, k6, k7, k8, k9]
        | simp (disch := omega) only [wi64, wu8, wu16, wu32, wu64, Int.tdiv_eq_ediv_of_nonneg, Int.tmod_eq_emod_of_nonneg]
        | with_reducible_and_instances exact finR
        | ((with_reducible refine finR' ?_ ?_) <;> rfl)
        | ((with_reducible refine finD hsc (NRel.of_plain ?_)); exact rfl)
      · exact Weak.env (by simp [envIn, lk_cons, wth_some])
      by_cases hk4 : x.kind = 10
      · have k10 : (x.kind == 10) = true := beq_iff_eq.2 hk4
        have hG := hP2.taken hC t x.a
        have hCa := hC.ask t x.a
        have hgr := hC.takenV t x.a
        unfold takenV at hG hgr
        rw [hav] at hG
        generalize (if askE K t x.a = 0 then (lookC (K.tell t).cs (keyL x.a) : Int) else 0) = gt at *
        generalize askE K t x.a = e at *
        repeat first
          | with_reducible refine AWP.seq ?_
          | ((with_reducible refine AWP.region ?_ ?_); exact rfl)
          | with_reducible refine AWP.block ?_
          | with_reducible refine AWP.skip ?_
          | with_reducible refine AWP.exit ?_
          | with_reducible refine AWP.ret ?_
          | with_reducible refine AWP.label ?_
          | with_reducible refine AWP.goto ?_
          | ((with_reducible refine AWP.condT ?_ ?_); focus (simp only [ev, lk_cons, ↓reduceIte, Nat.reduceEqDiff]; done))
          | ((with_reducible refine AWP.condF ?_ ?_); focus (simp only [ev, lk_cons, ↓reduceIte, Nat.reduceEqDiff]; done))
          | simp only [go_sem, ↓reduceIte, Nat.reduceEqDiff, reduceCtorEq, Nat.reduceAdd, Int.reduceEq, Int.reduceBNe, Int.reduceBEq, Int.reduceToNat, Int.reduceLT, Int.reduceLE, Int.reduceGT, Int.reduceGE, Nat.reduceSub, Nat.reduceBEq, Nat.reduceBNe, Int.reduceAdd, Int.reduceSub, Int.reduceMul, Int.reduceNeg, Nat.reduceMul, Nat.reduceLeDiff, Nat.reduceLT, hbl, hbx, k10]
          | simp (disch := omega) only [wi64, wu8, wu16, wu32, wu64, Int.tdiv_eq_ediv_of_nonneg, Int.tmod_eq_emod_of_nonneg]
          | with_reducible_and_instances exact finR
          | ((with_reducible refine finR' ?_ ?_) <;> rfl)
          | ((with_reducible refine finD hsc (NRel.of_plain ?_)); exact rfl)
        refine hG.use fun H3 hP3 => ?_
        have hbx3 := hP3.box (List.mem_cons_self ..)
        have hG2 := hP3.rtaken hC t x.a
        rw [hav, ← hgr] at hG2
        have hbl3 := lt_of_get hbx3
        unfold actC at hbx3
        repeat first
          | with_reducible refine AWP.seq ?_
          | ((with_reducible refine AWP.region ?_ ?_); exact rfl)
          | with_reducible refine AWP.block ?_
          | with_reducible refine AWP.skip ?_
          | with_reducible refine AWP.exit ?_
          | with_reducible refine AWP.ret ?_
          | with_reducible refine AWP.label ?_
          | with_reducible refine AWP.goto ?_
          | ((with_reducible refine AWP.condT ?_ ?_); focus (simp only [ev, lk_cons, ↓reduceIte, Nat.reduceEqDiff]; done))
          | ((with_reducible refine AWP.condF ?_ ?_); focus (simp only [ev, lk_cons, ↓reduceIte, Nat.reduceEqDiff]; done))
          | simp only [go_sem, ↓reduceIte, Nat.reduceEqDiff, reduceCtorEq, Nat.reduceAdd, Int.reduceEq, Int.reduceBNe, Int.reduceBEq, Int.reduceToNat, Int.reduceLT, Int.reduceLE, Int.reduceGT, Int.reduceGE, Nat.reduceSub, Nat.reduceBEq, Nat.reduceBNe, Int.reduceAdd, Int.reduceSub, Int.reduceMul, Int.reduceNeg, Nat.reduceMul, Nat.reduceLeDiff, Nat.reduceLT, hbl3, hbx3]
          | simp (disch := omega) only [wi64, wu8, wu16, wu32, wu64, Int.tdiv_eq_ediv_of_nonneg, Int.tmod_eq_emod_of_nonneg]
          | with_reducible_and_instances exact finR
          | ((with_reducible refine finR' ?_ ?_) <;> rfl)
          | ((with_reducible refine finD hsc (NRel.of_plain ?_)); exact rfl)
        refine hG2.use fun H4 hP4 => ?_
        repeat first
          | with_reducible refine AWP.seq ?_
          | ((with_reducible refine AWP.region ?_ ?_); exact rfl)
          | with_reducible refine AWP.block ?_
          | with_reducible refine AWP.skip ?_
          | with_reducible refine AWP.exit ?_
          | with_reducible refine AWP.ret ?_
          | with_reducible refine AWP.label ?_
          | with_reducible refine AWP.goto ?_
          | ((with_reducible refine AWP.condT ?_ ?_); focus (simp only [ev, lk_cons, ↓reduceIte, Nat.reduceEqDiff]; done))
          | ((with_reducible refine AWP.condF ?_ ?_); focus (simp only [ev, lk_cons, ↓reduceIte, Nat.reduceEqDiff]; done))
          | simp only [go_sem, ↓reduceIte, Nat.reduceEqDiff, reduceCtorEq, Nat.reduceAdd, Int.reduceEq, Int.reduceBNe, Int.reduceBEq, Int.reduceToNat, Int.reduceLT, Int.reduceLE, Int.reduceGT, Int.reduceGE, Nat.reduceSub, Nat.reduceBEq, Nat.reduceBNe, Int.reduceAdd, Int.reduceSub, Int.reduceMul, Int.reduceNeg, Nat.reduceMul, Nat.reduceLeDiff, Nat.reduceLT]
          | simp (disch := omega) only [wi64, wu8, wu16, wu32, wu64, Int.tdiv_eq_ediv_of_nonneg, Int.tmod_eq_emod_of_nonneg]
          | with_reducible_and_instances exact finR
          | ((with_reducible refine finR' ?_ ?_) <;> rfl)
          | ((with_reducible refine finD hsc (NRel.of_plain ?_)); exact rfl)
        exact ⟨_, hJ _ _ _ (hCa.mono (by omega)) hP4, Weak.env (by simp [envIn, lk_cons, wth_some])⟩
      have k10 : (x.kind == 10) = false := beq_eq_false_iff_ne.2 hk4
      by_cases hk5 : x.kind = 11
      · have k11 : (x.kind == 11) = true := beq_iff_eq.2 hk5
        have hG := hP2.change hC t x.seed
        have hCa := hC.change hn9 t x.seed
        have hgr := hC.chE t x.seed
        generalize chE K t x.seed = e at *
        repeat first
          | with_reducible refine AWP.seq ?_
          | ((with_reducible refine AWP.region ?_ ?_); exact rfl)
          | with_reducible refine AWP.block ?_
          | with_reducible refine AWP.skip ?_
          | with_reducible refine AWP.exit ?_
          | with_reducible refine AWP.ret ?_
          | with_reducible refine AWP.label ?_
          | with_reducible refine AWP.goto ?_
          | ((with_reducible refine AWP.condT ?_ ?_); focus (simp only [ev, lk_cons, ↓reduceIte, Nat.reduceEqDiff]; done))
          | ((with_reducible refine AWP.condF ?_ ?_); focus (simp only [ev, lk_cons, ↓reduceIte, Nat.reduceEqDiff]; done))
          | simp only [go_sem, ↓reduceIte, Nat.reduceEqDiff, reduceCtorEq, Nat.reduceAdd, Int.reduceEq, Int.reduceBNe, Int.reduceBEq, Int.reduceToNat, Int.reduceLT, Int.reduceLE, Int.reduceGT, Int.reduceGE, Nat.reduceSub, Nat.reduceBEq, Nat.reduceBNe, Int.reduceAdd, Int.reduceSub, Int.reduceMul, Int.reduceNeg, Nat.reduceMul, Nat.reduceLeDiff, Nat.reduceLT, hbl, hbx, k10, k11]
          | simp (disch := omega) only [wi64, wu8, wu16, wu32, wu64, Int.tdiv_eq_ediv_of_nonneg, Int.tmod_eq_emod_of_nonneg]
          | with_reducible_and_instances exact finR
          | ((with_reducible refine finR' ?_ ?_) <;> rfl)
          | ((with_reducible refine finD hsc (NRel.of_plain ?_)); exact rfl)
        refine AWP.regionM 9 [3, 4, 8] [] (.both (.step 3 (.both (.run [4, 8]) (.run [8, 4]))) (.run [8, 3, 4])) (by kernel_rfl) (by decide) (by kernel_rfl) (by kernel_rfl) (by kernel_rfl) ?_
        repeat' first
          | with_reducible refine canW_n ?_
          | with_reducible refine canW_m (by decide) ?_
          | ((with_reducible apply canW_p (by decide)); focus (intro H; (simp only [go_sem, ↓reduceIte, Nat.reduceEqDiff, reduceCtorEq, Nat.reduceAdd, Int.reduceEq, Int.reduceBNe, Int.reduceBEq, Int.reduceToNat, Int.reduceLT, Int.reduceLE, Int.reduceGT, Int.reduceGE, Nat.reduceSub, Nat.reduceBEq, Nat.reduceBNe, Int.reduceAdd, Int.reduceSub, Int.reduceMul, Int.reduceNeg, Nat.reduceMul, Nat.reduceLeDiff, Nat.reduceLT, hbl, hbx, List.map_cons, List.map_nil]); exact rfl))
          | with_reducible refine memW_b ?_ ?_
          | with_reducible refine memW_s rfl ?_
          | with_reducible refine memW_r rfl ?_
          | with_reducible refine memW_e ?_
          | simp only [List.take_succ_cons, List.take_zero, List.drop_succ_cons, List.drop_zero]
          | omega
          | with_reducible refine And.intro ?_ ?_
          | with_reducible refine AWP.seq ?_
          | ((with_reducible refine AWP.region ?_ ?_); exact rfl)
          | with_reducible refine AWP.block ?_
          | with_reducible refine AWP.skip ?_
          | with_reducible refine AWP.exit ?_
          | with_reducible refine AWP.ret ?_
          | with_reducible refine AWP.label ?_
          | with_reducible refine AWP.goto ?_
          | ((with_reducible refine AWP.condT ?_ ?_); focus (simp only [ev, lk_cons, ↓reduceIte, Nat.reduceEqDiff]; done))
          | ((with_reducible refine AWP.condF ?_ ?_); focus (simp only [ev, lk_cons, ↓reduceIte, Nat.reduceEqDiff]; done))
          | simp only [go_sem, ↓reduceIte, Nat.reduceEqDiff, reduceCtorEq, Nat.reduceAdd, Int.reduceEq, Int.reduceBNe, Int.reduceBEq, Int.reduceToNat, Int.reduceLT, Int.reduceLE, Int.reduceGT, Int.reduceGE, Nat.reduceSub, Nat.reduceBEq, Nat.reduceBNe, Int.reduceAdd, Int.reduceSub, Int.reduceMul, Int.reduceNeg, Nat.reduceMul, Nat.reduceLeDiff, Nat.reduceLT, hbl, hbx, List.map_cons, List.map_nil]
          | simp (disch := omega) only [wi64, wu8, wu16, wu32, wu64, Int.tdiv_eq_ediv_of_nonneg, Int.tmod_eq_emod_of_nonneg]
          | with_reducible_and_instances exact finR
          | ((with_reducible refine finR' ?_ ?_) <;> rfl)
          | ((with_reducible refine finD hsc (NRel.of_plain ?_)); exact rfl)
        all_goals
          refine hG.use fun H3 hP3 => ?_
          have hbx3 := hP3.box (List.mem_cons_self ..)
          have hG2 := hP3.rchange hC hn9 t x.seed
          rw [← hgr] at hG2
          have hbl3 := lt_of_get hbx3
          unfold actC at hbx3
          repeat' first
            | with_reducible refine canW_n ?_
            | with_reducible refine canW_m (by decide) ?_
            | ((with_reducible apply canW_p (by decide)); focus (intro H; (simp only [go_sem, ↓reduceIte, Nat.reduceEqDiff, reduceCtorEq, Nat.reduceAdd, Int.reduceEq, Int.reduceBNe, Int.reduceBEq, Int.reduceToNat, Int.reduceLT, Int.reduceLE, Int.reduceGT, Int.reduceGE, Nat.reduceSub, Nat.reduceBEq, Nat.reduceBNe, Int.reduceAdd, Int.reduceSub, Int.reduceMul, Int.reduceNeg, Nat.reduceMul, Nat.reduceLeDiff, Nat.reduceLT, hbl3, hbx3, List.map_cons, List.map_nil]); exact rfl))
            | with_reducible refine memW_b ?_ ?_
            | with_reducible refine memW_s rfl ?_
            | with_reducible refine memW_r rfl ?_
            | with_reducible refine memW_e ?_
            | simp only [List.take_succ_cons, List.take_zero, List.drop_succ_cons, List.drop_zero]
            | omega
            | with_reducible refine And.intro ?_ ?_
            | with_reducible refine AWP.seq ?_
            | ((with_reducible refine AWP.region ?_ ?_); exact rfl)
            | with_reducible refine AWP.block ?_
            | with_reducible refine AWP.skip ?_
            | with_reducible refine AWP.exit ?_
            | with_reducible refine AWP.ret ?_
            | with_reducible refine AWP.label ?_
            | with_reducible refine AWP.goto ?_
            | ((with_reducible refine AWP.condT ?_ ?_); focus (simp only [ev, lk_cons, ↓reduceIte, Nat.reduceEqDiff]; done))
            | ((with_reducible refine AWP.condF ?_ ?_); focus (simp only [ev, lk_cons, ↓reduceIte, Nat.reduceEqDiff]; done))
            | simp only [go_sem, ↓reduceIte, Nat.reduceEqDiff, reduceCtorEq, Nat.reduceAdd, Int.reduceEq, Int.reduceBNe, Int.reduceBEq, Int.reduceToNat, Int.reduceLT, Int.reduceLE, Int.reduceGT, Int.reduceGE, Nat.reduceSub, Nat.reduceBEq, Nat.reduceBNe, Int.reduceAdd, Int.reduceSub, Int.reduceMul, Int.reduceNeg, Nat.reduceMul, Nat.reduceLeDiff, Nat.reduceLT, hbl3, hbx3, List.map_cons, List.map_nil]
            | simp (disch := omega) only [wi64, wu8, wu16, wu32, wu64, Int.tdiv_eq_ediv_of_nonneg, Int.tmod_eq_emod_of_nonneg]
            | with_reducible_and_instances exact finR
            | ((with_reducible refine finR' ?_ ?_) <;> rfl)
            | ((with_reducible refine finD hsc (NRel.of_plain ?_)); exact rfl)
          refine hG2.use fun H4 hP4 => ?_
          repeat' first
            | with_reducible refine canW_n ?_
            | with_reducible refine canW_m (by decide) ?_
            | ((with_reducible apply canW_p (by decide)); focus (intro H; (simp only [go_sem, ↓reduceIte, Nat.reduceEqDiff, reduceCtorEq, Nat.reduceAdd, Int.reduceEq, Int.reduceBNe, Int.reduceBEq, Int.reduceToNat, Int.reduceLT, Int.reduceLE, Int.reduceGT, Int.reduceGE, Nat.reduceSub, Nat.reduceBEq, Nat.reduceBNe, Int.reduceAdd, Int.reduceSub, Int.reduceMul, Int.reduceNeg, Nat.reduceMul, Nat.reduceLeDiff, Nat.reduceLT, List.map_cons, List.map_nil]); exact rfl))
            | with_reducible refine memW_b ?_ ?_
            | with_reducible refine memW_s rfl ?_
            | with_reducible refine memW_r rfl ?_
            | with_reducible refine memW_e ?_
            | simp only [List.take_succ_cons, List.take_zero, List.drop_succ_cons, List.drop_zero]
            | omega
            | with_reducible refine And.intro ?_ ?_
            | with_reducible refine AWP.seq ?_
            | ((with_reducible refine AWP.region ?_ ?_); exact rfl)
            | with_reducible refine AWP.block ?_
            | with_reducible refine AWP.skip ?_
            | with_reducible refine AWP.exit ?_
            | with_reducible refine AWP.ret ?_
            | with_reducible refine AWP.label ?_
            | with_reducible refine AWP.goto ?_
            | ((with_reducible refine AWP.condT ?_ ?_); focus (simp only [ev, lk_cons, ↓reduceIte, Nat.reduceEqDiff]; done))
            | ((with_reducible refine AWP.condF ?_ ?_); focus (simp only [ev, lk_cons, ↓reduceIte, Nat.reduceEqDiff]; done))
            | simp only [go_sem, ↓reduceIte, Nat.reduceEqDiff, reduceCtorEq, Nat.reduceAdd, Int.reduceEq, Int.reduceBNe, Int.reduceBEq, Int.reduceToNat, Int.reduceLT, Int.reduceLE, Int.reduceGT, Int.reduceGE, Nat.reduceSub, Nat.reduceBEq, Nat.reduceBNe, Int.reduceAdd, Int.reduceSub, Int.reduceMul, Int.reduceNeg, Nat.reduceMul, Nat.reduceLeDiff, Nat.reduceLT, List.map_cons, List.map_nil]
            | simp (disch := omega) only [wi64, wu8, wu16, wu32, wu64, Int.tdiv_eq_ediv_of_nonneg, Int.tmod_eq_emod_of_nonneg]
            | with_reducible_and_instances exact finR
            | ((with_reducible refine finR' ?_ ?_) <;> rfl)
            | ((with_reducible refine finD hsc (NRel.of_plain ?_)); exact rfl)
          exact ⟨_, hJ _ _ _ hCa hP4, Weak.env (by simp [envIn, lk_cons, wth_some])⟩
      have k11 : (x.kind == 11) = false := beq_eq_false_iff_ne.2 hk5
      by_cases hk6 : x.kind = 12
      · have k12 : (x.kind == 12) = true := beq_iff_eq.2 hk6
        have hG := hP2.secrets hC t
        have hCa := hC.at_ t
        have hgr := hC.secrL t
        have hgt := hC.timeE t
        have hll : (secrL K t).length ≤ 2 := by
          unfold secrL
          split
          · rw [List.length_map]; exact secsL_le _
          · simp
        generalize secrL K t = ls at *
        generalize timeE K.now t = e at *
        repeat first
          | with_reducible refine AWP.seq ?_
          | ((with_reducible refine AWP.region ?_ ?_); exact rfl)
          | with_reducible refine AWP.block ?_
          | with_reducible refine AWP.skip ?_
          | with_reducible refine AWP.exit ?_
          | with_reducible refine AWP.ret ?_
          | with_reducible refine AWP.label ?_
          | with_reducible refine AWP.goto ?_
          | ((with_reducible refine AWP.condT ?_ ?_); focus (simp only [ev, lk_cons, ↓reduceIte, Nat.reduceEqDiff]; done))
          | ((with_reducible refine AWP.condF ?_ ?_); focus (simp only [ev, lk_cons, ↓reduceIte, Nat.reduceEqDiff]; done))
          | simp only [go_sem, ↓reduceIte, Nat.reduceEqDiff, reduceCtorEq, Nat.reduceAdd, Int.reduceEq, Int.reduceBNe, Int.reduceBEq, Int.reduceToNat, Int.reduceLT, Int.reduceLE, Int.reduceGT, Int.reduceGE, Nat.reduceSub, Nat.reduceBEq, Nat.reduceBNe, Int.reduceAdd, Int.reduceSub, Int.reduceMul, Int.reduceNeg, Nat.reduceMul, Nat.reduceLeDiff, Nat.reduceLT, hbl, hbx, k10, k11, k12]
          | simp (disch := omega) only [wi64, wu8, wu16, wu32, wu64, Int.tdiv_eq_ediv_of_nonneg, Int.tmod_eq_emod_of_nonneg]
          | with_reducible_and_instances exact finR
          | ((with_reducible refine finR' ?_ ?_) <;> rfl)
          | ((with_reducible refine finD hsc (NRel.of_plain ?_)); exact rfl)
        refine hG.mono fun r H3 hk => ?_
        obtain ⟨va, Ba, rfl, hra, hP3⟩ := hk
        have hG2 := hP3.rsecrets hC t
        rw [← hgr, ← hgt] at hG2
        repeat first
          | with_reducible refine AWP.seq ?_
          | ((with_reducible refine AWP.region ?_ ?_); exact rfl)
          | with_reducible refine AWP.block ?_
          | with_reducible refine AWP.skip ?_
          | with_reducible refine AWP.exit ?_
          | with_reducible refine AWP.ret ?_
          | with_reducible refine AWP.label ?_
          | with_reducible refine AWP.goto ?_
          | ((with_reducible refine AWP.condT ?_ ?_); focus (simp only [ev, lk_cons, ↓reduceIte, Nat.reduceEqDiff]; done))
          | ((with_reducible refine AWP.condF ?_ ?_); focus (simp only [ev, lk_cons, ↓reduceIte, Nat.reduceEqDiff]; done))
          | simp only [go_sem, ↓reduceIte, Nat.reduceEqDiff, reduceCtorEq, Nat.reduceAdd, Int.reduceEq, Int.reduceBNe, Int.reduceBEq, Int.reduceToNat, Int.reduceLT, Int.reduceLE, Int.reduceGT, Int.reduceGE, Nat.reduceSub, Nat.reduceBEq, Nat.reduceBNe, Int.reduceAdd, Int.reduceSub, Int.reduceMul, Int.reduceNeg, Nat.reduceMul, Nat.reduceLeDiff, Nat.reduceLT]
          | simp (disch := omega) only [wi64, wu8, wu16, wu32, wu64, Int.tdiv_eq_ediv_of_nonneg, Int.tmod_eq_emod_of_nonneg]
          | with_reducible_and_instances exact finR
          | ((with_reducible refine finR' ?_ ?_) <;> rfl)
          | ((with_reducible refine finD hsc (NRel.of_plain ?_)); exact rfl)
        refine hG2.mono fun r H4 hk => ?_
        obtain ⟨vb, Bb, rfl, hrb, hP4⟩ := hk
        have hS := SameT va vb ls H4 (hra H4 fun e he => hP4.box (List.mem_append_right _ (List.mem_append_left _ he))) (hrb H4 fun e he => hP4.box (List.mem_append_left _ he)) (by omega)
        repeat first
          | with_reducible refine AWP.seq ?_
          | ((with_reducible refine AWP.region ?_ ?_); exact rfl)
          | with_reducible refine AWP.block ?_
          | with_reducible refine AWP.skip ?_
          | with_reducible refine AWP.exit ?_
          | with_reducible refine AWP.ret ?_
          | with_reducible refine AWP.label ?_
          | with_reducible refine AWP.goto ?_
          | ((with_reducible refine AWP.condT ?_ ?_); focus (simp only [ev, lk_cons, ↓reduceIte, Nat.reduceEqDiff]; done))
          | ((with_reducible refine AWP.condF ?_ ?_); focus (simp only [ev, lk_cons, ↓reduceIte, Nat.reduceEqDiff]; done))
          | with_reducible refine hS.use ?_
          | simp only [go_sem, ↓reduceIte, Nat.reduceEqDiff, reduceCtorEq, Nat.reduceAdd, Int.reduceEq, Int.reduceBNe, Int.reduceBEq, Int.reduceToNat, Int.reduceLT, Int.reduceLE, Int.reduceGT, Int.reduceGE, Nat.reduceSub, Nat.reduceBEq, Nat.reduceBNe, Int.reduceAdd, Int.reduceSub, Int.reduceMul, Int.reduceNeg, Nat.reduceMul, Nat.reduceLeDiff, Nat.reduceLT]
          | simp (disch := omega) only [wi64, wu8, wu16, wu32, wu64, Int.tdiv_eq_ediv_of_nonneg, Int.tmod_eq_emod_of_nonneg]
          | with_reducible_and_instances exact finR
          | ((with_reducible refine finR' ?_ ?_) <;> rfl)
          | ((with_reducible refine finD hsc (NRel.of_plain ?_)); exact rfl)
        exact ⟨_, hJ _ _ _ (hCa.mono (by omega)) (hP4.sub fun e he => List.mem_append_right _ (List.mem_append_right _ he)), Weak.env (by simp [envIn, lk_cons, wth_some])⟩
      have k12 : (x.kind == 12) = false := beq_eq_false_iff_ne.2 hk6
      have hG := hP2.until_ hC t x.a tk
      have hCa := hC.untilK t x.a tk
      have hgr := hC.untilV t x.a tk
      unfold untilV at hG hgr
      rw [hav] at hG
      generalize (if untilE K t x.a tk = 0 then untilL (K.tell t) x.a tk else 0) = gt at *
      generalize untilE K t x.a tk = e at *
      repeat first
        | with_reducible refine AWP.seq ?_
        | ((with_reducible refine AWP.region ?_ ?_); exact rfl)
        | with_reducible refine AWP.block ?_
        | with_reducible refine AWP.skip ?_
        | with_reducible refine AWP.exit ?_
        | with_reducible refine AWP.ret ?_
        | with_reducible refine AWP.label ?_
        | with_reducible refine AWP.goto ?_
        | ((with_reducible refine AWP.condT ?_ ?_); focus (simp only [ev, lk_cons, ↓reduceIte, Nat.reduceEqDiff]; done))
        | ((with_reducible refine AWP.condF ?_ ?_); focus (simp only [ev, lk_cons, ↓reduceIte, Nat.reduceEqDiff]; done))
        | simp only [go_sem, ↓reduceIte, Nat.reduceEqDiff, reduceCtorEq, Nat.reduceAdd, Int.reduceEq, Int.reduceBNe, Int.reduceBEq, Int.reduceToNat, Int.reduceLT, Int.reduceLE, Int.reduceGT, Int.reduceGE, Nat.reduceSub, Nat.reduceBEq, Nat.reduceBNe, Int.reduceAdd, Int.reduceSub, Int.reduceMul, Int.reduceNeg, Nat.reduceMul, Nat.reduceLeDiff, Nat.reduceLT, hbl, hbx, k10, k11, k12]
        | simp (disch := omega) only [wi64, wu8, wu16, wu32, wu64, Int.tdiv_eq_ediv_of_nonneg, Int.tmod_eq_emod_of_nonneg]
        | with_reducible_and_instances exact finR
        | ((with_reducible refine finR' ?_ ?_) <;> rfl)
        | ((with_reducible refine finD hsc (NRel.of_plain ?_)); exact rfl)
      refine hG.use fun H3 hP3 => ?_
      have hbx3 := hP3.box (List.mem_cons_self ..)
      have hG2 := hP3.runtil hC t x.a tk
      rw [hav, ← hgr] at hG2
      have hbl3 := lt_of_get hbx3
      unfold actC at hbx3
      repeat first
        | with_reducible refine AWP.seq ?_
        | ((with_reducible refine AWP.region ?_ ?_); exact rfl)
        | with_reducible refine AWP.block ?_
        | with_reducible refine AWP.skip ?_
        | with_reducible refine AWP.exit ?_
        | with_reducible refine AWP.ret ?_
        | with_reducible refine AWP.label ?_
        | with_reducible refine AWP.goto ?_
        | ((with_reducible refine AWP.condT ?_ ?_); focus (simp only [ev, lk_cons, ↓reduceIte, Nat.reduceEqDiff]; done))
        | ((with_reducible refine AWP.condF ?_ ?_); focus (simp only [ev, lk_cons, ↓reduceIte, Nat.reduceEqDiff]; done))
        | simp only [go_sem, ↓reduceIte, Nat.reduceEqDiff, reduceCtorEq, Nat.reduceAdd, Int.reduceEq, Int.reduceBNe, Int.reduceBEq, Int.reduceToNat, Int.reduceLT, Int.reduceLE, Int.reduceGT, Int.reduceGE, Nat.reduceSub, Nat.reduceBEq, Nat.reduceBNe, Int.reduceAdd, Int.reduceSub, Int.reduceMul, Int.reduceNeg, Nat.reduceMul, Nat.reduceLeDiff, Nat.reduceLT, hbl3, hbx3]
        | simp (disch := omega) only [wi64, wu8, wu16, wu32, wu64, Int.tdiv_eq_ediv_of_nonneg, Int.tmod_eq_emod_of_nonneg]
        | with_reducible_and_instances exact finR
        | ((with_reducible refine finR' ?_ ?_) <;> rfl)
        | ((with_reducible refine finD hsc (NRel.of_plain ?_)); exact rfl)
      refine hG2.use fun H4 hP4 => ?_
      repeat first
        | with_reducible refine AWP.seq ?_
        | ((with_reducible refine AWP.region ?_ ?_); exact rfl)
        | with_reducible refine AWP.block ?_
        | with_reducible refine AWP.skip ?_
        | with_reducible refine AWP.exit ?_
        | with_reducible refine AWP.ret ?_
        | with_reducible refine AWP.label ?_
        | with_reducible refine AWP.goto ?_
        | ((with_reducible refine AWP.condT ?_ ?_); focus (simp only [ev, lk_cons, ↓reduceIte, Nat.reduceEqDiff]; done))
        | ((with_reducible refine AWP.condF ?_ ?_); focus (simp only [ev, lk_cons, ↓reduceIte, Nat.reduceEqDiff]; done))
        | simp only [go_sem, ↓reduceIte, Nat.reduceEqDiff, reduceCtorEq, Nat.reduceAdd, Int.reduceEq, Int.reduceBNe, Int.reduceBEq, Int.reduceToNat, Int.reduceLT, Int.reduceLE, Int.reduceGT, Int.reduceGE, Nat.reduceSub, Nat.reduceBEq, Nat.reduceBNe, Int.reduceAdd, Int.reduceSub, Int.reduceMul, Int.reduceNeg, Nat.reduceMul, Nat.reduceLeDiff, Nat.reduceLT]
        | simp (disch := omega) only [wi64, wu8, wu16, wu32, wu64, Int.tdiv_eq_ediv_of_nonneg, Int.tmod_eq_emod_of_nonneg]
        | with_reducible_and_instances exact finR
        | ((with_reducible refine finR' ?_ ?_) <;> rfl)
        | ((with_reducible refine finD hsc (NRel.of_plain ?_)); exact rfl)
      exact ⟨_, hJ _ _ _ (hCa.mono (by omega)) hP4, Weak.env (by simp [envIn, lk_cons, wth_some])⟩
    rintro st2 ⟨K2, R2, gl2, j2, H2, rfl, hC2, hP3, hgl2, hgj2⟩
    have hcn := hP3.countN
    have hrn := hP3.rcountN hC2
    have hbx := hP3.box (List.mem_cons_self ..)
    have hbl := lt_of_get hbx
    unfold actC at hbx
    have hVl := rValid x.a H2
    rw [show x.a.v = .agg ⟨[.int .i64 x.a.fam, .string (bs x.a.ip), .int .i64 x.a.port]⟩ from rfl] at hVl
    have hwn : IntKind.i64.wrap ((n : Int) + 1) = ((n + 1 : Nat) : Int) := by rw [wi64 (by omega)]; omega
    have hz : (((K2.cs.length : Nat) : Int) != ((K2.cs.length : Nat) : Int)) = false := by simp
    have hend : ∀ now' : Int, 0 ≤ now' → now' ≤ 1000000000 → PInv l i ir B (n + 1, now', gl2, j2, H2) := fun now' a b => ⟨by show n + 1 ≤ _; omega, a, b, hgl2, hgj2, K2, R2, hC2, hP3.sub fun e he => List.mem_cons_of_mem _ he⟩
    by_cases c1 : t ≥ now
    · by_cases c2 : t ≤ 1000000000
      · by_cases c3 : x.kind = 11
        · have k3 : (x.kind == 11) = true := beq_iff_eq.2 c3
          have k3' : (x.kind != 11) = false := by rw [bne, k3]; rfl
          by_cases c4 : (x.seed.length : Int) ≤ 100
          · skip
            repeat first
              | with_reducible refine AWP.seq ?_
              | ((with_reducible refine AWP.region ?_ ?_); exact rfl)
              | with_reducible refine AWP.block ?_
              | with_reducible refine AWP.skip ?_
              | with_reducible refine AWP.exit ?_
              | with_reducible refine AWP.ret ?_
              | with_reducible refine AWP.label ?_
              | with_reducible refine AWP.goto ?_
              | ((with_reducible refine AWP.condT ?_ ?_); focus (simp only [ev, lk_cons, ↓reduceIte, Nat.reduceEqDiff]; done))
              | ((with_reducible refine AWP.condF ?_ ?_); focus (simp only [ev, lk_cons, ↓reduceIte, Nat.reduceEqDiff]; done))
              | with_reducible refine hcn.use ?_
              | with_reducible refine hrn.use ?_
              | simp only [go_sem, ↓reduceIte, Nat.reduceEqDiff, reduceCtorEq, Nat.reduceAdd, Int.reduceEq, Int.reduceBNe, Int.reduceBEq, Int.reduceToNat, Int.reduceLT, Int.reduceLE, Int.reduceGT, Int.reduceGE, Nat.reduceSub, Nat.reduceBEq, Nat.reduceBNe, Int.reduceAdd, Int.reduceSub, Int.reduceMul, Int.reduceNeg, Nat.reduceMul, Nat.reduceLeDiff, Nat.reduceLT, hbl, hbx, hz, c1, c2, k3, k3', c4]
              | simp (disch := omega) only [wi64, wu8, wu16, wu32, wu64, Int.tdiv_eq_ediv_of_nonneg, Int.tmod_eq_emod_of_nonneg]
              | with_reducible_and_instances exact finR
              | ((with_reducible refine finR' ?_ ?_) <;> rfl)
              | ((with_reducible refine finD hsc (NRel.of_plain ?_)); exact rfl)
            exact ⟨(n + 1, t, gl2, j2, H2), Weak.env (by simp [envIn, lk_cons, wth_some]), hend t (by omega) (by omega), by show l.length - (n + 1) < _; omega⟩
          · have k4 : (x.kind == 12) = false := by rw [c3]; rfl
            repeat first
              | with_reducible refine AWP.seq ?_
              | ((with_reducible refine AWP.region ?_ ?_); exact rfl)
              | with_reducible refine AWP.block ?_
              | with_reducible refine AWP.skip ?_
              | with_reducible refine AWP.exit ?_
              | with_reducible refine AWP.ret ?_
              | with_reducible refine AWP.label ?_
              | with_reducible refine AWP.goto ?_
              | ((with_reducible refine AWP.condT ?_ ?_); focus (simp only [ev, lk_cons, ↓reduceIte, Nat.reduceEqDiff]; done))
              | ((with_reducible refine AWP.condF ?_ ?_); focus (simp only [ev, lk_cons, ↓reduceIte, Nat.reduceEqDiff]; done))
              | with_reducible refine hcn.use ?_
              | with_reducible refine hrn.use ?_
              | simp only [go_sem, ↓reduceIte, Nat.reduceEqDiff, reduceCtorEq, Nat.reduceAdd, Int.reduceEq, Int.reduceBNe, Int.reduceBEq, Int.reduceToNat, Int.reduceLT, Int.reduceLE, Int.reduceGT, Int.reduceGE, Nat.reduceSub, Nat.reduceBEq, Nat.reduceBNe, Int.reduceAdd, Int.reduceSub, Int.reduceMul, Int.reduceNeg, Nat.reduceMul, Nat.reduceLeDiff, Nat.reduceLT, hbl, hbx, hz, c1, c2, k3, k3', c4, k4]
              | simp (disch := omega) only [wi64, wu8, wu16, wu32, wu64, Int.tdiv_eq_ediv_of_nonneg, Int.tmod_eq_emod_of_nonneg]
              | with_reducible_and_instances exact finR
              | ((with_reducible refine finR' ?_ ?_) <;> rfl)
              | ((with_reducible refine finD hsc (NRel.of_plain ?_)); exact rfl)
            exact ⟨(n + 1, now, gl2, j2, H2), Weak.env (by simp [envIn, lk_cons, wth_some]), hend now now0 now1, by show l.length - (n + 1) < _; omega⟩
        · have k3 : (x.kind == 11) = false := beq_eq_false_iff_ne.2 c3
          have k3' : (x.kind != 11) = true := by rw [bne, k3]; rfl
          by_cases c5 : x.kind = 12
          · have k4 : (x.kind == 12) = true := beq_iff_eq.2 c5
            repeat first
              | with_reducible refine AWP.seq ?_
              | ((with_reducible refine AWP.region ?_ ?_); exact rfl)
              | with_reducible refine AWP.block ?_
              | with_reducible refine AWP.skip ?_
              | with_reducible refine AWP.exit ?_
              | with_reducible refine AWP.ret ?_
              | with_reducible refine AWP.label ?_
              | with_reducible refine AWP.goto ?_
              | ((with_reducible refine AWP.condT ?_ ?_); focus (simp only [ev, lk_cons, ↓reduceIte, Nat.reduceEqDiff]; done))
              | ((with_reducible refine AWP.condF ?_ ?_); focus (simp only [ev, lk_cons, ↓reduceIte, Nat.reduceEqDiff]; done))
              | with_reducible refine hcn.use ?_
              | with_reducible refine hrn.use ?_
              | simp only [go_sem, ↓reduceIte, Nat.reduceEqDiff, reduceCtorEq, Nat.reduceAdd, Int.reduceEq, Int.reduceBNe, Int.reduceBEq, Int.reduceToNat, Int.reduceLT, Int.reduceLE, Int.reduceGT, Int.reduceGE, Nat.reduceSub, Nat.reduceBEq, Nat.reduceBNe, Int.reduceAdd, Int.reduceSub, Int.reduceMul, Int.reduceNeg, Nat.reduceMul, Nat.reduceLeDiff, Nat.reduceLT, hbl, hbx, hz, c1, c2, k3, k3', k4]
              | simp (disch := omega) only [wi64, wu8, wu16, wu32, wu64, Int.tdiv_eq_ediv_of_nonneg, Int.tmod_eq_emod_of_nonneg]
              | with_reducible_and_instances exact finR
              | ((with_reducible refine finR' ?_ ?_) <;> rfl)
              | ((with_reducible refine finD hsc (NRel.of_plain ?_)); exact rfl)
            exact ⟨(n + 1, t, gl2, j2, H2), Weak.env (by simp [envIn, lk_cons, wth_some]), hend t (by omega) (by omega), by show l.length - (n + 1) < _; omega⟩
          · have k4 : (x.kind == 12) = false := beq_eq_false_iff_ne.2 c5
            cases hok : x.a.ok with
            | true =>
              rw [hok] at hVl
              repeat first
                | with_reducible refine AWP.seq ?_
                | ((with_reducible refine AWP.region ?_ ?_); exact rfl)
                | with_reducible refine AWP.block ?_
                | with_reducible refine AWP.skip ?_
                | with_reducible refine AWP.exit ?_
                | with_reducible refine AWP.ret ?_
                | with_reducible refine AWP.label ?_
                | with_reducible refine AWP.goto ?_
                | ((with_reducible refine AWP.condT ?_ ?_); focus (simp only [ev, lk_cons, ↓reduceIte, Nat.reduceEqDiff]; done))
                | ((with_reducible refine AWP.condF ?_ ?_); focus (simp only [ev, lk_cons, ↓reduceIte, Nat.reduceEqDiff]; done))
                | with_reducible refine hcn.use ?_
                | with_reducible refine hrn.use ?_
                | with_reducible refine hVl.use ?_
                | simp only [go_sem, ↓reduceIte, Nat.reduceEqDiff, reduceCtorEq, Nat.reduceAdd, Int.reduceEq, Int.reduceBNe, Int.reduceBEq, Int.reduceToNat, Int.reduceLT, Int.reduceLE, Int.reduceGT, Int.reduceGE, Nat.reduceSub, Nat.reduceBEq, Nat.reduceBNe, Int.reduceAdd, Int.reduceSub, Int.reduceMul, Int.reduceNeg, Nat.reduceMul, Nat.reduceLeDiff, Nat.reduceLT, hbl, hbx, hz, c1, c2, k3, k3', k4]
                | simp (disch := omega) only [wi64, wu8, wu16, wu32, wu64, Int.tdiv_eq_ediv_of_nonneg, Int.tmod_eq_emod_of_nonneg]
                | with_reducible_and_instances exact finR
                | ((with_reducible refine finR' ?_ ?_) <;> rfl)
                | ((with_reducible refine finD hsc (NRel.of_plain ?_)); exact rfl)
              exact ⟨(n + 1, t, gl2, j2, H2), Weak.env (by simp [envIn, lk_cons, wth_some]), hend t (by omega) (by omega), by show l.length - (n + 1) < _; omega⟩
            | false =>
              rw [hok] at hVl
              repeat first
                | with_reducible refine AWP.seq ?_
                | ((with_reducible refine AWP.region ?_ ?_); exact rfl)
                | with_reducible refine AWP.block ?_
                | with_reducible refine AWP.skip ?_
                | with_reducible refine AWP.exit ?_
                | with_reducible refine AWP.ret ?_
                | with_reducible refine AWP.label ?_
                | with_reducible refine AWP.goto ?_
                | ((with_reducible refine AWP.condT ?_ ?_); focus (simp only [ev, lk_cons, ↓reduceIte, Nat.reduceEqDiff]; done))
                | ((with_reducible refine AWP.condF ?_ ?_); focus (simp only [ev, lk_cons, ↓reduceIte, Nat.reduceEqDiff]; done))
                | with_reducible refine hcn.use ?_
                | with_reducible refine hrn.use ?_
                | with_reducible refine hVl.use ?_
                | simp only [go_sem, ↓reduceIte, Nat.reduceEqDiff, reduceCtorEq, Nat.reduceAdd, Int.reduceEq, Int.reduceBNe, Int.reduceBEq, Int.reduceToNat, Int.reduceLT, Int.reduceLE, Int.reduceGT, Int.reduceGE, Nat.reduceSub, Nat.reduceBEq, Nat.reduceBNe, Int.reduceAdd, Int.reduceSub, Int.reduceMul, Int.reduceNeg, Nat.reduceMul, Nat.reduceLeDiff, Nat.reduceLT, hbl, hbx, hz, c1, c2, k3, k3', k4]
                | simp (disch := omega) only [wi64, wu8, wu16, wu32, wu64, Int.tdiv_eq_ediv_of_nonneg, Int.tmod_eq_emod_of_nonneg]
                | with_reducible_and_instances exact finR
                | ((with_reducible refine finR' ?_ ?_) <;> rfl)
                | ((with_reducible refine finD hsc (NRel.of_plain ?_)); exact rfl)
              exact ⟨(n + 1, now, gl2, j2, H2), Weak.env (by simp [envIn, lk_cons, wth_some]), hend now now0 now1, by show l.length - (n + 1) < _; omega⟩
      · skip
        repeat first
          | with_reducible refine AWP.seq ?_
          | ((with_reducible refine AWP.region ?_ ?_); exact rfl)
          | with_reducible refine AWP.block ?_
          | with_reducible refine AWP.skip ?_
          | with_reducible refine AWP.exit ?_
          | with_reducible refine AWP.ret ?_
          | with_reducible refine AWP.label ?_
          | with_reducible refine AWP.goto ?_
          | ((with_reducible refine AWP.condT ?_ ?_); focus (simp only [ev, lk_cons, ↓reduceIte, Nat.reduceEqDiff]; done))
          | ((with_reducible refine AWP.condF ?_ ?_); focus (simp only [ev, lk_cons, ↓reduceIte, Nat.reduceEqDiff]; done))
          | with_reducible refine hcn.use ?_
          | with_reducible refine hrn.use ?_
          | simp only [go_sem, ↓reduceIte, Nat.reduceEqDiff, reduceCtorEq, Nat.reduceAdd, Int.reduceEq, Int.reduceBNe, Int.reduceBEq, Int.reduceToNat, Int.reduceLT, Int.reduceLE, Int.reduceGT, Int.reduceGE, Nat.reduceSub, Nat.reduceBEq, Nat.reduceBNe, Int.reduceAdd, Int.reduceSub, Int.reduceMul, Int.reduceNeg, Nat.reduceMul, Nat.reduceLeDiff, Nat.reduceLT, hbl, hbx, hz, c1, c2]
          | simp (disch := omega) only [wi64, wu8, wu16, wu32, wu64, Int.tdiv_eq_ediv_of_nonneg, Int.tmod_eq_emod_of_nonneg]
          | with_reducible_and_instances exact finR
          | ((with_reducible refine finR' ?_ ?_) <;> rfl)
          | ((with_reducible refine finD hsc (NRel.of_plain ?_)); exact rfl)
        exact ⟨(n + 1, now, gl2, j2, H2), Weak.env (by simp [envIn, lk_cons, wth_some]), hend now now0 now1, by show l.length - (n + 1) < _; omega⟩
    · skip
      repeat first
        | with_reducible refine AWP.seq ?_
        | ((with_reducible refine AWP.region ?_ ?_); exact rfl)
        | with_reducible refine AWP.block ?_
        | with_reducible refine AWP.skip ?_
        | with_reducible refine AWP.exit ?_
        | with_reducible refine AWP.ret ?_
        | with_reducible refine AWP.label ?_
        | with_reducible refine AWP.goto ?_
        | ((with_reducible refine AWP.condT ?_ ?_); focus (simp only [ev, lk_cons, ↓reduceIte, Nat.reduceEqDiff]; done))
        | ((with_reducible refine AWP.condF ?_ ?_); focus (simp only [ev, lk_cons, ↓reduceIte, Nat.reduceEqDiff]; done))
        | with_reducible refine hcn.use ?_
        | with_reducible refine hrn.use ?_
        | simp only [go_sem, ↓reduceIte, Nat.reduceEqDiff, reduceCtorEq, Nat.reduceAdd, Int.reduceEq, Int.reduceBNe, Int.reduceBEq, Int.reduceToNat, Int.reduceLT, Int.reduceLE, Int.reduceGT, Int.reduceGE, Nat.reduceSub, Nat.reduceBEq, Nat.reduceBNe, Int.reduceAdd, Int.reduceSub, Int.reduceMul, Int.reduceNeg, Nat.reduceMul, Nat.reduceLeDiff, Nat.reduceLT, hbl, hbx, hz, c1]
        | simp (disch := omega) only [wi64, wu8, wu16, wu32, wu64, Int.tdiv_eq_ediv_of_nonneg, Int.tmod_eq_emod_of_nonneg]
        | with_reducible_and_instances exact finR
        | ((with_reducible refine finR' ?_ ?_) <;> rfl)
        | ((with_reducible refine finD hsc (NRel.of_plain ?_)); exact rfl)
      exact ⟨(n + 1, now, gl2, j2, H2), Weak.env (by simp [envIn, lk_cons, wth_some]), hend now now0 now1, by show l.length - (n + 1) < _; omega⟩
  · have hc' : ¬ (n : Int) < (l.length : Int) := by omega
    unfold envP
    repeat first
      | with_reducible refine AWP.seq ?_
      | ((with_reducible refine AWP.region ?_ ?_); exact rfl)
      | with_reducible refine AWP.block ?_
      | with_reducible refine AWP.skip ?_
      | with_reducible refine AWP.exit ?_
      | with_reducible refine AWP.ret ?_
      | with_reducible refine AWP.label ?_
      | with_reducible refine AWP.goto ?_
      | ((with_reducible refine AWP.condT ?_ ?_); focus (simp only [ev, lk_cons, ↓reduceIte, Nat.reduceEqDiff]; done))
      | ((with_reducible refine AWP.condF ?_ ?_); focus (simp only [ev, lk_cons, ↓reduceIte, Nat.reduceEqDiff]; done))
      | simp only [go_sem, ↓reduceIte, Nat.reduceEqDiff, reduceCtorEq, Nat.reduceAdd, Int.reduceEq, Int.reduceBNe, Int.reduceBEq, Int.reduceToNat, Int.reduceLT, Int.reduceLE, Int.reduceGT, Int.reduceGE, Nat.reduceSub, Nat.reduceBEq, Nat.reduceBNe, Int.reduceAdd, Int.reduceSub, Int.reduceMul, Int.reduceNeg, Nat.reduceMul, Nat.reduceLeDiff, Nat.reduceLT, hc']
      | simp (disch := omega) only [wi64, wu8, wu16, wu32, wu64, Int.tdiv_eq_ediv_of_nonneg, Int.tmod_eq_emod_of_nonneg]
      | with_reducible_and_instances exact finR
      | ((with_reducible refine finR' ?_ ?_) <;> rfl)
      | ((with_reducible refine finD hsc (NRel.of_plain ?_)); exact rfl)
    exact ⟨_, _, .refl _ _ _, rfl, hP.tab⟩
end Go.Proofs.YtmpkgdilmkeacaaDoor
