/-
  The walk of sorted nodes: sorting by insertion, and the rotation.
-/
import Derived.Test.YtdbdnknnaekbhaaOD
set_option linter.unusedVariables false
set_option linter.unusedSimpArgs false
set_option maxRecDepth 20000
set_option maxHeartbeats 4000000
namespace Go.Proofs.Ytdbdnknnaekbhaa
open Go Go.Aw Go.Proofs
theorem ordA_lex (a b : Ad) : ordA a b = lexC (fun x y : Ad => cmpI x.fam y.fam) (lexC (fun x y => cmpS x.ip y.ip) (fun x y => cmpI x.port y.port)) a b := by
  unfold ordA lexC
  simp only [orL]
  (repeat' split) <;> omega
theorem cmpN_ok (t : List UInt8) : Cmps (cmpN t) := by
  have e : cmpN t = lexC (fun x y : Nd => cmpS (dist t x.id) (dist t y.id)) (fun x y => lexC (fun x y : Ad => cmpI x.fam y.fam) (lexC (fun x y => cmpS x.ip y.ip) (fun x y => cmpI x.port y.port)) x.a y.a) := by
    funext x y
    unfold cmpN
    rw [orL2, ordA_lex]
    rfl
  rw [e]
  exact (cmpS_ok.pull fun x : Nd => dist t x.id).lex (((cmpI_ok.pull fun x : Ad => x.fam).lex ((cmpS_ok.pull fun x : Ad => x.ip).lex (cmpI_ok.pull fun x : Ad => x.port))).pull fun x : Nd => x.a)
def leN (t : List UInt8) (x y : Nd) : Prop := ¬ cmpN t y x < 0
theorem leN_tr (t : List UInt8) {x y z : Nd} (h1 : leN t x y) (h2 : leN t y z) : leN t x z := by
  unfold leN at *
  have e1 := (cmpN_ok t).neg x y
  have e2 := (cmpN_ok t).neg y z
  have e3 := (cmpN_ok t).neg x z
  have := (cmpN_ok t).tr x y z (by omega) (by omega)
  omega
/-- The comparing function: its target lies at p. -/
def cmpF (p : Nat) : Value := .func (.func 42) ⟨[]⟩ ⟨[.pointer (some ⟨p, 0, none⟩)]⟩
theorem insertion (b p : Nat) (kp : CK) (t : List UInt8) (ht : t.length = 20) (l : List Nd) (hok : ∀ x ∈ l, x.ok = true) (a n : Nat) (han : a ≤ n) (hn : n ≤ l.length) (hl : l.length < 1099511627776) (hne : p ≠ b) (H : AHeap) (hb : H[b]? = some (lsO l)) (hp : H[p]? = some (.cells [.string (bs t)] kp)) :
    AC Try.prog 73 [.slice (some ⟨b, 0, none⟩) l.length l.length, .int .i64 a, .int .i64 n, cmpF p] H (fun r H1 => r = .ret noVal ∧ ∃ l', Srtd (leN t) l l' a n ∧ H1 = H.set b (lsO l')) := by
  have hbl := lt_of_get hb
  have hwa : IntKind.i64.wrap ((a : Int) + 1) = ((a + 1 : Nat) : Int) := by rw [wi64 (by omega)]; omega
  unfold cmpF
  by_cases hlt : a < n
  case neg =>
    have hc' : ¬ ((a + 1 : Nat) : Int) < (n : Int) := by omega
    refine AC.enter Try.func73 rfl (by kernel_rfl) 53 rfl [] rfl (by simp) fun hsc B => ?_
    repeat first
      | with_reducible refine AWP.seq ?_
      | ((with_reducible refine AWP.region ?_ ?_); exact rfl)
      | with_reducible refine AWP.block ?_
      | with_reducible refine AWP.skip ?_
      | with_reducible refine AWP.exit ?_
      | with_reducible refine AWP.ret ?_
      | with_reducible refine AWP.label ?_
      | with_reducible refine AWP.goto ?_
      | ((with_reducible refine AWP.condT ?_ ?_); focus (simp only [ev, lk_cons, ↓reduceIte, Nat.reduceEqDiff]; done))
      | ((with_reducible refine AWP.condF ?_ ?_); focus (simp only [ev, lk_cons, ↓reduceIte, Nat.reduceEqDiff]; done))
      | simp only [go_sem, ↓reduceIte, Nat.reduceEqDiff, reduceCtorEq, Nat.reduceAdd, Int.reduceEq, Int.reduceBNe, Int.reduceBEq, Int.reduceToNat, Int.reduceLT, Int.reduceLE, Int.reduceGT, Int.reduceGE, Nat.reduceSub, Nat.reduceBEq, Nat.reduceBNe, Int.reduceAdd, Int.reduceSub, Int.reduceMul, Int.reduceNeg, Nat.reduceMul, Nat.reduceLeDiff, Nat.reduceLT, hwa]
      | simp (disch := omega) only [wi64, wu8, wu16, wu32, wu64, Int.tdiv_eq_ediv_of_nonneg, Int.tmod_eq_emod_of_nonneg]
      | with_reducible_and_instances exact finR
      | ((with_reducible refine finR' ?_ ?_) <;> rfl)
      | ((with_reducible refine finD hsc (NRel.of_plain ?_)); exact rfl)
    refine AWP.loopP (fun s : Nat × List Nd => ⟨[(0, .slice (some ⟨b, 0, none⟩) l.length l.length), (1, .int .i64 a), (2, .int .i64 n), (3, .func (.func 42) ⟨[]⟩ ⟨[.pointer (some ⟨p, 0, none⟩)]⟩), (8, .int .i64 (s.1 : Nat))], [], H.set b (lsO s.2)⟩)
      (fun s => s.1 = a + 1 ∧ s.2 = l) (fun s => n - s.1) (a + 1, l) ?_ ⟨rfl, rfl⟩ ?_
    · simp only [set_same hb]
      exact Weak.env (by simp [envIn, lk_cons, wth_some])
    rintro ⟨i, m⟩ ⟨rfl, rfl⟩
    repeat first
      | with_reducible refine AWP.seq ?_
      | ((with_reducible refine AWP.region ?_ ?_); exact rfl)
      | with_reducible refine AWP.block ?_
      | with_reducible refine AWP.skip ?_
      | with_reducible refine AWP.exit ?_
      | with_reducible refine AWP.ret ?_
      | with_reducible refine AWP.label ?_
      | with_reducible refine AWP.goto ?_
      | ((with_reducible refine AWP.condT ?_ ?_); focus (simp only [ev, lk_cons, ↓reduceIte, Nat.reduceEqDiff]; done))
      | ((with_reducible refine AWP.condF ?_ ?_); focus (simp only [ev, lk_cons, ↓reduceIte, Nat.reduceEqDiff]; done))
      | simp only [go_sem, ↓reduceIte, Nat.reduceEqDiff, reduceCtorEq, Nat.reduceAdd, Int.reduceEq, Int.reduceBNe, Int.reduceBEq, Int.reduceToNat, Int.reduceLT, Int.reduceLE, Int.reduceGT, Int.reduceGE, Nat.reduceSub, Nat.reduceBEq, Nat.reduceBNe, Int.reduceAdd, Int.reduceSub, Int.reduceMul, Int.reduceNeg, Nat.reduceMul, Nat.reduceLeDiff, Nat.reduceLT, hc']
      | simp (disch := omega) only [wi64, wu8, wu16, wu32, wu64, Int.tdiv_eq_ediv_of_nonneg, Int.tmod_eq_emod_of_nonneg]
      | with_reducible_and_instances exact finR
      | ((with_reducible refine finR' ?_ ?_) <;> rfl)
      | ((with_reducible refine finD hsc (NRel.of_plain ?_)); exact rfl)
    exact ⟨_, _, .refl _ _ _, rfl, _, Srtd.refl (Srt.small (by omega)), rfl⟩
  refine AC.enter Try.func73 rfl (by kernel_rfl) 53 rfl [] rfl (by simp) fun hsc B => ?_
  repeat first
    | with_reducible refine AWP.seq ?_
    | ((with_reducible refine AWP.region ?_ ?_); exact rfl)
    | with_reducible refine AWP.block ?_
    | with_reducible refine AWP.skip ?_
    | with_reducible refine AWP.exit ?_
    | with_reducible refine AWP.ret ?_
    | with_reducible refine AWP.label ?_
    | with_reducible refine AWP.goto ?_
    | ((with_reducible refine AWP.condT ?_ ?_); focus (simp only [ev, lk_cons, ↓reduceIte, Nat.reduceEqDiff]; done))
    | ((with_reducible refine AWP.condF ?_ ?_); focus (simp only [ev, lk_cons, ↓reduceIte, Nat.reduceEqDiff]; done))
    | simp only [go_sem, ↓reduceIte, Nat.reduceEqDiff, reduceCtorEq, Nat.reduceAdd, Int.reduceEq, Int.reduceBNe, Int.reduceBEq, Int.reduceToNat, Int.reduceLT, Int.reduceLE, Int.reduceGT, Int.reduceGE, Nat.reduceSub, Nat.reduceBEq, Nat.reduceBNe, Int.reduceAdd, Int.reduceSub, Int.reduceMul, Int.reduceNeg, Nat.reduceMul, Nat.reduceLeDiff, Nat.reduceLT, hwa]
    | simp (disch := omega) only [wi64, wu8, wu16, wu32, wu64, Int.tdiv_eq_ediv_of_nonneg, Int.tmod_eq_emod_of_nonneg]
    | with_reducible_and_instances exact finR
    | ((with_reducible refine finR' ?_ ?_) <;> rfl)
    | ((with_reducible refine finD hsc (NRel.of_plain ?_)); exact rfl)
  refine AWP.loopP (fun s : Nat × List Nd => ⟨[(0, .slice (some ⟨b, 0, none⟩) l.length l.length), (1, .int .i64 a), (2, .int .i64 n), (3, .func (.func 42) ⟨[]⟩ ⟨[.pointer (some ⟨p, 0, none⟩)]⟩), (8, .int .i64 (s.1 : Nat))], [], H.set b (lsO s.2)⟩)
    (fun s => a + 1 ≤ s.1 ∧ s.1 ≤ n ∧ Srtd (leN t) l s.2 a s.1) (fun s => n - s.1) (a + 1, l) ?_ ⟨Nat.le_refl _, hlt, Srtd.refl (Srt.small (Nat.le_refl _))⟩ ?_
  · simp only [set_same hb]
    exact Weak.env (by simp [envIn, lk_cons, wth_some])
  rintro ⟨i, m⟩ ⟨h1, h2, hs⟩
  simp only at h1 h2 hs ⊢
  by_cases hc : i < n
  case neg =>
    have hc' : ¬ (i : Int) < (n : Int) := by omega
    obtain rfl : i = n := by omega
    repeat first
      | with_reducible refine AWP.seq ?_
      | ((with_reducible refine AWP.region ?_ ?_); exact rfl)
      | with_reducible refine AWP.block ?_
      | with_reducible refine AWP.skip ?_
      | with_reducible refine AWP.exit ?_
      | with_reducible refine AWP.ret ?_
      | with_reducible refine AWP.label ?_
      | with_reducible refine AWP.goto ?_
      | ((with_reducible refine AWP.condT ?_ ?_); focus (simp only [ev, lk_cons, ↓reduceIte, Nat.reduceEqDiff]; done))
      | ((with_reducible refine AWP.condF ?_ ?_); focus (simp only [ev, lk_cons, ↓reduceIte, Nat.reduceEqDiff]; done))
      | simp only [go_sem, ↓reduceIte, Nat.reduceEqDiff, reduceCtorEq, Nat.reduceAdd, Int.reduceEq, Int.reduceBNe, Int.reduceBEq, Int.reduceToNat, Int.reduceLT, Int.reduceLE, Int.reduceGT, Int.reduceGE, Nat.reduceSub, Nat.reduceBEq, Nat.reduceBNe, Int.reduceAdd, Int.reduceSub, Int.reduceMul, Int.reduceNeg, Nat.reduceMul, Nat.reduceLeDiff, Nat.reduceLT, hc']
      | simp (disch := omega) only [wi64, wu8, wu16, wu32, wu64, Int.tdiv_eq_ediv_of_nonneg, Int.tmod_eq_emod_of_nonneg]
      | with_reducible_and_instances exact finR
      | ((with_reducible refine finR' ?_ ?_) <;> rfl)
      | ((with_reducible refine finD hsc (NRel.of_plain ?_)); exact rfl)
    exact ⟨_, _, .refl _ _ _, rfl, _, hs, rfl⟩
  have hc' : (i : Int) < (n : Int) := by omega
  have hml := hs.len
  have him : i < m.length := by omega
  have hwi : IntKind.i64.wrap ((i : Int) + 1) = ((i + 1 : Nat) : Int) := by rw [wi64 (by omega)]; omega
  repeat first
    | with_reducible refine AWP.seq ?_
    | ((with_reducible refine AWP.region ?_ ?_); exact rfl)
    | with_reducible refine AWP.block ?_
    | with_reducible refine AWP.skip ?_
    | with_reducible refine AWP.exit ?_
    | with_reducible refine AWP.ret ?_
    | with_reducible refine AWP.label ?_
    | with_reducible refine AWP.goto ?_
    | ((with_reducible refine AWP.condT ?_ ?_); focus (simp only [ev, lk_cons, ↓reduceIte, Nat.reduceEqDiff]; done))
    | ((with_reducible refine AWP.condF ?_ ?_); focus (simp only [ev, lk_cons, ↓reduceIte, Nat.reduceEqDiff]; done))
    | simp only [go_sem, ↓reduceIte, Nat.reduceEqDiff, reduceCtorEq, Nat.reduceAdd, Int.reduceEq, Int.reduceBNe, Int.reduceBEq, Int.reduceToNat, Int.reduceLT, Int.reduceLE, Int.reduceGT, Int.reduceGE, Nat.reduceSub, Nat.reduceBEq, Nat.reduceBNe, Int.reduceAdd, Int.reduceSub, Int.reduceMul, Int.reduceNeg, Nat.reduceMul, Nat.reduceLeDiff, Nat.reduceLT, hc']
    | simp (disch := omega) only [wi64, wu8, wu16, wu32, wu64, Int.tdiv_eq_ediv_of_nonneg, Int.tmod_eq_emod_of_nonneg]
    | with_reducible_and_instances exact finR
    | ((with_reducible refine finR' ?_ ?_) <;> rfl)
    | ((with_reducible refine finD hsc (NRel.of_plain ?_)); exact rfl)
  refine AWP.loopP (fun s : Nat × List Nd => ⟨[(0, .slice (some ⟨b, 0, none⟩) l.length l.length), (1, .int .i64 a), (2, .int .i64 n), (3, .func (.func 42) ⟨[]⟩ ⟨[.pointer (some ⟨p, 0, none⟩)]⟩), (8, .int .i64 (i : Nat)), (9, .int .i64 (s.1 : Nat))], [], H.set b (lsO s.2)⟩)
    (fun s => a ≤ s.1 ∧ s.1 ≤ i ∧ Pm m s.2 (rot s.1 i (i + 1)) ∧ (s.1 = i ∨ ∀ x y, m[i]? = some x → m[s.1]? = some y → leN t x y)) (fun s => s.1) (i, m) ?_ ⟨by omega, Nat.le_refl _, (Pm.refl m).of fun q _ => (rot_none i q).symm, .inl rfl⟩ ?_
  · exact Weak.env (by simp [envIn, lk_cons, wth_some])
  rintro ⟨j, k⟩ ⟨g1, g2, hp2, hhi⟩
  simp only at g1 g2 hp2 hhi ⊢
  have hkl := hp2.len
  have hins : (j = a ∨ ∀ x y, m[j - 1]? = some x → m[i]? = some y → leN t x y) → Srtd (leN t) l k a (i + 1) := fun hlo => by
    refine hs.comp (ins_down (le := leN t) (fun x y z h1 h2 => leN_tr t h1 h2) him hs.srt g1 g2 hlo hhi hp2) (by omega) (by omega)
  by_cases hj : a < j
  case neg =>
    have hj' : ¬ (j : Int) > (a : Int) := by omega
    obtain rfl : j = a := by omega
    repeat first
      | with_reducible refine AWP.seq ?_
      | ((with_reducible refine AWP.region ?_ ?_); exact rfl)
      | with_reducible refine AWP.block ?_
      | with_reducible refine AWP.skip ?_
      | with_reducible refine AWP.exit ?_
      | with_reducible refine AWP.ret ?_
      | with_reducible refine AWP.label ?_
      | with_reducible refine AWP.goto ?_
      | ((with_reducible refine AWP.condT ?_ ?_); focus (simp only [ev, lk_cons, ↓reduceIte, Nat.reduceEqDiff]; done))
      | ((with_reducible refine AWP.condF ?_ ?_); focus (simp only [ev, lk_cons, ↓reduceIte, Nat.reduceEqDiff]; done))
      | simp only [go_sem, ↓reduceIte, Nat.reduceEqDiff, reduceCtorEq, Nat.reduceAdd, Int.reduceEq, Int.reduceBNe, Int.reduceBEq, Int.reduceToNat, Int.reduceLT, Int.reduceLE, Int.reduceGT, Int.reduceGE, Nat.reduceSub, Nat.reduceBEq, Nat.reduceBNe, Int.reduceAdd, Int.reduceSub, Int.reduceMul, Int.reduceNeg, Nat.reduceMul, Nat.reduceLeDiff, Nat.reduceLT]
      | simp (disch := omega) only [wi64, wu8, wu16, wu32, wu64, Int.tdiv_eq_ediv_of_nonneg, Int.tmod_eq_emod_of_nonneg]
      | with_reducible_and_instances exact finR
      | ((with_reducible refine finR' ?_ ?_) <;> rfl)
      | ((with_reducible refine finD hsc (NRel.of_plain ?_)); exact rfl)
    refine AWP.regionK 14 (by kernel_rfl) (by decide) (by kernel_rfl) ?_
    repeat first
      | with_reducible refine AWP.seq ?_
      | ((with_reducible refine AWP.region ?_ ?_); exact rfl)
      | with_reducible refine AWP.block ?_
      | with_reducible refine AWP.skip ?_
      | with_reducible refine AWP.exit ?_
      | with_reducible refine AWP.ret ?_
      | with_reducible refine AWP.label ?_
      | with_reducible refine AWP.goto ?_
      | ((with_reducible refine AWP.condT ?_ ?_); focus (simp only [ev, lk_cons, ↓reduceIte, Nat.reduceEqDiff]; done))
      | ((with_reducible refine AWP.condF ?_ ?_); focus (simp only [ev, lk_cons, ↓reduceIte, Nat.reduceEqDiff]; done))
      | simp only [go_sem, ↓reduceIte, Nat.reduceEqDiff, reduceCtorEq, Nat.reduceAdd, Int.reduceEq, Int.reduceBNe, Int.reduceBEq, Int.reduceToNat, Int.reduceLT, Int.reduceLE, Int.reduceGT, Int.reduceGE, Nat.reduceSub, Nat.reduceBEq, Nat.reduceBNe, Int.reduceAdd, Int.reduceSub, Int.reduceMul, Int.reduceNeg, Nat.reduceMul, Nat.reduceLeDiff, Nat.reduceLT, hj', exists_eq_left]
      | simp (disch := omega) only [wi64, wu8, wu16, wu32, wu64, Int.tdiv_eq_ediv_of_nonneg, Int.tmod_eq_emod_of_nonneg]
      | with_reducible_and_instances exact finR
      | ((with_reducible refine finR' ?_ ?_) <;> rfl)
      | ((with_reducible refine finD hsc (NRel.of_plain ?_)); exact rfl)
    exact ⟨(i + 1, k), Weak.env (by simp [envIn, lk_cons, wth_some]), by omega, by omega, hins (.inl rfl), by omega⟩
  have hj' : (j : Int) > (a : Int) := by omega
  have hjk : j < k.length := by omega
  have hjk1 : j - 1 < k.length := by omega
  have hw1 : IntKind.i64.wrap ((j : Int) - 1) = ((j - 1 : Nat) : Int) := by rw [wi64 (by omega)]; omega
  have ej : k[j]? = m[i]? := by
    rw [hp2.2 j (by omega)]; congr 1; unfold rot; (repeat' split) <;> omega
  have ej1 : k[j - 1]? = m[j - 1]? := by
    rw [hp2.2 (j - 1) (by omega)]; congr 1; unfold rot; (repeat' split) <;> omega
  rw [List.getElem?_eq_getElem hjk] at ej
  rw [List.getElem?_eq_getElem hjk1] at ej1
  have emi : m[i]? = some k[j] := by
    have h := hp2.2 j (by omega)
    rw [List.getElem?_eq_getElem hjk] at h
    rw [h]; congr 1; unfold rot; (repeat' split) <;> omega
  have hmem : ∀ x ∈ k, x.ok = true := fun x hx => hok x (hs.sub x (hp2.mem x hx))
  have hC := sorted1 t k[j] k[j - 1] p kp ht (hmem _ (List.getElem_mem _)) (hmem _ (List.getElem_mem _)) (H.set b (lsO k)) (by rw [List.getElem?_set_ne (Ne.symm hne)]; exact hp)
  have hg : (H.set b (lsO k))[b]? = some (.cells (ndsC k) ⟨46, 4, true, 0, none⟩) := List.getElem?_set_self hbl
  have hcl := ndsC_len k
  have ax := ndsC_at k j hjk
  have ay := ndsC_at k (j - 1) hjk1
  have hbx : j * 4 + 4 ≤ (ndsC k).length := by omega
  have hby : (j - 1) * 4 + 4 ≤ (ndsC k).length := by omega
  have hx0 : (0 : Int) ≤ (j : Int) := Int.natCast_nonneg _
  have hy0 : (0 : Int) ≤ ((j - 1 : Nat) : Int) := Int.natCast_nonneg _
  have hx2 : (j : Int) < (l.length : Int) := by omega
  have hy2 : ((j - 1 : Nat) : Int) < (l.length : Int) := by omega
  unfold Nd.v at hC
  by_cases hcm : cmpN t k[j] k[j - 1] < 0
  case neg =>
    have hfin := hins (.inr fun x y e1 e2 => by
      rw [← ej1] at e1
      rw [emi] at e2
      cases e1; cases e2
      exact hcm)
    generalize cmpN t k[j] k[j - 1] = cv at *
    repeat first
      | with_reducible refine AWP.seq ?_
      | ((with_reducible refine AWP.region ?_ ?_); exact rfl)
      | with_reducible refine AWP.block ?_
      | with_reducible refine AWP.skip ?_
      | with_reducible refine AWP.exit ?_
      | with_reducible refine AWP.ret ?_
      | with_reducible refine AWP.label ?_
      | with_reducible refine AWP.goto ?_
      | ((with_reducible refine AWP.condT ?_ ?_); focus (simp only [ev, lk_cons, ↓reduceIte, Nat.reduceEqDiff]; done))
      | ((with_reducible refine AWP.condF ?_ ?_); focus (simp only [ev, lk_cons, ↓reduceIte, Nat.reduceEqDiff]; done))
      | simp only [go_sem, ↓reduceIte, Nat.reduceEqDiff, reduceCtorEq, Nat.reduceAdd, Int.reduceEq, Int.reduceBNe, Int.reduceBEq, Int.reduceToNat, Int.reduceLT, Int.reduceLE, Int.reduceGT, Int.reduceGE, Nat.reduceSub, Nat.reduceBEq, Nat.reduceBNe, Int.reduceAdd, Int.reduceSub, Int.reduceMul, Int.reduceNeg, Nat.reduceMul, Nat.reduceLeDiff, Nat.reduceLT]
      | simp (disch := omega) only [wi64, wu8, wu16, wu32, wu64, Int.tdiv_eq_ediv_of_nonneg, Int.tmod_eq_emod_of_nonneg]
      | with_reducible_and_instances exact finR
      | ((with_reducible refine finR' ?_ ?_) <;> rfl)
      | ((with_reducible refine finD hsc (NRel.of_plain ?_)); exact rfl)
    refine AWP.regionK 14 (by kernel_rfl) (by decide) (by kernel_rfl) ?_
    repeat first
      | with_reducible refine AWP.seq ?_
      | ((with_reducible refine AWP.region ?_ ?_); exact rfl)
      | with_reducible refine AWP.block ?_
      | with_reducible refine AWP.skip ?_
      | with_reducible refine AWP.exit ?_
      | with_reducible refine AWP.ret ?_
      | with_reducible refine AWP.label ?_
      | with_reducible refine AWP.goto ?_
      | ((with_reducible refine AWP.condT ?_ ?_); focus (simp only [ev, lk_cons, ↓reduceIte, Nat.reduceEqDiff]; done))
      | ((with_reducible refine AWP.condF ?_ ?_); focus (simp only [ev, lk_cons, ↓reduceIte, Nat.reduceEqDiff]; done))
      | with_reducible refine hC.use ?_
      | simp only [go_sem, ↓reduceIte, Nat.reduceEqDiff, reduceCtorEq, Nat.reduceAdd, Int.reduceEq, Int.reduceBNe, Int.reduceBEq, Int.reduceToNat, Int.reduceLT, Int.reduceLE, Int.reduceGT, Int.reduceGE, Nat.reduceSub, Nat.reduceBEq, Nat.reduceBNe, Int.reduceAdd, Int.reduceSub, Int.reduceMul, Int.reduceNeg, Nat.reduceMul, Nat.reduceLeDiff, Nat.reduceLT, hj', hw1, hg, ax, ay, hbx, hby, hx0, hy0, hx2, hy2, Int.toNat_natCast, hcm, hwi]
      | simp (disch := omega) only [wi64, wu8, wu16, wu32, wu64, Int.tdiv_eq_ediv_of_nonneg, Int.tmod_eq_emod_of_nonneg]
      | with_reducible_and_instances exact finR
      | ((with_reducible refine finR' ?_ ?_) <;> rfl)
      | ((with_reducible refine finD hsc (NRel.of_plain ?_)); exact rfl)
    exact ⟨(i + 1, k), Weak.env (by simp [envIn, lk_cons, wth_some]), by omega, by omega, hfin, by omega⟩
  have hle : ∀ x y, m[i]? = some x → m[j - 1]? = some y → leN t x y := fun x y e1 e2 => by
    rw [← ej1] at e2
    rw [emi] at e1
    cases e1; cases e2
    have := (cmpN_ok t).neg k[j] k[j - 1]
    unfold leN
    omega
  have hps := hp2.trans (Pm.swap k (i := j) (j := j - 1) (List.getElem?_eq_getElem hjk) (List.getElem?_eq_getElem hjk1)) (fun q hq => by unfold swp; (repeat' split) <;> omega)
  have px := put_nd k j k[j - 1] hjk
  have py := put_nd (k.set j k[j - 1]) (j - 1) k[j] (by rw [List.length_set]; exact hjk1)
  have hcx := ndsC_len (k.set j k[j - 1])
  rw [List.length_set] at hcx
  have hby2 : (j - 1) * 4 + 4 ≤ (ndsC (k.set j k[j - 1])).length := by omega
  generalize cmpN t k[j] k[j - 1] = cv at *
  repeat first
    | with_reducible refine AWP.seq ?_
    | ((with_reducible refine AWP.region ?_ ?_); exact rfl)
    | with_reducible refine AWP.block ?_
    | with_reducible refine AWP.skip ?_
    | with_reducible refine AWP.exit ?_
    | with_reducible refine AWP.ret ?_
    | with_reducible refine AWP.label ?_
    | with_reducible refine AWP.goto ?_
    | ((with_reducible refine AWP.condT ?_ ?_); focus (simp only [ev, lk_cons, ↓reduceIte, Nat.reduceEqDiff]; done))
    | ((with_reducible refine AWP.condF ?_ ?_); focus (simp only [ev, lk_cons, ↓reduceIte, Nat.reduceEqDiff]; done))
    | simp only [go_sem, ↓reduceIte, Nat.reduceEqDiff, reduceCtorEq, Nat.reduceAdd, Int.reduceEq, Int.reduceBNe, Int.reduceBEq, Int.reduceToNat, Int.reduceLT, Int.reduceLE, Int.reduceGT, Int.reduceGE, Nat.reduceSub, Nat.reduceBEq, Nat.reduceBNe, Int.reduceAdd, Int.reduceSub, Int.reduceMul, Int.reduceNeg, Nat.reduceMul, Nat.reduceLeDiff, Nat.reduceLT]
    | simp (disch := omega) only [wi64, wu8, wu16, wu32, wu64, Int.tdiv_eq_ediv_of_nonneg, Int.tmod_eq_emod_of_nonneg]
    | with_reducible_and_instances exact finR
    | ((with_reducible refine finR' ?_ ?_) <;> rfl)
    | ((with_reducible refine finD hsc (NRel.of_plain ?_)); exact rfl)
  refine AWP.regionK 14 (by kernel_rfl) (by decide) (by kernel_rfl) ?_
  repeat first
    | with_reducible refine AWP.seq ?_
    | ((with_reducible refine AWP.region ?_ ?_); exact rfl)
    | with_reducible refine AWP.block ?_
    | with_reducible refine AWP.skip ?_
    | with_reducible refine AWP.exit ?_
    | with_reducible refine AWP.ret ?_
    | with_reducible refine AWP.label ?_
    | with_reducible refine AWP.goto ?_
    | ((with_reducible refine AWP.condT ?_ ?_); focus (simp only [ev, lk_cons, ↓reduceIte, Nat.reduceEqDiff]; done))
    | ((with_reducible refine AWP.condF ?_ ?_); focus (simp only [ev, lk_cons, ↓reduceIte, Nat.reduceEqDiff]; done))
    | with_reducible refine hC.use ?_
    | simp only [go_sem, ↓reduceIte, Nat.reduceEqDiff, reduceCtorEq, Nat.reduceAdd, Int.reduceEq, Int.reduceBNe, Int.reduceBEq, Int.reduceToNat, Int.reduceLT, Int.reduceLE, Int.reduceGT, Int.reduceGE, Nat.reduceSub, Nat.reduceBEq, Nat.reduceBNe, Int.reduceAdd, Int.reduceSub, Int.reduceMul, Int.reduceNeg, Nat.reduceMul, Nat.reduceLeDiff, Nat.reduceLT, hj', hw1, hg, ax, ay, hbx, hby, hx0, hy0, hx2, hy2, Int.toNat_natCast, hcm, hwi]
    | simp (disch := omega) only [wi64, wu8, wu16, wu32, wu64, Int.tdiv_eq_ediv_of_nonneg, Int.tmod_eq_emod_of_nonneg]
    | with_reducible_and_instances exact finR
    | ((with_reducible refine finR' ?_ ?_) <;> rfl)
    | ((with_reducible refine finD hsc (NRel.of_plain ?_)); exact rfl)
  refine AWP.regionM 16 [9, 13, 15] [] (.both (.run [9, 13, 15]) (.run [13, 9, 15])) (by kernel_rfl) (by decide) (by kernel_rfl) (by kernel_rfl) (by kernel_rfl) ?_
  repeat' first
    | with_reducible refine canW_n ?_
    | with_reducible refine canW_m (by decide) ?_
    | ((with_reducible apply canW_p (by decide)); focus (intro H; (simp only [go_sem, ↓reduceIte, Nat.reduceEqDiff, reduceCtorEq, Nat.reduceAdd, Int.reduceEq, Int.reduceBNe, Int.reduceBEq, Int.reduceToNat, Int.reduceLT, Int.reduceLE, Int.reduceGT, Int.reduceGE, Nat.reduceSub, Nat.reduceBEq, Nat.reduceBNe, Int.reduceAdd, Int.reduceSub, Int.reduceMul, Int.reduceNeg, Nat.reduceMul, Nat.reduceLeDiff, Nat.reduceLT, hw1, hg, ax, ay, hbx, hby, hx0, hy0, hx2, hy2, Int.toNat_natCast, nd_len, nd_flat, px, py, hby2, hsets, hbl, List.set_set, List.length_set, List.map_cons, List.map_nil]); exact rfl))
    | with_reducible refine memW_b ?_ ?_
    | with_reducible refine memW_s rfl ?_
    | with_reducible refine memW_r rfl ?_
    | with_reducible refine memW_e ?_
    | simp only [List.take_succ_cons, List.take_zero, List.drop_succ_cons, List.drop_zero]
    | omega
    | with_reducible refine And.intro ?_ ?_
    | with_reducible refine AWP.seq ?_
    | ((with_reducible refine AWP.region ?_ ?_); exact rfl)
    | with_reducible refine AWP.block ?_
    | with_reducible refine AWP.skip ?_
    | with_reducible refine AWP.exit ?_
    | with_reducible refine AWP.ret ?_
    | with_reducible refine AWP.label ?_
    | with_reducible refine AWP.goto ?_
    | ((with_reducible refine AWP.condT ?_ ?_); focus (simp only [ev, lk_cons, ↓reduceIte, Nat.reduceEqDiff]; done))
    | ((with_reducible refine AWP.condF ?_ ?_); focus (simp only [ev, lk_cons, ↓reduceIte, Nat.reduceEqDiff]; done))
    | simp only [go_sem, ↓reduceIte, Nat.reduceEqDiff, reduceCtorEq, Nat.reduceAdd, Int.reduceEq, Int.reduceBNe, Int.reduceBEq, Int.reduceToNat, Int.reduceLT, Int.reduceLE, Int.reduceGT, Int.reduceGE, Nat.reduceSub, Nat.reduceBEq, Nat.reduceBNe, Int.reduceAdd, Int.reduceSub, Int.reduceMul, Int.reduceNeg, Nat.reduceMul, Nat.reduceLeDiff, Nat.reduceLT, hw1, hg, ax, ay, hbx, hby, hx0, hy0, hx2, hy2, Int.toNat_natCast, nd_len, nd_flat, px, py, hby2, hsets, hbl, List.set_set, List.length_set, List.map_cons, List.map_nil]
    | simp (disch := omega) only [wi64, wu8, wu16, wu32, wu64, Int.tdiv_eq_ediv_of_nonneg, Int.tmod_eq_emod_of_nonneg]
    | with_reducible_and_instances exact finR
    | ((with_reducible refine finR' ?_ ?_) <;> rfl)
    | ((with_reducible refine finD hsc (NRel.of_plain ?_)); exact rfl)
  all_goals exact ⟨(j - 1, _), Weak.env (by simp [envIn, lk_cons, wth_some]), by omega, by omega, hps.of (fun q hq => down_succ (by omega) (by omega) q), .inr hle, by omega⟩
end Go.Proofs.Ytdbdnknnaekbhaa

