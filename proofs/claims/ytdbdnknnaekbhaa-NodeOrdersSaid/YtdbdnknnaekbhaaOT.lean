/-
  The walk of sorted nodes: the specification's list in its order.
-/
import Derived.Test.YtdbdnknnaekbhaaOS
set_option linter.unusedVariables false
set_option linter.unusedSimpArgs false
set_option maxRecDepth 20000
set_option maxHeartbeats 4000000
namespace Go.Proofs.Ytdbdnknnaekbhaa
open Go Go.Aw Go.Proofs
/-- What the specification's Sorted gives. -/
def RSortR (t : List UInt8) (l : List Nd) (H : AHeap) (r : ARes) (H1 : AHeap) : Prop := ∃ v' R, r = .ret v' ∧ Frm [] H H1 ∧ NodesOf t l R ∧ OutN H1 R v'
theorem map_flat (R : List Nd) : (R.map ndC).flatten = ndsC R := by rw [ndsC, List.flatMap_def]
theorem rSorted (t : List UInt8) (ht : t.length = 20) (l : List Nd) (hok : ∀ x ∈ l, x.ok = true) (hl : l.length ≤ 30) (v : Value) (H : AHeap) (hv : RdK H 4 v (l.map ndC)) : AC Try.prog 23 [.string (bs t), v] H (RSortR t l H) := by
  have q1 : ∀ H' K, lenW Try.prog 34 v H' K = K (.int .i64 (l.length : Nat)) H' := fun H' K => by rw [hv.lenT (by simp only [go_sem, ↓reduceIte, Nat.reduceEqDiff, reduceCtorEq, Nat.reduceAdd, Int.reduceEq, Int.reduceBNe, Int.reduceBEq, Int.reduceToNat, Int.reduceLT, Int.reduceLE, Int.reduceGT, Int.reduceGE, Nat.reduceSub, Nat.reduceBEq, Nat.reduceBNe, Int.reduceAdd, Int.reduceSub, Int.reduceMul, Int.reduceNeg, Nat.reduceMul, Nat.reduceLeDiff, Nat.reduceLT]), ndsN_len]
  refine AC.enter Try.func23 rfl (by kernel_rfl) 84 rfl [.tmp 4] rfl (by simp) fun hsc B => ?_
  repeat first
    | with_reducible refine AWP.seq ?_
    | ((with_reducible refine AWP.region ?_ ?_); exact rfl)
    | with_reducible refine AWP.block ?_
    | with_reducible refine AWP.skip ?_
    | with_reducible refine AWP.exit ?_
    | with_reducible refine AWP.ret ?_
    | with_reducible refine AWP.label ?_
    | with_reducible refine AWP.goto ?_
    | ((with_reducible refine AWP.condT ?_ ?_); focus (simp only [ev, lk_cons, ↓reduceIte, Nat.reduceEqDiff]; done))
    | ((with_reducible refine AWP.condF ?_ ?_); focus (simp only [ev, lk_cons, ↓reduceIte, Nat.reduceEqDiff]; done))
    | simp only [go_sem, ↓reduceIte, Nat.reduceEqDiff, reduceCtorEq, Nat.reduceAdd, Int.reduceEq, Int.reduceBNe, Int.reduceBEq, Int.reduceToNat, Int.reduceLT, Int.reduceLE, Int.reduceGT, Int.reduceGE, Nat.reduceSub, Nat.reduceBEq, Nat.reduceBNe, Int.reduceAdd, Int.reduceSub, Int.reduceMul, Int.reduceNeg, Nat.reduceMul, Nat.reduceLeDiff, Nat.reduceLT, q1]
    | simp (disch := omega) only [wi64, wu8, wu16, wu32, wu64, Int.tdiv_eq_ediv_of_nonneg, Int.tmod_eq_emod_of_nonneg]
    | with_reducible_and_instances exact finR
    | ((with_reducible refine finR' ?_ ?_) <;> rfl)
    | ((with_reducible refine finD hsc (NRel.of_plain ?_)); exact rfl)
  refine AWP.loopP (fun s : Nat × AHeap × Value × Nat => ⟨[(0, .string (bs t)), (1, v), (5, s.2.2.1), (13, v), (14, .int .i64 (l.length : Nat)), (15, .int .i64 (s.1 : Nat))], [], s.2.1⟩)
    (fun s => s.1 ≤ l.length ∧ Frm [] H s.2.1 ∧ OwnR s.2.1 46 4 ((ddN l s.1).map ndC) s.2.2.1 s.2.2.2 ∧ (ddN l s.1 ≠ [] → H.length ≤ s.2.2.2)) (fun s => l.length - s.1) (0, H, .slice none 0 0, 0) ?_ ⟨Nat.zero_le _, .refl _ _, .inl ⟨rfl, rfl⟩, fun h => absurd rfl h⟩ ?_
  · exact Weak.env (by simp [envIn, lk_cons, wth_some])
  rintro ⟨n, H1, vo, jo⟩ ⟨hn, hf, hO, hj⟩
  simp only at hn hf hO hj ⊢
  by_cases hc : n < l.length
  case neg =>
    have hc' : ¬ (n : Int) < (l.length : Int) := by omega
    obtain rfl : n = l.length := by omega
    have hokd : ∀ x ∈ ddN l l.length, x.ok = true := fun x hx => hok x (by have := (ddN_mem l l.length x).1 hx; rwa [List.take_length] at this)
    have hmd : ∀ x, x ∈ ddN l l.length ↔ x ∈ l := fun x => by rw [ddN_mem, List.take_length]
    have hnd := ddN_nodup l l.length
    have hdl := ddN_len l l.length
    obtain ⟨R0, hR0⟩ : ∃ R0, ddN l l.length = R0 := ⟨_, rfl⟩
    rw [hR0] at hokd hmd hnd hdl hj hO
    rcases hO with ⟨e0, rfl⟩ | ⟨ne, rfl, hb0⟩
    · have hR00 : R0 = [] := List.map_eq_nil_iff.1 e0
      repeat first
        | with_reducible refine AWP.seq ?_
        | ((with_reducible refine AWP.region ?_ ?_); exact rfl)
        | with_reducible refine AWP.block ?_
        | with_reducible refine AWP.skip ?_
        | with_reducible refine AWP.exit ?_
        | with_reducible refine AWP.ret ?_
        | with_reducible refine AWP.label ?_
        | with_reducible refine AWP.goto ?_
        | ((with_reducible refine AWP.condT ?_ ?_); focus (simp only [ev, lk_cons, ↓reduceIte, Nat.reduceEqDiff]; done))
        | ((with_reducible refine AWP.condF ?_ ?_); focus (simp only [ev, lk_cons, ↓reduceIte, Nat.reduceEqDiff]; done))
        | simp only [go_sem, ↓reduceIte, Nat.reduceEqDiff, reduceCtorEq, Nat.reduceAdd, Int.reduceEq, Int.reduceBNe, Int.reduceBEq, Int.reduceToNat, Int.reduceLT, Int.reduceLE, Int.reduceGT, Int.reduceGE, Nat.reduceSub, Nat.reduceBEq, Nat.reduceBNe, Int.reduceAdd, Int.reduceSub, Int.reduceMul, Int.reduceNeg, Nat.reduceMul, Nat.reduceLeDiff, Nat.reduceLT, hc']
        | simp (disch := omega) only [wi64, wu8, wu16, wu32, wu64, Int.tdiv_eq_ediv_of_nonneg, Int.tmod_eq_emod_of_nonneg]
        | with_reducible_and_instances exact finR
        | ((with_reducible refine finR' ?_ ?_) <;> rfl)
        | ((with_reducible refine finD hsc (NRel.of_plain ?_)); exact rfl)
      refine AWP.loopN 1 ?_
      repeat first
        | with_reducible refine AWP.seq ?_
        | ((with_reducible refine AWP.region ?_ ?_); exact rfl)
        | with_reducible refine AWP.block ?_
        | with_reducible refine AWP.skip ?_
        | with_reducible refine AWP.exit ?_
        | with_reducible refine AWP.ret ?_
        | with_reducible refine AWP.label ?_
        | with_reducible refine AWP.goto ?_
        | ((with_reducible refine AWP.condT ?_ ?_); focus (simp only [ev, lk_cons, ↓reduceIte, Nat.reduceEqDiff]; done))
        | ((with_reducible refine AWP.condF ?_ ?_); focus (simp only [ev, lk_cons, ↓reduceIte, Nat.reduceEqDiff]; done))
        | simp only [go_sem, ↓reduceIte, Nat.reduceEqDiff, reduceCtorEq, Nat.reduceAdd, Int.reduceEq, Int.reduceBNe, Int.reduceBEq, Int.reduceToNat, Int.reduceLT, Int.reduceLE, Int.reduceGT, Int.reduceGE, Nat.reduceSub, Nat.reduceBEq, Nat.reduceBNe, Int.reduceAdd, Int.reduceSub, Int.reduceMul, Int.reduceNeg, Nat.reduceMul, Nat.reduceLeDiff, Nat.reduceLT, roundsW_s]
        | simp (disch := omega) only [wi64, wu8, wu16, wu32, wu64, Int.tdiv_eq_ediv_of_nonneg, Int.tmod_eq_emod_of_nonneg]
        | with_reducible_and_instances exact finR
        | ((with_reducible refine finR' ?_ ?_) <;> rfl)
        | ((with_reducible refine finD hsc (NRel.of_plain ?_)); exact rfl)
      exact ⟨_, _, .refl _ _ _, _, R0, rfl, hf, nodes_of ht hok hmd hnd hdl (by rw [hR00]; exact Srt.small (by simp)), .inl ⟨hR00, rfl⟩⟩
    · have hne : R0 ≠ [] := fun e => ne (by rw [e]; rfl)
      have hjl := hj hne
      rw [map_flat] at hb0
      rw [List.length_map]
      have hb : H1[jo]? = some (lsO R0) := hb0
      have hbl := lt_of_get hb
      have hsame : H1 = H1.set jo (lsO R0) := (set_same hb).symm
      obtain ⟨N, hN⟩ : ∃ N, N = R0.length := ⟨_, rfl⟩
      rw [← hN]
      rw [hsame]
      repeat first
        | with_reducible refine AWP.seq ?_
        | ((with_reducible refine AWP.region ?_ ?_); exact rfl)
        | with_reducible refine AWP.block ?_
        | with_reducible refine AWP.skip ?_
        | with_reducible refine AWP.exit ?_
        | with_reducible refine AWP.ret ?_
        | with_reducible refine AWP.label ?_
        | with_reducible refine AWP.goto ?_
        | ((with_reducible refine AWP.condT ?_ ?_); focus (simp only [ev, lk_cons, ↓reduceIte, Nat.reduceEqDiff]; done))
        | ((with_reducible refine AWP.condF ?_ ?_); focus (simp only [ev, lk_cons, ↓reduceIte, Nat.reduceEqDiff]; done))
        | simp only [go_sem, ↓reduceIte, Nat.reduceEqDiff, reduceCtorEq, Nat.reduceAdd, Int.reduceEq, Int.reduceBNe, Int.reduceBEq, Int.reduceToNat, Int.reduceLT, Int.reduceLE, Int.reduceGT, Int.reduceGE, Nat.reduceSub, Nat.reduceBEq, Nat.reduceBNe, Int.reduceAdd, Int.reduceSub, Int.reduceMul, Int.reduceNeg, Nat.reduceMul, Nat.reduceLeDiff, Nat.reduceLT, hc']
        | simp (disch := omega) only [wi64, wu8, wu16, wu32, wu64, Int.tdiv_eq_ediv_of_nonneg, Int.tmod_eq_emod_of_nonneg]
        | with_reducible_and_instances exact finR
        | ((with_reducible refine finR' ?_ ?_) <;> rfl)
        | ((with_reducible refine finD hsc (NRel.of_plain ?_)); exact rfl)
      refine AWP.loopP (fun s : Nat × List Nd => ⟨[(0, .string (bs t)), (5, .slice (some ⟨jo, 0, none⟩) N N), (43, .int .i64 (N : Nat)), (44, .int .i64 (s.1 : Nat))], [], H1.set jo (lsO s.2)⟩)
        (fun s => s.1 ≤ N ∧ Srtd (leN t) R0 s.2 0 s.1 ∧ s.2.Nodup) (fun s => N - s.1) (0, R0) ?_ ⟨Nat.zero_le _, Srtd.refl (Srt.small (by simp)), hnd⟩ ?_
      · exact Weak.env (by simp [envIn, lk_cons, wth_some])
      rintro ⟨i, m⟩ ⟨h2, hs, hnm⟩
      simp only at h2 hs hnm ⊢
      have hml := hs.len
      by_cases hi : i < N
      case neg =>
        have hi' : ¬ (i : Int) < (N : Int) := by omega
        obtain rfl : i = N := by omega
        repeat first
          | with_reducible refine AWP.seq ?_
          | ((with_reducible refine AWP.region ?_ ?_); exact rfl)
          | with_reducible refine AWP.block ?_
          | with_reducible refine AWP.skip ?_
          | with_reducible refine AWP.exit ?_
          | with_reducible refine AWP.ret ?_
          | with_reducible refine AWP.label ?_
          | with_reducible refine AWP.goto ?_
          | ((with_reducible refine AWP.condT ?_ ?_); focus (simp only [ev, lk_cons, ↓reduceIte, Nat.reduceEqDiff]; done))
          | ((with_reducible refine AWP.condF ?_ ?_); focus (simp only [ev, lk_cons, ↓reduceIte, Nat.reduceEqDiff]; done))
          | simp only [go_sem, ↓reduceIte, Nat.reduceEqDiff, reduceCtorEq, Nat.reduceAdd, Int.reduceEq, Int.reduceBNe, Int.reduceBEq, Int.reduceToNat, Int.reduceLT, Int.reduceLE, Int.reduceGT, Int.reduceGE, Nat.reduceSub, Nat.reduceBEq, Nat.reduceBNe, Int.reduceAdd, Int.reduceSub, Int.reduceMul, Int.reduceNeg, Nat.reduceMul, Nat.reduceLeDiff, Nat.reduceLT, hi']
          | simp (disch := omega) only [wi64, wu8, wu16, wu32, wu64, Int.tdiv_eq_ediv_of_nonneg, Int.tmod_eq_emod_of_nonneg]
          | with_reducible_and_instances exact finR
          | ((with_reducible refine finR' ?_ ?_) <;> rfl)
          | ((with_reducible refine finD hsc (NRel.of_plain ?_)); exact rfl)
        refine ⟨_, _, .refl _ _ _, _, m, rfl, Frm.set hf (.inr hjl), ?_, .inr ⟨jo, i, ndsC m, ⟨46, 4, true, 0, none⟩, by rw [hml, hN], by omega, List.getElem?_set_self hbl, .inl rfl, by rw [ndsC_len]; omega, List.take_of_length_le (by rw [ndsC_len]; omega)⟩⟩
        refine nodes_of ht hok (fun x => ?_) hnm (by rw [hml]; exact hdl) (by rw [hml, ← hN]; exact hs.srt)
        rw [← hmd x]
        refine ⟨hs.sub x, fun hx => ?_⟩
        obtain ⟨q, hq, rfl⟩ := List.getElem_of_mem hx
        obtain ⟨r, _, _, r3⟩ := hs.mem' q _ (Nat.zero_le _) (by omega) (List.getElem?_eq_getElem hq)
        exact List.mem_of_getElem? r3
      have hi' : (i : Int) < (N : Int) := by omega
      have him : i < m.length := by omega
      have hwi : IntKind.i64.wrap ((i : Int) + 1) = ((i + 1 : Nat) : Int) := by rw [wi64 (by omega)]; omega
      repeat first
        | with_reducible refine AWP.seq ?_
        | ((with_reducible refine AWP.region ?_ ?_); exact rfl)
        | with_reducible refine AWP.block ?_
        | with_reducible refine AWP.skip ?_
        | with_reducible refine AWP.exit ?_
        | with_reducible refine AWP.ret ?_
        | with_reducible refine AWP.label ?_
        | with_reducible refine AWP.goto ?_
        | ((with_reducible refine AWP.condT ?_ ?_); focus (simp only [ev, lk_cons, ↓reduceIte, Nat.reduceEqDiff]; done))
        | ((with_reducible refine AWP.condF ?_ ?_); focus (simp only [ev, lk_cons, ↓reduceIte, Nat.reduceEqDiff]; done))
        | simp only [go_sem, ↓reduceIte, Nat.reduceEqDiff, reduceCtorEq, Nat.reduceAdd, Int.reduceEq, Int.reduceBNe, Int.reduceBEq, Int.reduceToNat, Int.reduceLT, Int.reduceLE, Int.reduceGT, Int.reduceGE, Nat.reduceSub, Nat.reduceBEq, Nat.reduceBNe, Int.reduceAdd, Int.reduceSub, Int.reduceMul, Int.reduceNeg, Nat.reduceMul, Nat.reduceLeDiff, Nat.reduceLT, hi']
        | simp (disch := omega) only [wi64, wu8, wu16, wu32, wu64, Int.tdiv_eq_ediv_of_nonneg, Int.tmod_eq_emod_of_nonneg]
        | with_reducible_and_instances exact finR
        | ((with_reducible refine finR' ?_ ?_) <;> rfl)
        | ((with_reducible refine finD hsc (NRel.of_plain ?_)); exact rfl)
      refine AWP.loopP (fun s : Nat × List Nd => ⟨[(0, .string (bs t)), (5, .slice (some ⟨jo, 0, none⟩) N N), (12, .int .i64 (s.1 : Nat)), (43, .int .i64 (N : Nat)), (44, .int .i64 (i : Nat))], [], H1.set jo (lsO s.2)⟩)
        (fun s => s.1 ≤ i ∧ Pm m s.2 (rot s.1 i (i + 1)) ∧ s.2.Nodup ∧ (s.1 = i ∨ ∀ x y, m[i]? = some x → m[s.1]? = some y → leN t x y)) (fun s => s.1) (i, m) ?_ ⟨Nat.le_refl _, (Pm.refl m).of fun q _ => (rot_none i q).symm, hnm, .inl rfl⟩ ?_
      · exact Weak.env (by simp [envIn, lk_cons, wth_some])
      rintro ⟨j, k⟩ ⟨g2, hp2, hnk, hhi⟩
      simp only at g2 hp2 hnk hhi ⊢
      have hkl := hp2.len
      have hins : (j = 0 ∨ ∀ x y, m[j - 1]? = some x → m[i]? = some y → leN t x y) → Srtd (leN t) R0 k 0 (i + 1) := fun hlo =>
        hs.comp (ins_down (le := leN t) (fun x y z h1 h2 => leN_tr t h1 h2) him hs.srt (Nat.zero_le _) g2 hlo hhi hp2) (by omega) (by omega)
      by_cases hj0 : 0 < j
      case neg =>
        have hj' : ¬ (j : Int) > 0 := by omega
        obtain rfl : j = 0 := by omega
        have hj'' : ¬ (0 : Int) > 0 := by omega
        repeat first
          | with_reducible refine AWP.seq ?_
          | ((with_reducible refine AWP.region ?_ ?_); exact rfl)
          | with_reducible refine AWP.block ?_
          | with_reducible refine AWP.skip ?_
          | with_reducible refine AWP.exit ?_
          | with_reducible refine AWP.ret ?_
          | with_reducible refine AWP.label ?_
          | with_reducible refine AWP.goto ?_
          | ((with_reducible refine AWP.condT ?_ ?_); focus (simp only [ev, lk_cons, ↓reduceIte, Nat.reduceEqDiff]; done))
          | ((with_reducible refine AWP.condF ?_ ?_); focus (simp only [ev, lk_cons, ↓reduceIte, Nat.reduceEqDiff]; done))
          | simp only [go_sem, ↓reduceIte, Nat.reduceEqDiff, reduceCtorEq, Nat.reduceAdd, Int.reduceEq, Int.reduceBNe, Int.reduceBEq, Int.reduceToNat, Int.reduceLT, Int.reduceLE, Int.reduceGT, Int.reduceGE, Nat.reduceSub, Nat.reduceBEq, Nat.reduceBNe, Int.reduceAdd, Int.reduceSub, Int.reduceMul, Int.reduceNeg, Nat.reduceMul, Nat.reduceLeDiff, Nat.reduceLT]
          | simp (disch := omega) only [wi64, wu8, wu16, wu32, wu64, Int.tdiv_eq_ediv_of_nonneg, Int.tmod_eq_emod_of_nonneg]
          | with_reducible_and_instances exact finR
          | ((with_reducible refine finR' ?_ ?_) <;> rfl)
          | ((with_reducible refine finD hsc (NRel.of_plain ?_)); exact rfl)
        refine AWP.regionK 13 (by kernel_rfl) (by decide) (by kernel_rfl) ?_
        repeat first
          | with_reducible refine AWP.seq ?_
          | ((with_reducible refine AWP.region ?_ ?_); exact rfl)
          | with_reducible refine AWP.block ?_
          | with_reducible refine AWP.skip ?_
          | with_reducible refine AWP.exit ?_
          | with_reducible refine AWP.ret ?_
          | with_reducible refine AWP.label ?_
          | with_reducible refine AWP.goto ?_
          | ((with_reducible refine AWP.condT ?_ ?_); focus (simp only [ev, lk_cons, ↓reduceIte, Nat.reduceEqDiff]; done))
          | ((with_reducible refine AWP.condF ?_ ?_); focus (simp only [ev, lk_cons, ↓reduceIte, Nat.reduceEqDiff]; done))
          | simp only [go_sem, ↓reduceIte, Nat.reduceEqDiff, reduceCtorEq, Nat.reduceAdd, Int.reduceEq, Int.reduceBNe, Int.reduceBEq, Int.reduceToNat, Int.reduceLT, Int.reduceLE, Int.reduceGT, Int.reduceGE, Nat.reduceSub, Nat.reduceBEq, Nat.reduceBNe, Int.reduceAdd, Int.reduceSub, Int.reduceMul, Int.reduceNeg, Nat.reduceMul, Nat.reduceLeDiff, Nat.reduceLT, hj', hj'', exists_eq_left, hwi]
          | simp (disch := omega) only [wi64, wu8, wu16, wu32, wu64, Int.tdiv_eq_ediv_of_nonneg, Int.tmod_eq_emod_of_nonneg]
          | with_reducible_and_instances exact finR
          | ((with_reducible refine finR' ?_ ?_) <;> rfl)
          | ((with_reducible refine finD hsc (NRel.of_plain ?_)); exact rfl)
        exact ⟨(i + 1, k), Weak.env (by simp [envIn, lk_cons, wth_some]), by dsimp only; omega, hins (.inl rfl), hnk, by dsimp only; omega⟩
      have hj' : (j : Int) > 0 := by omega
      have hjk : j < k.length := by omega
      have hjk1 : j - 1 < k.length := by omega
      have hw1 : IntKind.i64.wrap ((j : Int) - 1) = ((j - 1 : Nat) : Int) := by rw [wi64 (by omega)]; omega
      have ej1 : k[j - 1]? = m[j - 1]? := by
        rw [hp2.2 (j - 1) (by omega)]; congr 1; unfold rot; (repeat' split) <;> omega
      rw [List.getElem?_eq_getElem hjk1] at ej1
      have emi : m[i]? = some k[j] := by
        have h := hp2.2 j (by omega)
        rw [List.getElem?_eq_getElem hjk] at h
        rw [h]; congr 1; unfold rot; (repeat' split) <;> omega
      have hmem : ∀ x ∈ k, x.ok = true := fun x hx => hokd x (hs.sub x (hp2.mem x hx))
      have hC := rCompare t k[j] k[j - 1] ht (hmem _ (List.getElem_mem _)) (hmem _ (List.getElem_mem _)) (H1.set jo (lsO k))
      have hg : (H1.set jo (lsO k))[jo]? = some (.cells (ndsC k) ⟨46, 4, true, 0, none⟩) := List.getElem?_set_self hbl
      have hcl := ndsC_len k
      have ax := ndsC_at k j hjk
      have ay := ndsC_at k (j - 1) hjk1
      have hbx : j * 4 + 4 ≤ (ndsC k).length := by omega
      have hby : (j - 1) * 4 + 4 ≤ (ndsC k).length := by omega
      have hx0 : (0 : Int) ≤ (j : Int) := Int.natCast_nonneg _
      have hy0 : (0 : Int) ≤ ((j - 1 : Nat) : Int) := Int.natCast_nonneg _
      have hx2 : (j : Int) < (N : Int) := by omega
      have hy2 : ((j - 1 : Nat) : Int) < (N : Int) := by omega
      unfold Nd.v at hC
      by_cases hcm : cmpN t k[j] k[j - 1] < 0
      case neg =>
        have hfin := hins (.inr fun x y e1 e2 => by
          rw [← ej1] at e1
          rw [emi] at e2
          cases e1; cases e2
          exact hcm)
        generalize cmpN t k[j] k[j - 1] = cv at *
        repeat first
          | with_reducible refine AWP.seq ?_
          | ((with_reducible refine AWP.region ?_ ?_); exact rfl)
          | with_reducible refine AWP.block ?_
          | with_reducible refine AWP.skip ?_
          | with_reducible refine AWP.exit ?_
          | with_reducible refine AWP.ret ?_
          | with_reducible refine AWP.label ?_
          | with_reducible refine AWP.goto ?_
          | ((with_reducible refine AWP.condT ?_ ?_); focus (simp only [ev, lk_cons, ↓reduceIte, Nat.reduceEqDiff]; done))
          | ((with_reducible refine AWP.condF ?_ ?_); focus (simp only [ev, lk_cons, ↓reduceIte, Nat.reduceEqDiff]; done))
          | simp only [go_sem, ↓reduceIte, Nat.reduceEqDiff, reduceCtorEq, Nat.reduceAdd, Int.reduceEq, Int.reduceBNe, Int.reduceBEq, Int.reduceToNat, Int.reduceLT, Int.reduceLE, Int.reduceGT, Int.reduceGE, Nat.reduceSub, Nat.reduceBEq, Nat.reduceBNe, Int.reduceAdd, Int.reduceSub, Int.reduceMul, Int.reduceNeg, Nat.reduceMul, Nat.reduceLeDiff, Nat.reduceLT]
          | simp (disch := omega) only [wi64, wu8, wu16, wu32, wu64, Int.tdiv_eq_ediv_of_nonneg, Int.tmod_eq_emod_of_nonneg]
          | with_reducible_and_instances exact finR
          | ((with_reducible refine finR' ?_ ?_) <;> rfl)
          | ((with_reducible refine finD hsc (NRel.of_plain ?_)); exact rfl)
        refine AWP.regionK 13 (by kernel_rfl) (by decide) (by kernel_rfl) ?_
        repeat first
          | with_reducible refine AWP.seq ?_
          | ((with_reducible refine AWP.region ?_ ?_); exact rfl)
          | with_reducible refine AWP.block ?_
          | with_reducible refine AWP.skip ?_
          | with_reducible refine AWP.exit ?_
          | with_reducible refine AWP.ret ?_
          | with_reducible refine AWP.label ?_
          | with_reducible refine AWP.goto ?_
          | ((with_reducible refine AWP.condT ?_ ?_); focus (simp only [ev, lk_cons, ↓reduceIte, Nat.reduceEqDiff]; done))
          | ((with_reducible refine AWP.condF ?_ ?_); focus (simp only [ev, lk_cons, ↓reduceIte, Nat.reduceEqDiff]; done))
          | with_reducible refine hC.use ?_
          | simp only [go_sem, ↓reduceIte, Nat.reduceEqDiff, reduceCtorEq, Nat.reduceAdd, Int.reduceEq, Int.reduceBNe, Int.reduceBEq, Int.reduceToNat, Int.reduceLT, Int.reduceLE, Int.reduceGT, Int.reduceGE, Nat.reduceSub, Nat.reduceBEq, Nat.reduceBNe, Int.reduceAdd, Int.reduceSub, Int.reduceMul, Int.reduceNeg, Nat.reduceMul, Nat.reduceLeDiff, Nat.reduceLT, hj', hw1, hg, ax, ay, hbx, hby, hx0, hy0, hx2, hy2, Int.toNat_natCast, hcm, hwi]
          | simp (disch := omega) only [wi64, wu8, wu16, wu32, wu64, Int.tdiv_eq_ediv_of_nonneg, Int.tmod_eq_emod_of_nonneg]
          | with_reducible_and_instances exact finR
          | ((with_reducible refine finR' ?_ ?_) <;> rfl)
          | ((with_reducible refine finD hsc (NRel.of_plain ?_)); exact rfl)
        exact ⟨(i + 1, k), Weak.env (by simp [envIn, lk_cons, wth_some]), by dsimp only; omega, hfin, hnk, by dsimp only; omega⟩
      have hle : ∀ x y, m[i]? = some x → m[j - 1]? = some y → leN t x y := fun x y e1 e2 => by
        rw [← ej1] at e2
        rw [emi] at e1
        cases e1; cases e2
        exact lt_leN hcm
      have hsw := Pm.swap k (i := j) (j := j - 1) (List.getElem?_eq_getElem hjk) (List.getElem?_eq_getElem hjk1)
      have hps := hp2.trans hsw (fun q hq => by unfold swp; (repeat' split) <;> omega)
      have hnk2 : ((k.set j k[j - 1]).set (j - 1) k[j]).Nodup := Pm.nodup hsw (fun q hq => by unfold swp; (repeat' split) <;> omega) (fun q q' _ _ h => by unfold swp at h; (repeat' split at h) <;> omega) hnk
      have px := put_nd k j k[j - 1] hjk
      have py := put_nd (k.set j k[j - 1]) (j - 1) k[j] (by rw [List.length_set]; exact hjk1)
      have hcx := ndsC_len (k.set j k[j - 1])
      rw [List.length_set] at hcx
      have hby2 : (j - 1) * 4 + 4 ≤ (ndsC (k.set j k[j - 1])).length := by omega
      generalize cmpN t k[j] k[j - 1] = cv at *
      repeat first
        | with_reducible refine AWP.seq ?_
        | ((with_reducible refine AWP.region ?_ ?_); exact rfl)
        | with_reducible refine AWP.block ?_
        | with_reducible refine AWP.skip ?_
        | with_reducible refine AWP.exit ?_
        | with_reducible refine AWP.ret ?_
        | with_reducible refine AWP.label ?_
        | with_reducible refine AWP.goto ?_
        | ((with_reducible refine AWP.condT ?_ ?_); focus (simp only [ev, lk_cons, ↓reduceIte, Nat.reduceEqDiff]; done))
        | ((with_reducible refine AWP.condF ?_ ?_); focus (simp only [ev, lk_cons, ↓reduceIte, Nat.reduceEqDiff]; done))
        | simp only [go_sem, ↓reduceIte, Nat.reduceEqDiff, reduceCtorEq, Nat.reduceAdd, Int.reduceEq, Int.reduceBNe, Int.reduceBEq, Int.reduceToNat, Int.reduceLT, Int.reduceLE, Int.reduceGT, Int.reduceGE, Nat.reduceSub, Nat.reduceBEq, Nat.reduceBNe, Int.reduceAdd, Int.reduceSub, Int.reduceMul, Int.reduceNeg, Nat.reduceMul, Nat.reduceLeDiff, Nat.reduceLT]
        | simp (disch := omega) only [wi64, wu8, wu16, wu32, wu64, Int.tdiv_eq_ediv_of_nonneg, Int.tmod_eq_emod_of_nonneg]
        | with_reducible_and_instances exact finR
        | ((with_reducible refine finR' ?_ ?_) <;> rfl)
        | ((with_reducible refine finD hsc (NRel.of_plain ?_)); exact rfl)
      refine AWP.regionK 13 (by kernel_rfl) (by decide) (by kernel_rfl) ?_
      repeat first
        | with_reducible refine AWP.seq ?_
        | ((with_reducible refine AWP.region ?_ ?_); exact rfl)
        | with_reducible refine AWP.block ?_
        | with_reducible refine AWP.skip ?_
        | with_reducible refine AWP.exit ?_
        | with_reducible refine AWP.ret ?_
        | with_reducible refine AWP.label ?_
        | with_reducible refine AWP.goto ?_
        | ((with_reducible refine AWP.condT ?_ ?_); focus (simp only [ev, lk_cons, ↓reduceIte, Nat.reduceEqDiff]; done))
        | ((with_reducible refine AWP.condF ?_ ?_); focus (simp only [ev, lk_cons, ↓reduceIte, Nat.reduceEqDiff]; done))
        | with_reducible refine hC.use ?_
        | simp only [go_sem, ↓reduceIte, Nat.reduceEqDiff, reduceCtorEq, Nat.reduceAdd, Int.reduceEq, Int.reduceBNe, Int.reduceBEq, Int.reduceToNat, Int.reduceLT, Int.reduceLE, Int.reduceGT, Int.reduceGE, Nat.reduceSub, Nat.reduceBEq, Nat.reduceBNe, Int.reduceAdd, Int.reduceSub, Int.reduceMul, Int.reduceNeg, Nat.reduceMul, Nat.reduceLeDiff, Nat.reduceLT, hj', hw1, hg, ax, ay, hbx, hby, hx0, hy0, hx2, hy2, Int.toNat_natCast, hcm, hwi]
        | simp (disch := omega) only [wi64, wu8, wu16, wu32, wu64, Int.tdiv_eq_ediv_of_nonneg, Int.tmod_eq_emod_of_nonneg]
        | with_reducible_and_instances exact finR
        | ((with_reducible refine finR' ?_ ?_) <;> rfl)
        | ((with_reducible refine finD hsc (NRel.of_plain ?_)); exact rfl)
      refine AWP.regionM 16 [9, 13, 15] [] (.both (.run [9, 13, 15]) (.run [13, 9, 15])) (by kernel_rfl) (by decide) (by kernel_rfl) (by kernel_rfl) (by kernel_rfl) ?_
      repeat' first
        | with_reducible refine canW_n ?_
        | with_reducible refine canW_m (by decide) ?_
        | ((with_reducible apply canW_p (by decide)); focus (intro H; (simp only [go_sem, ↓reduceIte, Nat.reduceEqDiff, reduceCtorEq, Nat.reduceAdd, Int.reduceEq, Int.reduceBNe, Int.reduceBEq, Int.reduceToNat, Int.reduceLT, Int.reduceLE, Int.reduceGT, Int.reduceGE, Nat.reduceSub, Nat.reduceBEq, Nat.reduceBNe, Int.reduceAdd, Int.reduceSub, Int.reduceMul, Int.reduceNeg, Nat.reduceMul, Nat.reduceLeDiff, Nat.reduceLT, hw1, hg, ax, ay, hbx, hby, hx0, hy0, hx2, hy2, Int.toNat_natCast, nd_len, nd_flat, px, py, hby2, hsets, hbl, List.set_set, List.length_set, List.map_cons, List.map_nil]); exact rfl))
        | with_reducible refine memW_b ?_ ?_
        | with_reducible refine memW_s rfl ?_
        | with_reducible refine memW_r rfl ?_
        | with_reducible refine memW_e ?_
        | simp only [List.take_succ_cons, List.take_zero, List.drop_succ_cons, List.drop_zero]
        | omega
        | with_reducible refine And.intro ?_ ?_
        | with_reducible refine AWP.seq ?_
        | ((with_reducible refine AWP.region ?_ ?_); exact rfl)
        | with_reducible refine AWP.block ?_
        | with_reducible refine AWP.skip ?_
        | with_reducible refine AWP.exit ?_
        | with_reducible refine AWP.ret ?_
        | with_reducible refine AWP.label ?_
        | with_reducible refine AWP.goto ?_
        | ((with_reducible refine AWP.condT ?_ ?_); focus (simp only [ev, lk_cons, ↓reduceIte, Nat.reduceEqDiff]; done))
        | ((with_reducible refine AWP.condF ?_ ?_); focus (simp only [ev, lk_cons, ↓reduceIte, Nat.reduceEqDiff]; done))
        | simp only [go_sem, ↓reduceIte, Nat.reduceEqDiff, reduceCtorEq, Nat.reduceAdd, Int.reduceEq, Int.reduceBNe, Int.reduceBEq, Int.reduceToNat, Int.reduceLT, Int.reduceLE, Int.reduceGT, Int.reduceGE, Nat.reduceSub, Nat.reduceBEq, Nat.reduceBNe, Int.reduceAdd, Int.reduceSub, Int.reduceMul, Int.reduceNeg, Nat.reduceMul, Nat.reduceLeDiff, Nat.reduceLT, hw1, hg, ax, ay, hbx, hby, hx0, hy0, hx2, hy2, Int.toNat_natCast, nd_len, nd_flat, px, py, hby2, hsets, hbl, List.set_set, List.length_set, List.map_cons, List.map_nil]
        | simp (disch := omega) only [wi64, wu8, wu16, wu32, wu64, Int.tdiv_eq_ediv_of_nonneg, Int.tmod_eq_emod_of_nonneg]
        | with_reducible_and_instances exact finR
        | ((with_reducible refine finR' ?_ ?_) <;> rfl)
        | ((with_reducible refine finD hsc (NRel.of_plain ?_)); exact rfl)
      all_goals exact ⟨(j - 1, _), Weak.env (by simp [envIn, lk_cons, wth_some]), by dsimp only; omega, hps.of (fun q hq => down_succ (by omega) (by omega) q), hnk2, .inr hle, by dsimp only; omega⟩
  have hc' : (n : Int) < (l.length : Int) := by omega
  have hv1 : RdK H1 4 v (l.map ndC) := hv.kept (Kept.frm hf (by simp))
  have hat := hv1.at_ (j := n) (r := ndC l[n]) (by rw [List.getElem?_map, List.getElem?_eq_getElem hc]; rfl)
  obtain ⟨i, o, cap, cs, k, rfl, hcap, hi, how, hz, hle, hgn⟩ := hat
  rw [List.length_map] at *
  have hil := lt_of_get hi
  have hwn : IntKind.i64.wrap ((n : Int) + 1) = ((n + 1 : Nat) : Int) := by rw [wi64 (by omega)]; omega
  have hn0 : (0 : Int) ≤ (n : Int) := Int.natCast_nonneg _
  have hncap : (n : Int) ≤ (cap : Int) := by omega
  have hgn2 := hgn
  unfold ndC at hgn
  obtain ⟨bx, hbx⟩ : ∃ bx : AObj, bx = .cells [.string (bs l[n].id), .int .i64 l[n].a.fam, .string (bs l[n].a.ip), .int .i64 l[n].a.port] ⟨46, 0, true, 0, none⟩ := ⟨_, rfl⟩
  repeat first
    | with_reducible refine AWP.seq ?_
    | ((with_reducible refine AWP.region ?_ ?_); exact rfl)
    | with_reducible refine AWP.block ?_
    | with_reducible refine AWP.skip ?_
    | with_reducible refine AWP.exit ?_
    | with_reducible refine AWP.ret ?_
    | with_reducible refine AWP.label ?_
    | with_reducible refine AWP.goto ?_
    | ((with_reducible refine AWP.condT ?_ ?_); focus (simp only [ev, lk_cons, ↓reduceIte, Nat.reduceEqDiff]; done))
    | ((with_reducible refine AWP.condF ?_ ?_); focus (simp only [ev, lk_cons, ↓reduceIte, Nat.reduceEqDiff]; done))
    | simp only [go_sem, ↓reduceIte, Nat.reduceEqDiff, reduceCtorEq, Nat.reduceAdd, Int.reduceEq, Int.reduceBNe, Int.reduceBEq, Int.reduceToNat, Int.reduceLT, Int.reduceLE, Int.reduceGT, Int.reduceGE, Nat.reduceSub, Nat.reduceBEq, Nat.reduceBNe, Int.reduceAdd, Int.reduceSub, Int.reduceMul, Int.reduceNeg, Nat.reduceMul, Nat.reduceLeDiff, Nat.reduceLT, hc', hi, hil, hgn, hle, hn0, hncap, hz, hgetl]
    | simp (disch := omega) only [wi64, wu8, wu16, wu32, wu64, Int.tdiv_eq_ediv_of_nonneg, Int.tmod_eq_emod_of_nonneg]
    | with_reducible_and_instances exact finR
    | ((with_reducible refine finR' ?_ ?_) <;> rfl)
    | ((with_reducible refine finD hsc (NRel.of_plain ?_)); exact rfl)
  refine AWP.loopP (fun s : Nat × AHeap => ⟨[(0, .string (bs t)), (1, .slice (some ⟨i, o, none⟩) l.length cap), (5, vo), (7, .pointer (some ⟨H1.length, 0, none⟩)), (8, .bool (decide (l[n] ∈ l.take s.1))), (13, .slice (some ⟨i, o, none⟩) l.length cap), (14, .int .i64 (l.length : Nat)), (15, .int .i64 (n : Nat)), (22, .slice (some ⟨i, o, none⟩) n cap), (23, .int .i64 (n : Nat)), (24, .int .i64 (s.1 : Nat))], [], H1 ++ (bx :: s.2)⟩)
    (fun s => s.1 ≤ n) (fun s => n - s.1) (0, []) ?_ (Nat.zero_le _) ?_
  · rw [hbx]
    exact Weak.env (by simp [envIn, lk_cons, wth_some])
  rintro ⟨m, X⟩ hm
  simp only at hm ⊢
  have hbxg : (H1 ++ (bx :: X))[H1.length]? = some (.cells [.string (bs l[n].id), .int .i64 l[n].a.fam, .string (bs l[n].a.ip), .int .i64 l[n].a.port] ⟨46, 0, true, 0, none⟩) := by rw [hget0 rfl, hbx]; rfl
  by_cases hc2 : m < n
  · have hc2' : (m : Int) < (n : Int) := by omega
    have hml : m < l.length := by omega
    have hm0 : (0 : Int) ≤ (m : Int) := Int.natCast_nonneg _
    have hwm : IntKind.i64.wrap ((m : Int) + 1) = ((m + 1 : Nat) : Int) := by rw [wi64 (by omega)]; omega
    have hat2 := hv1.at_ (j := m) (r := ndC l[m]) (by rw [List.getElem?_map, List.getElem?_eq_getElem hml]; rfl)
    obtain ⟨i2, o2, cap2, cs2, k2, e2, _, hi2, _, _, hle2, hgm⟩ := hat2
    rw [List.length_map] at e2
    cases e2
    rw [hi] at hi2
    cases hi2
    have hgX : (H1 ++ (bx :: X))[i]? = some (.cells cs k) := by rw [hgetl hil]; exact hi
    unfold ndC at hgm
    have heq := eqNd l[m] l[n]
    have htk : (l[n] ∈ l.take (m + 1)) ↔ (l[n] ∈ l.take m ∨ l[m] = l[n]) := by
      rw [List.take_add_one, List.getElem?_eq_getElem hml]
      simp only [Option.toList_some, List.mem_append, List.mem_singleton]
      constructor
      · rintro (h | h)
        · exact .inl h
        · exact .inr h.symm
      · rintro (h | h)
        · exact .inl h
        · exact .inr h.symm
    have hbxl : (H1 ++ (bx :: X)).length = H1.length + (X.length + 1) := by simp
    by_cases hfl : l[n] ∈ l.take m
    · have hfl' : decide (l[n] ∈ l.take m) = true := decide_eq_true hfl
      have hnx : decide (l[n] ∈ l.take (m + 1)) = true := decide_eq_true (htk.2 (.inl hfl))
      repeat first
        | with_reducible refine AWP.seq ?_
        | ((with_reducible refine AWP.region ?_ ?_); exact rfl)
        | with_reducible refine AWP.block ?_
        | with_reducible refine AWP.skip ?_
        | with_reducible refine AWP.exit ?_
        | with_reducible refine AWP.ret ?_
        | with_reducible refine AWP.label ?_
        | with_reducible refine AWP.goto ?_
        | ((with_reducible refine AWP.condT ?_ ?_); focus (simp only [ev, lk_cons, ↓reduceIte, Nat.reduceEqDiff]; done))
        | ((with_reducible refine AWP.condF ?_ ?_); focus (simp only [ev, lk_cons, ↓reduceIte, Nat.reduceEqDiff]; done))
        | simp only [go_sem, ↓reduceIte, Nat.reduceEqDiff, reduceCtorEq, Nat.reduceAdd, Int.reduceEq, Int.reduceBNe, Int.reduceBEq, Int.reduceToNat, Int.reduceLT, Int.reduceLE, Int.reduceGT, Int.reduceGE, Nat.reduceSub, Nat.reduceBEq, Nat.reduceBNe, Int.reduceAdd, Int.reduceSub, Int.reduceMul, Int.reduceNeg, Nat.reduceMul, Nat.reduceLeDiff, Nat.reduceLT, hc2', hm0, hgX, hgm, hle2, hfl', hwm]
        | simp (disch := omega) only [wi64, wu8, wu16, wu32, wu64, Int.tdiv_eq_ediv_of_nonneg, Int.tmod_eq_emod_of_nonneg]
        | with_reducible_and_instances exact finR
        | ((with_reducible refine finR' ?_ ?_) <;> rfl)
        | ((with_reducible refine finD hsc (NRel.of_plain ?_)); exact rfl)
      refine ⟨(m + 1, X ++ [.cells [.string (bs l[m].id), .int .i64 l[m].a.fam, .string (bs l[m].a.ip), .int .i64 l[m].a.port] ⟨46, 0, true, 0, none⟩]), ?_, by dsimp only; omega, by dsimp only; omega⟩
      dsimp only
      rw [hnx]
      exact Weak.env (by simp [envIn, lk_cons, wth_some])
    · have hfl' : decide (l[n] ∈ l.take m) = false := decide_eq_false hfl
      have hnew : (H1 ++ (bx :: (X ++ [AObj.cells [.string (bs l[m].id), .int .i64 l[m].a.fam, .string (bs l[m].a.ip), .int .i64 l[m].a.port] ⟨46, 0, true, 0, none⟩])))[H1.length + (X.length + 1)]? = some (.cells [.string (bs l[m].id), .int .i64 l[m].a.fam, .string (bs l[m].a.ip), .int .i64 l[m].a.port] ⟨46, 0, true, 0, none⟩) := by
        rw [hgetk rfl, List.getElem?_cons_succ, List.getElem?_append_right (Nat.le_refl _)]; simp
      have hold : (H1 ++ (bx :: (X ++ [AObj.cells [.string (bs l[m].id), .int .i64 l[m].a.fam, .string (bs l[m].a.ip), .int .i64 l[m].a.port] ⟨46, 0, true, 0, none⟩])))[H1.length]? = some (.cells [.string (bs l[n].id), .int .i64 l[n].a.fam, .string (bs l[n].a.ip), .int .i64 l[n].a.port] ⟨46, 0, true, 0, none⟩) := by
        rw [hget0 rfl, hbx]; rfl
      by_cases hee : l[m] = l[n]
      · have hnx : decide (l[n] ∈ l.take (m + 1)) = true := decide_eq_true (htk.2 (.inr hee))
        rw [decide_eq_true hee] at heq
        repeat first
          | with_reducible refine AWP.seq ?_
          | ((with_reducible refine AWP.region ?_ ?_); exact rfl)
          | with_reducible refine AWP.block ?_
          | with_reducible refine AWP.skip ?_
          | with_reducible refine AWP.exit ?_
          | with_reducible refine AWP.ret ?_
          | with_reducible refine AWP.label ?_
          | with_reducible refine AWP.goto ?_
          | ((with_reducible refine AWP.condT ?_ ?_); focus (simp only [ev, lk_cons, ↓reduceIte, Nat.reduceEqDiff]; done))
          | ((with_reducible refine AWP.condF ?_ ?_); focus (simp only [ev, lk_cons, ↓reduceIte, Nat.reduceEqDiff]; done))
          | simp only [go_sem, ↓reduceIte, Nat.reduceEqDiff, reduceCtorEq, Nat.reduceAdd, Int.reduceEq, Int.reduceBNe, Int.reduceBEq, Int.reduceToNat, Int.reduceLT, Int.reduceLE, Int.reduceGT, Int.reduceGE, Nat.reduceSub, Nat.reduceBEq, Nat.reduceBNe, Int.reduceAdd, Int.reduceSub, Int.reduceMul, Int.reduceNeg, Nat.reduceMul, Nat.reduceLeDiff, Nat.reduceLT, hc2', hm0, hgX, hgm, hle2, hfl', hwm, hnew, hold, heq]
          | simp (disch := omega) only [wi64, wu8, wu16, wu32, wu64, Int.tdiv_eq_ediv_of_nonneg, Int.tmod_eq_emod_of_nonneg]
          | with_reducible_and_instances exact finR
          | ((with_reducible refine finR' ?_ ?_) <;> rfl)
          | ((with_reducible refine finD hsc (NRel.of_plain ?_)); exact rfl)
        refine ⟨(m + 1, X ++ [.cells [.string (bs l[m].id), .int .i64 l[m].a.fam, .string (bs l[m].a.ip), .int .i64 l[m].a.port] ⟨46, 0, true, 0, none⟩]), ?_, by dsimp only; omega, by dsimp only; omega⟩
        dsimp only
        rw [hnx]
        exact Weak.env (by simp [envIn, lk_cons, wth_some])
      · have hnx : decide (l[n] ∈ l.take (m + 1)) = false := decide_eq_false (fun h => by rcases htk.1 h with h | h; exact hfl h; exact hee h)
        rw [decide_eq_false hee] at heq
        repeat first
          | with_reducible refine AWP.seq ?_
          | ((with_reducible refine AWP.region ?_ ?_); exact rfl)
          | with_reducible refine AWP.block ?_
          | with_reducible refine AWP.skip ?_
          | with_reducible refine AWP.exit ?_
          | with_reducible refine AWP.ret ?_
          | with_reducible refine AWP.label ?_
          | with_reducible refine AWP.goto ?_
          | ((with_reducible refine AWP.condT ?_ ?_); focus (simp only [ev, lk_cons, ↓reduceIte, Nat.reduceEqDiff]; done))
          | ((with_reducible refine AWP.condF ?_ ?_); focus (simp only [ev, lk_cons, ↓reduceIte, Nat.reduceEqDiff]; done))
          | simp only [go_sem, ↓reduceIte, Nat.reduceEqDiff, reduceCtorEq, Nat.reduceAdd, Int.reduceEq, Int.reduceBNe, Int.reduceBEq, Int.reduceToNat, Int.reduceLT, Int.reduceLE, Int.reduceGT, Int.reduceGE, Nat.reduceSub, Nat.reduceBEq, Nat.reduceBNe, Int.reduceAdd, Int.reduceSub, Int.reduceMul, Int.reduceNeg, Nat.reduceMul, Nat.reduceLeDiff, Nat.reduceLT, hc2', hm0, hgX, hgm, hle2, hfl', hwm, hnew, hold, heq]
          | simp (disch := omega) only [wi64, wu8, wu16, wu32, wu64, Int.tdiv_eq_ediv_of_nonneg, Int.tmod_eq_emod_of_nonneg]
          | with_reducible_and_instances exact finR
          | ((with_reducible refine finR' ?_ ?_) <;> rfl)
          | ((with_reducible refine finD hsc (NRel.of_plain ?_)); exact rfl)
        refine ⟨(m + 1, X ++ [.cells [.string (bs l[m].id), .int .i64 l[m].a.fam, .string (bs l[m].a.ip), .int .i64 l[m].a.port] ⟨46, 0, true, 0, none⟩]), ?_, by dsimp only; omega, by dsimp only; omega⟩
        dsimp only
        rw [hnx]
        exact Weak.env (by simp [envIn, lk_cons, wth_some])
  · have hc2' : ¬ (m : Int) < (n : Int) := by omega
    obtain rfl : m = n := by omega
    have hfr : Frm [] H (H1 ++ (bx :: X)) := hf.trans (Frm.app (S := [])) (by simp)
    have hOx := hO.more (bx :: X)
    by_cases hfl : l[m] ∈ l.take m
    · have hfl' : decide (l[m] ∈ l.take m) = true := decide_eq_true hfl
      have hdd : ddN l (m + 1) = ddN l m := by rw [ddN, List.getElem?_eq_getElem hc]; simp only; rw [if_pos hfl, List.append_nil]
      repeat first
        | with_reducible refine AWP.seq ?_
        | ((with_reducible refine AWP.region ?_ ?_); exact rfl)
        | with_reducible refine AWP.block ?_
        | with_reducible refine AWP.skip ?_
        | with_reducible refine AWP.exit ?_
        | with_reducible refine AWP.ret ?_
        | with_reducible refine AWP.label ?_
        | with_reducible refine AWP.goto ?_
        | ((with_reducible refine AWP.condT ?_ ?_); focus (simp only [ev, lk_cons, ↓reduceIte, Nat.reduceEqDiff]; done))
        | ((with_reducible refine AWP.condF ?_ ?_); focus (simp only [ev, lk_cons, ↓reduceIte, Nat.reduceEqDiff]; done))
        | simp only [go_sem, ↓reduceIte, Nat.reduceEqDiff, reduceCtorEq, Nat.reduceAdd, Int.reduceEq, Int.reduceBNe, Int.reduceBEq, Int.reduceToNat, Int.reduceLT, Int.reduceLE, Int.reduceGT, Int.reduceGE, Nat.reduceSub, Nat.reduceBEq, Nat.reduceBNe, Int.reduceAdd, Int.reduceSub, Int.reduceMul, Int.reduceNeg, Nat.reduceMul, Nat.reduceLeDiff, Nat.reduceLT, hc2', hfl', hwn]
        | simp (disch := omega) only [wi64, wu8, wu16, wu32, wu64, Int.tdiv_eq_ediv_of_nonneg, Int.tmod_eq_emod_of_nonneg]
        | with_reducible_and_instances exact finR
        | ((with_reducible refine finR' ?_ ?_) <;> rfl)
        | ((with_reducible refine finD hsc (NRel.of_plain ?_)); exact rfl)
      exact ⟨(m + 1, H1 ++ (bx :: X), vo, jo), Weak.env (by simp [envIn, lk_cons, wth_some]), by dsimp only; omega, hfr, by dsimp only; rw [hdd]; exact hOx, by dsimp only; rw [hdd]; exact hj, by dsimp only; omega⟩
    · have hfl' : decide (l[m] ∈ l.take m) = false := decide_eq_false hfl
      have hdd : ddN l (m + 1) = ddN l m ++ [l[m]] := by rw [ddN, List.getElem?_eq_getElem hc]; simp only; rw [if_neg hfl]
      have hdl := ddN_len l m
      repeat first
        | with_reducible refine AWP.seq ?_
        | ((with_reducible refine AWP.region ?_ ?_); exact rfl)
        | with_reducible refine AWP.block ?_
        | with_reducible refine AWP.skip ?_
        | with_reducible refine AWP.exit ?_
        | with_reducible refine AWP.ret ?_
        | with_reducible refine AWP.label ?_
        | with_reducible refine AWP.goto ?_
        | ((with_reducible refine AWP.condT ?_ ?_); focus (simp only [ev, lk_cons, ↓reduceIte, Nat.reduceEqDiff]; done))
        | ((with_reducible refine AWP.condF ?_ ?_); focus (simp only [ev, lk_cons, ↓reduceIte, Nat.reduceEqDiff]; done))
        | simp only [go_sem, ↓reduceIte, Nat.reduceEqDiff, reduceCtorEq, Nat.reduceAdd, Int.reduceEq, Int.reduceBNe, Int.reduceBEq, Int.reduceToNat, Int.reduceLT, Int.reduceLE, Int.reduceGT, Int.reduceGE, Nat.reduceSub, Nat.reduceBEq, Nat.reduceBNe, Int.reduceAdd, Int.reduceSub, Int.reduceMul, Int.reduceNeg, Nat.reduceMul, Nat.reduceLeDiff, Nat.reduceLT, hc2', hfl', hwn, hbxg]
        | simp (disch := omega) only [wi64, wu8, wu16, wu32, wu64, Int.tdiv_eq_ediv_of_nonneg, Int.tmod_eq_emod_of_nonneg]
        | with_reducible_and_instances exact finR
        | ((with_reducible refine finR' ?_ ?_) <;> rfl)
        | ((with_reducible refine finD hsc (NRel.of_plain ?_)); exact rfl)
      obtain ⟨H2, hH2⟩ : ∃ H2 : AHeap, H1 ++ (bx :: (X ++ [AObj.cells [.string (bs l[m].id), .int .i64 l[m].a.fam, .string (bs l[m].a.ip), .int .i64 l[m].a.port] ⟨46, 0, true, 0, none⟩])) = H2 := ⟨_, rfl⟩
      have hO2 : OwnR H2 46 4 ((ddN l m).map ndC) vo jo := by rw [← hH2]; exact hO.more _
      have hf2 : Frm [] H H2 := by rw [← hH2]; exact hf.trans (Frm.app (S := [])) (by simp)
      have hl2 : H.length ≤ H2.length := hf2.1
      rw [hH2]
      refine appendTo_R (l := (ddN l m).map ndC) hO2 (by decide) (fun r hr => by obtain ⟨x, _, rfl⟩ := List.mem_map.1 hr; rfl) (by rw [List.length_map]; omega) (by rw [List.length_map]; omega) ?_
      have hgrew := OwnR.grew (H := H2) (e := 46) (m := 4) (j := jo) (l := (ddN l m).map ndC) (x := ndC l[m])
      unfold ndC at hgrew ⊢
      repeat first
        | with_reducible refine AWP.seq ?_
        | ((with_reducible refine AWP.region ?_ ?_); exact rfl)
        | with_reducible refine AWP.block ?_
        | with_reducible refine AWP.skip ?_
        | with_reducible refine AWP.exit ?_
        | with_reducible refine AWP.ret ?_
        | with_reducible refine AWP.label ?_
        | with_reducible refine AWP.goto ?_
        | ((with_reducible refine AWP.condT ?_ ?_); focus (simp only [ev, lk_cons, ↓reduceIte, Nat.reduceEqDiff]; done))
        | ((with_reducible refine AWP.condF ?_ ?_); focus (simp only [ev, lk_cons, ↓reduceIte, Nat.reduceEqDiff]; done))
        | simp only [go_sem, ↓reduceIte, Nat.reduceEqDiff, reduceCtorEq, Nat.reduceAdd, Int.reduceEq, Int.reduceBNe, Int.reduceBEq, Int.reduceToNat, Int.reduceLT, Int.reduceLE, Int.reduceGT, Int.reduceGE, Nat.reduceSub, Nat.reduceBEq, Nat.reduceBNe, Int.reduceAdd, Int.reduceSub, Int.reduceMul, Int.reduceNeg, Nat.reduceMul, Nat.reduceLeDiff, Nat.reduceLT, hwn]
        | simp (disch := omega) only [wi64, wu8, wu16, wu32, wu64, Int.tdiv_eq_ediv_of_nonneg, Int.tmod_eq_emod_of_nonneg]
        | with_reducible_and_instances exact finR
        | ((with_reducible refine finR' ?_ ?_) <;> rfl)
        | ((with_reducible refine finD hsc (NRel.of_plain ?_)); exact rfl)
      refine ⟨(m + 1, grown H2 ((ddN l m).map ndC) jo ++ [.cells ((ddN l m).map ndC ++ [ndC l[m]]).flatten ⟨46, 4, true, 0, none⟩], .slice (some ⟨H2.length, 0, none⟩) (((ddN l m).map ndC).length + 1) (((ddN l m).map ndC).length + 1), H2.length), ?_, by dsimp only; omega, ?_, ?_, fun _ => hl2, by dsimp only; omega⟩
      · exact Weak.env (by simp [envIn, lk_cons, wth_some])
      · exact Frm.grown hf2 (fun h => hj (fun e => h (by rw [e]; rfl))) _
      · dsimp only
        rw [hdd, List.map_append]
        exact hgrew
end Go.Proofs.Ytdbdnknnaekbhaa

