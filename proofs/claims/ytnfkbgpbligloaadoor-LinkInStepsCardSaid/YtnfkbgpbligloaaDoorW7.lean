/-
  Links: Take.
-/
import Derived.Test.YtnfkbgpbligloaaDoorW6
set_option linter.unusedVariables false
set_option linter.unusedSimpArgs false
set_option maxRecDepth 20000
set_option maxHeartbeats 4000000
namespace Go.Proofs.YtnfkbgpbligloaaDoor
open Go Go.Aw Go.Proofs
def pcsC (l : List Pc) : List Value := l.flatMap Pc.c
theorem pcsC_len (l : List Pc) : (pcsC l).length = l.length * 6 := by
  induction l with
  | nil => rfl
  | cons u us ih =>
    have : (pcsC (u :: us)) = u.c ++ pcsC us := rfl
    rw [this, List.length_append, ih, List.length_cons]; simp [Pc.c]; omega
theorem pcsC_snoc (l : List Pc) (w : Pc) : pcsC (l ++ [w]) = pcsC l ++ w.c := by
  unfold pcsC; rw [List.flatMap_append]; simp
theorem tw (now : Int) : ∀ (l : List Cm) (n : Nat), n ≤ l.length → (∀ x ∈ l.take n, x.time ≤ now) → (∀ h : n < l.length, ¬ l[n].time ≤ now) → l.take n = l.takeWhile (fun x => decide (x.time ≤ now)) ∧ l.drop n = l.dropWhile (fun x => decide (x.time ≤ now))
  | [], n, h1, h2, h3 => by simp
  | x :: l, 0, h1, h2, h3 => by
    have := h3 (by simp)
    simp only [List.getElem_cons_zero] at this
    simp [this]
  | x :: l, n + 1, h1, h2, h3 => by
    have hx : x.time ≤ now := h2 x (by simp)
    obtain ⟨e1, e2⟩ := tw now l n (by simpa using h1) (fun y hy => h2 y (by simp [hy])) (fun h => by have := h3 (by simpa using h); rwa [List.getElem_cons_succ] at this)
    simp [hx, e1, e2]
structure TakeR (H : AHeap) (i : Nat) (S : List Nat) (s : Lk) (now : Int) (l : List Cm) (vo : Value) (H1 : AHeap) : Prop where
  perm : l.Perm s.under
  sorted : l.Pairwise fun a b => ¬ bef b a
  out : ∃ So, OwnL H1 44 6 (l.takeWhile fun x => decide (x.time ≤ now)).length (pcsC ((l.takeWhile fun x => decide (x.time ≤ now)).map (·.p))) vo So ∧ ∀ x ∈ So, H.length ≤ x
  toL : LkTo H i S { s with now := now, under := l.dropWhile (fun x => decide (x.time ≤ now)), arr := s.arr + (l.takeWhile fun x => decide (x.time ≤ now)).length } H1
theorem own_at {H : AHeap} {us : List (Cm × Value)} {vu : Value} {Su : List Nat} {n m : Nat} (hm : m = us.length - n) (h : OwnL H 66 4 m (cmsC (us.drop n)) vu Su) (hn : n < us.length) :
    ∃ j o cs, vu = .slice (some ⟨j, o, none⟩) m m ∧ H[j]? = some (.cells cs ⟨66, 4, true, 0, none⟩) ∧ cs.length = o + m * 4 ∧ cs.drop o = cmsC (us.drop n) ∧ Su = [j] ∧ cs[o]? = some (.int .i64 us[n].1.time) ∧ cs[o + 3]? = some us[n].2 ∧ cs.drop (o + 4) = cmsC (us.drop (n + 1)) := by
  rcases h with ⟨h1, _⟩ | ⟨j, o, cs, rfl, hj, hcl, hd, rfl⟩
  · omega
  have e : us.drop n = us[n] :: us.drop (n + 1) := List.drop_eq_getElem_cons hn
  have e2 : cs.drop o = cmC us[n] ++ cmsC (us.drop (n + 1)) := by rw [hd, e]; rfl
  refine ⟨j, o, cs, rfl, hj, hcl, hd, rfl, ?_, ?_, ?_⟩
  · have := congrArg (·[0]?) e2
    simpa [cmC] using this
  · have := congrArg (·[3]?) e2
    simpa [cmC] using this
  · rw [← List.drop_drop, e2]; rfl
theorem Take {H : AHeap} {i : Nat} {s : Lk} {S : List Nat} (h : LkAt H i s S) (now : Int) (hb : badT s now = false) (hB : ∀ x ∈ s.under, x.inB ∧ 0 ≤ x.p.time ∧ x.p.time < 1152921504606846976) (ha : 0 ≤ s.arr ∧ s.arr < 1152921504606846976) (hsz : s.under.length < 1099511627776) :
    AC Tryd.prog 9 [.pointer (some ⟨i, 0, none⟩), .int .i64 now] H (fun r H1 => ∃ l vo, r = .ret (.tuple ⟨[vo, .int .i64 0]⟩) ∧ TakeR H i S s now l vo H1) := by
  have ht := tellOk h now hb
  refine AC.enter Tryd.func9 rfl (by kernel_rfl) 63 rfl [.tmp 4, .tmp 5] rfl (by simp) fun hsc B => ?_
  repeat first
    | with_reducible refine AWP.seq ?_
    | ((with_reducible refine AWP.region ?_ ?_); exact rfl)
    | with_reducible refine AWP.block ?_
    | with_reducible refine AWP.skip ?_
    | with_reducible refine AWP.exit ?_
    | with_reducible refine AWP.ret ?_
    | with_reducible refine AWP.label ?_
    | with_reducible refine AWP.goto ?_
    | ((with_reducible refine AWP.condT ?_ ?_); focus (simp only [ev, lk_cons, ↓reduceIte, Nat.reduceEqDiff]; done))
    | ((with_reducible refine AWP.condF ?_ ?_); focus (simp only [ev, lk_cons, ↓reduceIte, Nat.reduceEqDiff]; done))
    | simp only [go_sem, ↓reduceIte, Nat.reduceEqDiff, reduceCtorEq, Nat.reduceAdd, Int.reduceEq, Int.reduceBNe, Int.reduceBEq, Int.reduceToNat, Int.reduceLT, Int.reduceLE, Int.reduceGT, Int.reduceGE, Nat.reduceSub, Nat.reduceBEq, Nat.reduceBNe, Int.reduceAdd, Int.reduceSub, Int.reduceMul, Int.reduceNeg, Nat.reduceMul, Nat.reduceLeDiff, Nat.reduceLT]
    | simp (disch := omega) only [wi64, wu8, wu16, wu32, wu64, Int.tdiv_eq_ediv_of_nonneg, Int.tmod_eq_emod_of_nonneg]
    | with_reducible_and_instances exact finR
    | ((with_reducible refine finR' ?_ ?_) <;> rfl)
    | ((with_reducible refine finD hsc (NRel.of_plain ?_)); exact rfl)
  refine ht.use fun H1 ⟨S1, hA, hf1, hs1⟩ => ?_
  obtain ⟨vn, vw, vu, us, Su, hp, rfl⟩ := hA
  have hi := hp.at_
  have hund : us.map (·.1) = s.under := hp.und
  have hul : us.length = s.under.length := by rw [← hund, List.length_map]
  have hsort := sortU hp.own (fun u hu => (hB u.1 (hund ▸ List.mem_map_of_mem hu)).1) (fun u hu => (hp.give u hu).flat) (by omega)
  unfold Lk.c at hi
  simp only at hi
  repeat first
    | with_reducible refine AWP.seq ?_
    | ((with_reducible refine AWP.region ?_ ?_); exact rfl)
    | with_reducible refine AWP.block ?_
    | with_reducible refine AWP.skip ?_
    | with_reducible refine AWP.exit ?_
    | with_reducible refine AWP.ret ?_
    | with_reducible refine AWP.label ?_
    | with_reducible refine AWP.goto ?_
    | ((with_reducible refine AWP.condT ?_ ?_); focus (simp only [ev, lk_cons, ↓reduceIte, Nat.reduceEqDiff]; done))
    | ((with_reducible refine AWP.condF ?_ ?_); focus (simp only [ev, lk_cons, ↓reduceIte, Nat.reduceEqDiff]; done))
    | simp only [go_sem, ↓reduceIte, Nat.reduceEqDiff, reduceCtorEq, Nat.reduceAdd, Int.reduceEq, Int.reduceBNe, Int.reduceBEq, Int.reduceToNat, Int.reduceLT, Int.reduceLE, Int.reduceGT, Int.reduceGE, Nat.reduceSub, Nat.reduceBEq, Nat.reduceBNe, Int.reduceAdd, Int.reduceSub, Int.reduceMul, Int.reduceNeg, Nat.reduceMul, Nat.reduceLeDiff, Nat.reduceLT, hi]
    | simp (disch := omega) only [wi64, wu8, wu16, wu32, wu64, Int.tdiv_eq_ediv_of_nonneg, Int.tmod_eq_emod_of_nonneg]
    | with_reducible_and_instances exact finR
    | ((with_reducible refine finR' ?_ ?_) <;> rfl)
    | ((with_reducible refine finD hsc (NRel.of_plain ?_)); exact rfl)
  refine hsort.use fun H2 ⟨us', hperm, hsrt, hO, hf2⟩ => ?_
  have hsu : ∀ x ∈ Su, x ∈ i :: Su := fun x hx => List.mem_cons_of_mem _ hx
  have hx2 := Frm.fix hf2 (OwnL.mut hp.own)
  have hul' : us'.length < 1099511627776 := by rw [hperm.length_eq]; omega
  have hgv : ∀ u ∈ us', Gv H2 u.2 u.1.p := fun u hu => (hp.give u (hperm.mem_iff.1 hu)).fix hx2
  have hbd : ∀ u ∈ us', u.1.inB ∧ 0 ≤ u.1.p.time ∧ u.1.p.time < 1152921504606846976 := fun u hu => hB u.1 (hund ▸ List.mem_map_of_mem (hperm.mem_iff.1 hu))
  let st : Nat → Lk := fun n => { s with now := now, under := (us'.drop n).map (·.1), arr := s.arr + n }
  have hP0 : LkP H2 i (st 0) vn vw vu us' Su := by
    refine ⟨?_, hp.nums.fix hx2, hp.wait.fix hx2, by simp [st], hO, hgv⟩
    have := hf2.get hp.at_ hp.out
    rw [this]; simp [st, Lk.c]
  repeat first
    | with_reducible refine AWP.seq ?_
    | ((with_reducible refine AWP.region ?_ ?_); exact rfl)
    | with_reducible refine AWP.block ?_
    | with_reducible refine AWP.skip ?_
    | with_reducible refine AWP.exit ?_
    | with_reducible refine AWP.ret ?_
    | with_reducible refine AWP.label ?_
    | with_reducible refine AWP.goto ?_
    | ((with_reducible refine AWP.condT ?_ ?_); focus (simp only [ev, lk_cons, ↓reduceIte, Nat.reduceEqDiff]; done))
    | ((with_reducible refine AWP.condF ?_ ?_); focus (simp only [ev, lk_cons, ↓reduceIte, Nat.reduceEqDiff]; done))
    | simp only [go_sem, ↓reduceIte, Nat.reduceEqDiff, reduceCtorEq, Nat.reduceAdd, Int.reduceEq, Int.reduceBNe, Int.reduceBEq, Int.reduceToNat, Int.reduceLT, Int.reduceLE, Int.reduceGT, Int.reduceGE, Nat.reduceSub, Nat.reduceBEq, Nat.reduceBNe, Int.reduceAdd, Int.reduceSub, Int.reduceMul, Int.reduceNeg, Nat.reduceMul, Nat.reduceLeDiff, Nat.reduceLT]
    | simp (disch := omega) only [wi64, wu8, wu16, wu32, wu64, Int.tdiv_eq_ediv_of_nonneg, Int.tmod_eq_emod_of_nonneg]
    | with_reducible_and_instances exact finR
    | ((with_reducible refine finR' ?_ ?_) <;> rfl)
    | ((with_reducible refine finD hsc (NRel.of_plain ?_)); exact rfl)
  refine AWP.loopP (fun p : Nat × Value × Value × AHeap => ⟨[(0, .pointer (some ⟨i, 0, none⟩)), (1, .int .i64 now), (7, p.2.1)], [], p.2.2.2⟩)
    (fun p => p.1 ≤ us'.length ∧ (∀ u ∈ us'.take p.1, u.1.time ≤ now) ∧ LkP p.2.2.2 i (st p.1) vn vw p.2.2.1 (us'.drop p.1) Su ∧ Frm (i :: Su) H1 p.2.2.2 ∧ ∃ So, OwnL p.2.2.2 44 6 p.1 (pcsC ((us'.take p.1).map (·.1.p))) p.2.1 So ∧ ∀ x ∈ So, H1.length ≤ x)
    (fun p => us'.length - p.1) (0, .slice none 0 0, vu, H2) ?_ ⟨Nat.zero_le _, by simp, hP0, hf2.mono hsu, [], .inl ⟨rfl, rfl, rfl, rfl⟩, by simp⟩ ?_
  · exact Weak.env (by simp [envIn, lk_cons, wth_some])
  rintro ⟨n, vo, vu', H3⟩ ⟨hn, htk, hP, hf3, So, hOo, hSo⟩
  simp only at hn htk hP hf3 hOo hSo ⊢
  have hi3 := hP.at_
  have hil3 := lt_of_get hi3
  unfold Lk.c at hi3
  simp only [st] at hi3
  have q1 : ∀ H' K, lenW Tryd.prog 50 vu' H' K = K (.int .i64 ((us'.drop n).length : Nat)) H' := fun H' K => OwnL.lenT hP.own (by simp only [go_sem, ↓reduceIte, Nat.reduceEqDiff, reduceCtorEq, Nat.reduceAdd, Int.reduceEq, Int.reduceBNe, Int.reduceBEq, Int.reduceToNat, Int.reduceLT, Int.reduceLE, Int.reduceGT, Int.reduceGE, Nat.reduceSub, Nat.reduceBEq, Nat.reduceBNe, Int.reduceAdd, Int.reduceSub, Int.reduceMul, Int.reduceNeg, Nat.reduceMul, Nat.reduceLeDiff, Nat.reduceLT])
  have hdl : (us'.drop n).length = us'.length - n := List.length_drop
  have hdl1 : (us'.drop (n + 1)).length = us'.length - (n + 1) := List.length_drop
  have hO3 := hP.own
  have hn3 := hP.nums
  have hw3 := hP.wait
  have hg3' := hP.give
  have hfin : (∀ u, us'[n]? = some u → ¬ u.1.time ≤ now) → TakeR H i S s now (us'.map (·.1)) vo H3 := fun hlast => by
    obtain ⟨e1, e2⟩ := tw now (us'.map (·.1)) n (by simpa using hn) (fun x hx => by rw [← List.map_take] at hx; obtain ⟨u, hu, rfl⟩ := List.mem_map.1 hx; exact htk u hu) (fun h => by rw [List.length_map] at h; rw [List.getElem_map]; exact hlast _ (List.getElem?_eq_getElem h))
    have hl : ((us'.map (·.1)).take n).length = n := by rw [List.length_take, List.length_map]; omega
    refine ⟨hund ▸ hperm.map _, by rw [List.pairwise_map]; exact hsrt, ⟨So, ?_, fun x hx => by have := hSo x hx; have := hf1.1; omega⟩, ?_⟩
    · rw [← e1, hl, ← List.map_take, List.map_map]; exact hOo
    · rw [← e1, ← e2, hl, ← List.map_drop]
      exact LkTo.trans hf1 hs1 ⟨i :: Su, ⟨vn, vw, vu', us'.drop n, Su, hP, rfl⟩, hf3, fun t ht => .inl ht⟩
  rw [hdl] at q1 hO3
  by_cases hc : n < us'.length
  · obtain ⟨m, hm⟩ : ∃ m, us'.length - n = m + 1 := ⟨us'.length - n - 1, by omega⟩
    rw [hm] at q1 hO3
    have hc' : ((((m + 1 : Nat)) : Int) > 0) = True := by simp <;> omega
    obtain ⟨j, o, cs, rfl, hj, hcl, hd, hSu, hg0, hg3, hd4⟩ := own_at (by omega) hO3 hc
    have hjl := lt_of_get hj
    have hu := List.getElem_mem hc
    have hdn : us'.drop n = us'[n] :: us'.drop (n + 1) := List.drop_eq_getElem_cons hc
    have hgive : Gv H3 us'[n].2 us'[n].1.p := hP.give _ (by rw [hdn]; exact List.mem_cons_self ..)
    have hbn := hbd _ hu
    have htk1 : us'.take (n + 1) = us'.take n ++ [us'[n]] := by rw [List.take_add_one, List.getElem?_eq_getElem hc]; rfl
    have hjS : j ∈ Su := by rw [hSu]; exact List.mem_cons_self ..
    have hji : j ≠ i := fun e => hp.out (e ▸ hjS)
    have hjH : j < H1.length := hp.own.lt j hjS
    have hiH : i < H1.length := lt_of_get hp.at_
    by_cases hle : us'[n].1.time ≤ now
    · obtain ⟨fg, ag, hfv, hcall⟩ := hgive.call hbn.2
      have hp6 : us'[n].1.p.c = [.int .i64 us'[n].1.p.id, .int .i64 us'[n].1.p.size, .int .i64 us'[n].1.p.sent, .int .i64 us'[n].1.p.begun, .int .i64 us'[n].1.p.time, .string (bs us'[n].1.p.body)] := rfl
      rw [hfv] at hg3
      rw [hp6] at hcall
      repeat first
        | with_reducible refine AWP.seq ?_
        | ((with_reducible refine AWP.region ?_ ?_); exact rfl)
        | with_reducible refine AWP.block ?_
        | with_reducible refine AWP.skip ?_
        | with_reducible refine AWP.exit ?_
        | with_reducible refine AWP.ret ?_
        | with_reducible refine AWP.label ?_
        | with_reducible refine AWP.goto ?_
        | ((with_reducible refine AWP.condT ?_ ?_); focus (simp only [ev, lk_cons, ↓reduceIte, Nat.reduceEqDiff]; done))
        | ((with_reducible refine AWP.condF ?_ ?_); focus (simp only [ev, lk_cons, ↓reduceIte, Nat.reduceEqDiff]; done))
        | with_reducible refine hcall.use ?_
        | simp only [go_sem, ↓reduceIte, Nat.reduceEqDiff, reduceCtorEq, Nat.reduceAdd, Int.reduceEq, Int.reduceBNe, Int.reduceBEq, Int.reduceToNat, Int.reduceLT, Int.reduceLE, Int.reduceGT, Int.reduceGE, Nat.reduceSub, Nat.reduceBEq, Nat.reduceBNe, Int.reduceAdd, Int.reduceSub, Int.reduceMul, Int.reduceNeg, Nat.reduceMul, Nat.reduceLeDiff, Nat.reduceLT, hi3, q1, hc', hj, hjl, hg0, hg3, hle]
        | simp (disch := omega) only [wi64, wu8, wu16, wu32, wu64, Int.tdiv_eq_ediv_of_nonneg, Int.tmod_eq_emod_of_nonneg]
        | with_reducible_and_instances exact finR
        | ((with_reducible refine finR' ?_ ?_) <;> rfl)
        | ((with_reducible refine finD hsc (NRel.of_plain ?_)); exact rfl)
      refine (hOo.frm (T := []) (Frm.app) (by simp)).append (by decide) (by omega) (by omega) fun H4 hlen hH4 => ?_
      rw [List.length_append, List.length_singleton] at hlen
      have hiS : i ∉ So := fun h => by have := hSo i h; omega
      have hjS2 : j ∉ So := fun h => by have := hSo j h; omega
      have hi4 := (hH4 i hiS).trans ((hgetl hil3).trans hi3)
      have hj4 := (hH4 j hjS2).trans ((hgetl hjl).trans hj)
      have hil4 := lt_of_get hi4
      have hjl4 := lt_of_get hj4
      have hwa : IntKind.i64.wrap (s.arr + (n : Int) + 1) = s.arr + ((n + 1 : Nat) : Int) := by rw [wi64 (by omega)]; omega
      have h1m : (1 : Int) ≤ ((m + 1 : Nat) : Int) := by omega
      repeat first
        | with_reducible refine AWP.seq ?_
        | ((with_reducible refine AWP.region ?_ ?_); exact rfl)
        | with_reducible refine AWP.block ?_
        | with_reducible refine AWP.skip ?_
        | with_reducible refine AWP.exit ?_
        | with_reducible refine AWP.ret ?_
        | with_reducible refine AWP.label ?_
        | with_reducible refine AWP.goto ?_
        | ((with_reducible refine AWP.condT ?_ ?_); focus (simp only [ev, lk_cons, ↓reduceIte, Nat.reduceEqDiff]; done))
        | ((with_reducible refine AWP.condF ?_ ?_); focus (simp only [ev, lk_cons, ↓reduceIte, Nat.reduceEqDiff]; done))
        | simp only [go_sem, ↓reduceIte, Nat.reduceEqDiff, reduceCtorEq, Nat.reduceAdd, Int.reduceEq, Int.reduceBNe, Int.reduceBEq, Int.reduceToNat, Int.reduceLT, Int.reduceLE, Int.reduceGT, Int.reduceGE, Nat.reduceSub, Nat.reduceBEq, Nat.reduceBNe, Int.reduceAdd, Int.reduceSub, Int.reduceMul, Int.reduceNeg, Nat.reduceMul, Nat.reduceLeDiff, Nat.reduceLT, hi4, hil4, hgetl, hsetl, hj4, hjl4, h1m, hwa, hji, Int.le_refl, Nat.add_one_sub_one]
        | simp (disch := omega) only [wi64, wu8, wu16, wu32, wu64, Int.tdiv_eq_ediv_of_nonneg, Int.tmod_eq_emod_of_nonneg]
        | with_reducible_and_instances exact finR
        | ((with_reducible refine finR' ?_ ?_) <;> rfl)
        | ((with_reducible refine finD hsc (NRel.of_plain ?_)); exact rfl)
      have hf4 : Frm So H3 H4 := ⟨by omega, fun x hx hn => by rw [hH4 x hn, hgetl hx]⟩
      have hf5 := fun o X => ((hf3.trans hf4 (fun t ht => .inr (hSo t ht))).set (i := i) (o := o) (.inl (List.mem_cons_self ..))).more (X := X)
      have hx3 : Fix H3 H4 := Frm.fix hf4 (by
        intro t ht
        rcases hOo with ⟨_, _, _, rfl⟩ | ⟨y, z, c, _, hy, _, _, rfl⟩
        · simp at ht
        · rw [List.mem_singleton.1 ht]; exact ⟨_, _, hy, rfl⟩)
      have hx4 := fun o X => hx3.trans (Frm.fix ((Frm.refl [i] H4).set (i := i) (o := o) (.inl (by simp)) |>.more (X := X)) (fun t ht => by rw [List.mem_singleton.1 ht]; exact ⟨_, _, hi4, rfl⟩))
      have hpc : pcsC ((us'.take (n + 1)).map (·.1.p)) = pcsC ((us'.take n).map (·.1.p)) ++ [.int .i64 us'[n].1.p.id, .int .i64 us'[n].1.p.size, .int .i64 us'[n].1.p.sent, .int .i64 us'[n].1.p.begun, .int .i64 us'[n].1.p.time, .string (bs us'[n].1.p.body)] := by
        rw [htk1, List.map_append]; exact pcsC_snoc ..
      have hm1 : us'.length - (n + 1) = m := by omega
      have hset : (H4.set i (.cells ((st (n + 1)).c vn vw (.slice (some ⟨j, o + 4, none⟩) m m)) ⟨52, 0, true, 0, none⟩) : AHeap)[j]? = some (.cells cs ⟨66, 4, true, 0, none⟩) := by rw [hset_ne hji.symm]; exact hj4
      have hls : (H4.set i (.cells ((st (n + 1)).c vn vw (.slice (some ⟨j, o + 4, none⟩) m m)) ⟨52, 0, true, 0, none⟩) : AHeap).length = H3.length + 1 := by rw [List.length_set, hlen]
      refine ⟨(n + 1, .slice (some ⟨H3.length + 1, 0, none⟩) (n + 1) (n + 1), .slice (some ⟨j, o + 4, none⟩) m m, H4.set i (.cells ((st (n + 1)).c vn vw (.slice (some ⟨j, o + 4, none⟩) m m)) ⟨52, 0, true, 0, none⟩) ++ [.cells (pcsC ((us'.take (n + 1)).map (·.1.p))) ⟨44, 6, true, 0, none⟩]), ?_, hc, ?_, ⟨?_, hn3.fix (hx4 _ _), hw3.fix (hx4 _ _), rfl, ?_, fun u hu => (hg3' u (by rw [hdn]; exact List.mem_cons_of_mem _ hu)).fix (hx4 _ _)⟩, hf5 _ _, ⟨[H3.length + 1], ?_, fun x hx => by have := hf3.1; rw [List.mem_singleton.1 hx]; omega⟩, by show us'.length - (n + 1) < _; omega⟩
      · rw [hpc]
        exact Weak.env (by simp [envIn, lk_cons, wth_some])
      · intro u hu
        simp only [htk1, List.mem_append, List.mem_singleton] at hu
        rcases hu with hu | rfl
        · exact htk u hu
        · exact hle
      · exact (hgetl (by rw [List.length_set]; exact hil4)).trans (hset_self hil4)
      · refine .inr ⟨j, o + 4, cs, by rw [hdl1, hm1], (hgetl (by rw [List.length_set]; exact hjl4)).trans hset, by rw [hdl1]; omega, hd4, hSu⟩
      · refine .inr ⟨H3.length + 1, 0, _, rfl, hget0 hls, ?_, rfl, rfl⟩
        rw [pcsC_len, List.length_map, List.length_take]; omega
    · repeat first
        | with_reducible refine AWP.seq ?_
        | ((with_reducible refine AWP.region ?_ ?_); exact rfl)
        | with_reducible refine AWP.block ?_
        | with_reducible refine AWP.skip ?_
        | with_reducible refine AWP.exit ?_
        | with_reducible refine AWP.ret ?_
        | with_reducible refine AWP.label ?_
        | with_reducible refine AWP.goto ?_
        | ((with_reducible refine AWP.condT ?_ ?_); focus (simp only [ev, lk_cons, ↓reduceIte, Nat.reduceEqDiff]; done))
        | ((with_reducible refine AWP.condF ?_ ?_); focus (simp only [ev, lk_cons, ↓reduceIte, Nat.reduceEqDiff]; done))
        | simp only [go_sem, ↓reduceIte, Nat.reduceEqDiff, reduceCtorEq, Nat.reduceAdd, Int.reduceEq, Int.reduceBNe, Int.reduceBEq, Int.reduceToNat, Int.reduceLT, Int.reduceLE, Int.reduceGT, Int.reduceGE, Nat.reduceSub, Nat.reduceBEq, Nat.reduceBNe, Int.reduceAdd, Int.reduceSub, Int.reduceMul, Int.reduceNeg, Nat.reduceMul, Nat.reduceLeDiff, Nat.reduceLT, hi3, q1, hc', hj, hjl, hg0, hle]
        | simp (disch := omega) only [wi64, wu8, wu16, wu32, wu64, Int.tdiv_eq_ediv_of_nonneg, Int.tmod_eq_emod_of_nonneg]
        | with_reducible_and_instances exact finR
        | ((with_reducible refine finR' ?_ ?_) <;> rfl)
        | ((with_reducible refine finD hsc (NRel.of_plain ?_)); exact rfl)
      exact ⟨_, _, .refl _ _ _, _, _, rfl, hfin fun u e => by rw [List.getElem?_eq_getElem hc] at e; cases e; exact hle⟩
  · have hc' : (((us'.length - n : Nat) : Int) > 0) = False := by simp <;> omega
    repeat first
      | with_reducible refine AWP.seq ?_
      | ((with_reducible refine AWP.region ?_ ?_); exact rfl)
      | with_reducible refine AWP.block ?_
      | with_reducible refine AWP.skip ?_
      | with_reducible refine AWP.exit ?_
      | with_reducible refine AWP.ret ?_
      | with_reducible refine AWP.label ?_
      | with_reducible refine AWP.goto ?_
      | ((with_reducible refine AWP.condT ?_ ?_); focus (simp only [ev, lk_cons, ↓reduceIte, Nat.reduceEqDiff]; done))
      | ((with_reducible refine AWP.condF ?_ ?_); focus (simp only [ev, lk_cons, ↓reduceIte, Nat.reduceEqDiff]; done))
      | simp only [go_sem, ↓reduceIte, Nat.reduceEqDiff, reduceCtorEq, Nat.reduceAdd, Int.reduceEq, Int.reduceBNe, Int.reduceBEq, Int.reduceToNat, Int.reduceLT, Int.reduceLE, Int.reduceGT, Int.reduceGE, Nat.reduceSub, Nat.reduceBEq, Nat.reduceBNe, Int.reduceAdd, Int.reduceSub, Int.reduceMul, Int.reduceNeg, Nat.reduceMul, Nat.reduceLeDiff, Nat.reduceLT, hi3, q1, hc']
      | simp (disch := omega) only [wi64, wu8, wu16, wu32, wu64, Int.tdiv_eq_ediv_of_nonneg, Int.tmod_eq_emod_of_nonneg]
      | with_reducible_and_instances exact finR
      | ((with_reducible refine finR' ?_ ?_) <;> rfl)
      | ((with_reducible refine finD hsc (NRel.of_plain ?_)); exact rfl)
    exact ⟨_, _, .refl _ _ _, _, _, rfl, hfin fun u e => absurd (lt_of_get e) hc⟩
end Go.Proofs.YtnfkbgpbligloaaDoor
