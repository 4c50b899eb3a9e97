/-
  Writing a link down: Text.
-/
import Derived.Test.YtnfkbgpbligloaaDoorWG
set_option linter.unusedVariables false
set_option linter.unusedSimpArgs false
set_option maxRecDepth 20000
set_option maxHeartbeats 4000000
namespace Go.Proofs.YtnfkbgpbligloaaDoor
open Go Go.Aw Go.Proofs Go.Shelf
def head1 (s : Lk) : List Int := [s.pipe.delay, s.pipe.rate, s.pipe.room, s.pipe.loss, s.pipe.dbl, s.pipe.jit]
def head2 (s : Lk) : List Int := [s.now, s.free, s.id, s.put, s.arr, s.lost, s.drop, s.dbl]
def waitL (l : List (Int × Int)) : List UInt8 := l.flatMap fun w => lineL [w.1, w.2]
def cmI (x : Cm) : List Int := [x.p.id, x.p.size, x.p.sent, x.p.begun, x.p.time, x.copy]
def cmL (x : Cm) : List UInt8 := lineL (cmI x) ++ (quo x.p.body ++ [10])
def cmsL (l : List Cm) : List UInt8 := l.flatMap cmL
def textL (s : Lk) (us : List Cm) : List UInt8 := lineL (head1 s) ++ (lineL (head2 s) ++ (lineL s.nums ++ (waitL (wq s.wait s.now) ++ ([10] ++ cmsL us))))
/-- What a link's numbers lie within. -/
structure Lk.okT (s : Lk) : Prop where
  h1 : ∀ n ∈ head1 s, i64B n
  h2 : ∀ n ∈ head2 s, i64B n
  nums : ∀ n ∈ s.nums, i64B n
  numsL : s.nums.length ≤ 100000
  wait : ∀ w ∈ s.wait, i64B w.1 ∧ i64B w.2
  waitL : s.wait.length ≤ 100000
  und : ∀ x ∈ s.under, x.inB ∧ (0 ≤ x.p.time ∧ x.p.time < 1152921504606846976) ∧ (∀ n ∈ cmI x, i64B n) ∧ x.p.body.length ≤ 65536
  undL : s.under.length ≤ 100000
theorem lineL_len (ns : List Int) (h : ∀ n ∈ ns, i64B n) : (lineL ns).length ≤ ns.length * 22 + 1 := by
  have := numsL_len ns h
  unfold lineL
  rw [List.length_append]
  simp
  exact this
/-- The state of writing: what was, is; the builder at b is new, and so is the box of the function behind it. -/
structure TxP (H : AHeap) (b : Nat) (l : List UInt8) (H2 : AHeap) (S : List Nat) : Prop where
  bld : BldS H2 b l S
  frm : Frm [] H H2
  new : ∀ t ∈ S, H.length ≤ t
  box : H2[b + 1]? = some (.cells [.func (.func 27) ⟨[]⟩ ⟨[.pointer (some ⟨b, 0, none⟩)]⟩] ⟨80, 0, true, 0, none⟩)
theorem TxP.next {H H2 H3 : AHeap} {b : Nat} {l l2 : List UInt8} {S : List Nat} (h : TxP H b l H2 S) (k : BTo H2 b S l2 H3) : ∃ S3, TxP H b l2 H3 S3 ∧ BFix H2 H3 := by
  have hf := k.bfix h.bld
  obtain ⟨S3, k1, k2, k3⟩ := k
  have hl := h.frm.1
  refine ⟨S3, ⟨k1, ⟨Nat.le_trans hl k2.1, fun j hj hn => ?_⟩, fun t ht => ?_, hf _ _ _ h.box rfl⟩, hf⟩
  · rw [k2.2 j (by omega) (fun hs => by have := h.new j hs; omega)]
    exact h.frm.2 j hj hn
  · rcases k3 t ht with h1 | h1
    · exact h.new t h1
    · omega
theorem TxP.lasts {H H2 : AHeap} {b : Nat} {l : List UInt8} {S : List Nat} (h : TxP H b l H2 S) : Lasts H H2 := fun j cs k hj _ => h.frm.get hj (by simp)
theorem TxP.more {H H2 : AHeap} {b : Nat} {l : List UInt8} {S : List Nat} (h : TxP H b l H2 S) (X : AHeap) : TxP H b l (H2 ++ X) S :=
  ⟨h.bld.frm (T := []) Frm.app (by simp), Frm.more h.frm, h.new, by rw [hgetl (lt_of_get h.box)]; exact h.box⟩
theorem waitL_len (l : List (Int × Int)) (n : Nat) (hn : l.length ≤ n) (h : ∀ w ∈ l, i64B w.1 ∧ i64B w.2) : (waitL l).length ≤ n * 45 := by
  have : (waitL l).length ≤ l.length * 45 := by
    clear hn
    induction l with
    | nil => simp [waitL]
    | cons w l ih =>
      have e : waitL (w :: l) = lineL [w.1, w.2] ++ waitL l := rfl
      have h1 := ih fun x hx => h x (List.mem_cons_of_mem _ hx)
      have h2 := h w (List.mem_cons_self ..)
      have h3 := lineL_len [w.1, w.2] (by simp only [List.mem_cons, List.not_mem_nil, or_false]; rintro x (rfl | rfl); exact h2.1; exact h2.2)
      rw [e, List.length_append, List.length_cons (a := w)]
      simp at h3
      omega
  omega
theorem BTo.loop {H H2 : AHeap} {b : Nat} {S : List Nat} {l l2 : List UInt8} (k : BTo H b S l2 H2) (h : BldS H b l S) {j : Nat} {L : ALoop} (hj : H[j]? = some (.loop L)) : H2[j]? = some (.loop L) := by
  obtain ⟨S2, _, hf, _⟩ := k
  refine hf.get hj fun hs => ?_
  obtain ⟨cs, k, e, _⟩ := h.kinds j hs
  rw [hj] at e; cases e
theorem cmsL_len (l : List Cm) (h : ∀ x ∈ l, (∀ n ∈ cmI x, i64B n) ∧ x.p.body.length ≤ 65536) : (cmsL l).length ≤ l.length * 656000 := by
  induction l with
  | nil => simp [cmsL]
  | cons x l ih =>
    have e : cmsL (x :: l) = cmL x ++ cmsL l := rfl
    have h1 := ih fun y hy => h y (List.mem_cons_of_mem _ hy)
    have h2 := h x (List.mem_cons_self ..)
    have h3 := lineL_len (cmI x) h2.1
    rw [show (cmI x).length = 6 from rfl] at h3
    have h4 := quoteL_len Lib.goPrintTabs x.p.body
    have h5 : (cmL x).length = (lineL (cmI x)).length + ((quo x.p.body).length + 1) := by
      unfold cmL; rw [List.length_append, List.length_append]; rfl
    have h6 : (quo x.p.body).length ≤ 10 * x.p.body.length + 2 := h4
    have h7 := h2.2
    rw [e, List.length_append, List.length_cons (a := x), h5]
    omega
theorem TxP.grow {H H2 H3 : AHeap} {b : Nat} {l : List UInt8} {S : List Nat} (h : TxP H b l H2 S) (hf : Frm [] H2 H3) : TxP H b l H3 S :=
  ⟨h.bld.frm hf (by simp), ⟨Nat.le_trans h.frm.1 hf.1, fun j hj hn => (hf.2 j (Nat.lt_of_lt_of_le hj h.frm.1) (by simp)).trans (h.frm.2 j hj hn)⟩, h.new, hf.get h.box (by simp)⟩
theorem TxP.sorted {H H2 H3 : AHeap} {b : Nat} {l : List UInt8} {S Sc : List Nat} (h : TxP H b l H2 S) (hf : Frm Sc H2 H3) (hn : ∀ t ∈ Sc, H.length ≤ t) (hk : ∀ t ∈ Sc, ∃ cs k, H2[t]? = some (.cells cs k) ∧ k.e = 66) : TxP H b l H3 S := by
  refine ⟨h.bld.frm hf fun t ht hs => ?_, ⟨Nat.le_trans h.frm.1 hf.1, fun j hj _ => (hf.2 j (Nat.lt_of_lt_of_le hj h.frm.1) (fun hs => by have := hn j hs; omega)).trans (h.frm.2 j hj (by simp))⟩, h.new, hf.get h.box fun hs => ?_⟩
  · obtain ⟨cs, k, e1, e2⟩ := hk t hs
    obtain ⟨cs', k', e3, e4⟩ := h.bld.kinds t ht
    rw [e1] at e3; cases e3
    unfold kB at e4
    rw [e2] at e4
    simp at e4
  · obtain ⟨cs, k, e1, e2⟩ := hk _ hs
    rw [h.box] at e1; cases e1
    cases e2
theorem AWP.setL {g : Cfg} {Q : AExit → ASt → Prop} {env : List (Nat × Value)} {ds : List ADef} {H : AHeap} {x : Code} {q : Nat} {o : AObj} (T : AHeap → Prop) (hq : q < H.length) (hT : T (H.set q o)) (k : ∀ H', T H' → H'[q]? = some o → AWP g x Q ⟨env, ds, H'⟩) : AWP g x Q ⟨env, ds, H.set q o⟩ := k _ hT (hset_self hq)
theorem TxP.setL {H H2 : AHeap} {b : Nat} {l : List UInt8} {S : List Nat} (h : TxP H b l H2 S) {q : Nat} {L : ALoop} (hq : H2[q]? = some (.loop L)) (hn : H.length ≤ q) (o : AObj) : TxP H b l (H2.set q o) S := by
  refine ⟨h.bld.frm (T := [q]) (Frm.set (.refl _ _) (.inl (by simp))) fun t ht hq2 => ?_, Frm.set h.frm (.inr hn), h.new, ?_⟩
  · rw [List.mem_singleton] at hq2
    obtain ⟨cs, k, e, _⟩ := h.bld.kinds t ht
    rw [hq2, hq] at e; cases e
  · rw [hset_ne (fun e => by have := h.box; rw [← e, hq] at this; cases this)]; exact h.box
theorem Text {H : AHeap} {i : Nat} {s : Lk} {S : List Nat} (h : LkAt H i s S) (hB : s.okT) (hT : LibH H) :
    AC Tryd.prog 11 [.pointer (some ⟨i, 0, none⟩)] H (fun r H2 => ∃ us : List Cm, us.Perm s.under ∧ us.Pairwise (fun a b => ¬ bef b a) ∧ r = .ret (.string (bs (textL s us))) ∧ Frm [] H H2) := by
  obtain ⟨vn, vw, vu, us, Su, hp, rfl⟩ := h
  have hi := hp.at_
  have hil := lt_of_get hi
  unfold Lk.c at hi
  let H1 : AHeap := H ++ [.cells [.pointer none, .slice none 0 0] ⟨74, 0, true, 0, none⟩, .cells [.func (.func 27) ⟨[]⟩ ⟨[.pointer (some ⟨H.length, 0, none⟩)]⟩] ⟨80, 0, true, 0, none⟩]
  have hH1 : H1 = H ++ [.cells [.pointer none, .slice none 0 0] ⟨74, 0, true, 0, none⟩, .cells [.func (.func 27) ⟨[]⟩ ⟨[.pointer (some ⟨H.length, 0, none⟩)]⟩] ⟨80, 0, true, 0, none⟩] := rfl
  have t1 : TxP H H.length [] H1 [H.length] := ⟨⟨0, ⟨⟨.pointer none, hget0 rfl, .inl rfl⟩, fun h => absurd h (by simp)⟩, rfl⟩, Frm.app, by simp, hgetk (k := 1) rfl⟩
  have hi1 := t1.frm.get hi (by simp)
  have hbx1 := t1.box
  have hbl1 := lt_of_get hbx1
  have hil1 := lt_of_get hi1
  let E1 : ASt → Prop := fun st => ∃ S2 H2, TxP H H.length (lineL (head1 s)) H2 S2 ∧ st = ⟨[(0, .pointer (some ⟨i, 0, none⟩)), (3, .pointer (some ⟨H.length, 0, none⟩)), (4, .pointer (some ⟨H.length + 1, 0, none⟩))], [], H2⟩
  refine AC.enter Tryd.func11 rfl (by kernel_rfl) 140 rfl [.tmp 2] rfl (by simp) fun hsc B => ?_
  repeat first
    | with_reducible refine AWP.seqE (x := .region 5 _ _) E1 ?_ ?_
    | with_reducible refine AWP.seq ?_
    | ((with_reducible refine AWP.region ?_ ?_); exact rfl)
    | with_reducible refine AWP.block ?_
    | with_reducible refine AWP.skip ?_
    | with_reducible refine AWP.exit ?_
    | with_reducible refine AWP.ret ?_
    | with_reducible refine AWP.label ?_
    | with_reducible refine AWP.goto ?_
    | ((with_reducible refine AWP.condT ?_ ?_); focus (simp only [ev, lk_cons, ↓reduceIte, Nat.reduceEqDiff]; done))
    | ((with_reducible refine AWP.condF ?_ ?_); focus (simp only [ev, lk_cons, ↓reduceIte, Nat.reduceEqDiff]; done))
    | simp only [go_sem, ↓reduceIte, Nat.reduceEqDiff, reduceCtorEq, Nat.reduceAdd, Int.reduceEq, Int.reduceBNe, Int.reduceBEq, Int.reduceToNat, Int.reduceLT, Int.reduceLE, Int.reduceGT, Int.reduceGE, Nat.reduceSub, Nat.reduceBEq, Nat.reduceBNe, Int.reduceAdd, Int.reduceSub, Int.reduceMul, Int.reduceNeg, Nat.reduceMul, Nat.reduceLeDiff, Nat.reduceLT, hi, hil, hgetl]
    | simp (disch := omega) only [wi64, wu8, wu16, wu32, wu64, Int.tdiv_eq_ediv_of_nonneg, Int.tmod_eq_emod_of_nonneg]
    | with_reducible_and_instances exact finR
    | ((with_reducible refine finR' ?_ ?_) <;> rfl)
    | ((with_reducible refine finD hsc (NRel.of_plain ?_)); exact rfl)
  · refine AWP.regionF 32 31 [0] (by kernel_rfl) (by decide) (by kernel_rfl) (by kernel_rfl) rfl ?_
    have hrd : RdF (H1 ++ [.cells ((head1 s).map fun n => .int .i64 n) ⟨3, 0, true, 0, none⟩]) 1 (.slice (some ⟨H1.length, 0, none⟩) 6 6) ((head1 s).map fun n => [.int .i64 n]) :=
      rd_ints (l := head1 s) (k := ⟨3, 0, true, 0, none⟩) (hget0 rfl) rfl (.inr rfl) (Nat.le_refl _)
    have t2 := t1.more [.cells ((head1 s).map fun n => .int .i64 n) ⟨3, 0, true, 0, none⟩]
    have hw := write H.length [H.length] [] (head1 s) hB.h1 (by simp [head1]) _ _ t2.bld (hT.lasts (Lasts.trans (Lasts.more H _) (Lasts.more _ _))) hrd
    rw [← hH1]
    have hm1 : (head1 s).map (fun n => Value.int .i64 n) = [.int .i64 s.pipe.delay, .int .i64 s.pipe.rate, .int .i64 s.pipe.room, .int .i64 s.pipe.loss, .int .i64 s.pipe.dbl, .int .i64 s.pipe.jit] := rfl
    rw [hm1] at hw
    repeat first
      | with_reducible refine AWP.seq ?_
      | ((with_reducible refine AWP.region ?_ ?_); exact rfl)
      | with_reducible refine AWP.block ?_
      | with_reducible refine AWP.skip ?_
      | with_reducible refine AWP.exit ?_
      | with_reducible refine AWP.ret ?_
      | with_reducible refine AWP.label ?_
      | with_reducible refine AWP.goto ?_
      | ((with_reducible refine AWP.condT ?_ ?_); focus (simp only [ev, lk_cons, ↓reduceIte, Nat.reduceEqDiff]; done))
      | ((with_reducible refine AWP.condF ?_ ?_); focus (simp only [ev, lk_cons, ↓reduceIte, Nat.reduceEqDiff]; done))
      | simp only [go_sem, ↓reduceIte, Nat.reduceEqDiff, reduceCtorEq, Nat.reduceAdd, Int.reduceEq, Int.reduceBNe, Int.reduceBEq, Int.reduceToNat, Int.reduceLT, Int.reduceLE, Int.reduceGT, Int.reduceGE, Nat.reduceSub, Nat.reduceBEq, Nat.reduceBNe, Int.reduceAdd, Int.reduceSub, Int.reduceMul, Int.reduceNeg, Nat.reduceMul, Nat.reduceLeDiff, Nat.reduceLT, hi1, hbx1, hbl1, hil1, hgetl, keepW, dstV, exists_eq_left, pickO, List.map_cons, List.map_nil]
      | simp (disch := omega) only [wi64, wu8, wu16, wu32, wu64, Int.tdiv_eq_ediv_of_nonneg, Int.tmod_eq_emod_of_nonneg]
      | with_reducible_and_instances exact finR
      | ((with_reducible refine finR' ?_ ?_) <;> rfl)
      | ((with_reducible refine finD hsc (NRel.of_plain ?_)); exact rfl)
    refine hw.use fun H2 h2 => ?_
    obtain ⟨S2, t3, hf2⟩ := t2.next h2
    repeat first
      | with_reducible refine AWP.seq ?_
      | ((with_reducible refine AWP.region ?_ ?_); exact rfl)
      | with_reducible refine AWP.block ?_
      | with_reducible refine AWP.skip ?_
      | with_reducible refine AWP.exit ?_
      | with_reducible refine AWP.ret ?_
      | with_reducible refine AWP.label ?_
      | with_reducible refine AWP.goto ?_
      | ((with_reducible refine AWP.condT ?_ ?_); focus (simp only [ev, lk_cons, ↓reduceIte, Nat.reduceEqDiff]; done))
      | ((with_reducible refine AWP.condF ?_ ?_); focus (simp only [ev, lk_cons, ↓reduceIte, Nat.reduceEqDiff]; done))
      | simp only [go_sem, ↓reduceIte, Nat.reduceEqDiff, reduceCtorEq, Nat.reduceAdd, Int.reduceEq, Int.reduceBNe, Int.reduceBEq, Int.reduceToNat, Int.reduceLT, Int.reduceLE, Int.reduceGT, Int.reduceGE, Nat.reduceSub, Nat.reduceBEq, Nat.reduceBNe, Int.reduceAdd, Int.reduceSub, Int.reduceMul, Int.reduceNeg, Nat.reduceMul, Nat.reduceLeDiff, Nat.reduceLT]
      | simp (disch := omega) only [wi64, wu8, wu16, wu32, wu64, Int.tdiv_eq_ediv_of_nonneg, Int.tmod_eq_emod_of_nonneg]
      | with_reducible_and_instances exact finR
      | ((with_reducible refine finR' ?_ ?_) <;> rfl)
      | ((with_reducible refine finD hsc (NRel.of_plain ?_)); exact rfl)
    exact ⟨_, ⟨S2, H2, t3, rfl⟩, Weak.env (by simp [envIn, lk_cons, wth_some])⟩
  rintro st ⟨S2, H2, t2, rfl⟩
  have hi2 := t2.frm.get hi (by simp)
  have hbx2 := t2.box
  have hbl2 := lt_of_get hbx2
  have hil2 := lt_of_get hi2
  let E2 : ASt → Prop := fun st => ∃ S3 H3, TxP H H.length (lineL (head1 s) ++ lineL (head2 s)) H3 S3 ∧ st = ⟨[(0, .pointer (some ⟨i, 0, none⟩)), (3, .pointer (some ⟨H.length, 0, none⟩)), (4, .pointer (some ⟨H.length + 1, 0, none⟩))], [], H3⟩
  have hl1 := lineL_len _ hB.h1
  have hl2 := lineL_len _ hB.h2
  have hl3 := lineL_len _ hB.nums
  have hn3 := hB.numsL
  rw [show (head1 s).length = 6 from rfl] at hl1
  rw [show (head2 s).length = 8 from rfl] at hl2
  repeat first
    | with_reducible refine AWP.seqE (x := .region 6 _ _) E2 ?_ ?_
    | with_reducible refine AWP.seq ?_
    | ((with_reducible refine AWP.region ?_ ?_); exact rfl)
    | with_reducible refine AWP.block ?_
    | with_reducible refine AWP.skip ?_
    | with_reducible refine AWP.exit ?_
    | with_reducible refine AWP.ret ?_
    | with_reducible refine AWP.label ?_
    | with_reducible refine AWP.goto ?_
    | ((with_reducible refine AWP.condT ?_ ?_); focus (simp only [ev, lk_cons, ↓reduceIte, Nat.reduceEqDiff]; done))
    | ((with_reducible refine AWP.condF ?_ ?_); focus (simp only [ev, lk_cons, ↓reduceIte, Nat.reduceEqDiff]; done))
    | simp only [go_sem, ↓reduceIte, Nat.reduceEqDiff, reduceCtorEq, Nat.reduceAdd, Int.reduceEq, Int.reduceBNe, Int.reduceBEq, Int.reduceToNat, Int.reduceLT, Int.reduceLE, Int.reduceGT, Int.reduceGE, Nat.reduceSub, Nat.reduceBEq, Nat.reduceBNe, Int.reduceAdd, Int.reduceSub, Int.reduceMul, Int.reduceNeg, Nat.reduceMul, Nat.reduceLeDiff, Nat.reduceLT]
    | simp (disch := omega) only [wi64, wu8, wu16, wu32, wu64, Int.tdiv_eq_ediv_of_nonneg, Int.tmod_eq_emod_of_nonneg]
    | with_reducible_and_instances exact finR
    | ((with_reducible refine finR' ?_ ?_) <;> rfl)
    | ((with_reducible refine finD hsc (NRel.of_plain ?_)); exact rfl)
  · refine AWP.regionF 34 33 [0] (by kernel_rfl) (by decide) (by kernel_rfl) (by kernel_rfl) rfl ?_
    have hrd : RdF (H2 ++ [.cells ((head2 s).map fun n => .int .i64 n) ⟨3, 0, true, 0, none⟩]) 1 (.slice (some ⟨H2.length, 0, none⟩) 8 8) ((head2 s).map fun n => [.int .i64 n]) :=
      rd_ints (l := head2 s) (k := ⟨3, 0, true, 0, none⟩) (hget0 rfl) rfl (.inr rfl) (Nat.le_refl _)
    have t3 := t2.more [.cells ((head2 s).map fun n => .int .i64 n) ⟨3, 0, true, 0, none⟩]
    have hw := write H.length S2 _ (head2 s) hB.h2 (by rw [show (head2 s).length = 8 from rfl]; omega) _ _ t3.bld (hT.lasts (Lasts.trans t2.lasts (Lasts.more _ _))) hrd
    have hm1 : (head2 s).map (fun n => Value.int .i64 n) = [.int .i64 s.now, .int .i64 s.free, .int .i64 s.id, .int .i64 s.put, .int .i64 s.arr, .int .i64 s.lost, .int .i64 s.drop, .int .i64 s.dbl] := rfl
    rw [hm1] at hw
    repeat first
      | with_reducible refine AWP.seq ?_
      | ((with_reducible refine AWP.region ?_ ?_); exact rfl)
      | with_reducible refine AWP.block ?_
      | with_reducible refine AWP.skip ?_
      | with_reducible refine AWP.exit ?_
      | with_reducible refine AWP.ret ?_
      | with_reducible refine AWP.label ?_
      | with_reducible refine AWP.goto ?_
      | ((with_reducible refine AWP.condT ?_ ?_); focus (simp only [ev, lk_cons, ↓reduceIte, Nat.reduceEqDiff]; done))
      | ((with_reducible refine AWP.condF ?_ ?_); focus (simp only [ev, lk_cons, ↓reduceIte, Nat.reduceEqDiff]; done))
      | simp only [go_sem, ↓reduceIte, Nat.reduceEqDiff, reduceCtorEq, Nat.reduceAdd, Int.reduceEq, Int.reduceBNe, Int.reduceBEq, Int.reduceToNat, Int.reduceLT, Int.reduceLE, Int.reduceGT, Int.reduceGE, Nat.reduceSub, Nat.reduceBEq, Nat.reduceBNe, Int.reduceAdd, Int.reduceSub, Int.reduceMul, Int.reduceNeg, Nat.reduceMul, Nat.reduceLeDiff, Nat.reduceLT, hi2, hbx2, hbl2, hil2, hgetl, keepW, dstV, exists_eq_left, pickO, List.map_cons, List.map_nil]
      | simp (disch := omega) only [wi64, wu8, wu16, wu32, wu64, Int.tdiv_eq_ediv_of_nonneg, Int.tmod_eq_emod_of_nonneg]
      | with_reducible_and_instances exact finR
      | ((with_reducible refine finR' ?_ ?_) <;> rfl)
      | ((with_reducible refine finD hsc (NRel.of_plain ?_)); exact rfl)
    refine hw.use fun H3 h3 => ?_
    obtain ⟨S3, t4, hf3⟩ := t3.next h3
    repeat first
      | with_reducible refine AWP.seq ?_
      | ((with_reducible refine AWP.region ?_ ?_); exact rfl)
      | with_reducible refine AWP.block ?_
      | with_reducible refine AWP.skip ?_
      | with_reducible refine AWP.exit ?_
      | with_reducible refine AWP.ret ?_
      | with_reducible refine AWP.label ?_
      | with_reducible refine AWP.goto ?_
      | ((with_reducible refine AWP.condT ?_ ?_); focus (simp only [ev, lk_cons, ↓reduceIte, Nat.reduceEqDiff]; done))
      | ((with_reducible refine AWP.condF ?_ ?_); focus (simp only [ev, lk_cons, ↓reduceIte, Nat.reduceEqDiff]; done))
      | simp only [go_sem, ↓reduceIte, Nat.reduceEqDiff, reduceCtorEq, Nat.reduceAdd, Int.reduceEq, Int.reduceBNe, Int.reduceBEq, Int.reduceToNat, Int.reduceLT, Int.reduceLE, Int.reduceGT, Int.reduceGE, Nat.reduceSub, Nat.reduceBEq, Nat.reduceBNe, Int.reduceAdd, Int.reduceSub, Int.reduceMul, Int.reduceNeg, Nat.reduceMul, Nat.reduceLeDiff, Nat.reduceLT]
      | simp (disch := omega) only [wi64, wu8, wu16, wu32, wu64, Int.tdiv_eq_ediv_of_nonneg, Int.tmod_eq_emod_of_nonneg]
      | with_reducible_and_instances exact finR
      | ((with_reducible refine finR' ?_ ?_) <;> rfl)
      | ((with_reducible refine finD hsc (NRel.of_plain ?_)); exact rfl)
    exact ⟨_, ⟨S3, H3, t4, rfl⟩, Weak.env (by simp [envIn, lk_cons, wth_some])⟩
  rintro st ⟨S3, H3, t3, rfl⟩
  have hi3 := t3.frm.get hi (by simp)
  have hbx3 := t3.box
  have hbl3 := lt_of_get hbx3
  have hil3 := lt_of_get hi3
  let E3 : ASt → Prop := fun st => ∃ S4 H4, TxP H H.length (lineL (head1 s) ++ lineL (head2 s) ++ lineL s.nums) H4 S4 ∧ st = ⟨[(0, .pointer (some ⟨i, 0, none⟩)), (3, .pointer (some ⟨H.length, 0, none⟩)), (4, .pointer (some ⟨H.length + 1, 0, none⟩))], [], H4⟩
  repeat first
    | with_reducible refine AWP.seqE (x := .region 7 _ _) E3 ?_ ?_
    | with_reducible refine AWP.seq ?_
    | ((with_reducible refine AWP.region ?_ ?_); exact rfl)
    | with_reducible refine AWP.block ?_
    | with_reducible refine AWP.skip ?_
    | with_reducible refine AWP.exit ?_
    | with_reducible refine AWP.ret ?_
    | with_reducible refine AWP.label ?_
    | with_reducible refine AWP.goto ?_
    | ((with_reducible refine AWP.condT ?_ ?_); focus (simp only [ev, lk_cons, ↓reduceIte, Nat.reduceEqDiff]; done))
    | ((with_reducible refine AWP.condF ?_ ?_); focus (simp only [ev, lk_cons, ↓reduceIte, Nat.reduceEqDiff]; done))
    | simp only [go_sem, ↓reduceIte, Nat.reduceEqDiff, reduceCtorEq, Nat.reduceAdd, Int.reduceEq, Int.reduceBNe, Int.reduceBEq, Int.reduceToNat, Int.reduceLT, Int.reduceLE, Int.reduceGT, Int.reduceGE, Nat.reduceSub, Nat.reduceBEq, Nat.reduceBNe, Int.reduceAdd, Int.reduceSub, Int.reduceMul, Int.reduceNeg, Nat.reduceMul, Nat.reduceLeDiff, Nat.reduceLT]
    | simp (disch := omega) only [wi64, wu8, wu16, wu32, wu64, Int.tdiv_eq_ediv_of_nonneg, Int.tmod_eq_emod_of_nonneg]
    | with_reducible_and_instances exact finR
    | ((with_reducible refine finR' ?_ ?_) <;> rfl)
    | ((with_reducible refine finD hsc (NRel.of_plain ?_)); exact rfl)
  · have hrd := (hp.beside t3.frm (.nil _) (by simp)).nums
    have hw := write H.length S3 _ s.nums hB.nums (by rw [List.length_append]; omega) _ _ t3.bld (hT.lasts t3.lasts) hrd
    refine AWP.regionK 5 (by kernel_rfl) (by decide) (by kernel_rfl) ?_
    repeat first
      | with_reducible refine AWP.seq ?_
      | ((with_reducible refine AWP.region ?_ ?_); exact rfl)
      | with_reducible refine AWP.block ?_
      | with_reducible refine AWP.skip ?_
      | with_reducible refine AWP.exit ?_
      | with_reducible refine AWP.ret ?_
      | with_reducible refine AWP.label ?_
      | with_reducible refine AWP.goto ?_
      | ((with_reducible refine AWP.condT ?_ ?_); focus (simp only [ev, lk_cons, ↓reduceIte, Nat.reduceEqDiff]; done))
      | ((with_reducible refine AWP.condF ?_ ?_); focus (simp only [ev, lk_cons, ↓reduceIte, Nat.reduceEqDiff]; done))
      | simp only [go_sem, ↓reduceIte, Nat.reduceEqDiff, reduceCtorEq, Nat.reduceAdd, Int.reduceEq, Int.reduceBNe, Int.reduceBEq, Int.reduceToNat, Int.reduceLT, Int.reduceLE, Int.reduceGT, Int.reduceGE, Nat.reduceSub, Nat.reduceBEq, Nat.reduceBNe, Int.reduceAdd, Int.reduceSub, Int.reduceMul, Int.reduceNeg, Nat.reduceMul, Nat.reduceLeDiff, Nat.reduceLT, hi3, hbx3, hbl3, hil3]
      | simp (disch := omega) only [wi64, wu8, wu16, wu32, wu64, Int.tdiv_eq_ediv_of_nonneg, Int.tmod_eq_emod_of_nonneg]
      | with_reducible_and_instances exact finR
      | ((with_reducible refine finR' ?_ ?_) <;> rfl)
      | ((with_reducible refine finD hsc (NRel.of_plain ?_)); exact rfl)
    refine hw.use fun H4 h4 => ?_
    obtain ⟨S4, t4, hf4⟩ := t3.next h4
    repeat first
      | with_reducible refine AWP.seq ?_
      | ((with_reducible refine AWP.region ?_ ?_); exact rfl)
      | with_reducible refine AWP.block ?_
      | with_reducible refine AWP.skip ?_
      | with_reducible refine AWP.exit ?_
      | with_reducible refine AWP.ret ?_
      | with_reducible refine AWP.label ?_
      | with_reducible refine AWP.goto ?_
      | ((with_reducible refine AWP.condT ?_ ?_); focus (simp only [ev, lk_cons, ↓reduceIte, Nat.reduceEqDiff]; done))
      | ((with_reducible refine AWP.condF ?_ ?_); focus (simp only [ev, lk_cons, ↓reduceIte, Nat.reduceEqDiff]; done))
      | simp only [go_sem, ↓reduceIte, Nat.reduceEqDiff, reduceCtorEq, Nat.reduceAdd, Int.reduceEq, Int.reduceBNe, Int.reduceBEq, Int.reduceToNat, Int.reduceLT, Int.reduceLE, Int.reduceGT, Int.reduceGE, Nat.reduceSub, Nat.reduceBEq, Nat.reduceBNe, Int.reduceAdd, Int.reduceSub, Int.reduceMul, Int.reduceNeg, Nat.reduceMul, Nat.reduceLeDiff, Nat.reduceLT]
      | simp (disch := omega) only [wi64, wu8, wu16, wu32, wu64, Int.tdiv_eq_ediv_of_nonneg, Int.tmod_eq_emod_of_nonneg]
      | with_reducible_and_instances exact finR
      | ((with_reducible refine finR' ?_ ?_) <;> rfl)
      | ((with_reducible refine finD hsc (NRel.of_plain ?_)); exact rfl)
    exact ⟨_, ⟨S4, H4, t4, rfl⟩, Weak.env (by simp [envIn, lk_cons, wth_some])⟩
  rintro st ⟨S4, H4, t4, rfl⟩
  have hi4 := t4.frm.get hi (by simp)
  have hbx4 := t4.box
  have hbl4 := lt_of_get hbx4
  have hil4 := lt_of_get hi4
  have hp4 := hp.beside t4.frm (.nil _) (by simp)
  let E4 : ASt → Prop := fun st => ∃ S5 H5, TxP H H.length (lineL (head1 s) ++ lineL (head2 s) ++ lineL s.nums ++ waitL (wq s.wait s.now)) H5 S5 ∧ st = ⟨[(0, .pointer (some ⟨i, 0, none⟩)), (3, .pointer (some ⟨H.length, 0, none⟩)), (4, .pointer (some ⟨H.length + 1, 0, none⟩))], [.mark], H5⟩
  repeat first
    | with_reducible refine AWP.seqE (x := .seq (.region 8 _ _) _) E4 ?_ ?_
    | with_reducible refine AWP.seq ?_
    | ((with_reducible refine AWP.region ?_ ?_); exact rfl)
    | with_reducible refine AWP.block ?_
    | with_reducible refine AWP.skip ?_
    | with_reducible refine AWP.exit ?_
    | with_reducible refine AWP.ret ?_
    | with_reducible refine AWP.label ?_
    | with_reducible refine AWP.goto ?_
    | ((with_reducible refine AWP.condT ?_ ?_); focus (simp only [ev, lk_cons, ↓reduceIte, Nat.reduceEqDiff]; done))
    | ((with_reducible refine AWP.condF ?_ ?_); focus (simp only [ev, lk_cons, ↓reduceIte, Nat.reduceEqDiff]; done))
    | simp only [go_sem, ↓reduceIte, Nat.reduceEqDiff, reduceCtorEq, Nat.reduceAdd, Int.reduceEq, Int.reduceBNe, Int.reduceBEq, Int.reduceToNat, Int.reduceLT, Int.reduceLE, Int.reduceGT, Int.reduceGE, Nat.reduceSub, Nat.reduceBEq, Nat.reduceBNe, Int.reduceAdd, Int.reduceSub, Int.reduceMul, Int.reduceNeg, Nat.reduceMul, Nat.reduceLeDiff, Nat.reduceLT]
    | simp (disch := omega) only [wi64, wu8, wu16, wu32, wu64, Int.tdiv_eq_ediv_of_nonneg, Int.tmod_eq_emod_of_nonneg]
    | with_reducible_and_instances exact finR
    | ((with_reducible refine finR' ?_ ?_) <;> rfl)
    | ((with_reducible refine finD hsc (NRel.of_plain ?_)); exact rfl)
  · have hwl := hB.waitL
    have hwql := wq_len s.wait s.now
    have hq := queue H4 i s.now
    have hwb : ∀ w ∈ wq s.wait s.now, i64B w.1 ∧ i64B w.2 := fun w hm => hB.wait w (List.mem_filter.1 hm).1
    repeat first
      | with_reducible refine AWP.seq ?_
      | ((with_reducible refine AWP.region ?_ ?_); exact rfl)
      | with_reducible refine AWP.block ?_
      | with_reducible refine AWP.skip ?_
      | with_reducible refine AWP.exit ?_
      | with_reducible refine AWP.ret ?_
      | with_reducible refine AWP.label ?_
      | with_reducible refine AWP.goto ?_
      | ((with_reducible refine AWP.condT ?_ ?_); focus (simp only [ev, lk_cons, ↓reduceIte, Nat.reduceEqDiff]; done))
      | ((with_reducible refine AWP.condF ?_ ?_); focus (simp only [ev, lk_cons, ↓reduceIte, Nat.reduceEqDiff]; done))
      | with_reducible refine hq.use ?_
      | simp only [go_sem, ↓reduceIte, Nat.reduceEqDiff, reduceCtorEq, Nat.reduceAdd, Int.reduceEq, Int.reduceBNe, Int.reduceBEq, Int.reduceToNat, Int.reduceLT, Int.reduceLE, Int.reduceGT, Int.reduceGE, Nat.reduceSub, Nat.reduceBEq, Nat.reduceBNe, Int.reduceAdd, Int.reduceSub, Int.reduceMul, Int.reduceNeg, Nat.reduceMul, Nat.reduceLeDiff, Nat.reduceLT, hi4, hil4]
      | simp (disch := omega) only [wi64, wu8, wu16, wu32, wu64, Int.tdiv_eq_ediv_of_nonneg, Int.tmod_eq_emod_of_nonneg]
      | with_reducible_and_instances exact finR
      | ((with_reducible refine finR' ?_ ?_) <;> rfl)
      | ((with_reducible refine finD hsc (NRel.of_plain ?_)); exact rfl)
    have t5 := t4.more [.cells [.pointer (some ⟨i, 0, none⟩)] ⟨28, 0, true, 0, none⟩, .cells [.int .i64 s.now] ⟨3, 0, true, 0, none⟩]
    refine AWP.rangeS (queue1 s i H4.length (H4.length + 1) s.now vw (by omega)) rfl (by have := t4.frm.1; simp; omega) (by simp only [go_sem, ↓reduceIte, Nat.reduceEqDiff, reduceCtorEq, Nat.reduceAdd, Int.reduceEq, Int.reduceBNe, Int.reduceBEq, Int.reduceToNat, Int.reduceLT, Int.reduceLE, Int.reduceGT, Int.reduceGE, Nat.reduceSub, Nat.reduceBEq, Nat.reduceBNe, Int.reduceAdd, Int.reduceSub, Int.reduceMul, Int.reduceNeg, Nat.reduceMul, Nat.reduceLeDiff, Nat.reduceLT]) fun L hL =>
      ⟨fun n H' => n ≤ (wq s.wait s.now).length ∧ (∃ S', TxP H H.length (lineL (head1 s) ++ lineL (head2 s) ++ lineL s.nums ++ waitL ((wq s.wait s.now).take n)) H' S') ∧ H'[H4.length]? = some (.cells [.pointer (some ⟨i, 0, none⟩)] ⟨28, 0, true, 0, none⟩) ∧ H'[H4.length + 1]? = some (.cells [.int .i64 s.now] ⟨3, 0, true, 0, none⟩) ∧ H'[H4.length + 2]? = some (.loop L), fun _ => False, ?_, ?_, ?_, ?_, ?_⟩
    · refine ⟨Nat.zero_le _, ⟨S4, ?_⟩, ?_, ?_, ?_⟩
      · have := t5.more [.loop L]
        simpa [waitL] using this
      · simp
      · simp
      · simp
    · rintro n H' ⟨hn, ⟨S', t'⟩, b1, b2, b3⟩
      exact ⟨b1, b2, ⟨vn, vu, t'.frm.get hp.at_ (by simp)⟩, (hp.beside t'.frm (.nil _) (by simp)).wait⟩
    · rintro n H' X ⟨hn, ⟨S', t'⟩, b1, b2, b3⟩
      exact ⟨hn, ⟨S', t'.more X⟩, by rw [hgetl (lt_of_get b1)]; exact b1, by rw [hgetl (lt_of_get b2)]; exact b2, by rw [hgetl (lt_of_get b3)]; exact b3⟩
    · rintro n args H' ha ⟨hn, ⟨S', t'⟩, b1, b2, b3⟩
      have hnl : n < (wq s.wait s.now).length := by
        have := (List.getElem?_eq_some_iff.1 ha).1
        simpa using this
      have hargs : args = [.agg ⟨[.int .i64 (wq s.wait s.now)[n].1, .int .i64 (wq s.wait s.now)[n].2]⟩] := by
        rw [List.getElem?_map, List.getElem?_eq_getElem hnl] at ha
        simpa [wC] using ha.symm
      subst hargs
      have hwm := hwb _ (List.getElem_mem hnl)
      have htk : waitL ((wq s.wait s.now).take (n + 1)) = waitL ((wq s.wait s.now).take n) ++ lineL [(wq s.wait s.now)[n].1, (wq s.wait s.now)[n].2] := by
        rw [List.take_add_one, List.getElem?_eq_getElem hnl]; unfold waitL; rw [List.flatMap_append]; simp
      have hwtl : (waitL ((wq s.wait s.now).take n)).length ≤ n * 45 := waitL_len _ n (by rw [List.length_take]; omega) fun w hm => hwb w (List.mem_of_mem_take hm)
      generalize (wq s.wait s.now)[n] = w at *
      obtain ⟨wa, wb⟩ := w
      simp only at hwm htk ⊢
      simp only [go_sem, ↓reduceIte, Nat.reduceEqDiff, reduceCtorEq, Nat.reduceAdd, Int.reduceEq, Int.reduceBNe, Int.reduceBEq, Int.reduceToNat, Int.reduceLT, Int.reduceLE, Int.reduceGT, Int.reduceGE, Nat.reduceSub, Nat.reduceBEq, Nat.reduceBNe, Int.reduceAdd, Int.reduceSub, Int.reduceMul, Int.reduceNeg, Nat.reduceMul, Nat.reduceLeDiff, Nat.reduceLT]
      refine AY.of (L := L) b3 (by rw [hL]) (by rw [hL]; rfl) (by rw [hL]; simp) fun hsc2 lr B2 => ?_
      subst hL
      simp only [zipEnv]
      have hbx' := t'.box
      have hbl' := lt_of_get hbx'
      have t6 := t'.more [.cells [.int .i64 wa, .int .i64 wb] ⟨57, 0, true, 0, none⟩]
      have b36 := (hgetl (l := [.cells [.int .i64 wa, .int .i64 wb] ⟨57, 0, true, 0, none⟩]) (lt_of_get b3)).trans b3
      repeat first
        | with_reducible refine AWP.seq ?_
        | ((with_reducible refine AWP.region ?_ ?_); exact rfl)
        | with_reducible refine AWP.block ?_
        | with_reducible refine AWP.skip ?_
        | with_reducible refine AWP.exit ?_
        | with_reducible refine AWP.ret ?_
        | with_reducible refine AWP.label ?_
        | with_reducible refine AWP.goto ?_
        | ((with_reducible refine AWP.condT ?_ ?_); focus (simp only [ev, lk_cons, ↓reduceIte, Nat.reduceEqDiff]; done))
        | ((with_reducible refine AWP.condF ?_ ?_); focus (simp only [ev, lk_cons, ↓reduceIte, Nat.reduceEqDiff]; done))
        | simp only [go_sem, ↓reduceIte, Nat.reduceEqDiff, reduceCtorEq, Nat.reduceAdd, Int.reduceEq, Int.reduceBNe, Int.reduceBEq, Int.reduceToNat, Int.reduceLT, Int.reduceLE, Int.reduceGT, Int.reduceGE, Nat.reduceSub, Nat.reduceBEq, Nat.reduceBNe, Int.reduceAdd, Int.reduceSub, Int.reduceMul, Int.reduceNeg, Nat.reduceMul, Nat.reduceLeDiff, Nat.reduceLT, hbx', hbl', hgetl]
        | simp (disch := omega) only [wi64, wu8, wu16, wu32, wu64, Int.tdiv_eq_ediv_of_nonneg, Int.tmod_eq_emod_of_nonneg]
        | with_reducible_and_instances exact finR
        | ((with_reducible refine finR' ?_ ?_) <;> rfl)
        | ((with_reducible refine finD hsc (NRel.of_plain ?_)); exact rfl)
      refine ⟨_, b36, rfl, ?_⟩
      refine AWP.setL (fun H7 => TxP H H.length (lineL (head1 s) ++ lineL (head2 s) ++ lineL s.nums ++ waitL ((wq s.wait s.now).take n)) H7 S' ∧ H7[H'.length]? = some (.cells [.int .i64 wa, .int .i64 wb] ⟨57, 0, true, 0, none⟩) ∧ H7[H4.length]? = some (.cells [.pointer (some ⟨i, 0, none⟩)] ⟨28, 0, true, 0, none⟩) ∧ H7[H4.length + 1]? = some (.cells [.int .i64 s.now] ⟨3, 0, true, 0, none⟩) ∧ H7.length = H'.length + 1) (lt_of_get b36)
        ⟨t6.setL b36 (by have := t4.frm.1; omega) _, by rw [hset_ne (by have := lt_of_get b3; omega)]; exact hget0 rfl, by rw [hset_ne (by omega), hgetl (lt_of_get b1)]; exact b1, by rw [hset_ne (by omega), hgetl (lt_of_get b2)]; exact b2, by simp⟩ ?_
      rintro H7 ⟨t7, h57, c1, c2, h7l⟩ hlb
      have hbx7 := t7.box
      have hbl7 := lt_of_get hbx7
      have hbl57 := lt_of_get h57
      have t8 := t7.more [.cells ([wa, wb].map fun n => .int .i64 n) ⟨3, 0, true, 0, none⟩]
      have hrd : RdF (H7 ++ [.cells ([wa, wb].map fun n => .int .i64 n) ⟨3, 0, true, 0, none⟩]) 1 (.slice (some ⟨H7.length, 0, none⟩) 2 2) ([wa, wb].map fun n => [.int .i64 n]) :=
        rd_ints (l := [wa, wb]) (k := ⟨3, 0, true, 0, none⟩) (hget0 rfl) rfl (.inr rfl) (Nat.le_refl _)
      have hw := write H.length S' _ [wa, wb] (by simp only [List.mem_cons, List.not_mem_nil, or_false]; rintro x (rfl | rfl); exact hwm.1; exact hwm.2) (by rw [List.length_append, List.length_append, List.length_append]; simp; omega) _ _ t8.bld (hT.lasts t8.lasts) hrd
      rw [show ([wa, wb] : List Int).map (fun n => Value.int .i64 n) = [.int .i64 wa, .int .i64 wb] from rfl] at hw
      repeat first
        | with_reducible refine AWP.seq ?_
        | ((with_reducible refine AWP.region ?_ ?_); exact rfl)
        | with_reducible refine AWP.block ?_
        | with_reducible refine AWP.skip ?_
        | with_reducible refine AWP.exit ?_
        | with_reducible refine AWP.ret ?_
        | with_reducible refine AWP.label ?_
        | with_reducible refine AWP.goto ?_
        | ((with_reducible refine AWP.condT ?_ ?_); focus (simp only [ev, lk_cons, ↓reduceIte, Nat.reduceEqDiff]; done))
        | ((with_reducible refine AWP.condF ?_ ?_); focus (simp only [ev, lk_cons, ↓reduceIte, Nat.reduceEqDiff]; done))
        | simp only [go_sem, ↓reduceIte, Nat.reduceEqDiff, reduceCtorEq, Nat.reduceAdd, Int.reduceEq, Int.reduceBNe, Int.reduceBEq, Int.reduceToNat, Int.reduceLT, Int.reduceLE, Int.reduceGT, Int.reduceGE, Nat.reduceSub, Nat.reduceBEq, Nat.reduceBNe, Int.reduceAdd, Int.reduceSub, Int.reduceMul, Int.reduceNeg, Nat.reduceMul, Nat.reduceLeDiff, Nat.reduceLT, hbx7, hbl7, h57, hbl57, hgetl]
        | simp (disch := omega) only [wi64, wu8, wu16, wu32, wu64, Int.tdiv_eq_ediv_of_nonneg, Int.tmod_eq_emod_of_nonneg]
        | with_reducible_and_instances exact finR
        | ((with_reducible refine finR' ?_ ?_) <;> rfl)
        | ((with_reducible refine finD hsc (NRel.of_plain ?_)); exact rfl)
      refine hw.use fun H8 h8 => ?_
      obtain ⟨S8, t9, hf8⟩ := t8.next h8
      have hlp := h8.loop t8.bld (by rw [hgetl (lt_of_get hlb)]; exact hlb)
      repeat first
        | with_reducible refine AWP.seq ?_
        | ((with_reducible refine AWP.region ?_ ?_); exact rfl)
        | with_reducible refine AWP.block ?_
        | with_reducible refine AWP.skip ?_
        | with_reducible refine AWP.exit ?_
        | with_reducible refine AWP.ret ?_
        | with_reducible refine AWP.label ?_
        | with_reducible refine AWP.goto ?_
        | ((with_reducible refine AWP.condT ?_ ?_); focus (simp only [ev, lk_cons, ↓reduceIte, Nat.reduceEqDiff]; done))
        | ((with_reducible refine AWP.condF ?_ ?_); focus (simp only [ev, lk_cons, ↓reduceIte, Nat.reduceEqDiff]; done))
        | simp only [go_sem, ↓reduceIte, Nat.reduceEqDiff, reduceCtorEq, Nat.reduceAdd, Int.reduceEq, Int.reduceBNe, Int.reduceBEq, Int.reduceToNat, Int.reduceLT, Int.reduceLE, Int.reduceGT, Int.reduceGE, Nat.reduceSub, Nat.reduceBEq, Nat.reduceBNe, Int.reduceAdd, Int.reduceSub, Int.reduceMul, Int.reduceNeg, Nat.reduceMul, Nat.reduceLeDiff, Nat.reduceLT]
        | simp (disch := omega) only [wi64, wu8, wu16, wu32, wu64, Int.tdiv_eq_ediv_of_nonneg, Int.tmod_eq_emod_of_nonneg]
        | with_reducible_and_instances exact finR
        | ((with_reducible refine finR' ?_ ?_) <;> rfl)
        | ((with_reducible refine finD hsc (NRel.of_plain ?_)); exact rfl)
      have t9' : TxP H H.length (lineL (head1 s) ++ (lineL (head2 s) ++ (lineL s.nums ++ waitL (List.take (n + 1) (wq s.wait s.now))))) H8 S8 := by
        rw [htk]; simpa only [List.append_assoc] using t9
      refine ⟨_, hlp, _, .refl _ _ _, true, rfl, fun _ => ⟨by omega, ⟨S8, t9'.setL hlp (by have := t4.frm.1; omega) _⟩, ?_, ?_, hset_self (lt_of_get hlp)⟩, fun e => by cases e⟩
      · rw [hset_ne (by omega)]
        exact hf8 _ _ _ (by rw [hgetl (lt_of_get c1)]; exact c1) rfl
      · rw [hset_ne (by omega)]
        exact hf8 _ _ _ (by rw [hgetl (lt_of_get c2)]; exact c2) rfl
    · rintro H' (⟨hn, ⟨S', t'⟩, b1, b2, b3⟩ | h)
      · subst hL
        rw [List.length_map, List.take_length] at t'
        repeat first
          | with_reducible refine AWP.seq ?_
          | ((with_reducible refine AWP.region ?_ ?_); exact rfl)
          | with_reducible refine AWP.block ?_
          | with_reducible refine AWP.skip ?_
          | with_reducible refine AWP.exit ?_
          | with_reducible refine AWP.ret ?_
          | with_reducible refine AWP.label ?_
          | with_reducible refine AWP.goto ?_
          | ((with_reducible refine AWP.condT ?_ ?_); focus (simp only [ev, lk_cons, ↓reduceIte, Nat.reduceEqDiff]; done))
          | ((with_reducible refine AWP.condF ?_ ?_); focus (simp only [ev, lk_cons, ↓reduceIte, Nat.reduceEqDiff]; done))
          | simp only [go_sem, ↓reduceIte, Nat.reduceEqDiff, reduceCtorEq, Nat.reduceAdd, Int.reduceEq, Int.reduceBNe, Int.reduceBEq, Int.reduceToNat, Int.reduceLT, Int.reduceLE, Int.reduceGT, Int.reduceGE, Nat.reduceSub, Nat.reduceBEq, Nat.reduceBNe, Int.reduceAdd, Int.reduceSub, Int.reduceMul, Int.reduceNeg, Nat.reduceMul, Nat.reduceLeDiff, Nat.reduceLT]
          | simp (disch := omega) only [wi64, wu8, wu16, wu32, wu64, Int.tdiv_eq_ediv_of_nonneg, Int.tmod_eq_emod_of_nonneg]
          | with_reducible_and_instances exact finR
          | ((with_reducible refine finR' ?_ ?_) <;> rfl)
          | ((with_reducible refine finD hsc (NRel.of_plain ?_)); exact rfl)
        refine ⟨_, b3, by simp, ?_⟩
        exact ⟨_, ⟨S', _, t'.setL b3 (by have := t4.frm.1; omega) _, rfl⟩, Weak.env (by simp [envIn, lk_cons, wth_some])⟩
      · exact h.elim
  rintro st ⟨S5, H5, t5, rfl⟩
  have hl4 := waitL_len (wq s.wait s.now) 100000 (by have := wq_len s.wait s.now; have := hB.waitL; omega) fun w hm => hB.wait w (List.mem_filter.1 hm).1
  have hw11 := Write H.length S5 _ [10] (by simp) (by rw [List.length_append, List.length_append, List.length_append]; simp; omega) H5 t5.bld
  repeat first
    | with_reducible refine AWP.seq ?_
    | ((with_reducible refine AWP.region ?_ ?_); exact rfl)
    | with_reducible refine AWP.block ?_
    | with_reducible refine AWP.skip ?_
    | with_reducible refine AWP.exit ?_
    | with_reducible refine AWP.ret ?_
    | with_reducible refine AWP.label ?_
    | with_reducible refine AWP.goto ?_
    | ((with_reducible refine AWP.condT ?_ ?_); focus (simp only [ev, lk_cons, ↓reduceIte, Nat.reduceEqDiff]; done))
    | ((with_reducible refine AWP.condF ?_ ?_); focus (simp only [ev, lk_cons, ↓reduceIte, Nat.reduceEqDiff]; done))
    | simp only [go_sem, ↓reduceIte, Nat.reduceEqDiff, reduceCtorEq, Nat.reduceAdd, Int.reduceEq, Int.reduceBNe, Int.reduceBEq, Int.reduceToNat, Int.reduceLT, Int.reduceLE, Int.reduceGT, Int.reduceGE, Nat.reduceSub, Nat.reduceBEq, Nat.reduceBNe, Int.reduceAdd, Int.reduceSub, Int.reduceMul, Int.reduceNeg, Nat.reduceMul, Nat.reduceLeDiff, Nat.reduceLT]
    | simp (disch := omega) only [wi64, wu8, wu16, wu32, wu64, Int.tdiv_eq_ediv_of_nonneg, Int.tmod_eq_emod_of_nonneg]
    | with_reducible_and_instances exact finR
    | ((with_reducible refine finR' ?_ ?_) <;> rfl)
    | ((with_reducible refine finD hsc (NRel.of_plain ?_)); exact rfl)
  refine hw11.use fun H6 h6 => ?_
  obtain ⟨S6, t6, -⟩ := t5.next h6
  have hi6 := t6.frm.get hi (by simp)
  have hil6 := lt_of_get hi6
  have hp6 := hp.beside t6.frm (.nil _) (by simp)
  have hul : us.length = s.under.length := by rw [← hp.und, List.length_map]
  have hfl : ∀ u ∈ us, flat u.2 = true := fun u hu => Gv.flat (hp.give u hu)
  have hmem : ∀ u ∈ us, u.1 ∈ s.under := fun u hu => by rw [← hp.und]; exact List.mem_map_of_mem hu
  have hul2 := hB.undL
  have hcl := CloneC hp6.own hfl (by omega)
  repeat first
    | with_reducible refine AWP.seq ?_
    | ((with_reducible refine AWP.region ?_ ?_); exact rfl)
    | with_reducible refine AWP.block ?_
    | with_reducible refine AWP.skip ?_
    | with_reducible refine AWP.exit ?_
    | with_reducible refine AWP.ret ?_
    | with_reducible refine AWP.label ?_
    | with_reducible refine AWP.goto ?_
    | ((with_reducible refine AWP.condT ?_ ?_); focus (simp only [ev, lk_cons, ↓reduceIte, Nat.reduceEqDiff]; done))
    | ((with_reducible refine AWP.condF ?_ ?_); focus (simp only [ev, lk_cons, ↓reduceIte, Nat.reduceEqDiff]; done))
    | simp only [go_sem, ↓reduceIte, Nat.reduceEqDiff, reduceCtorEq, Nat.reduceAdd, Int.reduceEq, Int.reduceBNe, Int.reduceBEq, Int.reduceToNat, Int.reduceLT, Int.reduceLE, Int.reduceGT, Int.reduceGE, Nat.reduceSub, Nat.reduceBEq, Nat.reduceBNe, Int.reduceAdd, Int.reduceSub, Int.reduceMul, Int.reduceNeg, Nat.reduceMul, Nat.reduceLeDiff, Nat.reduceLT, hi6, hil6]
    | simp (disch := omega) only [wi64, wu8, wu16, wu32, wu64, Int.tdiv_eq_ediv_of_nonneg, Int.tmod_eq_emod_of_nonneg]
    | with_reducible_and_instances exact finR
    | ((with_reducible refine finR' ?_ ?_) <;> rfl)
    | ((with_reducible refine finD hsc (NRel.of_plain ?_)); exact rfl)
  refine AC.mono hcl ?_
  rintro r H7 ⟨v7, rfl, hf67, hO7⟩
  have t7 := t6.grow hf67
  have hso := sortO hO7 (fun u hu => (hB.und _ (hmem u hu)).1) hfl (by omega)
  repeat first
    | with_reducible refine AWP.seq ?_
    | ((with_reducible refine AWP.region ?_ ?_); exact rfl)
    | with_reducible refine AWP.block ?_
    | with_reducible refine AWP.skip ?_
    | with_reducible refine AWP.exit ?_
    | with_reducible refine AWP.ret ?_
    | with_reducible refine AWP.label ?_
    | with_reducible refine AWP.goto ?_
    | ((with_reducible refine AWP.condT ?_ ?_); focus (simp only [ev, lk_cons, ↓reduceIte, Nat.reduceEqDiff]; done))
    | ((with_reducible refine AWP.condF ?_ ?_); focus (simp only [ev, lk_cons, ↓reduceIte, Nat.reduceEqDiff]; done))
    | simp only [go_sem, ↓reduceIte, Nat.reduceEqDiff, reduceCtorEq, Nat.reduceAdd, Int.reduceEq, Int.reduceBNe, Int.reduceBEq, Int.reduceToNat, Int.reduceLT, Int.reduceLE, Int.reduceGT, Int.reduceGE, Nat.reduceSub, Nat.reduceBEq, Nat.reduceBNe, Int.reduceAdd, Int.reduceSub, Int.reduceMul, Int.reduceNeg, Nat.reduceMul, Nat.reduceLeDiff, Nat.reduceLT]
    | simp (disch := omega) only [wi64, wu8, wu16, wu32, wu64, Int.tdiv_eq_ediv_of_nonneg, Int.tmod_eq_emod_of_nonneg]
    | with_reducible_and_instances exact finR
    | ((with_reducible refine finR' ?_ ?_) <;> rfl)
    | ((with_reducible refine finD hsc (NRel.of_plain ?_)); exact rfl)
  refine AC.mono hso ?_
  rintro r H8 ⟨rfl, us', Sc, hperm, hsrt, hO8, hf78, hSc⟩
  have hl67 := hf67.1
  have hl06 := t6.frm.1
  have t8 : TxP H H.length _ H8 S6 := t7.sorted hf78 (fun t ht => by have := hSc t ht; omega) (fun t ht => (hSc t ht).2)
  have hul' : us'.length = us.length := hperm.length_eq
  have q8 := hO8.lenW
  have hlP : (lineL (head1 s) ++ lineL (head2 s) ++ lineL s.nums ++ waitL (wq s.wait s.now) ++ [10]).length ≤ 10000000 := by
    rw [List.length_append, List.length_append, List.length_append, List.length_append]; simp; omega
  obtain ⟨P5, hP5⟩ : ∃ l, l = lineL (head1 s) ++ lineL (head2 s) ++ lineL s.nums ++ waitL (wq s.wait s.now) ++ [10] := ⟨_, rfl⟩
  rw [← hP5] at hlP t8
  repeat first
    | with_reducible refine AWP.seq ?_
    | ((with_reducible refine AWP.region ?_ ?_); exact rfl)
    | with_reducible refine AWP.block ?_
    | with_reducible refine AWP.skip ?_
    | with_reducible refine AWP.exit ?_
    | with_reducible refine AWP.ret ?_
    | with_reducible refine AWP.label ?_
    | with_reducible refine AWP.goto ?_
    | ((with_reducible refine AWP.condT ?_ ?_); focus (simp only [ev, lk_cons, ↓reduceIte, Nat.reduceEqDiff]; done))
    | ((with_reducible refine AWP.condF ?_ ?_); focus (simp only [ev, lk_cons, ↓reduceIte, Nat.reduceEqDiff]; done))
    | simp only [go_sem, ↓reduceIte, Nat.reduceEqDiff, reduceCtorEq, Nat.reduceAdd, Int.reduceEq, Int.reduceBNe, Int.reduceBEq, Int.reduceToNat, Int.reduceLT, Int.reduceLE, Int.reduceGT, Int.reduceGE, Nat.reduceSub, Nat.reduceBEq, Nat.reduceBNe, Int.reduceAdd, Int.reduceSub, Int.reduceMul, Int.reduceNeg, Nat.reduceMul, Nat.reduceLeDiff, Nat.reduceLT, q8]
    | simp (disch := omega) only [wi64, wu8, wu16, wu32, wu64, Int.tdiv_eq_ediv_of_nonneg, Int.tmod_eq_emod_of_nonneg]
    | with_reducible_and_instances exact finR
    | ((with_reducible refine finR' ?_ ?_) <;> rfl)
    | ((with_reducible refine finD hsc (NRel.of_plain ?_)); exact rfl)
  refine AWP.loopP (fun p : Nat × AHeap => ⟨[(3, .pointer (some ⟨H.length, 0, none⟩)), (4, .pointer (some ⟨H.length + 1, 0, none⟩)), (109, v7), (110, .int .i64 (us'.length : Nat)), (111, .int .i64 (p.1 : Nat))], [.mark], p.2⟩)
    (fun p => p.1 ≤ us'.length ∧ OwnE p.2 us' v7 H6.length ∧ ∃ S', TxP H H.length (P5 ++ cmsL ((us'.take p.1).map (·.1))) p.2 S') (fun p => us'.length - p.1) (0, H8) ?_ ⟨Nat.zero_le _, hO8, S6, by simpa [cmsL] using t8⟩ ?_
  · exact Weak.env (by simp [envIn, lk_cons, wth_some])
  rintro ⟨n, H'⟩ ⟨hn, hO', S', t'⟩
  simp only at hn hO' t' ⊢
  have hcm : ∀ x ∈ (us'.take n).map (·.1), (∀ n ∈ cmI x, i64B n) ∧ x.p.body.length ≤ 65536 := fun x hx => by
    obtain ⟨u, hu, rfl⟩ := List.mem_map.1 hx
    exact (hB.und _ (hmem u (hperm.mem_iff.1 (List.mem_of_mem_take hu)))).2.2
  have hcl := cmsL_len ((us'.take n).map (·.1)) hcm
  rw [List.length_map, List.length_take, Nat.min_eq_left hn] at hcl
  have hbx' := t'.box
  have hbl' := lt_of_get hbx'
  by_cases hc : n < us'.length
  · have hc' : (n : Int) < (us'.length : Int) := by omega
    obtain ⟨j, o, cs, rfl, hj, hle, hg⟩ := hO'.get hc
    have hjl := lt_of_get hj
    have hwn : IntKind.i64.wrap ((n : Int) + 1) = ((n + 1 : Nat) : Int) := by rw [wi64 (by omega)]; omega
    have hum : us'[n] ∈ us := hperm.mem_iff.1 (List.getElem_mem hc)
    have htk : cmsL ((us'.take (n + 1)).map (·.1)) = cmsL ((us'.take n).map (·.1)) ++ cmL us'[n].1 := by
      rw [List.take_add_one, List.getElem?_eq_getElem hc, List.map_append]; unfold cmsL; rw [List.flatMap_append]; simp
    generalize us'[n] = u at *
    obtain ⟨x, g⟩ := u
    have hx := hB.und _ (hmem _ hum)
    have hgv : Gv (H' ++ [.cells (cmC (x, g)) ⟨66, 0, true, 0, none⟩]) g x.p := ((hp.give _ hum).fix (Frm.fix t'.frm (.nil _))).fix (Fix.more _ _)
    obtain ⟨f, a, rfl, hcall⟩ := hgv.call hx.2.1
    have hpc : x.p.c = [.int .i64 x.p.id, .int .i64 x.p.size, .int .i64 x.p.sent, .int .i64 x.p.begun, .int .i64 x.p.time, .string (bs x.p.body)] := rfl
    have hcc : cmC (x, .func (.func f) ⟨[]⟩ ⟨[a]⟩) = [.int .i64 x.time, .int .i64 x.id, .int .i64 x.copy, .func (.func f) ⟨[]⟩ ⟨[a]⟩] := rfl
    rw [hcc] at hg hcall
    rw [hpc] at hcall
    let H9 : AHeap := H' ++ [.cells [.int .i64 x.time, .int .i64 x.id, .int .i64 x.copy, .func (.func f) ⟨[]⟩ ⟨[a]⟩] ⟨66, 0, true, 0, none⟩, .cells [.int .i64 x.p.id, .int .i64 x.p.size, .int .i64 x.p.sent, .int .i64 x.p.begun, .int .i64 x.p.time, .string (bs x.p.body)] ⟨44, 0, true, 0, none⟩, .cells ((cmI x).map fun n => .int .i64 n) ⟨3, 0, true, 0, none⟩]
    have t9 : TxP H H.length _ H9 S' := t'.more _
    have hrd : RdF H9 1 (.slice (some ⟨H'.length + 2, 0, none⟩) 6 6) ((cmI x).map fun n => [.int .i64 n]) :=
      rd_ints (l := cmI x) (k := ⟨3, 0, true, 0, none⟩) (hgetk (k := 2) rfl) rfl (.inr rfl) (Nat.le_refl _)
    have hw := write H.length S' _ (cmI x) hx.2.2.1 (by rw [List.length_append, show (cmI x).length = 6 from rfl]; omega) _ H9 t9.bld (hT.lasts t9.lasts) hrd
    simp only [H9] at hw
    rw [show (cmI x).map (fun n => Value.int .i64 n) = [.int .i64 x.p.id, .int .i64 x.p.size, .int .i64 x.p.sent, .int .i64 x.p.begun, .int .i64 x.p.time, .int .i64 x.copy] from rfl] at hw
    repeat first
      | with_reducible refine AWP.seq ?_
      | ((with_reducible refine AWP.region ?_ ?_); exact rfl)
      | with_reducible refine AWP.block ?_
      | with_reducible refine AWP.skip ?_
      | with_reducible refine AWP.exit ?_
      | with_reducible refine AWP.ret ?_
      | with_reducible refine AWP.label ?_
      | with_reducible refine AWP.goto ?_
      | ((with_reducible refine AWP.condT ?_ ?_); focus (simp only [ev, lk_cons, ↓reduceIte, Nat.reduceEqDiff]; done))
      | ((with_reducible refine AWP.condF ?_ ?_); focus (simp only [ev, lk_cons, ↓reduceIte, Nat.reduceEqDiff]; done))
      | with_reducible refine hcall.use ?_
      | simp only [go_sem, ↓reduceIte, Nat.reduceEqDiff, reduceCtorEq, Nat.reduceAdd, Int.reduceEq, Int.reduceBNe, Int.reduceBEq, Int.reduceToNat, Int.reduceLT, Int.reduceLE, Int.reduceGT, Int.reduceGE, Nat.reduceSub, Nat.reduceBEq, Nat.reduceBNe, Int.reduceAdd, Int.reduceSub, Int.reduceMul, Int.reduceNeg, Nat.reduceMul, Nat.reduceLeDiff, Nat.reduceLT, hc', hj, hjl, hg, hle, hgetl, hbx', hbl']
      | simp (disch := omega) only [wi64, wu8, wu16, wu32, wu64, Int.tdiv_eq_ediv_of_nonneg, Int.tmod_eq_emod_of_nonneg]
      | with_reducible_and_instances exact finR
      | ((with_reducible refine finR' ?_ ?_) <;> rfl)
      | ((with_reducible refine finD hsc (NRel.of_plain ?_)); exact rfl)
    refine hw.use fun H10 h10 => ?_
    obtain ⟨S10, t10, hf10⟩ := t9.next h10
    have h44 : H10[H'.length + 1]? = some (.cells [.int .i64 x.p.id, .int .i64 x.p.size, .int .i64 x.p.sent, .int .i64 x.p.begun, .int .i64 x.p.time, .string (bs x.p.body)] ⟨44, 0, true, 0, none⟩) := hf10 _ _ _ (hgetk (k := 1) rfl) rfl
    have hl44 := lt_of_get h44
    have hbd : x.p.body.length ≤ 65536 := hx.2.2.2
    have hq := Quote x.p.body (by omega) H10 (hT.lasts t10.lasts)
    have hlq : (quo x.p.body).length ≤ 10 * x.p.body.length + 2 := quoteL_len Lib.goPrintTabs x.p.body
    have hli := lineL_len (cmI x) hx.2.2.1
    rw [show (cmI x).length = 6 from rfl] at hli
    have hw2 := Write H.length S10 _ (quo x.p.body ++ [10]) (by simp) (by simp only [List.length_append, List.length_singleton]; omega) H10 t10.bld
    repeat first
      | with_reducible refine AWP.seq ?_
      | ((with_reducible refine AWP.region ?_ ?_); exact rfl)
      | with_reducible refine AWP.block ?_
      | with_reducible refine AWP.skip ?_
      | with_reducible refine AWP.exit ?_
      | with_reducible refine AWP.ret ?_
      | with_reducible refine AWP.label ?_
      | with_reducible refine AWP.goto ?_
      | ((with_reducible refine AWP.condT ?_ ?_); focus (simp only [ev, lk_cons, ↓reduceIte, Nat.reduceEqDiff]; done))
      | ((with_reducible refine AWP.condF ?_ ?_); focus (simp only [ev, lk_cons, ↓reduceIte, Nat.reduceEqDiff]; done))
      | with_reducible refine hq.use ?_
      | simp only [go_sem, ↓reduceIte, Nat.reduceEqDiff, reduceCtorEq, Nat.reduceAdd, Int.reduceEq, Int.reduceBNe, Int.reduceBEq, Int.reduceToNat, Int.reduceLT, Int.reduceLE, Int.reduceGT, Int.reduceGE, Nat.reduceSub, Nat.reduceBEq, Nat.reduceBNe, Int.reduceAdd, Int.reduceSub, Int.reduceMul, Int.reduceNeg, Nat.reduceMul, Nat.reduceLeDiff, Nat.reduceLT, h44, hl44, bs_append]
      | simp (disch := omega) only [wi64, wu8, wu16, wu32, wu64, Int.tdiv_eq_ediv_of_nonneg, Int.tmod_eq_emod_of_nonneg]
      | with_reducible_and_instances exact finR
      | ((with_reducible refine finR' ?_ ?_) <;> rfl)
      | ((with_reducible refine finD hsc (NRel.of_plain ?_)); exact rfl)
    refine ⟨by omega, ?_⟩
    refine hw2.use fun H11 h11 => ?_
    obtain ⟨S11, t11, hf11⟩ := t10.next h11
    repeat first
      | with_reducible refine AWP.seq ?_
      | ((with_reducible refine AWP.region ?_ ?_); exact rfl)
      | with_reducible refine AWP.block ?_
      | with_reducible refine AWP.skip ?_
      | with_reducible refine AWP.exit ?_
      | with_reducible refine AWP.ret ?_
      | with_reducible refine AWP.label ?_
      | with_reducible refine AWP.goto ?_
      | ((with_reducible refine AWP.condT ?_ ?_); focus (simp only [ev, lk_cons, ↓reduceIte, Nat.reduceEqDiff]; done))
      | ((with_reducible refine AWP.condF ?_ ?_); focus (simp only [ev, lk_cons, ↓reduceIte, Nat.reduceEqDiff]; done))
      | simp only [go_sem, ↓reduceIte, Nat.reduceEqDiff, reduceCtorEq, Nat.reduceAdd, Int.reduceEq, Int.reduceBNe, Int.reduceBEq, Int.reduceToNat, Int.reduceLT, Int.reduceLE, Int.reduceGT, Int.reduceGE, Nat.reduceSub, Nat.reduceBEq, Nat.reduceBNe, Int.reduceAdd, Int.reduceSub, Int.reduceMul, Int.reduceNeg, Nat.reduceMul, Nat.reduceLeDiff, Nat.reduceLT, hwn]
      | simp (disch := omega) only [wi64, wu8, wu16, wu32, wu64, Int.tdiv_eq_ediv_of_nonneg, Int.tmod_eq_emod_of_nonneg]
      | with_reducible_and_instances exact finR
      | ((with_reducible refine finR' ?_ ?_) <;> rfl)
      | ((with_reducible refine finD hsc (NRel.of_plain ?_)); exact rfl)
    refine ⟨(n + 1, H11), Weak.env (by simp [envIn, lk_cons, wth_some]), by show n + 1 ≤ _; omega, ((hO'.bfix (BFix.more _ _)).bfix hf10).bfix hf11, ⟨S11, ?_⟩, by show us'.length - (n + 1) < _; omega⟩
    show TxP H H.length (P5 ++ cmsL ((us'.take (n + 1)).map (·.1))) H11 S11
    rw [htk]
    unfold cmL
    simpa only [List.append_assoc] using t11
  · have hc' : ¬ (n : Int) < (us'.length : Int) := by omega
    have : n = us'.length := by omega
    subst this
    rw [List.take_length] at t' hcl
    have hpos : 0 < (P5 ++ cmsL (us'.map (·.1))).length := by
      rw [hP5, List.length_append, List.length_append]; simp; omega
    obtain ⟨j, hb, hS'⟩ := t'.bld
    have hst := BString H.length j _ hpos (by rw [List.length_append]; omega) H' hb
    have hjn : H.length ≤ j := t'.new j (by rw [hS', if_neg (List.length_pos_iff.1 hpos)]; simp)
    repeat first
      | with_reducible refine AWP.seq ?_
      | ((with_reducible refine AWP.region ?_ ?_); exact rfl)
      | with_reducible refine AWP.block ?_
      | with_reducible refine AWP.skip ?_
      | with_reducible refine AWP.exit ?_
      | with_reducible refine AWP.ret ?_
      | with_reducible refine AWP.label ?_
      | with_reducible refine AWP.goto ?_
      | ((with_reducible refine AWP.condT ?_ ?_); focus (simp only [ev, lk_cons, ↓reduceIte, Nat.reduceEqDiff]; done))
      | ((with_reducible refine AWP.condF ?_ ?_); focus (simp only [ev, lk_cons, ↓reduceIte, Nat.reduceEqDiff]; done))
      | with_reducible refine hst.use ?_
      | simp only [go_sem, ↓reduceIte, Nat.reduceEqDiff, reduceCtorEq, Nat.reduceAdd, Int.reduceEq, Int.reduceBNe, Int.reduceBEq, Int.reduceToNat, Int.reduceLT, Int.reduceLE, Int.reduceGT, Int.reduceGE, Nat.reduceSub, Nat.reduceBEq, Nat.reduceBNe, Int.reduceAdd, Int.reduceSub, Int.reduceMul, Int.reduceNeg, Nat.reduceMul, Nat.reduceLeDiff, Nat.reduceLT, hc']
      | simp (disch := omega) only [wi64, wu8, wu16, wu32, wu64, Int.tdiv_eq_ediv_of_nonneg, Int.tmod_eq_emod_of_nonneg]
      | with_reducible_and_instances exact finR
      | ((with_reducible refine finR' ?_ ?_) <;> rfl)
      | ((with_reducible refine finD hsc (NRel.of_plain ?_)); exact rfl)
    refine ⟨_, _, .refl _ _ _, us'.map (·.1), ?_, ?_, ?_, Frm.set t'.frm (.inr hjn)⟩
    · rw [← hp.und]; exact hperm.map _
    · rw [List.pairwise_map]; exact hsrt
    · rw [hP5]; unfold textL; simp only [List.append_assoc]
end Go.Proofs.YtnfkbgpbligloaaDoor
