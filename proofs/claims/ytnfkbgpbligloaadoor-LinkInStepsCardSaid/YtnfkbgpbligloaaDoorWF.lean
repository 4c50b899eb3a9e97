/-
  Writing a link down: the builder's frame, a line of numbers.
-/
import Derived.Test.YtnfkbgpbligloaaDoorWE
import Derived.Lib.ItoaLen
import Derived.Lib.PrintData
set_option linter.unusedVariables false
set_option linter.unusedSimpArgs false
set_option maxRecDepth 20000
set_option maxHeartbeats 4000000
namespace Go.Proofs.YtnfkbgpbligloaaDoor
open Go Go.Aw Go.Proofs Go.Shelf
/-- What is lent: the tables that the library reads. -/
structure LibH (H : AHeap) : Prop where
  tab : TabN H 0 (Lib.pow10Tab.map (Value.int .u64))
  quo : QuoteH H 1 2 3 4 5 6 Lib.goPrintTabs
theorem LibH.lasts {H H2 : AHeap} (h : LibH H) (hl : Lasts H H2) : LibH H2 := ⟨h.tab.lasts hl, h.quo.lasts hl⟩
theorem gTab : Tryd.prog.globalNamed "internal/strconv.uint64pow10" = some 0 := by kernel_rfl
theorem Itoa (n : Int) (h0 : -9223372036854775808 ≤ n) (h1 : n ≤ 9223372036854775807) (H : AHeap) (hT : LibH H) : ARet Tryd.prog 29 [.int .i64 n] H (.string (bs (Lib.itoa n))) H :=
  ARet.itoaN Tryd.laysItoa Tryd.func29 rfl (by kernel_rfl) gTab hT.tab h0 h1
theorem printOk : PrintOk Lib.goPrintTabs := ⟨by decide, by decide, by decide⟩
def quo (s : List UInt8) : List UInt8 := quoteL Lib.goPrintTabs s
theorem Quote (s : List UInt8) (hs : s.length ≤ 1000000) (H : AHeap) (hT : LibH H) : ARet Tryd.prog 32 [.string (bs s)] H (.string (bs (quo s))) H :=
  ARet.quote Tryd.laysQuote (by kernel_rfl) Tryd.func32 rfl (by kernel_rfl) printOk (by omega) hT.quo
/-- A builder that holds l, and what of the heap is its own. -/
def BldS (H : AHeap) (b : Nat) (l : List UInt8) (S : List Nat) : Prop := ∃ j, Bld H b j l ∧ S = if l = [] then [b] else [b, j]
def kB (k : CK) : Bool := k.own && (k.e == 74 || k.e == 5)
theorem BldS.kinds {H : AHeap} {b : Nat} {l : List UInt8} {S : List Nat} (h : BldS H b l S) : ∀ s ∈ S, ∃ cs k, H[s]? = some (.cells cs k) ∧ kB k = true := by
  obtain ⟨j, ⟨⟨p, h1, h2⟩, h3⟩, rfl⟩ := h
  intro s hs
  by_cases hl : l = []
  · rw [if_pos hl] at hs
    rw [List.mem_singleton.1 hs]
    exact ⟨_, _, h1, rfl⟩
  · rw [if_neg hl] at hs
    rcases List.mem_cons.1 hs with rfl | hs
    · exact ⟨_, _, h1, rfl⟩
    · rw [List.mem_singleton.1 hs]
      exact ⟨_, _, (h3 (List.length_pos_iff.2 hl)).2, rfl⟩
theorem BldS.mem {H : AHeap} {b : Nat} {l : List UInt8} {S : List Nat} (h : BldS H b l S) : b ∈ S := by
  obtain ⟨j, _, rfl⟩ := h
  split <;> simp
theorem BldS.frm {H H2 : AHeap} {b : Nat} {l : List UInt8} {S T : List Nat} (h : BldS H b l S) (hf : Frm T H H2) (hd : ∀ s ∈ S, s ∉ T) : BldS H2 b l S := by
  obtain ⟨j, ⟨⟨p, h1, h2⟩, h3⟩, rfl⟩ := h
  refine ⟨j, ⟨⟨p, hf.get h1 (hd b (by split <;> simp)), h2⟩, fun hl => ⟨(h3 hl).1, hf.get (h3 hl).2 (hd j ?_)⟩⟩, rfl⟩
  rw [if_neg (List.length_pos_iff.1 hl)]; simp
/-- Whatever is no builder's stays. -/
def BFix (H H2 : AHeap) : Prop := ∀ (j : Nat) (cs : List Value) (k : CK), H[j]? = some (.cells cs k) → kB k = false → H2[j]? = some (.cells cs k)
theorem BFix.refl (H : AHeap) : BFix H H := fun _ _ _ h _ => h
theorem BFix.trans {H H1 H2 : AHeap} (h : BFix H H1) (k : BFix H1 H2) : BFix H H2 := fun j cs kk a b => k j cs kk (h j cs kk a b) b
theorem BFix.lasts {H H2 : AHeap} (h : BFix H H2) : Lasts H H2 := fun j cs k hj ho => h j cs k hj (by unfold kB; rw [ho]; rfl)
theorem Frm.bfix {S : List Nat} {H H2 : AHeap} (h : Frm S H H2) (hm : ∀ s ∈ S, ∃ cs k, H[s]? = some (.cells cs k) ∧ kB k = true) : BFix H H2 := fun j cs k hj hk => h.get hj fun hs => by
  obtain ⟨cs', k', e, hb⟩ := hm j hs
  rw [hj] at e; cases e
  rw [hk] at hb; cases hb
theorem BFix.more (H X : AHeap) : BFix H (H ++ X) := fun j cs k h _ => by rw [hgetl (lt_of_get h)]; exact h
theorem RdF.bfix {H H2 : AHeap} {m : Nat} {v : Value} {l : List (List Value)} (h : RdF H m v l) (hf : BFix H H2) : RdF H2 m v l := by
  rcases h with h | ⟨i, off, cap, cs, k, e, hc, hi, hk, hz, hl, hr⟩
  · exact .inl h
  · refine .inr ⟨i, off, cap, cs, k, e, hc, hf i cs k hi ?_, hk, hz, hl, hr⟩
    unfold fixK at hk
    simp only [Bool.and_eq_true, bne_iff_ne, ne_eq] at hk
    unfold kB
    rw [beq_eq_false_iff_ne.2 hk.2.2.1, beq_eq_false_iff_ne.2 hk.2.2.2]
    simp
/-- The builder at b came to hold l. -/
def BTo (H : AHeap) (b : Nat) (S : List Nat) (l : List UInt8) (H2 : AHeap) : Prop := ∃ S2, BldS H2 b l S2 ∧ Frm S H H2 ∧ ∀ t ∈ S2, t ∈ S ∨ H.length ≤ t
theorem BTo.bfix {H H2 : AHeap} {b : Nat} {S : List Nat} {l l2 : List UInt8} (h : BldS H b l S) (k : BTo H b S l2 H2) : BFix H H2 := by
  obtain ⟨S2, _, hf, _⟩ := k
  exact Frm.bfix hf h.kinds
theorem BTo.trans {H H1 H2 : AHeap} {b : Nat} {S S1 : List Nat} {l : List UInt8} (hf : Frm S H H1) (hs : ∀ t ∈ S1, t ∈ S ∨ H.length ≤ t) (h2 : BTo H1 b S1 l H2) : BTo H b S l H2 := by
  obtain ⟨S2, h1, h3, h4⟩ := h2
  exact ⟨S2, h1, hf.trans h3 hs, fun t ht => by
    rcases h4 t ht with h | h
    · exact hs t h
    · exact .inr (Nat.le_trans hf.1 h)⟩
theorem Write (b : Nat) (S : List Nat) (l s : List UInt8) (hs : 0 < s.length) (hl : l.length + s.length ≤ 1099511627776) (H : AHeap) (hB : BldS H b l S) :
    ARex Tryd.prog 28 [.pointer (some ⟨b, 0, none⟩), .string (bs s)] H (.tuple ⟨[.int .i64 (s.length : Nat), .nilIface]⟩) (BTo H b S (l ++ s)) := by
  obtain ⟨j, hb, rfl⟩ := hB
  have hbl := hb.lt
  have hne : ¬ (l ++ s = []) := by
    intro e
    have := congrArg List.length e
    rw [List.length_append, List.length_nil] at this
    omega
  by_cases h0 : l = []
  · rw [if_pos h0]
    subst h0
    have hb' : Bld H b H.length [] := ⟨hb.1, fun h => absurd h (by simp)⟩
    refine (WriteString b H.length [] s hs hl H hb').mono fun r H2 ⟨e, j2, h1, h2, h3⟩ => ⟨e, [b, j2], ⟨j2, h1, by rw [if_neg hne]⟩, ⟨h2.1, fun q hq hn => h2.2 q hq (by simp at hn ⊢; exact ⟨hn, by omega⟩)⟩, fun t ht => ?_⟩
    simp at ht ⊢
    rcases ht with h | h
    · exact .inl h
    · right; rw [h]; omega
  · rw [if_neg h0]
    refine (WriteString b j l s hs hl H hb).mono fun r H2 ⟨e, j2, h1, h2, h3⟩ => ⟨e, [b, j2], ⟨j2, h1, by rw [if_neg hne]⟩, h2, fun t ht => ?_⟩
    simp at ht ⊢
    rcases ht with h | h
    · exact .inl (.inl h)
    · rw [h]; rcases h3 with h3 | h3
      · exact .inl (.inr h3)
      · exact .inr h3
def numL (n : Int) : List UInt8 := Lib.itoa n ++ [32]
def numsL (ns : List Int) : List UInt8 := ns.flatMap numL
def lineL (ns : List Int) : List UInt8 := numsL ns ++ [10]
theorem numsL_snoc (ns : List Int) (n : Int) : numsL (ns ++ [n]) = numsL ns ++ (Lib.itoa n ++ [32]) := by
  unfold numsL; rw [List.flatMap_append]; simp [numL]
def i64B (n : Int) : Prop := -9223372036854775808 ≤ n ∧ n ≤ 9223372036854775807
theorem numsL_len (ns : List Int) (h : ∀ n ∈ ns, i64B n) : (numsL ns).length ≤ ns.length * 22 := by
  induction ns with
  | nil => simp [numsL]
  | cons n ns ih =>
    have e : numsL (n :: ns) = Lib.itoa n ++ [32] ++ numsL ns := rfl
    have h1 := ih fun x hx => h x (List.mem_cons_of_mem _ hx)
    have h2 := Lib.itoa_length_le n (h n (List.mem_cons_self ..)).1 (h n (List.mem_cons_self ..)).2
    rw [e, List.length_append, List.length_append, List.length_cons (a := n)]
    simp
    omega
theorem bs_append (a b : List UInt8) : bs a ++ bs b = bs (a ++ b) := by
  apply ByteArray.ext
  simp [bs]
theorem write (b : Nat) (S : List Nat) (l : List UInt8) (ns : List Int) (hns : ∀ n ∈ ns, i64B n) (hsz : l.length + (ns.length * 22 + 1) ≤ 1099511627776) (v : Value) (H : AHeap) (hB : BldS H b l S) (hT : LibH H) (hv : RdF H 1 v (ns.map fun n => [.int .i64 n])) :
    ARex Tryd.prog 27 [v, .pointer (some ⟨b, 0, none⟩)] H noVal (BTo H b S (l ++ lineL ns)) := by
  have q1 : ∀ H' K, lenW Tryd.prog 24 v H' K = K (.int .i64 (ns.length : Nat)) H' := fun H' K => by rw [hv.lenT (by simp only [go_sem, ↓reduceIte, Nat.reduceEqDiff, reduceCtorEq, Nat.reduceAdd, Int.reduceEq, Int.reduceBNe, Int.reduceBEq, Int.reduceToNat, Int.reduceLT, Int.reduceLE, Int.reduceGT, Int.reduceGE, Nat.reduceSub, Nat.reduceBEq, Nat.reduceBNe, Int.reduceAdd, Int.reduceSub, Int.reduceMul, Int.reduceNeg, Nat.reduceMul, Nat.reduceLeDiff, Nat.reduceLT]), List.length_map]
  refine AC.enter Tryd.func27 rfl (by kernel_rfl) 17 rfl [] rfl (by simp) fun hsc B => ?_
  repeat first
    | with_reducible refine AWP.seq ?_
    | ((with_reducible refine AWP.region ?_ ?_); exact rfl)
    | with_reducible refine AWP.block ?_
    | with_reducible refine AWP.skip ?_
    | with_reducible refine AWP.exit ?_
    | with_reducible refine AWP.ret ?_
    | with_reducible refine AWP.label ?_
    | with_reducible refine AWP.goto ?_
    | ((with_reducible refine AWP.condT ?_ ?_); focus (simp only [ev, lk_cons, ↓reduceIte, Nat.reduceEqDiff]; done))
    | ((with_reducible refine AWP.condF ?_ ?_); focus (simp only [ev, lk_cons, ↓reduceIte, Nat.reduceEqDiff]; done))
    | simp only [go_sem, ↓reduceIte, Nat.reduceEqDiff, reduceCtorEq, Nat.reduceAdd, Int.reduceEq, Int.reduceBNe, Int.reduceBEq, Int.reduceToNat, Int.reduceLT, Int.reduceLE, Int.reduceGT, Int.reduceGE, Nat.reduceSub, Nat.reduceBEq, Nat.reduceBNe, Int.reduceAdd, Int.reduceSub, Int.reduceMul, Int.reduceNeg, Nat.reduceMul, Nat.reduceLeDiff, Nat.reduceLT, q1]
    | simp (disch := omega) only [wi64, wu8, wu16, wu32, wu64, Int.tdiv_eq_ediv_of_nonneg, Int.tmod_eq_emod_of_nonneg]
    | with_reducible_and_instances exact finR
    | ((with_reducible refine finR' ?_ ?_) <;> rfl)
    | ((with_reducible refine finD hsc (NRel.of_plain ?_)); exact rfl)
  refine AWP.loopP (fun s : Nat × AHeap => ⟨[(1, .pointer (some ⟨b, 0, none⟩)), (5, v), (6, .int .i64 (ns.length : Nat)), (7, .int .i64 (s.1 : Nat))], [], s.2⟩) (fun s => s.1 ≤ ns.length ∧ BTo H b S (l ++ numsL (ns.take s.1)) s.2) (fun s => ns.length - s.1) (0, H) ?_ ⟨Nat.zero_le _, S, by simpa [numsL] using hB, .refl _ _, fun t h => .inl h⟩ ?_
  · exact Weak.env (by simp [envIn, lk_cons, wth_some])
  rintro ⟨n, H1⟩ ⟨hn, hb⟩
  simp only at hn hb ⊢
  have hfix := hb.bfix hB
  obtain ⟨S1, hB1, hf1, hs1⟩ := hb
  have hlen := numsL_len (ns.take n) fun x hx => hns x (List.mem_of_mem_take hx)
  have htl : (ns.take n).length = n := by rw [List.length_take]; omega
  by_cases hc : n < ns.length
  · have hc' : (n : Int) < (ns.length : Int) := by omega
    obtain ⟨j, o, cap, cs, k, hvv, hj, hg, hle⟩ := (hv.bfix hfix).at2 (n := n) (by rw [List.length_map]; exact hc)
    have hjl := lt_of_get hj
    have hwn : IntKind.i64.wrap ((n : Int) + 1) = ((n + 1 : Nat) : Int) := by rw [wi64 (by omega)]; omega
    have hb1 := hns ns[n] (List.getElem_mem hc)
    have hit := Itoa ns[n] hb1.1 hb1.2 H1 (hT.lasts hfix.lasts)
    have hil := Lib.itoa_length_le ns[n] hb1.1 hb1.2
    have hw := Write b S1 (l ++ numsL (ns.take n)) (Lib.itoa ns[n] ++ [32]) (by simp) (by rw [List.length_append, List.length_append]; simp; omega) H1 hB1
    have hl2 : l ++ numsL (ns.take n) ++ (Lib.itoa ns[n] ++ [32]) = l ++ numsL (ns.take (n + 1)) := by
      rw [List.take_add_one, List.getElem?_eq_getElem hc, List.append_assoc]; exact congrArg _ (numsL_snoc _ _).symm
    rw [hl2] at hw
    have hcell : cs[o + n]? = some (.int .i64 ns[n]) := by
      rw [List.getElem_map] at hg
      have h2 := congrArg (·[0]?) hg
      simpa [Nat.mul_one] using h2
    subst hvv
    repeat first
      | with_reducible refine AWP.seq ?_
      | ((with_reducible refine AWP.region ?_ ?_); exact rfl)
      | with_reducible refine AWP.block ?_
      | with_reducible refine AWP.skip ?_
      | with_reducible refine AWP.exit ?_
      | with_reducible refine AWP.ret ?_
      | with_reducible refine AWP.label ?_
      | with_reducible refine AWP.goto ?_
      | ((with_reducible refine AWP.condT ?_ ?_); focus (simp only [ev, lk_cons, ↓reduceIte, Nat.reduceEqDiff]; done))
      | ((with_reducible refine AWP.condF ?_ ?_); focus (simp only [ev, lk_cons, ↓reduceIte, Nat.reduceEqDiff]; done))
      | with_reducible refine hit.use ?_
      | simp only [go_sem, ↓reduceIte, Nat.reduceEqDiff, reduceCtorEq, Nat.reduceAdd, Int.reduceEq, Int.reduceBNe, Int.reduceBEq, Int.reduceToNat, Int.reduceLT, Int.reduceLE, Int.reduceGT, Int.reduceGE, Nat.reduceSub, Nat.reduceBEq, Nat.reduceBNe, Int.reduceAdd, Int.reduceSub, Int.reduceMul, Int.reduceNeg, Nat.reduceMul, Nat.reduceLeDiff, Nat.reduceLT, hc', hj, hcell, bs_append, List.length_map]
      | simp (disch := omega) only [wi64, wu8, wu16, wu32, wu64, Int.tdiv_eq_ediv_of_nonneg, Int.tmod_eq_emod_of_nonneg]
      | with_reducible_and_instances exact finR
      | ((with_reducible refine finR' ?_ ?_) <;> rfl)
      | ((with_reducible refine finD hsc (NRel.of_plain ?_)); exact rfl)
    refine ⟨by omega, ?_⟩
    repeat first
      | with_reducible refine AWP.seq ?_
      | ((with_reducible refine AWP.region ?_ ?_); exact rfl)
      | with_reducible refine AWP.block ?_
      | with_reducible refine AWP.skip ?_
      | with_reducible refine AWP.exit ?_
      | with_reducible refine AWP.ret ?_
      | with_reducible refine AWP.label ?_
      | with_reducible refine AWP.goto ?_
      | ((with_reducible refine AWP.condT ?_ ?_); focus (simp only [ev, lk_cons, ↓reduceIte, Nat.reduceEqDiff]; done))
      | ((with_reducible refine AWP.condF ?_ ?_); focus (simp only [ev, lk_cons, ↓reduceIte, Nat.reduceEqDiff]; done))
      | with_reducible refine hit.use ?_
      | simp only [go_sem, ↓reduceIte, Nat.reduceEqDiff, reduceCtorEq, Nat.reduceAdd, Int.reduceEq, Int.reduceBNe, Int.reduceBEq, Int.reduceToNat, Int.reduceLT, Int.reduceLE, Int.reduceGT, Int.reduceGE, Nat.reduceSub, Nat.reduceBEq, Nat.reduceBNe, Int.reduceAdd, Int.reduceSub, Int.reduceMul, Int.reduceNeg, Nat.reduceMul, Nat.reduceLeDiff, Nat.reduceLT, hc', hj, hcell, bs_append, List.length_map]
      | simp (disch := omega) only [wi64, wu8, wu16, wu32, wu64, Int.tdiv_eq_ediv_of_nonneg, Int.tmod_eq_emod_of_nonneg]
      | with_reducible_and_instances exact finR
      | ((with_reducible refine finR' ?_ ?_) <;> rfl)
      | ((with_reducible refine finD hsc (NRel.of_plain ?_)); exact rfl)
    refine hw.use fun H2 h2 => ?_
    repeat first
      | with_reducible refine AWP.seq ?_
      | ((with_reducible refine AWP.region ?_ ?_); exact rfl)
      | with_reducible refine AWP.block ?_
      | with_reducible refine AWP.skip ?_
      | with_reducible refine AWP.exit ?_
      | with_reducible refine AWP.ret ?_
      | with_reducible refine AWP.label ?_
      | with_reducible refine AWP.goto ?_
      | ((with_reducible refine AWP.condT ?_ ?_); focus (simp only [ev, lk_cons, ↓reduceIte, Nat.reduceEqDiff]; done))
      | ((with_reducible refine AWP.condF ?_ ?_); focus (simp only [ev, lk_cons, ↓reduceIte, Nat.reduceEqDiff]; done))
      | simp only [go_sem, ↓reduceIte, Nat.reduceEqDiff, reduceCtorEq, Nat.reduceAdd, Int.reduceEq, Int.reduceBNe, Int.reduceBEq, Int.reduceToNat, Int.reduceLT, Int.reduceLE, Int.reduceGT, Int.reduceGE, Nat.reduceSub, Nat.reduceBEq, Nat.reduceBNe, Int.reduceAdd, Int.reduceSub, Int.reduceMul, Int.reduceNeg, Nat.reduceMul, Nat.reduceLeDiff, Nat.reduceLT, hwn]
      | simp (disch := omega) only [wi64, wu8, wu16, wu32, wu64, Int.tdiv_eq_ediv_of_nonneg, Int.tmod_eq_emod_of_nonneg]
      | with_reducible_and_instances exact finR
      | ((with_reducible refine finR' ?_ ?_) <;> rfl)
      | ((with_reducible refine finD hsc (NRel.of_plain ?_)); exact rfl)
    refine ⟨(n + 1, H2), Weak.env (by simp [envIn, lk_cons, wth_some]), by show n + 1 ≤ _; omega, BTo.trans hf1 hs1 h2, by show ns.length - (n + 1) < _; omega⟩
  · have hc' : ¬ (n : Int) < (ns.length : Int) := by omega
    have : n = ns.length := by omega
    subst this
    rw [List.take_length] at hB1 hlen
    have hw := Write b S1 (l ++ numsL ns) [10] (by simp) (by rw [List.length_append]; simp; omega) H1 hB1
    rw [List.append_assoc] at hw
    repeat first
      | with_reducible refine AWP.seq ?_
      | ((with_reducible refine AWP.region ?_ ?_); exact rfl)
      | with_reducible refine AWP.block ?_
      | with_reducible refine AWP.skip ?_
      | with_reducible refine AWP.exit ?_
      | with_reducible refine AWP.ret ?_
      | with_reducible refine AWP.label ?_
      | with_reducible refine AWP.goto ?_
      | ((with_reducible refine AWP.condT ?_ ?_); focus (simp only [ev, lk_cons, ↓reduceIte, Nat.reduceEqDiff]; done))
      | ((with_reducible refine AWP.condF ?_ ?_); focus (simp only [ev, lk_cons, ↓reduceIte, Nat.reduceEqDiff]; done))
      | simp only [go_sem, ↓reduceIte, Nat.reduceEqDiff, reduceCtorEq, Nat.reduceAdd, Int.reduceEq, Int.reduceBNe, Int.reduceBEq, Int.reduceToNat, Int.reduceLT, Int.reduceLE, Int.reduceGT, Int.reduceGE, Nat.reduceSub, Nat.reduceBEq, Nat.reduceBNe, Int.reduceAdd, Int.reduceSub, Int.reduceMul, Int.reduceNeg, Nat.reduceMul, Nat.reduceLeDiff, Nat.reduceLT, hc']
      | simp (disch := omega) only [wi64, wu8, wu16, wu32, wu64, Int.tdiv_eq_ediv_of_nonneg, Int.tmod_eq_emod_of_nonneg]
      | with_reducible_and_instances exact finR
      | ((with_reducible refine finR' ?_ ?_) <;> rfl)
      | ((with_reducible refine finD hsc (NRel.of_plain ?_)); exact rfl)
    refine hw.use fun H2 h2 => ?_
    repeat first
      | with_reducible refine AWP.seq ?_
      | ((with_reducible refine AWP.region ?_ ?_); exact rfl)
      | with_reducible refine AWP.block ?_
      | with_reducible refine AWP.skip ?_
      | with_reducible refine AWP.exit ?_
      | with_reducible refine AWP.ret ?_
      | with_reducible refine AWP.label ?_
      | with_reducible refine AWP.goto ?_
      | ((with_reducible refine AWP.condT ?_ ?_); focus (simp only [ev, lk_cons, ↓reduceIte, Nat.reduceEqDiff]; done))
      | ((with_reducible refine AWP.condF ?_ ?_); focus (simp only [ev, lk_cons, ↓reduceIte, Nat.reduceEqDiff]; done))
      | simp only [go_sem, ↓reduceIte, Nat.reduceEqDiff, reduceCtorEq, Nat.reduceAdd, Int.reduceEq, Int.reduceBNe, Int.reduceBEq, Int.reduceToNat, Int.reduceLT, Int.reduceLE, Int.reduceGT, Int.reduceGE, Nat.reduceSub, Nat.reduceBEq, Nat.reduceBNe, Int.reduceAdd, Int.reduceSub, Int.reduceMul, Int.reduceNeg, Nat.reduceMul, Nat.reduceLeDiff, Nat.reduceLT]
      | simp (disch := omega) only [wi64, wu8, wu16, wu32, wu64, Int.tdiv_eq_ediv_of_nonneg, Int.tmod_eq_emod_of_nonneg]
      | with_reducible_and_instances exact finR
      | ((with_reducible refine finR' ?_ ?_) <;> rfl)
      | ((with_reducible refine finD hsc (NRel.of_plain ?_)); exact rfl)
    exact ⟨_, _, .refl _ _ _, rfl, BTo.trans hf1 hs1 h2⟩
end Go.Proofs.YtnfkbgpbligloaaDoor
