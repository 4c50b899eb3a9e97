/-
  slices.SortFunc, said of abstract heaps: a row of elements, each of a key and of one value that may name memory.
-/
import Derived.Test.YtnfkbgpbligloaaDoorAwC
import Derived.Test.YtnfkbgpbligloaaDoorAwB
import Derived.Shelf.SlSortCmp.WholeK
set_option linter.unusedVariables false
set_option linter.unusedSimpArgs false
namespace Go.Aw
open Go.Proofs Go.Shelf Go.Lib Go.Sort Go.RowKit
theorem AC.ofCallsV {P : Program} {f : FuncId} {fn : Func} {args : List Value} {K : ARes → AHeap → Prop} (hf : P.funcs[f]? = some fn) (hb : fn.body.isSome = true) (hn : (fn.name == "runtime.NumGoroutine") = false)
    (H : AHeap) (h : ∀ c w vargs, HRel c H w → VRels c args vargs → Calls P f ⟨vargs⟩ w (CPost K c H w)) : AC P f args H K := by
  intro c w vargs hh hvs
  unfold CallTo
  have hbn : fn.body.isNone = false := by cases hfb : fn.body <;> simp_all
  have hr : (callFunc f ⟨vargs⟩).run P w = .ok (.enter f ⟨vargs⟩) w := by
    simp only [callFunc, Sem.run_bind, run_program, Result.andThen_ok, hf, hn, Bool.false_eq_true, if_false, hbn]
    rfl
  rw [hr]
  exact h c w vargs hh hvs
/-- How an element lies: its cells, of which one is its value. -/
structure Enc (κ : Type) where
  en : κ → Value → List Value
  k : Nat
  len : ∀ x v, (en x v).length = k
  one : ∀ x v, v.oneCell' = true → ∀ u ∈ en x v, u.oneCell' = true
  rel : ∀ c x v v', VRel c v v' → VRels c (en x v) (en x v')
  inv : ∀ c x v l', VRels c (en x v) l' → ∃ v', l' = en x v' ∧ VRel c v v'
theorem flat_get {α : Type} [Inhabited α] (enc : α → List Value) (k : Nat) (hk : ∀ x, (enc x).length = k) : ∀ (l : List α) (t : Nat), t < l.length * k → (l.flatMap enc)[t]? = (enc l[t / k]!)[t % k]?
  | [], t, h => by simp at h
  | x :: l, t, h => by
    have e : (x :: l).flatMap enc = enc x ++ l.flatMap enc := rfl
    have hk0 : 0 < k := by
      rcases Nat.eq_zero_or_pos k with h0 | h0
      · subst h0; simp at h
      · exact h0
    rw [e]
    by_cases ht : t < k
    · rw [List.getElem?_append_left (by rw [hk]; exact ht), Nat.div_eq_of_lt ht, Nat.mod_eq_of_lt ht]; rfl
    · rw [List.length_cons, Nat.add_mul, Nat.one_mul] at h
      rw [List.getElem?_append_right (by rw [hk]; omega), hk, flat_get enc k hk l (t - k) (by omega)]
      have e1 : t / k = (t - k) / k + 1 := by
        have := Nat.sub_add_cancel (Nat.not_lt.1 ht)
        conv => lhs; rw [← this]
        exact Nat.add_div_right _ hk0
      have e2 : t % k = (t - k) % k := by
        have := Nat.sub_add_cancel (Nat.not_lt.1 ht)
        conv => lhs; rw [← this]
        exact Nat.add_mod_right _ _
      rw [e1, e2]; rfl
theorem flatMap_len {α : Type} (enc : α → List Value) (k : Nat) (hk : ∀ x, (enc x).length = k) : ∀ (l : List α), (l.flatMap enc).length = l.length * k
  | [] => by simp
  | x :: l => by
    have e : (x :: l).flatMap enc = enc x ++ l.flatMap enc := rfl
    rw [e, List.length_append, flatMap_len enc k hk l, hk, List.length_cons, Nat.add_mul, Nat.one_mul]; omega
theorem flatK_list {α : Type} [Inhabited α] (enc : α → List Value) (k : Nat) (hk : ∀ x, (enc x).length = k) (d : Array α) : (flatK enc k d).toList = d.toList.flatMap enc := by
  apply List.ext_getElem?
  intro t
  by_cases ht : t < d.size * k
  · rw [flat_get enc k hk d.toList t (by simpa using ht)]
    have hs : t < (flatK enc k d).size := by rw [size_flatK]; exact ht
    have h1 := get_flatK enc k d t ht
    rw [getElem!_pos (flatK enc k d) t hs] at h1
    rw [List.getElem?_eq_getElem (by simpa using hs)]
    have hk0 : 0 < k := by
      rcases Nat.eq_zero_or_pos k with h0 | h0
      · subst h0; simp at ht
      · exact h0
    have hm : t % k < (enc d[t / k]!).length := by rw [hk]; exact Nat.mod_lt _ hk0
    rw [getElem!_pos (enc d[t / k]!) (t % k) hm] at h1
    have hq : t / k < d.size := (Nat.div_lt_iff_lt_mul hk0).2 ht
    have hd : d.toList[t / k]! = d[t / k]! := by rw [getElem!_pos d.toList (t / k) (by simpa using hq), getElem!_pos d (t / k) hq]; rfl
    rw [hd, List.getElem?_eq_getElem hm]
    exact congrArg some (by simpa using h1)
  · rw [List.getElem?_eq_none (by simp; omega), List.getElem?_eq_none (by rw [flatMap_len enc k hk]; simp; omega)]
/-- What the relation says of a row of elements. -/
theorem Enc.split {κ : Type} (E : Enc κ) {c : Ctx} : ∀ {us : List (κ × Value)} {l' : List Value}, VRels c (us.flatMap fun u => E.en u.1 u.2) l' → (∀ u ∈ us, flat u.2 = true) →
    ∃ ts : List { t : κ × Value × Value // VRel c t.2.1 t.2.2 ∧ t.2.2.oneCell' = true }, us = ts.map (fun t => (t.1.1, t.1.2.1)) ∧ l' = ts.flatMap fun t => E.en t.1.1 t.1.2.2
  | [], l', h, _ => by
    cases h
    exact ⟨[], rfl, rfl⟩
  | u :: us, l', h, hf => by
    have e : (u :: us).flatMap (fun u => E.en u.1 u.2) = E.en u.1 u.2 ++ us.flatMap fun u => E.en u.1 u.2 := rfl
    rw [e] at h
    have hl := h.length
    have h1 := h.take (E.en u.1 u.2).length
    have h2 := h.drop (E.en u.1 u.2).length
    rw [List.take_left] at h1
    rw [List.drop_left] at h2
    obtain ⟨v', e1, hv⟩ := E.inv _ _ _ _ h1
    obtain ⟨ts, e2, e3⟩ := Enc.split E h2 fun x hx => hf x (List.mem_cons_of_mem _ hx)
    refine ⟨⟨(u.1, u.2, v'), hv, oneCell_of hv (flat_ne (hf u (List.mem_cons_self ..)))⟩ :: ts, by rw [List.map_cons, ← e2], ?_⟩
    rw [List.flatMap_cons, ← e3, ← e1, List.take_append_drop]
theorem Enc.rels {κ : Type} (E : Enc κ) {c : Ctx} : ∀ (ts : List { t : κ × Value × Value // VRel c t.2.1 t.2.2 ∧ t.2.2.oneCell' = true }), VRels c (ts.flatMap fun t => E.en t.1.1 t.1.2.1) (ts.flatMap fun t => E.en t.1.1 t.1.2.2)
  | [] => .nil
  | t :: ts => by
    rw [List.flatMap_cons, List.flatMap_cons]
    exact (E.rel _ _ _ _ t.2.1).append (Enc.rels E ts)
theorem AC.sortFunc {P : Program} {ρ : Ren} (L : SlLaysF0.n6 P ρ) {fn : Func} (hfn : P.funcs[ρ.f 6]? = some fn) (hb : fn.body.isSome = true) (hnm : (fn.name == "runtime.NumGoroutine") = false)
    {κ : Type} [Inhabited κ] (E : Enc κ) (aE : ∀ w, (isAgg (ρ.t 24)).run P w = .ok true w) (zE : ∀ w, (Go.sizeOf (ρ.t 24)).run P w = .ok E.k w) (cf : κ → κ → Int) (hO : SWO (ltOf cf)) (g : Nat)
    (eg : ∀ args w, (callFunc g args).run P w = .ok (.enter g args) w)
    (hcmp : ∀ x y v u W, v.oneCell' = true → u.oneCell' = true → Calls P g #[.agg ⟨E.en x v⟩, .agg ⟨E.en y u⟩] W fun e w' => e = .returned (.int .i64 (cf x y)) ∧ ∃ q os', w' = grow (W.drewN q) os')
    {H : AHeap} {i off : Nat} {cs : List Value} {k : CK} (hi : H[i]? = some (.cells cs k)) (hk : k.own = true) (hz : k.fz ≤ off) {us : List (κ × Value)} (hfl : ∀ u ∈ us, flat u.2 = true) (h0 : 0 < us.length) (hsz : us.length < 4611686018427387904)
    (hlen : off + us.length * E.k ≤ cs.length) (hcs : (cs.drop off).take (us.length * E.k) = us.flatMap fun u => E.en u.1 u.2) :
    AC P (ρ.f 6) [.slice (some ⟨i, off, none⟩) us.length us.length, .func (.func g) ⟨[]⟩ ⟨[]⟩] H (fun r H1 => r = .ret noVal ∧ ∃ us' : List (κ × Value), us'.Perm us ∧ us'.Pairwise (fun a b => ¬ cf b.1 a.1 < 0) ∧ H1 = H.set i (.cells (putCells cs off (us'.flatMap fun u => E.en u.1 u.2)) k)) := by
  refine AC.ofCallsV hfn hb hnm H fun c w vargs hh hvs => ?_
  obtain ⟨v1, v2, rfl, h1, h2⟩ := hvs.two
  have e2 : v2 = .func (.func g) #[] #[] := by
    cases h2 with
    | func a b d =>
      cases a; cases b; cases d; rfl
  subst e2
  have main : ∀ (p : Place) (cap : Nat), c i = some p → Calls P (ρ.f 6) #[.slice (some ⟨p.block, p.base + off, none⟩) us.length cap, .func (.func g) #[] #[]] w (CPost (fun r H1 => r = .ret noVal ∧ ∃ us' : List (κ × Value), us'.Perm us ∧ us'.Pairwise (fun a b => ¬ cf b.1 a.1 < 0) ∧ H1 = H.set i (.cells (putCells cs off (us'.flatMap fun u => E.en u.1 u.2)) k)) c H w) := by
    intro p cap hc
    have hbk : p.block < w.heap.size := by
      obtain ⟨q, hq, hr⟩ := hh.obj i _ hi rfl
      rw [hc] at hq; cases hq
      exact hr.block_lt rfl
    obtain ⟨l', hl', hrel, hcell⟩ := hh.cellsAt' hi hc off (us.length * E.k) hlen
    rw [hcs] at hrel
    obtain ⟨ts, e1, e3⟩ := E.split hrel hfl
    have htl : ts.length = us.length := by rw [e1, List.length_map]
    let T := { t : κ × Value × Value // VRel c t.2.1 t.2.2 ∧ t.2.2.oneCell' = true }
    letI : Inhabited T := ⟨⟨(default, .nilFunc, .nilFunc), .nilFunc, rfl⟩⟩
    let enc : T → List Value := fun t => E.en t.1.1 t.1.2.2
    have hkl : ∀ x : T, (enc x).length = E.k := fun x => E.len _ _
    let d : Array T := ts.toArray
    have hds : d.size = us.length := by simp [d, htl]
    have hflat : (flatK enc E.k d).toList = l' := by rw [flatK_list enc E.k hkl, e3]
    have hfro := (HRel.setCells hk hc (l := us.flatMap fun u => E.en u.1 u.2) (l' := l') hrel cs H w off hh hi (by rw [hrel.length, hl']; exact hlen) hz).2.1
    have hH : HoldsK enc E.k w p.block (p.base + off) d := by
      intro j hj
      have hj' : j < l'.length := by rw [← hflat]; simpa using hj
      refine ⟨?_, hfro j hj'⟩
      have hg : (flatK enc E.k d)[j]! = l'[j] := by
        rw [getElem!_pos (flatK enc E.k d) j hj]
        have : (flatK enc E.k d).toList[j]? = l'[j]? := by rw [hflat]
        rw [List.getElem?_eq_getElem hj', List.getElem?_eq_getElem (by simpa using hj)] at this
        simpa using this
      rw [id, hg]
      exact hcell j _ (List.getElem?_eq_getElem hj')
    let cf' : T → T → Int := fun a b => cf a.1.1 b.1.1
    have hO' : SWO (ltOf cf') := ⟨fun x => hO.irrefl x.1.1, fun x y z => hO.trans x.1.1 y.1.1 z.1.1, fun x y z => hO.ntrans x.1.1 y.1.1 z.1.1⟩
    have hC : CmpLays P g #[] enc E.k cf' p.block (p.base + off) d.size w := fun m os dk hdk x y => by
      have := hcmp x.1.1 y.1.1 x.1.2.2 y.1.2.2 (sortWorldK enc E.k w p.block (p.base + off) m dk os) x.2.2 y.2.2
      simpa using this
    have hcall := AnyQ.slices_SortFunc L E.k aE zE enc hkl (fun x v hv => E.one _ _ x.2.2 v hv) cf' hO' g #[] p.block (p.base + off) cap d w eg hC hH hbk (by rw [hds]; exact hsz)
    rw [hds] at hcall
    refine hcall.mono fun e w' ⟨he, d', n, os, hp, hs, hw'⟩ => ?_
    subst he
    have hd's : d'.size = us.length := by rw [hp.1, hds]
    have hperm : d'.toList.Perm d.toList := by
      have h3 := hp.2.2
      rw [← hds] at h3
      rw [Array.extract_size] at h3
      have : d'.extract 0 d.size = d' := by rw [hds, ← hd's]; exact Array.extract_size
      rwa [this] at h3
    let us' : List (κ × Value) := d'.toList.map fun t => (t.1.1, t.1.2.1)
    have hus : (us'.flatMap fun u => E.en u.1 u.2) = d'.toList.flatMap fun t => E.en t.1.1 t.1.2.1 := by
      simp only [us', List.flatMap_map]
    have hrel' : VRels c (us'.flatMap fun u => E.en u.1 u.2) (d'.toList.flatMap enc) := by rw [hus]; exact E.rels d'.toList
    have hl2 : (us'.flatMap fun u => E.en u.1 u.2).length = us.length * E.k := by
      rw [hrel'.length, flatMap_len enc E.k hkl]; simp [hd's]
    have hA := hh.same (w' := Go.Sort.ahead w n) ⟨rfl, rfl, rfl⟩ rfl H.length
    obtain ⟨-, -, hB1, hB2⟩ := HRel.setCells hk hc hrel' cs H (Go.Sort.ahead w n) off hA.1 hi (by rw [hl2]; exact hlen) hz
    have hput : putRowK enc E.k (Go.Sort.ahead w n) p.block (p.base + off) d' = (Go.Sort.ahead w n).setCells p.block (p.base + off) (d'.toList.flatMap enc) := by
      have hself := putRow_self id (Go.Sort.ahead w n) p.block (p.base + off) (flatK enc E.k d) hH
      have h3 := setCells_putRow (Go.Sort.ahead w n) p.block (p.base + off) (d'.toList.flatMap enc) 0 (flatK enc E.k d) (by rw [flatMap_len enc E.k hkl, size_flatK, hds]; simp [hd's])
      rw [hself, Nat.add_zero] at h3
      rw [h3]
      unfold putRowK
      congr 1
      refine ext_get! (by rw [size_flatK, size_setMany, size_flatK, hds, hd's]) fun t ht => ?_
      rw [size_flatK] at ht
      have hsz2 : t < (flatK enc E.k d).size := by rw [size_flatK, hds, ← hd's]; exact ht
      have hlt : t < (d'.toList.flatMap enc).length := by rw [flatMap_len enc E.k hkl]; simpa using ht
      have hs3 : t < (flatK enc E.k d').size := by rw [size_flatK]; exact ht
      rw [get_setMany _ _ _ t hsz2, if_pos ⟨Nat.zero_le _, by omega⟩, Nat.sub_zero, ← flatK_list enc E.k hkl, getElem!_pos (flatK enc E.k d') t hs3, getElem!_pos (flatK enc E.k d').toList t (by simpa using hs3)]
      rfl
    have hbl : Below (putRowK enc E.k (Go.Sort.ahead w n) p.block (p.base + off) d').heap.size (putRowK enc E.k (Go.Sort.ahead w n) p.block (p.base + off) d') w' := by
      rw [hw']
      unfold sortWorldK
      exact ⟨rfl, rfl, rfl, by simp [grow], fun k hk => heap_grow_old _ _ hk⟩
    rw [hput] at hbl
    refine ⟨.ret noVal, c, _, ⟨rfl, us', ?_, ?_, rfl⟩, .ret (.tuple .nil), hB1.below hbl, (hA.2.trans (hB2 _)).trans (.below hbl)⟩
    · have := hperm.map fun t : T => (t.1.1, t.1.2.1)
      rw [show d.toList = ts by simp [d], ← e1] at this
      exact this
    · rw [List.pairwise_map]
      rw [List.pairwise_iff_getElem]
      intro a b ha hb' hab
      have := hs a b (Nat.zero_le _) hab (by rw [← hd's]; simpa using hb')
      rw [getElem!_pos d' b (by simpa using hb'), getElem!_pos d' a (by simpa using ha)] at this
      simp only [ltOf, decide_eq_false_iff_not, cf'] at this
      simpa using this
  generalize hul : us.length = n at h1 main
  cases h1 with
  | slice hc => exact main _ _ hc
  | sliceX hc hx => exact main _ _ hc
  | sliceZ hc => omega
end Go.Aw
