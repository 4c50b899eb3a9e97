/-
  Functions that are ranged over: what they yield, one after the other.
-/
import Derived.Test.YtdeoaadkngiilaaDoorAw23
set_option linter.unusedVariables false
set_option linter.unusedSimpArgs false
namespace Go.Aw
/-- The function value (f, cap) yields these arguments, one after the other, while it is told to go on; Hok is what it asks of the heap at each of its steps. -/
structure SeqG (P : Program) (f : FuncId) (cap : List Value) (l : List (List Value)) (Hok : AHeap → Prop) : Prop where
  body : ∃ fn, P.funcs[f]? = some fn ∧ fn.body.isSome = true ∧ (fn.name == "runtime.NumGoroutine") = false
  run : ∀ (i : Nat) (H : AHeap) (I : Nat → AHeap → Prop) (D : AHeap → Prop), I 0 H → (∀ n H1, I n H1 → Hok H1) → (∀ n H1 X, I n H1 → I n (H1 ++ X)) →
    (∀ n args H1, l[n]? = some args → I n H1 → AY P i args H1 (fun u H2 => ∃ b, u = .bool b ∧ (b = true → I (n + 1) H2) ∧ (b = false → D H2))) →
    AC P f (.func (.yield i) ⟨[]⟩ ⟨[]⟩ :: cap) H (fun r H2 => r = .ret noVal ∧ (I l.length H2 ∨ D H2))

theorem AWP.rangeS {g : Cfg} {Q : AExit → ASt → Prop} {env : List (Nat × Value)} {ds : List ADef} {H : AHeap} {gop : Operand} {ps : List Tmp} {assign body : Code} {f : FuncId} {cap : List Value} {l : List (List Value)} {Hok : AHeap → Prop} (hs : SeqG g.P f cap l Hok) (hlr : g.lr = none) (hn0 : g.n0 ≤ H.length) (hg : ev ⟨env, ds, H⟩ gop = some (.func (.func f) ⟨[]⟩ ⟨cap⟩))
    (h : ∀ L : ALoop, L = ⟨.ready, none, env, g.N.n, ps, assign, body⟩ → ∃ (I : Nat → AHeap → Prop) (D : AHeap → Prop), I 0 (H ++ [.loop L]) ∧ (∀ n H1, I n H1 → Hok H1) ∧ (∀ n H1 X, I n H1 → I n (H1 ++ X)) ∧
      (∀ n args H1, l[n]? = some args → I n H1 → AY g.P H.length args H1 (fun u H2 => ∃ b, u = .bool b ∧ (b = true → I (n + 1) H2) ∧ (b = false → D H2))) ∧
      (∀ H2, I l.length H2 ∨ D H2 → loopK g Q ⟨env, ds, H⟩ (.ret noVal) H2)) : AWP g (.rangeFunc gop ps.toArray assign body) Q ⟨env, ds, H⟩ := by
  obtain ⟨fn, h1, h2, h3⟩ := hs.body
  refine AWP.rangeL h1 hlr hn0 hg h2 h3 fun L hL => ?_
  obtain ⟨I, D, h0, hok, hx, hy, hk⟩ := h L hL
  refine (hs.run H.length _ I D h0 hok hx hy).mono ?_
  rintro r H2 ⟨rfl, h⟩
  exact hk H2 h

theorem filter_range_get {p : Nat → Bool} {n i : Nat} (h : i < n) (hp : p i = true) : ((List.range n).filter p)[((List.range i).filter p).length]? = some i := by
  obtain ⟨k, rfl⟩ : ∃ k, n = i + (k + 1) := ⟨n - i - 1, by omega⟩
  rw [List.range_add, List.filter_append, List.getElem?_append_right (Nat.le_refl _), Nat.sub_self, List.range_succ_eq_map, List.map_cons, Nat.add_zero, List.filter_cons_of_pos hp]
  rfl
theorem filter_range_succ {p : Nat → Bool} {i : Nat} : ((List.range (i + 1)).filter p).length = ((List.range i).filter p).length + (if p i = true then 1 else 0) := by
  rw [List.range_succ, List.filter_append, List.length_append]
  cases h : p i <;> simp [h]
theorem lenW_gt {P : Program} {t : TypeId} {i n : Nat} {H : AHeap} {K : Value → AHeap → Prop} (h : tSl P t = true) : lenW P t (gS i n) H K = K (.int .i64 (n : Nat)) H := by
  unfold tSl at h; split at h
  · rename_i hu; exact lenW_g hu
  · cases h
theorem Rd.lenT {P : Program} {t : TypeId} {H H' : AHeap} {v : Value} {l : List Value} {K : Value → AHeap → Prop} (h : Rd H v l) (hu : tSl P t = true) : Go.Aw.lenW P t v H' K = K (.int .i64 l.length) H' := by
  unfold tSl at hu; split at hu
  · rename_i hu2; exact h.lenW hu2
  · cases hu
theorem appendTo_gn {P : Program} {e : TypeId} {y i n : Nat} {l : List Value} {v : Value} {H : AHeap} {K : Value → AHeap → Prop} (hi : H[i]? = some (gO l ⟨e, 1, true, 0, none⟩)) (hn : l.length = n) (h1 : (n + 1) * y ≤ 140737488355328) (h2 : n + 1 ≤ 4611686018427387904)
    (hk : K (.slice (some ⟨H.length, 0, none⟩) (n + 1) (n + 1)) (H.set i .dead ++ [.cells (l ++ [v]) ⟨e, 1, true, 0, none⟩])) : appendTo P e 1 y (gS i n) 1 [v] H K := by
  subst hn; exact appendTo_g hi h1 h2 hk
/-- Names that name nothing may be added. -/
theorem Weak.pad {n0 : Nat} {e1 e2 : List (Nat × Value)} {ds : List ADef} {H : AHeap} (D : AHeap) (hD : ∀ (i : Nat) (o : AObj), D[i]? = some o → o = .dead) (h : envIn e1 (fun v u => u = v) e2) : Weak n0 ⟨e1, ds, H⟩ ⟨e2, ds, H ++ D⟩ := fun N c w a hs => by
  have hlive : ∀ (i : Nat) (o : AObj), (H ++ D)[i]? = some o → o.live = true → H[i]? = some o := fun i o e hl => by
    by_cases hi : i < H.length
    · rwa [hgetl hi] at e
    · rw [List.getElem?_append_right (by omega)] at e
      rw [hD _ _ e] at hl; cases hl
  have hown : ∀ (i : Nat) (o : AObj), (H ++ D)[i]? = some o → o.own = true → H[i]? = some o := fun i o e hl => by
    by_cases hi : i < H.length
    · rwa [hgetl hi] at e
    · rw [List.getElem?_append_right (by omega)] at e
      rw [hD _ _ e] at hl; cases hl
  have hh : HRel c (H ++ D) w := ⟨fun i o e hl => hs.heap.obj i o (hlive i o e hl) hl, fun i j oi oj pi pj hij hi hj ci cj ho hl => hs.heap.sep i j oi oj pi pj hij (hown i oi hi ho) (hlive j oj hj hl) ci cj ho hl, fun i hi => hs.heap.fresh i (by simp at hi; show H.length ≤ i; omega)⟩
  have ht : Trans n0 c H w c (H ++ D) w := ⟨fun _ _ _ h => h, rfl, rfl, rfl, Nat.le_refl _, fun _ _ _ => rfl, fun b ⟨i, o, p, e, e2, e3, e4⟩ => .inl ⟨i, o, p, hown i o e e3, e2, e3, e4⟩⟩
  exact ⟨c, ⟨hh, hs.size, fun t v e => by
    obtain ⟨u, h1, h2⟩ := h.lk e
    subst h2
    exact hs.tmps t _ h1, hs.defs.step (Ctx.le_refl _) ht⟩, ht⟩
theorem Weak.pad1 {n0 : Nat} {e1 e2 : List (Nat × Value)} {ds : List ADef} {H : AHeap} (h : envIn e1 (fun v u => u = v) e2) : Weak n0 ⟨e1, ds, H⟩ ⟨e2, ds, H ++ [.dead]⟩ :=
  Weak.pad [.dead] (fun i o e => by cases i with | zero => simpa using e.symm | succ i => simp at e) h
/-- Two codes one behind the other, what is known between them being told. -/
theorem AWP.seqJ {g : Cfg} {Q : AExit → ASt → Prop} {st : ASt} {x y : Code} (st2 : ASt) (h : AWP g x (next (fun s => Weak g.n0 s st2) Q) st) (k : AWP g y Q st2) : AWP g (.seq x y) Q st := by
  refine AWP.seq (h.mono ?_)
  intro e s hq
  cases e with
  | normal => exact AWP.weak hq k
  | exit i => exact hq
  | goto i => exact hq
  | ret => exact hq
  | panic v => exact hq
theorem u8s_nil : u8s [] = some [] := rfl
theorem repZ2 (z : List Value) : repZ 2 z = z ++ (z) := by simp [repZ, List.replicate]
theorem repZ3 (z : List Value) : repZ 3 z = z ++ (z ++ (z)) := by simp [repZ, List.replicate]
theorem repZ4 (z : List Value) : repZ 4 z = z ++ (z ++ (z ++ (z))) := by simp [repZ, List.replicate]
theorem repZ5 (z : List Value) : repZ 5 z = z ++ (z ++ (z ++ (z ++ (z)))) := by simp [repZ, List.replicate]
theorem repZ6 (z : List Value) : repZ 6 z = z ++ (z ++ (z ++ (z ++ (z ++ (z))))) := by simp [repZ, List.replicate]
theorem repZ7 (z : List Value) : repZ 7 z = z ++ (z ++ (z ++ (z ++ (z ++ (z ++ (z)))))) := by simp [repZ, List.replicate]
theorem repZ8 (z : List Value) : repZ 8 z = z ++ (z ++ (z ++ (z ++ (z ++ (z ++ (z ++ (z))))))) := by simp [repZ, List.replicate]
attribute [go_sem] repZ2 repZ3 repZ4 repZ5 repZ6 repZ7 repZ8
attribute [go_sem] lenW_gt tight Nat.sub_zero Nat.zero_le u8s_nil true_or or_true false_or or_false
end Go.Aw
