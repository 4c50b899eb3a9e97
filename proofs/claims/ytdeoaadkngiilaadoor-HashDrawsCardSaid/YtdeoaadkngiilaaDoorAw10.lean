/-
  The operations, said of abstract states: append and copy, whole.
-/
import Derived.Test.YtdeoaadkngiilaaDoorAw9
set_option linter.unusedVariables false
set_option linter.unusedSimpArgs false
namespace Go.Aw

theorem set_same {H : AHeap} {i : Nat} {o : AObj} (h : H[i]? = some o) : H.set i o = H := by
  have hlt : i < H.length := (List.getElem?_eq_some_iff.1 h).1
  apply List.ext_getElem?
  intro m
  by_cases hm : m = i
  · subst hm; rw [List.getElem?_set_self hlt, h]
  · rw [List.getElem?_set_ne (Ne.symm hm)]

theorem HRel.setCells {c : Ctx} {i : Nat} {k : CK} {p : Place} (hk : k.own = true) (hc : c i = some p) : ∀ {l l' : List Value}, VRels c l l' → ∀ (cs : List Value) (H : AHeap) (w : World) (off : Nat), HRel c H w → H[i]? = some (.cells cs k) → off + l.length ≤ cs.length → k.fz ≤ off →
    (∀ j, j < l'.length → (w.cell? ⟨p.block, p.base + off + j, none⟩).isSome = true) ∧ (∀ j, j < l'.length → w.frozen? ⟨p.block, p.base + off + j, none⟩ = false) ∧
    HRel c (H.set i (.cells (putCells cs off l) k)) (w.setCells p.block (p.base + off) l') ∧ ∀ n, Trans n c H w c (H.set i (.cells (putCells cs off l) k)) (w.setCells p.block (p.base + off) l')
  | _, _, .nil, cs, H, w, off, h, hi, _, _ => by
    simp only [putCells, set_same hi, World.setCells]
    exact ⟨fun j hj => by simp at hj, fun j hj => by simp at hj, h, fun n => .refl n c H w⟩
  | v :: l, v' :: l', .cons hv hvs, cs, H, w, off, h, hi, hle, hf => by
    simp only [List.length_cons] at hle
    have hlt : i < H.length := (List.getElem?_eq_some_iff.1 hi).1
    obtain ⟨⟨u, hu⟩, hfr, h1, ht1⟩ := h.setCell hi hk hc (off := off) (by omega) hf hv 0
    obtain ⟨g1, g2, g3, g4⟩ := HRel.setCells hk hc hvs (cs.set off v) _ _ (off + 1) h1 (List.getElem?_set_self hlt) (by simp; omega) (by omega)
    refine ⟨fun j hj => ?_, fun j hj => ?_, ?_, fun n => ?_⟩
    · cases j with
      | zero => simp [hu]
      | succ j =>
        have := g1 j (by simpa using hj)
        rw [World.cell?_setCell_other _ _ _ _ (by simp)] at this
        rwa [show p.base + (off + 1) + j = p.base + off + (j + 1) from by omega] at this
    · cases j with
      | zero => simpa using hfr
      | succ j =>
        have := g2 j (by simpa using hj)
        rw [World.frozen?_setCell] at this
        rwa [show p.base + (off + 1) + j = p.base + off + (j + 1) from by omega] at this
    · simpa [List.set_set, putCells, World.setCells, Nat.add_assoc] using g3
    · have t1 := (h.setCell hi hk hc (off := off) (by omega) hf hv n).2.2.2
      have := t1.trans (g4 n)
      simpa [List.set_set, putCells, World.setCells, Nat.add_assoc] using this

theorem tS_info {P : Program} {t : TypeId} {n : Nat} (h : tS P t = some n) : ∃ i, P.info? t = some i ∧ i.size = n := by
  unfold tS at h
  cases hi : P.info? t with
  | none => rw [hi] at h; cases h
  | some i => rw [hi] at h; simp at h; exact ⟨i, rfl, h⟩

theorem appendW_ok {P : Program} {t tx ty : TypeId} {c : Ctx} {H : AHeap} {w : World} {K : Value → AHeap → Prop} (h : HRel c H w) {sv sv' x x' : Value} (hs : VRel c sv sv') (hx : VRel c x x') (hw : appendW P t tx sv x H K) :
    Gives P (Builtin.append_ #[t, tx] ty #[sv', x']) c H w K := by
  unfold appendW at hw
  split at hw
  · rename_i e hu
    obtain ⟨size, hsz, hwa⟩ := wth_elim hw
    clear hw
    obtain ⟨y, hy, hwb⟩ := wth_elim hwa
    clear hwa
    obtain ⟨z, hz, hzl, hpos, hwc⟩ := wth_elim hwb
    clear hwb
    obtain ⟨n, news, news', ⟨hfl, hnl, hw⟩, hnv, hsrc⟩ := srcW_ok h hx hwc
    clear hwc
    have hsrc := hsrc hfl
    obtain ⟨i, hi, his⟩ := tS_info hsz
    have hiy : i.bytes = y := by unfold tB at hy; rw [hi] at hy; simpa using hy
    have hiz : ∃ zv, i.zero = some zv ∧ zv.cells.size = size := by
      unfold tZ at hz; rw [hi] at hz; simp at hz
      obtain ⟨zv, h1, h2⟩ := hz
      exact ⟨zv, h1, by rw [← hzl, ← h2]; rfl⟩
    obtain ⟨zv, hzv, hzs⟩ := hiz
    have hnl' : news'.length = n * size := by rw [← hnv.length, hnl]
    -- the arm that lays a new row
    have grow : ∀ (H0 : AHeap) (base : Option Addr) (len cap' : Nat) (olds olds' : List Value) (hh : HRel c H0 w) (ht : ∀ m, Trans m c H w c H0 w) (hlen : H0.length = H.length), VRels c olds olds' → olds.length = len * size →
        (Builtin.firstCells size len (.slice base len cap')).run P w.drew = .ok olds'.toArray w.drew → cap' < len + n → (len + n) * y ≤ 140737488355328 → len + n ≤ 4611686018427387904 → ∀ fz,
        K (.slice (some ⟨H.length, 0, none⟩) (len + n) (len + n)) (H0 ++ [.cells (olds ++ news) ⟨e, size, true, fz, none⟩]) →
        Gives P (Builtin.append_ #[t, tx] ty #[.slice base len cap', x']) c H w K := by
      intro H0 base len cap' olds olds' hh ht hlen ho hol hold hg hby h63 fz hk
      have hge := grownCap_ge w (len + n) cap' e
      have hrun := run_append_grow_src (P := P) w t tx ty e i zv hu hi hzv base len cap' olds' (by rw [his]; exact hold) x' n news' (by rw [his]; exact hsrc) hg (by omega) (growslice_fits hg (by rw [hiy]; exact hby))
      obtain ⟨c', g1, g2, g3, g4⟩ := hh.grown (ho.append hnv) e size (need := len + n) (cap := grownCap w (len + n) cap' e) (by rw [List.length_append, hol, hnl, Nat.add_mul]) hge (rest := Builtin.zeroCells zv.cells (grownCap w (len + n) cap' e - (len + n))) (by rw [size_zeroCells, hzs]) hpos fz
      rw [hlen] at g4
      refine ⟨_, _, hrun, _, _, c', hk, g4, g3, g1, fun m => (ht m).trans (g2 m)⟩
    unfold appendTo at hw
    split at hw
    · rename_i len cap
      obtain ⟨⟨rfl, rfl⟩, hw0, hw1⟩ := hw
      cases hs
      by_cases hn : n = 0
      · subst hn
        refine .pure h ?_ (.nilSlice 0 0) (hw0 rfl)
        rcases hsrc.kind with ⟨e', hk⟩ | hk <;> simp [Builtin.append_, run_underlying hu, run_underlying hk, sizeOf, typeInfo, hi, his, hsrc.len, hsrc.cells]
      · obtain ⟨⟨hb1, hb2⟩, hk⟩ := hw1 hn
        refine grow H none 0 0 [] [] h (fun m => .refl m c H w) rfl .nil (by simp) (by simp [Builtin.firstCells]) (by omega) (by simpa using hb1) (by omega) 0 ?_
        simpa using hk
    · rename_i i0 off len cap
      split at hw
      · rename_i cs k hi0
        obtain ⟨hroomW, hgrowW⟩ := hw
        -- the cells that are there
        have olds : ∀ (p : Place) cap', c i0 = some p → off + len * size ≤ cs.length → ∃ l', VRels c ((cs.drop off).take (len * size)) l' ∧ (Builtin.firstCells size len (.slice (some ⟨p.block, p.base + off, none⟩) len cap')).run P w.drew = .ok l'.toArray w.drew := fun p cap' hc hle => by
          obtain ⟨hd, _⟩ := h.drew 0
          obtain ⟨l', hl', hv, hrun⟩ := hd.cellsAt hi0 hc off (len * size) hle
          refine ⟨l', hv, ?_⟩
          have := hrun P #[]
          simpa [Builtin.firstCells, loadCells] using this
        -- there is room for certain
        have room : ∀ (p : Place) cap', c i0 = some p → cap ≤ cap' → len + n ≤ cap → VRel c (.slice (some ⟨i0, off, none⟩) (len + n) cap) (.slice (some ⟨p.block, p.base + off, none⟩) (len + n) cap') → VRel c (.slice (some ⟨i0, off, none⟩) len cap) (.slice (some ⟨p.block, p.base + off, none⟩) len cap') →
            Gives P (Builtin.append_ #[t, tx] ty #[.slice (some ⟨p.block, p.base + off, none⟩) len cap', x']) c H w K := fun p cap' hc hcc hr hv1 hv2 => by
          obtain ⟨k0, k1⟩ := hroomW hr
          by_cases hn : n = 0
          · subst hn
            have hne : news' = [] := List.eq_nil_of_length_eq_zero (by rw [hnl']; simp)
            subst hne
            refine .pure h ?_ hv2 (k0 rfl)
            have := run_append_room_src (P := P) w t tx ty e i hu hi p.block (p.base + off) len cap' x' 0 [] (by rw [his]; exact hsrc) (by omega) (fun j hj => by simp at hj) (fun j hj => by simp at hj)
            simpa [World.setCells] using this
          · obtain ⟨⟨⟨o1, o2⟩, hin⟩, hk⟩ := k1 hn
            obtain ⟨g1, g2, g3, g4⟩ := HRel.setCells o1 hc hnv cs H w (off + len * size) h hi0 (by omega) o2
            rw [← Nat.add_assoc] at g1 g2 g3 g4
            have hrun := run_append_room_src (P := P) w t tx ty e i hu hi p.block (p.base + off) len cap' x' n news' (by rw [his]; exact hsrc) (by omega) (by rw [his]; exact g1) (by rw [his]; exact g2)
            rw [his] at hrun
            exact ⟨_, _, hrun, _, _, c, hk, hv1, Ctx.le_refl c, g3, g4⟩
        cases hs with
        | slice hc =>
          rename_i p
          by_cases hr : len + n ≤ cap
          · exact room p cap hc (Nat.le_refl _) hr (.slice hc) (.slice hc)
          · obtain ⟨⟨b1, b2, b3⟩, k1, k2⟩ := hgrowW hr
            obtain ⟨l', hv, hold⟩ := olds p cap hc b1
            have hol : ((cs.drop off).take (len * size)).length = len * size := by simp; omega
            by_cases hx2 : k.esz ≠ 0 ∧ off + cap * k.esz = cs.length
            · obtain ⟨_, hk⟩ := k1 hx2
              exact grow (H.set i0 .dead) _ len cap _ l' (h.kill i0 0).1 (fun m => (h.kill i0 m).2) (by simp) hv hol hold (by omega) b2 b3 _ hk
            · exact grow H _ len cap _ l' h (fun m => .refl m c H w) rfl hv hol hold (by omega) b2 b3 0 (k2 hx2)
        | sliceX hc hsx =>
          rename_i p
          by_cases hr : len + n ≤ cap
          · exact room p _ hc (by omega) hr (.sliceX hc hsx) (.sliceX hc hsx)
          · obtain ⟨⟨b1, b2, b3⟩, k1, k2⟩ := hgrowW hr
            obtain ⟨l', hv, hold⟩ := olds p (cap + p.extra) hc b1
            have hol : ((cs.drop off).take (len * size)).length = len * size := by simp; omega
            obtain ⟨q, hq, hro⟩ := h.obj i0 _ hi0 rfl
            rw [hc] at hq; cases hq
            obtain ⟨r1, r2, r3, _⟩ := hro
            by_cases hz0 : k.esz = 0
            · have hx0 := r3 hz0
              have hx2 : ¬ (k.esz ≠ 0 ∧ off + cap * k.esz = cs.length) := fun hh => hh.1 hz0
              exact grow H _ len _ _ l' h (fun m => .refl m c H w) rfl hv hol hold (by omega) b2 b3 0 (k2 hx2)
            · have hend : off + cap * k.esz = cs.length := by rw [← r2, hsx, r1]
              obtain ⟨⟨o1, o2, o3, o4⟩, hk⟩ := k1 ⟨hz0, hend⟩
              by_cases hfit : len + n ≤ cap + p.extra
              · have hlc : len ≤ cap := by
                  rw [o2] at hend
                  have : len * size ≤ cap * size := by omega
                  exact Nat.le_of_mul_le_mul_right this hpos
                obtain ⟨g1, g2, c', g3, g4, g5, g6⟩ := h.regrown hi0 o1 hc hnv o2 hpos hnl (by rw [← o2]; exact hend) hlc hfit o3
                have hrun := run_append_room_src (P := P) w t tx ty e i hu hi p.block (p.base + off) len (cap + p.extra) x' n news' (by rw [his]; exact hsrc) hfit (by rw [his]; exact g1) (by rw [his]; exact g2)
                rw [his] at hrun
                rw [o4] at g3 g4
                exact ⟨_, _, hrun, _, _, c', hk, g6, g5, g3, g4⟩
              · exact grow (H.set i0 .dead) _ len _ _ l' (h.kill i0 0).1 (fun m => (h.kill i0 m).2) (by simp) hv hol hold (by omega) b2 b3 _ hk
        | @sliceZ _ _ b0 x0 p hc =>
          by_cases hn : n = 0
          · subst hn
            obtain ⟨k0, _⟩ := hroomW (by omega)
            refine .pure h ?_ (.sliceZ (b := b0) (x := x0) hc) (k0 rfl)
            have hne : news' = [] := List.eq_nil_of_length_eq_zero (by rw [hnl']; simp)
            subst hne
            have := run_append_room_src (P := P) w t tx ty e i hu hi b0 x0 0 0 x' 0 [] (by rw [his]; exact hsrc) (by omega) (fun j hj => by simp at hj) (fun j hj => by simp at hj)
            simpa [World.setCells] using this
          · obtain ⟨⟨b1, b2, b3⟩, k1, k2⟩ := hgrowW (by omega)
            have hold : (Builtin.firstCells size 0 (.slice (some ⟨b0, x0, none⟩) 0 0)).run P w.drew = .ok ([] : List Value).toArray w.drew := by simp [Builtin.firstCells, loadCells, loadCellsFrom]
            by_cases hx2 : k.esz ≠ 0 ∧ off + 0 * k.esz = cs.length
            · obtain ⟨_, hk⟩ := k1 hx2
              exact grow (H.set i0 .dead) _ 0 0 [] [] (h.kill i0 0).1 (fun m => (h.kill i0 m).2) (by simp) .nil (by simp) hold (by omega) b2 b3 _ (by simpa using hk)
            · exact grow H _ 0 0 [] [] h (fun m => .refl m c H w) rfl .nil (by simp) hold (by omega) b2 b3 0 (by simpa using k2 hx2)
      · exact hw.elim
    · exact hw.elim
  · exact hw.elim
def copyW (P : Program) (dT : TypeId) (d x : Value) (H : AHeap) (K : Value → AHeap → Prop) : Prop :=
  match P.underlying dT with
  | some (.slice e) => wth (tS P e) fun size =>
    match d, x with
    | .slice (some ⟨i, o, none⟩) dl _, .slice (some ⟨j, off, none⟩) m _ =>
      (match H[i]?, H[j]? with
      | some (.cells cs k), some (.cells cs2 _) => ((cs2.drop off).take (min m dl * size)).all flat = true ∧ off + min m dl * size ≤ cs2.length ∧ o + min m dl * size ≤ cs.length ∧ ownW k o ∧
          K (.int .i64 (min m dl : Nat)) (H.set i (.cells (putCells cs o ((cs2.drop off).take (min m dl * size))) k))
      | _, _ => False)
    | .slice (some ⟨i, o, none⟩) dl _, .string s =>
      (match H[i]? with
      | some (.cells cs k) => size = 1 ∧ o + min s.data.toList.length dl ≤ cs.length ∧ ownW k o ∧
          K (.int .i64 (min s.data.toList.length dl : Nat)) (H.set i (.cells (putCells cs o (bytesC (s.data.toList.take (min s.data.toList.length dl)))) k))
      | _ => False)
    | .slice none 0 _, .slice none 0 _ | .slice none 0 _, .slice (some _) _ _ | .slice (some _) _ _, .slice none 0 _ | .slice none 0 _, .string _ => K (.int .i64 (0 : Nat)) H
    | _, _ => False
  | _ => False

theorem copyW_ok {P : Program} {t tx ty : TypeId} {c : Ctx} {H : AHeap} {w : World} {K : Value → AHeap → Prop} (h : HRel c H w) {d d' x x' : Value} (hd : VRel c d d') (hx : VRel c x x') (hw : copyW P t d x H K) :
    Gives P (Builtin.copy_ #[t, tx] ty #[d', x']) c H w K := by
  unfold copyW at hw
  split at hw
  · rename_i e hu
    obtain ⟨size, hsz, hwa⟩ := wth_elim hw
    clear hw
    split at hwa
    · rename_i i o dl dc j off m mc
      split at hwa
      · rename_i cs k cs2 k2 hi hj
        obtain ⟨hfl, hin2, hin, ⟨o1, o2⟩, hk⟩ := hwa
        -- where the two really lie
        have key : ∀ (p q : Place) c1 c2, c i = some p → c j = some q → Gives P (Builtin.copy_ #[t, tx] ty #[.slice (some ⟨p.block, p.base + o, none⟩) dl c1, .slice (some ⟨q.block, q.base + off, none⟩) m c2]) c H w K := fun p q c1 c2 hp hq => by
          obtain ⟨l', hl', hv, hrun⟩ := h.cellsAt hj hq off (min m dl * size) hin2
          obtain ⟨w', hr, h1, ht⟩ := run_storeCellsA (P := P) o1 hp hv hfl cs H w o 0 h hi (by simp; omega) (by omega)
          refine ⟨.int .i64 (min m dl : Nat), w', ?_, _, _, c, hk, .int _ _, Ctx.le_refl c, by simpa using h1, by simpa using ht⟩
          have hmin : Nat.min m dl = min m dl := rfl
          simp only [Builtin.copy_, Sem.run_bind, run_underlying hu, Result.andThen_ok, Builtin.lenOf, Sem.run_pure, List.getElem?_toArray, List.getElem?_cons_zero, List.getElem?_cons_succ, run_sizeOf hsz, Builtin.firstCells, loadCells, hmin, hrun]
          simp [hr, goInt]
        -- where one of them has no room at all
        have none1 : ∀ (a b : Addr) c1 c2, min m dl = 0 → Gives P (Builtin.copy_ #[t, tx] ty #[.slice (some a) dl c1, .slice (some b) m c2]) c H w K := fun a b c1 c2 h0 => by
          refine .pure h (v' := .int .i64 (min m dl : Nat)) ?_ (.int _ _) ?_
          · have hmin : Nat.min m dl = 0 := h0
            simp only [Builtin.copy_, Sem.run_bind, run_underlying hu, Result.andThen_ok, Builtin.lenOf, Sem.run_pure, List.getElem?_toArray, List.getElem?_cons_zero, List.getElem?_cons_succ, run_sizeOf hsz, Builtin.firstCells, hmin, h0]
            simp [loadCells, loadCellsFrom, storeCells, goInt]
          · rw [h0] at hk ⊢
            simpa [putCells, set_same hi] using hk
        cases hd with
        | slice hp =>
          cases hx with
          | slice hq => exact key _ _ _ _ hp hq
          | sliceX hq _ => exact key _ _ _ _ hp hq
          | sliceZ hq => exact none1 _ _ _ _ (by simp)
        | sliceX hp _ =>
          cases hx with
          | slice hq => exact key _ _ _ _ hp hq
          | sliceX hq _ => exact key _ _ _ _ hp hq
          | sliceZ hq => exact none1 _ _ _ _ (by simp)
        | sliceZ hp =>
          cases hx with
          | slice hq => exact none1 _ _ _ _ (by simp)
          | sliceX hq _ => exact none1 _ _ _ _ (by simp)
          | sliceZ hq => exact none1 _ _ _ _ (by simp)
      · exact hwa.elim
    · rename_i i o dl dc s
      split at hwa
      · rename_i cs k hi
        obtain ⟨rfl, hin, ⟨o1, o2⟩, hk⟩ := hwa
        cases hx
        have hlen : s.data.toList.length = s.size := by simp
        rw [hlen] at hin hk
        have hcells : ∀ n, n ≤ s.size → ((s.extract 0 n).data.map fun b => Value.int .u8 b.toNat) = ⟨bytesC (s.data.toList.take n)⟩ := fun n hn => by
          apply Array.ext'
          simp [bytesC]
        have key : ∀ (p : Place) c1, c i = some p → Gives P (Builtin.copy_ #[t, tx] ty #[.slice (some ⟨p.block, p.base + o, none⟩) dl c1, .string s]) c H w K := fun p c1 hp => by
          have hb : (bytesC (s.data.toList.take (min s.size dl))).length = min s.size dl := by rw [bytesC_length, List.length_take, hlen]; omega
          obtain ⟨w', hr, h1, ht⟩ := run_storeCellsA (P := P) o1 hp (VRels.of_scalars (c := c) (bytesC_scalar (s.data.toList.take (min s.size dl)))) (bytesC_flat _) cs H w o 0 h hi (by omega) (by omega)
          refine ⟨.int .i64 (min s.size dl : Nat), w', ?_, _, _, c, hk, .int _ _, Ctx.le_refl c, by simpa using h1, by simpa using ht⟩
          have hmin : Nat.min s.size dl = min s.size dl := rfl
          simp only [Builtin.copy_, Sem.run_bind, run_underlying hu, Result.andThen_ok, Builtin.lenOf, Sem.run_pure, List.getElem?_toArray, List.getElem?_cons_zero, List.getElem?_cons_succ, run_sizeOf hsz, Builtin.firstCells, hmin, hcells _ (Nat.min_le_left _ _)]
          simp [hr, goInt]
        cases hd with
        | slice hp => exact key _ _ hp
        | sliceX hp _ => exact key _ _ hp
        | @sliceZ _ _ b0 x0 p hp =>
          refine .pure h (v' := .int .i64 (0 : Nat)) ?_ (.int _ _) (by simpa [putCells, bytesC, set_same hi] using hk)
          have hmin : Nat.min s.size 0 = 0 := by simp
          simp only [Builtin.copy_, Sem.run_bind, run_underlying hu, Result.andThen_ok, Builtin.lenOf, Sem.run_pure, List.getElem?_toArray, List.getElem?_cons_zero, List.getElem?_cons_succ, run_sizeOf hsz, Builtin.firstCells, hmin]
          simp [storeCells, goInt]
      · exact hwa.elim
    · cases hd; cases hx
      refine .pure h (v' := .int .i64 (0 : Nat)) ?_ (.int _ _) hwa
      simp [Builtin.copy_, run_underlying hu, Builtin.lenOf, run_sizeOf hsz, Builtin.firstCells, goInt]
    · cases hd
      have : ∀ (a : Addr) m mc cp, (Builtin.copy_ #[t, tx] ty #[.slice none 0 cp, .slice (some a) m mc]).run P w = .ok (.int .i64 (0 : Nat)) w := fun a m mc cp => by
        have hmin : Nat.min m 0 = 0 := by simp
        simp only [Builtin.copy_, Sem.run_bind, run_underlying hu, Result.andThen_ok, Builtin.lenOf, Sem.run_pure, List.getElem?_toArray, List.getElem?_cons_zero, List.getElem?_cons_succ, run_sizeOf hsz, Builtin.firstCells, hmin]
        simp [loadCells, loadCellsFrom, goInt]
      cases hx <;> exact .pure h (v' := .int .i64 (0 : Nat)) (this _ _ _ _) (.int _ _) hwa
    · cases hx
      have : ∀ (a : Addr) m mc cp, (Builtin.copy_ #[t, tx] ty #[.slice (some a) m mc, .slice none 0 cp]).run P w = .ok (.int .i64 (0 : Nat)) w := fun a m mc cp => by
        have hmin : Nat.min 0 m = 0 := by simp
        simp only [Builtin.copy_, Sem.run_bind, run_underlying hu, Result.andThen_ok, Builtin.lenOf, Sem.run_pure, List.getElem?_toArray, List.getElem?_cons_zero, List.getElem?_cons_succ, run_sizeOf hsz, Builtin.firstCells, hmin]
        simp [storeCells, goInt]
      cases hd <;> exact .pure h (v' := .int .i64 (0 : Nat)) (this _ _ _ _) (.int _ _) hwa
    · rename_i s
      cases hd; cases hx
      refine .pure h (v' := .int .i64 (0 : Nat)) ?_ (.int _ _) hwa
      have hmin : Nat.min s.size 0 = 0 := by simp
      simp only [Builtin.copy_, Sem.run_bind, run_underlying hu, Result.andThen_ok, Builtin.lenOf, Sem.run_pure, List.getElem?_toArray, List.getElem?_cons_zero, List.getElem?_cons_succ, run_sizeOf hsz, Builtin.firstCells, hmin]
      simp [goInt]
    · exact hwa.elim
  · exact hw.elim
end Go.Aw
