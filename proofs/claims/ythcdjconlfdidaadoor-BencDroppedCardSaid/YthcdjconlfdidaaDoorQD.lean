/-
 The walk of slices.Insert: texts.
-/
import Derived.Test.YthcdjconlfdidaaDoorQAM
import Derived.Test.YthcdjconlfdidaaDoorAwC
set_option linter.unusedVariables false
set_option linter.unusedSimpArgs false
set_option maxRecDepth 20000
set_option maxHeartbeats 4000000
namespace Go.Proofs.YthcdjconlfdidaaDoor
open Go Go.Aw Go.Proofs
/-- One more at a place. -/
def insAt {α : Type} (l : List α) (i : Nat) (x : α) : List α := l.take i ++ x :: l.drop i
theorem strs_ins (l : List Tx) (i : Nat) (t : Tx) : strsC (insAt l i t) = (strsC l).take i ++ (Value.string (bs t) :: (strsC l).drop i) := by
 unfold insAt strsC
 simp [List.map_take, List.map_drop]
/-- Cells with rows in the midst. -/
theorem ins_cells {L Z new rest : List Value} {p q m : Nat} (hp : L.length = p) (hm : new.length = m) (hr : Z.length = m + rest.length) (hq : q = p + m) : putCells (putCells (L ++ Z) p new) q rest = L ++ (new ++ rest) := by
 subst hp hm hq
 rw [put_row rfl (by omega), put_row (by rw [List.length_append]) (by rw [List.length_drop]; omega)]
 rw [List.drop_drop, List.drop_eq_nil_of_le (by omega)]
 simp
theorem appendTo_nn {P : Program} {e : TypeId} {size y n : Nat} {news : List Value} {H : AHeap} {K : Value → AHeap → Prop} (hn : n ≠ 0) (h1 : n * y ≤ 140737488355328) (h2 : n ≤ 4611686018427387904)
  (hk : K (.slice (some ⟨H.length, 0, none⟩) n n) (H ++ [.cells news ⟨e, size, true, 0, none⟩])) : appendTo P e size y (.slice none 0 0) n news H K :=
 ⟨⟨rfl, rfl⟩, fun h => absurd h hn, fun _ => ⟨⟨h1, h2⟩, hk⟩⟩
theorem appendTo_x {P : Program} {e : TypeId} {size y i off len cap n : Nat} {news cs : List Value} {k : CK} {H : AHeap} {K : Value → AHeap → Prop} (hi : H[i]? = some (.cells cs k)) (hz : k.esz = 0) (hc : cap < len + n) (hle : off + len * size ≤ cs.length) (h1 : (len + n) * y ≤ 140737488355328) (h2 : len + n ≤ 4611686018427387904)
  (hk : K (.slice (some ⟨H.length, 0, none⟩) (len + n) (len + n)) (H ++ [.cells ((cs.drop off).take (len * size) ++ news) ⟨e, size, true, 0, none⟩])) : appendTo P e size y (.slice (some ⟨i, off, none⟩) len cap) n news H K := by
 unfold appendTo
 simp only [hi]
 exact ⟨fun h => by omega, fun _ => ⟨⟨hle, h1, h2⟩, fun h => absurd hz h.1, fun _ => hk⟩⟩
theorem copyW_s {P : Program} {dT e : TypeId} {size i o dl c1 j off m c2 mn : Nat} {cs cs2 news : List Value} {k k2 : CK} {H : AHeap} {K : Value → AHeap → Prop} (hu : P.underlying dT = some (.slice e)) (hs : tS P e = some size) (hd : H[i]? = some (.cells cs k)) (hx : H[j]? = some (.cells cs2 k2))
  (hmn : min m dl = mn) (hnews : (cs2.drop off).take (mn * size) = news) (hfl : news.all flat = true) (h1 : off + mn * size ≤ cs2.length) (h2 : o + mn * size ≤ cs.length) (how : ownW k o) (hk : K (.int .i64 (mn : Nat)) (H.set i (.cells (putCells cs o news) k))) :
  copyW P dT (.slice (some ⟨i, o, none⟩) dl c1) (.slice (some ⟨j, off, none⟩) m c2) H K := by
 subst hmn hnews
 unfold copyW
 rw [hu]
 simp only [hs, wth_some, hd, hx]
 exact ⟨hfl, h1, h2, how, hk⟩
theorem strsC_flat_drop (l : List Tx) (i : Nat) : ((strsC l).drop i).all flat = true := by
 refine List.all_eq_true.2 fun x hx => ?_
 exact List.all_eq_true.1 (strsC_flat l) x (List.mem_of_mem_drop hx)
theorem InsertT (l : List Tx) (i : Nat) (t : Tx) (hi : i ≤ l.length) (hl : l.length ≤ 1099511627776) (H : AHeap) (v : Value) (hv : KeyS true H l v []) (b2 : Nat) (k2 : CK) (hb2 : H[b2]? = some (.cells [.string (bs t)] k2)) :
  AC Tryd.prog 47 [v, .int .i64 (i : Nat), .slice (some ⟨b2, 0, none⟩) 1 1] H (fun r H2 => ∃ v', r = .ret v' ∧ OwnT H2 (insAt l i t) v' H.length ∧ Frm [] H H2) := by
 have hins := strs_ins l i t
 have hlen : (insAt l i t).length = l.length + 1 := by unfold insAt; simp; omega
 rcases hv with ⟨rfl, rfl, _⟩ | ⟨b, z, rfl, hb, hz, hx, _⟩
 ·obtain rfl : i = 0 := by simpa using hi
  refine AC.enter Tryd.func47 rfl (by kernel_rfl) 95 rfl [.tmp 6] rfl (by simp) fun hsc B => ?_
  repeat first | with_reducible refine AWP.ctl (by constructor) ?_ | ((with_reducible (first | refine AWP.region ?_ ?_ | refine AWP.condT ?_ ?_)); exact rfl) | ((with_reducible refine AWP.condF ?_ ?_); exact rfl) | simp only [go_sem, sevalprocAttr, reduceCtorEq, hb2, Option.isSome_some, Option.isSome_none] | simp (disch := omega) only [wz]
  refine appendTo_nn (by decide) (by decide) (by decide) ?_
  repeat first | with_reducible refine AWP.ctl (by constructor) ?_ | ((with_reducible (first | refine AWP.region ?_ ?_ | refine AWP.condT ?_ ?_)); exact rfl) | ((with_reducible refine AWP.condF ?_ ?_); exact rfl) | simp only [go_sem, sevalprocAttr, reduceCtorEq] | simp (disch := omega) only [wz]
  exact ⟨_, _, .refl _ _ _, _, rfl, .inr ⟨H.length, 1, rfl, by rw [hget0 rfl]; rfl, .inl rfl, Nat.le_refl _⟩, Frm.app⟩
 ·have hz0 := hx rfl
  subst hz0
  have hcl := strsC_len l
  have hfl := strsC_flat l
  have hwn : IntKind.i64.wrap ((l.length : Int) + 1) = ((l.length + 1 : Nat) : Int) := by rw [wi64 (by omega)]; omega
  by_cases hin : i = l.length
  ·subst hin
   have htk : List.take l.length (strsC l) = strsC l := List.take_of_length_le (by omega)
   refine AC.enter Tryd.func47 rfl (by kernel_rfl) 95 rfl [.tmp 6] rfl (by simp) fun hsc B => ?_
   repeat first | with_reducible refine AWP.ctl (by constructor) ?_ | ((with_reducible (first | refine AWP.region ?_ ?_ | refine AWP.condT ?_ ?_)); exact rfl) | ((with_reducible refine AWP.condF ?_ ?_); exact rfl) | simp only [go_sem, sevalprocAttr, reduceCtorEq, hb] | simp (disch := omega) only [wz]
   refine ⟨by omega, by omega, ?_⟩
   repeat first | with_reducible refine AWP.ctl (by constructor) ?_ | ((with_reducible (first | refine AWP.region ?_ ?_ | refine AWP.condT ?_ ?_)); exact rfl) | ((with_reducible refine AWP.condF ?_ ?_); exact rfl) | simp only [go_sem, sevalprocAttr, reduceCtorEq, hb2, htk, hfl, hcl] | simp (disch := omega) only [wz]
   refine appendTo_x hb rfl (by omega) (by omega) (by omega) (by omega) ?_
   have htk2 : List.take (l.length * 1) (List.drop 0 (strsC l)) = strsC l := by rw [List.drop_zero, Nat.mul_one, htk]
   rw [htk2]
   repeat first | with_reducible refine AWP.ctl (by constructor) ?_ | ((with_reducible (first | refine AWP.region ?_ ?_ | refine AWP.condT ?_ ?_)); exact rfl) | ((with_reducible refine AWP.condF ?_ ?_); exact rfl) | simp only [go_sem, sevalprocAttr, reduceCtorEq] | simp (disch := omega) only [wz]
   refine ⟨_, _, .refl _ _ _, _, rfl, .inr ⟨H.length, 1, by rw [hlen], ?_, .inl rfl, Nat.le_refl _⟩, Frm.app⟩
   rw [hget0 rfl, hins, htk, List.drop_of_length_le (by omega)]
   rfl
  ·have hne : ((i : Int) == (l.length : Int)) = false := beq_eq_false_iff_ne.2 (by omega)
   refine AC.enter Tryd.func47 rfl (by kernel_rfl) 95 rfl [.tmp 6] rfl (by simp) fun hsc B => ?_
   repeat first | with_reducible refine AWP.ctl (by constructor) ?_ | ((with_reducible (first | refine AWP.region ?_ ?_ | refine AWP.condT ?_ ?_)); exact rfl) | ((with_reducible refine AWP.condF ?_ ?_); exact rfl) | simp only [go_sem, sevalprocAttr, reduceCtorEq, hb] | simp (disch := omega) only [wz]
   refine ⟨by omega, by omega, ?_⟩
   repeat first | with_reducible refine AWP.regionO (id := 8) 4 rfl ?_ | with_reducible refine AWP.ctl (by constructor) ?_ | ((with_reducible (first | refine AWP.region ?_ ?_ | refine AWP.condT ?_ ?_)); exact rfl) | ((with_reducible refine AWP.condF ?_ ?_); exact rfl) | simp only [go_sem, sevalprocAttr, reduceCtorEq, hne, hb] | simp (disch := omega) only [wz]
   refine LOk.step (by rfl) (by rfl) ?_
   refine OpOk.cap (e := 9) ?_ rfl (i := b) (off := 0) (n := l.length) (cap := l.length) ?_ Tryd.underlying24 hb rfl ?_
   ·intro d e
    cases e
    exact (by decide : 30 < 95)
   ·simp only [go_sem, sevalprocAttr, reduceCtorEq]
   have hgt : (l.length : Int) + 1 > (l.length : Int) := by omega
   have hsub : ((l.length + 1 : Nat) : Int) - (i : Int) = ((l.length + 1 - i : Nat) : Int) := by omega
   repeat first | with_reducible refine AWP.regionO (id := 9) 8 rfl ?_ | with_reducible refine AWP.ctl (by constructor) ?_ | ((with_reducible (first | refine AWP.region ?_ ?_ | refine AWP.condT ?_ ?_)); exact rfl) | ((with_reducible refine AWP.condF ?_ ?_); exact rfl) | simp only [go_sem, sevalprocAttr, reduceCtorEq, hwn, hgt, hsub] | simp (disch := omega) only [wz]
   refine ⟨by omega, by rw [hb]; exact .inr rfl, ?_⟩
   refine LOk.step (by rfl) (by rfl) ?_
   refine OpOk.appendMake (e := 9) (kk := .i64) (k2 := .i64) (off := 0) (len := i) (cap := l.length) (n := l.length + 1 - i) (size := 1) (y := 16) (z := [.string (bs [])]) ?_ rfl ?_ ?_ Tryd.underlying24 Tryd.underlying3 ?_ ?_ ?_ rfl hb rfl (by omega) (by omega) (repZ_scalar rfl) (by decide) (by omega) (by omega) (by omega) ?_
   ·intro d e
    cases e
    exact (by decide : 40 < 95)
   ·simp only [go_sem, sevalprocAttr, reduceCtorEq]
   ·simp only [go_sem, sevalprocAttr, reduceCtorEq]
   ·simp only [go_sem, sevalprocAttr, reduceCtorEq]
   ·simp only [go_sem, sevalprocAttr, reduceCtorEq]
   ·simp only [go_sem, sevalprocAttr, reduceCtorEq]
   rw [show i + (l.length + 1 - i) = l.length + 1 by omega, Nat.mul_one, List.drop_zero]
   obtain ⟨L, hL⟩ : ∃ L, L = (strsC l).take i := ⟨_, rfl⟩
   have hLl : L.length = i := by rw [hL, List.length_take]; omega
   obtain ⟨Z, hZ⟩ : ∃ Z, Z = repZ (l.length + 1 - i) [Value.string (bs [])] := ⟨_, rfl⟩
   have hZl : Z.length = 1 + (l.length - i) := by rw [hZ, repZ_length]; simp; omega
   rw [← hL, ← hZ]
   obtain ⟨H1, hH1⟩ : ∃ H1 : AHeap, H1 = H ++ [.cells (L ++ Z) ⟨9, 1, true, 0, none⟩] := ⟨_, rfl⟩
   have hB : H1[H.length]? = some (.cells (L ++ Z) ⟨9, 1, true, 0, none⟩) := by rw [hH1, hget0 rfl]; rfl
   have hb21 : H1[b2]? = some (.cells [.string (bs t)] k2) := by rw [hH1, hgetl (lt_of_get hb2)]; exact hb2
   have hb1 : H1[b]? = some (.cells (strsC l) ⟨9, 0, false, 0, none⟩) := by rw [hH1, hgetl (lt_of_get hb)]; exact hb
   rw [← hH1]
   repeat first | with_reducible refine AWP.ctl (by constructor) ?_ | ((with_reducible (first | refine AWP.region ?_ ?_ | refine AWP.condT ?_ ?_)); exact rfl) | ((with_reducible refine AWP.condF ?_ ?_); exact rfl) | simp only [go_sem, sevalprocAttr, reduceCtorEq, hB, hb21] | simp (disch := omega) only [wz]
   refine ⟨by omega, by omega, ?_⟩
   have hLZ : (L ++ Z).length = l.length + 1 := by rw [List.length_append]; omega
   refine copyW_s (size := 1) Tryd.underlying24 (by simp only [go_sem, sevalprocAttr, reduceCtorEq]) hB hb21 (mn := 1) (by omega) (news := [.string (bs t)]) rfl rfl (by simp) (by omega) ⟨rfl, Nat.zero_le _⟩ ?_
   obtain ⟨H2, hH2⟩ : ∃ H2 : AHeap, H2 = H1.set H.length (.cells (putCells (L ++ Z) i [.string (bs t)]) ⟨9, 1, true, 0, none⟩) := ⟨_, rfl⟩
   have hpl : (putCells (L ++ Z) i [Value.string (bs t)]).length = l.length + 1 := by
    rw [putCells_eq _ _ _ (by simp; omega)]; simp; omega
   have hB2 : H2[H.length]? = some (.cells (putCells (L ++ Z) i [.string (bs t)]) ⟨9, 1, true, 0, none⟩) := by rw [hH2, List.getElem?_set_self (lt_of_get hB)]
   have hb22 : H2[b]? = some (.cells (strsC l) ⟨9, 0, false, 0, none⟩) := by rw [hH2, List.getElem?_set_ne (by have := lt_of_get hb; omega)]; exact hb1
   have hw2 : IntKind.i64.wrap ((i : Int) + 1) = ((i + 1 : Nat) : Int) := by rw [wi64 (by omega)]; omega
   rw [← hH2]
   repeat first | with_reducible refine AWP.ctl (by constructor) ?_ | ((with_reducible (first | refine AWP.region ?_ ?_ | refine AWP.condT ?_ ?_)); exact rfl) | ((with_reducible refine AWP.condF ?_ ?_); exact rfl) | simp only [go_sem, sevalprocAttr, reduceCtorEq, hw2] | simp (disch := omega) only [wz]
   refine AWP.regionK 8 (by kernel_rfl) (by decide) (by kernel_rfl) ?_
   repeat first | with_reducible refine AWP.ctl (by constructor) ?_ | ((with_reducible (first | refine AWP.region ?_ ?_ | refine AWP.condT ?_ ?_)); exact rfl) | ((with_reducible refine AWP.condF ?_ ?_); exact rfl) | simp only [go_sem, sevalprocAttr, reduceCtorEq, hB2, hb22, hw2] | simp (disch := omega) only [wz]
   refine ⟨by omega, by omega, by omega, by omega, ?_⟩
   have hrs : ((strsC l).drop i).length = l.length - i := by rw [List.length_drop, hcl]
   refine copyW_s (size := 1) Tryd.underlying24 (by simp only [go_sem, sevalprocAttr, reduceCtorEq]) hB2 hb22 (mn := l.length - i) (Nat.min_self _) (news := (strsC l).drop i) (by rw [Nat.mul_one]; exact List.take_of_length_le (by omega)) (strsC_flat_drop l i) (by omega) (by omega) ⟨rfl, Nat.zero_le _⟩ ?_
   rw [ins_cells (new := [Value.string (bs t)]) (m := 1) (q := i + 1) hLl rfl (by rw [hrs]; exact hZl) rfl]
   repeat first | with_reducible refine AWP.ctl (by constructor) ?_ | ((with_reducible (first | refine AWP.region ?_ ?_ | refine AWP.condT ?_ ?_)); exact rfl) | ((with_reducible refine AWP.condF ?_ ?_); exact rfl) | simp only [go_sem, sevalprocAttr, reduceCtorEq] | simp (disch := omega) only [wz]
   refine ⟨_, _, .refl _ _ _, _, rfl, .inr ⟨H.length, 1, by rw [hlen], ?_, .inl rfl, Nat.le_refl _⟩, ?_⟩
   ·rw [List.getElem?_set_self (lt_of_get hB2), hins, hL]
   ·rw [hH2, List.set_set, hH1]
    exact Frm.set Frm.app (.inr (Nat.le_refl _))
end Go.Proofs.YthcdjconlfdidaaDoor

