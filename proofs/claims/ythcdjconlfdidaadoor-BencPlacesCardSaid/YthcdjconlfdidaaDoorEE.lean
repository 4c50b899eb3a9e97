/-
  The specification's reader of bencoded values: lists and dictionaries.
-/
import Derived.Test.YthcdjconlfdidaaDoorED
import Derived.Test.YthcdjconlfdidaaDoorD6
set_option linter.unusedVariables false
set_option linter.unusedSimpArgs false
set_option maxRecDepth 20000
set_option maxHeartbeats 8000000
namespace Go.Proofs.YthcdjconlfdidaaDoor
open Go Go.Aw Go.Proofs
def rfc (s : List UInt8) (i n : Nat) (a e : Int) : List Value := [.string (bs s), .int .i64 (i : Nat), .int .i64 (n : Nat), .int .i64 a, .int .i64 e]
/-- What is read is frozen. -/
theorem VSq.freeze {r : Nat} {H : AHeap} {d : Bool} {o : List Value} {kids : List BV} {keys : List (List UInt8)} {vk vs : Value} {css : List (List Value)} {jk js : Nat} {Hc : AHeap} (hV : VSq r H d o kids keys vk vs css jk js Hc) (hr : r < H.length) :
    ∃ H3, (∀ n0 env ds, Weak n0 ⟨env, ds, Hc⟩ ⟨env, ds, H3⟩) ∧ RdK H3 5 vk css ∧ RdL H3 kids css ∧ RdK H3 1 vs (keyC keys) ∧ Frm [r] H H3 ∧ H3[r]? = some (rqO o) ∧
      H3[H.length]? = some (.cells [.int .i64 0, .int .i64 0, .string (bs []), .slice none 0 0, .slice none 0 0] ⟨26, 0, true, 0, none⟩) ∧ H3[H.length + 1]? = some (vbox d vk vs) := by
  obtain ⟨H2, hW2, hR2, hln2, hg2, hk2⟩ := hV.ok.freeze hV.rl.all5
  have hos2 : OwnR H2 9 1 (keyC keys) vs js := hV.os.keep fun hne => hg2 _ fun hne' => Ne.symm (hV.ne hne' hne)
  obtain ⟨H3, hW3, hR3, hln3, hg3, hk3⟩ := hos2.freeze (fun x hx => by
    obtain ⟨y, _, rfl⟩ := List.mem_map.1 hx; rfl)
  have get : ∀ x, (css ≠ [] → x ≠ jk) → (keyC keys ≠ [] → x ≠ js) → H3[x]? = Hc[x]? := fun x h1 h2 => (hg3 x h2).trans (hg2 x h1)
  have hnj : ∀ x, x < H.length + 2 → H3[x]? = Hc[x]? := fun x hx => get x (fun h => by have := hV.jkl h; omega) (fun h => by have := hV.jsl h; omega)
  exact ⟨H3, fun n0 env ds => (hW2 _ _ _).trans (hW3 _ _ _), hR2.kept hk3, hV.rl.kept (hk2.trans hk3), hR3, ⟨by rw [hln3, hln2]; exact hV.frm.1, fun j hj hne => by rw [hnj j (by omega)]; exact hV.frm.2 j hj hne⟩,
    by rw [hnj r (by omega)]; exact hV.rd, by rw [hnj _ (by omega)]; exact hV.res, by rw [hnj _ (by omega)]; exact hV.box⟩
structure Lq where
  i : Nat
  n : Nat
  a : Int
  e : Int
  kids : List BV
  keys : List (List UInt8)
  vk : Value
  vs : Value
  css : List (List Value)
  jk : Nat
  js : Nat
  Hc : AHeap
def LqI (s : List UInt8) (r : Nat) (H : AHeap) (d : Bool) (f : Nat → Nat → Rr BV) (Rk : Rr (List BV × List (List UInt8))) (p : Lq) : Prop :=
  VSq r H d (rfc s p.i p.n p.a p.e) p.kids p.keys p.vk p.vs p.css p.jk p.js p.Hc ∧
    ((p.e = 0 ∧ p.a = 0 ∧ p.i ≤ s.length ∧ p.n ≤ 1000 ∧ p.kids.length ≤ p.i ∧ p.keys.length ≤ p.i ∧ ∃ fuel, s.length - p.i < fuel ∧ kidsR f s d fuel p.i p.n p.kids p.keys = Rk) ∨ (p.e ≠ 0 ∧ ∃ a' : Nat, p.a = a' ∧ Rk = .bad a' p.e))
/-- Where something was wrong. -/
def EndQ (s : List UInt8) (r : Nat) (H : AHeap) (d : Bool) (Rk : Rr (List BV × List (List UInt8))) (st : ASt) : Prop :=
  ∃ i n kids keys vk vs css jk js Hc, ∃ a : Nat, ∃ e, VSq r H d (rfc s i n a e) kids keys vk vs css jk js Hc ∧ e ≠ 0 ∧ Rk = .bad a e ∧ st = ⟨[(4, .pointer (some ⟨H.length, 0, none⟩)), (7, .pointer (some ⟨H.length + 1, 0, none⟩))], [], Hc⟩
/-- What stands before a kid is read. -/
def LqJ (s : List UInt8) (r : Nat) (H : AHeap) (d : Bool) (f : Nat → Nat → Rr BV) (Rk : Rr (List BV × List (List UInt8))) (env : List (Nat × Value)) (p m fuel : Nat) (kids : List BV) (vk : Value) (css : List (List Value)) (jk : Nat) (st : ASt) : Prop :=
  ∃ j keys vs js Hc, VSq r H d (rfc s j m 0 0) kids keys vk vs css jk js Hc ∧ p ≤ j ∧ j ≤ s.length ∧ keys.length ≤ j + 1 ∧ tailR f s d fuel j m kids keys = Rk ∧ st = ⟨env, [], Hc⟩
/-- What stands behind a key's text. -/
def LqT (s : List UInt8) (r : Nat) (H : AHeap) (d : Bool) (f : Nat → Nat → Rr BV) (Rk : Rr (List BV × List (List UInt8))) (env : List (Nat × Value)) (p m fuel : Nat) (kids : List BV) (keys : List (List UInt8)) (vk vs : Value) (css : List (List Value)) (jk js : Nat) (st : ASt) : Prop :=
  ∃ t j a e Hc, VSq r H d (rfc s j m a e) kids keys vk vs css jk js Hc ∧
    ((e = 0 ∧ a = 0 ∧ p < j ∧ j ≤ s.length ∧ (if behind keys t = false then .bad p 2 else tailR f s d fuel j m kids (keys ++ [t])) = Rk) ∨ (e ≠ 0 ∧ t = [] ∧ ∃ a' : Nat, a = a' ∧ Rk = .bad a' e)) ∧ st = ⟨(11, .string (bs t)) :: env, [], Hc⟩
/-- What stands behind the look at the order. -/
def LqO (s : List UInt8) (r : Nat) (H : AHeap) (d : Bool) (f : Nat → Nat → Rr BV) (Rk : Rr (List BV × List (List UInt8))) (env : List (Nat × Value)) (p m fuel : Nat) (kids : List BV) (keys : List (List UInt8)) (t : List UInt8) (vk vs : Value) (css : List (List Value)) (jk js : Nat) (st : ASt) : Prop :=
  ∃ j a e Hc, VSq r H d (rfc s j m a e) kids keys vk vs css jk js Hc ∧
    ((e = 0 ∧ a = 0 ∧ p < j ∧ j ≤ s.length ∧ tailR f s d fuel j m kids (keys ++ [t]) = Rk) ∨ (e ≠ 0 ∧ ∃ a' : Nat, a = a' ∧ Rk = .bad a' e)) ∧ st = ⟨(11, .string (bs t)) :: env, [], Hc⟩
theorem valR_none {s : List UInt8} {lv i n : Nat} (h : s[i]? = none) : valR s lv i n = .bad s.length 2 := by cases lv <;> (unfold valR; rw [h])
theorem rValueC (s : List UInt8) (hs : s.length ≤ 65536) (lv' deep : Nat) (hlv : lv' + 1 + deep = 13) (ih : ∀ (r i n : Nat) (H : AHeap), i ≤ s.length → n ≤ 1000 → H[r]? = some (rfO s i n 0 0) → AC Tryd.prog 28 [.pointer (some ⟨r, 0, none⟩), .int .i64 (deep + 1 : Nat)] H (ValQ s r H (valR s lv' i n)))
    (r i n : Nat) (hi : i ≤ s.length) (H : AHeap) (hr : H[r]? = some (rfO s i n 0 0)) (c : UInt8) (hc : s[i]? = some c) (hb : begins c = true) (hn : n + 1 ≤ 1000) (hdg : dig c = false) (h105 : c ≠ 105) :
    AC Tryd.prog 28 [.pointer (some ⟨r, 0, none⟩), .int .i64 (deep : Nat)] H (ValQ s r H (restR (valR s lv') s c i (n + 1))) := by
  have hrl := lt_of_get hr
  have hlt := (List.getElem?_eq_some_iff.1 hc).1
  obtain ⟨H1, hH1⟩ : ∃ H1 : AHeap, H1 = H ++ [.cells [.int .i64 0, .int .i64 0, .string (bs []), .slice none 0 0, .slice none 0 0] ⟨26, 0, true, 0, none⟩] := ⟨_, rfl⟩
  have hr1 : H1[r]? = some (rfO s i n 0 0) := by rw [hH1, hgetl hrl]; exact hr
  have hrl1 := lt_of_get hr1
  have hl1 : H1.length = H.length + 1 := by rw [hH1]; simp
  have hb1 : H1[H.length]? = some (.cells [.int .i64 0, .int .i64 0, .string (bs []), .slice none 0 0, .slice none 0 0] ⟨26, 0, true, 0, none⟩) := by rw [hH1, hget0 rfl]; rfl
  have hN := rNext s r i n 0 0 c hs hc _ hr1
  have hD := rDigit c
  rw [hdg] at hD
  have e105 : ((c.toNat : Int) != 105) = true := by
    have : ((c.toNat : Int) != 105) = !(c == 105) := congrArg (!·) (u8b (n := 105) rfl)
    rw [this]; simpa using h105
  have e105' : ((c.toNat : Int) == 105) = false := by
    have : ((c.toNat : Int) == 105) = (c == 105) := u8b (n := 105) rfl
    rw [this]; simpa using h105
  have e108 : ((c.toNat : Int) != 108) = !(c == 108) := congrArg (!·) (u8b (n := 108) rfl)
  have e100 : ((c.toNat : Int) != 100) = !(c == 100) := congrArg (!·) (u8b (n := 100) rfl)
  have e100' : ((c.toNat : Int) == 100) = (c == 100) := u8b (n := 100) rfl
  have hcase : c = 108 ∨ (c ≠ 108 ∧ c = 100) := by
    rcases rBegins hb hdg with h | h | h
    · exact absurd h h105
    · exact .inl h.2
    · exact .inr h.2
  obtain ⟨d, hd⟩ : ∃ d, (c == 100) = d := ⟨_, rfl⟩
  rw [hd] at e100'
  have hdk : (if c = 100 then (4 : Int) else 3) = if d then 4 else 3 := by
    by_cases k : c = 100
    · rw [if_pos k, ← hd, k]; rfl
    · rw [if_neg k, ← hd, show (c == 100) = false by simpa using k]; rfl
  have hwn : IntKind.i64.wrap ((n : Int) + 1) = ((n + 1 : Nat) : Int) := by rw [wi64 (by omega)]; omega
  have hwi : IntKind.i64.wrap ((i : Int) + 1) = ((i + 1 : Nat) : Int) := by rw [wi64 (by omega)]; omega
  have hl1' : ¬ ((n + 1 : Nat) : Int) > 1000 := by omega
  have hl2' : ¬ (deep : Int) > 12 := by omega
  have hwl : IntKind.i64.wrap ((deep : Int) + 1) = ((deep + 1 : Nat) : Int) := by rw [wi64 (by omega)]; omega
  obtain ⟨Rk, hRk⟩ : ∃ Rk, kidsR (valR s lv') s d (s.length + 1) (i + 1) (n + 1) [] [] = Rk := ⟨_, rfl⟩
  have hRb : ∀ a e, Rk = .bad a e → restR (valR s lv') s c i (n + 1) = .bad a e := fun a e h => by
    unfold restR; rw [if_neg (by rw [hdg]; decide), if_neg h105, hd, hRk, h]
  have hRo : ∀ kk j n', Rk = .ok kk j n' → restR (valR s lv') s c i (n + 1) = .ok (.mk (if d then 4 else 3) 0 [] kk.1 kk.2) j n' := fun kk j n' h => by
    unfold restR; rw [if_neg (by rw [hdg]; decide), if_neg h105, hd, hRk, h, hdk]
  have hr10 := hr1
  unfold rfO at hr10
  obtain ⟨H2, hH2⟩ : ∃ H2 : AHeap, H2 = (H1.set r (rfO s i (n + 1) 0 0) ++ [vbox d (.slice none 0 0) (.slice none 0 0)]).set r (rfO s (i + 1) (n + 1) 0 0) := ⟨_, rfl⟩
  have hI0 : LqI s r H d (valR s lv') Rk ⟨i + 1, n + 1, 0, 0, [], [], .slice none 0 0, .slice none 0 0, [], 0, 0, H2⟩ := by
    refine ⟨⟨?_, ?_, ?_, ?_, .inl ⟨rfl, rfl⟩, by unfold RdL; rfl, .inl ⟨rfl, rfl⟩, fun h => absurd rfl h, fun h => absurd rfl h⟩, .inl ⟨rfl, rfl, by dsimp only; omega, hn, Nat.zero_le _, Nat.zero_le _, s.length + 1, by dsimp only; omega, hRk⟩⟩
    · rw [hH2, hH1]
      exact Frm.set ((Frm.set (Frm.app (S := [r]) (H := H)) (.inl (by simp))).trans (Frm.app (S := [r])) (fun x hx => .inl hx)) (.inl (by simp))
    · rw [hH2]
      exact List.getElem?_set_self (by rw [List.length_append, List.length_set]; omega)
    · rw [hH2, List.getElem?_set_ne (by omega), hgetl (by rw [List.length_set]; omega), List.getElem?_set_ne (by omega)]; exact hb1
    · rw [hH2, List.getElem?_set_ne (by omega), hget0 (by rw [List.length_set, hl1])]; rfl
  refine AC.enter Tryd.func28 rfl (by kernel_rfl) 176 rfl [.cell 4 26] rfl (by simp) fun hsc B => ?_
  repeat first | with_reducible refine AWP.ctl (by constructor) ?_ | ((with_reducible (first | refine AWP.region ?_ ?_ | refine AWP.condT ?_ ?_)); exact rfl) | ((with_reducible refine AWP.condF ?_ ?_); exact rfl) | simp only [go_sem, sevalprocAttr, reduceCtorEq] | simp (disch := omega) only [wz] | with_reducible_and_instances exact finR | ((with_reducible refine finR' ?_ ?_) <;> rfl) | ((with_reducible refine finD hsc (NRel.of_plain ?_)); exact rfl)
  rw [← hH1]
  repeat first | with_reducible refine AWP.seqJ (x := .seq (.region 2 _ _) _) ⟨[(0, .pointer (some ⟨r, 0, none⟩)), (1, .int .i64 (deep : Nat)), (4, .pointer (some ⟨H.length, 0, none⟩)), (5, .int .u8 c.toNat)], [], H1⟩ ?_ ?_ | with_reducible refine AWP.ctl (by constructor) ?_ | ((with_reducible (first | refine AWP.region ?_ ?_ | refine AWP.condT ?_ ?_)); exact rfl) | ((with_reducible refine AWP.condF ?_ ?_); exact rfl) | with_reducible refine hN.use ?_ | simp only [go_sem, sevalprocAttr, reduceCtorEq] | simp (disch := omega) only [wz] | with_reducible_and_instances exact finR | ((with_reducible refine finR' ?_ ?_) <;> rfl) | ((with_reducible refine finD hsc (NRel.of_plain ?_)); exact rfl)
  · rcases hcase with k2 | ⟨k2, k3⟩
    · rw [show (c == 108) = true by rw [k2]; rfl] at e108
      repeat first | with_reducible refine AWP.ctl (by constructor) ?_ | ((with_reducible (first | refine AWP.region ?_ ?_ | refine AWP.condT ?_ ?_)); exact rfl) | ((with_reducible refine AWP.condF ?_ ?_); exact rfl) | with_reducible refine (hD _).use ?_ | simp only [go_sem, sevalprocAttr, reduceCtorEq, e105, e108, Bool.not_false, Bool.not_true, exists_eq_left] | simp (disch := omega) only [wz] | with_reducible_and_instances exact finR | ((with_reducible refine finR' ?_ ?_) <;> rfl) | ((with_reducible refine finD hsc (NRel.of_plain ?_)); exact rfl)
      exact Weak.env (by simp [envIn, lk_cons, wth_some])
    · rw [show (c == 108) = false by simpa using k2] at e108
      rw [show (c == 100) = true by rw [k3]; rfl] at e100
      repeat first | with_reducible refine AWP.ctl (by constructor) ?_ | ((with_reducible (first | refine AWP.region ?_ ?_ | refine AWP.condT ?_ ?_)); exact rfl) | ((with_reducible refine AWP.condF ?_ ?_); exact rfl) | with_reducible refine (hD _).use ?_ | simp only [go_sem, sevalprocAttr, reduceCtorEq, e105, e108, e100, Bool.not_false, Bool.not_true, exists_eq_left] | simp (disch := omega) only [wz] | with_reducible_and_instances exact finR | ((with_reducible refine finR' ?_ ?_) <;> rfl) | ((with_reducible refine finD hsc (NRel.of_plain ?_)); exact rfl)
      exact Weak.env (by simp [envIn, lk_cons, wth_some])
  have g1 : ∀ x o : AObj, (H1.set r x ++ [o])[H1.length]? = some o := fun x o => by rw [hget0 (by rw [List.length_set])]; rfl
  have g2 : ∀ x o o' : AObj, (H1.set r x ++ [o]).set H1.length o' = H1.set r x ++ [o'] := fun x o o' => by rw [hset0 (by rw [List.length_set])]; rfl
  repeat first | with_reducible refine AWP.seqJ (x := .seq (.region 15 _ _) _) ⟨[(0, .pointer (some ⟨r, 0, none⟩)), (1, .int .i64 (deep : Nat)), (4, .pointer (some ⟨H.length, 0, none⟩)), (5, .int .u8 c.toNat), (7, .pointer (some ⟨H1.length, 0, none⟩))], [], H1.set r (rfO s i (n + 1) 0 0) ++ [vbox d (.slice none 0 0) (.slice none 0 0)]⟩ ?_ ?_ | with_reducible refine AWP.ctl (by constructor) ?_ | ((with_reducible (first | refine AWP.region ?_ ?_ | refine AWP.condT ?_ ?_)); exact rfl) | ((with_reducible refine AWP.condF ?_ ?_); exact rfl) | with_reducible refine (hD _).use ?_ | simp only [go_sem, sevalprocAttr, reduceCtorEq, hr10, hrl1, hwn, hl1', hl2', e105', hsets, putCells, List.length_set, List.set_set, List.set_cons_succ, List.set_cons_zero, exists_eq_left] | simp (disch := omega) only [wz] | with_reducible_and_instances exact finR | ((with_reducible refine finR' ?_ ?_) <;> rfl) | ((with_reducible refine finD hsc (NRel.of_plain ?_)); exact rfl)
  · unfold vbox rfO
    cases d with
    | true =>
      repeat first | with_reducible refine AWP.ctl (by constructor) ?_ | ((with_reducible (first | refine AWP.region ?_ ?_ | refine AWP.condT ?_ ?_)); exact rfl) | ((with_reducible refine AWP.condF ?_ ?_); exact rfl) | simp only [go_sem, sevalprocAttr, reduceCtorEq, e100', g1, g2, List.set_cons_succ, List.set_cons_zero] | simp (disch := omega) only [wz] | with_reducible_and_instances exact finR | ((with_reducible refine finR' ?_ ?_) <;> rfl) | ((with_reducible refine finD hsc (NRel.of_plain ?_)); exact rfl)
      exact Weak.env (by simp [envIn, lk_cons, wth_some])
    | false =>
      repeat first | with_reducible refine AWP.ctl (by constructor) ?_ | ((with_reducible (first | refine AWP.region ?_ ?_ | refine AWP.condT ?_ ?_)); exact rfl) | ((with_reducible refine AWP.condF ?_ ?_); exact rfl) | simp only [go_sem, sevalprocAttr, reduceCtorEq, e100'] | simp (disch := omega) only [wz] | with_reducible_and_instances exact finR | ((with_reducible refine finR' ?_ ?_) <;> rfl) | ((with_reducible refine finD hsc (NRel.of_plain ?_)); exact rfl)
      exact Weak.env (by simp [envIn, lk_cons, wth_some])
  have gr : ∀ o : AObj, (H1.set r (rfO s i (n + 1) 0 0) ++ [o])[r]? = some (rfO s i (n + 1) 0 0) := fun o => by rw [hgetl (by rw [List.length_set]; exact hrl1)]; exact hsets hrl1 _
  have grl : ∀ o : AObj, r < (H1.set r (rfO s i (n + 1) 0 0) ++ [o]).length := fun o => by rw [List.length_append, List.length_set]; omega
  unfold rfO at gr grl
  rw [hl1]
  unfold rfO at hH2 ⊢
  repeat first | with_reducible refine AWP.seqE (x := .block 1 _) (EndQ s r H d Rk) ?_ ?_ | with_reducible refine AWP.ctl (by constructor) ?_ | ((with_reducible (first | refine AWP.region ?_ ?_ | refine AWP.condT ?_ ?_)); exact rfl) | ((with_reducible refine AWP.condF ?_ ?_); exact rfl) | simp only [go_sem, sevalprocAttr, reduceCtorEq, gr, grl, hwi, List.length_set, List.set_cons_succ, List.set_cons_zero] | simp (disch := omega) only [wz] | with_reducible_and_instances exact finR | ((with_reducible refine finR' ?_ ?_) <;> rfl) | ((with_reducible refine finD hsc (NRel.of_plain ?_)); exact rfl)
  · rw [← hH2]
    repeat first | with_reducible refine AWP.ctl (by constructor) ?_ | ((with_reducible (first | refine AWP.region ?_ ?_ | refine AWP.condT ?_ ?_)); exact rfl) | ((with_reducible refine AWP.condF ?_ ?_); exact rfl) | simp only [go_sem, sevalprocAttr, reduceCtorEq] | simp (disch := omega) only [wz] | with_reducible_and_instances exact finR | ((with_reducible refine finR' ?_ ?_) <;> rfl) | ((with_reducible refine finD hsc (NRel.of_plain ?_)); exact rfl)
    have hk4 : ((if d = true then (4 : Int) else 3) == 4) = d := by cases d <;> rfl
    refine AWP.loopP (fun p : Lq => ⟨[(0, .pointer (some ⟨r, 0, none⟩)), (1, .int .i64 (deep : Nat)), (4, .pointer (some ⟨H.length, 0, none⟩)), (5, .int .u8 c.toNat), (7, .pointer (some ⟨H.length + 1, 0, none⟩))], [], p.Hc⟩)
      (LqI s r H d (valR s lv') Rk) (fun p => if p.e = 0 then s.length + 1 - p.i else 0) _ ?_ hI0 ?_
    · exact Weak.env (by simp [envIn, lk_cons, wth_some])
    rintro ⟨p, m, ea, ee, kids, keys, vk, vs, css, jk, js, Hc⟩ ⟨hV, hst⟩
    dsimp only at hV hst ⊢
    have hrdc : Hc[r]? = some (rfO s p m ea ee) := hV.rd
    have hrlc := lt_of_get hV.rd
    have hF := rFine s r p m ea ee Hc hrdc
    rcases hst with ⟨rfl, rfl, hp, hm, hkl, hsl, fuel, hfu, hK⟩ | ⟨he, a', rfl, hbad⟩
    case inr =>
      have hne : (ee == 0) = false := by simpa using he
      rw [hne] at hF
      repeat first | with_reducible refine AWP.ctl (by constructor) ?_ | ((with_reducible (first | refine AWP.region ?_ ?_ | refine AWP.condT ?_ ?_)); exact rfl) | ((with_reducible refine AWP.condF ?_ ?_); exact rfl) | with_reducible refine hF.use ?_ | simp only [go_sem, sevalprocAttr, reduceCtorEq] | simp (disch := omega) only [wz] | with_reducible_and_instances exact finR | ((with_reducible refine finR' ?_ ?_) <;> rfl) | ((with_reducible refine finD hsc (NRel.of_plain ?_)); exact rfl)
      exact ⟨_, ⟨p, m, kids, keys, vk, vs, css, jk, js, Hc, a', ee, hV, he, hbad, rfl⟩, Weak.env (by simp [envIn, lk_cons, wth_some])⟩
    rw [show ((0 : Int) == 0) = true from rfl] at hF
    obtain ⟨fuel, rfl⟩ : ∃ k, fuel = k + 1 := ⟨fuel - 1, by omega⟩
    have hbox := hV.box
    unfold vbox at hbox
    have hrd0 := hrdc
    unfold rfO at hrd0
    by_cases hE : s[p]? = some 101
    · have hlt1 := (List.getElem?_eq_some_iff.1 hE).1
      unfold kidsR at hK
      rw [hE] at hK
      simp only at hK
      rw [if_pos trivial] at hK
      have hT := hRo _ _ _ hK.symm
      rw [hT]
      have hwp : IntKind.i64.wrap ((p : Int) + 1) = ((p + 1 : Nat) : Int) := by rw [wi64 (by omega)]; omega
      obtain ⟨H3, hW3, hR1, hR2, hR3, hf3, hrd3, hres3, hbox3⟩ := hV.freeze hrl
      have hrd30 : H3[r]? = some (rfO s p m 0 0) := hrd3
      have hF3 := rFine s r p m 0 0 H3 hrd30
      rw [show ((0 : Int) == 0) = true from rfl] at hF3
      have hN3 := rNext s r p m 0 0 101 hs hE _ hrd30
      rw [show ((101 : UInt8).toNat : Int) = 101 from rfl] at hN3
      unfold rfO at hrd30
      unfold vbox at hbox3
      have hrl3 := lt_of_get hrd30
      have hal3 := lt_of_get hres3
      have hfl1 := hV.ok.flat
      have hfl2 := hV.os.flat
      have gb : ∀ o : AObj, (H3.set r o)[H.length + 1]? = some (.cells [.int .i64 (if d then 4 else 3), .int .i64 0, .string (bs []), vk, vs] ⟨26, 0, true, 0, none⟩) := fun o => by rw [List.getElem?_set_ne (by omega)]; exact hbox3
      have ga : ∀ o : AObj, (H3.set r o)[H.length]? = some (.cells [.int .i64 0, .int .i64 0, .string (bs []), .slice none 0 0, .slice none 0 0] ⟨26, 0, true, 0, none⟩) := fun o => by rw [List.getElem?_set_ne (by omega)]; exact hres3
      refine AWP.weak (hW3 _ _ _) ?_
      repeat first | with_reducible refine AWP.ctl (by constructor) ?_ | ((with_reducible (first | refine AWP.region ?_ ?_ | refine AWP.condT ?_ ?_)); exact rfl) | ((with_reducible refine AWP.condF ?_ ?_); exact rfl) | with_reducible refine hF3.use ?_ | with_reducible refine hN3.use ?_ | simp only [go_sem, sevalprocAttr, reduceCtorEq, hrd30, gb, ga, hwp, hsets, hfl1, hfl2, hrl3, hal3, putCells, List.length_set, List.set_cons_succ, List.set_cons_zero, exists_eq_left] | simp (disch := omega) only [wz] | with_reducible_and_instances exact finR | ((with_reducible refine finR' ?_ ?_) <;> rfl) | ((with_reducible refine finD hsc (NRel.of_plain ?_)); exact rfl)
      refine ⟨Bool.and_eq_true_iff.2 ⟨hfl1, hfl2⟩, ?_⟩
      repeat first | with_reducible refine AWP.ctl (by constructor) ?_ | ((with_reducible (first | refine AWP.region ?_ ?_ | refine AWP.condT ?_ ?_)); exact rfl) | ((with_reducible refine AWP.condF ?_ ?_); exact rfl) | simp only [go_sem, sevalprocAttr, reduceCtorEq, ga, hal3, hrl3, List.length_set] | simp (disch := omega) only [wz] | with_reducible_and_instances exact finR | ((with_reducible refine finR' ?_ ?_) <;> rfl) | ((with_reducible refine finD hsc (NRel.of_plain ?_)); exact rfl)
      have hk4' : Kept H3 ((H3.set r (rfO s (p + 1) m 0 0)).set H.length (.cells [.int .i64 (if d then 4 else 3), .int .i64 0, .string (bs []), vk, vs] ⟨26, 0, true, 0, none⟩)) := Kept.trans (Kept.set hrd30 rfl _) (Kept.set (ga _) rfl _)
      refine ⟨_, _, .refl _ _ _, _, rfl, ?_, ?_, ?_⟩
      · exact Frm.set (Frm.set hf3 (.inl (by simp))) (.inr (by omega))
      · rw [List.getElem?_set_ne (by omega), List.getElem?_set_self hrl3]; rfl
      · unfold RdV
        exact ⟨vk, vs, css, rfl, hR1.kept hk4', hR2.kept hk4', hR3.kept hk4'⟩
    obtain ⟨x, b, hN, hxb⟩ : ∃ (x : Int) (b : Bool), ARet Tryd.prog 58 [.pointer (some ⟨r, 0, none⟩)] Hc (.tuple ⟨[.int .u8 x, .bool b]⟩) Hc ∧ ((b = false ∧ x = 0 ∧ s[p]? = none) ∨ ∃ c1 : UInt8, b = true ∧ x = c1.toNat ∧ s[p]? = some c1) := by
      cases hcp : s[p]? with
      | none =>
        have hle : s.length ≤ p := by
          rcases Nat.lt_or_ge p s.length with h | h
          · rw [List.getElem?_eq_getElem h] at hcp; cases hcp
          · exact h
        exact ⟨0, false, rNextEnd s r p m 0 0 hs hle _ hrdc, .inl ⟨rfl, rfl, rfl⟩⟩
      | some c1 => exact ⟨c1.toNat, true, rNext s r p m 0 0 c1 hs hcp _ hrdc, .inr ⟨c1, rfl, rfl, rfl⟩⟩
    repeat first | with_reducible refine AWP.seqJ (x := .seq (.region 20 _ _) _) ⟨(8, .int .u8 x) :: (9, .bool b) :: [(0, .pointer (some ⟨r, 0, none⟩)), (1, .int .i64 (deep : Nat)), (4, .pointer (some ⟨H.length, 0, none⟩)), (5, .int .u8 c.toNat), (7, .pointer (some ⟨H.length + 1, 0, none⟩))], [], Hc⟩ ?_ ?_ | with_reducible refine AWP.ctl (by constructor) ?_ | ((with_reducible (first | refine AWP.region ?_ ?_ | refine AWP.condT ?_ ?_)); exact rfl) | ((with_reducible refine AWP.condF ?_ ?_); exact rfl) | with_reducible refine hF.use ?_ | with_reducible refine hN.use ?_ | simp only [go_sem, sevalprocAttr, reduceCtorEq] | simp (disch := omega) only [wz] | with_reducible_and_instances exact finR | ((with_reducible refine finR' ?_ ?_) <;> rfl) | ((with_reducible refine finD hsc (NRel.of_plain ?_)); exact rfl)
    · rcases hxb with ⟨rfl, rfl, hcp⟩ | ⟨c1, rfl, rfl, hcp⟩
      · repeat first | with_reducible refine AWP.ctl (by constructor) ?_ | ((with_reducible (first | refine AWP.region ?_ ?_ | refine AWP.condT ?_ ?_)); exact rfl) | ((with_reducible refine AWP.condF ?_ ?_); exact rfl) | simp only [go_sem, sevalprocAttr, reduceCtorEq, exists_eq_left] | simp (disch := omega) only [wz] | with_reducible_and_instances exact finR | ((with_reducible refine finR' ?_ ?_) <;> rfl) | ((with_reducible refine finD hsc (NRel.of_plain ?_)); exact rfl)
        exact Weak.env (by simp [envIn, lk_cons, wth_some])
      · have e101 : ((c1.toNat : Int) == 101) = false := by
          have : ((c1.toNat : Int) == 101) = (c1 == 101) := u8b (n := 101) rfl
          rw [this]
          simpa using fun h => hE (by rw [hcp, h])
        repeat first | with_reducible refine AWP.ctl (by constructor) ?_ | ((with_reducible (first | refine AWP.region ?_ ?_ | refine AWP.condT ?_ ?_)); exact rfl) | ((with_reducible refine AWP.condF ?_ ?_); exact rfl) | simp only [go_sem, sevalprocAttr, reduceCtorEq, e101, exists_eq_left] | simp (disch := omega) only [wz] | with_reducible_and_instances exact finR | ((with_reducible refine finR' ?_ ?_) <;> rfl) | ((with_reducible refine finD hsc (NRel.of_plain ?_)); exact rfl)
        exact Weak.env (by simp [envIn, lk_cons, wth_some])
    repeat first | with_reducible refine AWP.seqE (x := .seq (.region 23 _ _) _) (LqJ s r H d (valR s lv') Rk [(0, .pointer (some ⟨r, 0, none⟩)), (1, .int .i64 (deep : Nat)), (4, .pointer (some ⟨H.length, 0, none⟩)), (5, .int .u8 c.toNat), (7, .pointer (some ⟨H.length + 1, 0, none⟩))] p m fuel kids vk css jk) ?_ ?_ | with_reducible refine AWP.ctl (by constructor) ?_ | ((with_reducible (first | refine AWP.region ?_ ?_ | refine AWP.condT ?_ ?_)); exact rfl) | ((with_reducible refine AWP.condF ?_ ?_); exact rfl) | simp only [go_sem, sevalprocAttr, reduceCtorEq] | simp (disch := omega) only [wz] | with_reducible_and_instances exact finR | ((with_reducible refine finR' ?_ ?_) <;> rfl) | ((with_reducible refine finD hsc (NRel.of_plain ?_)); exact rfl)
    · have hdt : d = false ∨ d = true := by cases d <;> simp
      rcases hdt with hdt | hdt
      · have hT : tailR (valR s lv') s d fuel p m kids keys = Rk := by
          unfold kidsR at hK
          rcases hxb with ⟨rfl, rfl, hcp⟩ | ⟨c1, rfl, rfl, hcp⟩
          · rw [hcp] at hK
            unfold tailR
            rw [valR_none hcp]
            exact hK
          · rw [hcp] at hK
            simp only at hK
            rw [if_neg (fun h => hE (by rw [hcp, h])), if_neg (by rw [hdt]; decide)] at hK
            exact hK
        have hk3 := hk4
        rw [hdt] at hk3
        have hbox2 := hbox
        rw [hdt] at hbox2
        repeat first | with_reducible refine AWP.ctl (by constructor) ?_ | ((with_reducible (first | refine AWP.region ?_ ?_ | refine AWP.condT ?_ ?_)); exact rfl) | ((with_reducible refine AWP.condF ?_ ?_); exact rfl) | simp only [go_sem, sevalprocAttr, reduceCtorEq, hbox2, hk3] | simp (disch := omega) only [wz] | with_reducible_and_instances exact finR | ((with_reducible refine finR' ?_ ?_) <;> rfl) | ((with_reducible refine finD hsc (NRel.of_plain ?_)); exact rfl)
        exact ⟨_, ⟨p, keys, vs, js, Hc, hV, Nat.le_refl _, hp, by omega, hT, rfl⟩, Weak.env (by simp [envIn, lk_cons, wth_some])⟩
      · have hk3 := hk4
        rw [hdt] at hk3
        have hbox2 := hbox
        rw [hdt] at hbox2
        have hW := rWrong s r p m p 2 Hc hrdc
        have hVw := hV.setR hrl (rfc s p m p 2)
        unfold kidsR at hK
        rcases hxb with ⟨rfl, rfl, hcp⟩ | ⟨c1, rfl, rfl, hcp⟩
        · rw [hcp] at hK
          have hps : p = s.length := by
            have : s.length ≤ p := by
              rcases Nat.lt_or_ge p s.length with h | h
              · rw [List.getElem?_eq_getElem h] at hcp; cases hcp
              · exact h
            omega
          have hR2 : Rk = .bad p 2 := by rw [← hK, hps]
          unfold rfO at hW
          repeat first | with_reducible refine AWP.ctl (by constructor) ?_ | ((with_reducible (first | refine AWP.region ?_ ?_ | refine AWP.condT ?_ ?_)); exact rfl) | ((with_reducible refine AWP.condF ?_ ?_); exact rfl) | with_reducible refine hW.use ?_ | simp only [go_sem, sevalprocAttr, reduceCtorEq, hbox2, hk3, hrd0, hrlc, exists_eq_left] | simp (disch := omega) only [wz] | with_reducible_and_instances exact finR | ((with_reducible refine finR' ?_ ?_) <;> rfl) | ((with_reducible refine finD hsc (NRel.of_plain ?_)); exact rfl)
          exact ⟨_, ⟨p, m, kids, keys, vk, vs, css, jk, js, _, p, 2, hVw, by decide, hR2, rfl⟩, Weak.env (by simp [envIn, lk_cons, wth_some])⟩
        · rw [hcp] at hK
          simp only at hK
          rw [if_neg (fun h => hE (by rw [hcp, h])), if_pos hdt] at hK
          have hD1 := rDigit c1 Hc
          by_cases hdc : dig c1 = false
          · rw [if_pos hdc] at hK
            rw [hdc] at hD1
            unfold rfO at hW
            repeat first | with_reducible refine AWP.ctl (by constructor) ?_ | ((with_reducible (first | refine AWP.region ?_ ?_ | refine AWP.condT ?_ ?_)); exact rfl) | ((with_reducible refine AWP.condF ?_ ?_); exact rfl) | with_reducible refine hD1.use ?_ | with_reducible refine hW.use ?_ | simp only [go_sem, sevalprocAttr, reduceCtorEq, hbox2, hk3, hrd0, hrlc, exists_eq_left] | simp (disch := omega) only [wz] | with_reducible_and_instances exact finR | ((with_reducible refine finR' ?_ ?_) <;> rfl) | ((with_reducible refine finD hsc (NRel.of_plain ?_)); exact rfl)
            exact ⟨_, ⟨p, m, kids, keys, vk, vs, css, jk, js, _, p, 2, hVw, by decide, hK.symm, rfl⟩, Weak.env (by simp [envIn, lk_cons, wth_some])⟩
          · rw [if_neg hdc] at hK
            rw [show dig c1 = true by simpa using hdc] at hD1
            have hX := rText s r p m c1 hs hcp (by simpa using hdc) Hc hrdc
            repeat first | with_reducible refine AWP.seqE (x := .region 27 _ _) (LqT s r H d (valR s lv') Rk [(10, .int .i64 (p : Nat)), (0, .pointer (some ⟨r, 0, none⟩)), (1, .int .i64 (deep : Nat)), (4, .pointer (some ⟨H.length, 0, none⟩)), (5, .int .u8 c.toNat), (7, .pointer (some ⟨H.length + 1, 0, none⟩))] p m fuel kids keys vk vs css jk js) ?_ ?_ | with_reducible refine AWP.ctl (by constructor) ?_ | ((with_reducible (first | refine AWP.region ?_ ?_ | refine AWP.condT ?_ ?_)); exact rfl) | ((with_reducible refine AWP.condF ?_ ?_); exact rfl) | with_reducible refine hD1.use ?_ | simp only [go_sem, sevalprocAttr, reduceCtorEq, hbox2, hk3, hrd0, hrlc, exists_eq_left] | simp (disch := omega) only [wz] | with_reducible_and_instances exact finR | ((with_reducible refine finR' ?_ ?_) <;> rfl) | ((with_reducible refine finD hsc (NRel.of_plain ?_)); exact rfl)
            · repeat first | with_reducible refine AWP.ctl (by constructor) ?_ | ((with_reducible (first | refine AWP.region ?_ ?_ | refine AWP.condT ?_ ?_)); exact rfl) | ((with_reducible refine AWP.condF ?_ ?_); exact rfl) | simp only [go_sem, sevalprocAttr, reduceCtorEq] | simp (disch := omega) only [wz] | with_reducible_and_instances exact finR | ((with_reducible refine finR' ?_ ?_) <;> rfl) | ((with_reducible refine finD hsc (NRel.of_plain ?_)); exact rfl)
              refine AC.mono hX ?_
              intro res H4 hP
              cases ht : textR s p with
              | bad a e =>
                have hte := (textR_bad hp ht).2.2
                rw [ht] at hP hK
                obtain ⟨rfl, q, rfl⟩ := hP
                repeat first | with_reducible refine AWP.ctl (by constructor) ?_ | ((with_reducible (first | refine AWP.region ?_ ?_ | refine AWP.condT ?_ ?_)); exact rfl) | ((with_reducible refine AWP.condF ?_ ?_); exact rfl) | simp only [go_sem, sevalprocAttr, reduceCtorEq] | simp (disch := omega) only [wz] | with_reducible_and_instances exact finR | ((with_reducible refine finR' ?_ ?_) <;> rfl) | ((with_reducible refine finD hsc (NRel.of_plain ?_)); exact rfl)
                exact ⟨_, ⟨[], q, (a : Nat), e, _, hV.setR hrl (rfc s q m a e), .inr ⟨by rw [hte]; decide, rfl, a, rfl, hK.symm⟩, rfl⟩, Weak.env (by simp [envIn, lk_cons, wth_some])⟩
              | ok k j n0 =>
                have htx := textR_ok hp ht
                rw [ht] at hP hK
                obtain ⟨rfl, rfl⟩ := hP
                repeat first | with_reducible refine AWP.ctl (by constructor) ?_ | ((with_reducible (first | refine AWP.region ?_ ?_ | refine AWP.condT ?_ ?_)); exact rfl) | ((with_reducible refine AWP.condF ?_ ?_); exact rfl) | simp only [go_sem, sevalprocAttr, reduceCtorEq] | simp (disch := omega) only [wz] | with_reducible_and_instances exact finR | ((with_reducible refine finR' ?_ ?_) <;> rfl) | ((with_reducible refine finD hsc (NRel.of_plain ?_)); exact rfl)
                exact ⟨_, ⟨k, j, 0, 0, _, hV.setR hrl (rfc s j m 0 0), .inl ⟨rfl, rfl, by omega, htx.2.1, by unfold tailR; exact hK⟩, rfl⟩, Weak.env (by simp [envIn, lk_cons, wth_some])⟩
            rintro st2 ⟨t, j, a2, e2, Hc2, hV2, hst2, rfl⟩
            have hbox4 := hV2.box
            unfold vbox at hbox4
            rw [hdt] at hbox4
            have hrd4 : Hc2[r]? = some (rfO s j m a2 e2) := hV2.rd
            have q1 : ∀ H' K, lenW Tryd.prog 24 vs H' K = K (.int .i64 ((keyC keys).length : Nat)) H' := fun H' K => by rw [hV2.os.lenT (by simp only [go_sem, sevalprocAttr, reduceCtorEq])]
            refine AWP.seqE (x := .seq (.region 28 _ _) _) (LqO s r H d (valR s lv') Rk [(0, .pointer (some ⟨r, 0, none⟩)), (1, .int .i64 (deep : Nat)), (4, .pointer (some ⟨H.length, 0, none⟩)), (5, .int .u8 c.toNat), (7, .pointer (some ⟨H.length + 1, 0, none⟩))] p m fuel kids keys t vk vs css jk js) ?_ ?_
            · rcases List.eq_nil_or_concat keys with rfl | ⟨ini, la, hcon⟩
              · have hst3 : (e2 = 0 ∧ a2 = 0 ∧ p < j ∧ j ≤ s.length ∧ tailR (valR s lv') s d fuel j m kids ([] ++ [t]) = Rk) ∨ (e2 ≠ 0 ∧ ∃ a' : Nat, a2 = a' ∧ Rk = .bad a' e2) := by
                  rcases hst2 with ⟨h1, h2, h3, h4, h5⟩ | ⟨h1, _, h2⟩
                  · rw [if_neg (show ¬ behind [] t = false from fun h => by cases h)] at h5
                    exact .inl ⟨h1, h2, h3, h4, h5⟩
                  · exact .inr ⟨h1, h2⟩
                repeat first | with_reducible refine AWP.ctl (by constructor) ?_ | ((with_reducible (first | refine AWP.region ?_ ?_ | refine AWP.condT ?_ ?_)); exact rfl) | ((with_reducible refine AWP.condF ?_ ?_); exact rfl) | simp only [go_sem, sevalprocAttr, reduceCtorEq, hbox4, q1, keyC, List.map_nil, List.length_nil, Int.lt_irrefl, exists_eq_left] | simp (disch := omega) only [wz] | with_reducible_and_instances exact finR | ((with_reducible refine finR' ?_ ?_) <;> rfl) | ((with_reducible refine finD hsc (NRel.of_plain ?_)); exact rfl)
                exact ⟨_, ⟨j, a2, e2, Hc2, hV2, hst3, rfl⟩, Weak.env (by simp [envIn, lk_cons, wth_some])⟩
              · rw [List.concat_eq_append] at hcon
                subst hcon
                have hkl0 : (keyC (ini ++ [la])).length = ini.length + 1 := by unfold keyC; simp
                have hflt : (keyC (ini ++ [la])).flatten = ini.map (fun x => Value.string (bs x)) ++ [.string (bs la)] := by
                  rw [keyC_flat, List.map_append]; rfl
                obtain ⟨hvse, hkey⟩ : vs = .slice (some ⟨js, 0, none⟩) (ini.length + 1) (ini.length + 1) ∧ Hc2[js]? = some (.cells (ini.map (fun x => Value.string (bs x)) ++ [.string (bs la)]) ⟨9, 1, true, 0, none⟩) := by
                  rcases hV2.os with ⟨h, _⟩ | ⟨_, h, h3⟩
                  · rw [h] at hkl0; simp at hkl0
                  · rw [hkl0] at h
                    rw [hflt] at h3
                    exact ⟨h, h3⟩
                subst hvse
                have hgt : ((ini.length + 1 : Nat) : Int) > 0 := by omega
                have hle1 : ini.length + 1 ≤ s.length + 1 := by rw [List.length_append] at hsl; simp at hsl; omega
                have hwk : IntKind.i64.wrap (((ini.length + 1 : Nat) : Int) - 1) = (ini.length : Int) := by rw [wi64 (by omega)]; omega
                have hz0 : (0 : Int) ≤ (ini.length : Int) := by omega
                have hz1 : (ini.length : Int) < ((ini.length + 1 : Nat) : Int) := by omega
                have hat : (ini.map (fun x => Value.string (bs x)) ++ [.string (bs la)])[ini.length]? = some (.string (bs la)) := by simp
                have hbeh : behind (ini ++ [la]) t = Op.bytesLess la t := by unfold behind; simp
                rw [hbeh] at hst2
                have hrl4 := lt_of_get hrd4
                cases hle : Op.bytesLess la t with
                | true =>
                  have hst3 : (e2 = 0 ∧ a2 = 0 ∧ p < j ∧ j ≤ s.length ∧ tailR (valR s lv') s d fuel j m kids ((ini ++ [la]) ++ [t]) = Rk) ∨ (e2 ≠ 0 ∧ ∃ a' : Nat, a2 = a' ∧ Rk = .bad a' e2) := by
                    rcases hst2 with ⟨h1, h2, h3, h4, h5⟩ | ⟨h1, _, h2⟩
                    · rw [if_neg (by rw [hle]; decide)] at h5
                      exact .inl ⟨h1, h2, h3, h4, h5⟩
                    · exact .inr ⟨h1, h2⟩
                  repeat first | with_reducible refine AWP.ctl (by constructor) ?_ | ((with_reducible (first | refine AWP.region ?_ ?_ | refine AWP.condT ?_ ?_)); exact rfl) | ((with_reducible refine AWP.condF ?_ ?_); exact rfl) | simp only [go_sem, sevalprocAttr, reduceCtorEq, hbox4, q1, hkl0, hgt, hkey, hle, hwk, hz0, hz1, hat, Bool.not_false, Bool.not_true, exists_eq_left] | simp (disch := omega) only [wz] | with_reducible_and_instances exact finR | ((with_reducible refine finR' ?_ ?_) <;> rfl) | ((with_reducible refine finD hsc (NRel.of_plain ?_)); exact rfl)
                  exact ⟨_, ⟨j, a2, e2, Hc2, hV2, hst3, rfl⟩, Weak.env (by simp [envIn, lk_cons, wth_some])⟩
                | false =>
                  rcases hst2 with ⟨rfl, rfl, h3, h4, h5⟩ | ⟨h1, _, h2⟩
                  · rw [if_pos hle] at h5
                    have hW2 := rWrong s r j m p 2 Hc2 hrd4
                    have hVw2 := hV2.setR hrl (rfc s j m p 2)
                    unfold rfO at hW2
                    repeat first | with_reducible refine AWP.ctl (by constructor) ?_ | ((with_reducible (first | refine AWP.region ?_ ?_ | refine AWP.condT ?_ ?_)); exact rfl) | ((with_reducible refine AWP.condF ?_ ?_); exact rfl) | with_reducible refine hW2.use ?_ | simp only [go_sem, sevalprocAttr, reduceCtorEq, hbox4, q1, hkl0, hgt, hkey, hle, hwk, hz0, hz1, hat, Bool.not_false, Bool.not_true, exists_eq_left] | simp (disch := omega) only [wz] | with_reducible_and_instances exact finR | ((with_reducible refine finR' ?_ ?_) <;> rfl) | ((with_reducible refine finD hsc (NRel.of_plain ?_)); exact rfl)
                    exact ⟨_, ⟨j, p, 2, _, hVw2, .inr ⟨by decide, p, rfl, h5.symm⟩, rfl⟩, Weak.env (by simp [envIn, lk_cons, wth_some])⟩
                  · have hW2 := rWrongNo s r j m p a2 2 e2 h1 Hc2 hrd4
                    repeat first | with_reducible refine AWP.ctl (by constructor) ?_ | ((with_reducible (first | refine AWP.region ?_ ?_ | refine AWP.condT ?_ ?_)); exact rfl) | ((with_reducible refine AWP.condF ?_ ?_); exact rfl) | with_reducible refine hW2.use ?_ | simp only [go_sem, sevalprocAttr, reduceCtorEq, hbox4, q1, hkl0, hgt, hkey, hle, hwk, hz0, hz1, hat, Bool.not_false, Bool.not_true, exists_eq_left] | simp (disch := omega) only [wz] | with_reducible_and_instances exact finR | ((with_reducible refine finR' ?_ ?_) <;> rfl) | ((with_reducible refine finD hsc (NRel.of_plain ?_)); exact rfl)
                    exact ⟨_, ⟨j, a2, e2, Hc2, hV2, .inr ⟨h1, h2⟩, rfl⟩, Weak.env (by simp [envIn, lk_cons, wth_some])⟩
            rintro st3 ⟨j3, a3, e3, Hc3, hV3, hst3, rfl⟩
            have hV4 := hV3.more hrl [.cells [.string (bs t)] ⟨9, 0, true, 0, none⟩]
            have hV5 := hV4.addKey hrl t
            have hbl3 := lt_of_get hV4.box
            have hbox5 := hV3.box
            have hbox6 := hV4.box
            unfold vbox at hbox5 hbox6
            rw [hdt] at hbox5 hbox6
            have hbox7 : ∀ X : AHeap, (grown (Hc3 ++ [.cells [.string (bs t)] ⟨9, 0, true, 0, none⟩]) (keyC keys) js ++ X)[H.length + 1]? = some (.cells [.int .i64 (if true = true then 4 else 3), .int .i64 0, .string (bs []), vk, vs] ⟨26, 0, true, 0, none⟩) := fun X => by
              rw [grown_get hbl3 (fun hne => by have := hV4.jsl hne; omega)]
              exact hbox6
            simp only [List.length_append, List.length_cons, List.length_nil, Nat.zero_add, List.length_set] at hV5
            have hm1 : ∀ x ∈ keyC keys, x.length = 1 := fun x hx => by
              obtain ⟨y, _, rfl⟩ := List.mem_map.1 hx; rfl
            have hkl2 : (keyC keys).length = keys.length := by unfold keyC; simp
            have e4 : ∀ X, vbox d vk X = .cells [.int .i64 4, .int .i64 0, .string (bs []), vk, X] ⟨26, 0, true, 0, none⟩ := fun X => by unfold vbox; rw [hdt]; rfl
            rw [e4] at hV5
            obtain ⟨H5, hH5⟩ : ∃ H5 : AHeap, H5 = (grown (Hc3 ++ [.cells [.string (bs t)] ⟨9, 0, true, 0, none⟩]) (keyC keys) js ++ [AObj.cells (keyC keys ++ [[Value.string (bs t)]]).flatten ⟨9, 1, true, 0, none⟩]).set (H.length + 1) (.cells [.int .i64 4, .int .i64 0, .string (bs []), vk, .slice (some ⟨Hc3.length + 1, 0, none⟩) ((keyC keys).length + 1) ((keyC keys).length + 1)] ⟨26, 0, true, 0, none⟩) := ⟨_, rfl⟩
            rw [← hH5] at hV5
            have hF5 := rFine s r j3 m a3 e3 H5 hV5.rd
            repeat first | with_reducible refine AWP.ctl (by constructor) ?_ | ((with_reducible (first | refine AWP.region ?_ ?_ | refine AWP.condT ?_ ?_)); exact rfl) | ((with_reducible refine AWP.condF ?_ ?_); exact rfl) | simp only [go_sem, sevalprocAttr, reduceCtorEq, hbox5] | simp (disch := omega) only [wz] | with_reducible_and_instances exact finR | ((with_reducible refine finR' ?_ ?_) <;> rfl) | ((with_reducible refine finD hsc (NRel.of_plain ?_)); exact rfl)
            refine appendTo_R hV4.os (by decide) hm1 (by omega) (by omega) ?_
            repeat first | with_reducible refine AWP.ctl (by constructor) ?_ | ((with_reducible (first | refine AWP.region ?_ ?_ | refine AWP.condT ?_ ?_)); exact rfl) | ((with_reducible refine AWP.condF ?_ ?_); exact rfl) | simp only [go_sem, sevalprocAttr, reduceCtorEq, hbox7, putCells, List.set_cons_succ, List.set_cons_zero] | simp (disch := omega) only [wz] | with_reducible_and_instances exact finR | ((with_reducible refine finR' ?_ ?_) <;> rfl) | ((with_reducible refine finD hsc (NRel.of_plain ?_)); exact rfl)
            rw [← hH5]
            rcases hst3 with ⟨rfl, rfl, h3, h4, h5⟩ | ⟨he3, a', rfl, hbad⟩
            · rw [show ((0 : Int) == 0) = true from rfl] at hF5
              repeat first | with_reducible refine AWP.ctl (by constructor) ?_ | ((with_reducible (first | refine AWP.region ?_ ?_ | refine AWP.condT ?_ ?_)); exact rfl) | ((with_reducible refine AWP.condF ?_ ?_); exact rfl) | with_reducible refine hF5.use ?_ | simp only [go_sem, sevalprocAttr, reduceCtorEq] | simp (disch := omega) only [wz] | with_reducible_and_instances exact finR | ((with_reducible refine finR' ?_ ?_) <;> rfl) | ((with_reducible refine finD hsc (NRel.of_plain ?_)); exact rfl)
              exact ⟨_, ⟨j3, keys ++ [t], _, _, H5, hV5, by omega, h4, by rw [List.length_append]; simp; omega, h5, rfl⟩, Weak.env (by simp [envIn, lk_cons, wth_some])⟩
            · rw [show (e3 == 0) = false by simpa using he3] at hF5
              repeat first | with_reducible refine AWP.ctl (by constructor) ?_ | ((with_reducible (first | refine AWP.region ?_ ?_ | refine AWP.condT ?_ ?_)); exact rfl) | ((with_reducible refine AWP.condF ?_ ?_); exact rfl) | with_reducible refine hF5.use ?_ | simp only [go_sem, sevalprocAttr, reduceCtorEq] | simp (disch := omega) only [wz] | with_reducible_and_instances exact finR | ((with_reducible refine finR' ?_ ?_) <;> rfl) | ((with_reducible refine finD hsc (NRel.of_plain ?_)); exact rfl)
              exact ⟨_, ⟨j3, m, kids, keys ++ [t], vk, _, css, jk, _, H5, a', e3, hV5, he3, hbad, rfl⟩, Weak.env (by simp [envIn, lk_cons, wth_some])⟩
    · rintro st2 ⟨j, keys2, vs2, js2, Hc2, hV2, hj1, hj2, hj3, hT, rfl⟩
      have hih := ih r j m Hc2 hj2 hm hV2.rd
      have hbox2 := hV2.box
      unfold vbox at hbox2
      refine AWP.regionMP 7 [1, 5, 6] [] (.both (.run [1, 5, 6]) (.step 5 (.both (.run [1, 6]) (.run [6, 1])))) (by kernel_rfl) (by decide) (by kernel_rfl) (by kernel_rfl) (by kernel_rfl) ?_
      repeat' first | with_reducible refine canW_n ?_ | with_reducible refine canW_m (by decide) ?_ | ((with_reducible apply canW_p (by decide)); focus (intro H; (simp only [go_sem, sevalprocAttr, reduceCtorEq, hbox2, hwl, List.map_cons, List.map_nil]); exact rfl)) | with_reducible refine memW_bP ?_ ?_ | with_reducible refine memW_sP rfl ?_ | with_reducible refine memW_rP rfl ?_ | with_reducible refine memW_eP ?_ | simp only [List.take_succ_cons, List.take_zero, List.drop_succ_cons, List.drop_zero] | omega | with_reducible refine And.intro ?_ ?_ | with_reducible refine AWP.ctl (by constructor) ?_ | ((with_reducible (first | refine AWP.region ?_ ?_ | refine AWP.condT ?_ ?_)); exact rfl) | ((with_reducible refine AWP.condF ?_ ?_); exact rfl) | simp only [go_sem, sevalprocAttr, reduceCtorEq, hbox2, hwl, List.map_cons, List.map_nil] | simp (disch := omega) only [wz] | with_reducible_and_instances exact finR | ((with_reducible refine finR' ?_ ?_) <;> rfl) | ((with_reducible refine finD hsc (NRel.of_plain ?_)); exact rfl)
      all_goals
        refine AC.mono hih ?_
        intro res H3 hP
        have hP2 : ∃ cs w i3 n3 a3 e3, res = .ret (.agg ⟨cs⟩) ∧ Frm [r] Hc2 H3 ∧ H3[r]? = some (rfO s i3 n3 a3 e3) ∧ RdV H3 w cs ∧ ((e3 = 0 ∧ a3 = 0 ∧ j + 2 ≤ i3 ∧ i3 ≤ s.length ∧ n3 ≤ 1000 ∧ kidsR (valR s lv') s d fuel i3 n3 (kids ++ [w]) keys2 = Rk) ∨ (e3 ≠ 0 ∧ ∃ a' : Nat, a3 = a' ∧ Rk = .bad a' e3)) := by
          unfold tailR at hT
          cases hvr : valR s lv' j m with
          | bad a e =>
            rw [hvr] at hP hT
            obtain ⟨cs, w, i3, n3, h1, h2, h3, h4, h5⟩ := hP
            exact ⟨cs, w, i3, n3, a, e, h1, h2, h3, h4, .inr ⟨h5, a, rfl, hT.symm⟩⟩
          | ok v i' n' =>
            rw [hvr] at hP hT
            obtain ⟨cs, h1, h2, h3, h4⟩ := hP
            have hgo := (valR_goes s lv').ok j m v i' n' hj2 hvr
            exact ⟨cs, v, i', n', 0, 0, h1, h2, h3, h4, .inl ⟨rfl, rfl, hgo.1, hgo.2.1, hgo.2.2.2, hT⟩⟩
        obtain ⟨cs, w, i3, n3, a3, e3, rfl, hf, hrd, hRd, hst3⟩ := hP2
        have hV3 := hV2.call (o' := rfc s i3 n3 a3 e3) hrl hf hrd
        have hbox3 := hV3.box
        unfold vbox at hbox3
        have hc5 := hRd.len
        have hput : putCells [.int .i64 0, .int .i64 0, .string (bs []), .slice none 0 0, .slice none 0 0] 0 cs = cs := by
          match cs, hc5 with
          | [_, _, _, _, _], _ => rfl
        have htk : List.take 5 cs = cs := List.take_of_length_le (by omega)
        have hfl := RdV_flat hRd
        have hV4 := hV3.more hrl [.cells cs ⟨26, 0, true, 0, none⟩]
        have hcss := hV4.rl.len
        have hbl4 := lt_of_get hV4.box
        have hV5 := hV4.addKid hrl (hRd.kept (Kept.more _ _))
        simp only [List.length_append, List.length_cons, List.length_nil, Nat.zero_add] at hV5
        have hbox5 := hV4.box
        unfold vbox at hbox5
        have hbox4 : ∀ X : AHeap, (grown (H3 ++ [.cells cs ⟨26, 0, true, 0, none⟩]) css jk ++ X)[H.length + 1]? = some (.cells [.int .i64 (if d then 4 else 3), .int .i64 0, .string (bs []), vk, vs2] ⟨26, 0, true, 0, none⟩) := fun X => by
          rw [grown_get hbl4 (fun hne => by have := hV4.jkl hne; omega)]
          exact hbox5
        have hmeas : (if e3 = 0 then s.length + 1 - i3 else 0) < s.length + 1 - p := by
          split
          · rename_i h0
            rcases hst3 with ⟨_, _, h3, h4, _⟩ | ⟨h, _⟩
            · omega
            · exact absurd h0 h
          · omega
        have hst4 : (e3 = 0 ∧ a3 = 0 ∧ i3 ≤ s.length ∧ n3 ≤ 1000 ∧ (kids ++ [w]).length ≤ i3 ∧ keys2.length ≤ i3 ∧ ∃ fuel, s.length - i3 < fuel ∧ kidsR (valR s lv') s d fuel i3 n3 (kids ++ [w]) keys2 = Rk) ∨ (e3 ≠ 0 ∧ ∃ a' : Nat, a3 = a' ∧ Rk = .bad a' e3) := by
          rcases hst3 with ⟨h1, h2, h3, h4, h5, h6⟩ | h
          · exact .inl ⟨h1, h2, h4, h5, by rw [List.length_append]; simp; omega, by omega, fuel, by omega, h6⟩
          · exact .inr h
      all_goals
        repeat' first | with_reducible refine canW_n ?_ | with_reducible refine canW_m (by decide) ?_ | ((with_reducible apply canW_p (by decide)); focus (intro H; (simp only [go_sem, sevalprocAttr, reduceCtorEq, hbox3, hbox5, hc5, hput, htk, hfl, List.map_cons, List.map_nil]); exact rfl)) | with_reducible refine memW_bP ?_ ?_ | with_reducible refine memW_sP rfl ?_ | with_reducible refine memW_rP rfl ?_ | with_reducible refine memW_eP ?_ | simp only [List.take_succ_cons, List.take_zero, List.drop_succ_cons, List.drop_zero] | omega | with_reducible refine And.intro ?_ ?_ | with_reducible refine AWP.ctl (by constructor) ?_ | ((with_reducible (first | refine AWP.region ?_ ?_ | refine AWP.condT ?_ ?_)); exact rfl) | ((with_reducible refine AWP.condF ?_ ?_); exact rfl) | simp only [go_sem, sevalprocAttr, reduceCtorEq, hbox3, hbox5, hc5, hput, htk, hfl, List.map_cons, List.map_nil] | simp (disch := omega) only [wz] | with_reducible_and_instances exact finR | ((with_reducible refine finR' ?_ ?_) <;> rfl) | ((with_reducible refine finD hsc (NRel.of_plain ?_)); exact rfl)
      all_goals
        refine appendTo_R hV4.ok (by decide) hV4.rl.all5 (by omega) (by omega) ?_
        repeat first | with_reducible refine AWP.ctl (by constructor) ?_ | ((with_reducible (first | refine AWP.region ?_ ?_ | refine AWP.condT ?_ ?_)); exact rfl) | ((with_reducible refine AWP.condF ?_ ?_); exact rfl) | simp only [go_sem, sevalprocAttr, reduceCtorEq, hbox4] | simp (disch := omega) only [wz] | with_reducible_and_instances exact finR | ((with_reducible refine finR' ?_ ?_) <;> rfl) | ((with_reducible refine finD hsc (NRel.of_plain ?_)); exact rfl)
        exact ⟨⟨i3, n3, a3, e3, kids ++ [w], keys2, _, vs2, css ++ [cs], _, js2, _⟩, Weak.env (by simp [envIn, lk_cons, wth_some]), ⟨hV5, hst4⟩, hmeas⟩
  · rintro st ⟨i2, n2, kids, keys, vk, vs, css, jk, js, Hc, a, e, hV, he, hbad, rfl⟩
    rw [hRb _ _ hbad]
    obtain ⟨H3, hW3, hR1, hR2, hR3, hf3, hrd3, hres3, hbox3⟩ := hV.freeze hrl
    unfold vbox at hbox3
    have hal3 := lt_of_get hres3
    have hfl1 := hV.ok.flat
    have hfl2 := hV.os.flat
    refine AWP.weak (hW3 _ _ _) ?_
    have ga : ∀ o : AObj, (H3.set H.length o)[H.length]? = some o := fun o => List.getElem?_set_self hal3
    repeat first | with_reducible refine AWP.ctl (by constructor) ?_ | ((with_reducible (first | refine AWP.region ?_ ?_ | refine AWP.condT ?_ ?_)); exact rfl) | ((with_reducible refine AWP.condF ?_ ?_); exact rfl) | simp only [go_sem, sevalprocAttr, reduceCtorEq, hbox3, hres3, ga, hfl1, hfl2, hal3, putCells, List.length_set, List.set_cons_succ, List.set_cons_zero] | simp (disch := omega) only [wz] | with_reducible_and_instances exact finR | ((with_reducible refine finR' ?_ ?_) <;> rfl) | ((with_reducible refine finD hsc (NRel.of_plain ?_)); exact rfl)
    refine ⟨Bool.and_eq_true_iff.2 ⟨hfl1, hfl2⟩, ?_⟩
    repeat first | with_reducible refine AWP.ctl (by constructor) ?_ | ((with_reducible (first | refine AWP.region ?_ ?_ | refine AWP.condT ?_ ?_)); exact rfl) | ((with_reducible refine AWP.condF ?_ ?_); exact rfl) | simp only [go_sem, sevalprocAttr, reduceCtorEq, ga, hal3] | simp (disch := omega) only [wz] | with_reducible_and_instances exact finR | ((with_reducible refine finR' ?_ ?_) <;> rfl) | ((with_reducible refine finD hsc (NRel.of_plain ?_)); exact rfl)
    have hk4' : ∀ o : AObj, Kept H3 (H3.set H.length o) := fun o => Kept.set hres3 rfl o
    refine ⟨_, _, .refl _ _ _, _, .mk (if d then 4 else 3) 0 [] kids keys, i2, n2, rfl, Frm.set hf3 (.inr (Nat.le_refl _)), ?_, ?_, he⟩
    · rw [List.getElem?_set_ne (by omega)]; exact hrd3
    · unfold RdV
      exact ⟨vk, vs, css, rfl, hR1.kept (hk4' _), hR2.kept (hk4' _), hR3.kept (hk4' _)⟩
end Go.Proofs.YthcdjconlfdidaaDoor

