/-
  Adding one number to all delays.
-/
import Derived.Test.YtoikchnpflnehaaGJ
set_option linter.unusedVariables false
set_option linter.unusedSimpArgs false
set_option maxRecDepth 20000
namespace Go.Proofs.Ytoikchnpflnehaa
open Go Go.Aw Go.Proofs
def sh (y d : Int) : Int := (d + y) % 4294967296
theorem less_sh (y a b : Int) : lessD (sh y a) (sh y b) ↔ lessD a b := by
  have e : (sh y b - sh y a) % 4294967296 = (b - a) % 4294967296 := by unfold sh; omega
  unfold lessD; rw [e]
theorem foldl_sh (y : Int) (l : List Int) : ∀ a, (l.map (sh y)).foldl (fun out x => if lessD x out then x else out) (sh y a) = sh y (l.foldl (fun out x => if lessD x out then x else out) a) := by
  induction l with
  | nil => intro a; rfl
  | cons x r ih =>
    intro a
    rw [List.map_cons, List.foldl_cons, List.foldl_cons]
    have : (if lessD (sh y x) (sh y a) then sh y x else sh y a) = sh y (if lessD x a then x else a) := by
      by_cases h : lessD x a
      · rw [if_pos h, if_pos ((less_sh y x a).2 h)]
      · rw [if_neg h, if_neg (fun h' => h ((less_sh y x a).1 h'))]
    rw [this]; exact ih _
theorem least_sh (y : Int) (l : List Int) (h : l ≠ []) : leastL (l.map (sh y)) = sh y (leastL l) := by
  cases l with
  | nil => exact absurd rfl h
  | cons a r => exact foldl_sh y r a
def Ctl.shift (C : Ctl) (y : Int) : Ctl := ⟨C.now, C.halved, C.ever, C.target, C.limit, C.last.map (sh y), C.past.map fun p => (p.1, sh y p.2)⟩
theorem queue_sh (C : Ctl) (y : Int) (h1 : C.last ≠ []) (h2 : C.past ≠ []) : queueL (C.shift y) = queueL C := by
  unfold queueL
  have e : ((C.shift y).past.map (·.2)) = (C.past.map (·.2)).map (sh y) := by simp [Ctl.shift]
  rw [e, least_sh y _ (by simpa using h2)]
  have e1 : leastL (C.shift y).last = sh y (leastL C.last) := least_sh y _ h1
  rw [e1]
  have : (sh y (leastL C.last) - sh y (leastL (C.past.map (·.2)))) % 4294967296 = (leastL C.last - leastL (C.past.map (·.2))) % 4294967296 := by unfold sh; omega
  rw [this]
theorem kept_sh (m y : Int) : ∀ l : List (Int × Int), keptL m (l.map fun p => (p.1, sh y p.2)) = (keptL m l).map fun p => (p.1, sh y p.2)
  | [] => rfl
  | p :: r => by
    rw [List.map_cons]
    unfold keptL
    simp only
    split
    · exact kept_sh m y r
    · rfl
theorem put_sh (m d y : Int) (q : List (Int × Int)) : putL m (sh y d) (q.map fun p => (p.1, sh y p.2)) = (putL m d q).map fun p => (p.1, sh y p.2) := by
  unfold putL
  rw [List.getLast?_map]
  cases h : q.getLast? with
  | none => simp
  | some l =>
    simp only [Option.map_some]
    by_cases hm : l.1 = m
    · rw [if_pos hm, if_pos hm]
      by_cases hl : lessD d l.2
      · rw [if_pos hl, if_pos ((less_sh y d l.2).2 hl)]
        simp [List.map_dropLast]
      · rw [if_neg hl, if_neg (fun h' => hl ((less_sh y d l.2).1 h'))]
    · rw [if_neg hm, if_neg hm]; simp
theorem taken_sh (C : Ctl) (now d y : Int) : (C.shift y).taken now (sh y d) = (C.taken now d).shift y := by
  unfold Ctl.taken Ctl.noteL Ctl.addL Ctl.shift
  simp only
  rw [kept_sh, put_sh]
  simp [List.map_drop]
theorem taken_ne (C : Ctl) (now d : Int) : (C.taken now d).last ≠ [] ∧ (C.taken now d).past ≠ [] := by
  refine ⟨?_, putL_ne _ _ _⟩
  refine List.ne_nil_of_length_pos ?_
  show 0 < ((C.last ++ [d]).drop (C.last.length + 1 - 4)).length
  rw [List.length_drop, List.length_append, List.length_singleton]; omega
theorem change_sh (C : Ctl) (b u y : Int) (h1 : C.last ≠ []) (h2 : C.past ≠ []) : (C.shift y).changeL b u = (C.changeL b u).shift y := by
  have hq := queue_sh C y h1 h2
  have ho : offL (C.shift y) = offL C := by unfold offL; rw [hq]; rfl
  have hs : stepL (C.shift y) b u = stepL C b u := by
    unfold stepL; rw [ho]; rfl
  unfold Ctl.changeL
  rw [hs]; rfl
theorem sampleD_sh (C : Ctl) (now b d u y : Int) (hd : numD d) : sampleD (C.shift y) now b (sh y d) u ↔ sampleD C now b d u := by
  have h1 : numD (sh y d) := by unfold numD sh; omega
  unfold sampleD
  simp only [hd, h1, true_and]
  exact Iff.rfl
theorem sample_sh (C : Ctl) (now b d u y : Int) (hd : numD d) : (C.shift y).sampleL now b (sh y d) u = (C.sampleL now b d u).shift y := by
  by_cases h : sampleD C now b d u
  · rw [sampleL_eq _ _ _ _ _ h, sampleL_eq _ _ _ _ _ ((sampleD_sh C now b d u y hd).2 h), taken_sh]
    exact change_sh _ _ _ _ (taken_ne _ _ _).1 (taken_ne _ _ _).2
  · have e1 : C.sampleL now b d u = C := if_neg h
    have e2 : (C.shift y).sampleL now b (sh y d) u = C.shift y := if_neg (fun h' => h ((sampleD_sh C now b d u y hd).1 h'))
    rw [e1, e2]
theorem sampleE_sh (C : Ctl) (now b d u y : Int) (hd : numD d) : sampleE (C.shift y) now b (sh y d) u = sampleE C now b d u := by
  by_cases h : sampleD C now b d u
  · have e1 : sampleE C now b d u = 0 := if_pos h
    have e2 : sampleE (C.shift y) now b (sh y d) u = 0 := if_pos ((sampleD_sh C now b d u y hd).2 h)
    rw [e1, e2]
  · have e1 : sampleE C now b d u = 7 := if_neg h
    have e2 : sampleE (C.shift y) now b (sh y d) u = 7 := if_neg (fun h' => h ((sampleD_sh C now b d u y hd).1 h'))
    rw [e1, e2]
theorem loss_sh (C : Ctl) (now t y : Int) : (C.shift y).loss now t = (C.loss now t).shift y := by
  by_cases h : clossD C now t
  · have e1 : C.loss now t = (C.at_ now).lose t := if_pos h
    have e2 : (C.shift y).loss now t = ((C.shift y).at_ now).lose t := if_pos (show clossD (C.shift y) now t from h)
    rw [e1, e2]
    by_cases k : closeD (C.at_ now) t
    · have e3 : (C.at_ now).lose t = C.at_ now := if_pos k
      have e4 : ((C.shift y).at_ now).lose t = (C.shift y).at_ now := if_pos (show closeD ((C.shift y).at_ now) t from k)
      rw [e3, e4]; rfl
    · have e3 : (C.at_ now).lose t = ⟨now, now, true, C.target, max (C.limit / 2) 1500, C.last, C.past⟩ := if_neg k
      have e4 : ((C.shift y).at_ now).lose t = ⟨now, now, true, C.target, max (C.limit / 2) 1500, (C.shift y).last, (C.shift y).past⟩ := if_neg (show ¬ closeD ((C.shift y).at_ now) t from k)
      rw [e3, e4]; rfl
  · have e1 : C.loss now t = C := if_neg h
    have e2 : (C.shift y).loss now t = C.shift y := if_neg (show ¬ clossD (C.shift y) now t from h)
    rw [e1, e2]
theorem out_sh (C : Ctl) (now y : Int) : (C.shift y).out now = (C.out now).shift y := by
  by_cases h : tellD C now
  · have e1 : C.out now = ⟨now, C.halved, C.ever, C.target, 1500, C.last, C.past⟩ := if_pos h
    have e2 : (C.shift y).out now = ⟨now, C.halved, C.ever, C.target, 1500, (C.shift y).last, (C.shift y).past⟩ := if_pos (show tellD (C.shift y) now from h)
    rw [e1, e2]; rfl
  · have e1 : C.out now = C := if_neg h
    have e2 : (C.shift y).out now = C.shift y := if_neg (show ¬ tellD (C.shift y) now from h)
    rw [e1, e2]
theorem out_inv (C : Ctl) (target : Int) (n : Nat) (h : C.inv target n) (now : Int) : (C.out now).inv target n ∧ C.now ≤ (C.out now).now := by
  unfold Ctl.out
  split
  · rename_i ht
    unfold tellD at ht
    obtain ⟨hok, hh, htar, hp⟩ := h
    have h0 := hok.now
    exact ⟨⟨⟨⟨by show 0 ≤ now; omega, ht.2⟩, hok.target, by simp only; omega, hok.last⟩, ⟨hh.1, by show C.halved ≤ now; omega⟩, htar, hp⟩, ht.1⟩
  · exact ⟨h, Int.le_refl _⟩
theorem shift_inv (C : Ctl) (target : Int) (n : Nat) (h : C.inv target n) (y : Int) : (C.shift y).inv target n := by
  obtain ⟨hok, hh, htar, hp⟩ := h
  exact ⟨⟨hok.now, hok.target, hok.limit, by have := hok.last; simpa [Ctl.shift] using this⟩, hh, htar, by simpa [Ctl.shift] using hp⟩
/-- The last delays are there where bases are. -/
def Ctl.full (C : Ctl) : Prop := C.past ≠ [] → C.last ≠ []
theorem sample_full (C : Ctl) (h : C.full) (now b d u : Int) : (C.sampleL now b d u).full := by
  by_cases hd : sampleD C now b d u
  · rw [sampleL_eq _ _ _ _ _ hd]; exact fun _ => (taken_ne C now d).1
  · have e1 : C.sampleL now b d u = C := if_neg hd
    rw [e1]; exact h
theorem ask_sh (C : Ctl) (y : Int) : askE (C.shift y) = askE C := by
  unfold askE
  have : (C.shift y).past = [] ↔ C.past = [] := by simp [Ctl.shift]
  simp only [this]
theorem queueR_sh (C : Ctl) (y : Int) (h : C.full) : queueR (C.shift y) = queueR C := by
  unfold queueR
  have : (C.shift y).past = [] ↔ C.past = [] := by simp [Ctl.shift]
  simp only [this]
  split
  · rfl
  · rename_i hp
    exact queue_sh C y (h hp) hp
end Go.Proofs.Ytoikchnpflnehaa
