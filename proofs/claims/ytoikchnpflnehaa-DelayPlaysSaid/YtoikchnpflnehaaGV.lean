/-
  The control and that of the specification: they stand alike, whatever they are told.
-/
import Derived.Test.YtoikchnpflnehaaGU
set_option linter.unusedVariables false
set_option linter.unusedSimpArgs false
namespace Go.Proofs.Ytoikchnpflnehaa
open Go Go.Aw Go.Proofs
structure Cpl (C : Ctl) (R : RCtl) : Prop where
  now : C.now = R.now
  time : C.halved = R.time
  ever : C.ever = R.ever
  target : C.target = R.target
  limit : C.limit = R.limit
  last : C.last = last4 R
  past : C.past = pastP R.all
theorem Cpl.nil {C : Ctl} {R : RCtl} (h : Cpl C R) (hok : R.ok) : C.past = [] ↔ R.all = [] := by
  rw [h.past]
  constructor
  · intro e
    by_cases hz : R.all = []
    · exact hz
    · exact absurd e (pastP_ne hok.srt hz)
  · intro e; rw [e]; rfl
theorem Cpl.ask {C : Ctl} {R : RCtl} (h : Cpl C R) (hok : R.ok) : askE C = raskE R := by
  unfold askE raskE
  by_cases hz : R.all = []
  · rw [if_pos hz, if_pos ((h.nil hok).2 hz)]
  · rw [if_neg hz, if_neg (fun e => hz ((h.nil hok).1 e))]
theorem Cpl.base {C : Ctl} {R : RCtl} (h : Cpl C R) (hok : R.ok) : baseL C = rbaseL R := by
  unfold baseL rbaseL
  by_cases hz : R.all = []
  · rw [if_pos hz, if_pos ((h.nil hok).2 hz)]
  · rw [if_neg hz, if_neg (fun e => hz ((h.nil hok).1 e)), h.past]; rfl
theorem Cpl.queue {C : Ctl} {R : RCtl} (h : Cpl C R) (hok : R.ok) : queueR C = rqueueL R := by
  unfold queueR rqueueL queueL
  by_cases hz : R.all = []
  · rw [if_pos hz, if_pos ((h.nil hok).2 hz)]
  · rw [if_neg hz, if_neg (fun e => hz ((h.nil hok).1 e)), h.past, h.last]; rfl
theorem Cpl.bases {C : Ctl} {R : RCtl} (h : Cpl C R) : C.past.map (·.2) = basesR R := by rw [h.past]; rfl
theorem drop_last (L : List Int) (x : Int) : (L.drop (L.length - 4) ++ [x]).drop ((L.drop (L.length - 4)).length + 1 - 4) = (L ++ [x]).drop (L.length + 1 - 4) := by
  rw [List.length_drop]
  rcases Nat.lt_or_ge L.length 4 with h | h
  · rw [show L.length - 4 = 0 by omega, List.drop_zero, Nat.sub_zero]
  · rw [show L.length - (L.length - 4) + 1 - 4 = 1 by omega, List.drop_append_of_le_length (by rw [List.length_drop]; omega), List.drop_drop, List.drop_append_of_le_length (by omega)]
    congr 2
    omega
theorem Cpl.taken {C : Ctl} {R : RCtl} (h : Cpl C R) (hok : R.ok) {now delay : Int} (hd : timeD R.now now) : Cpl (C.taken now delay) (R.taken now delay) := by
  refine ⟨rfl, h.time, h.ever, h.target, h.limit, ?_, ?_⟩
  · show (C.last ++ [delay]).drop (C.last.length + 1 - 4) = ((R.all ++ [(now, delay)]).map (·.2)).drop ((R.all ++ [(now, delay)]).length - 4)
    rw [h.last]
    have := drop_last (R.all.map (·.2)) delay
    rw [List.length_map] at this
    unfold last4
    rw [this, List.map_append, List.length_append]
    rfl
  · show putL (now / 60000) delay (keptL (now / 60000) C.past) = pastP (R.all ++ [(now, delay)])
    unfold timeD at hd
    rw [h.past, pastP_step R.all now delay hok.srt (fun s hs => by have := hok.all s hs; omega)]
theorem queueR_L {C : Ctl} (h : C.past ≠ []) : queueR C = queueL C := if_neg h
theorem Cpl.change {C : Ctl} {R : RCtl} (h : Cpl C R) (hok : R.ok) (hne : C.past ≠ []) (bytes under : Int) (hb : 0 ≤ bytes) : Cpl (C.changeL bytes under) (R.changeL bytes under) := by
  refine ⟨h.now, h.time, h.ever, h.target, ?_, h.last, h.past⟩
  show min (max (C.limit + min (stepL C bytes under) bytes) 1500) 1000000 = min (max (R.limit + rstepL R bytes under) 1500) 1000000
  have hq : queueL C = rqueueL R := by rw [← queueR_L hne]; exact h.queue hok
  have ho : offL C = roffL R := by unfold offL roffL; rw [hq, h.target]
  have : min (stepL C bytes under) bytes = rstepL R bytes under := by
    unfold stepL rstepL
    rw [ho, h.target, h.limit]
    generalize (3000 * roffL R * bytes).tdiv (R.target * R.limit) = T
    by_cases h1 : T > 0
    · rw [if_pos h1]
      by_cases h2 : 2 * under < R.limit
      · rw [if_pos ⟨h1, h2⟩, if_pos h2]; omega
      · rw [if_neg (fun h => h2 h.2), if_neg h2]
    · rw [if_neg (fun h => h1 h.1), if_neg h1]; omega
  rw [this, h.limit]
theorem sampleD_iff {C : Ctl} {R : RCtl} (h : Cpl C R) (now bytes delay under : Int) : sampleD C now bytes delay under ↔ rsampleD R now bytes delay under := by
  unfold sampleD rsampleD tellD timeD numD
  rw [h.now]
  constructor
  · rintro ⟨h1, h2, h3, h4⟩; exact ⟨h4, h1, by omega, h2⟩
  · rintro ⟨h1, h2, h3, h4⟩; exact ⟨h2, h4, by omega, h1⟩
theorem Cpl.sample {C : Ctl} {R : RCtl} (h : Cpl C R) (hok : R.ok) (now bytes delay under : Int) : Cpl (C.sampleL now bytes delay under) (R.sampleL now bytes delay under) ∧ (R.sampleL now bytes delay under).ok ∧ sampleE C now bytes delay under = rsampleE R now bytes delay under ∧ (R.sampleL now bytes delay under).all.length ≤ R.all.length + 1 := by
  have hi := sampleD_iff h now bytes delay under
  by_cases hd : rsampleD R now bytes delay under
  · have e1 : R.sampleL now bytes delay under = (R.taken now delay).changeL bytes under := if_pos hd
    have e2 : rsampleE R now bytes delay under = 0 := if_pos hd
    have e3 : sampleE C now bytes delay under = 0 := if_pos (hi.2 hd)
    rw [e1, e2, e3, sampleL_eq _ _ _ _ _ (hi.2 hd)]
    have hok2 := taken_ok hok (delay := delay) hd.1
    have ht := h.taken hok (delay := delay) hd.1
    refine ⟨ht.change hok2 (putL_ne _ _ _) bytes under hd.2.1.1, ?_, rfl, ?_⟩
    · obtain ⟨a1, a2, a3, a4, a5, a6⟩ := hok2
      exact ⟨a1, a2, a3, by show 1500 ≤ min (max _ 1500) 1000000 ∧ min (max _ 1500) 1000000 ≤ 1000000; omega, a5, a6⟩
    · show (R.all ++ [(now, delay)]).length ≤ _
      simp
  · have e1 : R.sampleL now bytes delay under = R := if_neg hd
    have e2 : rsampleE R now bytes delay under = 7 := if_neg hd
    have e3 : sampleE C now bytes delay under = 7 := if_neg (fun x => hd (hi.1 x))
    have e4 : C.sampleL now bytes delay under = C := if_neg (fun x => hd (hi.1 x))
    rw [e1, e2, e3, e4]
    exact ⟨h, hok, rfl, Nat.le_succ _⟩
theorem Cpl.loss {C : Ctl} {R : RCtl} (h : Cpl C R) (hok : R.ok) (now trip : Int) : Cpl (C.loss now trip) (R.loss now trip) ∧ (R.loss now trip).ok ∧ clossB C now trip = rclossB R now trip ∧ clossE C now trip = rclossE R now trip ∧ (R.loss now trip).all = R.all := by
  have hi : clossD C now trip ↔ rclossD R now trip := by
    unfold clossD rclossD tellD timeD
    rw [h.now]
  have hj : closeD (C.at_ now) trip ↔ rcloseD R now trip := by
    show C.ever = true ∧ now - C.halved < max 1 trip ↔ _
    unfold rcloseD
    rw [h.ever, h.time]
  by_cases hd : rclossD R now trip
  · have e1 : C.loss now trip = (C.at_ now).lose trip := if_pos (hi.2 hd)
    have e2 : R.loss now trip = if rcloseD R now trip then ⟨R.time, R.ever, R.target, R.limit, now, R.all⟩ else ⟨now, true, R.target, max (R.limit / 2) 1500, now, R.all⟩ := if_pos hd
    have e3 : clossE C now trip = 0 := if_pos (hi.2 hd)
    have e4 : rclossE R now trip = 0 := if_pos hd
    have e5 : clossB C now trip = rclossB R now trip := by
      unfold clossB rclossB
      rw [decide_eq_true (hi.2 hd), decide_eq_true hd]
      congr 1
      exact decide_eq_decide.2 (not_congr hj)
    have ht := hd.2
    unfold timeD at ht
    obtain ⟨a1, a2, a3, a4, a5, a6⟩ := hok
    rw [e1, e2, e3, e4]
    refine ⟨?_, ?_, e5, rfl, ?_⟩
    · by_cases hc : rcloseD R now trip
      · have e6 : (C.at_ now).lose trip = C.at_ now := if_pos (hj.2 hc)
        rw [if_pos hc, e6]
        exact ⟨rfl, h.time, h.ever, h.target, h.limit, h.last, h.past⟩
      · have e6 : (C.at_ now).lose trip = ⟨now, now, true, C.target, max (C.limit / 2) 1500, C.last, C.past⟩ := if_neg (fun x => hc (hj.1 x))
        rw [if_neg hc, e6]
        exact ⟨rfl, rfl, rfl, h.target, by show max (C.limit / 2) 1500 = max (R.limit / 2) 1500; rw [h.limit], h.last, h.past⟩
    · split
      · exact ⟨⟨by show 0 ≤ now; omega, ht.2⟩, ⟨a2.1, by show R.time ≤ now; omega⟩, a3, a4, a5, fun s hs => by have := a6 s hs; show 0 ≤ s.1 ∧ s.1 ≤ now; omega⟩
      · exact ⟨⟨by show 0 ≤ now; omega, ht.2⟩, ⟨by show 0 ≤ now; omega, Int.le_refl _⟩, a3, by show 1500 ≤ max (R.limit / 2) 1500 ∧ max (R.limit / 2) 1500 ≤ 1000000; omega, a5, fun s hs => by have := a6 s hs; show 0 ≤ s.1 ∧ s.1 ≤ now; omega⟩
    · split <;> rfl
  · have e1 : C.loss now trip = C := if_neg (fun x => hd (hi.1 x))
    have e2 : R.loss now trip = R := if_neg hd
    have e3 : clossE C now trip = 7 := if_neg (fun x => hd (hi.1 x))
    have e4 : rclossE R now trip = 7 := if_neg hd
    have e5 : clossB C now trip = rclossB R now trip := by
      unfold clossB rclossB
      rw [decide_eq_false hd, decide_eq_false (fun x => hd (hi.1 x))]; rfl
    rw [e1, e2, e3, e4]
    exact ⟨h, hok, e5, rfl, rfl⟩
theorem Cpl.out {C : Ctl} {R : RCtl} (h : Cpl C R) (hok : R.ok) (now : Int) : Cpl (C.out now) (R.out now) ∧ (R.out now).ok ∧ coutE C now = routE R now ∧ (R.out now).all = R.all := by
  have hi : tellD C now ↔ timeD R.now now := by unfold tellD timeD; rw [h.now]
  by_cases hd : timeD R.now now
  · have e1 : C.out now = ⟨now, C.halved, C.ever, C.target, 1500, C.last, C.past⟩ := if_pos (hi.2 hd)
    have e2 : R.out now = ⟨R.time, R.ever, R.target, 1500, now, R.all⟩ := if_pos hd
    have e3 : coutE C now = 0 := if_pos (hi.2 hd)
    have e4 : routE R now = 0 := if_pos hd
    rw [e1, e2, e3, e4]
    unfold timeD at hd
    obtain ⟨a1, a2, a3, a4, a5, a6⟩ := hok
    exact ⟨⟨rfl, h.time, h.ever, h.target, rfl, h.last, h.past⟩, ⟨⟨by show 0 ≤ now; omega, hd.2⟩, ⟨a2.1, by show R.time ≤ now; omega⟩, a3, by simp, a5, fun s hs => by have := a6 s hs; show 0 ≤ s.1 ∧ s.1 ≤ now; omega⟩, rfl, rfl⟩
  · have e1 : C.out now = C := if_neg (fun x => hd (hi.1 x))
    have e2 : R.out now = R := if_neg hd
    have e3 : coutE C now = 7 := if_neg (fun x => hd (hi.1 x))
    have e4 : routE R now = 7 := if_neg hd
    rw [e1, e2, e3, e4]
    exact ⟨h, hok, rfl, rfl⟩
theorem out_inv (C : Ctl) (target : Int) (n : Nat) (h : C.inv target n) (now : Int) : (C.out now).inv target n := by
  unfold Ctl.out
  split
  · rename_i hd
    unfold tellD at hd
    obtain ⟨hok, hh, htar, hp⟩ := h
    have h0 := hok.now
    exact ⟨⟨⟨by show 0 ≤ now; omega, hd.2⟩, hok.target, by simp, hok.last⟩, ⟨hh.1, by show C.halved ≤ now; omega⟩, htar, hp⟩
  · exact h
/-- What one act makes of the two. -/
structure Both (target : Int) (n : Nat) (C : Ctl) (R : RCtl) : Prop where
  inv : C.inv target n
  ok : R.ok
  cpl : Cpl C R
  all : R.all.length ≤ n
end Go.Proofs.Ytoikchnpflnehaa
