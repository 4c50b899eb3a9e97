/-
  The comparing function of links, in whatever world.
-/
import Derived.Test.YtnfkbgpbligloaaDoorLW
import Derived.WalkKit
set_option linter.unusedVariables false
set_option linter.unusedSimpArgs false
namespace Go.Proofs.YtnfkbgpbligloaaDoor
open Go Go.Proofs Go.Shelf Go.RowKit Go.Lib Go.Sort
theorem wrap64_eq (n : Int) : wrap64 n = IntKind.i64.wrap n := by
  exact (IntWalk.i64_left n).symm
theorem cell3 (W : World) (o1 o2 : Obj) (c : Array Value) (t : TypeId) (i : Nat) : (((W.alloc o1).alloc o2).alloc (.cells c t)).cell? ⟨W.heap.size + 1 + 1, i, none⟩ = c[i]? := by
  have h : ((W.alloc o1).alloc o2).heap.size = W.heap.size + 1 + 1 := by simp
  rw [← h]
  exact World.cell?_alloc_new _ _ _ _
/-- The first of three that is not 0. -/
def or3 (x y z : Int) : Int := if x = 0 then (if y = 0 then z else y) else x
set_option maxHeartbeats 4000000 in
set_option maxRecDepth 100000 in
theorem orInt (b : Nat) (x y z : Int) (W : World) (h0 : W.cell? ⟨b, 0, none⟩ = some (.int .i64 x)) (h1 : W.cell? ⟨b, 1, none⟩ = some (.int .i64 y)) (h2 : W.cell? ⟨b, 2, none⟩ = some (.int .i64 z)) :
    Calls Tryd.prog 26 #[.slice (some ⟨b, 0, none⟩) 3 3] W fun e w' => e = .returned (.int .i64 (or3 x y z)) ∧ w' = W := by
  obtain ⟨r, hr⟩ : ∃ r, or3 x y z = r := ⟨_, rfl⟩
  rw [hr]
  go_enter Tryd.func26, Tryd.ntmps26
  go_wp2
  refine wp_loop_rounds 4 ?_
  repeat any_goals (rw [rounds_succ]; go_wp2)
  all_goals (go_ret; refine ⟨?_, rfl⟩; rw [← hr]; unfold or3; simp_all)
set_option maxHeartbeats 4000000 in
set_option maxRecDepth 100000 in
theorem cmpW (t1 i1 c1 t2 i2 c2 : Int) (g1 g2 : Value) (o1 : g1.oneCell' = true) (o2 : g2.oneCell' = true) (W : World) :
    Calls Tryd.prog 25 #[.agg #[.int .i64 t1, .int .i64 i1, .int .i64 c1, g1], .agg #[.int .i64 t2, .int .i64 i2, .int .i64 c2, g2]] W fun e w' =>
      e = .returned (.int .i64 (or3 (IntKind.i64.wrap (t1 - t2)) (IntKind.i64.wrap (i1 - i2)) (IntKind.i64.wrap (c1 - c2)))) ∧ ∃ q os', w' = grow (W.drewN q) os' := by
  go_enter Tryd.func25, Tryd.ntmps25
  go_wp2_with (go_at_call 26; refine (orInt _ (IntKind.i64.wrap (t1 - t2)) (IntKind.i64.wrap (i1 - i2)) (IntKind.i64.wrap (c1 - c2)) _ ?_ ?_ ?_).mono ?_; rotate_left 3; rintro e w' ⟨rfl, rfl⟩)
  · go_ret
    exact ⟨rfl, 0, _, by rw [alloc_eq_grow, alloc_eq_grow, alloc_eq_grow, grow_grow, grow_grow]; rfl⟩
  all_goals (rw [wrap64_eq, wrap64_eq, wrap64_eq]; exact cell3 _ _ _ _ _ _)
set_option maxHeartbeats 4000000 in
set_option maxRecDepth 100000 in
theorem cmpT (t1 i1 c1 t2 i2 c2 : Int) (g1 g2 : Value) (o1 : g1.oneCell' = true) (o2 : g2.oneCell' = true) (W : World) :
    Calls Tryd.prog 31 #[.agg #[.int .i64 t1, .int .i64 i1, .int .i64 c1, g1], .agg #[.int .i64 t2, .int .i64 i2, .int .i64 c2, g2]] W fun e w' =>
      e = .returned (.int .i64 (or3 (IntKind.i64.wrap (t1 - t2)) (IntKind.i64.wrap (i1 - i2)) (IntKind.i64.wrap (c1 - c2)))) ∧ ∃ q os', w' = grow (W.drewN q) os' := by
  go_enter Tryd.func31, Tryd.ntmps31
  go_wp2_with (go_at_call 26; refine (orInt _ (IntKind.i64.wrap (t1 - t2)) (IntKind.i64.wrap (i1 - i2)) (IntKind.i64.wrap (c1 - c2)) _ ?_ ?_ ?_).mono ?_; rotate_left 3; rintro e w' ⟨rfl, rfl⟩)
  · go_ret
    exact ⟨rfl, 0, _, by rw [alloc_eq_grow, alloc_eq_grow, alloc_eq_grow, grow_grow, grow_grow]; rfl⟩
  all_goals (rw [wrap64_eq, wrap64_eq, wrap64_eq]; exact cell3 _ _ _ _ _ _)
end Go.Proofs.YtnfkbgpbligloaaDoor
