/-
  The walk of the reader of bencoded values, whole.
-/
import Derived.Test.YthcdjconlfdidaaDoorD6
set_option linter.unusedVariables false
set_option maxHeartbeats 4000000
set_option maxRecDepth 20000
namespace Go.Proofs.YthcdjconlfdidaaDoor
open Go Go.Aw Go.Proofs
theorem value (s : List UInt8) (hs : s.length ≤ 65536) (lv : Nat) : ∀ (r i n : Nat) (H : AHeap), lv ≤ 12 → i ≤ s.length → n ≤ 1000 → H[r]? = some (rdO s i n) →
    AC Tryd.prog 27 [.pointer (some ⟨r, 0, none⟩), .int .i64 (lv : Nat)] H (ValP s r H (valR s lv i n)) := by
  induction lv with
  | zero =>
    intro r i n H hlv hi hn hr
    exact value0 s hs 0 r i n hlv hi hn H hr (fun c lv' h => by cases h)
  | succ lv ih =>
    intro r i n H hlv hi hn hr
    refine value0 s hs (lv + 1) r i n hlv hi hn H hr (fun c lv' h hc hb hn1 hdg h105 => ?_)
    cases h
    exact valueC s hs lv hlv (fun r i n H hi hn hr => ih r i n H (by omega) hi hn hr) r i n hi H hr c hc hb hn1 hdg h105
end Go.Proofs.YthcdjconlfdidaaDoor

