/-
  A cut between two codes, what is known between them being told by a parameter.
-/
import Derived.Test.YtoikchnpflnehaaAw29
set_option linter.unusedVariables false
namespace Go.Aw
theorem AWP.seqP {g : Cfg} {Q : AExit → ASt → Prop} {st : ASt} {x y : Code} {S : Type} (f : S → ASt) (ok : S → Prop) (h : AWP g x (next (fun s => ∃ p, Weak g.n0 s (f p) ∧ ok p) Q) st) (k : ∀ p, ok p → AWP g y Q (f p)) : AWP g (.seq x y) Q st := by
  refine AWP.seq (h.mono ?_)
  intro e s hq
  cases e with
  | normal => obtain ⟨p, h1, h2⟩ := hq; exact AWP.weak h1 (k p h2)
  | exit i => exact hq
  | goto i => exact hq
  | ret => exact hq
  | panic v => exact hq
end Go.Aw
