/- Keys that forget: small facts of a seed's first key. -/
import Derived.Test.YtofjjpielkfloaaQEvoLaw
namespace Go.Proofs.Ytofjjpielkfloaa
open Go.RowKit Go.Lib
set_option linter.unusedVariables false
set_option linter.unusedSimpArgs false

theorem keyF_down (d : Nat) : ∀ (n : Nat) (s : List UInt8), keyF d 0 n s = downE n s
  | 0, _ => rfl
  | n + 1, s => by
    have hw : wayB d 0 (d - (n + 1)) = false := by unfold wayB; simp
    rw [keyF, hw, downE, keyF_down d n (leftL s)]
    rfl
theorem keyE_first (d : Nat) (s : List UInt8) : keyE d 0 s = firstE d s := by unfold keyE firstE; rw [keyF_down]; rfl
end Go.Proofs.Ytofjjpielkfloaa
