/- Keys that forget: small facts of a seed's first key. -/
import Derived.Test.YtofjjpielkfloaaEvoLaw
namespace Go.Proofs.Ytofjjpielkfloaa
open Go.RowKit Go.Lib
set_option linter.unusedVariables false
set_option linter.unusedSimpArgs false

theorem keyF_down (d : Nat) : ∀ (n : Nat) (s : List UInt8), keyF d 0 n s = downE n s
  | 0, _ => rfl
  | n + 1, s => by
    have hw : wayB d 0 (d - (n + 1)) = false := by unfold wayB; simp
    rw [keyF, hw, downE, keyF_down d n (leftL s)]
    rfl
theorem plan_load_evo {o : Oper} {a : Act} {K : Act → Prop} {w0 : World} (x : Operand) (ho : o.op = .load 26 x) {g : Nat} {d p : Int} {leaf : List UInt8} {rv sv : Value} (hx : a.eval x = .pointer (some ⟨g, 0, none⟩)) (h : EvoAt w0 g d p leaf rv sv) (hk : K (a.put o.dst (evV d p leaf rv sv))) :
    o.quiet Try.prog a (fun w' => ∃ s : Kept (fun x => Below w0.heap.size w0 x), w' = s.w) K := plan_load_cells 26 x ho hx h.cells _ Try.underlying26 rfl (by rw [evCs_length h.len]; exact evSize) hk
theorem keyE_first (d : Nat) (s : List UInt8) : keyE d 0 s = firstE d s := by unfold keyE firstE; rw [keyF_down]; rfl
end Go.Proofs.Ytofjjpielkfloaa
