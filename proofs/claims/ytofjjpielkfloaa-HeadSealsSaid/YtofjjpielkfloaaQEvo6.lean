/- Package evolve: Next. -/
import Derived.Test.YtofjjpielkfloaaQEvo5
namespace Go.Proofs.Ytofjjpielkfloaa
open Go.RowKit Go.Lib
set_option linter.unusedVariables false
set_option linter.unusedSimpArgs false

/-- What hands back a key of its own rows and a number. -/
def EvoRO (w : World) (k : Evo) (n : Int) (e : Ending) (w' : World) : Prop := ∃ v, e = .returned (.tuple #[v, .int .i64 n]) ∧ EvoOwn w' w.heap.size v k ∧ Below w.heap.size w w'
end Go.Proofs.Ytofjjpielkfloaa
