/- deed.Take. -/
import Derived.Test.YtbbfnpfkbbpjgaaOBSlEl
import Derived.Test.YtbbfnpfkbbpjgaaOBHdAt
import Derived.Test.YtbbfnpfkbbpjgaaOBStep
import Derived.Test.YtbbfnpfkbbpjgaaOBMRef
import Derived.Test.YtbbfnpfkbbpjgaaOBOrigA
import Derived.Test.YtbbfnpfkbbpjgaaOBTakeW
import Derived.Test.YtbbfnpfkbbpjgaaOBMCells
import Derived.Test.YtbbfnpfkbbpjgaaOBOrigM
namespace Go.Proofs.Ytbbfnpfkbbpjgaa
open Go.RowKit Go.Lib
set_option linter.unusedVariables false
set_option linter.unusedSimpArgs false

theorem wpl_nes {P : Program} {ops : Array Oper} {rest : List Oper} {o : Oper} {a : Act} {w : World} {Q : Exit → Act → World → Prop} (hw : Region.wanted o (yielded ops a.tmps) = true) {t u : TypeId} (x y : Operand) (ho : o.op = .binOp .neq t x y u) {m n : ByteArray} (hx : a.eval x = .string m) (hy : a.eval y = .string n) {B : Bool} (hB : (m.toList == n.toList) = B) (hk : wpList P ops Q rest (a.put o.dst (.bool (!B))) w) : wpList P ops Q (o :: rest) a w :=
  wpl_value hw _ (by
    unfold execOp
    simp only [ho, hx, hy, Sem.run_bind]
    subst hB
    simp [eqGuard, binOp, Op.stringOp]) hk
end Go.Proofs.Ytbbfnpfkbbpjgaa
