/- Laws of trees: TreeTwos, both cases. -/
import Derived.Test.YtikphhhkikdhaaaTreeTwos
namespace Go.Proofs.Ytikphhhkikdhaaa
open Go.RowKit Go.Lib
set_option linter.unusedVariables false
set_option linter.unusedSimpArgs false

theorem treeTwos_row (w : World) (v : Value) (l : List H32) (hv0 : Hs w v l) (_ : l.length ≤ 9223372036854775807) (u : Value) (m : List H32) (hu0 : Hs w u m) (_ : m.length ≤ 9223372036854775807) :
    Calls Try.prog 13 #[v, u] w fun e w' => e = .returned (.bool true) ∧ Below w.heap.size w w' := by
  by_cases h : 64 < l.length ∨ l.length ≠ m.length ∨ l.length = 0 ∨ bits BinOp.and IntKind.i64 (l.length : Int) ((l.length : Int) - 1) ≠ 0
  · exact twos_out w v u l m hv0 hu0 h
  · have h1 : l.length ≤ 64 := Nat.le_of_not_lt fun h' => h (.inl h')
    have h2 : l.length = m.length := Classical.byContradiction fun h' => h (.inr (.inl h'))
    have h3 : l.length ≠ 0 := fun h' => h (.inr (.inr (.inl h')))
    have h4 : bits BinOp.and IntKind.i64 (l.length : Int) ((l.length : Int) - 1) = 0 := Classical.byContradiction fun h' => h (.inr (.inr (.inr h')))
    obtain ⟨e, he⟩ := two_pow_of l.length h1 h3 h4
    refine twos_in w v u l m hv0 hu0 e he (h2 ▸ he) (he ▸ h1) ?_
    rw [← he]
    exact h4
end Go.Proofs.Ytikphhhkikdhaaa
