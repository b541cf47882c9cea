/- wide.Compare: a contract for every pair of wide numbers. -/
import Derived.Test.YtikphhhkikdhaaaWide
namespace Go.Proofs.Ytikphhhkikdhaaa
open Go.RowKit Go.Lib

theorem later {a b c : World} (h : Below a.heap.size a b) (k : Below b.heap.size b c) : Below a.heap.size a c := h.trans (k.mono h.size)
theorem below2 (w : World) (o1 o2 : Obj) : Below w.heap.size w ((w.alloc o1).alloc o2) := ((Below.refl _ _).alloc (Nat.le_refl _) _).alloc (by simp) _

/-- What wide.Compare answers. -/
def cmpW (ah al bh bl : Int) : Int := if ah < bh ∨ ah = bh ∧ al < bl then -1 else if ah = bh ∧ al = bl then 0 else 1

/-- The test by a wide number's value. -/
theorem cmpW_lt (ah al bh bl : Int) (h1 : Word ah) (h2 : Word al) (h3 : Word bh) (h4 : Word bl) :
    (decide (cmpW ah al bh bl < 0)) = decide (ah * 18446744073709551616 + al < bh * 18446744073709551616 + bl) := by
  obtain ⟨_, _⟩ := h1; obtain ⟨_, _⟩ := h2; obtain ⟨_, _⟩ := h3; obtain ⟨_, _⟩ := h4
  unfold cmpW
  split
  · rename_i h; simp; omega
  · split <;> simp <;> omega
end Go.Proofs.Ytikphhhkikdhaaa
