/- Keys that forget: the plain law. -/
import Derived.Test.YtofjjpielkfloaaQMOnce
namespace Go.Proofs.Ytofjjpielkfloaa
open Go.RowKit Go.Lib
set_option linter.unusedVariables false
set_option linter.unusedSimpArgs false

def tagLeft : List UInt8 := [108, 101, 102, 116]
def tagRight : List UInt8 := [114, 105, 103, 104, 116]
def tagSum : List UInt8 := [115, 117, 109]
def leftL (s : List UInt8) : List UInt8 := ofX tagLeft [s]
def rightL (s : List UInt8) : List UInt8 := ofX tagRight [s]
def sumL (a b : List UInt8) : List UInt8 := ofX tagSum [a, b]
theorem leftL_length (s : List UInt8) : (leftL s).length = 32 := ofX_length _ _
theorem rightL_length (s : List UInt8) : (rightL s).length = 32 := ofX_length _ _
theorem sumL_length (a b : List UInt8) : (sumL a b).length = 32 := ofX_length _ _
/-- The public key of a seed of a depth. -/
def pubE : Nat → List UInt8 → List UInt8
  | 0, s => publicL s
  | d + 1, s => sumL (pubE d (leftL s)) (pubE d (rightL s))
theorem pubE_length (d : Nat) (s : List UInt8) : (pubE d s).length = 32 := by
  cases d
  · exact publicL_length _
  · exact sumL_length _ _
/-- Whether the way to period p goes right at row i of d. -/
def wayB (d p i : Nat) : Bool := decide (p / 2 ^ (d - 1 - i) % 2 = 1)
/-- From a hash up by k rows, to the row top. -/
def upE (d p top : Nat) (side : Nat → List UInt8) : Nat → List UInt8 → List UInt8
  | 0, h => h
  | k + 1, h => upE d p top side k (if wayB d p (top + k) then sumL (side (top + k)) h else sumL h (side (top + k)))
theorem upE_length (d p top : Nat) (side : Nat → List UInt8) : ∀ (k : Nat) (h : List UInt8), h.length = 32 → (upE d p top side k h).length = 32
  | 0, h, hl => hl
  | k + 1, h, hl => upE_length d p top side k _ (by split <;> exact sumL_length _ _)
/-- The rest of a way that goes left alone: n rows. -/
def downE : Nat → List UInt8 → List (List UInt8) × List (List UInt8) × List UInt8
  | 0, s => ([], [], s)
  | n + 1, s => (rightL s :: (downE n (leftL s)).1, pubE n (rightL s) :: (downE n (leftL s)).2.1, (downE n (leftL s)).2.2)
/-- A key. -/
structure Evo where
  d : Int
  p : Int
  leaf : List UInt8
  right : List (List UInt8)
  side : List (List UInt8)
/-- Is there such a period? -/
def perB (d n : Int) : Bool := decide (0 ≤ d ∧ d ≤ 4 ∧ 0 ≤ n ∧ n < 2 ^ d.toNat)
/-- May a key be? -/
def mayE (k : Evo) : Bool := perB k.d k.p && decide (k.right.length = k.d) && decide (k.side.length = k.d) && (List.range k.d.toNat).all fun i => !wayB k.d.toNat k.p.toNat i || decide (k.right.getD i [] = zero32)
end Go.Proofs.Ytofjjpielkfloaa
