/- The keys of a seed, one after the other: the plain law. -/
import Derived.Test.YtofjjpielkfloaaQEvoLaw
namespace Go.Proofs.Ytofjjpielkfloaa
open Go.RowKit Go.Lib
set_option linter.unusedVariables false
set_option linter.unusedSimpArgs false

theorem pub0_0 (s : List UInt8) : pubK (keyE 0 0 s) = pubE 0 s := by simp [pubK, mayE, perB, wayB, keyE, keyF, upE, pubE, List.range, List.range.loop]
theorem may0_0 (s : List UInt8) : mayE (keyE 0 0 s) = true := by simp [mayE, perB, wayB, keyE, keyF, List.range, List.range.loop]
theorem pub1_0 (s : List UInt8) : pubK (keyE 1 0 s) = pubE 1 s := by simp [pubK, mayE, perB, wayB, keyE, keyF, upE, pubE, List.range, List.range.loop]
theorem may1_0 (s : List UInt8) : mayE (keyE 1 0 s) = true := by simp [mayE, perB, wayB, keyE, keyF, List.range, List.range.loop]
theorem pub1_1 (s : List UInt8) : pubK (keyE 1 1 s) = pubE 1 s := by simp [pubK, mayE, perB, wayB, keyE, keyF, upE, pubE, List.range, List.range.loop]
theorem may1_1 (s : List UInt8) : mayE (keyE 1 1 s) = true := by simp [mayE, perB, wayB, keyE, keyF, List.range, List.range.loop]
theorem pub2_0 (s : List UInt8) : pubK (keyE 2 0 s) = pubE 2 s := by simp [pubK, mayE, perB, wayB, keyE, keyF, upE, pubE, List.range, List.range.loop]
theorem may2_0 (s : List UInt8) : mayE (keyE 2 0 s) = true := by simp [mayE, perB, wayB, keyE, keyF, List.range, List.range.loop]
theorem pub2_1 (s : List UInt8) : pubK (keyE 2 1 s) = pubE 2 s := by simp [pubK, mayE, perB, wayB, keyE, keyF, upE, pubE, List.range, List.range.loop]
theorem may2_1 (s : List UInt8) : mayE (keyE 2 1 s) = true := by simp [mayE, perB, wayB, keyE, keyF, List.range, List.range.loop]
theorem pub2_2 (s : List UInt8) : pubK (keyE 2 2 s) = pubE 2 s := by simp [pubK, mayE, perB, wayB, keyE, keyF, upE, pubE, List.range, List.range.loop]
theorem may2_2 (s : List UInt8) : mayE (keyE 2 2 s) = true := by simp [mayE, perB, wayB, keyE, keyF, List.range, List.range.loop]
theorem pub2_3 (s : List UInt8) : pubK (keyE 2 3 s) = pubE 2 s := by simp [pubK, mayE, perB, wayB, keyE, keyF, upE, pubE, List.range, List.range.loop]
theorem may2_3 (s : List UInt8) : mayE (keyE 2 3 s) = true := by simp [mayE, perB, wayB, keyE, keyF, List.range, List.range.loop]
theorem pub3_0 (s : List UInt8) : pubK (keyE 3 0 s) = pubE 3 s := by simp [pubK, mayE, perB, wayB, keyE, keyF, upE, pubE, List.range, List.range.loop]
theorem may3_0 (s : List UInt8) : mayE (keyE 3 0 s) = true := by simp [mayE, perB, wayB, keyE, keyF, List.range, List.range.loop]
theorem pub3_1 (s : List UInt8) : pubK (keyE 3 1 s) = pubE 3 s := by simp [pubK, mayE, perB, wayB, keyE, keyF, upE, pubE, List.range, List.range.loop]
theorem may3_1 (s : List UInt8) : mayE (keyE 3 1 s) = true := by simp [mayE, perB, wayB, keyE, keyF, List.range, List.range.loop]
theorem pub3_2 (s : List UInt8) : pubK (keyE 3 2 s) = pubE 3 s := by simp [pubK, mayE, perB, wayB, keyE, keyF, upE, pubE, List.range, List.range.loop]
theorem may3_2 (s : List UInt8) : mayE (keyE 3 2 s) = true := by simp [mayE, perB, wayB, keyE, keyF, List.range, List.range.loop]
theorem pub3_3 (s : List UInt8) : pubK (keyE 3 3 s) = pubE 3 s := by simp [pubK, mayE, perB, wayB, keyE, keyF, upE, pubE, List.range, List.range.loop]
theorem may3_3 (s : List UInt8) : mayE (keyE 3 3 s) = true := by simp [mayE, perB, wayB, keyE, keyF, List.range, List.range.loop]
theorem pub3_4 (s : List UInt8) : pubK (keyE 3 4 s) = pubE 3 s := by simp [pubK, mayE, perB, wayB, keyE, keyF, upE, pubE, List.range, List.range.loop]
theorem may3_4 (s : List UInt8) : mayE (keyE 3 4 s) = true := by simp [mayE, perB, wayB, keyE, keyF, List.range, List.range.loop]
theorem pub3_5 (s : List UInt8) : pubK (keyE 3 5 s) = pubE 3 s := by simp [pubK, mayE, perB, wayB, keyE, keyF, upE, pubE, List.range, List.range.loop]
theorem may3_5 (s : List UInt8) : mayE (keyE 3 5 s) = true := by simp [mayE, perB, wayB, keyE, keyF, List.range, List.range.loop]
theorem pub3_6 (s : List UInt8) : pubK (keyE 3 6 s) = pubE 3 s := by simp [pubK, mayE, perB, wayB, keyE, keyF, upE, pubE, List.range, List.range.loop]
theorem may3_6 (s : List UInt8) : mayE (keyE 3 6 s) = true := by simp [mayE, perB, wayB, keyE, keyF, List.range, List.range.loop]
theorem pub3_7 (s : List UInt8) : pubK (keyE 3 7 s) = pubE 3 s := by simp [pubK, mayE, perB, wayB, keyE, keyF, upE, pubE, List.range, List.range.loop]
theorem may3_7 (s : List UInt8) : mayE (keyE 3 7 s) = true := by simp [mayE, perB, wayB, keyE, keyF, List.range, List.range.loop]
theorem pub4_0 (s : List UInt8) : pubK (keyE 4 0 s) = pubE 4 s := by simp [pubK, mayE, perB, wayB, keyE, keyF, upE, pubE, List.range, List.range.loop]
theorem may4_0 (s : List UInt8) : mayE (keyE 4 0 s) = true := by simp [mayE, perB, wayB, keyE, keyF, List.range, List.range.loop]
theorem pub4_1 (s : List UInt8) : pubK (keyE 4 1 s) = pubE 4 s := by simp [pubK, mayE, perB, wayB, keyE, keyF, upE, pubE, List.range, List.range.loop]
theorem may4_1 (s : List UInt8) : mayE (keyE 4 1 s) = true := by simp [mayE, perB, wayB, keyE, keyF, List.range, List.range.loop]
theorem pub4_2 (s : List UInt8) : pubK (keyE 4 2 s) = pubE 4 s := by simp [pubK, mayE, perB, wayB, keyE, keyF, upE, pubE, List.range, List.range.loop]
theorem may4_2 (s : List UInt8) : mayE (keyE 4 2 s) = true := by simp [mayE, perB, wayB, keyE, keyF, List.range, List.range.loop]
theorem pub4_3 (s : List UInt8) : pubK (keyE 4 3 s) = pubE 4 s := by simp [pubK, mayE, perB, wayB, keyE, keyF, upE, pubE, List.range, List.range.loop]
theorem may4_3 (s : List UInt8) : mayE (keyE 4 3 s) = true := by simp [mayE, perB, wayB, keyE, keyF, List.range, List.range.loop]
theorem pub4_4 (s : List UInt8) : pubK (keyE 4 4 s) = pubE 4 s := by simp [pubK, mayE, perB, wayB, keyE, keyF, upE, pubE, List.range, List.range.loop]
theorem may4_4 (s : List UInt8) : mayE (keyE 4 4 s) = true := by simp [mayE, perB, wayB, keyE, keyF, List.range, List.range.loop]
theorem pub4_5 (s : List UInt8) : pubK (keyE 4 5 s) = pubE 4 s := by simp [pubK, mayE, perB, wayB, keyE, keyF, upE, pubE, List.range, List.range.loop]
theorem may4_5 (s : List UInt8) : mayE (keyE 4 5 s) = true := by simp [mayE, perB, wayB, keyE, keyF, List.range, List.range.loop]
theorem pub4_6 (s : List UInt8) : pubK (keyE 4 6 s) = pubE 4 s := by simp [pubK, mayE, perB, wayB, keyE, keyF, upE, pubE, List.range, List.range.loop]
theorem may4_6 (s : List UInt8) : mayE (keyE 4 6 s) = true := by simp [mayE, perB, wayB, keyE, keyF, List.range, List.range.loop]
theorem pub4_7 (s : List UInt8) : pubK (keyE 4 7 s) = pubE 4 s := by simp [pubK, mayE, perB, wayB, keyE, keyF, upE, pubE, List.range, List.range.loop]
theorem may4_7 (s : List UInt8) : mayE (keyE 4 7 s) = true := by simp [mayE, perB, wayB, keyE, keyF, List.range, List.range.loop]
theorem pub4_8 (s : List UInt8) : pubK (keyE 4 8 s) = pubE 4 s := by simp [pubK, mayE, perB, wayB, keyE, keyF, upE, pubE, List.range, List.range.loop]
theorem may4_8 (s : List UInt8) : mayE (keyE 4 8 s) = true := by simp [mayE, perB, wayB, keyE, keyF, List.range, List.range.loop]
theorem pub4_9 (s : List UInt8) : pubK (keyE 4 9 s) = pubE 4 s := by simp [pubK, mayE, perB, wayB, keyE, keyF, upE, pubE, List.range, List.range.loop]
theorem may4_9 (s : List UInt8) : mayE (keyE 4 9 s) = true := by simp [mayE, perB, wayB, keyE, keyF, List.range, List.range.loop]
theorem pub4_10 (s : List UInt8) : pubK (keyE 4 10 s) = pubE 4 s := by simp [pubK, mayE, perB, wayB, keyE, keyF, upE, pubE, List.range, List.range.loop]
theorem may4_10 (s : List UInt8) : mayE (keyE 4 10 s) = true := by simp [mayE, perB, wayB, keyE, keyF, List.range, List.range.loop]
theorem pub4_11 (s : List UInt8) : pubK (keyE 4 11 s) = pubE 4 s := by simp [pubK, mayE, perB, wayB, keyE, keyF, upE, pubE, List.range, List.range.loop]
theorem may4_11 (s : List UInt8) : mayE (keyE 4 11 s) = true := by simp [mayE, perB, wayB, keyE, keyF, List.range, List.range.loop]
theorem pub4_12 (s : List UInt8) : pubK (keyE 4 12 s) = pubE 4 s := by simp [pubK, mayE, perB, wayB, keyE, keyF, upE, pubE, List.range, List.range.loop]
theorem may4_12 (s : List UInt8) : mayE (keyE 4 12 s) = true := by simp [mayE, perB, wayB, keyE, keyF, List.range, List.range.loop]
theorem pub4_13 (s : List UInt8) : pubK (keyE 4 13 s) = pubE 4 s := by simp [pubK, mayE, perB, wayB, keyE, keyF, upE, pubE, List.range, List.range.loop]
theorem may4_13 (s : List UInt8) : mayE (keyE 4 13 s) = true := by simp [mayE, perB, wayB, keyE, keyF, List.range, List.range.loop]
theorem pub4_14 (s : List UInt8) : pubK (keyE 4 14 s) = pubE 4 s := by simp [pubK, mayE, perB, wayB, keyE, keyF, upE, pubE, List.range, List.range.loop]
theorem may4_14 (s : List UInt8) : mayE (keyE 4 14 s) = true := by simp [mayE, perB, wayB, keyE, keyF, List.range, List.range.loop]
theorem pub4_15 (s : List UInt8) : pubK (keyE 4 15 s) = pubE 4 s := by simp [pubK, mayE, perB, wayB, keyE, keyF, upE, pubE, List.range, List.range.loop]
theorem may4_15 (s : List UInt8) : mayE (keyE 4 15 s) = true := by simp [mayE, perB, wayB, keyE, keyF, List.range, List.range.loop]
theorem pubK_key (d p : Nat) (s : List UInt8) (hd : d ≤ 4) (hp : p < 2 ^ d) : pubK (keyE d p s) = pubE d s := by
  rcases (by omega : d = 0 ∨ d = 1 ∨ d = 2 ∨ d = 3 ∨ d = 4) with rfl | rfl | rfl | rfl | rfl
  · obtain rfl : p = 0 := by omega
    exact pub0_0 s
  · rcases (by omega : p = 0 ∨ p = 1) with rfl | rfl
    · exact pub1_0 s
    · exact pub1_1 s
  · rcases (by omega : p = 0 ∨ p = 1 ∨ p = 2 ∨ p = 3) with rfl | rfl | rfl | rfl
    · exact pub2_0 s
    · exact pub2_1 s
    · exact pub2_2 s
    · exact pub2_3 s
  · rcases (by omega : p = 0 ∨ p = 1 ∨ p = 2 ∨ p = 3 ∨ p = 4 ∨ p = 5 ∨ p = 6 ∨ p = 7) with rfl | rfl | rfl | rfl | rfl | rfl | rfl | rfl
    · exact pub3_0 s
    · exact pub3_1 s
    · exact pub3_2 s
    · exact pub3_3 s
    · exact pub3_4 s
    · exact pub3_5 s
    · exact pub3_6 s
    · exact pub3_7 s
  · rcases (by omega : p = 0 ∨ p = 1 ∨ p = 2 ∨ p = 3 ∨ p = 4 ∨ p = 5 ∨ p = 6 ∨ p = 7 ∨ p = 8 ∨ p = 9 ∨ p = 10 ∨ p = 11 ∨ p = 12 ∨ p = 13 ∨ p = 14 ∨ p = 15) with rfl | rfl | rfl | rfl | rfl | rfl | rfl | rfl | rfl | rfl | rfl | rfl | rfl | rfl | rfl | rfl
    · exact pub4_0 s
    · exact pub4_1 s
    · exact pub4_2 s
    · exact pub4_3 s
    · exact pub4_4 s
    · exact pub4_5 s
    · exact pub4_6 s
    · exact pub4_7 s
    · exact pub4_8 s
    · exact pub4_9 s
    · exact pub4_10 s
    · exact pub4_11 s
    · exact pub4_12 s
    · exact pub4_13 s
    · exact pub4_14 s
    · exact pub4_15 s
theorem mayE_key (d p : Nat) (s : List UInt8) (hd : d ≤ 4) (hp : p < 2 ^ d) : mayE (keyE d p s) = true := by
  rcases (by omega : d = 0 ∨ d = 1 ∨ d = 2 ∨ d = 3 ∨ d = 4) with rfl | rfl | rfl | rfl | rfl
  · obtain rfl : p = 0 := by omega
    exact may0_0 s
  · rcases (by omega : p = 0 ∨ p = 1) with rfl | rfl
    · exact may1_0 s
    · exact may1_1 s
  · rcases (by omega : p = 0 ∨ p = 1 ∨ p = 2 ∨ p = 3) with rfl | rfl | rfl | rfl
    · exact may2_0 s
    · exact may2_1 s
    · exact may2_2 s
    · exact may2_3 s
  · rcases (by omega : p = 0 ∨ p = 1 ∨ p = 2 ∨ p = 3 ∨ p = 4 ∨ p = 5 ∨ p = 6 ∨ p = 7) with rfl | rfl | rfl | rfl | rfl | rfl | rfl | rfl
    · exact may3_0 s
    · exact may3_1 s
    · exact may3_2 s
    · exact may3_3 s
    · exact may3_4 s
    · exact may3_5 s
    · exact may3_6 s
    · exact may3_7 s
  · rcases (by omega : p = 0 ∨ p = 1 ∨ p = 2 ∨ p = 3 ∨ p = 4 ∨ p = 5 ∨ p = 6 ∨ p = 7 ∨ p = 8 ∨ p = 9 ∨ p = 10 ∨ p = 11 ∨ p = 12 ∨ p = 13 ∨ p = 14 ∨ p = 15) with rfl | rfl | rfl | rfl | rfl | rfl | rfl | rfl | rfl | rfl | rfl | rfl | rfl | rfl | rfl | rfl
    · exact may4_0 s
    · exact may4_1 s
    · exact may4_2 s
    · exact may4_3 s
    · exact may4_4 s
    · exact may4_5 s
    · exact may4_6 s
    · exact may4_7 s
    · exact may4_8 s
    · exact may4_9 s
    · exact may4_10 s
    · exact may4_11 s
    · exact may4_12 s
    · exact may4_13 s
    · exact may4_14 s
    · exact may4_15 s
end Go.Proofs.Ytofjjpielkfloaa
