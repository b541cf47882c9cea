/- The public key of the left half of a seed, in numbers. -/
import Derived.Test.YtofjjpielkfloaaEvoL
namespace Go.Proofs.Ytofjjpielkfloaa
open Go.RowKit Go.Lib
set_option linter.unusedVariables false
set_option linter.unusedSimpArgs false

theorem joinM_sameA {m m' : Nat → List UInt8 × List UInt8} (h : ∀ i, i < 16 → m i = m' i) : joinM m 16 = joinM m' 16 := by
  unfold joinM
  rw [List.flatMap_def, List.flatMap_def]
  congr 1
  exact List.map_congr_left fun i hi => by rw [h i (List.mem_range.1 hi)]
def numAs : List UInt8 := [76, 248, 15, 81, 114, 43, 192, 197, 97, 217, 42, 109, 20, 106, 60, 100, 230, 249, 125, 1, 23, 12, 63, 196, 44, 115, 129, 44, 220, 159, 189, 79]
def numA : List UInt8 := [146, 12, 209, 9, 69, 65, 216, 26, 24, 199, 105, 195, 243, 174, 104, 69, 158, 145, 4, 56, 113, 125, 0, 39, 175, 134, 156, 148, 81, 153, 131, 186]
set_option maxRecDepth 1000000 in
theorem numAs_is : leftL one32 = numAs := by decide +kernel
def numA0_0 : List UInt8 := [176, 53, 51, 1, 22, 180, 49, 58, 47, 3, 193, 109, 148, 69, 96, 191, 169, 63, 189, 168, 164, 167, 167, 64, 216, 70, 73, 3, 106, 100, 47, 113]
set_option maxRecDepth 1000000 in
theorem numA0_0_is : markL (secretL numAs 0 0) = numA0_0 := by decide +kernel
def numA0_1 : List UInt8 := [198, 45, 218, 180, 58, 99, 197, 246, 168, 226, 80, 238, 115, 67, 101, 92, 27, 213, 219, 168, 134, 80, 177, 182, 40, 204, 204, 162, 166, 56, 150, 75]
set_option maxRecDepth 1000000 in
theorem numA0_1_is : markL (secretL numAs 0 1) = numA0_1 := by decide +kernel
def numA1_0 : List UInt8 := [152, 133, 106, 175, 14, 176, 238, 252, 217, 64, 195, 97, 224, 181, 234, 32, 252, 160, 127, 120, 94, 47, 68, 213, 209, 43, 199, 239, 157, 61, 200, 180]
set_option maxRecDepth 1000000 in
theorem numA1_0_is : markL (secretL numAs 1 0) = numA1_0 := by decide +kernel
def numA1_1 : List UInt8 := [97, 11, 45, 42, 169, 136, 185, 225, 172, 189, 182, 158, 35, 96, 163, 216, 26, 67, 36, 57, 120, 69, 214, 226, 82, 150, 47, 59, 141, 107, 60, 51]
set_option maxRecDepth 1000000 in
theorem numA1_1_is : markL (secretL numAs 1 1) = numA1_1 := by decide +kernel
def numA2_0 : List UInt8 := [35, 13, 124, 81, 21, 29, 96, 6, 98, 20, 60, 130, 8, 162, 235, 145, 219, 15, 237, 203, 47, 120, 59, 108, 154, 137, 58, 45, 246, 54, 77, 233]
set_option maxRecDepth 1000000 in
theorem numA2_0_is : markL (secretL numAs 2 0) = numA2_0 := by decide +kernel
def numA2_1 : List UInt8 := [177, 7, 148, 18, 175, 18, 157, 138, 58, 97, 101, 50, 41, 192, 24, 197, 200, 237, 28, 127, 240, 87, 131, 34, 253, 138, 204, 169, 118, 111, 104, 115]
set_option maxRecDepth 1000000 in
theorem numA2_1_is : markL (secretL numAs 2 1) = numA2_1 := by decide +kernel
def numA3_0 : List UInt8 := [141, 169, 151, 100, 219, 49, 172, 134, 195, 220, 91, 138, 139, 164, 160, 200, 112, 33, 234, 242, 66, 68, 106, 114, 111, 42, 167, 71, 194, 231, 146, 158]
set_option maxRecDepth 1000000 in
theorem numA3_0_is : markL (secretL numAs 3 0) = numA3_0 := by decide +kernel
def numA3_1 : List UInt8 := [208, 219, 251, 93, 83, 122, 231, 152, 157, 241, 198, 130, 129, 245, 26, 53, 169, 151, 58, 232, 36, 192, 119, 77, 199, 187, 76, 0, 255, 202, 91, 218]
set_option maxRecDepth 1000000 in
theorem numA3_1_is : markL (secretL numAs 3 1) = numA3_1 := by decide +kernel
def numA4_0 : List UInt8 := [248, 154, 225, 156, 108, 66, 128, 170, 195, 46, 171, 181, 135, 198, 200, 240, 176, 40, 199, 94, 175, 84, 139, 240, 202, 83, 50, 138, 180, 115, 139, 175]
set_option maxRecDepth 1000000 in
theorem numA4_0_is : markL (secretL numAs 4 0) = numA4_0 := by decide +kernel
def numA4_1 : List UInt8 := [198, 34, 49, 130, 99, 149, 79, 93, 30, 34, 107, 174, 182, 11, 9, 80, 200, 45, 179, 117, 44, 58, 113, 138, 206, 105, 50, 208, 21, 3, 227, 113]
set_option maxRecDepth 1000000 in
theorem numA4_1_is : markL (secretL numAs 4 1) = numA4_1 := by decide +kernel
def numA5_0 : List UInt8 := [224, 133, 89, 236, 22, 242, 50, 115, 216, 129, 251, 68, 89, 255, 145, 178, 136, 230, 0, 173, 193, 24, 133, 52, 222, 116, 193, 189, 76, 43, 243, 180]
set_option maxRecDepth 1000000 in
theorem numA5_0_is : markL (secretL numAs 5 0) = numA5_0 := by decide +kernel
def numA5_1 : List UInt8 := [89, 17, 254, 71, 162, 252, 150, 177, 215, 167, 79, 88, 72, 82, 233, 214, 231, 171, 21, 214, 5, 186, 129, 205, 151, 91, 66, 205, 55, 187, 86, 57]
set_option maxRecDepth 1000000 in
theorem numA5_1_is : markL (secretL numAs 5 1) = numA5_1 := by decide +kernel
def numA6_0 : List UInt8 := [165, 196, 11, 126, 189, 237, 244, 152, 240, 39, 47, 37, 165, 97, 159, 241, 18, 219, 187, 242, 176, 189, 252, 211, 25, 167, 222, 187, 40, 196, 252, 232]
set_option maxRecDepth 1000000 in
theorem numA6_0_is : markL (secretL numAs 6 0) = numA6_0 := by decide +kernel
def numA6_1 : List UInt8 := [229, 148, 161, 15, 255, 138, 40, 150, 2, 200, 85, 225, 147, 203, 184, 201, 206, 118, 128, 170, 232, 194, 176, 142, 46, 79, 80, 84, 155, 37, 227, 75]
set_option maxRecDepth 1000000 in
theorem numA6_1_is : markL (secretL numAs 6 1) = numA6_1 := by decide +kernel
def numA7_0 : List UInt8 := [72, 115, 115, 67, 17, 244, 51, 27, 11, 237, 29, 83, 138, 183, 136, 5, 214, 71, 44, 182, 185, 93, 133, 216, 248, 163, 34, 168, 37, 70, 44, 62]
set_option maxRecDepth 1000000 in
theorem numA7_0_is : markL (secretL numAs 7 0) = numA7_0 := by decide +kernel
def numA7_1 : List UInt8 := [205, 89, 65, 58, 187, 25, 3, 99, 76, 79, 89, 231, 48, 155, 191, 66, 246, 17, 6, 98, 254, 169, 235, 24, 213, 13, 27, 134, 137, 142, 235, 146]
set_option maxRecDepth 1000000 in
theorem numA7_1_is : markL (secretL numAs 7 1) = numA7_1 := by decide +kernel
def numA8_0 : List UInt8 := [6, 131, 34, 229, 198, 138, 254, 203, 193, 66, 106, 8, 187, 91, 127, 222, 65, 223, 213, 218, 254, 46, 99, 39, 119, 238, 81, 224, 170, 225, 114, 161]
set_option maxRecDepth 1000000 in
theorem numA8_0_is : markL (secretL numAs 8 0) = numA8_0 := by decide +kernel
def numA8_1 : List UInt8 := [146, 73, 20, 187, 124, 100, 20, 106, 15, 5, 12, 42, 247, 12, 220, 148, 93, 150, 196, 83, 204, 147, 172, 10, 23, 2, 172, 219, 73, 115, 78, 84]
set_option maxRecDepth 1000000 in
theorem numA8_1_is : markL (secretL numAs 8 1) = numA8_1 := by decide +kernel
def numA9_0 : List UInt8 := [26, 79, 247, 47, 59, 226, 78, 87, 49, 144, 152, 142, 40, 138, 152, 130, 225, 182, 118, 84, 67, 106, 70, 198, 107, 161, 110, 2, 138, 160, 250, 166]
set_option maxRecDepth 1000000 in
theorem numA9_0_is : markL (secretL numAs 9 0) = numA9_0 := by decide +kernel
def numA9_1 : List UInt8 := [227, 118, 77, 192, 180, 219, 9, 160, 135, 5, 162, 242, 96, 216, 107, 217, 122, 128, 143, 128, 146, 42, 197, 152, 148, 158, 81, 36, 57, 46, 46, 55]
set_option maxRecDepth 1000000 in
theorem numA9_1_is : markL (secretL numAs 9 1) = numA9_1 := by decide +kernel
def numA10_0 : List UInt8 := [119, 92, 225, 35, 86, 71, 38, 172, 16, 35, 101, 182, 9, 121, 182, 215, 54, 58, 138, 228, 37, 171, 169, 210, 102, 246, 73, 167, 46, 95, 129, 229]
set_option maxRecDepth 1000000 in
theorem numA10_0_is : markL (secretL numAs 10 0) = numA10_0 := by decide +kernel
def numA10_1 : List UInt8 := [201, 135, 156, 14, 182, 254, 79, 27, 13, 198, 193, 2, 49, 169, 102, 85, 106, 192, 79, 206, 58, 0, 87, 200, 62, 113, 9, 28, 222, 187, 90, 54]
set_option maxRecDepth 1000000 in
theorem numA10_1_is : markL (secretL numAs 10 1) = numA10_1 := by decide +kernel
def numA11_0 : List UInt8 := [248, 129, 70, 200, 54, 0, 53, 189, 17, 134, 18, 153, 204, 167, 110, 185, 93, 9, 100, 225, 142, 1, 58, 145, 191, 156, 98, 167, 32, 196, 216, 62]
set_option maxRecDepth 1000000 in
theorem numA11_0_is : markL (secretL numAs 11 0) = numA11_0 := by decide +kernel
def numA11_1 : List UInt8 := [12, 75, 101, 242, 132, 255, 140, 88, 214, 101, 45, 68, 76, 224, 181, 252, 152, 84, 41, 0, 95, 81, 233, 227, 167, 139, 137, 77, 38, 10, 236, 30]
set_option maxRecDepth 1000000 in
theorem numA11_1_is : markL (secretL numAs 11 1) = numA11_1 := by decide +kernel
def numA12_0 : List UInt8 := [110, 80, 17, 202, 44, 34, 239, 50, 4, 207, 249, 133, 201, 227, 115, 75, 184, 134, 89, 29, 25, 4, 208, 225, 140, 53, 16, 141, 128, 86, 125, 127]
set_option maxRecDepth 1000000 in
theorem numA12_0_is : markL (secretL numAs 12 0) = numA12_0 := by decide +kernel
def numA12_1 : List UInt8 := [146, 143, 42, 191, 254, 145, 152, 98, 209, 208, 192, 221, 153, 217, 37, 30, 217, 6, 161, 5, 4, 236, 51, 205, 155, 80, 160, 27, 77, 183, 87, 127]
set_option maxRecDepth 1000000 in
theorem numA12_1_is : markL (secretL numAs 12 1) = numA12_1 := by decide +kernel
def numA13_0 : List UInt8 := [213, 157, 87, 78, 100, 224, 124, 140, 112, 61, 133, 39, 77, 188, 210, 189, 174, 215, 97, 107, 237, 126, 81, 36, 66, 123, 131, 78, 176, 248, 78, 58]
set_option maxRecDepth 1000000 in
theorem numA13_0_is : markL (secretL numAs 13 0) = numA13_0 := by decide +kernel
def numA13_1 : List UInt8 := [32, 139, 21, 148, 130, 81, 4, 240, 231, 128, 243, 120, 195, 34, 73, 45, 59, 107, 96, 189, 2, 237, 226, 232, 70, 244, 210, 239, 169, 176, 13, 7]
set_option maxRecDepth 1000000 in
theorem numA13_1_is : markL (secretL numAs 13 1) = numA13_1 := by decide +kernel
def numA14_0 : List UInt8 := [135, 252, 205, 241, 130, 180, 208, 42, 31, 38, 217, 130, 200, 68, 249, 117, 78, 237, 192, 189, 124, 224, 226, 121, 65, 142, 63, 137, 118, 84, 36, 190]
set_option maxRecDepth 1000000 in
theorem numA14_0_is : markL (secretL numAs 14 0) = numA14_0 := by decide +kernel
def numA14_1 : List UInt8 := [192, 244, 168, 135, 207, 195, 29, 236, 24, 160, 207, 125, 182, 225, 108, 100, 243, 183, 164, 52, 154, 93, 210, 86, 137, 23, 79, 45, 181, 135, 34, 23]
set_option maxRecDepth 1000000 in
theorem numA14_1_is : markL (secretL numAs 14 1) = numA14_1 := by decide +kernel
def numA15_0 : List UInt8 := [199, 180, 60, 170, 163, 127, 229, 160, 91, 1, 2, 191, 12, 201, 76, 227, 122, 174, 139, 2, 207, 50, 58, 233, 5, 138, 148, 214, 102, 201, 52, 120]
set_option maxRecDepth 1000000 in
theorem numA15_0_is : markL (secretL numAs 15 0) = numA15_0 := by decide +kernel
def numA15_1 : List UInt8 := [188, 237, 224, 208, 126, 90, 180, 237, 222, 70, 67, 247, 241, 218, 183, 94, 253, 129, 144, 38, 220, 226, 104, 44, 118, 226, 227, 239, 209, 147, 104, 255]
set_option maxRecDepth 1000000 in
theorem numA15_1_is : markL (secretL numAs 15 1) = numA15_1 := by decide +kernel
def numAM (i : Nat) : List UInt8 × List UInt8 := match i with
  | 0 => (numA0_0, numA0_1)
  | 1 => (numA1_0, numA1_1)
  | 2 => (numA2_0, numA2_1)
  | 3 => (numA3_0, numA3_1)
  | 4 => (numA4_0, numA4_1)
  | 5 => (numA5_0, numA5_1)
  | 6 => (numA6_0, numA6_1)
  | 7 => (numA7_0, numA7_1)
  | 8 => (numA8_0, numA8_1)
  | 9 => (numA9_0, numA9_1)
  | 10 => (numA10_0, numA10_1)
  | 11 => (numA11_0, numA11_1)
  | 12 => (numA12_0, numA12_1)
  | 13 => (numA13_0, numA13_1)
  | 14 => (numA14_0, numA14_1)
  | 15 => (numA15_0, numA15_1)
  | _ => ([], [])
theorem numAM_is : ∀ i, i < 16 → seedM numAs i = numAM i := by
  intro i hi
  rcases (by omega : i = 0 ∨ i = 1 ∨ i = 2 ∨ i = 3 ∨ i = 4 ∨ i = 5 ∨ i = 6 ∨ i = 7 ∨ i = 8 ∨ i = 9 ∨ i = 10 ∨ i = 11 ∨ i = 12 ∨ i = 13 ∨ i = 14 ∨ i = 15) with rfl | rfl | rfl | rfl | rfl | rfl | rfl | rfl | rfl | rfl | rfl | rfl | rfl | rfl | rfl | rfl
  · unfold seedM; rw [numA0_0_is, numA0_1_is]; rfl
  · unfold seedM; rw [numA1_0_is, numA1_1_is]; rfl
  · unfold seedM; rw [numA2_0_is, numA2_1_is]; rfl
  · unfold seedM; rw [numA3_0_is, numA3_1_is]; rfl
  · unfold seedM; rw [numA4_0_is, numA4_1_is]; rfl
  · unfold seedM; rw [numA5_0_is, numA5_1_is]; rfl
  · unfold seedM; rw [numA6_0_is, numA6_1_is]; rfl
  · unfold seedM; rw [numA7_0_is, numA7_1_is]; rfl
  · unfold seedM; rw [numA8_0_is, numA8_1_is]; rfl
  · unfold seedM; rw [numA9_0_is, numA9_1_is]; rfl
  · unfold seedM; rw [numA10_0_is, numA10_1_is]; rfl
  · unfold seedM; rw [numA11_0_is, numA11_1_is]; rfl
  · unfold seedM; rw [numA12_0_is, numA12_1_is]; rfl
  · unfold seedM; rw [numA13_0_is, numA13_1_is]; rfl
  · unfold seedM; rw [numA14_0_is, numA14_1_is]; rfl
  · unfold seedM; rw [numA15_0_is, numA15_1_is]; rfl
set_option maxRecDepth 1000000 in
theorem numA_once : onceL numAM = numA := by decide +kernel
theorem numA_is : publicL (leftL one32) = numA := by
  rw [numAs_is, ← numA_once]
  unfold publicL onceL
  rw [joinM_sameA numAM_is]
end Go.Proofs.Ytofjjpielkfloaa
