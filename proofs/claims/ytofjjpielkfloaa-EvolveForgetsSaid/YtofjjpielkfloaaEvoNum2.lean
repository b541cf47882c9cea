/- The public key of the right half of a seed, in numbers. -/
import Derived.Test.YtofjjpielkfloaaEvoL
namespace Go.Proofs.Ytofjjpielkfloaa
open Go.RowKit Go.Lib
set_option linter.unusedVariables false
set_option linter.unusedSimpArgs false

theorem joinM_sameB {m m' : Nat → List UInt8 × List UInt8} (h : ∀ i, i < 16 → m i = m' i) : joinM m 16 = joinM m' 16 := by
  unfold joinM
  rw [List.flatMap_def, List.flatMap_def]
  congr 1
  exact List.map_congr_left fun i hi => by rw [h i (List.mem_range.1 hi)]
def numBs : List UInt8 := [233, 192, 169, 35, 255, 0, 91, 171, 197, 119, 49, 21, 221, 118, 238, 166, 188, 253, 238, 154, 24, 203, 253, 26, 32, 2, 146, 233, 109, 174, 157, 91]
def numB : List UInt8 := [11, 59, 181, 74, 150, 236, 110, 54, 154, 60, 228, 245, 63, 66, 71, 250, 25, 14, 192, 3, 23, 195, 186, 16, 99, 174, 116, 206, 120, 59, 158, 141]
set_option maxRecDepth 1000000 in
theorem numBs_is : rightL one32 = numBs := by decide +kernel
def numB0_0 : List UInt8 := [130, 188, 252, 87, 50, 132, 4, 177, 90, 179, 3, 29, 204, 168, 228, 27, 139, 240, 150, 115, 144, 23, 132, 59, 210, 223, 226, 81, 207, 13, 240, 195]
set_option maxRecDepth 1000000 in
theorem numB0_0_is : markL (secretL numBs 0 0) = numB0_0 := by decide +kernel
def numB0_1 : List UInt8 := [101, 55, 138, 169, 60, 233, 91, 44, 89, 41, 34, 253, 40, 94, 69, 143, 211, 44, 180, 250, 199, 84, 207, 97, 244, 98, 239, 210, 35, 161, 78, 208]
set_option maxRecDepth 1000000 in
theorem numB0_1_is : markL (secretL numBs 0 1) = numB0_1 := by decide +kernel
def numB1_0 : List UInt8 := [95, 62, 182, 154, 193, 126, 92, 0, 57, 243, 60, 150, 107, 156, 235, 52, 10, 82, 207, 115, 243, 113, 211, 49, 186, 210, 206, 174, 77, 155, 162, 75]
set_option maxRecDepth 1000000 in
theorem numB1_0_is : markL (secretL numBs 1 0) = numB1_0 := by decide +kernel
def numB1_1 : List UInt8 := [20, 41, 129, 140, 235, 238, 113, 5, 221, 221, 167, 56, 159, 27, 22, 65, 174, 206, 7, 195, 77, 105, 245, 45, 68, 72, 70, 9, 88, 11, 0, 53]
set_option maxRecDepth 1000000 in
theorem numB1_1_is : markL (secretL numBs 1 1) = numB1_1 := by decide +kernel
def numB2_0 : List UInt8 := [69, 188, 125, 189, 119, 54, 128, 158, 90, 103, 10, 41, 22, 19, 7, 240, 192, 24, 62, 102, 80, 183, 159, 21, 93, 15, 85, 143, 204, 141, 20, 28]
set_option maxRecDepth 1000000 in
theorem numB2_0_is : markL (secretL numBs 2 0) = numB2_0 := by decide +kernel
def numB2_1 : List UInt8 := [31, 176, 0, 47, 74, 92, 20, 10, 218, 133, 216, 117, 16, 96, 94, 169, 213, 245, 183, 141, 80, 234, 56, 170, 146, 122, 32, 247, 86, 125, 60, 207]
set_option maxRecDepth 1000000 in
theorem numB2_1_is : markL (secretL numBs 2 1) = numB2_1 := by decide +kernel
def numB3_0 : List UInt8 := [74, 111, 29, 136, 94, 251, 144, 63, 39, 99, 73, 74, 110, 51, 110, 64, 137, 197, 63, 219, 105, 183, 143, 79, 130, 185, 172, 241, 29, 196, 128, 56]
set_option maxRecDepth 1000000 in
theorem numB3_0_is : markL (secretL numBs 3 0) = numB3_0 := by decide +kernel
def numB3_1 : List UInt8 := [48, 24, 204, 63, 220, 27, 90, 242, 63, 85, 218, 185, 224, 21, 202, 86, 175, 144, 252, 128, 57, 68, 73, 118, 245, 132, 113, 30, 104, 24, 153, 84]
set_option maxRecDepth 1000000 in
theorem numB3_1_is : markL (secretL numBs 3 1) = numB3_1 := by decide +kernel
def numB4_0 : List UInt8 := [27, 178, 46, 114, 236, 25, 8, 54, 162, 165, 67, 150, 235, 122, 114, 180, 178, 235, 29, 22, 29, 43, 10, 175, 165, 137, 213, 128, 172, 219, 203, 181]
set_option maxRecDepth 1000000 in
theorem numB4_0_is : markL (secretL numBs 4 0) = numB4_0 := by decide +kernel
def numB4_1 : List UInt8 := [148, 6, 79, 83, 212, 99, 158, 72, 207, 33, 73, 17, 243, 190, 4, 162, 72, 82, 195, 59, 235, 87, 117, 96, 225, 155, 47, 212, 44, 85, 232, 115]
set_option maxRecDepth 1000000 in
theorem numB4_1_is : markL (secretL numBs 4 1) = numB4_1 := by decide +kernel
def numB5_0 : List UInt8 := [202, 74, 76, 247, 143, 184, 78, 50, 20, 85, 122, 60, 120, 171, 72, 163, 243, 52, 128, 180, 234, 130, 136, 50, 106, 21, 53, 34, 88, 251, 254, 225]
set_option maxRecDepth 1000000 in
theorem numB5_0_is : markL (secretL numBs 5 0) = numB5_0 := by decide +kernel
def numB5_1 : List UInt8 := [180, 184, 160, 25, 118, 105, 12, 39, 45, 54, 138, 175, 225, 216, 189, 120, 17, 25, 200, 142, 19, 215, 250, 62, 118, 173, 35, 56, 8, 162, 92, 240]
set_option maxRecDepth 1000000 in
theorem numB5_1_is : markL (secretL numBs 5 1) = numB5_1 := by decide +kernel
def numB6_0 : List UInt8 := [161, 8, 97, 18, 202, 171, 119, 86, 40, 109, 146, 37, 225, 135, 57, 246, 243, 152, 199, 139, 121, 66, 23, 152, 246, 105, 127, 56, 92, 22, 213, 251]
set_option maxRecDepth 1000000 in
theorem numB6_0_is : markL (secretL numBs 6 0) = numB6_0 := by decide +kernel
def numB6_1 : List UInt8 := [30, 22, 4, 228, 236, 133, 34, 31, 4, 229, 80, 28, 45, 250, 20, 114, 253, 18, 31, 219, 157, 227, 13, 7, 174, 94, 223, 129, 70, 43, 138, 20]
set_option maxRecDepth 1000000 in
theorem numB6_1_is : markL (secretL numBs 6 1) = numB6_1 := by decide +kernel
def numB7_0 : List UInt8 := [165, 78, 121, 16, 95, 221, 63, 29, 229, 242, 198, 204, 116, 137, 31, 2, 126, 48, 155, 221, 89, 255, 115, 27, 44, 242, 174, 217, 201, 253, 172, 169]
set_option maxRecDepth 1000000 in
theorem numB7_0_is : markL (secretL numBs 7 0) = numB7_0 := by decide +kernel
def numB7_1 : List UInt8 := [12, 16, 9, 84, 15, 113, 82, 109, 176, 84, 122, 82, 234, 71, 27, 78, 59, 192, 133, 199, 139, 232, 113, 230, 225, 135, 169, 4, 171, 92, 171, 155]
set_option maxRecDepth 1000000 in
theorem numB7_1_is : markL (secretL numBs 7 1) = numB7_1 := by decide +kernel
def numB8_0 : List UInt8 := [63, 140, 194, 138, 159, 52, 30, 33, 177, 93, 232, 165, 163, 11, 26, 103, 147, 220, 68, 79, 191, 74, 7, 249, 24, 48, 233, 123, 156, 171, 197, 87]
set_option maxRecDepth 1000000 in
theorem numB8_0_is : markL (secretL numBs 8 0) = numB8_0 := by decide +kernel
def numB8_1 : List UInt8 := [56, 213, 73, 194, 251, 244, 109, 225, 52, 207, 148, 134, 58, 199, 41, 72, 46, 162, 208, 126, 249, 148, 199, 38, 106, 78, 170, 180, 66, 33, 129, 122]
set_option maxRecDepth 1000000 in
theorem numB8_1_is : markL (secretL numBs 8 1) = numB8_1 := by decide +kernel
def numB9_0 : List UInt8 := [225, 135, 185, 211, 28, 224, 198, 58, 202, 34, 246, 226, 209, 48, 126, 5, 45, 104, 97, 120, 20, 18, 52, 116, 60, 151, 32, 228, 56, 77, 83, 104]
set_option maxRecDepth 1000000 in
theorem numB9_0_is : markL (secretL numBs 9 0) = numB9_0 := by decide +kernel
def numB9_1 : List UInt8 := [175, 21, 162, 239, 213, 98, 35, 78, 132, 183, 142, 44, 168, 182, 142, 214, 43, 130, 166, 136, 58, 171, 204, 102, 109, 28, 33, 27, 50, 180, 212, 208]
set_option maxRecDepth 1000000 in
theorem numB9_1_is : markL (secretL numBs 9 1) = numB9_1 := by decide +kernel
def numB10_0 : List UInt8 := [55, 127, 123, 12, 33, 128, 167, 251, 73, 138, 180, 76, 189, 220, 220, 151, 167, 94, 151, 19, 158, 172, 70, 139, 16, 244, 21, 144, 65, 198, 145, 53]
set_option maxRecDepth 1000000 in
theorem numB10_0_is : markL (secretL numBs 10 0) = numB10_0 := by decide +kernel
def numB10_1 : List UInt8 := [246, 16, 210, 188, 236, 90, 255, 58, 9, 129, 163, 42, 239, 212, 248, 198, 63, 43, 251, 73, 98, 137, 30, 226, 16, 253, 189, 73, 184, 75, 183, 203]
set_option maxRecDepth 1000000 in
theorem numB10_1_is : markL (secretL numBs 10 1) = numB10_1 := by decide +kernel
def numB11_0 : List UInt8 := [161, 204, 190, 82, 255, 133, 230, 117, 168, 133, 144, 90, 118, 200, 216, 56, 203, 213, 206, 153, 46, 171, 126, 33, 235, 87, 124, 133, 210, 186, 182, 20]
set_option maxRecDepth 1000000 in
theorem numB11_0_is : markL (secretL numBs 11 0) = numB11_0 := by decide +kernel
def numB11_1 : List UInt8 := [172, 233, 42, 21, 76, 165, 142, 9, 74, 152, 119, 93, 5, 129, 89, 105, 235, 122, 242, 95, 138, 215, 28, 68, 83, 96, 67, 21, 18, 195, 34, 19]
set_option maxRecDepth 1000000 in
theorem numB11_1_is : markL (secretL numBs 11 1) = numB11_1 := by decide +kernel
def numB12_0 : List UInt8 := [173, 25, 216, 117, 68, 188, 143, 208, 145, 127, 248, 120, 114, 121, 158, 175, 12, 137, 153, 192, 188, 109, 142, 82, 2, 101, 63, 84, 220, 188, 140, 253]
set_option maxRecDepth 1000000 in
theorem numB12_0_is : markL (secretL numBs 12 0) = numB12_0 := by decide +kernel
def numB12_1 : List UInt8 := [222, 63, 1, 99, 199, 215, 115, 191, 230, 232, 243, 245, 98, 31, 219, 138, 33, 254, 236, 242, 106, 5, 254, 66, 141, 194, 121, 59, 0, 53, 46, 250]
set_option maxRecDepth 1000000 in
theorem numB12_1_is : markL (secretL numBs 12 1) = numB12_1 := by decide +kernel
def numB13_0 : List UInt8 := [226, 147, 185, 186, 230, 199, 146, 229, 60, 81, 21, 41, 222, 175, 119, 175, 97, 246, 195, 170, 116, 236, 28, 11, 217, 45, 214, 179, 203, 4, 203, 97]
set_option maxRecDepth 1000000 in
theorem numB13_0_is : markL (secretL numBs 13 0) = numB13_0 := by decide +kernel
def numB13_1 : List UInt8 := [5, 183, 111, 254, 75, 105, 20, 49, 9, 130, 95, 254, 184, 10, 184, 254, 149, 173, 208, 135, 107, 51, 25, 164, 218, 241, 75, 22, 222, 173, 100, 156]
set_option maxRecDepth 1000000 in
theorem numB13_1_is : markL (secretL numBs 13 1) = numB13_1 := by decide +kernel
def numB14_0 : List UInt8 := [245, 41, 128, 143, 4, 224, 33, 244, 248, 141, 11, 59, 36, 136, 217, 194, 1, 134, 180, 59, 131, 151, 99, 141, 80, 163, 161, 17, 30, 157, 227, 18]
set_option maxRecDepth 1000000 in
theorem numB14_0_is : markL (secretL numBs 14 0) = numB14_0 := by decide +kernel
def numB14_1 : List UInt8 := [232, 6, 69, 166, 53, 225, 237, 72, 31, 250, 117, 122, 215, 84, 179, 222, 158, 216, 187, 231, 174, 81, 255, 10, 154, 96, 157, 168, 144, 226, 61, 128]
set_option maxRecDepth 1000000 in
theorem numB14_1_is : markL (secretL numBs 14 1) = numB14_1 := by decide +kernel
def numB15_0 : List UInt8 := [84, 12, 219, 51, 18, 92, 8, 27, 78, 67, 33, 43, 81, 154, 46, 48, 53, 203, 188, 93, 154, 189, 17, 247, 127, 117, 44, 242, 43, 252, 32, 170]
set_option maxRecDepth 1000000 in
theorem numB15_0_is : markL (secretL numBs 15 0) = numB15_0 := by decide +kernel
def numB15_1 : List UInt8 := [12, 109, 221, 13, 25, 202, 237, 176, 112, 25, 78, 179, 38, 53, 190, 66, 211, 34, 14, 56, 144, 188, 82, 175, 62, 115, 202, 50, 230, 253, 75, 178]
set_option maxRecDepth 1000000 in
theorem numB15_1_is : markL (secretL numBs 15 1) = numB15_1 := by decide +kernel
def numBM (i : Nat) : List UInt8 × List UInt8 := match i with
  | 0 => (numB0_0, numB0_1)
  | 1 => (numB1_0, numB1_1)
  | 2 => (numB2_0, numB2_1)
  | 3 => (numB3_0, numB3_1)
  | 4 => (numB4_0, numB4_1)
  | 5 => (numB5_0, numB5_1)
  | 6 => (numB6_0, numB6_1)
  | 7 => (numB7_0, numB7_1)
  | 8 => (numB8_0, numB8_1)
  | 9 => (numB9_0, numB9_1)
  | 10 => (numB10_0, numB10_1)
  | 11 => (numB11_0, numB11_1)
  | 12 => (numB12_0, numB12_1)
  | 13 => (numB13_0, numB13_1)
  | 14 => (numB14_0, numB14_1)
  | 15 => (numB15_0, numB15_1)
  | _ => ([], [])
theorem numBM_is : ∀ i, i < 16 → seedM numBs i = numBM i := by
  intro i hi
  rcases (by omega : i = 0 ∨ i = 1 ∨ i = 2 ∨ i = 3 ∨ i = 4 ∨ i = 5 ∨ i = 6 ∨ i = 7 ∨ i = 8 ∨ i = 9 ∨ i = 10 ∨ i = 11 ∨ i = 12 ∨ i = 13 ∨ i = 14 ∨ i = 15) with rfl | rfl | rfl | rfl | rfl | rfl | rfl | rfl | rfl | rfl | rfl | rfl | rfl | rfl | rfl | rfl
  · unfold seedM; rw [numB0_0_is, numB0_1_is]; rfl
  · unfold seedM; rw [numB1_0_is, numB1_1_is]; rfl
  · unfold seedM; rw [numB2_0_is, numB2_1_is]; rfl
  · unfold seedM; rw [numB3_0_is, numB3_1_is]; rfl
  · unfold seedM; rw [numB4_0_is, numB4_1_is]; rfl
  · unfold seedM; rw [numB5_0_is, numB5_1_is]; rfl
  · unfold seedM; rw [numB6_0_is, numB6_1_is]; rfl
  · unfold seedM; rw [numB7_0_is, numB7_1_is]; rfl
  · unfold seedM; rw [numB8_0_is, numB8_1_is]; rfl
  · unfold seedM; rw [numB9_0_is, numB9_1_is]; rfl
  · unfold seedM; rw [numB10_0_is, numB10_1_is]; rfl
  · unfold seedM; rw [numB11_0_is, numB11_1_is]; rfl
  · unfold seedM; rw [numB12_0_is, numB12_1_is]; rfl
  · unfold seedM; rw [numB13_0_is, numB13_1_is]; rfl
  · unfold seedM; rw [numB14_0_is, numB14_1_is]; rfl
  · unfold seedM; rw [numB15_0_is, numB15_1_is]; rfl
set_option maxRecDepth 1000000 in
theorem numB_once : onceL numBM = numB := by decide +kernel
theorem numB_is : publicL (rightL one32) = numB := by
  rw [numBs_is, ← numB_once]
  unfold publicL onceL
  rw [joinM_sameB numBM_is]
end Go.Proofs.Ytofjjpielkfloaa
