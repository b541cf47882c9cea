/- The reference's Eight, Put, PutText (mintageref01) as contracts. -/
import Derived.Test.YtikphhhkikdhaaaPut
namespace Go.Proofs.Ytikphhhkikdhaaa
open Go.RowKit Go.Lib

theorem one_byte (y : Int) (x : Nat) (hy : y = (x : Int)) (hx : x < 256) (w : World) :
    (convert 53 9 (.slice (some ⟨w.heap.size, 0, none⟩) 1 1)).run Try.prog (w.alloc (.cells #[.int .u8 y] 5)) = .ok (.string ⟨#[UInt8.ofNat x]⟩) (w.alloc (.cells #[.int .u8 y] 5)) := by
  have h := Byts.text (P := Try.prog) (Arr.new w (bvs [UInt8.ofNat x]) 5 : Byts _ _ _ [UInt8.ofNat x]) 53 9 5 1 1 rfl Try.underlying53 Try.underlying5 Try.underlying9
  have e : (bvs [UInt8.ofNat x]).toArray = #[.int .u8 y] := by
    have : ((UInt8.ofNat x).toNat : Int) = y := by rw [UInt8.toNat_ofNat', hy]; omega
    simp only [bvs, List.map_cons, List.map_nil, this]
  rw [e] at h
  exact h
theorem one_byte_drew (y : Int) (x : Nat) (hy : y = (x : Int)) (hx : x < 256) (w : World) :
    (convert 53 9 (.slice (some ⟨w.heap.size, 0, none⟩) 1 1)).run Try.prog (w.alloc (.cells #[.int .u8 y] 5)).drew = .ok (.string ⟨#[UInt8.ofNat x]⟩) (w.alloc (.cells #[.int .u8 y] 5)).drew := by
  have e : (bvs [UInt8.ofNat x]).toArray = #[.int .u8 y] := by
    have : ((UInt8.ofNat x).toNat : Int) = y := by rw [UInt8.toNat_ofNat', hy]; omega
    simp only [bvs, List.map_cons, List.map_nil, this]
  have ha : Byts (w.alloc (.cells #[.int .u8 y] 5)).drew w.heap.size 5 [UInt8.ofNat x] := by
    have h := Arr.new w (bvs [UInt8.ofNat x]) 5
    rw [e] at h
    exact h
  exact Byts.text (P := Try.prog) ha 53 9 5 1 1 rfl Try.underlying53 Try.underlying5 Try.underlying9
theorem one_byte_after (y : Int) (x : Nat) (hy : y = (x : Int)) (hx : x < 256) (w w' : World) (hb : Below (w.alloc (.cells #[.int .u8 y] 5)).drew.heap.size (w.alloc (.cells #[.int .u8 y] 5)).drew w') :
    (convert 53 9 (.slice (some ⟨w.heap.size, 0, none⟩) 1 1)).run Try.prog w' = .ok (.string ⟨#[UInt8.ofNat x]⟩) w' := by
  have e : (bvs [UInt8.ofNat x]).toArray = #[.int .u8 y] := by
    have : ((UInt8.ofNat x).toNat : Int) = y := by rw [UInt8.toNat_ofNat', hy]; omega
    simp only [bvs, List.map_cons, List.map_nil, this]
  have ha : Byts (w.alloc (.cells #[.int .u8 y] 5)).drew w.heap.size 5 [UInt8.ofNat x] := by
    have h := Arr.new w (bvs [UInt8.ofNat x]) 5
    rw [e] at h
    exact h
  exact Byts.text (P := Try.prog) (Arr.later ha hb : Byts _ _ _ _) 53 9 5 1 1 rfl Try.underlying53 Try.underlying5 Try.underlying9
theorem eight_step (n k : Nat) (h : k < 8) : (eightL n).drop (8 - (k + 1)) = UInt8.ofNat (n / 256 ^ k % 256) :: (eightL n).drop (8 - k) := by
  have h8 : k = 0 ∨ k = 1 ∨ k = 2 ∨ k = 3 ∨ k = 4 ∨ k = 5 ∨ k = 6 ∨ k = 7 := by omega
  rcases h8 with rfl | rfl | rfl | rfl | rfl | rfl | rfl | rfl <;> simp [eightL, List.range_succ]

set_option maxRecDepth 100000 in
set_option maxHeartbeats 3200000 in
theorem refEight_any (n0 : Nat) (w : World) (hn : n0 < 18446744073709551616) :
    Calls Try.prog 76 #[.int .u64 n0] w fun e w' => e = .returned (.string ⟨(eightL n0).toArray⟩) ∧ Below w.heap.size w w' := by
  have HS := hide (eight_step n0)
  have HZ := hide (show (eightL n0).drop 8 = [] by simp [eightL])
  have HF := hide (show (eightL n0).drop 0 = eightL n0 by simp)
  have HL := hide (eightL_length n0)
  generalize eightL n0 = el at *
  go_enter Try.func76, Try.ntmps76
  go_wp2_with fail
  go_loopw [0, 3, 4] (fun m s i wr => ∃ k : Nat, k ≤ 8 ∧ i = .int .i64 k ∧ m = .int .u64 ((n0 / 256 ^ k : Nat) : Int) ∧ s = .string ⟨(el.drop (8 - k)).toArray⟩ ∧ Below w.heap.size w wr) (fun _ _ i _ => 8 - (RowKit.intOf i).toNat)
  case atStart => exact ⟨0, by omega, rfl, by simp, by rw [show 8 - 0 = 8 by rfl, HZ.out], Below.refl _ _⟩
  case round =>
    obtain ⟨k, hk, rfl, rfl, rfl, qb⟩ := hrel
    by_cases hlt : k < 8
    · have HK := hide (HS.out k hlt)
      have HLN : Hid ((⟨(el.drop (8 - k)).toArray⟩ : ByteArray).size ≤ 8) := by unfold Hid; show (el.drop (8 - k)).length ≤ 8; rw [List.length_drop, HL.out]; omega
      have HC : Hid ((⟨#[UInt8.ofNat (n0 / 256 ^ k % 256)]⟩ : ByteArray) ++ ⟨(el.drop (8 - k)).toArray⟩ = ⟨(el.drop (8 - (k + 1))).toArray⟩) := by
        unfold Hid; rw [HK.out]; apply ByteArray.ext; simp
      have HD : Hid ((n0 / 256 ^ (k + 1) : Nat) = n0 / 256 ^ k / 256) := by unfold Hid; rw [Nat.pow_succ, Nat.div_div_eq_div_mul]
      have hm : n0 / 256 ^ k < 18446744073709551616 := Nat.lt_of_le_of_lt (Nat.div_le_self _ _) hn
      generalize n0 / 256 ^ k = m at *
      generalize (⟨(el.drop (8 - k)).toArray⟩ : ByteArray) = sk at *
      have hmi : 0 ≤ (m : Int) / 256 ∧ (m : Int) / 256 < 18446744073709551616 := by omega
      replace hmi := hide hmi
      clear hm
      have ht := one_byte ((m : Int) % 256) (m % 256) (by omega) (by omega) wr
      have c1 : ¬ 9223372036854775807 < (⟨#[UInt8.ofNat (m % 256)]⟩ : ByteArray).size + sk.size := by have := HLN.out; show ¬ _ < 1 + sk.size; omega
      have q2 := qb.alloc (qb.size) (.cells #[.int .u8 ((m : Int) % 256)] 5)
      generalize (⟨#[UInt8.ofNat (m % 256)]⟩ : ByteArray) = b1 at *
      go_wp2_with fail
      go_roundw
      case rel => exact ⟨k + 1, by omega, by simp, by rw [HD.out, IntKind.wrap_u64, Int.emod_eq_of_lt hmi.out.1 hmi.out.2]; simp, by rw [HC.out], q2⟩
      case measure => simp [RowKit.intOf]; omega
    · have hk8 : k = 8 := by omega
      subst hk8
      rw [show 8 - 8 = 0 by rfl, HF.out]
      go_wp2_with fail
      go_ret
      exact ⟨rfl, qb⟩
end Go.Proofs.Ytikphhhkikdhaaa
