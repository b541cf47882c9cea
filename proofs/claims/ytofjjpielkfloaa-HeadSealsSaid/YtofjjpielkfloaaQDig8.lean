/- Numbers of eight bytes: digit.Eight, TakeEight; the reference's TakeEight. -/
import Derived.Test.YtofjjpielkfloaaQStep2
namespace Go.Proofs.Ytofjjpielkfloaa
open Go.RowKit Go.Lib
set_option linter.unusedVariables false
set_option linter.unusedSimpArgs false

theorem eight_next (n k : Nat) (h : k < 8) : (eightL n).take (k + 1) = (eightL n).take k ++ [UInt8.ofNat (n / 2 ^ (56 - 8 * k) % 256)] := by
  rw [List.take_succ_eq_append_getElem (by rw [eightL_length]; exact h)]
  simp [eightL]
set_option maxRecDepth 100000 in
set_option maxHeartbeats 3200000 in
theorem digEight_any (n0 : Nat) (w : World) (hn : n0 < 18446744073709551616) :
    Calls Try.prog 116 #[.int .u64 n0] w fun e w' => e = .returned (.string ⟨(eightL n0).toArray⟩) ∧ Below w.heap.size w w' := by
  have HS := hide (eight_next n0)
  have HL := hide (eightL_length n0)
  generalize eightL n0 = R at *
  go_enter Try.func116, Try.ntmps116
  go_wp2_with fail
  have r0 : Byts (w.alloc (.cells (bvs (bpad [] 8)).toArray 136)) w.heap.size 136 (bpad (R.take 0) 8) := Arr.new w _ _
  have hb := below1 w (.cells (bvs (bpad [] 8)).toArray 136)
  show Code.wp _ _ _ _ (w.alloc (.cells (bvs (bpad [] 8)).toArray 136))
  generalize w.alloc (.cells (bvs (bpad [] 8)).toArray 136) = W at *
  go_loopw [5] (fun i wr => ∃ k : Nat, i = .int .i64 k ∧ k ≤ 8 ∧ Byts wr w.heap.size 136 (bpad (R.take k) 8) ∧ Below w.heap.size w wr) (fun i _ => 8 - (RowKit.intOf i).toNat)
  case atStart => exact ⟨0, rfl, by omega, r0, hb⟩
  case round =>
    obtain ⟨k, rfl, hk, q0, qb⟩ := hrel
    clear r0 hb
    have t0 := Arr.thaw q0 k
    by_cases hlt : k < 8
    · have HK := hide (HS.out k hlt)
      have hpl : (R.take k).length = k := by rw [List.length_take, HL.out]; omega
      have c0 := q0.cell (i := k) (by rw [bpad_length _ _ (by rw [hpl]; omega)]; omega)
      have d1 := Byts.set q0 k (UInt8.ofNat (n0 / 2 ^ (56 - 8 * k) % 256))
      have en := bpad_next (R.take k) 8 (by rw [hpl]; omega) (UInt8.ofNat (n0 / 2 ^ (56 - 8 * k) % 256))
      rw [hpl, ← HK.out] at en
      have e8 : ((UInt8.ofNat (n0 / 2 ^ (56 - 8 * k) % 256)).toNat : Int) = ((n0 / 2 ^ (56 - 8 * k) : Nat) : Int) % 256 := by rw [UInt8.toNat_ofNat']; omega
      rw [en, e8] at d1
      have e1 : (56 : Int) - 8 * (k : Int) = ((56 - 8 * k : Nat) : Int) := by omega
      have e2 : (n0 : Int) / 2 ^ (56 - 8 * k) = ((n0 / 2 ^ (56 - 8 * k) : Nat) : Int) := by simp
      generalize n0 / 2 ^ (56 - 8 * k) = y at *
      have d2 := qb.setCell (p := ⟨w.heap.size, k, none⟩) (Nat.le_refl _) (.int .u8 ((y : Int) % 256))
      have i0 : (k : Int) < 8 := by omega
      clear en e8 q0 qb hpl
      go_wp2_with fail
      go_roundw
      case rel => exact ⟨k + 1, by simp, by omega, d1, d2⟩
      case measure => simp [RowKit.intOf]; omega
    · obtain rfl : k = 8 := by omega
      have e8 : bpad (R.take 8) 8 = R := by
        rw [List.take_of_length_le (by rw [HL.out]; omega)]; unfold bpad; rw [HL.out]; simp
      rw [e8] at q0
      have ht := Byts.text (P := Try.prog) q0 76 9 5 8 8 HL.out Try.underlying76 Try.underlying5 Try.underlying9
      clear e8
      go_wp2_with fail
      go_ret
      exact ⟨rfl, qb⟩
/-- A number of bytes, the greatest first. -/
def numL (l : List UInt8) : Nat := l.foldl (fun n x => n * 256 + x.toNat) 0
theorem numL_next (l : List UInt8) (x : UInt8) : numL (l ++ [x]) = numL l * 256 + x.toNat := by unfold numL; rw [List.foldl_append]; rfl
theorem numL_lt (l : List UInt8) : numL l < 256 ^ l.length := by
  obtain ⟨r, hr⟩ : ∃ r, r = l.reverse := ⟨_, rfl⟩
  have : l = r.reverse := by rw [hr, List.reverse_reverse]
  subst this
  clear hr
  induction r with
  | nil => simp [numL]
  | cons x r ih =>
    have h1 : (r.reverse ++ [x]).length = r.reverse.length + 1 := by simp
    rw [List.reverse_cons, numL_next, h1, Nat.pow_succ]
    have := x.toNat_lt
    omega
theorem or_low (n c : Nat) (hn : n < 72057594037927936) (hc : c < 256) : bits BinOp.or .u64 (IntKind.u64.wrap ((n : Int) * 256)) (IntKind.u64.wrap (c : Int)) = ((n * 256 + c : Nat) : Int) := by
  have e1 : IntKind.u64.wrap ((n : Int) * 256) = ((n * 256 : Nat) : Int) := by rw [IntKind.wrap_u64]; omega
  have e2 : IntKind.u64.wrap (c : Int) = ((c : Nat) : Int) := by rw [IntKind.wrap_u64]; omega
  rw [e1, e2]
  have h1 : (BitVec.ofInt 64 ((n * 256 : Nat) : Int)).toNat = n * 256 := by
    rw [BitVec.ofInt_natCast, BitVec.toNat_ofNat]; exact Nat.mod_eq_of_lt (by omega)
  have h2 : (BitVec.ofInt 64 (c : Int)).toNat = c := by
    rw [BitVec.ofInt_natCast, BitVec.toNat_ofNat]; exact Nat.mod_eq_of_lt (by omega)
  show IntKind.u64.wrap ((BitVec.ofInt 64 ((n * 256 : Nat) : Int) ||| BitVec.ofInt 64 (c : Int)).toNat : Int) = _
  have h3 := Nat.two_pow_add_eq_or_of_lt (i := 8) (b := c) (by omega) n
  rw [BitVec.toNat_or, h1, h2, show n * 256 = 2 ^ 8 * n by omega, ← h3, IntKind.wrap_u64]
  omega
theorem take_byte (s : ByteArray) (k : Nat) (h : k < s.size) : numL (s.data.toList.take (k + 1)) = numL (s.data.toList.take k) * 256 + (s[k]'h).toNat := by
  have hl : k < s.data.toList.length := by simpa using h
  rw [List.take_succ_eq_append_getElem hl, numL_next]
  rfl
theorem take_num (l : List UInt8) (k : Nat) (h : k < 8) : numL (l.take k) < 72057594037927936 := by
  have h1 := numL_lt (l.take k)
  have h2 : (l.take k).length ≤ 7 := by rw [List.length_take]; omega
  have h3 : 256 ^ (l.take k).length ≤ 256 ^ 7 := Nat.pow_le_pow_right (by omega) h2
  omega
set_option maxRecDepth 100000 in
set_option maxHeartbeats 3200000 in
theorem takeEight_any (s : ByteArray) (w : World) (hs : 8 ≤ s.size) (hm : s.size ≤ 9223372036854775807) :
    Calls Try.prog 110 #[.string s] w fun e w' => e = .returned (.tuple #[.int .u64 (numL (s.data.toList.take 8)), .int .i64 0]) ∧ Below w.heap.size w w' := by
  have b := Below.refl w.heap.size w
  go_enter Try.func110, Try.ntmps110
  go_wp2_with fail
  go_loopw [4, 9] (fun n i wr => ∃ k : Nat, i = .int .i64 k ∧ k ≤ 8 ∧ n = .int .u64 (numL (s.data.toList.take k)) ∧ Below w.heap.size w wr) (fun _ i _ => 8 - (RowKit.intOf i).toNat)
  case atStart => exact ⟨0, rfl, by omega, rfl, b⟩
  case round =>
    obtain ⟨k, rfl, hk, rfl, qb⟩ := hrel
    clear b
    by_cases hlt : k < 8
    · have hks : k < s.size := by omega
      have e8 := take_byte s k hks
      have e9 := or_low (numL (s.data.toList.take k)) (s[k]'hks).toNat (take_num _ k hlt) (UInt8.toNat_lt _)
      have E8 := hide e8
      generalize numL (s.data.toList.take k) = n at *
      clear e8
      go_wp2_with fail
      go_roundw
      case rel => exact ⟨k + 1, by simp, by omega, by rw [E8.out]; simp, qb⟩
      case measure => simp [RowKit.intOf]; omega
    · obtain rfl : k = 8 := by omega
      go_wp2_with fail
      go_ret2
      exact ⟨rfl, qb⟩
end Go.Proofs.Ytofjjpielkfloaa
