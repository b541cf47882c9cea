/- The reference's Put, PutText (mintageref01) as contracts. -/
import Derived.Test.YtikphhhkikdhaaaRef01
import Derived.BigRegion
namespace Go.Proofs.Ytikphhhkikdhaaa
open Go.RowKit Go.Lib

set_option maxRecDepth 100000 in
theorem refPut_small (f n : Nat) (w : World) (hn : n < 128) :
    Calls Try.prog 87 #[.int .u64 n] w fun e w' => e = .returned (.string ⟨(putF (f + 1) n).toArray⟩) ∧ Below w.heap.size w w' := by
  have HE : Hid (putF (f + 1) n = [UInt8.ofNat n]) := by unfold Hid; rw [putF, if_pos hn]
  rw [HE.out]
  have ht := one_byte ((n : Int) % 256) n (by omega) (by omega) w
  have e1 : (n : Int) < 128 := by omega
  have e2 : (n : Int) % 256 = (n : Int) := by omega
  rw [e2] at ht
  go_enter Try.func87, Try.ntmps87
  go_wp2_with fail
  go_ret
  exact ⟨rfl, below1 _ _⟩

set_option maxRecDepth 100000 in
set_option maxHeartbeats 3200000 in
theorem refPut_any (f : Nat) : ∀ (n : Nat) (w : World), f < 999 → n < 18446744073709551616 → n < 128 ^ (f + 1) →
    Calls Try.prog 87 #[.int .u64 n] w fun e w' => e = .returned (.string ⟨(putF (f + 1) n).toArray⟩) ∧ Below w.heap.size w w' := by
  induction f with
  | zero => intro n w _ _ hf; exact refPut_small 0 n w (by simpa using hf)
  | succ f ih =>
    intro n w hfb hn hf
    by_cases hlt : n < 128
    · exact refPut_small (f + 1) n w hlt
    · have HE : Hid (putF (f + 1 + 1) n = UInt8.ofNat (n % 128 + 128) :: putF (f + 1) (n / 128)) := by
        unfold Hid; rw [putF, if_neg hlt]
      rw [HE.out]
      have IH := hide (fun w => ih (n / 128) w (by omega) (by omega) (by rw [Nat.pow_succ] at hf; exact Nat.div_lt_of_lt_mul (by rw [Nat.mul_comm]; exact hf)))
      clear ih
      have hrl := putF_length (f + 1) (n / 128)
      have hff : f + 1 < 999 := hfb
      generalize putF (f + 1) (n / 128) = rest at *
      obtain ⟨y, hy⟩ : ∃ y : Nat, y = n % 128 + 128 := ⟨_, rfl⟩
      have hy2 : y < 256 := by omega
      have e1 : (n : Int) % 128 + 128 = (y : Int) := by omega
      have e2 : (y : Int) % 256 = (y : Int) := by omega
      have e3 : (n : Int) / 128 = ((n / 128 : Nat) : Int) := by omega
      have e4 : (n : Int).tmod 128 = (n : Int) % 128 := Int.tmod_eq_emod_of_nonneg (by omega)
      have e5 : (n : Int).tdiv 128 = (n : Int) / 128 := Int.tdiv_eq_ediv_of_nonneg (by omega)
      have e6 : IntKind.u64.wrap ((n : Int) % 128 + 128) = (y : Int) := by rw [IntKind.wrap_u64]; omega
      have hcv0 : ∀ W : World, (convert 53 9 (.slice (some ⟨W.heap.size, 0, none⟩) 1 1)).run Try.prog (W.alloc (.cells #[.int .u8 (y : Int)] 5)) = .ok (.string ⟨#[UInt8.ofNat y]⟩) (W.alloc (.cells #[.int .u8 (y : Int)] 5)) := fun W => one_byte _ y rfl hy2 W
      have g1 : IntKind.u64.wrap (y : Int) = (y : Int) := by rw [IntKind.wrap_u64]; omega
      have g2 : IntKind.u8.wrap (y : Int) = (y : Int) := by rw [IntKind.wrap_u8']; omega
      have g3 : IntKind.u64.wrap ((n : Int) / 128) = ((n / 128 : Nat) : Int) := by rw [IntKind.wrap_u64]; omega
      have hcv1 : ∀ W : World, (convert 53 9 (.slice (some ⟨W.heap.size, 0, none⟩) 1 1)).run Try.prog (W.alloc (.cells #[.int .u8 (y : Int)] 5)).drew = .ok (.string ⟨#[UInt8.ofNat y]⟩) (W.alloc (.cells #[.int .u8 (y : Int)] 5)).drew := fun W => one_byte_drew _ y rfl hy2 W
      have HAF := hide (fun (W W' : World) hb => one_byte_after (y : Int) y rfl hy2 W W' hb)
      rw [← hy] at HE ⊢
      generalize n / 128 = m at *
      have c1 : ¬ 9223372036854775807 < (⟨#[UInt8.ofNat y]⟩ : ByteArray).size + (⟨rest.toArray⟩ : ByteArray).size := by show ¬ _ < 1 + rest.length; omega
      have HC : Hid ((⟨#[UInt8.ofNat y]⟩ : ByteArray) ++ ⟨rest.toArray⟩ = ⟨(UInt8.ofNat y :: rest).toArray⟩) := by unfold Hid; apply ByteArray.ext; simp
      generalize (⟨(UInt8.ofNat y :: rest).toArray⟩ : ByteArray) = full at *
      generalize (⟨rest.toArray⟩ : ByteArray) = rb at *
      generalize (⟨#[UInt8.ofNat y]⟩ : ByteArray) = b1 at *
      clear hy e3
      go_enter Try.func87, Try.ntmps87
      go_wp2_with fail
      go_region_with
        (first | (go_at_call 87; refine (IH.out _).mono ?_; rintro e w' ⟨rfl, hb⟩; first | (have hcv2 := HAF.out _ _ hb) | skip))
      all_goals (go_wp2_with fail; go_ret; refine ⟨by rw [HC.out]; rfl, ?_⟩)
      all_goals (first
        | exact later (Below.drew (below1 w (.cells #[.int .u8 (y : Int)] 5))) hb
        | exact (later (Below.drew (Below.refl _ w)) hb).alloc (later (Below.drew (Below.refl _ w)) hb).size _)
theorem refPut_lit (m : Int) (n : Nat) (w : World) (h : m = (n : Nat)) (hn : n < 18446744073709551616) : Calls Try.prog 87 #[.int .u64 m] w fun e w' => e = .returned (.string ⟨(putL n).toArray⟩) ∧ Below w.heap.size w w' :=
  h ▸ refPut_any 9 n w (by omega) hn (by omega)
set_option maxRecDepth 100000 in
theorem refPutText_any (s : ByteArray) (w : World) (hs : s.size ≤ 1099511627776) :
    Calls Try.prog 82 #[.string s] w fun e w' => e = .returned (.string ⟨(putText s.data.toList).toArray⟩) ∧ Below w.heap.size w w' := by
  have hl := putL_length s.size
  have c1 : ¬ 9223372036854775807 < (⟨(putL s.size).toArray⟩ : ByteArray).size + s.size := by
    have : (⟨(putL s.size).toArray⟩ : ByteArray).size = (putL s.size).length := rfl
    omega
  have HE : Hid ((⟨(putL s.size).toArray⟩ : ByteArray) ++ s = ⟨(putText s.data.toList).toArray⟩) := by
    unfold Hid putText
    apply ByteArray.ext
    have : s.data.toList.length = s.size := by simp
    rw [this]
    simp
  have HC := hide (fun w => refPut_lit (s.size : Int) s.size w rfl (by omega))
  clear hl
  generalize (⟨(putL s.size).toArray⟩ : ByteArray) = pl at *
  generalize (⟨(putText s.data.toList).toArray⟩ : ByteArray) = R at *
  replace c1 := hide c1
  go_enter Try.func82, Try.ntmps82
  go_wp2_with fail
  refine (HC.out _).mono ?_
  rintro _ w1 ⟨rfl, hb1⟩
  have c2 := c1.out
  have he := HE.out
  go_wp2_with fail
  go_ret
  exact ⟨rfl, hb1⟩
end Go.Proofs.Ytikphhhkikdhaaa
