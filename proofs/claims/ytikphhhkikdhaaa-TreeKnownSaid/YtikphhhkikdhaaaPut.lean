/- digit.Put, digit.PutText as contracts. -/
import Derived.Test.YtikphhhkikdhaaaShaSmall
import Derived.Laws.BitsAll
namespace Go.Proofs.Ytikphhhkikdhaaa
open Go.RowKit Go.Lib

/-- A number in groups of seven bits. -/
def putF : Nat → Nat → List UInt8
  | 0, _ => []
  | f + 1, n => if n < 128 then [UInt8.ofNat n] else UInt8.ofNat (n % 128 + 128) :: putF f (n / 128)
def putL (n : Nat) : List UInt8 := putF 10 n
theorem putF_length (f n : Nat) : (putF f n).length ≤ f := by
  induction f generalizing n with
  | zero => simp [putF]
  | succ f ih =>
    simp only [putF]
    split
    · simp
    · simp only [List.length_cons]; have := ih (n / 128); omega
def putText (s : List UInt8) : List UInt8 := putL s.length ++ s
/-- The bytes that are laid, then noughts. -/
def bpad (l : List UInt8) (n : Nat) : List UInt8 := l ++ List.replicate (n - l.length) 0
theorem bpad_length (l : List UInt8) (n : Nat) (h : l.length ≤ n) : (bpad l n).length = n := by simp [bpad]; omega
theorem bpad_next (l : List UInt8) (n : Nat) (h : l.length < n) (x : UInt8) : (bpad l n).set l.length x = bpad (l ++ [x]) n := by
  unfold bpad
  rw [List.set_append_right _ _ (Nat.le_refl _), Nat.sub_self]
  obtain ⟨m, hm⟩ : ∃ m, n - l.length = m + 1 := ⟨n - l.length - 1, by omega⟩
  rw [hm, List.replicate_succ, List.set_cons_zero, List.append_assoc]
  simp only [List.length_append, List.length_cons, List.length_nil, List.singleton_append]
  congr 3
  omega
theorem Byts.head_text {P : Program} {w : World} {b : Nat} {t : TypeId} {l more : List UInt8} (h : Byts w b t (l ++ more)) (src dst e : TypeId) (n cap : Nat) (hn : l.length = n) (hs : P.underlying src = some (.slice e)) (he : P.underlying e = some (.int .u8)) (hd : P.underlying dst = some .string) :
    (convert src dst (.slice (some ⟨b, 0, none⟩) n cap)).run P w = .ok (.string ⟨l.toArray⟩) w := by
  subst hn
  refine run_convert_bytes_back w src dst e ⟨b, 0, none⟩ cap l hs he hd (fun j hj => ?_)
  have hadd : (⟨b, 0, none⟩ : Addr).add j = ⟨b, j, none⟩ := by unfold Addr.add; split <;> simp_all
  rw [hadd, h.cell (by simp; omega)]
  simp [List.getElem?_append_left hj, hj]
theorem or128 (n : Nat) : bits .or .u8 ((n : Int) % 256) 128 = ((n % 128 + 128 : Nat) : Int) := by
  have e : (n : Int) % 256 = ((n % 256 : Nat) : Int) := by omega
  rw [e, show (128 : Int) = ((128 : Nat) : Int) by rfl, u8_or_nat _ 128 (by omega) (by omega)]
  congr 1
  have : ∀ m : Fin 256, m.1 ||| 128 = m.1 % 128 + 128 := by decide +kernel
  have h := this ⟨n % 256, by omega⟩
  simp only at h
  rw [h]
  omega

set_option maxRecDepth 100000 in
set_option maxHeartbeats 3200000 in
theorem put_any (n0 : Nat) (w : World) (hn : n0 < 18446744073709551616) :
    Calls Try.prog 74 #[.int .u64 n0] w fun e w' => e = .returned (.string ⟨(putL n0).toArray⟩) ∧ Below w.heap.size w w' := by
  obtain ⟨R, hR⟩ : ∃ R, R = putL n0 := ⟨_, rfl⟩
  rw [← hR]
  have HR := hide hR
  clear hR
  have HN := hide hn
  clear hn
  go_enter Try.func74, Try.ntmps74
  go_wp2_with fail
  have r0 : Byts (w.alloc (.cells (bvs (bpad [] 10)).toArray 97)) w.heap.size 97 (bpad [] 10) := Arr.new w _ _
  have hb := below1 w (.cells (bvs (bpad [] 10)).toArray 97)
  show Code.wp _ _ _ _ (w.alloc (.cells (bvs (bpad [] 10)).toArray 97))
  generalize w.alloc (.cells (bvs (bpad [] 10)).toArray 97) = W at *
  go_loopw [0, 4] (fun m i wr => ∃ (n k : Nat) (pre : List UInt8), m = .int .u64 n ∧ i = .int .i64 k ∧ k ≤ 9 ∧ n < 2 ^ (64 - 7 * k) ∧ pre.length = k ∧ R = pre ++ putF (10 - k) n ∧ Byts wr w.heap.size 97 (bpad pre 10) ∧ Below w.heap.size w wr) (fun m _ _ => (RowKit.intOf m).toNat)
  case atStart => exact ⟨n0, 0, [], rfl, rfl, by omega, by have := HN.out; omega, rfl, HR.out, r0, hb⟩
  case round =>
    obtain ⟨n, k, pre, rfl, rfl, hk, hnk, hpl, hpre, q0, qb⟩ := hrel
    have HNK := hide hnk
    have HPL := hide hpl
    have HPRE := hide hpre
    clear hnk hpl hpre
    have t0 := Arr.thaw q0 k
    have c0 := q0.cell (i := k) (by rw [bpad_length _ _ (by rw [HPL.out]; omega)]; omega)
    by_cases hge : 128 ≤ n
    · have hk9 : k < 9 := by
        rcases Nat.lt_or_ge k 9 with h | h
        · exact h
        · have : k = 9 := by omega
          subst this
          have := HNK.out
          simp at this
          omega
      have HN2 : Hid (n / 128 < 2 ^ (64 - 7 * (k + 1))) := by
        unfold Hid
        have h := HNK.out
        rw [show 64 - 7 * k = (64 - 7 * (k + 1)) + 7 by omega, Nat.pow_add] at h
        exact Nat.div_lt_of_lt_mul (by rw [Nat.mul_comm]; exact h)
      have HP2 : Hid (R = (pre ++ [UInt8.ofNat (n % 128 + 128)]) ++ putF (10 - (k + 1)) (n / 128)) := by
        unfold Hid
        rw [HPRE.out, show 10 - k = (10 - (k + 1)) + 1 by omega]
        simp only [putF]
        rw [if_neg (by omega)]
        simp
      have d1 := Byts.set q0 k (UInt8.ofNat (n % 128 + 128))
      have en := bpad_next pre 10 (by rw [HPL.out]; omega) (UInt8.ofNat (n % 128 + 128))
      rw [HPL.out] at en
      have e8 : ((UInt8.ofNat (n % 128 + 128)).toNat : Int) = ((n % 128 + 128 : Nat) : Int) := by rw [UInt8.toNat_ofNat']; omega
      rw [en, e8] at d1
      have o1 := or128 n
      generalize n % 128 + 128 = y at *
      have d2 := qb.setCell (p := ⟨w.heap.size, k, none⟩) (Nat.le_refl _) (.int .u8 (y : Int))
      have i0 : (k : Int) < 10 := by omega
      have i1 : (128 : Int) ≤ (n : Int) := by omega
      have HD : Hid (n / 128 < n) := by unfold Hid; omega
      clear en e8 q0 qb
      go_wp2_with fail
      go_roundw
      case rel => exact ⟨n / 128, k + 1, pre ++ [UInt8.ofNat y], by simp, by simp, by omega, HN2.out, by simp [HPL.out], HP2.out, d1, d2⟩
      case measure => simp [RowKit.intOf]; omega
    · have hlt : n < 128 := by omega
      have HP2 : Hid (R = pre ++ [UInt8.ofNat n]) := by
        unfold Hid
        rw [HPRE.out, show 10 - k = (9 - k) + 1 by omega]
        simp only [putF]
        rw [if_pos hlt]
      have d1 := Byts.set q0 k (UInt8.ofNat n)
      have en := bpad_next pre 10 (by rw [HPL.out]; omega) (UInt8.ofNat n)
      rw [HPL.out] at en
      have e8 : ((UInt8.ofNat n).toNat : Int) = (n : Int) := by rw [UInt8.toNat_ofNat']; omega
      rw [en, e8] at d1
      have m1 : (n : Int) % 256 = (n : Int) := by omega
      have i0 : (k : Int) < 10 := by omega
      have i1 : (n : Int) < 128 := by omega
      have ht := Byts.head_text (P := Try.prog) d1 53 9 5 (k + 1) 10 (by simp [HPL.out]) Try.underlying53 Try.underlying5 Try.underlying9
      have d2 := qb.setCell (p := ⟨w.heap.size, k, none⟩) (Nat.le_refl _) (.int .u8 (n : Int))
      have i5 : (k : Int) + 1 ≤ 10 := by omega
      have i6 : 0 ≤ (k : Int) + 1 := by omega
      clear en e8 q0 qb d1
      go_wp2_with fail
      go_ret
      exact ⟨by rw [HP2.out]; rfl, d2⟩
theorem putL_length (n : Nat) : (putL n).length ≤ 10 := putF_length 10 n
theorem put_lit (m : Int) (n : Nat) (w : World) (h : m = (n : Nat)) (hn : n < 18446744073709551616) : Calls Try.prog 74 #[.int .u64 m] w fun e w' => e = .returned (.string ⟨(putL n).toArray⟩) ∧ Below w.heap.size w w' := h ▸ put_any n w hn
set_option maxRecDepth 100000 in
theorem putText_any (s : ByteArray) (w : World) (hs : s.size ≤ 1099511627776) :
    Calls Try.prog 50 #[.string s] w fun e w' => e = .returned (.string ⟨(putText s.data.toList).toArray⟩) ∧ Below w.heap.size w w' := by
  have hl := putL_length s.size
  have c1 : ¬ 9223372036854775807 < (⟨(putL s.size).toArray⟩ : ByteArray).size + s.size := by
    have : (⟨(putL s.size).toArray⟩ : ByteArray).size = (putL s.size).length := rfl
    omega
  have HE : Hid ((⟨(putL s.size).toArray⟩ : ByteArray) ++ s = ⟨(putText s.data.toList).toArray⟩) := by
    unfold Hid putText
    apply ByteArray.ext
    have : s.data.toList.length = s.size := by simp
    rw [this]
    simp
  have HC := hide (fun w => put_lit (s.size : Int) s.size w rfl (by omega))
  clear hl
  generalize (⟨(putL s.size).toArray⟩ : ByteArray) = pl at *
  generalize (⟨(putText s.data.toList).toArray⟩ : ByteArray) = R at *
  replace c1 := hide c1
  go_enter Try.func50, Try.ntmps50
  go_wp2_with fail
  refine (HC.out _).mono ?_
  rintro _ w1 ⟨rfl, hb1⟩
  have c2 := c1.out
  have he := HE.out
  go_wp2_with fail
  go_ret
  exact ⟨rfl, hb1⟩
end Go.Proofs.Ytikphhhkikdhaaa
