/- The short form of a number, as it is read: plain law. -/
import Derived.Test.YtbbfnpfkbbpjgaaMOf
namespace Go.Proofs.Ytbbfnpfkbbpjgaa
open Go.RowKit Go.Lib
set_option linter.unusedVariables false
set_option linter.unusedSimpArgs false

/-- What stands from the place i on, r bytes more at most, n having been read. -/
def takeF (s : List UInt8) : Nat → Nat → Nat → Option (Nat × Nat)
  | 0, _, _ => none
  | r + 1, i, n =>
    if s.length ≤ i then none
    else if r = 0 ∧ 1 < (s.getD i 0).toNat then none
    else if (s.getD i 0).toNat < 128 then (if (s.getD i 0).toNat = 0 ∧ 0 < i then none else some (n + (s.getD i 0).toNat % 128 * 128 ^ i, i + 1))
    else takeF s r (i + 1) (n + (s.getD i 0).toNat % 128 * 128 ^ i)
def takeO (s : List UInt8) : Option (Nat × Nat) := takeF s 10 0 0
theorem putF_head0 (r m : Nat) (hr : 0 < r) : ∃ c t, putF r m = c :: t := by
  obtain ⟨r, rfl⟩ : ∃ q, r = q + 1 := ⟨r - 1, by omega⟩
  rw [putF]
  split
  · exact ⟨_, _, rfl⟩
  · exact ⟨_, _, rfl⟩
theorem getD_mid (a b : List UInt8) (c : UInt8) (i : Nat) (h : a.length = i) : (a ++ c :: b).getD i 0 = c := by
  subst h
  rw [List.getD_eq_getElem?_getD, List.getElem?_append_right (Nat.le_refl _), Nat.sub_self]
  rfl
theorem u8_nat (n : Nat) (h : n < 256) : (UInt8.ofNat n).toNat = n := by rw [UInt8.toNat_ofNat']; exact Nat.mod_eq_of_lt h
theorem takeF_put (rest : List UInt8) : ∀ (r m i acc : Nat) (pre : List UInt8), pre.length = i → m < 2 ^ (7 * r + 1) → (0 < i → 0 < m) →
    takeF (pre ++ (putF (r + 1) m ++ rest)) (r + 1) i acc = some (acc + m * 128 ^ i, i + (putF (r + 1) m).length) := by
  intro r
  induction r with
  | zero =>
    intro m i acc pre hp hm h0
    have hm2 : m < 2 := by simpa using hm
    have e : putF 1 m = [UInt8.ofNat m] := by rw [putF, if_pos (by omega)]
    rw [e, List.singleton_append, takeF, if_neg (by simp; omega), getD_mid pre rest _ i hp, u8_nat m (by omega), if_neg (by omega), if_pos (by omega), if_neg (by omega), Nat.mod_eq_of_lt (by omega : m < 128)]
    rfl
  | succ r ih =>
    intro m i acc pre hp hm h0
    by_cases hlt : m < 128
    · have e : putF (r + 1 + 1) m = [UInt8.ofNat m] := by rw [putF, if_pos hlt]
      rw [e, List.singleton_append, takeF, if_neg (by simp; omega), getD_mid pre rest _ i hp, u8_nat m (by omega), if_neg (by omega), if_pos hlt, if_neg (by omega), Nat.mod_eq_of_lt hlt]
      rfl
    · have e : putF (r + 1 + 1) m = UInt8.ofNat (m % 128 + 128) :: putF (r + 1) (m / 128) := by rw [putF, if_neg hlt]
      have hx : pre ++ (UInt8.ofNat (m % 128 + 128) :: putF (r + 1) (m / 128) ++ rest) = (pre ++ [UInt8.ofNat (m % 128 + 128)]) ++ (putF (r + 1) (m / 128) ++ rest) := by simp
      have hi := ih (m / 128) (i + 1) (acc + m % 128 * 128 ^ i) (pre ++ [UInt8.ofNat (m % 128 + 128)]) (by simp [hp]) (by
        have h1 : (2 : Nat) ^ (7 * (r + 1) + 1) = 2 ^ (7 * r + 1) * 128 := by rw [show 7 * (r + 1) + 1 = 7 * r + 1 + 7 by omega, Nat.pow_add]
        rw [h1] at hm
        omega) (fun _ => by omega)
      rw [e, takeF, if_neg (by simp; omega), List.cons_append, getD_mid pre _ _ i hp, u8_nat _ (by omega), if_neg (by omega), if_neg (by omega), show (m % 128 + 128) % 128 = m % 128 by omega]
      rw [← List.cons_append, hx, hi, List.length_cons, Nat.pow_succ]
      have hd : m = m / 128 * 128 + m % 128 := by omega
      congr 2
      · rw [Nat.add_assoc]
        congr 1
        calc m % 128 * 128 ^ i + m / 128 * (128 ^ i * 128) = (m / 128 * 128 + m % 128) * 128 ^ i := by rw [Nat.add_mul, Nat.add_comm, Nat.mul_assoc, Nat.mul_comm (128 ^ i) 128]
          _ = m * 128 ^ i := by rw [← hd]
      · omega
/-- What was put is read. -/
theorem takeO_put (n : Nat) (hn : n < 18446744073709551616) (rest : List UInt8) : takeO (putL n ++ rest) = some (n, (putL n).length) := by
  have := takeF_put rest 9 n 0 0 [] rfl (by simpa using hn) (by omega)
  simpa [takeO, putL] using this
theorem takeF_is (s : List UInt8) : ∀ (r i acc v k : Nat), takeF s (r + 1) i acc = some (v, k) →
    ∃ m, v = acc + m * 128 ^ i ∧ k = i + (putF (r + 1) m).length ∧ (s.drop i).take (putF (r + 1) m).length = putF (r + 1) m ∧ m < 2 ^ (7 * r + 1) ∧ (0 < i → 0 < m) := by
  intro r
  induction r with
  | zero =>
    intro i acc v k h
    rw [takeF] at h
    by_cases h1 : s.length ≤ i
    · rw [if_pos h1] at h; cases h
    rw [if_neg h1] at h
    have hd : s.drop i = s.getD i 0 :: s.drop (i + 1) := by
      rw [List.drop_eq_getElem_cons (by omega), List.getD_eq_getElem?_getD, List.getElem?_eq_getElem (by omega), Option.getD_some]
    generalize s.getD i 0 = c at *
    by_cases h2 : 1 < c.toNat
    · rw [if_pos ⟨rfl, h2⟩] at h; cases h
    rw [if_neg (by omega), if_pos (by omega)] at h
    split at h
    · cases h
    · simp only [Option.some.injEq, Prod.mk.injEq] at h
      have e : putF (0 + 1) c.toNat = [c] := by rw [putF, if_pos (by omega)]; simp
      refine ⟨c.toNat, ?_, ?_, ?_, by simp; omega, by omega⟩
      · rw [← h.1, Nat.mod_eq_of_lt (by omega)]
      · rw [e]; exact h.2.symm
      · rw [e, hd]; rfl
  | succ r ih =>
    intro i acc v k h
    rw [takeF] at h
    by_cases h1 : s.length ≤ i
    · rw [if_pos h1] at h; cases h
    rw [if_neg h1, if_neg (by omega)] at h
    have hd : s.drop i = s.getD i 0 :: s.drop (i + 1) := by
      rw [List.drop_eq_getElem_cons (by omega), List.getD_eq_getElem?_getD, List.getElem?_eq_getElem (by omega), Option.getD_some]
    generalize s.getD i 0 = c at *
    have hc := c.toNat_lt
    by_cases h2 : c.toNat < 128
    · rw [if_pos h2] at h
      split at h
      · cases h
      · simp only [Option.some.injEq, Prod.mk.injEq] at h
        have e : putF (r + 1 + 1) c.toNat = [c] := by rw [putF, if_pos h2]; simp
        refine ⟨c.toNat, ?_, ?_, ?_, ?_, by omega⟩
        · rw [← h.1, Nat.mod_eq_of_lt h2]
        · rw [e]; exact h.2.symm
        · rw [e, hd]; rfl
        · have : (2 : Nat) ^ 8 ≤ 2 ^ (7 * (r + 1) + 1) := Nat.pow_le_pow_right (by omega) (by omega)
          omega
    · rw [if_neg h2] at h
      obtain ⟨m, e1, e2, e3, e4, e5⟩ := ih (i + 1) _ v k h
      have m0 := e5 (by omega)
      have q1 : ¬ m * 128 + c.toNat % 128 < 128 := by omega
      have q2 : (m * 128 + c.toNat % 128) / 128 = m := by omega
      have q3 : (m * 128 + c.toNat % 128) % 128 + 128 = c.toNat := by omega
      have e : putF (r + 1 + 1) (m * 128 + c.toNat % 128) = c :: putF (r + 1) m := by
        rw [putF, if_neg q1, q2, q3]; simp
      refine ⟨m * 128 + c.toNat % 128, ?_, ?_, ?_, ?_, by omega⟩
      · rw [e1, Nat.pow_succ, Nat.add_assoc]
        congr 1
        rw [Nat.add_mul, Nat.add_comm, Nat.mul_assoc, Nat.mul_comm (128 ^ i) 128]
      · rw [e, e2, List.length_cons]; omega
      · rw [e, List.length_cons, hd, List.take_succ_cons, e3]
      · have h1 : (2 : Nat) ^ (7 * (r + 1) + 1) = 2 ^ (7 * r + 1) * 128 := by rw [show 7 * (r + 1) + 1 = 7 * r + 1 + 7 by omega, Nat.pow_add]
        rw [h1]
        omega
/-- What is read was put. -/
theorem takeO_is {s : List UInt8} {n k : Nat} (h : takeO s = some (n, k)) : n < 18446744073709551616 ∧ k = (putL n).length ∧ s = putL n ++ s.drop k ∧ k ≤ s.length := by
  obtain ⟨m, e1, e2, e3, e4, _⟩ := takeF_is s 9 0 0 n k h
  have hm : m = n := by simpa using e1.symm
  subst hm
  rw [Nat.zero_add] at e2
  rw [List.drop_zero] at e3
  have e6 : s = putL m ++ s.drop k := by
    conv => lhs; rw [← List.take_append_drop k s]
    rw [e2]
    unfold putL
    rw [e3]
  refine ⟨by simpa using e4, e2, e6, ?_⟩
  have h9 := congrArg List.length e3
  rw [List.length_take] at h9
  rw [e2]
  omega
theorem putL_pos (n : Nat) : 0 < (putL n).length := by
  obtain ⟨c, t, h⟩ := putF_head0 10 n (by omega)
  unfold putL
  rw [h]
  simp
end Go.Proofs.Ytbbfnpfkbbpjgaa
