/- The words of the primes' roots: plain laws for the walk. -/
import Derived.Test.YtbbfnpfkbbpjgaaRootsL
namespace Go.Proofs.Ytbbfnpfkbbpjgaa
open Go.RowKit Go.Lib
set_option linter.unusedVariables false
set_option linter.unusedSimpArgs false

theorem timesF_length : ∀ (f : Nat) (d : List Nat) (n o : Nat), (timesF f d n o).length ≤ f
  | 0, _, _, _ => by simp [timesF]
  | f + 1, [], n, o => by
    unfold timesF
    split
    · simp
    · simp [timesF_length f]
  | f + 1, d :: ds, n, o => by
    unfold timesF
    simp [timesF_length f]
theorem timesF_dig : ∀ (f : Nat) (d : List Nat) (n o : Nat), ∀ x ∈ timesF f d n o, x < 65536
  | 0, _, _, _ => by simp [timesF]
  | f + 1, [], n, o => by
    unfold timesF
    split
    · simp
    · intro x hx
      rcases List.mem_cons.1 hx with rfl | h
      · omega
      · exact timesF_dig f _ _ _ x h
  | f + 1, d :: ds, n, o => by
    unfold timesF
    intro x hx
    rcases List.mem_cons.1 hx with rfl | h
    · omega
    · exact timesF_dig f _ _ _ x h
/-- A row of digits that are few and small. -/
def DigsR (m : Nat) (d : List Nat) : Prop := d.length ≤ m ∧ ∀ x ∈ d, x < 65536
theorem digsr_times {m : Nat} {d : List Nat} (n : Nat) (h : DigsR m d) : DigsR (m + 4) (timesN d n) := ⟨Nat.le_trans (timesF_length _ _ _ _) (by have := h.1; omega), timesF_dig _ _ _ _⟩
theorem digsr_get {m : Nat} {d : List Nat} (h : DigsR m d) {k x : Nat} (hx : d[k]? = some x) : x < 65536 := h.2 x (List.mem_of_getElem? hx)
theorem times_next {ds : List Nat} {k d : Nat} (P : List Nat) (n o : Nat) (hd : ds[k]? = some d) :
    P ++ timesF (ds.length + 4 - k) (ds.drop k) n o = (P ++ [(o + d * n) % 65536]) ++ timesF (ds.length + 4 - (k + 1)) (ds.drop (k + 1)) n ((o + d * n) / 65536) := by
  have hk : k < ds.length := (List.getElem?_eq_some_iff.1 hd).1
  have h1 : ds.drop k = d :: ds.drop (k + 1) := by
    rw [List.drop_eq_getElem_cons hk]
    rw [List.getElem?_eq_getElem hk] at hd
    rw [Option.some.inj hd]
  rw [h1, show ds.length + 4 - k = (ds.length + 4 - (k + 1)) + 1 by omega]
  simp [timesF]
theorem times_more {ds : List Nat} {k : Nat} (P : List Nat) (n o : Nat) (hk : ds.length ≤ k) (hk2 : k < ds.length + 4) (ho : 0 < o) :
    P ++ timesF (ds.length + 4 - k) (ds.drop k) n o = (P ++ [o % 65536]) ++ timesF (ds.length + 4 - (k + 1)) (ds.drop (k + 1)) n (o / 65536) := by
  rw [List.drop_of_length_le hk, List.drop_of_length_le (by omega), show ds.length + 4 - k = (ds.length + 4 - (k + 1)) + 1 by omega]
  simp [timesF, show o ≠ 0 by omega]
theorem times_end {ds : List Nat} {k : Nat} (P : List Nat) (n : Nat) (hk : ds.length ≤ k) : P ++ timesF (ds.length + 4 - k) (ds.drop k) n 0 = P := by
  rw [List.drop_of_length_le hk]
  cases ds.length + 4 - k <;> simp [timesF]
/-- What is carried. -/
def Carry (len n k o : Nat) : Prop := o ≤ n ∧ k ≤ len + 3 ∧ (len < k → o < 65536 ^ (len + 3 - k))
theorem carry_start {len n : Nat} : Carry len n 0 0 := ⟨Nat.zero_le _, by omega, fun h => by omega⟩
theorem carry_next {len n k o d : Nat} (h : Carry len n k o) (hk : k < len) (hd : d < 65536) : Carry len n (k + 1) ((o + d * n) / 65536) := by
  refine ⟨?_, by omega, fun h => by omega⟩
  have h1 := h.1
  have h2 : d * n ≤ 65535 * n := Nat.mul_le_mul_right _ (by omega)
  omega
theorem carry_more {len n k o : Nat} (h : Carry len n k o) (hn : n < 1099511627776) (hk : len ≤ k) (ho : 0 < o) : k < len + 3 ∧ Carry len n (k + 1) (o / 65536) := by
  obtain ⟨h1, h2, h3⟩ := h
  have h4 : o < 65536 ^ (len + 3 - k) := by
    by_cases he : k = len
    · subst he
      rw [show k + 3 - k = 3 by omega]
      omega
    · exact h3 (by omega)
  have h5 : k < len + 3 := by
    rcases Nat.lt_or_ge k (len + 3) with h | h
    · exact h
    · rw [show len + 3 - k = 0 by omega] at h4
      omega
  refine ⟨h5, by omega, by omega, fun _ => ?_⟩
  rw [show len + 3 - k = (len + 3 - (k + 1)) + 1 by omega, Nat.pow_succ] at h4
  exact Nat.div_lt_of_lt_mul (by rwa [Nat.mul_comm] at h4)
theorem carry_small {len n k o : Nat} (h : Carry len n k o) (hn : n < 1099511627776) : o < 1099511627776 := by have := h.1; omega
theorem carry_mul {n o d : Nat} (hn : n < 1099511627776) (ho : o < 1099511627776) (hd : d < 65536) : d * n < 72057594037927936 ∧ o + d * n < 18446744073709551616 := by
  have h2 : d * n ≤ 65535 * 1099511627775 := Nat.mul_le_mul (by omega) (by omega)
  omega
theorem iter_next (n k : Nat) (d : List Nat) : iterN n (k + 1) d = iterN n k (timesN d n) := rfl
theorem digsr_iter (n : Nat) : ∀ (k m : Nat) (d : List Nat), DigsR m d → DigsR (m + 4 * k) (iterN n k d)
  | 0, _, _, h => h
  | k + 1, m, d, h => by
    have := digsr_iter n k (m + 4) _ (digsr_times n h)
    rw [show m + 4 + 4 * k = m + 4 * (k + 1) by omega] at this
    exact this
theorem less_next (a b : List Nat) (j : Nat) : lessF a b (j + 1) = if a.getD j 0 = b.getD j 0 then lessF a b j else decide (a.getD j 0 < b.getD j 0) := rfl
theorem root_next (n p b x : Nat) : rootF n p (b + 1) x = rootF n p b (if fitsN (x + 2 ^ b) n p = true then x + 2 ^ b else x) := rfl
theorem root_room {b x : Nat} (h : x + 2 ^ (b + 1) ≤ 1099511627776) : x + 2 ^ b < 1099511627776 ∧ (x + 2 ^ b) + 2 ^ b ≤ 1099511627776 ∧ x + 2 ^ b ≤ 1099511627776 := by
  have h1 : 0 < 2 ^ b := Nat.pos_of_ne_zero (by simp)
  rw [Nat.pow_succ] at h
  omega
theorem primes_next {many f n : Nat} {out : List Nat} (h : out.length < many) : primesF many (f + 1) n out = primesF many f (n + 1) (if out.all (fun p => decide (n % p ≠ 0)) = true then out ++ [n] else out) := by
  show (if out.length < many then _ else _) = _
  rw [if_pos h]
theorem primes_end {many f n : Nat} {out : List Nat} (h : ¬ out.length < many) : primesF many f n out = out := by
  cases f with
  | zero => rfl
  | succ f => show (if out.length < many then _ else _) = _; rw [if_neg h]
end Go.Proofs.Ytbbfnpfkbbpjgaa
