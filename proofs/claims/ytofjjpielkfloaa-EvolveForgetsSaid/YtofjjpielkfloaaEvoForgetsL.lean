/- What the next key does not hang on. The plain law of EvolveForgets. -/
import Derived.Test.YtofjjpielkfloaaEvo6
namespace Go.Proofs.Ytofjjpielkfloaa
open Go.RowKit Go.Lib
set_option linter.unusedVariables false
set_option linter.unusedSimpArgs false

theorem ways_all : ((List.range 5).all fun d => (List.range 16).all fun p => (List.range 4).all fun j => (List.range 4).all fun i =>
    !(decide (lastL d p d = some j) && decide (i < d) && wayB d (p + 1) i) || (decide (i = j) || (decide (i < j) && wayB d p i))) = true := by decide +kernel
theorem ways_next {d p j i : Nat} (hd : d < 5) (hp : p < 16) (hj : j < 4) (hi : i < 4) (h : lastL d p d = some j) (hid : i < d) (hw : wayB d (p + 1) i = true) : i = j ∨ (i < j ∧ wayB d p i = true) := by
  have h1 := List.all_eq_true.1 ways_all d (List.mem_range.2 hd)
  have h2 := List.all_eq_true.1 h1 p (List.mem_range.2 hp)
  have h3 := List.all_eq_true.1 h2 j (List.mem_range.2 hj)
  have h4 := List.all_eq_true.1 h3 i (List.mem_range.2 hi)
  simp only [Bool.or_eq_true, Bool.not_eq_true', Bool.and_eq_false_iff, Bool.and_eq_true, decide_eq_true_eq, decide_eq_false_iff_not] at h4
  rcases h4 with ((h5 | h5) | h5) | h5 | h5
  · exact absurd h h5
  · exact absurd hid h5
  · rw [hw] at h5; cases h5
  · exact .inl h5
  · exact .inr h5
theorem downE_len : ∀ (n : Nat) (s : List UInt8), (downE n s).1.length = n
  | 0, _ => rfl
  | n + 1, s => by rw [downE]; simp [downE_len n]
/-- What EvolveForgets asks of the key behind a key, and of the one behind another with the same rows. -/
structure Nx (n : Nat) (K K2 : Evo) : Prop where
  d : K2.d = K.d
  p : K2.p = K.p
  leaf : K2.leaf = K.leaf
  right : K2.right = K.right
  len : K.right.length ≤ 4
  dep : (K.right.length : Int) ≤ K.d
  pd : ∃ d p : Nat, K.d = d ∧ K.p = p ∧ d ≤ 4 ∧ p ≤ 16 ∧ ∀ i, i < K.right.length → wayB d p i = true → K.right.getD i [] = zero32
theorem mayE_other (k : Evo) (l : List UInt8) : mayE { k with leaf := l } = mayE k := rfl
theorem nx_evo0 : Nx 0 evo0 evo0 := ⟨rfl, rfl, rfl, rfl, by decide, by decide, 0, 0, rfl, rfl, by decide, by decide, fun i hi => by cases hi⟩
/-- The two next keys: told alike, and alike but for the sides. -/
theorem nextK_other (k : Evo) (l : List UInt8) : (nextK { k with leaf := l }).2 = (nextK k).2 ∧ Nx 0 (nextK k).1 (nextK { k with leaf := l }).1 ∧
    ((nextK k).2 = 0 ∨ (nextK k).2 = 2 ∨ (nextK k).2 = 4) ∧ ((nextK k).2 = 0 → ((nextK k).1.right.length : Int) = (nextK k).1.d ∧ (nextK k).1.p = k.p + 1) := by
  by_cases hm : mayE k = true
  · have hm2 : mayE { k with leaf := l } = true := hm
    obtain ⟨d, p, hd, hp, hd4, hp2, hp16, hrl, hsl, hper⟩ := mayE_is hm
    have hz : ∀ i, i < d → wayB d p i = true → k.right.getD i [] = zero32 := by
      intro i hi hw
      unfold mayE at hm
      simp only [Bool.and_eq_true, List.all_eq_true, List.mem_range] at hm
      have := hm.2 i (by rw [hd]; simpa using hi)
      rw [hd, hp] at this
      simp only [Int.toNat_natCast, hw, Bool.not_true, Bool.false_or, decide_eq_true_eq] at this
      exact this
    have e1 : nextK k = match lastL d p d with | none => (evo0, 4) | some j => (nextAt d p j k.leaf k.right k.side, 0) := by
      unfold nextK; rw [if_pos hm, hd, hp]; simp only [Int.toNat_natCast]; cases lastL d p d <;> rfl
    have e2 : nextK { k with leaf := l } = match lastL d p d with | none => (evo0, 4) | some j => (nextAt d p j l k.right k.side, 0) := by
      unfold nextK; rw [if_pos hm2]; simp only [hd, hp, Int.toNat_natCast]; cases lastL d p d <;> rfl
    rw [e1, e2]
    cases hj : lastL d p d with
    | none => exact ⟨rfl, nx_evo0, .inr (.inr rfl), fun h => by cases h⟩
    | some j =>
      have hjd := lastL_lt d p d j hj
      simp only [nextAt]
      have hD := downE_len (d - (j + 1)) (k.right.getD j [])
      generalize downE (d - (j + 1)) (k.right.getD j []) = D at hD ⊢
      generalize upE d p (j + 1) (fun i => k.side.getD i []) (d - (j + 1)) (publicL k.leaf) = U1
      generalize upE d p (j + 1) (fun i => k.side.getD i []) (d - (j + 1)) (publicL l) = U2
      have hlen : ((k.right.take j ++ [zero32]) ++ D.1).length = d := by
        simp only [List.length_append, List.length_take, hrl, hD, List.length_cons, List.length_nil]
        omega
      refine ⟨trivial, ⟨rfl, rfl, rfl, rfl, by show ((k.right.take j ++ [zero32]) ++ D.1).length ≤ 4; rw [hlen]; exact hd4, by show ((((k.right.take j ++ [zero32]) ++ D.1).length : Nat) : Int) ≤ _; rw [hlen]; exact Int.le_refl _, d, p + 1, rfl, rfl, hd4, by omega, ?_⟩, .inl trivial, fun _ => ⟨by rw [hlen], by rw [hp]⟩⟩
      show ∀ i, i < ((k.right.take j ++ [zero32]) ++ D.1).length → wayB d (p + 1) i = true → ((k.right.take j ++ [zero32]) ++ D.1).getD i [] = zero32
      rw [hlen]
      intro i hi hw
      have hlt : (k.right.take j).length = j := by rw [List.length_take, hrl]; omega
      rcases ways_next (by omega) hp16 (by omega) (by omega) hj hi hw with rfl | ⟨h1, h2⟩
      · rw [List.getD_eq_getElem?_getD, List.getElem?_append_left (by simp [hlt]), List.getElem?_append_right (by omega), hlt, Nat.sub_self]; rfl
      · rw [List.getD_eq_getElem?_getD, List.getElem?_append_left (by rw [List.length_append, hlt]; omega), List.getElem?_append_left (by omega), List.getElem?_take_of_lt h1, ← List.getD_eq_getElem?_getD]
        exact hz i hi h2
  · have hm2 : ¬ mayE { k with leaf := l } = true := hm
    have e1 : nextK k = (evo0, 2) := by unfold nextK; rw [if_neg hm]
    have e2 : nextK { k with leaf := l } = (evo0, 2) := by unfold nextK; rw [if_neg hm2]
    rw [e1, e2]
    exact ⟨rfl, nx_evo0, .inr (.inl rfl), fun h => by cases h⟩
end Go.Proofs.Ytofjjpielkfloaa
