/- Trees of twice as many hashes, as many as a power of two: proofs begin with the halves' proofs (plain law of TreeTwos). -/
import Derived.Test.YtikphhhkikdhaaaTreeL
namespace Go.Proofs.Ytikphhhkikdhaaa
set_option linter.unusedVariables false
set_option linter.unusedSimpArgs false

theorem upL_append : ∀ (a b : List H32), a.length % 2 = 0 → upL (a ++ b) = upL a ++ upL b
  | [], b, _ => by simp [upL]
  | [x], b, h => by simp at h
  | x :: y :: r, b, h => by
    have := upL_append r b (by simp at h; omega)
    simp only [List.cons_append, upL, this]
theorem oth_lt (n i : Nat) (hn : n % 2 = 0) (hi : i < n) : oth i < n := by unfold oth; split <;> omega
theorem oth_add (n i : Nat) (hn : n % 2 = 0) : oth (n + i) = n + oth i := by
  unfold oth
  by_cases h : i % 2 = 0
  · rw [if_pos h, if_pos (by omega)]; omega
  · rw [if_neg h, if_neg (by omega)]; omega
theorem proof_one (f : Nat) (x y : H32) (i : Nat) (hf : 2 ≤ f) (hi : i < 2) : proofF f [x, y] i = [[x, y].getD (oth i) []] := by
  rw [proofF_up f [x, y] i (by simp) (by simpa using hf), if_pos (by unfold oth; split <;> simp <;> omega), proofF_one _ _ _ (by simp [upL]), List.append_nil]
theorem proof_left : ∀ (e f g : Nat) (r s : List H32) (i : Nat), r.length = 2 ^ e → s.length = 2 ^ e → i < 2 ^ e → 2 ^ e ≤ f → 2 * 2 ^ e ≤ g →
    proofF g (r ++ s) i = proofF f r i ++ [topF f s] ∧ proofF g (r ++ s) (2 ^ e + i) = proofF f s i ++ [topF f r]
  | 0, f, g, r, s, i, hr, hs, hi, hf, hg => by
    obtain ⟨x, rfl⟩ := List.length_eq_one_iff.1 hr
    obtain ⟨y, rfl⟩ := List.length_eq_one_iff.1 hs
    have h0 : i = 0 := by simpa using hi
    subst h0
    rw [proofF_one f [x] _ (by simp), proofF_one f [y] _ (by simp), topF_one f [y] (by simp), topF_one f [x] (by simp)]
    exact ⟨proof_one g x y 0 (by omega) (by omega), proof_one g x y 1 (by omega) (by omega)⟩
  | e + 1, f, g, r, s, i, hr, hs, hi, hf, hg => by
    have hp : 2 ^ (e + 1) = 2 * 2 ^ e := by rw [Nat.pow_succ]; omega
    have h0 : 0 < 2 ^ e := Nat.two_pow_pos e
    generalize hE : 2 ^ (e + 1) = E at *
    have hE2 : E % 2 = 0 := by omega
    have hul := upL_length r
    have hus := upL_length s
    obtain ⟨ih1, ih2⟩ := proof_left e (f - 1) (g - 1) (upL r) (upL s) (i / 2) (by omega) (by omega) (by omega) (by omega) (by omega)
    have ho := oth_lt E i hE2 hi
    have hrs : (r ++ s).length = E + E := by rw [List.length_append, hr, hs]
    have hup := upL_append r s (by omega)
    have g1 : (r ++ s).getD (oth i) [] = r.getD (oth i) [] := by
      rw [List.getD_eq_getElem?_getD, List.getD_eq_getElem?_getD, List.getElem?_append_left (by omega)]
    have g2 : (r ++ s).getD (E + oth i) [] = s.getD (oth i) [] := by
      rw [List.getD_eq_getElem?_getD, List.getD_eq_getElem?_getD, List.getElem?_append_right (by omega), hr, Nat.add_sub_cancel_left]
    refine ⟨?_, ?_⟩
    · rw [proofF_up g (r ++ s) i (by omega) (by omega), proofF_up f r i (by omega) (by omega), topF_up f s (by omega) (by omega), if_pos (by omega), if_pos (by omega), g1, hup, ih1, List.append_assoc]
    · rw [proofF_up g (r ++ s) (E + i) (by omega) (by omega), proofF_up f s i (by omega) (by omega), topF_up f r (by omega) (by omega), oth_add E i hE2, if_pos (by omega), if_pos (by omega), g2, hup, show (E + i) / 2 = 2 ^ e + i / 2 by omega, ih2, List.append_assoc]
/-- The halves' proofs. -/
theorem prov_twos (e : Nat) (a b : List H32) (i : Nat) (ha : a.length = 2 ^ e) (hb : b.length = 2 ^ e) (hi : i < 2 ^ e) :
    (∃ x, provL (a ++ b) i = provL a i ++ [x]) ∧ (∃ x, provL (a ++ b) (2 ^ e + i) = provL b i ++ [x]) := by
  have h := proof_left e (2 ^ e) (2 * 2 ^ e) (a.map leafL) (b.map leafL) i (by rw [List.length_map, ha]) (by rw [List.length_map, hb]) hi (Nat.le_refl _) (Nat.le_refl _)
  have hl : (a ++ b).length = 2 * 2 ^ e := by rw [List.length_append, ha, hb]; omega
  unfold provL
  rw [hl, List.map_append, ha, hb]
  exact ⟨⟨_, h.1⟩, ⟨_, h.2⟩⟩
theorem prov_same (a b : List H32) (i : Nat) (h : a.length = b.length) : (provL a i).length = (provL b i).length := by
  unfold provL
  rw [proofF_length, proofF_length, List.length_map, List.length_map, h]
end Go.Proofs.Ytikphhhkikdhaaa
