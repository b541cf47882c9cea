/- Once, in plain words: a signature tells the public key of the seed that made it. -/
import Derived.Test.YtikphhhkikdhaaaOnceTells
import Derived.Test.YtikphhhkikdhaaaOnceSign
import Derived.Test.YtikphhhkikdhaaaOnceKey
namespace Go.Proofs.Ytikphhhkikdhaaa
open Go.RowKit Go.Lib

theorem joinM_parts (m : Nat → List UInt8 × List UInt8) (i : Nat) : ∀ d, ∃ rest, joinM m (i + 1 + d) = joinM m i ++ (m i).1 ++ (m i).2 ++ rest
  | 0 => ⟨[], by rw [Nat.add_zero, joinM_succ]; simp⟩
  | d + 1 => by
    obtain ⟨rest, h⟩ := joinM_parts m i d
    refine ⟨rest ++ (m (i + 1 + d)).1 ++ (m (i + 1 + d)).2, ?_⟩
    rw [← Nat.add_assoc, joinM_succ, h]
    simp
theorem joinM_cut (m : Nat → List UInt8 × List UInt8) (hm : ∀ i, (m i).1.length = 32 ∧ (m i).2.length = 32) (i : Nat) (hi : i < 16) :
    ((joinM m 16).drop (64 * i)).take 32 = (m i).1 ∧ ((joinM m 16).drop (64 * i + 32)).take 32 = (m i).2 := by
  obtain ⟨rest, h⟩ := joinM_parts m i (15 - i)
  rw [show i + 1 + (15 - i) = 16 by omega] at h
  have hl := joinM_length m hm i
  obtain ⟨h1, h2⟩ := hm i
  rw [h]
  generalize joinM m i = p at *
  generalize (m i).1 = x at *
  generalize (m i).2 = y at *
  constructor
  · rw [← hl, List.append_assoc, List.append_assoc, List.drop_left, ← h1, List.take_left]
  · rw [show 64 * i + 32 = (p ++ x).length by rw [List.length_append, hl, h1], List.append_assoc, List.drop_left, ← h2, List.take_left]
theorem joinM_congr (m n : Nat → List UInt8 × List UInt8) (h : ∀ i, i < 16 → m i = n i) : joinM m 16 = joinM n 16 := by
  unfold joinM
  rw [List.flatMap_def, List.flatMap_def]
  congr 1
  apply List.map_congr_left
  intro i hi
  rw [h i (by simpa using hi)]
theorem tell_sign (seed m : List UInt8) (i : Nat) (hi : i < 16) : tellM m ⟨(signL seed m).toArray⟩ i = seedM seed i := by
  obtain ⟨h1, h2⟩ := joinM_cut (signM seed m) (signM_length seed m) i hi
  have e1 : cut ⟨(signL seed m).toArray⟩ (64 * i) (64 * i + 32) = (signM seed m i).1 := by rw [cut_eq, ← h1, show 64 * i + 32 - 64 * i = 32 by omega]; rfl
  have e2 : cut ⟨(signL seed m).toArray⟩ (64 * i + 32) (64 * i + 64) = (signM seed m i).2 := by rw [cut_eq, ← h2, show 64 * i + 64 - (64 * i + 32) = 32 by omega]; rfl
  unfold tellM seedM
  rw [if_neg (by omega), e1, e2]
  have hb := bitL_lt m i
  unfold signM
  split
  · rename_i h0
    rw [h0]
  · rename_i h0
    rw [show bitL m i = 1 by omega]
theorem tells_sign (seed m : List UInt8) : tellsL m ⟨(signL seed m).toArray⟩ = publicL seed := by
  unfold tellsL publicL onceL
  rw [joinM_congr _ _ (tell_sign seed m)]
end Go.Proofs.Ytikphhhkikdhaaa
