/- Keys that forget: the plain laws of signing and checking, and of the way from key to key. No walk in sight. -/
import Derived.Test.YtofjjpielkfloaaQEvo7
import Derived.Test.YtofjjpielkfloaaQEvoRef5
namespace Go.Proofs.Ytofjjpielkfloaa
open Go.RowKit Go.Lib
set_option linter.unusedVariables false
set_option linter.unusedSimpArgs false

theorem toList_extract (l : List UInt8) (i j : Nat) : ((⟨l.toArray⟩ : ByteArray).extract i j).data.toList = (l.drop i).take (j - i) := by
  simp
theorem bytes_eq {s t : ByteArray} (h : s.data.toList = t.data.toList) : s = t := by
  apply ByteArray.ext
  exact Array.toList_inj.1 h
theorem sig_first (G X : List UInt8) (h : G.length = 1024) : (⟨(G ++ X).toArray⟩ : ByteArray).extract 0 1024 = ⟨G.toArray⟩ := by
  apply bytes_eq
  rw [toList_extract, List.drop_zero, Nat.sub_zero, ← h, List.take_left]
theorem flat_cut : ∀ (side : List (List UInt8)) (i : Nat), (∀ x ∈ side, x.length = 32) → i < side.length → (side.flatten.drop (32 * i)).take 32 = side.getD i []
  | [], i, _, h => by simp at h
  | x :: r, 0, hl, _ => by
    have h := hl x (by simp)
    rw [List.flatten_cons, Nat.mul_zero, List.drop_zero, ← h, List.take_left]
    rfl
  | x :: r, i + 1, hl, hi => by
    have h := hl x (by simp)
    rw [List.flatten_cons, show 32 * (i + 1) = x.length + 32 * i by omega, List.drop_append, List.drop_of_length_le (by omega), List.nil_append, Nat.add_sub_cancel_left]
    exact flat_cut r i (fun y hy => hl y (by simp [hy])) (by simpa using hi)
theorem flat_len : ∀ (side : List (List UInt8)), (∀ x ∈ side, x.length = 32) → side.flatten.length = 32 * side.length
  | [], _ => rfl
  | x :: r, hl => by rw [List.flatten_cons, List.length_append, hl x (by simp), flat_len r (fun y hy => hl y (by simp [hy])), List.length_cons]; omega
theorem sideOf_sig (G : List UInt8) (side : List (List UInt8)) (h : G.length = 1024) (hl : ∀ x ∈ side, x.length = 32) (i : Nat) (hi : i < side.length) : sideOf ⟨(G ++ side.flatten).toArray⟩ i = side.getD i [] := by
  unfold sideOf
  have hf := flat_len side hl
  rw [toList_extract]
  have hs : (⟨(G ++ side.flatten).toArray⟩ : ByteArray).size = 1024 + 32 * side.length := by
    show (G ++ side.flatten).toArray.size = _
    rw [List.size_toArray, List.length_append, h, hf]
  rw [hs, show 1024 + 32 * i = G.length + 32 * i by omega, List.drop_append, List.drop_of_length_le (by omega), List.nil_append, Nat.add_sub_cancel_left, List.take_take, Nat.min_eq_left (by omega)]
  exact flat_cut side i hl hi
/-- A key's lists are lists of hashes. -/
def Whole (k : Evo) : Prop := k.leaf.length = 32 ∧ (∀ x ∈ k.right, x.length = 32) ∧ ∀ x ∈ k.side, x.length = 32
theorem upE_ext (d p top : Nat) (f g : Nat → List UInt8) : ∀ (k : Nat) (h : List UInt8), (∀ i, i < top + k → f i = g i) → upE d p top f k h = upE d p top g k h
  | 0, _, _ => rfl
  | k + 1, h, e => by
    rw [upE, upE, e (top + k) (by omega)]
    exact upE_ext d p top f g k _ (fun i hi => e i (by omega))
theorem sig_size {k : Evo} (m : List UInt8) (hk : Whole k) (hm : mayE k = true) : ((⟨(sigK k m).toArray⟩ : ByteArray).size : Int) = 1024 + 32 * k.d := by
  obtain ⟨d, p, hd, hp, _, _, _, _, hsl, _⟩ := mayE_is hm
  have : (⟨(sigK k m).toArray⟩ : ByteArray).size = (sigK k m).length := List.size_toArray
  rw [this]
  unfold sigK
  rw [if_pos hm, List.length_append, signL_length, flat_len _ hk.2.2, hsl, hd]
  omega
/-- What a key signs, checked for any period of its depth. -/
theorem check_sig {k : Evo} (m pub : List UInt8) (n : Int) (hk : Whole k) (hm : mayE k = true) :
    checkE pub k.d n m ⟨(sigK k m).toArray⟩ = (perB k.d n && decide (upE k.d.toNat n.toNat 0 (fun i => k.side.getD i []) k.d.toNat (publicL k.leaf) = pub)) := by
  have hz := sig_size m hk hm
  obtain ⟨d, p, hd, hp, _, _, _, _, hsl, _⟩ := mayE_is hm
  unfold checkE
  rw [decide_eq_true hz, Bool.and_true]
  have hsig : sigK k m = signL k.leaf m ++ k.side.flatten := by unfold sigK; rw [if_pos hm]
  rw [hsig, sig_first _ _ (signL_length _ _), tells_sign]
  rw [upE_ext _ _ _ (sideOf ⟨(signL k.leaf m ++ k.side.flatten).toArray⟩) (fun i => k.side.getD i []) _ _ (fun i hi => sideOf_sig _ _ (signL_length _ _) hk.2.2 i (by rw [hsl]; have : k.d.toNat = d := by rw [hd]; simp
                                                                                                                                                                      omega))]
end Go.Proofs.Ytofjjpielkfloaa
