/- The reference of layer 6: Check. -/
import Derived.Test.YtofjjpielkfloaaQEvoRef7
namespace Go.Proofs.Ytofjjpielkfloaa
open Go.RowKit Go.Lib
set_option linter.unusedVariables false
set_option linter.unusedSimpArgs false

theorem upE_congr (d p top : Nat) (f g : Nat → List UInt8) : ∀ (k : Nat) (h : List UInt8), (∀ i, i < top + k → f i = g i) → upE d p top f k h = upE d p top g k h
  | 0, _, _ => rfl
  | k + 1, h, e => by
    rw [upE, upE, e (top + k) (by omega)]
    exact upE_congr d p top f g k _ (fun i hi => e i (by omega))
def sideL (sig : ByteArray) (d : Nat) : List (List UInt8) := (List.range d).map (sideOf sig)
theorem sideL_length (sig : ByteArray) (d : Nat) : (sideL sig d).length = d := by unfold sideL; simp
theorem sideL_succ (sig : ByteArray) (d : Nat) : sideL sig (d + 1) = sideL sig d ++ [sideOf sig d] := by unfold sideL; rw [List.range_succ, List.map_append]; rfl
theorem sideL_get (sig : ByteArray) (d i : Nat) (h : i < d) : (sideL sig d).getD i [] = sideOf sig i := by
  unfold sideL
  rw [List.getD_eq_getElem?_getD, List.getElem?_map, List.getElem?_range h]
  rfl
/-- The first n bytes of a hash beside. -/
def partS (sig : ByteArray) (i n : Nat) : List UInt8 := (sideOf sig i).take n ++ zero32.drop n
theorem partS_zero (sig : ByteArray) (i : Nat) : partS sig i 0 = zero32 := by unfold partS; simp
theorem partS_full (sig : ByteArray) (i : Nat) (h : (sideOf sig i).length = 32) : partS sig i 32 = sideOf sig i := by
  unfold partS
  rw [List.take_of_length_le (by omega), List.drop_of_length_le (by decide), List.append_nil]
theorem partS_length (sig : ByteArray) (i n : Nat) (h : (sideOf sig i).length = 32) (hn : n ≤ 32) : (partS sig i n).length = 32 := by
  unfold partS
  have : zero32.length = 32 := rfl
  rw [List.length_append, List.length_take, List.length_drop, h, this]
  omega
theorem partS_succ (sig : ByteArray) (i n : Nat) (hn : n < 32) (h : 1024 + 32 * i + 32 ≤ sig.size) (hi : 1024 + 32 * i + n < sig.size) : (partS sig i n).set n sig[1024 + 32 * i + n] = partS sig i (n + 1) := by
  have hl := sideOf_length sig i h
  have h0 : zero32.length = 32 := rfl
  have hx : (sideOf sig i)[n]? = some sig[1024 + 32 * i + n] := by
    unfold sideOf
    rw [List.getElem?_take_of_lt hn]
    simp [ByteArray.getElem_eq_getElem_data]
    rw [List.getElem?_take_of_lt (by omega), List.getElem?_drop, List.getElem?_eq_getElem (by rw [Array.length_toList]; exact hi), Array.getElem_toList]
  unfold partS
  have ht : ((sideOf sig i).take n).length = n := by rw [List.length_take, hl]; omega
  rw [List.set_append, if_neg (by rw [ht]; omega), ht, Nat.sub_self, List.drop_eq_getElem_cons (by rw [h0]; omega), List.set_cons_zero]
  rw [List.take_succ_eq_append_getElem (by omega), List.append_assoc]
  obtain ⟨h2, h3⟩ := List.getElem?_eq_some_iff.1 hx
  rw [h3]
  rfl
set_option maxRecDepth 100000 in
set_option maxHeartbeats 3200000 in
theorem refCheck06_no (pub m : List UInt8) (d n : Int) (sig : ByteArray) (w : World) (hp : pub.length = 32) (hm : m.length = 32) (hbad : ¬ (perB d n = true ∧ (sig.size : Int) = 1024 + 32 * d)) :
    Calls Try.prog 33 #[hv pub, .int .i64 d, .int .i64 n, hv m, .string sig] w fun e w' => e = .returned (.bool (checkE pub d n m sig)) ∧ Below w.heap.size w w' := by
  have HP := hide hp
  have HM := hide hm
  have b := Below.refl w.heap.size w
  obtain ⟨R, hR⟩ : ∃ R, R = checkE pub d n m sig := ⟨_, rfl⟩
  rw [← hR]
  have HRD : Hid (checkE pub d n m sig = R) := hR.symm
  clear hR hp hm
  unfold hv
  have mF1 := True.intro
  have mF2 := True.intro
  have mF3 := True.intro
  have no : perB d n = false → R = false := fun h => by rw [← HRD.out]; unfold checkE; rw [h]; rfl
  have no' : ¬ (0 ≤ d ∧ d ≤ 4 ∧ 0 ≤ n ∧ n < 2 ^ d.toNat) → R = false := fun h => no (decide_eq_false h)
  clear no
  by_cases h1 : d < 0
  · have hR := no' (by omega)
    subst hR
    clear no'
    go_enter Try.func33, Try.ntmps33
    go_wp2_with (first | (with_reducible show wpList _ _ _ (⟨_, Op.box _ _, _, _, _, _⟩ :: _) _ _; clear mF1; refine wpl_box_hash rfl _ rfl rfl HP.out ?_; intro _ g5 hg5 F1 hb; (try have := F1.lt); (try have := F2.lt); (try have := F3.lt); (try have := F4.lt); (try have := F5.lt); (try have := F6.lt); (try have := F7.lt); (try have := F8.lt); (try have := F9.lt); (try have := z.lt); (try have := G1.lt); (try have := G2.lt); (try have := G3.lt); (try have := b.size); (try replace F1 := F1.later hb); (try replace F2 := F2.later hb); (try replace F3 := F3.later hb); (try replace F4 := F4.later hb); (try replace F5 := F5.later hb); (try replace F6 := F6.later hb); (try replace F7 := F7.later hb); (try replace F8 := F8.later hb); (try replace F9 := F9.later hb); (try replace G1 := G1.later hb); (try replace G2 := G2.later hb); (try replace G3 := G3.later hb); (try replace z := z.later hb); (try replace b := later b hb); (try replace bB := mixed hB bB hb); clear hb) | (with_reducible show wpList _ _ _ (⟨_, Op.box _ _, _, _, _, _⟩ :: _) _ _; clear mF2; refine wpl_box_hash rfl _ rfl rfl HM.out ?_; intro _ g8 hg8 F2 hb; (try have := F1.lt); (try have := F2.lt); (try have := F3.lt); (try have := F4.lt); (try have := F5.lt); (try have := F6.lt); (try have := F7.lt); (try have := F8.lt); (try have := F9.lt); (try have := z.lt); (try have := G1.lt); (try have := G2.lt); (try have := G3.lt); (try have := b.size); (try replace F1 := F1.later hb); (try replace F2 := F2.later hb); (try replace F3 := F3.later hb); (try replace F4 := F4.later hb); (try replace F5 := F5.later hb); (try replace F6 := F6.later hb); (try replace F7 := F7.later hb); (try replace F8 := F8.later hb); (try replace F9 := F9.later hb); (try replace G1 := G1.later hb); (try replace G2 := G2.later hb); (try replace G3 := G3.later hb); (try replace z := z.later hb); (try replace b := later b hb); (try replace bB := mixed hB bB hb); clear hb))
    go_ret
    exact ⟨rfl, b⟩
  by_cases h2 : 4 < d
  · have hR := no' (by omega)
    subst hR
    clear no'
    go_enter Try.func33, Try.ntmps33
    go_wp2_with (first | (with_reducible show wpList _ _ _ (⟨_, Op.box _ _, _, _, _, _⟩ :: _) _ _; clear mF1; refine wpl_box_hash rfl _ rfl rfl HP.out ?_; intro _ g5 hg5 F1 hb; (try have := F1.lt); (try have := F2.lt); (try have := F3.lt); (try have := F4.lt); (try have := F5.lt); (try have := F6.lt); (try have := F7.lt); (try have := F8.lt); (try have := F9.lt); (try have := z.lt); (try have := G1.lt); (try have := G2.lt); (try have := G3.lt); (try have := b.size); (try replace F1 := F1.later hb); (try replace F2 := F2.later hb); (try replace F3 := F3.later hb); (try replace F4 := F4.later hb); (try replace F5 := F5.later hb); (try replace F6 := F6.later hb); (try replace F7 := F7.later hb); (try replace F8 := F8.later hb); (try replace F9 := F9.later hb); (try replace G1 := G1.later hb); (try replace G2 := G2.later hb); (try replace G3 := G3.later hb); (try replace z := z.later hb); (try replace b := later b hb); (try replace bB := mixed hB bB hb); clear hb) | (with_reducible show wpList _ _ _ (⟨_, Op.box _ _, _, _, _, _⟩ :: _) _ _; clear mF2; refine wpl_box_hash rfl _ rfl rfl HM.out ?_; intro _ g8 hg8 F2 hb; (try have := F1.lt); (try have := F2.lt); (try have := F3.lt); (try have := F4.lt); (try have := F5.lt); (try have := F6.lt); (try have := F7.lt); (try have := F8.lt); (try have := F9.lt); (try have := z.lt); (try have := G1.lt); (try have := G2.lt); (try have := G3.lt); (try have := b.size); (try replace F1 := F1.later hb); (try replace F2 := F2.later hb); (try replace F3 := F3.later hb); (try replace F4 := F4.later hb); (try replace F5 := F5.later hb); (try replace F6 := F6.later hb); (try replace F7 := F7.later hb); (try replace F8 := F8.later hb); (try replace F9 := F9.later hb); (try replace G1 := G1.later hb); (try replace G2 := G2.later hb); (try replace G3 := G3.later hb); (try replace z := z.later hb); (try replace b := later b hb); (try replace bB := mixed hB bB hb); clear hb))
    go_ret
    exact ⟨rfl, b⟩
  by_cases h3 : n < 0
  · have hR := no' (by omega)
    subst hR
    clear no'
    go_enter Try.func33, Try.ntmps33
    go_wp2_with (first | (with_reducible show wpList _ _ _ (⟨_, Op.box _ _, _, _, _, _⟩ :: _) _ _; clear mF1; refine wpl_box_hash rfl _ rfl rfl HP.out ?_; intro _ g5 hg5 F1 hb; (try have := F1.lt); (try have := F2.lt); (try have := F3.lt); (try have := F4.lt); (try have := F5.lt); (try have := F6.lt); (try have := F7.lt); (try have := F8.lt); (try have := F9.lt); (try have := z.lt); (try have := G1.lt); (try have := G2.lt); (try have := G3.lt); (try have := b.size); (try replace F1 := F1.later hb); (try replace F2 := F2.later hb); (try replace F3 := F3.later hb); (try replace F4 := F4.later hb); (try replace F5 := F5.later hb); (try replace F6 := F6.later hb); (try replace F7 := F7.later hb); (try replace F8 := F8.later hb); (try replace F9 := F9.later hb); (try replace G1 := G1.later hb); (try replace G2 := G2.later hb); (try replace G3 := G3.later hb); (try replace z := z.later hb); (try replace b := later b hb); (try replace bB := mixed hB bB hb); clear hb) | (with_reducible show wpList _ _ _ (⟨_, Op.box _ _, _, _, _, _⟩ :: _) _ _; clear mF2; refine wpl_box_hash rfl _ rfl rfl HM.out ?_; intro _ g8 hg8 F2 hb; (try have := F1.lt); (try have := F2.lt); (try have := F3.lt); (try have := F4.lt); (try have := F5.lt); (try have := F6.lt); (try have := F7.lt); (try have := F8.lt); (try have := F9.lt); (try have := z.lt); (try have := G1.lt); (try have := G2.lt); (try have := G3.lt); (try have := b.size); (try replace F1 := F1.later hb); (try replace F2 := F2.later hb); (try replace F3 := F3.later hb); (try replace F4 := F4.later hb); (try replace F5 := F5.later hb); (try replace F6 := F6.later hb); (try replace F7 := F7.later hb); (try replace F8 := F8.later hb); (try replace F9 := F9.later hb); (try replace G1 := G1.later hb); (try replace G2 := G2.later hb); (try replace G3 := G3.later hb); (try replace z := z.later hb); (try replace b := later b hb); (try replace bB := mixed hB bB hb); clear hb))
    go_ret
    exact ⟨rfl, b⟩
  have ew : wrap64 (2 ^ d.toNat) = 2 ^ d.toNat := by
    rcases (by omega : d.toNat = 0 ∨ d.toNat = 1 ∨ d.toNat = 2 ∨ d.toNat = 3 ∨ d.toNat = 4) with h | h | h | h | h <;> rw [h] <;> decide +kernel
  by_cases h4 : wrap64 (2 ^ d.toNat) ≤ n
  · have hR := no' (by rw [← ew]; omega)
    subst hR
    clear no' ew
    go_enter Try.func33, Try.ntmps33
    go_wp2_with (first | (with_reducible show wpList _ _ _ (⟨_, Op.box _ _, _, _, _, _⟩ :: _) _ _; clear mF1; refine wpl_box_hash rfl _ rfl rfl HP.out ?_; intro _ g5 hg5 F1 hb; (try have := F1.lt); (try have := F2.lt); (try have := F3.lt); (try have := F4.lt); (try have := F5.lt); (try have := F6.lt); (try have := F7.lt); (try have := F8.lt); (try have := F9.lt); (try have := z.lt); (try have := G1.lt); (try have := G2.lt); (try have := G3.lt); (try have := b.size); (try replace F1 := F1.later hb); (try replace F2 := F2.later hb); (try replace F3 := F3.later hb); (try replace F4 := F4.later hb); (try replace F5 := F5.later hb); (try replace F6 := F6.later hb); (try replace F7 := F7.later hb); (try replace F8 := F8.later hb); (try replace F9 := F9.later hb); (try replace G1 := G1.later hb); (try replace G2 := G2.later hb); (try replace G3 := G3.later hb); (try replace z := z.later hb); (try replace b := later b hb); (try replace bB := mixed hB bB hb); clear hb) | (with_reducible show wpList _ _ _ (⟨_, Op.box _ _, _, _, _, _⟩ :: _) _ _; clear mF2; refine wpl_box_hash rfl _ rfl rfl HM.out ?_; intro _ g8 hg8 F2 hb; (try have := F1.lt); (try have := F2.lt); (try have := F3.lt); (try have := F4.lt); (try have := F5.lt); (try have := F6.lt); (try have := F7.lt); (try have := F8.lt); (try have := F9.lt); (try have := z.lt); (try have := G1.lt); (try have := G2.lt); (try have := G3.lt); (try have := b.size); (try replace F1 := F1.later hb); (try replace F2 := F2.later hb); (try replace F3 := F3.later hb); (try replace F4 := F4.later hb); (try replace F5 := F5.later hb); (try replace F6 := F6.later hb); (try replace F7 := F7.later hb); (try replace F8 := F8.later hb); (try replace F9 := F9.later hb); (try replace G1 := G1.later hb); (try replace G2 := G2.later hb); (try replace G3 := G3.later hb); (try replace z := z.later hb); (try replace b := later b hb); (try replace bB := mixed hB bB hb); clear hb))
    go_ret
    exact ⟨rfl, b⟩
  have hper : perB d n = true := decide_eq_true ⟨by omega, by omega, by omega, by rw [← ew]; omega⟩
  obtain ⟨_, _, _, _, hn16⟩ := perB_small hper
  have h4' : n < wrap64 (2 ^ d.toNat) := Int.not_le.1 h4
  have hb4 : decide (wrap64 (2 ^ d.toNat) ≤ n) = false := decide_eq_false (by omega)
  by_cases h5 : (sig.size : Int) = 1024 + 32 * d
  case neg =>
    have hR : R = false := by rw [← HRD.out]; unfold checkE; rw [hper, decide_eq_false h5]; rfl
    subst hR
    have e5 : ((sig.size : Int) != 1024 + 32 * d) = true := by simpa using h5
    clear no' ew HRD hper h5 h4
    go_enter Try.func33, Try.ntmps33
    go_wp2_with (first | (with_reducible show wpList _ _ _ (⟨_, Op.box _ _, _, _, _, _⟩ :: _) _ _; clear mF1; refine wpl_box_hash rfl _ rfl rfl HP.out ?_; intro _ g5 hg5 F1 hb; (try have := F1.lt); (try have := F2.lt); (try have := F3.lt); (try have := F4.lt); (try have := F5.lt); (try have := F6.lt); (try have := F7.lt); (try have := F8.lt); (try have := F9.lt); (try have := z.lt); (try have := G1.lt); (try have := G2.lt); (try have := G3.lt); (try have := b.size); (try replace F1 := F1.later hb); (try replace F2 := F2.later hb); (try replace F3 := F3.later hb); (try replace F4 := F4.later hb); (try replace F5 := F5.later hb); (try replace F6 := F6.later hb); (try replace F7 := F7.later hb); (try replace F8 := F8.later hb); (try replace F9 := F9.later hb); (try replace G1 := G1.later hb); (try replace G2 := G2.later hb); (try replace G3 := G3.later hb); (try replace z := z.later hb); (try replace b := later b hb); (try replace bB := mixed hB bB hb); clear hb) | (with_reducible show wpList _ _ _ (⟨_, Op.box _ _, _, _, _, _⟩ :: _) _ _; clear mF2; refine wpl_box_hash rfl _ rfl rfl HM.out ?_; intro _ g8 hg8 F2 hb; (try have := F1.lt); (try have := F2.lt); (try have := F3.lt); (try have := F4.lt); (try have := F5.lt); (try have := F6.lt); (try have := F7.lt); (try have := F8.lt); (try have := F9.lt); (try have := z.lt); (try have := G1.lt); (try have := G2.lt); (try have := G3.lt); (try have := b.size); (try replace F1 := F1.later hb); (try replace F2 := F2.later hb); (try replace F3 := F3.later hb); (try replace F4 := F4.later hb); (try replace F5 := F5.later hb); (try replace F6 := F6.later hb); (try replace F7 := F7.later hb); (try replace F8 := F8.later hb); (try replace F9 := F9.later hb); (try replace G1 := G1.later hb); (try replace G2 := G2.later hb); (try replace G3 := G3.later hb); (try replace z := z.later hb); (try replace b := later b hb); (try replace bB := mixed hB bB hb); clear hb))
    go_ret
    exact ⟨rfl, b⟩
  exact absurd ⟨hper, h5⟩ hbad
end Go.Proofs.Ytofjjpielkfloaa
