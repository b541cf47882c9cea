/- Laws of trees: TreeLengths. -/
import Derived.Test.YtikphhhkikdhaaaTreeWorks
namespace Go.Proofs.Ytikphhhkikdhaaa
open Go.RowKit Go.Lib
set_option linter.unusedVariables false
set_option linter.unusedSimpArgs false

theorem digs_le : ∀ f n, digs f n ≤ f
  | 0, _ => by simp [digs]
  | f + 1, n => by
    have := digs_le f (n / 2)
    unfold digs
    split <;> omega
theorem digs_zero (f : Nat) : digs f 0 = 0 := by cases f <;> simp [digs]
theorem digs_half (f n : Nat) (h : 0 < n) (hf : n ≤ f) : digs f n = 1 + digs (f - 1) (n / 2) := by
  cases f with
  | zero => omega
  | succ f => rw [digs, if_neg (by omega)]; rfl
set_option maxRecDepth 100000 in
set_option maxHeartbeats 800000 in
theorem treeLengths_row (w : World) (v : Value) (l : List H32) (hv0 : Hs w v l) (hn : l.length ≤ 9223372036854775807) :
    Calls Try.prog 12 #[v] w fun e w' => e = .returned (.bool true) ∧ Below w.heap.size w w' := by
  obtain ⟨a, cap, rfl, hc1, hc2, hc0⟩ := hv0.shape
  have b := Below.refl w.heap.size w
  by_cases h : l.length ≤ 300
  · by_cases h0 : l.length = 0
    · rw [h0]
      go_enter Try.func12, Try.ntmps12
      go_wp2_with fail
      refine (works04 _).mono ?_
      rintro _ wc1 ⟨rfl, hc1⟩
      replace b := later b hc1
      clear hc1
      go_wp2_with fail
      go_ret
      exact ⟨rfl, b⟩
    · obtain ⟨D, hD⟩ : ∃ D, D = digs l.length (l.length - 1) := ⟨_, rfl⟩
      have hDl : D ≤ l.length := by rw [hD]; exact digs_le _ _
      have e0 : (provL l 0).length = D := by rw [provL, proofF_length, List.length_map, cnt_first _ _ (Nat.le_refl _), hD]
      have e1 : (provL l (l.length - 1)).length ≤ D := by rw [provL, proofF_length, List.length_map, hD]; exact cnt_le _ _ _ (Nat.le_refl _)
      have HP : Hid (∀ w, Hs w (.slice a l.length cap) l → Calls Try.prog 32 #[.slice a l.length cap, .int .i64 0] w (HsOk w (provL l 0))) := fun w h => prove_in _ l 0 w h (by omega) (by omega)
      have HL : Hid (∀ w, Hs w (.slice a l.length cap) l → Calls Try.prog 32 #[.slice a l.length cap, .int .i64 ((l.length : Int) - 1)] w (HsOk w (provL l (l.length - 1)))) := fun w h => by
        rw [show ((l.length : Int) - 1) = ((l.length - 1 : Nat) : Int) by omega]
        exact prove_in _ l (l.length - 1) w h (by omega) (by omega)
      have HD : Hid (0 + digs l.length (l.length - 1) = D) := by rw [hD]; unfold Hid; omega
      generalize provL l 0 = P0 at *
      generalize provL l (l.length - 1) = P1 at *
      have HE0 := hide e0
      clear hD e0
      generalize l.length = n at *
      have e2 : ((n : Int) - 1) = ((n - 1 : Nat) : Int) := by omega
      have E2 := hide e2
      have hne0 : ((n : Int) == 0) = false := beq_eq_false_iff_ne.2 (by omega)
      clear e2
      go_enter Try.func12, Try.ntmps12
      go_wp2_with fail
      go_loopw [3, 4] (fun d m wr => ∃ k m' f : Nat, d = .int .i64 k ∧ m = .int .i64 m' ∧ m' ≤ f ∧ m' ≤ 300 ∧ Hid (k + digs f m' = D) ∧ wr = w) (fun _ m _ => (RowKit.intOf m).toNat)
      case atStart => exact ⟨0, n - 1, n, rfl, by rw [E2.out], by omega, by omega, HD, rfl⟩
      case round =>
        obtain ⟨k, m, f, rfl, rfl, hmf, hm3, HK, rfl⟩ := hrel
        have hkD : k ≤ D := by have := HK.out; omega
        by_cases hm : 0 < m
        · have HK2 : Hid (k + 1 + digs (f - 1) (m / 2) = D) := by unfold Hid; rw [← HK.out, digs_half f m hm hmf]; omega
          clear HK
          go_wp2_with fail
          go_roundw
          case rel => exact ⟨k + 1, m / 2, f - 1, by simp, by simp, by omega, by omega, HK2, trivial⟩
          case measure => simp [RowKit.intOf]; omega
        · have hm0 : m = 0 := by omega
          subst hm0
          have hk : k = D := by have := HK.out; rw [digs_zero] at this; omega
          subst hk
          clear HK HD
          go_wp2_with fail
          refine (HP.out _ hv0).mono ?_
          rintro _ w1 ⟨v1, rfl, hs1, hb1⟩
          obtain ⟨a1, c1, rfl, _⟩ := hs1.shape
          rw [HE0.out]
          clear hs1
          replace hv0 := hv0.later hb1
          replace b := later b hb1
          go_wp2_with fail
          refine (HL.out _ hv0).mono ?_
          rintro _ w2 ⟨v2, rfl, hs2, hb2⟩
          obtain ⟨a2, c2, rfl, _⟩ := hs2.shape
          clear hs2
          replace hv0 := hv0.later hb2
          replace b := later b hb2
          generalize P1.length = q at *
          go_wp2_with fail
          refine (works04 _).mono ?_
          rintro _ wc2 ⟨rfl, hc2⟩
          replace b := later b hc2
          clear hc2
          go_wp2_with fail
          go_ret
          exact ⟨rfl, b⟩
  · generalize l.length = n at *
    go_enter Try.func12, Try.ntmps12
    go_wp2_with fail
    refine (works04 _).mono ?_
    rintro _ wc3 ⟨rfl, hc3⟩
    replace b := later b hc3
    clear hc3
    go_wp2_with fail
    go_ret
    exact ⟨rfl, b⟩
end Go.Proofs.Ytikphhhkikdhaaa
