/- The reference of layer 6: Digits, Over. -/
import Derived.Test.YtofjjpielkfloaaQEvoRef1
import Derived.Test.YtofjjpielkfloaaQRowE
namespace Go.Proofs.Ytofjjpielkfloaa
open Go.RowKit Go.Lib
set_option linter.unusedVariables false
set_option linter.unusedSimpArgs false

theorem elemOf_mk {P : Program} {t e sz by' : Nat} (ht : P.underlying t = some (.slice e)) (hz : 0 < sz) (h : (P.info? e).map (fun i => (i.size, i.bytes, i.zero.map (·.cells.size))) = some (sz, by', some sz)) : ElemOf P t e sz by' := by
  obtain ⟨i, hi, h1⟩ := Option.map_eq_some_iff.1 h
  simp only [Prod.mk.injEq] at h1
  obtain ⟨h2, h3, h4⟩ := h1
  obtain ⟨z, hz', h5⟩ := Option.map_eq_some_iff.1 h4
  exact ⟨ht, hz, i, z, hi, hz', h2, h3, h5⟩
theorem boolElem : ElemOf Try.prog 85 4 1 1 := elemOf_mk Try.underlying85 (by decide) (by kernel_rfl)
/-- The lowest k bits of p, the highest first. -/
def lowB (p : Nat) : Nat → List (List Value)
  | 0 => []
  | k + 1 => [.bool (decide (p / 2 ^ k % 2 = 1))] :: lowB p k
theorem lowB_length (p : Nat) : ∀ k, (lowB p k).length = k
  | 0 => rfl
  | k + 1 => by rw [lowB, List.length_cons, lowB_length p k]
theorem lowB_get (p : Nat) : ∀ d i, i < d → (lowB p d)[i]? = some [.bool (wayB d p i)]
  | 0, i, h => by omega
  | d + 1, 0, _ => by rw [lowB]; unfold wayB; simp
  | d + 1, i + 1, h => by
    rw [lowB, List.getElem?_cons_succ, lowB_get p d i (by omega)]
    unfold wayB
    rw [show d + 1 - 1 - (i + 1) = d - 1 - i by omega]
set_option maxRecDepth 100000 in
set_option maxHeartbeats 1600000 in
theorem digits_any (d p : Nat) (hd : d ≤ 4) (hp : p < 16) (w : World) :
    Calls Try.prog 65 #[.int .i64 d, .int .i64 p] w fun e w' => ∃ a c, e = .returned (.slice a d c) ∧ OwnR w' w.heap.size 4 1 (.slice a d c) (lowB p d) [] ∧ Below w.heap.size w w' := by
  have b := Below.refl w.heap.size w
  have F1 := OwnR.nil w w.heap.size 4 1
  go_enter Try.func65, Try.ntmps65
  go_wp2_with fail
  go_loopw [1, 5, 6] (fun q o i wr => ∃ (k m : Nat) (a : Option Addr) (c : Nat), i = .int .i64 k ∧ k ≤ d ∧ q = .int .i64 m ∧ Hid (m = p / 2 ^ k) ∧ m < 16 ∧ o = .slice a k c ∧ OwnR wr w.heap.size 4 1 (.slice a k c) (lowB p k) [] ∧ Below w.heap.size w wr) (fun _ _ i _ => d - (RowKit.intOf i).toNat)
  case atStart => exact ⟨0, p, none, 0, rfl, by omega, rfl, by unfold Hid; simp, hp, rfl, F1, b⟩
  case round =>
    clear F1 b
    obtain ⟨k, m, a, c, rfl, hk, rfl, HM, hm, rfl, F1, b⟩ := hrel
    by_cases hlt : k < d
    · have hbit : (((m : Int) % 2) == 1) = decide (p / 2 ^ k % 2 = 1) := by
        rw [← HM.out]
        by_cases h : m % 2 = 1
        · rw [decide_eq_true h]; exact beq_iff_eq.2 (by omega)
        · rw [decide_eq_false h]; exact beq_eq_false_iff_ne.2 (by omega)
      have HL : Hid (lowB p (k + 1) = [[.bool (decide (p / 2 ^ k % 2 = 1))]] ++ lowB p k) := rfl
      have HLL := hide (lowB_length p k)
      have HM' : Hid (m / 2 = p / 2 ^ (k + 1)) := by unfold Hid; rw [HM.out, Nat.div_div_eq_div_mul, ← Nat.pow_succ]
      have hd2 : (m : Int) / 2 = ((m / 2 : Nat) : Int) := by omega
      have HB := hide hbit
      have HD2 := hide hd2
      clear HM hbit hd2
      generalize decide (p / 2 ^ k % 2 = 1) = bt at *
      go_wp2_with (first | ((with_reducible show wpList _ _ _ (⟨_, Op.buildSlice _ _ _, _, _, _, _⟩ :: _) _ _); refine wpl_row1 rfl boolElem (by decide) _ rfl (v := .bool (((m : Int) % 2) == 1)) (el := [.bool (((m : Int) % 2) == 1)]) rfl rfl rfl (by intro u hu; simp at hu; subst hu; rfl) ?_; intro _ gs _ F2 hb; have qb := b.size; (try replace F1 := F1.later hb); (try replace F2 := F2.later hb); (try replace F3 := F3.later hb); (try replace F4 := F4.later hb); (try replace F5 := F5.later hb); (try replace F6 := F6.later hb); (try replace F7 := F7.later hb); (try replace F8 := F8.later hb); (try replace F9 := F9.later hb); (try replace G1 := G1.later hb); (try replace G2 := G2.later hb); (try replace G3 := G3.later hb); (try replace z := z.later hb); (try replace b := later b hb); (try replace bB := mixed hB bB hb); have F3 := F2.base qb; clear hb F2) | (with_reducible show wpList _ _ _ (⟨_, Op.call _, _, _, _, _⟩ :: _) _ _; generalize hstop : wpList _ _ _ _ _ _ = Gstop))
      rw [← hstop]; clear hstop
      rw [HB.out] at F3
      refine wpl_append_row rfl _ _ boolElem rfl rfl F3 rfl F1.sl F1.2.1 (k + 1) (by rw [HLL.out]; simp; omega) (by omega) (by omega) (by have := b.size; omega) ?_
      intro a2 c2 w2 O2 ht hob
      have b2 := b.trans (ht.below (by have := b.size; omega) (fun x hx => (World.ownsRow.lt F3.1 x hx).1))
      have O3 := O2
      rw [← HL.out] at O3
      clear F1 F3 b O2 ht hob
      have b := b2
      have F1 := O3
      clear b2 O3
      go_wp2_with fail
      go_roundw
      case rel => exact ⟨k + 1, m / 2, a2, c2, by simp, by omega, by rw [HD2.out], HM', by omega, rfl, F1, b⟩
      case measure => simp [RowKit.intOf]; omega
    · obtain rfl : k = d := by omega
      go_wp2_with fail
      go_ret
      exact ⟨a, c, rfl, F1, b⟩
end Go.Proofs.Ytofjjpielkfloaa
