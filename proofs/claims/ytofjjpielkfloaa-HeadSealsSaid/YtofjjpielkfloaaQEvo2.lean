/- Package evolve: right, period, up. -/
import Derived.Test.YtofjjpielkfloaaQEvo1
namespace Go.Proofs.Ytofjjpielkfloaa
open Go.RowKit Go.Lib
set_option linter.unusedVariables false
set_option linter.unusedSimpArgs false

theorem and_one (m : Nat) (h : m < 4611686018427387904) : bits BinOp.and IntKind.i64 (m : Int) 1 = ((m % 2 : Nat) : Int) := by
  have h1 : (BitVec.ofInt 64 (m : Int)).toNat = m := by
    rw [BitVec.ofInt_natCast, BitVec.toNat_ofNat]; exact Nat.mod_eq_of_lt (by omega)
  have h2 : (BitVec.ofInt 64 1).toNat = 1 := by decide
  show IntKind.i64.wrap ((BitVec.ofInt 64 (m : Int) &&& BitVec.ofInt 64 1).toNat : Int) = _
  rw [BitVec.toNat_and, h1, h2, Nat.and_one_is_mod]
  exact IntWalk.i64_in _ ⟨by omega, by omega⟩
set_option maxRecDepth 100000 in
set_option maxHeartbeats 800000 in
theorem right_any (d p i : Nat) (hi : i < d) (hd : d ≤ 4) (hp : p < 16) (w : World) :
    Calls Try.prog 56 #[.int .i64 d, .int .i64 p, .int .i64 i] w fun e w' => e = .returned (.bool (wayB d p i)) ∧ Below w.heap.size w w' := by
  have e1 : (d : Int) - 1 - (i : Int) = ((d - 1 - i : Nat) : Int) := by omega
  have b := Below.refl w.heap.size w
  go_enter Try.func56, Try.ntmps56
  go_wp2_with fail
  go_ret
  refine ⟨?_, b⟩
  show Ending.returned (.bool (bits BinOp.and IntKind.i64 (↑p / 2 ^ (d - 1 - i)) 1 == 1)) = _
  have e2 : ((p : Int) / 2 ^ (d - 1 - i)) = ((p / 2 ^ (d - 1 - i) : Nat) : Int) := by simp
  have e3 : p / 2 ^ (d - 1 - i) ≤ p := Nat.div_le_self _ _
  rw [e2, and_one _ (by omega)]
  unfold wayB
  congr 2
  by_cases h : p / 2 ^ (d - 1 - i) % 2 = 1
  · rw [h]; rfl
  · rw [show p / 2 ^ (d - 1 - i) % 2 = 0 by omega]; rfl
set_option maxRecDepth 100000 in
set_option maxHeartbeats 800000 in
theorem period_any (d p : Int) (w : World) :
    Calls Try.prog 67 #[.int .i64 d, .int .i64 p] w fun e w' => e = .returned (.bool (perB d p)) ∧ Below w.heap.size w w' := by
  have b := Below.refl w.heap.size w
  have no : ¬ (0 ≤ d ∧ d ≤ 4 ∧ 0 ≤ p) → perB d p = false := fun h => decide_eq_false (fun h' => h ⟨h'.1, h'.2.1, h'.2.2.1⟩)
  by_cases h1 : 0 ≤ d
  · by_cases h2 : d ≤ 4
    · by_cases h3 : 0 ≤ p
      · have e : wrap64 (2 ^ d.toNat) = 2 ^ d.toNat := by
          rcases (by omega : d.toNat = 0 ∨ d.toNat = 1 ∨ d.toNat = 2 ∨ d.toNat = 3 ∨ d.toNat = 4) with h | h | h | h | h <;> rw [h] <;> decide +kernel
        have e2 : perB d p = decide (p < 2 ^ d.toNat) := decide_eq_decide.2 ⟨fun h => h.2.2.2, fun h => ⟨h1, h2, h3, h⟩⟩
        have E := hide e
        rw [e2]
        clear e e2 no
        go_enter Try.func67, Try.ntmps67
        go_wp2_with fail
        go_ret
        refine ⟨?_, b⟩
        show Ending.returned (.bool (decide (p < wrap64 (2 ^ d.toNat)))) = _
        rw [E.out]
      · rw [no (by omega)]
        clear no
        go_enter Try.func67, Try.ntmps67
        go_wp2_with fail
        go_ret
        exact ⟨rfl, b⟩
    · rw [no (by omega)]
      clear no
      go_enter Try.func67, Try.ntmps67
      go_wp2_with fail
      go_ret
      exact ⟨rfl, b⟩
  · rw [no (by omega)]
    clear no
    go_enter Try.func67, Try.ntmps67
    go_wp2_with fail
    go_ret
    exact ⟨rfl, b⟩
set_option maxRecDepth 100000 in
set_option maxHeartbeats 1600000 in
theorem up_pub (h : List UInt8) (d p top : Nat) (side : Nat → List UInt8) (c : Value) (w : World) (hh : h.length = 32) (hd : d ≤ 4) (hp : p < 16) (ht : top ≤ d) (hsl : ∀ i, top ≤ i → i < d → (side i).length = 32)
    (hC : ∀ i w', top ≤ i → i < d → Below w.heap.size w w' → Calls Try.prog 68 #[.int .i64 (i : Nat), c] w' fun e w'' => e = .returned (hv (side i)) ∧ Below w'.heap.size w' w'') :
    Calls Try.prog 57 #[hv h, .int .i64 d, .int .i64 p, .int .i64 top, .func (.func 68) #[] #[c]] w fun e w' => e = .returned (hv (upE d p top side (d - top) h)) ∧ Below w.heap.size w w' := by
  obtain ⟨R, hR⟩ : ∃ R, R = upE d p top side (d - top) h := ⟨_, rfl⟩
  rw [← hR]
  have HR : Hid (upE d p top side (d - top) h = R) := hR.symm
  have HH := hide hh
  have HC := hide hC
  have HSL := hide hsl
  have b := Below.refl w.heap.size w
  clear hR hh hC hsl
  unfold hv
  have mF1 := True.intro
  have mF2 := True.intro
  go_enter Try.func57, Try.ntmps57
  go_wp2_with (first | (with_reducible show wpList _ _ _ (⟨_, Op.load _ _, _, _, _, _⟩ :: _) _ _; refine wpl_load_hash rfl _ rfl rfl (by assumption) ?_) | (with_reducible show wpList _ _ _ (⟨_, Op.box _ _, _, _, _, _⟩ :: _) _ _; clear mF1; refine wpl_box_hash rfl _ rfl rfl HH.out ?_; intro _ g1 hg1 F1 hb; (try have := F1.lt); (try have := F2.lt); (try have := F3.lt); (try have := F4.lt); (try have := F5.lt); (try have := F6.lt); (try have := F7.lt); (try have := F8.lt); (try have := F9.lt); (try have := z.lt); (try have := G1.lt); (try have := G2.lt); (try have := G3.lt); (try have := b.size); (try replace F1 := F1.later hb); (try replace F2 := F2.later hb); (try replace F3 := F3.later hb); (try replace F4 := F4.later hb); (try replace F5 := F5.later hb); (try replace F6 := F6.later hb); (try replace F7 := F7.later hb); (try replace F8 := F8.later hb); (try replace F9 := F9.later hb); (try replace G1 := G1.later hb); (try replace G2 := G2.later hb); (try replace G3 := G3.later hb); (try replace z := z.later hb); (try replace b := later b hb); (try replace bB := mixed hB bB hb); clear hb) | (with_reducible show wpList _ _ _ (⟨_, Op.alloc _, _, _, _, _⟩ :: _) _ _; clear mF2; refine wpl_mk_hash rfl rfl ?_; intro _ g2 hg2 F2 hb; (try have := F1.lt); (try have := F2.lt); (try have := F3.lt); (try have := F4.lt); (try have := F5.lt); (try have := F6.lt); (try have := F7.lt); (try have := F8.lt); (try have := F9.lt); (try have := z.lt); (try have := G1.lt); (try have := G2.lt); (try have := G3.lt); (try have := b.size); (try replace F1 := F1.later hb); (try replace F2 := F2.later hb); (try replace F3 := F3.later hb); (try replace F4 := F4.later hb); (try replace F5 := F5.later hb); (try replace F6 := F6.later hb); (try replace F7 := F7.later hb); (try replace F8 := F8.later hb); (try replace F9 := F9.later hb); (try replace G1 := G1.later hb); (try replace G2 := G2.later hb); (try replace G3 := G3.later hb); (try replace z := z.later hb); (try replace b := later b hb); (try replace bB := mixed hB bB hb); clear hb))
  go_loopw [11] (fun i wr => ∃ (k : Nat) (x : Int) (t : List UInt8), i = .int .i64 x ∧ Hid (x = (top : Int) + k - 1) ∧ top + k ≤ d ∧ Hid (upE d p top side k t = R) ∧ HashAt wr g1 t ∧ HashAt wr g2 zero32 ∧ Below w.heap.size w wr) (fun i _ => (RowKit.intOf i + 1 - top).toNat)
  case atStart => exact ⟨d - top, _, h, rfl, by unfold Hid; omega, by omega, HR, F1, F2, b⟩
  case round =>
    obtain ⟨k, x, t, rfl, hx, hk, HT, F3, F4, b0⟩ := hrel
    clear F1 F2 b HR HH
    have b := b0
    clear b0
    have tl := F3.1
    have TL := hide tl
    have X := hx.out
    clear tl hx
    rcases k with _ | k
    · have hlt : x < top := by omega
      have e : t = R := HT.out
      clear X HT
      subst e
      go_wp2_with (first | (with_reducible show wpList _ _ _ (⟨_, Op.load _ _, _, _, _, _⟩ :: _) _ _; refine wpl_load_hash rfl _ rfl rfl (by assumption) ?_) | (with_reducible show wpList _ _ _ (⟨_, Op.store _ _ _, _, _, _, _⟩ :: _) _ _; refine wpl_set_hash rfl _ _ rfl rfl rfl TL.out F4 ?_; intro _ t1 ht; (try replace F1 := F1.tt ht); (try replace F2 := F2.tt ht); (try replace F3 := F3.tt ht); (try replace F4 := F4.tt ht); (try replace F5 := F5.tt ht); (try replace F6 := F6.tt ht); (try replace F7 := F7.tt ht); (try replace F8 := F8.tt ht); (try replace F9 := F9.tt ht); (try replace G1 := G1.tt ht); (try replace G2 := G2.tt ht); (try replace G3 := G3.tt ht); (try replace z := z.tt ht); (try replace b := below_touch b ht (by omega) (by omega)); (try replace bB := below_touch bB ht (by omega) hB); replace F4 := t1; clear ht) | (with_reducible show bodyPost _ _ _ _ _ _; exact bodyPost_ret (ret_hash rfl _ _ rfl (by assumption)) rfl ⟨rfl, by assumption⟩))
    · obtain ⟨r, hr⟩ : ∃ r, r = top + k := ⟨_, rfl⟩
      have hxr : x = (r : Int) := by omega
      subst hxr
      have hrt : (top : Int) ≤ (r : Int) := by omega
      have hrd : r < d := by omega
      have HRI := hide (fun w => right_any d p r hrd hd hp w)
      have HC1 := hide (fun w' h => HC.out r w' (by omega) hrd h)
      have SL := hide (HSL.out r (by omega) hrd)
      have HRr := hide hr
      have HT' : Hid (upE d p top side k (if wayB d p r then sumL (side r) t else sumL t (side r)) = R) := by have h0 := HT.out; rw [upE, ← hr] at h0; exact h0
      clear HT X hr
      generalize side r = s at *
      by_cases hw : wayB d p r = true
      · rw [if_pos hw] at HT'
        have HS := hide (fun w => evoSum_any s t SL.out TL.out w)
        have HSL' := hide (sumL_length s t)
        generalize sumL s t = u at *
        rw [hw] at HRI
        clear hw
        go_wp2_with (first | (with_reducible show wpList _ _ _ (⟨_, Op.load _ _, _, _, _, _⟩ :: _) _ _; refine wpl_load_hash rfl _ rfl rfl (by assumption) ?_) | (go_at_call 56; refine (HRI.out _).mono ?_; rintro _ _ ⟨rfl, hc⟩; (try replace F1 := F1.later hc); (try replace F2 := F2.later hc); (try replace F3 := F3.later hc); (try replace F4 := F4.later hc); (try replace F5 := F5.later hc); (try replace F6 := F6.later hc); (try replace F7 := F7.later hc); (try replace F8 := F8.later hc); (try replace F9 := F9.later hc); (try replace G1 := G1.later hc); (try replace G2 := G2.later hc); (try replace G3 := G3.later hc); (try replace z := z.later hc); (try replace b := later b hc); (try replace bB := mixed hB bB hc); clear hc) | (with_reducible show Code.wp _ (Code.region _ _ true) _ _ _; (try simp only [Act.put, List.setIfInBounds_toArray, List.set_cons_succ, List.set_cons_zero]); refine region_since_tail 5 (by kernel_rfl) (by kernel_rfl) ?_; simp only [List.take_succ_cons, List.take_zero]; (repeat (first | go_big_quiet_skip | (go_big_quiet_want; first | (refine quiet_load_hash _ rfl rfl (by assumption) ?_; simp only [Act.put, List.setIfInBounds_toArray, List.set_cons_succ, List.set_cons_zero]; go_big_quiet_on) | (go_big_quiet_op; first | go_big_quiet_on | (first | (refine ⟨_, fun s => since_of (HC1.out _ (later b s.ok)), ?_⟩; go_big_quiet_on) | (refine ⟨_, fun _ => since_of (HS.out _), ?_⟩; go_big_quiet_on)))))); refine wpQuiet_nil ?_; intro _ hq; (try replace F1 := F1.later hq); (try replace F2 := F2.later hq); (try replace F3 := F3.later hq); (try replace F4 := F4.later hq); (try replace F5 := F5.later hq); (try replace F6 := F6.later hq); (try replace F7 := F7.later hq); (try replace F8 := F8.later hq); (try replace F9 := F9.later hq); (try replace G1 := G1.later hq); (try replace G2 := G2.later hq); (try replace G3 := G3.later hq); (try replace z := z.later hq); (try replace b := later b hq); (try replace bB := mixed hB bB hq); clear hq; simp only [List.drop_succ_cons, List.drop_zero]) | (with_reducible show wpList _ _ _ (⟨_, Op.store _ _ _, _, _, _, _⟩ :: _) _ _; refine wpl_set_hash rfl _ _ rfl rfl rfl HSL'.out F3 ?_; intro _ t1 ht; (try replace F1 := F1.tt ht); (try replace F2 := F2.tt ht); (try replace F3 := F3.tt ht); (try replace F4 := F4.tt ht); (try replace F5 := F5.tt ht); (try replace F6 := F6.tt ht); (try replace F7 := F7.tt ht); (try replace F8 := F8.tt ht); (try replace F9 := F9.tt ht); (try replace G1 := G1.tt ht); (try replace G2 := G2.tt ht); (try replace G3 := G3.tt ht); (try replace z := z.tt ht); (try replace b := below_touch b ht (by omega) (by omega)); (try replace bB := below_touch bB ht (by omega) hB); replace F3 := t1; clear ht))
        go_roundw
        case rel => exact ⟨k, _, u, rfl, by have := HRr.out; unfold Hid; omega, by omega, HT', F3, F4, b⟩
        case measure => have := HRr.out; simp [RowKit.intOf]; omega
      · have hw' : wayB d p r = false := by simpa using hw
        rw [if_neg hw] at HT'
        have HS := hide (fun w => evoSum_any t s TL.out SL.out w)
        have HSL' := hide (sumL_length t s)
        generalize sumL t s = u at *
        rw [hw'] at HRI
        clear hw hw'
        go_wp2_with (first | (with_reducible show wpList _ _ _ (⟨_, Op.load _ _, _, _, _, _⟩ :: _) _ _; refine wpl_load_hash rfl _ rfl rfl (by assumption) ?_) | (go_at_call 56; refine (HRI.out _).mono ?_; rintro _ _ ⟨rfl, hc⟩; (try replace F1 := F1.later hc); (try replace F2 := F2.later hc); (try replace F3 := F3.later hc); (try replace F4 := F4.later hc); (try replace F5 := F5.later hc); (try replace F6 := F6.later hc); (try replace F7 := F7.later hc); (try replace F8 := F8.later hc); (try replace F9 := F9.later hc); (try replace G1 := G1.later hc); (try replace G2 := G2.later hc); (try replace G3 := G3.later hc); (try replace z := z.later hc); (try replace b := later b hc); (try replace bB := mixed hB bB hc); clear hc) | (with_reducible show Code.wp _ (Code.region _ _ true) _ _ _; (try simp only [Act.put, List.setIfInBounds_toArray, List.set_cons_succ, List.set_cons_zero]); refine region_since_tail 5 (by kernel_rfl) (by kernel_rfl) ?_; simp only [List.take_succ_cons, List.take_zero]; (repeat (first | go_big_quiet_skip | (go_big_quiet_want; first | (refine quiet_load_hash _ rfl rfl (by assumption) ?_; simp only [Act.put, List.setIfInBounds_toArray, List.set_cons_succ, List.set_cons_zero]; go_big_quiet_on) | (go_big_quiet_op; first | go_big_quiet_on | (first | (refine ⟨_, fun s => since_of (HC1.out _ (later b s.ok)), ?_⟩; go_big_quiet_on) | (refine ⟨_, fun _ => since_of (HS.out _), ?_⟩; go_big_quiet_on)))))); refine wpQuiet_nil ?_; intro _ hq; (try replace F1 := F1.later hq); (try replace F2 := F2.later hq); (try replace F3 := F3.later hq); (try replace F4 := F4.later hq); (try replace F5 := F5.later hq); (try replace F6 := F6.later hq); (try replace F7 := F7.later hq); (try replace F8 := F8.later hq); (try replace F9 := F9.later hq); (try replace G1 := G1.later hq); (try replace G2 := G2.later hq); (try replace G3 := G3.later hq); (try replace z := z.later hq); (try replace b := later b hq); (try replace bB := mixed hB bB hq); clear hq; simp only [List.drop_succ_cons, List.drop_zero]) | (with_reducible show wpList _ _ _ (⟨_, Op.store _ _ _, _, _, _, _⟩ :: _) _ _; refine wpl_set_hash rfl _ _ rfl rfl rfl HSL'.out F3 ?_; intro _ t1 ht; (try replace F1 := F1.tt ht); (try replace F2 := F2.tt ht); (try replace F3 := F3.tt ht); (try replace F4 := F4.tt ht); (try replace F5 := F5.tt ht); (try replace F6 := F6.tt ht); (try replace F7 := F7.tt ht); (try replace F8 := F8.tt ht); (try replace F9 := F9.tt ht); (try replace G1 := G1.tt ht); (try replace G2 := G2.tt ht); (try replace G3 := G3.tt ht); (try replace z := z.tt ht); (try replace b := below_touch b ht (by omega) (by omega)); (try replace bB := below_touch bB ht (by omega) hB); replace F3 := t1; clear ht))
        go_roundw
        case rel => exact ⟨k, _, u, rfl, by have := HRr.out; unfold Hid; omega, by omega, HT', F3, F4, b⟩
        case measure => simp [RowKit.intOf]; omega
set_option maxRecDepth 100000 in
set_option maxHeartbeats 1600000 in
theorem up_check (h : List UInt8) (d p top : Nat) (side : Nat → List UInt8) (c : Value) (w : World) (hh : h.length = 32) (hd : d ≤ 4) (hp : p < 16) (ht : top ≤ d) (hsl : ∀ i, top ≤ i → i < d → (side i).length = 32)
    (hC : ∀ i w', top ≤ i → i < d → Below w.heap.size w w' → Calls Try.prog 73 #[.int .i64 (i : Nat), c] w' fun e w'' => e = .returned (hv (side i)) ∧ Below w'.heap.size w' w'') :
    Calls Try.prog 57 #[hv h, .int .i64 d, .int .i64 p, .int .i64 top, .func (.func 73) #[] #[c]] w fun e w' => e = .returned (hv (upE d p top side (d - top) h)) ∧ Below w.heap.size w w' := by
  obtain ⟨R, hR⟩ : ∃ R, R = upE d p top side (d - top) h := ⟨_, rfl⟩
  rw [← hR]
  have HR : Hid (upE d p top side (d - top) h = R) := hR.symm
  have HH := hide hh
  have HC := hide hC
  have HSL := hide hsl
  have b := Below.refl w.heap.size w
  clear hR hh hC hsl
  unfold hv
  have mF1 := True.intro
  have mF2 := True.intro
  go_enter Try.func57, Try.ntmps57
  go_wp2_with (first | (with_reducible show wpList _ _ _ (⟨_, Op.load _ _, _, _, _, _⟩ :: _) _ _; refine wpl_load_hash rfl _ rfl rfl (by assumption) ?_) | (with_reducible show wpList _ _ _ (⟨_, Op.box _ _, _, _, _, _⟩ :: _) _ _; clear mF1; refine wpl_box_hash rfl _ rfl rfl HH.out ?_; intro _ g1 hg1 F1 hb; (try have := F1.lt); (try have := F2.lt); (try have := F3.lt); (try have := F4.lt); (try have := F5.lt); (try have := F6.lt); (try have := F7.lt); (try have := F8.lt); (try have := F9.lt); (try have := z.lt); (try have := G1.lt); (try have := G2.lt); (try have := G3.lt); (try have := b.size); (try replace F1 := F1.later hb); (try replace F2 := F2.later hb); (try replace F3 := F3.later hb); (try replace F4 := F4.later hb); (try replace F5 := F5.later hb); (try replace F6 := F6.later hb); (try replace F7 := F7.later hb); (try replace F8 := F8.later hb); (try replace F9 := F9.later hb); (try replace G1 := G1.later hb); (try replace G2 := G2.later hb); (try replace G3 := G3.later hb); (try replace z := z.later hb); (try replace b := later b hb); (try replace bB := mixed hB bB hb); clear hb) | (with_reducible show wpList _ _ _ (⟨_, Op.alloc _, _, _, _, _⟩ :: _) _ _; clear mF2; refine wpl_mk_hash rfl rfl ?_; intro _ g2 hg2 F2 hb; (try have := F1.lt); (try have := F2.lt); (try have := F3.lt); (try have := F4.lt); (try have := F5.lt); (try have := F6.lt); (try have := F7.lt); (try have := F8.lt); (try have := F9.lt); (try have := z.lt); (try have := G1.lt); (try have := G2.lt); (try have := G3.lt); (try have := b.size); (try replace F1 := F1.later hb); (try replace F2 := F2.later hb); (try replace F3 := F3.later hb); (try replace F4 := F4.later hb); (try replace F5 := F5.later hb); (try replace F6 := F6.later hb); (try replace F7 := F7.later hb); (try replace F8 := F8.later hb); (try replace F9 := F9.later hb); (try replace G1 := G1.later hb); (try replace G2 := G2.later hb); (try replace G3 := G3.later hb); (try replace z := z.later hb); (try replace b := later b hb); (try replace bB := mixed hB bB hb); clear hb))
  go_loopw [11] (fun i wr => ∃ (k : Nat) (x : Int) (t : List UInt8), i = .int .i64 x ∧ Hid (x = (top : Int) + k - 1) ∧ top + k ≤ d ∧ Hid (upE d p top side k t = R) ∧ HashAt wr g1 t ∧ HashAt wr g2 zero32 ∧ Below w.heap.size w wr) (fun i _ => (RowKit.intOf i + 1 - top).toNat)
  case atStart => exact ⟨d - top, _, h, rfl, by unfold Hid; omega, by omega, HR, F1, F2, b⟩
  case round =>
    obtain ⟨k, x, t, rfl, hx, hk, HT, F3, F4, b0⟩ := hrel
    clear F1 F2 b HR HH
    have b := b0
    clear b0
    have tl := F3.1
    have TL := hide tl
    have X := hx.out
    clear tl hx
    rcases k with _ | k
    · have hlt : x < top := by omega
      have e : t = R := HT.out
      clear X HT
      subst e
      go_wp2_with (first | (with_reducible show wpList _ _ _ (⟨_, Op.load _ _, _, _, _, _⟩ :: _) _ _; refine wpl_load_hash rfl _ rfl rfl (by assumption) ?_) | (with_reducible show wpList _ _ _ (⟨_, Op.store _ _ _, _, _, _, _⟩ :: _) _ _; refine wpl_set_hash rfl _ _ rfl rfl rfl TL.out F4 ?_; intro _ t1 ht; (try replace F1 := F1.tt ht); (try replace F2 := F2.tt ht); (try replace F3 := F3.tt ht); (try replace F4 := F4.tt ht); (try replace F5 := F5.tt ht); (try replace F6 := F6.tt ht); (try replace F7 := F7.tt ht); (try replace F8 := F8.tt ht); (try replace F9 := F9.tt ht); (try replace G1 := G1.tt ht); (try replace G2 := G2.tt ht); (try replace G3 := G3.tt ht); (try replace z := z.tt ht); (try replace b := below_touch b ht (by omega) (by omega)); (try replace bB := below_touch bB ht (by omega) hB); replace F4 := t1; clear ht) | (with_reducible show bodyPost _ _ _ _ _ _; exact bodyPost_ret (ret_hash rfl _ _ rfl (by assumption)) rfl ⟨rfl, by assumption⟩))
    · obtain ⟨r, hr⟩ : ∃ r, r = top + k := ⟨_, rfl⟩
      have hxr : x = (r : Int) := by omega
      subst hxr
      have hrt : (top : Int) ≤ (r : Int) := by omega
      have hrd : r < d := by omega
      have HRI := hide (fun w => right_any d p r hrd hd hp w)
      have HC1 := hide (fun w' h => HC.out r w' (by omega) hrd h)
      have SL := hide (HSL.out r (by omega) hrd)
      have HRr := hide hr
      have HT' : Hid (upE d p top side k (if wayB d p r then sumL (side r) t else sumL t (side r)) = R) := by have h0 := HT.out; rw [upE, ← hr] at h0; exact h0
      clear HT X hr
      generalize side r = s at *
      by_cases hw : wayB d p r = true
      · rw [if_pos hw] at HT'
        have HS := hide (fun w => evoSum_any s t SL.out TL.out w)
        have HSL' := hide (sumL_length s t)
        generalize sumL s t = u at *
        rw [hw] at HRI
        clear hw
        go_wp2_with (first | (with_reducible show wpList _ _ _ (⟨_, Op.load _ _, _, _, _, _⟩ :: _) _ _; refine wpl_load_hash rfl _ rfl rfl (by assumption) ?_) | (go_at_call 56; refine (HRI.out _).mono ?_; rintro _ _ ⟨rfl, hc⟩; (try replace F1 := F1.later hc); (try replace F2 := F2.later hc); (try replace F3 := F3.later hc); (try replace F4 := F4.later hc); (try replace F5 := F5.later hc); (try replace F6 := F6.later hc); (try replace F7 := F7.later hc); (try replace F8 := F8.later hc); (try replace F9 := F9.later hc); (try replace G1 := G1.later hc); (try replace G2 := G2.later hc); (try replace G3 := G3.later hc); (try replace z := z.later hc); (try replace b := later b hc); (try replace bB := mixed hB bB hc); clear hc) | (with_reducible show Code.wp _ (Code.region _ _ true) _ _ _; (try simp only [Act.put, List.setIfInBounds_toArray, List.set_cons_succ, List.set_cons_zero]); refine region_since_tail 5 (by kernel_rfl) (by kernel_rfl) ?_; simp only [List.take_succ_cons, List.take_zero]; (repeat (first | go_big_quiet_skip | (go_big_quiet_want; first | (refine quiet_load_hash _ rfl rfl (by assumption) ?_; simp only [Act.put, List.setIfInBounds_toArray, List.set_cons_succ, List.set_cons_zero]; go_big_quiet_on) | (go_big_quiet_op; first | go_big_quiet_on | (first | (refine ⟨_, fun s => since_of (HC1.out _ (later b s.ok)), ?_⟩; go_big_quiet_on) | (refine ⟨_, fun _ => since_of (HS.out _), ?_⟩; go_big_quiet_on)))))); refine wpQuiet_nil ?_; intro _ hq; (try replace F1 := F1.later hq); (try replace F2 := F2.later hq); (try replace F3 := F3.later hq); (try replace F4 := F4.later hq); (try replace F5 := F5.later hq); (try replace F6 := F6.later hq); (try replace F7 := F7.later hq); (try replace F8 := F8.later hq); (try replace F9 := F9.later hq); (try replace G1 := G1.later hq); (try replace G2 := G2.later hq); (try replace G3 := G3.later hq); (try replace z := z.later hq); (try replace b := later b hq); (try replace bB := mixed hB bB hq); clear hq; simp only [List.drop_succ_cons, List.drop_zero]) | (with_reducible show wpList _ _ _ (⟨_, Op.store _ _ _, _, _, _, _⟩ :: _) _ _; refine wpl_set_hash rfl _ _ rfl rfl rfl HSL'.out F3 ?_; intro _ t1 ht; (try replace F1 := F1.tt ht); (try replace F2 := F2.tt ht); (try replace F3 := F3.tt ht); (try replace F4 := F4.tt ht); (try replace F5 := F5.tt ht); (try replace F6 := F6.tt ht); (try replace F7 := F7.tt ht); (try replace F8 := F8.tt ht); (try replace F9 := F9.tt ht); (try replace G1 := G1.tt ht); (try replace G2 := G2.tt ht); (try replace G3 := G3.tt ht); (try replace z := z.tt ht); (try replace b := below_touch b ht (by omega) (by omega)); (try replace bB := below_touch bB ht (by omega) hB); replace F3 := t1; clear ht))
        go_roundw
        case rel => exact ⟨k, _, u, rfl, by have := HRr.out; unfold Hid; omega, by omega, HT', F3, F4, b⟩
        case measure => have := HRr.out; simp [RowKit.intOf]; omega
      · have hw' : wayB d p r = false := by simpa using hw
        rw [if_neg hw] at HT'
        have HS := hide (fun w => evoSum_any t s TL.out SL.out w)
        have HSL' := hide (sumL_length t s)
        generalize sumL t s = u at *
        rw [hw'] at HRI
        clear hw hw'
        go_wp2_with (first | (with_reducible show wpList _ _ _ (⟨_, Op.load _ _, _, _, _, _⟩ :: _) _ _; refine wpl_load_hash rfl _ rfl rfl (by assumption) ?_) | (go_at_call 56; refine (HRI.out _).mono ?_; rintro _ _ ⟨rfl, hc⟩; (try replace F1 := F1.later hc); (try replace F2 := F2.later hc); (try replace F3 := F3.later hc); (try replace F4 := F4.later hc); (try replace F5 := F5.later hc); (try replace F6 := F6.later hc); (try replace F7 := F7.later hc); (try replace F8 := F8.later hc); (try replace F9 := F9.later hc); (try replace G1 := G1.later hc); (try replace G2 := G2.later hc); (try replace G3 := G3.later hc); (try replace z := z.later hc); (try replace b := later b hc); (try replace bB := mixed hB bB hc); clear hc) | (with_reducible show Code.wp _ (Code.region _ _ true) _ _ _; (try simp only [Act.put, List.setIfInBounds_toArray, List.set_cons_succ, List.set_cons_zero]); refine region_since_tail 5 (by kernel_rfl) (by kernel_rfl) ?_; simp only [List.take_succ_cons, List.take_zero]; (repeat (first | go_big_quiet_skip | (go_big_quiet_want; first | (refine quiet_load_hash _ rfl rfl (by assumption) ?_; simp only [Act.put, List.setIfInBounds_toArray, List.set_cons_succ, List.set_cons_zero]; go_big_quiet_on) | (go_big_quiet_op; first | go_big_quiet_on | (first | (refine ⟨_, fun s => since_of (HC1.out _ (later b s.ok)), ?_⟩; go_big_quiet_on) | (refine ⟨_, fun _ => since_of (HS.out _), ?_⟩; go_big_quiet_on)))))); refine wpQuiet_nil ?_; intro _ hq; (try replace F1 := F1.later hq); (try replace F2 := F2.later hq); (try replace F3 := F3.later hq); (try replace F4 := F4.later hq); (try replace F5 := F5.later hq); (try replace F6 := F6.later hq); (try replace F7 := F7.later hq); (try replace F8 := F8.later hq); (try replace F9 := F9.later hq); (try replace G1 := G1.later hq); (try replace G2 := G2.later hq); (try replace G3 := G3.later hq); (try replace z := z.later hq); (try replace b := later b hq); (try replace bB := mixed hB bB hq); clear hq; simp only [List.drop_succ_cons, List.drop_zero]) | (with_reducible show wpList _ _ _ (⟨_, Op.store _ _ _, _, _, _, _⟩ :: _) _ _; refine wpl_set_hash rfl _ _ rfl rfl rfl HSL'.out F3 ?_; intro _ t1 ht; (try replace F1 := F1.tt ht); (try replace F2 := F2.tt ht); (try replace F3 := F3.tt ht); (try replace F4 := F4.tt ht); (try replace F5 := F5.tt ht); (try replace F6 := F6.tt ht); (try replace F7 := F7.tt ht); (try replace F8 := F8.tt ht); (try replace F9 := F9.tt ht); (try replace G1 := G1.tt ht); (try replace G2 := G2.tt ht); (try replace G3 := G3.tt ht); (try replace z := z.tt ht); (try replace b := below_touch b ht (by omega) (by omega)); (try replace bB := below_touch bB ht (by omega) hB); replace F3 := t1; clear ht))
        go_roundw
        case rel => exact ⟨k, _, u, rfl, by have := HRr.out; unfold Hid; omega, by omega, HT', F3, F4, b⟩
        case measure => simp [RowKit.intOf]; omega
end Go.Proofs.Ytofjjpielkfloaa
