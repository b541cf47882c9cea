/- slices.Equal at api.Out. -/
import Derived.Test.YtbbfnpfkbbpjgaaGreatQHDeed4r
import Derived.Test.YtbbfnpfkbbpjgaaGreatQHRowE
import Derived.Test.YtbbfnpfkbbpjgaaGreatQHElCert
import Derived.Test.YtbbfnpfkbbpjgaaGreatQHBlkM
namespace Go.Proofs.YtbbfnpfkbbpjgaaGreat
open Go.RowKit Go.Lib
set_option linter.unusedVariables false
set_option linter.unusedSimpArgs false
set_option maxRecDepth 100000
set_option maxHeartbeats 4000000
theorem x9i (v1 v2 : Value) (l m : List OutT) (w : World) (h1 : Sl w v1 65 (l.map outCs)) (h2 : Sl w v2 65 (m.map outCs)) (hl : ∀ x ∈ l, x.Ok) (hm : ∀ x ∈ m, x.Ok) :
  Calls Tryz.prog 109 #[v1, v2] w fun e w' => e = .returned (.bool (sameL sameOut l m)) ∧ Below w.heap.size w w' := by
 obtain ⟨a1, c1, rfl, hc1, hm1, _⟩ := h1.shape
 obtain ⟨a2, c2, rfl, hc2, hm2, _⟩ := h2.shape
 have b := Below.refl w.heap.size w
 by_cases hlen : l.length = m.length
 ·obtain ⟨n, hn⟩ : ∃ n, n = l.length := ⟨_, rfl⟩
  have HN := hide hn
  have HM : Hid (n = m.length) := by unfold Hid; omega
  rw [← hlen] at hc2 ⊢
  rw [← hn] at hc1 hc2 ⊢
  have hcap : n ≤ maxLen := by omega
  unfold maxLen at hcap
  have HL := hide hl
  have HK := hide hm
  clear hn hl hm hc1 hc2 hm1 hm2 hlen
  go_enter Tryz.func109, Tryz.ntmps109
  go_wp2_with fail
  go_loopw [13] (fun i wr => ∃ k : Nat, i = .int .i64 k ∧ k ≤ n ∧ Hid (sameL sameOut (l.take k) (m.take k) = true) ∧ Below w.heap.size w wr) (fun i _ => n - (RowKit.intOf i).toNat)
  case atStart => exact ⟨0, rfl, by omega, hide (by simp [sameL]), b⟩
  case round =>
   clear b
   obtain ⟨k, rfl, hk, HA, b⟩ := hrel
   by_cases hlt : k < n
   ·obtain ⟨x, hx, okx⟩ := q1i HL.out (k := k) (by rw [← HN.out]; exact hlt)
    obtain ⟨y, hy, oky⟩ := q1i HK.out (k := k) (by rw [← HM.out]; exact hlt)
    obtain ⟨b1, k1, c1', e1, _, hcs1⟩ := (h1.later b).block (by rw [← HN.out]; omega)
    obtain ⟨b2, k2, c2', e2, _, hcs2⟩ := (h2.later b).block (by rw [← HM.out]; omega)
    simp only [Value.slice.injEq] at e1 e2
    obtain ⟨rfl, -, rfl⟩ := e1
    obtain ⟨rfl, -, rfl⟩ := e2
    have d1 := hcs1 k x hx
    have d2 := hcs2 k y hy
    have HR := hide (q3j (f := sameOut) l m k x y hx hy)
    have HS := hide (q3k (f := sameOut) l m (k + 1))
    have OX := hide okx
    have OY := hide oky
    clear hcs1 hcs2 okx oky hx hy
    cases hB : sameOut x y
    case true =>
     have HA2 : Hid (sameL sameOut (l.take (k + 1)) (m.take (k + 1)) = true) := by rw [HR.out, HA.out, hB]; exact hide rfl
     have HB := hide hB
     clear HR HS HA hB
     go_wp2_with (with_reducible show Code.wp _ (Code.region _ _ true) _ _ _; fail)
     refine q0e (by kernel_rfl) (by kernel_rfl) ?_
     repeat ((go_big_quiet_want; first | ((with_reducible refine w28g ?_); first | (refine q3p _ rfl rfl d1 OX.out ?_; simp only [pS]; go_big_quiet_on) | (refine q3p _ rfl rfl d2 OY.out ?_; simp only [pS]; go_big_quiet_on)) | ((with_reducible refine w31g ?_); refine q6j _ _ rfl rfl rfl OX.out OY.out ?_; rw [HB.out]; simp only [pS]; go_big_quiet_on) | (go_big_quiet_op; go_big_quiet_on)))
     refine wpQuiet_nil ?_
     intro _ hq
     (try replace b := later b hq)
     clear hq
     go_wp2_with fail
     go_roundw
     case rel => exact ⟨k + 1, by simp, by omega, HA2, b⟩
     case measure => simp [RowKit.intOf]; omega
    case false =>
     have HA2 : Hid (sameL sameOut l m = false) := HS.out (by rw [HR.out, hB, Bool.and_false])
     have HB := hide hB
     clear HR HS HA hB
     go_wp2_with (with_reducible show Code.wp _ (Code.region _ _ true) _ _ _; fail)
     refine q0e (by kernel_rfl) (by kernel_rfl) ?_
     repeat ((go_big_quiet_want; first | ((with_reducible refine w28g ?_); first | (refine q3p _ rfl rfl d1 OX.out ?_; simp only [pS]; go_big_quiet_on) | (refine q3p _ rfl rfl d2 OY.out ?_; simp only [pS]; go_big_quiet_on)) | ((with_reducible refine w31g ?_); refine q6j _ _ rfl rfl rfl OX.out OY.out ?_; rw [HB.out]; simp only [pS]; go_big_quiet_on) | (go_big_quiet_op; go_big_quiet_on)))
     refine wpQuiet_nil ?_
     intro _ hq
     (try replace b := later b hq)
     clear hq
     go_wp2_with fail
     go_ret
     exact ⟨by rw [HA2.out]; rfl, b⟩
   ·obtain rfl : k = n := by omega
    have hA := HA.out
    rw [List.take_of_length_le (by rw [← HN.out]; exact Nat.le_refl _), List.take_of_length_le (by rw [← HM.out]; exact Nat.le_refl _)] at hA
    clear HA
    go_wp2_with fail
    go_ret
    exact ⟨by rw [hA]; rfl, b⟩
 ·have hR : sameL sameOut l m = false := q6z hlen
  rw [hR]
  have e1 : ((l.length : Int) != (m.length : Int)) = true := by simp; omega
  clear hR hl hm hlen h1 h2 hc1 hc2 hm1 hm2
  go_enter Tryz.func109, Tryz.ntmps109
  go_wp2_with fail
  go_ret
  exact ⟨rfl, b⟩
theorem x4w (v1 v2 : Value) (l m : List CertT) (w : World) (h1 : Sl w v1 68 (l.map certCs)) (h2 : Sl w v2 68 (m.map certCs)) (hl : ∀ x ∈ l, x.Ok) (hm : ∀ x ∈ m, x.Ok) :
  Calls Tryz.prog 110 #[v1, v2] w fun e w' => e = .returned (.bool (sameL sameCert l m)) ∧ Below w.heap.size w w' := by
 obtain ⟨a1, c1, rfl, hc1, hm1, _⟩ := h1.shape
 obtain ⟨a2, c2, rfl, hc2, hm2, _⟩ := h2.shape
 have b := Below.refl w.heap.size w
 by_cases hlen : l.length = m.length
 ·obtain ⟨n, hn⟩ : ∃ n, n = l.length := ⟨_, rfl⟩
  have HN := hide hn
  have HM : Hid (n = m.length) := by unfold Hid; omega
  rw [← hlen] at hc2 ⊢
  rw [← hn] at hc1 hc2 ⊢
  have hcap : n ≤ maxLen := by omega
  unfold maxLen at hcap
  have HL := hide hl
  have HK := hide hm
  clear hn hl hm hc1 hc2 hm1 hm2 hlen
  go_enter Tryz.func110, Tryz.ntmps110
  go_wp2_with fail
  go_loopw [13] (fun i wr => ∃ k : Nat, i = .int .i64 k ∧ k ≤ n ∧ Hid (sameL sameCert (l.take k) (m.take k) = true) ∧ Below w.heap.size w wr) (fun i _ => n - (RowKit.intOf i).toNat)
  case atStart => exact ⟨0, rfl, by omega, hide (by simp [sameL]), b⟩
  case round =>
   clear b
   obtain ⟨k, rfl, hk, HA, b⟩ := hrel
   by_cases hlt : k < n
   ·obtain ⟨x, hx, okx⟩ := q1i HL.out (k := k) (by rw [← HN.out]; exact hlt)
    obtain ⟨y, hy, oky⟩ := q1i HK.out (k := k) (by rw [← HM.out]; exact hlt)
    obtain ⟨b1, k1, c1', e1, _, hcs1⟩ := (h1.later b).block (by rw [← HN.out]; omega)
    obtain ⟨b2, k2, c2', e2, _, hcs2⟩ := (h2.later b).block (by rw [← HM.out]; omega)
    simp only [Value.slice.injEq] at e1 e2
    obtain ⟨rfl, -, rfl⟩ := e1
    obtain ⟨rfl, -, rfl⟩ := e2
    have d1 := hcs1 k x hx
    have d2 := hcs2 k y hy
    have HR := hide (q3j (f := sameCert) l m k x y hx hy)
    have HS := hide (q3k (f := sameCert) l m (k + 1))
    have OX := hide okx
    have OY := hide oky
    clear hcs1 hcs2 okx oky hx hy
    cases hB : sameCert x y
    case true =>
     have HA2 : Hid (sameL sameCert (l.take (k + 1)) (m.take (k + 1)) = true) := by rw [HR.out, HA.out, hB]; exact hide rfl
     have HB := hide hB
     clear HR HS HA hB
     go_wp2_with (with_reducible show Code.wp _ (Code.region _ _ true) _ _ _; fail)
     refine q0e (by kernel_rfl) (by kernel_rfl) ?_
     repeat ((go_big_quiet_want; first | ((with_reducible refine w28g ?_); first | (refine q3c _ rfl rfl d1 OX.out ?_; simp only [pS]; go_big_quiet_on) | (refine q3c _ rfl rfl d2 OY.out ?_; simp only [pS]; go_big_quiet_on)) | ((with_reducible refine w31g ?_); refine q5w _ _ rfl rfl rfl OX.out OY.out ?_; rw [HB.out]; simp only [pS]; go_big_quiet_on) | (go_big_quiet_op; go_big_quiet_on)))
     refine wpQuiet_nil ?_
     intro _ hq
     (try replace b := later b hq)
     clear hq
     go_wp2_with fail
     go_roundw
     case rel => exact ⟨k + 1, by simp, by omega, HA2, b⟩
     case measure => simp [RowKit.intOf]; omega
    case false =>
     have HA2 : Hid (sameL sameCert l m = false) := HS.out (by rw [HR.out, hB, Bool.and_false])
     have HB := hide hB
     clear HR HS HA hB
     go_wp2_with (with_reducible show Code.wp _ (Code.region _ _ true) _ _ _; fail)
     refine q0e (by kernel_rfl) (by kernel_rfl) ?_
     repeat ((go_big_quiet_want; first | ((with_reducible refine w28g ?_); first | (refine q3c _ rfl rfl d1 OX.out ?_; simp only [pS]; go_big_quiet_on) | (refine q3c _ rfl rfl d2 OY.out ?_; simp only [pS]; go_big_quiet_on)) | ((with_reducible refine w31g ?_); refine q5w _ _ rfl rfl rfl OX.out OY.out ?_; rw [HB.out]; simp only [pS]; go_big_quiet_on) | (go_big_quiet_op; go_big_quiet_on)))
     refine wpQuiet_nil ?_
     intro _ hq
     (try replace b := later b hq)
     clear hq
     go_wp2_with fail
     go_ret
     exact ⟨by rw [HA2.out]; rfl, b⟩
   ·obtain rfl : k = n := by omega
    have hA := HA.out
    rw [List.take_of_length_le (by rw [← HN.out]; exact Nat.le_refl _), List.take_of_length_le (by rw [← HM.out]; exact Nat.le_refl _)] at hA
    clear HA
    go_wp2_with fail
    go_ret
    exact ⟨by rw [hA]; rfl, b⟩
 ·have hR : sameL sameCert l m = false := q6z hlen
  rw [hR]
  have e1 : ((l.length : Int) != (m.length : Int)) = true := by simp; omega
  clear hR hl hm hlen h1 h2 hc1 hc2 hm1 hm2
  go_enter Tryz.func110, Tryz.ntmps110
  go_wp2_with fail
  go_ret
  exact ⟨rfl, b⟩
theorem x8e (v1 v2 : Value) (l m : List PayT) (w : World) (h1 : Sl w v1 33 (l.map payCs)) (h2 : Sl w v2 33 (m.map payCs)) (hl : ∀ x ∈ l, x.Ok) (hm : ∀ x ∈ m, x.Ok) :
  Calls Tryz.prog 111 #[v1, v2] w fun e w' => e = .returned (.bool (sameL samePay l m)) ∧ Below w.heap.size w w' := by
 obtain ⟨a1, c1, rfl, hc1, hm1, _⟩ := h1.shape
 obtain ⟨a2, c2, rfl, hc2, hm2, _⟩ := h2.shape
 have b := Below.refl w.heap.size w
 by_cases hlen : l.length = m.length
 ·obtain ⟨n, hn⟩ : ∃ n, n = l.length := ⟨_, rfl⟩
  have HN := hide hn
  have HM : Hid (n = m.length) := by unfold Hid; omega
  rw [← hlen] at hc2 ⊢
  rw [← hn] at hc1 hc2 ⊢
  have hcap : n ≤ maxLen := by omega
  unfold maxLen at hcap
  have HL := hide hl
  have HK := hide hm
  clear hn hl hm hc1 hc2 hm1 hm2 hlen
  go_enter Tryz.func111, Tryz.ntmps111
  go_wp2_with fail
  go_loopw [13] (fun i wr => ∃ k : Nat, i = .int .i64 k ∧ k ≤ n ∧ Hid (sameL samePay (l.take k) (m.take k) = true) ∧ Below w.heap.size w wr) (fun i _ => n - (RowKit.intOf i).toNat)
  case atStart => exact ⟨0, rfl, by omega, hide (by simp [sameL]), b⟩
  case round =>
   clear b
   obtain ⟨k, rfl, hk, HA, b⟩ := hrel
   by_cases hlt : k < n
   ·obtain ⟨x, hx, okx⟩ := q1i HL.out (k := k) (by rw [← HN.out]; exact hlt)
    obtain ⟨y, hy, oky⟩ := q1i HK.out (k := k) (by rw [← HM.out]; exact hlt)
    obtain ⟨b1, k1, c1', e1, _, hcs1⟩ := (h1.later b).block (by rw [← HN.out]; omega)
    obtain ⟨b2, k2, c2', e2, _, hcs2⟩ := (h2.later b).block (by rw [← HM.out]; omega)
    simp only [Value.slice.injEq] at e1 e2
    obtain ⟨rfl, -, rfl⟩ := e1
    obtain ⟨rfl, -, rfl⟩ := e2
    have d1 := hcs1 k x hx
    have d2 := hcs2 k y hy
    have HR := hide (q3j (f := samePay) l m k x y hx hy)
    have HS := hide (q3k (f := samePay) l m (k + 1))
    have OX := hide okx
    have OY := hide oky
    clear hcs1 hcs2 okx oky hx hy
    cases hB : samePay x y
    case true =>
     have HA2 : Hid (sameL samePay (l.take (k + 1)) (m.take (k + 1)) = true) := by rw [HR.out, HA.out, hB]; exact hide rfl
     have HB := hide hB
     clear HR HS HA hB
     go_wp2_with (with_reducible show Code.wp _ (Code.region _ _ true) _ _ _; fail)
     refine q0e (by kernel_rfl) (by kernel_rfl) ?_
     repeat ((go_big_quiet_want; first | ((with_reducible refine w28g ?_); first | (refine q2e _ rfl rfl d1 OX.out ?_; simp only [pS]; go_big_quiet_on) | (refine q2e _ rfl rfl d2 OY.out ?_; simp only [pS]; go_big_quiet_on)) | ((with_reducible refine w31g ?_); refine q6m _ _ rfl rfl rfl OX.out OY.out ?_; rw [HB.out]; simp only [pS]; go_big_quiet_on) | (go_big_quiet_op; go_big_quiet_on)))
     refine wpQuiet_nil ?_
     intro _ hq
     (try replace b := later b hq)
     clear hq
     go_wp2_with fail
     go_roundw
     case rel => exact ⟨k + 1, by simp, by omega, HA2, b⟩
     case measure => simp [RowKit.intOf]; omega
    case false =>
     have HA2 : Hid (sameL samePay l m = false) := HS.out (by rw [HR.out, hB, Bool.and_false])
     have HB := hide hB
     clear HR HS HA hB
     go_wp2_with (with_reducible show Code.wp _ (Code.region _ _ true) _ _ _; fail)
     refine q0e (by kernel_rfl) (by kernel_rfl) ?_
     repeat ((go_big_quiet_want; first | ((with_reducible refine w28g ?_); first | (refine q2e _ rfl rfl d1 OX.out ?_; simp only [pS]; go_big_quiet_on) | (refine q2e _ rfl rfl d2 OY.out ?_; simp only [pS]; go_big_quiet_on)) | ((with_reducible refine w31g ?_); refine q6m _ _ rfl rfl rfl OX.out OY.out ?_; rw [HB.out]; simp only [pS]; go_big_quiet_on) | (go_big_quiet_op; go_big_quiet_on)))
     refine wpQuiet_nil ?_
     intro _ hq
     (try replace b := later b hq)
     clear hq
     go_wp2_with fail
     go_ret
     exact ⟨by rw [HA2.out]; rfl, b⟩
   ·obtain rfl : k = n := by omega
    have hA := HA.out
    rw [List.take_of_length_le (by rw [← HN.out]; exact Nat.le_refl _), List.take_of_length_le (by rw [← HM.out]; exact Nat.le_refl _)] at hA
    clear HA
    go_wp2_with fail
    go_ret
    exact ⟨by rw [hA]; rfl, b⟩
 ·have hR : sameL samePay l m = false := q6z hlen
  rw [hR]
  have e1 : ((l.length : Int) != (m.length : Int)) = true := by simp; omega
  clear hR hl hm hlen h1 h2 hc1 hc2 hm1 hm2
  go_enter Tryz.func111, Tryz.ntmps111
  go_wp2_with fail
  go_ret
  exact ⟨rfl, b⟩
theorem x9r (v1 v2 : Value) (l m : List WitT) (w : World) (h1 : Sl w v1 33 (l.map witCs)) (h2 : Sl w v2 33 (m.map witCs)) (hl : ∀ x ∈ l, x.Ok) (hm : ∀ x ∈ m, x.Ok) :
  Calls Tryz.prog 112 #[v1, v2] w fun e w' => e = .returned (.bool (sameL sameWit l m)) ∧ Below w.heap.size w w' := by
 obtain ⟨a1, c1, rfl, hc1, hm1, _⟩ := h1.shape
 obtain ⟨a2, c2, rfl, hc2, hm2, _⟩ := h2.shape
 have b := Below.refl w.heap.size w
 by_cases hlen : l.length = m.length
 ·obtain ⟨n, hn⟩ : ∃ n, n = l.length := ⟨_, rfl⟩
  have HN := hide hn
  have HM : Hid (n = m.length) := by unfold Hid; omega
  rw [← hlen] at hc2 ⊢
  rw [← hn] at hc1 hc2 ⊢
  have hcap : n ≤ maxLen := by omega
  unfold maxLen at hcap
  have HL := hide hl
  have HK := hide hm
  clear hn hl hm hc1 hc2 hm1 hm2 hlen
  go_enter Tryz.func112, Tryz.ntmps112
  go_wp2_with fail
  go_loopw [13] (fun i wr => ∃ k : Nat, i = .int .i64 k ∧ k ≤ n ∧ Hid (sameL sameWit (l.take k) (m.take k) = true) ∧ Below w.heap.size w wr) (fun i _ => n - (RowKit.intOf i).toNat)
  case atStart => exact ⟨0, rfl, by omega, hide (by simp [sameL]), b⟩
  case round =>
   clear b
   obtain ⟨k, rfl, hk, HA, b⟩ := hrel
   by_cases hlt : k < n
   ·obtain ⟨x, hx, okx⟩ := q1i HL.out (k := k) (by rw [← HN.out]; exact hlt)
    obtain ⟨y, hy, oky⟩ := q1i HK.out (k := k) (by rw [← HM.out]; exact hlt)
    obtain ⟨b1, k1, c1', e1, _, hcs1⟩ := (h1.later b).block (by rw [← HN.out]; omega)
    obtain ⟨b2, k2, c2', e2, _, hcs2⟩ := (h2.later b).block (by rw [← HM.out]; omega)
    simp only [Value.slice.injEq] at e1 e2
    obtain ⟨rfl, -, rfl⟩ := e1
    obtain ⟨rfl, -, rfl⟩ := e2
    have d1 := hcs1 k x hx
    have d2 := hcs2 k y hy
    have HR := hide (q3j (f := sameWit) l m k x y hx hy)
    have HS := hide (q3k (f := sameWit) l m (k + 1))
    have OX := hide okx
    have OY := hide oky
    clear hcs1 hcs2 okx oky hx hy
    cases hB : sameWit x y
    case true =>
     have HA2 : Hid (sameL sameWit (l.take (k + 1)) (m.take (k + 1)) = true) := by rw [HR.out, HA.out, hB]; exact hide rfl
     have HB := hide hB
     clear HR HS HA hB
     go_wp2_with (with_reducible show Code.wp _ (Code.region _ _ true) _ _ _; fail)
     refine q0e (by kernel_rfl) (by kernel_rfl) ?_
     repeat ((go_big_quiet_want; first | ((with_reducible refine w28g ?_); first | (refine q2j _ rfl rfl d1 OX.out ?_; simp only [pS]; go_big_quiet_on) | (refine q2j _ rfl rfl d2 OY.out ?_; simp only [pS]; go_big_quiet_on)) | ((with_reducible refine w31g ?_); refine q6p _ _ rfl rfl rfl OX.out OY.out ?_; rw [HB.out]; simp only [pS]; go_big_quiet_on) | (go_big_quiet_op; go_big_quiet_on)))
     refine wpQuiet_nil ?_
     intro _ hq
     (try replace b := later b hq)
     clear hq
     go_wp2_with fail
     go_roundw
     case rel => exact ⟨k + 1, by simp, by omega, HA2, b⟩
     case measure => simp [RowKit.intOf]; omega
    case false =>
     have HA2 : Hid (sameL sameWit l m = false) := HS.out (by rw [HR.out, hB, Bool.and_false])
     have HB := hide hB
     clear HR HS HA hB
     go_wp2_with (with_reducible show Code.wp _ (Code.region _ _ true) _ _ _; fail)
     refine q0e (by kernel_rfl) (by kernel_rfl) ?_
     repeat ((go_big_quiet_want; first | ((with_reducible refine w28g ?_); first | (refine q2j _ rfl rfl d1 OX.out ?_; simp only [pS]; go_big_quiet_on) | (refine q2j _ rfl rfl d2 OY.out ?_; simp only [pS]; go_big_quiet_on)) | ((with_reducible refine w31g ?_); refine q6p _ _ rfl rfl rfl OX.out OY.out ?_; rw [HB.out]; simp only [pS]; go_big_quiet_on) | (go_big_quiet_op; go_big_quiet_on)))
     refine wpQuiet_nil ?_
     intro _ hq
     (try replace b := later b hq)
     clear hq
     go_wp2_with fail
     go_ret
     exact ⟨by rw [HA2.out]; rfl, b⟩
   ·obtain rfl : k = n := by omega
    have hA := HA.out
    rw [List.take_of_length_le (by rw [← HN.out]; exact Nat.le_refl _), List.take_of_length_le (by rw [← HM.out]; exact Nat.le_refl _)] at hA
    clear HA
    go_wp2_with fail
    go_ret
    exact ⟨by rw [hA]; rfl, b⟩
 ·have hR : sameL sameWit l m = false := q6z hlen
  rw [hR]
  have e1 : ((l.length : Int) != (m.length : Int)) = true := by simp; omega
  clear hR hl hm hlen h1 h2 hc1 hc2 hm1 hm2
  go_enter Tryz.func112, Tryz.ntmps112
  go_wp2_with fail
  go_ret
  exact ⟨rfl, b⟩
theorem j7z (v u : Value) (d e : Deed) (w : World) (hd : DeedIs w v d) (he : DeedIs w u e) :
  Calls Tryz.prog 49 #[v, u] w fun x w' => x = .returned (.bool (sameD d e)) ∧ Below w.heap.size w w' := by
 obtain ⟨v1, v2, v3, v4, v5, rfl, h1, h2, h3, h4, h5, ok⟩ := hd
 obtain ⟨u1, u2, u3, u4, u5, rfl, k1, k2, k3, k4, k5, oe⟩ := he
 have o1 := h1.one'
 have o2 := h2.one'
 have o3 := h3.one'
 have o4 := h4.one'
 have o5 := h5.one'
 have p1 := k1.one'
 have p2 := k2.one'
 have p3 := k3.one'
 have p4 := k4.one'
 have p5 := k5.one'
 have R1 := hide (fun (w' : World) (hb : Below w.heap.size w w') => z2c _ _ _ _ w' (h1.later hb) (k1.later hb) ok.ins oe.ins)
 have R2 := hide (fun (w' : World) (hb : Below w.heap.size w w') => x9i _ _ _ _ w' (h2.later hb) (k2.later hb) ok.outs oe.outs)
 have R3 := hide (fun (w' : World) (hb : Below w.heap.size w w') => x4w _ _ _ _ w' (h3.later hb) (k3.later hb) ok.certs oe.certs)
 have R4 := hide (fun (w' : World) (hb : Below w.heap.size w w') => x8e _ _ _ _ w' (h4.later hb) (k4.later hb) ok.pays oe.pays)
 have R5 := hide (fun (w' : World) (hb : Below w.heap.size w w') => x9r _ _ _ _ w' (h5.later hb) (k5.later hb) ok.wits oe.wits)
 have b := Below.refl w.heap.size w
 have E1 := hide (fun _ : Unit => q3n d.fee e.fee)
 have E2 := hide (fun _ : Unit => q3n d.frm e.frm)
 have E3 := hide (fun _ : Unit => q3n d.til e.til)
 unfold sameD
 clear h1 h2 h3 h4 h5 k1 k2 k3 k4 k5 ok oe
 generalize sameL sameIn d.ins e.ins = A1 at *
 generalize sameL sameOut d.outs e.outs = A2 at *
 generalize sameL sameCert d.certs e.certs = A6 at *
 generalize sameL samePay d.pays e.pays = A7 at *
 generalize sameL sameWit d.wits e.wits = A8 at *
 generalize decide (d.fee = e.fee) = A3 at *
 generalize decide (d.frm = e.frm) = A4 at *
 generalize decide (d.til = e.til) = A5 at *
 generalize d.fee = f1 at *
 generalize d.frm = s1 at *
 generalize d.til = t1' at *
 generalize e.fee = f2 at *
 generalize e.frm = s2 at *
 generalize e.til = t2' at *
 have mF1 := True.intro
 have mF2 := True.intro
 go_enter Tryz.func49, Tryz.ntmps49
 go_wp2_with (first | (with_reducible refine w2g ?_; clear mF1; refine q0x rfl _ rfl rfl o1 o2 o3 o4 o5 ?_; intro _ g2 hg2 F1 hb; (try replace b := later b hb); clear hb) | (with_reducible refine w2g ?_; clear mF2; refine q0x rfl _ rfl rfl p1 p2 p3 p4 p5 ?_; intro _ g3 hg3 F2 hb; (try replace F1 := F1.later hb); (try replace b := later b hb); clear hb) | (with_reducible refine w0g ?_; first | ((with_reducible refine w6g ?_); first | refine q0a rfl 24 _ rfl rfl (DAt.c2 F1) (by kernel_rfl) ?_ | refine q0a rfl 24 _ rfl rfl (DAt.c3 F1) (by kernel_rfl) ?_ | refine q0a rfl 24 _ rfl rfl (DAt.c4 F1) (by kernel_rfl) ?_) | refine q0a rfl 22 _ rfl rfl (DAt.c0 F1) (by kernel_rfl) ?_ | refine q0a rfl 23 _ rfl rfl (DAt.c1 F1) (by kernel_rfl) ?_ | refine q0a rfl 25 _ rfl rfl (DAt.c5 F1) (by kernel_rfl) ?_ | refine q0a rfl 26 _ rfl rfl (DAt.c6 F1) (by kernel_rfl) ?_ | refine q0a rfl 27 _ rfl rfl (DAt.c7 F1) (by kernel_rfl) ?_) | (with_reducible refine w0g ?_; first | ((with_reducible refine w6g ?_); first | refine q0a rfl 24 _ rfl rfl (DAt.c2 F2) (by kernel_rfl) ?_ | refine q0a rfl 24 _ rfl rfl (DAt.c3 F2) (by kernel_rfl) ?_ | refine q0a rfl 24 _ rfl rfl (DAt.c4 F2) (by kernel_rfl) ?_) | refine q0a rfl 22 _ rfl rfl (DAt.c0 F2) (by kernel_rfl) ?_ | refine q0a rfl 23 _ rfl rfl (DAt.c1 F2) (by kernel_rfl) ?_ | refine q0a rfl 25 _ rfl rfl (DAt.c5 F2) (by kernel_rfl) ?_ | refine q0a rfl 26 _ rfl rfl (DAt.c6 F2) (by kernel_rfl) ?_ | refine q0a rfl 27 _ rfl rfl (DAt.c7 F2) (by kernel_rfl) ?_) | (with_reducible refine w8g ?_; first | refine q4u rfl _ _ rfl rfl rfl (E1.out ()) ?_ | refine q4u rfl _ _ rfl rfl rfl (E2.out ()) ?_ | refine q4u rfl _ _ rfl rfl rfl (E3.out ()) ?_) | (go_at_call 108; refine (R1.out _ b).mono ?_; rintro _ _ ⟨rfl, hc⟩; (try replace F1 := F1.later hc); (try replace F2 := F2.later hc); (try replace b := later b hc); clear hc) | (go_at_call 109; refine (R2.out _ b).mono ?_; rintro _ _ ⟨rfl, hc⟩; (try replace F1 := F1.later hc); (try replace F2 := F2.later hc); (try replace b := later b hc); clear hc) | (go_at_call 110; refine (R3.out _ b).mono ?_; rintro _ _ ⟨rfl, hc⟩; (try replace F1 := F1.later hc); (try replace F2 := F2.later hc); (try replace b := later b hc); clear hc) | (go_at_call 111; refine (R4.out _ b).mono ?_; rintro _ _ ⟨rfl, hc⟩; (try replace F1 := F1.later hc); (try replace F2 := F2.later hc); (try replace b := later b hc); clear hc) | (go_at_call 112; refine (R5.out _ b).mono ?_; rintro _ _ ⟨rfl, hc⟩; (try replace F1 := F1.later hc); (try replace F2 := F2.later hc); (try replace b := later b hc); clear hc))
 all_goals
  go_ret
  refine ⟨?_, b⟩
  clear R1 R2 R3 R4 R5 E1 E2 E3 F1 F2 b
  simp_all
end Go.Proofs.YtbbfnpfkbbpjgaaGreat
