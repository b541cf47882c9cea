/- Lists compared, place by place: plain law. -/
import Derived.Test.YtbbfnpfkbbpjgaaGreatQCElCert
import Derived.Test.YtbbfnpfkbbpjgaaGreatQCHdEq
namespace Go.Proofs.YtbbfnpfkbbpjgaaGreat
open Go.RowKit Go.Lib
set_option linter.unusedVariables false
set_option linter.unusedSimpArgs false
set_option maxRecDepth 100000
set_option maxHeartbeats 4000000
theorem q7m {α : Type} {f : α → α → Bool} : ∀ {l m : List α}, l.length ≠ m.length → sameL f l m = false
 | [], [], h => absurd rfl h
 | [], _ :: _, _ => rfl
 | _ :: _, [], _ => rfl
 | a :: l, b :: m, h => by
  unfold sameL
  rw [q7m (l := l) (m := m) (by simpa using h), Bool.and_false]
theorem q3l {α : Type} {f : α → α → Bool} : ∀ (l m : List α) (k : Nat) (x y : α), l[k]? = some x → m[k]? = some y → sameL f (l.take (k + 1)) (m.take (k + 1)) = (sameL f (l.take k) (m.take k) && f x y)
 | [], _, _, _, _, h, _ => by simp at h
 | _ :: _, [], _, _, _, _, h => by simp at h
 | a :: l, b :: m, 0, x, y, h1, h2 => by
  simp only [List.getElem?_cons_zero, Option.some.injEq] at h1 h2
  subst h1
  subst h2
  simp [sameL]
 | a :: l, b :: m, k + 1, x, y, h1, h2 => by
  rw [List.getElem?_cons_succ] at h1 h2
  have ih := q3l (f := f) l m k x y h1 h2
  simp only [List.take_succ_cons, sameL] at ih ⊢
  rw [ih, Bool.and_assoc]
theorem q3n {α : Type} {f : α → α → Bool} : ∀ (l m : List α) (k : Nat), sameL f (l.take k) (m.take k) = false → sameL f l m = false
 | _, _, 0, h => by simp [sameL] at h
 | [], [], _ + 1, h => by simp [sameL] at h
 | [], _ :: _, _ + 1, _ => rfl
 | _ :: _, [], _ + 1, _ => rfl
 | a :: l, b :: m, k + 1, h => by
  simp only [List.take_succ_cons, sameL, Bool.and_eq_false_iff] at h ⊢
  rcases h with h | h
  ·exact .inl h
  ·exact .inr (q3n l m k h)
theorem z2c (v1 v2 : Value) (l m : List InT) (w : World) (h1 : Sl w v1 33 (l.map inCs)) (h2 : Sl w v2 33 (m.map inCs)) (hl : ∀ x ∈ l, x.Ok) (hm : ∀ x ∈ m, x.Ok) :
  Calls Tryz.prog 108 #[v1, v2] w fun e w' => e = .returned (.bool (sameL sameIn l m)) ∧ Below w.heap.size w w' := by
 obtain ⟨a1, c1, rfl, hc1, hm1, _⟩ := h1.shape
 obtain ⟨a2, c2, rfl, hc2, hm2, _⟩ := h2.shape
 have b := Below.refl w.heap.size w
 by_cases hlen : l.length = m.length
 ·obtain ⟨n, hn⟩ : ∃ n, n = l.length := ⟨_, rfl⟩
  have HN := hide hn
  have HM : Hid (n = m.length) := by unfold Hid; omega
  rw [← hlen] at hc2 ⊢
  rw [← hn] at hc1 hc2 ⊢
  have hcap : n ≤ maxLen := by omega
  unfold maxLen at hcap
  have HL := hide hl
  have HK := hide hm
  clear hn hl hm hc1 hc2 hm1 hm2 hlen
  go_enter Tryz.func108, Tryz.ntmps108
  go_wp2_with fail
  go_loopw [13] (fun i wr => ∃ k : Nat, i = .int .i64 k ∧ k ≤ n ∧ Hid (sameL sameIn (l.take k) (m.take k) = true) ∧ Below w.heap.size w wr) (fun i _ => n - (RowKit.intOf i).toNat)
  case atStart => exact ⟨0, rfl, by omega, hide (by simp [sameL]), b⟩
  case round =>
   clear b
   obtain ⟨k, rfl, hk, HA, b⟩ := hrel
   by_cases hlt : k < n
   ·obtain ⟨x, hx, okx⟩ := q1b HL.out (k := k) (by rw [← HN.out]; exact hlt)
    obtain ⟨y, hy, oky⟩ := q1b HK.out (k := k) (by rw [← HM.out]; exact hlt)
    obtain ⟨b1, k1, c1', e1, _, hcs1⟩ := (h1.later b).block (by rw [← HN.out]; omega)
    obtain ⟨b2, k2, c2', e2, _, hcs2⟩ := (h2.later b).block (by rw [← HM.out]; omega)
    simp only [Value.slice.injEq] at e1 e2
    obtain ⟨rfl, -, rfl⟩ := e1
    obtain ⟨rfl, -, rfl⟩ := e2
    have d1 := hcs1 k x hx
    have d2 := hcs2 k y hy
    have HR := hide (q3l (f := sameIn) l m k x y hx hy)
    have HS := hide (q3n (f := sameIn) l m (k + 1))
    have OX := hide okx
    have OY := hide oky
    clear hcs1 hcs2 okx oky hx hy
    cases hB : sameIn x y
    case true =>
     have HA2 : Hid (sameL sameIn (l.take (k + 1)) (m.take (k + 1)) = true) := by rw [HR.out, HA.out, hB]; exact hide rfl
     have HB := hide hB
     clear HR HS HA hB
     go_wp2_with (with_reducible show Code.wp _ (Code.region _ _ true) _ _ _; fail)
     refine q0e (by kernel_rfl) (by kernel_rfl) ?_
     repeat ((go_big_quiet_want; first | ((with_reducible refine w22g ?_); first | (refine q1p _ rfl rfl d1 OX.out ?_; simp only [pS]; go_big_quiet_on) | (refine q1p _ rfl rfl d2 OY.out ?_; simp only [pS]; go_big_quiet_on)) | ((with_reducible refine w26g ?_); refine q7v _ _ rfl rfl rfl OX.out OY.out ?_; rw [HB.out]; simp only [pS]; go_big_quiet_on) | (go_big_quiet_op; go_big_quiet_on)))
     refine wpQuiet_nil ?_
     intro _ hq
     (try replace b := later b hq)
     clear hq
     go_wp2_with fail
     go_roundw
     case rel => exact ⟨k + 1, by simp, by omega, HA2, b⟩
     case measure => simp [RowKit.intOf]; omega
    case false =>
     have HA2 : Hid (sameL sameIn l m = false) := HS.out (by rw [HR.out, hB, Bool.and_false])
     have HB := hide hB
     clear HR HS HA hB
     go_wp2_with (with_reducible show Code.wp _ (Code.region _ _ true) _ _ _; fail)
     refine q0e (by kernel_rfl) (by kernel_rfl) ?_
     repeat ((go_big_quiet_want; first | ((with_reducible refine w22g ?_); first | (refine q1p _ rfl rfl d1 OX.out ?_; simp only [pS]; go_big_quiet_on) | (refine q1p _ rfl rfl d2 OY.out ?_; simp only [pS]; go_big_quiet_on)) | ((with_reducible refine w26g ?_); refine q7v _ _ rfl rfl rfl OX.out OY.out ?_; rw [HB.out]; simp only [pS]; go_big_quiet_on) | (go_big_quiet_op; go_big_quiet_on)))
     refine wpQuiet_nil ?_
     intro _ hq
     (try replace b := later b hq)
     clear hq
     go_wp2_with fail
     go_ret
     exact ⟨by rw [HA2.out]; rfl, b⟩
   ·obtain rfl : k = n := by omega
    have hA := HA.out
    rw [List.take_of_length_le (by rw [← HN.out]; exact Nat.le_refl _), List.take_of_length_le (by rw [← HM.out]; exact Nat.le_refl _)] at hA
    clear HA
    go_wp2_with fail
    go_ret
    exact ⟨by rw [hA]; rfl, b⟩
 ·have hR : sameL sameIn l m = false := q7m hlen
  rw [hR]
  have e1 : ((l.length : Int) != (m.length : Int)) = true := by simp; omega
  clear hR hl hm hlen h1 h2 hc1 hc2 hm1 hm2
  go_enter Tryz.func108, Tryz.ntmps108
  go_wp2_with fail
  go_ret
  exact ⟨rfl, b⟩
theorem x7w (v1 v2 : Value) (l m : List OutT) (w : World) (h1 : Sl w v1 65 (l.map outCs)) (h2 : Sl w v2 65 (m.map outCs)) (hl : ∀ x ∈ l, x.Ok) (hm : ∀ x ∈ m, x.Ok) :
  Calls Tryz.prog 109 #[v1, v2] w fun e w' => e = .returned (.bool (sameL sameOut l m)) ∧ Below w.heap.size w w' := by
 obtain ⟨a1, c1, rfl, hc1, hm1, _⟩ := h1.shape
 obtain ⟨a2, c2, rfl, hc2, hm2, _⟩ := h2.shape
 have b := Below.refl w.heap.size w
 by_cases hlen : l.length = m.length
 ·obtain ⟨n, hn⟩ : ∃ n, n = l.length := ⟨_, rfl⟩
  have HN := hide hn
  have HM : Hid (n = m.length) := by unfold Hid; omega
  rw [← hlen] at hc2 ⊢
  rw [← hn] at hc1 hc2 ⊢
  have hcap : n ≤ maxLen := by omega
  unfold maxLen at hcap
  have HL := hide hl
  have HK := hide hm
  clear hn hl hm hc1 hc2 hm1 hm2 hlen
  go_enter Tryz.func109, Tryz.ntmps109
  go_wp2_with fail
  go_loopw [13] (fun i wr => ∃ k : Nat, i = .int .i64 k ∧ k ≤ n ∧ Hid (sameL sameOut (l.take k) (m.take k) = true) ∧ Below w.heap.size w wr) (fun i _ => n - (RowKit.intOf i).toNat)
  case atStart => exact ⟨0, rfl, by omega, hide (by simp [sameL]), b⟩
  case round =>
   clear b
   obtain ⟨k, rfl, hk, HA, b⟩ := hrel
   by_cases hlt : k < n
   ·obtain ⟨x, hx, okx⟩ := q1b HL.out (k := k) (by rw [← HN.out]; exact hlt)
    obtain ⟨y, hy, oky⟩ := q1b HK.out (k := k) (by rw [← HM.out]; exact hlt)
    obtain ⟨b1, k1, c1', e1, _, hcs1⟩ := (h1.later b).block (by rw [← HN.out]; omega)
    obtain ⟨b2, k2, c2', e2, _, hcs2⟩ := (h2.later b).block (by rw [← HM.out]; omega)
    simp only [Value.slice.injEq] at e1 e2
    obtain ⟨rfl, -, rfl⟩ := e1
    obtain ⟨rfl, -, rfl⟩ := e2
    have d1 := hcs1 k x hx
    have d2 := hcs2 k y hy
    have HR := hide (q3l (f := sameOut) l m k x y hx hy)
    have HS := hide (q3n (f := sameOut) l m (k + 1))
    have OX := hide okx
    have OY := hide oky
    clear hcs1 hcs2 okx oky hx hy
    cases hB : sameOut x y
    case true =>
     have HA2 : Hid (sameL sameOut (l.take (k + 1)) (m.take (k + 1)) = true) := by rw [HR.out, HA.out, hB]; exact hide rfl
     have HB := hide hB
     clear HR HS HA hB
     go_wp2_with (with_reducible show Code.wp _ (Code.region _ _ true) _ _ _; fail)
     refine q0e (by kernel_rfl) (by kernel_rfl) ?_
     repeat ((go_big_quiet_want; first | ((with_reducible refine w22g ?_); first | (refine q3q _ rfl rfl d1 OX.out ?_; simp only [pS]; go_big_quiet_on) | (refine q3q _ rfl rfl d2 OY.out ?_; simp only [pS]; go_big_quiet_on)) | ((with_reducible refine w26g ?_); refine q6r _ _ rfl rfl rfl OX.out OY.out ?_; rw [HB.out]; simp only [pS]; go_big_quiet_on) | (go_big_quiet_op; go_big_quiet_on)))
     refine wpQuiet_nil ?_
     intro _ hq
     (try replace b := later b hq)
     clear hq
     go_wp2_with fail
     go_roundw
     case rel => exact ⟨k + 1, by simp, by omega, HA2, b⟩
     case measure => simp [RowKit.intOf]; omega
    case false =>
     have HA2 : Hid (sameL sameOut l m = false) := HS.out (by rw [HR.out, hB, Bool.and_false])
     have HB := hide hB
     clear HR HS HA hB
     go_wp2_with (with_reducible show Code.wp _ (Code.region _ _ true) _ _ _; fail)
     refine q0e (by kernel_rfl) (by kernel_rfl) ?_
     repeat ((go_big_quiet_want; first | ((with_reducible refine w22g ?_); first | (refine q3q _ rfl rfl d1 OX.out ?_; simp only [pS]; go_big_quiet_on) | (refine q3q _ rfl rfl d2 OY.out ?_; simp only [pS]; go_big_quiet_on)) | ((with_reducible refine w26g ?_); refine q6r _ _ rfl rfl rfl OX.out OY.out ?_; rw [HB.out]; simp only [pS]; go_big_quiet_on) | (go_big_quiet_op; go_big_quiet_on)))
     refine wpQuiet_nil ?_
     intro _ hq
     (try replace b := later b hq)
     clear hq
     go_wp2_with fail
     go_ret
     exact ⟨by rw [HA2.out]; rfl, b⟩
   ·obtain rfl : k = n := by omega
    have hA := HA.out
    rw [List.take_of_length_le (by rw [← HN.out]; exact Nat.le_refl _), List.take_of_length_le (by rw [← HM.out]; exact Nat.le_refl _)] at hA
    clear HA
    go_wp2_with fail
    go_ret
    exact ⟨by rw [hA]; rfl, b⟩
 ·have hR : sameL sameOut l m = false := q7m hlen
  rw [hR]
  have e1 : ((l.length : Int) != (m.length : Int)) = true := by simp; omega
  clear hR hl hm hlen h1 h2 hc1 hc2 hm1 hm2
  go_enter Tryz.func109, Tryz.ntmps109
  go_wp2_with fail
  go_ret
  exact ⟨rfl, b⟩
theorem x7f (v1 v2 : Value) (l m : List CertT) (w : World) (h1 : Sl w v1 68 (l.map certCs)) (h2 : Sl w v2 68 (m.map certCs)) (hl : ∀ x ∈ l, x.Ok) (hm : ∀ x ∈ m, x.Ok) :
  Calls Tryz.prog 110 #[v1, v2] w fun e w' => e = .returned (.bool (sameL sameCert l m)) ∧ Below w.heap.size w w' := by
 obtain ⟨a1, c1, rfl, hc1, hm1, _⟩ := h1.shape
 obtain ⟨a2, c2, rfl, hc2, hm2, _⟩ := h2.shape
 have b := Below.refl w.heap.size w
 by_cases hlen : l.length = m.length
 ·obtain ⟨n, hn⟩ : ∃ n, n = l.length := ⟨_, rfl⟩
  have HN := hide hn
  have HM : Hid (n = m.length) := by unfold Hid; omega
  rw [← hlen] at hc2 ⊢
  rw [← hn] at hc1 hc2 ⊢
  have hcap : n ≤ maxLen := by omega
  unfold maxLen at hcap
  have HL := hide hl
  have HK := hide hm
  clear hn hl hm hc1 hc2 hm1 hm2 hlen
  go_enter Tryz.func110, Tryz.ntmps110
  go_wp2_with fail
  go_loopw [13] (fun i wr => ∃ k : Nat, i = .int .i64 k ∧ k ≤ n ∧ Hid (sameL sameCert (l.take k) (m.take k) = true) ∧ Below w.heap.size w wr) (fun i _ => n - (RowKit.intOf i).toNat)
  case atStart => exact ⟨0, rfl, by omega, hide (by simp [sameL]), b⟩
  case round =>
   clear b
   obtain ⟨k, rfl, hk, HA, b⟩ := hrel
   by_cases hlt : k < n
   ·obtain ⟨x, hx, okx⟩ := q1b HL.out (k := k) (by rw [← HN.out]; exact hlt)
    obtain ⟨y, hy, oky⟩ := q1b HK.out (k := k) (by rw [← HM.out]; exact hlt)
    obtain ⟨b1, k1, c1', e1, _, hcs1⟩ := (h1.later b).block (by rw [← HN.out]; omega)
    obtain ⟨b2, k2, c2', e2, _, hcs2⟩ := (h2.later b).block (by rw [← HM.out]; omega)
    simp only [Value.slice.injEq] at e1 e2
    obtain ⟨rfl, -, rfl⟩ := e1
    obtain ⟨rfl, -, rfl⟩ := e2
    have d1 := hcs1 k x hx
    have d2 := hcs2 k y hy
    have HR := hide (q3l (f := sameCert) l m k x y hx hy)
    have HS := hide (q3n (f := sameCert) l m (k + 1))
    have OX := hide okx
    have OY := hide oky
    clear hcs1 hcs2 okx oky hx hy
    cases hB : sameCert x y
    case true =>
     have HA2 : Hid (sameL sameCert (l.take (k + 1)) (m.take (k + 1)) = true) := by rw [HR.out, HA.out, hB]; exact hide rfl
     have HB := hide hB
     clear HR HS HA hB
     go_wp2_with (with_reducible show Code.wp _ (Code.region _ _ true) _ _ _; fail)
     refine q0e (by kernel_rfl) (by kernel_rfl) ?_
     repeat ((go_big_quiet_want; first | ((with_reducible refine w22g ?_); first | (refine q3g _ rfl rfl d1 OX.out ?_; simp only [pS]; go_big_quiet_on) | (refine q3g _ rfl rfl d2 OY.out ?_; simp only [pS]; go_big_quiet_on)) | ((with_reducible refine w26g ?_); refine q5r _ _ rfl rfl rfl OX.out OY.out ?_; rw [HB.out]; simp only [pS]; go_big_quiet_on) | (go_big_quiet_op; go_big_quiet_on)))
     refine wpQuiet_nil ?_
     intro _ hq
     (try replace b := later b hq)
     clear hq
     go_wp2_with fail
     go_roundw
     case rel => exact ⟨k + 1, by simp, by omega, HA2, b⟩
     case measure => simp [RowKit.intOf]; omega
    case false =>
     have HA2 : Hid (sameL sameCert l m = false) := HS.out (by rw [HR.out, hB, Bool.and_false])
     have HB := hide hB
     clear HR HS HA hB
     go_wp2_with (with_reducible show Code.wp _ (Code.region _ _ true) _ _ _; fail)
     refine q0e (by kernel_rfl) (by kernel_rfl) ?_
     repeat ((go_big_quiet_want; first | ((with_reducible refine w22g ?_); first | (refine q3g _ rfl rfl d1 OX.out ?_; simp only [pS]; go_big_quiet_on) | (refine q3g _ rfl rfl d2 OY.out ?_; simp only [pS]; go_big_quiet_on)) | ((with_reducible refine w26g ?_); refine q5r _ _ rfl rfl rfl OX.out OY.out ?_; rw [HB.out]; simp only [pS]; go_big_quiet_on) | (go_big_quiet_op; go_big_quiet_on)))
     refine wpQuiet_nil ?_
     intro _ hq
     (try replace b := later b hq)
     clear hq
     go_wp2_with fail
     go_ret
     exact ⟨by rw [HA2.out]; rfl, b⟩
   ·obtain rfl : k = n := by omega
    have hA := HA.out
    rw [List.take_of_length_le (by rw [← HN.out]; exact Nat.le_refl _), List.take_of_length_le (by rw [← HM.out]; exact Nat.le_refl _)] at hA
    clear HA
    go_wp2_with fail
    go_ret
    exact ⟨by rw [hA]; rfl, b⟩
 ·have hR : sameL sameCert l m = false := q7m hlen
  rw [hR]
  have e1 : ((l.length : Int) != (m.length : Int)) = true := by simp; omega
  clear hR hl hm hlen h1 h2 hc1 hc2 hm1 hm2
  go_enter Tryz.func110, Tryz.ntmps110
  go_wp2_with fail
  go_ret
  exact ⟨rfl, b⟩
theorem x9h (v1 v2 : Value) (l m : List PayT) (w : World) (h1 : Sl w v1 33 (l.map payCs)) (h2 : Sl w v2 33 (m.map payCs)) (hl : ∀ x ∈ l, x.Ok) (hm : ∀ x ∈ m, x.Ok) :
  Calls Tryz.prog 111 #[v1, v2] w fun e w' => e = .returned (.bool (sameL samePay l m)) ∧ Below w.heap.size w w' := by
 obtain ⟨a1, c1, rfl, hc1, hm1, _⟩ := h1.shape
 obtain ⟨a2, c2, rfl, hc2, hm2, _⟩ := h2.shape
 have b := Below.refl w.heap.size w
 by_cases hlen : l.length = m.length
 ·obtain ⟨n, hn⟩ : ∃ n, n = l.length := ⟨_, rfl⟩
  have HN := hide hn
  have HM : Hid (n = m.length) := by unfold Hid; omega
  rw [← hlen] at hc2 ⊢
  rw [← hn] at hc1 hc2 ⊢
  have hcap : n ≤ maxLen := by omega
  unfold maxLen at hcap
  have HL := hide hl
  have HK := hide hm
  clear hn hl hm hc1 hc2 hm1 hm2 hlen
  go_enter Tryz.func111, Tryz.ntmps111
  go_wp2_with fail
  go_loopw [13] (fun i wr => ∃ k : Nat, i = .int .i64 k ∧ k ≤ n ∧ Hid (sameL samePay (l.take k) (m.take k) = true) ∧ Below w.heap.size w wr) (fun i _ => n - (RowKit.intOf i).toNat)
  case atStart => exact ⟨0, rfl, by omega, hide (by simp [sameL]), b⟩
  case round =>
   clear b
   obtain ⟨k, rfl, hk, HA, b⟩ := hrel
   by_cases hlt : k < n
   ·obtain ⟨x, hx, okx⟩ := q1b HL.out (k := k) (by rw [← HN.out]; exact hlt)
    obtain ⟨y, hy, oky⟩ := q1b HK.out (k := k) (by rw [← HM.out]; exact hlt)
    obtain ⟨b1, k1, c1', e1, _, hcs1⟩ := (h1.later b).block (by rw [← HN.out]; omega)
    obtain ⟨b2, k2, c2', e2, _, hcs2⟩ := (h2.later b).block (by rw [← HM.out]; omega)
    simp only [Value.slice.injEq] at e1 e2
    obtain ⟨rfl, -, rfl⟩ := e1
    obtain ⟨rfl, -, rfl⟩ := e2
    have d1 := hcs1 k x hx
    have d2 := hcs2 k y hy
    have HR := hide (q3l (f := samePay) l m k x y hx hy)
    have HS := hide (q3n (f := samePay) l m (k + 1))
    have OX := hide okx
    have OY := hide oky
    clear hcs1 hcs2 okx oky hx hy
    cases hB : samePay x y
    case true =>
     have HA2 : Hid (sameL samePay (l.take (k + 1)) (m.take (k + 1)) = true) := by rw [HR.out, HA.out, hB]; exact hide rfl
     have HB := hide hB
     clear HR HS HA hB
     go_wp2_with (with_reducible show Code.wp _ (Code.region _ _ true) _ _ _; fail)
     refine q0e (by kernel_rfl) (by kernel_rfl) ?_
     repeat ((go_big_quiet_want; first | ((with_reducible refine w22g ?_); first | (refine q2h _ rfl rfl d1 OX.out ?_; simp only [pS]; go_big_quiet_on) | (refine q2h _ rfl rfl d2 OY.out ?_; simp only [pS]; go_big_quiet_on)) | ((with_reducible refine w26g ?_); refine q6m _ _ rfl rfl rfl OX.out OY.out ?_; rw [HB.out]; simp only [pS]; go_big_quiet_on) | (go_big_quiet_op; go_big_quiet_on)))
     refine wpQuiet_nil ?_
     intro _ hq
     (try replace b := later b hq)
     clear hq
     go_wp2_with fail
     go_roundw
     case rel => exact ⟨k + 1, by simp, by omega, HA2, b⟩
     case measure => simp [RowKit.intOf]; omega
    case false =>
     have HA2 : Hid (sameL samePay l m = false) := HS.out (by rw [HR.out, hB, Bool.and_false])
     have HB := hide hB
     clear HR HS HA hB
     go_wp2_with (with_reducible show Code.wp _ (Code.region _ _ true) _ _ _; fail)
     refine q0e (by kernel_rfl) (by kernel_rfl) ?_
     repeat ((go_big_quiet_want; first | ((with_reducible refine w22g ?_); first | (refine q2h _ rfl rfl d1 OX.out ?_; simp only [pS]; go_big_quiet_on) | (refine q2h _ rfl rfl d2 OY.out ?_; simp only [pS]; go_big_quiet_on)) | ((with_reducible refine w26g ?_); refine q6m _ _ rfl rfl rfl OX.out OY.out ?_; rw [HB.out]; simp only [pS]; go_big_quiet_on) | (go_big_quiet_op; go_big_quiet_on)))
     refine wpQuiet_nil ?_
     intro _ hq
     (try replace b := later b hq)
     clear hq
     go_wp2_with fail
     go_ret
     exact ⟨by rw [HA2.out]; rfl, b⟩
   ·obtain rfl : k = n := by omega
    have hA := HA.out
    rw [List.take_of_length_le (by rw [← HN.out]; exact Nat.le_refl _), List.take_of_length_le (by rw [← HM.out]; exact Nat.le_refl _)] at hA
    clear HA
    go_wp2_with fail
    go_ret
    exact ⟨by rw [hA]; rfl, b⟩
 ·have hR : sameL samePay l m = false := q7m hlen
  rw [hR]
  have e1 : ((l.length : Int) != (m.length : Int)) = true := by simp; omega
  clear hR hl hm hlen h1 h2 hc1 hc2 hm1 hm2
  go_enter Tryz.func111, Tryz.ntmps111
  go_wp2_with fail
  go_ret
  exact ⟨rfl, b⟩
theorem z0i (v1 v2 : Value) (l m : List WitT) (w : World) (h1 : Sl w v1 33 (l.map witCs)) (h2 : Sl w v2 33 (m.map witCs)) (hl : ∀ x ∈ l, x.Ok) (hm : ∀ x ∈ m, x.Ok) :
  Calls Tryz.prog 112 #[v1, v2] w fun e w' => e = .returned (.bool (sameL sameWit l m)) ∧ Below w.heap.size w w' := by
 obtain ⟨a1, c1, rfl, hc1, hm1, _⟩ := h1.shape
 obtain ⟨a2, c2, rfl, hc2, hm2, _⟩ := h2.shape
 have b := Below.refl w.heap.size w
 by_cases hlen : l.length = m.length
 ·obtain ⟨n, hn⟩ : ∃ n, n = l.length := ⟨_, rfl⟩
  have HN := hide hn
  have HM : Hid (n = m.length) := by unfold Hid; omega
  rw [← hlen] at hc2 ⊢
  rw [← hn] at hc1 hc2 ⊢
  have hcap : n ≤ maxLen := by omega
  unfold maxLen at hcap
  have HL := hide hl
  have HK := hide hm
  clear hn hl hm hc1 hc2 hm1 hm2 hlen
  go_enter Tryz.func112, Tryz.ntmps112
  go_wp2_with fail
  go_loopw [13] (fun i wr => ∃ k : Nat, i = .int .i64 k ∧ k ≤ n ∧ Hid (sameL sameWit (l.take k) (m.take k) = true) ∧ Below w.heap.size w wr) (fun i _ => n - (RowKit.intOf i).toNat)
  case atStart => exact ⟨0, rfl, by omega, hide (by simp [sameL]), b⟩
  case round =>
   clear b
   obtain ⟨k, rfl, hk, HA, b⟩ := hrel
   by_cases hlt : k < n
   ·obtain ⟨x, hx, okx⟩ := q1b HL.out (k := k) (by rw [← HN.out]; exact hlt)
    obtain ⟨y, hy, oky⟩ := q1b HK.out (k := k) (by rw [← HM.out]; exact hlt)
    obtain ⟨b1, k1, c1', e1, _, hcs1⟩ := (h1.later b).block (by rw [← HN.out]; omega)
    obtain ⟨b2, k2, c2', e2, _, hcs2⟩ := (h2.later b).block (by rw [← HM.out]; omega)
    simp only [Value.slice.injEq] at e1 e2
    obtain ⟨rfl, -, rfl⟩ := e1
    obtain ⟨rfl, -, rfl⟩ := e2
    have d1 := hcs1 k x hx
    have d2 := hcs2 k y hy
    have HR := hide (q3l (f := sameWit) l m k x y hx hy)
    have HS := hide (q3n (f := sameWit) l m (k + 1))
    have OX := hide okx
    have OY := hide oky
    clear hcs1 hcs2 okx oky hx hy
    cases hB : sameWit x y
    case true =>
     have HA2 : Hid (sameL sameWit (l.take (k + 1)) (m.take (k + 1)) = true) := by rw [HR.out, HA.out, hB]; exact hide rfl
     have HB := hide hB
     clear HR HS HA hB
     go_wp2_with (with_reducible show Code.wp _ (Code.region _ _ true) _ _ _; fail)
     refine q0e (by kernel_rfl) (by kernel_rfl) ?_
     repeat ((go_big_quiet_want; first | ((with_reducible refine w22g ?_); first | (refine q2g _ rfl rfl d1 OX.out ?_; simp only [pS]; go_big_quiet_on) | (refine q2g _ rfl rfl d2 OY.out ?_; simp only [pS]; go_big_quiet_on)) | ((with_reducible refine w26g ?_); refine q6n _ _ rfl rfl rfl OX.out OY.out ?_; rw [HB.out]; simp only [pS]; go_big_quiet_on) | (go_big_quiet_op; go_big_quiet_on)))
     refine wpQuiet_nil ?_
     intro _ hq
     (try replace b := later b hq)
     clear hq
     go_wp2_with fail
     go_roundw
     case rel => exact ⟨k + 1, by simp, by omega, HA2, b⟩
     case measure => simp [RowKit.intOf]; omega
    case false =>
     have HA2 : Hid (sameL sameWit l m = false) := HS.out (by rw [HR.out, hB, Bool.and_false])
     have HB := hide hB
     clear HR HS HA hB
     go_wp2_with (with_reducible show Code.wp _ (Code.region _ _ true) _ _ _; fail)
     refine q0e (by kernel_rfl) (by kernel_rfl) ?_
     repeat ((go_big_quiet_want; first | ((with_reducible refine w22g ?_); first | (refine q2g _ rfl rfl d1 OX.out ?_; simp only [pS]; go_big_quiet_on) | (refine q2g _ rfl rfl d2 OY.out ?_; simp only [pS]; go_big_quiet_on)) | ((with_reducible refine w26g ?_); refine q6n _ _ rfl rfl rfl OX.out OY.out ?_; rw [HB.out]; simp only [pS]; go_big_quiet_on) | (go_big_quiet_op; go_big_quiet_on)))
     refine wpQuiet_nil ?_
     intro _ hq
     (try replace b := later b hq)
     clear hq
     go_wp2_with fail
     go_ret
     exact ⟨by rw [HA2.out]; rfl, b⟩
   ·obtain rfl : k = n := by omega
    have hA := HA.out
    rw [List.take_of_length_le (by rw [← HN.out]; exact Nat.le_refl _), List.take_of_length_le (by rw [← HM.out]; exact Nat.le_refl _)] at hA
    clear HA
    go_wp2_with fail
    go_ret
    exact ⟨by rw [hA]; rfl, b⟩
 ·have hR : sameL sameWit l m = false := q7m hlen
  rw [hR]
  have e1 : ((l.length : Int) != (m.length : Int)) = true := by simp; omega
  clear hR hl hm hlen h1 h2 hc1 hc2 hm1 hm2
  go_enter Tryz.func112, Tryz.ntmps112
  go_wp2_with fail
  go_ret
  exact ⟨rfl, b⟩
end Go.Proofs.YtbbfnpfkbbpjgaaGreat
