/- Package deed: rises, at api.Pay. -/
import Derived.Test.YtbbfnpfkbbpjgaaGreatQBElWit
import Derived.Test.YtbbfnpfkbbpjgaaGreatQBElOut
namespace Go.Proofs.YtbbfnpfkbbpjgaaGreat
open Go.RowKit Go.Lib
set_option linter.unusedVariables false
set_option linter.unusedSimpArgs false
set_option maxRecDepth 100000
set_option maxHeartbeats 4000000
theorem x0j (g : PayT → List UInt8) (hG : ∀ x w, x.Ok → Calls Tryz.prog 125 #[payV x] w fun e w' => e = .returned (.string ⟨(g x).toArray⟩) ∧ Below w.heap.size w w') (v : Value) (l : List PayT) (w : World) (most : Nat) (hv : Sl w v 33 (l.map payCs)) (hl : ∀ x ∈ l, x.Ok) (hm : l.length ≤ 9223372036854775807) (hq : most ≤ 1000000) :
    Calls Tryz.prog 124 #[v, .int .i64 most, .func (.func 125) #[] #[]] w fun e w' => e = .returned (.bool (risesB g l && decide (l.length ≤ most))) ∧ Below w.heap.size w w' := by
  obtain ⟨a, c, rfl, hc1, hc2, _⟩ := hv.shape
  obtain ⟨n, hn⟩ : ∃ n, n = l.length := ⟨_, rfl⟩
  have HN := hide hn
  rw [← hn] at hm ⊢
  have b := Below.refl w.heap.size w
  have HG := hide hG
  have HL := hide hl
  clear hn hG hl hc1 hc2
  go_enter Tryz.func124, Tryz.ntmps124
  go_wp2_with fail
  go_loopw [10] (fun i wr => ∃ k : Nat, i = .int .i64 k ∧ k ≤ n ∧ Hid (risesB g (l.take k) = true) ∧ Below w.heap.size w wr) (fun i _ => n - (RowKit.intOf i).toNat)
  case atStart => exact ⟨0, rfl, by omega, hide rfl, b⟩
  case round =>
    clear b
    obtain ⟨k, rfl, hk, HA, b⟩ := hrel
    have hvr := hv.later b
    by_cases hlt : k < n
    · by_cases h0 : 0 < k
      · obtain ⟨x, hx, okx⟩ := q1u HL.out (k := k - 1) (by rw [← HN.out]; omega)
        obtain ⟨y, hy, oky⟩ := q1u HL.out (k := k) (by rw [← HN.out]; exact hlt)
        obtain ⟨bb, k0, c', he, _, hcs⟩ := hvr.block (by rw [← HN.out]; omega)
        simp only [Value.slice.injEq] at he
        obtain ⟨rfl, _, rfl⟩ := he
        have d1 := hcs (k - 1) x hx
        have d2 := hcs k y hy
        have HR := hide (q8c g l k x y hx hy h0)
        have OX := hide okx
        have OY := hide oky
        have HX := hide (fun w => HG.out x w OX.out)
        have HY := hide (fun w => HG.out y w OY.out)
        have c1 := decide_eq_true (show (0 : Int) < (k : Int) by omega)
        have c2 : (k : Int) - 1 = ((k - 1 : Nat) : Int) := by omega
        have hkn : k - 1 < n := by omega
        have c3 : k0 + (k - 1) * 33 = k0 + (k - 1) * 33 := rfl
        clear hcs okx oky HG hx hy c3
        have hl1 : (⟨(g x).toArray⟩ : ByteArray).toList = g x := by rw [ByteArray.toList_eq]
        have hl2 : (⟨(g y).toArray⟩ : ByteArray).toList = g y := by rw [ByteArray.toList_eq]
        rw [← hl1, ← hl2] at HR
        clear hl1 hl2
        generalize (⟨(g x).toArray⟩ : ByteArray) = sx at *
        generalize (⟨(g y).toArray⟩ : ByteArray) = sy at *
        generalize k - 1 = j at *
        have HS := hide (q7b g l (k + 1))
        cases hB : Op.bytesLess sx.toList sy.toList
        case true =>
          have HA2 : Hid (risesB g (l.take (k + 1)) = true) := by rw [HR.out, HA.out, hB]; exact hide rfl
          clear HR HS HA
          go_wp2_with (with_reducible show Code.wp _ (Code.region _ _ true) _ _ _; (try simp only [pS]); fail)
          (try simp only [pS])
          refine q0h (by kernel_rfl) (by kernel_rfl) ?_
          repeat (first | go_big_quiet_skip | (go_big_quiet_want; first | ((with_reducible refine w22g ?_); first | (refine q1g _ rfl rfl d1 OX.out ?_; simp only [pS]; go_big_quiet_on) | (refine q1g _ rfl rfl d2 OY.out ?_; simp only [pS]; go_big_quiet_on)) | (go_big_quiet_op; go_big_quiet_on)))
          go_big_quiet_want; go_big_quiet_op
          refine ⟨_, fun _ => q0g (HX.out _), ?_⟩
          go_big_quiet_on
          repeat (first | go_big_quiet_skip | (go_big_quiet_want; first | ((with_reducible refine w22g ?_); first | (refine q1g _ rfl rfl d1 OX.out ?_; simp only [pS]; go_big_quiet_on) | (refine q1g _ rfl rfl d2 OY.out ?_; simp only [pS]; go_big_quiet_on)) | (go_big_quiet_op; go_big_quiet_on)))
          go_big_quiet_want; go_big_quiet_op
          refine ⟨_, fun _ => q0g (HY.out _), ?_⟩
          go_big_quiet_on
          repeat (first | go_big_quiet_skip | (go_big_quiet_want; first | ((with_reducible refine w22g ?_); first | (refine q1g _ rfl rfl d1 OX.out ?_; simp only [pS]; go_big_quiet_on) | (refine q1g _ rfl rfl d2 OY.out ?_; simp only [pS]; go_big_quiet_on)) | (go_big_quiet_op; go_big_quiet_on)))
          refine wpQuiet_nil ?_
          intro _ hq
          (try replace b := later b hq)
          clear hq hB
          go_wp2_with fail
          go_roundw
          case rel => exact ⟨k + 1, by simp, by omega, HA2, b⟩
          case measure => simp [RowKit.intOf]; omega
        case false =>
          have HA2 : Hid (risesB g l = false) := HS.out (by rw [HR.out, hB, Bool.and_false])
          clear HR HS HA
          go_wp2_with (with_reducible show Code.wp _ (Code.region _ _ true) _ _ _; (try simp only [pS]); fail)
          (try simp only [pS])
          refine q0h (by kernel_rfl) (by kernel_rfl) ?_
          repeat (first | go_big_quiet_skip | (go_big_quiet_want; first | ((with_reducible refine w22g ?_); first | (refine q1g _ rfl rfl d1 OX.out ?_; simp only [pS]; go_big_quiet_on) | (refine q1g _ rfl rfl d2 OY.out ?_; simp only [pS]; go_big_quiet_on)) | (go_big_quiet_op; go_big_quiet_on)))
          go_big_quiet_want; go_big_quiet_op
          refine ⟨_, fun _ => q0g (HX.out _), ?_⟩
          go_big_quiet_on
          repeat (first | go_big_quiet_skip | (go_big_quiet_want; first | ((with_reducible refine w22g ?_); first | (refine q1g _ rfl rfl d1 OX.out ?_; simp only [pS]; go_big_quiet_on) | (refine q1g _ rfl rfl d2 OY.out ?_; simp only [pS]; go_big_quiet_on)) | (go_big_quiet_op; go_big_quiet_on)))
          go_big_quiet_want; go_big_quiet_op
          refine ⟨_, fun _ => q0g (HY.out _), ?_⟩
          go_big_quiet_on
          repeat (first | go_big_quiet_skip | (go_big_quiet_want; first | ((with_reducible refine w22g ?_); first | (refine q1g _ rfl rfl d1 OX.out ?_; simp only [pS]; go_big_quiet_on) | (refine q1g _ rfl rfl d2 OY.out ?_; simp only [pS]; go_big_quiet_on)) | (go_big_quiet_op; go_big_quiet_on)))
          refine wpQuiet_nil ?_
          intro _ hq
          (try replace b := later b hq)
          clear hq hB
          go_wp2_with fail
          go_ret
          exact ⟨by rw [HA2.out]; rfl, b⟩
      · obtain rfl : k = 0 := by omega
        have HA2 := hide (q9h g l)
        clear HA HG
        go_wp2_with (with_reducible show Code.wp _ (Code.region _ _ true) _ _ _; (try simp only [pS]); fail)
        (try simp only [pS])
        refine q0h (by kernel_rfl) (by kernel_rfl) ?_
        repeat (first | go_big_quiet_skip | (go_big_quiet_want; go_big_quiet_op; go_big_quiet_on))
        refine wpQuiet_nil ?_
        intro _ hq
        (try replace b := later b hq)
        clear hq
        go_wp2_with fail
        go_roundw
        case rel => exact ⟨1, by simp, by omega, HA2, b⟩
        case measure => simp [RowKit.intOf]; omega
    · obtain rfl : k = n := by omega
      have hA := HA.out
      rw [List.take_of_length_le (by rw [← HN.out]; exact Nat.le_refl _)] at hA
      clear HA
      go_wp2_with fail
      go_ret
      exact ⟨by rw [hA]; simp, b⟩
end Go.Proofs.YtbbfnpfkbbpjgaaGreat
/- Package deed: rises, at api.Wit. -/
namespace Go.Proofs.YtbbfnpfkbbpjgaaGreat
open Go.RowKit Go.Lib
set_option linter.unusedVariables false
set_option linter.unusedSimpArgs false
set_option maxRecDepth 100000
set_option maxHeartbeats 4000000
theorem x0p (g : WitT → List UInt8) (hG : ∀ x w, x.Ok → Calls Tryz.prog 130 #[witV x] w fun e w' => e = .returned (.string ⟨(g x).toArray⟩) ∧ Below w.heap.size w w') (v : Value) (l : List WitT) (w : World) (most : Nat) (hv : Sl w v 33 (l.map witCs)) (hl : ∀ x ∈ l, x.Ok) (hm : l.length ≤ 9223372036854775807) (hq : most ≤ 1000000) :
    Calls Tryz.prog 129 #[v, .int .i64 most, .func (.func 130) #[] #[]] w fun e w' => e = .returned (.bool (risesB g l && decide (l.length ≤ most))) ∧ Below w.heap.size w w' := by
  obtain ⟨a, c, rfl, hc1, hc2, _⟩ := hv.shape
  obtain ⟨n, hn⟩ : ∃ n, n = l.length := ⟨_, rfl⟩
  have HN := hide hn
  rw [← hn] at hm ⊢
  have b := Below.refl w.heap.size w
  have HG := hide hG
  have HL := hide hl
  clear hn hG hl hc1 hc2
  go_enter Tryz.func129, Tryz.ntmps129
  go_wp2_with fail
  go_loopw [10] (fun i wr => ∃ k : Nat, i = .int .i64 k ∧ k ≤ n ∧ Hid (risesB g (l.take k) = true) ∧ Below w.heap.size w wr) (fun i _ => n - (RowKit.intOf i).toNat)
  case atStart => exact ⟨0, rfl, by omega, hide rfl, b⟩
  case round =>
    clear b
    obtain ⟨k, rfl, hk, HA, b⟩ := hrel
    have hvr := hv.later b
    by_cases hlt : k < n
    · by_cases h0 : 0 < k
      · obtain ⟨x, hx, okx⟩ := q1u HL.out (k := k - 1) (by rw [← HN.out]; omega)
        obtain ⟨y, hy, oky⟩ := q1u HL.out (k := k) (by rw [← HN.out]; exact hlt)
        obtain ⟨bb, k0, c', he, _, hcs⟩ := hvr.block (by rw [← HN.out]; omega)
        simp only [Value.slice.injEq] at he
        obtain ⟨rfl, _, rfl⟩ := he
        have d1 := hcs (k - 1) x hx
        have d2 := hcs k y hy
        have HR := hide (q8c g l k x y hx hy h0)
        have OX := hide okx
        have OY := hide oky
        have HX := hide (fun w => HG.out x w OX.out)
        have HY := hide (fun w => HG.out y w OY.out)
        have c1 := decide_eq_true (show (0 : Int) < (k : Int) by omega)
        have c2 : (k : Int) - 1 = ((k - 1 : Nat) : Int) := by omega
        have hkn : k - 1 < n := by omega
        have c3 : k0 + (k - 1) * 33 = k0 + (k - 1) * 33 := rfl
        clear hcs okx oky HG hx hy c3
        have hl1 : (⟨(g x).toArray⟩ : ByteArray).toList = g x := by rw [ByteArray.toList_eq]
        have hl2 : (⟨(g y).toArray⟩ : ByteArray).toList = g y := by rw [ByteArray.toList_eq]
        rw [← hl1, ← hl2] at HR
        clear hl1 hl2
        generalize (⟨(g x).toArray⟩ : ByteArray) = sx at *
        generalize (⟨(g y).toArray⟩ : ByteArray) = sy at *
        generalize k - 1 = j at *
        have HS := hide (q7b g l (k + 1))
        cases hB : Op.bytesLess sx.toList sy.toList
        case true =>
          have HA2 : Hid (risesB g (l.take (k + 1)) = true) := by rw [HR.out, HA.out, hB]; exact hide rfl
          clear HR HS HA
          go_wp2_with (with_reducible show Code.wp _ (Code.region _ _ true) _ _ _; (try simp only [pS]); fail)
          (try simp only [pS])
          refine q0h (by kernel_rfl) (by kernel_rfl) ?_
          repeat (first | go_big_quiet_skip | (go_big_quiet_want; first | ((with_reducible refine w22g ?_); first | (refine q1i _ rfl rfl d1 OX.out ?_; simp only [pS]; go_big_quiet_on) | (refine q1i _ rfl rfl d2 OY.out ?_; simp only [pS]; go_big_quiet_on)) | (go_big_quiet_op; go_big_quiet_on)))
          go_big_quiet_want; go_big_quiet_op
          refine ⟨_, fun _ => q0g (HX.out _), ?_⟩
          go_big_quiet_on
          repeat (first | go_big_quiet_skip | (go_big_quiet_want; first | ((with_reducible refine w22g ?_); first | (refine q1i _ rfl rfl d1 OX.out ?_; simp only [pS]; go_big_quiet_on) | (refine q1i _ rfl rfl d2 OY.out ?_; simp only [pS]; go_big_quiet_on)) | (go_big_quiet_op; go_big_quiet_on)))
          go_big_quiet_want; go_big_quiet_op
          refine ⟨_, fun _ => q0g (HY.out _), ?_⟩
          go_big_quiet_on
          repeat (first | go_big_quiet_skip | (go_big_quiet_want; first | ((with_reducible refine w22g ?_); first | (refine q1i _ rfl rfl d1 OX.out ?_; simp only [pS]; go_big_quiet_on) | (refine q1i _ rfl rfl d2 OY.out ?_; simp only [pS]; go_big_quiet_on)) | (go_big_quiet_op; go_big_quiet_on)))
          refine wpQuiet_nil ?_
          intro _ hq
          (try replace b := later b hq)
          clear hq hB
          go_wp2_with fail
          go_roundw
          case rel => exact ⟨k + 1, by simp, by omega, HA2, b⟩
          case measure => simp [RowKit.intOf]; omega
        case false =>
          have HA2 : Hid (risesB g l = false) := HS.out (by rw [HR.out, hB, Bool.and_false])
          clear HR HS HA
          go_wp2_with (with_reducible show Code.wp _ (Code.region _ _ true) _ _ _; (try simp only [pS]); fail)
          (try simp only [pS])
          refine q0h (by kernel_rfl) (by kernel_rfl) ?_
          repeat (first | go_big_quiet_skip | (go_big_quiet_want; first | ((with_reducible refine w22g ?_); first | (refine q1i _ rfl rfl d1 OX.out ?_; simp only [pS]; go_big_quiet_on) | (refine q1i _ rfl rfl d2 OY.out ?_; simp only [pS]; go_big_quiet_on)) | (go_big_quiet_op; go_big_quiet_on)))
          go_big_quiet_want; go_big_quiet_op
          refine ⟨_, fun _ => q0g (HX.out _), ?_⟩
          go_big_quiet_on
          repeat (first | go_big_quiet_skip | (go_big_quiet_want; first | ((with_reducible refine w22g ?_); first | (refine q1i _ rfl rfl d1 OX.out ?_; simp only [pS]; go_big_quiet_on) | (refine q1i _ rfl rfl d2 OY.out ?_; simp only [pS]; go_big_quiet_on)) | (go_big_quiet_op; go_big_quiet_on)))
          go_big_quiet_want; go_big_quiet_op
          refine ⟨_, fun _ => q0g (HY.out _), ?_⟩
          go_big_quiet_on
          repeat (first | go_big_quiet_skip | (go_big_quiet_want; first | ((with_reducible refine w22g ?_); first | (refine q1i _ rfl rfl d1 OX.out ?_; simp only [pS]; go_big_quiet_on) | (refine q1i _ rfl rfl d2 OY.out ?_; simp only [pS]; go_big_quiet_on)) | (go_big_quiet_op; go_big_quiet_on)))
          refine wpQuiet_nil ?_
          intro _ hq
          (try replace b := later b hq)
          clear hq hB
          go_wp2_with fail
          go_ret
          exact ⟨by rw [HA2.out]; rfl, b⟩
      · obtain rfl : k = 0 := by omega
        have HA2 := hide (q9h g l)
        clear HA HG
        go_wp2_with (with_reducible show Code.wp _ (Code.region _ _ true) _ _ _; (try simp only [pS]); fail)
        (try simp only [pS])
        refine q0h (by kernel_rfl) (by kernel_rfl) ?_
        repeat (first | go_big_quiet_skip | (go_big_quiet_want; go_big_quiet_op; go_big_quiet_on))
        refine wpQuiet_nil ?_
        intro _ hq
        (try replace b := later b hq)
        clear hq
        go_wp2_with fail
        go_roundw
        case rel => exact ⟨1, by simp, by omega, HA2, b⟩
        case measure => simp [RowKit.intOf]; omega
    · obtain rfl : k = n := by omega
      have hA := HA.out
      rw [List.take_of_length_le (by rw [← HN.out]; exact Nat.le_refl _)] at hA
      clear HA
      go_wp2_with fail
      go_ret
      exact ⟨by rw [hA]; simp, b⟩
end Go.Proofs.YtbbfnpfkbbpjgaaGreat
