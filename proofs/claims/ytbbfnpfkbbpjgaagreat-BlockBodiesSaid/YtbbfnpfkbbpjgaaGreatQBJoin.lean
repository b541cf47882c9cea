/- strings.Join with nothing between the parts. -/
import Derived.Test.YtbbfnpfkbbpjgaaGreatQBStep
namespace Go.Proofs.YtbbfnpfkbbpjgaaGreat
open Go.RowKit Go.Lib
set_option linter.unusedVariables false
set_option linter.unusedSimpArgs false
set_option maxRecDepth 100000
set_option maxHeartbeats 4000000
/-- Texts that lie one behind the other. -/
structure Sts (w : World) (g o : Nat) (l : List ByteArray) : Prop where
  lt : g < w.heap.size
  at_ : ∀ i, i < l.length → w.cell? ⟨g, o + i, none⟩ = some (.string (l.getD i ByteArray.empty))
theorem Sts.below {w w' : World} {g o B : Nat} {l : List ByteArray} (h : Sts w g o l) (hb : Below B w w') (hB : g < B) : Sts w' g o l :=
  ⟨Nat.lt_of_lt_of_le h.lt hb.size, fun i hi => (hb.cell (p := ⟨g, o + i, none⟩) hB).trans (h.at_ i hi)⟩
theorem Sts.later {w w' : World} {g o : Nat} {l : List ByteArray} (h : Sts w g o l) (hb : Below w.heap.size w w') : Sts w' g o l := h.below hb h.lt
def sumS (l : List ByteArray) : Nat := (l.map ByteArray.size).sum
theorem j5u (l : List ByteArray) (k : Nat) (h : k < l.length) : sumS (l.take (k + 1)) = sumS (l.take k) + (l.getD k ByteArray.empty).size := by
  unfold sumS
  rw [List.take_succ_eq_append_getElem h, List.map_append, List.sum_append]
  simp [List.getD_eq_getElem?_getD, List.getElem?_eq_getElem h]
theorem x5s (l : List ByteArray) (k : Nat) : sumS (l.take k) ≤ sumS l := by
  unfold sumS
  conv => rhs; rw [← List.take_append_drop k l]
  rw [List.map_append, List.sum_append]
  omega
def catS (l : List ByteArray) : List UInt8 := l.flatMap fun s => s.data.toList
theorem x5j (l : List ByteArray) (k : Nat) (h : k < l.length) : catS (l.take (k + 1)) = catS (l.take k) ++ (l.getD k ByteArray.empty).data.toList := by
  unfold catS
  rw [List.take_succ_eq_append_getElem h, List.flatMap_append]
  simp [List.getD_eq_getElem?_getD, List.getElem?_eq_getElem h]
theorem j1m (l : List ByteArray) : (catS l).length = sumS l := by
  induction l with
  | nil => rfl
  | cons x r ih =>
    have e1 : catS (x :: r) = x.data.toList ++ catS r := by unfold catS; simp
    have e2 : sumS (x :: r) = x.size + sumS r := by unfold sumS; simp
    rw [e1, e2, List.length_append, ih]
    simp
theorem x6r (l : List ByteArray) (g o c : Nat) (w : World) (F1 : Sts w g o l) (h2 : 2 ≤ l.length) (h3 : l.length ≤ 1000) (h4 : l.length ≤ c) (hs : sumS l ≤ 1099511627776) :
    Calls Tryz.prog 190 #[.slice (some ⟨g, o, none⟩) l.length c, .string ⟨#[]⟩] w fun e w' => e = .returned (.string ⟨(catS l).toArray⟩) ∧ Below w.heap.size w w' := by
  obtain ⟨R, hR⟩ : ∃ R, R = catS l := ⟨_, rfl⟩
  obtain ⟨n, hn⟩ : ∃ n, n = l.length := ⟨_, rfl⟩
  rw [← hR, ← hn]
  have HR := hide hR
  have HN := hide hn
  have HST := hide (j5u l)
  have HCT := hide (x5j l)
  have HSL := hide (x5s l)
  rw [← hn] at h2 h3 h4
  have e0 : ((n : Int) == 0) = false := beq_eq_false_iff_ne.2 (by omega)
  have e1 : ((n : Int) == 1) = false := beq_eq_false_iff_ne.2 (by omega)
  have ec : ¬ c = 1 := by omega
  have HS := hide hs
  have b := Below.refl w.heap.size w
  clear hR hn hs
  have mF2 := True.intro
  go_enter Tryz.func190, Tryz.ntmps190
  go_wp2_with fail
  go_loopw [5, 41] (fun t i wr => ∃ k : Nat, i = .int .i64 k ∧ k ≤ n ∧ t = .int .i64 (sumS (l.take k)) ∧ Sts wr g o l ∧ Below w.heap.size w wr) (fun _ i _ => n - (RowKit.intOf i).toNat)
  case atStart => exact ⟨0, rfl, by omega, rfl, F1, b⟩
  case round =>
    clear F1 b
    obtain ⟨k, rfl, hk, rfl, F1, b⟩ := hrel
    by_cases hlt : k < n
    · have c0 := F1.at_ k (by rw [← HN.out]; exact hlt)
      have e1 := HST.out k (by rw [← HN.out]; exact hlt)
      have e2 := HSL.out (k + 1)
      have e3 := HS.out
      have E1 := hide e1
      rw [e1] at e2
      generalize l.getD k ByteArray.empty = x at *
      generalize sumS (l.take k) = s at *
      have e4 : s + x.size ≤ 1099511627776 := by omega
      clear e1 e2 e3
      go_wp2_with ((with_reducible refine w0g ?_; refine q0a rfl 9 _ rfl rfl c0 (by kernel_rfl) ?_))
      go_roundw
      case rel => exact ⟨k + 1, by simp, by omega, by rw [E1.out]; simp, F1, b⟩
      case measure => simp [RowKit.intOf]; omega
    · obtain rfl : k = n := by omega
      have c0 := F1.at_ 0 (by rw [← HN.out]; omega)
      have e1 : sumS (l.take k) ≤ 1099511627776 := Nat.le_trans (HSL.out k) HS.out
      have e2 : catS (l.take 1) = (l.getD 0 ByteArray.empty).data.toList := by rw [HCT.out 0 (by rw [← HN.out]; omega)]; simp [catS]
      have e3 : (l.getD 0 ByteArray.empty).size ≤ 1099511627776 := by
        have h1 := HST.out 0 (by rw [← HN.out]; omega)
        have h2 := HSL.out 1
        have h3 := HS.out
        simp only [Nat.zero_add] at h1
        omega
      have E2 := hide e2
      have E3 := hide e3
      clear e2 e3
      generalize sumS (l.take k) = N at *
      obtain ⟨x0, hx0⟩ : ∃ x0, x0 = l.getD 0 ByteArray.empty := ⟨_, rfl⟩
      rw [← hx0] at E2 E3
      have FX : Hid (l.getD 0 ByteArray.empty = x0) := hx0.symm
      have HN2 : Hid (0 < k) := by unfold Hid; omega
      have HS3 : Hid (sumS l ≤ 1099511627776) := HS.out
      clear hx0 c0 HST HSL HS
      go_wp2_with (first | (with_reducible refine w5g ?_; clear mF2; refine q4s rfl 113 rfl bldZero (cs := [.pointer none, .slice none 0 0]) rfl ?_; intro _ gb hgb F2 hb; have gl := F1.lt; have bs := b.size; (try replace F1 := F1.later hb); (try replace F2 := F2.later hb); (try replace F3 := F3.later hb); (try replace b := later b hb); clear hb) | (go_at_call 180; have F2l := Arr.lt F2; refine (Tryz.Builder_Grow_fresh gb gb N _ (Nat.le_refl _) F2 (Nat.le_of_lt F2l) (by omega)).mono ?_; rintro _ _ ⟨rfl, t1, hc⟩; (try replace F1 := F1.below hc (by omega)); (try replace F2 := F2.below hc (by omega)); (try replace F3 := F3.below hc (by omega)); (try replace b := q0p b hc (by omega)); clear hc F2; have F3 := Bld.st (g := gb) (s := []) (Or.inr t1); clear t1) | (with_reducible refine w0g ?_; have c1 := F1.at_ 0 (by rw [← HN.out]; exact HN2.out); rw [FX.out] at c1; refine q0a rfl 9 _ rfl rfl c1 (by kernel_rfl) ?_; clear c1) | (go_at_call 75; have := F3.now.lt; refine (j0g _ _ x0 _ F3.now (by have := E3.out; show 0 + _ ≤ _; omega)).mono ?_; rintro _ _ ⟨rfl, t1, hc⟩; (try replace F1 := F1.below hc (by omega)); (try replace F2 := F2.below hc (by omega)); (try replace F3 := F3.below hc (by omega)); (try replace b := q0p b hc (by omega)); replace F3 := Bld.st t1; clear hc t1))
      rw [List.nil_append, ← E2.out] at F3
      have gl2 : g < gb := by omega
      have wgb : w.heap.size ≤ gb := by omega
      clear E2 E3 FX HN2 e1
      go_loopw [65] (fun i wr => ∃ j : Nat, i = .int .i64 j ∧ j + 1 ≤ k ∧ Sts wr g o l ∧ (∃ m, Stab (fun w => Bld w gb (catS (l.take (j + 1)))) m wr) ∧ Below w.heap.size w wr) (fun i _ => k - 1 - (RowKit.intOf i).toNat)
      case atStart => exact ⟨0, rfl, by omega, F1, ⟨_, F3⟩, b⟩
      case round =>
        clear F1 F3 b
        obtain ⟨j, rfl, hj, F1, ⟨mb, F3⟩, b⟩ := hrel
        by_cases hlt : j + 1 < k
        · have c0 := F1.at_ (j + 1) (by rw [← HN.out]; exact hlt)
          have HC1 := hide (HCT.out (j + 1) (by rw [← HN.out]; exact hlt))
          have hz : (catS (l.take (j + 1))).length + (l.getD (j + 1) ByteArray.empty).size ≤ 140737488355328 := by
            have h1 := j5u l (j + 1) (by rw [← HN.out]; exact hlt)
            have h2 := x5s l (j + 1 + 1)
            have h3 := HS3.out
            rw [j1m]
            omega
          have HZ := hide hz
          have jk : (j : Int) < (k : Int) - 1 := by omega
          have FY : Hid (∀ wr, Sts wr g o l → wr.cell? ⟨g, o + 1 + j, none⟩ = some (.string (l.getD (j + 1) ByteArray.empty))) := fun wr h => by
            rw [show o + 1 + j = o + (j + 1) by omega]; exact h.at_ (j + 1) (by rw [← HN.out]; exact hlt)
          generalize l.getD (j + 1) ByteArray.empty = x at *
          generalize catS (l.take (j + 1)) = Y at *
          clear c0 hz
          go_wp2_with (first | (with_reducible refine w0g ?_; refine q0a rfl 9 _ rfl rfl (FY.out _ F1) (by kernel_rfl) ?_) | (go_at_call 75; (with_reducible show Calls _ _ #[_, .string ⟨#[]⟩] _ _); have := F3.now.lt; refine (j0g _ _ ⟨#[]⟩ _ F3.now (by have := HZ.out; show _ + 0 ≤ _; omega)).mono ?_; rintro _ _ ⟨rfl, t1, hc⟩; (try replace F1 := F1.below hc (by omega)); (try replace F2 := F2.below hc (by omega)); (try replace F3 := F3.below hc (by omega)); (try replace b := q0p b hc (by omega)); rw [show Y ++ (⟨#[]⟩ : ByteArray).data.toList = Y from List.append_nil Y] at t1; replace F3 := Bld.st t1; clear hc t1) | (go_at_call 75; have := F3.now.lt; refine (j0g _ _ x _ F3.now HZ.out).mono ?_; rintro _ _ ⟨rfl, t1, hc⟩; (try replace F1 := F1.below hc (by omega)); (try replace F2 := F2.below hc (by omega)); (try replace F3 := F3.below hc (by omega)); (try replace b := q0p b hc (by omega)); replace F3 := Bld.st t1; clear hc t1))
          rw [← HC1.out] at F3
          go_roundw
          case rel => exact ⟨j + 1, by simp, by omega, F1, ⟨_, F3⟩, b⟩
          case measure => simp [RowKit.intOf]; omega
        · obtain rfl : k = j + 1 := by omega
          have hl : l.take (j + 1) = l := List.take_of_length_le (by rw [← HN.out]; omega)
          rw [hl, ← HR.out] at F3
          clear hl
          go_wp2_with ((go_at_call 78; refine (x0m _ _ _ (F3).now).mono ?_; rintro _ _ ⟨rfl, hc⟩; (try replace F1 := F1.below hc (by omega)); (try replace F2 := F2.below hc (by omega)); (try replace F3 := F3.below hc (by omega)); (try replace b := q0p b hc (by omega)); clear hc))
          go_ret
          exact ⟨rfl, b⟩
end Go.Proofs.YtbbfnpfkbbpjgaaGreat
