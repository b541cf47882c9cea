/- The reference of layer 3: fits, root. -/
import Derived.Test.YtbbfnpfkbbpjgaaRoots1
namespace Go.Proofs.Ytbbfnpfkbbpjgaa
open Go.RowKit Go.Lib
set_option linter.unusedVariables false
set_option linter.unusedSimpArgs false

theorem digsr_one {n : Nat} (h : n < 65536) : DigsR 1 [n] := ⟨by simp, by intro x hx; simp at hx; omega⟩
theorem DigsR.mono {m k : Nat} {d : List Nat} (h : DigsR m d) (hk : m ≤ k) : DigsR k d := ⟨Nat.le_trans h.1 hk, h.2⟩
theorem iter_step {n p k : Nat} {d D : List Nat} (h : iterN n (p - k) d = D) (hk : k < p) : iterN n (p - (k + 1)) (timesN d n) = D := by
  rw [← h, show p - k = (p - (k + 1)) + 1 by omega]; rfl
set_option maxRecDepth 100000 in
set_option maxHeartbeats 1600000 in
theorem fits03_any (y n p : Nat) (w : World) (hy : y < 1099511627776) (hn : n < 65536) (hp : p ≤ 3) :
    Calls Try.prog 186 #[.int .u64 y, .int .u64 n, .int .u64 p] w fun e w' => e = .returned (.bool (fitsN y n p)) ∧ Below w.heap.size w w' := by
  have HT := hide (fun (v : Value) (ds : List Nat) (n : Nat) (w : World) (h : Sl w v 1 (numsC ds)) (hd : DigsR 20 ds) (hn : n < 1099511627776) => times03_any v ds n w h hd hn)
  have HS := hide (fun (v u : Value) (l m : List Nat) (w : World) (h : Sl w v 1 (numsC l)) (k : Sl w u 1 (numsC m)) => less03_any v u l m w h k)
  have b := Below.refl w.heap.size w
  unfold fitsN
  obtain ⟨D, hD⟩ : ∃ D, D = iterN y p [1] := ⟨_, rfl⟩
  obtain ⟨E, hE⟩ : ∃ E, E = iterN 4294967296 p [n] := ⟨_, rfl⟩
  rw [← hD, ← hE]
  have HD := hide hD.symm
  have HE := hide hE.symm
  clear hD hE
  go_enter Try.func186, Try.ntmps186
  go_wp2_with ((with_reducible show wpList _ _ _ (⟨_, Op.buildSlice _ _ _, _, _, _, _⟩ :: _) _ _); refine wpl_row1 rfl numElem (by decide) _ rfl (v := .int .u64 1) (el := numC 1) rfl rfl rfl (numC_one _) ?_; intro _ g9 h9 O1 hb; replace b := later b hb; clear hb)
  have G1 : Sl _ (.slice (some ⟨g9, 0, none⟩) 1 1) 1 (numsC [1]) := O1.sl
  clear O1 h9
  go_loopw [7, 8] (fun v i wr => ∃ (k : Nat) (ds : List Nat), i = .int .u64 k ∧ k ≤ p ∧ Sl wr v 1 (numsC ds) ∧ DigsR (1 + 4 * k) ds ∧ Hid (iterN y (p - k) ds = D) ∧ Below w.heap.size w wr) (fun _ i _ => p - (RowKit.intOf i).toNat)
  case atStart => exact ⟨0, [1], rfl, by omega, G1, digsr_one (by decide), HD, b⟩
  case round =>
    clear b G1 HD
    obtain ⟨k, ds, rfl, hk, G1, hd, HD, b⟩ := hrel
    by_cases hlt : k < p
    · have h20 := hd.mono (show 1 + 4 * k ≤ 20 by omega)
      have HN := hide (iter_step HD.out hlt)
      have HG := hide (show DigsR (1 + 4 * (k + 1)) (timesN ds y) from (digsr_times y hd).mono (by omega))
      have kw : IntKind.u64.wrap ((k : Int) + 1) = ((k + 1 : Nat) : Int) := by rw [IntKind.wrap_u64]; omega
      have H20 := hide h20
      clear HD hd h20
      go_wp2_with (go_at_call 199; refine (HT.out _ _ _ _ G1 H20.out hy).mono ?_; rintro _ _ ⟨v', rfl, O1, hc⟩; replace b := later b hc; clear hc)
      go_roundw
      case rel => exact ⟨k + 1, timesN ds y, by simp, by omega, O1.sl, HG.out, HN, b⟩
      case measure => simp [RowKit.intOf]; omega
    · obtain rfl : k = p := by omega
      obtain rfl : ds = D := by have := HD.out; rwa [Nat.sub_self] at this
      clear HD hd hk hlt
      go_wp2_with ((with_reducible show wpList _ _ _ (⟨_, Op.buildSlice _ _ _, _, _, _, _⟩ :: _) _ _); refine wpl_row1 rfl numElem (by decide) _ rfl (v := .int .u64 (n : Int)) (el := numC n) rfl rfl rfl (numC_one _) ?_; intro _ g8 h8 O2 hb; replace G1 := G1.later hb; replace b := later b hb; clear hb)
      have G2 : Sl _ (.slice (some ⟨g8, 0, none⟩) 1 1) 1 (numsC [n]) := O2.sl
      clear O2 h8
      obtain ⟨av, cv, rfl, -⟩ := Sl.shape G1
      go_loopw [9, 10] (fun v i wr => ∃ (j : Nat) (es : List Nat), i = .int .u64 j ∧ j ≤ k ∧ Sl wr v 1 (numsC es) ∧ DigsR (1 + 4 * j) es ∧ Hid (iterN 4294967296 (k - j) es = E) ∧ Sl wr (.slice av ds.length cv) 1 (numsC ds) ∧ Below w.heap.size w wr) (fun _ i _ => k - (RowKit.intOf i).toNat)
      case atStart => exact ⟨0, [n], rfl, by omega, G2, digsr_one hn, HE, G1, b⟩
      case round =>
        clear b G1 G2 HE
        obtain ⟨j, es, rfl, hj, G2, hd, HE, G1, b⟩ := hrel
        by_cases hlt : j < k
        · have h20 := hd.mono (show 1 + 4 * j ≤ 20 by omega)
          have HN := hide (iter_step HE.out hlt)
          have HG := hide (show DigsR (1 + 4 * (j + 1)) (timesN es 4294967296) from (digsr_times _ hd).mono (by omega))
          have kw : IntKind.u64.wrap ((j : Int) + 1) = ((j + 1 : Nat) : Int) := by rw [IntKind.wrap_u64]; omega
          have H20 := hide h20
          have HT2 := hide (fun (v : Value) (w : World) (h : Sl w v 1 (numsC es)) => HT.out v es 4294967296 w h H20.out (by decide))
          clear HE hd h20
          go_wp2_with (go_at_call 199; refine (HT2.out _ _ G2).mono ?_; rintro _ _ ⟨v', rfl, O1, hc⟩; replace G1 := G1.later hc; replace b := later b hc; clear hc)
          go_roundw
          case rel => exact ⟨j + 1, timesN es 4294967296, by simp, by omega, O1.sl, HG.out, HN, G1, b⟩
          case measure => simp [RowKit.intOf]; omega
        · obtain rfl : j = k := by omega
          obtain rfl : es = E := by have := HE.out; rwa [Nat.sub_self] at this
          have HL := hide (fun (v u : Value) (w : World) (h : Sl w v 1 (numsC es)) (k : Sl w u 1 (numsC ds)) => HS.out v u es ds w h k)
          clear HE hd hj hlt HS HT
          obtain ⟨B, hB⟩ : ∃ B, B = lessN es ds := ⟨_, rfl⟩
          rw [← hB] at HL
          have HBB := hide hB
          clear hB
          go_wp2_with (go_at_call 200; refine (HL.out _ _ _ G2 G1).mono ?_; rintro _ _ ⟨rfl, hc⟩; replace b := later b hc; clear hc)
          go_ret
          exact ⟨by rw [← HBB.out]; rfl, b⟩
theorem shl_one (j : Nat) (hj : j < 40) : ((2 : Int) ^ j) = ((2 ^ j : Nat) : Int) ∧ (2 ^ j : Nat) < 1099511627776 := by
  refine ⟨by push_cast; rfl, ?_⟩
  calc (2 : Nat) ^ j < 2 ^ 40 := Nat.pow_lt_pow_right (by decide) hj
    _ = 1099511627776 := by decide
set_option maxRecDepth 100000 in
set_option maxHeartbeats 1600000 in
theorem root03_any (n p : Nat) (w : World) (hn : n < 65536) (hp : p ≤ 3) :
    Calls Try.prog 162 #[.int .u64 n, .int .u64 p] w fun e w' => e = .returned (.int .u32 (rootN n p)) ∧ Below w.heap.size w w' := by
  have HF := hide (fun (y : Nat) (w : World) (hy : y < 1099511627776) => fits03_any y n p w hy hn hp)
  have b := Below.refl w.heap.size w
  unfold rootN
  generalize hR : rootF n p 40 0 = R
  have HR := hide hR
  clear hR hn hp
  go_enter Try.func162, Try.ntmps162
  go_wp2_with fail
  go_loopw [5, 6] (fun v i wr => ∃ (k x : Nat) (q : Int), v = .int .u64 x ∧ i = .int .i64 q ∧ q = (k : Int) - 1 ∧ k ≤ 40 ∧ x + 2 ^ k ≤ 1099511627776 ∧ Hid (rootF n p k x = R) ∧ Below w.heap.size w wr) (fun _ i _ => (RowKit.intOf i + 1).toNat)
  case atStart => exact ⟨40, 0, _, rfl, rfl, by omega, by omega, by decide, HR, b⟩
  case round =>
    clear b HR
    obtain ⟨k, x, q, rfl, rfl, hq, hk, hx, HR, b⟩ := hrel
    cases k with
    | zero =>
      have c0 : decide ((0 : Int) ≤ q) = false := decide_eq_false (by omega)
      obtain rfl : x = R := HR.out
      have hw : IntKind.u32.wrap (x : Int) = ((x % 4294967296 : Nat) : Int) := by rw [IntKind.wrap_u32]; omega
      clear HR
      go_wp2_with fail
      go_ret
      exact ⟨by simp, b⟩
    | succ j =>
      obtain rfl : q = (j : Int) := by omega
      obtain ⟨r1, r2, r3⟩ := root_room hx
      obtain ⟨s1, s2⟩ := shl_one j (by omega)
      have hR := HR.out
      rw [root_next] at hR
      have HFY := hide (fun w => HF.out _ w r1)
      clear HR hq hx
      generalize hT : (2 ^ j : Nat) = t at *
      have w1 : IntKind.u64.wrap (t : Int) = (t : Int) := by rw [IntKind.wrap_u64]; omega
      have w2 : IntKind.u64.wrap ((x : Int) + (t : Int)) = ((x + t : Nat) : Int) := by rw [IntKind.wrap_u64]; omega
      cases hB : fitsN (x + t) n p
      case true =>
        rw [hB, if_pos rfl] at hR
        rw [hB] at HFY
        have HR := hide hR
        clear hR hB
        go_wp2_with (go_at_call 186; refine (HFY.out _).mono ?_; rintro _ _ ⟨rfl, hc⟩; (try replace F1 := F1.later hc); (try replace F2 := F2.later hc); (try replace F3 := F3.later hc); (try replace F4 := F4.later hc); (try replace F5 := F5.later hc); (try replace F6 := F6.later hc); (try replace F7 := F7.later hc); (try replace F8 := F8.later hc); (try replace F9 := F9.later hc); (try replace G1 := G1.later hc); (try replace G2 := G2.later hc); (try replace G3 := G3.later hc); (try replace z := z.later hc); (try replace b := later b hc); (try replace bB := mixed hB bB hc); clear hc)
        go_roundw
        case rel => exact ⟨j, x + t, _, by simp, rfl, by omega, by omega, by rw [hT]; omega, HR, b⟩
        case measure => first | (simp [RowKit.intOf]; done) | (simp [RowKit.intOf]; omega)
      case false =>
        rw [hB, if_neg (by decide)] at hR
        rw [hB] at HFY
        have HR := hide hR
        clear hR hB
        go_wp2_with (go_at_call 186; refine (HFY.out _).mono ?_; rintro _ _ ⟨rfl, hc⟩; (try replace F1 := F1.later hc); (try replace F2 := F2.later hc); (try replace F3 := F3.later hc); (try replace F4 := F4.later hc); (try replace F5 := F5.later hc); (try replace F6 := F6.later hc); (try replace F7 := F7.later hc); (try replace F8 := F8.later hc); (try replace F9 := F9.later hc); (try replace G1 := G1.later hc); (try replace G2 := G2.later hc); (try replace G3 := G3.later hc); (try replace z := z.later hc); (try replace b := later b hc); (try replace bB := mixed hB bB hc); clear hc)
        go_roundw
        case rel => exact ⟨j, x, _, rfl, rfl, by omega, by omega, by rw [hT]; omega, HR, b⟩
        case measure => first | (simp [RowKit.intOf]; done) | (simp [RowKit.intOf]; omega)
end Go.Proofs.Ytbbfnpfkbbpjgaa
