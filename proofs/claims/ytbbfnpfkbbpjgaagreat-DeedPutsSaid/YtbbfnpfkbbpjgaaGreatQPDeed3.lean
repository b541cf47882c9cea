/- Spots, amounts, what is asked of each thing. -/
import Derived.Test.YtbbfnpfkbbpjgaaGreatQPElBase
import Derived.Test.YtbbfnpfkbbpjgaaGreatQPElCert
import Derived.Test.YtbbfnpfkbbpjgaaGreatQPElWit
import Derived.Test.YtbbfnpfkbbpjgaaGreatQPDig8
import Derived.Test.YtbbfnpfkbbpjgaaGreatQPMRef
namespace Go.Proofs.YtbbfnpfkbbpjgaaGreat
open Go.RowKit Go.Lib
set_option linter.unusedVariables false
set_option linter.unusedSimpArgs false

set_option maxRecDepth 100000 in
set_option maxHeartbeats 800000 in
theorem spot_any (x : InT) (w : World) (hx : x.Ok) :
    Calls Tryz.prog 116 #[inV x] w fun e w' => e = .returned (.string ⟨(spotL x).toArray⟩) ∧ Below w.heap.size w w' := by
  have HB := hide (fun w => bytes_any x.tx w hx.1)
  have HE := hide (fun w => digEight_any x.index w hx.2)
  have e : (⟨(spotL x).toArray⟩ : ByteArray) = (⟨x.tx.toArray⟩ : ByteArray) ++ (⟨(eightL x.index).toArray⟩ : ByteArray) := by
    apply ByteArray.ext; unfold spotL; simp
  have z1 : (⟨x.tx.toArray⟩ : ByteArray).size = 32 := by show x.tx.toArray.size = 32; rw [List.size_toArray]; exact hx.1
  have z2 : (⟨(eightL x.index).toArray⟩ : ByteArray).size = 8 := by show (eightL x.index).toArray.size = 8; rw [List.size_toArray, eightL_length]
  have c1 : ¬ 9223372036854775807 < (⟨x.tx.toArray⟩ : ByteArray).size + (⟨(eightL x.index).toArray⟩ : ByteArray).size := by omega
  rw [e]
  have HX := hide hx
  have HK : Hid (x.tx.length = 32) := hx.1
  have b := Below.refl w.heap.size w
  clear e z1 z2 hx
  generalize (⟨x.tx.toArray⟩ : ByteArray) = s1 at *
  generalize (⟨(eightL x.index).toArray⟩ : ByteArray) = s2 at *
  have mF1 := True.intro
  go_enter Tryz.func116, Tryz.ntmps116
  go_wp2_with (first | (with_reducible show wpList _ _ _ (⟨_, Op.box _ _, _, _, _, _⟩ :: _) _ _; clear mF1; refine wpl_box_in rfl _ rfl rfl HX.out ?_; intro _ g1 hg1 F1 hb; (try have := F1.lt); (try have := F2.lt); (try have := F3.lt); (try have := F4.lt); (try have := F5.lt); (try have := F6.lt); (try have := F7.lt); (try have := F8.lt); (try have := F9.lt); (try have := z.lt); (try have := G1.lt); (try have := G2.lt); (try have := G3.lt); (try have := b.size); (try replace F1 := F1.later hb); (try replace F2 := F2.later hb); (try replace F3 := F3.later hb); (try replace F4 := F4.later hb); (try replace F5 := F5.later hb); (try replace F6 := F6.later hb); (try replace F7 := F7.later hb); (try replace F8 := F8.later hb); (try replace F9 := F9.later hb); (try replace G1 := G1.later hb); (try replace G2 := G2.later hb); (try replace G3 := G3.later hb); (try replace z := z.later hb); (try replace b := later b hb); (try replace bB := mixed hB bB hb); clear hb) | (with_reducible show Code.wp _ (Code.region _ _ true) _ _ _; (try simp only [Act.put, List.setIfInBounds_toArray, List.set_cons_succ, List.set_cons_zero]); (refine region_since (by kernel_rfl) (by kernel_rfl) ?_; (repeat (first | go_big_quiet_skip | (go_big_quiet_want; first | ((with_reducible show Oper.quiet _ ⟨_, Op.load _ _, _, _, _, _⟩ _ _ _); first | (refine since_load_elem _ rfl rfl (InAt.tx F1) (HK.out) ?_; simp only [Act.put, List.setIfInBounds_toArray, List.set_cons_succ, List.set_cons_zero]; go_big_quiet_on) | (refine since_load_one 24 _ rfl rfl (InAt.index F1) (by kernel_rfl) ?_; simp only [Act.put, List.setIfInBounds_toArray, List.set_cons_succ, List.set_cons_zero]; go_big_quiet_on)) | (go_big_quiet_op; first | go_big_quiet_on | (refine ⟨_, fun _ => since_of (HB.out _), ?_⟩; go_big_quiet_on) | (refine ⟨_, fun _ => since_of (HE.out _), ?_⟩; go_big_quiet_on))))); refine wpQuiet_nil ?_; intro _ hq; (try replace F1 := F1.later hq); (try replace F2 := F2.later hq); (try replace F3 := F3.later hq); (try replace F4 := F4.later hq); (try replace F5 := F5.later hq); (try replace F6 := F6.later hq); (try replace F7 := F7.later hq); (try replace F8 := F8.later hq); (try replace F9 := F9.later hq); (try replace G1 := G1.later hq); (try replace G2 := G2.later hq); (try replace G3 := G3.later hq); (try replace z := z.later hq); (try replace b := later b hq); (try replace bB := mixed hB bB hq); clear hq)))
  go_ret
  exact ⟨rfl, b⟩
set_option maxRecDepth 100000 in
set_option maxHeartbeats 800000 in
theorem refSpot_any (x : InT) (w : World) (hx : x.Ok) :
    Calls Tryz.prog 50 #[inV x] w fun e w' => e = .returned (.string ⟨(spotL x).toArray⟩) ∧ Below w.heap.size w w' := by
  have HB := hide (fun w => refBytes_any x.tx w hx.1)
  have HE := hide (fun w => refEight_any x.index w hx.2)
  have e : (⟨(spotL x).toArray⟩ : ByteArray) = (⟨x.tx.toArray⟩ : ByteArray) ++ (⟨(eightL x.index).toArray⟩ : ByteArray) := by
    apply ByteArray.ext; unfold spotL; simp
  have z1 : (⟨x.tx.toArray⟩ : ByteArray).size = 32 := by show x.tx.toArray.size = 32; rw [List.size_toArray]; exact hx.1
  have z2 : (⟨(eightL x.index).toArray⟩ : ByteArray).size = 8 := by show (eightL x.index).toArray.size = 8; rw [List.size_toArray, eightL_length]
  have c1 : ¬ 9223372036854775807 < (⟨x.tx.toArray⟩ : ByteArray).size + (⟨(eightL x.index).toArray⟩ : ByteArray).size := by omega
  rw [e]
  have HX := hide hx
  have HK : Hid (x.tx.length = 32) := hx.1
  have b := Below.refl w.heap.size w
  clear e z1 z2 hx
  generalize (⟨x.tx.toArray⟩ : ByteArray) = s1 at *
  generalize (⟨(eightL x.index).toArray⟩ : ByteArray) = s2 at *
  have mF1 := True.intro
  go_enter Tryz.func50, Tryz.ntmps50
  go_wp2_with (first | (with_reducible show wpList _ _ _ (⟨_, Op.box _ _, _, _, _, _⟩ :: _) _ _; clear mF1; refine wpl_box_in rfl _ rfl rfl HX.out ?_; intro _ g1 hg1 F1 hb; (try have := F1.lt); (try have := F2.lt); (try have := F3.lt); (try have := F4.lt); (try have := F5.lt); (try have := F6.lt); (try have := F7.lt); (try have := F8.lt); (try have := F9.lt); (try have := z.lt); (try have := G1.lt); (try have := G2.lt); (try have := G3.lt); (try have := b.size); (try replace F1 := F1.later hb); (try replace F2 := F2.later hb); (try replace F3 := F3.later hb); (try replace F4 := F4.later hb); (try replace F5 := F5.later hb); (try replace F6 := F6.later hb); (try replace F7 := F7.later hb); (try replace F8 := F8.later hb); (try replace F9 := F9.later hb); (try replace G1 := G1.later hb); (try replace G2 := G2.later hb); (try replace G3 := G3.later hb); (try replace z := z.later hb); (try replace b := later b hb); (try replace bB := mixed hB bB hb); clear hb) | (with_reducible show Code.wp _ (Code.region _ _ true) _ _ _; (try simp only [Act.put, List.setIfInBounds_toArray, List.set_cons_succ, List.set_cons_zero]); (refine region_since (by kernel_rfl) (by kernel_rfl) ?_; (repeat (first | go_big_quiet_skip | (go_big_quiet_want; first | ((with_reducible show Oper.quiet _ ⟨_, Op.load _ _, _, _, _, _⟩ _ _ _); first | (refine since_load_elem _ rfl rfl (InAt.tx F1) (HK.out) ?_; simp only [Act.put, List.setIfInBounds_toArray, List.set_cons_succ, List.set_cons_zero]; go_big_quiet_on) | (refine since_load_one 24 _ rfl rfl (InAt.index F1) (by kernel_rfl) ?_; simp only [Act.put, List.setIfInBounds_toArray, List.set_cons_succ, List.set_cons_zero]; go_big_quiet_on)) | (go_big_quiet_op; first | go_big_quiet_on | (refine ⟨_, fun _ => since_of (HB.out _), ?_⟩; go_big_quiet_on) | (refine ⟨_, fun _ => since_of (HE.out _), ?_⟩; go_big_quiet_on))))); refine wpQuiet_nil ?_; intro _ hq; (try replace F1 := F1.later hq); (try replace F2 := F2.later hq); (try replace F3 := F3.later hq); (try replace F4 := F4.later hq); (try replace F5 := F5.later hq); (try replace F6 := F6.later hq); (try replace F7 := F7.later hq); (try replace F8 := F8.later hq); (try replace F9 := F9.later hq); (try replace G1 := G1.later hq); (try replace G2 := G2.later hq); (try replace G3 := G3.later hq); (try replace z := z.later hq); (try replace b := later b hq); (try replace bB := mixed hB bB hq); clear hq)))
  go_ret
  exact ⟨rfl, b⟩
set_option maxRecDepth 100000 in
theorem amount_any (n : Nat) (w : World) (hn : U64 n) : Calls Tryz.prog 121 #[.int .u64 n] w fun e w' => e = .returned (.bool (amountB n)) ∧ Below w.heap.size w w' := by
  have b := Below.refl w.heap.size w
  obtain ⟨m, hm⟩ : ∃ m : Int, m = (n : Int) := ⟨_, rfl⟩
  obtain ⟨B1, h1⟩ : ∃ B, decide (0 < n) = B := ⟨_, rfl⟩
  obtain ⟨B2, h2⟩ : ∃ B, decide (n < 9223372036854775808) = B := ⟨_, rfl⟩
  have c1 : (decide ((0 : Int) < m)) = B1 := by rw [← h1]; exact decide_eq_decide.2 (by omega)
  have c2 : (decide (m < 9223372036854775808)) = B2 := by rw [← h2]; exact decide_eq_decide.2 (by omega)
  have hR : amountB n = (B1 && B2) := by unfold amountB; rw [h1, h2]
  rw [← hm, hR]
  clear h1 h2 hn hm hR
  cases B1
  case false =>
    go_enter Tryz.func121, Tryz.ntmps121
    go_wp2_with fail
    go_ret
    exact ⟨rfl, b⟩
  case true =>
    go_enter Tryz.func121, Tryz.ntmps121
    go_wp2_with fail
    go_ret
    exact ⟨rfl, b⟩
set_option maxRecDepth 100000 in
theorem refAmount_any (n : Nat) (w : World) (hn : U64 n) : Calls Tryz.prog 51 #[.int .u64 n] w fun e w' => e = .returned (.bool (amountB n)) ∧ Below w.heap.size w w' := by
  have b := Below.refl w.heap.size w
  obtain ⟨m, hm⟩ : ∃ m : Int, m = (n : Int) := ⟨_, rfl⟩
  obtain ⟨B1, h1⟩ : ∃ B, decide (0 < n) = B := ⟨_, rfl⟩
  obtain ⟨B2, h2⟩ : ∃ B, decide (n < 9223372036854775808) = B := ⟨_, rfl⟩
  have c1 : (decide ((1 : Int) ≤ m)) = B1 := by rw [← h1]; exact decide_eq_decide.2 (by omega)
  have c2 : (decide (m ≤ 9223372036854775807)) = B2 := by rw [← h2]; exact decide_eq_decide.2 (by omega)
  have hR : amountB n = (B1 && B2) := by unfold amountB; rw [h1, h2]
  rw [← hm, hR]
  clear h1 h2 hn hm hR
  cases B1
  case false =>
    go_enter Tryz.func51, Tryz.ntmps51
    go_wp2_with fail
    go_ret
    exact ⟨rfl, b⟩
  case true =>
    go_enter Tryz.func51, Tryz.ntmps51
    go_wp2_with fail
    go_ret
    exact ⟨rfl, b⟩
set_option maxRecDepth 100000 in
theorem may1_any (x : InT) (w : World) (hx : x.Ok) : Calls Tryz.prog 118 #[inV x] w fun e w' => e = .returned (.bool (decide (x.index < 8))) ∧ Below w.heap.size w w' := by
  have HX := hide hx
  have e1 : decide ((x.index : Int) < 8) = decide (x.index < 8) := decide_eq_decide.2 (by omega)
  rw [← e1]
  have b := Below.refl w.heap.size w
  clear hx e1
  have mF1 := True.intro
  go_enter Tryz.func118, Tryz.ntmps118
  go_wp2_with (first | (with_reducible show wpList _ _ _ (⟨_, Op.box _ _, _, _, _, _⟩ :: _) _ _; clear mF1; refine wpl_box_in rfl _ rfl rfl HX.out ?_; intro _ g1 hg1 F1 hb; (try have := F1.lt); (try have := F2.lt); (try have := F3.lt); (try have := F4.lt); (try have := F5.lt); (try have := F6.lt); (try have := F7.lt); (try have := F8.lt); (try have := F9.lt); (try have := z.lt); (try have := G1.lt); (try have := G2.lt); (try have := G3.lt); (try have := b.size); (try replace F1 := F1.later hb); (try replace F2 := F2.later hb); (try replace F3 := F3.later hb); (try replace F4 := F4.later hb); (try replace F5 := F5.later hb); (try replace F6 := F6.later hb); (try replace F7 := F7.later hb); (try replace F8 := F8.later hb); (try replace F9 := F9.later hb); (try replace G1 := G1.later hb); (try replace G2 := G2.later hb); (try replace G3 := G3.later hb); (try replace z := z.later hb); (try replace b := later b hb); (try replace bB := mixed hB bB hb); clear hb) | (with_reducible show wpList _ _ _ (⟨_, Op.load _ _, _, _, _, _⟩ :: _) _ _; refine wpl_load_one rfl 24 _ rfl rfl (InAt.index F1) (by kernel_rfl) ?_))
  go_ret
  exact ⟨rfl, b⟩
set_option maxRecDepth 100000 in
theorem may2_any (x : OutT) (w : World) (hx : x.Ok) : Calls Tryz.prog 120 #[outV x] w fun e w' => e = .returned (.bool (amountB x.amount)) ∧ Below w.heap.size w w' := by
  have HX := hide hx
  have HA := hide (fun w => amount_any x.amount w hx.2.2)
  have b := Below.refl w.heap.size w
  clear hx
  have mF1 := True.intro
  go_enter Tryz.func120, Tryz.ntmps120
  go_wp2_with (first | (with_reducible show wpList _ _ _ (⟨_, Op.box _ _, _, _, _, _⟩ :: _) _ _; clear mF1; refine wpl_box_out rfl _ rfl rfl HX.out ?_; intro _ g1 hg1 F1 hb; (try have := F1.lt); (try have := F2.lt); (try have := F3.lt); (try have := F4.lt); (try have := F5.lt); (try have := F6.lt); (try have := F7.lt); (try have := F8.lt); (try have := F9.lt); (try have := z.lt); (try have := G1.lt); (try have := G2.lt); (try have := G3.lt); (try have := b.size); (try replace F1 := F1.later hb); (try replace F2 := F2.later hb); (try replace F3 := F3.later hb); (try replace F4 := F4.later hb); (try replace F5 := F5.later hb); (try replace F6 := F6.later hb); (try replace F7 := F7.later hb); (try replace F8 := F8.later hb); (try replace F9 := F9.later hb); (try replace G1 := G1.later hb); (try replace G2 := G2.later hb); (try replace G3 := G3.later hb); (try replace z := z.later hb); (try replace b := later b hb); (try replace bB := mixed hB bB hb); clear hb) | (with_reducible show wpList _ _ _ (⟨_, Op.load _ _, _, _, _, _⟩ :: _) _ _; refine wpl_load_one rfl 24 _ rfl rfl (OutAt.amount F1) (by kernel_rfl) ?_) | (go_at_call 121; refine (HA.out _).mono ?_; rintro _ _ ⟨rfl, hc⟩; (try replace F1 := F1.later hc); (try replace F2 := F2.later hc); (try replace F3 := F3.later hc); (try replace F4 := F4.later hc); (try replace F5 := F5.later hc); (try replace F6 := F6.later hc); (try replace F7 := F7.later hc); (try replace F8 := F8.later hc); (try replace F9 := F9.later hc); (try replace G1 := G1.later hc); (try replace G2 := G2.later hc); (try replace G3 := G3.later hc); (try replace z := z.later hc); (try replace b := later b hc); (try replace bB := mixed hB bB hc); clear hc))
  go_ret
  exact ⟨rfl, b⟩
set_option maxRecDepth 100000 in
theorem may4_any (x : PayT) (w : World) (hx : x.Ok) : Calls Tryz.prog 128 #[payV x] w fun e w' => e = .returned (.bool (amountB x.amount)) ∧ Below w.heap.size w w' := by
  have HX := hide hx
  have HA := hide (fun w => amount_any x.amount w hx.2)
  have b := Below.refl w.heap.size w
  clear hx
  have mF1 := True.intro
  go_enter Tryz.func128, Tryz.ntmps128
  go_wp2_with (first | (with_reducible show wpList _ _ _ (⟨_, Op.box _ _, _, _, _, _⟩ :: _) _ _; clear mF1; refine wpl_box_pay rfl _ rfl rfl HX.out ?_; intro _ g1 hg1 F1 hb; (try have := F1.lt); (try have := F2.lt); (try have := F3.lt); (try have := F4.lt); (try have := F5.lt); (try have := F6.lt); (try have := F7.lt); (try have := F8.lt); (try have := F9.lt); (try have := z.lt); (try have := G1.lt); (try have := G2.lt); (try have := G3.lt); (try have := b.size); (try replace F1 := F1.later hb); (try replace F2 := F2.later hb); (try replace F3 := F3.later hb); (try replace F4 := F4.later hb); (try replace F5 := F5.later hb); (try replace F6 := F6.later hb); (try replace F7 := F7.later hb); (try replace F8 := F8.later hb); (try replace F9 := F9.later hb); (try replace G1 := G1.later hb); (try replace G2 := G2.later hb); (try replace G3 := G3.later hb); (try replace z := z.later hb); (try replace b := later b hb); (try replace bB := mixed hB bB hb); clear hb) | (with_reducible show wpList _ _ _ (⟨_, Op.load _ _, _, _, _, _⟩ :: _) _ _; refine wpl_load_one rfl 24 _ rfl rfl (PayAt.amount F1) (by kernel_rfl) ?_) | (go_at_call 121; refine (HA.out _).mono ?_; rintro _ _ ⟨rfl, hc⟩; (try replace F1 := F1.later hc); (try replace F2 := F2.later hc); (try replace F3 := F3.later hc); (try replace F4 := F4.later hc); (try replace F5 := F5.later hc); (try replace F6 := F6.later hc); (try replace F7 := F7.later hc); (try replace F8 := F8.later hc); (try replace F9 := F9.later hc); (try replace G1 := G1.later hc); (try replace G2 := G2.later hc); (try replace G3 := G3.later hc); (try replace z := z.later hc); (try replace b := later b hc); (try replace bB := mixed hB bB hc); clear hc))
  go_ret
  exact ⟨rfl, b⟩
set_option maxRecDepth 100000 in
theorem may3_any (x : PayT) (w : World) (hx : x.Ok) : Calls Tryz.prog 125 #[payV x] w fun e w' => e = .returned (.string ⟨x.key.toArray⟩) ∧ Below w.heap.size w w' := by
  have HX := hide hx
  have HA := hide (fun w => bytes_any x.key w hx.1)
  have HK : Hid (x.key.length = 32) := hx.1
  have b := Below.refl w.heap.size w
  clear hx
  have mF1 := True.intro
  go_enter Tryz.func125, Tryz.ntmps125
  go_wp2_with (first | (with_reducible show wpList _ _ _ (⟨_, Op.box _ _, _, _, _, _⟩ :: _) _ _; clear mF1; refine wpl_box_pay rfl _ rfl rfl HX.out ?_; intro _ g1 hg1 F1 hb; (try have := F1.lt); (try have := F2.lt); (try have := F3.lt); (try have := F4.lt); (try have := F5.lt); (try have := F6.lt); (try have := F7.lt); (try have := F8.lt); (try have := F9.lt); (try have := z.lt); (try have := G1.lt); (try have := G2.lt); (try have := G3.lt); (try have := b.size); (try replace F1 := F1.later hb); (try replace F2 := F2.later hb); (try replace F3 := F3.later hb); (try replace F4 := F4.later hb); (try replace F5 := F5.later hb); (try replace F6 := F6.later hb); (try replace F7 := F7.later hb); (try replace F8 := F8.later hb); (try replace F9 := F9.later hb); (try replace G1 := G1.later hb); (try replace G2 := G2.later hb); (try replace G3 := G3.later hb); (try replace z := z.later hb); (try replace b := later b hb); (try replace bB := mixed hB bB hb); clear hb) | (with_reducible show wpList _ _ _ (⟨_, Op.load _ _, _, _, _, _⟩ :: _) _ _; refine wpl_load_elem rfl _ rfl rfl ((PayAt.key F1)) (HK.out) ?_) | (go_at_call 126; refine (HA.out _).mono ?_; rintro _ _ ⟨rfl, hc⟩; (try replace F1 := F1.later hc); (try replace F2 := F2.later hc); (try replace F3 := F3.later hc); (try replace F4 := F4.later hc); (try replace F5 := F5.later hc); (try replace F6 := F6.later hc); (try replace F7 := F7.later hc); (try replace F8 := F8.later hc); (try replace F9 := F9.later hc); (try replace G1 := G1.later hc); (try replace G2 := G2.later hc); (try replace G3 := G3.later hc); (try replace z := z.later hc); (try replace b := later b hc); (try replace bB := mixed hB bB hc); clear hc))
  go_ret
  exact ⟨rfl, b⟩
set_option maxRecDepth 100000 in
theorem may5_any (x : WitT) (w : World) (hx : x.Ok) : Calls Tryz.prog 130 #[witV x] w fun e w' => e = .returned (.string ⟨x.key.toArray⟩) ∧ Below w.heap.size w w' := by
  have HX := hide hx
  have HA := hide (fun w => bytes_any x.key w hx)
  have HK : Hid (x.key.length = 32) := hx
  have b := Below.refl w.heap.size w
  clear hx
  have mF1 := True.intro
  go_enter Tryz.func130, Tryz.ntmps130
  go_wp2_with (first | (with_reducible show wpList _ _ _ (⟨_, Op.box _ _, _, _, _, _⟩ :: _) _ _; clear mF1; refine wpl_box_wit rfl _ rfl rfl HX.out ?_; intro _ g1 hg1 F1 hb; (try have := F1.lt); (try have := F2.lt); (try have := F3.lt); (try have := F4.lt); (try have := F5.lt); (try have := F6.lt); (try have := F7.lt); (try have := F8.lt); (try have := F9.lt); (try have := z.lt); (try have := G1.lt); (try have := G2.lt); (try have := G3.lt); (try have := b.size); (try replace F1 := F1.later hb); (try replace F2 := F2.later hb); (try replace F3 := F3.later hb); (try replace F4 := F4.later hb); (try replace F5 := F5.later hb); (try replace F6 := F6.later hb); (try replace F7 := F7.later hb); (try replace F8 := F8.later hb); (try replace F9 := F9.later hb); (try replace G1 := G1.later hb); (try replace G2 := G2.later hb); (try replace G3 := G3.later hb); (try replace z := z.later hb); (try replace b := later b hb); (try replace bB := mixed hB bB hb); clear hb) | (with_reducible show wpList _ _ _ (⟨_, Op.load _ _, _, _, _, _⟩ :: _) _ _; refine wpl_load_elem rfl _ rfl rfl ((WitAt.key F1)) (HK.out) ?_) | (go_at_call 126; refine (HA.out _).mono ?_; rintro _ _ ⟨rfl, hc⟩; (try replace F1 := F1.later hc); (try replace F2 := F2.later hc); (try replace F3 := F3.later hc); (try replace F4 := F4.later hc); (try replace F5 := F5.later hc); (try replace F6 := F6.later hc); (try replace F7 := F7.later hc); (try replace F8 := F8.later hc); (try replace F9 := F9.later hc); (try replace G1 := G1.later hc); (try replace G2 := G2.later hc); (try replace G3 := G3.later hc); (try replace z := z.later hc); (try replace b := later b hc); (try replace bB := mixed hB bB hc); clear hc))
  go_ret
  exact ⟨rfl, b⟩
set_option maxRecDepth 100000 in
theorem may6_any (x : WitT) (w : World) (hx : x.Ok) : Calls Tryz.prog 132 #[witV x] w fun e w' => e = .returned (.bool (decide (x.sig.size = 1024))) ∧ Below w.heap.size w w' := by
  have HX := hide hx
  have e1 : ((x.sig.size : Int) == 1024) = decide (x.sig.size = 1024) := by
    have := nat_beq x.sig.size 1024
    simpa using this
  have b := Below.refl w.heap.size w
  clear hx
  rw [← e1]
  clear e1
  have mF1 := True.intro
  go_enter Tryz.func132, Tryz.ntmps132
  go_wp2_with (first | (with_reducible show wpList _ _ _ (⟨_, Op.box _ _, _, _, _, _⟩ :: _) _ _; clear mF1; refine wpl_box_wit rfl _ rfl rfl HX.out ?_; intro _ g1 hg1 F1 hb; (try have := F1.lt); (try have := F2.lt); (try have := F3.lt); (try have := F4.lt); (try have := F5.lt); (try have := F6.lt); (try have := F7.lt); (try have := F8.lt); (try have := F9.lt); (try have := z.lt); (try have := G1.lt); (try have := G2.lt); (try have := G3.lt); (try have := b.size); (try replace F1 := F1.later hb); (try replace F2 := F2.later hb); (try replace F3 := F3.later hb); (try replace F4 := F4.later hb); (try replace F5 := F5.later hb); (try replace F6 := F6.later hb); (try replace F7 := F7.later hb); (try replace F8 := F8.later hb); (try replace F9 := F9.later hb); (try replace G1 := G1.later hb); (try replace G2 := G2.later hb); (try replace G3 := G3.later hb); (try replace z := z.later hb); (try replace b := later b hb); (try replace bB := mixed hB bB hb); clear hb) | (with_reducible show wpList _ _ _ (⟨_, Op.load _ _, _, _, _, _⟩ :: _) _ _; refine wpl_load_one rfl 9 _ rfl rfl (WitAt.sig F1) (by kernel_rfl) ?_))
  go_ret
  exact ⟨rfl, b⟩
end Go.Proofs.YtbbfnpfkbbpjgaaGreat
