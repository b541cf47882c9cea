/- The reference of layer 3: Rooted; the law ShaRoots. -/
import Derived.Test.YtbbfnpfkbbpjgaaRoots3
import Derived.Test.YtbbfnpfkbbpjgaaMRef
import Derived.Test.YtbbfnpfkbbpjgaaMBase
import Derived.Test.YtbbfnpfkbbpjgaaShelf
namespace Go.Proofs.Ytbbfnpfkbbpjgaa
open Go.RowKit Go.Lib
set_option linter.unusedVariables false
set_option linter.unusedSimpArgs false

set_option maxRecDepth 100000 in
theorem primes_small : (∀ x ∈ primesN 64, x < 65536) ∧ (∀ x ∈ primesN 8, x < 65536) := by decide +kernel
set_option maxRecDepth 100000 in
theorem cubes_wvs : wvs rootsL = cubesN.map fun n : Nat => Value.int .u32 (n : Int) := by
  have h : rootsL.map (fun x => x.toNat) = cubesN := by decide +kernel
  rw [← h, List.map_map]
  rfl
theorem cubes_len : cubesN.length = 64 := by decide
theorem squares_at (k : Nat) (hk : k < 8) : squaresN[k]? = some (squaresN.getD k 0) := by
  rw [List.getD_eq_getElem?_getD, List.getElem?_eq_getElem (show k < squaresN.length from hk)]; rfl
set_option maxRecDepth 100000 in
set_option maxHeartbeats 1600000 in
theorem rooted_any (w : World) : Calls Try.prog 51 #[] w fun e w' => e = .returned (.bool true) ∧ Below w.heap.size w w' := by
  have HR1 := hide (fun w => roots03_any 64 3 w (by decide) (by decide) primes64.1 primes_small.1)
  have HR2 := hide (fun w => roots03_any 8 2 w (by decide) (by decide) primes64.2 primes_small.2)
  rw [roots_three] at HR1
  rw [roots_two] at HR2
  have HC := hide (fun w => cubes_any w)
  have HCL := hide cubes_len
  have HCW := hide cubes_wvs
  have b := Below.refl w.heap.size w
  go_enter Try.func51, Try.ntmps51
  go_wp2_with (first | (go_at_call 121; refine (HR1.out _).mono ?_; rintro _ W1 ⟨v1, rfl, O5, hc⟩; replace b := later b hc; have G1 := O5.sl; clear hc O5) | (go_at_call 122; refine (HC.out _).mono ?_; rintro _ W2 ⟨rfl, hW2⟩; have hb1 := below1 W1 (.cells (wvs rootsL).toArray 164); have G2 := Cells.arr (Arr.new W1 (wvs rootsL) 164); rw [← hW2] at hb1 G2; replace b := later b hb1; replace G1 := G1.later hb1; clear hb1 hW2))
  rw [HCW.out] at G2
  obtain ⟨av, cv, rfl, -⟩ := Sl.shape G1
  rw [HCL.out]
  have G1' : Sl W2 (.slice av 64 cv) 1 (nums32C cubesN) := by rwa [HCL.out] at G1
  clear G1
  go_loopw [3] (fun i wr => ∃ k : Nat, i = .int .i64 k ∧ k ≤ 64 ∧ Below W2.heap.size W2 wr) (fun i _ => 64 - (RowKit.intOf i).toNat)
  case atStart => exact ⟨0, rfl, by omega, Below.refl _ _⟩
  case round =>
    obtain ⟨k, rfl, hk, b2⟩ := hrel
    by_cases hlt : k < 64
    · obtain ⟨x, hx⟩ : ∃ x, cubesN[k]? = some x := ⟨_, List.getElem?_eq_getElem (by rw [HCL.out]; exact hlt)⟩
      obtain ⟨bb, k0, c', he, _, hcs⟩ := Sl.block (G1'.later b2) (by rw [HCL.out]; omega)
      simp only [Value.slice.injEq] at he
      obtain ⟨rfl, -, rfl⟩ := he
      have d1 := (hcs k x hx).num32
      have d2 := (G2.later b2) k _ (by rw [List.getElem?_map, hx]; rfl)
      rw [Nat.zero_add] at d2
      clear hcs hx
      go_wp2_with (with_reducible show Code.wp _ (Code.region _ _ true) _ _ _; (try simp only [Act.put, List.setIfInBounds_toArray, List.set_cons_succ, List.set_cons_zero]); fail)
      (try simp only [Act.put, List.setIfInBounds_toArray, List.set_cons_succ, List.set_cons_zero])
      refine region_since (by kernel_rfl) (by kernel_rfl) ?_
      repeat (first | go_big_quiet_skip | (go_big_quiet_want; first | ((with_reducible show Oper.quiet _ ⟨_, Op.load _ _, _, _, _, _⟩ _ _ _); first | (refine since_load_one 164 _ rfl rfl (d1) (by kernel_rfl) ?_; simp only [Act.put, List.setIfInBounds_toArray, List.set_cons_succ, List.set_cons_zero]; go_big_quiet_on) | (refine since_load_one 164 _ rfl rfl (d2) (by kernel_rfl) ?_; simp only [Act.put, List.setIfInBounds_toArray, List.set_cons_succ, List.set_cons_zero]; go_big_quiet_on)) | (go_big_quiet_op; first | go_big_quiet_on | (refine ⟨_, fun _ => rfl, ?_⟩; go_big_quiet_on))))
      refine wpQuiet_nil ?_
      intro _ hq
      replace b2 := later b2 hq
      clear hq d1 d2
      go_wp2_with fail
      go_roundw
      case rel => exact ⟨k + 1, by simp, by omega, b2⟩
      case measure => simp [RowKit.intOf]; omega
    · obtain rfl : k = 64 := by omega
      have b3 := later b b2
      clear b b2 G1' G2 hlt hk
      go_wp2_with (first | (go_at_call 121; refine (HR2.out _).mono ?_; rintro _ W3 ⟨v4, rfl, O5, hc⟩; replace b3 := later b3 hc; have G3 := O5.sl; clear hc O5) | (with_reducible show wpList _ _ _ (⟨_, Op.indexAddr _ _ _, _, _, _, _⟩ :: _) _ _; generalize hstop : wpList _ _ _ _ _ _ = Gstop))
      obtain ⟨a4, c4, rfl, -⟩ := Sl.shape G3
      obtain ⟨bb, k0, c', he, _, hcs⟩ := Sl.block G3 (by decide)
      simp only [Value.slice.injEq] at he
      obtain ⟨rfl, -, rfl⟩ := he
      have e8 : squaresN.length = 8 := rfl
      rw [e8] at hstop
      have d0 := (hcs 0 1779033703 rfl).num32
      have d1 := (hcs 1 3144134277 rfl).num32
      have d2 := (hcs 2 1013904242 rfl).num32
      have d3 := (hcs 3 2773480762 rfl).num32
      have d4 := (hcs 4 1359893119 rfl).num32
      have d5 := (hcs 5 2600822924 rfl).num32
      have d6 := (hcs 6 528734635 rfl).num32
      have d7 := (hcs 7 1541459225 rfl).num32
      clear hcs G3 HR1 HR2 HC HCL HCW e8
      rw [← hstop]; clear hstop
      go_wp2_with (with_reducible show wpList _ _ _ (⟨_, Op.load _ _, _, _, _, _⟩ :: _) _ _; first | refine wpl_load_one rfl 164 _ rfl rfl d0 (by kernel_rfl) ?_ | refine wpl_load_one rfl 164 _ rfl rfl d1 (by kernel_rfl) ?_ | refine wpl_load_one rfl 164 _ rfl rfl d2 (by kernel_rfl) ?_ | refine wpl_load_one rfl 164 _ rfl rfl d3 (by kernel_rfl) ?_ | refine wpl_load_one rfl 164 _ rfl rfl d4 (by kernel_rfl) ?_ | refine wpl_load_one rfl 164 _ rfl rfl d5 (by kernel_rfl) ?_ | refine wpl_load_one rfl 164 _ rfl rfl d6 (by kernel_rfl) ?_ | refine wpl_load_one rfl 164 _ rfl rfl d7 (by kernel_rfl) ?_)
      go_ret
      exact ⟨by simp, b3⟩
set_option maxRecDepth 100000 in
theorem hex_empty : Lib.contains (hexL (sha [])) [101, 51, 98, 48, 99, 52, 52, 50] = true := by decide +kernel
set_option maxRecDepth 100000 in
set_option maxHeartbeats 1600000 in
theorem shaRoots_any (w : World) (m : Int) (hm : w.cell? ⟨0, 0, none⟩ = some (.int .i64 m)) : Calls Try.prog 15 #[] w fun e w' => e = .returned (.bool true) ∧ Below w.heap.size w w' := by
  have HS : Hid (∀ w, Calls Try.prog 50 #[.string ⟨#[]⟩] w fun e w' => e = .returned (hv (sha [])) ∧ Below w.heap.size w w') := fun w => sum_any ⟨#[]⟩ w (by decide)
  have hl : (sha []).length = 32 := sha_length _
  have HX := hide (fun w => hex_any (sha []) w hl)
  obtain ⟨hs, hhs⟩ : ∃ hs : ByteArray, hs = ⟨(hexL (sha [])).toArray⟩ := ⟨_, rfl⟩
  have HC : Hid (∀ w, w.cell? ⟨0, 0, none⟩ = some (.int .i64 m) → Calls Try.prog 48 #[.string hs, .string ⟨#[101, 51, 98, 48, 99, 52, 52, 50]⟩] w fun e w' => e = .returned (.bool true) ∧ Below w.heap.size w w') := fun w hm => by
    have k := Try.strings_Contains hs ⟨#[101, 51, 98, 48, 99, 52, 52, 50]⟩ m w (by rw [hhs]; show (hexL (sha [])).toArray.size < _; rw [List.size_toArray, hexL_length, hl]; decide) hm
    refine k.mono ?_
    rintro _ _ ⟨rfl, rfl⟩
    refine ⟨?_, Below.refl _ _⟩
    rw [show hs.data.toList = hexL (sha []) by rw [hhs]]
    rw [show (⟨#[101, 51, 98, 48, 99, 52, 52, 50]⟩ : ByteArray).data.toList = [101, 51, 98, 48, 99, 52, 52, 50] from rfl, hex_empty]
  rw [← hhs] at HX
  have HR := hide rooted_any
  have hb0 := World.block_lt_of_cell? w _ hm
  have HM := hide (fun (w' : World) (hb : Below w.heap.size w w') => (hb.cell (p := ⟨0, 0, none⟩) hb0).trans hm)
  clear hhs hl hb0 hm
  generalize sha [] = S at *
  have b := Below.refl w.heap.size w
  go_enter Try.func15, Try.ntmps15
  go_wp2_with (first | (go_at_call 50; refine (HS.out _).mono ?_; rintro _ _ ⟨rfl, hc⟩; (try replace F1 := F1.later hc); (try replace F2 := F2.later hc); (try replace F3 := F3.later hc); (try replace F4 := F4.later hc); (try replace F5 := F5.later hc); (try replace F6 := F6.later hc); (try replace F7 := F7.later hc); (try replace F8 := F8.later hc); (try replace F9 := F9.later hc); (try replace G1 := G1.later hc); (try replace G2 := G2.later hc); (try replace G3 := G3.later hc); (try replace z := z.later hc); (try replace b := later b hc); (try replace bB := mixed hB bB hc); clear hc) | (go_at_call 49; refine (HX.out _).mono ?_; rintro _ _ ⟨rfl, hc⟩; (try replace F1 := F1.later hc); (try replace F2 := F2.later hc); (try replace F3 := F3.later hc); (try replace F4 := F4.later hc); (try replace F5 := F5.later hc); (try replace F6 := F6.later hc); (try replace F7 := F7.later hc); (try replace F8 := F8.later hc); (try replace F9 := F9.later hc); (try replace G1 := G1.later hc); (try replace G2 := G2.later hc); (try replace G3 := G3.later hc); (try replace z := z.later hc); (try replace b := later b hc); (try replace bB := mixed hB bB hc); clear hc) | (go_at_call 48; refine (HC.out _ (HM.out _ b)).mono ?_; rintro _ _ ⟨rfl, hc⟩; (try replace F1 := F1.later hc); (try replace F2 := F2.later hc); (try replace F3 := F3.later hc); (try replace F4 := F4.later hc); (try replace F5 := F5.later hc); (try replace F6 := F6.later hc); (try replace F7 := F7.later hc); (try replace F8 := F8.later hc); (try replace F9 := F9.later hc); (try replace G1 := G1.later hc); (try replace G2 := G2.later hc); (try replace G3 := G3.later hc); (try replace z := z.later hc); (try replace b := later b hc); (try replace bB := mixed hB bB hc); clear hc) | (go_at_call 51; refine (HR.out _).mono ?_; rintro _ _ ⟨rfl, hc⟩; (try replace F1 := F1.later hc); (try replace F2 := F2.later hc); (try replace F3 := F3.later hc); (try replace F4 := F4.later hc); (try replace F5 := F5.later hc); (try replace F6 := F6.later hc); (try replace F7 := F7.later hc); (try replace F8 := F8.later hc); (try replace F9 := F9.later hc); (try replace G1 := G1.later hc); (try replace G2 := G2.later hc); (try replace G3 := G3.later hc); (try replace z := z.later hc); (try replace b := later b hc); (try replace bB := mixed hB bB hc); clear hc))
  go_ret
  exact ⟨rfl, b⟩
end Go.Proofs.Ytbbfnpfkbbpjgaa
