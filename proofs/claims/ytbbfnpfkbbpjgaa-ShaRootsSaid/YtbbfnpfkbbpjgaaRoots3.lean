/- The reference of layer 3: Primes, Roots. -/
import Derived.Test.YtbbfnpfkbbpjgaaRoots2
namespace Go.Proofs.Ytbbfnpfkbbpjgaa
open Go.RowKit Go.Lib
set_option linter.unusedVariables false
set_option linter.unusedSimpArgs false

theorem all_take_next (g : Nat → Bool) (l : List Nat) (k x : Nat) (h : l[k]? = some x) : (l.take (k + 1)).all g = ((l.take k).all g && g x) := by
  obtain ⟨hk, rfl⟩ := List.getElem?_eq_some_iff.1 h
  rw [List.take_succ_eq_append_getElem hk, List.all_append]
  simp
set_option maxRecDepth 100000 in
set_option maxHeartbeats 1600000 in
theorem primes03_any (many : Nat) (w : World) (hm : many ≤ 64) (hlen : (primesN many).length = many) :
    Calls Try.prog 161 #[.int .i64 many] w fun e w' => ∃ v', e = .returned v' ∧ OwnR w' w.heap.size 23 1 v' (numsC (primesN many)) [] ∧ Below w.heap.size w w' := by
  obtain ⟨PN, hPN⟩ : ∃ PN, PN = primesN many := ⟨_, rfl⟩
  rw [← hPN] at hlen ⊢
  have HL := hide hlen
  have HP : Hid (primesF many 400 2 [] = PN) := hPN.symm
  have b := Below.refl w.heap.size w
  clear hlen hPN
  go_enter Try.func161, Try.ntmps161
  go_wp2_with fail
  go_loopw [3, 4] (fun v n wr => ∃ (k : Nat) (out : List Nat), n = .int .u64 ((2 + k : Nat) : Int) ∧ k ≤ 400 ∧ OwnR wr w.heap.size 23 1 v (numsC out) [] ∧ Hid (∀ x ∈ out, 2 ≤ x) ∧ out.length ≤ 64 ∧ Hid (primesF many (400 - k) (2 + k) out = PN) ∧ Below w.heap.size w wr) (fun _ n _ => 402 - (RowKit.intOf n).toNat)
  case atStart => exact ⟨0, [], rfl, by omega, OwnR.nil _ _ _ _, hide (by simp), by simp, HP, b⟩
  case round =>
    clear b HP
    obtain ⟨k, out, rfl, hk, O1, HO, h64, HP, b⟩ := hrel
    have hol : (numsC out).length = out.length := List.length_map ..
    obtain ⟨av, cv, rfl, -⟩ := Sl.shape O1.sl
    by_cases hlt : out.length < many
    · have hk4 : k < 400 := by
        rcases Nat.lt_or_ge k 400 with h | h
        · exact h
        · have := HP.out
          rw [show 400 - k = 0 by omega] at this
          have e : out = PN := this
          have := HL.out
          rw [← e] at this
          omega
      have hN := HP.out
      rw [show 400 - k = (400 - (k + 1)) + 1 by omega, primes_next hlt] at hN
      have HN := hide hN
      have HOL := hide hol
      obtain ⟨no, hno⟩ : ∃ no, no = out.length := ⟨_, rfl⟩
      rw [← hno] at hlt h64 O1 ⊢
      have HNO := hide hno
      clear HP hN hol hno
      obtain ⟨n, hn⟩ : ∃ n, n = 2 + k := ⟨_, rfl⟩
      have hn2 : 2 ≤ n := by omega
      have hn3 : n ≤ 401 := by omega
      rw [← hn] at HN ⊢
      have HK : Hid (n = 2 + k) := hn
      clear hn
      go_wp2_with fail
      go_loopw [5, 6] (fun vb i wr => ∃ j : Nat, i = .int .i64 j ∧ j ≤ no ∧ vb = .bool ((out.take j).all fun p => decide (n % p ≠ 0)) ∧ OwnR wr w.heap.size 23 1 (.slice av no cv) (numsC out) [] ∧ Below w.heap.size w wr) (fun _ i _ => no - (RowKit.intOf i).toNat)
      case atStart => exact ⟨0, rfl, by omega, rfl, O1, b⟩
      case round =>
        clear b O1
        obtain ⟨j, rfl, hj, rfl, O1, b⟩ := hrel
        by_cases hjl : j < no
        · obtain ⟨x, hx⟩ : ∃ x, out[j]? = some x := ⟨_, List.getElem?_eq_getElem (by rw [← HNO.out]; exact hjl)⟩
          have hx2 := HO.out x (List.mem_of_getElem? hx)
          obtain ⟨bb, k0, c', he, _, hcs⟩ := Sl.block O1.sl (by rw [← HNO.out]; omega)
          simp only [Value.slice.injEq] at he
          obtain ⟨rfl, -, rfl⟩ := he
          have d1 := (hcs j x hx).num
          have HA := hide (all_take_next (fun p => decide (n % p ≠ 0)) out j x hx)
          have x0 : ((x : Int) == 0) = false := by rw [beq_eq_false_iff_ne]; omega
          have xr : Int.tmod (n : Int) (x : Int) = ((n % x : Nat) : Int) := by rw [Int.tmod_eq_emod_of_nonneg (by omega), Int.natCast_emod]
          have xr2 : (n : Int) % (x : Int) = ((n % x : Nat) : Int) := by rw [Int.natCast_emod]
          have hlx : n % x ≤ n := Nat.mod_le _ _
          clear hcs hx
          generalize ((out.take j).all fun p => decide (n % p ≠ 0)) = Z at *
          generalize hz : n % x = z at *
          have zw : IntKind.u64.wrap (z : Int) = (z : Int) := by rw [IntKind.wrap_u64]; omega
          clear hz
          by_cases h0 : z = 0
          · have c0 : ((z : Int) == 0) = true := by rw [beq_iff_eq]; omega
            have HA2 : Hid (((out.take (j + 1)).all fun p => decide (n % p ≠ 0)) = false) := by rw [HA.out, decide_eq_false (by omega), Bool.and_false]; exact hide rfl
            clear HA h0
            go_wp2_with (first | (with_reducible show wpList _ _ _ (⟨_, Op.load _ _, _, _, _, _⟩ :: _) _ _; refine wpl_load_one rfl 23 _ rfl rfl d1 (by kernel_rfl) ?_))
            go_roundw
            case rel => exact ⟨j + 1, by simp, by omega, by rw [HA2.out], O1, b⟩
            case measure => simp [RowKit.intOf]; omega
          · have c0 : ((z : Int) == 0) = false := by rw [beq_eq_false_iff_ne]; omega
            have HA2 : Hid (((out.take (j + 1)).all fun p => decide (n % p ≠ 0)) = Z) := by rw [HA.out, decide_eq_true h0, Bool.and_true]; exact hide rfl
            clear HA h0
            go_wp2_with (first | (with_reducible show wpList _ _ _ (⟨_, Op.load _ _, _, _, _, _⟩ :: _) _ _; refine wpl_load_one rfl 23 _ rfl rfl d1 (by kernel_rfl) ?_))
            go_roundw
            case rel => exact ⟨j + 1, by simp, by omega, by rw [HA2.out], O1, b⟩
            case measure => simp [RowKit.intOf]; omega
        · obtain rfl : no = j := by omega
          rw [List.take_of_length_le (by rw [← HNO.out]; exact Nat.le_refl _)]
          have nw : IntKind.u64.wrap ((n : Int) + 1) = ((n + 1 : Nat) : Int) := by rw [IntKind.wrap_u64]; omega
          have hN := HN.out
          have HP : Hid ((numsC out).length = no) := by rw [HOL.out]; exact hide HNO.out.symm
          have qb := b.size
          cases hB : (out.all fun p => decide (n % p ≠ 0))
          case true =>
            rw [hB, if_pos rfl] at hN
            have HN := hide hN
            have HO2 : Hid (∀ x ∈ out ++ [n], 2 ≤ x) := ok_snoc (P := fun x => 2 ≤ x) HO.out hn2
            have hl2 : (out ++ [n]).length ≤ 64 := by rw [List.length_append, ← HNO.out]; simp; omega
            have HL2 := hide hl2
            clear hN hB hl2
            go_wp2_with (first | ((with_reducible show wpList _ _ _ (⟨_, Op.buildSlice _ _ _, _, _, _, _⟩ :: _) _ _); refine wpl_row1 rfl numElem (by decide) _ rfl (v := .int .u64 ((n : Nat) : Int)) (el := numC (n)) rfl rfl rfl (numC_one _) ?_; intro _ g9 h9 O9 hb; replace O1 := O1.later hb; replace b := later b hb; clear hb) | ((with_reducible show wpList _ _ _ (⟨_, Op.call _, _, _, _, _⟩ :: _) _ _); refine wpl_append_row rfl _ _ numElem rfl rfl O1 rfl O9.sl O9.2.1 (no + 1) (by rw [HP.out]; rfl) (by omega) (by omega) b.size ?_; intro a2 c2 w2 O2 ht2 _; replace b := b.trans (ht2.below (B := w.heap.size) b.size (fun x hx => O1.ge x hx)); clear O1 O9 ht2))
            go_roundw
            case rel => exact ⟨k + 1, out ++ [n], by rw [show 2 + (k + 1) = n + 1 by have hk2 : n = 2 + k := HK.out; omega]; simp, by omega, by unfold numsC; rw [List.map_append]; exact O2, HO2, HL2.out, by rw [show 2 + (k + 1) = n + 1 by have hk2 : n = 2 + k := HK.out; omega]; exact HN, b⟩
            case measure => simp [RowKit.intOf]; omega
          case false =>
            rw [hB, if_neg (by decide)] at hN
            have HN := hide hN
            clear hN hB
            go_wp2_with fail
            go_roundw
            case rel => exact ⟨k + 1, out, by rw [show 2 + (k + 1) = n + 1 by have hk2 : n = 2 + k := HK.out; omega]; simp, by omega, O1, HO, by rw [← HNO.out]; exact h64, by rw [show 2 + (k + 1) = n + 1 by have hk2 : n = 2 + k := HK.out; omega]; exact HN, b⟩
            case measure => simp [RowKit.intOf]; omega
    · have hP := HP.out
      rw [primes_end hlt] at hP
      have hlt' : ¬ (out.length : Int) < (many : Int) := by omega
      subst hP
      clear HP HL
      go_wp2_with fail
      go_ret
      exact ⟨_, rfl, O1, b⟩
def num32C (n : Nat) : List Value := [.int .u32 n]
def nums32C (l : List Nat) : List (List Value) := l.map num32C
theorem num32Elem : ElemOf Try.prog 172 164 1 4 := elOf Try.underlying172 (by decide) (by kernel_rfl)
theorem num32C_one (n : Nat) : ∀ v ∈ num32C n, v.oneCell' = true := by intro v hv; simp [num32C] at hv; subst hv; rfl
theorem Cells.num32 {w : World} {b k i n : Nat} (h : Cells w b (k + i * 1) (num32C n)) : w.cell? ⟨b, k + i, none⟩ = some (.int .u32 n) := by
  have := Cells.one h
  rwa [Nat.mul_one] at this
set_option maxRecDepth 100000 in
set_option maxHeartbeats 1600000 in
theorem roots03_any (many p : Nat) (w : World) (hm : many ≤ 64) (hp : p ≤ 3) (hlen : (primesN many).length = many) (hsm : ∀ x ∈ primesN many, x < 65536) :
    Calls Try.prog 121 #[.int .i64 many, .int .u64 p] w fun e w' => ∃ v', e = .returned v' ∧ OwnR w' w.heap.size 164 1 v' (nums32C (rootsN many p)) [] ∧ Below w.heap.size w w' := by
  have HPR := hide (fun w => primes03_any many w hm hlen)
  have HRT := hide (fun (n : Nat) (w : World) (hn : n < 65536) => root03_any n p w hn hp)
  unfold rootsN
  obtain ⟨PN, hPN⟩ : ∃ PN, PN = primesN many := ⟨_, rfl⟩
  rw [← hPN] at hlen hsm HPR ⊢
  have HL := hide hlen
  have HSM := hide hsm
  have b := Below.refl w.heap.size w
  clear hlen hsm hPN
  go_enter Try.func121, Try.ntmps121
  go_wp2_with (go_at_call 161; refine (HPR.out _).mono ?_; rintro _ W1 ⟨v1, rfl, O5, hc⟩; have b1 := hc; clear hc b)
  obtain ⟨av, cv, rfl, -⟩ := Sl.shape O5.sl
  rw [HL.out]
  have G1 : Sl W1 (.slice av many cv) 1 (numsC PN) := by have := O5.sl; rwa [HL.out] at this
  clear O5
  have b := Below.refl W1.heap.size W1
  go_loopw [6, 7] (fun v i wr => ∃ k : Nat, i = .int .i64 k ∧ k ≤ many ∧ OwnR wr W1.heap.size 164 1 v (nums32C ((PN.take k).map fun n => rootN n p)) [] ∧ Below W1.heap.size W1 wr) (fun _ i _ => many - (RowKit.intOf i).toNat)
  case atStart => exact ⟨0, rfl, by omega, OwnR.nil _ _ _ _, b⟩
  case round =>
    clear b
    obtain ⟨k, rfl, hk, O1, b⟩ := hrel
    have G2 := G1.later b
    have hol : (nums32C ((PN.take k).map fun n => rootN n p)).length = k := by unfold nums32C; rw [List.length_map, List.length_map, List.length_take, HL.out]; omega
    by_cases hlt : k < many
    · obtain ⟨x, hx⟩ : ∃ x, PN[k]? = some x := ⟨_, List.getElem?_eq_getElem (by rw [HL.out]; exact hlt)⟩
      have hx2 := HSM.out x (List.mem_of_getElem? hx)
      obtain ⟨bb, k0, c', he, _, hcs⟩ := Sl.block G2 (by rw [HL.out]; omega)
      simp only [Value.slice.injEq] at he
      obtain ⟨rfl, -, rfl⟩ := he
      have d1 := (hcs k x hx).num
      have HT : Hid ((PN.take (k + 1)).map (fun n => rootN n p) = (PN.take k).map (fun n => rootN n p) ++ [rootN x p]) := by
        obtain ⟨hk', rfl⟩ := List.getElem?_eq_some_iff.1 hx
        unfold Hid
        rw [List.take_succ_eq_append_getElem hk', List.map_append]
        rfl
      have HR := hide (fun w => HRT.out x w hx2)
      have HP := hide hol
      have qb := b.size
      clear hcs hx hol G2
      generalize rootN x p = y at *
      generalize (PN.take k).map (fun n => rootN n p) = P at *
      go_wp2_with (first | (with_reducible show wpList _ _ _ (⟨_, Op.load _ _, _, _, _, _⟩ :: _) _ _; refine wpl_load_one rfl 23 _ rfl rfl d1 (by kernel_rfl) ?_) | (go_at_call 162; refine (HR.out _).mono ?_; rintro _ _ ⟨rfl, hc⟩; replace b := later b hc; replace O1 := O1.later hc; clear hc) | ((with_reducible show wpList _ _ _ (⟨_, Op.buildSlice _ _ _, _, _, _, _⟩ :: _) _ _); refine wpl_row1 rfl num32Elem (by decide) _ rfl (v := .int .u32 (y : Int)) (el := num32C y) rfl rfl rfl (num32C_one _) ?_; intro _ g9 h9 O9 hb; replace O1 := O1.later hb; replace b := later b hb; clear hb) | ((with_reducible show wpList _ _ _ (⟨_, Op.call _, _, _, _, _⟩ :: _) _ _); refine wpl_append_row rfl _ _ num32Elem rfl rfl O1 rfl O9.sl O9.2.1 (k + 1) (by rw [HP.out]; rfl) (by omega) (by omega) b.size ?_; intro a2 c2 w2 O2 ht2 _; replace b := b.trans (ht2.below (B := W1.heap.size) b.size (fun x hx => O1.ge x hx)); clear O1 O9 ht2))
      go_roundw
      case rel => exact ⟨k + 1, by simp, by omega, by rw [HT.out]; unfold nums32C; rw [List.map_append]; exact O2, b⟩
      case measure => simp [RowKit.intOf]; omega
    · obtain rfl : many = k := by omega
      rw [List.take_of_length_le (by rw [HL.out]; exact Nat.le_refl _)] at O1
      clear hlt
      go_wp2_with fail
      go_ret
      exact ⟨_, rfl, O1.base b1.size, later b1 b⟩
end Go.Proofs.Ytbbfnpfkbbpjgaa
