/- The reference's Take (mintageref01) as a contract. -/
import Derived.Test.YtbbfnpfkbbpjgaaOBEvoL
import Derived.Test.YtbbfnpfkbbpjgaaOBTakeW
import Derived.Test.YtbbfnpfkbbpjgaaOBMRef
import Derived.Test.YtbbfnpfkbbpjgaaOBStep
namespace Go.Proofs.Ytbbfnpfkbbpjgaa
open Go.RowKit Go.Lib
set_option linter.unusedVariables false
set_option linter.unusedSimpArgs false

theorem wpl_eqs {P : Program} {ops : Array Oper} {rest : List Oper} {o : Oper} {a : Act} {w : World} {Q : Exit → Act → World → Prop} (hw : Region.wanted o (yielded ops a.tmps) = true) {t u : TypeId} (x y : Operand) (ho : o.op = .binOp .eql t x y u) {m n : ByteArray} (hx : a.eval x = .string m) (hy : a.eval y = .string n) {B : Bool} (hB : (m.toList == n.toList) = B) (hk : wpList P ops Q rest (a.put o.dst (.bool B)) w) : wpList P ops Q (o :: rest) a w :=
  wpl_value hw _ (by
    unfold execOp
    simp only [ho, hx, hy, Sem.run_bind]
    subst hB
    simp [eqGuard, binOp, Op.stringOp]) hk
theorem ext_take'' (s : ByteArray) (n : Nat) : (s.extract 0 n).data.toList = s.data.toList.take n := by simp
set_option maxRecDepth 100000 in
set_option maxHeartbeats 400000 in
theorem begins_any (s t : ByteArray) (w : World) (hs : s.size ≤ 1099511627776) (ht : t.size ≤ 1099511627776) :
    Calls Try.prog 163 #[.string s, .string t] w fun e w' => (∃ B : Bool, e = .returned (.bool B) ∧ (∀ r, s.data.toList = t.data.toList ++ r → B = true)) ∧ Below w.heap.size w w' := by
  have b := Below.refl w.heap.size w
  have hz1 : s.size = s.data.toList.length := by rw [Array.length_toList]; rfl
  have hz2 : t.size = t.data.toList.length := by rw [Array.length_toList]; rfl
  by_cases hlt : t.size ≤ s.size
  · have c1 : decide ((t.size : Int) ≤ (s.size : Int)) = true := decide_eq_true (by omega)
    obtain ⟨B, hB⟩ : ∃ B, B = ((s.extract 0 t.size).toList == t.toList) := ⟨_, rfl⟩
    have HK : Hid (∀ r, s.data.toList = t.data.toList ++ r → B = true) := fun r hr => by
      rw [hB, beq_iff_eq, ByteArray.toList_eq, ByteArray.toList_eq, ext_take'', hr, hz2, List.take_left]
    have HB := hide hB.symm
    clear hB hz1 hz2
    go_enter Try.func163, Try.ntmps163
    go_wp2_with (with_reducible show wpList _ _ _ (⟨_, Op.binOp BinOp.eql _ _ _ _, _, _, _, _⟩ :: _) _ _; refine wpl_eqs rfl _ _ rfl rfl rfl HB.out ?_)
    go_ret
    exact ⟨⟨B, rfl, HK.out⟩, b⟩
  · have c1 : decide ((t.size : Int) ≤ (s.size : Int)) = false := decide_eq_false (by omega)
    have HK : Hid (∀ r, s.data.toList = t.data.toList ++ r → false = true) := fun r hr => by
      have := congrArg List.length hr
      rw [List.length_append] at this
      omega
    clear hz1 hz2
    go_enter Try.func163, Try.ntmps163
    go_wp2_with fail
    go_ret
    exact ⟨⟨false, rfl, HK.out⟩, b⟩
theorem mul_room {m p k : Nat} (hm : m < 128 ^ k) (hp : p < 128) (hk : k < 10) (h : ¬ (k = 9 ∧ 1 < p)) : p * 128 ^ k < 18446744073709551616 ∧ m + p * 128 ^ k < 18446744073709551616 := by
  by_cases h9 : k = 9
  · subst h9
    have e : (128 : Nat) ^ 9 = 9223372036854775808 := by decide
    rw [e] at hm ⊢
    have : p = 0 ∨ p = 1 := by omega
    rcases this with rfl | rfl <;> omega
  · have e : (128 : Nat) ^ k ≤ 128 ^ 8 := Nat.pow_le_pow_right (by decide) (by omega)
    have e8 : (128 : Nat) ^ 8 = 72057594037927936 := by decide
    have e2 : p * 128 ^ k ≤ 127 * 128 ^ 8 := Nat.mul_le_mul (by omega) e
    rw [e8] at e e2
    omega
set_option maxRecDepth 100000 in
set_option maxHeartbeats 800000 in
theorem refTake_any (s : ByteArray) (w : World) (hs : s.size ≤ 1099511627776) :
    Calls Try.prog 124 #[.string s] w fun e w' => (∃ c : Int, e = .returned (.tuple #[.int .u64 (takeV s.data.toList).1, .int .i64 (takeV s.data.toList).2, .int .i64 c]) ∧ (c = 0 ↔ (takeO s.data.toList).isSome = true)) ∧ Below w.heap.size w w' := by
  obtain ⟨T, hT⟩ : ∃ T, T = takeO s.data.toList := ⟨_, rfl⟩
  unfold takeV
  rw [← hT]
  have b := Below.refl w.heap.size w
  have hz : s.data.toList.length = s.size := by simp
  have HBG := hide (fun (n : Nat) (w : World) (h : (putL n).length ≤ 1099511627776) => begins_any s ⟨(putL n).toArray⟩ w hs (by show (putL n).toArray.size ≤ _; rw [List.size_toArray]; exact h))
  have hbl : ∀ n r, s.data.toList = putL n ++ r → s.data.toList = (⟨(putL n).toArray⟩ : ByteArray).data.toList ++ r := fun n r h => h
  generalize hl : s.data.toList = l at *
  have HB : Hid (∀ k (h : k < s.size), ((s[k]'h).toNat : Int) = ((l.getD k 0).toNat : Int)) := fun k h => by rw [← hl]; exact byte_at s k h
  have HZ := hide hz
  have HT := hide hT
  unfold takeO at HT
  clear hl hz hT hbl
  go_enter Try.func124, Try.ntmps124
  go_wp2_with fail
  go_loopw [5, 6, 7] (fun n t i wr => ∃ k m : Nat, n = .int .u64 m ∧ t = .int .u64 ((128 ^ k : Nat) : Int) ∧ i = .int .i64 k ∧ k ≤ 9 ∧ k ≤ s.size ∧ PreR l k m ∧ Hid (T = takeF l (10 - k) k m) ∧ Below w.heap.size w wr) (fun _ _ i _ => 10 - (RowKit.intOf i).toNat)
  case atStart => exact ⟨0, 0, rfl, rfl, rfl, by omega, Nat.zero_le _, pre_start l, HT, b⟩
  case round =>
    clear HT b
    obtain ⟨k, m, rfl, rfl, rfl, hk, hkz, hpre, HT, b⟩ := hrel
    have hT := HT.out
    rw [show 10 - k = (9 - k) + 1 by omega, takeF] at hT
    clear HT
    by_cases hks : k < s.size
    · have e1 := HB.out k hks
      have hz := HZ.out
      have hkl : k < l.length := by omega
      rw [if_neg (by omega)] at hT
      have hend := pre_end hpre (by omega) hkl
      have hnext := fun h1 h2 => pre_next hpre h1 hkl h2
      have hzero := pre_zero hpre
      obtain ⟨hm, -⟩ := hpre
      generalize l.getD k 0 = c at *
      have hc2 := c.toNat_lt
      obtain ⟨p, hp⟩ : ∃ p, p = c.toNat % 128 := ⟨_, rfl⟩
      have hp1 : p < 128 := by omega
      rw [← hp] at hT hend hnext
      have k10 : k < 10 := by omega
      have HPC := hide hp
      clear hp
      have hkl2 := hide hkl
      clear hz hkl
      have hmw := mul_whole p k hp1 k10
      have x1 : ((c.toNat : Int) % 128) = (p : Int) := by have := HPC.out; omega
      have x2 : IntKind.u64.wrap (p : Int) = (p : Int) := by rw [IntKind.wrap_u64]; omega
      have tp : 0 < (128 : Nat) ^ k := Nat.pow_pos (by decide)
      have tl : (128 : Nat) ^ k ≤ 9223372036854775808 := by
        have : (128 : Nat) ^ k ≤ 128 ^ 9 := Nat.pow_le_pow_right (by decide) hk
        have e9 : (128 : Nat) ^ 9 = 9223372036854775808 := by decide
        omega
      by_cases hov : k = 9 ∧ 1 < p
      · rw [if_pos ⟨by omega, by have := HPC.out; omega⟩] at hT
        have hne : ¬ p * 128 ^ k % 18446744073709551616 / 128 ^ k = p := fun h => (hmw.1 h) hov
        generalize (128 : Nat) ^ k = t at *
        have w1 : IntKind.u64.wrap ((p : Int) * (t : Int)) = ((p * t % 18446744073709551616 : Nat) : Int) := by rw [IntKind.wrap_u64, Int.natCast_emod, Int.natCast_mul]; rfl
        have hz64 : p * t % 18446744073709551616 < 18446744073709551616 := Nat.mod_lt _ (by decide)
        generalize p * t % 18446744073709551616 = z at *
        have w2 : (z : Int) / (t : Int) = ((z / t : Nat) : Int) := by rw [Int.natCast_ediv]
        have w4 : Int.tdiv (z : Int) (t : Int) = ((z / t : Nat) : Int) := by rw [Int.tdiv_eq_ediv_of_nonneg (by omega), w2]
        have z1 : z / t ≤ z := Nat.div_le_self _ _
        have z2 : z < 18446744073709551616 := hz64
        generalize z / t = y at *
        have w5 : IntKind.u64.wrap (y : Int) = (y : Int) := by rw [IntKind.wrap_u64]; omega
        have w3 : ((y : Int) != (p : Int)) = true := by rw [bne_iff_ne]; omega
        have t0 : ((t : Int) == 0) = false := by rw [beq_eq_false_iff_ne]; omega
        subst hT
        clear hmw hend hnext hzero z1 hne hov
        go_wp2_with fail
        go_ret3
        exact ⟨⟨6, rfl, by simp⟩, b⟩
      · obtain ⟨r1, r2⟩ := mul_room hm hp1 k10 hov
        have hq : p * 128 ^ k / 128 ^ k = p := Nat.mul_div_cancel _ tp
        have tn : 128 ^ k * 128 = (128 : Nat) ^ (k + 1) := by rw [Nat.pow_succ]
        clear hmw
        have t9 : k < 9 → (128 : Nat) ^ k * 128 < 18446744073709551616 := fun h => by
          have : (128 : Nat) ^ k ≤ 128 ^ 8 := Nat.pow_le_pow_right (by decide) (by omega)
          have e8 : (128 : Nat) ^ 8 = 72057594037927936 := by decide
          omega
        generalize hz0 : p * 128 ^ k = z at *
        generalize (128 : Nat) ^ k = t at *
        have w1 : IntKind.u64.wrap ((p : Int) * (t : Int)) = (z : Int) := by rw [IntKind.wrap_u64, ← hz0]; push_cast; rw [← hz0] at r1; push_cast at r1; omega
        have w2 : (z : Int) / (t : Int) = (p : Int) := by rw [← Int.natCast_ediv, hq]
        have w4 : Int.tdiv (z : Int) (t : Int) = (p : Int) := by rw [Int.tdiv_eq_ediv_of_nonneg (by omega), w2]
        have w6 : IntKind.u64.wrap ((m : Int) + (z : Int)) = ((m + z : Nat) : Int) := by rw [IntKind.wrap_u64]; omega
        have t0 : ((t : Int) == 0) = false := by rw [beq_eq_false_iff_ne]; omega
        by_cases h128 : c.toNat < 128
        · have c1 : decide ((c.toNat : Int) < 128) = true := decide_eq_true (by omega)
          rw [if_neg (by have := HPC.out; omega), if_pos h128] at hT
          by_cases h0 : c.toNat = 0 ∧ 0 < k
          · rw [if_pos h0] at hT
            have hp0 : p = 0 := by have := HPC.out; omega
            clear HPC
            subst hp0
            obtain rfl : z = 0 := by rw [← hz0]; simp
            have hlen := hzero h0.2
            have HPT := hide (fun w => refPut_lit m m w rfl (by omega))
            have HBGM := hide (fun w => HBG.out m w (by omega))
            have hsz : (⟨(putL m).toArray⟩ : ByteArray).size ≤ k := by show (putL m).toArray.size ≤ k; rw [List.size_toArray]; exact hlen
            generalize (⟨(putL m).toArray⟩ : ByteArray) = sp at *
            have c2 : ((sp.size : Int) != (k : Int) + 1) = true := by rw [bne_iff_ne]; omega
            subst hT
            clear hend hnext hzero hlen HBG h0 h128 hq hov r1 r2
            go_wp2_with (first | (go_at_call 163; refine (HBGM.out _).mono ?_; rintro _ _ ⟨⟨B, rfl, -⟩, hc⟩; replace b := later b hc; clear hc; cases B) | (go_at_call 113; refine (HPT.out _).mono ?_; rintro _ _ ⟨rfl, hc⟩; (try replace F1 := F1.later hc); (try replace F2 := F2.later hc); (try replace F3 := F3.later hc); (try replace F4 := F4.later hc); (try replace F5 := F5.later hc); (try replace F6 := F6.later hc); (try replace F7 := F7.later hc); (try replace F8 := F8.later hc); (try replace F9 := F9.later hc); (try replace G1 := G1.later hc); (try replace G2 := G2.later hc); (try replace G3 := G3.later hc); (try replace z := z.later hc); (try replace b := later b hc); (try replace bB := mixed hB bB hc); clear hc))
            all_goals
              go_ret3
              exact ⟨⟨6, rfl, by simp⟩, b⟩
          · rw [if_neg h0] at hT
            have hput := hend h128 h0
            have hlen : (putL (m + z)).length = k + 1 := by rw [hput, List.length_take]; have := hkl2.out; omega
            have HPT := hide (fun w => refPut_lit ((m + z : Nat) : Int) (m + z) w rfl r2)
            have HBGM : Hid (∀ w, Calls Try.prog 163 #[.string s, .string ⟨(putL (m + z)).toArray⟩] w fun e w' => e = .returned (.bool true) ∧ Below w.heap.size w w') := fun w => (HBG.out (m + z) w (by omega)).mono fun e w' ⟨⟨B, h1, h2⟩, h3⟩ => ⟨by rw [h1, h2 (l.drop (k + 1)) (by show l = putL (m + z) ++ _; rw [hput, List.take_append_drop])], h3⟩
            have hsz : (⟨(putL (m + z)).toArray⟩ : ByteArray).size = k + 1 := by show (putL (m + z)).toArray.size = k + 1; rw [List.size_toArray]; exact hlen
            generalize (⟨(putL (m + z)).toArray⟩ : ByteArray) = sp at *
            have c2 : ((sp.size : Int) != (k : Int) + 1) = false := by rw [hsz]; simp
            subst hT
            clear hend hnext hzero hlen HBG h0 h128 hq hov r1 hput
            go_wp2_with (first | (go_at_call 163; refine (HBGM.out _).mono ?_; rintro _ _ ⟨rfl, hc⟩; (try replace F1 := F1.later hc); (try replace F2 := F2.later hc); (try replace F3 := F3.later hc); (try replace F4 := F4.later hc); (try replace F5 := F5.later hc); (try replace F6 := F6.later hc); (try replace F7 := F7.later hc); (try replace F8 := F8.later hc); (try replace F9 := F9.later hc); (try replace G1 := G1.later hc); (try replace G2 := G2.later hc); (try replace G3 := G3.later hc); (try replace z := z.later hc); (try replace b := later b hc); (try replace bB := mixed hB bB hc); clear hc) | (go_at_call 113; refine (HPT.out _).mono ?_; rintro _ _ ⟨rfl, hc⟩; (try replace F1 := F1.later hc); (try replace F2 := F2.later hc); (try replace F3 := F3.later hc); (try replace F4 := F4.later hc); (try replace F5 := F5.later hc); (try replace F6 := F6.later hc); (try replace F7 := F7.later hc); (try replace F8 := F8.later hc); (try replace F9 := F9.later hc); (try replace G1 := G1.later hc); (try replace G2 := G2.later hc); (try replace G3 := G3.later hc); (try replace z := z.later hc); (try replace b := later b hc); (try replace bB := mixed hB bB hc); clear hc))
            go_ret3
            exact ⟨⟨0, by simp, by simp⟩, b⟩
        · have c1 : decide ((c.toNat : Int) < 128) = false := decide_eq_false (by omega)
          by_cases h9 : k = 9
          · rw [if_pos ⟨by omega, by have := HPC.out; omega⟩] at hT
            have c3 : ((k : Int) == 9) = true := by rw [beq_iff_eq]; omega
            subst hT
            clear hend hnext hzero hq r1 hov h9 t9 tn
            go_wp2_with fail
            go_ret3
            exact ⟨⟨6, rfl, by simp⟩, b⟩
          · rw [if_neg (by omega), if_neg h128] at hT
            have c3 : ((k : Int) == 9) = false := by rw [beq_eq_false_iff_ne]; omega
            have HP := hide (hnext (by omega) (by omega))
            have HT : Hid (T = takeF l (10 - (k + 1)) (k + 1) (m + z)) := by rw [show 10 - (k + 1) = 9 - k by omega]; exact hT
            have w7 : IntKind.u64.wrap ((t : Int) * 128) = ((t * 128 : Nat) : Int) := by have := t9 (by omega); rw [IntKind.wrap_u64]; omega
            have TN := hide tn
            clear hend hnext hzero hq hT tn t9 r1 hov
            go_wp2_with fail
            go_roundw
            case rel => exact ⟨k + 1, m + z, by simp, by rw [← TN.out]; simp, by simp, by omega, by omega, HP.out, HT, b⟩
            case measure => simp [RowKit.intOf]; omega
    · rw [if_pos (by have := HZ.out; omega)] at hT
      subst hT
      have c1 : decide ((k : Int) < (s.size : Int)) = false := decide_eq_false (by omega)
      go_wp2_with fail
      go_ret3
      exact ⟨⟨10, rfl, by simp⟩, b⟩
end Go.Proofs.Ytbbfnpfkbbpjgaa

/- Bytes in memory turned into a string, as a step. -/
namespace Go.Proofs.Ytbbfnpfkbbpjgaa
open Go.RowKit Go.Lib
set_option linter.unusedVariables false
set_option linter.unusedSimpArgs false

theorem conv_cells {w : World} {g k : Nat} {l : List UInt8} (h : Cells w g k (bvs l)) {n : Nat} (cap : Nat) (hn : l.length = n) : (convert 63 9 (.slice (some ⟨g, k, none⟩) n cap)).run Try.prog w = .ok (.string ⟨l.toArray⟩) w := by
  subst hn
  refine run_convert_bytes_back w _ _ 5 ⟨g, k, none⟩ cap l Try.underlying63 Try.underlying5 Try.underlying9 (fun j hj => ?_)
  rw [Cells.add]
  exact h j _ (by unfold bvs; rw [List.getElem?_map, List.getElem?_eq_getElem hj]; rfl)
section
variable {ops : Array Oper} {rest : List Oper} {o : Oper} {a : Act} {w w0 : World} {Q : Exit → Act → World → Prop} {K : Act → Prop} {g k n cap : Nat} {l : List UInt8}
end
end Go.Proofs.Ytbbfnpfkbbpjgaa
