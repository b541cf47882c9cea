/- Package once: public, by the closure of Tells. -/
import Derived.Test.YtikphhhkikdhaaaOncePublic
namespace Go.Proofs.Ytikphhhkikdhaaa
open Go.RowKit Go.Lib

set_option maxRecDepth 100000 in
set_option maxHeartbeats 3200000 in
theorem public_tells (m : Nat → List UInt8 × List UInt8) (hm : ∀ i, (m i).1.length = 32 ∧ (m i).2.length = 32) (g h : Nat) (w : World) (KEEP : World → Prop) (hk1 : ∀ w', Below w.heap.size w w' → KEEP w')
    (hc0 : ∀ (i : Nat) w, i < 16 → KEEP w → Calls Try.prog 49 #[.int .i64 i, .pointer (some ⟨g, 0, none⟩), .pointer (some ⟨h, 0, none⟩)] w fun e w' => e = .returned (pairV (m i).1 (m i).2) ∧ Below w.heap.size w w') :
    Calls Try.prog 38 #[.func (.func 49) #[] #[.pointer (some ⟨g, 0, none⟩), .pointer (some ⟨h, 0, none⟩)]] w fun e w' => e = .returned (hv (onceL m)) ∧ Below w.heap.size w w' := by
  obtain ⟨R, hR⟩ : ∃ R, R = onceL m := ⟨_, rfl⟩
  rw [← hR]
  have HR := hide hR
  clear hR
  have HM := hide hm
  have HK := hide hk1
  have HC := hide hc0
  clear hm hk1 hc0
  have q0 := hide (Arr.alloc (Arr.new w (bvs zero32) 23) (.cells #[.pointer none, .slice none 0 0] 55))
  have hb := hide (below2 w (.cells (bvs zero32).toArray 23) (.cells #[.pointer none, .slice none 0 0] 55))
  have hbu : Hid (Lib.IsBuilder 55 5 (w.heap.size + 1) (w.heap.size + 1) (Lib.byteCells (joinM m 0)) ((w.alloc (.cells (bvs zero32).toArray 23)).alloc (.cells #[.pointer none, .slice none 0 0] 55))) := by
    refine Or.inl ⟨by omega, .slice none 0 0, ?_, World.ownsRow_nil _ _ _ _, by simp [Value.ownBlock]⟩
    exact Arr.new2 w (.cells (bvs zero32).toArray 23) [.pointer none, .slice none 0 0] 55
  go_enter Try.func38, Try.ntmps38
  go_wp2_with fail
  have hW : w.heap.size + 1 ≤ ((w.alloc (.cells (bvs zero32).toArray 23)).alloc (.cells #[.pointer none, .slice none 0 0] 55)).heap.size := by simp
  have hb' := hb.out
  have q0' := q0.out
  have hbu' := hbu.out
  clear hb q0 hbu
  go_loopw [7] (fun i wr => ∃ k : Nat, k ≤ 16 ∧ i = .int .i64 k ∧ Lib.IsBuilder 55 5 (w.heap.size + 1) (w.heap.size + 1) (Lib.byteCells (joinM m k)) wr ∧ Arr wr w.heap.size 23 (bvs zero32) ∧ w.heap.size + 1 ≤ wr.heap.size ∧ Below w.heap.size w wr) (fun i _ => 16 - (RowKit.intOf i).toNat)
  case atStart => exact ⟨0, by omega, rfl, hbu', q0', hW, hb'⟩
  case round =>
    obtain ⟨k, hk, rfl, qb, qo, qs, qw⟩ := hrel
    clear hbu' q0' hW hb'
    by_cases hlt : k < 16
    · have hc := HC.out k wr hlt (HK.out _ qw)
      have hj := joinM_length m HM.out k
      have hs := joinM_succ m k
      obtain ⟨hm0, hm1⟩ := HM.out k
      generalize (m k).1 = x0 at *
      generalize (m k).2 = x1 at *
      have HS := hide hs
      have HJ := hide hj
      have HX0 := hide hm0
      have HX1 := hide hm1
      clear hs hj hm0 hm1
      go_wp2_with fail
      refine hc.mono ?_
      rintro _ w3 ⟨rfl, hb3⟩
      have e1 := hb3.size
      have b4 := builder_later qb hb3
      have q4 := Arr.later qo hb3
      have w4 := qw.trans (hb3.mono qw.size)
      clear qb qo qw hc
      have qs4 : w.heap.size + 1 ≤ w3.heap.size := by omega
      clear qs hb3 e1
      unfold pairV
      go_wp2_with fail
      obtain ⟨wo, hwo⟩ : ∃ wo : World, wo = wr := ⟨_, rfl⟩
      clear hwo
      go_loopw [13] (fun i wq => ∃ j : Nat, j ≤ 2 ∧ i = .int .i64 j ∧ Lib.IsBuilder 55 5 (w.heap.size + 1) (w.heap.size + 1) (Lib.byteCells (joinM m k ++ halfM x0 x1 j)) wq ∧ Arr wq w.heap.size 23 (bvs zero32) ∧ w.heap.size + 1 ≤ wq.heap.size ∧ Below w.heap.size w wq) (fun i _ => 2 - (RowKit.intOf i).toNat)
      case atStart => exact ⟨0, by omega, rfl, by simpa [halfM] using b4, q4, qs4, w4⟩
      case round =>
        obtain ⟨j, hj, rfl, pb, po, ps, pw⟩ := hrel
        clear b4 q4 qs4 w4
        rcases (by omega : j = 0 ∨ j = 1 ∨ j = 2) with rfl | rfl | rfl
        · have ix : ∀ w, (Instr.index 47 (.agg #[.string ⟨x0.toArray⟩, .string ⟨x1.toArray⟩]) (.int .i64 0)).run Try.prog w = .ok (.string ⟨x0.toArray⟩) w := fun _ => by kernel_rfl
          go_wp2_with fail
          refine (writeString _ _ _ ⟨x0.toArray⟩ _ pb (by have := HJ.out; have h0 := HX0.out; rw [Lib.byteCells_length, List.length_append]; show _ + x0.length ≤ _; simp only [halfM, List.length_nil]; omega) (by omega)).mono ?_
          rintro _ w5 ⟨rfl, b5, hb5⟩
          have q5 := Arr.below po hb5 (by omega)
          have w6 := pw.trans (hb5.mono (by omega))
          have e2 := hb5.size
          have b6 := builder_more b5 (show joinM m k ++ halfM x0 x1 1 = _ by simp [halfM])
          have e3 : w.heap.size + 1 ≤ w5.heap.size := by omega
          clear pb po pw b5 hb5 e2
          go_wp2_with fail
          go_roundw
          case rel => exact ⟨1, by omega, by simp, b6, q5, e3, w6⟩
          case measure => simp [RowKit.intOf]
        · have ix : ∀ w, (Instr.index 47 (.agg #[.string ⟨x0.toArray⟩, .string ⟨x1.toArray⟩]) (.int .i64 1)).run Try.prog w = .ok (.string ⟨x1.toArray⟩) w := fun _ => by kernel_rfl
          go_wp2_with fail
          refine (writeString _ _ _ ⟨x1.toArray⟩ _ pb (by have := HJ.out; have h0 := HX0.out; have h1 := HX1.out; rw [Lib.byteCells_length, List.length_append]; show _ + x1.length ≤ _; simp only [halfM]; omega) (by omega)).mono ?_
          rintro _ w5 ⟨rfl, b5, hb5⟩
          have q5 := Arr.below po hb5 (by omega)
          have w6 := pw.trans (hb5.mono (by omega))
          have e2 := hb5.size
          have b6 := builder_more b5 (show joinM m k ++ halfM x0 x1 2 = _ by simp [halfM])
          have e3 : w.heap.size + 1 ≤ w5.heap.size := by omega
          clear pb po pw b5 hb5 e2
          go_wp2_with fail
          go_roundw
          case rel => exact ⟨2, by omega, by simp, b6, q5, e3, w6⟩
          case measure => simp [RowKit.intOf]
        · go_wp2_with fail
          have b6 : Lib.IsBuilder 55 5 (w.heap.size + 1) (w.heap.size + 1) (Lib.byteCells (joinM m (k + 1))) wr := by
            rw [HS.out, List.append_assoc]; exact pb
          go_roundw
          case rel => exact ⟨k + 1, by omega, by simp, b6, po, ps, pw⟩
          case measure => simp [RowKit.intOf]; omega
    · have hkn : k = 16 := by omega
      subst hkn
      have HJ := hide (joinM_length m HM.out 16)
      obtain ⟨all, hall⟩ : ∃ all, all = joinM m 16 := ⟨_, rfl⟩
      rw [← hall] at qb HJ
      have HRA : Hid (R = ofX tagOnce [all]) := by rw [HR.out, hall]; rfl
      clear hall
      go_wp2_with fail
      refine (Try.Builder_String_any _ _ _ _ qb qs).mono ?_
      rintro _ w7 ⟨rfl, hb7⟩
      have q7 := Arr.below qo hb7 (by omega)
      have w8 := qw.trans (hb7.mono (by omega))
      clear qb qo qw
      go_wp2_with fail
      refine (of1 tagOnce all _ (by decide) (by have := HJ.out; omega)).mono ?_
      rintro _ w9 ⟨rfl, hb9⟩
      have q9 := hide (Arr.later q7 hb9)
      have w10 := w8.trans (hb9.mono w8.size)
      have hlR : R.length = 32 := by rw [HRA.out]; exact ofX_length _ _
      have e : hv (ofX tagOnce [all]) = hv R := by rw [HRA.out]
      rw [e]
      clear e
      have y1 := hide (Arr.row q9.out (bvs R))
      have y2 := hide (below_setRow w10 (Nat.le_refl w.heap.size) (bvs R).toArray)
      have hz : HashAt w9 w.heap.size zero32 := ⟨rfl, q9.out⟩
      have HLR := hide hlR
      clear q7 w8 hb9 w10 hlR
      go_wp2_with (refine wpl_store_hash rfl _ _ rfl rfl rfl HLR.out hz ?_)
      exact bodyPost_ret (v := hv R) (ret_hash rfl _ _ rfl ⟨HLR.out, y1.out⟩) rfl ⟨rfl, y2.out⟩
end Go.Proofs.Ytikphhhkikdhaaa
