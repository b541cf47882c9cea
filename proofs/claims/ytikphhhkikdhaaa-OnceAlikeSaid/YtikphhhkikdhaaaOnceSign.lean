/- Package once: Sign. -/
import Derived.Test.YtikphhhkikdhaaaOncePublic
namespace Go.Proofs.Ytikphhhkikdhaaa
open Go.RowKit Go.Lib

/-- What a signature tells of a place: the secret of the message's bit, the mark of the other. -/
def signM (seed m : List UInt8) (i : Nat) : List UInt8 × List UInt8 := (secretL seed i (bitL m i), markL (secretL seed i (1 - bitL m i)))
theorem signM_length (seed m : List UInt8) (i : Nat) : (signM seed m i).1.length = 32 ∧ (signM seed m i).2.length = 32 := ⟨secretL_length _ _ _, markL_length _⟩
def signL (seed m : List UInt8) : List UInt8 := joinM (signM seed m) 16
theorem signL_length (seed m : List UInt8) : (signL seed m).length = 1024 := joinM_length _ (signM_length seed m) 16
theorem below3' (w : World) (a b c : Obj) : Below w.heap.size w (((w.alloc a).alloc b).alloc c) := later (below2 w a b) (below1 _ c)

set_option maxRecDepth 100000 in
set_option maxHeartbeats 3200000 in
theorem sign_any (seed m : List UInt8) (hl : seed.length = 32) (hml : m.length = 32) (w : World) :
    Calls Try.prog 18 #[hv seed, hv m] w fun e w' => e = .returned (.string ⟨(signL seed m).toArray⟩) ∧ Below w.heap.size w w' := by
  obtain ⟨W0, hW0⟩ : ∃ W0, W0 = (w.alloc (.cells (bvs seed).toArray 23)).alloc (.cells (bvs m).toArray 23) := ⟨_, rfl⟩
  have hA : HashAt (W0.alloc (.cells #[.pointer none, .slice none 0 0] 55)) w.heap.size seed := by rw [hW0]; exact HashAt.alloc (HashAt.alloc (HashAt.new w seed hl) _) _
  have hM : HashAt (W0.alloc (.cells #[.pointer none, .slice none 0 0] 55)) (w.heap.size + 1) m := by rw [hW0]; exact HashAt.alloc (HashAt.new2 w _ m hml) _
  have hb : Below w.heap.size w (W0.alloc (.cells #[.pointer none, .slice none 0 0] 55)) := by rw [hW0]; exact below3' w _ _ _
  have hz0 : W0.heap.size = w.heap.size + 2 := by rw [hW0]; simp
  have hbu : Lib.IsBuilder 55 5 (w.heap.size + 2) (w.heap.size + 2) (Lib.byteCells (joinM (signM seed m) 0)) (W0.alloc (.cells #[.pointer none, .slice none 0 0] 55)) := by
    rw [← hz0]
    refine Or.inl ⟨by omega, .slice none 0 0, ?_, World.ownsRow_nil _ _ _ _, by simp [Value.ownBlock]⟩
    exact Arr.new W0 [.pointer none, .slice none 0 0] 55
  have hW : w.heap.size + 2 ≤ (W0.alloc (.cells #[.pointer none, .slice none 0 0] 55)).heap.size := by simp [hz0]
  obtain ⟨R, hR⟩ : ∃ R, R = signL seed m := ⟨_, rfl⟩
  rw [← hR]
  have HR := hide hR
  have HL := hide hl
  have HML := hide hml
  clear hR hl hml
  unfold hv
  go_enter Try.func18, Try.ntmps18
  go_wp2_with fail
  rw [← hW0]
  clear hW0 hz0
  generalize W0.alloc (.cells #[.pointer none, .slice none 0 0] 55) = W at *
  go_loopw [8] (fun i wr => ∃ k : Nat, k ≤ 16 ∧ i = .int .i64 k ∧ Lib.IsBuilder 55 5 (w.heap.size + 2) (w.heap.size + 2) (Lib.byteCells (joinM (signM seed m) k)) wr ∧ HashAt wr w.heap.size seed ∧ HashAt wr (w.heap.size + 1) m ∧ w.heap.size + 2 ≤ wr.heap.size ∧ Below w.heap.size w wr) (fun i _ => 16 - (RowKit.intOf i).toNat)
  case atStart => exact ⟨0, by omega, rfl, hbu, hA, hM, hW, hb⟩
  case round =>
    obtain ⟨k, hk, rfl, qb, qA, qM, qs, qw⟩ := hrel
    clear hbu hA hM hW hb
    by_cases hlt : k < 16
    · have HB := hide (fun w => bit_any m k HML.out hlt w)
      have HS := hide (fun (b : Nat) (w : World) (hb : b < 2) => secret_any seed k b HL.out hlt hb w)
      have HMK := hide (fun w => mark_any (secretL seed k (1 - bitL m k)) (by rw [secretL_length]; omega) w)
      have HSL := hide (secretL_length seed k (bitL m k))
      have HKL := hide (markL_length (secretL seed k (1 - bitL m k)))
      have hj := joinM_length (signM seed m) (signM_length seed m) k
      have hs := joinM_succ (signM seed m) k
      have HSU : Hid (joinM (signM seed m) (k + 1) = joinM (signM seed m) k ++ secretL seed k (bitL m k) ++ markL (secretL seed k (1 - bitL m k))) := hs
      have HJ := hide hj
      clear hs hj
      have hbl := bitL_lt m k
      generalize bitL m k = b at *
      have HS0 := hide (fun w => HS.out b w hbl)
      have HS1 : Hid (∀ w, Calls Try.prog 41 #[hv seed, .int .i64 k, .int .i64 (1 - (b : Int))] w fun e w' => e = .returned (.string ⟨(secretL seed k (1 - b)).toArray⟩) ∧ Below w.heap.size w w') := by
        intro w
        have := HS.out (1 - b) w (by omega)
        rwa [show ((1 - b : Nat) : Int) = 1 - (b : Int) by omega] at this
      clear HS
      generalize secretL seed k b = s0 at *
      generalize markL (secretL seed k (1 - b)) = s1 at *
      generalize secretL seed k (1 - b) = s2 at *
      go_wp2_with (refine wpl_load_hash rfl _ rfl rfl qM ?_)
      refine (HB.out _).mono ?_
      rintro _ w3 ⟨rfl, hb3⟩
      have qb3 := builder_later qb hb3
      have qA3 := qA.later hb3
      have qM3 := qM.later hb3
      have qw3 := later qw hb3
      have qs3 : w.heap.size + 2 ≤ w3.heap.size := by have := hb3.size; omega
      clear qb qA qM qw qs hb3
      go_wp2_with (refine wpl_load_hash rfl _ rfl rfl qA3 ?_)
      refine (HS0.out _).mono ?_
      rintro _ w4 ⟨rfl, hb4⟩
      have qb4 := builder_later qb3 hb4
      have qA4 := qA3.later hb4
      have qM4 := qM3.later hb4
      have qw4 := later qw3 hb4
      have qs4 : w.heap.size + 2 ≤ w4.heap.size := by have := hb4.size; omega
      clear qb3 qA3 qM3 qw3 qs3 hb4
      go_wp2_with fail
      refine (writeString _ _ _ ⟨s0.toArray⟩ _ qb4 (by have := HJ.out; have h0 := HSL.out; rw [Lib.byteCells_length]; show _ + s0.length ≤ _; omega) (by omega)).mono ?_
      rintro _ w5 ⟨rfl, b5, hb5⟩
      have qA5 := qA4.below hb5 (by omega)
      have qM5 := qM4.below hb5 (by omega)
      have qw5 := qw4.trans (hb5.mono (by omega))
      have qs5 : w.heap.size + 2 ≤ w5.heap.size := by have := hb5.size; omega
      have qb5 := builder_more b5 rfl
      clear qb4 qA4 qM4 qw4 qs4 b5 hb5
      go_wp2_with (refine wpl_load_hash rfl _ rfl rfl qA5 ?_)
      refine (HS1.out _).mono ?_
      rintro _ w6 ⟨rfl, hb6⟩
      go_wp2_with fail
      refine (HMK.out _).mono ?_
      rintro _ w7 ⟨rfl, hb7⟩
      have h67 := later hb6 hb7
      have qb7 := builder_later qb5 h67
      have qA7 := qA5.later h67
      have qM7 := qM5.later h67
      have qw7 := later qw5 h67
      have qs7 : w.heap.size + 2 ≤ w7.heap.size := by have := h67.size; omega
      clear qb5 qA5 qM5 qw5 qs5 hb6 hb7 h67
      go_wp2_with fail
      refine (writeString _ _ _ ⟨s1.toArray⟩ _ qb7 (by have := HJ.out; have h0 := HSL.out; have h1 := HKL.out; rw [Lib.byteCells_length, List.length_append]; show _ + s1.length ≤ _; omega) (by omega)).mono ?_
      rintro _ w8 ⟨rfl, b8, hb8⟩
      have qA8 := qA7.below hb8 (by omega)
      have qM8 := qM7.below hb8 (by omega)
      have qw8 := qw7.trans (hb8.mono (by omega))
      have qs8 : w.heap.size + 2 ≤ w8.heap.size := by have := hb8.size; omega
      have qb8 := builder_more b8 HSU.out
      clear qb7 qA7 qM7 qw7 qs7 b8 hb8
      go_wp2_with fail
      go_roundw
      case rel => exact ⟨k + 1, by omega, by simp, qb8, qA8, qM8, qs8, qw8⟩
      case measure => simp [RowKit.intOf]; omega
    · have hkn : k = 16 := by omega
      subst hkn
      go_wp2_with fail
      refine (Try.Builder_String_any _ _ _ _ qb qs).mono ?_
      rintro _ w7 ⟨rfl, hb7⟩
      have w8 := qw.trans (hb7.mono (by omega))
      rw [show joinM (signM seed m) 16 = R from HR.out.symm]
      clear qb qw
      go_wp2_with fail
      go_ret
      exact ⟨rfl, w8⟩
end Go.Proofs.Ytikphhhkikdhaaa
