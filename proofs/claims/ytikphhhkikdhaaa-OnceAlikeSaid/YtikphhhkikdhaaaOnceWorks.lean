/- The small things that the laws of layer 5 ask first. -/
import Derived.Test.YtikphhhkikdhaaaOnceLaw
import Derived.Test.YtikphhhkikdhaaaOnceCheck
import Derived.Test.YtikphhhkikdhaaaOnceCheck2
namespace Go.Proofs.Ytikphhhkikdhaaa
open Go.RowKit Go.Lib

def one32 : List UInt8 := 1 :: List.replicate 31 0
def two32 : List UInt8 := 2 :: List.replicate 31 0
theorem built_one : Try.prog.built 23 [(0, .int .u8 1)] = some (bvs one32).toArray := by kernel_rfl
theorem built_two : Try.prog.built 23 [(0, .int .u8 2)] = some (bvs two32).toArray := by kernel_rfl

set_option maxRecDepth 100000 in
set_option maxHeartbeats 800000 in
theorem works05 (w : World) : Calls Try.prog 21 #[] w fun e w' => e = .returned (.bool true) ∧ Below w.heap.size w w' := by
  have l1 : one32.length = 32 := rfl
  have l2 : two32.length = 32 := rfl
  obtain ⟨P, hP⟩ : ∃ P, P = publicL one32 := ⟨_, rfl⟩
  obtain ⟨S, hS⟩ : ∃ S : ByteArray, S = ⟨(signL one32 two32).toArray⟩ := ⟨_, rfl⟩
  have hsz : S.size = 1024 := by rw [hS]; exact signL_length _ _
  have hPl : P.length = 32 := by rw [hP]; exact publicL_length _
  have hTP : tellsL two32 S = P := by rw [hS, hP]; exact tells_sign _ _
  have HSg : Hid (∀ w, Calls Try.prog 18 #[hv one32, hv two32] w fun e w' => e = .returned (.string S) ∧ Below w.heap.size w w') := fun w => by rw [hS]; exact sign_any _ _ l1 l2 w
  have HPk : Hid (∀ w, Calls Try.prog 16 #[hv one32] w fun e w' => e = .returned (hv P) ∧ Below w.heap.size w w') := fun w => by rw [hP]; exact publicKey_any _ l1 w
  have HC0 : Hid (∀ w, Calls Try.prog 22 #[hv P, hv two32, .string S] w fun e w' => e = .returned (.bool true) ∧ Below w.heap.size w w') := fun w => by
    have := check_any P two32 S hPl l2 hsz w
    rwa [hTP, decide_eq_true rfl] at this
  have HC1 : Hid (∀ w, Calls Try.prog 22 #[hv P, hv two32, .string ⟨#[]⟩] w fun e w' => e = .returned (.bool false) ∧ Below w.heap.size w w') := fun w => check_bad P two32 _ hPl l2 (by decide) w
  have d2 : ((S.size : Int) == 1024) = true := by simp [hsz]
  have b0 := Below.refl w.heap.size w
  clear hP hS hsz hPl hTP l1 l2
  go_enter Try.func21, Try.ntmps21
  go_wp2_with (first | (refine wpl_build rfl 23 _ rfl (bvs one32).toArray (by simpa using built_one) ?_) | (refine wpl_build rfl 23 _ rfl (bvs two32).toArray (by simpa using built_two) ?_))
  refine (HSg.out _).mono ?_
  rintro _ wc1 ⟨rfl, hc1⟩
  replace b0 := later b0 hc1
  clear hc1
  go_wp2_with (first | (refine wpl_build rfl 23 _ rfl (bvs one32).toArray (by simpa using built_one) ?_) | (refine wpl_build rfl 23 _ rfl (bvs two32).toArray (by simpa using built_two) ?_))
  refine (HPk.out _).mono ?_
  rintro _ wc2 ⟨rfl, hc2⟩
  replace b0 := later b0 hc2
  clear hc2
  go_wp2_with (first | (refine wpl_build rfl 23 _ rfl (bvs one32).toArray (by simpa using built_one) ?_) | (refine wpl_build rfl 23 _ rfl (bvs two32).toArray (by simpa using built_two) ?_))
  refine (HC0.out _).mono ?_
  rintro _ wc3 ⟨rfl, hc3⟩
  replace b0 := later b0 hc3
  clear hc3
  go_wp2_with (first | (refine wpl_build rfl 23 _ rfl (bvs one32).toArray (by simpa using built_one) ?_) | (refine wpl_build rfl 23 _ rfl (bvs two32).toArray (by simpa using built_two) ?_))
  refine (HPk.out _).mono ?_
  rintro _ wc4 ⟨rfl, hc4⟩
  replace b0 := later b0 hc4
  clear hc4
  go_wp2_with (first | (refine wpl_build rfl 23 _ rfl (bvs one32).toArray (by simpa using built_one) ?_) | (refine wpl_build rfl 23 _ rfl (bvs two32).toArray (by simpa using built_two) ?_))
  refine (HC1.out _).mono ?_
  rintro _ wc5 ⟨rfl, hc5⟩
  replace b0 := later b0 hc5
  clear hc5
  go_wp2_with fail
  go_ret
  exact ⟨rfl, b0⟩

/-- What Tells hands back, whatever the text. -/
def tellsR (m : List UInt8) (sig : ByteArray) : List UInt8 × Int := if sig.size = 1024 then (tellsL m sig, 0) else (zero32, 6)
theorem tellsR_length (m : List UInt8) (sig : ByteArray) : (tellsR m sig).1.length = 32 := by unfold tellsR; split; exact tellsL_length _ _; rfl
theorem tells_all (m : List UInt8) (sig : ByteArray) (hl : m.length = 32) (w : World) :
    Calls Try.prog 20 #[hv m, .string sig] w fun e w' => e = .returned (.tuple #[hv (tellsR m sig).1, .int .i64 (tellsR m sig).2]) ∧ Below w.heap.size w w' := by
  unfold tellsR
  by_cases h : sig.size = 1024
  · rw [if_pos h]; exact tells_any m sig hl h w
  · rw [if_neg h]; exact tells_bad m sig h w
def checkR (p m : List UInt8) (sig : ByteArray) : Bool := decide (sig.size = 1024) && decide (tellsL m sig = p)
theorem check_all (p m : List UInt8) (sig : ByteArray) (hp : p.length = 32) (hl : m.length = 32) (w : World) :
    Calls Try.prog 22 #[hv p, hv m, .string sig] w fun e w' => e = .returned (.bool (checkR p m sig)) ∧ Below w.heap.size w w' := by
  unfold checkR
  by_cases h : sig.size = 1024
  · rw [decide_eq_true h, Bool.true_and]; exact check_any p m sig hp hl h w
  · rw [decide_eq_false h, Bool.false_and]; exact check_bad p m sig hp hl h w
/-- Only the first two bytes of a message count. -/
theorem bitL_two (a b : List UInt8) (h0 : a.getD 0 0 = b.getD 0 0) (h1 : a.getD 1 0 = b.getD 1 0) (i : Nat) (hi : i < 16) : bitL a i = bitL b i := by
  unfold bitL
  rcases (by omega : i / 8 = 0 ∨ i / 8 = 1) with h | h <;> rw [h]
  · rw [h0]
  · rw [h1]
theorem tellsR_two (a b : List UInt8) (sig : ByteArray) (h0 : a.getD 0 0 = b.getD 0 0) (h1 : a.getD 1 0 = b.getD 1 0) : tellsR a sig = tellsR b sig := by
  unfold tellsR tellsL onceL
  rw [joinM_congr (tellM a sig) (tellM b sig) (fun i hi => by unfold tellM; rw [bitL_two a b h0 h1 i hi])]
theorem signL_two (seed a b : List UInt8) (h0 : a.getD 0 0 = b.getD 0 0) (h1 : a.getD 1 0 = b.getD 1 0) : signL seed a = signL seed b := by
  unfold signL
  exact joinM_congr _ _ (fun i hi => by unfold signM; rw [bitL_two a b h0 h1 i hi])
end Go.Proofs.Ytikphhhkikdhaaa
