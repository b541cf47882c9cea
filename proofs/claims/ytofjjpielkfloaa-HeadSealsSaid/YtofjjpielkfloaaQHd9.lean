/- The small things that the laws of layer 14 ask first: what is told of the sealed head. -/
import Derived.Test.YtofjjpielkfloaaQHd8
namespace Go.Proofs.Ytofjjpielkfloaa
open Go.RowKit Go.Lib
set_option linter.unusedVariables false
set_option linter.unusedSimpArgs false

theorem keyF_whole (d p : Nat) : ∀ (n : Nat) (s : List UInt8), s.length = 32 → (keyF d p n s).2.2.length = 32 ∧ (∀ x ∈ (keyF d p n s).1, x.length = 32) ∧ ∀ x ∈ (keyF d p n s).2.1, x.length = 32
  | 0, s, h => ⟨h, (fun x hx => by simp [keyF] at hx), (fun x hx => by simp [keyF] at hx)⟩
  | n + 1, s, h => by
    rw [keyF]
    split
    · obtain ⟨h1, h2, h3⟩ := keyF_whole d p n (rightL s) (rightL_length s)
      refine ⟨h1, fun x hx => ?_, fun x hx => ?_⟩
      · rcases List.mem_cons.1 hx with rfl | hx
        · rfl
        · exact h2 x hx
      · rcases List.mem_cons.1 hx with rfl | hx
        · exact pubE_length _ _
        · exact h3 x hx
    · obtain ⟨h1, h2, h3⟩ := keyF_whole d p n (leftL s) (leftL_length s)
      refine ⟨h1, fun x hx => ?_, fun x hx => ?_⟩
      · rcases List.mem_cons.1 hx with rfl | hx
        · exact rightL_length _
        · exact h2 x hx
      · rcases List.mem_cons.1 hx with rfl | hx
        · exact pubE_length _ _
        · exact h3 x hx
theorem keyE_whole (d p : Nat) (s : List UInt8) (h : s.length = 32) : Whole (keyE d p s) := keyF_whole d p d s h
theorem may3 : mayE (keyE 3 0 one32) = true := mayE_key 3 0 one32 (by decide) (by decide)
theorem whole3 : Whole (keyE 3 0 one32) := keyE_whole 3 0 one32 rfl
theorem pub3 : pubK (keyE 3 0 one32) = p14 := pubK_key 3 0 one32 (by decide) (by decide)
theorem r14_size : r14.sig.size = 1024 := by
  show (signL two32 _).toArray.size = 1024
  rw [List.size_toArray, signL_length]
theorem seal14 : sealH h14 (keyE 3 0 one32) = ({ h14 with sig := ⟨(sigK (keyE 3 0 one32) (textL h14)).toArray⟩ }, 0) := by
  unfold sealH
  exact if_pos ⟨r14_size, rfl, may3⟩
theorem s14_is : s14 = { h14 with sig := ⟨(sigK (keyE 3 0 one32) (textL h14)).toArray⟩ } := by unfold s14; rw [seal14]
theorem s14_ok : s14.Ok := by
  rw [s14_is]
  exact ⟨h14_ok.slot, h14_ok.number, h14_ok.prev, h14_ok.pool, h14_ok.body, h14_ok.size, h14_ok.many, h14_ok.right⟩
theorem may14 : mayH s14 = true := by
  have hz := sig_size (textL h14) whole3 may3
  have hk : (keyE 3 0 one32).d = 3 := rfl
  rw [hk] at hz
  rw [s14_is]
  unfold mayH
  have e1 : ({ h14 with sig := ⟨(sigK (keyE 3 0 one32) (textL h14)).toArray⟩ } : Hd).right.sig.size = 1024 := r14_size
  have e2 : ({ h14 with sig := ⟨(sigK (keyE 3 0 one32) (textL h14)).toArray⟩ } : Hd).sig.size = 1120 := by
    show (⟨(sigK (keyE 3 0 one32) (textL h14)).toArray⟩ : ByteArray).size = 1120
    omega
  rw [e1, e2]
  rfl
theorem sealed14 : sealedB s14 3 = true := by
  have hs : s14.right.start = 3 := by rw [s14_is]; rfl
  have ht : textL s14 = textL h14 := by rw [s14_is]; rfl
  have hg : s14.sig = ⟨(sigK (keyE 3 0 one32) (textL h14)).toArray⟩ := by rw [s14_is]
  have hh : s14.right.hot = p14 := by rw [s14_is]; rfl
  unfold sealedB
  rw [may14, hs, ht, hg, hh]
  have hc := check_sig (textL h14) p14 0 whole3 may3
  have hk : (keyE 3 0 one32).d = 3 := rfl
  have hp : (keyE 3 0 one32).p = 0 := rfl
  have hu : upE (keyE 3 0 one32).d.toNat (keyE 3 0 one32).p.toNat 0 (fun i => (keyE 3 0 one32).side.getD i []) (keyE 3 0 one32).d.toNat (publicL (keyE 3 0 one32).leaf) = p14 := by
    rw [← pub3]; unfold pubK; rw [if_pos may3]
  rw [hp] at hu
  rw [hu, decide_eq_true rfl, Bool.and_true, hk] at hc
  rw [show ((3 - 3 : Nat) : Int) = 0 from rfl, hc]
  decide
theorem sealed14n : sealedB s14 2 = false := by
  have hs : s14.right.start = 3 := by rw [s14_is]; rfl
  unfold sealedB
  rw [hs, decide_eq_false (by decide), Bool.false_and, Bool.and_false]
theorem granted14 : checkR (publicL two32) (grantL s14.right) s14.right.sig = true := by
  have hr : s14.right = r14 := by rw [s14_is]; rfl
  rw [hr]
  unfold checkR
  rw [decide_eq_true r14_size, Bool.true_and]
  have : tellsL (grantL r14) r14.sig = publicL two32 := tells_sign two32 (grantL ⟨p14, 0, 3, ByteArray.empty⟩)
  rw [this]
  exact decide_eq_true rfl
end Go.Proofs.Ytofjjpielkfloaa
