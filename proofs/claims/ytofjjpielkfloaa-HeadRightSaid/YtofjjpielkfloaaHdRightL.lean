/- HeadRight: what is granted and sealed, by its facts alone. -/
import Derived.Test.YtofjjpielkfloaaHdWorks
namespace Go.Proofs.Ytofjjpielkfloaa
open Go.RowKit Go.Lib
set_option linter.unusedVariables false
set_option linter.unusedSimpArgs false

/-- A head with a right that is granted. -/
def gH (d : Hd) (cold seed : List UInt8) (c s : Nat) : Hd := { d with right := grantR cold (pubE 3 seed) c s }
/-- It, sealed by the key of the n-th period. -/
def sH (d : Hd) (cold seed : List UInt8) (c s n : Nat) : Hd := { gH d cold seed c s with sig := ⟨(sigK (keyE 3 n seed) (textL (gH d cold seed c s))).toArray⟩ }
section
variable {d : Hd} {cold seed : List UInt8} {c s n : Nat} (hd : d.Ok) (hc : cold.length = 32) (hs : seed.length = 32) (h1 : c < 18446744073709551616) (h2 : s < 18446744073709551616) (hn : n < 8)
theorem grantR_ok (h1 : c < 18446744073709551616) (h2 : s < 18446744073709551616) : (grantR cold (pubE 3 seed) c s).Ok := ⟨pubE_length _ _, h1, h2⟩
theorem grantR_size (hot : List UInt8) : (grantR cold hot c s).sig.size = 1024 := by
  show (signL cold _).toArray.size = 1024
  rw [List.size_toArray, signL_length]
theorem gH_ok (hd : d.Ok) (h1 : c < 18446744073709551616) (h2 : s < 18446744073709551616) : (gH d cold seed c s).Ok :=
  ⟨hd.slot, hd.number, hd.prev, hd.pool, hd.body, hd.size, hd.many, grantR_ok h1 h2⟩
theorem sH_ok (hd : d.Ok) (h1 : c < 18446744073709551616) (h2 : s < 18446744073709551616) : (sH d cold seed c s n).Ok :=
  ⟨hd.slot, hd.number, hd.prev, hd.pool, hd.body, hd.size, hd.many, grantR_ok h1 h2⟩
theorem mayK3 (hn : n < 8) : mayE (keyE 3 n seed) = true := mayE_key 3 n seed (by decide) hn
theorem sealG (hn : n < 8) : sealH (gH d cold seed c s) (keyE 3 n seed) = (sH d cold seed c s n, 0) := by
  unfold sealH
  exact if_pos ⟨grantR_size _, rfl, mayK3 hn⟩
theorem sH_size (hs : seed.length = 32) (hn : n < 8) : (sH d cold seed c s n).sig.size = 1120 := by
  have hz := sig_size (textL (gH d cold seed c s)) (keyE_whole 3 n seed hs) (mayK3 hn)
  have hk : (keyE 3 n seed).d = 3 := rfl
  rw [hk] at hz
  show (⟨(sigK (keyE 3 n seed) (textL (gH d cold seed c s))).toArray⟩ : ByteArray).size = 1120
  omega
theorem sH_may (hs : seed.length = 32) (hn : n < 8) : mayH (sH d cold seed c s n) = true := by
  unfold mayH
  rw [sH_size hs hn, show (sH d cold seed c s n).right.sig.size = 1024 from grantR_size _]
  rfl
theorem sH_sealed (hs : seed.length = 32) (hn : n < 8) : sealedB (sH d cold seed c s n) (s + n) = true := by
  have es : (sH d cold seed c s n).right.start = s := rfl
  have ht : textL (sH d cold seed c s n) = textL (gH d cold seed c s) := rfl
  have hg : (sH d cold seed c s n).sig = ⟨(sigK (keyE 3 n seed) (textL (gH d cold seed c s))).toArray⟩ := rfl
  have hh : (sH d cold seed c s n).right.hot = pubE 3 seed := rfl
  unfold sealedB
  rw [sH_may hs hn, es, ht, hg, hh]
  have hc := check_sig (textL (gH d cold seed c s)) (pubE 3 seed) n (keyE_whole 3 n seed hs) (mayK3 hn)
  have hk : (keyE 3 n seed).d = 3 := rfl
  have hp : (keyE 3 n seed).p = n := rfl
  have hu : upE (keyE 3 n seed).d.toNat (keyE 3 n seed).p.toNat 0 (fun i => (keyE 3 n seed).side.getD i []) (keyE 3 n seed).d.toNat (publicL (keyE 3 n seed).leaf) = pubE 3 seed := by
    rw [← pubK_key 3 n seed (by decide) hn]; unfold pubK; rw [if_pos (mayK3 hn)]
  rw [hp] at hu
  rw [hu, decide_eq_true rfl, Bool.and_true, hk] at hc
  rw [show s + n - s = n by omega, hc, decide_eq_true (show s ≤ s + n by omega), decide_eq_true hn]
  have : perB 3 (n : Int) = true := decide_eq_true ⟨by decide, by decide, by omega, by
    rw [show ((2 : Int) ^ Int.toNat 3) = 8 from rfl]
    omega⟩
  rw [this]
  rfl
theorem sH_before (hs0 : 0 < s) : sealedB (sH d cold seed c s n) (s - 1) = false := by
  have es : (sH d cold seed c s n).right.start = s := rfl
  unfold sealedB
  rw [es, decide_eq_false (show ¬ s ≤ s - 1 by omega), Bool.false_and, Bool.and_false]
theorem sH_after : sealedB (sH d cold seed c s n) (s + 8) = false := by
  have es : (sH d cold seed c s n).right.start = s := rfl
  unfold sealedB
  rw [es, show s + 8 - s = 8 by omega, decide_eq_false (show ¬ 8 < 8 by omega), Bool.false_and, Bool.and_false, Bool.and_false]
theorem gH_granted : checkR (publicL cold) (grantL (grantR cold (pubE 3 seed) c s)) (grantR cold (pubE 3 seed) c s).sig = true := by
  unfold checkR
  rw [decide_eq_true (grantR_size _), Bool.true_and]
  have : tellsL (grantL (grantR cold (pubE 3 seed) c s)) (grantR cold (pubE 3 seed) c s).sig = publicL cold := tells_sign cold (grantL ⟨pubE 3 seed, c, s, ByteArray.empty⟩)
  rw [this]
  exact decide_eq_true rfl
end
end Go.Proofs.Ytofjjpielkfloaa
