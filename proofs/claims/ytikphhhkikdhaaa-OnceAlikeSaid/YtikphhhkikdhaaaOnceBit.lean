/- Package once: a message's bits. -/
import Derived.Test.YtikphhhkikdhaaaOnce1
namespace Go.Proofs.Ytikphhhkikdhaaa
open Go.RowKit Go.Lib

/-- A message's bit at a place. -/
def bitL (m : List UInt8) (i : Nat) : Nat := (m.getD (i / 8) 0).toNat / 2 ^ (7 - i % 8) % 2
theorem bitL_lt (m : List UInt8) (i : Nat) : bitL m i < 2 := Nat.mod_lt _ (by decide)

theorem bits_one (c : UInt8) (k : Nat) (hk : k < 8) : wrap64 (bits BinOp.and IntKind.u8 ((c.toNat : Int) / 2 ^ k) 1) = ((c.toNat / 2 ^ k % 2 : Nat) : Int) := by
  have : ∀ n : Fin 256, ∀ k : Fin 8, wrap64 (bits BinOp.and IntKind.u8 ((n.1 : Int) / 2 ^ k.1) 1) = ((n.1 / 2 ^ k.1 % 2 : Nat) : Int) := by decide +kernel
  exact this ⟨c.toNat, c.toNat_lt⟩ ⟨k, hk⟩
set_option maxRecDepth 100000 in
set_option maxHeartbeats 1600000 in
theorem bit_any (m : List UInt8) (i : Nat) (hl : m.length = 32) (hi : i < 16) (w : World) :
    Calls Try.prog 45 #[hv m, .int .i64 i] w fun e w' => e = .returned (.int .i64 (bitL m i)) ∧ Below w.heap.size w w' := by
  obtain ⟨r, hr⟩ : ∃ r, r = bitL m i := ⟨_, rfl⟩
  have HR := hide hr
  rw [← hr]
  clear hr
  have hB := below1 w (.cells (bvs m).toArray 23)
  have hA := HashAt.new w m hl
  have hc : (w.alloc (.cells (bvs m).toArray 23)).cell? ⟨w.heap.size, i / 8, none⟩ = some (.int .u8 ((m.getD (i / 8) 0).toNat : Int)) := by
    rw [Arr.cell hA.2 (i := i / 8) (by rw [bvs_length]; omega), bvs_getD m _ (by omega)]
  have hd : Int.tdiv (i : Int) 8 = ((i / 8 : Nat) : Int) := by rw [Int.tdiv_eq_ediv_of_nonneg (by omega)]; omega
  have hm : Int.tmod (i : Int) 8 = ((i % 8 : Nat) : Int) := by rw [Int.tmod_eq_emod_of_nonneg (by omega)]; omega
  have HL := hide hl
  clear hl
  unfold hv
  go_enter Try.func45, Try.ntmps45
  go_wp2_with fail
  have e : wrap64 (bits BinOp.and IntKind.u8 (((m[i / 8]?.getD 0).toNat : Int) / 2 ^ (7 - i % 8)) 1) = (r : Int) := by
    rw [bits_one _ _ (by omega), HR.out]
    unfold bitL
    rw [List.getD_eq_getElem?_getD]
  rw [e]
  go_ret
  exact ⟨rfl, hB⟩
end Go.Proofs.Ytikphhhkikdhaaa
