/- OnceAlike, plain facts: of two messages by one seed the pieces are alike just where the bits are. -/
import Derived.Test.YtikphhhkikdhaaaOnceWorks
import Derived.Test.YtikphhhkikdhaaaPlan
namespace Go.Proofs.Ytikphhhkikdhaaa
open Go.RowKit Go.Lib
set_option linter.unusedVariables false
set_option linter.unusedSimpArgs false

theorem xor_byte (c d : UInt8) : bits BinOp.xor IntKind.u8 (c.toNat : Int) (d.toNat : Int) = ((c ^^^ d).toNat : Int) := by
  have : ∀ a b : Fin 256, bits BinOp.xor IntKind.u8 (a.1 : Int) (b.1 : Int) = ((a.1 ^^^ b.1 : Nat) : Int) := by decide +kernel
  rw [UInt8.toNat_xor]
  exact this ⟨c.toNat, c.toNat_lt⟩ ⟨d.toNat, d.toNat_lt⟩
theorem bit_byte (e : UInt8) (k : Nat) (hk : k < 8) : bits BinOp.and IntKind.u8 ((e.toNat : Int) / 2 ^ k) 1 = ((e.toNat / 2 ^ k % 2 : Nat) : Int) := by
  have : ∀ n : Fin 256, ∀ k : Fin 8, bits BinOp.and IntKind.u8 ((n.1 : Int) / 2 ^ k.1) 1 = ((n.1 / 2 ^ k.1 % 2 : Nat) : Int) := by decide +kernel
  exact this ⟨e.toNat, e.toNat_lt⟩ ⟨k, hk⟩
theorem xor_mod (a b k : Nat) : (a ^^^ b) / 2 ^ k % 2 = if a / 2 ^ k % 2 = b / 2 ^ k % 2 then 0 else 1 := by
  have h := Nat.testBit_xor a b k
  simp only [Nat.testBit_eq_decide_div_mod_eq] at h
  have h1 := Nat.mod_lt ((a ^^^ b) / 2 ^ k) (show 0 < 2 by decide)
  have h2 := Nat.mod_lt (a / 2 ^ k) (show 0 < 2 by decide)
  have h3 := Nat.mod_lt (b / 2 ^ k) (show 0 < 2 by decide)
  generalize (a ^^^ b) / 2 ^ k % 2 = x at *
  generalize a / 2 ^ k % 2 = y at *
  generalize b / 2 ^ k % 2 = z at *
  rcases (by omega : y = 0 ∨ y = 1) with rfl | rfl <;> rcases (by omega : z = 0 ∨ z = 1) with rfl | rfl <;> simp at h ⊢ <;> omega
theorem xor_bit (a b : List UInt8) (i : Nat) : bits BinOp.and IntKind.u8 (bits BinOp.xor IntKind.u8 ((a.getD (i / 8) 0).toNat : Int) ((b.getD (i / 8) 0).toNat : Int) / 2 ^ (7 - i % 8)) 1 = if bitL a i = bitL b i then 0 else 1 := by
  rw [xor_byte, bit_byte _ _ (by omega), UInt8.toNat_xor, xor_mod]
  unfold bitL
  split <;> rfl
/-- A place of a signature. -/
def piece (seed m : List UInt8) (i : Nat) : ByteArray := ⟨((signM seed m i).1 ++ (signM seed m i).2).toArray⟩
theorem piece_size (seed m : List UInt8) (i : Nat) : (piece seed m i).size = 64 := by
  have := signM_length seed m i
  simp [piece, ByteArray.size, this.1, this.2]
theorem bytes_ext {s t : ByteArray} (h : s.data.toList = t.data.toList) : s = t := by
  cases s; cases t; congr; exact Array.ext' h
theorem piece_at (seed m : List UInt8) (i : Nat) (hi : i < 16) : (⟨(signL seed m).toArray⟩ : ByteArray).extract (64 * i) (64 * i + 64) = piece seed m i := by
  obtain ⟨rest, h⟩ := joinM_parts (signM seed m) i (15 - i)
  rw [show i + 1 + (15 - i) = 16 by omega] at h
  have hl := joinM_length (signM seed m) (signM_length seed m) i
  obtain ⟨h1, h2⟩ := signM_length seed m i
  refine bytes_ext ?_
  show cut _ _ _ = _
  rw [cut_eq, show 64 * i + 64 - 64 * i = 64 by omega]
  show ((signL seed m).drop _).take _ = (signM seed m i).1 ++ (signM seed m i).2
  unfold signL
  rw [h, ← hl, List.append_assoc, List.append_assoc, List.drop_left, ← List.append_assoc]
  exact List.take_left' (by rw [List.length_append, h1, h2])
theorem piece_left (seed m : List UInt8) (i : Nat) : (piece seed m i).extract 0 32 = ⟨((signM seed m i).1).toArray⟩ := by
  obtain ⟨h1, h2⟩ := signM_length seed m i
  refine bytes_ext ?_
  show cut _ _ _ = _
  rw [cut_eq]
  exact List.take_left' h1
theorem piece_right (seed m : List UInt8) (i : Nat) : (piece seed m i).extract 32 64 = ⟨((signM seed m i).2).toArray⟩ := by
  obtain ⟨h1, h2⟩ := signM_length seed m i
  refine bytes_ext ?_
  show cut _ _ _ = _
  rw [cut_eq]
  show (((signM seed m i).1 ++ (signM seed m i).2).drop 32).take 32 = (signM seed m i).2
  rw [← h1, List.drop_left, h1, ← h2, List.take_length]
end Go.Proofs.Ytikphhhkikdhaaa
