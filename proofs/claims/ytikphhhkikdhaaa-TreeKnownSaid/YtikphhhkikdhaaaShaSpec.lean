/- The document's sum (P3.1) in plain Lean: the schedule of a block, the rounds, the padding, the sum. No program in sight. -/
import Derived.Test.YtikphhhkikdhaaaWords
namespace Go.Proofs.Ytikphhhkikdhaaa
open Go.RowKit Go.Lib

/-! ### The schedule. f p is byte p of the block as a word. -/
def part (f : Nat → W32) (k : Nat) : Nat → W32
  | 0 => 0
  | j + 1 => (part f k j) <<< 8 ||| f (4 * k + j)
def fw (f : Nat → W32) (k : Nat) : List W32 := (List.range k).map fun t => part f t 4
theorem fw_length (f : Nat → W32) (k : Nat) : (fw f k).length = k := by simp [fw]
theorem fw_succ (f : Nat → W32) (k : Nat) : fw f (k + 1) = fw f k ++ [part f k 4] := by simp [fw, List.range_succ]

def sg0 (x : W32) : W32 := rotr x 7 ^^^ rotr x 18 ^^^ x >>> 3
def sg1 (x : W32) : W32 := rotr x 17 ^^^ rotr x 19 ^^^ x >>> 10
/-- The word behind t words. -/
def nextW (ws : List W32) (t : Nat) : W32 := ws.getD (t - 16) 0 + ws.getD (t - 7) 0 + sg0 (ws.getD (t - 15) 0) + sg1 (ws.getD (t - 2) 0)
def grow (ws : List W32) : Nat → List W32
  | 0 => ws
  | n + 1 => grow ws n ++ [nextW (grow ws n) (ws.length + n)]
theorem grow_length (ws : List W32) (n : Nat) : (grow ws n).length = ws.length + n := by
  induction n with
  | zero => rfl
  | succ n ih => simp [grow, ih]; omega
def sched (f : Nat → W32) : List W32 := grow (fw f 16) 48
theorem sched_length (f : Nat → W32) : (sched f).length = 64 := by simp [sched, grow_length, fw_length]

/-- A row that is filled from the left. -/
def fill (l : List W32) (n : Nat) : List W32 := l ++ List.replicate (n - l.length) 0
theorem fill_length (l : List W32) (n : Nat) (h : l.length ≤ n) : (fill l n).length = n := by simp [fill]; omega
theorem fill_getD (l : List W32) (n i : Nat) (h : i < l.length) : (fill l n).getD i 0 = l.getD i 0 := by
  simp only [fill, List.getD_eq_getElem?_getD]
  rw [List.getElem?_append_left h]
theorem fill_next (l : List W32) (n : Nat) (h : l.length < n) (x : W32) : (fill l n).set l.length x = fill (l ++ [x]) n := by
  unfold fill
  rw [List.set_append_right _ _ (Nat.le_refl _), Nat.sub_self]
  obtain ⟨m, hm⟩ : ∃ m, n - l.length = m + 1 := ⟨n - l.length - 1, by omega⟩
  rw [hm, List.replicate_succ, List.set_cons_zero, List.append_assoc]
  simp only [List.length_append, List.length_cons, List.length_nil, List.singleton_append]
  congr 3
  omega
theorem fill_full (l : List W32) : fill l l.length = l := by simp [fill]
theorem fill_last (l : List W32) (x : W32) (n : Nat) : (fill (l ++ [x]) n).getD l.length 0 = x := by
  rw [fill_getD _ _ _ (by simp)]; simp
theorem fill_zero (l : List W32) (n : Nat) (h : l.length < n) : fill (l ++ [0]) n = fill l n := by
  rw [← fill_next l n h]
  unfold fill
  rw [List.set_append_right _ _ (Nat.le_refl _), Nat.sub_self]
  obtain ⟨m, hm⟩ : ∃ m, n - l.length = m + 1 := ⟨n - l.length - 1, by omega⟩
  rw [hm, List.replicate_succ, List.set_cons_zero]
theorem fill_over (l : List W32) (x y : W32) (n : Nat) (h : l.length < n) : (fill (l ++ [x]) n).set l.length y = fill (l ++ [y]) n := by
  rw [← fill_next l n h x, List.set_set, fill_next l n h]

/-! ### The rounds -/
structure V8 where (a b c d e f g h : W32)
def V8.list (v : V8) : List W32 := [v.a, v.b, v.c, v.d, v.e, v.f, v.g, v.h]
def bs0 (a : W32) : W32 := rotr a 2 ^^^ rotr a 13 ^^^ rotr a 22
def bs1 (e : W32) : W32 := rotr e 6 ^^^ rotr e 11 ^^^ rotr e 25
def ch (e f g : W32) : W32 := (e &&& f) ^^^ (~~~ e &&& g)
def maj (a b c : W32) : W32 := ((a &&& b) ^^^ (a &&& c)) ^^^ (b &&& c)
def rx (v : V8) (k w : W32) : W32 := v.h + bs1 v.e + ch v.e v.f v.g + k + w
def ry (v : V8) : W32 := bs0 v.a + maj v.a v.b v.c
def round1 (v : V8) (k w : W32) : V8 := ⟨rx v k w + ry v, v.a, v.b, v.c, v.d + rx v k w, v.e, v.f, v.g⟩
def rounds (v : V8) (ks ws : List W32) : Nat → V8
  | 0 => v
  | n + 1 => round1 (rounds v ks ws n) (ks.getD n 0) (ws.getD n 0)
def V8.plus (v u : V8) : V8 := ⟨v.a + u.a, v.b + u.b, v.c + u.c, v.d + u.d, v.e + u.e, v.f + u.f, v.g + u.g, v.h + u.h⟩
def rootsL : List W32 := [
  0x428a2f98, 0x71374491, 0xb5c0fbcf, 0xe9b5dba5, 0x3956c25b, 0x59f111f1, 0x923f82a4, 0xab1c5ed5,
  0xd807aa98, 0x12835b01, 0x243185be, 0x550c7dc3, 0x72be5d74, 0x80deb1fe, 0x9bdc06a7, 0xc19bf174,
  0xe49b69c1, 0xefbe4786, 0x0fc19dc6, 0x240ca1cc, 0x2de92c6f, 0x4a7484aa, 0x5cb0a9dc, 0x76f988da,
  0x983e5152, 0xa831c66d, 0xb00327c8, 0xbf597fc7, 0xc6e00bf3, 0xd5a79147, 0x06ca6351, 0x14292967,
  0x27b70a85, 0x2e1b2138, 0x4d2c6dfc, 0x53380d13, 0x650a7354, 0x766a0abb, 0x81c2c92e, 0x92722c85,
  0xa2bfe8a1, 0xa81a664b, 0xc24b8b70, 0xc76c51a3, 0xd192e819, 0xd6990624, 0xf40e3585, 0x106aa070,
  0x19a4c116, 0x1e376c08, 0x2748774c, 0x34b0bcb5, 0x391c0cb3, 0x4ed8aa4a, 0x5b9cca4f, 0x682e6ff3,
  0x748f82ee, 0x78a5636f, 0x84c87814, 0x8cc70208, 0x90befffa, 0xa4506ceb, 0xbef9a3f7, 0xc67178f2]
def startV : V8 := ⟨0x6a09e667, 0xbb67ae85, 0x3c6ef372, 0xa54ff53a, 0x510e527f, 0x9b05688c, 0x1f83d9ab, 0x5be0cd19⟩
def goesV (v : V8) (ws : List W32) : V8 := v.plus (rounds v rootsL ws 64)

/-! ### The sum -/
def noughts (n : Nat) : Nat := (119 - n % 64) % 64
def eightL (n : Nat) : List UInt8 := (List.range 8).map fun i => UInt8.ofNat (n / 2 ^ (56 - 8 * i) % 256)
def padL (s : List UInt8) : List UInt8 := s ++ 128 :: (List.replicate (noughts s.length) 0 ++ eightL (s.length * 8))
def byteW (l : List UInt8) (at_ p : Nat) : W32 := BitVec.ofNat 32 (l.getD (at_ + p) 0).toNat
def states (l : List UInt8) : Nat → V8
  | 0 => startV
  | n + 1 => goesV (states l n) (sched (byteW l (64 * n)))
def outB (v : V8) (i : Nat) : UInt8 := UInt8.ofNat (((v.list.getD (i / 4) 0) >>> (24 - i % 4 * 8)).toNat % 256)
def outL (v : V8) : List UInt8 := (List.range 32).map (outB v)
/-- The sum of a text. -/
def sha (s : List UInt8) : List UInt8 := outL (states (padL s) ((padL s).length / 64))
theorem sha_length (s : List UInt8) : (sha s).length = 32 := by simp [sha, outL]
theorem padL_length (s : List UInt8) : (padL s).length = s.length + 9 + noughts s.length := by simp [padL, eightL]; omega
theorem padL_blocks (s : List UInt8) : (padL s).length % 64 = 0 := by rw [padL_length, noughts]; omega

/-! ### The same by other words -/
theorem ch_or (e f g : W32) : (e &&& f) ||| ((e ^^^ 0xffffffff) &&& g) = ch e f g := by
  unfold ch
  apply BitVec.eq_of_getLsbD_eq
  intro i hi
  have : (0xffffffff : W32) = BitVec.allOnes 32 := by decide
  rw [this]
  simp only [BitVec.getLsbD_or, BitVec.getLsbD_and, BitVec.getLsbD_xor, BitVec.getLsbD_not, BitVec.getLsbD_allOnes, hi, decide_true, Bool.true_and]
  cases e.getLsbD i <;> cases f.getLsbD i <;> cases g.getLsbD i <;> rfl
theorem maj_or (a b c : W32) : (a &&& b) ||| (a &&& c) ||| (b &&& c) = maj a b c := by
  unfold maj
  apply BitVec.eq_of_getLsbD_eq
  intro i hi
  simp only [BitVec.getLsbD_or, BitVec.getLsbD_and, BitVec.getLsbD_xor]
  cases a.getLsbD i <;> cases b.getLsbD i <;> cases c.getLsbD i <;> rfl
theorem part_or (f : Nat → W32) (k : Nat) : f (4 * k) <<< 24 ||| f (4 * k + 1) <<< 16 ||| f (4 * k + 2) <<< 8 ||| f (4 * k + 3) = part f k 4 := by
  simp only [part, BitVec.shiftLeft_or_distrib, Nat.add_zero]
  simp only [← BitVec.shiftLeft_add]
  simp
theorem next_other (ws : List W32) (t : Nat) : sg1 (ws.getD (t - 2) 0) + ws.getD (t - 7) 0 + sg0 (ws.getD (t - 15) 0) + ws.getD (t - 16) 0 = nextW ws t := by
  unfold nextW
  ac_rfl

/-! ### Known sums -/
def bytesOf (s : String) : List UInt8 := s.toUTF8.toList
theorem sha_abc : sha [97, 98, 99] = [0xba, 0x78, 0x16, 0xbf, 0x8f, 0x01, 0xcf, 0xea, 0x41, 0x41, 0x40, 0xde, 0x5d, 0xae, 0x22, 0x23, 0xb0, 0x03, 0x61, 0xa3, 0x96, 0x17, 0x7a, 0x9c, 0xb4, 0x10, 0xff, 0x61, 0xf2, 0x00, 0x15, 0xad] := by decide +kernel
end Go.Proofs.Ytikphhhkikdhaaa
