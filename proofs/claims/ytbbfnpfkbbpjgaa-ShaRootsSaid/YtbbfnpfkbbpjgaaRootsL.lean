/- The words of the primes' roots, as the reference works them out: plain law. -/
import Derived.Test.YtbbfnpfkbbpjgaaMBase
namespace Go.Proofs.Ytbbfnpfkbbpjgaa
open Go.RowKit Go.Lib
set_option linter.unusedVariables false
set_option linter.unusedSimpArgs false

/-- Digits of sixteen bits times a number. -/
def timesF : Nat → List Nat → Nat → Nat → List Nat
  | 0, _, _, _ => []
  | f + 1, [], n, over => if over = 0 then [] else over % 65536 :: timesF f [] n (over / 65536)
  | f + 1, d :: ds, n, over => (over + d * n) % 65536 :: timesF f ds n ((over + d * n) / 65536)
def timesN (d : List Nat) (n : Nat) : List Nat := timesF (d.length + 4) d n 0
def lessF (a b : List Nat) : Nat → Bool
  | 0 => false
  | i + 1 => if a.getD i 0 = b.getD i 0 then lessF a b i else decide (a.getD i 0 < b.getD i 0)
def lessN (a b : List Nat) : Bool := lessF a b (max a.length b.length)
def iterN (n : Nat) : Nat → List Nat → List Nat
  | 0, d => d
  | k + 1, d => iterN n k (timesN d n)
def fitsN (y n p : Nat) : Bool := !(lessN (iterN 4294967296 p [n]) (iterN y p [1]))
def rootF (n p : Nat) : Nat → Nat → Nat
  | 0, x => x
  | b + 1, x => rootF n p b (if fitsN (x + 2 ^ b) n p = true then x + 2 ^ b else x)
def rootN (n p : Nat) : Nat := rootF n p 40 0 % 4294967296
def primesF (many : Nat) : Nat → Nat → List Nat → List Nat
  | 0, _, out => out
  | f + 1, n, out => if out.length < many then primesF many f (n + 1) (if out.all (fun p => decide (n % p ≠ 0)) = true then out ++ [n] else out) else out
def primesN (many : Nat) : List Nat := primesF many 400 2 []
def rootsN (many p : Nat) : List Nat := (primesN many).map fun n => rootN n p
def cubesN : List Nat := [0x428a2f98, 0x71374491, 0xb5c0fbcf, 0xe9b5dba5, 0x3956c25b, 0x59f111f1, 0x923f82a4, 0xab1c5ed5, 0xd807aa98, 0x12835b01, 0x243185be, 0x550c7dc3, 0x72be5d74, 0x80deb1fe, 0x9bdc06a7, 0xc19bf174,
  0xe49b69c1, 0xefbe4786, 0x0fc19dc6, 0x240ca1cc, 0x2de92c6f, 0x4a7484aa, 0x5cb0a9dc, 0x76f988da, 0x983e5152, 0xa831c66d, 0xb00327c8, 0xbf597fc7, 0xc6e00bf3, 0xd5a79147, 0x06ca6351, 0x14292967,
  0x27b70a85, 0x2e1b2138, 0x4d2c6dfc, 0x53380d13, 0x650a7354, 0x766a0abb, 0x81c2c92e, 0x92722c85, 0xa2bfe8a1, 0xa81a664b, 0xc24b8b70, 0xc76c51a3, 0xd192e819, 0xd6990624, 0xf40e3585, 0x106aa070,
  0x19a4c116, 0x1e376c08, 0x2748774c, 0x34b0bcb5, 0x391c0cb3, 0x4ed8aa4a, 0x5b9cca4f, 0x682e6ff3, 0x748f82ee, 0x78a5636f, 0x84c87814, 0x8cc70208, 0x90befffa, 0xa4506ceb, 0xbef9a3f7, 0xc67178f2]
def squaresN : List Nat := [0x6a09e667, 0xbb67ae85, 0x3c6ef372, 0xa54ff53a, 0x510e527f, 0x9b05688c, 0x1f83d9ab, 0x5be0cd19]
set_option maxRecDepth 100000 in
theorem primes64 : (primesN 64).length = 64 ∧ (primesN 8).length = 8 := by decide +kernel
set_option maxRecDepth 100000 in
theorem roots_two : rootsN 8 2 = squaresN := by decide +kernel
set_option maxRecDepth 100000 in
theorem roots_three : rootsN 64 3 = cubesN := by decide +kernel
end Go.Proofs.Ytbbfnpfkbbpjgaa
