/- Several texts of this proof in one: Once1, OnceBit, OncePub, OncePublic, OnceTell1, OncePublic2, OnceTells, OnceSign, OnceKey, OnceLaw, OnceCheck, OnceTells2, OnceCheck2, OnceWorks. -/
import Derived.Test.YtbbfnpfkbbpjgaaOAMRef
import Derived.Test.YtbbfnpfkbbpjgaaOAMOf
/- Package once: bit, mark, secret. -/
namespace Go.Proofs.Ytbbfnpfkbbpjgaa
open Go.RowKit Go.Lib

def tagMark : List UInt8 := [109, 97, 114, 107]
def tagSecret : List UInt8 := [115, 101, 99, 114, 101, 116]
/-- A secret's mark; a seed's secret. -/
def markL (s : List UInt8) : List UInt8 := ofX tagMark [s]
def secretL (seed : List UInt8) (i b : Nat) : List UInt8 := ofX tagSecret [seed, [UInt8.ofNat (2 * i + b)]]
end Go.Proofs.Ytbbfnpfkbbpjgaa

/- Package once: a message's bits. -/
namespace Go.Proofs.Ytbbfnpfkbbpjgaa
open Go.RowKit Go.Lib

/-- A message's bit at a place. -/
def bitL (m : List UInt8) (i : Nat) : Nat := (m.getD (i / 8) 0).toNat / 2 ^ (7 - i % 8) % 2
end Go.Proofs.Ytbbfnpfkbbpjgaa

/- Package once: the closure of Public. -/
namespace Go.Proofs.Ytbbfnpfkbbpjgaa
open Go.RowKit Go.Lib

end Go.Proofs.Ytbbfnpfkbbpjgaa

/- Package once: public, by the closure of Public. -/
namespace Go.Proofs.Ytbbfnpfkbbpjgaa
open Go.RowKit Go.Lib

def tagOnce : List UInt8 := [111, 110, 99, 101]
/-- What the marks come to, place by place. -/
def joinM (m : Nat → List UInt8 × List UInt8) (k : Nat) : List UInt8 := (List.range k).flatMap fun i => (m i).1 ++ (m i).2
def onceL (m : Nat → List UInt8 × List UInt8) : List UInt8 := ofX tagOnce [joinM m 16]
theorem builder_more {B b : Nat} {x : List UInt8} {s : List UInt8} {w : World} {all : List UInt8} (h : Lib.BuilderAt 105 5 B b (.pointer (some ⟨b, 0, none⟩)) (Lib.byteCells x ++ Lib.strCells ⟨s.toArray⟩) w) (ha : all = x ++ s) :
    Lib.IsBuilder 105 5 B b (Lib.byteCells all) w := by
  refine Or.inr ?_
  have e : Lib.byteCells all = Lib.byteCells x ++ Lib.strCells ⟨s.toArray⟩ := by rw [ha]; simp [Lib.byteCells, Lib.strCells]
  rw [e]; exact h

-- BEGIN
-- END
end Go.Proofs.Ytbbfnpfkbbpjgaa

/- Package once: the closure of Tells. -/
namespace Go.Proofs.Ytbbfnpfkbbpjgaa
open Go.RowKit Go.Lib

end Go.Proofs.Ytbbfnpfkbbpjgaa

/- Package once: public, by the closure of Tells. -/
namespace Go.Proofs.Ytbbfnpfkbbpjgaa
open Go.RowKit Go.Lib

end Go.Proofs.Ytbbfnpfkbbpjgaa

/- Package once: Tells, Check. -/
namespace Go.Proofs.Ytbbfnpfkbbpjgaa
open Go.RowKit Go.Lib

end Go.Proofs.Ytbbfnpfkbbpjgaa

/- Package once: Sign. -/
namespace Go.Proofs.Ytbbfnpfkbbpjgaa
open Go.RowKit Go.Lib

/-- What a signature tells of a place: the secret of the message's bit, the mark of the other. -/
def signM (seed m : List UInt8) (i : Nat) : List UInt8 × List UInt8 := (secretL seed i (bitL m i), markL (secretL seed i (1 - bitL m i)))
def signL (seed m : List UInt8) : List UInt8 := joinM (signM seed m) 16
end Go.Proofs.Ytbbfnpfkbbpjgaa

/- Package once: Public. -/
namespace Go.Proofs.Ytbbfnpfkbbpjgaa
open Go.RowKit Go.Lib

def seedM (seed : List UInt8) (i : Nat) : List UInt8 × List UInt8 := (markL (secretL seed i 0), markL (secretL seed i 1))
/-- A seed's public key. -/
def publicL (seed : List UInt8) : List UInt8 := onceL (seedM seed)
end Go.Proofs.Ytbbfnpfkbbpjgaa

/- Once, in plain words: a signature tells the public key of the seed that made it. -/
namespace Go.Proofs.Ytbbfnpfkbbpjgaa
open Go.RowKit Go.Lib

end Go.Proofs.Ytbbfnpfkbbpjgaa

/- Package once: Check. -/
namespace Go.Proofs.Ytbbfnpfkbbpjgaa
open Go.RowKit Go.Lib

end Go.Proofs.Ytbbfnpfkbbpjgaa

/- Package once: Tells of a text that has not the length. -/
namespace Go.Proofs.Ytbbfnpfkbbpjgaa
open Go.RowKit Go.Lib

end Go.Proofs.Ytbbfnpfkbbpjgaa

/- Package once: Check of a text that has not the length. -/
namespace Go.Proofs.Ytbbfnpfkbbpjgaa
open Go.RowKit Go.Lib

end Go.Proofs.Ytbbfnpfkbbpjgaa

/- The small things that the laws of layer 5 ask first. -/
namespace Go.Proofs.Ytbbfnpfkbbpjgaa
open Go.RowKit Go.Lib

def one32 : List UInt8 := 1 :: List.replicate 31 0
def two32 : List UInt8 := 2 :: List.replicate 31 0
end Go.Proofs.Ytbbfnpfkbbpjgaa
