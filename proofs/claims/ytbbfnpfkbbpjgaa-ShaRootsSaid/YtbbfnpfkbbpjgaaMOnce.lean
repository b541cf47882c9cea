/- Several texts of this proof in one: Once1, OnceBit, OncePub, OncePublic, OnceTell1, OncePublic2, OnceTells, OnceSign, OnceKey, OnceLaw, OnceCheck, OnceTells2, OnceCheck2, OnceWorks. -/
import Derived.Test.YtbbfnpfkbbpjgaaMRef
import Derived.Test.YtbbfnpfkbbpjgaaMOf
/- Package once: bit, mark, secret. -/
namespace Go.Proofs.Ytbbfnpfkbbpjgaa
open Go.RowKit Go.Lib

def tagMark : List UInt8 := [109, 97, 114, 107]
def tagSecret : List UInt8 := [115, 101, 99, 114, 101, 116]
/-- A secret's mark; a seed's secret. -/
def markL (s : List UInt8) : List UInt8 := ofX tagMark [s]
def secretL (seed : List UInt8) (i b : Nat) : List UInt8 := ofX tagSecret [seed, [UInt8.ofNat (2 * i + b)]]
theorem markL_length (s : List UInt8) : (markL s).length = 32 := ofX_length _ _
theorem secretL_length (s : List UInt8) (i b : Nat) : (secretL s i b).length = 32 := ofX_length _ _

theorem of_at (tag : List UInt8) (ps : List (List UInt8)) (v : Value) (w : World) (hv0 : Strs w v (ps.map txt)) (ht : tag.length ≤ 1048576) (hp : ∀ p ∈ ps, p.length ≤ 1048576) (hn : ps.length ≤ 16) :
    Calls Try.prog 108 #[.string (txt tag), v] w fun e w' => e = .returned (hv (ofX tag ps)) ∧ Below w.heap.size w w' := by
  have hl : (putText (txt tag).data.toList ++ tellL (ps.map txt)).length ≤ 1099511627776 := by
    have h1 := putText_le tag
    have h2 := tells_le ps 1048576 hp
    rw [tellL_txt, List.length_append]
    have h3 : ps.length * (10 + 1048576) ≤ 16 * (10 + 1048576) := Nat.mul_le_mul_right _ hn
    show (putText tag).length + _ ≤ _
    omega
  refine (of_any (txt tag) (ps.map txt) _ _ hv0 (by simp; omega) hl).mono ?_
  rintro e w' ⟨rfl, hb⟩
  rw [ofL_txt]
  exact ⟨rfl, hb⟩
theorem mixed_now {B : Nat} {W a b : World} (hB : B ≤ W.heap.size) (h : ∃ s : From B W, a = s.w) (k : Below a.heap.size a b) : Fromly B W b := by
  obtain ⟨s, rfl⟩ := h
  exact fromly (mixed hB s.ok k)

end Go.Proofs.Ytbbfnpfkbbpjgaa

/- Package once: a message's bits. -/
namespace Go.Proofs.Ytbbfnpfkbbpjgaa
open Go.RowKit Go.Lib

/-- A message's bit at a place. -/
def bitL (m : List UInt8) (i : Nat) : Nat := (m.getD (i / 8) 0).toNat / 2 ^ (7 - i % 8) % 2
theorem bitL_lt (m : List UInt8) (i : Nat) : bitL m i < 2 := Nat.mod_lt _ (by decide)

theorem bits_one (c : UInt8) (k : Nat) (hk : k < 8) : wrap64 (bits BinOp.and IntKind.u8 ((c.toNat : Int) / 2 ^ k) 1) = ((c.toNat / 2 ^ k % 2 : Nat) : Int) := by
  have : ∀ n : Fin 256, ∀ k : Fin 8, wrap64 (bits BinOp.and IntKind.u8 ((n.1 : Int) / 2 ^ k.1) 1) = ((n.1 / 2 ^ k.1 % 2 : Nat) : Int) := by decide +kernel
  exact this ⟨c.toNat, c.toNat_lt⟩ ⟨k, hk⟩
end Go.Proofs.Ytbbfnpfkbbpjgaa

/- Package once: the closure of Public. -/
namespace Go.Proofs.Ytbbfnpfkbbpjgaa
open Go.RowKit Go.Lib

def pairV (a b : List UInt8) : Value := .agg #[.string ⟨a.toArray⟩, .string ⟨b.toArray⟩]
/-- A load of a whole hash, in a class in which it lies. -/
theorem kept_load_hash {o : Oper} {a : Act} {K : World → Prop} {N : Act → Prop} (x : Operand) (ho : o.op = .load 27 x) {g : Nat} {l : List UInt8} (hx : a.eval x = .pointer (some ⟨g, 0, none⟩)) (h : ∀ w, K w → HashAt w g l) (hl : l.length = 32) (hk : N (a.put o.dst (hv l))) :
    o.quiet Try.prog a (fun w' => ∃ s : Kept K, w' = s.w) N := by
  refine quiet_value (hv l) (fun w hw => ?_) hk
  obtain ⟨s, rfl⟩ := hw
  unfold execOp
  simp only [ho, hx, Instr.loadAt, Instr.sureAddr, Sem.run_bind, Sem.run_pure, Result.andThen_ok, run_loadVar_row s.w g 27 27 (bvs l).toArray (0, 0) _ (h _ s.ok).2 Try.underlying27 rfl (hashInfoOf l hl)]
  rfl
end Go.Proofs.Ytbbfnpfkbbpjgaa

/- Package once: public, by the closure of Public. -/
namespace Go.Proofs.Ytbbfnpfkbbpjgaa
open Go.RowKit Go.Lib

def tagOnce : List UInt8 := [111, 110, 99, 101]
/-- What the marks come to, place by place. -/
def joinM (m : Nat → List UInt8 × List UInt8) (k : Nat) : List UInt8 := (List.range k).flatMap fun i => (m i).1 ++ (m i).2
theorem joinM_succ (m : Nat → List UInt8 × List UInt8) (k : Nat) : joinM m (k + 1) = joinM m k ++ (m k).1 ++ (m k).2 := by
  unfold joinM
  rw [List.range_succ, List.flatMap_append]
  simp
theorem joinM_length (m : Nat → List UInt8 × List UInt8) (hm : ∀ i, (m i).1.length = 32 ∧ (m i).2.length = 32) : ∀ k, (joinM m k).length = 64 * k
  | 0 => rfl
  | k + 1 => by rw [joinM_succ, List.length_append, List.length_append, joinM_length m hm k, (hm k).1, (hm k).2]; omega
def onceL (m : Nat → List UInt8 × List UInt8) : List UInt8 := ofX tagOnce [joinM m 16]
/-- .. and of a place the first j. -/
def halfM (a b : List UInt8) : Nat → List UInt8
  | 0 => []
  | 1 => a
  | _ => a ++ b
theorem builder_more {B b : Nat} {x : List UInt8} {s : List UInt8} {w : World} {all : List UInt8} (h : Lib.BuilderAt 105 5 B b (.pointer (some ⟨b, 0, none⟩)) (Lib.byteCells x ++ Lib.strCells ⟨s.toArray⟩) w) (ha : all = x ++ s) :
    Lib.IsBuilder 105 5 B b (Lib.byteCells all) w := by
  refine Or.inr ?_
  have e : Lib.byteCells all = Lib.byteCells x ++ Lib.strCells ⟨s.toArray⟩ := by rw [ha]; simp [Lib.byteCells, Lib.strCells]
  rw [e]; exact h

-- BEGIN
-- END
end Go.Proofs.Ytbbfnpfkbbpjgaa

/- Package once: the closure of Tells. -/
namespace Go.Proofs.Ytbbfnpfkbbpjgaa
open Go.RowKit Go.Lib

theorem txt_back (s : ByteArray) : (⟨s.data.toList.toArray⟩ : ByteArray) = s := by cases s; simp
/-- A part of a text. -/
def cut (s : ByteArray) (x y : Nat) : List UInt8 := (s.extract x y).data.toList
/-- What a signature's place tells: the two marks. -/
def tellM (m : List UInt8) (sig : ByteArray) (i : Nat) : List UInt8 × List UInt8 :=
  if 16 ≤ i then (zero32, zero32) else if bitL m i = 0 then (markL (cut sig (64 * i) (64 * i + 32)), cut sig (64 * i + 32) (64 * i + 64)) else (cut sig (64 * i + 32) (64 * i + 64), markL (cut sig (64 * i) (64 * i + 32)))
end Go.Proofs.Ytbbfnpfkbbpjgaa

/- Package once: public, by the closure of Tells. -/
namespace Go.Proofs.Ytbbfnpfkbbpjgaa
open Go.RowKit Go.Lib

end Go.Proofs.Ytbbfnpfkbbpjgaa

/- Package once: Tells, Check. -/
namespace Go.Proofs.Ytbbfnpfkbbpjgaa
open Go.RowKit Go.Lib

theorem cut_eq (s : ByteArray) (x y : Nat) : cut s x y = (s.data.toList.drop x).take (y - x) := by
  unfold cut
  rw [ByteArray.data_extract, Array.toList_extract, List.extract_eq_take_drop]
theorem cut_length (s : ByteArray) (x y : Nat) (h : y ≤ s.size) : (cut s x y).length = y - x := by
  have : s.data.toList.length = s.size := by simp
  rw [cut_eq, List.length_take, List.length_drop, this]
  omega
theorem tellM_length (m : List UInt8) (sig : ByteArray) (hs : sig.size = 1024) (i : Nat) : (tellM m sig i).1.length = 32 ∧ (tellM m sig i).2.length = 32 := by
  unfold tellM
  split
  · exact ⟨rfl, rfl⟩
  · have h := cut_length sig (64 * i + 32) (64 * i + 64) (by omega)
    split
    · exact ⟨markL_length _, by rw [h]; omega⟩
    · exact ⟨by rw [h]; omega, markL_length _⟩
/-- What Tells hands back. -/
def tellsL (m : List UInt8) (sig : ByteArray) : List UInt8 := onceL (tellM m sig)
theorem tellsL_length (m : List UInt8) (sig : ByteArray) : (tellsL m sig).length = 32 := ofX_length _ _

end Go.Proofs.Ytbbfnpfkbbpjgaa

/- Package once: Sign. -/
namespace Go.Proofs.Ytbbfnpfkbbpjgaa
open Go.RowKit Go.Lib

/-- What a signature tells of a place: the secret of the message's bit, the mark of the other. -/
def signM (seed m : List UInt8) (i : Nat) : List UInt8 × List UInt8 := (secretL seed i (bitL m i), markL (secretL seed i (1 - bitL m i)))
theorem signM_length (seed m : List UInt8) (i : Nat) : (signM seed m i).1.length = 32 ∧ (signM seed m i).2.length = 32 := ⟨secretL_length _ _ _, markL_length _⟩
def signL (seed m : List UInt8) : List UInt8 := joinM (signM seed m) 16
theorem signL_length (seed m : List UInt8) : (signL seed m).length = 1024 := joinM_length _ (signM_length seed m) 16
theorem below3' (w : World) (a b c : Obj) : Below w.heap.size w (((w.alloc a).alloc b).alloc c) := later (below2 w a b) (below1 _ c)

end Go.Proofs.Ytbbfnpfkbbpjgaa

/- Package once: Public. -/
namespace Go.Proofs.Ytbbfnpfkbbpjgaa
open Go.RowKit Go.Lib

def seedM (seed : List UInt8) (i : Nat) : List UInt8 × List UInt8 := (markL (secretL seed i 0), markL (secretL seed i 1))
theorem seedM_length (seed : List UInt8) (i : Nat) : (seedM seed i).1.length = 32 ∧ (seedM seed i).2.length = 32 := ⟨markL_length _, markL_length _⟩
/-- A seed's public key. -/
def publicL (seed : List UInt8) : List UInt8 := onceL (seedM seed)
theorem publicL_length (seed : List UInt8) : (publicL seed).length = 32 := ofX_length _ _

end Go.Proofs.Ytbbfnpfkbbpjgaa

/- Once, in plain words: a signature tells the public key of the seed that made it. -/
namespace Go.Proofs.Ytbbfnpfkbbpjgaa
open Go.RowKit Go.Lib

theorem joinM_parts (m : Nat → List UInt8 × List UInt8) (i : Nat) : ∀ d, ∃ rest, joinM m (i + 1 + d) = joinM m i ++ (m i).1 ++ (m i).2 ++ rest
  | 0 => ⟨[], by rw [Nat.add_zero, joinM_succ]; simp⟩
  | d + 1 => by
    obtain ⟨rest, h⟩ := joinM_parts m i d
    refine ⟨rest ++ (m (i + 1 + d)).1 ++ (m (i + 1 + d)).2, ?_⟩
    rw [← Nat.add_assoc, joinM_succ, h]
    simp
theorem joinM_cut (m : Nat → List UInt8 × List UInt8) (hm : ∀ i, (m i).1.length = 32 ∧ (m i).2.length = 32) (i : Nat) (hi : i < 16) :
    ((joinM m 16).drop (64 * i)).take 32 = (m i).1 ∧ ((joinM m 16).drop (64 * i + 32)).take 32 = (m i).2 := by
  obtain ⟨rest, h⟩ := joinM_parts m i (15 - i)
  rw [show i + 1 + (15 - i) = 16 by omega] at h
  have hl := joinM_length m hm i
  obtain ⟨h1, h2⟩ := hm i
  rw [h]
  generalize joinM m i = p at *
  generalize (m i).1 = x at *
  generalize (m i).2 = y at *
  constructor
  · rw [← hl, List.append_assoc, List.append_assoc, List.drop_left, ← h1, List.take_left]
  · rw [show 64 * i + 32 = (p ++ x).length by rw [List.length_append, hl, h1], List.append_assoc, List.drop_left, ← h2, List.take_left]
theorem joinM_congr (m n : Nat → List UInt8 × List UInt8) (h : ∀ i, i < 16 → m i = n i) : joinM m 16 = joinM n 16 := by
  unfold joinM
  rw [List.flatMap_def, List.flatMap_def]
  congr 1
  apply List.map_congr_left
  intro i hi
  rw [h i (by simpa using hi)]
theorem tell_sign (seed m : List UInt8) (i : Nat) (hi : i < 16) : tellM m ⟨(signL seed m).toArray⟩ i = seedM seed i := by
  obtain ⟨h1, h2⟩ := joinM_cut (signM seed m) (signM_length seed m) i hi
  have e1 : cut ⟨(signL seed m).toArray⟩ (64 * i) (64 * i + 32) = (signM seed m i).1 := by rw [cut_eq, ← h1, show 64 * i + 32 - 64 * i = 32 by omega]; rfl
  have e2 : cut ⟨(signL seed m).toArray⟩ (64 * i + 32) (64 * i + 64) = (signM seed m i).2 := by rw [cut_eq, ← h2, show 64 * i + 64 - (64 * i + 32) = 32 by omega]; rfl
  unfold tellM seedM
  rw [if_neg (by omega), e1, e2]
  have hb := bitL_lt m i
  unfold signM
  split
  · rename_i h0
    rw [h0]
  · rename_i h0
    rw [show bitL m i = 1 by omega]
theorem tells_sign (seed m : List UInt8) : tellsL m ⟨(signL seed m).toArray⟩ = publicL seed := by
  unfold tellsL publicL onceL
  rw [joinM_congr _ _ (tell_sign seed m)]
end Go.Proofs.Ytbbfnpfkbbpjgaa

/- Package once: Check. -/
namespace Go.Proofs.Ytbbfnpfkbbpjgaa
open Go.RowKit Go.Lib

end Go.Proofs.Ytbbfnpfkbbpjgaa

/- Package once: Tells of a text that has not the length. -/
namespace Go.Proofs.Ytbbfnpfkbbpjgaa
open Go.RowKit Go.Lib

end Go.Proofs.Ytbbfnpfkbbpjgaa

/- Package once: Check of a text that has not the length. -/
namespace Go.Proofs.Ytbbfnpfkbbpjgaa
open Go.RowKit Go.Lib

end Go.Proofs.Ytbbfnpfkbbpjgaa

/- The small things that the laws of layer 5 ask first. -/
namespace Go.Proofs.Ytbbfnpfkbbpjgaa
open Go.RowKit Go.Lib

def one32 : List UInt8 := 1 :: List.replicate 31 0
def two32 : List UInt8 := 2 :: List.replicate 31 0
theorem built_one : Try.prog.built 27 [(0, .int .u8 1)] = some (bvs one32).toArray := by kernel_rfl
theorem built_two : Try.prog.built 27 [(0, .int .u8 2)] = some (bvs two32).toArray := by kernel_rfl

/-- What Tells hands back, whatever the text. -/
def tellsR (m : List UInt8) (sig : ByteArray) : List UInt8 × Int := if sig.size = 1024 then (tellsL m sig, 0) else (zero32, 6)
theorem tellsR_length (m : List UInt8) (sig : ByteArray) : (tellsR m sig).1.length = 32 := by unfold tellsR; split; exact tellsL_length _ _; rfl
def checkR (p m : List UInt8) (sig : ByteArray) : Bool := decide (sig.size = 1024) && decide (tellsL m sig = p)
/-- Only the first two bytes of a message count. -/
theorem bitL_two (a b : List UInt8) (h0 : a.getD 0 0 = b.getD 0 0) (h1 : a.getD 1 0 = b.getD 1 0) (i : Nat) (hi : i < 16) : bitL a i = bitL b i := by
  unfold bitL
  rcases (by omega : i / 8 = 0 ∨ i / 8 = 1) with h | h <;> rw [h]
  · rw [h0]
  · rw [h1]
theorem tellsR_two (a b : List UInt8) (sig : ByteArray) (h0 : a.getD 0 0 = b.getD 0 0) (h1 : a.getD 1 0 = b.getD 1 0) : tellsR a sig = tellsR b sig := by
  unfold tellsR tellsL onceL
  rw [joinM_congr (tellM a sig) (tellM b sig) (fun i hi => by unfold tellM; rw [bitL_two a b h0 h1 i hi])]
theorem signL_two (seed a b : List UInt8) (h0 : a.getD 0 0 = b.getD 0 0) (h1 : a.getD 1 0 = b.getD 1 0) : signL seed a = signL seed b := by
  unfold signL
  exact joinM_congr _ _ (fun i hi => by unfold signM; rw [bitL_two a b h0 h1 i hi])
end Go.Proofs.Ytbbfnpfkbbpjgaa
