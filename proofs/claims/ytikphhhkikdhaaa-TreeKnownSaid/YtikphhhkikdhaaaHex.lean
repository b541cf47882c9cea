/- sha.Bytes, sha.Hex as contracts. -/
import Derived.Test.YtikphhhkikdhaaaBuilder
import Derived.Test.YtikphhhkikdhaaaShaSum
namespace Go.Proofs.Ytikphhhkikdhaaa
open Go.RowKit Go.Lib

theorem hash_index (l : List UInt8) (hl : l.length = 32) (k : Nat) (hk : k < 32) (w : World) :
    (Instr.index 23 (.agg (bvs l).toArray) (.int .i64 k)).run Try.prog w = .ok (.int .u8 ((l.getD k 0).toNat : Int)) w := by
  have h2 : (bvs l)[k]? = some (.int .u8 ((l.getD k 0).toNat : Int)) := by simp [bvs, hl, hk]
  simp [Instr.index, asIntOf, go_sem, Try.sizeOf5, Try.isAgg5]
  rw [if_pos hk, h2]
  simp

def hexS : ByteArray := ⟨#[48, 49, 50, 51, 52, 53, 54, 55, 56, 57, 97, 98, 99, 100, 101, 102]⟩
def hexD (n : Nat) : UInt8 := [48, 49, 50, 51, 52, 53, 54, 55, 56, 57, 97, 98, 99, 100, 101, 102].getD n 0
def hexL (l : List UInt8) : List UInt8 := l.flatMap fun c => [hexD (c.toNat / 16), hexD (c.toNat % 16)]

theorem hexS_at (n : Nat) (h : n < (⟨#[48, 49, 50, 51, 52, 53, 54, 55, 56, 57, 97, 98, 99, 100, 101, 102]⟩ : ByteArray).size) : (((⟨#[48, 49, 50, 51, 52, 53, 54, 55, 56, 57, 97, 98, 99, 100, 101, 102]⟩ : ByteArray)[n]'h).toNat : Int) = ((hexD n).toNat : Int) := by
  have h' : n < 16 := h
  have : (⟨#[48, 49, 50, 51, 52, 53, 54, 55, 56, 57, 97, 98, 99, 100, 101, 102]⟩ : ByteArray)[n]'h = hexD n := by
    show (#[48, 49, 50, 51, 52, 53, 54, 55, 56, 57, 97, 98, 99, 100, 101, 102] : Array UInt8)[n]'h = _
    have hc : n = 0 ∨ n = 1 ∨ n = 2 ∨ n = 3 ∨ n = 4 ∨ n = 5 ∨ n = 6 ∨ n = 7 ∨ n = 8 ∨ n = 9 ∨ n = 10 ∨ n = 11 ∨ n = 12 ∨ n = 13 ∨ n = 14 ∨ n = 15 := by omega
    rcases hc with rfl | rfl | rfl | rfl | rfl | rfl | rfl | rfl | rfl | rfl | rfl | rfl | rfl | rfl | rfl | rfl <;> rfl
  rw [this]
theorem hexL_length (l : List UInt8) : (hexL l).length = 2 * l.length := by
  induction l with
  | nil => rfl
  | cons a l ih => simp only [hexL, List.flatMap_cons, List.length_append, List.length_cons, List.length_nil] at ih ⊢; omega
set_option maxRecDepth 100000 in
set_option maxHeartbeats 3200000 in
theorem bytes_any (l : List UInt8) (w : World) (hl : l.length = 32) :
    Calls Try.prog 25 #[hv l] w fun e w' => e = .returned (.string ⟨l.toArray⟩) ∧ Below w.heap.size w w' := by
  unfold hv
  have ht := Byts.text (P := Try.prog) (Arr.new w (bvs l) 23 : Byts _ _ _ l) 53 9 5 32 32 hl Try.underlying53 Try.underlying5 Try.underlying9
  clear hl
  go_enter Try.func25, Try.ntmps25
  go_wp2_with fail
  go_ret
  exact ⟨rfl, below1 _ _⟩

end Go.Proofs.Ytikphhhkikdhaaa
