/- sha.Bytes, sha.Hex as contracts. -/
import Derived.Test.YtfgmhmhankikmaaBuilder
import Derived.Test.YtfgmhmhankikmaaShaSum
namespace Go.Proofs.Ytfgmhmhankikmaa
open Go.RowKit Go.Lib

theorem hash_index (l : List UInt8) (hl : l.length = 32) (k : Nat) (hk : k < 32) (w : World) :
    (Instr.index 23 (.agg (bvs l).toArray) (.int .i64 k)).run Try.prog w = .ok (.int .u8 ((l.getD k 0).toNat : Int)) w := by
  have h2 : (bvs l)[k]? = some (.int .u8 ((l.getD k 0).toNat : Int)) := by simp [bvs, hl, hk]
  simp [Instr.index, asIntOf, go_sem, Try.sizeOf5, Try.isAgg5]
  rw [if_pos hk, h2]
  simp

def hexS : ByteArray := ⟨#[48, 49, 50, 51, 52, 53, 54, 55, 56, 57, 97, 98, 99, 100, 101, 102]⟩
def hexD (n : Nat) : UInt8 := [48, 49, 50, 51, 52, 53, 54, 55, 56, 57, 97, 98, 99, 100, 101, 102].getD n 0
def hexL (l : List UInt8) : List UInt8 := l.flatMap fun c => [hexD (c.toNat / 16), hexD (c.toNat % 16)]

theorem hexS_at (n : Nat) (h : n < (⟨#[48, 49, 50, 51, 52, 53, 54, 55, 56, 57, 97, 98, 99, 100, 101, 102]⟩ : ByteArray).size) : (((⟨#[48, 49, 50, 51, 52, 53, 54, 55, 56, 57, 97, 98, 99, 100, 101, 102]⟩ : ByteArray)[n]'h).toNat : Int) = ((hexD n).toNat : Int) := by
  have h' : n < 16 := h
  have : (⟨#[48, 49, 50, 51, 52, 53, 54, 55, 56, 57, 97, 98, 99, 100, 101, 102]⟩ : ByteArray)[n]'h = hexD n := by
    show (#[48, 49, 50, 51, 52, 53, 54, 55, 56, 57, 97, 98, 99, 100, 101, 102] : Array UInt8)[n]'h = _
    have hc : n = 0 ∨ n = 1 ∨ n = 2 ∨ n = 3 ∨ n = 4 ∨ n = 5 ∨ n = 6 ∨ n = 7 ∨ n = 8 ∨ n = 9 ∨ n = 10 ∨ n = 11 ∨ n = 12 ∨ n = 13 ∨ n = 14 ∨ n = 15 := by omega
    rcases hc with rfl | rfl | rfl | rfl | rfl | rfl | rfl | rfl | rfl | rfl | rfl | rfl | rfl | rfl | rfl | rfl <;> rfl
  rw [this]
theorem hexL_length (l : List UInt8) : (hexL l).length = 2 * l.length := by
  induction l with
  | nil => rfl
  | cons a l ih => simp only [hexL, List.flatMap_cons, List.length_append, List.length_cons, List.length_nil] at ih ⊢; omega
set_option maxRecDepth 100000 in
set_option maxHeartbeats 3200000 in
theorem bytes_any (l : List UInt8) (w : World) (hl : l.length = 32) :
    Calls Try.prog 18 #[hv l] w fun e w' => e = .returned (.string ⟨l.toArray⟩) ∧ Below w.heap.size w w' := by
  unfold hv
  have ht := Byts.text (P := Try.prog) (Arr.new w (bvs l) 23 : Byts _ _ _ l) 28 9 5 32 32 hl Try.underlying28 Try.underlying5 Try.underlying9
  clear hl
  go_enter Try.func18, Try.ntmps18
  go_wp2_with fail
  go_ret
  exact ⟨rfl, below1 _ _⟩

set_option maxRecDepth 100000 in
set_option maxHeartbeats 3200000 in
theorem hex_any (l : List UInt8) (w : World) (hl : l.length = 32) :
    Calls Try.prog 17 #[hv l] w fun e w' => e = .returned (.string ⟨(hexL l).toArray⟩) ∧ Below w.heap.size w w' := by
  unfold hv
  have hi : Hid ((Try.prog.info? 23).map (·.size) = some (bvs l).toArray.size) := by rw [show (bvs l).toArray.size = 32 by simp [bvs, hl]]; unfold Hid; kernel_rfl
  have hrow := hide (Arr.alloc (Arr.new w (bvs l) 23) (.cells #[.pointer none, .slice none 0 0] 60))
  have HL := hide hl
  have hix := hide (fun k (hk : k < 32) => hash_index l hl k hk)
  have hb := hide (below2 w (.cells (bvs l).toArray 23) (.cells #[.pointer none, .slice none 0 0] 60))
  have hbu : Hid (Lib.IsBuilder 60 5 w.heap.size (w.heap.size + 1) [] ((w.alloc (.cells (bvs l).toArray 23)).alloc (.cells #[.pointer none, .slice none 0 0] 60))) := by
    refine Or.inl ⟨by omega, .slice none 0 0, ?_, World.ownsRow_nil _ _ _ _, by simp [Value.ownBlock]⟩
    have := Arr.new2 w (.cells (bvs l).toArray 23) [.pointer none, .slice none 0 0] 60
    exact this
  clear hl
  obtain ⟨R, hR⟩ : ∃ R, R = hexL l := ⟨_, rfl⟩
  rw [← hR]
  have HR := hide hR
  clear hR
  go_enter Try.func17, Try.ntmps17
  go_wp2_with (refine wpList_load_row rfl 23 (.tmp 1) rfl w.heap.size rfl 23 (bvs l).toArray (0, 0) _ hrow.out Try.underlying23 rfl hi.out ?_)
  generalize (w.alloc (.cells (bvs l).toArray 23)).alloc (.cells #[.pointer none, .slice none 0 0] 60) = W at *
  go_loopw [7] (fun i wr => ∃ k : Nat, k ≤ 32 ∧ i = .int .i64 k ∧ Lib.IsBuilder 60 5 w.heap.size (w.heap.size + 1) (Lib.byteCells (hexL (l.take k))) wr ∧ Below w.heap.size w wr) (fun i _ => 32 - (RowKit.intOf i).toNat)
  case atStart => exact ⟨0, by omega, rfl, hbu.out, hb.out⟩
  case round =>
    obtain ⟨k, hk, rfl, qb, qw⟩ := hrel
    have qs := qw.size
    by_cases hlt : k < 32
    · have ix := hix.out k hlt
      have hc : (l.getD k 0).toNat < 256 := (l.getD k 0).toNat_lt
      have HX : Hid (hexL (l.take (k + 1)) = hexL (l.take k) ++ [hexD ((l.getD k 0).toNat / 16), hexD ((l.getD k 0).toNat % 16)]) := by
        unfold Hid hexL
        rw [List.take_succ_eq_append_getElem (by rw [HL.out]; omega), List.flatMap_append]
        have e : l.getD k 0 = l[k]'(by rw [HL.out]; omega) := by simp [HL.out, hlt]
        rw [e]
        simp
      have HLN : Hid ((hexL (l.take k)).length = 2 * k) := by unfold Hid; rw [hexL_length, List.length_take, HL.out]; omega
      generalize (l.getD k 0).toNat = c at *
      have e1 := hexS_at (c / 16)
      have e2 := hexS_at (c % 16)
      have b1 : (0 : Int) ≤ (c : Int) / 16 := by omega
      have b2 : (c : Int) / 16 < 16 := by omega
      generalize hexD (c / 16) = d1 at *
      generalize hexD (c % 16) = d2 at *
      go_wp2_with fail
      refine (writeByte _ _ _ _ _ qb (by rw [Lib.byteCells_length, HLN.out]; omega) qs).mono ?_
      rintro _ w1 ⟨rfl, qb1, qw1⟩
      clear e1
      have qs1 := qw1.size
      go_wp2_with fail
      refine (writeByte _ _ _ _ _ (Or.inr qb1) (by rw [List.length_append, Lib.byteCells_length, HLN.out]; simp; omega) (by omega)).mono ?_
      rintro _ w2 ⟨rfl, qb2, qw2⟩
      have hbe := qw.trans (qw1.trans qw2)
      have qb3 : Lib.IsBuilder 60 5 w.heap.size (w.heap.size + 1) (Lib.byteCells (hexL (l.take (k + 1)))) w2 := by
        rw [HX.out]
        refine Or.inr ?_
        have e : Lib.byteCells (hexL (l.take k) ++ [d1, d2]) = Lib.byteCells (hexL (l.take k)) ++ [Value.int .u8 d1.toNat] ++ [Value.int .u8 d2.toNat] := by simp [Lib.byteCells]
        rw [e]
        exact qb2
      clear e2 qb1 qb2 qb qw1 qw2 qw
      go_wp2_with fail
      go_roundw
      case rel => exact ⟨k + 1, by omega, by simp, qb3, hbe⟩
      case measure => simp [RowKit.intOf]; omega
    · have hk32 : k = 32 := by omega
      subst hk32
      rw [show l.take 32 = l by rw [← HL.out, List.take_length], ← HR.out] at qb
      go_wp2_with fail
      refine (Try.Builder_String_any _ _ _ _ qb qs).mono ?_
      rintro _ w1 ⟨rfl, hb1⟩
      go_wp2_with fail
      go_ret
      exact ⟨rfl, qw.trans hb1⟩
end Go.Proofs.Ytfgmhmhankikmaa
