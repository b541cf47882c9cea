/- Package once: Tells, Check. -/
import Derived.Test.YtikphhhkikdhaaaOnceTell1
import Derived.Test.YtikphhhkikdhaaaOncePublic2
namespace Go.Proofs.Ytikphhhkikdhaaa
open Go.RowKit Go.Lib

theorem cut_eq (s : ByteArray) (x y : Nat) : cut s x y = (s.data.toList.drop x).take (y - x) := by
  unfold cut
  rw [ByteArray.data_extract, Array.toList_extract, List.extract_eq_take_drop]
theorem cut_length (s : ByteArray) (x y : Nat) (h : y ≤ s.size) : (cut s x y).length = y - x := by
  have : s.data.toList.length = s.size := by simp
  rw [cut_eq, List.length_take, List.length_drop, this]
  omega
theorem tellM_length (m : List UInt8) (sig : ByteArray) (hs : sig.size = 1024) (i : Nat) : (tellM m sig i).1.length = 32 ∧ (tellM m sig i).2.length = 32 := by
  unfold tellM
  split
  · exact ⟨rfl, rfl⟩
  · have h := cut_length sig (64 * i + 32) (64 * i + 64) (by omega)
    split
    · exact ⟨markL_length _, by rw [h]; omega⟩
    · exact ⟨by rw [h]; omega, markL_length _⟩
/-- What Tells hands back. -/
def tellsL (m : List UInt8) (sig : ByteArray) : List UInt8 := onceL (tellM m sig)
theorem tellsL_length (m : List UInt8) (sig : ByteArray) : (tellsL m sig).length = 32 := ofX_length _ _

set_option maxRecDepth 100000 in
set_option maxHeartbeats 1600000 in
theorem tells_any (m : List UInt8) (sig : ByteArray) (hl : m.length = 32) (hs : sig.size = 1024) (w : World) :
    Calls Try.prog 20 #[hv m, .string sig] w fun e w' => e = .returned (.tuple #[hv (tellsL m sig), .int .i64 0]) ∧ Below w.heap.size w w' := by
  obtain ⟨R, hR⟩ : ∃ R, R = tellsL m sig := ⟨_, rfl⟩
  have HR := hide hR
  have HLR : Hid (R.length = 32) := by rw [hR]; exact tellsL_length _ _
  rw [← hR]
  clear hR
  have hA := HashAt.alloc (HashAt.alloc (HashAt.new w m hl) (.cells #[.string sig] 9)) (.cells (bvs zero32).toArray 23)
  have hS : (((w.alloc (.cells (bvs m).toArray 23)).alloc (.cells #[.string sig] 9)).alloc (.cells (bvs zero32).toArray 23)).cell? ⟨w.heap.size + 1, 0, none⟩ = some (.string sig) := Arr.cell (Arr.alloc (Arr.new2 w (.cells (bvs m).toArray 23) [.string sig] 9) (.cells (bvs zero32).toArray 23)) (i := 0) (by simp)
  have hZ : HashAt (((w.alloc (.cells (bvs m).toArray 23)).alloc (.cells #[.string sig] 9)).alloc (.cells (bvs zero32).toArray 23)) (w.heap.size + 2) zero32 := by
    have := HashAt.new ((w.alloc (.cells (bvs m).toArray 23)).alloc (.cells #[.string sig] 9)) zero32 rfl
    simpa using this
  have hb : Below w.heap.size w (((w.alloc (.cells (bvs m).toArray 23)).alloc (.cells #[.string sig] 9)).alloc (.cells (bvs zero32).toArray 23)) := later (below2 w _ _) (below1 _ _)
  have hz : w.heap.size + 3 ≤ (((w.alloc (.cells (bvs m).toArray 23)).alloc (.cells #[.string sig] 9)).alloc (.cells (bvs zero32).toArray 23)).heap.size := by simp
  have HT := hide (fun (W : World) (hA : HashAt W w.heap.size m) (hS : W.cell? ⟨w.heap.size + 1, 0, none⟩ = some (.string sig)) (hz : w.heap.size + 3 ≤ W.heap.size) =>
    public_tells (tellM m sig) (tellM_length m sig hs) w.heap.size (w.heap.size + 1) W (fun w' => HashAt w' w.heap.size m ∧ w.heap.size + 3 ≤ w'.heap.size ∧ w'.cell? ⟨w.heap.size + 1, 0, none⟩ = some (.string sig))
      (fun w' h => ⟨hA.later h, by have := h.size; omega, (h.cell (p := ⟨w.heap.size + 1, 0, none⟩) (by show w.heap.size + 1 < _; omega)).trans hS⟩)
      (fun i w' hi h => tell1_any m sig hs w.heap.size (w.heap.size + 1) i hi w' h.1 (by have := h.2.1; omega) h.2.2))
  have hd : ((sig.size : Int) != 1024) = false := by simp [hs]
  have HSZ := hide hs
  clear hs hl
  unfold hv
  go_enter Try.func20, Try.ntmps20
  go_wp2_with fail
  show Calls _ _ _ (((w.alloc (.cells (bvs m).toArray 23)).alloc (.cells #[.string sig] 9)).alloc (.cells (bvs zero32).toArray 23)) _
  generalize ((w.alloc (.cells (bvs m).toArray 23)).alloc (.cells #[.string sig] 9)).alloc (.cells (bvs zero32).toArray 23) = W at *
  refine (HT.out W hA hS hz).mono ?_
  rintro _ w1 ⟨rfl, hb1⟩
  have e : hv (onceL (tellM m sig)) = hv R := by rw [HR.out]; rfl
  rw [e]
  clear e
  have z1 := hZ.later hb1
  have q1 := hide (z1.row R HLR.out)
  have b1 := hide (below_setRow (later hb hb1) (show w.heap.size ≤ w.heap.size + 2 by omega) (bvs R).toArray)
  go_wp2_with (refine wpl_store_hash rfl _ _ rfl rfl rfl HLR.out z1 ?_)
  exact bodyPost_ret (ret_hash_tmp rfl _ _ (.int .i64 0) rfl rfl q1.out) rfl ⟨rfl, b1.out⟩

end Go.Proofs.Ytikphhhkikdhaaa
