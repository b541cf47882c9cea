/- Package once: Tells of a text that has not the length. -/
import Derived.Test.YtikphhhkikdhaaaOnceTells
namespace Go.Proofs.Ytikphhhkikdhaaa
open Go.RowKit Go.Lib

set_option maxRecDepth 100000 in
set_option maxHeartbeats 400000 in
theorem tells_bad (m : List UInt8) (sig : ByteArray) (hs : sig.size ≠ 1024) (w : World) :
    Calls Try.prog 20 #[hv m, .string sig] w fun e w' => e = .returned (.tuple #[hv zero32, .int .i64 6]) ∧ Below w.heap.size w w' := by
  have hZ : HashAt (((w.alloc (.cells (bvs m).toArray 23)).alloc (.cells #[.string sig] 9)).alloc (.cells (bvs zero32).toArray 23)) (w.heap.size + 2) zero32 := by
    have := HashAt.new ((w.alloc (.cells (bvs m).toArray 23)).alloc (.cells #[.string sig] 9)) zero32 rfl
    simpa using this
  have hb : Below w.heap.size w (((w.alloc (.cells (bvs m).toArray 23)).alloc (.cells #[.string sig] 9)).alloc (.cells (bvs zero32).toArray 23)) := later (below2 w _ _) (below1 _ _)
  have hd : ((sig.size : Int) != 1024) = true := by simp; omega
  clear hs
  unfold hv
  go_enter Try.func20, Try.ntmps20
  have q1 := hZ.row zero32 rfl
  have b1 := below_setRow hb (show w.heap.size ≤ w.heap.size + 2 by omega) (bvs zero32).toArray
  go_wp2_with (first | (refine wpl_build rfl 23 _ rfl (bvs zero32).toArray (by simpa using hashBuilt) ?_) | (refine wpl_store_hash (w := ((w.alloc (.cells (bvs m).toArray 23)).alloc (.cells #[.string sig] 9)).alloc (.cells (bvs zero32).toArray 23)) rfl _ _ rfl rfl rfl rfl hZ ?_))
  show bodyPost _ _ _ _ _ ((((w.alloc (.cells (bvs m).toArray 23)).alloc (.cells #[.string sig] 9)).alloc (.cells (bvs zero32).toArray 23)).setRow (w.heap.size + 2) (bvs zero32).toArray)
  generalize (((w.alloc (.cells (bvs m).toArray 23)).alloc (.cells #[.string sig] 9)).alloc (.cells (bvs zero32).toArray 23)).setRow (w.heap.size + 2) (bvs zero32).toArray = W at *
  exact bodyPost_ret (ret_hash_tmp (g := w.heap.size + 2) rfl _ _ (.int .i64 6) rfl rfl q1) rfl ⟨rfl, b1⟩
end Go.Proofs.Ytikphhhkikdhaaa
