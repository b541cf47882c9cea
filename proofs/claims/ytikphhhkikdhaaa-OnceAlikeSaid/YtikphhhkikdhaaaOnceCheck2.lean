/- Package once: Check of a text that has not the length. -/
import Derived.Test.YtikphhhkikdhaaaOnceTells2
namespace Go.Proofs.Ytikphhhkikdhaaa
open Go.RowKit Go.Lib

set_option maxRecDepth 100000 in
set_option maxHeartbeats 800000 in
theorem check_bad (p m : List UInt8) (sig : ByteArray) (hp : p.length = 32) (hl : m.length = 32) (hs : sig.size ≠ 1024) (w : World) :
    Calls Try.prog 22 #[hv p, hv m, .string sig] w fun e w' => e = .returned (.bool false) ∧ Below w.heap.size w w' := by
  have HT := hide (fun w => tells_bad m sig hs w)
  have hP := HashAt.alloc (HashAt.new w p hp) (.cells (bvs m).toArray 23)
  have hM := HashAt.new2 w (.cells (bvs p).toArray 23) m hl
  have hb := below2 w (.cells (bvs p).toArray 23) (.cells (bvs m).toArray 23)
  clear hl hs hp
  unfold hv
  go_enter Try.func22, Try.ntmps22
  go_wp2_with (refine wpl_load_hash (w := (w.alloc (.cells (bvs p).toArray 23)).alloc (.cells (bvs m).toArray 23)) rfl _ rfl rfl hM ?_)
  show Calls _ _ _ ((w.alloc (.cells (bvs p).toArray 23)).alloc (.cells (bvs m).toArray 23)) _
  generalize (w.alloc (.cells (bvs p).toArray 23)).alloc (.cells (bvs m).toArray 23) = W at *
  refine (HT.out _).mono ?_
  rintro _ w1 ⟨rfl, hb1⟩
  have z1 := HashAt.zero w1
  have b1 := later (later hb hb1) (below1 w1 (.cells (bvs zero32).toArray 23))
  have b2 := below_setRow b1 (show w.heap.size ≤ w1.heap.size by have := (hP.later hb1).lt; omega) (bvs zero32).toArray
  clear hP hM hb hb1 b1
  go_wp2_with (refine wpl_store_hash (w := w1.alloc (.cells (bvs zero32).toArray 23)) rfl _ _ rfl rfl rfl rfl z1 ?_)
  show bodyPost _ _ _ _ _ ((w1.alloc (.cells (bvs zero32).toArray 23)).setRow w1.heap.size (bvs zero32).toArray)
  generalize (w1.alloc (.cells (bvs zero32).toArray 23)).setRow w1.heap.size (bvs zero32).toArray = w2 at *
  go_ret
  exact ⟨rfl, b2⟩
end Go.Proofs.Ytikphhhkikdhaaa
