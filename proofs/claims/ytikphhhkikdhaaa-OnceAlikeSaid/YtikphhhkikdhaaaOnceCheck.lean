/- Package once: Check. -/
import Derived.Test.YtikphhhkikdhaaaOnceTells
namespace Go.Proofs.Ytikphhhkikdhaaa
open Go.RowKit Go.Lib

set_option maxRecDepth 100000 in
set_option maxHeartbeats 800000 in
theorem check_any (p m : List UInt8) (sig : ByteArray) (hp : p.length = 32) (hl : m.length = 32) (hs : sig.size = 1024) (w : World) :
    Calls Try.prog 22 #[hv p, hv m, .string sig] w fun e w' => e = .returned (.bool (decide (tellsL m sig = p))) ∧ Below w.heap.size w w' := by
  have HT := hide (fun w => tells_any m sig hl hs w)
  have HLR := hide (tellsL_length m sig)
  have hP := HashAt.alloc (HashAt.new w p hp) (.cells (bvs m).toArray 23)
  have hM := HashAt.new2 w (.cells (bvs p).toArray 23) m hl
  have hb := below2 w (.cells (bvs p).toArray 23) (.cells (bvs m).toArray 23)
  have HP := hide hp
  clear hl hs hp
  generalize tellsL m sig = R at *
  unfold hv
  go_enter Try.func22, Try.ntmps22
  go_wp2_with (refine wpl_load_hash (w := (w.alloc (.cells (bvs p).toArray 23)).alloc (.cells (bvs m).toArray 23)) rfl _ rfl rfl hM ?_)
  show Calls _ _ _ ((w.alloc (.cells (bvs p).toArray 23)).alloc (.cells (bvs m).toArray 23)) _
  generalize (w.alloc (.cells (bvs p).toArray 23)).alloc (.cells (bvs m).toArray 23) = W at *
  refine (HT.out _).mono ?_
  rintro _ w1 ⟨rfl, hb1⟩
  have z1 := HashAt.zero w1
  have p1 := (hP.later hb1).alloc (.cells (bvs zero32).toArray 23)
  have b1 := later (later hb hb1) (below1 w1 (.cells (bvs zero32).toArray 23))
  have n1 : w.heap.size ≠ w1.heap.size := by have := (hP.later hb1).lt; omega
  have q1 := z1.row R HLR.out
  have p2 := p1.row_other w1.heap.size (bvs R).toArray n1
  have b2 := below_setRow b1 (show w.heap.size ≤ w1.heap.size by have := (hP.later hb1).lt; omega) (bvs R).toArray
  clear hP hM hb hb1 p1 b1 n1
  go_wp2_with (first | (refine wpl_store_hash (w := w1.alloc (.cells (bvs zero32).toArray 23)) rfl _ _ rfl rfl rfl HLR.out z1 ?_) | (refine wpl_load_hash (w := (w1.alloc (.cells (bvs zero32).toArray 23)).setRow w1.heap.size (bvs R).toArray) rfl _ rfl rfl q1 ?_) | (refine wpl_load_hash (w := (w1.alloc (.cells (bvs zero32).toArray 23)).setRow w1.heap.size (bvs R).toArray) rfl _ rfl rfl p2 ?_) | (refine wpl_eq_hash rfl _ _ rfl rfl rfl HLR.out HP.out ?_))
  go_ret
  exact ⟨rfl, b2⟩
end Go.Proofs.Ytikphhhkikdhaaa
