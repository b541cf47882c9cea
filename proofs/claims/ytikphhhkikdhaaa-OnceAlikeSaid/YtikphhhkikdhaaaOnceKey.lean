/- Package once: Public. -/
import Derived.Test.YtikphhhkikdhaaaOncePublic
namespace Go.Proofs.Ytikphhhkikdhaaa
open Go.RowKit Go.Lib

def seedM (seed : List UInt8) (i : Nat) : List UInt8 × List UInt8 := (markL (secretL seed i 0), markL (secretL seed i 1))
theorem seedM_length (seed : List UInt8) (i : Nat) : (seedM seed i).1.length = 32 ∧ (seedM seed i).2.length = 32 := ⟨markL_length _, markL_length _⟩
/-- A seed's public key. -/
def publicL (seed : List UInt8) : List UInt8 := onceL (seedM seed)
theorem publicL_length (seed : List UInt8) : (publicL seed).length = 32 := ofX_length _ _

set_option maxRecDepth 100000 in
set_option maxHeartbeats 1600000 in
theorem publicKey_any (seed : List UInt8) (hl : seed.length = 32) (w : World) :
    Calls Try.prog 16 #[hv seed] w fun e w' => e = .returned (hv (publicL seed)) ∧ Below w.heap.size w w' := by
  obtain ⟨R, hR⟩ : ∃ R, R = publicL seed := ⟨_, rfl⟩
  have HR := hide hR
  have HLR : Hid (R.length = 32) := by rw [hR]; exact publicL_length seed
  rw [← hR]
  clear hR
  have HA := hide (HashAt.new2 (w.alloc (.cells (bvs seed).toArray 23)) (.cells (bvs zero32).toArray 23) zero32 rfl)
  clear HA
  have hA := HashAt.alloc (HashAt.new w seed hl) (.cells (bvs zero32).toArray 23)
  have hZ := HashAt.new2 w (.cells (bvs seed).toArray 23) zero32 rfl
  have hb := below2 w (.cells (bvs seed).toArray 23) (.cells (bvs zero32).toArray 23)
  unfold hv
  go_enter Try.func16, Try.ntmps16
  go_wp2_with fail
  show Calls _ _ _ ((w.alloc (.cells (bvs seed).toArray 23)).alloc (.cells (bvs zero32).toArray 23)) _
  generalize (w.alloc (.cells (bvs seed).toArray 23)).alloc (.cells (bvs zero32).toArray 23) = W at *
  refine (public_seed (seedM seed) (seedM_length seed) w.heap.size W (fun w' => HashAt w' w.heap.size seed) (fun w' h => hA.later h) (fun i w' hi h => pub1_any seed w.heap.size i hi w' h)).mono ?_
  rintro _ w1 ⟨rfl, hb1⟩
  have e : hv (onceL (seedM seed)) = hv R := by rw [HR.out]; rfl
  rw [e]
  clear e
  have z1 := hZ.later hb1
  have q1 := hide (z1.row R HLR.out)
  have b1 := hide (below_setRow (later hb hb1) (Nat.le_succ w.heap.size) (bvs R).toArray)
  go_wp2_with (refine wpl_store_hash rfl _ _ rfl rfl rfl HLR.out z1 ?_)
  exact bodyPost_ret (v := hv R) (ret_hash rfl _ _ rfl q1.out) rfl ⟨rfl, b1.out⟩
end Go.Proofs.Ytikphhhkikdhaaa
