/- sha.start, sha.roots, digit.Eight as contracts. -/
import Derived.Test.YtikphhhkikdhaaaShaGoes
import Derived.Test.YtikphhhkikdhaaaByts
namespace Go.Proofs.Ytikphhhkikdhaaa
open Go.RowKit Go.Lib

theorem wpList_build_is {P : Program} {ops : Array Oper} {rest : List Oper} {o : Oper} {a : Act} {w : World} {Q : Exit → Act → World → Prop} (hg : o.guard = none) (t : TypeId) (parts : Array (Nat × Operand)) (ho : o.op = .build t parts)
    (cs : Array Value) (hf : P.built t (parts.map fun (i, x) => (i, a.eval x)).toList = some cs)
    (h : wpList P ops Q rest (a.put o.dst (.agg cs)) w) : wpList P ops Q (o :: rest) a w := by
  refine wpList_build hg t parts ho (by rw [hf]; rfl) ?_
  rw [hf]
  exact h
theorem below1 (w : World) (o : Obj) : Below w.heap.size w (w.alloc o) := (Below.refl _ _).alloc (Nat.le_refl _) _

set_option maxRecDepth 100000 in
theorem start_any (w : World) : Calls Try.prog 62 #[] w fun e w' => e = .returned startV.val ∧ Below w.heap.size w w' := by
  go_enter Try.func62, Try.ntmps62
  go_wp2_with fail
  exact bodyPost_ret (v := startV.val) (results_cell_row rfl _ _ w.heap.size 72 _ (0, 0) _ rfl (by exact Arr.new w (wvs startV.list) 72) Try.underlying72 rfl (by kernel_rfl)) rfl ⟨rfl, below1 _ _⟩

def rootsP : Array (Nat × Operand) := #[
  (0, .const (.int .u32 1116352408)), (1, .const (.int .u32 1899447441)), (2, .const (.int .u32 3049323471)), (3, .const (.int .u32 3921009573)), (4, .const (.int .u32 961987163)), (5, .const (.int .u32 1508970993)), (6, .const (.int .u32 2453635748)), (7, .const (.int .u32 2870763221)),
  (8, .const (.int .u32 3624381080)), (9, .const (.int .u32 310598401)), (10, .const (.int .u32 607225278)), (11, .const (.int .u32 1426881987)), (12, .const (.int .u32 1925078388)), (13, .const (.int .u32 2162078206)), (14, .const (.int .u32 2614888103)), (15, .const (.int .u32 3248222580)),
  (16, .const (.int .u32 3835390401)), (17, .const (.int .u32 4022224774)), (18, .const (.int .u32 264347078)), (19, .const (.int .u32 604807628)), (20, .const (.int .u32 770255983)), (21, .const (.int .u32 1249150122)), (22, .const (.int .u32 1555081692)), (23, .const (.int .u32 1996064986)),
  (24, .const (.int .u32 2554220882)), (25, .const (.int .u32 2821834349)), (26, .const (.int .u32 2952996808)), (27, .const (.int .u32 3210313671)), (28, .const (.int .u32 3336571891)), (29, .const (.int .u32 3584528711)), (30, .const (.int .u32 113926993)), (31, .const (.int .u32 338241895)),
  (32, .const (.int .u32 666307205)), (33, .const (.int .u32 773529912)), (34, .const (.int .u32 1294757372)), (35, .const (.int .u32 1396182291)), (36, .const (.int .u32 1695183700)), (37, .const (.int .u32 1986661051)), (38, .const (.int .u32 2177026350)), (39, .const (.int .u32 2456956037)),
  (40, .const (.int .u32 2730485921)), (41, .const (.int .u32 2820302411)), (42, .const (.int .u32 3259730800)), (43, .const (.int .u32 3345764771)), (44, .const (.int .u32 3516065817)), (45, .const (.int .u32 3600352804)), (46, .const (.int .u32 4094571909)), (47, .const (.int .u32 275423344)),
  (48, .const (.int .u32 430227734)), (49, .const (.int .u32 506948616)), (50, .const (.int .u32 659060556)), (51, .const (.int .u32 883997877)), (52, .const (.int .u32 958139571)), (53, .const (.int .u32 1322822218)), (54, .const (.int .u32 1537002063)), (55, .const (.int .u32 1747873779)),
  (56, .const (.int .u32 1955562222)), (57, .const (.int .u32 2024104815)), (58, .const (.int .u32 2227730452)), (59, .const (.int .u32 2361852424)), (60, .const (.int .u32 2428436474)), (61, .const (.int .u32 2756734187)), (62, .const (.int .u32 3204031479)), (63, .const (.int .u32 3329325298))]
theorem rootsP_built (a : Act) : Try.prog.built 74 (rootsP.map fun (i, x) => (i, a.eval x)).toList = some (wvs rootsL).toArray := by kernel_rfl
set_option maxRecDepth 100000 in
set_option maxHeartbeats 3200000 in
theorem roots_any (w : World) : Calls Try.prog 63 #[] w fun e w' => e = .returned (.agg (wvs rootsL).toArray) ∧ Below w.heap.size w w' := by
  have hone := wvs_one rootsL
  have HI : Hid ((Try.prog.info? 74).map (·.size) = some (wvs rootsL).toArray.size) := by unfold Hid; kernel_rfl
  have HZ : Hid ((wvs (List.replicate 64 0)).toArray.size = (wvs rootsL).toArray.size) := rfl
  have HONE := hide (show (wvs rootsL).toArray.all (·.oneCell') = true by simpa using hone)
  have HB := hide rootsP_built
  have HP := hide (Arr.new w (wvs (List.replicate 64 0)) 74)
  have hb := below_setRow (below1 w (.cells (wvs (List.replicate 64 0)).toArray 74)) (Nat.le_refl w.heap.size) (wvs rootsL).toArray
  have hrow := Arr.row HP.out (wvs rootsL)
  clear hone
  generalize wvs rootsL = vs at *
  go_enter Try.func63, Try.ntmps63
  go_wp2_with (first | (refine wpList_build_is rfl 74 rootsP rfl vs.toArray (HB.out _) ?_) | (refine wpList_store_row rfl 74 (.tmp 0) (.tmp 1) rfl w.heap.size vs.toArray rfl rfl 74 _ HP.out HI.out HZ.out HONE.out ?_))
  exact bodyPost_ret (v := .agg vs.toArray) (results_cell_row rfl _ _ w.heap.size 74 _ (0, 0) _ rfl hrow Try.underlying74 rfl HI.out) rfl ⟨rfl, hb⟩

/-! ### digit.Eight -/
theorem eightL_length (n : Nat) : (eightL n).length = 8 := by simp [eightL]
theorem eightL_at (n k : Nat) (h : k < 8) : ((((eightL n).getD k 0).toNat : Nat) : Int) = (n : Int) / 2 ^ (56 - 8 * k) % 256 := by
  have e : (eightL n).getD k 0 = UInt8.ofNat (n / 2 ^ (56 - 8 * k) % 256) := by simp [eightL, h]
  rw [e]
  have : (UInt8.ofNat (n / 2 ^ (56 - 8 * k) % 256)).toNat = n / 2 ^ (56 - 8 * k) % 256 := by
    rw [UInt8.toNat_ofNat']
    omega
  rw [this]
  simp
set_option maxRecDepth 100000 in
theorem eight_any (n : Nat) (w : World) : Calls Try.prog 61 #[.int .u64 n] w fun e w' => e = .returned (.string ⟨(eightL n).toArray⟩) ∧ Below w.heap.size w w' := by
  have hl := hide (eightL_length n)
  have ha := hide (eightL_at n)
  generalize eightL n = el at *
  go_enter Try.func61, Try.ntmps61
  go_wp2_with fail
  have r0 : Byts (w.alloc (.cells (bvs (List.replicate 8 0)).toArray 89)) w.heap.size 89 (bfill el 0) := by
    rw [show bfill el 0 = List.replicate 8 0 by simp [bfill, hl.out]]; exact Arr.new w _ _
  have hb := below1 w (.cells (bvs (List.replicate 8 0)).toArray 89)
  show Code.wp _ _ _ _ (w.alloc (.cells (bvs (List.replicate 8 0)).toArray 89))
  generalize w.alloc (.cells (bvs (List.replicate 8 0)).toArray 89) = W at *
  go_loopw [5] (fun i wr => ∃ k : Nat, k ≤ 8 ∧ i = .int .i64 k ∧ Byts wr w.heap.size 89 (bfill el k) ∧ Below w.heap.size w wr) (fun i _ => 8 - (RowKit.intOf i).toNat)
  case atStart => exact ⟨0, by omega, rfl, r0, hb⟩
  case round =>
    obtain ⟨k, hk, rfl, q0, hbr⟩ := hrel
    by_cases hlt : k < 8
    · have t0 := Arr.thaw q0 k
      have hc := q0.cell (i := k) (by rw [bfill_length _ _ (by rw [hl.out]; omega), hl.out]; omega)
      have q1 := Byts.set q0 k (el.getD k 0)
      rw [bfill_next _ _ (by rw [hl.out]; omega), ha.out k hlt] at q1
      have i1 : 0 ≤ 56 - 8 * (k : Int) := by omega
      have i2 : 56 - 8 * (k : Int) ≤ 64 := by omega
      have i3 : 56 - 8 * (k : Int) = ((56 - 8 * k : Nat) : Int) := by omega
      have i4 : (k : Int) < 8 := by omega
      go_wp2_with fail
      exact ⟨⟨k + 1, by omega, by simp, q1, hbr.setCell (Nat.le_refl _) _⟩, by simp [RowKit.intOf]; omega⟩
    · have hk8 : k = 8 := by omega
      subst hk8
      have q1 := q0
      rw [show bfill el 8 = el by have := bfill_full el; rwa [hl.out] at this] at q1
      have ht := Byts.text (P := Try.prog) q1 53 9 5 8 8 hl.out Try.underlying53 Try.underlying5 Try.underlying9
      go_wp2_with fail
      go_ret
      exact ⟨rfl, hbr⟩
end Go.Proofs.Ytikphhhkikdhaaa
