/- The reference of layer 6: Over, May, Public. -/
import Derived.Test.YtofjjpielkfloaaQEvoRef2
namespace Go.Proofs.Ytofjjpielkfloaa
open Go.RowKit Go.Lib
set_option linter.unusedVariables false
set_option linter.unusedSimpArgs false

theorem Sl.st {w : World} {v : Value} {sz : Nat} {els : List (List Value)} (h : Sl w v sz els) : Stab (fun w => Sl w v sz els) w.heap.size w := Stab.of (fun _ _ h hb => Sl.later h hb) h
theorem Hs.st {w : World} {v : Value} {l : List (List UInt8)} (h : Hs w v l) : Stab (fun w => Hs w v l) w.heap.size w := Stab.of (fun _ _ h hb => Hs.later h hb) h
theorem bits_cell {w : World} {a : Option Addr} {d c p : Nat} (h : Sl w (.slice a d c) 1 (lowB p d)) {i : Nat} (hi : i < d) : ∃ b k, a = some ⟨b, k, none⟩ ∧ w.cell? ⟨b, k + i, none⟩ = some (.bool (wayB d p i)) := by
  obtain ⟨a', c', h1, _, _, _, _, h2⟩ := h
  simp only [Value.slice.injEq] at h1
  obtain ⟨rfl, _, rfl⟩ := h1
  obtain ⟨b, k, rfl, _, hc⟩ := h2 (by intro h0; have := lowB_length p d; rw [h0] at this; simp at this; omega)
  refine ⟨b, k, rfl, ?_⟩
  have := (hc i _ (lowB_get p d i hi)).one
  rwa [Nat.mul_one] at this
theorem bits_shape {w : World} {a : Option Addr} {d c p : Nat} (h : Sl w (.slice a d c) 1 (lowB p d)) : d ≤ c ∧ c ≤ maxLen := by
  obtain ⟨a', c', h1, h2, h3, _⟩ := h
  simp only [Value.slice.injEq] at h1
  obtain ⟨_, h4, rfl⟩ := h1
  exact ⟨by rw [h4]; exact h2, h3⟩
set_option maxRecDepth 100000 in
set_option maxHeartbeats 1600000 in
theorem over_any (h : List UInt8) (d p top : Nat) (a : Option Addr) (c : Nat) (sv : Value) (side : List (List UInt8)) (w : World) (hh : h.length = 32) (hd : d ≤ 4) (ht : top ≤ d) (hsl : side.length = d) (hS : Sl w (.slice a d c) 1 (lowB p d)) (hs : Hs w sv side) :
    Calls Try.prog 69 #[hv h, .slice a d c, sv, .int .i64 top] w fun e w' => e = .returned (hv (upE d p top (fun i => side.getD i []) (d - top) h)) ∧ Below w.heap.size w w' := by
  obtain ⟨R, hR⟩ : ∃ R, R = upE d p top (fun i => side.getD i []) (d - top) h := ⟨_, rfl⟩
  rw [← hR]
  have HR : Hid (upE d p top (fun i => side.getD i []) (d - top) h = R) := hR.symm
  have HH := hide hh
  have HSL := hide hsl
  have b := Below.refl w.heap.size w
  obtain ⟨as', cs', rfl, hcs1, hcs2, _⟩ := hs.shape
  have hsh := bits_shape hS
  unfold maxLen at hsh hcs2
  rw [hsl] at hs hcs1 ⊢
  have F3 := hS.st
  have F4 := hs.st
  clear hR hh hsl hS hs
  unfold hv
  have mF1 := True.intro
  have mF2 := True.intro
  go_enter Try.func69, Try.ntmps69
  go_wp2_with (first | (with_reducible show wpList _ _ _ (⟨_, Op.load _ _, _, _, _, _⟩ :: _) _ _; refine wpl_load_hash rfl _ rfl rfl (by assumption) ?_) | (with_reducible show wpList _ _ _ (⟨_, Op.box _ _, _, _, _, _⟩ :: _) _ _; clear mF1; refine wpl_box_hash rfl _ rfl rfl HH.out ?_; intro _ g1 hg1 F1 hb; (try have := F1.lt); (try have := F2.lt); (try have := F3.lt); (try have := F4.lt); (try have := F5.lt); (try have := F6.lt); (try have := F7.lt); (try have := F8.lt); (try have := F9.lt); (try have := z.lt); (try have := G1.lt); (try have := G2.lt); (try have := G3.lt); (try have := b.size); (try replace F1 := F1.later hb); (try replace F2 := F2.later hb); (try replace F3 := F3.later hb); (try replace F4 := F4.later hb); (try replace F5 := F5.later hb); (try replace F6 := F6.later hb); (try replace F7 := F7.later hb); (try replace F8 := F8.later hb); (try replace F9 := F9.later hb); (try replace G1 := G1.later hb); (try replace G2 := G2.later hb); (try replace G3 := G3.later hb); (try replace z := z.later hb); (try replace b := later b hb); (try replace bB := mixed hB bB hb); clear hb) | (with_reducible show wpList _ _ _ (⟨_, Op.alloc _, _, _, _, _⟩ :: _) _ _; clear mF2; refine wpl_mk_hash rfl rfl ?_; intro _ g2 hg2 F2 hb; (try have := F1.lt); (try have := F2.lt); (try have := F3.lt); (try have := F4.lt); (try have := F5.lt); (try have := F6.lt); (try have := F7.lt); (try have := F8.lt); (try have := F9.lt); (try have := z.lt); (try have := G1.lt); (try have := G2.lt); (try have := G3.lt); (try have := b.size); (try replace F1 := F1.later hb); (try replace F2 := F2.later hb); (try replace F3 := F3.later hb); (try replace F4 := F4.later hb); (try replace F5 := F5.later hb); (try replace F6 := F6.later hb); (try replace F7 := F7.later hb); (try replace F8 := F8.later hb); (try replace F9 := F9.later hb); (try replace G1 := G1.later hb); (try replace G2 := G2.later hb); (try replace G3 := G3.later hb); (try replace z := z.later hb); (try replace b := later b hb); (try replace bB := mixed hB bB hb); clear hb))
  have hw1 : w.heap.size ≤ g1 := by omega
  have hw2 : w.heap.size ≤ g2 := by omega
  go_loopw [9] (fun i wr => ∃ (k : Nat) (x : Int) (t : List UInt8), i = .int .i64 x ∧ Hid (x = (top : Int) + k - 1) ∧ top + k ≤ d ∧ Hid (upE d p top (fun i => side.getD i []) k t = R) ∧ HashAt wr g1 t ∧ HashAt wr g2 zero32 ∧ Stab (fun w => Sl w (.slice a d c) 1 (lowB p d)) w.heap.size wr ∧ Stab (fun w => Hs w (.slice as' d cs') side) w.heap.size wr ∧ Below w.heap.size w wr) (fun i _ => (RowKit.intOf i + 1 - top).toNat)
  case atStart => exact ⟨d - top, _, h, rfl, by unfold Hid; omega, by omega, HR, F1, F2, F3, F4, b⟩
  case round =>
    clear F1 F2 F3 F4 b HR HH
    obtain ⟨k, x, t, rfl, hx, hk, HT, F1, F2, F3, F4, b⟩ := hrel
    have tl := F1.1
    have TL := hide tl
    have X := hx.out
    clear tl hx
    rcases k with _ | k
    · have hlt : x < top := by omega
      have e : t = R := HT.out
      clear X HT
      subst e
      go_wp2_with (first | (with_reducible show wpList _ _ _ (⟨_, Op.load _ _, _, _, _, _⟩ :: _) _ _; refine wpl_load_hash rfl _ rfl rfl (by assumption) ?_) | (with_reducible show wpList _ _ _ (⟨_, Op.store _ _ _, _, _, _, _⟩ :: _) _ _; refine wpl_set_hash rfl _ _ rfl rfl rfl TL.out F2 ?_; intro _ t1 ht; (try replace F1 := F1.tt ht); (try replace F2 := F2.tt ht); (try replace F3 := F3.tt ht); (try replace F4 := F4.tt ht); (try replace F5 := F5.tt ht); (try replace F6 := F6.tt ht); (try replace F7 := F7.tt ht); (try replace F8 := F8.tt ht); (try replace F9 := F9.tt ht); (try replace G1 := G1.tt ht); (try replace G2 := G2.tt ht); (try replace G3 := G3.tt ht); (try replace z := z.tt ht); (try replace b := below_touch b ht (by omega) (by omega)); (try replace bB := below_touch bB ht (by omega) hB); replace F2 := t1; clear ht) | (with_reducible show bodyPost _ _ _ _ _ _; exact bodyPost_ret (ret_hash rfl _ _ rfl (by assumption)) rfl ⟨rfl, by assumption⟩))
    · obtain ⟨r, hr⟩ : ∃ r, r = top + k := ⟨_, rfl⟩
      have hxr : x = (r : Int) := by omega
      subst hxr
      have hrt : (top : Int) ≤ (r : Int) := by omega
      have hrd : r < d := by omega
      obtain ⟨bb, kk, rfl, hcell⟩ := bits_cell F3.now hrd
      obtain ⟨b0, k0, cap0, hv0, _, _, _, hcs0⟩ := F4.now.block (by rw [HSL.out]; omega)
      simp only [Value.slice.injEq] at hv0
      obtain ⟨rfl, -, rfl⟩ := hv0
      have F5 := hcs0 r (by rw [HSL.out]; exact hrd)
      have SL := hide (side_len F4.now (i := r) (by rw [HSL.out]; exact hrd))
      have HRr := hide hr
      have HT' : Hid (upE d p top (fun i => side.getD i []) k (if wayB d p r then sumL (side.getD r []) t else sumL t (side.getD r [])) = R) := by have h0 := HT.out; rw [upE, ← hr] at h0; exact h0
      clear HT X hr hcs0
      generalize side.getD r [] = s at *
      by_cases hw : wayB d p r = true
      · rw [if_pos hw] at HT'
        have HS := hide (fun w => refEvoSum_any s t SL.out TL.out w)
        have HSL' := hide (sumL_length s t)
        generalize sumL s t = u at *
        rw [hw] at hcell
        clear hw
        go_wp2_with (first | (with_reducible show wpList _ _ _ (⟨_, Op.load _ _, _, _, _, _⟩ :: _) _ _; first | (refine wpl_load_hash rfl _ rfl rfl (by assumption) ?_) | (refine wpl_load_one rfl 4 _ rfl rfl hcell (by kernel_rfl) ?_)) | (with_reducible show Code.wp _ (Code.region _ _ true) _ _ _; (try simp only [Act.put, List.setIfInBounds_toArray, List.set_cons_succ, List.set_cons_zero]); refine region_since_tail 6 (by kernel_rfl) (by kernel_rfl) ?_; simp only [List.take_succ_cons, List.take_zero]; (repeat (first | go_big_quiet_skip | (go_big_quiet_want; first | (refine quiet_load_hash _ rfl rfl (by assumption) ?_; simp only [Act.put, List.setIfInBounds_toArray, List.set_cons_succ, List.set_cons_zero]; go_big_quiet_on) | (refine since_load_elem _ rfl rfl F5 SL.out ?_; simp only [Act.put, List.setIfInBounds_toArray, List.set_cons_succ, List.set_cons_zero]; go_big_quiet_on) | (go_big_quiet_op; first | go_big_quiet_on | (refine ⟨_, fun _ => since_of (HS.out _), ?_⟩; go_big_quiet_on))))); refine wpQuiet_nil ?_; intro _ hq; (try replace F1 := F1.later hq); (try replace F2 := F2.later hq); (try replace F3 := F3.later hq); (try replace F4 := F4.later hq); (try replace F5 := F5.later hq); (try replace F6 := F6.later hq); (try replace F7 := F7.later hq); (try replace F8 := F8.later hq); (try replace F9 := F9.later hq); (try replace G1 := G1.later hq); (try replace G2 := G2.later hq); (try replace G3 := G3.later hq); (try replace z := z.later hq); (try replace b := later b hq); (try replace bB := mixed hB bB hq); clear hq; simp only [List.drop_succ_cons, List.drop_zero]) | (with_reducible show wpList _ _ _ (⟨_, Op.store _ _ _, _, _, _, _⟩ :: _) _ _; refine wpl_set_hash rfl _ _ rfl rfl rfl HSL'.out F1 ?_; intro _ t1 ht; (try replace F1 := F1.tt ht); (try replace F2 := F2.tt ht); (try replace F3 := F3.tt ht); (try replace F4 := F4.tt ht); (try replace F5 := F5.tt ht); (try replace F6 := F6.tt ht); (try replace F7 := F7.tt ht); (try replace F8 := F8.tt ht); (try replace F9 := F9.tt ht); (try replace G1 := G1.tt ht); (try replace G2 := G2.tt ht); (try replace G3 := G3.tt ht); (try replace z := z.tt ht); (try replace b := below_touch b ht (by omega) (by omega)); (try replace bB := below_touch bB ht (by omega) hB); replace F1 := t1; clear ht))
        go_roundw
        case rel => exact ⟨k, _, u, rfl, by have := HRr.out; unfold Hid; omega, by omega, HT', F1, F2, F3, F4, b⟩
        case measure => have := HRr.out; simp [RowKit.intOf]; omega
      · have hw' : wayB d p r = false := by simpa using hw
        rw [if_neg hw] at HT'
        have HS := hide (fun w => refEvoSum_any t s TL.out SL.out w)
        have HSL' := hide (sumL_length t s)
        generalize sumL t s = u at *
        rw [hw'] at hcell
        clear hw hw'
        go_wp2_with (first | (with_reducible show wpList _ _ _ (⟨_, Op.load _ _, _, _, _, _⟩ :: _) _ _; first | (refine wpl_load_hash rfl _ rfl rfl (by assumption) ?_) | (refine wpl_load_one rfl 4 _ rfl rfl hcell (by kernel_rfl) ?_)) | (with_reducible show Code.wp _ (Code.region _ _ true) _ _ _; (try simp only [Act.put, List.setIfInBounds_toArray, List.set_cons_succ, List.set_cons_zero]); refine region_since_tail 6 (by kernel_rfl) (by kernel_rfl) ?_; simp only [List.take_succ_cons, List.take_zero]; (repeat (first | go_big_quiet_skip | (go_big_quiet_want; first | (refine quiet_load_hash _ rfl rfl (by assumption) ?_; simp only [Act.put, List.setIfInBounds_toArray, List.set_cons_succ, List.set_cons_zero]; go_big_quiet_on) | (refine since_load_elem _ rfl rfl F5 SL.out ?_; simp only [Act.put, List.setIfInBounds_toArray, List.set_cons_succ, List.set_cons_zero]; go_big_quiet_on) | (go_big_quiet_op; first | go_big_quiet_on | (refine ⟨_, fun _ => since_of (HS.out _), ?_⟩; go_big_quiet_on))))); refine wpQuiet_nil ?_; intro _ hq; (try replace F1 := F1.later hq); (try replace F2 := F2.later hq); (try replace F3 := F3.later hq); (try replace F4 := F4.later hq); (try replace F5 := F5.later hq); (try replace F6 := F6.later hq); (try replace F7 := F7.later hq); (try replace F8 := F8.later hq); (try replace F9 := F9.later hq); (try replace G1 := G1.later hq); (try replace G2 := G2.later hq); (try replace G3 := G3.later hq); (try replace z := z.later hq); (try replace b := later b hq); (try replace bB := mixed hB bB hq); clear hq; simp only [List.drop_succ_cons, List.drop_zero]) | (with_reducible show wpList _ _ _ (⟨_, Op.store _ _ _, _, _, _, _⟩ :: _) _ _; refine wpl_set_hash rfl _ _ rfl rfl rfl HSL'.out F1 ?_; intro _ t1 ht; (try replace F1 := F1.tt ht); (try replace F2 := F2.tt ht); (try replace F3 := F3.tt ht); (try replace F4 := F4.tt ht); (try replace F5 := F5.tt ht); (try replace F6 := F6.tt ht); (try replace F7 := F7.tt ht); (try replace F8 := F8.tt ht); (try replace F9 := F9.tt ht); (try replace G1 := G1.tt ht); (try replace G2 := G2.tt ht); (try replace G3 := G3.tt ht); (try replace z := z.tt ht); (try replace b := below_touch b ht (by omega) (by omega)); (try replace bB := below_touch bB ht (by omega) hB); replace F1 := t1; clear ht))
        go_roundw
        case rel => exact ⟨k, _, u, rfl, by have := HRr.out; unfold Hid; omega, by omega, HT', F1, F2, F3, F4, b⟩
        case measure => have := HRr.out; simp [RowKit.intOf]; omega
end Go.Proofs.Ytofjjpielkfloaa
