/- digit.TakeText and the reference's, up to 32768 bytes. -/
import Derived.Test.YtbbfnpfkbbpjgaaGreatQHDeed5
import Derived.Test.YtbbfnpfkbbpjgaaGreatQHTakeW
import Derived.Test.YtbbfnpfkbbpjgaaGreatQHTakeRW
import Derived.Test.YtbbfnpfkbbpjgaaGreatQHBlkV
import Derived.LoopIn
import Derived.OwnWalkIn
import Derived.Test.YtbbfnpfkbbpjgaaGreatQHBuilderS
import Derived.Test.YtbbfnpfkbbpjgaaGreatQHBkR1
import Derived.Test.YtbbfnpfkbbpjgaaGreatQHDeed9
import Derived.Test.YtbbfnpfkbbpjgaaGreatQHHd7
import Derived.RangeFuncSeq
import Derived.Test.YtbbfnpfkbbpjgaaGreatQHHd3
namespace Go.Proofs.YtbbfnpfkbbpjgaaGreat
open Go.RowKit Go.Lib
set_option linter.unusedVariables false
set_option linter.unusedSimpArgs false
set_option maxRecDepth 100000
set_option maxHeartbeats 4000000
def tkV (l : List UInt8) : List UInt8 × Nat := (takeT 32768 l).getD ([], 0)
theorem z2l (s : ByteArray) (k n : Nat) : s.extract k (k + n) = ⟨((s.data.toList.drop k).take n).toArray⟩ := by
 apply ByteArray.ext
 apply Array.toList_inj.1
 simp
theorem j5k (s : ByteArray) (n : Nat) : (s.extract n s.size).data.toList = s.data.toList.drop n := by
 obtain ⟨⟨r⟩⟩ := s
 simp [ByteArray.size, List.take_of_length_le]
theorem z2d (s : ByteArray) (k n : Nat) : (s.extract k s.size).extract 0 n = ⟨((s.data.toList.drop k).take n).toArray⟩ := by
 have h := j5k s k
 generalize s.extract k s.size = t at *
 rw [← h]
 apply ByteArray.ext
 apply Array.toList_inj.1
 simp
theorem j9x (s : ByteArray) (w : World) (hs : s.size ≤ 1048576) :
  Calls Tryz.prog 142 #[.string s, .int .i64 32768] w fun e w' => (∃ c : Int, e = .returned (.tuple #[.string ⟨(tkV s.data.toList).1.toArray⟩, .int .i64 (tkV s.data.toList).2, .int .i64 c]) ∧ (c = 0 ↔ (takeT 32768 s.data.toList).isSome = true)) ∧ Below w.heap.size w w' := by
 have HT := hide (fun w => q9i s w (by omega))
 have b := Below.refl w.heap.size w
 have hz : s.data.toList.length = s.size := by simp
 unfold tkV
 cases hq : takeO s.data.toList with
 | none =>
  have hn : takeT 32768 s.data.toList = none := by unfold takeT; rw [hq]
  rw [hn]
  unfold takeV at HT
  rw [hq] at HT
  clear hq hn hz hs
  generalize s.data.toList = l at *
  go_enter Tryz.func142, Tryz.ntmps142
  go_wp2_with (go_at_call 67; refine (HT.out _).mono ?_; rintro _ _ ⟨⟨c, rfl, hc0⟩, hc⟩; have hcn : c ≠ 0 := (fun h => by have := hc0.1 h; cases this); have hcb : (c != 0) = true := bne_iff_ne.2 hcn; clear hc0; (try replace b := later b hc); clear hc)
  go_ret3
  exact ⟨⟨c, rfl, ⟨fun h => absurd h hcn, fun h => by cases h⟩⟩, b⟩
 | some x =>
  obtain ⟨n, k⟩ := x
  obtain ⟨h1, h2, h3, h4⟩ := q6n hq
  have hk := q0g n
  rw [hz] at h4
  obtain ⟨m, hm⟩ : ∃ m, m = s.size - k := ⟨_, rfl⟩
  have z2 : (s.size : Int) - (k : Int) = (m : Int) := by omega
  have kw : IntKind.u64.wrap (m : Int) = (m : Int) := by rw [IntKind.wrap_u64]; omega
  have HX : Hid (takeT 32768 s.data.toList = if n ≤ 32768 ∧ n ≤ m then some ((s.data.toList.drop k).take n, k + n) else none) := by
   unfold Hid takeT
   rw [hq]
   simp only
   rw [hz, ← hm]
  have hsz : (s.extract k s.size).size = m := by rw [ByteArray.size_extract]; omega
  have HSZ := hide hsz
  have HXE := hide (z2l s k n)
  unfold takeV at HT
  rw [hq] at HT
  have hk10 : k ≤ 10 := by omega
  clear hq hz h3 hsz h2 hk
  generalize s.data.toList = l at *
  by_cases g1 : n ≤ 32768
  ·have c1 : decide ((32768 : Int) < (n : Int)) = false := decide_eq_false (by omega)
   have kn : IntKind.i64.wrap (n : Int) = (n : Int) := by rw [IntKind.wrap_i64]; omega
   by_cases g2 : n ≤ m
   ·have c2 : decide ((m : Int) < (n : Int)) = false := decide_eq_false (by omega)
    have q1 : k + n ≤ s.size := by omega
    rw [HX.out, if_pos ⟨g1, g2⟩]
    go_enter Tryz.func142, Tryz.ntmps142
    go_wp2_with (go_at_call 67; refine (HT.out _).mono ?_; rintro _ _ ⟨⟨c, rfl, hc0⟩, hc⟩; have hcn : c = 0 := hc0.2 rfl; clear hc0; subst hcn; (try replace b := later b hc); clear hc)
    go_ret3
    exact ⟨⟨0, by simp [HXE.out], by simp⟩, b⟩
   ·have c2 : decide ((m : Int) < (n : Int)) = true := decide_eq_true (by omega)
    rw [HX.out, if_neg (fun h => g2 h.2)]
    go_enter Tryz.func142, Tryz.ntmps142
    go_wp2_with (go_at_call 67; refine (HT.out _).mono ?_; rintro _ _ ⟨⟨c, rfl, hc0⟩, hc⟩; have hcn : c = 0 := hc0.2 rfl; clear hc0; subst hcn; (try replace b := later b hc); clear hc)
    go_ret3
    exact ⟨⟨10, rfl, by simp⟩, b⟩
  ·have c1 : decide ((32768 : Int) < (n : Int)) = true := decide_eq_true (by omega)
   rw [HX.out, if_neg (fun h => g1 h.1)]
   go_enter Tryz.func142, Tryz.ntmps142
   go_wp2_with (go_at_call 67; refine (HT.out _).mono ?_; rintro _ _ ⟨⟨c, rfl, hc0⟩, hc⟩; have hcn : c = 0 := hc0.2 rfl; clear hc0; subst hcn; (try replace b := later b hc); clear hc)
   go_ret3
   exact ⟨⟨3, rfl, by simp⟩, b⟩
theorem j9n (s : ByteArray) (w : World) (hs : s.size ≤ 1048576) :
  Calls Tryz.prog 71 #[.string s, .int .i64 32768] w fun e w' => (∃ c : Int, e = .returned (.tuple #[.string ⟨(tkV s.data.toList).1.toArray⟩, .int .i64 (tkV s.data.toList).2, .int .i64 c]) ∧ (c = 0 ↔ (takeT 32768 s.data.toList).isSome = true)) ∧ Below w.heap.size w w' := by
 have HT := hide (fun w => q8y s w (by omega))
 have b := Below.refl w.heap.size w
 have hz : s.data.toList.length = s.size := by simp
 unfold tkV
 cases hq : takeO s.data.toList with
 | none =>
  have hn : takeT 32768 s.data.toList = none := by unfold takeT; rw [hq]
  rw [hn]
  unfold takeV at HT
  rw [hq] at HT
  clear hq hn hz hs
  generalize s.data.toList = l at *
  go_enter Tryz.func71, Tryz.ntmps71
  go_wp2_with (go_at_call 70; refine (HT.out _).mono ?_; rintro _ _ ⟨⟨c, rfl, hc0⟩, hc⟩; have hcn : c ≠ 0 := (fun h => by have := hc0.1 h; cases this); have hcb : (c != 0) = true := bne_iff_ne.2 hcn; clear hc0; (try replace b := later b hc); clear hc)
  go_ret3
  exact ⟨⟨c, rfl, ⟨fun h => absurd h hcn, fun h => by cases h⟩⟩, b⟩
 | some x =>
  obtain ⟨n, k⟩ := x
  obtain ⟨h1, h2, h3, h4⟩ := q6n hq
  have hk := q0g n
  rw [hz] at h4
  obtain ⟨m, hm⟩ : ∃ m, m = s.size - k := ⟨_, rfl⟩
  have z2 : (s.size : Int) - (k : Int) = (m : Int) := by omega
  have kw : IntKind.u64.wrap (m : Int) = (m : Int) := by rw [IntKind.wrap_u64]; omega
  have HX : Hid (takeT 32768 s.data.toList = if n ≤ 32768 ∧ n ≤ m then some ((s.data.toList.drop k).take n, k + n) else none) := by
   unfold Hid takeT
   rw [hq]
   simp only
   rw [hz, ← hm]
  have hsz : (s.extract k s.size).size = m := by rw [ByteArray.size_extract]; omega
  have HSZ := hide hsz
  have HXE := hide (z2d s k n)
  unfold takeV at HT
  rw [hq] at HT
  have hk10 : k ≤ 10 := by omega
  clear hq hz h3 hsz h2 hk
  generalize s.data.toList = l at *
  by_cases g1 : n ≤ 32768
  ·have c1 : decide ((32768 : Int) < (n : Int)) = false := decide_eq_false (by omega)
   have kn : IntKind.i64.wrap (n : Int) = (n : Int) := by rw [IntKind.wrap_i64]; omega
   by_cases g2 : n ≤ m
   ·have c2 : decide ((m : Int) < (n : Int)) = false := decide_eq_false (by omega)
    have q1 : k + n ≤ s.size := by omega
    rw [HX.out, if_pos ⟨g1, g2⟩]
    go_enter Tryz.func71, Tryz.ntmps71
    go_wp2_with (go_at_call 70; refine (HT.out _).mono ?_; rintro _ _ ⟨⟨c, rfl, hc0⟩, hc⟩; have hcn : c = 0 := hc0.2 rfl; clear hc0; subst hcn; (try replace b := later b hc); clear hc)
    go_ret3
    exact ⟨⟨0, by simp [HXE.out], by simp⟩, b⟩
   ·have c2 : decide ((m : Int) < (n : Int)) = true := decide_eq_true (by omega)
    rw [HX.out, if_neg (fun h => g2 h.2)]
    go_enter Tryz.func71, Tryz.ntmps71
    go_wp2_with (go_at_call 70; refine (HT.out _).mono ?_; rintro _ _ ⟨⟨c, rfl, hc0⟩, hc⟩; have hcn : c = 0 := hc0.2 rfl; clear hc0; subst hcn; (try replace b := later b hc); clear hc)
    go_ret3
    exact ⟨⟨10, rfl, by simp⟩, b⟩
  ·have c1 : decide ((32768 : Int) < (n : Int)) = true := decide_eq_true (by omega)
   rw [HX.out, if_neg (fun h => g1 h.1)]
   go_enter Tryz.func71, Tryz.ntmps71
   go_wp2_with (go_at_call 70; refine (HT.out _).mono ?_; rintro _ _ ⟨⟨c, rfl, hc0⟩, hc⟩; have hcn : c = 0 := hc0.2 rfl; clear hc0; subst hcn; (try replace b := later b hc); clear hc)
   go_ret3
   exact ⟨⟨3, rfl, by simp⟩, b⟩
def leftS : Option (List UInt8) → ByteArray
 | some r => ⟨r.toArray⟩
 | none => ⟨#[63]⟩
/-- The iterator's own variables and the caller's left are as they were. -/
def Kc (g1 g2 g3 gL : Nat) (W W' : World) : Prop := ∀ b, (b = g1 ∨ b = g2 ∨ b = g3 ∨ b = gL) → W'.heap[b]? = W.heap[b]?
theorem One.kc {g1 g2 g3 gL g : Nat} {W W' : World} {t : TypeId} {v : Value} (h : One W g t v) (hk : Kc g1 g2 g3 gL W W') (hg : g = g1 ∨ g = g2 ∨ g = g3 ∨ g = gL) : One W' g t v := (hk g hg).trans h
theorem x8b {m k : Nat} {s t : List UInt8} (h : takeT 32768 s = some (t, k)) : txP (m + 1) s = (t :: (txP m (s.drop k)).1, (txP m (s.drop k)).2) := by
 conv => lhs; unfold txP
 rw [h]
theorem x9t {m : Nat} {s : List UInt8} (h : takeT 32768 s = none) : txP (m + 1) s = ([], none) := by unfold txP; rw [h]
theorem x1r {a b : Nat} {w w' : World} (h : Touch (fun x => x = a) w w') : Touch (fun x => x = a ∨ x = b) w w' := ⟨h.os, h.tape, h.output, h.size, fun k hk hn => h.block k hk (fun q => hn (.inl q))⟩
theorem z0l {a b : Nat} {w w' : World} (h : Touch (fun x => x = b) w w') : Touch (fun x => x = a ∨ x = b) w w' := ⟨h.os, h.tape, h.output, h.size, fun k hk hn => h.block k hk (fun q => hn (.inr q))⟩
theorem x8x (lp g1 g2 g3 gL n N : Nat) (L : List UInt8) (J : List (List UInt8) → World → Prop) (Jx : World → Prop)
  (h13 : g1 ≠ g3) (h1L : g1 ≠ gL) (h23 : g2 ≠ g3) (h2L : g2 ≠ gL) (h3L : g3 ≠ gL)
  (hJ : ∀ pre W W', J pre W → Touch (fun b => b = gL ∨ b = g3) W W' → J pre W')
  (hY : ∀ pre x post W, (txP N L).1 = pre ++ x :: post → J pre W → YieldAt Fence.wide (n - 1) Tryz.prog lp #[.string ⟨x.toArray⟩] W fun e W' => (e = .returned (.bool true) ∧ J (pre ++ [x]) W' ∧ Kc g1 g2 g3 gL W W') ∨ (e = .returned (.bool false) ∧ Jx W'))
  (W : World) (F1 : One W g1 108 (.pointer (some ⟨gL, 0, none⟩))) (F2 : One W g2 24 (.int .u64 (N : Int))) (F3 : One W g3 9 (.string ⟨L.toArray⟩)) (s0 : ByteArray) (F4 : One W gL 9 (.string s0)) (hL : L.length ≤ 1048576) (hN : N ≤ 16) (h0 : J [] W) :
  CallsIn Fence.wide n Tryz.prog 141 #[.func (.yield lp) #[] #[], .pointer (some ⟨g1, 0, none⟩), .pointer (some ⟨g2, 0, none⟩), .pointer (some ⟨g3, 0, none⟩)] W fun e W' => (∃ v, e = .returned v) ∧ ((J (txP N L).1 W' ∧ One W' gL 9 (.string (leftS (txP N L).2))) ∨ Jx W') := by
 refine callsIn_of_wp Tryz.func141 rfl trivial ?_ rfl
 simp only [Tryz.ntmps141, List.size_toArray, List.length_cons, List.length_nil, Nat.reduceAdd, Nat.reduceSub, Array.replicate_succ, Array.replicate_zero, List.push_toArray, List.append_toArray, List.nil_append, List.cons_append]
 refine wpIn_seq ?_
 refine j2x ?_
 go_wp2_with (first | (with_reducible refine w0g ?_; refine q0a rfl 108 _ rfl rfl F1.cell (by kernel_rfl) ?_) | ((with_reducible refine w4g ?_); refine q0i rfl 9 _ _ rfl rfl rfl F4 Nat.zero_lt_one strSize rfl rfl ?_; intro _ t1 ht1; clear F4; have h1 := hJ _ _ _ h0 (x1r ht1); clear h0; have h0 := h1; clear h1; replace F1 := F1.tt ht1 h1L; replace F2 := F2.tt ht1 h2L; replace F3 := F3.tt ht1 h3L; have F4 := t1; clear t1 ht1))
 refine wpIn_seq ?_
 refine wpIn_seq ?_
 refine j2x ?_
 go_wp2_with (with_reducible refine w0g ?_; refine q0a rfl 24 _ rfl rfl F2.cell (by kernel_rfl) ?_)
 refine wpIn_block ?_
 gi_loopw [11] (fun i wr => ∃ (k : Nat) (s : List UInt8) (pre : List (List UInt8)), i = .int .u64 k ∧ k ≤ N ∧ s.length ≤ 1048576 ∧ Hid ((txP N L).1 = pre ++ (txP (N - k) s).1) ∧ Hid ((txP N L).2 = (txP (N - k) s).2) ∧ One wr g1 108 (.pointer (some ⟨gL, 0, none⟩)) ∧ One wr g3 9 (.string ⟨s.toArray⟩) ∧ One wr gL 9 (.string ⟨#[63]⟩) ∧ J pre wr) (fun i _ => N - (RowKit.intOf i).toNat)
 case atStart => exact ⟨0, L, [], rfl, by omega, hL, hide (by simp), hide rfl, F1, F3, F4, h0⟩
 case round =>
  clear F1 F2 F3 F4 h0
  obtain ⟨k, s, pre, rfl, hk, hsz, H1, H2, F1, F3, F4, h0⟩ := hrel
  have c1 := F1.cell
  have c3 := F3.cell
  have cL := F4.cell
  have f3 := F3.thaw
  have fL := F4.thaw
  by_cases hlt : k < N
  ·obtain ⟨m, hm⟩ : ∃ m, N - k = m + 1 := ⟨N - k - 1, by omega⟩
   have hmj : N - (k + 1) = m := by omega
   have HMJ := hide hmj
   rw [hm] at H1 H2
   have HTT := hide (fun w => j9x ⟨s.toArray⟩ w (by show s.toArray.size ≤ _; rw [List.size_toArray]; exact hsz))
   have e0 : (⟨s.toArray⟩ : ByteArray).data.toList = s := rfl
   rw [e0] at HTT
   unfold tkV at HTT
   clear e0 hm hmj
   cases hq : takeT 32768 s with
   | none =>
    rw [x9t hq] at H1 H2
    rw [hq] at HTT
    clear hq
    gi_wp2
    refine ⟨trivial, fun hd => (by cases hd), ?_⟩
    (with_reducible show CallsIn _ _ _ 142 _ _ _)
    refine (callsIn_wide.2 (HTT.out _)).mono ?_
    rintro _ _ ⟨⟨c, rfl, hc0⟩, hb⟩
    have hcn : c ≠ 0 := (fun h => by have := hc0.1 h; cases this)
    have hcb : (c != 0) = true := bne_iff_ne.2 hcn
    replace F4 := F4.later hb
    have h1 := hJ _ _ _ h0 (q2s hb)
    clear h0 hb hc0 hcn
    gi_wp2
    refine ⟨fun _ h => (by cases h), ?_⟩
    gi_wp2
    refine bodyPost_ret (results_none rfl _ _ _) rfl ?_
    rw [H1.out, H2.out, List.append_nil]
    exact ⟨⟨_, rfl⟩, .inl ⟨h1, F4⟩⟩
   | some y =>
    obtain ⟨t, k3⟩ := y
    obtain ⟨-, -, ht3, hk3⟩ := j5z hq
    rw [x8b hq] at H1 H2
    rw [hq] at HTT
    have q1 : k3 ≤ (⟨s.toArray⟩ : ByteArray).size := by show k3 ≤ s.toArray.size; rw [List.size_toArray]; exact hk3
    have HEX : Hid ((⟨s.toArray⟩ : ByteArray).extract k3 (⟨s.toArray⟩ : ByteArray).size = ⟨(s.drop k3).toArray⟩) := by
     apply ByteArray.ext
     apply Array.toList_inj.1
     simp [ByteArray.size, List.take_of_length_le]
    have HN2 : Hid ((txP N L).1 = (pre ++ [t]) ++ (txP m (s.drop k3)).1) := by rw [H1.out]; exact hide (by simp)
    have hsz2 : (s.drop k3).length ≤ 1048576 := by rw [List.length_drop]; omega
    have HSZ2 := hide hsz2
    clear hq hk3 hsz2
    gi_wp2
    refine ⟨trivial, fun hd => (by cases hd), ?_⟩
    (with_reducible show CallsIn _ _ _ 142 _ _ _)
    refine (callsIn_wide.2 (HTT.out _)).mono ?_
    rintro _ w2 ⟨⟨c, rfl, hc0⟩, hb⟩
    have hcn : c = 0 := hc0.2 rfl
    clear hc0
    subst hcn
    replace F1 := F1.later hb
    replace F3 := F3.later hb
    replace F4 := F4.later hb
    have h1 := hJ _ _ _ h0 (q2s hb)
    clear h0 hb c1 c3 cL f3 fL
    obtain ⟨fn, tmps, assign, body, hy, hR⟩ := hY pre t _ w2 H1.out h1
    gi_wp2
    refine ⟨fun hd => (by cases hd), ?_⟩
    refine hR.mono ?_
    rintro _ W' (⟨rfl, hj, hkc⟩ | ⟨rfl, hx⟩)
    ·replace F1 := F1.kc hkc (.inl rfl)
     replace F3 := F3.kc hkc (.inr (.inr (.inl rfl)))
     replace F4 := F4.kc hkc (.inr (.inr (.inr rfl)))
     have c3 := F3.cell
     have f3 := F3.thaw
     gi_wp2
     go_roundw
     case rel => exact ⟨k + 1, s.drop k3, pre ++ [t], by simp, by omega, HSZ2.out, by rw [HMJ.out]; exact HN2, by rw [HMJ.out]; exact H2, F1.touch (q3s _ ⟨g3, 0, none⟩ _) h13, by rw [← HEX.out]; exact One.set F3 _, F4.touch (q3s _ ⟨g3, 0, none⟩ _) (fun h => h3L h.symm), hJ _ _ _ hj (z0l (q3s _ ⟨g3, 0, none⟩ _))⟩
     case measure => simp [RowKit.intOf]; omega
    ·gi_wp2
     refine bodyPost_ret (results_none rfl _ _ _) rfl ?_
     exact ⟨⟨_, rfl⟩, .inr hx⟩
  ·obtain rfl : N = k := by omega
   rw [Nat.sub_self] at H1 H2
   gi_wp2
   go_end0
   refine ⟨⟨_, rfl⟩, .inl ⟨?_, ?_⟩⟩
   ·rw [H1.out]
    show J (pre ++ []) _
    rw [List.append_nil]
    exact hJ _ _ _ h0 (x1r (q3s _ ⟨gL, 0, none⟩ _))
   ·rw [H2.out]
    exact One.set F4 _
theorem x9p (s : ByteArray) (m gL : Nat) (w : World) :
    Calls Tryz.prog 68 #[.string s, .int .u64 (m : Int), .pointer (some ⟨gL, 0, none⟩)] w fun e w' =>
      (∃ g1 g2 g3, e = .returned (.func (.func 141) #[] #[.pointer (some ⟨g1, 0, none⟩), .pointer (some ⟨g2, 0, none⟩), .pointer (some ⟨g3, 0, none⟩)]) ∧ w.heap.size ≤ g3 ∧ g3 < g2 ∧ g2 < g1 ∧ g1 < w'.heap.size ∧
        One w' g1 108 (.pointer (some ⟨gL, 0, none⟩)) ∧ One w' g2 24 (.int .u64 (m : Int)) ∧ One w' g3 9 (.string s)) ∧ Below w.heap.size w w' := by
  have b := Below.refl w.heap.size w
  have mF1 := True.intro
  have mF2 := True.intro
  have mF3 := True.intro
  go_enter Tryz.func68, Tryz.ntmps68
  go_wp2_with (first | ((with_reducible show wpList _ _ _ (⟨_, Op.box 9 _, _, _, _, _⟩ :: _) _ _); clear mF3; refine q4j rfl 9 _ rfl rfl (cs := [.string s]) rfl ?_; intro _ g3 hg3 F3 hb; have q3 := b.size; have F3 : One _ g3 9 (.string s) := F3; replace b := later b hb; clear hb) | ((with_reducible show wpList _ _ _ (⟨_, Op.box 24 _, _, _, _, _⟩ :: _) _ _); clear mF2; refine q4j rfl 24 _ rfl rfl (cs := [.int .u64 (m : Int)]) rfl ?_; intro _ g2 hg2 F2 hb; have q2 := F3.lt; have F2 : One _ g2 24 (.int .u64 (m : Int)) := F2; replace F3 := F3.later hb; replace b := later b hb; clear hb) | ((with_reducible show wpList _ _ _ (⟨_, Op.box 108 _, _, _, _, _⟩ :: _) _ _); clear mF1; refine q4j rfl 108 _ rfl rfl (cs := [.pointer (some ⟨gL, 0, none⟩)]) rfl ?_; intro _ g1 hg1 F1 hb; have q1 := F2.lt; have F1 : One _ g1 108 (.pointer (some ⟨gL, 0, none⟩)) := F1; replace F2 := F2.later hb; replace F3 := F3.later hb; replace b := later b hb; clear hb))
  go_ret
  exact ⟨⟨g1, g2, g3, rfl, by omega, by omega, by omega, F1.lt, F1, F2, F3⟩, b⟩
/-- The reference's reader at block g has the bytes r ahead of it, and nothing was wrong. -/
def Ri (w : World) (g : Nat) (r : List UInt8) : Prop := Arr w g 179 [.string ⟨r.toArray⟩, .bool true]
theorem Ri.later {w w' : World} {g : Nat} {r : List UInt8} (h : Ri w g r) (hb : Below w.heap.size w w') : Ri w' g r := Arr.later h hb
theorem Ri.touch {S : Nat → Prop} {w w' : World} {g : Nat} {r : List UInt8} (h : Ri w g r) (ht : Touch S w w') (hS : ¬ S g) : Ri w' g r := Arr.touch h ht hS
theorem Ri.lt {w : World} {g : Nat} {r : List UInt8} (h : Ri w g r) : g < w.heap.size := Arr.lt h
theorem Ri.tt {w w' : World} {g g' : Nat} {r : List UInt8} (h : Ri w g r) (ht : Touch (fun x => x = g') w w') (hS : ¬ g = g' := by omega) : Ri w' g r := h.touch ht hS
theorem j0s (g : Nat) (r : List UInt8) (n : Nat) (w : World) (h : Ri w g r) (hn : n ≤ r.length) (hm : r.length ≤ 1099511627776) :
  Calls Tryz.prog 145 #[.pointer (some ⟨g, 0, none⟩), .int .i64 n] w fun e w' => e = .returned (.string ⟨(r.take n).toArray⟩) ∧ Ri w' g (r.drop n) ∧ Touch (fun b => b = g) w w' := by
 have e1 := x0y r n
 have e2 := x1b r n
 have hs : (⟨r.toArray⟩ : ByteArray).size = r.length := rfl
 rw [← hs] at hn hm
 rw [← e1]
 unfold Ri at h ⊢
 rw [← e2]
 clear e1 e2 hs
 generalize (⟨r.toArray⟩ : ByteArray) = s at *
 have F1 : Arr w g 179 [.string s, .bool true] := h
 clear h
 have c0 : w.cell? ⟨g, 0, none⟩ = some (.string s) := Arr.cell F1 (i := 0) (by simp)
 have t0 := Arr.thaw F1 0
 go_enter Tryz.func145, Tryz.ntmps145
 go_wp2_with fail
 go_ret
 exact ⟨rfl, Arr.set F1 0 _, q3s w ⟨g, 0, none⟩ _⟩
theorem x0d (g : Nat) (r : List UInt8) (w : World) (h : Ri w g r) (hn : 8 ≤ r.length) (hm : r.length ≤ 1099511627776) :
  Calls Tryz.prog 143 #[.pointer (some ⟨g, 0, none⟩)] w fun e w' => e = .returned (.int .u64 (numL (r.take 8))) ∧ Ri w' g (r.drop 8) ∧ Touch (fun b => b = g) w w' := by
 have HT : Hid (Calls Tryz.prog 145 #[.pointer (some ⟨g, 0, none⟩), .int .i64 8] w fun e w' => e = .returned (.string ⟨(r.take 8).toArray⟩) ∧ Ri w' g (r.drop 8) ∧ Touch (fun b => b = g) w w') := j0s g r 8 w h hn hm
 have HE : Hid (∀ w, Calls Tryz.prog 175 #[.string ⟨(r.take 8).toArray⟩] w fun e w' => e = .returned (.tuple #[.int .u64 (numL (r.take 8)), .int .i64 0]) ∧ Below w.heap.size w w') := fun w => by
  have hz : (⟨(r.take 8).toArray⟩ : ByteArray).size = 8 := by show (r.take 8).toArray.size = 8; rw [List.size_toArray, List.length_take]; omega
  have := j1z ⟨(r.take 8).toArray⟩ w (by omega) (by omega)
  rwa [show (⟨(r.take 8).toArray⟩ : ByteArray).data.toList.take 8 = r.take 8 from by show (r.take 8).take 8 = _; rw [List.take_take, Nat.min_self]] at this
 clear h hn hm
 generalize numL (r.take 8) = N at *
 generalize (⟨(r.take 8).toArray⟩ : ByteArray) = s at *
 go_enter Tryz.func143, Tryz.ntmps143
 go_wp2_with (first | (go_at_call 145; refine HT.out.mono ?_; rintro _ w1 ⟨rfl, F1, ht⟩) | (go_at_call 175; refine (HE.out _).mono ?_; rintro _ w2 ⟨rfl, hc⟩; replace F1 := F1.later hc; replace ht := ht.behind hc))
 go_ret
 exact ⟨rfl, F1, ht⟩
theorem z0o (L Z : List UInt8) (k : Nat) (hL : L.length = 32) (hZ : Z.length = 32) (hk : k < 32) : (L.take k ++ Z.drop k).set k (L.getD k 0) = L.take (k + 1) ++ Z.drop (k + 1) := by
 have e : (L.take k).length = k := by rw [List.length_take]; omega
 have e2 : L.take (k + 1) = L.take k ++ [L.getD k 0] := by
  rw [List.take_succ_eq_append_getElem (by omega), List.getD_eq_getElem?_getD, List.getElem?_eq_getElem (by omega), Option.getD_some]
 have e3 : Z.drop k = Z.getD k 0 :: Z.drop (k + 1) := by
  rw [List.drop_eq_getElem_cons (by omega), List.getD_eq_getElem?_getD, List.getElem?_eq_getElem (by omega), Option.getD_some]
 rw [List.set_append, if_neg (by omega), e, Nat.sub_self, e3, List.set_cons_zero, e2, List.append_assoc]
 rfl
theorem x3a (g : Nat) (r : List UInt8) (w : World) (h : Ri w g r) (hn : 32 ≤ r.length) (hm : r.length ≤ 1099511627776) :
  Calls Tryz.prog 144 #[.pointer (some ⟨g, 0, none⟩)] w fun e w' => e = .returned (hv (r.take 32)) ∧ Ri w' g (r.drop 32) ∧ Touch (fun b => b = g) w w' := by
 have HT : Hid (∀ w, Ri w g r → Calls Tryz.prog 145 #[.pointer (some ⟨g, 0, none⟩), .int .i64 32] w fun e w' => e = .returned (.string ⟨(r.take 32).toArray⟩) ∧ Ri w' g (r.drop 32) ∧ Touch (fun b => b = g) w w') := fun w h => j0s g r 32 w h hn hm
 have F5 := h
 have hgw := h.lt
 have ht := Touch.refl (fun b => b = g) w
 have hl : (r.take 32).length = 32 := by rw [List.length_take]; omega
 have HL := hide hl
 have hz : (⟨(r.take 32).toArray⟩ : ByteArray).size = 32 := by show (r.take 32).toArray.size = 32; rw [List.size_toArray]; exact hl
 have HS : Hid ((⟨(r.take 32).toArray⟩ : ByteArray).data.toList = r.take 32) := rfl
 have HZ := hide hz
 clear h hn hm hl hz
 generalize (⟨(r.take 32).toArray⟩ : ByteArray) = s at *
 generalize r.take 32 = L at *
 have mF2 := True.intro
 have mF3 := True.intro
 go_enter Tryz.func144, Tryz.ntmps144
 go_wp2_with (first | (with_reducible refine w3g ?_; clear mF2; refine q0r rfl rfl ?_; intro _ g2 h2 F2 hb; have l5 := F5.lt; replace F5 := F5.later hb; replace ht := ht.behind hb; clear hb) | (go_at_call 145; refine (HT.out _ F5).mono ?_; rintro _ w1 ⟨rfl, h1, ht1⟩; clear F5; have F5 := h1; clear h1; replace ht := ht.add ht1 (fun x h => h); replace F2 := F2.touch ht1 (by show ¬ _ = _; omega); clear ht1) | (with_reducible refine w5g ?_; refine q2n rfl rfl ?_) | (with_reducible refine w3g ?_; clear mF3; refine q0r rfl rfl ?_; intro _ g3 h3 F3 hb; have l2 := F2.lt; have l5b := F5.lt; replace F2 := F2.later hb; replace F5 := F5.later hb; replace ht := ht.behind hb; clear hb) | (with_reducible refine w4g ?_; refine q0k rfl _ _ rfl rfl rfl (show zero32.length = 32 from rfl) F3 ?_; intro _ t1 ht2; replace F2 := F2.touch ht2 (by show ¬ _ = _; omega); replace F5 := F5.touch ht2 (by show ¬ _ = _; omega); replace ht := ht.trans ht2 (fun x hx => .inr (by have : x = g3 := hx; have := ht.size; omega)); clear F3; have F3 := t1; clear t1 ht2))
 have g23 : g2 < g3 := by omega
 have gg2 : g < g2 := by omega
 have wg2 : w.heap.size ≤ g2 := h2
 have wg3 : w.heap.size ≤ g3 := by omega
 go_loopw [5] (fun i wr => ∃ k : Nat, k ≤ 32 ∧ i = .int .i64 k ∧ Ri wr g (r.drop 32) ∧ HashAt wr g2 zero32 ∧ Byts wr g3 34 (L.take k ++ zero32.drop k) ∧ Touch (fun b => b = g) w wr) (fun i _ => 32 - (RowKit.intOf i).toNat)
 case atStart => exact ⟨0, by omega, rfl, F5, F2, F3.2, ht⟩
 case round =>
  clear F5 F2 F3 ht
  obtain ⟨k, hk, rfl, F5, F2, F3, ht⟩ := hrel
  by_cases hlt : k < 32
  ·have hks : k < s.size := by rw [HZ.out]; exact hlt
   have eb : ∀ h : k < s.size, ((s[k]'h).toNat : Int) = ((L.getD k 0).toNat : Int) := fun h => by rw [j0y s k h, HS.out]
   have x1 := Byts.cell F3 (i := k) (by rw [List.length_append, List.length_take, List.length_drop, HL.out, show zero32.length = 32 from rfl]; omega)
   have x2 := Arr.thaw F3 k
   have d1 := Byts.set F3 k (L.getD k 0)
   rw [z0o L zero32 k HL.out rfl hlt] at d1
   have d2 := F5.touch (q3s _ ⟨g3, k, none⟩ (.int .u8 ((L.getD k 0).toNat : Int))) (by show ¬ g = g3; omega)
   have d3 := F2.touch (q3s _ ⟨g3, k, none⟩ (.int .u8 ((L.getD k 0).toNat : Int))) (by show ¬ g2 = g3; omega)
   have d4 := ht.trans (q3s _ ⟨g3, k, none⟩ (.int .u8 ((L.getD k 0).toNat : Int))) (fun x hx => .inr (by have : x = g3 := hx; omega))
   have D1 := hide d1
   have D2 := hide d2
   have D3 := hide d3
   have D4 := hide d4
   clear d1 d2 d3 d4 F3 F5 F2 ht
   generalize L.getD k 0 = c at *
   go_wp2_with fail
   go_roundw
   case rel => exact ⟨k + 1, by omega, by simp, D2.out, D3.out, D1.out, D4.out⟩
   case measure => simp [RowKit.intOf]; omega
  ·obtain rfl : k = 32 := by omega
   have F4 : HashAt _ g3 L := ⟨HL.out, by have := F3; rwa [List.take_of_length_le (by rw [HL.out]; exact Nat.le_refl _), List.drop_of_length_le (by rw [show zero32.length = 32 from rfl]; exact Nat.le_refl _), List.append_nil] at this⟩
   clear F3 hlt hk
   go_wp2_with (first | (with_reducible refine w0g ?_; refine q1a rfl _ rfl rfl (by assumption) ?_) | (with_reducible refine w4g ?_; refine q0k rfl _ _ rfl rfl rfl HL.out F2 ?_; intro _ t1 ht2; replace F5 := F5.touch ht2 (by show ¬ _ = _; omega); replace ht := ht.trans ht2 (fun x hx => .inr (by have : x = g2 := hx; omega)); clear F2; have F2 := t1; clear t1 ht2))
   exact bodyPost_ret (q2v rfl _ _ rfl F2) rfl ⟨rfl, F5, ht⟩
end Go.Proofs.YtbbfnpfkbbpjgaaGreat
