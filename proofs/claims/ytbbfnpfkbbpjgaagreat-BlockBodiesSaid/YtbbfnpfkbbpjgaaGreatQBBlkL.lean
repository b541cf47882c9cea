/- Reading a block, plainly: the ways that it goes. -/
import Derived.Test.YtbbfnpfkbbpjgaaGreatQBDeedF
import Derived.Test.YtbbfnpfkbbpjgaaGreatQBTakeW
import Derived.Test.YtbbfnpfkbbpjgaaGreatQBTakeL
import Derived.Test.YtbbfnpfkbbpjgaaGreatQBMRef
import Derived.Test.YtbbfnpfkbbpjgaaGreatQBStep
import Derived.Test.YtbbfnpfkbbpjgaaGreatQBBlkV
import Derived.LoopIn
import Derived.OwnWalkIn
import Derived.Test.YtbbfnpfkbbpjgaaGreatQBBlk5
import Derived.Test.YtbbfnpfkbbpjgaaGreatQBBlk4
import Derived.Test.YtbbfnpfkbbpjgaaGreatQBDeed9
import Derived.Test.YtbbfnpfkbbpjgaaGreatQBHd2
import Derived.RangeFuncSeq
import Derived.Test.YtbbfnpfkbbpjgaaGreatQBBkR2
import Derived.Test.YtbbfnpfkbbpjgaaGreatQBDeedB
import Derived.Test.YtbbfnpfkbbpjgaaGreatQBSqPay
import Derived.Test.YtbbfnpfkbbpjgaaGreatQBHdEq
import Derived.Test.YtbbfnpfkbbpjgaaGreatQBElOut
import Derived.Test.YtbbfnpfkbbpjgaaGreatQBDeed3
import Derived.Test.YtbbfnpfkbbpjgaaGreatQBElWit
import Derived.Deep.CutBlock
import Derived.Deep.DeepCutAuto
namespace Go.Proofs.YtbbfnpfkbbpjgaaGreat
open Go.RowKit Go.Lib
set_option linter.unusedVariables false
set_option linter.unusedSimpArgs false
set_option maxRecDepth 100000
set_option maxHeartbeats 4000000
theorem takB_a {s : List UInt8} (h : s.length < 2320) : takB s = (blk0, 6) := by unfold takB; rw [if_pos h]
theorem takB_b {s : List UInt8} (h : ¬ s.length < 2320) (h2 : takeO (s.drop 2320) = none) : takB s = (blk0, 6) := by unfold takB; rw [if_neg h, h2]
theorem takB_c {s : List UInt8} {n k : Nat} (h : ¬ s.length < 2320) (h2 : takeO (s.drop 2320) = some (n, k)) (h3 : 16 < n) : takB s = (blk0, 6) := by unfold takB; rw [if_neg h, h2]; exact if_pos h3
theorem takB_d {s : List UInt8} {n k : Nat} (h : ¬ s.length < 2320) (h2 : takeO (s.drop 2320) = some (n, k)) (h3 : ¬ 16 < n) (h4 : dsP n ((s.drop 2320).drop k) = none) : takB s = (blk0, 6) := by
  unfold takB
  rw [if_neg h, h2]
  simp only
  rw [if_neg h3, h4]
theorem takB_e {s : List UInt8} {n k : Nat} {l : List Deed} {r : List UInt8} (h : ¬ s.length < 2320) (h2 : takeO (s.drop 2320) = some (n, k)) (h3 : ¬ 16 < n) (h4 : dsP n ((s.drop 2320).drop k) = some (l, r)) :
    takB s = if r = [] ∧ mayB ⟨hdOf (s.take 2320), l⟩ = true then (⟨hdOf (s.take 2320), l⟩, 0) else (blk0, 6) := by
  unfold takB
  rw [if_neg h, h2]
  simp only
  rw [if_neg h3, h4]
  cases r with
  | nil => simp
  | cons x r => simp
/-- The texts that are told. -/
def txP : Nat → List UInt8 → List (List UInt8) × Option (List UInt8)
  | 0, s => ([], some s)
  | n + 1, s => match takeT 32768 s with
    | none => ([], none)
    | some (t, k) => (t :: (txP n (s.drop k)).1, (txP n (s.drop k)).2)
def decs : List (List UInt8) → Option (List Deed)
  | [] => some []
  | t :: r => if (takeD t).2 = 0 then (decs r).map (fun l => (takeD t).1 :: l) else none
theorem j1h (t : List UInt8) (r : List (List UInt8)) : decs (t :: r) = if (takeD t).2 = 0 then (decs r).map (fun l => (takeD t).1 :: l) else none := rfl
theorem x2w : ∀ (n : Nat) (s : List UInt8), dsP n s = match decs (txP n s).1, (txP n s).2 with
    | some l, some r => some (l, r)
    | _, _ => none
  | 0, s => rfl
  | n + 1, s => by
    unfold dsP txP
    cases takeT 32768 s with
    | none => rfl
    | some x =>
      obtain ⟨t, k⟩ := x
      simp only
      rw [x2w n (s.drop k), j1h]
      by_cases h : (takeD t).2 = 0
      · rw [if_pos h, if_pos h]
        cases decs (txP n (s.drop k)).1 with
        | none => rfl
        | some l =>
          cases (txP n (s.drop k)).2 with
          | none => rfl
          | some r => rfl
      · rw [if_neg h, if_neg h]
theorem j7g : ∀ {p : List (List UInt8)} {l : List Deed} {t : List UInt8}, decs p = some l → (takeD t).2 = 0 → decs (p ++ [t]) = some (l ++ [(takeD t).1])
  | [], l, t, h, h2 => by
    unfold decs at h
    cases h
    simp [decs, h2]
  | x :: p, l, t, h, h2 => by
    unfold decs at h
    by_cases hx : (takeD x).2 = 0
    · rw [if_pos hx] at h
      cases hp : decs p with
      | none => rw [hp] at h; cases h
      | some l' =>
        rw [hp] at h
        cases h
        rw [List.cons_append]
        unfold decs
        rw [if_pos hx, j7g hp h2]
        rfl
    · rw [if_neg hx] at h; cases h
theorem j8z : ∀ {p : List (List UInt8)} {t : List UInt8}, t ∈ p → (takeD t).2 ≠ 0 → decs p = none
  | x :: p, t, h, h2 => by
    unfold decs
    by_cases hx : (takeD x).2 = 0
    · rw [if_pos hx]
      rcases List.mem_cons.1 h with rfl | h
      · exact absurd hx h2
      · rw [j8z h h2]; rfl
    · rw [if_neg hx]
theorem j0c : ∀ (n : Nat) (s : List UInt8), (txP n s).1.length ≤ n
  | 0, _ => Nat.le_refl _
  | n + 1, s => by
    unfold txP
    cases takeT 32768 s with
    | none => simp
    | some x =>
      obtain ⟨t, k⟩ := x
      have := j0c n (s.drop k)
      simp only [List.length_cons]
      omega
end Go.Proofs.YtbbfnpfkbbpjgaaGreat
/- digit.TakeText and the reference's, up to 32768 bytes. -/
namespace Go.Proofs.YtbbfnpfkbbpjgaaGreat
open Go.RowKit Go.Lib
set_option linter.unusedVariables false
set_option linter.unusedSimpArgs false
set_option maxRecDepth 100000
set_option maxHeartbeats 4000000
def tkV (l : List UInt8) : List UInt8 × Nat := (takeT 32768 l).getD ([], 0)
theorem x9m (s : ByteArray) (k n : Nat) : s.extract k (k + n) = ⟨((s.data.toList.drop k).take n).toArray⟩ := by
  apply ByteArray.ext
  apply Array.toList_inj.1
  simp
theorem x9e (s : ByteArray) (n : Nat) : (s.extract n s.size).data.toList = s.data.toList.drop n := by
  obtain ⟨⟨r⟩⟩ := s
  simp [ByteArray.size, List.take_of_length_le]
theorem j8m (s : ByteArray) (w : World) (hs : s.size ≤ 1048576) :
    Calls Tryz.prog 142 #[.string s, .int .i64 32768] w fun e w' => (∃ c : Int, e = .returned (.tuple #[.string ⟨(tkV s.data.toList).1.toArray⟩, .int .i64 (tkV s.data.toList).2, .int .i64 c]) ∧ (c = 0 ↔ (takeT 32768 s.data.toList).isSome = true)) ∧ Below w.heap.size w w' := by
  have HT := hide (fun w => q8q s w (by omega))
  have b := Below.refl w.heap.size w
  have hz : s.data.toList.length = s.size := by simp
  unfold tkV
  cases hq : takeO s.data.toList with
  | none =>
    have hn : takeT 32768 s.data.toList = none := by unfold takeT; rw [hq]
    rw [hn]
    unfold takeV at HT
    rw [hq] at HT
    clear hq hn hz hs
    generalize s.data.toList = l at *
    go_enter Tryz.func142, Tryz.ntmps142
    go_wp2_with (go_at_call 67; refine (HT.out _).mono ?_; rintro _ _ ⟨⟨c, rfl, hc0⟩, hc⟩; have hcn : c ≠ 0 := (fun h => by have := hc0.1 h; cases this); have hcb : (c != 0) = true := bne_iff_ne.2 hcn; clear hc0; (try replace b := later b hc); clear hc)
    go_ret3
    exact ⟨⟨c, rfl, ⟨fun h => absurd h hcn, fun h => by cases h⟩⟩, b⟩
  | some x =>
    obtain ⟨n, k⟩ := x
    obtain ⟨h1, h2, h3, h4⟩ := q9s hq
    have hk := q0k n
    rw [hz] at h4
    obtain ⟨m, hm⟩ : ∃ m, m = s.size - k := ⟨_, rfl⟩
    have z2 : (s.size : Int) - (k : Int) = (m : Int) := by omega
    have kw : IntKind.u64.wrap (m : Int) = (m : Int) := by rw [IntKind.wrap_u64]; omega
    have HX : Hid (takeT 32768 s.data.toList = if n ≤ 32768 ∧ n ≤ m then some ((s.data.toList.drop k).take n, k + n) else none) := by
      unfold Hid takeT
      rw [hq]
      simp only
      rw [hz, ← hm]
    have hsz : (s.extract k s.size).size = m := by rw [ByteArray.size_extract]; omega
    have HSZ := hide hsz
    have HXE := hide (x9m s k n)
    unfold takeV at HT
    rw [hq] at HT
    have hk10 : k ≤ 10 := by omega
    clear hq hz h3 hsz h2 hk
    generalize s.data.toList = l at *
    by_cases g1 : n ≤ 32768
    · have c1 : decide ((32768 : Int) < (n : Int)) = false := decide_eq_false (by omega)
      have kn : IntKind.i64.wrap (n : Int) = (n : Int) := by rw [IntKind.wrap_i64]; omega
      by_cases g2 : n ≤ m
      · have c2 : decide ((m : Int) < (n : Int)) = false := decide_eq_false (by omega)
        have q1 : k + n ≤ s.size := by omega
        rw [HX.out, if_pos ⟨g1, g2⟩]
        go_enter Tryz.func142, Tryz.ntmps142
        go_wp2_with (go_at_call 67; refine (HT.out _).mono ?_; rintro _ _ ⟨⟨c, rfl, hc0⟩, hc⟩; have hcn : c = 0 := hc0.2 rfl; clear hc0; subst hcn; (try replace b := later b hc); clear hc)
        go_ret3
        exact ⟨⟨0, by simp [HXE.out], by simp⟩, b⟩
      · have c2 : decide ((m : Int) < (n : Int)) = true := decide_eq_true (by omega)
        rw [HX.out, if_neg (fun h => g2 h.2)]
        go_enter Tryz.func142, Tryz.ntmps142
        go_wp2_with (go_at_call 67; refine (HT.out _).mono ?_; rintro _ _ ⟨⟨c, rfl, hc0⟩, hc⟩; have hcn : c = 0 := hc0.2 rfl; clear hc0; subst hcn; (try replace b := later b hc); clear hc)
        go_ret3
        exact ⟨⟨10, rfl, by simp⟩, b⟩
    · have c1 : decide ((32768 : Int) < (n : Int)) = true := decide_eq_true (by omega)
      rw [HX.out, if_neg (fun h => g1 h.1)]
      go_enter Tryz.func142, Tryz.ntmps142
      go_wp2_with (go_at_call 67; refine (HT.out _).mono ?_; rintro _ _ ⟨⟨c, rfl, hc0⟩, hc⟩; have hcn : c = 0 := hc0.2 rfl; clear hc0; subst hcn; (try replace b := later b hc); clear hc)
      go_ret3
      exact ⟨⟨3, rfl, by simp⟩, b⟩
end Go.Proofs.YtbbfnpfkbbpjgaaGreat
/- block.told: the iterator, against a round whatever it does. -/
namespace Go.Proofs.YtbbfnpfkbbpjgaaGreat
open Go.RowKit Go.Lib
set_option linter.unusedVariables false
set_option linter.unusedSimpArgs false
set_option maxRecDepth 100000
set_option maxHeartbeats 4000000
def leftS : Option (List UInt8) → ByteArray
  | some r => ⟨r.toArray⟩
  | none => ⟨#[63]⟩
/-- The iterator's own variables and the caller's left are as they were. -/
def Kc (g1 g2 g3 gL : Nat) (W W' : World) : Prop := ∀ b, (b = g1 ∨ b = g2 ∨ b = g3 ∨ b = gL) → W'.heap[b]? = W.heap[b]?
theorem One.kc {g1 g2 g3 gL g : Nat} {W W' : World} {t : TypeId} {v : Value} (h : One W g t v) (hk : Kc g1 g2 g3 gL W W') (hg : g = g1 ∨ g = g2 ∨ g = g3 ∨ g = gL) : One W' g t v := (hk g hg).trans h
theorem x7e {m k : Nat} {s t : List UInt8} (h : takeT 32768 s = some (t, k)) : txP (m + 1) s = (t :: (txP m (s.drop k)).1, (txP m (s.drop k)).2) := by
  conv => lhs; unfold txP
  rw [h]
theorem x7t {m : Nat} {s : List UInt8} (h : takeT 32768 s = none) : txP (m + 1) s = ([], none) := by unfold txP; rw [h]
theorem j9g {a b : Nat} {w w' : World} (h : Touch (fun x => x = a) w w') : Touch (fun x => x = a ∨ x = b) w w' := ⟨h.os, h.tape, h.output, h.size, fun k hk hn => h.block k hk (fun q => hn (.inl q))⟩
theorem x8p {a b : Nat} {w w' : World} (h : Touch (fun x => x = b) w w') : Touch (fun x => x = a ∨ x = b) w w' := ⟨h.os, h.tape, h.output, h.size, fun k hk hn => h.block k hk (fun q => hn (.inr q))⟩
theorem x7h (lp g1 g2 g3 gL n N : Nat) (L : List UInt8) (J : List (List UInt8) → World → Prop) (Jx : World → Prop)
    (h13 : g1 ≠ g3) (h1L : g1 ≠ gL) (h23 : g2 ≠ g3) (h2L : g2 ≠ gL) (h3L : g3 ≠ gL)
    (hJ : ∀ pre W W', J pre W → Touch (fun b => b = gL ∨ b = g3) W W' → J pre W')
    (hY : ∀ pre x post W, (txP N L).1 = pre ++ x :: post → J pre W → YieldAt Fence.wide (n - 1) Tryz.prog lp #[.string ⟨x.toArray⟩] W fun e W' => (e = .returned (.bool true) ∧ J (pre ++ [x]) W' ∧ Kc g1 g2 g3 gL W W') ∨ (e = .returned (.bool false) ∧ Jx W'))
    (W : World) (F1 : One W g1 108 (.pointer (some ⟨gL, 0, none⟩))) (F2 : One W g2 24 (.int .u64 (N : Int))) (F3 : One W g3 9 (.string ⟨L.toArray⟩)) (s0 : ByteArray) (F4 : One W gL 9 (.string s0)) (hL : L.length ≤ 1048576) (hN : N ≤ 16) (h0 : J [] W) :
    CallsIn Fence.wide n Tryz.prog 141 #[.func (.yield lp) #[] #[], .pointer (some ⟨g1, 0, none⟩), .pointer (some ⟨g2, 0, none⟩), .pointer (some ⟨g3, 0, none⟩)] W fun e W' => (∃ v, e = .returned v) ∧ ((J (txP N L).1 W' ∧ One W' gL 9 (.string (leftS (txP N L).2))) ∨ Jx W') := by
  refine callsIn_of_wp Tryz.func141 rfl trivial ?_ rfl
  simp only [Tryz.ntmps141, List.size_toArray, List.length_cons, List.length_nil, Nat.reduceAdd, Nat.reduceSub, Array.replicate_succ, Array.replicate_zero, List.push_toArray, List.append_toArray, List.nil_append, List.cons_append]
  refine wpIn_seq ?_
  refine j1v ?_
  go_wp2_with (first | (with_reducible refine w0g ?_; refine q0a rfl 108 _ rfl rfl F1.cell (by kernel_rfl) ?_) | ((with_reducible refine w6g ?_); refine q1a rfl 9 _ _ rfl rfl rfl F4 Nat.zero_lt_one strSize rfl rfl ?_; intro _ t1 ht1; clear F4; have h1 := hJ _ _ _ h0 (j9g ht1); clear h0; have h0 := h1; clear h1; replace F1 := F1.tt ht1 h1L; replace F2 := F2.tt ht1 h2L; replace F3 := F3.tt ht1 h3L; have F4 := t1; clear t1 ht1))
  refine wpIn_seq ?_
  refine wpIn_seq ?_
  refine j1v ?_
  go_wp2_with (with_reducible refine w0g ?_; refine q0a rfl 24 _ rfl rfl F2.cell (by kernel_rfl) ?_)
  refine wpIn_block ?_
  gi_loopw [11] (fun i wr => ∃ (k : Nat) (s : List UInt8) (pre : List (List UInt8)), i = .int .u64 k ∧ k ≤ N ∧ s.length ≤ 1048576 ∧ Hid ((txP N L).1 = pre ++ (txP (N - k) s).1) ∧ Hid ((txP N L).2 = (txP (N - k) s).2) ∧ One wr g1 108 (.pointer (some ⟨gL, 0, none⟩)) ∧ One wr g3 9 (.string ⟨s.toArray⟩) ∧ One wr gL 9 (.string ⟨#[63]⟩) ∧ J pre wr) (fun i _ => N - (RowKit.intOf i).toNat)
  case atStart => exact ⟨0, L, [], rfl, by omega, hL, hide (by simp), hide rfl, F1, F3, F4, h0⟩
  case round =>
    clear F1 F2 F3 F4 h0
    obtain ⟨k, s, pre, rfl, hk, hsz, H1, H2, F1, F3, F4, h0⟩ := hrel
    have c1 := F1.cell
    have c3 := F3.cell
    have cL := F4.cell
    have f3 := F3.thaw
    have fL := F4.thaw
    by_cases hlt : k < N
    · obtain ⟨m, hm⟩ : ∃ m, N - k = m + 1 := ⟨N - k - 1, by omega⟩
      have hmj : N - (k + 1) = m := by omega
      have HMJ := hide hmj
      rw [hm] at H1 H2
      have HTT := hide (fun w => j8m ⟨s.toArray⟩ w (by show s.toArray.size ≤ _; rw [List.size_toArray]; exact hsz))
      have e0 : (⟨s.toArray⟩ : ByteArray).data.toList = s := rfl
      rw [e0] at HTT
      unfold tkV at HTT
      clear e0 hm hmj
      cases hq : takeT 32768 s with
      | none =>
        rw [x7t hq] at H1 H2
        rw [hq] at HTT
        clear hq
        gi_wp2
        refine ⟨trivial, fun hd => (by cases hd), ?_⟩
        (with_reducible show CallsIn _ _ _ 142 _ _ _)
        refine (callsIn_wide.2 (HTT.out _)).mono ?_
        rintro _ _ ⟨⟨c, rfl, hc0⟩, hb⟩
        have hcn : c ≠ 0 := (fun h => by have := hc0.1 h; cases this)
        have hcb : (c != 0) = true := bne_iff_ne.2 hcn
        replace F4 := F4.later hb
        have h1 := hJ _ _ _ h0 (q2q hb)
        clear h0 hb hc0 hcn
        gi_wp2
        refine ⟨fun _ h => (by cases h), ?_⟩
        gi_wp2
        refine bodyPost_ret (results_none rfl _ _ _) rfl ?_
        rw [H1.out, H2.out, List.append_nil]
        exact ⟨⟨_, rfl⟩, .inl ⟨h1, F4⟩⟩
      | some y =>
        obtain ⟨t, k3⟩ := y
        obtain ⟨-, -, ht3, hk3⟩ := j9n hq
        rw [x7e hq] at H1 H2
        rw [hq] at HTT
        have q1 : k3 ≤ (⟨s.toArray⟩ : ByteArray).size := by show k3 ≤ s.toArray.size; rw [List.size_toArray]; exact hk3
        have HEX : Hid ((⟨s.toArray⟩ : ByteArray).extract k3 (⟨s.toArray⟩ : ByteArray).size = ⟨(s.drop k3).toArray⟩) := by
          apply ByteArray.ext
          apply Array.toList_inj.1
          simp [ByteArray.size, List.take_of_length_le]
        have HN2 : Hid ((txP N L).1 = (pre ++ [t]) ++ (txP m (s.drop k3)).1) := by rw [H1.out]; exact hide (by simp)
        have hsz2 : (s.drop k3).length ≤ 1048576 := by rw [List.length_drop]; omega
        have HSZ2 := hide hsz2
        clear hq hk3 hsz2
        gi_wp2
        refine ⟨trivial, fun hd => (by cases hd), ?_⟩
        (with_reducible show CallsIn _ _ _ 142 _ _ _)
        refine (callsIn_wide.2 (HTT.out _)).mono ?_
        rintro _ w2 ⟨⟨c, rfl, hc0⟩, hb⟩
        have hcn : c = 0 := hc0.2 rfl
        clear hc0
        subst hcn
        replace F1 := F1.later hb
        replace F3 := F3.later hb
        replace F4 := F4.later hb
        have h1 := hJ _ _ _ h0 (q2q hb)
        clear h0 hb c1 c3 cL f3 fL
        obtain ⟨fn, tmps, assign, body, hy, hR⟩ := hY pre t _ w2 H1.out h1
        gi_wp2
        refine ⟨fun hd => (by cases hd), ?_⟩
        refine hR.mono ?_
        rintro _ W' (⟨rfl, hj, hkc⟩ | ⟨rfl, hx⟩)
        · replace F1 := F1.kc hkc (.inl rfl)
          replace F3 := F3.kc hkc (.inr (.inr (.inl rfl)))
          replace F4 := F4.kc hkc (.inr (.inr (.inr rfl)))
          have c3 := F3.cell
          have f3 := F3.thaw
          gi_wp2
          go_roundw
          case rel => exact ⟨k + 1, s.drop k3, pre ++ [t], by simp, by omega, HSZ2.out, by rw [HMJ.out]; exact HN2, by rw [HMJ.out]; exact H2, F1.touch (q7q _ ⟨g3, 0, none⟩ _) h13, by rw [← HEX.out]; exact One.set F3 _, F4.touch (q7q _ ⟨g3, 0, none⟩ _) (fun h => h3L h.symm), hJ _ _ _ hj (x8p (q7q _ ⟨g3, 0, none⟩ _))⟩
          case measure => simp [RowKit.intOf]; omega
        · gi_wp2
          refine bodyPost_ret (results_none rfl _ _ _) rfl ?_
          exact ⟨⟨_, rfl⟩, .inr hx⟩
    · obtain rfl : N = k := by omega
      rw [Nat.sub_self] at H1 H2
      gi_wp2
      go_end0
      refine ⟨⟨_, rfl⟩, .inl ⟨?_, ?_⟩⟩
      · rw [H1.out]
        show J (pre ++ []) _
        rw [List.append_nil]
        exact hJ _ _ _ h0 (j9g (q7q _ ⟨gL, 0, none⟩ _))
      · rw [H2.out]
        exact One.set F4 _
end Go.Proofs.YtbbfnpfkbbpjgaaGreat
/- block.told, block.Take. -/
namespace Go.Proofs.YtbbfnpfkbbpjgaaGreat
open Go.RowKit Go.Lib
set_option linter.unusedVariables false
set_option linter.unusedSimpArgs false
set_option maxRecDepth 100000
set_option maxHeartbeats 4000000
theorem x8w (s : ByteArray) (m gL : Nat) (w : World) :
    Calls Tryz.prog 68 #[.string s, .int .u64 (m : Int), .pointer (some ⟨gL, 0, none⟩)] w fun e w' =>
      (∃ g1 g2 g3, e = .returned (.func (.func 141) #[] #[.pointer (some ⟨g1, 0, none⟩), .pointer (some ⟨g2, 0, none⟩), .pointer (some ⟨g3, 0, none⟩)]) ∧ w.heap.size ≤ g3 ∧ g3 < g2 ∧ g2 < g1 ∧ g1 < w'.heap.size ∧
        One w' g1 108 (.pointer (some ⟨gL, 0, none⟩)) ∧ One w' g2 24 (.int .u64 (m : Int)) ∧ One w' g3 9 (.string s)) ∧ Below w.heap.size w w' := by
  have b := Below.refl w.heap.size w
  have mF1 := True.intro
  have mF2 := True.intro
  have mF3 := True.intro
  go_enter Tryz.func68, Tryz.ntmps68
  go_wp2_with (first | ((with_reducible show wpList _ _ _ (⟨_, Op.box 9 _, _, _, _, _⟩ :: _) _ _); clear mF3; refine q4k rfl 9 _ rfl rfl (cs := [.string s]) rfl ?_; intro _ g3 hg3 F3 hb; have q3 := b.size; have F3 : One _ g3 9 (.string s) := F3; replace b := later b hb; clear hb) | ((with_reducible show wpList _ _ _ (⟨_, Op.box 24 _, _, _, _, _⟩ :: _) _ _); clear mF2; refine q4k rfl 24 _ rfl rfl (cs := [.int .u64 (m : Int)]) rfl ?_; intro _ g2 hg2 F2 hb; have q2 := F3.lt; have F2 : One _ g2 24 (.int .u64 (m : Int)) := F2; replace F3 := F3.later hb; replace b := later b hb; clear hb) | ((with_reducible show wpList _ _ _ (⟨_, Op.box 108 _, _, _, _, _⟩ :: _) _ _); clear mF1; refine q4k rfl 108 _ rfl rfl (cs := [.pointer (some ⟨gL, 0, none⟩)]) rfl ?_; intro _ g1 hg1 F1 hb; have q1 := F2.lt; have F1 : One _ g1 108 (.pointer (some ⟨gL, 0, none⟩)) := F1; replace F2 := F2.later hb; replace F3 := F3.later hb; replace b := later b hb; clear hb))
  go_ret
  exact ⟨⟨g1, g2, g3, rfl, by omega, by omega, by omega, F1.lt, F1, F2, F3⟩, b⟩
end Go.Proofs.YtbbfnpfkbbpjgaaGreat
/- The reference of layer 15: Take. -/
namespace Go.Proofs.YtbbfnpfkbbpjgaaGreat
open Go.RowKit Go.Lib
set_option linter.unusedVariables false
set_option linter.unusedSimpArgs false
set_option maxRecDepth 100000
set_option maxHeartbeats 4000000
theorem ext_h (s : ByteArray) (n : Nat) : s.extract 0 n = ⟨(s.data.toList.take n).toArray⟩ := by
  apply ByteArray.ext
  apply Array.toList_inj.1
  simp
theorem x3a (s : ByteArray) (n : Nat) : (s.extract n s.size).size = s.size - n := by rw [ByteArray.size_extract]; omega
end Go.Proofs.YtbbfnpfkbbpjgaaGreat
