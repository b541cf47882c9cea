/- slices.Equal at api.Pay. -/
import Derived.Test.YtbbfnpfkbbpjgaaGreatQBSlSame
import Derived.Test.YtbbfnpfkbbpjgaaGreatQBElOut
import Derived.Test.YtbbfnpfkbbpjgaaGreatQBElWit
import Derived.Test.YtbbfnpfkbbpjgaaGreatQBBlkM
import Derived.Test.YtbbfnpfkbbpjgaaGreatQBDeed4r
import Derived.Test.YtbbfnpfkbbpjgaaGreatQBDeedF
namespace Go.Proofs.YtbbfnpfkbbpjgaaGreat
open Go.RowKit Go.Lib
set_option linter.unusedVariables false
set_option linter.unusedSimpArgs false
set_option maxRecDepth 100000
set_option maxHeartbeats 4000000
theorem x8s (v1 v2 : Value) (l m : List PayT) (w : World) (h1 : Sl w v1 33 (l.map payCs)) (h2 : Sl w v2 33 (m.map payCs)) (hl : ∀ x ∈ l, x.Ok) (hm : ∀ x ∈ m, x.Ok) :
    Calls Tryz.prog 111 #[v1, v2] w fun e w' => e = .returned (.bool (sameL samePay l m)) ∧ Below w.heap.size w w' := by
  obtain ⟨a1, c1, rfl, hc1, hm1, _⟩ := h1.shape
  obtain ⟨a2, c2, rfl, hc2, hm2, _⟩ := h2.shape
  have b := Below.refl w.heap.size w
  by_cases hlen : l.length = m.length
  · obtain ⟨n, hn⟩ : ∃ n, n = l.length := ⟨_, rfl⟩
    have HN := hide hn
    have HM : Hid (n = m.length) := by unfold Hid; omega
    rw [← hlen] at hc2 ⊢
    rw [← hn] at hc1 hc2 ⊢
    have hcap : n ≤ maxLen := by omega
    unfold maxLen at hcap
    have HL := hide hl
    have HK := hide hm
    clear hn hl hm hc1 hc2 hm1 hm2 hlen
    go_enter Tryz.func111, Tryz.ntmps111
    go_wp2_with fail
    go_loopw [13] (fun i wr => ∃ k : Nat, i = .int .i64 k ∧ k ≤ n ∧ Hid (sameL samePay (l.take k) (m.take k) = true) ∧ Below w.heap.size w wr) (fun i _ => n - (RowKit.intOf i).toNat)
    case atStart => exact ⟨0, rfl, by omega, hide (by simp [sameL]), b⟩
    case round =>
      clear b
      obtain ⟨k, rfl, hk, HA, b⟩ := hrel
      by_cases hlt : k < n
      · obtain ⟨x, hx, okx⟩ := q1u HL.out (k := k) (by rw [← HN.out]; exact hlt)
        obtain ⟨y, hy, oky⟩ := q1u HK.out (k := k) (by rw [← HM.out]; exact hlt)
        obtain ⟨b1, k1, c1', e1, _, hcs1⟩ := (h1.later b).block (by rw [← HN.out]; omega)
        obtain ⟨b2, k2, c2', e2, _, hcs2⟩ := (h2.later b).block (by rw [← HM.out]; omega)
        simp only [Value.slice.injEq] at e1 e2
        obtain ⟨rfl, -, rfl⟩ := e1
        obtain ⟨rfl, -, rfl⟩ := e2
        have d1 := hcs1 k x hx
        have d2 := hcs2 k y hy
        have HR := hide (q5q (f := samePay) l m k x y hx hy)
        have HS := hide (q5p (f := samePay) l m (k + 1))
        have OX := hide okx
        have OY := hide oky
        clear hcs1 hcs2 okx oky hx hy
        cases hB : samePay x y
        case true =>
          have HA2 : Hid (sameL samePay (l.take (k + 1)) (m.take (k + 1)) = true) := by rw [HR.out, HA.out, hB]; exact hide rfl
          have HB := hide hB
          clear HR HS HA hB
          go_wp2_with (with_reducible show Code.wp _ (Code.region _ _ true) _ _ _; (try simp only [pS]); fail)
          (try simp only [pS])
          refine q0h (by kernel_rfl) (by kernel_rfl) ?_
          repeat (first | go_big_quiet_skip | (go_big_quiet_want; first | ((with_reducible refine w22g ?_); first | (refine q1g _ rfl rfl d1 OX.out ?_; simp only [pS]; go_big_quiet_on) | (refine q1g _ rfl rfl d2 OY.out ?_; simp only [pS]; go_big_quiet_on)) | ((with_reducible refine w26g ?_); refine j0y _ _ rfl rfl rfl OX.out OY.out ?_; rw [HB.out]; simp only [pS]; go_big_quiet_on) | (go_big_quiet_op; go_big_quiet_on)))
          refine wpQuiet_nil ?_
          intro _ hq
          (try replace b := later b hq)
          clear hq
          go_wp2_with fail
          go_roundw
          case rel => exact ⟨k + 1, by simp, by omega, HA2, b⟩
          case measure => simp [RowKit.intOf]; omega
        case false =>
          have HA2 : Hid (sameL samePay l m = false) := HS.out (by rw [HR.out, hB, Bool.and_false])
          have HB := hide hB
          clear HR HS HA hB
          go_wp2_with (with_reducible show Code.wp _ (Code.region _ _ true) _ _ _; (try simp only [pS]); fail)
          (try simp only [pS])
          refine q0h (by kernel_rfl) (by kernel_rfl) ?_
          repeat (first | go_big_quiet_skip | (go_big_quiet_want; first | ((with_reducible refine w22g ?_); first | (refine q1g _ rfl rfl d1 OX.out ?_; simp only [pS]; go_big_quiet_on) | (refine q1g _ rfl rfl d2 OY.out ?_; simp only [pS]; go_big_quiet_on)) | ((with_reducible refine w26g ?_); refine j0y _ _ rfl rfl rfl OX.out OY.out ?_; rw [HB.out]; simp only [pS]; go_big_quiet_on) | (go_big_quiet_op; go_big_quiet_on)))
          refine wpQuiet_nil ?_
          intro _ hq
          (try replace b := later b hq)
          clear hq
          go_wp2_with fail
          go_ret
          exact ⟨by rw [HA2.out]; rfl, b⟩
      · obtain rfl : k = n := by omega
        have hA := HA.out
        rw [List.take_of_length_le (by rw [← HN.out]; exact Nat.le_refl _), List.take_of_length_le (by rw [← HM.out]; exact Nat.le_refl _)] at hA
        clear HA
        go_wp2_with fail
        go_ret
        exact ⟨by rw [hA]; rfl, b⟩
  · have hR : sameL samePay l m = false := q6u hlen
    rw [hR]
    have e1 : ((l.length : Int) != (m.length : Int)) = true := by simp; omega
    clear hR hl hm hlen h1 h2 hc1 hc2 hm1 hm2
    go_enter Tryz.func111, Tryz.ntmps111
    go_wp2_with fail
    go_ret
    exact ⟨rfl, b⟩
end Go.Proofs.YtbbfnpfkbbpjgaaGreat
/- slices.Equal at api.Wit. -/
namespace Go.Proofs.YtbbfnpfkbbpjgaaGreat
open Go.RowKit Go.Lib
set_option linter.unusedVariables false
set_option linter.unusedSimpArgs false
set_option maxRecDepth 100000
set_option maxHeartbeats 4000000
theorem x7w (v1 v2 : Value) (l m : List WitT) (w : World) (h1 : Sl w v1 33 (l.map witCs)) (h2 : Sl w v2 33 (m.map witCs)) (hl : ∀ x ∈ l, x.Ok) (hm : ∀ x ∈ m, x.Ok) :
    Calls Tryz.prog 112 #[v1, v2] w fun e w' => e = .returned (.bool (sameL sameWit l m)) ∧ Below w.heap.size w w' := by
  obtain ⟨a1, c1, rfl, hc1, hm1, _⟩ := h1.shape
  obtain ⟨a2, c2, rfl, hc2, hm2, _⟩ := h2.shape
  have b := Below.refl w.heap.size w
  by_cases hlen : l.length = m.length
  · obtain ⟨n, hn⟩ : ∃ n, n = l.length := ⟨_, rfl⟩
    have HN := hide hn
    have HM : Hid (n = m.length) := by unfold Hid; omega
    rw [← hlen] at hc2 ⊢
    rw [← hn] at hc1 hc2 ⊢
    have hcap : n ≤ maxLen := by omega
    unfold maxLen at hcap
    have HL := hide hl
    have HK := hide hm
    clear hn hl hm hc1 hc2 hm1 hm2 hlen
    go_enter Tryz.func112, Tryz.ntmps112
    go_wp2_with fail
    go_loopw [13] (fun i wr => ∃ k : Nat, i = .int .i64 k ∧ k ≤ n ∧ Hid (sameL sameWit (l.take k) (m.take k) = true) ∧ Below w.heap.size w wr) (fun i _ => n - (RowKit.intOf i).toNat)
    case atStart => exact ⟨0, rfl, by omega, hide (by simp [sameL]), b⟩
    case round =>
      clear b
      obtain ⟨k, rfl, hk, HA, b⟩ := hrel
      by_cases hlt : k < n
      · obtain ⟨x, hx, okx⟩ := q1u HL.out (k := k) (by rw [← HN.out]; exact hlt)
        obtain ⟨y, hy, oky⟩ := q1u HK.out (k := k) (by rw [← HM.out]; exact hlt)
        obtain ⟨b1, k1, c1', e1, _, hcs1⟩ := (h1.later b).block (by rw [← HN.out]; omega)
        obtain ⟨b2, k2, c2', e2, _, hcs2⟩ := (h2.later b).block (by rw [← HM.out]; omega)
        simp only [Value.slice.injEq] at e1 e2
        obtain ⟨rfl, -, rfl⟩ := e1
        obtain ⟨rfl, -, rfl⟩ := e2
        have d1 := hcs1 k x hx
        have d2 := hcs2 k y hy
        have HR := hide (q5q (f := sameWit) l m k x y hx hy)
        have HS := hide (q5p (f := sameWit) l m (k + 1))
        have OX := hide okx
        have OY := hide oky
        clear hcs1 hcs2 okx oky hx hy
        cases hB : sameWit x y
        case true =>
          have HA2 : Hid (sameL sameWit (l.take (k + 1)) (m.take (k + 1)) = true) := by rw [HR.out, HA.out, hB]; exact hide rfl
          have HB := hide hB
          clear HR HS HA hB
          go_wp2_with (with_reducible show Code.wp _ (Code.region _ _ true) _ _ _; (try simp only [pS]); fail)
          (try simp only [pS])
          refine q0h (by kernel_rfl) (by kernel_rfl) ?_
          repeat (first | go_big_quiet_skip | (go_big_quiet_want; first | ((with_reducible refine w22g ?_); first | (refine q1i _ rfl rfl d1 OX.out ?_; simp only [pS]; go_big_quiet_on) | (refine q1i _ rfl rfl d2 OY.out ?_; simp only [pS]; go_big_quiet_on)) | ((with_reducible refine w26g ?_); refine j0r _ _ rfl rfl rfl OX.out OY.out ?_; rw [HB.out]; simp only [pS]; go_big_quiet_on) | (go_big_quiet_op; go_big_quiet_on)))
          refine wpQuiet_nil ?_
          intro _ hq
          (try replace b := later b hq)
          clear hq
          go_wp2_with fail
          go_roundw
          case rel => exact ⟨k + 1, by simp, by omega, HA2, b⟩
          case measure => simp [RowKit.intOf]; omega
        case false =>
          have HA2 : Hid (sameL sameWit l m = false) := HS.out (by rw [HR.out, hB, Bool.and_false])
          have HB := hide hB
          clear HR HS HA hB
          go_wp2_with (with_reducible show Code.wp _ (Code.region _ _ true) _ _ _; (try simp only [pS]); fail)
          (try simp only [pS])
          refine q0h (by kernel_rfl) (by kernel_rfl) ?_
          repeat (first | go_big_quiet_skip | (go_big_quiet_want; first | ((with_reducible refine w22g ?_); first | (refine q1i _ rfl rfl d1 OX.out ?_; simp only [pS]; go_big_quiet_on) | (refine q1i _ rfl rfl d2 OY.out ?_; simp only [pS]; go_big_quiet_on)) | ((with_reducible refine w26g ?_); refine j0r _ _ rfl rfl rfl OX.out OY.out ?_; rw [HB.out]; simp only [pS]; go_big_quiet_on) | (go_big_quiet_op; go_big_quiet_on)))
          refine wpQuiet_nil ?_
          intro _ hq
          (try replace b := later b hq)
          clear hq
          go_wp2_with fail
          go_ret
          exact ⟨by rw [HA2.out]; rfl, b⟩
      · obtain rfl : k = n := by omega
        have hA := HA.out
        rw [List.take_of_length_le (by rw [← HN.out]; exact Nat.le_refl _), List.take_of_length_le (by rw [← HM.out]; exact Nat.le_refl _)] at hA
        clear HA
        go_wp2_with fail
        go_ret
        exact ⟨by rw [hA]; rfl, b⟩
  · have hR : sameL sameWit l m = false := q6u hlen
    rw [hR]
    have e1 : ((l.length : Int) != (m.length : Int)) = true := by simp; omega
    clear hR hl hm hlen h1 h2 hc1 hc2 hm1 hm2
    go_enter Tryz.func112, Tryz.ntmps112
    go_wp2_with fail
    go_ret
    exact ⟨rfl, b⟩
end Go.Proofs.YtbbfnpfkbbpjgaaGreat
/- deed.Same. -/
namespace Go.Proofs.YtbbfnpfkbbpjgaaGreat
open Go.RowKit Go.Lib
set_option linter.unusedVariables false
set_option linter.unusedSimpArgs false
set_option maxRecDepth 100000
set_option maxHeartbeats 4000000
theorem j5f (v u : Value) (d e : Deed) (w : World) (hd : DeedIs w v d) (he : DeedIs w u e) :
    Calls Tryz.prog 49 #[v, u] w fun x w' => x = .returned (.bool (sameD d e)) ∧ Below w.heap.size w w' := by
  obtain ⟨v1, v2, v3, v4, v5, rfl, h1, h2, h3, h4, h5, ok⟩ := hd
  obtain ⟨u1, u2, u3, u4, u5, rfl, k1, k2, k3, k4, k5, oe⟩ := he
  have o1 := h1.one'
  have o2 := h2.one'
  have o3 := h3.one'
  have o4 := h4.one'
  have o5 := h5.one'
  have p1 := k1.one'
  have p2 := k2.one'
  have p3 := k3.one'
  have p4 := k4.one'
  have p5 := k5.one'
  have R1 := hide (fun (w' : World) (hb : Below w.heap.size w w') => x9z _ _ _ _ w' (h1.later hb) (k1.later hb) ok.ins oe.ins)
  have R2 := hide (fun (w' : World) (hb : Below w.heap.size w w') => x6o _ _ _ _ w' (h2.later hb) (k2.later hb) ok.outs oe.outs)
  have R3 := hide (fun (w' : World) (hb : Below w.heap.size w w') => x6c _ _ _ _ w' (h3.later hb) (k3.later hb) ok.certs oe.certs)
  have R4 := hide (fun (w' : World) (hb : Below w.heap.size w w') => x8s _ _ _ _ w' (h4.later hb) (k4.later hb) ok.pays oe.pays)
  have R5 := hide (fun (w' : World) (hb : Below w.heap.size w w') => x7w _ _ _ _ w' (h5.later hb) (k5.later hb) ok.wits oe.wits)
  have b := Below.refl w.heap.size w
  have E1 := hide (fun _ : Unit => q3m d.fee e.fee)
  have E2 := hide (fun _ : Unit => q3m d.frm e.frm)
  have E3 := hide (fun _ : Unit => q3m d.til e.til)
  unfold sameD
  clear h1 h2 h3 h4 h5 k1 k2 k3 k4 k5 ok oe
  generalize sameL sameIn d.ins e.ins = A1 at *
  generalize sameL sameOut d.outs e.outs = A2 at *
  generalize sameL sameCert d.certs e.certs = A6 at *
  generalize sameL samePay d.pays e.pays = A7 at *
  generalize sameL sameWit d.wits e.wits = A8 at *
  generalize decide (d.fee = e.fee) = A3 at *
  generalize decide (d.frm = e.frm) = A4 at *
  generalize decide (d.til = e.til) = A5 at *
  generalize d.fee = f1 at *
  generalize d.frm = s1 at *
  generalize d.til = t1' at *
  generalize e.fee = f2 at *
  generalize e.frm = s2 at *
  generalize e.til = t2' at *
  have mF1 := True.intro
  have mF2 := True.intro
  go_enter Tryz.func49, Tryz.ntmps49
  go_wp2_with (first | (with_reducible refine w4g ?_; clear mF1; refine q1h rfl _ rfl rfl o1 o2 o3 o4 o5 ?_; intro _ g2 hg2 F1 hb; (try replace F1 := F1.later hb); (try replace F2 := F2.later hb); (try replace b := later b hb); clear hb) | (with_reducible refine w4g ?_; clear mF2; refine q1h rfl _ rfl rfl p1 p2 p3 p4 p5 ?_; intro _ g3 hg3 F2 hb; (try replace F1 := F1.later hb); (try replace F2 := F2.later hb); (try replace b := later b hb); clear hb) | (with_reducible refine w0g ?_; first | ((with_reducible refine w2g ?_); first | refine q0a rfl 24 _ rfl rfl (DAt.c2 F1) (by kernel_rfl) ?_ | refine q0a rfl 24 _ rfl rfl (DAt.c3 F1) (by kernel_rfl) ?_ | refine q0a rfl 24 _ rfl rfl (DAt.c4 F1) (by kernel_rfl) ?_) | refine q0a rfl 22 _ rfl rfl (DAt.c0 F1) (by kernel_rfl) ?_ | refine q0a rfl 23 _ rfl rfl (DAt.c1 F1) (by kernel_rfl) ?_ | refine q0a rfl 25 _ rfl rfl (DAt.c5 F1) (by kernel_rfl) ?_ | refine q0a rfl 26 _ rfl rfl (DAt.c6 F1) (by kernel_rfl) ?_ | refine q0a rfl 27 _ rfl rfl (DAt.c7 F1) (by kernel_rfl) ?_ | refine q0f rfl _ rfl rfl F1 ?_) | (with_reducible refine w0g ?_; first | ((with_reducible refine w2g ?_); first | refine q0a rfl 24 _ rfl rfl (DAt.c2 F2) (by kernel_rfl) ?_ | refine q0a rfl 24 _ rfl rfl (DAt.c3 F2) (by kernel_rfl) ?_ | refine q0a rfl 24 _ rfl rfl (DAt.c4 F2) (by kernel_rfl) ?_) | refine q0a rfl 22 _ rfl rfl (DAt.c0 F2) (by kernel_rfl) ?_ | refine q0a rfl 23 _ rfl rfl (DAt.c1 F2) (by kernel_rfl) ?_ | refine q0a rfl 25 _ rfl rfl (DAt.c5 F2) (by kernel_rfl) ?_ | refine q0a rfl 26 _ rfl rfl (DAt.c6 F2) (by kernel_rfl) ?_ | refine q0a rfl 27 _ rfl rfl (DAt.c7 F2) (by kernel_rfl) ?_ | refine q0f rfl _ rfl rfl F2 ?_) | (with_reducible refine w9g ?_; first | refine q2r rfl _ _ rfl rfl rfl (E1.out ()) ?_ | refine q2r rfl _ _ rfl rfl rfl (E2.out ()) ?_ | refine q2r rfl _ _ rfl rfl rfl (E3.out ()) ?_) | (go_at_call 108; refine (R1.out _ b).mono ?_; rintro _ _ ⟨rfl, hc⟩; (try replace F1 := F1.later hc); (try replace F2 := F2.later hc); (try replace b := later b hc); clear hc) | (go_at_call 109; refine (R2.out _ b).mono ?_; rintro _ _ ⟨rfl, hc⟩; (try replace F1 := F1.later hc); (try replace F2 := F2.later hc); (try replace b := later b hc); clear hc) | (go_at_call 110; refine (R3.out _ b).mono ?_; rintro _ _ ⟨rfl, hc⟩; (try replace F1 := F1.later hc); (try replace F2 := F2.later hc); (try replace b := later b hc); clear hc) | (go_at_call 111; refine (R4.out _ b).mono ?_; rintro _ _ ⟨rfl, hc⟩; (try replace F1 := F1.later hc); (try replace F2 := F2.later hc); (try replace b := later b hc); clear hc) | (go_at_call 112; refine (R5.out _ b).mono ?_; rintro _ _ ⟨rfl, hc⟩; (try replace F1 := F1.later hc); (try replace F2 := F2.later hc); (try replace b := later b hc); clear hc))
  all_goals
    go_ret
    refine ⟨?_, b⟩
    clear R1 R2 R3 R4 R5 E1 E2 E3 F1 F2 b
    simp_all
end Go.Proofs.YtbbfnpfkbbpjgaaGreat
/- The reference of layer 13: Same. Printed by gen_refsame.py. -/
namespace Go.Proofs.YtbbfnpfkbbpjgaaGreat
open Go.RowKit Go.Lib
set_option linter.unusedVariables false
set_option linter.unusedSimpArgs false
set_option maxRecDepth 100000
set_option maxHeartbeats 4000000
theorem z0m (n m : Nat) : ((n : Int) != (m : Int)) = !decide (n = m) := by
  rw [← q3m]; rfl
end Go.Proofs.YtbbfnpfkbbpjgaaGreat
/- The reference of layer 15: Same. -/
namespace Go.Proofs.YtbbfnpfkbbpjgaaGreat
open Go.RowKit Go.Lib
set_option linter.unusedVariables false
set_option linter.unusedSimpArgs false
set_option maxRecDepth 100000
set_option maxHeartbeats 4000000
theorem j6n {α : Type} {f : α → α → Bool} : ∀ {l m : List α}, l.length ≠ m.length → sameL f l m = false
  | [], [], h => absurd rfl h
  | [], _ :: _, _ => rfl
  | _ :: _, [], _ => rfl
  | a :: l, b :: m, h => by
    show (f a b && sameL f l m) = false
    rw [j6n (l := l) (m := m) (by simpa using h), Bool.and_false]
theorem j6v {α : Type} {f : α → α → Bool} : ∀ {l m : List α} {k : Nat} {a b : α}, l[k]? = some a → m[k]? = some b → f a b = false → sameL f l m = false
  | x :: l, y :: m, 0, a, b, h1, h2, h3 => by
    simp only [List.getElem?_cons_zero, Option.some.injEq] at h1 h2
    subst h1 h2
    show (f x y && sameL f l m) = false
    rw [h3, Bool.false_and]
  | x :: l, y :: m, k + 1, a, b, h1, h2, h3 => by
    show (f x y && sameL f l m) = false
    rw [j6v (k := k) (by simpa using h1) (by simpa using h2) h3, Bool.and_false]
theorem j5r {α : Type} {f : α → α → Bool} : ∀ {l m : List α}, l.length = m.length → (∀ (k : Nat) (a b : α), l[k]? = some a → m[k]? = some b → f a b = true) → sameL f l m = true
  | [], [], _, _ => rfl
  | a :: l, b :: m, h, hf => by
    show (f a b && sameL f l m) = true
    rw [hf 0 a b rfl rfl, j5r (l := l) (m := m) (by simpa using h) (fun k x y hx hy => hf (k + 1) x y (by simpa using hx) (by simpa using hy))]
    rfl
end Go.Proofs.YtbbfnpfkbbpjgaaGreat
