/- Package deed: IndexFunc, ContainsFunc, all, at things that are spent. -/
import Derived.Test.YtbbfnpfkbbpjgaaGreatQHElCert
import Derived.Test.YtbbfnpfkbbpjgaaGreatQHRowE
namespace Go.Proofs.YtbbfnpfkbbpjgaaGreat
open Go.RowKit Go.Lib
set_option linter.unusedVariables false
set_option linter.unusedSimpArgs false
set_option maxRecDepth 100000
set_option maxHeartbeats 4000000
theorem x4q (cp : Value) (g : InT → Bool) (P : World → Prop) (hP : ∀ w w', P w → Below w.heap.size w w' → P w') (hF : ∀ x w, x.Ok → P w → Calls Tryz.prog 160 #[inV x, cp] w fun e w' => e = .returned (.bool (g x)) ∧ Below w.heap.size w w')
  (v : Value) (l : List InT) (w : World) (hv : Sl w v 33 (l.map inCs)) (hl : ∀ x ∈ l, x.Ok) (hm : l.length ≤ 9223372036854775807) (hp : P w) :
  Calls Tryz.prog 184 #[v, .func (.func 160) #[] #[cp]] w fun e w' => (∃ i : Int, e = .returned (.int .i64 i) ∧ (decide (0 ≤ i) = l.any g)) ∧ Below w.heap.size w w' := by
 obtain ⟨a, c, rfl, hc1, hc2, _⟩ := hv.shape
 obtain ⟨n, hn⟩ : ∃ n, n = l.length := ⟨_, rfl⟩
 have HN := hide hn
 rw [← hn] at hm ⊢
 have b := Below.refl w.heap.size w
 have HF := hide hF
 have HL := hide hl
 clear hn hF hl hc1 hc2
 go_enter Tryz.func184, Tryz.ntmps184
 go_wp2_with fail
 go_loopw [8] (fun i wr => ∃ k : Nat, i = .int .i64 k ∧ k ≤ n ∧ Hid ((l.take k).any g = false) ∧ Below w.heap.size w wr) (fun i _ => n - (RowKit.intOf i).toNat)
 case atStart => exact ⟨0, rfl, by omega, hide rfl, b⟩
 case round =>
  clear b
  obtain ⟨k, rfl, hk, HA, b⟩ := hrel
  have hpr := hP _ _ hp b
  have hvr := hv.later b
  by_cases hlt : k < n
  ·obtain ⟨x, hx, ok⟩ := q1i HL.out (k := k) (by rw [← HN.out]; exact hlt)
   obtain ⟨bb, k0, c', he, _, hcs⟩ := hvr.block (by rw [← HN.out]; omega)
   simp only [Value.slice.injEq] at he
   obtain ⟨rfl, _, rfl⟩ := he
   have d1 := hcs k x hx
   have HX := hide (j0k l g k x hx)
   have HX2 := hide (fun h => q6x (g := g) hx h)
   have OK := hide ok
   have hc := fun w' (h : Below wr.heap.size wr w') => HF.out x w' OK.out (hP _ _ hpr h)
   have HC := hide hc
   clear hcs hx ok hc HF
   cases hg : g x
   case true =>
    rw [hg] at HC
    go_wp2_with (first | (with_reducible refine w0g ?_; refine q8h rfl _ rfl rfl d1 OK.out ?_) | (go_at_call 160; refine (HC.out _ (Below.refl _ _)).mono ?_; rintro _ _ ⟨rfl, hc⟩; (try replace b := later b hc); clear hc))
    go_ret
    exact ⟨⟨k, rfl, by rw [HX2.out hg]; simp⟩, b⟩
   case false =>
    rw [hg] at HC
    have HA2 : Hid ((l.take (k + 1)).any g = false) := by rw [HX.out, HA.out, hg]; exact hide rfl
    clear HX HX2 HA hg
    go_wp2_with (first | (with_reducible refine w0g ?_; refine q8h rfl _ rfl rfl d1 OK.out ?_) | (go_at_call 160; refine (HC.out _ (Below.refl _ _)).mono ?_; rintro _ _ ⟨rfl, hc⟩; (try replace b := later b hc); clear hc))
    go_roundw
    case rel => exact ⟨k + 1, by simp, by omega, HA2, b⟩
    case measure => simp [RowKit.intOf]; omega
  ·obtain rfl : k = n := by omega
   have hA := HA.out
   rw [List.take_of_length_le (by rw [← HN.out]; exact Nat.le_refl _)] at hA
   clear HA
   go_wp2_with fail
   go_ret
   exact ⟨⟨-1, rfl, by rw [hA]; rfl⟩, b⟩
theorem x8s (cp : Value) (g : InT → Bool) (P : World → Prop) (hP : ∀ w w', P w → Below w.heap.size w w' → P w') (hF : ∀ x w, x.Ok → P w → Calls Tryz.prog 160 #[inV x, cp] w fun e w' => e = .returned (.bool (g x)) ∧ Below w.heap.size w w')
  (v : Value) (l : List InT) (w : World) (hv : Sl w v 33 (l.map inCs)) (hl : ∀ x ∈ l, x.Ok) (hm : l.length ≤ 9223372036854775807) (hp : P w) :
  Calls Tryz.prog 159 #[v, .func (.func 160) #[] #[cp]] w fun e w' => e = .returned (.bool (l.any g)) ∧ Below w.heap.size w w' := by
 have HI := hide (fun w' (hb : Below w.heap.size w w') => x4q cp g P hP hF v l w' (hv.later hb) hl hm (hP _ _ hp hb))
 have b := Below.refl w.heap.size w
 generalize l.any g = B at *
 clear hF hv hl hm hp
 go_enter Tryz.func159, Tryz.ntmps159
 go_wp2_with (go_at_call 184; refine (HI.out _ b).mono ?_; rintro _ _ ⟨⟨i, rfl, hi⟩, hc⟩; (try replace b := later b hc); clear hc)
 go_ret
 exact ⟨rfl, b⟩
theorem x7d (g : InT → Bool) (hG : ∀ x w, x.Ok → Calls Tryz.prog 118 #[inV x] w fun e w' => e = .returned (.bool (g x)) ∧ Below w.heap.size w w') (x : InT) (w : World) (cb : Nat) (hx : x.Ok) (hc : One w cb 156 (.func (.func 118) #[] #[])) :
  Calls Tryz.prog 160 #[inV x, .pointer (some ⟨cb, 0, none⟩)] w fun e w' => e = .returned (.bool (!(g x))) ∧ Below w.heap.size w w' := by
 have HG := hide (fun w => hG x w hx)
 have HX := hide hx
 have F2 := hc
 have b := Below.refl w.heap.size w
 generalize g x = B at *
 clear hG hx hc
 have mF1 := True.intro
 go_enter Tryz.func160, Tryz.ntmps160
 go_wp2_with (first | (with_reducible refine w2g ?_; clear mF1; refine q8i rfl _ rfl rfl HX.out ?_; intro _ g2 hg2 F1 hb; (try have := F1.lt); (try have := F2.lt); (try have := b.size); (try replace F2 := F2.later hb); (try replace b := later b hb); clear hb) | (with_reducible refine w0g ?_; refine q0a rfl 156 _ rfl rfl (One.cell F2) (by kernel_rfl) ?_) | (with_reducible refine w0g ?_; refine q8h rfl _ rfl rfl F1.cells HX.out ?_) | (go_at_call 118; refine (HG.out _).mono ?_; rintro _ _ ⟨rfl, hc⟩; (try replace F1 := F1.later hc); (try replace F2 := F2.later hc); (try replace b := later b hc); clear hc))
 go_ret
 exact ⟨rfl, b⟩
theorem z1w (g : InT → Bool) (hG : ∀ x w, x.Ok → Calls Tryz.prog 118 #[inV x] w fun e w' => e = .returned (.bool (g x)) ∧ Below w.heap.size w w') (v : Value) (l : List InT) (w : World) (hv : Sl w v 33 (l.map inCs)) (hl : ∀ x ∈ l, x.Ok) (hm : l.length ≤ 9223372036854775807) :
  Calls Tryz.prog 117 #[v, .func (.func 118) #[] #[]] w fun e w' => e = .returned (.bool (l.all g)) ∧ Below w.heap.size w w' := by
 have HC := hide (fun (cb : Nat) (w' : World) (hb : Below w.heap.size w w') (hc : One w' cb 156 (.func (.func 118) #[] #[])) => x8s (.pointer (some ⟨cb, 0, none⟩)) (fun x => !(g x)) (fun w => One w cb 156 (.func (.func 118) #[] #[])) (fun _ _ h hb => h.later hb) (fun x w hx hp => x7d g hG x w cb hx hp) v l w' (hv.later hb) hl hm hc)
 have hB := j3v l g
 have HB := hide hB
 have b := Below.refl w.heap.size w
 generalize (l.any fun x => !(g x)) = B at *
 generalize l.all g = B2 at *
 clear hG hv hl hm hB
 have mF1 := True.intro
 go_enter Tryz.func117, Tryz.ntmps117
 go_wp2_with (first | (with_reducible refine w2g ?_; clear mF1; refine q6i rfl 156 _ rfl rfl rfl ?_; intro _ g3 h3 F1 hb; (try have := F1.lt); (try have := b.size); (try replace b := later b hb); clear hb) | (go_at_call 159; refine (HC.out _ _ b F1).mono ?_; rintro _ _ ⟨rfl, hc⟩; (try replace F1 := F1.later hc); (try replace b := later b hc); clear hc))
 go_ret
 exact ⟨by rw [HB.out]; simp, b⟩
theorem x3c (cp : Value) (g : OutT → Bool) (P : World → Prop) (hP : ∀ w w', P w → Below w.heap.size w w' → P w') (hF : ∀ x w, x.Ok → P w → Calls Tryz.prog 162 #[outV x, cp] w fun e w' => e = .returned (.bool (g x)) ∧ Below w.heap.size w w')
  (v : Value) (l : List OutT) (w : World) (hv : Sl w v 65 (l.map outCs)) (hl : ∀ x ∈ l, x.Ok) (hm : l.length ≤ 9223372036854775807) (hp : P w) :
  Calls Tryz.prog 185 #[v, .func (.func 162) #[] #[cp]] w fun e w' => (∃ i : Int, e = .returned (.int .i64 i) ∧ (decide (0 ≤ i) = l.any g)) ∧ Below w.heap.size w w' := by
 obtain ⟨a, c, rfl, hc1, hc2, _⟩ := hv.shape
 obtain ⟨n, hn⟩ : ∃ n, n = l.length := ⟨_, rfl⟩
 have HN := hide hn
 rw [← hn] at hm ⊢
 have b := Below.refl w.heap.size w
 have HF := hide hF
 have HL := hide hl
 clear hn hF hl hc1 hc2
 go_enter Tryz.func185, Tryz.ntmps185
 go_wp2_with fail
 go_loopw [8] (fun i wr => ∃ k : Nat, i = .int .i64 k ∧ k ≤ n ∧ Hid ((l.take k).any g = false) ∧ Below w.heap.size w wr) (fun i _ => n - (RowKit.intOf i).toNat)
 case atStart => exact ⟨0, rfl, by omega, hide rfl, b⟩
 case round =>
  clear b
  obtain ⟨k, rfl, hk, HA, b⟩ := hrel
  have hpr := hP _ _ hp b
  have hvr := hv.later b
  by_cases hlt : k < n
  ·obtain ⟨x, hx, ok⟩ := q1i HL.out (k := k) (by rw [← HN.out]; exact hlt)
   obtain ⟨bb, k0, c', he, _, hcs⟩ := hvr.block (by rw [← HN.out]; omega)
   simp only [Value.slice.injEq] at he
   obtain ⟨rfl, _, rfl⟩ := he
   have d1 := hcs k x hx
   have HX := hide (j0k l g k x hx)
   have HX2 := hide (fun h => q6x (g := g) hx h)
   have OK := hide ok
   have hc := fun w' (h : Below wr.heap.size wr w') => HF.out x w' OK.out (hP _ _ hpr h)
   have HC := hide hc
   clear hcs hx ok hc HF
   cases hg : g x
   case true =>
    rw [hg] at HC
    go_wp2_with (first | (with_reducible refine w0g ?_; refine q7d rfl _ rfl rfl d1 OK.out ?_) | (go_at_call 162; refine (HC.out _ (Below.refl _ _)).mono ?_; rintro _ _ ⟨rfl, hc⟩; (try replace b := later b hc); clear hc))
    go_ret
    exact ⟨⟨k, rfl, by rw [HX2.out hg]; simp⟩, b⟩
   case false =>
    rw [hg] at HC
    have HA2 : Hid ((l.take (k + 1)).any g = false) := by rw [HX.out, HA.out, hg]; exact hide rfl
    clear HX HX2 HA hg
    go_wp2_with (first | (with_reducible refine w0g ?_; refine q7d rfl _ rfl rfl d1 OK.out ?_) | (go_at_call 162; refine (HC.out _ (Below.refl _ _)).mono ?_; rintro _ _ ⟨rfl, hc⟩; (try replace b := later b hc); clear hc))
    go_roundw
    case rel => exact ⟨k + 1, by simp, by omega, HA2, b⟩
    case measure => simp [RowKit.intOf]; omega
  ·obtain rfl : k = n := by omega
   have hA := HA.out
   rw [List.take_of_length_le (by rw [← HN.out]; exact Nat.le_refl _)] at hA
   clear HA
   go_wp2_with fail
   go_ret
   exact ⟨⟨-1, rfl, by rw [hA]; rfl⟩, b⟩
theorem x5t (cp : Value) (g : OutT → Bool) (P : World → Prop) (hP : ∀ w w', P w → Below w.heap.size w w' → P w') (hF : ∀ x w, x.Ok → P w → Calls Tryz.prog 162 #[outV x, cp] w fun e w' => e = .returned (.bool (g x)) ∧ Below w.heap.size w w')
  (v : Value) (l : List OutT) (w : World) (hv : Sl w v 65 (l.map outCs)) (hl : ∀ x ∈ l, x.Ok) (hm : l.length ≤ 9223372036854775807) (hp : P w) :
  Calls Tryz.prog 161 #[v, .func (.func 162) #[] #[cp]] w fun e w' => e = .returned (.bool (l.any g)) ∧ Below w.heap.size w w' := by
 have HI := hide (fun w' (hb : Below w.heap.size w w') => x3c cp g P hP hF v l w' (hv.later hb) hl hm (hP _ _ hp hb))
 have b := Below.refl w.heap.size w
 generalize l.any g = B at *
 clear hF hv hl hm hp
 go_enter Tryz.func161, Tryz.ntmps161
 go_wp2_with (go_at_call 185; refine (HI.out _ b).mono ?_; rintro _ _ ⟨⟨i, rfl, hi⟩, hc⟩; (try replace b := later b hc); clear hc)
 go_ret
 exact ⟨rfl, b⟩
theorem x3g (g : OutT → Bool) (hG : ∀ x w, x.Ok → Calls Tryz.prog 120 #[outV x] w fun e w' => e = .returned (.bool (g x)) ∧ Below w.heap.size w w') (x : OutT) (w : World) (cb : Nat) (hx : x.Ok) (hc : One w cb 158 (.func (.func 120) #[] #[])) :
  Calls Tryz.prog 162 #[outV x, .pointer (some ⟨cb, 0, none⟩)] w fun e w' => e = .returned (.bool (!(g x))) ∧ Below w.heap.size w w' := by
 have HG := hide (fun w => hG x w hx)
 have HX := hide hx
 have F2 := hc
 have b := Below.refl w.heap.size w
 generalize g x = B at *
 clear hG hx hc
 have mF1 := True.intro
 go_enter Tryz.func162, Tryz.ntmps162
 go_wp2_with (first | (with_reducible refine w2g ?_; clear mF1; refine j2k rfl _ rfl rfl HX.out ?_; intro _ g2 hg2 F1 hb; (try have := F1.lt); (try have := F2.lt); (try have := b.size); (try replace F2 := F2.later hb); (try replace b := later b hb); clear hb) | (with_reducible refine w0g ?_; refine q0a rfl 158 _ rfl rfl (One.cell F2) (by kernel_rfl) ?_) | (with_reducible refine w0g ?_; refine q7d rfl _ rfl rfl F1.cells HX.out ?_) | (go_at_call 120; refine (HG.out _).mono ?_; rintro _ _ ⟨rfl, hc⟩; (try replace F1 := F1.later hc); (try replace F2 := F2.later hc); (try replace b := later b hc); clear hc))
 go_ret
 exact ⟨rfl, b⟩
theorem x9q (g : OutT → Bool) (hG : ∀ x w, x.Ok → Calls Tryz.prog 120 #[outV x] w fun e w' => e = .returned (.bool (g x)) ∧ Below w.heap.size w w') (v : Value) (l : List OutT) (w : World) (hv : Sl w v 65 (l.map outCs)) (hl : ∀ x ∈ l, x.Ok) (hm : l.length ≤ 9223372036854775807) :
  Calls Tryz.prog 119 #[v, .func (.func 120) #[] #[]] w fun e w' => e = .returned (.bool (l.all g)) ∧ Below w.heap.size w w' := by
 have HC := hide (fun (cb : Nat) (w' : World) (hb : Below w.heap.size w w') (hc : One w' cb 158 (.func (.func 120) #[] #[])) => x5t (.pointer (some ⟨cb, 0, none⟩)) (fun x => !(g x)) (fun w => One w cb 158 (.func (.func 120) #[] #[])) (fun _ _ h hb => h.later hb) (fun x w hx hp => x3g g hG x w cb hx hp) v l w' (hv.later hb) hl hm hc)
 have hB := j3v l g
 have HB := hide hB
 have b := Below.refl w.heap.size w
 generalize (l.any fun x => !(g x)) = B at *
 generalize l.all g = B2 at *
 clear hG hv hl hm hB
 have mF1 := True.intro
 go_enter Tryz.func119, Tryz.ntmps119
 go_wp2_with (first | (with_reducible refine w2g ?_; clear mF1; refine q6i rfl 158 _ rfl rfl rfl ?_; intro _ g3 h3 F1 hb; (try have := F1.lt); (try have := b.size); (try replace b := later b hb); clear hb) | (go_at_call 161; refine (HC.out _ _ b F1).mono ?_; rintro _ _ ⟨rfl, hc⟩; (try replace F1 := F1.later hc); (try replace b := later b hc); clear hc))
 go_ret
 exact ⟨by rw [HB.out]; simp, b⟩
theorem j9v (cp : Value) (g : CertT → Bool) (P : World → Prop) (hP : ∀ w w', P w → Below w.heap.size w w' → P w') (hF : ∀ x w, x.Ok → P w → Calls Tryz.prog 164 #[certV x, cp] w fun e w' => e = .returned (.bool (g x)) ∧ Below w.heap.size w w')
  (v : Value) (l : List CertT) (w : World) (hv : Sl w v 68 (l.map certCs)) (hl : ∀ x ∈ l, x.Ok) (hm : l.length ≤ 9223372036854775807) (hp : P w) :
  Calls Tryz.prog 186 #[v, .func (.func 164) #[] #[cp]] w fun e w' => (∃ i : Int, e = .returned (.int .i64 i) ∧ (decide (0 ≤ i) = l.any g)) ∧ Below w.heap.size w w' := by
 obtain ⟨a, c, rfl, hc1, hc2, _⟩ := hv.shape
 obtain ⟨n, hn⟩ : ∃ n, n = l.length := ⟨_, rfl⟩
 have HN := hide hn
 rw [← hn] at hm ⊢
 have b := Below.refl w.heap.size w
 have HF := hide hF
 have HL := hide hl
 clear hn hF hl hc1 hc2
 go_enter Tryz.func186, Tryz.ntmps186
 go_wp2_with fail
 go_loopw [8] (fun i wr => ∃ k : Nat, i = .int .i64 k ∧ k ≤ n ∧ Hid ((l.take k).any g = false) ∧ Below w.heap.size w wr) (fun i _ => n - (RowKit.intOf i).toNat)
 case atStart => exact ⟨0, rfl, by omega, hide rfl, b⟩
 case round =>
  clear b
  obtain ⟨k, rfl, hk, HA, b⟩ := hrel
  have hpr := hP _ _ hp b
  have hvr := hv.later b
  by_cases hlt : k < n
  ·obtain ⟨x, hx, ok⟩ := q1i HL.out (k := k) (by rw [← HN.out]; exact hlt)
   obtain ⟨bb, k0, c', he, _, hcs⟩ := hvr.block (by rw [← HN.out]; omega)
   simp only [Value.slice.injEq] at he
   obtain ⟨rfl, _, rfl⟩ := he
   have d1 := hcs k x hx
   have HX := hide (j0k l g k x hx)
   have HX2 := hide (fun h => q6x (g := g) hx h)
   have OK := hide ok
   have hc := fun w' (h : Below wr.heap.size wr w') => HF.out x w' OK.out (hP _ _ hpr h)
   have HC := hide hc
   clear hcs hx ok hc HF
   cases hg : g x
   case true =>
    rw [hg] at HC
    go_wp2_with (first | (with_reducible refine w0g ?_; refine q1k rfl _ rfl rfl d1 OK.out ?_) | (go_at_call 164; refine (HC.out _ (Below.refl _ _)).mono ?_; rintro _ _ ⟨rfl, hc⟩; (try replace b := later b hc); clear hc))
    go_ret
    exact ⟨⟨k, rfl, by rw [HX2.out hg]; simp⟩, b⟩
   case false =>
    rw [hg] at HC
    have HA2 : Hid ((l.take (k + 1)).any g = false) := by rw [HX.out, HA.out, hg]; exact hide rfl
    clear HX HX2 HA hg
    go_wp2_with (first | (with_reducible refine w0g ?_; refine q1k rfl _ rfl rfl d1 OK.out ?_) | (go_at_call 164; refine (HC.out _ (Below.refl _ _)).mono ?_; rintro _ _ ⟨rfl, hc⟩; (try replace b := later b hc); clear hc))
    go_roundw
    case rel => exact ⟨k + 1, by simp, by omega, HA2, b⟩
    case measure => simp [RowKit.intOf]; omega
  ·obtain rfl : k = n := by omega
   have hA := HA.out
   rw [List.take_of_length_le (by rw [← HN.out]; exact Nat.le_refl _)] at hA
   clear HA
   go_wp2_with fail
   go_ret
   exact ⟨⟨-1, rfl, by rw [hA]; rfl⟩, b⟩
theorem x3x (cp : Value) (g : CertT → Bool) (P : World → Prop) (hP : ∀ w w', P w → Below w.heap.size w w' → P w') (hF : ∀ x w, x.Ok → P w → Calls Tryz.prog 164 #[certV x, cp] w fun e w' => e = .returned (.bool (g x)) ∧ Below w.heap.size w w')
  (v : Value) (l : List CertT) (w : World) (hv : Sl w v 68 (l.map certCs)) (hl : ∀ x ∈ l, x.Ok) (hm : l.length ≤ 9223372036854775807) (hp : P w) :
  Calls Tryz.prog 163 #[v, .func (.func 164) #[] #[cp]] w fun e w' => e = .returned (.bool (l.any g)) ∧ Below w.heap.size w w' := by
 have HI := hide (fun w' (hb : Below w.heap.size w w') => j9v cp g P hP hF v l w' (hv.later hb) hl hm (hP _ _ hp hb))
 have b := Below.refl w.heap.size w
 generalize l.any g = B at *
 clear hF hv hl hm hp
 go_enter Tryz.func163, Tryz.ntmps163
 go_wp2_with (go_at_call 186; refine (HI.out _ b).mono ?_; rintro _ _ ⟨⟨i, rfl, hi⟩, hc⟩; (try replace b := later b hc); clear hc)
 go_ret
 exact ⟨rfl, b⟩
theorem j9l (g : CertT → Bool) (hG : ∀ x w, x.Ok → Calls Tryz.prog 123 #[certV x] w fun e w' => e = .returned (.bool (g x)) ∧ Below w.heap.size w w') (x : CertT) (w : World) (cb : Nat) (hx : x.Ok) (hc : One w cb 85 (.func (.func 123) #[] #[])) :
  Calls Tryz.prog 164 #[certV x, .pointer (some ⟨cb, 0, none⟩)] w fun e w' => e = .returned (.bool (!(g x))) ∧ Below w.heap.size w w' := by
 have HG := hide (fun w => hG x w hx)
 have HX := hide hx
 have F2 := hc
 have b := Below.refl w.heap.size w
 generalize g x = B at *
 clear hG hx hc
 have mF1 := True.intro
 go_enter Tryz.func164, Tryz.ntmps164
 go_wp2_with (first | (with_reducible refine w2g ?_; clear mF1; refine q1q rfl _ rfl rfl HX.out ?_; intro _ g2 hg2 F1 hb; (try have := F1.lt); (try have := F2.lt); (try have := b.size); (try replace F2 := F2.later hb); (try replace b := later b hb); clear hb) | (with_reducible refine w0g ?_; refine q0a rfl 85 _ rfl rfl (One.cell F2) (by kernel_rfl) ?_) | (with_reducible refine w0g ?_; refine q1k rfl _ rfl rfl F1.cells HX.out ?_) | (go_at_call 123; refine (HG.out _).mono ?_; rintro _ _ ⟨rfl, hc⟩; (try replace F1 := F1.later hc); (try replace F2 := F2.later hc); (try replace b := later b hc); clear hc))
 go_ret
 exact ⟨rfl, b⟩
theorem x7j (g : CertT → Bool) (hG : ∀ x w, x.Ok → Calls Tryz.prog 123 #[certV x] w fun e w' => e = .returned (.bool (g x)) ∧ Below w.heap.size w w') (v : Value) (l : List CertT) (w : World) (hv : Sl w v 68 (l.map certCs)) (hl : ∀ x ∈ l, x.Ok) (hm : l.length ≤ 9223372036854775807) :
  Calls Tryz.prog 122 #[v, .func (.func 123) #[] #[]] w fun e w' => e = .returned (.bool (l.all g)) ∧ Below w.heap.size w w' := by
 have HC := hide (fun (cb : Nat) (w' : World) (hb : Below w.heap.size w w') (hc : One w' cb 85 (.func (.func 123) #[] #[])) => x3x (.pointer (some ⟨cb, 0, none⟩)) (fun x => !(g x)) (fun w => One w cb 85 (.func (.func 123) #[] #[])) (fun _ _ h hb => h.later hb) (fun x w hx hp => j9l g hG x w cb hx hp) v l w' (hv.later hb) hl hm hc)
 have hB := j3v l g
 have HB := hide hB
 have b := Below.refl w.heap.size w
 generalize (l.any fun x => !(g x)) = B at *
 generalize l.all g = B2 at *
 clear hG hv hl hm hB
 have mF1 := True.intro
 go_enter Tryz.func122, Tryz.ntmps122
 go_wp2_with (first | (with_reducible refine w2g ?_; clear mF1; refine q6i rfl 85 _ rfl rfl rfl ?_; intro _ g3 h3 F1 hb; (try have := F1.lt); (try have := b.size); (try replace b := later b hb); clear hb) | (go_at_call 163; refine (HC.out _ _ b F1).mono ?_; rintro _ _ ⟨rfl, hc⟩; (try replace F1 := F1.later hc); (try replace b := later b hc); clear hc))
 go_ret
 exact ⟨by rw [HB.out]; simp, b⟩
theorem x2y (cp : Value) (g : PayT → Bool) (P : World → Prop) (hP : ∀ w w', P w → Below w.heap.size w w' → P w') (hF : ∀ x w, x.Ok → P w → Calls Tryz.prog 166 #[payV x, cp] w fun e w' => e = .returned (.bool (g x)) ∧ Below w.heap.size w w')
  (v : Value) (l : List PayT) (w : World) (hv : Sl w v 33 (l.map payCs)) (hl : ∀ x ∈ l, x.Ok) (hm : l.length ≤ 9223372036854775807) (hp : P w) :
  Calls Tryz.prog 187 #[v, .func (.func 166) #[] #[cp]] w fun e w' => (∃ i : Int, e = .returned (.int .i64 i) ∧ (decide (0 ≤ i) = l.any g)) ∧ Below w.heap.size w w' := by
 obtain ⟨a, c, rfl, hc1, hc2, _⟩ := hv.shape
 obtain ⟨n, hn⟩ : ∃ n, n = l.length := ⟨_, rfl⟩
 have HN := hide hn
 rw [← hn] at hm ⊢
 have b := Below.refl w.heap.size w
 have HF := hide hF
 have HL := hide hl
 clear hn hF hl hc1 hc2
 go_enter Tryz.func187, Tryz.ntmps187
 go_wp2_with fail
 go_loopw [8] (fun i wr => ∃ k : Nat, i = .int .i64 k ∧ k ≤ n ∧ Hid ((l.take k).any g = false) ∧ Below w.heap.size w wr) (fun i _ => n - (RowKit.intOf i).toNat)
 case atStart => exact ⟨0, rfl, by omega, hide rfl, b⟩
 case round =>
  clear b
  obtain ⟨k, rfl, hk, HA, b⟩ := hrel
  have hpr := hP _ _ hp b
  have hvr := hv.later b
  by_cases hlt : k < n
  ·obtain ⟨x, hx, ok⟩ := q1i HL.out (k := k) (by rw [← HN.out]; exact hlt)
   obtain ⟨bb, k0, c', he, _, hcs⟩ := hvr.block (by rw [← HN.out]; omega)
   simp only [Value.slice.injEq] at he
   obtain ⟨rfl, _, rfl⟩ := he
   have d1 := hcs k x hx
   have HX := hide (j0k l g k x hx)
   have HX2 := hide (fun h => q6x (g := g) hx h)
   have OK := hide ok
   have hc := fun w' (h : Below wr.heap.size wr w') => HF.out x w' OK.out (hP _ _ hpr h)
   have HC := hide hc
   clear hcs hx ok hc HF
   cases hg : g x
   case true =>
    rw [hg] at HC
    go_wp2_with (first | (with_reducible refine w0g ?_; refine q7b rfl _ rfl rfl d1 OK.out ?_) | (go_at_call 166; refine (HC.out _ (Below.refl _ _)).mono ?_; rintro _ _ ⟨rfl, hc⟩; (try replace b := later b hc); clear hc))
    go_ret
    exact ⟨⟨k, rfl, by rw [HX2.out hg]; simp⟩, b⟩
   case false =>
    rw [hg] at HC
    have HA2 : Hid ((l.take (k + 1)).any g = false) := by rw [HX.out, HA.out, hg]; exact hide rfl
    clear HX HX2 HA hg
    go_wp2_with (first | (with_reducible refine w0g ?_; refine q7b rfl _ rfl rfl d1 OK.out ?_) | (go_at_call 166; refine (HC.out _ (Below.refl _ _)).mono ?_; rintro _ _ ⟨rfl, hc⟩; (try replace b := later b hc); clear hc))
    go_roundw
    case rel => exact ⟨k + 1, by simp, by omega, HA2, b⟩
    case measure => simp [RowKit.intOf]; omega
  ·obtain rfl : k = n := by omega
   have hA := HA.out
   rw [List.take_of_length_le (by rw [← HN.out]; exact Nat.le_refl _)] at hA
   clear HA
   go_wp2_with fail
   go_ret
   exact ⟨⟨-1, rfl, by rw [hA]; rfl⟩, b⟩
theorem x5i (cp : Value) (g : PayT → Bool) (P : World → Prop) (hP : ∀ w w', P w → Below w.heap.size w w' → P w') (hF : ∀ x w, x.Ok → P w → Calls Tryz.prog 166 #[payV x, cp] w fun e w' => e = .returned (.bool (g x)) ∧ Below w.heap.size w w')
  (v : Value) (l : List PayT) (w : World) (hv : Sl w v 33 (l.map payCs)) (hl : ∀ x ∈ l, x.Ok) (hm : l.length ≤ 9223372036854775807) (hp : P w) :
  Calls Tryz.prog 165 #[v, .func (.func 166) #[] #[cp]] w fun e w' => e = .returned (.bool (l.any g)) ∧ Below w.heap.size w w' := by
 have HI := hide (fun w' (hb : Below w.heap.size w w') => x2y cp g P hP hF v l w' (hv.later hb) hl hm (hP _ _ hp hb))
 have b := Below.refl w.heap.size w
 generalize l.any g = B at *
 clear hF hv hl hm hp
 go_enter Tryz.func165, Tryz.ntmps165
 go_wp2_with (go_at_call 187; refine (HI.out _ b).mono ?_; rintro _ _ ⟨⟨i, rfl, hi⟩, hc⟩; (try replace b := later b hc); clear hc)
 go_ret
 exact ⟨rfl, b⟩
theorem x3y (g : PayT → Bool) (hG : ∀ x w, x.Ok → Calls Tryz.prog 128 #[payV x] w fun e w' => e = .returned (.bool (g x)) ∧ Below w.heap.size w w') (x : PayT) (w : World) (cb : Nat) (hx : x.Ok) (hc : One w cb 163 (.func (.func 128) #[] #[])) :
  Calls Tryz.prog 166 #[payV x, .pointer (some ⟨cb, 0, none⟩)] w fun e w' => e = .returned (.bool (!(g x))) ∧ Below w.heap.size w w' := by
 have HG := hide (fun w => hG x w hx)
 have HX := hide hx
 have F2 := hc
 have b := Below.refl w.heap.size w
 generalize g x = B at *
 clear hG hx hc
 have mF1 := True.intro
 go_enter Tryz.func166, Tryz.ntmps166
 go_wp2_with (first | (with_reducible refine w2g ?_; clear mF1; refine q9g rfl _ rfl rfl HX.out ?_; intro _ g2 hg2 F1 hb; (try have := F1.lt); (try have := F2.lt); (try have := b.size); (try replace F2 := F2.later hb); (try replace b := later b hb); clear hb) | (with_reducible refine w0g ?_; refine q0a rfl 163 _ rfl rfl (One.cell F2) (by kernel_rfl) ?_) | (with_reducible refine w0g ?_; refine q7b rfl _ rfl rfl F1.cells HX.out ?_) | (go_at_call 128; refine (HG.out _).mono ?_; rintro _ _ ⟨rfl, hc⟩; (try replace F1 := F1.later hc); (try replace F2 := F2.later hc); (try replace b := later b hc); clear hc))
 go_ret
 exact ⟨rfl, b⟩
theorem x9a (g : PayT → Bool) (hG : ∀ x w, x.Ok → Calls Tryz.prog 128 #[payV x] w fun e w' => e = .returned (.bool (g x)) ∧ Below w.heap.size w w') (v : Value) (l : List PayT) (w : World) (hv : Sl w v 33 (l.map payCs)) (hl : ∀ x ∈ l, x.Ok) (hm : l.length ≤ 9223372036854775807) :
  Calls Tryz.prog 127 #[v, .func (.func 128) #[] #[]] w fun e w' => e = .returned (.bool (l.all g)) ∧ Below w.heap.size w w' := by
 have HC := hide (fun (cb : Nat) (w' : World) (hb : Below w.heap.size w w') (hc : One w' cb 163 (.func (.func 128) #[] #[])) => x5i (.pointer (some ⟨cb, 0, none⟩)) (fun x => !(g x)) (fun w => One w cb 163 (.func (.func 128) #[] #[])) (fun _ _ h hb => h.later hb) (fun x w hx hp => x3y g hG x w cb hx hp) v l w' (hv.later hb) hl hm hc)
 have hB := j3v l g
 have HB := hide hB
 have b := Below.refl w.heap.size w
 generalize (l.any fun x => !(g x)) = B at *
 generalize l.all g = B2 at *
 clear hG hv hl hm hB
 have mF1 := True.intro
 go_enter Tryz.func127, Tryz.ntmps127
 go_wp2_with (first | (with_reducible refine w2g ?_; clear mF1; refine q6i rfl 163 _ rfl rfl rfl ?_; intro _ g3 h3 F1 hb; (try have := F1.lt); (try have := b.size); (try replace b := later b hb); clear hb) | (go_at_call 165; refine (HC.out _ _ b F1).mono ?_; rintro _ _ ⟨rfl, hc⟩; (try replace F1 := F1.later hc); (try replace b := later b hc); clear hc))
 go_ret
 exact ⟨by rw [HB.out]; simp, b⟩
end Go.Proofs.YtbbfnpfkbbpjgaaGreat
