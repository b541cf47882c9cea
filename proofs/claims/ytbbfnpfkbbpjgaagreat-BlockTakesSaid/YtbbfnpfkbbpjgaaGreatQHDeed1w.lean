/- Package deed: IndexFunc, ContainsFunc, all, at api.Wit. -/
import Derived.Test.YtbbfnpfkbbpjgaaGreatQHElCert
import Derived.Test.YtbbfnpfkbbpjgaaGreatQHRowE
namespace Go.Proofs.YtbbfnpfkbbpjgaaGreat
open Go.RowKit Go.Lib
set_option linter.unusedVariables false
set_option linter.unusedSimpArgs false
set_option maxRecDepth 100000
set_option maxHeartbeats 4000000
theorem x2g (cp : Value) (g : WitT → Bool) (P : World → Prop) (hP : ∀ w w', P w → Below w.heap.size w w' → P w') (hF : ∀ x w, x.Ok → P w → Calls Tryz.prog 168 #[witV x, cp] w fun e w' => e = .returned (.bool (g x)) ∧ Below w.heap.size w w')
  (v : Value) (l : List WitT) (w : World) (hv : Sl w v 33 (l.map witCs)) (hl : ∀ x ∈ l, x.Ok) (hm : l.length ≤ 9223372036854775807) (hp : P w) :
  Calls Tryz.prog 188 #[v, .func (.func 168) #[] #[cp]] w fun e w' => (∃ i : Int, e = .returned (.int .i64 i) ∧ (decide (0 ≤ i) = l.any g)) ∧ Below w.heap.size w w' := by
 obtain ⟨a, c, rfl, hc1, hc2, _⟩ := hv.shape
 obtain ⟨n, hn⟩ : ∃ n, n = l.length := ⟨_, rfl⟩
 have HN := hide hn
 rw [← hn] at hm ⊢
 have b := Below.refl w.heap.size w
 have HF := hide hF
 have HL := hide hl
 clear hn hF hl hc1 hc2
 go_enter Tryz.func188, Tryz.ntmps188
 go_wp2_with fail
 go_loopw [8] (fun i wr => ∃ k : Nat, i = .int .i64 k ∧ k ≤ n ∧ Hid ((l.take k).any g = false) ∧ Below w.heap.size w wr) (fun i _ => n - (RowKit.intOf i).toNat)
 case atStart => exact ⟨0, rfl, by omega, hide rfl, b⟩
 case round =>
  clear b
  obtain ⟨k, rfl, hk, HA, b⟩ := hrel
  have hpr := hP _ _ hp b
  have hvr := hv.later b
  by_cases hlt : k < n
  ·obtain ⟨x, hx, ok⟩ := q1i HL.out (k := k) (by rw [← HN.out]; exact hlt)
   obtain ⟨bb, k0, c', he, _, hcs⟩ := hvr.block (by rw [← HN.out]; omega)
   simp only [Value.slice.injEq] at he
   obtain ⟨rfl, _, rfl⟩ := he
   have d1 := hcs k x hx
   have HX := hide (j0k l g k x hx)
   have HX2 := hide (fun h => q6x (g := g) hx h)
   have OK := hide ok
   have hc := fun w' (h : Below wr.heap.size wr w') => HF.out x w' OK.out (hP _ _ hpr h)
   have HC := hide hc
   clear hcs hx ok hc HF
   cases hg : g x
   case true =>
    rw [hg] at HC
    go_wp2_with (first | (with_reducible refine w0g ?_; refine q7c rfl _ rfl rfl d1 OK.out ?_) | (go_at_call 168; refine (HC.out _ (Below.refl _ _)).mono ?_; rintro _ _ ⟨rfl, hc⟩; (try replace b := later b hc); clear hc))
    go_ret
    exact ⟨⟨k, rfl, by rw [HX2.out hg]; simp⟩, b⟩
   case false =>
    rw [hg] at HC
    have HA2 : Hid ((l.take (k + 1)).any g = false) := by rw [HX.out, HA.out, hg]; exact hide rfl
    clear HX HX2 HA hg
    go_wp2_with (first | (with_reducible refine w0g ?_; refine q7c rfl _ rfl rfl d1 OK.out ?_) | (go_at_call 168; refine (HC.out _ (Below.refl _ _)).mono ?_; rintro _ _ ⟨rfl, hc⟩; (try replace b := later b hc); clear hc))
    go_roundw
    case rel => exact ⟨k + 1, by simp, by omega, HA2, b⟩
    case measure => simp [RowKit.intOf]; omega
  ·obtain rfl : k = n := by omega
   have hA := HA.out
   rw [List.take_of_length_le (by rw [← HN.out]; exact Nat.le_refl _)] at hA
   clear HA
   go_wp2_with fail
   go_ret
   exact ⟨⟨-1, rfl, by rw [hA]; rfl⟩, b⟩
theorem x7r (cp : Value) (g : WitT → Bool) (P : World → Prop) (hP : ∀ w w', P w → Below w.heap.size w w' → P w') (hF : ∀ x w, x.Ok → P w → Calls Tryz.prog 168 #[witV x, cp] w fun e w' => e = .returned (.bool (g x)) ∧ Below w.heap.size w w')
  (v : Value) (l : List WitT) (w : World) (hv : Sl w v 33 (l.map witCs)) (hl : ∀ x ∈ l, x.Ok) (hm : l.length ≤ 9223372036854775807) (hp : P w) :
  Calls Tryz.prog 167 #[v, .func (.func 168) #[] #[cp]] w fun e w' => e = .returned (.bool (l.any g)) ∧ Below w.heap.size w w' := by
 have HI := hide (fun w' (hb : Below w.heap.size w w') => x2g cp g P hP hF v l w' (hv.later hb) hl hm (hP _ _ hp hb))
 have b := Below.refl w.heap.size w
 generalize l.any g = B at *
 clear hF hv hl hm hp
 go_enter Tryz.func167, Tryz.ntmps167
 go_wp2_with (go_at_call 188; refine (HI.out _ b).mono ?_; rintro _ _ ⟨⟨i, rfl, hi⟩, hc⟩; (try replace b := later b hc); clear hc)
 go_ret
 exact ⟨rfl, b⟩
theorem x4i (g : WitT → Bool) (hG : ∀ x w, x.Ok → Calls Tryz.prog 132 #[witV x] w fun e w' => e = .returned (.bool (g x)) ∧ Below w.heap.size w w') (x : WitT) (w : World) (cb : Nat) (hx : x.Ok) (hc : One w cb 167 (.func (.func 132) #[] #[])) :
  Calls Tryz.prog 168 #[witV x, .pointer (some ⟨cb, 0, none⟩)] w fun e w' => e = .returned (.bool (!(g x))) ∧ Below w.heap.size w w' := by
 have HG := hide (fun w => hG x w hx)
 have HX := hide hx
 have F2 := hc
 have b := Below.refl w.heap.size w
 generalize g x = B at *
 clear hG hx hc
 have mF1 := True.intro
 go_enter Tryz.func168, Tryz.ntmps168
 go_wp2_with (first | (with_reducible refine w2g ?_; clear mF1; refine q8x rfl _ rfl rfl HX.out ?_; intro _ g2 hg2 F1 hb; (try have := F1.lt); (try have := F2.lt); (try have := b.size); (try replace F2 := F2.later hb); (try replace b := later b hb); clear hb) | (with_reducible refine w0g ?_; refine q0a rfl 167 _ rfl rfl (One.cell F2) (by kernel_rfl) ?_) | (with_reducible refine w0g ?_; refine q7c rfl _ rfl rfl F1.cells HX.out ?_) | (go_at_call 132; refine (HG.out _).mono ?_; rintro _ _ ⟨rfl, hc⟩; (try replace F1 := F1.later hc); (try replace F2 := F2.later hc); (try replace b := later b hc); clear hc))
 go_ret
 exact ⟨rfl, b⟩
theorem x9j (g : WitT → Bool) (hG : ∀ x w, x.Ok → Calls Tryz.prog 132 #[witV x] w fun e w' => e = .returned (.bool (g x)) ∧ Below w.heap.size w w') (v : Value) (l : List WitT) (w : World) (hv : Sl w v 33 (l.map witCs)) (hl : ∀ x ∈ l, x.Ok) (hm : l.length ≤ 9223372036854775807) :
  Calls Tryz.prog 131 #[v, .func (.func 132) #[] #[]] w fun e w' => e = .returned (.bool (l.all g)) ∧ Below w.heap.size w w' := by
 have HC := hide (fun (cb : Nat) (w' : World) (hb : Below w.heap.size w w') (hc : One w' cb 167 (.func (.func 132) #[] #[])) => x7r (.pointer (some ⟨cb, 0, none⟩)) (fun x => !(g x)) (fun w => One w cb 167 (.func (.func 132) #[] #[])) (fun _ _ h hb => h.later hb) (fun x w hx hp => x4i g hG x w cb hx hp) v l w' (hv.later hb) hl hm hc)
 have hB := j3v l g
 have HB := hide hB
 have b := Below.refl w.heap.size w
 generalize (l.any fun x => !(g x)) = B at *
 generalize l.all g = B2 at *
 clear hG hv hl hm hB
 have mF1 := True.intro
 go_enter Tryz.func131, Tryz.ntmps131
 go_wp2_with (first | (with_reducible refine w2g ?_; clear mF1; refine q6i rfl 167 _ rfl rfl rfl ?_; intro _ g3 h3 F1 hb; (try have := F1.lt); (try have := b.size); (try replace b := later b hb); clear hb) | (go_at_call 167; refine (HC.out _ _ b F1).mono ?_; rintro _ _ ⟨rfl, hc⟩; (try replace F1 := F1.later hc); (try replace b := later b hc); clear hc))
 go_ret
 exact ⟨by rw [HB.out]; simp, b⟩
theorem x4o (g : InT → List UInt8) (hG : ∀ x w, x.Ok → Calls Tryz.prog 116 #[inV x] w fun e w' => e = .returned (.string ⟨(g x).toArray⟩) ∧ Below w.heap.size w w') (v : Value) (l : List InT) (w : World) (most : Nat) (hv : Sl w v 33 (l.map inCs)) (hl : ∀ x ∈ l, x.Ok) (hm : l.length ≤ 9223372036854775807) (hq : most ≤ 1000000) :
  Calls Tryz.prog 115 #[v, .int .i64 most, .func (.func 116) #[] #[]] w fun e w' => e = .returned (.bool (risesB g l && decide (l.length ≤ most))) ∧ Below w.heap.size w w' := by
 obtain ⟨a, c, rfl, hc1, hc2, _⟩ := hv.shape
 obtain ⟨n, hn⟩ : ∃ n, n = l.length := ⟨_, rfl⟩
 have HN := hide hn
 rw [← hn] at hm ⊢
 have b := Below.refl w.heap.size w
 have HG := hide hG
 have HL := hide hl
 clear hn hG hl hc1 hc2
 go_enter Tryz.func115, Tryz.ntmps115
 go_wp2_with fail
 go_loopw [10] (fun i wr => ∃ k : Nat, i = .int .i64 k ∧ k ≤ n ∧ Hid (risesB g (l.take k) = true) ∧ Below w.heap.size w wr) (fun i _ => n - (RowKit.intOf i).toNat)
 case atStart => exact ⟨0, rfl, by omega, hide rfl, b⟩
 case round =>
  clear b
  obtain ⟨k, rfl, hk, HA, b⟩ := hrel
  have hvr := hv.later b
  by_cases hlt : k < n
  ·by_cases h0 : 0 < k
   ·obtain ⟨x, hx, okx⟩ := q1i HL.out (k := k - 1) (by rw [← HN.out]; omega)
    obtain ⟨y, hy, oky⟩ := q1i HL.out (k := k) (by rw [← HN.out]; exact hlt)
    obtain ⟨bb, k0, c', he, _, hcs⟩ := hvr.block (by rw [← HN.out]; omega)
    simp only [Value.slice.injEq] at he
    obtain ⟨rfl, _, rfl⟩ := he
    have d1 := hcs (k - 1) x hx
    have d2 := hcs k y hy
    have HR := hide (q8m g l k x y hx hy h0)
    have OX := hide okx
    have OY := hide oky
    have HX := hide (fun w => HG.out x w OX.out)
    have HY := hide (fun w => HG.out y w OY.out)
    have c1 := decide_eq_true (show (0 : Int) < (k : Int) by omega)
    have c2 : (k : Int) - 1 = ((k - 1 : Nat) : Int) := by omega
    have hkn : k - 1 < n := by omega
    have c3 : k0 + (k - 1) * 33 = k0 + (k - 1) * 33 := rfl
    clear hcs okx oky HG hx hy c3
    have hl1 : (⟨(g x).toArray⟩ : ByteArray).toList = g x := by rw [ByteArray.toList_eq]
    have hl2 : (⟨(g y).toArray⟩ : ByteArray).toList = g y := by rw [ByteArray.toList_eq]
    rw [← hl1, ← hl2] at HR
    clear hl1 hl2
    generalize (⟨(g x).toArray⟩ : ByteArray) = sx at *
    generalize (⟨(g y).toArray⟩ : ByteArray) = sy at *
    generalize k - 1 = j at *
    have HS := hide (q7g g l (k + 1))
    cases hB : Op.bytesLess sx.toList sy.toList
    case true =>
     have HA2 : Hid (risesB g (l.take (k + 1)) = true) := by rw [HR.out, HA.out, hB]; exact hide rfl
     clear HR HS HA
     go_wp2_with (with_reducible show Code.wp _ (Code.region _ _ true) _ _ _; fail)
     refine q0e (by kernel_rfl) (by kernel_rfl) ?_
     repeat ((go_big_quiet_want; first | ((with_reducible refine w28g ?_); first | (refine q1p _ rfl rfl d1 OX.out ?_; simp only [pS]; go_big_quiet_on)) | (go_big_quiet_op; go_big_quiet_on)))
     go_big_quiet_want; go_big_quiet_op
     refine ⟨_, fun _ => q0f (HX.out _), ?_⟩
     go_big_quiet_on
     repeat ((go_big_quiet_want; first | ((with_reducible refine w28g ?_); first | (refine q1p _ rfl rfl d2 OY.out ?_; simp only [pS]; go_big_quiet_on)) | (go_big_quiet_op; go_big_quiet_on)))
     go_big_quiet_want; go_big_quiet_op
     refine ⟨_, fun _ => q0f (HY.out _), ?_⟩
     go_big_quiet_on
     repeat ((go_big_quiet_want; first | (go_big_quiet_op; go_big_quiet_on)))
     refine wpQuiet_nil ?_
     intro _ hq
     (try replace b := later b hq)
     clear hq hB
     go_wp2_with fail
     go_roundw
     case rel => exact ⟨k + 1, by simp, by omega, HA2, b⟩
     case measure => simp [RowKit.intOf]; omega
    case false =>
     have HA2 : Hid (risesB g l = false) := HS.out (by rw [HR.out, hB, Bool.and_false])
     clear HR HS HA
     go_wp2_with (with_reducible show Code.wp _ (Code.region _ _ true) _ _ _; fail)
     refine q0e (by kernel_rfl) (by kernel_rfl) ?_
     repeat ((go_big_quiet_want; first | ((with_reducible refine w28g ?_); first | (refine q1p _ rfl rfl d1 OX.out ?_; simp only [pS]; go_big_quiet_on)) | (go_big_quiet_op; go_big_quiet_on)))
     go_big_quiet_want; go_big_quiet_op
     refine ⟨_, fun _ => q0f (HX.out _), ?_⟩
     go_big_quiet_on
     repeat ((go_big_quiet_want; first | ((with_reducible refine w28g ?_); first | (refine q1p _ rfl rfl d2 OY.out ?_; simp only [pS]; go_big_quiet_on)) | (go_big_quiet_op; go_big_quiet_on)))
     go_big_quiet_want; go_big_quiet_op
     refine ⟨_, fun _ => q0f (HY.out _), ?_⟩
     go_big_quiet_on
     repeat ((go_big_quiet_want; first | (go_big_quiet_op; go_big_quiet_on)))
     refine wpQuiet_nil ?_
     intro _ hq
     (try replace b := later b hq)
     clear hq hB
     go_wp2_with fail
     go_ret
     exact ⟨by rw [HA2.out]; rfl, b⟩
   ·obtain rfl : k = 0 := by omega
    have HA2 := hide (j0f g l)
    clear HA HG
    go_wp2_with (with_reducible show Code.wp _ (Code.region _ _ true) _ _ _; fail)
    refine q0e (by kernel_rfl) (by kernel_rfl) ?_
    repeat (first | go_big_quiet_skip | (go_big_quiet_want; go_big_quiet_op; go_big_quiet_on))
    refine wpQuiet_nil ?_
    intro _ hq
    (try replace b := later b hq)
    clear hq
    go_wp2_with fail
    go_roundw
    case rel => exact ⟨1, by simp, by omega, HA2, b⟩
    case measure => simp [RowKit.intOf]; omega
  ·obtain rfl : k = n := by omega
   have hA := HA.out
   rw [List.take_of_length_le (by rw [← HN.out]; exact Nat.le_refl _)] at hA
   clear HA
   go_wp2_with fail
   go_ret
   exact ⟨by rw [hA]; simp, b⟩
theorem x3l (g : PayT → List UInt8) (hG : ∀ x w, x.Ok → Calls Tryz.prog 125 #[payV x] w fun e w' => e = .returned (.string ⟨(g x).toArray⟩) ∧ Below w.heap.size w w') (v : Value) (l : List PayT) (w : World) (most : Nat) (hv : Sl w v 33 (l.map payCs)) (hl : ∀ x ∈ l, x.Ok) (hm : l.length ≤ 9223372036854775807) (hq : most ≤ 1000000) :
  Calls Tryz.prog 124 #[v, .int .i64 most, .func (.func 125) #[] #[]] w fun e w' => e = .returned (.bool (risesB g l && decide (l.length ≤ most))) ∧ Below w.heap.size w w' := by
 obtain ⟨a, c, rfl, hc1, hc2, _⟩ := hv.shape
 obtain ⟨n, hn⟩ : ∃ n, n = l.length := ⟨_, rfl⟩
 have HN := hide hn
 rw [← hn] at hm ⊢
 have b := Below.refl w.heap.size w
 have HG := hide hG
 have HL := hide hl
 clear hn hG hl hc1 hc2
 go_enter Tryz.func124, Tryz.ntmps124
 go_wp2_with fail
 go_loopw [10] (fun i wr => ∃ k : Nat, i = .int .i64 k ∧ k ≤ n ∧ Hid (risesB g (l.take k) = true) ∧ Below w.heap.size w wr) (fun i _ => n - (RowKit.intOf i).toNat)
 case atStart => exact ⟨0, rfl, by omega, hide rfl, b⟩
 case round =>
  clear b
  obtain ⟨k, rfl, hk, HA, b⟩ := hrel
  have hvr := hv.later b
  by_cases hlt : k < n
  ·by_cases h0 : 0 < k
   ·obtain ⟨x, hx, okx⟩ := q1i HL.out (k := k - 1) (by rw [← HN.out]; omega)
    obtain ⟨y, hy, oky⟩ := q1i HL.out (k := k) (by rw [← HN.out]; exact hlt)
    obtain ⟨bb, k0, c', he, _, hcs⟩ := hvr.block (by rw [← HN.out]; omega)
    simp only [Value.slice.injEq] at he
    obtain ⟨rfl, _, rfl⟩ := he
    have d1 := hcs (k - 1) x hx
    have d2 := hcs k y hy
    have HR := hide (q8m g l k x y hx hy h0)
    have OX := hide okx
    have OY := hide oky
    have HX := hide (fun w => HG.out x w OX.out)
    have HY := hide (fun w => HG.out y w OY.out)
    have c1 := decide_eq_true (show (0 : Int) < (k : Int) by omega)
    have c2 : (k : Int) - 1 = ((k - 1 : Nat) : Int) := by omega
    have hkn : k - 1 < n := by omega
    have c3 : k0 + (k - 1) * 33 = k0 + (k - 1) * 33 := rfl
    clear hcs okx oky HG hx hy c3
    have hl1 : (⟨(g x).toArray⟩ : ByteArray).toList = g x := by rw [ByteArray.toList_eq]
    have hl2 : (⟨(g y).toArray⟩ : ByteArray).toList = g y := by rw [ByteArray.toList_eq]
    rw [← hl1, ← hl2] at HR
    clear hl1 hl2
    generalize (⟨(g x).toArray⟩ : ByteArray) = sx at *
    generalize (⟨(g y).toArray⟩ : ByteArray) = sy at *
    generalize k - 1 = j at *
    have HS := hide (q7g g l (k + 1))
    cases hB : Op.bytesLess sx.toList sy.toList
    case true =>
     have HA2 : Hid (risesB g (l.take (k + 1)) = true) := by rw [HR.out, HA.out, hB]; exact hide rfl
     clear HR HS HA
     go_wp2_with (with_reducible show Code.wp _ (Code.region _ _ true) _ _ _; fail)
     refine q0e (by kernel_rfl) (by kernel_rfl) ?_
     repeat ((go_big_quiet_want; first | ((with_reducible refine w28g ?_); first | (refine q2e _ rfl rfl d1 OX.out ?_; simp only [pS]; go_big_quiet_on)) | (go_big_quiet_op; go_big_quiet_on)))
     go_big_quiet_want; go_big_quiet_op
     refine ⟨_, fun _ => q0f (HX.out _), ?_⟩
     go_big_quiet_on
     repeat ((go_big_quiet_want; first | ((with_reducible refine w28g ?_); first | (refine q2e _ rfl rfl d2 OY.out ?_; simp only [pS]; go_big_quiet_on)) | (go_big_quiet_op; go_big_quiet_on)))
     go_big_quiet_want; go_big_quiet_op
     refine ⟨_, fun _ => q0f (HY.out _), ?_⟩
     go_big_quiet_on
     repeat ((go_big_quiet_want; first | (go_big_quiet_op; go_big_quiet_on)))
     refine wpQuiet_nil ?_
     intro _ hq
     (try replace b := later b hq)
     clear hq hB
     go_wp2_with fail
     go_roundw
     case rel => exact ⟨k + 1, by simp, by omega, HA2, b⟩
     case measure => simp [RowKit.intOf]; omega
    case false =>
     have HA2 : Hid (risesB g l = false) := HS.out (by rw [HR.out, hB, Bool.and_false])
     clear HR HS HA
     go_wp2_with (with_reducible show Code.wp _ (Code.region _ _ true) _ _ _; fail)
     refine q0e (by kernel_rfl) (by kernel_rfl) ?_
     repeat ((go_big_quiet_want; first | ((with_reducible refine w28g ?_); first | (refine q2e _ rfl rfl d1 OX.out ?_; simp only [pS]; go_big_quiet_on)) | (go_big_quiet_op; go_big_quiet_on)))
     go_big_quiet_want; go_big_quiet_op
     refine ⟨_, fun _ => q0f (HX.out _), ?_⟩
     go_big_quiet_on
     repeat ((go_big_quiet_want; first | ((with_reducible refine w28g ?_); first | (refine q2e _ rfl rfl d2 OY.out ?_; simp only [pS]; go_big_quiet_on)) | (go_big_quiet_op; go_big_quiet_on)))
     go_big_quiet_want; go_big_quiet_op
     refine ⟨_, fun _ => q0f (HY.out _), ?_⟩
     go_big_quiet_on
     repeat ((go_big_quiet_want; first | (go_big_quiet_op; go_big_quiet_on)))
     refine wpQuiet_nil ?_
     intro _ hq
     (try replace b := later b hq)
     clear hq hB
     go_wp2_with fail
     go_ret
     exact ⟨by rw [HA2.out]; rfl, b⟩
   ·obtain rfl : k = 0 := by omega
    have HA2 := hide (j0f g l)
    clear HA HG
    go_wp2_with (with_reducible show Code.wp _ (Code.region _ _ true) _ _ _; fail)
    refine q0e (by kernel_rfl) (by kernel_rfl) ?_
    repeat (first | go_big_quiet_skip | (go_big_quiet_want; go_big_quiet_op; go_big_quiet_on))
    refine wpQuiet_nil ?_
    intro _ hq
    (try replace b := later b hq)
    clear hq
    go_wp2_with fail
    go_roundw
    case rel => exact ⟨1, by simp, by omega, HA2, b⟩
    case measure => simp [RowKit.intOf]; omega
  ·obtain rfl : k = n := by omega
   have hA := HA.out
   rw [List.take_of_length_le (by rw [← HN.out]; exact Nat.le_refl _)] at hA
   clear HA
   go_wp2_with fail
   go_ret
   exact ⟨by rw [hA]; simp, b⟩
theorem x4f (g : WitT → List UInt8) (hG : ∀ x w, x.Ok → Calls Tryz.prog 130 #[witV x] w fun e w' => e = .returned (.string ⟨(g x).toArray⟩) ∧ Below w.heap.size w w') (v : Value) (l : List WitT) (w : World) (most : Nat) (hv : Sl w v 33 (l.map witCs)) (hl : ∀ x ∈ l, x.Ok) (hm : l.length ≤ 9223372036854775807) (hq : most ≤ 1000000) :
  Calls Tryz.prog 129 #[v, .int .i64 most, .func (.func 130) #[] #[]] w fun e w' => e = .returned (.bool (risesB g l && decide (l.length ≤ most))) ∧ Below w.heap.size w w' := by
 obtain ⟨a, c, rfl, hc1, hc2, _⟩ := hv.shape
 obtain ⟨n, hn⟩ : ∃ n, n = l.length := ⟨_, rfl⟩
 have HN := hide hn
 rw [← hn] at hm ⊢
 have b := Below.refl w.heap.size w
 have HG := hide hG
 have HL := hide hl
 clear hn hG hl hc1 hc2
 go_enter Tryz.func129, Tryz.ntmps129
 go_wp2_with fail
 go_loopw [10] (fun i wr => ∃ k : Nat, i = .int .i64 k ∧ k ≤ n ∧ Hid (risesB g (l.take k) = true) ∧ Below w.heap.size w wr) (fun i _ => n - (RowKit.intOf i).toNat)
 case atStart => exact ⟨0, rfl, by omega, hide rfl, b⟩
 case round =>
  clear b
  obtain ⟨k, rfl, hk, HA, b⟩ := hrel
  have hvr := hv.later b
  by_cases hlt : k < n
  ·by_cases h0 : 0 < k
   ·obtain ⟨x, hx, okx⟩ := q1i HL.out (k := k - 1) (by rw [← HN.out]; omega)
    obtain ⟨y, hy, oky⟩ := q1i HL.out (k := k) (by rw [← HN.out]; exact hlt)
    obtain ⟨bb, k0, c', he, _, hcs⟩ := hvr.block (by rw [← HN.out]; omega)
    simp only [Value.slice.injEq] at he
    obtain ⟨rfl, _, rfl⟩ := he
    have d1 := hcs (k - 1) x hx
    have d2 := hcs k y hy
    have HR := hide (q8m g l k x y hx hy h0)
    have OX := hide okx
    have OY := hide oky
    have HX := hide (fun w => HG.out x w OX.out)
    have HY := hide (fun w => HG.out y w OY.out)
    have c1 := decide_eq_true (show (0 : Int) < (k : Int) by omega)
    have c2 : (k : Int) - 1 = ((k - 1 : Nat) : Int) := by omega
    have hkn : k - 1 < n := by omega
    have c3 : k0 + (k - 1) * 33 = k0 + (k - 1) * 33 := rfl
    clear hcs okx oky HG hx hy c3
    have hl1 : (⟨(g x).toArray⟩ : ByteArray).toList = g x := by rw [ByteArray.toList_eq]
    have hl2 : (⟨(g y).toArray⟩ : ByteArray).toList = g y := by rw [ByteArray.toList_eq]
    rw [← hl1, ← hl2] at HR
    clear hl1 hl2
    generalize (⟨(g x).toArray⟩ : ByteArray) = sx at *
    generalize (⟨(g y).toArray⟩ : ByteArray) = sy at *
    generalize k - 1 = j at *
    have HS := hide (q7g g l (k + 1))
    cases hB : Op.bytesLess sx.toList sy.toList
    case true =>
     have HA2 : Hid (risesB g (l.take (k + 1)) = true) := by rw [HR.out, HA.out, hB]; exact hide rfl
     clear HR HS HA
     go_wp2_with (with_reducible show Code.wp _ (Code.region _ _ true) _ _ _; fail)
     refine q0e (by kernel_rfl) (by kernel_rfl) ?_
     repeat ((go_big_quiet_want; first | ((with_reducible refine w28g ?_); first | (refine q2j _ rfl rfl d1 OX.out ?_; simp only [pS]; go_big_quiet_on)) | (go_big_quiet_op; go_big_quiet_on)))
     go_big_quiet_want; go_big_quiet_op
     refine ⟨_, fun _ => q0f (HX.out _), ?_⟩
     go_big_quiet_on
     repeat ((go_big_quiet_want; first | ((with_reducible refine w28g ?_); first | (refine q2j _ rfl rfl d2 OY.out ?_; simp only [pS]; go_big_quiet_on)) | (go_big_quiet_op; go_big_quiet_on)))
     go_big_quiet_want; go_big_quiet_op
     refine ⟨_, fun _ => q0f (HY.out _), ?_⟩
     go_big_quiet_on
     repeat ((go_big_quiet_want; first | (go_big_quiet_op; go_big_quiet_on)))
     refine wpQuiet_nil ?_
     intro _ hq
     (try replace b := later b hq)
     clear hq hB
     go_wp2_with fail
     go_roundw
     case rel => exact ⟨k + 1, by simp, by omega, HA2, b⟩
     case measure => simp [RowKit.intOf]; omega
    case false =>
     have HA2 : Hid (risesB g l = false) := HS.out (by rw [HR.out, hB, Bool.and_false])
     clear HR HS HA
     go_wp2_with (with_reducible show Code.wp _ (Code.region _ _ true) _ _ _; fail)
     refine q0e (by kernel_rfl) (by kernel_rfl) ?_
     repeat ((go_big_quiet_want; first | ((with_reducible refine w28g ?_); first | (refine q2j _ rfl rfl d1 OX.out ?_; simp only [pS]; go_big_quiet_on)) | (go_big_quiet_op; go_big_quiet_on)))
     go_big_quiet_want; go_big_quiet_op
     refine ⟨_, fun _ => q0f (HX.out _), ?_⟩
     go_big_quiet_on
     repeat ((go_big_quiet_want; first | ((with_reducible refine w28g ?_); first | (refine q2j _ rfl rfl d2 OY.out ?_; simp only [pS]; go_big_quiet_on)) | (go_big_quiet_op; go_big_quiet_on)))
     go_big_quiet_want; go_big_quiet_op
     refine ⟨_, fun _ => q0f (HY.out _), ?_⟩
     go_big_quiet_on
     repeat ((go_big_quiet_want; first | (go_big_quiet_op; go_big_quiet_on)))
     refine wpQuiet_nil ?_
     intro _ hq
     (try replace b := later b hq)
     clear hq hB
     go_wp2_with fail
     go_ret
     exact ⟨by rw [HA2.out]; rfl, b⟩
   ·obtain rfl : k = 0 := by omega
    have HA2 := hide (j0f g l)
    clear HA HG
    go_wp2_with (with_reducible show Code.wp _ (Code.region _ _ true) _ _ _; fail)
    refine q0e (by kernel_rfl) (by kernel_rfl) ?_
    repeat (first | go_big_quiet_skip | (go_big_quiet_want; go_big_quiet_op; go_big_quiet_on))
    refine wpQuiet_nil ?_
    intro _ hq
    (try replace b := later b hq)
    clear hq
    go_wp2_with fail
    go_roundw
    case rel => exact ⟨1, by simp, by omega, HA2, b⟩
    case measure => simp [RowKit.intOf]; omega
  ·obtain rfl : k = n := by omega
   have hA := HA.out
   rw [List.take_of_length_le (by rw [← HN.out]; exact Nat.le_refl _)] at hA
   clear HA
   go_wp2_with fail
   go_ret
   exact ⟨by rw [hA]; simp, b⟩
end Go.Proofs.YtbbfnpfkbbpjgaaGreat
