/- Spots, amounts, what is asked of each thing. -/
import Derived.Test.YtbbfnpfkbbpjgaaGreatQHRowE
import Derived.Test.YtbbfnpfkbbpjgaaGreatQHElCert
import Derived.Test.YtbbfnpfkbbpjgaaGreatQHStep
import Derived.Test.YtbbfnpfkbbpjgaaGreatQHMRef
namespace Go.Proofs.YtbbfnpfkbbpjgaaGreat
open Go.RowKit Go.Lib
set_option linter.unusedVariables false
set_option linter.unusedSimpArgs false
set_option maxRecDepth 100000
set_option maxHeartbeats 4000000
theorem z0c (x : InT) (w : World) (hx : x.Ok) :
  Calls Tryz.prog 116 #[inV x] w fun e w' => e = .returned (.string ⟨(spotL x).toArray⟩) ∧ Below w.heap.size w w' := by
 have HB := hide (fun w => q3t x.tx w hx.1)
 have HE := hide (fun w => q4i x.index w hx.2)
 have e : (⟨(spotL x).toArray⟩ : ByteArray) = (⟨x.tx.toArray⟩ : ByteArray) ++ (⟨(eightL x.index).toArray⟩ : ByteArray) := by
  apply ByteArray.ext; unfold spotL; simp
 have z1 : (⟨x.tx.toArray⟩ : ByteArray).size = 32 := by show x.tx.toArray.size = 32; rw [List.size_toArray]; exact hx.1
 have z2 : (⟨(eightL x.index).toArray⟩ : ByteArray).size = 8 := by show (eightL x.index).toArray.size = 8; rw [List.size_toArray, q0o]
 have c1 : ¬ 9223372036854775807 < (⟨x.tx.toArray⟩ : ByteArray).size + (⟨(eightL x.index).toArray⟩ : ByteArray).size := by omega
 rw [e]
 have HX := hide hx
 have HK : Hid (x.tx.length = 32) := hx.1
 have b := Below.refl w.heap.size w
 clear e z1 z2 hx
 generalize (⟨x.tx.toArray⟩ : ByteArray) = s1 at *
 generalize (⟨(eightL x.index).toArray⟩ : ByteArray) = s2 at *
 have mF1 := True.intro
 go_enter Tryz.func116, Tryz.ntmps116
 go_wp2_with (first | (with_reducible refine w2g ?_; clear mF1; refine q8i rfl _ rfl rfl HX.out ?_; intro _ g1 hg1 F1 hb; (try have := F1.lt); (try have := b.size); (try replace b := later b hb); clear hb) | (with_reducible show Code.wp _ (Code.region _ _ true) _ _ _; (refine q0e (by kernel_rfl) (by kernel_rfl) ?_; (repeat ((go_big_quiet_want; first | ((with_reducible refine w28g ?_); first | (refine q0m _ rfl rfl (InAt.tx F1) (HK.out) ?_; simp only [pS]; go_big_quiet_on) | (refine q0d 24 _ rfl rfl (InAt.index F1) (by kernel_rfl) ?_; simp only [pS]; go_big_quiet_on)) | (go_big_quiet_op; first | go_big_quiet_on | (refine ⟨_, fun _ => q0f (HB.out _), ?_⟩; go_big_quiet_on) | (refine ⟨_, fun _ => q0f (HE.out _), ?_⟩; go_big_quiet_on))))); refine wpQuiet_nil ?_; intro _ hq; (try replace F1 := F1.later hq); (try replace b := later b hq); clear hq)))
 go_ret
 exact ⟨rfl, b⟩
theorem j2l (x : InT) (w : World) (hx : x.Ok) :
  Calls Tryz.prog 50 #[inV x] w fun e w' => e = .returned (.string ⟨(spotL x).toArray⟩) ∧ Below w.heap.size w w' := by
 have HB := hide (fun w => q2w x.tx w hx.1)
 have HE := hide (fun w => q7s x.index w hx.2)
 have e : (⟨(spotL x).toArray⟩ : ByteArray) = (⟨x.tx.toArray⟩ : ByteArray) ++ (⟨(eightL x.index).toArray⟩ : ByteArray) := by
  apply ByteArray.ext; unfold spotL; simp
 have z1 : (⟨x.tx.toArray⟩ : ByteArray).size = 32 := by show x.tx.toArray.size = 32; rw [List.size_toArray]; exact hx.1
 have z2 : (⟨(eightL x.index).toArray⟩ : ByteArray).size = 8 := by show (eightL x.index).toArray.size = 8; rw [List.size_toArray, q0o]
 have c1 : ¬ 9223372036854775807 < (⟨x.tx.toArray⟩ : ByteArray).size + (⟨(eightL x.index).toArray⟩ : ByteArray).size := by omega
 rw [e]
 have HX := hide hx
 have HK : Hid (x.tx.length = 32) := hx.1
 have b := Below.refl w.heap.size w
 clear e z1 z2 hx
 generalize (⟨x.tx.toArray⟩ : ByteArray) = s1 at *
 generalize (⟨(eightL x.index).toArray⟩ : ByteArray) = s2 at *
 have mF1 := True.intro
 go_enter Tryz.func50, Tryz.ntmps50
 go_wp2_with (first | (with_reducible refine w2g ?_; clear mF1; refine q8i rfl _ rfl rfl HX.out ?_; intro _ g1 hg1 F1 hb; (try have := F1.lt); (try have := b.size); (try replace b := later b hb); clear hb) | (with_reducible show Code.wp _ (Code.region _ _ true) _ _ _; (refine q0e (by kernel_rfl) (by kernel_rfl) ?_; (repeat ((go_big_quiet_want; first | ((with_reducible refine w28g ?_); first | (refine q0m _ rfl rfl (InAt.tx F1) (HK.out) ?_; simp only [pS]; go_big_quiet_on) | (refine q0d 24 _ rfl rfl (InAt.index F1) (by kernel_rfl) ?_; simp only [pS]; go_big_quiet_on)) | (go_big_quiet_op; first | go_big_quiet_on | (refine ⟨_, fun _ => q0f (HB.out _), ?_⟩; go_big_quiet_on) | (refine ⟨_, fun _ => q0f (HE.out _), ?_⟩; go_big_quiet_on))))); refine wpQuiet_nil ?_; intro _ hq; (try replace F1 := F1.later hq); (try replace b := later b hq); clear hq)))
 go_ret
 exact ⟨rfl, b⟩
theorem j5a (n : Nat) (w : World) (hn : U64 n) : Calls Tryz.prog 121 #[.int .u64 n] w fun e w' => e = .returned (.bool (amountB n)) ∧ Below w.heap.size w w' := by
 have b := Below.refl w.heap.size w
 obtain ⟨m, hm⟩ : ∃ m : Int, m = (n : Int) := ⟨_, rfl⟩
 obtain ⟨B1, h1⟩ : ∃ B, decide (0 < n) = B := ⟨_, rfl⟩
 obtain ⟨B2, h2⟩ : ∃ B, decide (n < 9223372036854775808) = B := ⟨_, rfl⟩
 have c1 : (decide ((0 : Int) < m)) = B1 := by rw [← h1]; exact decide_eq_decide.2 (by omega)
 have c2 : (decide (m < 9223372036854775808)) = B2 := by rw [← h2]; exact decide_eq_decide.2 (by omega)
 have hR : amountB n = (B1 && B2) := by unfold amountB; rw [h1, h2]
 rw [← hm, hR]
 clear h1 h2 hn hm hR
 cases B1
 case false =>
  go_enter Tryz.func121, Tryz.ntmps121
  go_wp2_with fail
  go_ret
  exact ⟨rfl, b⟩
 case true =>
  go_enter Tryz.func121, Tryz.ntmps121
  go_wp2_with fail
  go_ret
  exact ⟨rfl, b⟩
theorem q9n (n : Nat) (w : World) (hn : U64 n) : Calls Tryz.prog 51 #[.int .u64 n] w fun e w' => e = .returned (.bool (amountB n)) ∧ Below w.heap.size w w' := by
 have b := Below.refl w.heap.size w
 obtain ⟨m, hm⟩ : ∃ m : Int, m = (n : Int) := ⟨_, rfl⟩
 obtain ⟨B1, h1⟩ : ∃ B, decide (0 < n) = B := ⟨_, rfl⟩
 obtain ⟨B2, h2⟩ : ∃ B, decide (n < 9223372036854775808) = B := ⟨_, rfl⟩
 have c1 : (decide ((1 : Int) ≤ m)) = B1 := by rw [← h1]; exact decide_eq_decide.2 (by omega)
 have c2 : (decide (m ≤ 9223372036854775807)) = B2 := by rw [← h2]; exact decide_eq_decide.2 (by omega)
 have hR : amountB n = (B1 && B2) := by unfold amountB; rw [h1, h2]
 rw [← hm, hR]
 clear h1 h2 hn hm hR
 cases B1
 case false =>
  go_enter Tryz.func51, Tryz.ntmps51
  go_wp2_with fail
  go_ret
  exact ⟨rfl, b⟩
 case true =>
  go_enter Tryz.func51, Tryz.ntmps51
  go_wp2_with fail
  go_ret
  exact ⟨rfl, b⟩
theorem x8u (x : InT) (w : World) (hx : x.Ok) : Calls Tryz.prog 118 #[inV x] w fun e w' => e = .returned (.bool (decide (x.index < 8))) ∧ Below w.heap.size w w' := by
 have HX := hide hx
 have e1 : decide ((x.index : Int) < 8) = decide (x.index < 8) := decide_eq_decide.2 (by omega)
 rw [← e1]
 have b := Below.refl w.heap.size w
 clear hx e1
 have mF1 := True.intro
 go_enter Tryz.func118, Tryz.ntmps118
 go_wp2_with (first | (with_reducible refine w2g ?_; clear mF1; refine q8i rfl _ rfl rfl HX.out ?_; intro _ g1 hg1 F1 hb; (try have := F1.lt); (try have := b.size); (try replace b := later b hb); clear hb) | (with_reducible refine w0g ?_; refine q0a rfl 24 _ rfl rfl (InAt.index F1) (by kernel_rfl) ?_))
 go_ret
 exact ⟨rfl, b⟩
theorem x8z (x : OutT) (w : World) (hx : x.Ok) : Calls Tryz.prog 120 #[outV x] w fun e w' => e = .returned (.bool (amountB x.amount)) ∧ Below w.heap.size w w' := by
 have HX := hide hx
 have HA := hide (fun w => j5a x.amount w hx.2.2)
 have b := Below.refl w.heap.size w
 clear hx
 have mF1 := True.intro
 go_enter Tryz.func120, Tryz.ntmps120
 go_wp2_with (first | (with_reducible refine w2g ?_; clear mF1; refine j2k rfl _ rfl rfl HX.out ?_; intro _ g1 hg1 F1 hb; (try have := F1.lt); (try have := b.size); (try replace b := later b hb); clear hb) | (with_reducible refine w0g ?_; refine q0a rfl 24 _ rfl rfl (OutAt.amount F1) (by kernel_rfl) ?_) | (go_at_call 121; refine (HA.out _).mono ?_; rintro _ _ ⟨rfl, hc⟩; (try replace F1 := F1.later hc); (try replace b := later b hc); clear hc))
 go_ret
 exact ⟨rfl, b⟩
theorem z0j (x : PayT) (w : World) (hx : x.Ok) : Calls Tryz.prog 128 #[payV x] w fun e w' => e = .returned (.bool (amountB x.amount)) ∧ Below w.heap.size w w' := by
 have HX := hide hx
 have HA := hide (fun w => j5a x.amount w hx.2)
 have b := Below.refl w.heap.size w
 clear hx
 have mF1 := True.intro
 go_enter Tryz.func128, Tryz.ntmps128
 go_wp2_with (first | (with_reducible refine w2g ?_; clear mF1; refine q9g rfl _ rfl rfl HX.out ?_; intro _ g1 hg1 F1 hb; (try have := F1.lt); (try have := b.size); (try replace b := later b hb); clear hb) | (with_reducible refine w0g ?_; refine q0a rfl 24 _ rfl rfl (PayAt.amount F1) (by kernel_rfl) ?_) | (go_at_call 121; refine (HA.out _).mono ?_; rintro _ _ ⟨rfl, hc⟩; (try replace F1 := F1.later hc); (try replace b := later b hc); clear hc))
 go_ret
 exact ⟨rfl, b⟩
theorem x8y (x : PayT) (w : World) (hx : x.Ok) : Calls Tryz.prog 125 #[payV x] w fun e w' => e = .returned (.string ⟨x.key.toArray⟩) ∧ Below w.heap.size w w' := by
 have HX := hide hx
 have HA := hide (fun w => q3t x.key w hx.1)
 have HK : Hid (x.key.length = 32) := hx.1
 have b := Below.refl w.heap.size w
 clear hx
 have mF1 := True.intro
 go_enter Tryz.func125, Tryz.ntmps125
 go_wp2_with (first | (with_reducible refine w2g ?_; clear mF1; refine q9g rfl _ rfl rfl HX.out ?_; intro _ g1 hg1 F1 hb; (try have := F1.lt); (try have := b.size); (try replace b := later b hb); clear hb) | (with_reducible refine w0g ?_; refine q0h rfl _ rfl rfl ((PayAt.key F1)) (HK.out) ?_) | (go_at_call 126; refine (HA.out _).mono ?_; rintro _ _ ⟨rfl, hc⟩; (try replace F1 := F1.later hc); (try replace b := later b hc); clear hc))
 go_ret
 exact ⟨rfl, b⟩
theorem x9e (x : WitT) (w : World) (hx : x.Ok) : Calls Tryz.prog 130 #[witV x] w fun e w' => e = .returned (.string ⟨x.key.toArray⟩) ∧ Below w.heap.size w w' := by
 have HX := hide hx
 have HA := hide (fun w => q3t x.key w hx)
 have HK : Hid (x.key.length = 32) := hx
 have b := Below.refl w.heap.size w
 clear hx
 have mF1 := True.intro
 go_enter Tryz.func130, Tryz.ntmps130
 go_wp2_with (first | (with_reducible refine w2g ?_; clear mF1; refine q8x rfl _ rfl rfl HX.out ?_; intro _ g1 hg1 F1 hb; (try have := F1.lt); (try have := b.size); (try replace b := later b hb); clear hb) | (with_reducible refine w0g ?_; refine q0h rfl _ rfl rfl ((WitAt.key F1)) (HK.out) ?_) | (go_at_call 126; refine (HA.out _).mono ?_; rintro _ _ ⟨rfl, hc⟩; (try replace F1 := F1.later hc); (try replace b := later b hc); clear hc))
 go_ret
 exact ⟨rfl, b⟩
theorem z0q (x : WitT) (w : World) (hx : x.Ok) : Calls Tryz.prog 132 #[witV x] w fun e w' => e = .returned (.bool (decide (x.sig.size = 1024))) ∧ Below w.heap.size w w' := by
 have HX := hide hx
 have e1 : ((x.sig.size : Int) == 1024) = decide (x.sig.size = 1024) := by
  have := q3n x.sig.size 1024
  simpa using this
 have b := Below.refl w.heap.size w
 clear hx
 rw [← e1]
 clear e1
 have mF1 := True.intro
 go_enter Tryz.func132, Tryz.ntmps132
 go_wp2_with (first | (with_reducible refine w2g ?_; clear mF1; refine q8x rfl _ rfl rfl HX.out ?_; intro _ g1 hg1 F1 hb; (try have := F1.lt); (try have := b.size); (try replace b := later b hb); clear hb) | (with_reducible refine w0g ?_; refine q0a rfl 9 _ rfl rfl (WitAt.sig F1) (by kernel_rfl) ?_))
 go_ret
 exact ⟨rfl, b⟩
section
variable {ops : Array Oper} {rest : List Oper} {o : Oper} {a : Act} {w w0 : World} {Q : Exit → Act → World → Prop} {K : Act → Prop}
theorem j0r (hgd : o.guard = none) (x y : Operand) (ho : o.op = .store 5 x y) {g : Nat} {d : CertT} {n : Nat} (hx : a.eval x = .pointer (some ⟨g, 0, none⟩)) (hy : a.eval y = .int .u8 n) (hl : n < 256) (h : CertAt w g d)
  (hk : ∀ w2, CertAt w2 g { d with kind := n } → Touch (fun b => b = g) w w2 → wpList Tryz.prog ops Q rest (a.put o.dst undef) w2) : wpList Tryz.prog ops Q (o :: rest) a w :=
 q0i hgd 5 x y ho hx hy h.arr (by rw [q1w h.ok]; omega) u8Sz rfl rfl (fun w2 ha ht => hk w2 ⟨⟨hl, h.ok.2.1, h.ok.2.2.1, h.ok.2.2.2.1, h.ok.2.2.2.2.1, h.ok.2.2.2.2.2⟩, by
  rw [q7t (A := ([] : List Value)) (B := bvs d.key ++ (bvs d.pool ++ (.int .u64 d.a :: (.int .u64 d.b :: ([.int .u64 d.c]))))) (by simp [certCs] <;> rfl) (by simp [q0c])] at ha
  simpa [certCs] using ha⟩ ht)
theorem q5r (hgd : o.guard = none) (x y : Operand) (ho : o.op = .store 34 x y) {g : Nat} {d : CertT} {l : List UInt8} (hx : a.eval x = .pointer (some ⟨g, 1, none⟩)) (hy : a.eval y = hv l) (hl : l.length = 32) (h : CertAt w g d)
  (hk : ∀ w2, CertAt w2 g { d with key := l } → Touch (fun b => b = g) w w2 → wpList Tryz.prog ops Q rest (a.put o.dst undef) w2) : wpList Tryz.prog ops Q (o :: rest) a w :=
 q2r hgd 34 x y ho hx hy h.arr (by rw [q0c, hl]; exact hashSz32) (by rw [q1w h.ok, q0c, hl]; omega) (fun v hv => List.all_eq_true.1 (q1f l) v hv) (certCs { d with key := l }) (by
  rw [q9j (A := [.int .u8 d.kind]) (X := bvs d.key) (B := bvs d.pool ++ (.int .u64 d.a :: (.int .u64 d.b :: ([.int .u64 d.c])))) (by simp [certCs]) (by simp [q0c]) (by rw [q0c, q0c, hl, show d.key.length = 32 from h.ok.2.1])]
  simp [certCs]) (fun w2 ha ht => hk w2 ⟨⟨h.ok.1, hl, h.ok.2.2.1, h.ok.2.2.2.1, h.ok.2.2.2.2.1, h.ok.2.2.2.2.2⟩, ha⟩ ht)
theorem q4p (hgd : o.guard = none) (x y : Operand) (ho : o.op = .store 34 x y) {g : Nat} {d : CertT} {l : List UInt8} (hx : a.eval x = .pointer (some ⟨g, 33, none⟩)) (hy : a.eval y = hv l) (hl : l.length = 32) (h : CertAt w g d)
  (hk : ∀ w2, CertAt w2 g { d with pool := l } → Touch (fun b => b = g) w w2 → wpList Tryz.prog ops Q rest (a.put o.dst undef) w2) : wpList Tryz.prog ops Q (o :: rest) a w :=
 q2r hgd 34 x y ho hx hy h.arr (by rw [q0c, hl]; exact hashSz32) (by rw [q1w h.ok, q0c, hl]; omega) (fun v hv => List.all_eq_true.1 (q1f l) v hv) (certCs { d with pool := l }) (by
  rw [q9j (A := [.int .u8 d.kind] ++ bvs d.key) (X := bvs d.pool) (B := .int .u64 d.a :: (.int .u64 d.b :: ([.int .u64 d.c]))) (by simp [certCs]) (by simp [q0c, show d.key.length = 32 from h.ok.2.1]) (by rw [q0c, q0c, hl, show d.pool.length = 32 from h.ok.2.2.1])]
  simp [certCs]) (fun w2 ha ht => hk w2 ⟨⟨h.ok.1, h.ok.2.1, hl, h.ok.2.2.2.1, h.ok.2.2.2.2.1, h.ok.2.2.2.2.2⟩, ha⟩ ht)
theorem q6s (hgd : o.guard = none) (x y : Operand) (ho : o.op = .store 24 x y) {g : Nat} {d : CertT} {n : Nat} (hx : a.eval x = .pointer (some ⟨g, 65, none⟩)) (hy : a.eval y = .int .u64 n) (hl : U64 n) (h : CertAt w g d)
  (hk : ∀ w2, CertAt w2 g { d with a := n } → Touch (fun b => b = g) w w2 → wpList Tryz.prog ops Q rest (a.put o.dst undef) w2) : wpList Tryz.prog ops Q (o :: rest) a w :=
 q0i hgd 24 x y ho hx hy h.arr (by rw [q1w h.ok]; omega) u64Sz rfl rfl (fun w2 ha ht => hk w2 ⟨⟨h.ok.1, h.ok.2.1, h.ok.2.2.1, hl, h.ok.2.2.2.2.1, h.ok.2.2.2.2.2⟩, by
  rw [q7t (A := [.int .u8 d.kind] ++ bvs d.key ++ bvs d.pool) (B := .int .u64 d.b :: ([.int .u64 d.c])) (by simp [certCs] <;> rfl) (by simp [q0c, show d.key.length = 32 from h.ok.2.1, show d.pool.length = 32 from h.ok.2.2.1])] at ha
  simpa [certCs] using ha⟩ ht)
theorem q8s (hgd : o.guard = none) (x y : Operand) (ho : o.op = .store 24 x y) {g : Nat} {d : CertT} {n : Nat} (hx : a.eval x = .pointer (some ⟨g, 66, none⟩)) (hy : a.eval y = .int .u64 n) (hl : U64 n) (h : CertAt w g d)
  (hk : ∀ w2, CertAt w2 g { d with b := n } → Touch (fun b => b = g) w w2 → wpList Tryz.prog ops Q rest (a.put o.dst undef) w2) : wpList Tryz.prog ops Q (o :: rest) a w :=
 q0i hgd 24 x y ho hx hy h.arr (by rw [q1w h.ok]; omega) u64Sz rfl rfl (fun w2 ha ht => hk w2 ⟨⟨h.ok.1, h.ok.2.1, h.ok.2.2.1, h.ok.2.2.2.1, hl, h.ok.2.2.2.2.2⟩, by
  rw [q7t (A := [.int .u8 d.kind] ++ bvs d.key ++ bvs d.pool ++ [.int .u64 d.a]) (B := [.int .u64 d.c]) (by simp [certCs] <;> rfl) (by simp [q0c, show d.key.length = 32 from h.ok.2.1, show d.pool.length = 32 from h.ok.2.2.1])] at ha
  simpa [certCs] using ha⟩ ht)
theorem j4v (hgd : o.guard = none) (x y : Operand) (ho : o.op = .store 24 x y) {g : Nat} {d : CertT} {n : Nat} (hx : a.eval x = .pointer (some ⟨g, 67, none⟩)) (hy : a.eval y = .int .u64 n) (hl : U64 n) (h : CertAt w g d)
  (hk : ∀ w2, CertAt w2 g { d with c := n } → Touch (fun b => b = g) w w2 → wpList Tryz.prog ops Q rest (a.put o.dst undef) w2) : wpList Tryz.prog ops Q (o :: rest) a w :=
 q0i hgd 24 x y ho hx hy h.arr (by rw [q1w h.ok]; omega) u64Sz rfl rfl (fun w2 ha ht => hk w2 ⟨⟨h.ok.1, h.ok.2.1, h.ok.2.2.1, h.ok.2.2.2.1, h.ok.2.2.2.2.1, hl⟩, by
  rw [q7t (A := [.int .u8 d.kind] ++ bvs d.key ++ bvs d.pool ++ [.int .u64 d.a] ++ [.int .u64 d.b]) (B := []) (by simp [certCs] <;> rfl) (by simp [q0c, show d.key.length = 32 from h.ok.2.1, show d.pool.length = 32 from h.ok.2.2.1])] at ha
  simpa [certCs] using ha⟩ ht)
end
end Go.Proofs.YtbbfnpfkbbpjgaaGreat
