/- Package origin: rises, the keys, ContainsFunc at seats. -/
import Derived.Test.YtbbfnpfkbbpjgaaOBOrigM
import Derived.Test.YtbbfnpfkbbpjgaaOBOrigA
namespace Go.Proofs.Ytbbfnpfkbbpjgaa
open Go.RowKit Go.Lib
set_option linter.unusedVariables false
set_option linter.unusedSimpArgs false

set_option maxRecDepth 100000 in
theorem keySeat_any (g k : Nat) (x : SeatT) (l : List SeatT) (w : World) (ns : List Nat) (nc : List UInt8) (v1 v2 v3 : Value) (F : OAt w g ns nc v1 v2 v3) (h2 : Sl w v2 67 (l.map seatCs)) (hm : l.length ≤ 100000) (hx : l[k]? = some x) (ok : x.Ok) :
    Calls Try.prog 128 #[.int .i64 k, .pointer (some ⟨g, 0, none⟩)] w fun e w' => e = .returned (hv x.pool) ∧ Below w.heap.size w w' := by
  have hk : k < l.length := (List.getElem?_eq_some_iff.1 hx).1
  obtain ⟨bb, k0, c', rfl, _, hcs⟩ := h2.block (by omega)
  have d1 := Cells.left (seatR0 (hcs k x hx))
  have HK1 : Hid (x.pool.length = 32) := ok.1
  obtain ⟨m, hmm⟩ : ∃ m, m = l.length := ⟨_, rfl⟩
  rw [← hmm] at hm hk F
  have F1 := F
  have b := Below.refl w.heap.size w
  clear hcs hx ok h2 F hmm
  generalize x.pool = p at *
  go_enter Try.func128, Try.ntmps128
  go_wp2_with (first | (with_reducible show wpList _ _ _ (⟨_, Op.alloc _, _, _, _, _⟩ :: _) _ _; refine wpl_mk_hash rfl rfl ?_; intro _ g2 hg2 F2 hb; replace d1 := d1.later hb; (try replace F1 := F1.later hb); (try replace F2 := F2.later hb); (try replace F3 := F3.later hb); (try replace F4 := F4.later hb); (try replace F5 := F5.later hb); (try replace F6 := F6.later hb); (try replace F7 := F7.later hb); (try replace F8 := F8.later hb); (try replace F9 := F9.later hb); (try replace G1 := G1.later hb); (try replace G2 := G2.later hb); (try replace G3 := G3.later hb); (try replace z := z.later hb); (try replace b := later b hb); (try replace bB := mixed hB bB hb); clear hb) | (with_reducible show wpList _ _ _ (⟨_, Op.load _ _, _, _, _, _⟩ :: _) _ _; refine wpl_load_one rfl 29 _ rfl rfl (OAt.s2 F1) (by kernel_rfl) ?_) | (with_reducible show wpList _ _ _ (⟨_, Op.load _ _, _, _, _, _⟩ :: _) _ _; refine wpl_load_elem rfl _ rfl rfl d1 HK1.out ?_) | (with_reducible show wpList _ _ _ (⟨_, Op.store _ _ _, _, _, _, _⟩ :: _) _ _; refine wpl_set_hash rfl _ _ rfl rfl rfl HK1.out F2 ?_; intro _ t1 ht1; clear F2; replace b := below_touch b ht1 (by omega) (Nat.le_refl _); have F2 := t1; clear t1 ht1))
  exact bodyPost_ret (ret_hash rfl _ _ rfl F2) rfl ⟨rfl, b⟩
set_option maxRecDepth 100000 in
theorem keyTrust_any (g k : Nat) (x : TrustT) (l : List TrustT) (w : World) (ns : List Nat) (nc : List UInt8) (v1 v2 v3 : Value) (F : OAt w g ns nc v1 v2 v3) (h2 : Sl w v3 64 (l.map trustCs)) (hm : l.length ≤ 100000) (hx : l[k]? = some x) (ok : x.Ok) :
    Calls Try.prog 129 #[.int .i64 k, .pointer (some ⟨g, 0, none⟩)] w fun e w' => e = .returned (hv x.key) ∧ Below w.heap.size w w' := by
  have hk : k < l.length := (List.getElem?_eq_some_iff.1 hx).1
  obtain ⟨bb, k0, c', rfl, _, hcs⟩ := h2.block (by omega)
  have d1 := Cells.left (trustR0 (hcs k x hx))
  have HK1 : Hid (x.key.length = 32) := ok.1
  obtain ⟨m, hmm⟩ : ∃ m, m = l.length := ⟨_, rfl⟩
  rw [← hmm] at hm hk F
  have F1 := F
  have b := Below.refl w.heap.size w
  clear hcs hx ok h2 F hmm
  generalize x.key = p at *
  go_enter Try.func129, Try.ntmps129
  go_wp2_with (first | (with_reducible show wpList _ _ _ (⟨_, Op.alloc _, _, _, _, _⟩ :: _) _ _; refine wpl_mk_hash rfl rfl ?_; intro _ g2 hg2 F2 hb; replace d1 := d1.later hb; (try replace F1 := F1.later hb); (try replace F2 := F2.later hb); (try replace F3 := F3.later hb); (try replace F4 := F4.later hb); (try replace F5 := F5.later hb); (try replace F6 := F6.later hb); (try replace F7 := F7.later hb); (try replace F8 := F8.later hb); (try replace F9 := F9.later hb); (try replace G1 := G1.later hb); (try replace G2 := G2.later hb); (try replace G3 := G3.later hb); (try replace z := z.later hb); (try replace b := later b hb); (try replace bB := mixed hB bB hb); clear hb) | (with_reducible show wpList _ _ _ (⟨_, Op.load _ _, _, _, _, _⟩ :: _) _ _; refine wpl_load_one rfl 30 _ rfl rfl (OAt.s3 F1) (by kernel_rfl) ?_) | (with_reducible show wpList _ _ _ (⟨_, Op.load _ _, _, _, _, _⟩ :: _) _ _; refine wpl_load_elem rfl _ rfl rfl d1 HK1.out ?_) | (with_reducible show wpList _ _ _ (⟨_, Op.store _ _ _, _, _, _, _⟩ :: _) _ _; refine wpl_set_hash rfl _ _ rfl rfl rfl HK1.out F2 ?_; intro _ t1 ht1; clear F2; replace b := below_touch b ht1 (by omega) (Nat.le_refl _); have F2 := t1; clear t1 ht1))
  exact bodyPost_ret (ret_hash rfl _ _ rfl F2) rfl ⟨rfl, b⟩
set_option maxRecDepth 100000 in
set_option maxHeartbeats 1600000 in
theorem orises_seat (cp : Value) (l : List SeatT) (P : World → Prop) (hP : ∀ w w', P w → Below w.heap.size w w' → P w') (hF : ∀ (k : Nat) (x : SeatT) (w : World), l[k]? = some x → P w → Calls Try.prog 128 #[.int .i64 k, cp] w fun e w' => e = .returned (hv (SeatT.pool x)) ∧ Below w.heap.size w w')
    (hg : ∀ x ∈ l, (SeatT.pool x).length = 32) (hm : l.length ≤ 100000) (w : World) (hp : P w) :
    Calls Try.prog 127 #[.int .i64 l.length, .func (.func 128) #[] #[cp]] w fun e w' => e = .returned (.bool (risesB SeatT.pool l)) ∧ Below w.heap.size w w' := by
  obtain ⟨n, hn⟩ : ∃ n, n = l.length := ⟨_, rfl⟩
  have HN := hide hn
  rw [← hn] at hm ⊢
  have b := Below.refl w.heap.size w
  have HF := hide hF
  have HG := hide hg
  clear hn hF hg
  go_enter Try.func127, Try.ntmps127
  go_wp2_with fail
  go_loopw [5] (fun i wr => ∃ k : Nat, i = .int .i64 k ∧ 0 < k ∧ k ≤ n + 1 ∧ Hid (risesB SeatT.pool (l.take k) = true) ∧ Below w.heap.size w wr) (fun i _ => n - (RowKit.intOf i).toNat)
  case atStart => exact ⟨1, rfl, by omega, by omega, hide (rises_one _ _), b⟩
  case round =>
    clear b
    obtain ⟨k, rfl, h0, hk, HA, b⟩ := hrel
    have hpr := hP _ _ hp b
    by_cases hlt : k < n
    · obtain ⟨j, hj⟩ : ∃ j, j = k - 1 := ⟨_, rfl⟩
      obtain ⟨x, hx, okx⟩ := get_ok HG.out (k := j) (by rw [← HN.out]; omega)
      obtain ⟨y, hy, oky⟩ := get_ok HG.out (k := k) (by rw [← HN.out]; exact hlt)
      have HR := hide (rises_next SeatT.pool l k x y (by rw [← hj]; exact hx) hy h0)
      have HX := hide (fun w (h : P w) => HF.out j x w hx h)
      have HY := hide (fun w (h : P w) => HF.out k y w hy h)
      have HBX := hide (fun w => bytes_any (SeatT.pool x) w okx)
      have HBY := hide (fun w => bytes_any (SeatT.pool y) w oky)
      have c2 : (k : Int) - 1 = (j : Int) := by omega
      have HS := hide (rises_stop SeatT.pool l (k + 1))
      have hl1 : (⟨(SeatT.pool x).toArray⟩ : ByteArray).toList = SeatT.pool x := by rw [ByteArray.toList_eq]
      have hl2 : (⟨(SeatT.pool y).toArray⟩ : ByteArray).toList = SeatT.pool y := by rw [ByteArray.toList_eq]
      rw [← hl1, ← hl2] at HR
      clear hl1 hl2 hj hx hy okx oky HF HG
      generalize (⟨(SeatT.pool x).toArray⟩ : ByteArray) = sx at *
      generalize (⟨(SeatT.pool y).toArray⟩ : ByteArray) = sy at *
      have hpr2 := hpr
      by_cases hB : Op.bytesLess sx.toList sy.toList = true
      · have HA2 : Hid (risesB SeatT.pool (l.take (k + 1)) = true) := by rw [HR.out, HA.out, hB]; exact hide rfl
        clear HA HR HS
        go_wp2_with (first | (go_at_call 128; (first | (refine (HX.out _ hpr2).mono ?_; clear HX) | refine (HY.out _ hpr2).mono ?_); rintro _ _ ⟨rfl, hc⟩; replace hpr2 := hP _ _ hpr2 hc; replace b := later b hc; clear hc) | (go_at_call 65; (first | (refine (HBX.out _).mono ?_; clear HBX) | refine (HBY.out _).mono ?_); rintro _ _ ⟨rfl, hc⟩; replace hpr2 := hP _ _ hpr2 hc; replace b := later b hc; clear hc))
        go_roundw
        case rel => exact ⟨k + 1, by simp, by omega, by omega, HA2, b⟩
        case measure => simp [RowKit.intOf]; omega
      · replace hB : Op.bytesLess sx.toList sy.toList = false := by simpa using hB
        have HA2 : Hid (risesB SeatT.pool l = false) := HS.out (by rw [HR.out, hB, Bool.and_false])
        clear HA HR HS
        go_wp2_with (first | (go_at_call 128; (first | (refine (HX.out _ hpr2).mono ?_; clear HX) | refine (HY.out _ hpr2).mono ?_); rintro _ _ ⟨rfl, hc⟩; replace hpr2 := hP _ _ hpr2 hc; replace b := later b hc; clear hc) | (go_at_call 65; (first | (refine (HBX.out _).mono ?_; clear HBX) | refine (HBY.out _).mono ?_); rintro _ _ ⟨rfl, hc⟩; replace hpr2 := hP _ _ hpr2 hc; replace b := later b hc; clear hc))
        go_ret
        exact ⟨by rw [HA2.out]; rfl, b⟩
    · have hA := HA.out
      rw [List.take_of_length_le (by rw [← HN.out]; omega)] at hA
      have HA2 := hide hA
      clear HA hA
      go_wp2_with fail
      go_ret
      exact ⟨by rw [HA2.out]; rfl, b⟩
set_option maxRecDepth 100000 in
set_option maxHeartbeats 1600000 in
theorem orises_trust (cp : Value) (l : List TrustT) (P : World → Prop) (hP : ∀ w w', P w → Below w.heap.size w w' → P w') (hF : ∀ (k : Nat) (x : TrustT) (w : World), l[k]? = some x → P w → Calls Try.prog 129 #[.int .i64 k, cp] w fun e w' => e = .returned (hv (TrustT.key x)) ∧ Below w.heap.size w w')
    (hg : ∀ x ∈ l, (TrustT.key x).length = 32) (hm : l.length ≤ 100000) (w : World) (hp : P w) :
    Calls Try.prog 127 #[.int .i64 l.length, .func (.func 129) #[] #[cp]] w fun e w' => e = .returned (.bool (risesB TrustT.key l)) ∧ Below w.heap.size w w' := by
  obtain ⟨n, hn⟩ : ∃ n, n = l.length := ⟨_, rfl⟩
  have HN := hide hn
  rw [← hn] at hm ⊢
  have b := Below.refl w.heap.size w
  have HF := hide hF
  have HG := hide hg
  clear hn hF hg
  go_enter Try.func127, Try.ntmps127
  go_wp2_with fail
  go_loopw [5] (fun i wr => ∃ k : Nat, i = .int .i64 k ∧ 0 < k ∧ k ≤ n + 1 ∧ Hid (risesB TrustT.key (l.take k) = true) ∧ Below w.heap.size w wr) (fun i _ => n - (RowKit.intOf i).toNat)
  case atStart => exact ⟨1, rfl, by omega, by omega, hide (rises_one _ _), b⟩
  case round =>
    clear b
    obtain ⟨k, rfl, h0, hk, HA, b⟩ := hrel
    have hpr := hP _ _ hp b
    by_cases hlt : k < n
    · obtain ⟨j, hj⟩ : ∃ j, j = k - 1 := ⟨_, rfl⟩
      obtain ⟨x, hx, okx⟩ := get_ok HG.out (k := j) (by rw [← HN.out]; omega)
      obtain ⟨y, hy, oky⟩ := get_ok HG.out (k := k) (by rw [← HN.out]; exact hlt)
      have HR := hide (rises_next TrustT.key l k x y (by rw [← hj]; exact hx) hy h0)
      have HX := hide (fun w (h : P w) => HF.out j x w hx h)
      have HY := hide (fun w (h : P w) => HF.out k y w hy h)
      have HBX := hide (fun w => bytes_any (TrustT.key x) w okx)
      have HBY := hide (fun w => bytes_any (TrustT.key y) w oky)
      have c2 : (k : Int) - 1 = (j : Int) := by omega
      have HS := hide (rises_stop TrustT.key l (k + 1))
      have hl1 : (⟨(TrustT.key x).toArray⟩ : ByteArray).toList = TrustT.key x := by rw [ByteArray.toList_eq]
      have hl2 : (⟨(TrustT.key y).toArray⟩ : ByteArray).toList = TrustT.key y := by rw [ByteArray.toList_eq]
      rw [← hl1, ← hl2] at HR
      clear hl1 hl2 hj hx hy okx oky HF HG
      generalize (⟨(TrustT.key x).toArray⟩ : ByteArray) = sx at *
      generalize (⟨(TrustT.key y).toArray⟩ : ByteArray) = sy at *
      have hpr2 := hpr
      by_cases hB : Op.bytesLess sx.toList sy.toList = true
      · have HA2 : Hid (risesB TrustT.key (l.take (k + 1)) = true) := by rw [HR.out, HA.out, hB]; exact hide rfl
        clear HA HR HS
        go_wp2_with (first | (go_at_call 129; (first | (refine (HX.out _ hpr2).mono ?_; clear HX) | refine (HY.out _ hpr2).mono ?_); rintro _ _ ⟨rfl, hc⟩; replace hpr2 := hP _ _ hpr2 hc; replace b := later b hc; clear hc) | (go_at_call 65; (first | (refine (HBX.out _).mono ?_; clear HBX) | refine (HBY.out _).mono ?_); rintro _ _ ⟨rfl, hc⟩; replace hpr2 := hP _ _ hpr2 hc; replace b := later b hc; clear hc))
        go_roundw
        case rel => exact ⟨k + 1, by simp, by omega, by omega, HA2, b⟩
        case measure => simp [RowKit.intOf]; omega
      · replace hB : Op.bytesLess sx.toList sy.toList = false := by simpa using hB
        have HA2 : Hid (risesB TrustT.key l = false) := HS.out (by rw [HR.out, hB, Bool.and_false])
        clear HA HR HS
        go_wp2_with (first | (go_at_call 129; (first | (refine (HX.out _ hpr2).mono ?_; clear HX) | refine (HY.out _ hpr2).mono ?_); rintro _ _ ⟨rfl, hc⟩; replace hpr2 := hP _ _ hpr2 hc; replace b := later b hc; clear hc) | (go_at_call 65; (first | (refine (HBX.out _).mono ?_; clear HBX) | refine (HBY.out _).mono ?_); rintro _ _ ⟨rfl, hc⟩; replace hpr2 := hP _ _ hpr2 hc; replace b := later b hc; clear hc))
        go_ret
        exact ⟨by rw [HA2.out]; rfl, b⟩
    · have hA := HA.out
      rw [List.take_of_length_le (by rw [← HN.out]; omega)] at hA
      have HA2 := hide hA
      clear HA hA
      go_wp2_with fail
      go_ret
      exact ⟨by rw [HA2.out]; rfl, b⟩
set_option maxRecDepth 100000 in
theorem isPool_any (s : SeatT) (x : TrustT) (g : Nat) (w : World) (F : TrustAt w g x) (ok : s.Ok) :
    Calls Try.prog 131 #[seatV s, .pointer (some ⟨g, 0, none⟩)] w fun e w' => e = .returned (.bool (decide (s.pool = x.pool))) ∧ Below w.heap.size w w' := by
  have F2 := F
  have HX := hide ok
  have HK1 : Hid (s.pool.length = 32) := ok.1
  have HK2 : Hid (x.pool.length = 32) := F.ok.2
  obtain ⟨B, hB⟩ : ∃ B, decide (s.pool = x.pool) = B := ⟨_, rfl⟩
  rw [hB]
  have HB := hide hB
  have b := Below.refl w.heap.size w
  clear F ok hB
  have mF1 := True.intro
  go_enter Try.func131, Try.ntmps131
  go_wp2_with (first | (with_reducible show wpList _ _ _ (⟨_, Op.box _ _, _, _, _, _⟩ :: _) _ _; clear mF1; refine wpl_box_seat rfl _ rfl rfl HX.out ?_; intro _ g2 hg2 F1 hb; (try have := F1.lt); (try have := F2.lt); (try have := F3.lt); (try have := F4.lt); (try have := F5.lt); (try have := F6.lt); (try have := F7.lt); (try have := F8.lt); (try have := F9.lt); (try have := z.lt); (try have := G1.lt); (try have := G2.lt); (try have := G3.lt); (try have := b.size); (try replace F1 := F1.later hb); (try replace F2 := F2.later hb); (try replace F3 := F3.later hb); (try replace F4 := F4.later hb); (try replace F5 := F5.later hb); (try replace F6 := F6.later hb); (try replace F7 := F7.later hb); (try replace F8 := F8.later hb); (try replace F9 := F9.later hb); (try replace G1 := G1.later hb); (try replace G2 := G2.later hb); (try replace G3 := G3.later hb); (try replace z := z.later hb); (try replace b := later b hb); (try replace bB := mixed hB bB hb); clear hb) | (with_reducible show wpList _ _ _ (⟨_, Op.load _ _, _, _, _, _⟩ :: _) _ _; first | refine wpl_load_elem rfl _ rfl rfl (SeatAt.pool F1) HK1.out ?_ | refine wpl_load_elem rfl _ rfl rfl (TrustAt.pool F2) HK2.out ?_) | (with_reducible show wpList _ _ _ (⟨_, Op.binOp _ _ _ _ _, _, _, _, _⟩ :: _) _ _; refine wpl_eqhh rfl _ _ rfl rfl rfl HK1.out HK2.out HB.out ?_))
  go_ret
  exact ⟨rfl, b⟩
set_option maxRecDepth 100000 in
set_option maxHeartbeats 1600000 in
theorem indexf_seat (cp : Value) (g : SeatT → Bool) (P : World → Prop) (hP : ∀ w w', P w → Below w.heap.size w w' → P w') (hF : ∀ x w, x.Ok → P w → Calls Try.prog 131 #[seatV x, cp] w fun e w' => e = .returned (.bool (g x)) ∧ Below w.heap.size w w')
    (v : Value) (l : List SeatT) (w : World) (hv : Sl w v 67 (l.map seatCs)) (hl : ∀ x ∈ l, x.Ok) (hm : l.length ≤ 9223372036854775807) (hp : P w) :
    Calls Try.prog 166 #[v, .func (.func 131) #[] #[cp]] w fun e w' => (∃ i : Int, e = .returned (.int .i64 i) ∧ (decide (0 ≤ i) = l.any g)) ∧ Below w.heap.size w w' := by
  obtain ⟨a, c, rfl, hc1, hc2, _⟩ := hv.shape
  obtain ⟨n, hn⟩ : ∃ n, n = l.length := ⟨_, rfl⟩
  have HN := hide hn
  rw [← hn] at hm ⊢
  have b := Below.refl w.heap.size w
  have HF := hide hF
  have HL := hide hl
  clear hn hF hl hc1 hc2
  go_enter Try.func166, Try.ntmps166
  go_wp2_with fail
  go_loopw [8] (fun i wr => ∃ k : Nat, i = .int .i64 k ∧ k ≤ n ∧ Hid ((l.take k).any g = false) ∧ Below w.heap.size w wr) (fun i _ => n - (RowKit.intOf i).toNat)
  case atStart => exact ⟨0, rfl, by omega, hide rfl, b⟩
  case round =>
    clear b
    obtain ⟨k, rfl, hk, HA, b⟩ := hrel
    have hpr := hP _ _ hp b
    have hvr := hv.later b
    by_cases hlt : k < n
    · obtain ⟨x, hx, ok⟩ := get_ok HL.out (k := k) (by rw [← HN.out]; exact hlt)
      obtain ⟨bb, k0, c', he, _, hcs⟩ := hvr.block (by rw [← HN.out]; omega)
      simp only [Value.slice.injEq] at he
      obtain ⟨rfl, _, rfl⟩ := he
      have d1 := hcs k x hx
      have HX := hide (any_take l g k x hx)
      have HX2 := hide (fun h => any_of_get (g := g) hx h)
      have OK := hide ok
      have hc := fun w' (h : Below wr.heap.size wr w') => HF.out x w' OK.out (hP _ _ hpr h)
      have HC := hide hc
      clear hcs hx ok hc HF
      cases hg : g x
      case true =>
        rw [hg] at HC
        go_wp2_with (first | (with_reducible show wpList _ _ _ (⟨_, Op.load _ _, _, _, _, _⟩ :: _) _ _; refine wpl_ld_seat rfl _ rfl rfl d1 OK.out ?_) | (go_at_call 131; refine (HC.out _ (Below.refl _ _)).mono ?_; rintro _ _ ⟨rfl, hc⟩; (try replace F1 := F1.later hc); (try replace F2 := F2.later hc); (try replace F3 := F3.later hc); (try replace F4 := F4.later hc); (try replace F5 := F5.later hc); (try replace F6 := F6.later hc); (try replace F7 := F7.later hc); (try replace F8 := F8.later hc); (try replace F9 := F9.later hc); (try replace G1 := G1.later hc); (try replace G2 := G2.later hc); (try replace G3 := G3.later hc); (try replace z := z.later hc); (try replace b := later b hc); (try replace bB := mixed hB bB hc); clear hc))
        go_ret
        exact ⟨⟨k, rfl, by rw [HX2.out hg]; simp⟩, b⟩
      case false =>
        rw [hg] at HC
        have HA2 : Hid ((l.take (k + 1)).any g = false) := by rw [HX.out, HA.out, hg]; exact hide rfl
        clear HX HX2 HA hg
        go_wp2_with (first | (with_reducible show wpList _ _ _ (⟨_, Op.load _ _, _, _, _, _⟩ :: _) _ _; refine wpl_ld_seat rfl _ rfl rfl d1 OK.out ?_) | (go_at_call 131; refine (HC.out _ (Below.refl _ _)).mono ?_; rintro _ _ ⟨rfl, hc⟩; (try replace F1 := F1.later hc); (try replace F2 := F2.later hc); (try replace F3 := F3.later hc); (try replace F4 := F4.later hc); (try replace F5 := F5.later hc); (try replace F6 := F6.later hc); (try replace F7 := F7.later hc); (try replace F8 := F8.later hc); (try replace F9 := F9.later hc); (try replace G1 := G1.later hc); (try replace G2 := G2.later hc); (try replace G3 := G3.later hc); (try replace z := z.later hc); (try replace b := later b hc); (try replace bB := mixed hB bB hc); clear hc))
        go_roundw
        case rel => exact ⟨k + 1, by simp, by omega, HA2, b⟩
        case measure => simp [RowKit.intOf]; omega
    · obtain rfl : k = n := by omega
      have hA := HA.out
      rw [List.take_of_length_le (by rw [← HN.out]; exact Nat.le_refl _)] at hA
      clear HA
      go_wp2_with fail
      go_ret
      exact ⟨⟨-1, rfl, by rw [hA]; rfl⟩, b⟩
set_option maxRecDepth 100000 in
set_option maxHeartbeats 1600000 in
theorem contf_seat (g : Nat) (x : TrustT) (v : Value) (l : List SeatT) (w : World) (hv : Sl w v 67 (l.map seatCs)) (hl : ∀ x ∈ l, x.Ok) (hm : l.length ≤ 9223372036854775807) (hp : TrustAt w g x) :
    Calls Try.prog 130 #[v, .func (.func 131) #[] #[.pointer (some ⟨g, 0, none⟩)]] w fun e w' => e = .returned (.bool (l.any fun s => decide (s.pool = x.pool))) ∧ Below w.heap.size w w' := by
  have HI := hide (fun w' (hb : Below w.heap.size w w') => indexf_seat (.pointer (some ⟨g, 0, none⟩)) (fun s => decide (s.pool = x.pool)) (fun w => TrustAt w g x) (fun _ _ h hb => h.later hb) (fun s w hs hp => isPool_any s x g w hp hs) v l w' (hv.later hb) hl hm (hp.later hb))
  have b := Below.refl w.heap.size w
  generalize (l.any fun s => decide (s.pool = x.pool)) = B at *
  clear hv hl hm hp
  go_enter Try.func130, Try.ntmps130
  go_wp2_with (go_at_call 166; refine (HI.out _ b).mono ?_; rintro _ _ ⟨⟨i, rfl, hi⟩, hc⟩; (try replace F1 := F1.later hc); (try replace F2 := F2.later hc); (try replace F3 := F3.later hc); (try replace F4 := F4.later hc); (try replace F5 := F5.later hc); (try replace F6 := F6.later hc); (try replace F7 := F7.later hc); (try replace F8 := F8.later hc); (try replace F9 := F9.later hc); (try replace G1 := G1.later hc); (try replace G2 := G2.later hc); (try replace G3 := G3.later hc); (try replace z := z.later hc); (try replace b := later b hc); (try replace bB := mixed hB bB hc); clear hc)
  go_ret
  exact ⟨rfl, b⟩
end Go.Proofs.Ytbbfnpfkbbpjgaa
