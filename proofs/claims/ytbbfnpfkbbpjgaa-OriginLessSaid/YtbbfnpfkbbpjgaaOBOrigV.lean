/- The reference of layer 16: Take. Printed by gen_oreftake.py. -/
import Derived.Test.YtbbfnpfkbbpjgaaOBTkL
import Derived.Test.YtbbfnpfkbbpjgaaOBOrigU
import Derived.Test.YtbbfnpfkbbpjgaaOBOrigE
import Derived.Test.YtbbfnpfkbbpjgaaOBStSeat
import Derived.Deep.CutBlock
import Derived.Deep.DeepCutAuto
namespace Go.Proofs.Ytbbfnpfkbbpjgaa
open Go.RowKit Go.Lib
set_option linter.unusedVariables false
set_option linter.unusedSimpArgs false

theorem seatZ0 : Try.prog.built 93 [] = some (seatCs seat0).toArray := by kernel_rfl
theorem trustZ0 : Try.prog.built 97 [] = some (trustCs trust0).toArray := by kernel_rfl
theorem otk_begin {w : World} {g : Nat} {ns : List Nat} {nc : List UInt8} {v1 v2 v3 : Value} (_ : OAt w g ns nc v1 v2 v3) (X : List Nat) : StabX (fun _ => True) w.heap.size X w := ⟨Nat.le_refl _, fun _ _ => True.intro⟩
def ns5 (a b c d e : Nat) : List Nat := [a, b, c, d, e, 0, 0, 0, 0, 0, 0, 0, 0, 0, 0]
theorem ns0_five (a b c d e : Nat) : ((((ns0.set 0 a).set 1 b).set 2 c).set 3 d).set 4 e = ns5 a b c d e := rfl
theorem ns5_u64 {a b c d e : Nat} (h1 : U64 a) (h2 : U64 b) (h3 : U64 c) (h4 : U64 d) (h5 : U64 e) : ∀ x ∈ ns5 a b c d e, U64 x := by
  intro x hx
  simp only [ns5, List.mem_cons, List.not_mem_nil, or_false, or_self] at hx
  rcases hx with rfl | rfl | rfl | rfl | rfl | rfl
  · exact h1
  · exact h2
  · exact h3
  · exact h4
  · exact h5
  · decide
theorem got_orig2 {st0 s1 s2 s3 s4 s5 s13 s14 s15 s16 s17 s18 s19 : Option (List UInt8)} {k e p ra rb r t : Nat} {ps : List Nat} {nc : List UInt8} {l1 : List OutT} {l2 : List SeatT} {l3 : List TrustT}
    (K1 : Got numP st0 k s1) (K2 : Got numP s1 e s2) (K3 : Got numP s2 p s3) (K4 : Got numP s3 ra s4) (K5 : Got numP s4 rb s5) (G2 : Got (manyP numP 8) s5 ps s13) (G3 : Got numP s13 r s14) (G4 : Got numP s14 t s15) (G5 : Got (textP 32) s15 nc s16) (G6 : Got (listP 32 outP) s16 l1 s17) (G7 : Got (listP 16 seatP) s17 l2 s18) (G8 : Got (listP 32 trustP) s18 l3 s19) :
    Got origP st0 ⟨k, e, p, ra, rb, ps, r, t, nc, l1, l2, l3⟩ s19 := by
  unfold origP
  exact K1.bind (K2.bind (K3.bind (K4.bind (K5.bind (G2.bind (G3.bind (G4.bind (G5.bind (G6.bind (G7.bind (G8.last (f := fun u => (⟨k, e, p, ra, rb, ps, r, t, nc, l1, l2, u⟩ : Orig)))))))))))))
set_option maxRecDepth 100000 in
set_option maxHeartbeats 25600000 in
theorem refTake16 (s : ByteArray) (w : World) (hs : s.size ≤ 1048576) :
    Calls Try.prog 18 #[.string s] w fun e w' => (∃ v, e = .returned (.tuple #[v, .int .i64 (takeOr s.data.toList).2]) ∧ OrigIs w' v (takeOr s.data.toList).1) ∧ Below w.heap.size w w' := by
  have HMY := hide (fun v d w (h : OrigIs w v d) (hf : d.Fit) => orefMay_any v d w h hf)
  have HRB := hide (riBuilt s)
  have HT := hide (fun d st (h : Got origP (some s.data.toList) d st) => takeOr_got h)
  have b := Below.refl w.heap.size w
  have hcd : Cond (some s.data.toList) s true := ⟨fun h => (by cases h), fun r hr => ⟨rfl, Option.some.inj hr⟩⟩
  generalize hL : s.data.toList = L at *
  generalize takeOr L = T at *
  clear hL
  obtain ⟨st0, hst0⟩ : ∃ st0, st0 = some L := ⟨_, rfl⟩
  rw [← hst0] at hcd
  have HT : Hid (∀ d st, Got origP st0 d st → T = if st = some [] ∧ mayOr d = true then (d, 0) else (orig0, 6)) := by rw [hst0]; exact HT
  clear hst0
  have mF1 := True.intro
  have mF2 := True.intro
  have mN1 := True.intro
  have mN2 := True.intro
  have mN3 := True.intro
  have mN4 := True.intro
  have mN5 := True.intro
  go_enter Try.func18, Try.ntmps18
  go_wp2_with (first | (with_reducible show wpList _ _ _ (⟨_, Op.alloc 32, _, _, _, _⟩ :: _) _ _; first | (clear mF1; refine wpl_mk_orig rfl rfl ?_; intro _ g0 hg0 F1 hb; replace b := later b hb; clear hb) | (clear mF2; have q5 := F5.lt; refine wpl_mk_orig rfl rfl ?_; intro _ gt hgt F2 hb; have h0g : g0 < g := hg01; have hgw : w.heap.size ≤ g := (by omega); have hgg : g < gt := (by omega); have htw : w.heap.size ≤ gt := (by omega); replace F1 := F1.later hb; replace F5 := F5.later hb; replace b := later b hb; clear hb)) | ((with_reducible show wpList _ _ _ (⟨_, Op.build 101 _, _, _, _, _⟩ :: _) _ _); refine wpl_built2 rfl 101 _ _ rfl rfl rfl (cs := [.string s, .bool true]) HRB.out ?_) | ((with_reducible show wpList _ _ _ (⟨_, Op.box 101 _, _, _, _, _⟩ :: _) _ _); have q1 := F1.lt; have qb := b.size; refine wpl_box rfl 101 _ rfl (v := .agg #[.string s, .bool true]) rfl (cs := [.string s, .bool true]) rfl ?_; intro _ g hg FI hb; have F5 : RdI _ g st0 := ⟨s, true, FI, hs, hcd⟩; have hg01 : g0 < g := (by omega); clear FI; replace F1 := F1.later hb; replace b := later b hb; clear hb) | ((with_reducible show wpList _ _ _ (⟨_, Op.build 32 _, _, _, _, _⟩ :: _) _ _); refine wpl_built0 rfl 32 rfl (cs := origCs ns0 zero32 nilS nilS nilS) origBuilt0 ?_) | ((with_reducible show wpList _ _ _ (⟨_, Op.store 32 _ _, _, _, _, _⟩ :: _) _ _); refine wpl_set_orig rfl _ _ rfl rfl (ns := ns0) (nc := zero32) (v1 := nilS) (v2 := nilS) (v3 := nilS) rfl rfl rfl rfl rfl rfl F2 ?_; intro _ t1 ht1; clear F2; replace F1 := F1.tt ht1; replace F5 := F5.tt ht1; replace b := below_touch b ht1 htw (Nat.le_refl _); have F2 := t1; clear t1 ht1) | (go_at_call 60; clear mN1; refine (riNumber g _ _ F5).mono ?_; rintro _ _ ⟨n1, x1, rfl, U1, k1, N1, ht1⟩; clear F5; have F5 := k1; clear k1; replace U1 := hide U1; replace N1 := hide N1; replace F2 := F2.tt ht1; replace F1 := F1.tt ht1; replace b := below_touch b ht1 hgw (Nat.le_refl _); clear ht1) | (go_at_call 60; clear mN2; refine (riNumber g _ _ F5).mono ?_; rintro _ _ ⟨n2, x2, rfl, U2, k1, N2, ht1⟩; clear F5; have F5 := k1; clear k1; replace U2 := hide U2; replace N2 := hide N2; replace F2 := F2.tt ht1; replace F1 := F1.tt ht1; replace b := below_touch b ht1 hgw (Nat.le_refl _); clear ht1) | (go_at_call 60; clear mN3; refine (riNumber g _ _ F5).mono ?_; rintro _ _ ⟨n3, x3, rfl, U3, k1, N3, ht1⟩; clear F5; have F5 := k1; clear k1; replace U3 := hide U3; replace N3 := hide N3; replace F2 := F2.tt ht1; replace F1 := F1.tt ht1; replace b := below_touch b ht1 hgw (Nat.le_refl _); clear ht1) | (go_at_call 60; clear mN4; refine (riNumber g _ _ F5).mono ?_; rintro _ _ ⟨n4, x4, rfl, U4, k1, N4, ht1⟩; clear F5; have F5 := k1; clear k1; replace U4 := hide U4; replace N4 := hide N4; replace F2 := F2.tt ht1; replace F1 := F1.tt ht1; replace b := below_touch b ht1 hgw (Nat.le_refl _); clear ht1) | (go_at_call 60; clear mN5; refine (riNumber g _ _ F5).mono ?_; rintro _ _ ⟨n5, x5, rfl, U5, k1, N5, ht1⟩; clear F5; have F5 := k1; clear k1; replace U5 := hide U5; replace N5 := hide N5; replace F2 := F2.tt ht1; replace F1 := F1.tt ht1; replace b := below_touch b ht1 hgw (Nat.le_refl _); clear ht1) | ((with_reducible show wpList _ _ _ (⟨_, Op.store 23 _ _, _, _, _, _⟩ :: _) _ _); refine wpl_set_onum rfl _ _ rfl rfl rfl (by omega) F2 ?_; intro _ t1 ht1; clear F2; replace F5 := F5.tt ht1; replace F1 := F1.tt ht1; replace b := below_touch b ht1 htw (Nat.le_refl _); have F2 := t1; clear t1 ht1))
  rw [ns0_five] at F2
  have HU := hide (ns5_u64 U1.out U2.out U3.out U4.out U5.out)
  have HA5 : Hid ((ns5 n1 n2 n3 n4 n5).take 5 = [n1, n2, n3, n4, n5]) := rfl
  clear U1 U2 U3 U4 U5
  generalize ns5 n1 n2 n3 n4 n5 = ns at *
  go_loopw [6] (fun i wr => ∃ (k : Nat) (ns : List Nat) (s13 : Option (List UInt8)), i = .int .i64 k ∧ k ≤ 8 ∧ Hid (ns.take 5 = [n1, n2, n3, n4, n5]) ∧ Hid (∀ x ∈ ns, U64 x) ∧ Hid (Got (manyP numP k) x5 ((ns.drop 5).take k) s13) ∧ RdI wr g s13 ∧ OAt wr gt ns zero32 nilS nilS nilS ∧ OAt wr g0 ns0 zero32 nilS nilS nilS ∧ Below w.heap.size w wr) (fun i _ => 8 - (RowKit.intOf i).toNat)
  case atStart => exact ⟨0, ns, x5, rfl, by omega, HA5, HU, hide (got_none _ _), F5, F2, F1, b⟩
  clear F5 F1 F2 b HU HA5
  obtain ⟨k, ns, s13, rfl, hk, HA5, HU, HK8, F5, F2, F1, b⟩ := hrel
  by_cases hlt : k < 8
  case pos =>
    have hnl := F2.len
    have hk15 : 5 + k < 15 := by omega
    have HX := hide (fun n => set_mid5 (ns := ns) (k := k) (n := n) (by omega))
    clear hnl
    have mN6 := True.intro
    go_wp2_with (first | (go_at_call 60; clear mN6; refine (riNumber g _ _ F5).mono ?_; rintro _ _ ⟨n, s1, rfl, K1, k1, G1, ht1⟩; clear F5; have F5 := k1; clear k1; replace K1 := hide K1; replace G1 := hide G1; replace F2 := F2.tt ht1; replace F1 := F1.tt ht1; replace b := below_touch b ht1 hgw (Nat.le_refl _); clear ht1) | ((with_reducible show wpList _ _ _ (⟨_, Op.store 23 _ _, _, _, _, _⟩ :: _) _ _); refine wpl_set_onum rfl _ _ rfl rfl rfl (by omega) F2 ?_; intro _ t1 ht1; clear F2; replace F5 := F5.tt ht1; replace F1 := F1.tt ht1; replace b := below_touch b ht1 htw (Nat.le_refl _); have F2 := t1; clear t1 ht1))
    first
      | (go_roundw
         case rel => exact ⟨k + 1, ns.set (5 + k) n, s1, by simp, by omega, by rw [set_low5]; exact HA5, hide (set_u64 HU.out K1.out), by rw [HX.out]; exact hide (HK8.out.snoc G1.out), F5, F2, F1, b⟩)
      | (refine ⟨?_, ?measure⟩; (repeat apply Exists.intro); refine ⟨?rel, rfl⟩
         case rel => exact ⟨k + 1, ns.set (5 + k) n, s1, by simp, by omega, by rw [set_low5]; exact HA5, hide (set_u64 HU.out K1.out), by rw [HX.out]; exact hide (HK8.out.snoc G1.out), F5, F2, F1, b⟩)
    case measure => simp [RowKit.intOf]; omega
  obtain rfl : k = 8 := by omega
  clear hlt hk
  obtain ⟨m0, m1, m2, m3, m4, ps, x, y, hps, rfl, e1, e2⟩ := ns_split F2.len
  have e3 := HA5.out
  rw [e1] at e3
  simp only [List.cons.injEq, and_true] at e3
  obtain ⟨rfl, rfl, rfl, rfl, rfl⟩ := e3
  rw [e2] at HK8
  have HPS := hide hps
  clear HA5 e1 e2 hps
  have mN7 := True.intro
  have mN8 := True.intro
  go_upto_block 2 with (first | (go_at_call 60; clear mN7; refine (riNumber g _ _ F5).mono ?_; rintro _ _ ⟨nr, s14, rfl, K13, k1, G13, ht1⟩; clear F5; have F5 := k1; clear k1; replace K13 := hide K13; replace G13 := hide G13; replace F2 := F2.tt ht1; replace F1 := F1.tt ht1; replace b := below_touch b ht1 hgw (Nat.le_refl _); clear ht1) | (go_at_call 60; clear mN8; refine (riNumber g _ _ F5).mono ?_; rintro _ _ ⟨nt, s15, rfl, K14, k1, G14, ht1⟩; clear F5; have F5 := k1; clear k1; replace K14 := hide K14; replace G14 := hide G14; replace F2 := F2.tt ht1; replace F1 := F1.tt ht1; replace b := below_touch b ht1 hgw (Nat.le_refl _); clear ht1) | ((with_reducible show wpList _ _ _ (⟨_, Op.store 23 _ _, _, _, _, _⟩ :: _) _ _); refine wpl_set_onum rfl _ _ rfl rfl rfl (by omega) F2 ?_; intro _ t1 ht1; clear F2; replace F5 := F5.tt ht1; replace F1 := F1.tt ht1; replace b := below_touch b ht1 htw (Nat.le_refl _); have F2 := t1; clear t1 ht1) | (go_at_call 61; refine (riHash g _ _ F5).mono ?_; rintro _ _ ⟨nc, s16, rfl, K15, k1, G15, ht1⟩; clear F5; have F5 := k1; clear k1; replace K15 := hide K15; replace G15 := hide G15; replace F2 := F2.tt ht1; replace F1 := F1.tt ht1; replace b := below_touch b ht1 hgw (Nat.le_refl _); clear ht1) | (with_reducible show wpList _ _ _ (⟨_, Op.store 27 _ _, _, _, _, _⟩ :: _) _ _; refine wpl_set_ononce rfl _ _ rfl rfl rfl K15.out F2 ?_; intro _ t1 ht1; clear F2; replace F5 := F5.tt ht1; replace F1 := F1.tt ht1; replace b := below_touch b ht1 htw (Nat.le_refl _); have F2 := t1; clear t1 ht1) | (go_at_call 62; refine (riCount g 32 _ _ F5).mono ?_; rintro _ _ ⟨n, st1, rfl, hn, k1, GC, ht1⟩; clear F5; have F5 := k1; clear k1; replace GC := hide GC; replace F2 := F2.tt ht1; replace F1 := F1.tt ht1; have R := otk_begin F2 [g, gt, g0]; replace b := below_touch b ht1 hgw (Nat.le_refl _); clear ht1))
  rw [ns_last HPS.out] at F2
  obtain ⟨NS, hNS⟩ : ∃ N, N = m0 :: m1 :: m2 :: m3 :: m4 :: (ps ++ [nr, nt]) := ⟨_, rfl⟩
  rw [← hNS] at F2
  have HNS := hide hNS
  clear hNS
  obtain ⟨P1, hP1⟩ : ∃ P : World → Prop, P = (fun _ => True) := ⟨_, rfl⟩
  rw [← hP1] at R
  have HP1 := hide hP1
  clear hP1
  have z1 := F2.lt
  obtain ⟨m, B, hmB, hgB, htB, h0B, hwB, hBc, R⟩ := tk_base R z1 hgg h0g (Nat.le_trans hgw (Nat.le_of_lt (Nat.lt_trans hgg z1)))
  clear z1
  go_cut [7] (fun s7 wx => ∃ (l : List OutT) (st2 : Option (List UInt8)) (v : Value), Hid (∀ x ∈ l, x.Ok) ∧ Hid (l.length ≤ 32) ∧ OwnR wx B 48 65 v (l.map outCs) [] ∧ Hid (Got (listP 32 outP) s16 l st2) ∧ RdI wx g st2 ∧ OAt wx gt NS nc v nilS nilS ∧ StabX P1 m [g, gt, g0] wx ∧ OAt wx g0 ns0 zero32 nilS nilS nilS ∧ Below w.heap.size w wx)
  case first =>
    go_wp2_with fail
    go_loopw [7] (fun cv wr => ∃ (k c : Nat) (l : List OutT) (sk : Option (List UInt8)) (v : Value), cv = .int .u64 c ∧ c + k = n ∧ Hid (l.length = k) ∧ Hid (∀ x ∈ l, x.Ok) ∧ OwnR wr B 48 65 v (l.map outCs) [] ∧ Hid (Got (manyP outP k) st1 l sk) ∧ RdI wr g sk ∧ OAt wr gt NS nc v nilS nilS ∧ StabX P1 m [g, gt, g0] wr ∧ OAt wr g0 ns0 zero32 nilS nilS nilS ∧ Below w.heap.size w wr ∧ B ≤ wr.heap.size) (fun cv _ => (RowKit.intOf cv).toNat)
    case atStart => exact ⟨0, n, [], st1, nilS, rfl, rfl, hide rfl, hide (by simp), OwnR.nil _ _ _ _, hide (got_none _ _), F5, F2, R, F1, b, hBc⟩
    case round =>
      clear F5 F2 R F1 b hBc
      obtain ⟨k, c, l, sk, v, rfl, hck, HLL, HOK, O1, HK, F5, F2, R, F1, b, qB⟩ := hrel
      have HLM : Hid (l.length ≤ 32) := by rw [HLL.out]; exact hide (by omega)
      cases sk with
      | none =>
        have HG : Hid (Got (listP 32 outP) s16 l none) := by
          have h1 := Got.stop (k := c) HK.out l
          rw [show k + c = n by omega] at h1
          exact hide (got_counted GC.out h1)
        have cI := F5.flag0
        by_cases h0 : 0 < c
        · have c0 := decide_eq_true (show (0 : Int) < (c : Int) by omega)
          go_wp2_with (with_reducible show wpList _ _ _ (⟨_, Op.load _ _, _, _, _, _⟩ :: _) _ _; refine wpl_load_one rfl 4 _ rfl rfl cI (by kernel_rfl) ?_)
          go_meet
          case rel => exact ⟨l, none, v, HOK, HLM, O1, HG, F5, F2, R, F1, b⟩
        · have c0 := decide_eq_false (show ¬ (0 : Int) < (c : Int) by omega)
          go_wp2_with (with_reducible show wpList _ _ _ (⟨_, Op.load _ _, _, _, _, _⟩ :: _) _ _; refine wpl_load_one rfl 4 _ rfl rfl cI (by kernel_rfl) ?_)
          go_meet
          case rel => exact ⟨l, none, v, HOK, HLM, O1, HG, F5, F2, R, F1, b⟩
      | some r =>
        have cI := F5.flag1
        by_cases h0 : 0 < c
        · have c0 := decide_eq_true (show (0 : Int) < (c : Int) by omega)
          have kw : IntKind.u64.wrap ((c : Int) - 1) = ((c - 1 : Nat) : Int) := by rw [IntKind.wrap_u64]; omega
          obtain ⟨c', hc'⟩ : ∃ c', c' = c - 1 := ⟨_, rfl⟩
          rw [← hc'] at kw
          have hc2 : c' + (k + 1) = n := by omega
          clear hc'
          have mA1 := True.intro
          have mA2 := True.intro
          have mA3 := True.intro
          go_wp2_with (first | (with_reducible show wpList _ _ _ (⟨_, Op.load _ _, _, _, _, _⟩ :: _) _ _; refine wpl_load_one rfl 4 _ rfl rfl cI (by kernel_rfl) ?_) | ((with_reducible show wpList _ _ _ (⟨_, Op.build 48 _, _, _, _, _⟩ :: _) _ _); refine wpl_built0 rfl 48 rfl (cs := outCs out0) outZ0 ?_) | (with_reducible show wpList _ _ _ (⟨_, Op.alloc _, _, _, _, _⟩ :: _) _ _; have q5 := F5.lt; have q2 := F2.lt; have qR := R.lt; have qb := b.size; refine wpl_mk_out rfl rfl ?_; intro _ gx hgx FX hb; replace O1 := O1.more O1.lt hgx; replace F5 := F5.later hb; replace F2 := F2.later hb; replace O1 := O1.later hb; replace R := R.later hb; replace F1 := F1.later hb; replace qB := Nat.le_trans qB hb.size; replace b := later b hb; clear hb) | ((with_reducible show wpList _ _ _ (⟨_, Op.store 48 _ _, _, _, _, _⟩ :: _) _ _); refine wpl_set_out rfl _ _ rfl rfl rfl out0_ok FX ?_; intro _ t1 ht1; clear FX; (try replace F5 := F5.tt ht1); (try replace F2 := F2.tt ht1); (try replace F1 := F1.tt ht1); (try replace FX := FX.tt ht1); (first | replace O1 := O1.tg ht1 hgB | replace O1 := O1.tt ht1 | skip); (try replace R := R.tt ht1); (try replace qB := Nat.le_trans qB ht1.size); replace b := below_touch b ht1 (by omega) (Nat.le_refl _); have FX := t1; clear t1 ht1) | (go_at_call 61; clear mA1; refine (riHash g _ _ F5).mono ?_; rintro _ _ ⟨l1, s1, rfl, L1, k1, G1, ht1⟩; clear F5; have F5 := k1; clear k1; replace L1 := hide L1; replace G1 := hide G1; (try replace F5 := F5.tt ht1); (try replace F2 := F2.tt ht1); (try replace F1 := F1.tt ht1); (try replace FX := FX.tt ht1); (first | replace O1 := O1.tg ht1 hgB | replace O1 := O1.tt ht1 | skip); (try replace R := R.tt ht1); (try replace qB := Nat.le_trans qB ht1.size); replace b := below_touch b ht1 (by omega) (Nat.le_refl _); clear ht1) | (go_at_call 61; clear mA2; refine (riHash g _ _ F5).mono ?_; rintro _ _ ⟨l2, s2, rfl, L2, k1, G2, ht1⟩; clear F5; have F5 := k1; clear k1; replace L2 := hide L2; replace G2 := hide G2; (try replace F5 := F5.tt ht1); (try replace F2 := F2.tt ht1); (try replace F1 := F1.tt ht1); (try replace FX := FX.tt ht1); (first | replace O1 := O1.tg ht1 hgB | replace O1 := O1.tt ht1 | skip); (try replace R := R.tt ht1); (try replace qB := Nat.le_trans qB ht1.size); replace b := below_touch b ht1 (by omega) (Nat.le_refl _); clear ht1) | (go_at_call 60; clear mA3; refine (riNumber g _ _ F5).mono ?_; rintro _ _ ⟨l3, s3, rfl, L3, k1, G3, ht1⟩; clear F5; have F5 := k1; clear k1; replace L3 := hide L3; replace G3 := hide G3; (try replace F5 := F5.tt ht1); (try replace F2 := F2.tt ht1); (try replace F1 := F1.tt ht1); (try replace FX := FX.tt ht1); (first | replace O1 := O1.tg ht1 hgB | replace O1 := O1.tt ht1 | skip); (try replace R := R.tt ht1); (try replace qB := Nat.le_trans qB ht1.size); replace b := below_touch b ht1 (by omega) (Nat.le_refl _); clear ht1) | ((with_reducible show wpList _ _ _ (⟨_, Op.store 27 _ _, _, _, _, _⟩ :: _) _ _); refine wpl_set_out_dst rfl _ _ rfl rfl rfl L1.out FX ?_; intro _ t1 ht1; clear FX; (try replace F5 := F5.tt ht1); (try replace F2 := F2.tt ht1); (try replace F1 := F1.tt ht1); (try replace FX := FX.tt ht1); (first | replace O1 := O1.tg ht1 hgB | replace O1 := O1.tt ht1 | skip); (try replace R := R.tt ht1); (try replace qB := Nat.le_trans qB ht1.size); replace b := below_touch b ht1 (by omega) (Nat.le_refl _); have FX := t1; clear t1 ht1) | ((with_reducible show wpList _ _ _ (⟨_, Op.store 27 _ _, _, _, _, _⟩ :: _) _ _); refine wpl_set_out_stake rfl _ _ rfl rfl rfl L2.out FX ?_; intro _ t1 ht1; clear FX; (try replace F5 := F5.tt ht1); (try replace F2 := F2.tt ht1); (try replace F1 := F1.tt ht1); (try replace FX := FX.tt ht1); (first | replace O1 := O1.tg ht1 hgB | replace O1 := O1.tt ht1 | skip); (try replace R := R.tt ht1); (try replace qB := Nat.le_trans qB ht1.size); replace b := below_touch b ht1 (by omega) (Nat.le_refl _); have FX := t1; clear t1 ht1) | ((with_reducible show wpList _ _ _ (⟨_, Op.store 23 _ _, _, _, _, _⟩ :: _) _ _); refine wpl_set_out_amount rfl _ _ rfl rfl rfl L3.out FX ?_; intro _ t1 ht1; clear FX; (try replace F5 := F5.tt ht1); (try replace F2 := F2.tt ht1); (try replace F1 := F1.tt ht1); (try replace FX := FX.tt ht1); (first | replace O1 := O1.tg ht1 hgB | replace O1 := O1.tt ht1 | skip); (try replace R := R.tt ht1); (try replace qB := Nat.le_trans qB ht1.size); replace b := below_touch b ht1 (by omega) (Nat.le_refl _); have FX := t1; clear t1 ht1) | (with_reducible show wpList _ _ _ (⟨_, Op.load _ _, _, _, _, _⟩ :: _) _ _; refine wpl_load_one rfl 28 _ rfl rfl (OAt.s1 F2) (by kernel_rfl) ?_) | (with_reducible show wpList _ _ _ (⟨_, Op.load 48 _, _, _, _, _⟩ :: _) _ _; refine wpl_ld_out rfl _ rfl rfl FX.cells FX.ok ?_) | ((with_reducible show wpList _ _ _ (⟨_, Op.buildSlice _ _ _, _, _, _, _⟩ :: _) _ _); refine wpl_row1 rfl outElem (by decide) _ rfl (v := outV ⟨l1, l2, l3⟩) (el := outCs ⟨l1, l2, l3⟩) rfl (by simp [outV, Value.cells]) (outCs_length (show OutT.Ok ⟨l1, l2, l3⟩ from ⟨L1.out, L2.out, L3.out⟩)) (outCs_one _) ?_; intro _ g9 h9 O9 hb; clear FX; replace F5 := F5.later hb; replace F2 := F2.later hb; replace O1 := O1.later hb; replace R := R.later hb; replace F1 := F1.later hb; replace qB := Nat.le_trans qB hb.size; replace b := later b hb; clear hb) | ((with_reducible show wpList _ _ _ (⟨_, Op.call _, _, _, _, _⟩ :: _) _ _); refine wpl_append_row rfl _ _ outElem rfl rfl O1 rfl O9.sl O9.2.1 (k + 1) (by rw [List.length_map, HLL.out]; rfl) (by omega) (by omega) qB ?_; intro a2 c2 w2 O2 ht2 _; replace F5 := F5.touch ht2 (O1.off hgB); replace F2 := F2.touch ht2 (O1.off htB); replace R := R.touch ht2 (fun x hx => .inl (Nat.le_trans hmB (O1.ge x hx))); replace F1 := F1.touch ht2 (O1.off h0B); replace b := b.trans (ht2.below (B := w.heap.size) b.size (fun x hx => Nat.le_trans hwB (O1.ge x hx))); replace qB := Nat.le_trans qB ht2.size; clear O1 O9 ht2) | ((with_reducible show wpList _ _ _ (⟨_, Op.store 28 _ _, _, _, _, _⟩ :: _) _ _); refine wpl_set_ocoins (v := .slice a2 (k + 1) c2) rfl _ _ rfl rfl rfl rfl rfl F2 ?_; intro _ t1 ht1; clear F2; replace F5 := F5.tt ht1; replace O2 := O2.tg ht1 htB; replace R := R.tt ht1; replace F1 := F1.tt ht1; replace b := below_touch b ht1 htw (Nat.le_refl _); replace qB := Nat.le_trans qB ht1.size; have F2 := t1; clear t1 ht1))
          first
            | (go_roundw
               case rel => exact ⟨k + 1, c', l ++ [⟨l1, l2, l3⟩], s3, .slice a2 (k + 1) c2, by first | rfl | simp, hc2, hide (by rw [List.length_append, HLL.out]; rfl), hide (ok_snoc HOK.out (show OutT.Ok ⟨l1, l2, l3⟩ from ⟨L1.out, L2.out, L3.out⟩)), by rw [List.map_append]; exact O2, hide (HK.out.snoc (show Got outP (some r) ⟨l1, l2, l3⟩ s3 from G1.out.bind (G2.out.bind (G3.out.last (f := fun n => (⟨l1, l2, n⟩ : OutT)))))), F5, F2, R, F1, b, qB⟩)
            | (refine ⟨?_, ?measure⟩; (repeat apply Exists.intro); refine ⟨?rel, rfl⟩
               case rel => exact ⟨k + 1, c', l ++ [⟨l1, l2, l3⟩], s3, .slice a2 (k + 1) c2, by first | rfl | simp, hc2, hide (by rw [List.length_append, HLL.out]; rfl), hide (ok_snoc HOK.out (show OutT.Ok ⟨l1, l2, l3⟩ from ⟨L1.out, L2.out, L3.out⟩)), by rw [List.map_append]; exact O2, hide (HK.out.snoc (show Got outP (some r) ⟨l1, l2, l3⟩ s3 from G1.out.bind (G2.out.bind (G3.out.last (f := fun n => (⟨l1, l2, n⟩ : OutT)))))), F5, F2, R, F1, b, qB⟩)
          case measure => simp [RowKit.intOf]; omega
        · have c0 := decide_eq_false (show ¬ (0 : Int) < (c : Int) by omega)
          have HG : Hid (Got (listP 32 outP) s16 l (some r)) := by
            have h1 := HK.out
            rw [show k = n by omega] at h1
            exact hide (got_counted GC.out h1)
          go_wp2_with (with_reducible show wpList _ _ _ (⟨_, Op.load _ _, _, _, _, _⟩ :: _) _ _; refine wpl_load_one rfl 4 _ rfl rfl cI (by kernel_rfl) ?_)
          go_meet
          case rel => exact ⟨l, some r, v, HOK, HLM, O1, HG, F5, F2, R, F1, b⟩
  case rest =>
    clear F5 F2 R F1 b GC hn hBc
    obtain ⟨e1, t1, v1, HO1, HZ1, O1, HG1, F5, F2, R, F1, b⟩ := hcut
    replace R := stab_more R (((O1.low h0B).low htB).low hgB).st
    clear O1 hmB hgB htB h0B hwB
    go_upto_block 4 with (go_at_call 62; refine (riCount g 16 _ _ F5).mono ?_; rintro _ _ ⟨n, st1, rfl, hn, k1, GC, ht1⟩; clear F5; have F5 := k1; clear k1; replace GC := hide GC; replace F2 := F2.tt ht1; replace F1 := F1.tt ht1; replace R := R.tt ht1; replace b := below_touch b ht1 hgw (Nat.le_refl _); clear ht1)
    obtain ⟨P2, hP2⟩ : ∃ P : World → Prop, P = (fun x => P1 x ∧ Sl x v1 65 (e1.map outCs)) := ⟨_, rfl⟩
    rw [← hP2] at R
    have HP2 := hide hP2
    clear hP2
    have z1 := F2.lt
    obtain ⟨m, B, hmB, hgB, htB, h0B, hwB, hBc, R⟩ := tk_base R z1 hgg h0g (Nat.le_trans hgw (Nat.le_of_lt (Nat.lt_trans hgg z1)))
    clear z1
    go_cut [9] (fun s9 wx => ∃ (l : List SeatT) (st2 : Option (List UInt8)) (v : Value), Hid (∀ x ∈ l, x.Ok) ∧ Hid (l.length ≤ 16) ∧ OwnR wx B 93 67 v (l.map seatCs) [] ∧ Hid (Got (listP 16 seatP) t1 l st2) ∧ RdI wx g st2 ∧ OAt wx gt NS nc v1 v nilS ∧ StabX P2 m [g, gt, g0] wx ∧ OAt wx g0 ns0 zero32 nilS nilS nilS ∧ Below w.heap.size w wx)
    case first =>
      go_wp2_with fail
      go_loopw [9] (fun cv wr => ∃ (k c : Nat) (l : List SeatT) (sk : Option (List UInt8)) (v : Value), cv = .int .u64 c ∧ c + k = n ∧ Hid (l.length = k) ∧ Hid (∀ x ∈ l, x.Ok) ∧ OwnR wr B 93 67 v (l.map seatCs) [] ∧ Hid (Got (manyP seatP k) st1 l sk) ∧ RdI wr g sk ∧ OAt wr gt NS nc v1 v nilS ∧ StabX P2 m [g, gt, g0] wr ∧ OAt wr g0 ns0 zero32 nilS nilS nilS ∧ Below w.heap.size w wr ∧ B ≤ wr.heap.size) (fun cv _ => (RowKit.intOf cv).toNat)
      case atStart => exact ⟨0, n, [], st1, nilS, rfl, rfl, hide rfl, hide (by simp), OwnR.nil _ _ _ _, hide (got_none _ _), F5, F2, R, F1, b, hBc⟩
      case round =>
        clear F5 F2 R F1 b hBc
        obtain ⟨k, c, l, sk, v, rfl, hck, HLL, HOK, O1, HK, F5, F2, R, F1, b, qB⟩ := hrel
        have HLM : Hid (l.length ≤ 16) := by rw [HLL.out]; exact hide (by omega)
        cases sk with
        | none =>
          have HG : Hid (Got (listP 16 seatP) t1 l none) := by
            have h1 := Got.stop (k := c) HK.out l
            rw [show k + c = n by omega] at h1
            exact hide (got_counted GC.out h1)
          have cI := F5.flag0
          by_cases h0 : 0 < c
          · have c0 := decide_eq_true (show (0 : Int) < (c : Int) by omega)
            go_wp2_with (with_reducible show wpList _ _ _ (⟨_, Op.load _ _, _, _, _, _⟩ :: _) _ _; refine wpl_load_one rfl 4 _ rfl rfl cI (by kernel_rfl) ?_)
            go_meet
            case rel => exact ⟨l, none, v, HOK, HLM, O1, HG, F5, F2, R, F1, b⟩
          · have c0 := decide_eq_false (show ¬ (0 : Int) < (c : Int) by omega)
            go_wp2_with (with_reducible show wpList _ _ _ (⟨_, Op.load _ _, _, _, _, _⟩ :: _) _ _; refine wpl_load_one rfl 4 _ rfl rfl cI (by kernel_rfl) ?_)
            go_meet
            case rel => exact ⟨l, none, v, HOK, HLM, O1, HG, F5, F2, R, F1, b⟩
        | some r =>
          have cI := F5.flag1
          by_cases h0 : 0 < c
          · have c0 := decide_eq_true (show (0 : Int) < (c : Int) by omega)
            have kw : IntKind.u64.wrap ((c : Int) - 1) = ((c - 1 : Nat) : Int) := by rw [IntKind.wrap_u64]; omega
            obtain ⟨c', hc'⟩ : ∃ c', c' = c - 1 := ⟨_, rfl⟩
            rw [← hc'] at kw
            have hc2 : c' + (k + 1) = n := by omega
            clear hc'
            have mA1 := True.intro
            have mA2 := True.intro
            have mA3 := True.intro
            have mA4 := True.intro
            have mA5 := True.intro
            go_wp2_with (first | (with_reducible show wpList _ _ _ (⟨_, Op.load _ _, _, _, _, _⟩ :: _) _ _; refine wpl_load_one rfl 4 _ rfl rfl cI (by kernel_rfl) ?_) | ((with_reducible show wpList _ _ _ (⟨_, Op.build 93 _, _, _, _, _⟩ :: _) _ _); refine wpl_built0 rfl 93 rfl (cs := seatCs seat0) seatZ0 ?_) | (with_reducible show wpList _ _ _ (⟨_, Op.alloc _, _, _, _, _⟩ :: _) _ _; have q5 := F5.lt; have q2 := F2.lt; have qR := R.lt; have qb := b.size; refine wpl_mk_seat rfl rfl ?_; intro _ gx hgx FX hb; replace O1 := O1.more O1.lt hgx; replace F5 := F5.later hb; replace F2 := F2.later hb; replace O1 := O1.later hb; replace R := R.later hb; replace F1 := F1.later hb; replace qB := Nat.le_trans qB hb.size; replace b := later b hb; clear hb) | ((with_reducible show wpList _ _ _ (⟨_, Op.store 93 _ _, _, _, _, _⟩ :: _) _ _); refine wpl_set_seat rfl _ _ rfl rfl rfl seat0_ok FX ?_; intro _ t1 ht1; clear FX; (try replace F5 := F5.tt ht1); (try replace F2 := F2.tt ht1); (try replace F1 := F1.tt ht1); (try replace FX := FX.tt ht1); (first | replace O1 := O1.tg ht1 hgB | replace O1 := O1.tt ht1 | skip); (try replace R := R.tt ht1); (try replace qB := Nat.le_trans qB ht1.size); replace b := below_touch b ht1 (by omega) (Nat.le_refl _); have FX := t1; clear t1 ht1) | (go_at_call 61; clear mA1; refine (riHash g _ _ F5).mono ?_; rintro _ _ ⟨l1, s1, rfl, L1, k1, G1, ht1⟩; clear F5; have F5 := k1; clear k1; replace L1 := hide L1; replace G1 := hide G1; (try replace F5 := F5.tt ht1); (try replace F2 := F2.tt ht1); (try replace F1 := F1.tt ht1); (try replace FX := FX.tt ht1); (first | replace O1 := O1.tg ht1 hgB | replace O1 := O1.tt ht1 | skip); (try replace R := R.tt ht1); (try replace qB := Nat.le_trans qB ht1.size); replace b := below_touch b ht1 (by omega) (Nat.le_refl _); clear ht1) | (go_at_call 61; clear mA2; refine (riHash g _ _ F5).mono ?_; rintro _ _ ⟨l2, s2, rfl, L2, k1, G2, ht1⟩; clear F5; have F5 := k1; clear k1; replace L2 := hide L2; replace G2 := hide G2; (try replace F5 := F5.tt ht1); (try replace F2 := F2.tt ht1); (try replace F1 := F1.tt ht1); (try replace FX := FX.tt ht1); (first | replace O1 := O1.tg ht1 hgB | replace O1 := O1.tt ht1 | skip); (try replace R := R.tt ht1); (try replace qB := Nat.le_trans qB ht1.size); replace b := below_touch b ht1 (by omega) (Nat.le_refl _); clear ht1) | (go_at_call 60; clear mA3; refine (riNumber g _ _ F5).mono ?_; rintro _ _ ⟨l3, s3, rfl, L3, k1, G3, ht1⟩; clear F5; have F5 := k1; clear k1; replace L3 := hide L3; replace G3 := hide G3; (try replace F5 := F5.tt ht1); (try replace F2 := F2.tt ht1); (try replace F1 := F1.tt ht1); (try replace FX := FX.tt ht1); (first | replace O1 := O1.tg ht1 hgB | replace O1 := O1.tt ht1 | skip); (try replace R := R.tt ht1); (try replace qB := Nat.le_trans qB ht1.size); replace b := below_touch b ht1 (by omega) (Nat.le_refl _); clear ht1) | (go_at_call 60; clear mA4; refine (riNumber g _ _ F5).mono ?_; rintro _ _ ⟨l4, s4, rfl, L4, k1, G4, ht1⟩; clear F5; have F5 := k1; clear k1; replace L4 := hide L4; replace G4 := hide G4; (try replace F5 := F5.tt ht1); (try replace F2 := F2.tt ht1); (try replace F1 := F1.tt ht1); (try replace FX := FX.tt ht1); (first | replace O1 := O1.tg ht1 hgB | replace O1 := O1.tt ht1 | skip); (try replace R := R.tt ht1); (try replace qB := Nat.le_trans qB ht1.size); replace b := below_touch b ht1 (by omega) (Nat.le_refl _); clear ht1) | (go_at_call 60; clear mA5; refine (riNumber g _ _ F5).mono ?_; rintro _ _ ⟨l5, s5, rfl, L5, k1, G5, ht1⟩; clear F5; have F5 := k1; clear k1; replace L5 := hide L5; replace G5 := hide G5; (try replace F5 := F5.tt ht1); (try replace F2 := F2.tt ht1); (try replace F1 := F1.tt ht1); (try replace FX := FX.tt ht1); (first | replace O1 := O1.tg ht1 hgB | replace O1 := O1.tt ht1 | skip); (try replace R := R.tt ht1); (try replace qB := Nat.le_trans qB ht1.size); replace b := below_touch b ht1 (by omega) (Nat.le_refl _); clear ht1) | ((with_reducible show wpList _ _ _ (⟨_, Op.store 27 _ _, _, _, _, _⟩ :: _) _ _); refine wpl_set_seat_pool rfl _ _ rfl rfl rfl L1.out FX ?_; intro _ t1 ht1; clear FX; (try replace F5 := F5.tt ht1); (try replace F2 := F2.tt ht1); (try replace F1 := F1.tt ht1); (try replace FX := FX.tt ht1); (first | replace O1 := O1.tg ht1 hgB | replace O1 := O1.tt ht1 | skip); (try replace R := R.tt ht1); (try replace qB := Nat.le_trans qB ht1.size); replace b := below_touch b ht1 (by omega) (Nat.le_refl _); have FX := t1; clear t1 ht1) | ((with_reducible show wpList _ _ _ (⟨_, Op.store 27 _ _, _, _, _, _⟩ :: _) _ _); refine wpl_set_seat_key rfl _ _ rfl rfl rfl L2.out FX ?_; intro _ t1 ht1; clear FX; (try replace F5 := F5.tt ht1); (try replace F2 := F2.tt ht1); (try replace F1 := F1.tt ht1); (try replace FX := FX.tt ht1); (first | replace O1 := O1.tg ht1 hgB | replace O1 := O1.tt ht1 | skip); (try replace R := R.tt ht1); (try replace qB := Nat.le_trans qB ht1.size); replace b := below_touch b ht1 (by omega) (Nat.le_refl _); have FX := t1; clear t1 ht1) | ((with_reducible show wpList _ _ _ (⟨_, Op.store 23 _ _, _, _, _, _⟩ :: _) _ _); refine wpl_set_seat_pledge rfl _ _ rfl rfl rfl L3.out FX ?_; intro _ t1 ht1; clear FX; (try replace F5 := F5.tt ht1); (try replace F2 := F2.tt ht1); (try replace F1 := F1.tt ht1); (try replace FX := FX.tt ht1); (first | replace O1 := O1.tg ht1 hgB | replace O1 := O1.tt ht1 | skip); (try replace R := R.tt ht1); (try replace qB := Nat.le_trans qB ht1.size); replace b := below_touch b ht1 (by omega) (Nat.le_refl _); have FX := t1; clear t1 ht1) | ((with_reducible show wpList _ _ _ (⟨_, Op.store 23 _ _, _, _, _, _⟩ :: _) _ _); refine wpl_set_seat_cost rfl _ _ rfl rfl rfl L4.out FX ?_; intro _ t1 ht1; clear FX; (try replace F5 := F5.tt ht1); (try replace F2 := F2.tt ht1); (try replace F1 := F1.tt ht1); (try replace FX := FX.tt ht1); (first | replace O1 := O1.tg ht1 hgB | replace O1 := O1.tt ht1 | skip); (try replace R := R.tt ht1); (try replace qB := Nat.le_trans qB ht1.size); replace b := below_touch b ht1 (by omega) (Nat.le_refl _); have FX := t1; clear t1 ht1) | ((with_reducible show wpList _ _ _ (⟨_, Op.store 23 _ _, _, _, _, _⟩ :: _) _ _); refine wpl_set_seat_margin rfl _ _ rfl rfl rfl L5.out FX ?_; intro _ t1 ht1; clear FX; (try replace F5 := F5.tt ht1); (try replace F2 := F2.tt ht1); (try replace F1 := F1.tt ht1); (try replace FX := FX.tt ht1); (first | replace O1 := O1.tg ht1 hgB | replace O1 := O1.tt ht1 | skip); (try replace R := R.tt ht1); (try replace qB := Nat.le_trans qB ht1.size); replace b := below_touch b ht1 (by omega) (Nat.le_refl _); have FX := t1; clear t1 ht1) | (with_reducible show wpList _ _ _ (⟨_, Op.load _ _, _, _, _, _⟩ :: _) _ _; refine wpl_load_one rfl 29 _ rfl rfl (OAt.s2 F2) (by kernel_rfl) ?_) | (with_reducible show wpList _ _ _ (⟨_, Op.load 93 _, _, _, _, _⟩ :: _) _ _; refine wpl_ld_seat rfl _ rfl rfl FX.cells FX.ok ?_) | ((with_reducible show wpList _ _ _ (⟨_, Op.buildSlice _ _ _, _, _, _, _⟩ :: _) _ _); refine wpl_row1 rfl seatElem (by decide) _ rfl (v := seatV ⟨l1, l2, l3, l4, l5⟩) (el := seatCs ⟨l1, l2, l3, l4, l5⟩) rfl (by simp [seatV, Value.cells]) (seatCs_length (show SeatT.Ok ⟨l1, l2, l3, l4, l5⟩ from ⟨L1.out, L2.out, L3.out, L4.out, L5.out⟩)) (seatCs_one _) ?_; intro _ g9 h9 O9 hb; clear FX; replace F5 := F5.later hb; replace F2 := F2.later hb; replace O1 := O1.later hb; replace R := R.later hb; replace F1 := F1.later hb; replace qB := Nat.le_trans qB hb.size; replace b := later b hb; clear hb) | ((with_reducible show wpList _ _ _ (⟨_, Op.call _, _, _, _, _⟩ :: _) _ _); refine wpl_append_row rfl _ _ seatElem rfl rfl O1 rfl O9.sl O9.2.1 (k + 1) (by rw [List.length_map, HLL.out]; rfl) (by omega) (by omega) qB ?_; intro a2 c2 w2 O2 ht2 _; replace F5 := F5.touch ht2 (O1.off hgB); replace F2 := F2.touch ht2 (O1.off htB); replace R := R.touch ht2 (fun x hx => .inl (Nat.le_trans hmB (O1.ge x hx))); replace F1 := F1.touch ht2 (O1.off h0B); replace b := b.trans (ht2.below (B := w.heap.size) b.size (fun x hx => Nat.le_trans hwB (O1.ge x hx))); replace qB := Nat.le_trans qB ht2.size; clear O1 O9 ht2) | ((with_reducible show wpList _ _ _ (⟨_, Op.store 29 _ _, _, _, _, _⟩ :: _) _ _); refine wpl_set_oseats (v := .slice a2 (k + 1) c2) rfl _ _ rfl rfl rfl rfl rfl F2 ?_; intro _ t1 ht1; clear F2; replace F5 := F5.tt ht1; replace O2 := O2.tg ht1 htB; replace R := R.tt ht1; replace F1 := F1.tt ht1; replace b := below_touch b ht1 htw (Nat.le_refl _); replace qB := Nat.le_trans qB ht1.size; have F2 := t1; clear t1 ht1))
            first
              | (go_roundw
                 case rel => exact ⟨k + 1, c', l ++ [⟨l1, l2, l3, l4, l5⟩], s5, .slice a2 (k + 1) c2, by first | rfl | simp, hc2, hide (by rw [List.length_append, HLL.out]; rfl), hide (ok_snoc HOK.out (show SeatT.Ok ⟨l1, l2, l3, l4, l5⟩ from ⟨L1.out, L2.out, L3.out, L4.out, L5.out⟩)), by rw [List.map_append]; exact O2, hide (HK.out.snoc (show Got seatP (some r) ⟨l1, l2, l3, l4, l5⟩ s5 from G1.out.bind (G2.out.bind (G3.out.bind (G4.out.bind (G5.out.last (f := fun n => (⟨l1, l2, l3, l4, n⟩ : SeatT)))))))), F5, F2, R, F1, b, qB⟩)
              | (refine ⟨?_, ?measure⟩; (repeat apply Exists.intro); refine ⟨?rel, rfl⟩
                 case rel => exact ⟨k + 1, c', l ++ [⟨l1, l2, l3, l4, l5⟩], s5, .slice a2 (k + 1) c2, by first | rfl | simp, hc2, hide (by rw [List.length_append, HLL.out]; rfl), hide (ok_snoc HOK.out (show SeatT.Ok ⟨l1, l2, l3, l4, l5⟩ from ⟨L1.out, L2.out, L3.out, L4.out, L5.out⟩)), by rw [List.map_append]; exact O2, hide (HK.out.snoc (show Got seatP (some r) ⟨l1, l2, l3, l4, l5⟩ s5 from G1.out.bind (G2.out.bind (G3.out.bind (G4.out.bind (G5.out.last (f := fun n => (⟨l1, l2, l3, l4, n⟩ : SeatT)))))))), F5, F2, R, F1, b, qB⟩)
            case measure => simp [RowKit.intOf]; omega
          · have c0 := decide_eq_false (show ¬ (0 : Int) < (c : Int) by omega)
            have HG : Hid (Got (listP 16 seatP) t1 l (some r)) := by
              have h1 := HK.out
              rw [show k = n by omega] at h1
              exact hide (got_counted GC.out h1)
            go_wp2_with (with_reducible show wpList _ _ _ (⟨_, Op.load _ _, _, _, _, _⟩ :: _) _ _; refine wpl_load_one rfl 4 _ rfl rfl cI (by kernel_rfl) ?_)
            go_meet
            case rel => exact ⟨l, some r, v, HOK, HLM, O1, HG, F5, F2, R, F1, b⟩
    case rest =>
      clear F5 F2 R F1 b GC hn hBc
      obtain ⟨e2, t2, v2, HO2, HZ2, O1, HG2, F5, F2, R, F1, b⟩ := hcut
      replace R := stab_more R (((O1.low h0B).low htB).low hgB).st
      clear O1 hmB hgB htB h0B hwB
      go_upto_block 6 with (go_at_call 62; refine (riCount g 32 _ _ F5).mono ?_; rintro _ _ ⟨n, st1, rfl, hn, k1, GC, ht1⟩; clear F5; have F5 := k1; clear k1; replace GC := hide GC; replace F2 := F2.tt ht1; replace F1 := F1.tt ht1; replace R := R.tt ht1; replace b := below_touch b ht1 hgw (Nat.le_refl _); clear ht1)
      obtain ⟨P3, hP3⟩ : ∃ P : World → Prop, P = (fun x => P2 x ∧ Sl x v2 67 (e2.map seatCs)) := ⟨_, rfl⟩
      rw [← hP3] at R
      have HP3 := hide hP3
      clear hP3
      have z1 := F2.lt
      obtain ⟨m, B, hmB, hgB, htB, h0B, hwB, hBc, R⟩ := tk_base R z1 hgg h0g (Nat.le_trans hgw (Nat.le_of_lt (Nat.lt_trans hgg z1)))
      clear z1
      go_cut [11] (fun s11 wx => ∃ (l : List TrustT) (st2 : Option (List UInt8)) (v : Value), Hid (∀ x ∈ l, x.Ok) ∧ Hid (l.length ≤ 32) ∧ OwnR wx B 97 64 v (l.map trustCs) [] ∧ Hid (Got (listP 32 trustP) t2 l st2) ∧ RdI wx g st2 ∧ OAt wx gt NS nc v1 v2 v ∧ StabX P3 m [g, gt, g0] wx ∧ OAt wx g0 ns0 zero32 nilS nilS nilS ∧ Below w.heap.size w wx)
      case first =>
        go_wp2_with fail
        go_loopw [11] (fun cv wr => ∃ (k c : Nat) (l : List TrustT) (sk : Option (List UInt8)) (v : Value), cv = .int .u64 c ∧ c + k = n ∧ Hid (l.length = k) ∧ Hid (∀ x ∈ l, x.Ok) ∧ OwnR wr B 97 64 v (l.map trustCs) [] ∧ Hid (Got (manyP trustP k) st1 l sk) ∧ RdI wr g sk ∧ OAt wr gt NS nc v1 v2 v ∧ StabX P3 m [g, gt, g0] wr ∧ OAt wr g0 ns0 zero32 nilS nilS nilS ∧ Below w.heap.size w wr ∧ B ≤ wr.heap.size) (fun cv _ => (RowKit.intOf cv).toNat)
        case atStart => exact ⟨0, n, [], st1, nilS, rfl, rfl, hide rfl, hide (by simp), OwnR.nil _ _ _ _, hide (got_none _ _), F5, F2, R, F1, b, hBc⟩
        case round =>
          clear F5 F2 R F1 b hBc
          obtain ⟨k, c, l, sk, v, rfl, hck, HLL, HOK, O1, HK, F5, F2, R, F1, b, qB⟩ := hrel
          have HLM : Hid (l.length ≤ 32) := by rw [HLL.out]; exact hide (by omega)
          cases sk with
          | none =>
            have HG : Hid (Got (listP 32 trustP) t2 l none) := by
              have h1 := Got.stop (k := c) HK.out l
              rw [show k + c = n by omega] at h1
              exact hide (got_counted GC.out h1)
            have cI := F5.flag0
            by_cases h0 : 0 < c
            · have c0 := decide_eq_true (show (0 : Int) < (c : Int) by omega)
              go_wp2_with (with_reducible show wpList _ _ _ (⟨_, Op.load _ _, _, _, _, _⟩ :: _) _ _; refine wpl_load_one rfl 4 _ rfl rfl cI (by kernel_rfl) ?_)
              go_meet
              case rel => exact ⟨l, none, v, HOK, HLM, O1, HG, F5, F2, R, F1, b⟩
            · have c0 := decide_eq_false (show ¬ (0 : Int) < (c : Int) by omega)
              go_wp2_with (with_reducible show wpList _ _ _ (⟨_, Op.load _ _, _, _, _, _⟩ :: _) _ _; refine wpl_load_one rfl 4 _ rfl rfl cI (by kernel_rfl) ?_)
              go_meet
              case rel => exact ⟨l, none, v, HOK, HLM, O1, HG, F5, F2, R, F1, b⟩
          | some r =>
            have cI := F5.flag1
            by_cases h0 : 0 < c
            · have c0 := decide_eq_true (show (0 : Int) < (c : Int) by omega)
              have kw : IntKind.u64.wrap ((c : Int) - 1) = ((c - 1 : Nat) : Int) := by rw [IntKind.wrap_u64]; omega
              obtain ⟨c', hc'⟩ : ∃ c', c' = c - 1 := ⟨_, rfl⟩
              rw [← hc'] at kw
              have hc2 : c' + (k + 1) = n := by omega
              clear hc'
              have mA1 := True.intro
              have mA2 := True.intro
              go_wp2_with (first | (with_reducible show wpList _ _ _ (⟨_, Op.load _ _, _, _, _, _⟩ :: _) _ _; refine wpl_load_one rfl 4 _ rfl rfl cI (by kernel_rfl) ?_) | ((with_reducible show wpList _ _ _ (⟨_, Op.build 97 _, _, _, _, _⟩ :: _) _ _); refine wpl_built0 rfl 97 rfl (cs := trustCs trust0) trustZ0 ?_) | (with_reducible show wpList _ _ _ (⟨_, Op.alloc _, _, _, _, _⟩ :: _) _ _; have q5 := F5.lt; have q2 := F2.lt; have qR := R.lt; have qb := b.size; refine wpl_mk_trust rfl rfl ?_; intro _ gx hgx FX hb; replace O1 := O1.more O1.lt hgx; replace F5 := F5.later hb; replace F2 := F2.later hb; replace O1 := O1.later hb; replace R := R.later hb; replace F1 := F1.later hb; replace qB := Nat.le_trans qB hb.size; replace b := later b hb; clear hb) | ((with_reducible show wpList _ _ _ (⟨_, Op.store 97 _ _, _, _, _, _⟩ :: _) _ _); refine wpl_set_trust rfl _ _ rfl rfl rfl trust0_ok FX ?_; intro _ t1 ht1; clear FX; (try replace F5 := F5.tt ht1); (try replace F2 := F2.tt ht1); (try replace F1 := F1.tt ht1); (try replace FX := FX.tt ht1); (first | replace O1 := O1.tg ht1 hgB | replace O1 := O1.tt ht1 | skip); (try replace R := R.tt ht1); (try replace qB := Nat.le_trans qB ht1.size); replace b := below_touch b ht1 (by omega) (Nat.le_refl _); have FX := t1; clear t1 ht1) | (go_at_call 61; clear mA1; refine (riHash g _ _ F5).mono ?_; rintro _ _ ⟨l1, s1, rfl, L1, k1, G1, ht1⟩; clear F5; have F5 := k1; clear k1; replace L1 := hide L1; replace G1 := hide G1; (try replace F5 := F5.tt ht1); (try replace F2 := F2.tt ht1); (try replace F1 := F1.tt ht1); (try replace FX := FX.tt ht1); (first | replace O1 := O1.tg ht1 hgB | replace O1 := O1.tt ht1 | skip); (try replace R := R.tt ht1); (try replace qB := Nat.le_trans qB ht1.size); replace b := below_touch b ht1 (by omega) (Nat.le_refl _); clear ht1) | (go_at_call 61; clear mA2; refine (riHash g _ _ F5).mono ?_; rintro _ _ ⟨l2, s2, rfl, L2, k1, G2, ht1⟩; clear F5; have F5 := k1; clear k1; replace L2 := hide L2; replace G2 := hide G2; (try replace F5 := F5.tt ht1); (try replace F2 := F2.tt ht1); (try replace F1 := F1.tt ht1); (try replace FX := FX.tt ht1); (first | replace O1 := O1.tg ht1 hgB | replace O1 := O1.tt ht1 | skip); (try replace R := R.tt ht1); (try replace qB := Nat.le_trans qB ht1.size); replace b := below_touch b ht1 (by omega) (Nat.le_refl _); clear ht1) | ((with_reducible show wpList _ _ _ (⟨_, Op.store 27 _ _, _, _, _, _⟩ :: _) _ _); refine wpl_set_trust_key rfl _ _ rfl rfl rfl L1.out FX ?_; intro _ t1 ht1; clear FX; (try replace F5 := F5.tt ht1); (try replace F2 := F2.tt ht1); (try replace F1 := F1.tt ht1); (try replace FX := FX.tt ht1); (first | replace O1 := O1.tg ht1 hgB | replace O1 := O1.tt ht1 | skip); (try replace R := R.tt ht1); (try replace qB := Nat.le_trans qB ht1.size); replace b := below_touch b ht1 (by omega) (Nat.le_refl _); have FX := t1; clear t1 ht1) | ((with_reducible show wpList _ _ _ (⟨_, Op.store 27 _ _, _, _, _, _⟩ :: _) _ _); refine wpl_set_trust_pool rfl _ _ rfl rfl rfl L2.out FX ?_; intro _ t1 ht1; clear FX; (try replace F5 := F5.tt ht1); (try replace F2 := F2.tt ht1); (try replace F1 := F1.tt ht1); (try replace FX := FX.tt ht1); (first | replace O1 := O1.tg ht1 hgB | replace O1 := O1.tt ht1 | skip); (try replace R := R.tt ht1); (try replace qB := Nat.le_trans qB ht1.size); replace b := below_touch b ht1 (by omega) (Nat.le_refl _); have FX := t1; clear t1 ht1) | (with_reducible show wpList _ _ _ (⟨_, Op.load _ _, _, _, _, _⟩ :: _) _ _; refine wpl_load_one rfl 30 _ rfl rfl (OAt.s3 F2) (by kernel_rfl) ?_) | (with_reducible show wpList _ _ _ (⟨_, Op.load 97 _, _, _, _, _⟩ :: _) _ _; refine wpl_ld_trust rfl _ rfl rfl FX.cells FX.ok ?_) | ((with_reducible show wpList _ _ _ (⟨_, Op.buildSlice _ _ _, _, _, _, _⟩ :: _) _ _); refine wpl_row1 rfl trustElem (by decide) _ rfl (v := trustV ⟨l1, l2⟩) (el := trustCs ⟨l1, l2⟩) rfl (by simp [trustV, Value.cells]) (trustCs_length (show TrustT.Ok ⟨l1, l2⟩ from ⟨L1.out, L2.out⟩)) (trustCs_one _) ?_; intro _ g9 h9 O9 hb; clear FX; replace F5 := F5.later hb; replace F2 := F2.later hb; replace O1 := O1.later hb; replace R := R.later hb; replace F1 := F1.later hb; replace qB := Nat.le_trans qB hb.size; replace b := later b hb; clear hb) | ((with_reducible show wpList _ _ _ (⟨_, Op.call _, _, _, _, _⟩ :: _) _ _); refine wpl_append_row rfl _ _ trustElem rfl rfl O1 rfl O9.sl O9.2.1 (k + 1) (by rw [List.length_map, HLL.out]; rfl) (by omega) (by omega) qB ?_; intro a2 c2 w2 O2 ht2 _; replace F5 := F5.touch ht2 (O1.off hgB); replace F2 := F2.touch ht2 (O1.off htB); replace R := R.touch ht2 (fun x hx => .inl (Nat.le_trans hmB (O1.ge x hx))); replace F1 := F1.touch ht2 (O1.off h0B); replace b := b.trans (ht2.below (B := w.heap.size) b.size (fun x hx => Nat.le_trans hwB (O1.ge x hx))); replace qB := Nat.le_trans qB ht2.size; clear O1 O9 ht2) | ((with_reducible show wpList _ _ _ (⟨_, Op.store 30 _ _, _, _, _, _⟩ :: _) _ _); refine wpl_set_otrusts (v := .slice a2 (k + 1) c2) rfl _ _ rfl rfl rfl rfl rfl F2 ?_; intro _ t1 ht1; clear F2; replace F5 := F5.tt ht1; replace O2 := O2.tg ht1 htB; replace R := R.tt ht1; replace F1 := F1.tt ht1; replace b := below_touch b ht1 htw (Nat.le_refl _); replace qB := Nat.le_trans qB ht1.size; have F2 := t1; clear t1 ht1))
              first
                | (go_roundw
                   case rel => exact ⟨k + 1, c', l ++ [⟨l1, l2⟩], s2, .slice a2 (k + 1) c2, by first | rfl | simp, hc2, hide (by rw [List.length_append, HLL.out]; rfl), hide (ok_snoc HOK.out (show TrustT.Ok ⟨l1, l2⟩ from ⟨L1.out, L2.out⟩)), by rw [List.map_append]; exact O2, hide (HK.out.snoc (show Got trustP (some r) ⟨l1, l2⟩ s2 from G1.out.bind (G2.out.last (f := fun n => (⟨l1, n⟩ : TrustT))))), F5, F2, R, F1, b, qB⟩)
                | (refine ⟨?_, ?measure⟩; (repeat apply Exists.intro); refine ⟨?rel, rfl⟩
                   case rel => exact ⟨k + 1, c', l ++ [⟨l1, l2⟩], s2, .slice a2 (k + 1) c2, by first | rfl | simp, hc2, hide (by rw [List.length_append, HLL.out]; rfl), hide (ok_snoc HOK.out (show TrustT.Ok ⟨l1, l2⟩ from ⟨L1.out, L2.out⟩)), by rw [List.map_append]; exact O2, hide (HK.out.snoc (show Got trustP (some r) ⟨l1, l2⟩ s2 from G1.out.bind (G2.out.last (f := fun n => (⟨l1, n⟩ : TrustT))))), F5, F2, R, F1, b, qB⟩)
              case measure => simp [RowKit.intOf]; omega
            · have c0 := decide_eq_false (show ¬ (0 : Int) < (c : Int) by omega)
              have HG : Hid (Got (listP 32 trustP) t2 l (some r)) := by
                have h1 := HK.out
                rw [show k = n by omega] at h1
                exact hide (got_counted GC.out h1)
              go_wp2_with (with_reducible show wpList _ _ _ (⟨_, Op.load _ _, _, _, _, _⟩ :: _) _ _; refine wpl_load_one rfl 4 _ rfl rfl cI (by kernel_rfl) ?_)
              go_meet
              case rel => exact ⟨l, some r, v, HOK, HLM, O1, HG, F5, F2, R, F1, b⟩
      case rest =>
        clear F5 F2 R F1 b GC hn hBc
        obtain ⟨e3, t3, v3, HO3, HZ3, O1, HG3, F5, F2, R, F1, b⟩ := hcut
        replace R := stab_more R (((O1.low h0B).low htB).low hgB).st
        clear O1 hmB hgB htB h0B hwB
        have okd : Orig.Ok ⟨m0, m1, m2, m3, m4, ps, nr, nt, nc, e1, e2, e3⟩ := orig_ok_of HU.out K13.out K14.out HPS.out K15.out HO1.out HO2.out HO3.out
        obtain ⟨d, hd⟩ : ∃ d : Orig, d = ⟨m0, m1, m2, m3, m4, ps, nr, nt, nc, e1, e2, e3⟩ := ⟨_, rfl⟩
        have HFT : Hid d.Fit := by rw [hd]; exact ⟨Nat.le_trans HZ1.out (by decide), Nat.le_trans HZ2.out (by decide), Nat.le_trans HZ3.out (by decide)⟩
        have HDI : Hid (∀ x, (P3 x ∧ Sl x v3 64 (e3.map trustCs)) → OrigIs x (origV NS nc v1 v2 v3) d) := by
          intro x hx
          obtain ⟨r3, y3⟩ := hx
          rw [HP3.out] at r3
          obtain ⟨r2, y2⟩ := r3
          rw [HP2.out] at r2
          obtain ⟨_, y1⟩ := r2
          rw [hd, HNS.out]
          exact ⟨v1, v2, v3, rfl, y1, y2, y3, okd⟩
        have hg2 : Got origP st0 d t3 := by rw [hd]; exact got_orig2 N1.out N2.out N3.out N4.out N5.out HK8.out G13.out G14.out G15.out HG1.out HG2.out HG3.out
        have hT := HT.out d t3 hg2
        clear HP1 HP2 HP3 okd hg2 HG1 HG2 HG3 G13 G14 G15 N1 N2 N3 N4 N5 HK8 HO1 HO2 HO3 HZ1 HZ2 HZ3 K13 K14 HU HPS HNS HT hd
        have k15 := K15.out
        cases t3 with
        | none =>
          have HR : Hid (T = (orig0, 6)) := by rw [hT, if_neg (by simp)]; exact hide rfl
          have cI := F5.flag0
          clear hT R HDI
          go_wp2_with (first | (with_reducible show wpList _ _ _ (⟨_, Op.load _ _, _, _, _, _⟩ :: _) _ _; refine wpl_load_one rfl 4 _ rfl rfl cI (by kernel_rfl) ?_) | (with_reducible show wpList _ _ _ (⟨_, Op.load _ _, _, _, _, _⟩ :: _) _ _; refine wpl_load_one rfl 9 _ rfl rfl cS (by kernel_rfl) ?_) | (with_reducible show wpList _ _ _ (⟨_, Op.binOp _ _ _ _ _, _, _, _, _⟩ :: _) _ _; refine wpl_nes rfl _ _ rfl rfl rfl HE.out ?_) | ((with_reducible show wpList _ _ _ (⟨_, Op.build 32 _, _, _, _, _⟩ :: _) _ _); refine wpl_built0 rfl 32 rfl (cs := origCs ns0 zero32 nilS nilS nilS) origBuilt0 ?_) | ((with_reducible show wpList _ _ _ (⟨_, Op.store 32 _ _, _, _, _, _⟩ :: _) _ _); refine wpl_set_orig rfl _ _ rfl rfl (ns := ns0) (nc := zero32) (v1 := nilS) (v2 := nilS) (v3 := nilS) rfl rfl rfl rfl rfl rfl F1 ?_; intro _ t1 ht1; clear F1; replace b := below_touch b ht1 hg0 (Nat.le_refl _); have F1 := t1; clear t1 ht1))
          refine bodyPost_ret (ret_orig_tmp rfl _ _ _ rfl rfl F1) rfl ?_
          rw [HR.out]
          exact ⟨⟨_, rfl, (OrigOwn.nil _ 0).is⟩, b⟩
        | some r =>
          have cI := F5.flag1
          obtain ⟨sx, cS, hsx⟩ := F5.rest
          have HM := hide (fun (w' : World) (h : OrigIs w' (origV NS nc v1 v2 v3) d) => HMY.out _ d w' h HFT.out)
          by_cases hr : r = []
          · have HE : Hid ((sx.toList == (⟨#[]⟩ : ByteArray).toList) = true) := by rw [ByteArray.toList_eq, hsx, hr, ByteArray.toList_eq]; exact hide rfl
            cases hm : mayOr d
            · have HR : Hid (T = (orig0, 6)) := by rw [hT, if_neg (by rw [hm]; simp)]; exact hide rfl
              rw [hm] at HM
              clear hT hm hr hsx
              go_wp2_with (first | (with_reducible show wpList _ _ _ (⟨_, Op.load _ _, _, _, _, _⟩ :: _) _ _; refine wpl_load_one rfl 4 _ rfl rfl cI (by kernel_rfl) ?_) | (with_reducible show wpList _ _ _ (⟨_, Op.load _ _, _, _, _, _⟩ :: _) _ _; refine wpl_load_one rfl 9 _ rfl rfl cS (by kernel_rfl) ?_) | (with_reducible show wpList _ _ _ (⟨_, Op.binOp _ _ _ _ _, _, _, _, _⟩ :: _) _ _; refine wpl_nes rfl _ _ rfl rfl rfl HE.out ?_) | ((with_reducible show wpList _ _ _ (⟨_, Op.build 32 _, _, _, _, _⟩ :: _) _ _); refine wpl_built0 rfl 32 rfl (cs := origCs ns0 zero32 nilS nilS nilS) origBuilt0 ?_) | (with_reducible show wpList _ _ _ (⟨_, Op.load 32 _, _, _, _, _⟩ :: _) _ _; refine wpl_ld_orig rfl _ rfl rfl F2 ?_) | (go_at_call 43; refine (HM.out _ (HDI.out _ R.now)).mono ?_; rintro _ _ ⟨rfl, hc⟩; replace F1 := F1.later hc; replace F2 := F2.later hc; replace R := R.later hc; replace b := later b hc; clear hc) | ((with_reducible show wpList _ _ _ (⟨_, Op.store 32 _ _, _, _, _, _⟩ :: _) _ _); refine wpl_set_orig rfl _ _ rfl rfl (ns := ns0) (nc := zero32) (v1 := nilS) (v2 := nilS) (v3 := nilS) rfl rfl rfl rfl rfl rfl F1 ?_; intro _ t1 ht1; clear F1; replace b := below_touch b ht1 hg0 (Nat.le_refl _); have F1 := t1; clear t1 ht1))
              refine bodyPost_ret (ret_orig_tmp rfl _ _ _ rfl rfl F1) rfl ?_
              rw [HR.out]
              exact ⟨⟨_, rfl, (OrigOwn.nil _ 0).is⟩, b⟩
            · have HR : Hid (T = (d, 0)) := by rw [hT, if_pos ⟨by rw [hr], hm⟩]; exact hide rfl
              rw [hm] at HM
              clear hT hm hr hsx
              have n15 := F2.len
              go_wp2_with (first | (with_reducible show wpList _ _ _ (⟨_, Op.load _ _, _, _, _, _⟩ :: _) _ _; refine wpl_load_one rfl 4 _ rfl rfl cI (by kernel_rfl) ?_) | (with_reducible show wpList _ _ _ (⟨_, Op.load _ _, _, _, _, _⟩ :: _) _ _; refine wpl_load_one rfl 9 _ rfl rfl cS (by kernel_rfl) ?_) | (with_reducible show wpList _ _ _ (⟨_, Op.binOp _ _ _ _ _, _, _, _, _⟩ :: _) _ _; refine wpl_nes rfl _ _ rfl rfl rfl HE.out ?_) | ((with_reducible show wpList _ _ _ (⟨_, Op.build 32 _, _, _, _, _⟩ :: _) _ _); refine wpl_built0 rfl 32 rfl (cs := origCs ns0 zero32 nilS nilS nilS) origBuilt0 ?_) | (with_reducible show wpList _ _ _ (⟨_, Op.load 32 _, _, _, _, _⟩ :: _) _ _; refine wpl_ld_orig rfl _ rfl rfl F2 ?_) | (go_at_call 43; refine (HM.out _ (HDI.out _ R.now)).mono ?_; rintro _ _ ⟨rfl, hc⟩; replace F1 := F1.later hc; replace F2 := F2.later hc; replace R := R.later hc; replace b := later b hc; clear hc) | ((with_reducible show wpList _ _ _ (⟨_, Op.store 32 _ _, _, _, _, _⟩ :: _) _ _); refine wpl_set_orig rfl _ _ rfl rfl (ns := NS) (nc := nc) (v1 := v1) (v2 := v2) (v3 := v3) rfl n15 k15 F2.o1 F2.o2 F2.o3 F1 ?_; intro _ t1 ht1; clear F1; replace R := R.tt ht1; replace b := below_touch b ht1 hg0 (Nat.le_refl _); have F1 := t1; clear t1 ht1))
              refine bodyPost_ret (ret_orig_tmp rfl _ _ _ rfl rfl F1) rfl ?_
              rw [HR.out]
              exact ⟨⟨_, rfl, HDI.out _ R.now⟩, b⟩
          · have HE : Hid ((sx.toList == (⟨#[]⟩ : ByteArray).toList) = false) := by rw [ByteArray.toList_eq, hsx, ByteArray.toList_eq]; unfold Hid; rw [beq_eq_false_iff_ne]; exact hr
            have HR : Hid (T = (orig0, 6)) := by rw [hT, if_neg (by simp [hr])]; exact hide rfl
            clear hT hr hsx R HDI
            go_wp2_with (first | (with_reducible show wpList _ _ _ (⟨_, Op.load _ _, _, _, _, _⟩ :: _) _ _; refine wpl_load_one rfl 4 _ rfl rfl cI (by kernel_rfl) ?_) | (with_reducible show wpList _ _ _ (⟨_, Op.load _ _, _, _, _, _⟩ :: _) _ _; refine wpl_load_one rfl 9 _ rfl rfl cS (by kernel_rfl) ?_) | (with_reducible show wpList _ _ _ (⟨_, Op.binOp _ _ _ _ _, _, _, _, _⟩ :: _) _ _; refine wpl_nes rfl _ _ rfl rfl rfl HE.out ?_) | ((with_reducible show wpList _ _ _ (⟨_, Op.build 32 _, _, _, _, _⟩ :: _) _ _); refine wpl_built0 rfl 32 rfl (cs := origCs ns0 zero32 nilS nilS nilS) origBuilt0 ?_) | ((with_reducible show wpList _ _ _ (⟨_, Op.store 32 _ _, _, _, _, _⟩ :: _) _ _); refine wpl_set_orig rfl _ _ rfl rfl (ns := ns0) (nc := zero32) (v1 := nilS) (v2 := nilS) (v3 := nilS) rfl rfl rfl rfl rfl rfl F1 ?_; intro _ t1 ht1; clear F1; replace b := below_touch b ht1 hg0 (Nat.le_refl _); have F1 := t1; clear t1 ht1))
            refine bodyPost_ret (ret_orig_tmp rfl _ _ _ rfl rfl F1) rfl ?_
            rw [HR.out]
            exact ⟨⟨_, rfl, (OrigOwn.nil _ 0).is⟩, b⟩
end Go.Proofs.Ytbbfnpfkbbpjgaa
