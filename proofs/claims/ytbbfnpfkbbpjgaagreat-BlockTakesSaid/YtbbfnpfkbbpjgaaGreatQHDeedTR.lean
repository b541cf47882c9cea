/- The reference of layer 13: Take. Printed by gen_reftake.py. -/
import Derived.Test.YtbbfnpfkbbpjgaaGreatQHHdRef5
import Derived.Test.YtbbfnpfkbbpjgaaGreatQHDeedR
import Derived.Test.YtbbfnpfkbbpjgaaGreatQHDeed9
import Derived.Test.YtbbfnpfkbbpjgaaGreatQHDeed3
import Derived.Test.YtbbfnpfkbbpjgaaGreatQHBlk3
import Derived.Deep.CutBlock
import Derived.Deep.DeepCutAuto
namespace Go.Proofs.YtbbfnpfkbbpjgaaGreat
open Go.RowKit Go.Lib
set_option linter.unusedVariables false
set_option linter.unusedSimpArgs false
set_option maxRecDepth 100000
set_option maxHeartbeats 4000000
theorem x9m {l : List UInt8} {s : ByteArray} (h : s = ⟨l.toArray⟩) (hl : l.length = 1) : 0 < s.size := by rw [h]; show 0 < l.toArray.size; rw [List.size_toArray, hl]; decide
theorem x6i {l : List UInt8} {s : ByteArray} {k : Nat} (h : s = ⟨l.toArray⟩) (hk : k = (l.getD 0 0).toNat) : ∀ h : 0 < s.size, ((s[0]'h).toNat : Int) = (k : Int) := fun hz => by rw [j0y s 0 hz, h, hk]
theorem x4g {l : List UInt8} {k : Nat} (hk : k = (l.getD 0 0).toNat) : k < 256 := by rw [hk]; exact UInt8.toNat_lt _
theorem j7p {w : World} {B e sz : Nat} {v : Value} {els : List (List Value)} {X : List Nat} (h : OwnR w B e sz v els X) : StabX (fun w => OwnR w B e sz v els []) w.heap.size X w :=
 ⟨Nat.le_refl _, fun w' ht => ⟨q2m h.1 ht (fun b hb hs => by
  rcases hs with h1 | h1
  ·have := h.lt b hb; omega
  ·exact h.2.2 b hb h1), h.2.1, by simp⟩⟩
theorem j6m (hMay : ∀ (v : Value) (d : Deed) (w : World), DeedIs w v d → Calls Tryz.prog 13 #[v] w fun x w' => x = .returned (.bool (mayD d)) ∧ Below w.heap.size w w') (s : ByteArray) (w : World) (hs : s.size ≤ 1048576) :
  Calls Tryz.prog 72 #[.string s] w fun e w' => (∃ v, e = .returned (.tuple #[v, .int .i64 (takeD s.data.toList).2]) ∧ DeedOwn w' w.heap.size v (takeD s.data.toList).1) ∧ Below w.heap.size w w' := by
 have HMY := hide hMay
 clear hMay
 have HRB := hide (riBuiltK s)
 have HT := hide (fun d st (h : Got deedP (some s.data.toList) d st) => j8b h)
 have b := Below.refl w.heap.size w
 have hcd : Cond (some s.data.toList) s true := ⟨fun h => (by cases h), fun r hr => ⟨rfl, Option.some.inj hr⟩⟩
 generalize hL : s.data.toList = L at *
 generalize takeD L = T at *
 clear hL
 obtain ⟨st0, hst0⟩ : ∃ st0, st0 = some L := ⟨_, rfl⟩
 rw [← hst0] at hcd
 have HT : Hid (∀ d st, Got deedP st0 d st → T = if st = some [] ∧ mayD d = true then (d, 0) else (deed0, 6)) := by rw [hst0]; exact HT
 clear hst0
 have mF1 := True.intro
 have mF2 := True.intro
 have mC := True.intro
 go_enter Tryz.func72, Tryz.ntmps72
 go_upto_block 0 with (first | (with_reducible refine w12g ?_; clear mF1; refine q1x rfl rfl ?_; intro _ g0 hg0 F1 hb; replace b := later b hb; clear hb) | ((with_reducible show wpList _ _ _ (⟨_, Op.build 179 _, _, _, _, _⟩ :: _) _ _); refine j5f rfl 179 _ _ rfl rfl rfl (cs := [.string s, .bool true]) HRB.out ?_) | ((with_reducible show wpList _ _ _ (⟨_, Op.box 179 _, _, _, _, _⟩ :: _) _ _); have q1 := F1.lt; have qb := b.size; refine q4j rfl 179 _ rfl (v := .agg #[.string s, .bool true]) rfl (cs := [.string s, .bool true]) rfl ?_; intro _ g hg FI hb; have F5 : RdI _ g st0 := ⟨s, true, FI, hs, hcd⟩; clear FI; replace F1 := F1.later hb; replace b := later b hb; clear hb) | ((with_reducible refine w18g ?_); refine q0q rfl 29 rfl (cs := deedCs nilS nilS nilS nilS nilS 0 0 0) deedBuilt0 ?_) | (with_reducible refine w12g ?_; clear mF2; have q5 := F5.lt; refine q1x rfl rfl ?_; intro _ gt hgt F2 hb; replace F1 := F1.later hb; replace F5 := F5.later hb; replace b := later b hb; clear hb) | ((with_reducible refine w13g ?_); refine q1b rfl _ _ rfl rfl (v1 := nilS) (v2 := nilS) (v3 := nilS) (v4 := nilS) (v5 := nilS) (f := 0) (s := 0) (t := 0) rfl rfl rfl rfl rfl rfl F2 ?_; intro _ t1 ht1; clear F2; replace F1 := F1.tt ht1; replace F5 := F5.tt ht1; replace b := q0b b ht1 (by omega) (Nat.le_refl _); have F2 := t1; clear t1 ht1; have hq2 := F2.lt; have R := x9n F2 [g, gt, g0]; have h0g : g0 < g := (by omega); have hgw : w.heap.size ≤ g := (by omega); have htw : w.heap.size ≤ gt := (by omega); have hgg : g < gt := (by omega)) | (go_at_call 147; refine (riCount g 8 _ _ F5).mono ?_; rintro _ _ ⟨n, st1, rfl, hn, k1, GC, ht1⟩; clear F5; have F5 := k1; clear k1; replace GC := hide GC; replace F2 := F2.tt ht1; replace F1 := F1.tt ht1; replace R := R.tt ht1; replace b := q0b b ht1 hgw (Nat.le_refl _); clear ht1))
 obtain ⟨P1, hP1⟩ : ∃ P : World → Prop, P = (fun _ => True) := ⟨_, rfl⟩
 rw [← hP1] at R
 have HP1 := hide hP1
 clear hP1
 have z1 := F2.lt
 obtain ⟨m, B, hmB, hgB, htB, h0B, hwB, hBc, R⟩ := j3h R z1 hgg h0g (Nat.le_trans hgw (Nat.le_of_lt (Nat.lt_trans hgg z1)))
 clear z1
 go_cut [6] (fun s6 wx => ∃ (l : List InT) (st2 : Option (List UInt8)) (v : Value), Hid (∀ x ∈ l, x.Ok) ∧ OwnR wx B 80 33 v (l.map inCs) [] ∧ Hid (Got (listP 8 inP) st0 l st2) ∧ RdI wx g st2 ∧ DAt wx gt v nilS nilS nilS nilS 0 0 0 ∧ StabX P1 m [g, gt, g0] wx ∧ DAt wx g0 nilS nilS nilS nilS nilS 0 0 0 ∧ Below w.heap.size w wx)
 case first =>
  go_wp2_with fail
  go_loopw [6] (fun cv wr => ∃ (k c : Nat) (l : List InT) (sk : Option (List UInt8)) (v : Value), cv = .int .u64 c ∧ c + k = n ∧ Hid (l.length = k) ∧ Hid (∀ x ∈ l, x.Ok) ∧ OwnR wr B 80 33 v (l.map inCs) [] ∧ Hid (Got (manyP inP k) st1 l sk) ∧ RdI wr g sk ∧ DAt wr gt v nilS nilS nilS nilS 0 0 0 ∧ StabX P1 m [g, gt, g0] wr ∧ DAt wr g0 nilS nilS nilS nilS nilS 0 0 0 ∧ Below w.heap.size w wr ∧ B ≤ wr.heap.size) (fun cv _ => (RowKit.intOf cv).toNat)
  case atStart => exact ⟨0, n, [], st1, nilS, rfl, rfl, hide rfl, hide (by simp), OwnR.nil _ _ _ _, hide (q5k _ _), F5, F2, R, F1, b, hBc⟩
  case round =>
   clear F5 F2 R F1 b hBc
   obtain ⟨k, c, l, sk, v, rfl, hck, HLL, HOK, O1, HK, F5, F2, R, F1, b, qB⟩ := hrel
   cases sk with
   | none =>
    have HG : Hid (Got (listP 8 inP) st0 l none) := by
     have h1 := Got.stop (k := c) HK.out l
     rw [show k + c = n by omega] at h1
     exact hide (q3i GC.out h1)
    have cI := F5.flag0
    by_cases h0 : 0 < c
    ·have c0 := decide_eq_true (show (0 : Int) < (c : Int) by omega)
     go_wp2_with (with_reducible refine w0g ?_; refine q0a rfl 4 _ rfl rfl cI (by kernel_rfl) ?_)
     go_meet
     case rel => exact ⟨l, none, v, HOK, O1, HG, F5, F2, R, F1, b⟩
    ·have c0 := decide_eq_false (show ¬ (0 : Int) < (c : Int) by omega)
     go_wp2_with (with_reducible refine w0g ?_; refine q0a rfl 4 _ rfl rfl cI (by kernel_rfl) ?_)
     go_meet
     case rel => exact ⟨l, none, v, HOK, O1, HG, F5, F2, R, F1, b⟩
   | some r =>
    have cI := F5.flag1
    by_cases h0 : 0 < c
    ·have c0 := decide_eq_true (show (0 : Int) < (c : Int) by omega)
     have kw : IntKind.u64.wrap ((c : Int) - 1) = ((c - 1 : Nat) : Int) := by rw [IntKind.wrap_u64]; omega
     obtain ⟨c', hc'⟩ : ∃ c', c' = c - 1 := ⟨_, rfl⟩
     rw [← hc'] at kw
     have hc2 : c' + (k + 1) = n := by omega
     clear hc'
     have mA1 := True.intro
     have mA2 := True.intro
     go_wp2_with (first | (with_reducible refine w0g ?_; refine q0a rfl 4 _ rfl rfl cI (by kernel_rfl) ?_) | ((with_reducible show wpList _ _ _ (⟨_, Op.build 80 _, _, _, _, _⟩ :: _) _ _); refine q0q rfl 80 rfl (cs := inCs in0) inZ0 ?_) | (with_reducible refine w3g ?_; have q5 := F5.lt; have q2 := F2.lt; have qR := R.lt; have qb := b.size; refine j3u rfl rfl ?_; intro _ gx hgx FX hb; replace O1 := O1.more O1.lt hgx; replace F5 := F5.later hb; replace F2 := F2.later hb; replace O1 := O1.later hb; replace R := R.later hb; replace F1 := F1.later hb; replace qB := Nat.le_trans qB hb.size; replace b := later b hb; clear hb) | ((with_reducible show wpList _ _ _ (⟨_, Op.store 80 _ _, _, _, _, _⟩ :: _) _ _); refine j1h rfl _ _ rfl rfl rfl x1e FX ?_; intro _ t1 ht1; clear FX; (try replace F5 := F5.tt ht1); (try replace F2 := F2.tt ht1); (try replace F1 := F1.tt ht1); (try replace FX := FX.tt ht1); (first | replace O1 := O1.tg ht1 hgB | replace O1 := O1.tt ht1 | skip); (try replace R := R.tt ht1); (try replace qB := Nat.le_trans qB ht1.size); replace b := q0b b ht1 (by omega) (Nat.le_refl _); have FX := t1; clear t1 ht1) | (go_at_call 144; clear mA1; refine (riHash g _ _ F5).mono ?_; rintro _ _ ⟨l1, s1, rfl, L1, k1, G1, ht1⟩; clear F5; have F5 := k1; clear k1; replace L1 := hide L1; replace G1 := hide G1; (try replace F5 := F5.tt ht1); (try replace F2 := F2.tt ht1); (try replace F1 := F1.tt ht1); (try replace FX := FX.tt ht1); (first | replace O1 := O1.tg ht1 hgB | replace O1 := O1.tt ht1 | skip); (try replace R := R.tt ht1); (try replace qB := Nat.le_trans qB ht1.size); replace b := q0b b ht1 (by omega) (Nat.le_refl _); clear ht1) | (go_at_call 148; clear mA2; refine (riNumber g _ _ F5).mono ?_; rintro _ _ ⟨l2, s2, rfl, L2, k1, G2, ht1⟩; clear F5; have F5 := k1; clear k1; replace L2 := hide L2; replace G2 := hide G2; (try replace F5 := F5.tt ht1); (try replace F2 := F2.tt ht1); (try replace F1 := F1.tt ht1); (try replace FX := FX.tt ht1); (first | replace O1 := O1.tg ht1 hgB | replace O1 := O1.tt ht1 | skip); (try replace R := R.tt ht1); (try replace qB := Nat.le_trans qB ht1.size); replace b := q0b b ht1 (by omega) (Nat.le_refl _); clear ht1) | ((with_reducible refine w14g ?_); refine j6n rfl _ _ rfl rfl rfl L1.out FX ?_; intro _ t1 ht1; clear FX; (try replace F5 := F5.tt ht1); (try replace F2 := F2.tt ht1); (try replace F1 := F1.tt ht1); (try replace FX := FX.tt ht1); (first | replace O1 := O1.tg ht1 hgB | replace O1 := O1.tt ht1 | skip); (try replace R := R.tt ht1); (try replace qB := Nat.le_trans qB ht1.size); replace b := q0b b ht1 (by omega) (Nat.le_refl _); have FX := t1; clear t1 ht1) | ((with_reducible refine w20g ?_); refine j2c rfl _ _ rfl rfl rfl L2.out FX ?_; intro _ t1 ht1; clear FX; (try replace F5 := F5.tt ht1); (try replace F2 := F2.tt ht1); (try replace F1 := F1.tt ht1); (try replace FX := FX.tt ht1); (first | replace O1 := O1.tg ht1 hgB | replace O1 := O1.tt ht1 | skip); (try replace R := R.tt ht1); (try replace qB := Nat.le_trans qB ht1.size); replace b := q0b b ht1 (by omega) (Nat.le_refl _); have FX := t1; clear t1 ht1) | (with_reducible refine w0g ?_; refine q0a rfl 22 _ rfl rfl (DAt.c0 F2) (by kernel_rfl) ?_) | (with_reducible show wpList _ _ _ (⟨_, Op.load 80 _, _, _, _, _⟩ :: _) _ _; refine q8h rfl _ rfl rfl FX.cells FX.ok ?_) | ((with_reducible refine w7g ?_); refine q2q rfl inElem (by decide) _ rfl (v := inV ⟨l1, l2⟩) (el := inCs ⟨l1, l2⟩) rfl (by simp [inV, Value.cells]) (q4o (show InT.Ok ⟨l1, l2⟩ from ⟨L1.out, L2.out⟩)) (j2f _) ?_; intro _ g9 h9 O9 hb; clear FX; replace F5 := F5.later hb; replace F2 := F2.later hb; replace O1 := O1.later hb; replace R := R.later hb; replace F1 := F1.later hb; replace qB := Nat.le_trans qB hb.size; replace b := later b hb; clear hb) | ((with_reducible refine w15g ?_); refine q0s rfl _ _ inElem rfl rfl O1 rfl O9.sl O9.2.1 (k + 1) (by rw [List.length_map, HLL.out]; rfl) (by omega) (by omega) qB ?_; intro a2 c2 w2 O2 ht2 _; replace F5 := F5.touch ht2 (O1.off hgB); replace F2 := F2.touch ht2 (O1.off htB); replace R := R.touch ht2 (fun x hx => .inl (Nat.le_trans hmB (O1.ge x hx))); replace F1 := F1.touch ht2 (O1.off h0B); replace b := b.trans (ht2.below (B := w.heap.size) b.size (fun x hx => Nat.le_trans hwB (O1.ge x hx))); replace qB := Nat.le_trans qB ht2.size; clear O1 O9 ht2) | ((with_reducible show wpList _ _ _ (⟨_, Op.store 22 _ _, _, _, _, _⟩ :: _) _ _); refine j1r (v := .slice a2 (k + 1) c2) rfl _ _ rfl rfl rfl rfl rfl F2 ?_; intro _ t1 ht1; clear F2; replace F5 := F5.tt ht1; replace O2 := O2.tg ht1 htB; replace R := R.tt ht1; replace F1 := F1.tt ht1; replace b := q0b b ht1 htw (Nat.le_refl _); replace qB := Nat.le_trans qB ht1.size; have F2 := t1; clear t1 ht1))
     go_roundw
     case rel => exact ⟨k + 1, c', l ++ [⟨l1, l2⟩], s2, .slice a2 (k + 1) c2, by first | rfl | simp, hc2, hide (by rw [List.length_append, HLL.out]; rfl), hide (q6u HOK.out (show InT.Ok ⟨l1, l2⟩ from ⟨L1.out, L2.out⟩)), by rw [List.map_append]; exact O2, hide (HK.out.snoc (show Got inP (some r) ⟨l1, l2⟩ s2 from G1.out.bind (G2.out.last (f := fun n => (⟨l1, n⟩ : InT))))), F5, F2, R, F1, b, qB⟩
     case measure => simp [RowKit.intOf]; omega
    ·have c0 := decide_eq_false (show ¬ (0 : Int) < (c : Int) by omega)
     have HG : Hid (Got (listP 8 inP) st0 l (some r)) := by
      have h1 := HK.out
      rw [show k = n by omega] at h1
      exact hide (q3i GC.out h1)
     go_wp2_with (with_reducible refine w0g ?_; refine q0a rfl 4 _ rfl rfl cI (by kernel_rfl) ?_)
     go_meet
     case rel => exact ⟨l, some r, v, HOK, O1, HG, F5, F2, R, F1, b⟩
 case rest =>
  clear F5 F2 R F1 b GC hn hBc
  obtain ⟨e1, t1, v1, HO1, O1, HG1, F5, F2, R, F1, b⟩ := hcut
  replace R := q7q R (j7p ((((O1.low h0B).low htB).low hgB).base hwB))
  clear O1 hmB hgB htB h0B hwB
  go_upto_block 2 with (first | (go_at_call 147; refine (riCount g 8 _ _ F5).mono ?_; rintro _ _ ⟨n, st1, rfl, hn, k1, GC, ht1⟩; clear F5; have F5 := k1; clear k1; replace GC := hide GC; replace F2 := F2.tt ht1; replace F1 := F1.tt ht1; replace R := R.tt ht1; replace b := q0b b ht1 hgw (Nat.le_refl _); clear ht1))
  obtain ⟨P2, hP2⟩ : ∃ P : World → Prop, P = (fun x => P1 x ∧ OwnR x w.heap.size 80 33 v1 (e1.map inCs) []) := ⟨_, rfl⟩
  rw [← hP2] at R
  have HP2 := hide hP2
  clear hP2
  have z1 := F2.lt
  obtain ⟨m, B, hmB, hgB, htB, h0B, hwB, hBc, R⟩ := j3h R z1 hgg h0g (Nat.le_trans hgw (Nat.le_of_lt (Nat.lt_trans hgg z1)))
  clear z1
  go_cut [8] (fun s8 wx => ∃ (l : List OutT) (st2 : Option (List UInt8)) (v : Value), Hid (∀ x ∈ l, x.Ok) ∧ OwnR wx B 84 65 v (l.map outCs) [] ∧ Hid (Got (listP 8 outP) t1 l st2) ∧ RdI wx g st2 ∧ DAt wx gt v1 v nilS nilS nilS 0 0 0 ∧ StabX P2 m [g, gt, g0] wx ∧ DAt wx g0 nilS nilS nilS nilS nilS 0 0 0 ∧ Below w.heap.size w wx)
  case first =>
   go_wp2_with fail
   go_loopw [8] (fun cv wr => ∃ (k c : Nat) (l : List OutT) (sk : Option (List UInt8)) (v : Value), cv = .int .u64 c ∧ c + k = n ∧ Hid (l.length = k) ∧ Hid (∀ x ∈ l, x.Ok) ∧ OwnR wr B 84 65 v (l.map outCs) [] ∧ Hid (Got (manyP outP k) st1 l sk) ∧ RdI wr g sk ∧ DAt wr gt v1 v nilS nilS nilS 0 0 0 ∧ StabX P2 m [g, gt, g0] wr ∧ DAt wr g0 nilS nilS nilS nilS nilS 0 0 0 ∧ Below w.heap.size w wr ∧ B ≤ wr.heap.size) (fun cv _ => (RowKit.intOf cv).toNat)
   case atStart => exact ⟨0, n, [], st1, nilS, rfl, rfl, hide rfl, hide (by simp), OwnR.nil _ _ _ _, hide (q5k _ _), F5, F2, R, F1, b, hBc⟩
   case round =>
    clear F5 F2 R F1 b hBc
    obtain ⟨k, c, l, sk, v, rfl, hck, HLL, HOK, O1, HK, F5, F2, R, F1, b, qB⟩ := hrel
    cases sk with
    | none =>
     have HG : Hid (Got (listP 8 outP) t1 l none) := by
      have h1 := Got.stop (k := c) HK.out l
      rw [show k + c = n by omega] at h1
      exact hide (q3i GC.out h1)
     have cI := F5.flag0
     by_cases h0 : 0 < c
     ·have c0 := decide_eq_true (show (0 : Int) < (c : Int) by omega)
      go_wp2_with (with_reducible refine w0g ?_; refine q0a rfl 4 _ rfl rfl cI (by kernel_rfl) ?_)
      go_meet
      case rel => exact ⟨l, none, v, HOK, O1, HG, F5, F2, R, F1, b⟩
     ·have c0 := decide_eq_false (show ¬ (0 : Int) < (c : Int) by omega)
      go_wp2_with (with_reducible refine w0g ?_; refine q0a rfl 4 _ rfl rfl cI (by kernel_rfl) ?_)
      go_meet
      case rel => exact ⟨l, none, v, HOK, O1, HG, F5, F2, R, F1, b⟩
    | some r =>
     have cI := F5.flag1
     by_cases h0 : 0 < c
     ·have c0 := decide_eq_true (show (0 : Int) < (c : Int) by omega)
      have kw : IntKind.u64.wrap ((c : Int) - 1) = ((c - 1 : Nat) : Int) := by rw [IntKind.wrap_u64]; omega
      obtain ⟨c', hc'⟩ : ∃ c', c' = c - 1 := ⟨_, rfl⟩
      rw [← hc'] at kw
      have hc2 : c' + (k + 1) = n := by omega
      clear hc'
      have mA1 := True.intro
      have mA2 := True.intro
      have mA3 := True.intro
      go_wp2_with (first | (with_reducible refine w0g ?_; refine q0a rfl 4 _ rfl rfl cI (by kernel_rfl) ?_) | ((with_reducible show wpList _ _ _ (⟨_, Op.build 84 _, _, _, _, _⟩ :: _) _ _); refine q0q rfl 84 rfl (cs := outCs out0) outZ0 ?_) | (with_reducible refine w3g ?_; have q5 := F5.lt; have q2 := F2.lt; have qR := R.lt; have qb := b.size; refine j1j rfl rfl ?_; intro _ gx hgx FX hb; replace O1 := O1.more O1.lt hgx; replace F5 := F5.later hb; replace F2 := F2.later hb; replace O1 := O1.later hb; replace R := R.later hb; replace F1 := F1.later hb; replace qB := Nat.le_trans qB hb.size; replace b := later b hb; clear hb) | ((with_reducible show wpList _ _ _ (⟨_, Op.store 84 _ _, _, _, _, _⟩ :: _) _ _); refine q9a rfl _ _ rfl rfl rfl x6f FX ?_; intro _ t1 ht1; clear FX; (try replace F5 := F5.tt ht1); (try replace F2 := F2.tt ht1); (try replace F1 := F1.tt ht1); (try replace FX := FX.tt ht1); (first | replace O1 := O1.tg ht1 hgB | replace O1 := O1.tt ht1 | skip); (try replace R := R.tt ht1); (try replace qB := Nat.le_trans qB ht1.size); replace b := q0b b ht1 (by omega) (Nat.le_refl _); have FX := t1; clear t1 ht1) | (go_at_call 144; clear mA1; refine (riHash g _ _ F5).mono ?_; rintro _ _ ⟨l1, s1, rfl, L1, k1, G1, ht1⟩; clear F5; have F5 := k1; clear k1; replace L1 := hide L1; replace G1 := hide G1; (try replace F5 := F5.tt ht1); (try replace F2 := F2.tt ht1); (try replace F1 := F1.tt ht1); (try replace FX := FX.tt ht1); (first | replace O1 := O1.tg ht1 hgB | replace O1 := O1.tt ht1 | skip); (try replace R := R.tt ht1); (try replace qB := Nat.le_trans qB ht1.size); replace b := q0b b ht1 (by omega) (Nat.le_refl _); clear ht1) | (go_at_call 144; clear mA2; refine (riHash g _ _ F5).mono ?_; rintro _ _ ⟨l2, s2, rfl, L2, k1, G2, ht1⟩; clear F5; have F5 := k1; clear k1; replace L2 := hide L2; replace G2 := hide G2; (try replace F5 := F5.tt ht1); (try replace F2 := F2.tt ht1); (try replace F1 := F1.tt ht1); (try replace FX := FX.tt ht1); (first | replace O1 := O1.tg ht1 hgB | replace O1 := O1.tt ht1 | skip); (try replace R := R.tt ht1); (try replace qB := Nat.le_trans qB ht1.size); replace b := q0b b ht1 (by omega) (Nat.le_refl _); clear ht1) | (go_at_call 148; clear mA3; refine (riNumber g _ _ F5).mono ?_; rintro _ _ ⟨l3, s3, rfl, L3, k1, G3, ht1⟩; clear F5; have F5 := k1; clear k1; replace L3 := hide L3; replace G3 := hide G3; (try replace F5 := F5.tt ht1); (try replace F2 := F2.tt ht1); (try replace F1 := F1.tt ht1); (try replace FX := FX.tt ht1); (first | replace O1 := O1.tg ht1 hgB | replace O1 := O1.tt ht1 | skip); (try replace R := R.tt ht1); (try replace qB := Nat.le_trans qB ht1.size); replace b := q0b b ht1 (by omega) (Nat.le_refl _); clear ht1) | ((with_reducible refine w14g ?_); refine j2t rfl _ _ rfl rfl rfl L1.out FX ?_; intro _ t1 ht1; clear FX; (try replace F5 := F5.tt ht1); (try replace F2 := F2.tt ht1); (try replace F1 := F1.tt ht1); (try replace FX := FX.tt ht1); (first | replace O1 := O1.tg ht1 hgB | replace O1 := O1.tt ht1 | skip); (try replace R := R.tt ht1); (try replace qB := Nat.le_trans qB ht1.size); replace b := q0b b ht1 (by omega) (Nat.le_refl _); have FX := t1; clear t1 ht1) | ((with_reducible refine w14g ?_); refine j0u rfl _ _ rfl rfl rfl L2.out FX ?_; intro _ t1 ht1; clear FX; (try replace F5 := F5.tt ht1); (try replace F2 := F2.tt ht1); (try replace F1 := F1.tt ht1); (try replace FX := FX.tt ht1); (first | replace O1 := O1.tg ht1 hgB | replace O1 := O1.tt ht1 | skip); (try replace R := R.tt ht1); (try replace qB := Nat.le_trans qB ht1.size); replace b := q0b b ht1 (by omega) (Nat.le_refl _); have FX := t1; clear t1 ht1) | ((with_reducible refine w20g ?_); refine j0c rfl _ _ rfl rfl rfl L3.out FX ?_; intro _ t1 ht1; clear FX; (try replace F5 := F5.tt ht1); (try replace F2 := F2.tt ht1); (try replace F1 := F1.tt ht1); (try replace FX := FX.tt ht1); (first | replace O1 := O1.tg ht1 hgB | replace O1 := O1.tt ht1 | skip); (try replace R := R.tt ht1); (try replace qB := Nat.le_trans qB ht1.size); replace b := q0b b ht1 (by omega) (Nat.le_refl _); have FX := t1; clear t1 ht1) | (with_reducible refine w0g ?_; refine q0a rfl 23 _ rfl rfl (DAt.c1 F2) (by kernel_rfl) ?_) | (with_reducible show wpList _ _ _ (⟨_, Op.load 84 _, _, _, _, _⟩ :: _) _ _; refine q7d rfl _ rfl rfl FX.cells FX.ok ?_) | ((with_reducible refine w7g ?_); refine q2q rfl outElem (by decide) _ rfl (v := outV ⟨l1, l2, l3⟩) (el := outCs ⟨l1, l2, l3⟩) rfl (by simp [outV, Value.cells]) (q3o (show OutT.Ok ⟨l1, l2, l3⟩ from ⟨L1.out, L2.out, L3.out⟩)) (j2j _) ?_; intro _ g9 h9 O9 hb; clear FX; replace F5 := F5.later hb; replace F2 := F2.later hb; replace O1 := O1.later hb; replace R := R.later hb; replace F1 := F1.later hb; replace qB := Nat.le_trans qB hb.size; replace b := later b hb; clear hb) | ((with_reducible refine w15g ?_); refine q0s rfl _ _ outElem rfl rfl O1 rfl O9.sl O9.2.1 (k + 1) (by rw [List.length_map, HLL.out]; rfl) (by omega) (by omega) qB ?_; intro a2 c2 w2 O2 ht2 _; replace F5 := F5.touch ht2 (O1.off hgB); replace F2 := F2.touch ht2 (O1.off htB); replace R := R.touch ht2 (fun x hx => .inl (Nat.le_trans hmB (O1.ge x hx))); replace F1 := F1.touch ht2 (O1.off h0B); replace b := b.trans (ht2.below (B := w.heap.size) b.size (fun x hx => Nat.le_trans hwB (O1.ge x hx))); replace qB := Nat.le_trans qB ht2.size; clear O1 O9 ht2) | ((with_reducible show wpList _ _ _ (⟨_, Op.store 23 _ _, _, _, _, _⟩ :: _) _ _); refine q9t (v := .slice a2 (k + 1) c2) rfl _ _ rfl rfl rfl rfl rfl F2 ?_; intro _ t1 ht1; clear F2; replace F5 := F5.tt ht1; replace O2 := O2.tg ht1 htB; replace R := R.tt ht1; replace F1 := F1.tt ht1; replace b := q0b b ht1 htw (Nat.le_refl _); replace qB := Nat.le_trans qB ht1.size; have F2 := t1; clear t1 ht1))
      go_roundw
      case rel => exact ⟨k + 1, c', l ++ [⟨l1, l2, l3⟩], s3, .slice a2 (k + 1) c2, by first | rfl | simp, hc2, hide (by rw [List.length_append, HLL.out]; rfl), hide (q6u HOK.out (show OutT.Ok ⟨l1, l2, l3⟩ from ⟨L1.out, L2.out, L3.out⟩)), by rw [List.map_append]; exact O2, hide (HK.out.snoc (show Got outP (some r) ⟨l1, l2, l3⟩ s3 from G1.out.bind (G2.out.bind (G3.out.last (f := fun n => (⟨l1, l2, n⟩ : OutT)))))), F5, F2, R, F1, b, qB⟩
      case measure => simp [RowKit.intOf]; omega
     ·have c0 := decide_eq_false (show ¬ (0 : Int) < (c : Int) by omega)
      have HG : Hid (Got (listP 8 outP) t1 l (some r)) := by
       have h1 := HK.out
       rw [show k = n by omega] at h1
       exact hide (q3i GC.out h1)
      go_wp2_with (with_reducible refine w0g ?_; refine q0a rfl 4 _ rfl rfl cI (by kernel_rfl) ?_)
      go_meet
      case rel => exact ⟨l, some r, v, HOK, O1, HG, F5, F2, R, F1, b⟩
  case rest =>
   clear F5 F2 R F1 b GC hn hBc
   obtain ⟨e2, t2, v2, HO2, O1, HG2, F5, F2, R, F1, b⟩ := hcut
   replace R := q7q R (j7p ((((O1.low h0B).low htB).low hgB).base hwB))
   clear O1 hmB hgB htB h0B hwB
   have mA6 := True.intro
   have mA7 := True.intro
   have mA8 := True.intro
   go_upto_block 4 with (first | (go_at_call 148; clear mA6; refine (riNumber g _ _ F5).mono ?_; rintro _ _ ⟨l6, s6, rfl, L6, k1, G6, ht1⟩; clear F5; have F5 := k1; clear k1; replace L6 := hide L6; replace G6 := hide G6; (try replace F5 := F5.tt ht1); (try replace F2 := F2.tt ht1); (try replace F1 := F1.tt ht1); (try replace FX := FX.tt ht1); (first | replace O1 := O1.tg ht1 hgB | replace O1 := O1.tt ht1 | skip); (try replace R := R.tt ht1); (try replace qB := Nat.le_trans qB ht1.size); replace b := q0b b ht1 (by omega) (Nat.le_refl _); clear ht1) | (go_at_call 148; clear mA7; refine (riNumber g _ _ F5).mono ?_; rintro _ _ ⟨l7, s7, rfl, L7, k1, G7, ht1⟩; clear F5; have F5 := k1; clear k1; replace L7 := hide L7; replace G7 := hide G7; (try replace F5 := F5.tt ht1); (try replace F2 := F2.tt ht1); (try replace F1 := F1.tt ht1); (try replace FX := FX.tt ht1); (first | replace O1 := O1.tg ht1 hgB | replace O1 := O1.tt ht1 | skip); (try replace R := R.tt ht1); (try replace qB := Nat.le_trans qB ht1.size); replace b := q0b b ht1 (by omega) (Nat.le_refl _); clear ht1) | (go_at_call 148; clear mA8; refine (riNumber g _ _ F5).mono ?_; rintro _ _ ⟨l8, s8, rfl, L8, k1, G8, ht1⟩; clear F5; have F5 := k1; clear k1; replace L8 := hide L8; replace G8 := hide G8; (try replace F5 := F5.tt ht1); (try replace F2 := F2.tt ht1); (try replace F1 := F1.tt ht1); (try replace FX := FX.tt ht1); (first | replace O1 := O1.tg ht1 hgB | replace O1 := O1.tt ht1 | skip); (try replace R := R.tt ht1); (try replace qB := Nat.le_trans qB ht1.size); replace b := q0b b ht1 (by omega) (Nat.le_refl _); clear ht1) | ((with_reducible refine w20g ?_); refine j1t (n := l6) rfl _ _ rfl rfl rfl F2 ?_; intro _ t1 ht1; clear F2; replace F5 := F5.tt ht1; replace R := R.tt ht1; replace F1 := F1.tt ht1; replace b := q0b b ht1 htw (Nat.le_refl _); have F2 := t1; clear t1 ht1) | ((with_reducible refine w20g ?_); refine j1q (n := l7) rfl _ _ rfl rfl rfl F2 ?_; intro _ t1 ht1; clear F2; replace F5 := F5.tt ht1; replace R := R.tt ht1; replace F1 := F1.tt ht1; replace b := q0b b ht1 htw (Nat.le_refl _); have F2 := t1; clear t1 ht1) | ((with_reducible refine w20g ?_); refine j1u (n := l8) rfl _ _ rfl rfl rfl F2 ?_; intro _ t1 ht1; clear F2; replace F5 := F5.tt ht1; replace R := R.tt ht1; replace F1 := F1.tt ht1; replace b := q0b b ht1 htw (Nat.le_refl _); have F2 := t1; clear t1 ht1) | (go_at_call 147; refine (riCount g 4 _ _ F5).mono ?_; rintro _ _ ⟨n, st1, rfl, hn, k1, GC, ht1⟩; clear F5; have F5 := k1; clear k1; replace GC := hide GC; replace F2 := F2.tt ht1; replace F1 := F1.tt ht1; replace R := R.tt ht1; replace b := q0b b ht1 hgw (Nat.le_refl _); clear ht1))
   obtain ⟨P3, hP3⟩ : ∃ P : World → Prop, P = (fun x => P2 x ∧ OwnR x w.heap.size 84 65 v2 (e2.map outCs) []) := ⟨_, rfl⟩
   rw [← hP3] at R
   have HP3 := hide hP3
   clear hP3
   have z1 := F2.lt
   obtain ⟨m, B, hmB, hgB, htB, h0B, hwB, hBc, R⟩ := j3h R z1 hgg h0g (Nat.le_trans hgw (Nat.le_of_lt (Nat.lt_trans hgg z1)))
   clear z1
   go_cut [10] (fun s10 wx => ∃ (l : List CertT) (st2 : Option (List UInt8)) (v : Value), Hid (∀ x ∈ l, x.Ok) ∧ OwnR wx B 87 68 v (l.map certCs) [] ∧ Hid (Got (listP 4 certP) s8 l st2) ∧ RdI wx g st2 ∧ DAt wx gt v1 v2 v nilS nilS l6 l7 l8 ∧ StabX P3 m [g, gt, g0] wx ∧ DAt wx g0 nilS nilS nilS nilS nilS 0 0 0 ∧ Below w.heap.size w wx)
   case first =>
    go_wp2_with fail
    go_loopw [10] (fun cv wr => ∃ (k c : Nat) (l : List CertT) (sk : Option (List UInt8)) (v : Value), cv = .int .u64 c ∧ c + k = n ∧ Hid (l.length = k) ∧ Hid (∀ x ∈ l, x.Ok) ∧ OwnR wr B 87 68 v (l.map certCs) [] ∧ Hid (Got (manyP certP k) st1 l sk) ∧ RdI wr g sk ∧ DAt wr gt v1 v2 v nilS nilS l6 l7 l8 ∧ StabX P3 m [g, gt, g0] wr ∧ DAt wr g0 nilS nilS nilS nilS nilS 0 0 0 ∧ Below w.heap.size w wr ∧ B ≤ wr.heap.size) (fun cv _ => (RowKit.intOf cv).toNat)
    case atStart => exact ⟨0, n, [], st1, nilS, rfl, rfl, hide rfl, hide (by simp), OwnR.nil _ _ _ _, hide (q5k _ _), F5, F2, R, F1, b, hBc⟩
    case round =>
     clear F5 F2 R F1 b hBc
     obtain ⟨k, c, l, sk, v, rfl, hck, HLL, HOK, O1, HK, F5, F2, R, F1, b, qB⟩ := hrel
     cases sk with
     | none =>
      have HG : Hid (Got (listP 4 certP) s8 l none) := by
       have h1 := Got.stop (k := c) HK.out l
       rw [show k + c = n by omega] at h1
       exact hide (q3i GC.out h1)
      have cI := F5.flag0
      by_cases h0 : 0 < c
      ·have c0 := decide_eq_true (show (0 : Int) < (c : Int) by omega)
       go_wp2_with (with_reducible refine w0g ?_; refine q0a rfl 4 _ rfl rfl cI (by kernel_rfl) ?_)
       go_meet
       case rel => exact ⟨l, none, v, HOK, O1, HG, F5, F2, R, F1, b⟩
      ·have c0 := decide_eq_false (show ¬ (0 : Int) < (c : Int) by omega)
       go_wp2_with (with_reducible refine w0g ?_; refine q0a rfl 4 _ rfl rfl cI (by kernel_rfl) ?_)
       go_meet
       case rel => exact ⟨l, none, v, HOK, O1, HG, F5, F2, R, F1, b⟩
     | some r =>
      have cI := F5.flag1
      by_cases h0 : 0 < c
      ·have c0 := decide_eq_true (show (0 : Int) < (c : Int) by omega)
       have kw : IntKind.u64.wrap ((c : Int) - 1) = ((c - 1 : Nat) : Int) := by rw [IntKind.wrap_u64]; omega
       obtain ⟨c', hc'⟩ : ∃ c', c' = c - 1 := ⟨_, rfl⟩
       rw [← hc'] at kw
       have hc2 : c' + (k + 1) = n := by omega
       clear hc'
       have mA0 := True.intro
       have mA1 := True.intro
       have mA2 := True.intro
       have mA3 := True.intro
       have mA4 := True.intro
       have mA5 := True.intro
       go_wp2_with (first | (with_reducible refine w0g ?_; refine q0a rfl 4 _ rfl rfl cI (by kernel_rfl) ?_) | ((with_reducible show wpList _ _ _ (⟨_, Op.build 87 _, _, _, _, _⟩ :: _) _ _); refine q0q rfl 87 rfl (cs := certCs cert0) certZ0 ?_) | (with_reducible refine w3g ?_; have q5 := F5.lt; have q2 := F2.lt; have qR := R.lt; have qb := b.size; refine q3f rfl rfl ?_; intro _ gx hgx FX hb; replace O1 := O1.more O1.lt hgx; replace F5 := F5.later hb; replace F2 := F2.later hb; replace O1 := O1.later hb; replace R := R.later hb; replace F1 := F1.later hb; replace qB := Nat.le_trans qB hb.size; replace b := later b hb; clear hb) | ((with_reducible show wpList _ _ _ (⟨_, Op.store 87 _ _, _, _, _, _⟩ :: _) _ _); refine q2o rfl _ _ rfl rfl rfl x1w FX ?_; intro _ t1 ht1; clear FX; (try replace F5 := F5.tt ht1); (try replace F2 := F2.tt ht1); (try replace F1 := F1.tt ht1); (try replace FX := FX.tt ht1); (first | replace O1 := O1.tg ht1 hgB | replace O1 := O1.tt ht1 | skip); (try replace R := R.tt ht1); (try replace qB := Nat.le_trans qB ht1.size); replace b := q0b b ht1 (by omega) (Nat.le_refl _); have FX := t1; clear t1 ht1) | (go_at_call 145; clear mA0; refine (riText g _ 1 _ F5 (by decide)).mono ?_; rintro _ _ ⟨l0, s0, rfl, L0, k1, G0, ht1⟩; clear F5; have F5 := k1; clear k1; obtain ⟨kb, hkb⟩ : ∃ kb : Nat, kb = (l0.getD 0 0).toNat := ⟨_, rfl⟩; obtain ⟨sx, hsx⟩ : ∃ s : ByteArray, s = ⟨l0.toArray⟩ := ⟨_, rfl⟩; have hsz : 0 < sx.size := (x9m hsx L0); have e0 : ∀ h : 0 < sx.size, ((sx[0]'h).toNat : Int) = (kb : Int) := (x6i hsx hkb); have HKL := hide (x4g hkb); have HKB := hide hkb; rw [← hsx]; clear hsx hkb; replace L0 := hide L0; replace G0 := hide G0; (try replace F5 := F5.tt ht1); (try replace F2 := F2.tt ht1); (try replace F1 := F1.tt ht1); (try replace FX := FX.tt ht1); (first | replace O1 := O1.tg ht1 hgB | replace O1 := O1.tt ht1 | skip); (try replace R := R.tt ht1); (try replace qB := Nat.le_trans qB ht1.size); replace b := q0b b ht1 (by omega) (Nat.le_refl _); clear ht1) | (go_at_call 144; clear mA1; refine (riHash g _ _ F5).mono ?_; rintro _ _ ⟨l1, s1, rfl, L1, k1, G1, ht1⟩; clear F5; have F5 := k1; clear k1; replace L1 := hide L1; replace G1 := hide G1; (try replace F5 := F5.tt ht1); (try replace F2 := F2.tt ht1); (try replace F1 := F1.tt ht1); (try replace FX := FX.tt ht1); (first | replace O1 := O1.tg ht1 hgB | replace O1 := O1.tt ht1 | skip); (try replace R := R.tt ht1); (try replace qB := Nat.le_trans qB ht1.size); replace b := q0b b ht1 (by omega) (Nat.le_refl _); clear ht1) | (go_at_call 144; clear mA2; refine (riHash g _ _ F5).mono ?_; rintro _ _ ⟨l2, s2, rfl, L2, k1, G2, ht1⟩; clear F5; have F5 := k1; clear k1; replace L2 := hide L2; replace G2 := hide G2; (try replace F5 := F5.tt ht1); (try replace F2 := F2.tt ht1); (try replace F1 := F1.tt ht1); (try replace FX := FX.tt ht1); (first | replace O1 := O1.tg ht1 hgB | replace O1 := O1.tt ht1 | skip); (try replace R := R.tt ht1); (try replace qB := Nat.le_trans qB ht1.size); replace b := q0b b ht1 (by omega) (Nat.le_refl _); clear ht1) | (go_at_call 148; clear mA3; refine (riNumber g _ _ F5).mono ?_; rintro _ _ ⟨l3, s3, rfl, L3, k1, G3, ht1⟩; clear F5; have F5 := k1; clear k1; replace L3 := hide L3; replace G3 := hide G3; (try replace F5 := F5.tt ht1); (try replace F2 := F2.tt ht1); (try replace F1 := F1.tt ht1); (try replace FX := FX.tt ht1); (first | replace O1 := O1.tg ht1 hgB | replace O1 := O1.tt ht1 | skip); (try replace R := R.tt ht1); (try replace qB := Nat.le_trans qB ht1.size); replace b := q0b b ht1 (by omega) (Nat.le_refl _); clear ht1) | (go_at_call 148; clear mA4; refine (riNumber g _ _ F5).mono ?_; rintro _ _ ⟨l4, s4, rfl, L4, k1, G4, ht1⟩; clear F5; have F5 := k1; clear k1; replace L4 := hide L4; replace G4 := hide G4; (try replace F5 := F5.tt ht1); (try replace F2 := F2.tt ht1); (try replace F1 := F1.tt ht1); (try replace FX := FX.tt ht1); (first | replace O1 := O1.tg ht1 hgB | replace O1 := O1.tt ht1 | skip); (try replace R := R.tt ht1); (try replace qB := Nat.le_trans qB ht1.size); replace b := q0b b ht1 (by omega) (Nat.le_refl _); clear ht1) | (go_at_call 148; clear mA5; refine (riNumber g _ _ F5).mono ?_; rintro _ _ ⟨l5, s5, rfl, L5, k1, G5, ht1⟩; clear F5; have F5 := k1; clear k1; replace L5 := hide L5; replace G5 := hide G5; (try replace F5 := F5.tt ht1); (try replace F2 := F2.tt ht1); (try replace F1 := F1.tt ht1); (try replace FX := FX.tt ht1); (first | replace O1 := O1.tg ht1 hgB | replace O1 := O1.tt ht1 | skip); (try replace R := R.tt ht1); (try replace qB := Nat.le_trans qB ht1.size); replace b := q0b b ht1 (by omega) (Nat.le_refl _); clear ht1) | ((with_reducible show wpList _ _ _ (⟨_, Op.store 5 _ _, _, _, _, _⟩ :: _) _ _); refine j0r rfl _ _ rfl rfl rfl HKL.out FX ?_; intro _ t1 ht1; clear FX; (try replace F5 := F5.tt ht1); (try replace F2 := F2.tt ht1); (try replace F1 := F1.tt ht1); (try replace FX := FX.tt ht1); (first | replace O1 := O1.tg ht1 hgB | replace O1 := O1.tt ht1 | skip); (try replace R := R.tt ht1); (try replace qB := Nat.le_trans qB ht1.size); replace b := q0b b ht1 (by omega) (Nat.le_refl _); have FX := t1; clear t1 ht1) | ((with_reducible refine w14g ?_); refine q5r rfl _ _ rfl rfl rfl L1.out FX ?_; intro _ t1 ht1; clear FX; (try replace F5 := F5.tt ht1); (try replace F2 := F2.tt ht1); (try replace F1 := F1.tt ht1); (try replace FX := FX.tt ht1); (first | replace O1 := O1.tg ht1 hgB | replace O1 := O1.tt ht1 | skip); (try replace R := R.tt ht1); (try replace qB := Nat.le_trans qB ht1.size); replace b := q0b b ht1 (by omega) (Nat.le_refl _); have FX := t1; clear t1 ht1) | ((with_reducible refine w14g ?_); refine q4p rfl _ _ rfl rfl rfl L2.out FX ?_; intro _ t1 ht1; clear FX; (try replace F5 := F5.tt ht1); (try replace F2 := F2.tt ht1); (try replace F1 := F1.tt ht1); (try replace FX := FX.tt ht1); (first | replace O1 := O1.tg ht1 hgB | replace O1 := O1.tt ht1 | skip); (try replace R := R.tt ht1); (try replace qB := Nat.le_trans qB ht1.size); replace b := q0b b ht1 (by omega) (Nat.le_refl _); have FX := t1; clear t1 ht1) | ((with_reducible refine w20g ?_); refine q6s rfl _ _ rfl rfl rfl L3.out FX ?_; intro _ t1 ht1; clear FX; (try replace F5 := F5.tt ht1); (try replace F2 := F2.tt ht1); (try replace F1 := F1.tt ht1); (try replace FX := FX.tt ht1); (first | replace O1 := O1.tg ht1 hgB | replace O1 := O1.tt ht1 | skip); (try replace R := R.tt ht1); (try replace qB := Nat.le_trans qB ht1.size); replace b := q0b b ht1 (by omega) (Nat.le_refl _); have FX := t1; clear t1 ht1) | ((with_reducible refine w20g ?_); refine q8s rfl _ _ rfl rfl rfl L4.out FX ?_; intro _ t1 ht1; clear FX; (try replace F5 := F5.tt ht1); (try replace F2 := F2.tt ht1); (try replace F1 := F1.tt ht1); (try replace FX := FX.tt ht1); (first | replace O1 := O1.tg ht1 hgB | replace O1 := O1.tt ht1 | skip); (try replace R := R.tt ht1); (try replace qB := Nat.le_trans qB ht1.size); replace b := q0b b ht1 (by omega) (Nat.le_refl _); have FX := t1; clear t1 ht1) | ((with_reducible refine w20g ?_); refine j4v rfl _ _ rfl rfl rfl L5.out FX ?_; intro _ t1 ht1; clear FX; (try replace F5 := F5.tt ht1); (try replace F2 := F2.tt ht1); (try replace F1 := F1.tt ht1); (try replace FX := FX.tt ht1); (first | replace O1 := O1.tg ht1 hgB | replace O1 := O1.tt ht1 | skip); (try replace R := R.tt ht1); (try replace qB := Nat.le_trans qB ht1.size); replace b := q0b b ht1 (by omega) (Nat.le_refl _); have FX := t1; clear t1 ht1) | (with_reducible refine w0g ?_; refine q0a rfl 25 _ rfl rfl (DAt.c5 F2) (by kernel_rfl) ?_) | (with_reducible show wpList _ _ _ (⟨_, Op.load 87 _, _, _, _, _⟩ :: _) _ _; refine q1k rfl _ rfl rfl FX.cells FX.ok ?_) | ((with_reducible refine w7g ?_); refine q2q rfl certElem (by decide) _ rfl (v := certV ⟨kb, l1, l2, l3, l4, l5⟩) (el := certCs ⟨kb, l1, l2, l3, l4, l5⟩) rfl (by simp [certV, Value.cells]) (q1w (show CertT.Ok ⟨kb, l1, l2, l3, l4, l5⟩ from ⟨HKL.out, L1.out, L2.out, L3.out, L4.out, L5.out⟩)) (j1g _) ?_; intro _ g9 h9 O9 hb; clear FX; replace F5 := F5.later hb; replace F2 := F2.later hb; replace O1 := O1.later hb; replace R := R.later hb; replace F1 := F1.later hb; replace qB := Nat.le_trans qB hb.size; replace b := later b hb; clear hb) | ((with_reducible refine w15g ?_); refine q0s rfl _ _ certElem rfl rfl O1 rfl O9.sl O9.2.1 (k + 1) (by rw [List.length_map, HLL.out]; rfl) (by omega) (by omega) qB ?_; intro a2 c2 w2 O2 ht2 _; replace F5 := F5.touch ht2 (O1.off hgB); replace F2 := F2.touch ht2 (O1.off htB); replace R := R.touch ht2 (fun x hx => .inl (Nat.le_trans hmB (O1.ge x hx))); replace F1 := F1.touch ht2 (O1.off h0B); replace b := b.trans (ht2.below (B := w.heap.size) b.size (fun x hx => Nat.le_trans hwB (O1.ge x hx))); replace qB := Nat.le_trans qB ht2.size; clear O1 O9 ht2) | ((with_reducible show wpList _ _ _ (⟨_, Op.store 25 _ _, _, _, _, _⟩ :: _) _ _); refine q8u (v := .slice a2 (k + 1) c2) rfl _ _ rfl rfl rfl rfl rfl F2 ?_; intro _ t1 ht1; clear F2; replace F5 := F5.tt ht1; replace O2 := O2.tg ht1 htB; replace R := R.tt ht1; replace F1 := F1.tt ht1; replace b := q0b b ht1 htw (Nat.le_refl _); replace qB := Nat.le_trans qB ht1.size; have F2 := t1; clear t1 ht1))
       go_roundw
       case rel => exact ⟨k + 1, c', l ++ [⟨kb, l1, l2, l3, l4, l5⟩], s5, .slice a2 (k + 1) c2, by first | rfl | simp, hc2, hide (by rw [List.length_append, HLL.out]; rfl), hide (q6u HOK.out (show CertT.Ok ⟨kb, l1, l2, l3, l4, l5⟩ from ⟨HKL.out, L1.out, L2.out, L3.out, L4.out, L5.out⟩)), by rw [List.map_append]; exact O2, hide (HK.out.snoc (show Got certP (some r) ⟨kb, l1, l2, l3, l4, l5⟩ s5 from (by rw [HKB.out]; exact G0.out.bind (G1.out.bind (G2.out.bind (G3.out.bind (G4.out.bind (G5.out.last (f := fun n => (⟨(l0.getD 0 0).toNat, l1, l2, l3, l4, n⟩ : CertT)))))))))), F5, F2, R, F1, b, qB⟩
       case measure => simp [RowKit.intOf]; omega
      ·have c0 := decide_eq_false (show ¬ (0 : Int) < (c : Int) by omega)
       have HG : Hid (Got (listP 4 certP) s8 l (some r)) := by
        have h1 := HK.out
        rw [show k = n by omega] at h1
        exact hide (q3i GC.out h1)
       go_wp2_with (with_reducible refine w0g ?_; refine q0a rfl 4 _ rfl rfl cI (by kernel_rfl) ?_)
       go_meet
       case rel => exact ⟨l, some r, v, HOK, O1, HG, F5, F2, R, F1, b⟩
   case rest =>
    clear F5 F2 R F1 b GC hn hBc
    obtain ⟨e3, t3, v3, HO3, O1, HG3, F5, F2, R, F1, b⟩ := hcut
    replace R := q7q R (j7p ((((O1.low h0B).low htB).low hgB).base hwB))
    clear O1 hmB hgB htB h0B hwB
    go_upto_block 6 with (first | (go_at_call 147; refine (riCount g 4 _ _ F5).mono ?_; rintro _ _ ⟨n, st1, rfl, hn, k1, GC, ht1⟩; clear F5; have F5 := k1; clear k1; replace GC := hide GC; replace F2 := F2.tt ht1; replace F1 := F1.tt ht1; replace R := R.tt ht1; replace b := q0b b ht1 hgw (Nat.le_refl _); clear ht1))
    obtain ⟨P4, hP4⟩ : ∃ P : World → Prop, P = (fun x => P3 x ∧ OwnR x w.heap.size 87 68 v3 (e3.map certCs) []) := ⟨_, rfl⟩
    rw [← hP4] at R
    have HP4 := hide hP4
    clear hP4
    have z1 := F2.lt
    obtain ⟨m, B, hmB, hgB, htB, h0B, hwB, hBc, R⟩ := j3h R z1 hgg h0g (Nat.le_trans hgw (Nat.le_of_lt (Nat.lt_trans hgg z1)))
    clear z1
    go_cut [12] (fun s12 wx => ∃ (l : List PayT) (st2 : Option (List UInt8)) (v : Value), Hid (∀ x ∈ l, x.Ok) ∧ OwnR wx B 89 33 v (l.map payCs) [] ∧ Hid (Got (listP 4 payP) t3 l st2) ∧ RdI wx g st2 ∧ DAt wx gt v1 v2 v3 v nilS l6 l7 l8 ∧ StabX P4 m [g, gt, g0] wx ∧ DAt wx g0 nilS nilS nilS nilS nilS 0 0 0 ∧ Below w.heap.size w wx)
    case first =>
     go_wp2_with fail
     go_loopw [12] (fun cv wr => ∃ (k c : Nat) (l : List PayT) (sk : Option (List UInt8)) (v : Value), cv = .int .u64 c ∧ c + k = n ∧ Hid (l.length = k) ∧ Hid (∀ x ∈ l, x.Ok) ∧ OwnR wr B 89 33 v (l.map payCs) [] ∧ Hid (Got (manyP payP k) st1 l sk) ∧ RdI wr g sk ∧ DAt wr gt v1 v2 v3 v nilS l6 l7 l8 ∧ StabX P4 m [g, gt, g0] wr ∧ DAt wr g0 nilS nilS nilS nilS nilS 0 0 0 ∧ Below w.heap.size w wr ∧ B ≤ wr.heap.size) (fun cv _ => (RowKit.intOf cv).toNat)
     case atStart => exact ⟨0, n, [], st1, nilS, rfl, rfl, hide rfl, hide (by simp), OwnR.nil _ _ _ _, hide (q5k _ _), F5, F2, R, F1, b, hBc⟩
     case round =>
      clear F5 F2 R F1 b hBc
      obtain ⟨k, c, l, sk, v, rfl, hck, HLL, HOK, O1, HK, F5, F2, R, F1, b, qB⟩ := hrel
      cases sk with
      | none =>
       have HG : Hid (Got (listP 4 payP) t3 l none) := by
        have h1 := Got.stop (k := c) HK.out l
        rw [show k + c = n by omega] at h1
        exact hide (q3i GC.out h1)
       have cI := F5.flag0
       by_cases h0 : 0 < c
       ·have c0 := decide_eq_true (show (0 : Int) < (c : Int) by omega)
        go_wp2_with (with_reducible refine w0g ?_; refine q0a rfl 4 _ rfl rfl cI (by kernel_rfl) ?_)
        go_meet
        case rel => exact ⟨l, none, v, HOK, O1, HG, F5, F2, R, F1, b⟩
       ·have c0 := decide_eq_false (show ¬ (0 : Int) < (c : Int) by omega)
        go_wp2_with (with_reducible refine w0g ?_; refine q0a rfl 4 _ rfl rfl cI (by kernel_rfl) ?_)
        go_meet
        case rel => exact ⟨l, none, v, HOK, O1, HG, F5, F2, R, F1, b⟩
      | some r =>
       have cI := F5.flag1
       by_cases h0 : 0 < c
       ·have c0 := decide_eq_true (show (0 : Int) < (c : Int) by omega)
        have kw : IntKind.u64.wrap ((c : Int) - 1) = ((c - 1 : Nat) : Int) := by rw [IntKind.wrap_u64]; omega
        obtain ⟨c', hc'⟩ : ∃ c', c' = c - 1 := ⟨_, rfl⟩
        rw [← hc'] at kw
        have hc2 : c' + (k + 1) = n := by omega
        clear hc'
        have mA1 := True.intro
        have mA2 := True.intro
        go_wp2_with (first | (with_reducible refine w0g ?_; refine q0a rfl 4 _ rfl rfl cI (by kernel_rfl) ?_) | ((with_reducible show wpList _ _ _ (⟨_, Op.build 89 _, _, _, _, _⟩ :: _) _ _); refine q0q rfl 89 rfl (cs := payCs pay0) payZ0 ?_) | (with_reducible refine w3g ?_; have q5 := F5.lt; have q2 := F2.lt; have qR := R.lt; have qb := b.size; refine j1a rfl rfl ?_; intro _ gx hgx FX hb; replace O1 := O1.more O1.lt hgx; replace F5 := F5.later hb; replace F2 := F2.later hb; replace O1 := O1.later hb; replace R := R.later hb; replace F1 := F1.later hb; replace qB := Nat.le_trans qB hb.size; replace b := later b hb; clear hb) | ((with_reducible show wpList _ _ _ (⟨_, Op.store 89 _ _, _, _, _, _⟩ :: _) _ _); refine q9d rfl _ _ rfl rfl rfl x7q FX ?_; intro _ t1 ht1; clear FX; (try replace F5 := F5.tt ht1); (try replace F2 := F2.tt ht1); (try replace F1 := F1.tt ht1); (try replace FX := FX.tt ht1); (first | replace O1 := O1.tg ht1 hgB | replace O1 := O1.tt ht1 | skip); (try replace R := R.tt ht1); (try replace qB := Nat.le_trans qB ht1.size); replace b := q0b b ht1 (by omega) (Nat.le_refl _); have FX := t1; clear t1 ht1) | (go_at_call 144; clear mA1; refine (riHash g _ _ F5).mono ?_; rintro _ _ ⟨l1, s1, rfl, L1, k1, G1, ht1⟩; clear F5; have F5 := k1; clear k1; replace L1 := hide L1; replace G1 := hide G1; (try replace F5 := F5.tt ht1); (try replace F2 := F2.tt ht1); (try replace F1 := F1.tt ht1); (try replace FX := FX.tt ht1); (first | replace O1 := O1.tg ht1 hgB | replace O1 := O1.tt ht1 | skip); (try replace R := R.tt ht1); (try replace qB := Nat.le_trans qB ht1.size); replace b := q0b b ht1 (by omega) (Nat.le_refl _); clear ht1) | (go_at_call 148; clear mA2; refine (riNumber g _ _ F5).mono ?_; rintro _ _ ⟨l2, s2, rfl, L2, k1, G2, ht1⟩; clear F5; have F5 := k1; clear k1; replace L2 := hide L2; replace G2 := hide G2; (try replace F5 := F5.tt ht1); (try replace F2 := F2.tt ht1); (try replace F1 := F1.tt ht1); (try replace FX := FX.tt ht1); (first | replace O1 := O1.tg ht1 hgB | replace O1 := O1.tt ht1 | skip); (try replace R := R.tt ht1); (try replace qB := Nat.le_trans qB ht1.size); replace b := q0b b ht1 (by omega) (Nat.le_refl _); clear ht1) | ((with_reducible refine w14g ?_); refine j3c rfl _ _ rfl rfl rfl L1.out FX ?_; intro _ t1 ht1; clear FX; (try replace F5 := F5.tt ht1); (try replace F2 := F2.tt ht1); (try replace F1 := F1.tt ht1); (try replace FX := FX.tt ht1); (first | replace O1 := O1.tg ht1 hgB | replace O1 := O1.tt ht1 | skip); (try replace R := R.tt ht1); (try replace qB := Nat.le_trans qB ht1.size); replace b := q0b b ht1 (by omega) (Nat.le_refl _); have FX := t1; clear t1 ht1) | ((with_reducible refine w20g ?_); refine q9p rfl _ _ rfl rfl rfl L2.out FX ?_; intro _ t1 ht1; clear FX; (try replace F5 := F5.tt ht1); (try replace F2 := F2.tt ht1); (try replace F1 := F1.tt ht1); (try replace FX := FX.tt ht1); (first | replace O1 := O1.tg ht1 hgB | replace O1 := O1.tt ht1 | skip); (try replace R := R.tt ht1); (try replace qB := Nat.le_trans qB ht1.size); replace b := q0b b ht1 (by omega) (Nat.le_refl _); have FX := t1; clear t1 ht1) | (with_reducible refine w0g ?_; refine q0a rfl 26 _ rfl rfl (DAt.c6 F2) (by kernel_rfl) ?_) | (with_reducible show wpList _ _ _ (⟨_, Op.load 89 _, _, _, _, _⟩ :: _) _ _; refine q7b rfl _ rfl rfl FX.cells FX.ok ?_) | ((with_reducible refine w7g ?_); refine q2q rfl payElem (by decide) _ rfl (v := payV ⟨l1, l2⟩) (el := payCs ⟨l1, l2⟩) rfl (by simp [payV, Value.cells]) (q4h (show PayT.Ok ⟨l1, l2⟩ from ⟨L1.out, L2.out⟩)) (j3o _) ?_; intro _ g9 h9 O9 hb; clear FX; replace F5 := F5.later hb; replace F2 := F2.later hb; replace O1 := O1.later hb; replace R := R.later hb; replace F1 := F1.later hb; replace qB := Nat.le_trans qB hb.size; replace b := later b hb; clear hb) | ((with_reducible refine w15g ?_); refine q0s rfl _ _ payElem rfl rfl O1 rfl O9.sl O9.2.1 (k + 1) (by rw [List.length_map, HLL.out]; rfl) (by omega) (by omega) qB ?_; intro a2 c2 w2 O2 ht2 _; replace F5 := F5.touch ht2 (O1.off hgB); replace F2 := F2.touch ht2 (O1.off htB); replace R := R.touch ht2 (fun x hx => .inl (Nat.le_trans hmB (O1.ge x hx))); replace F1 := F1.touch ht2 (O1.off h0B); replace b := b.trans (ht2.below (B := w.heap.size) b.size (fun x hx => Nat.le_trans hwB (O1.ge x hx))); replace qB := Nat.le_trans qB ht2.size; clear O1 O9 ht2) | ((with_reducible show wpList _ _ _ (⟨_, Op.store 26 _ _, _, _, _, _⟩ :: _) _ _); refine q9x (v := .slice a2 (k + 1) c2) rfl _ _ rfl rfl rfl rfl rfl F2 ?_; intro _ t1 ht1; clear F2; replace F5 := F5.tt ht1; replace O2 := O2.tg ht1 htB; replace R := R.tt ht1; replace F1 := F1.tt ht1; replace b := q0b b ht1 htw (Nat.le_refl _); replace qB := Nat.le_trans qB ht1.size; have F2 := t1; clear t1 ht1))
        go_roundw
        case rel => exact ⟨k + 1, c', l ++ [⟨l1, l2⟩], s2, .slice a2 (k + 1) c2, by first | rfl | simp, hc2, hide (by rw [List.length_append, HLL.out]; rfl), hide (q6u HOK.out (show PayT.Ok ⟨l1, l2⟩ from ⟨L1.out, L2.out⟩)), by rw [List.map_append]; exact O2, hide (HK.out.snoc (show Got payP (some r) ⟨l1, l2⟩ s2 from G1.out.bind (G2.out.last (f := fun n => (⟨l1, n⟩ : PayT))))), F5, F2, R, F1, b, qB⟩
        case measure => simp [RowKit.intOf]; omega
       ·have c0 := decide_eq_false (show ¬ (0 : Int) < (c : Int) by omega)
        have HG : Hid (Got (listP 4 payP) t3 l (some r)) := by
         have h1 := HK.out
         rw [show k = n by omega] at h1
         exact hide (q3i GC.out h1)
        go_wp2_with (with_reducible refine w0g ?_; refine q0a rfl 4 _ rfl rfl cI (by kernel_rfl) ?_)
        go_meet
        case rel => exact ⟨l, some r, v, HOK, O1, HG, F5, F2, R, F1, b⟩
    case rest =>
     clear F5 F2 R F1 b GC hn hBc
     obtain ⟨e4, t4, v4, HO4, O1, HG4, F5, F2, R, F1, b⟩ := hcut
     replace R := q7q R (j7p ((((O1.low h0B).low htB).low hgB).base hwB))
     clear O1 hmB hgB htB h0B hwB
     go_upto_block 8 with (first | (go_at_call 147; refine (riCount g 8 _ _ F5).mono ?_; rintro _ _ ⟨n, st1, rfl, hn, k1, GC, ht1⟩; clear F5; have F5 := k1; clear k1; replace GC := hide GC; replace F2 := F2.tt ht1; replace F1 := F1.tt ht1; replace R := R.tt ht1; replace b := q0b b ht1 hgw (Nat.le_refl _); clear ht1))
     obtain ⟨P5, hP5⟩ : ∃ P : World → Prop, P = (fun x => P4 x ∧ OwnR x w.heap.size 89 33 v4 (e4.map payCs) []) := ⟨_, rfl⟩
     rw [← hP5] at R
     have HP5 := hide hP5
     clear hP5
     have z1 := F2.lt
     obtain ⟨m, B, hmB, hgB, htB, h0B, hwB, hBc, R⟩ := j3h R z1 hgg h0g (Nat.le_trans hgw (Nat.le_of_lt (Nat.lt_trans hgg z1)))
     clear z1
     go_cut [14] (fun s14 wx => ∃ (l : List WitT) (st2 : Option (List UInt8)) (v : Value), Hid (∀ x ∈ l, x.Ok) ∧ OwnR wx B 74 33 v (l.map witCs) [] ∧ Hid (Got (listP 8 witP) t4 l st2) ∧ RdI wx g st2 ∧ DAt wx gt v1 v2 v3 v4 v l6 l7 l8 ∧ StabX P5 m [g, gt, g0] wx ∧ DAt wx g0 nilS nilS nilS nilS nilS 0 0 0 ∧ Below w.heap.size w wx)
     case first =>
      go_wp2_with fail
      go_loopw [14] (fun cv wr => ∃ (k c : Nat) (l : List WitT) (sk : Option (List UInt8)) (v : Value), cv = .int .u64 c ∧ c + k = n ∧ Hid (l.length = k) ∧ Hid (∀ x ∈ l, x.Ok) ∧ OwnR wr B 74 33 v (l.map witCs) [] ∧ Hid (Got (manyP witP k) st1 l sk) ∧ RdI wr g sk ∧ DAt wr gt v1 v2 v3 v4 v l6 l7 l8 ∧ StabX P5 m [g, gt, g0] wr ∧ DAt wr g0 nilS nilS nilS nilS nilS 0 0 0 ∧ Below w.heap.size w wr ∧ B ≤ wr.heap.size) (fun cv _ => (RowKit.intOf cv).toNat)
      case atStart => exact ⟨0, n, [], st1, nilS, rfl, rfl, hide rfl, hide (by simp), OwnR.nil _ _ _ _, hide (q5k _ _), F5, F2, R, F1, b, hBc⟩
      case round =>
       clear F5 F2 R F1 b hBc
       obtain ⟨k, c, l, sk, v, rfl, hck, HLL, HOK, O1, HK, F5, F2, R, F1, b, qB⟩ := hrel
       cases sk with
       | none =>
        have HG : Hid (Got (listP 8 witP) t4 l none) := by
         have h1 := Got.stop (k := c) HK.out l
         rw [show k + c = n by omega] at h1
         exact hide (q3i GC.out h1)
        have cI := F5.flag0
        by_cases h0 : 0 < c
        ·have c0 := decide_eq_true (show (0 : Int) < (c : Int) by omega)
         go_wp2_with (with_reducible refine w0g ?_; refine q0a rfl 4 _ rfl rfl cI (by kernel_rfl) ?_)
         go_meet
         case rel => exact ⟨l, none, v, HOK, O1, HG, F5, F2, R, F1, b⟩
        ·have c0 := decide_eq_false (show ¬ (0 : Int) < (c : Int) by omega)
         go_wp2_with (with_reducible refine w0g ?_; refine q0a rfl 4 _ rfl rfl cI (by kernel_rfl) ?_)
         go_meet
         case rel => exact ⟨l, none, v, HOK, O1, HG, F5, F2, R, F1, b⟩
       | some r =>
        have cI := F5.flag1
        by_cases h0 : 0 < c
        ·have c0 := decide_eq_true (show (0 : Int) < (c : Int) by omega)
         have kw : IntKind.u64.wrap ((c : Int) - 1) = ((c - 1 : Nat) : Int) := by rw [IntKind.wrap_u64]; omega
         obtain ⟨c', hc'⟩ : ∃ c', c' = c - 1 := ⟨_, rfl⟩
         rw [← hc'] at kw
         have hc2 : c' + (k + 1) = n := by omega
         clear hc'
         have mA1 := True.intro
         have mA2 := True.intro
         go_wp2_with (first | (with_reducible refine w0g ?_; refine q0a rfl 4 _ rfl rfl cI (by kernel_rfl) ?_) | ((with_reducible show wpList _ _ _ (⟨_, Op.build 74 _, _, _, _, _⟩ :: _) _ _); refine q0q rfl 74 rfl (cs := witCs wit0) witZ0 ?_) | (with_reducible refine w3g ?_; have q5 := F5.lt; have q2 := F2.lt; have qR := R.lt; have qb := b.size; refine j0t rfl rfl ?_; intro _ gx hgx FX hb; replace O1 := O1.more O1.lt hgx; replace F5 := F5.later hb; replace F2 := F2.later hb; replace O1 := O1.later hb; replace R := R.later hb; replace F1 := F1.later hb; replace qB := Nat.le_trans qB hb.size; replace b := later b hb; clear hb) | ((with_reducible show wpList _ _ _ (⟨_, Op.store 74 _ _, _, _, _, _⟩ :: _) _ _); refine q8v rfl _ _ rfl rfl rfl x6q FX ?_; intro _ t1 ht1; clear FX; (try replace F5 := F5.tt ht1); (try replace F2 := F2.tt ht1); (try replace F1 := F1.tt ht1); (try replace FX := FX.tt ht1); (first | replace O1 := O1.tg ht1 hgB | replace O1 := O1.tt ht1 | skip); (try replace R := R.tt ht1); (try replace qB := Nat.le_trans qB ht1.size); replace b := q0b b ht1 (by omega) (Nat.le_refl _); have FX := t1; clear t1 ht1) | (go_at_call 144; clear mA1; refine (riHash g _ _ F5).mono ?_; rintro _ _ ⟨l1, s1, rfl, L1, k1, G1, ht1⟩; clear F5; have F5 := k1; clear k1; replace L1 := hide L1; replace G1 := hide G1; (try replace F5 := F5.tt ht1); (try replace F2 := F2.tt ht1); (try replace F1 := F1.tt ht1); (try replace FX := FX.tt ht1); (first | replace O1 := O1.tg ht1 hgB | replace O1 := O1.tt ht1 | skip); (try replace R := R.tt ht1); (try replace qB := Nat.le_trans qB ht1.size); replace b := q0b b ht1 (by omega) (Nat.le_refl _); clear ht1) | (go_at_call 145; clear mA2; refine (riText g _ 1024 _ F5 (by decide)).mono ?_; rintro _ _ ⟨l2, s2, rfl, L2, k1, G2, ht1⟩; clear F5; have F5 := k1; clear k1; replace L2 := hide L2; replace G2 := hide G2; (try replace F5 := F5.tt ht1); (try replace F2 := F2.tt ht1); (try replace F1 := F1.tt ht1); (try replace FX := FX.tt ht1); (first | replace O1 := O1.tg ht1 hgB | replace O1 := O1.tt ht1 | skip); (try replace R := R.tt ht1); (try replace qB := Nat.le_trans qB ht1.size); replace b := q0b b ht1 (by omega) (Nat.le_refl _); clear ht1) | ((with_reducible refine w14g ?_); refine j3y rfl _ _ rfl rfl rfl L1.out FX ?_; intro _ t1 ht1; clear FX; (try replace F5 := F5.tt ht1); (try replace F2 := F2.tt ht1); (try replace F1 := F1.tt ht1); (try replace FX := FX.tt ht1); (first | replace O1 := O1.tg ht1 hgB | replace O1 := O1.tt ht1 | skip); (try replace R := R.tt ht1); (try replace qB := Nat.le_trans qB ht1.size); replace b := q0b b ht1 (by omega) (Nat.le_refl _); have FX := t1; clear t1 ht1) | ((with_reducible refine w21g ?_); refine j3g rfl _ _ rfl rfl rfl FX ?_; intro _ t1 ht1; clear FX; (try replace F5 := F5.tt ht1); (try replace F2 := F2.tt ht1); (try replace F1 := F1.tt ht1); (try replace FX := FX.tt ht1); (first | replace O1 := O1.tg ht1 hgB | replace O1 := O1.tt ht1 | skip); (try replace R := R.tt ht1); (try replace qB := Nat.le_trans qB ht1.size); replace b := q0b b ht1 (by omega) (Nat.le_refl _); have FX := t1; clear t1 ht1) | (with_reducible refine w0g ?_; refine q0a rfl 27 _ rfl rfl (DAt.c7 F2) (by kernel_rfl) ?_) | (with_reducible show wpList _ _ _ (⟨_, Op.load 74 _, _, _, _, _⟩ :: _) _ _; refine q7c rfl _ rfl rfl FX.cells FX.ok ?_) | ((with_reducible refine w7g ?_); refine q2q rfl witElem (by decide) _ rfl (v := witV ⟨l1, ⟨l2.toArray⟩⟩) (el := witCs ⟨l1, ⟨l2.toArray⟩⟩) rfl (by simp [witV, Value.cells]) (q4k (show WitT.Ok ⟨l1, ⟨l2.toArray⟩⟩ from L1.out)) (j3t _) ?_; intro _ g9 h9 O9 hb; clear FX; replace F5 := F5.later hb; replace F2 := F2.later hb; replace O1 := O1.later hb; replace R := R.later hb; replace F1 := F1.later hb; replace qB := Nat.le_trans qB hb.size; replace b := later b hb; clear hb) | ((with_reducible refine w15g ?_); refine q0s rfl _ _ witElem rfl rfl O1 rfl O9.sl O9.2.1 (k + 1) (by rw [List.length_map, HLL.out]; rfl) (by omega) (by omega) qB ?_; intro a2 c2 w2 O2 ht2 _; replace F5 := F5.touch ht2 (O1.off hgB); replace F2 := F2.touch ht2 (O1.off htB); replace R := R.touch ht2 (fun x hx => .inl (Nat.le_trans hmB (O1.ge x hx))); replace F1 := F1.touch ht2 (O1.off h0B); replace b := b.trans (ht2.below (B := w.heap.size) b.size (fun x hx => Nat.le_trans hwB (O1.ge x hx))); replace qB := Nat.le_trans qB ht2.size; clear O1 O9 ht2) | ((with_reducible show wpList _ _ _ (⟨_, Op.store 27 _ _, _, _, _, _⟩ :: _) _ _); refine j0a (v := .slice a2 (k + 1) c2) rfl _ _ rfl rfl rfl rfl rfl F2 ?_; intro _ t1 ht1; clear F2; replace F5 := F5.tt ht1; replace O2 := O2.tg ht1 htB; replace R := R.tt ht1; replace F1 := F1.tt ht1; replace b := q0b b ht1 htw (Nat.le_refl _); replace qB := Nat.le_trans qB ht1.size; have F2 := t1; clear t1 ht1))
         go_roundw
         case rel => exact ⟨k + 1, c', l ++ [⟨l1, ⟨l2.toArray⟩⟩], s2, .slice a2 (k + 1) c2, by first | rfl | simp, hc2, hide (by rw [List.length_append, HLL.out]; rfl), hide (q6u HOK.out (show WitT.Ok ⟨l1, ⟨l2.toArray⟩⟩ from L1.out)), by rw [List.map_append]; exact O2, hide (HK.out.snoc (show Got witP (some r) ⟨l1, ⟨l2.toArray⟩⟩ s2 from G1.out.bind (G2.out.last (f := fun s : List UInt8 => (⟨l1, ⟨s.toArray⟩⟩ : WitT))))), F5, F2, R, F1, b, qB⟩
         case measure => simp [RowKit.intOf]; omega
        ·have c0 := decide_eq_false (show ¬ (0 : Int) < (c : Int) by omega)
         have HG : Hid (Got (listP 8 witP) t4 l (some r)) := by
          have h1 := HK.out
          rw [show k = n by omega] at h1
          exact hide (q3i GC.out h1)
         go_wp2_with (with_reducible refine w0g ?_; refine q0a rfl 4 _ rfl rfl cI (by kernel_rfl) ?_)
         go_meet
         case rel => exact ⟨l, some r, v, HOK, O1, HG, F5, F2, R, F1, b⟩
     case rest =>
      clear F5 F2 R F1 b GC hn hBc
      obtain ⟨e5, t5, v5, HO5, O1, HG5, F5, F2, R, F1, b⟩ := hcut
      replace R := q7q R (j7p ((((O1.low h0B).low htB).low hgB).base hwB))
      clear O1 hmB hgB htB h0B hwB
      have okd : Deed.Ok ⟨e1, e2, l6, l7, l8, e3, e4, e5⟩ := ⟨HO1.out, HO2.out, L6.out, L7.out, L8.out, HO3.out, HO4.out, HO5.out⟩
      obtain ⟨d, hd⟩ : ∃ d : Deed, d = ⟨e1, e2, l6, l7, l8, e3, e4, e5⟩ := ⟨_, rfl⟩
      have HDI : Hid (∀ x, (P5 x ∧ OwnR x w.heap.size 74 33 v5 (e5.map witCs) []) → DeedOwn x w.heap.size (deedV v1 v2 v3 v4 v5 l6 l7 l8) d) := by
       intro x hx
       obtain ⟨r5, y5⟩ := hx
       rw [HP5.out] at r5
       obtain ⟨r4, y4⟩ := r5
       rw [HP4.out] at r4
       obtain ⟨r3, y3⟩ := r4
       rw [HP3.out] at r3
       obtain ⟨r2, y2⟩ := r3
       rw [HP2.out] at r2
       obtain ⟨_, y1⟩ := r2
       rw [hd]
       exact ⟨v1, v2, v3, v4, v5, rfl, y1, y2, y3, y4, y5, okd⟩
      have hg1 : Got bodyP st0 ⟨e1, e2, l6, l7, l8, e3, e4, []⟩ t4 := HG1.out.bind (HG2.out.bind (G6.out.bind (G7.out.bind (G8.out.bind (HG3.out.bind (HG4.out.last (f := fun q => (⟨e1, e2, l6, l7, l8, e3, q, []⟩ : Deed))))))))
      have hg2 : Got deedP st0 d t5 := by rw [hd]; exact hg1.bind (HG5.out.last (f := fun q => (⟨e1, e2, l6, l7, l8, e3, e4, q⟩ : Deed)))
      have hT := HT.out d t5 hg2
      clear HP1 HP2 HP3 HP4 HP5 okd hg1 hg2 HG1 HG2 HG3 HG4 HG5 G6 G7 G8 HO1 HO2 HO3 HO4 HO5 L6 L7 L8 HT hd
      cases t5 with
      | none =>
       have HR : Hid (T = (deed0, 6)) := by rw [hT, if_neg (by simp)]; exact hide rfl
       have cI := F5.flag0
       clear hT R HDI
       go_wp2_with (first | (with_reducible refine w0g ?_; refine q0a rfl 4 _ rfl rfl cI (by kernel_rfl) ?_) | (with_reducible refine w0g ?_; refine q0a rfl 9 _ rfl rfl cS (by kernel_rfl) ?_) | (with_reducible refine w8g ?_; refine q5c rfl _ _ rfl rfl rfl HE.out ?_) | ((with_reducible refine w18g ?_); refine q0q rfl 29 rfl (cs := deedCs nilS nilS nilS nilS nilS 0 0 0) deedBuilt0 ?_) | ((with_reducible refine w13g ?_); refine q1b rfl _ _ rfl rfl (v1 := nilS) (v2 := nilS) (v3 := nilS) (v4 := nilS) (v5 := nilS) (f := 0) (s := 0) (t := 0) rfl rfl rfl rfl rfl rfl F1 ?_; intro _ t1 ht1; clear F1; replace b := q0b b ht1 hg0 (Nat.le_refl _); have F1 := t1; clear t1 ht1))
       refine bodyPost_ret (q3q rfl _ _ _ rfl rfl F1) rfl ?_
       rw [HR.out]
       exact ⟨⟨_, rfl, DeedOwn.nil _ _⟩, b⟩
      | some r =>
       have cI := F5.flag1
       obtain ⟨sx, cS, hsx⟩ := F5.rest
       have HM := hide (fun (w' : World) (h : DeedIs w' (deedV v1 v2 v3 v4 v5 l6 l7 l8) d) => HMY.out _ d w' h)
       by_cases hr : r = []
       ·have HE : Hid ((sx.toList == (⟨#[]⟩ : ByteArray).toList) = true) := by rw [ByteArray.toList_eq, hsx, hr, ByteArray.toList_eq]; exact hide rfl
        cases hm : mayD d
        ·have HR : Hid (T = (deed0, 6)) := by rw [hT, if_neg (by rw [hm]; simp)]; exact hide rfl
         rw [hm] at HM
         clear hT hm hr hsx
         go_wp2_with (first | (with_reducible refine w0g ?_; refine q0a rfl 4 _ rfl rfl cI (by kernel_rfl) ?_) | (with_reducible refine w0g ?_; refine q0a rfl 9 _ rfl rfl cS (by kernel_rfl) ?_) | (with_reducible refine w8g ?_; refine q5c rfl _ _ rfl rfl rfl HE.out ?_) | ((with_reducible refine w18g ?_); refine q0q rfl 29 rfl (cs := deedCs nilS nilS nilS nilS nilS 0 0 0) deedBuilt0 ?_) | (with_reducible refine w11g ?_; refine q1g rfl _ rfl rfl F2 ?_) | (go_at_call 13; refine (HM.out _ (HDI.out _ R.now).is).mono ?_; rintro _ _ ⟨rfl, hc⟩; replace F1 := F1.later hc; replace F2 := F2.later hc; replace R := R.later hc; replace b := later b hc; clear hc) | ((with_reducible refine w13g ?_); refine q1b rfl _ _ rfl rfl (v1 := nilS) (v2 := nilS) (v3 := nilS) (v4 := nilS) (v5 := nilS) (f := 0) (s := 0) (t := 0) rfl rfl rfl rfl rfl rfl F1 ?_; intro _ t1 ht1; clear F1; replace b := q0b b ht1 hg0 (Nat.le_refl _); have F1 := t1; clear t1 ht1))
         refine bodyPost_ret (q3q rfl _ _ _ rfl rfl F1) rfl ?_
         rw [HR.out]
         exact ⟨⟨_, rfl, DeedOwn.nil _ _⟩, b⟩
        ·have HR : Hid (T = (d, 0)) := by rw [hT, if_pos ⟨by rw [hr], hm⟩]; exact hide rfl
         rw [hm] at HM
         clear hT hm hr hsx
         go_wp2_with (first | (with_reducible refine w0g ?_; refine q0a rfl 4 _ rfl rfl cI (by kernel_rfl) ?_) | (with_reducible refine w0g ?_; refine q0a rfl 9 _ rfl rfl cS (by kernel_rfl) ?_) | (with_reducible refine w8g ?_; refine q5c rfl _ _ rfl rfl rfl HE.out ?_) | ((with_reducible refine w18g ?_); refine q0q rfl 29 rfl (cs := deedCs nilS nilS nilS nilS nilS 0 0 0) deedBuilt0 ?_) | (with_reducible refine w11g ?_; refine q1g rfl _ rfl rfl F2 ?_) | (go_at_call 13; refine (HM.out _ (HDI.out _ R.now).is).mono ?_; rintro _ _ ⟨rfl, hc⟩; replace F1 := F1.later hc; replace F2 := F2.later hc; replace R := R.later hc; replace b := later b hc; clear hc) | ((with_reducible refine w13g ?_); refine q1b rfl _ _ rfl rfl (v1 := v1) (v2 := v2) (v3 := v3) (v4 := v4) (v5 := v5) (f := l6) (s := l7) (t := l8) rfl F2.o1 F2.o2 F2.o3 F2.o4 F2.o5 F1 ?_; intro _ t1 ht1; clear F1; replace R := R.tt ht1; replace b := q0b b ht1 hg0 (Nat.le_refl _); have F1 := t1; clear t1 ht1))
         refine bodyPost_ret (q3q rfl _ _ _ rfl rfl F1) rfl ?_
         rw [HR.out]
         exact ⟨⟨_, rfl, HDI.out _ R.now⟩, b⟩
       ·have HE : Hid ((sx.toList == (⟨#[]⟩ : ByteArray).toList) = false) := by rw [ByteArray.toList_eq, hsx, ByteArray.toList_eq]; unfold Hid; rw [beq_eq_false_iff_ne]; exact hr
        have HR : Hid (T = (deed0, 6)) := by rw [hT, if_neg (by simp [hr])]; exact hide rfl
        clear hT hr hsx R HDI
        go_wp2_with (first | (with_reducible refine w0g ?_; refine q0a rfl 4 _ rfl rfl cI (by kernel_rfl) ?_) | (with_reducible refine w0g ?_; refine q0a rfl 9 _ rfl rfl cS (by kernel_rfl) ?_) | (with_reducible refine w8g ?_; refine q5c rfl _ _ rfl rfl rfl HE.out ?_) | ((with_reducible refine w18g ?_); refine q0q rfl 29 rfl (cs := deedCs nilS nilS nilS nilS nilS 0 0 0) deedBuilt0 ?_) | ((with_reducible refine w13g ?_); refine q1b rfl _ _ rfl rfl (v1 := nilS) (v2 := nilS) (v3 := nilS) (v4 := nilS) (v5 := nilS) (f := 0) (s := 0) (t := 0) rfl rfl rfl rfl rfl rfl F1 ?_; intro _ t1 ht1; clear F1; replace b := q0b b ht1 hg0 (Nat.le_refl _); have F1 := t1; clear t1 ht1))
        refine bodyPost_ret (q3q rfl _ _ _ rfl rfl F1) rfl ?_
        rw [HR.out]
        exact ⟨⟨_, rfl, DeedOwn.nil _ _⟩, b⟩
end Go.Proofs.YtbbfnpfkbbpjgaaGreat
