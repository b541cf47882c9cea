/- The reference of layer 13: Take. Printed by gen_reftake.py. -/
import Derived.Test.YtbbfnpfkbbpjgaaKTRiD
import Derived.Test.YtbbfnpfkbbpjgaaKTDeedR
import Derived.Test.YtbbfnpfkbbpjgaaKTDeed9
import Derived.Test.YtbbfnpfkbbpjgaaKTStIn
import Derived.Test.YtbbfnpfkbbpjgaaKTStCert
import Derived.Deep.CutBlock
import Derived.Deep.DeepCutAuto
namespace Go.Proofs.Ytbbfnpfkbbpjgaa
open Go.RowKit Go.Lib
set_option linter.unusedVariables false
set_option linter.unusedSimpArgs false

theorem got_counted {α : Type} {p : Rdr α} {most n : Nat} {st0 st1 st2 : Option (List UInt8)} {l : List α} (h : Got (countP most) st0 n st1) (k : Got (manyP p n) st1 l st2) : Got (listP most p) st0 l st2 := by
  refine ⟨fun s hs => ?_, fun hs => k.2 (h.2 hs)⟩
  rcases h.1 s hs with ⟨r, h1, h2⟩ | ⟨h1, h2⟩
  · obtain ⟨n', t, hp, hq⟩ := bind_is h1
    by_cases hm : most < n'
    · rw [if_pos hm] at hq; cases hq
    · rw [if_neg hm] at hq
      obtain ⟨rfl, rfl⟩ := pure_is hq
      have e : listP most p s = manyP p n' t := by unfold listP; rw [bind_some hp, if_neg hm]
      rw [e]
      exact k.1 _ h2
  · refine .inr ⟨?_, k.2 h2⟩
    unfold countP at h1
    unfold listP
    cases hp : numP s with
    | none => rw [bind_none hp]
    | some x =>
      obtain ⟨n', t⟩ := x
      rw [bind_some hp] at h1 ⊢
      by_cases hm : most < n'
      · rw [if_pos hm]
      · rw [if_neg hm] at h1; cases h1
theorem certZ0 : Try.prog.built 133 [] = some (certCs cert0).toArray := by kernel_rfl
theorem inZ0 : Try.prog.built 60 [] = some (inCs in0).toArray := by kernel_rfl
theorem outZ0 : Try.prog.built 48 [] = some (outCs out0).toArray := by kernel_rfl
theorem payZ0 : Try.prog.built 138 [] = some (payCs pay0).toArray := by kernel_rfl
theorem witZ0 : Try.prog.built 142 [] = some (witCs wit0).toArray := by kernel_rfl
theorem riBuilt (s : ByteArray) : Try.prog.built 101 [(0, .string s), (1, .bool true)] = some #[.string s, .bool true] := by kernel_rfl
/-- One thing more is kept. -/
theorem stab_more {P Q : World → Prop} {m : Nat} {X : List Nat} {w : World} (h : StabX P m X w) (k : StabX Q w.heap.size X w) : StabX (fun x => P x ∧ Q x) w.heap.size X w :=
  ⟨Nat.le_refl _, fun w' ht => ⟨(h.touch ht (fun x hx => hx.elim (fun h1 => .inl (Nat.le_trans h.lt h1)) .inr)).now, k.2 w' ht⟩⟩
theorem tk_begin {w : World} {gt f s t : Nat} {v1 v2 v3 v4 v5 : Value} (_ : DAt w gt v1 v2 v3 v4 v5 f s t) (X : List Nat) : StabX (fun _ => True) w.heap.size X w := ⟨Nat.le_refl _, fun _ _ => True.intro⟩
theorem tk_base {P : World → Prop} {m0 g gt g0 W0 : Nat} {X : List Nat} {w1 : World} (R : StabX P m0 X w1) (z1 : gt < w1.heap.size) (hgg : g < gt) (h0g : g0 < g) (hw : W0 ≤ w1.heap.size) : ∃ m B, m ≤ B ∧ g < B ∧ gt < B ∧ g0 < B ∧ W0 ≤ B ∧ B ≤ w1.heap.size ∧ StabX P m X w1 :=
  ⟨m0, w1.heap.size, R.lt, by omega, z1, by omega, hw, Nat.le_refl _, R⟩
theorem RdI.flag {w : World} {g : Nat} {st : Option (List UInt8)} (h : RdI w g st) : w.cell? ⟨g, 1, none⟩ = some (.bool st.isSome) := by
  obtain ⟨s, b, h1, _, h2⟩ := h
  cases st with
  | none => rw [RI.c1 h1, h2.bad rfl]; rfl
  | some r => rw [RI.c1 h1, (h2.good r rfl).1]; rfl
theorem RdI.flag0 {w : World} {g : Nat} (h : RdI w g none) : w.cell? ⟨g, 1, none⟩ = some (.bool false) := h.flag
theorem RdI.flag1 {w : World} {g : Nat} {r : List UInt8} (h : RdI w g (some r)) : w.cell? ⟨g, 1, none⟩ = some (.bool true) := h.flag
theorem RdI.rest {w : World} {g : Nat} {r : List UInt8} (h : RdI w g (some r)) : ∃ s : ByteArray, w.cell? ⟨g, 0, none⟩ = some (.string s) ∧ s.data.toList = r := by
  obtain ⟨s, b, h1, _, h2⟩ := h
  exact ⟨s, RI.c0 h1, (h2.good r rfl).2⟩

theorem text_one {l : List UInt8} {s : ByteArray} (h : s = ⟨l.toArray⟩) (hl : l.length = 1) : 0 < s.size := by rw [h]; show 0 < l.toArray.size; rw [List.size_toArray, hl]; decide
theorem text_zero {l : List UInt8} {s : ByteArray} {k : Nat} (h : s = ⟨l.toArray⟩) (hk : k = (l.getD 0 0).toNat) : ∀ h : 0 < s.size, ((s[0]'h).toNat : Int) = (k : Int) := fun hz => by rw [byte_at s 0 hz, h, hk]
theorem kind_small {l : List UInt8} {k : Nat} (hk : k = (l.getD 0 0).toNat) : k < 256 := by rw [hk]; exact UInt8.toNat_lt _
set_option maxRecDepth 100000 in
set_option maxHeartbeats 25600000 in
theorem refTake13_of (hMay : ∀ (v : Value) (d : Deed) (w : World), DeedIs w v d → Calls Try.prog 93 #[v] w fun x w' => x = .returned (.bool (mayD d)) ∧ Below w.heap.size w w') (s : ByteArray) (w : World) (hs : s.size ≤ 1048576) :
    Calls Try.prog 28 #[.string s] w fun e w' => (∃ v, e = .returned (.tuple #[v, .int .i64 (takeD s.data.toList).2]) ∧ DeedIs w' v (takeD s.data.toList).1) ∧ Below w.heap.size w w' := by
  have HMY := hide hMay
  clear hMay
  have HRB := hide (riBuilt s)
  have HT := hide (fun d st (h : Got deedP (some s.data.toList) d st) => takeD_got h)
  have b := Below.refl w.heap.size w
  have hcd : Cond (some s.data.toList) s true := ⟨fun h => (by cases h), fun r hr => ⟨rfl, Option.some.inj hr⟩⟩
  generalize hL : s.data.toList = L at *
  generalize takeD L = T at *
  clear hL
  obtain ⟨st0, hst0⟩ : ∃ st0, st0 = some L := ⟨_, rfl⟩
  rw [← hst0] at hcd
  have HT : Hid (∀ d st, Got deedP st0 d st → T = if st = some [] ∧ mayD d = true then (d, 0) else (deed0, 6)) := by rw [hst0]; exact HT
  clear hst0
  have mF1 := True.intro
  have mF2 := True.intro
  have mC := True.intro
  go_enter Try.func28, Try.ntmps28
  go_upto_block 0 with (first | (with_reducible show wpList _ _ _ (⟨_, Op.alloc 55, _, _, _, _⟩ :: _) _ _; clear mF1; refine wpl_mk_deed rfl rfl ?_; intro _ g0 hg0 F1 hb; replace b := later b hb; clear hb) | ((with_reducible show wpList _ _ _ (⟨_, Op.build 101 _, _, _, _, _⟩ :: _) _ _); refine wpl_built2 rfl 101 _ _ rfl rfl rfl (cs := [.string s, .bool true]) HRB.out ?_) | ((with_reducible show wpList _ _ _ (⟨_, Op.box 101 _, _, _, _, _⟩ :: _) _ _); have q1 := F1.lt; have qb := b.size; refine wpl_box rfl 101 _ rfl (v := .agg #[.string s, .bool true]) rfl (cs := [.string s, .bool true]) rfl ?_; intro _ g hg FI hb; have F5 : RdI _ g st0 := ⟨s, true, FI, hs, hcd⟩; clear FI; replace F1 := F1.later hb; replace b := later b hb; clear hb) | ((with_reducible show wpList _ _ _ (⟨_, Op.build 55 _, _, _, _, _⟩ :: _) _ _); refine wpl_built0 rfl 55 rfl (cs := deedCs nilS nilS nilS nilS nilS 0 0 0) deedBuilt0 ?_) | (with_reducible show wpList _ _ _ (⟨_, Op.alloc 55, _, _, _, _⟩ :: _) _ _; clear mF2; have q5 := F5.lt; refine wpl_mk_deed rfl rfl ?_; intro _ gt hgt F2 hb; replace F1 := F1.later hb; replace F5 := F5.later hb; replace b := later b hb; clear hb) | ((with_reducible show wpList _ _ _ (⟨_, Op.store 55 _ _, _, _, _, _⟩ :: _) _ _); refine wpl_set_deed rfl _ _ rfl rfl (v1 := nilS) (v2 := nilS) (v3 := nilS) (v4 := nilS) (v5 := nilS) (f := 0) (s := 0) (t := 0) rfl rfl rfl rfl rfl rfl F2 ?_; intro _ t1 ht1; clear F2; replace F1 := F1.tt ht1; replace F5 := F5.tt ht1; replace b := below_touch b ht1 (by omega) (Nat.le_refl _); have F2 := t1; clear t1 ht1; have hq2 := F2.lt; have R := tk_begin F2 [g, gt, g0]; have h0g : g0 < g := (by omega); have hgw : w.heap.size ≤ g := (by omega); have htw : w.heap.size ≤ gt := (by omega); have hgg : g < gt := (by omega)) | (go_at_call 62; refine (riCount g 8 _ _ F5).mono ?_; rintro _ _ ⟨n, st1, rfl, hn, k1, GC, ht1⟩; clear F5; have F5 := k1; clear k1; replace GC := hide GC; replace F2 := F2.tt ht1; replace F1 := F1.tt ht1; replace R := R.tt ht1; replace b := below_touch b ht1 hgw (Nat.le_refl _); clear ht1))
  obtain ⟨P1, hP1⟩ : ∃ P : World → Prop, P = (fun _ => True) := ⟨_, rfl⟩
  rw [← hP1] at R
  have HP1 := hide hP1
  clear hP1
  have z1 := F2.lt
  obtain ⟨m, B, hmB, hgB, htB, h0B, hwB, hBc, R⟩ := tk_base R z1 hgg h0g (Nat.le_trans hgw (Nat.le_of_lt (Nat.lt_trans hgg z1)))
  clear z1
  go_cut [6] (fun s6 wx => ∃ (l : List InT) (st2 : Option (List UInt8)) (v : Value), Hid (∀ x ∈ l, x.Ok) ∧ OwnR wx B 60 33 v (l.map inCs) [] ∧ Hid (Got (listP 8 inP) st0 l st2) ∧ RdI wx g st2 ∧ DAt wx gt v nilS nilS nilS nilS 0 0 0 ∧ StabX P1 m [g, gt, g0] wx ∧ DAt wx g0 nilS nilS nilS nilS nilS 0 0 0 ∧ Below w.heap.size w wx)
  case first =>
    go_wp2_with fail
    go_loopw [6] (fun cv wr => ∃ (k c : Nat) (l : List InT) (sk : Option (List UInt8)) (v : Value), cv = .int .u64 c ∧ c + k = n ∧ Hid (l.length = k) ∧ Hid (∀ x ∈ l, x.Ok) ∧ OwnR wr B 60 33 v (l.map inCs) [] ∧ Hid (Got (manyP inP k) st1 l sk) ∧ RdI wr g sk ∧ DAt wr gt v nilS nilS nilS nilS 0 0 0 ∧ StabX P1 m [g, gt, g0] wr ∧ DAt wr g0 nilS nilS nilS nilS nilS 0 0 0 ∧ Below w.heap.size w wr ∧ B ≤ wr.heap.size) (fun cv _ => (RowKit.intOf cv).toNat)
    case atStart => exact ⟨0, n, [], st1, nilS, rfl, rfl, hide rfl, hide (by simp), OwnR.nil _ _ _ _, hide (got_none _ _), F5, F2, R, F1, b, hBc⟩
    case round =>
      clear F5 F2 R F1 b hBc
      obtain ⟨k, c, l, sk, v, rfl, hck, HLL, HOK, O1, HK, F5, F2, R, F1, b, qB⟩ := hrel
      cases sk with
      | none =>
        have HG : Hid (Got (listP 8 inP) st0 l none) := by
          have h1 := Got.stop (k := c) HK.out l
          rw [show k + c = n by omega] at h1
          exact hide (got_counted GC.out h1)
        have cI := F5.flag0
        by_cases h0 : 0 < c
        · have c0 := decide_eq_true (show (0 : Int) < (c : Int) by omega)
          go_wp2_with (with_reducible show wpList _ _ _ (⟨_, Op.load _ _, _, _, _, _⟩ :: _) _ _; refine wpl_load_one rfl 4 _ rfl rfl cI (by kernel_rfl) ?_)
          go_meet
          case rel => exact ⟨l, none, v, HOK, O1, HG, F5, F2, R, F1, b⟩
        · have c0 := decide_eq_false (show ¬ (0 : Int) < (c : Int) by omega)
          go_wp2_with (with_reducible show wpList _ _ _ (⟨_, Op.load _ _, _, _, _, _⟩ :: _) _ _; refine wpl_load_one rfl 4 _ rfl rfl cI (by kernel_rfl) ?_)
          go_meet
          case rel => exact ⟨l, none, v, HOK, O1, HG, F5, F2, R, F1, b⟩
      | some r =>
        have cI := F5.flag1
        by_cases h0 : 0 < c
        · have c0 := decide_eq_true (show (0 : Int) < (c : Int) by omega)
          have kw : IntKind.u64.wrap ((c : Int) - 1) = ((c - 1 : Nat) : Int) := by rw [IntKind.wrap_u64]; omega
          obtain ⟨c', hc'⟩ : ∃ c', c' = c - 1 := ⟨_, rfl⟩
          rw [← hc'] at kw
          have hc2 : c' + (k + 1) = n := by omega
          clear hc'
          have mA1 := True.intro
          have mA2 := True.intro
          go_wp2_with (first | (with_reducible show wpList _ _ _ (⟨_, Op.load _ _, _, _, _, _⟩ :: _) _ _; refine wpl_load_one rfl 4 _ rfl rfl cI (by kernel_rfl) ?_) | ((with_reducible show wpList _ _ _ (⟨_, Op.build 60 _, _, _, _, _⟩ :: _) _ _); refine wpl_built0 rfl 60 rfl (cs := inCs in0) inZ0 ?_) | (with_reducible show wpList _ _ _ (⟨_, Op.alloc _, _, _, _, _⟩ :: _) _ _; have q5 := F5.lt; have q2 := F2.lt; have qR := R.lt; have qb := b.size; refine wpl_mk_in rfl rfl ?_; intro _ gx hgx FX hb; replace O1 := O1.more O1.lt hgx; replace F5 := F5.later hb; replace F2 := F2.later hb; replace O1 := O1.later hb; replace R := R.later hb; replace F1 := F1.later hb; replace qB := Nat.le_trans qB hb.size; replace b := later b hb; clear hb) | ((with_reducible show wpList _ _ _ (⟨_, Op.store 60 _ _, _, _, _, _⟩ :: _) _ _); refine wpl_set_in rfl _ _ rfl rfl rfl in0_ok FX ?_; intro _ t1 ht1; clear FX; (try replace F5 := F5.tt ht1); (try replace F2 := F2.tt ht1); (try replace F1 := F1.tt ht1); (try replace FX := FX.tt ht1); (first | replace O1 := O1.tg ht1 hgB | replace O1 := O1.tt ht1 | skip); (try replace R := R.tt ht1); (try replace qB := Nat.le_trans qB ht1.size); replace b := below_touch b ht1 (by omega) (Nat.le_refl _); have FX := t1; clear t1 ht1) | (go_at_call 61; clear mA1; refine (riHash g _ _ F5).mono ?_; rintro _ _ ⟨l1, s1, rfl, L1, k1, G1, ht1⟩; clear F5; have F5 := k1; clear k1; replace L1 := hide L1; replace G1 := hide G1; (try replace F5 := F5.tt ht1); (try replace F2 := F2.tt ht1); (try replace F1 := F1.tt ht1); (try replace FX := FX.tt ht1); (first | replace O1 := O1.tg ht1 hgB | replace O1 := O1.tt ht1 | skip); (try replace R := R.tt ht1); (try replace qB := Nat.le_trans qB ht1.size); replace b := below_touch b ht1 (by omega) (Nat.le_refl _); clear ht1) | (go_at_call 60; clear mA2; refine (riNumber g _ _ F5).mono ?_; rintro _ _ ⟨l2, s2, rfl, L2, k1, G2, ht1⟩; clear F5; have F5 := k1; clear k1; replace L2 := hide L2; replace G2 := hide G2; (try replace F5 := F5.tt ht1); (try replace F2 := F2.tt ht1); (try replace F1 := F1.tt ht1); (try replace FX := FX.tt ht1); (first | replace O1 := O1.tg ht1 hgB | replace O1 := O1.tt ht1 | skip); (try replace R := R.tt ht1); (try replace qB := Nat.le_trans qB ht1.size); replace b := below_touch b ht1 (by omega) (Nat.le_refl _); clear ht1) | ((with_reducible show wpList _ _ _ (⟨_, Op.store 27 _ _, _, _, _, _⟩ :: _) _ _); refine wpl_set_in_tx rfl _ _ rfl rfl rfl L1.out FX ?_; intro _ t1 ht1; clear FX; (try replace F5 := F5.tt ht1); (try replace F2 := F2.tt ht1); (try replace F1 := F1.tt ht1); (try replace FX := FX.tt ht1); (first | replace O1 := O1.tg ht1 hgB | replace O1 := O1.tt ht1 | skip); (try replace R := R.tt ht1); (try replace qB := Nat.le_trans qB ht1.size); replace b := below_touch b ht1 (by omega) (Nat.le_refl _); have FX := t1; clear t1 ht1) | ((with_reducible show wpList _ _ _ (⟨_, Op.store 23 _ _, _, _, _, _⟩ :: _) _ _); refine wpl_set_in_index rfl _ _ rfl rfl rfl L2.out FX ?_; intro _ t1 ht1; clear FX; (try replace F5 := F5.tt ht1); (try replace F2 := F2.tt ht1); (try replace F1 := F1.tt ht1); (try replace FX := FX.tt ht1); (first | replace O1 := O1.tg ht1 hgB | replace O1 := O1.tt ht1 | skip); (try replace R := R.tt ht1); (try replace qB := Nat.le_trans qB ht1.size); replace b := below_touch b ht1 (by omega) (Nat.le_refl _); have FX := t1; clear t1 ht1) | (with_reducible show wpList _ _ _ (⟨_, Op.load _ _, _, _, _, _⟩ :: _) _ _; refine wpl_load_one rfl 50 _ rfl rfl (DAt.c0 F2) (by kernel_rfl) ?_) | (with_reducible show wpList _ _ _ (⟨_, Op.load 60 _, _, _, _, _⟩ :: _) _ _; refine wpl_ld_in rfl _ rfl rfl FX.cells FX.ok ?_) | ((with_reducible show wpList _ _ _ (⟨_, Op.buildSlice _ _ _, _, _, _, _⟩ :: _) _ _); refine wpl_row1 rfl inElem (by decide) _ rfl (v := inV ⟨l1, l2⟩) (el := inCs ⟨l1, l2⟩) rfl (by simp [inV, Value.cells]) (inCs_length (show InT.Ok ⟨l1, l2⟩ from ⟨L1.out, L2.out⟩)) (inCs_one _) ?_; intro _ g9 h9 O9 hb; clear FX; replace F5 := F5.later hb; replace F2 := F2.later hb; replace O1 := O1.later hb; replace R := R.later hb; replace F1 := F1.later hb; replace qB := Nat.le_trans qB hb.size; replace b := later b hb; clear hb) | ((with_reducible show wpList _ _ _ (⟨_, Op.call _, _, _, _, _⟩ :: _) _ _); refine wpl_append_row rfl _ _ inElem rfl rfl O1 rfl O9.sl O9.2.1 (k + 1) (by rw [List.length_map, HLL.out]; rfl) (by omega) (by omega) qB ?_; intro a2 c2 w2 O2 ht2 _; replace F5 := F5.touch ht2 (O1.off hgB); replace F2 := F2.touch ht2 (O1.off htB); replace R := R.touch ht2 (fun x hx => .inl (Nat.le_trans hmB (O1.ge x hx))); replace F1 := F1.touch ht2 (O1.off h0B); replace b := b.trans (ht2.below (B := w.heap.size) b.size (fun x hx => Nat.le_trans hwB (O1.ge x hx))); replace qB := Nat.le_trans qB ht2.size; clear O1 O9 ht2) | ((with_reducible show wpList _ _ _ (⟨_, Op.store 50 _ _, _, _, _, _⟩ :: _) _ _); refine wpl_set_dins (v := .slice a2 (k + 1) c2) rfl _ _ rfl rfl rfl rfl rfl F2 ?_; intro _ t1 ht1; clear F2; replace F5 := F5.tt ht1; replace O2 := O2.tg ht1 htB; replace R := R.tt ht1; replace F1 := F1.tt ht1; replace b := below_touch b ht1 htw (Nat.le_refl _); replace qB := Nat.le_trans qB ht1.size; have F2 := t1; clear t1 ht1))
          go_roundw
          case rel => exact ⟨k + 1, c', l ++ [⟨l1, l2⟩], s2, .slice a2 (k + 1) c2, by first | rfl | simp, hc2, hide (by rw [List.length_append, HLL.out]; rfl), hide (ok_snoc HOK.out (show InT.Ok ⟨l1, l2⟩ from ⟨L1.out, L2.out⟩)), by rw [List.map_append]; exact O2, hide (HK.out.snoc (show Got inP (some r) ⟨l1, l2⟩ s2 from G1.out.bind (G2.out.last (f := fun n => (⟨l1, n⟩ : InT))))), F5, F2, R, F1, b, qB⟩
          case measure => simp [RowKit.intOf]; omega
        · have c0 := decide_eq_false (show ¬ (0 : Int) < (c : Int) by omega)
          have HG : Hid (Got (listP 8 inP) st0 l (some r)) := by
            have h1 := HK.out
            rw [show k = n by omega] at h1
            exact hide (got_counted GC.out h1)
          go_wp2_with (with_reducible show wpList _ _ _ (⟨_, Op.load _ _, _, _, _, _⟩ :: _) _ _; refine wpl_load_one rfl 4 _ rfl rfl cI (by kernel_rfl) ?_)
          go_meet
          case rel => exact ⟨l, some r, v, HOK, O1, HG, F5, F2, R, F1, b⟩
  case rest =>
    clear F5 F2 R F1 b GC hn hBc
    obtain ⟨e1, t1, v1, HO1, O1, HG1, F5, F2, R, F1, b⟩ := hcut
    replace R := stab_more R (((O1.low h0B).low htB).low hgB).st
    clear O1 hmB hgB htB h0B hwB
    go_upto_block 2 with (first | (go_at_call 62; refine (riCount g 8 _ _ F5).mono ?_; rintro _ _ ⟨n, st1, rfl, hn, k1, GC, ht1⟩; clear F5; have F5 := k1; clear k1; replace GC := hide GC; replace F2 := F2.tt ht1; replace F1 := F1.tt ht1; replace R := R.tt ht1; replace b := below_touch b ht1 hgw (Nat.le_refl _); clear ht1))
    obtain ⟨P2, hP2⟩ : ∃ P : World → Prop, P = (fun x => P1 x ∧ Sl x v1 33 (e1.map inCs)) := ⟨_, rfl⟩
    rw [← hP2] at R
    have HP2 := hide hP2
    clear hP2
    have z1 := F2.lt
    obtain ⟨m, B, hmB, hgB, htB, h0B, hwB, hBc, R⟩ := tk_base R z1 hgg h0g (Nat.le_trans hgw (Nat.le_of_lt (Nat.lt_trans hgg z1)))
    clear z1
    go_cut [8] (fun s8 wx => ∃ (l : List OutT) (st2 : Option (List UInt8)) (v : Value), Hid (∀ x ∈ l, x.Ok) ∧ OwnR wx B 48 65 v (l.map outCs) [] ∧ Hid (Got (listP 8 outP) t1 l st2) ∧ RdI wx g st2 ∧ DAt wx gt v1 v nilS nilS nilS 0 0 0 ∧ StabX P2 m [g, gt, g0] wx ∧ DAt wx g0 nilS nilS nilS nilS nilS 0 0 0 ∧ Below w.heap.size w wx)
    case first =>
      go_wp2_with fail
      go_loopw [8] (fun cv wr => ∃ (k c : Nat) (l : List OutT) (sk : Option (List UInt8)) (v : Value), cv = .int .u64 c ∧ c + k = n ∧ Hid (l.length = k) ∧ Hid (∀ x ∈ l, x.Ok) ∧ OwnR wr B 48 65 v (l.map outCs) [] ∧ Hid (Got (manyP outP k) st1 l sk) ∧ RdI wr g sk ∧ DAt wr gt v1 v nilS nilS nilS 0 0 0 ∧ StabX P2 m [g, gt, g0] wr ∧ DAt wr g0 nilS nilS nilS nilS nilS 0 0 0 ∧ Below w.heap.size w wr ∧ B ≤ wr.heap.size) (fun cv _ => (RowKit.intOf cv).toNat)
      case atStart => exact ⟨0, n, [], st1, nilS, rfl, rfl, hide rfl, hide (by simp), OwnR.nil _ _ _ _, hide (got_none _ _), F5, F2, R, F1, b, hBc⟩
      case round =>
        clear F5 F2 R F1 b hBc
        obtain ⟨k, c, l, sk, v, rfl, hck, HLL, HOK, O1, HK, F5, F2, R, F1, b, qB⟩ := hrel
        cases sk with
        | none =>
          have HG : Hid (Got (listP 8 outP) t1 l none) := by
            have h1 := Got.stop (k := c) HK.out l
            rw [show k + c = n by omega] at h1
            exact hide (got_counted GC.out h1)
          have cI := F5.flag0
          by_cases h0 : 0 < c
          · have c0 := decide_eq_true (show (0 : Int) < (c : Int) by omega)
            go_wp2_with (with_reducible show wpList _ _ _ (⟨_, Op.load _ _, _, _, _, _⟩ :: _) _ _; refine wpl_load_one rfl 4 _ rfl rfl cI (by kernel_rfl) ?_)
            go_meet
            case rel => exact ⟨l, none, v, HOK, O1, HG, F5, F2, R, F1, b⟩
          · have c0 := decide_eq_false (show ¬ (0 : Int) < (c : Int) by omega)
            go_wp2_with (with_reducible show wpList _ _ _ (⟨_, Op.load _ _, _, _, _, _⟩ :: _) _ _; refine wpl_load_one rfl 4 _ rfl rfl cI (by kernel_rfl) ?_)
            go_meet
            case rel => exact ⟨l, none, v, HOK, O1, HG, F5, F2, R, F1, b⟩
        | some r =>
          have cI := F5.flag1
          by_cases h0 : 0 < c
          · have c0 := decide_eq_true (show (0 : Int) < (c : Int) by omega)
            have kw : IntKind.u64.wrap ((c : Int) - 1) = ((c - 1 : Nat) : Int) := by rw [IntKind.wrap_u64]; omega
            obtain ⟨c', hc'⟩ : ∃ c', c' = c - 1 := ⟨_, rfl⟩
            rw [← hc'] at kw
            have hc2 : c' + (k + 1) = n := by omega
            clear hc'
            have mA1 := True.intro
            have mA2 := True.intro
            have mA3 := True.intro
            go_wp2_with (first | (with_reducible show wpList _ _ _ (⟨_, Op.load _ _, _, _, _, _⟩ :: _) _ _; refine wpl_load_one rfl 4 _ rfl rfl cI (by kernel_rfl) ?_) | ((with_reducible show wpList _ _ _ (⟨_, Op.build 48 _, _, _, _, _⟩ :: _) _ _); refine wpl_built0 rfl 48 rfl (cs := outCs out0) outZ0 ?_) | (with_reducible show wpList _ _ _ (⟨_, Op.alloc _, _, _, _, _⟩ :: _) _ _; have q5 := F5.lt; have q2 := F2.lt; have qR := R.lt; have qb := b.size; refine wpl_mk_out rfl rfl ?_; intro _ gx hgx FX hb; replace O1 := O1.more O1.lt hgx; replace F5 := F5.later hb; replace F2 := F2.later hb; replace O1 := O1.later hb; replace R := R.later hb; replace F1 := F1.later hb; replace qB := Nat.le_trans qB hb.size; replace b := later b hb; clear hb) | ((with_reducible show wpList _ _ _ (⟨_, Op.store 48 _ _, _, _, _, _⟩ :: _) _ _); refine wpl_set_out rfl _ _ rfl rfl rfl out0_ok FX ?_; intro _ t1 ht1; clear FX; (try replace F5 := F5.tt ht1); (try replace F2 := F2.tt ht1); (try replace F1 := F1.tt ht1); (try replace FX := FX.tt ht1); (first | replace O1 := O1.tg ht1 hgB | replace O1 := O1.tt ht1 | skip); (try replace R := R.tt ht1); (try replace qB := Nat.le_trans qB ht1.size); replace b := below_touch b ht1 (by omega) (Nat.le_refl _); have FX := t1; clear t1 ht1) | (go_at_call 61; clear mA1; refine (riHash g _ _ F5).mono ?_; rintro _ _ ⟨l1, s1, rfl, L1, k1, G1, ht1⟩; clear F5; have F5 := k1; clear k1; replace L1 := hide L1; replace G1 := hide G1; (try replace F5 := F5.tt ht1); (try replace F2 := F2.tt ht1); (try replace F1 := F1.tt ht1); (try replace FX := FX.tt ht1); (first | replace O1 := O1.tg ht1 hgB | replace O1 := O1.tt ht1 | skip); (try replace R := R.tt ht1); (try replace qB := Nat.le_trans qB ht1.size); replace b := below_touch b ht1 (by omega) (Nat.le_refl _); clear ht1) | (go_at_call 61; clear mA2; refine (riHash g _ _ F5).mono ?_; rintro _ _ ⟨l2, s2, rfl, L2, k1, G2, ht1⟩; clear F5; have F5 := k1; clear k1; replace L2 := hide L2; replace G2 := hide G2; (try replace F5 := F5.tt ht1); (try replace F2 := F2.tt ht1); (try replace F1 := F1.tt ht1); (try replace FX := FX.tt ht1); (first | replace O1 := O1.tg ht1 hgB | replace O1 := O1.tt ht1 | skip); (try replace R := R.tt ht1); (try replace qB := Nat.le_trans qB ht1.size); replace b := below_touch b ht1 (by omega) (Nat.le_refl _); clear ht1) | (go_at_call 60; clear mA3; refine (riNumber g _ _ F5).mono ?_; rintro _ _ ⟨l3, s3, rfl, L3, k1, G3, ht1⟩; clear F5; have F5 := k1; clear k1; replace L3 := hide L3; replace G3 := hide G3; (try replace F5 := F5.tt ht1); (try replace F2 := F2.tt ht1); (try replace F1 := F1.tt ht1); (try replace FX := FX.tt ht1); (first | replace O1 := O1.tg ht1 hgB | replace O1 := O1.tt ht1 | skip); (try replace R := R.tt ht1); (try replace qB := Nat.le_trans qB ht1.size); replace b := below_touch b ht1 (by omega) (Nat.le_refl _); clear ht1) | ((with_reducible show wpList _ _ _ (⟨_, Op.store 27 _ _, _, _, _, _⟩ :: _) _ _); refine wpl_set_out_dst rfl _ _ rfl rfl rfl L1.out FX ?_; intro _ t1 ht1; clear FX; (try replace F5 := F5.tt ht1); (try replace F2 := F2.tt ht1); (try replace F1 := F1.tt ht1); (try replace FX := FX.tt ht1); (first | replace O1 := O1.tg ht1 hgB | replace O1 := O1.tt ht1 | skip); (try replace R := R.tt ht1); (try replace qB := Nat.le_trans qB ht1.size); replace b := below_touch b ht1 (by omega) (Nat.le_refl _); have FX := t1; clear t1 ht1) | ((with_reducible show wpList _ _ _ (⟨_, Op.store 27 _ _, _, _, _, _⟩ :: _) _ _); refine wpl_set_out_stake rfl _ _ rfl rfl rfl L2.out FX ?_; intro _ t1 ht1; clear FX; (try replace F5 := F5.tt ht1); (try replace F2 := F2.tt ht1); (try replace F1 := F1.tt ht1); (try replace FX := FX.tt ht1); (first | replace O1 := O1.tg ht1 hgB | replace O1 := O1.tt ht1 | skip); (try replace R := R.tt ht1); (try replace qB := Nat.le_trans qB ht1.size); replace b := below_touch b ht1 (by omega) (Nat.le_refl _); have FX := t1; clear t1 ht1) | ((with_reducible show wpList _ _ _ (⟨_, Op.store 23 _ _, _, _, _, _⟩ :: _) _ _); refine wpl_set_out_amount rfl _ _ rfl rfl rfl L3.out FX ?_; intro _ t1 ht1; clear FX; (try replace F5 := F5.tt ht1); (try replace F2 := F2.tt ht1); (try replace F1 := F1.tt ht1); (try replace FX := FX.tt ht1); (first | replace O1 := O1.tg ht1 hgB | replace O1 := O1.tt ht1 | skip); (try replace R := R.tt ht1); (try replace qB := Nat.le_trans qB ht1.size); replace b := below_touch b ht1 (by omega) (Nat.le_refl _); have FX := t1; clear t1 ht1) | (with_reducible show wpList _ _ _ (⟨_, Op.load _ _, _, _, _, _⟩ :: _) _ _; refine wpl_load_one rfl 28 _ rfl rfl (DAt.c1 F2) (by kernel_rfl) ?_) | (with_reducible show wpList _ _ _ (⟨_, Op.load 48 _, _, _, _, _⟩ :: _) _ _; refine wpl_ld_out rfl _ rfl rfl FX.cells FX.ok ?_) | ((with_reducible show wpList _ _ _ (⟨_, Op.buildSlice _ _ _, _, _, _, _⟩ :: _) _ _); refine wpl_row1 rfl outElem (by decide) _ rfl (v := outV ⟨l1, l2, l3⟩) (el := outCs ⟨l1, l2, l3⟩) rfl (by simp [outV, Value.cells]) (outCs_length (show OutT.Ok ⟨l1, l2, l3⟩ from ⟨L1.out, L2.out, L3.out⟩)) (outCs_one _) ?_; intro _ g9 h9 O9 hb; clear FX; replace F5 := F5.later hb; replace F2 := F2.later hb; replace O1 := O1.later hb; replace R := R.later hb; replace F1 := F1.later hb; replace qB := Nat.le_trans qB hb.size; replace b := later b hb; clear hb) | ((with_reducible show wpList _ _ _ (⟨_, Op.call _, _, _, _, _⟩ :: _) _ _); refine wpl_append_row rfl _ _ outElem rfl rfl O1 rfl O9.sl O9.2.1 (k + 1) (by rw [List.length_map, HLL.out]; rfl) (by omega) (by omega) qB ?_; intro a2 c2 w2 O2 ht2 _; replace F5 := F5.touch ht2 (O1.off hgB); replace F2 := F2.touch ht2 (O1.off htB); replace R := R.touch ht2 (fun x hx => .inl (Nat.le_trans hmB (O1.ge x hx))); replace F1 := F1.touch ht2 (O1.off h0B); replace b := b.trans (ht2.below (B := w.heap.size) b.size (fun x hx => Nat.le_trans hwB (O1.ge x hx))); replace qB := Nat.le_trans qB ht2.size; clear O1 O9 ht2) | ((with_reducible show wpList _ _ _ (⟨_, Op.store 28 _ _, _, _, _, _⟩ :: _) _ _); refine wpl_set_douts (v := .slice a2 (k + 1) c2) rfl _ _ rfl rfl rfl rfl rfl F2 ?_; intro _ t1 ht1; clear F2; replace F5 := F5.tt ht1; replace O2 := O2.tg ht1 htB; replace R := R.tt ht1; replace F1 := F1.tt ht1; replace b := below_touch b ht1 htw (Nat.le_refl _); replace qB := Nat.le_trans qB ht1.size; have F2 := t1; clear t1 ht1))
            go_roundw
            case rel => exact ⟨k + 1, c', l ++ [⟨l1, l2, l3⟩], s3, .slice a2 (k + 1) c2, by first | rfl | simp, hc2, hide (by rw [List.length_append, HLL.out]; rfl), hide (ok_snoc HOK.out (show OutT.Ok ⟨l1, l2, l3⟩ from ⟨L1.out, L2.out, L3.out⟩)), by rw [List.map_append]; exact O2, hide (HK.out.snoc (show Got outP (some r) ⟨l1, l2, l3⟩ s3 from G1.out.bind (G2.out.bind (G3.out.last (f := fun n => (⟨l1, l2, n⟩ : OutT)))))), F5, F2, R, F1, b, qB⟩
            case measure => simp [RowKit.intOf]; omega
          · have c0 := decide_eq_false (show ¬ (0 : Int) < (c : Int) by omega)
            have HG : Hid (Got (listP 8 outP) t1 l (some r)) := by
              have h1 := HK.out
              rw [show k = n by omega] at h1
              exact hide (got_counted GC.out h1)
            go_wp2_with (with_reducible show wpList _ _ _ (⟨_, Op.load _ _, _, _, _, _⟩ :: _) _ _; refine wpl_load_one rfl 4 _ rfl rfl cI (by kernel_rfl) ?_)
            go_meet
            case rel => exact ⟨l, some r, v, HOK, O1, HG, F5, F2, R, F1, b⟩
    case rest =>
      clear F5 F2 R F1 b GC hn hBc
      obtain ⟨e2, t2, v2, HO2, O1, HG2, F5, F2, R, F1, b⟩ := hcut
      replace R := stab_more R (((O1.low h0B).low htB).low hgB).st
      clear O1 hmB hgB htB h0B hwB
      have mA6 := True.intro
      have mA7 := True.intro
      have mA8 := True.intro
      go_upto_block 4 with (first | (go_at_call 60; clear mA6; refine (riNumber g _ _ F5).mono ?_; rintro _ _ ⟨l6, s6, rfl, L6, k1, G6, ht1⟩; clear F5; have F5 := k1; clear k1; replace L6 := hide L6; replace G6 := hide G6; (try replace F5 := F5.tt ht1); (try replace F2 := F2.tt ht1); (try replace F1 := F1.tt ht1); (try replace FX := FX.tt ht1); (first | replace O1 := O1.tg ht1 hgB | replace O1 := O1.tt ht1 | skip); (try replace R := R.tt ht1); (try replace qB := Nat.le_trans qB ht1.size); replace b := below_touch b ht1 (by omega) (Nat.le_refl _); clear ht1) | (go_at_call 60; clear mA7; refine (riNumber g _ _ F5).mono ?_; rintro _ _ ⟨l7, s7, rfl, L7, k1, G7, ht1⟩; clear F5; have F5 := k1; clear k1; replace L7 := hide L7; replace G7 := hide G7; (try replace F5 := F5.tt ht1); (try replace F2 := F2.tt ht1); (try replace F1 := F1.tt ht1); (try replace FX := FX.tt ht1); (first | replace O1 := O1.tg ht1 hgB | replace O1 := O1.tt ht1 | skip); (try replace R := R.tt ht1); (try replace qB := Nat.le_trans qB ht1.size); replace b := below_touch b ht1 (by omega) (Nat.le_refl _); clear ht1) | (go_at_call 60; clear mA8; refine (riNumber g _ _ F5).mono ?_; rintro _ _ ⟨l8, s8, rfl, L8, k1, G8, ht1⟩; clear F5; have F5 := k1; clear k1; replace L8 := hide L8; replace G8 := hide G8; (try replace F5 := F5.tt ht1); (try replace F2 := F2.tt ht1); (try replace F1 := F1.tt ht1); (try replace FX := FX.tt ht1); (first | replace O1 := O1.tg ht1 hgB | replace O1 := O1.tt ht1 | skip); (try replace R := R.tt ht1); (try replace qB := Nat.le_trans qB ht1.size); replace b := below_touch b ht1 (by omega) (Nat.le_refl _); clear ht1) | ((with_reducible show wpList _ _ _ (⟨_, Op.store 23 _ _, _, _, _, _⟩ :: _) _ _); refine wpl_set_dfee (n := l6) rfl _ _ rfl rfl rfl F2 ?_; intro _ t1 ht1; clear F2; replace F5 := F5.tt ht1; replace R := R.tt ht1; replace F1 := F1.tt ht1; replace b := below_touch b ht1 htw (Nat.le_refl _); have F2 := t1; clear t1 ht1) | ((with_reducible show wpList _ _ _ (⟨_, Op.store 23 _ _, _, _, _, _⟩ :: _) _ _); refine wpl_set_dfrm (n := l7) rfl _ _ rfl rfl rfl F2 ?_; intro _ t1 ht1; clear F2; replace F5 := F5.tt ht1; replace R := R.tt ht1; replace F1 := F1.tt ht1; replace b := below_touch b ht1 htw (Nat.le_refl _); have F2 := t1; clear t1 ht1) | ((with_reducible show wpList _ _ _ (⟨_, Op.store 23 _ _, _, _, _, _⟩ :: _) _ _); refine wpl_set_dtil (n := l8) rfl _ _ rfl rfl rfl F2 ?_; intro _ t1 ht1; clear F2; replace F5 := F5.tt ht1; replace R := R.tt ht1; replace F1 := F1.tt ht1; replace b := below_touch b ht1 htw (Nat.le_refl _); have F2 := t1; clear t1 ht1) | (go_at_call 62; refine (riCount g 4 _ _ F5).mono ?_; rintro _ _ ⟨n, st1, rfl, hn, k1, GC, ht1⟩; clear F5; have F5 := k1; clear k1; replace GC := hide GC; replace F2 := F2.tt ht1; replace F1 := F1.tt ht1; replace R := R.tt ht1; replace b := below_touch b ht1 hgw (Nat.le_refl _); clear ht1))
      obtain ⟨P3, hP3⟩ : ∃ P : World → Prop, P = (fun x => P2 x ∧ Sl x v2 65 (e2.map outCs)) := ⟨_, rfl⟩
      rw [← hP3] at R
      have HP3 := hide hP3
      clear hP3
      have z1 := F2.lt
      obtain ⟨m, B, hmB, hgB, htB, h0B, hwB, hBc, R⟩ := tk_base R z1 hgg h0g (Nat.le_trans hgw (Nat.le_of_lt (Nat.lt_trans hgg z1)))
      clear z1
      go_cut [10] (fun s10 wx => ∃ (l : List CertT) (st2 : Option (List UInt8)) (v : Value), Hid (∀ x ∈ l, x.Ok) ∧ OwnR wx B 133 68 v (l.map certCs) [] ∧ Hid (Got (listP 4 certP) s8 l st2) ∧ RdI wx g st2 ∧ DAt wx gt v1 v2 v nilS nilS l6 l7 l8 ∧ StabX P3 m [g, gt, g0] wx ∧ DAt wx g0 nilS nilS nilS nilS nilS 0 0 0 ∧ Below w.heap.size w wx)
      case first =>
        go_wp2_with fail
        go_loopw [10] (fun cv wr => ∃ (k c : Nat) (l : List CertT) (sk : Option (List UInt8)) (v : Value), cv = .int .u64 c ∧ c + k = n ∧ Hid (l.length = k) ∧ Hid (∀ x ∈ l, x.Ok) ∧ OwnR wr B 133 68 v (l.map certCs) [] ∧ Hid (Got (manyP certP k) st1 l sk) ∧ RdI wr g sk ∧ DAt wr gt v1 v2 v nilS nilS l6 l7 l8 ∧ StabX P3 m [g, gt, g0] wr ∧ DAt wr g0 nilS nilS nilS nilS nilS 0 0 0 ∧ Below w.heap.size w wr ∧ B ≤ wr.heap.size) (fun cv _ => (RowKit.intOf cv).toNat)
        case atStart => exact ⟨0, n, [], st1, nilS, rfl, rfl, hide rfl, hide (by simp), OwnR.nil _ _ _ _, hide (got_none _ _), F5, F2, R, F1, b, hBc⟩
        case round =>
          clear F5 F2 R F1 b hBc
          obtain ⟨k, c, l, sk, v, rfl, hck, HLL, HOK, O1, HK, F5, F2, R, F1, b, qB⟩ := hrel
          cases sk with
          | none =>
            have HG : Hid (Got (listP 4 certP) s8 l none) := by
              have h1 := Got.stop (k := c) HK.out l
              rw [show k + c = n by omega] at h1
              exact hide (got_counted GC.out h1)
            have cI := F5.flag0
            by_cases h0 : 0 < c
            · have c0 := decide_eq_true (show (0 : Int) < (c : Int) by omega)
              go_wp2_with (with_reducible show wpList _ _ _ (⟨_, Op.load _ _, _, _, _, _⟩ :: _) _ _; refine wpl_load_one rfl 4 _ rfl rfl cI (by kernel_rfl) ?_)
              go_meet
              case rel => exact ⟨l, none, v, HOK, O1, HG, F5, F2, R, F1, b⟩
            · have c0 := decide_eq_false (show ¬ (0 : Int) < (c : Int) by omega)
              go_wp2_with (with_reducible show wpList _ _ _ (⟨_, Op.load _ _, _, _, _, _⟩ :: _) _ _; refine wpl_load_one rfl 4 _ rfl rfl cI (by kernel_rfl) ?_)
              go_meet
              case rel => exact ⟨l, none, v, HOK, O1, HG, F5, F2, R, F1, b⟩
          | some r =>
            have cI := F5.flag1
            by_cases h0 : 0 < c
            · have c0 := decide_eq_true (show (0 : Int) < (c : Int) by omega)
              have kw : IntKind.u64.wrap ((c : Int) - 1) = ((c - 1 : Nat) : Int) := by rw [IntKind.wrap_u64]; omega
              obtain ⟨c', hc'⟩ : ∃ c', c' = c - 1 := ⟨_, rfl⟩
              rw [← hc'] at kw
              have hc2 : c' + (k + 1) = n := by omega
              clear hc'
              have mA0 := True.intro
              have mA1 := True.intro
              have mA2 := True.intro
              have mA3 := True.intro
              have mA4 := True.intro
              have mA5 := True.intro
              go_wp2_with (first | (with_reducible show wpList _ _ _ (⟨_, Op.load _ _, _, _, _, _⟩ :: _) _ _; refine wpl_load_one rfl 4 _ rfl rfl cI (by kernel_rfl) ?_) | ((with_reducible show wpList _ _ _ (⟨_, Op.build 133 _, _, _, _, _⟩ :: _) _ _); refine wpl_built0 rfl 133 rfl (cs := certCs cert0) certZ0 ?_) | (with_reducible show wpList _ _ _ (⟨_, Op.alloc _, _, _, _, _⟩ :: _) _ _; have q5 := F5.lt; have q2 := F2.lt; have qR := R.lt; have qb := b.size; refine wpl_mk_cert rfl rfl ?_; intro _ gx hgx FX hb; replace O1 := O1.more O1.lt hgx; replace F5 := F5.later hb; replace F2 := F2.later hb; replace O1 := O1.later hb; replace R := R.later hb; replace F1 := F1.later hb; replace qB := Nat.le_trans qB hb.size; replace b := later b hb; clear hb) | ((with_reducible show wpList _ _ _ (⟨_, Op.store 133 _ _, _, _, _, _⟩ :: _) _ _); refine wpl_set_cert rfl _ _ rfl rfl rfl cert0_ok FX ?_; intro _ t1 ht1; clear FX; (try replace F5 := F5.tt ht1); (try replace F2 := F2.tt ht1); (try replace F1 := F1.tt ht1); (try replace FX := FX.tt ht1); (first | replace O1 := O1.tg ht1 hgB | replace O1 := O1.tt ht1 | skip); (try replace R := R.tt ht1); (try replace qB := Nat.le_trans qB ht1.size); replace b := below_touch b ht1 (by omega) (Nat.le_refl _); have FX := t1; clear t1 ht1) | (go_at_call 92; clear mA0; refine (riText g _ 1 _ F5 (by decide)).mono ?_; rintro _ _ ⟨l0, s0, rfl, L0, k1, G0, ht1⟩; clear F5; have F5 := k1; clear k1; obtain ⟨kb, hkb⟩ : ∃ kb : Nat, kb = (l0.getD 0 0).toNat := ⟨_, rfl⟩; obtain ⟨sx, hsx⟩ : ∃ s : ByteArray, s = ⟨l0.toArray⟩ := ⟨_, rfl⟩; have hsz : 0 < sx.size := (text_one hsx L0); have e0 : ∀ h : 0 < sx.size, ((sx[0]'h).toNat : Int) = (kb : Int) := (text_zero hsx hkb); have HKL := hide (kind_small hkb); have HKB := hide hkb; rw [← hsx]; clear hsx hkb; replace L0 := hide L0; replace G0 := hide G0; (try replace F5 := F5.tt ht1); (try replace F2 := F2.tt ht1); (try replace F1 := F1.tt ht1); (try replace FX := FX.tt ht1); (first | replace O1 := O1.tg ht1 hgB | replace O1 := O1.tt ht1 | skip); (try replace R := R.tt ht1); (try replace qB := Nat.le_trans qB ht1.size); replace b := below_touch b ht1 (by omega) (Nat.le_refl _); clear ht1) | (go_at_call 61; clear mA1; refine (riHash g _ _ F5).mono ?_; rintro _ _ ⟨l1, s1, rfl, L1, k1, G1, ht1⟩; clear F5; have F5 := k1; clear k1; replace L1 := hide L1; replace G1 := hide G1; (try replace F5 := F5.tt ht1); (try replace F2 := F2.tt ht1); (try replace F1 := F1.tt ht1); (try replace FX := FX.tt ht1); (first | replace O1 := O1.tg ht1 hgB | replace O1 := O1.tt ht1 | skip); (try replace R := R.tt ht1); (try replace qB := Nat.le_trans qB ht1.size); replace b := below_touch b ht1 (by omega) (Nat.le_refl _); clear ht1) | (go_at_call 61; clear mA2; refine (riHash g _ _ F5).mono ?_; rintro _ _ ⟨l2, s2, rfl, L2, k1, G2, ht1⟩; clear F5; have F5 := k1; clear k1; replace L2 := hide L2; replace G2 := hide G2; (try replace F5 := F5.tt ht1); (try replace F2 := F2.tt ht1); (try replace F1 := F1.tt ht1); (try replace FX := FX.tt ht1); (first | replace O1 := O1.tg ht1 hgB | replace O1 := O1.tt ht1 | skip); (try replace R := R.tt ht1); (try replace qB := Nat.le_trans qB ht1.size); replace b := below_touch b ht1 (by omega) (Nat.le_refl _); clear ht1) | (go_at_call 60; clear mA3; refine (riNumber g _ _ F5).mono ?_; rintro _ _ ⟨l3, s3, rfl, L3, k1, G3, ht1⟩; clear F5; have F5 := k1; clear k1; replace L3 := hide L3; replace G3 := hide G3; (try replace F5 := F5.tt ht1); (try replace F2 := F2.tt ht1); (try replace F1 := F1.tt ht1); (try replace FX := FX.tt ht1); (first | replace O1 := O1.tg ht1 hgB | replace O1 := O1.tt ht1 | skip); (try replace R := R.tt ht1); (try replace qB := Nat.le_trans qB ht1.size); replace b := below_touch b ht1 (by omega) (Nat.le_refl _); clear ht1) | (go_at_call 60; clear mA4; refine (riNumber g _ _ F5).mono ?_; rintro _ _ ⟨l4, s4, rfl, L4, k1, G4, ht1⟩; clear F5; have F5 := k1; clear k1; replace L4 := hide L4; replace G4 := hide G4; (try replace F5 := F5.tt ht1); (try replace F2 := F2.tt ht1); (try replace F1 := F1.tt ht1); (try replace FX := FX.tt ht1); (first | replace O1 := O1.tg ht1 hgB | replace O1 := O1.tt ht1 | skip); (try replace R := R.tt ht1); (try replace qB := Nat.le_trans qB ht1.size); replace b := below_touch b ht1 (by omega) (Nat.le_refl _); clear ht1) | (go_at_call 60; clear mA5; refine (riNumber g _ _ F5).mono ?_; rintro _ _ ⟨l5, s5, rfl, L5, k1, G5, ht1⟩; clear F5; have F5 := k1; clear k1; replace L5 := hide L5; replace G5 := hide G5; (try replace F5 := F5.tt ht1); (try replace F2 := F2.tt ht1); (try replace F1 := F1.tt ht1); (try replace FX := FX.tt ht1); (first | replace O1 := O1.tg ht1 hgB | replace O1 := O1.tt ht1 | skip); (try replace R := R.tt ht1); (try replace qB := Nat.le_trans qB ht1.size); replace b := below_touch b ht1 (by omega) (Nat.le_refl _); clear ht1) | ((with_reducible show wpList _ _ _ (⟨_, Op.store 5 _ _, _, _, _, _⟩ :: _) _ _); refine wpl_set_cert_kind rfl _ _ rfl rfl rfl HKL.out FX ?_; intro _ t1 ht1; clear FX; (try replace F5 := F5.tt ht1); (try replace F2 := F2.tt ht1); (try replace F1 := F1.tt ht1); (try replace FX := FX.tt ht1); (first | replace O1 := O1.tg ht1 hgB | replace O1 := O1.tt ht1 | skip); (try replace R := R.tt ht1); (try replace qB := Nat.le_trans qB ht1.size); replace b := below_touch b ht1 (by omega) (Nat.le_refl _); have FX := t1; clear t1 ht1) | ((with_reducible show wpList _ _ _ (⟨_, Op.store 27 _ _, _, _, _, _⟩ :: _) _ _); refine wpl_set_cert_key rfl _ _ rfl rfl rfl L1.out FX ?_; intro _ t1 ht1; clear FX; (try replace F5 := F5.tt ht1); (try replace F2 := F2.tt ht1); (try replace F1 := F1.tt ht1); (try replace FX := FX.tt ht1); (first | replace O1 := O1.tg ht1 hgB | replace O1 := O1.tt ht1 | skip); (try replace R := R.tt ht1); (try replace qB := Nat.le_trans qB ht1.size); replace b := below_touch b ht1 (by omega) (Nat.le_refl _); have FX := t1; clear t1 ht1) | ((with_reducible show wpList _ _ _ (⟨_, Op.store 27 _ _, _, _, _, _⟩ :: _) _ _); refine wpl_set_cert_pool rfl _ _ rfl rfl rfl L2.out FX ?_; intro _ t1 ht1; clear FX; (try replace F5 := F5.tt ht1); (try replace F2 := F2.tt ht1); (try replace F1 := F1.tt ht1); (try replace FX := FX.tt ht1); (first | replace O1 := O1.tg ht1 hgB | replace O1 := O1.tt ht1 | skip); (try replace R := R.tt ht1); (try replace qB := Nat.le_trans qB ht1.size); replace b := below_touch b ht1 (by omega) (Nat.le_refl _); have FX := t1; clear t1 ht1) | ((with_reducible show wpList _ _ _ (⟨_, Op.store 23 _ _, _, _, _, _⟩ :: _) _ _); refine wpl_set_cert_a rfl _ _ rfl rfl rfl L3.out FX ?_; intro _ t1 ht1; clear FX; (try replace F5 := F5.tt ht1); (try replace F2 := F2.tt ht1); (try replace F1 := F1.tt ht1); (try replace FX := FX.tt ht1); (first | replace O1 := O1.tg ht1 hgB | replace O1 := O1.tt ht1 | skip); (try replace R := R.tt ht1); (try replace qB := Nat.le_trans qB ht1.size); replace b := below_touch b ht1 (by omega) (Nat.le_refl _); have FX := t1; clear t1 ht1) | ((with_reducible show wpList _ _ _ (⟨_, Op.store 23 _ _, _, _, _, _⟩ :: _) _ _); refine wpl_set_cert_b rfl _ _ rfl rfl rfl L4.out FX ?_; intro _ t1 ht1; clear FX; (try replace F5 := F5.tt ht1); (try replace F2 := F2.tt ht1); (try replace F1 := F1.tt ht1); (try replace FX := FX.tt ht1); (first | replace O1 := O1.tg ht1 hgB | replace O1 := O1.tt ht1 | skip); (try replace R := R.tt ht1); (try replace qB := Nat.le_trans qB ht1.size); replace b := below_touch b ht1 (by omega) (Nat.le_refl _); have FX := t1; clear t1 ht1) | ((with_reducible show wpList _ _ _ (⟨_, Op.store 23 _ _, _, _, _, _⟩ :: _) _ _); refine wpl_set_cert_c rfl _ _ rfl rfl rfl L5.out FX ?_; intro _ t1 ht1; clear FX; (try replace F5 := F5.tt ht1); (try replace F2 := F2.tt ht1); (try replace F1 := F1.tt ht1); (try replace FX := FX.tt ht1); (first | replace O1 := O1.tg ht1 hgB | replace O1 := O1.tt ht1 | skip); (try replace R := R.tt ht1); (try replace qB := Nat.le_trans qB ht1.size); replace b := below_touch b ht1 (by omega) (Nat.le_refl _); have FX := t1; clear t1 ht1) | (with_reducible show wpList _ _ _ (⟨_, Op.load _ _, _, _, _, _⟩ :: _) _ _; refine wpl_load_one rfl 51 _ rfl rfl (DAt.c5 F2) (by kernel_rfl) ?_) | (with_reducible show wpList _ _ _ (⟨_, Op.load 133 _, _, _, _, _⟩ :: _) _ _; refine wpl_ld_cert rfl _ rfl rfl FX.cells FX.ok ?_) | ((with_reducible show wpList _ _ _ (⟨_, Op.buildSlice _ _ _, _, _, _, _⟩ :: _) _ _); refine wpl_row1 rfl certElem (by decide) _ rfl (v := certV ⟨kb, l1, l2, l3, l4, l5⟩) (el := certCs ⟨kb, l1, l2, l3, l4, l5⟩) rfl (by simp [certV, Value.cells]) (certCs_length (show CertT.Ok ⟨kb, l1, l2, l3, l4, l5⟩ from ⟨HKL.out, L1.out, L2.out, L3.out, L4.out, L5.out⟩)) (certCs_one _) ?_; intro _ g9 h9 O9 hb; clear FX; replace F5 := F5.later hb; replace F2 := F2.later hb; replace O1 := O1.later hb; replace R := R.later hb; replace F1 := F1.later hb; replace qB := Nat.le_trans qB hb.size; replace b := later b hb; clear hb) | ((with_reducible show wpList _ _ _ (⟨_, Op.call _, _, _, _, _⟩ :: _) _ _); refine wpl_append_row rfl _ _ certElem rfl rfl O1 rfl O9.sl O9.2.1 (k + 1) (by rw [List.length_map, HLL.out]; rfl) (by omega) (by omega) qB ?_; intro a2 c2 w2 O2 ht2 _; replace F5 := F5.touch ht2 (O1.off hgB); replace F2 := F2.touch ht2 (O1.off htB); replace R := R.touch ht2 (fun x hx => .inl (Nat.le_trans hmB (O1.ge x hx))); replace F1 := F1.touch ht2 (O1.off h0B); replace b := b.trans (ht2.below (B := w.heap.size) b.size (fun x hx => Nat.le_trans hwB (O1.ge x hx))); replace qB := Nat.le_trans qB ht2.size; clear O1 O9 ht2) | ((with_reducible show wpList _ _ _ (⟨_, Op.store 51 _ _, _, _, _, _⟩ :: _) _ _); refine wpl_set_dcerts (v := .slice a2 (k + 1) c2) rfl _ _ rfl rfl rfl rfl rfl F2 ?_; intro _ t1 ht1; clear F2; replace F5 := F5.tt ht1; replace O2 := O2.tg ht1 htB; replace R := R.tt ht1; replace F1 := F1.tt ht1; replace b := below_touch b ht1 htw (Nat.le_refl _); replace qB := Nat.le_trans qB ht1.size; have F2 := t1; clear t1 ht1))
              go_roundw
              case rel => exact ⟨k + 1, c', l ++ [⟨kb, l1, l2, l3, l4, l5⟩], s5, .slice a2 (k + 1) c2, by first | rfl | simp, hc2, hide (by rw [List.length_append, HLL.out]; rfl), hide (ok_snoc HOK.out (show CertT.Ok ⟨kb, l1, l2, l3, l4, l5⟩ from ⟨HKL.out, L1.out, L2.out, L3.out, L4.out, L5.out⟩)), by rw [List.map_append]; exact O2, hide (HK.out.snoc (show Got certP (some r) ⟨kb, l1, l2, l3, l4, l5⟩ s5 from (by rw [HKB.out]; exact G0.out.bind (G1.out.bind (G2.out.bind (G3.out.bind (G4.out.bind (G5.out.last (f := fun n => (⟨(l0.getD 0 0).toNat, l1, l2, l3, l4, n⟩ : CertT)))))))))), F5, F2, R, F1, b, qB⟩
              case measure => simp [RowKit.intOf]; omega
            · have c0 := decide_eq_false (show ¬ (0 : Int) < (c : Int) by omega)
              have HG : Hid (Got (listP 4 certP) s8 l (some r)) := by
                have h1 := HK.out
                rw [show k = n by omega] at h1
                exact hide (got_counted GC.out h1)
              go_wp2_with (with_reducible show wpList _ _ _ (⟨_, Op.load _ _, _, _, _, _⟩ :: _) _ _; refine wpl_load_one rfl 4 _ rfl rfl cI (by kernel_rfl) ?_)
              go_meet
              case rel => exact ⟨l, some r, v, HOK, O1, HG, F5, F2, R, F1, b⟩
      case rest =>
        clear F5 F2 R F1 b GC hn hBc
        obtain ⟨e3, t3, v3, HO3, O1, HG3, F5, F2, R, F1, b⟩ := hcut
        replace R := stab_more R (((O1.low h0B).low htB).low hgB).st
        clear O1 hmB hgB htB h0B hwB
        go_upto_block 6 with (first | (go_at_call 62; refine (riCount g 4 _ _ F5).mono ?_; rintro _ _ ⟨n, st1, rfl, hn, k1, GC, ht1⟩; clear F5; have F5 := k1; clear k1; replace GC := hide GC; replace F2 := F2.tt ht1; replace F1 := F1.tt ht1; replace R := R.tt ht1; replace b := below_touch b ht1 hgw (Nat.le_refl _); clear ht1))
        obtain ⟨P4, hP4⟩ : ∃ P : World → Prop, P = (fun x => P3 x ∧ Sl x v3 68 (e3.map certCs)) := ⟨_, rfl⟩
        rw [← hP4] at R
        have HP4 := hide hP4
        clear hP4
        have z1 := F2.lt
        obtain ⟨m, B, hmB, hgB, htB, h0B, hwB, hBc, R⟩ := tk_base R z1 hgg h0g (Nat.le_trans hgw (Nat.le_of_lt (Nat.lt_trans hgg z1)))
        clear z1
        go_cut [12] (fun s12 wx => ∃ (l : List PayT) (st2 : Option (List UInt8)) (v : Value), Hid (∀ x ∈ l, x.Ok) ∧ OwnR wx B 138 33 v (l.map payCs) [] ∧ Hid (Got (listP 4 payP) t3 l st2) ∧ RdI wx g st2 ∧ DAt wx gt v1 v2 v3 v nilS l6 l7 l8 ∧ StabX P4 m [g, gt, g0] wx ∧ DAt wx g0 nilS nilS nilS nilS nilS 0 0 0 ∧ Below w.heap.size w wx)
        case first =>
          go_wp2_with fail
          go_loopw [12] (fun cv wr => ∃ (k c : Nat) (l : List PayT) (sk : Option (List UInt8)) (v : Value), cv = .int .u64 c ∧ c + k = n ∧ Hid (l.length = k) ∧ Hid (∀ x ∈ l, x.Ok) ∧ OwnR wr B 138 33 v (l.map payCs) [] ∧ Hid (Got (manyP payP k) st1 l sk) ∧ RdI wr g sk ∧ DAt wr gt v1 v2 v3 v nilS l6 l7 l8 ∧ StabX P4 m [g, gt, g0] wr ∧ DAt wr g0 nilS nilS nilS nilS nilS 0 0 0 ∧ Below w.heap.size w wr ∧ B ≤ wr.heap.size) (fun cv _ => (RowKit.intOf cv).toNat)
          case atStart => exact ⟨0, n, [], st1, nilS, rfl, rfl, hide rfl, hide (by simp), OwnR.nil _ _ _ _, hide (got_none _ _), F5, F2, R, F1, b, hBc⟩
          case round =>
            clear F5 F2 R F1 b hBc
            obtain ⟨k, c, l, sk, v, rfl, hck, HLL, HOK, O1, HK, F5, F2, R, F1, b, qB⟩ := hrel
            cases sk with
            | none =>
              have HG : Hid (Got (listP 4 payP) t3 l none) := by
                have h1 := Got.stop (k := c) HK.out l
                rw [show k + c = n by omega] at h1
                exact hide (got_counted GC.out h1)
              have cI := F5.flag0
              by_cases h0 : 0 < c
              · have c0 := decide_eq_true (show (0 : Int) < (c : Int) by omega)
                go_wp2_with (with_reducible show wpList _ _ _ (⟨_, Op.load _ _, _, _, _, _⟩ :: _) _ _; refine wpl_load_one rfl 4 _ rfl rfl cI (by kernel_rfl) ?_)
                go_meet
                case rel => exact ⟨l, none, v, HOK, O1, HG, F5, F2, R, F1, b⟩
              · have c0 := decide_eq_false (show ¬ (0 : Int) < (c : Int) by omega)
                go_wp2_with (with_reducible show wpList _ _ _ (⟨_, Op.load _ _, _, _, _, _⟩ :: _) _ _; refine wpl_load_one rfl 4 _ rfl rfl cI (by kernel_rfl) ?_)
                go_meet
                case rel => exact ⟨l, none, v, HOK, O1, HG, F5, F2, R, F1, b⟩
            | some r =>
              have cI := F5.flag1
              by_cases h0 : 0 < c
              · have c0 := decide_eq_true (show (0 : Int) < (c : Int) by omega)
                have kw : IntKind.u64.wrap ((c : Int) - 1) = ((c - 1 : Nat) : Int) := by rw [IntKind.wrap_u64]; omega
                obtain ⟨c', hc'⟩ : ∃ c', c' = c - 1 := ⟨_, rfl⟩
                rw [← hc'] at kw
                have hc2 : c' + (k + 1) = n := by omega
                clear hc'
                have mA1 := True.intro
                have mA2 := True.intro
                go_wp2_with (first | (with_reducible show wpList _ _ _ (⟨_, Op.load _ _, _, _, _, _⟩ :: _) _ _; refine wpl_load_one rfl 4 _ rfl rfl cI (by kernel_rfl) ?_) | ((with_reducible show wpList _ _ _ (⟨_, Op.build 138 _, _, _, _, _⟩ :: _) _ _); refine wpl_built0 rfl 138 rfl (cs := payCs pay0) payZ0 ?_) | (with_reducible show wpList _ _ _ (⟨_, Op.alloc _, _, _, _, _⟩ :: _) _ _; have q5 := F5.lt; have q2 := F2.lt; have qR := R.lt; have qb := b.size; refine wpl_mk_pay rfl rfl ?_; intro _ gx hgx FX hb; replace O1 := O1.more O1.lt hgx; replace F5 := F5.later hb; replace F2 := F2.later hb; replace O1 := O1.later hb; replace R := R.later hb; replace F1 := F1.later hb; replace qB := Nat.le_trans qB hb.size; replace b := later b hb; clear hb) | ((with_reducible show wpList _ _ _ (⟨_, Op.store 138 _ _, _, _, _, _⟩ :: _) _ _); refine wpl_set_pay rfl _ _ rfl rfl rfl pay0_ok FX ?_; intro _ t1 ht1; clear FX; (try replace F5 := F5.tt ht1); (try replace F2 := F2.tt ht1); (try replace F1 := F1.tt ht1); (try replace FX := FX.tt ht1); (first | replace O1 := O1.tg ht1 hgB | replace O1 := O1.tt ht1 | skip); (try replace R := R.tt ht1); (try replace qB := Nat.le_trans qB ht1.size); replace b := below_touch b ht1 (by omega) (Nat.le_refl _); have FX := t1; clear t1 ht1) | (go_at_call 61; clear mA1; refine (riHash g _ _ F5).mono ?_; rintro _ _ ⟨l1, s1, rfl, L1, k1, G1, ht1⟩; clear F5; have F5 := k1; clear k1; replace L1 := hide L1; replace G1 := hide G1; (try replace F5 := F5.tt ht1); (try replace F2 := F2.tt ht1); (try replace F1 := F1.tt ht1); (try replace FX := FX.tt ht1); (first | replace O1 := O1.tg ht1 hgB | replace O1 := O1.tt ht1 | skip); (try replace R := R.tt ht1); (try replace qB := Nat.le_trans qB ht1.size); replace b := below_touch b ht1 (by omega) (Nat.le_refl _); clear ht1) | (go_at_call 60; clear mA2; refine (riNumber g _ _ F5).mono ?_; rintro _ _ ⟨l2, s2, rfl, L2, k1, G2, ht1⟩; clear F5; have F5 := k1; clear k1; replace L2 := hide L2; replace G2 := hide G2; (try replace F5 := F5.tt ht1); (try replace F2 := F2.tt ht1); (try replace F1 := F1.tt ht1); (try replace FX := FX.tt ht1); (first | replace O1 := O1.tg ht1 hgB | replace O1 := O1.tt ht1 | skip); (try replace R := R.tt ht1); (try replace qB := Nat.le_trans qB ht1.size); replace b := below_touch b ht1 (by omega) (Nat.le_refl _); clear ht1) | ((with_reducible show wpList _ _ _ (⟨_, Op.store 27 _ _, _, _, _, _⟩ :: _) _ _); refine wpl_set_pay_key rfl _ _ rfl rfl rfl L1.out FX ?_; intro _ t1 ht1; clear FX; (try replace F5 := F5.tt ht1); (try replace F2 := F2.tt ht1); (try replace F1 := F1.tt ht1); (try replace FX := FX.tt ht1); (first | replace O1 := O1.tg ht1 hgB | replace O1 := O1.tt ht1 | skip); (try replace R := R.tt ht1); (try replace qB := Nat.le_trans qB ht1.size); replace b := below_touch b ht1 (by omega) (Nat.le_refl _); have FX := t1; clear t1 ht1) | ((with_reducible show wpList _ _ _ (⟨_, Op.store 23 _ _, _, _, _, _⟩ :: _) _ _); refine wpl_set_pay_amount rfl _ _ rfl rfl rfl L2.out FX ?_; intro _ t1 ht1; clear FX; (try replace F5 := F5.tt ht1); (try replace F2 := F2.tt ht1); (try replace F1 := F1.tt ht1); (try replace FX := FX.tt ht1); (first | replace O1 := O1.tg ht1 hgB | replace O1 := O1.tt ht1 | skip); (try replace R := R.tt ht1); (try replace qB := Nat.le_trans qB ht1.size); replace b := below_touch b ht1 (by omega) (Nat.le_refl _); have FX := t1; clear t1 ht1) | (with_reducible show wpList _ _ _ (⟨_, Op.load _ _, _, _, _, _⟩ :: _) _ _; refine wpl_load_one rfl 52 _ rfl rfl (DAt.c6 F2) (by kernel_rfl) ?_) | (with_reducible show wpList _ _ _ (⟨_, Op.load 138 _, _, _, _, _⟩ :: _) _ _; refine wpl_ld_pay rfl _ rfl rfl FX.cells FX.ok ?_) | ((with_reducible show wpList _ _ _ (⟨_, Op.buildSlice _ _ _, _, _, _, _⟩ :: _) _ _); refine wpl_row1 rfl payElem (by decide) _ rfl (v := payV ⟨l1, l2⟩) (el := payCs ⟨l1, l2⟩) rfl (by simp [payV, Value.cells]) (payCs_length (show PayT.Ok ⟨l1, l2⟩ from ⟨L1.out, L2.out⟩)) (payCs_one _) ?_; intro _ g9 h9 O9 hb; clear FX; replace F5 := F5.later hb; replace F2 := F2.later hb; replace O1 := O1.later hb; replace R := R.later hb; replace F1 := F1.later hb; replace qB := Nat.le_trans qB hb.size; replace b := later b hb; clear hb) | ((with_reducible show wpList _ _ _ (⟨_, Op.call _, _, _, _, _⟩ :: _) _ _); refine wpl_append_row rfl _ _ payElem rfl rfl O1 rfl O9.sl O9.2.1 (k + 1) (by rw [List.length_map, HLL.out]; rfl) (by omega) (by omega) qB ?_; intro a2 c2 w2 O2 ht2 _; replace F5 := F5.touch ht2 (O1.off hgB); replace F2 := F2.touch ht2 (O1.off htB); replace R := R.touch ht2 (fun x hx => .inl (Nat.le_trans hmB (O1.ge x hx))); replace F1 := F1.touch ht2 (O1.off h0B); replace b := b.trans (ht2.below (B := w.heap.size) b.size (fun x hx => Nat.le_trans hwB (O1.ge x hx))); replace qB := Nat.le_trans qB ht2.size; clear O1 O9 ht2) | ((with_reducible show wpList _ _ _ (⟨_, Op.store 52 _ _, _, _, _, _⟩ :: _) _ _); refine wpl_set_dpays (v := .slice a2 (k + 1) c2) rfl _ _ rfl rfl rfl rfl rfl F2 ?_; intro _ t1 ht1; clear F2; replace F5 := F5.tt ht1; replace O2 := O2.tg ht1 htB; replace R := R.tt ht1; replace F1 := F1.tt ht1; replace b := below_touch b ht1 htw (Nat.le_refl _); replace qB := Nat.le_trans qB ht1.size; have F2 := t1; clear t1 ht1))
                go_roundw
                case rel => exact ⟨k + 1, c', l ++ [⟨l1, l2⟩], s2, .slice a2 (k + 1) c2, by first | rfl | simp, hc2, hide (by rw [List.length_append, HLL.out]; rfl), hide (ok_snoc HOK.out (show PayT.Ok ⟨l1, l2⟩ from ⟨L1.out, L2.out⟩)), by rw [List.map_append]; exact O2, hide (HK.out.snoc (show Got payP (some r) ⟨l1, l2⟩ s2 from G1.out.bind (G2.out.last (f := fun n => (⟨l1, n⟩ : PayT))))), F5, F2, R, F1, b, qB⟩
                case measure => simp [RowKit.intOf]; omega
              · have c0 := decide_eq_false (show ¬ (0 : Int) < (c : Int) by omega)
                have HG : Hid (Got (listP 4 payP) t3 l (some r)) := by
                  have h1 := HK.out
                  rw [show k = n by omega] at h1
                  exact hide (got_counted GC.out h1)
                go_wp2_with (with_reducible show wpList _ _ _ (⟨_, Op.load _ _, _, _, _, _⟩ :: _) _ _; refine wpl_load_one rfl 4 _ rfl rfl cI (by kernel_rfl) ?_)
                go_meet
                case rel => exact ⟨l, some r, v, HOK, O1, HG, F5, F2, R, F1, b⟩
        case rest =>
          clear F5 F2 R F1 b GC hn hBc
          obtain ⟨e4, t4, v4, HO4, O1, HG4, F5, F2, R, F1, b⟩ := hcut
          replace R := stab_more R (((O1.low h0B).low htB).low hgB).st
          clear O1 hmB hgB htB h0B hwB
          go_upto_block 8 with (first | (go_at_call 62; refine (riCount g 8 _ _ F5).mono ?_; rintro _ _ ⟨n, st1, rfl, hn, k1, GC, ht1⟩; clear F5; have F5 := k1; clear k1; replace GC := hide GC; replace F2 := F2.tt ht1; replace F1 := F1.tt ht1; replace R := R.tt ht1; replace b := below_touch b ht1 hgw (Nat.le_refl _); clear ht1))
          obtain ⟨P5, hP5⟩ : ∃ P : World → Prop, P = (fun x => P4 x ∧ Sl x v4 33 (e4.map payCs)) := ⟨_, rfl⟩
          rw [← hP5] at R
          have HP5 := hide hP5
          clear hP5
          have z1 := F2.lt
          obtain ⟨m, B, hmB, hgB, htB, h0B, hwB, hBc, R⟩ := tk_base R z1 hgg h0g (Nat.le_trans hgw (Nat.le_of_lt (Nat.lt_trans hgg z1)))
          clear z1
          go_cut [14] (fun s14 wx => ∃ (l : List WitT) (st2 : Option (List UInt8)) (v : Value), Hid (∀ x ∈ l, x.Ok) ∧ OwnR wx B 142 33 v (l.map witCs) [] ∧ Hid (Got (listP 8 witP) t4 l st2) ∧ RdI wx g st2 ∧ DAt wx gt v1 v2 v3 v4 v l6 l7 l8 ∧ StabX P5 m [g, gt, g0] wx ∧ DAt wx g0 nilS nilS nilS nilS nilS 0 0 0 ∧ Below w.heap.size w wx)
          case first =>
            go_wp2_with fail
            go_loopw [14] (fun cv wr => ∃ (k c : Nat) (l : List WitT) (sk : Option (List UInt8)) (v : Value), cv = .int .u64 c ∧ c + k = n ∧ Hid (l.length = k) ∧ Hid (∀ x ∈ l, x.Ok) ∧ OwnR wr B 142 33 v (l.map witCs) [] ∧ Hid (Got (manyP witP k) st1 l sk) ∧ RdI wr g sk ∧ DAt wr gt v1 v2 v3 v4 v l6 l7 l8 ∧ StabX P5 m [g, gt, g0] wr ∧ DAt wr g0 nilS nilS nilS nilS nilS 0 0 0 ∧ Below w.heap.size w wr ∧ B ≤ wr.heap.size) (fun cv _ => (RowKit.intOf cv).toNat)
            case atStart => exact ⟨0, n, [], st1, nilS, rfl, rfl, hide rfl, hide (by simp), OwnR.nil _ _ _ _, hide (got_none _ _), F5, F2, R, F1, b, hBc⟩
            case round =>
              clear F5 F2 R F1 b hBc
              obtain ⟨k, c, l, sk, v, rfl, hck, HLL, HOK, O1, HK, F5, F2, R, F1, b, qB⟩ := hrel
              cases sk with
              | none =>
                have HG : Hid (Got (listP 8 witP) t4 l none) := by
                  have h1 := Got.stop (k := c) HK.out l
                  rw [show k + c = n by omega] at h1
                  exact hide (got_counted GC.out h1)
                have cI := F5.flag0
                by_cases h0 : 0 < c
                · have c0 := decide_eq_true (show (0 : Int) < (c : Int) by omega)
                  go_wp2_with (with_reducible show wpList _ _ _ (⟨_, Op.load _ _, _, _, _, _⟩ :: _) _ _; refine wpl_load_one rfl 4 _ rfl rfl cI (by kernel_rfl) ?_)
                  go_meet
                  case rel => exact ⟨l, none, v, HOK, O1, HG, F5, F2, R, F1, b⟩
                · have c0 := decide_eq_false (show ¬ (0 : Int) < (c : Int) by omega)
                  go_wp2_with (with_reducible show wpList _ _ _ (⟨_, Op.load _ _, _, _, _, _⟩ :: _) _ _; refine wpl_load_one rfl 4 _ rfl rfl cI (by kernel_rfl) ?_)
                  go_meet
                  case rel => exact ⟨l, none, v, HOK, O1, HG, F5, F2, R, F1, b⟩
              | some r =>
                have cI := F5.flag1
                by_cases h0 : 0 < c
                · have c0 := decide_eq_true (show (0 : Int) < (c : Int) by omega)
                  have kw : IntKind.u64.wrap ((c : Int) - 1) = ((c - 1 : Nat) : Int) := by rw [IntKind.wrap_u64]; omega
                  obtain ⟨c', hc'⟩ : ∃ c', c' = c - 1 := ⟨_, rfl⟩
                  rw [← hc'] at kw
                  have hc2 : c' + (k + 1) = n := by omega
                  clear hc'
                  have mA1 := True.intro
                  have mA2 := True.intro
                  go_wp2_with (first | (with_reducible show wpList _ _ _ (⟨_, Op.load _ _, _, _, _, _⟩ :: _) _ _; refine wpl_load_one rfl 4 _ rfl rfl cI (by kernel_rfl) ?_) | ((with_reducible show wpList _ _ _ (⟨_, Op.build 142 _, _, _, _, _⟩ :: _) _ _); refine wpl_built0 rfl 142 rfl (cs := witCs wit0) witZ0 ?_) | (with_reducible show wpList _ _ _ (⟨_, Op.alloc _, _, _, _, _⟩ :: _) _ _; have q5 := F5.lt; have q2 := F2.lt; have qR := R.lt; have qb := b.size; refine wpl_mk_wit rfl rfl ?_; intro _ gx hgx FX hb; replace O1 := O1.more O1.lt hgx; replace F5 := F5.later hb; replace F2 := F2.later hb; replace O1 := O1.later hb; replace R := R.later hb; replace F1 := F1.later hb; replace qB := Nat.le_trans qB hb.size; replace b := later b hb; clear hb) | ((with_reducible show wpList _ _ _ (⟨_, Op.store 142 _ _, _, _, _, _⟩ :: _) _ _); refine wpl_set_wit rfl _ _ rfl rfl rfl wit0_ok FX ?_; intro _ t1 ht1; clear FX; (try replace F5 := F5.tt ht1); (try replace F2 := F2.tt ht1); (try replace F1 := F1.tt ht1); (try replace FX := FX.tt ht1); (first | replace O1 := O1.tg ht1 hgB | replace O1 := O1.tt ht1 | skip); (try replace R := R.tt ht1); (try replace qB := Nat.le_trans qB ht1.size); replace b := below_touch b ht1 (by omega) (Nat.le_refl _); have FX := t1; clear t1 ht1) | (go_at_call 61; clear mA1; refine (riHash g _ _ F5).mono ?_; rintro _ _ ⟨l1, s1, rfl, L1, k1, G1, ht1⟩; clear F5; have F5 := k1; clear k1; replace L1 := hide L1; replace G1 := hide G1; (try replace F5 := F5.tt ht1); (try replace F2 := F2.tt ht1); (try replace F1 := F1.tt ht1); (try replace FX := FX.tt ht1); (first | replace O1 := O1.tg ht1 hgB | replace O1 := O1.tt ht1 | skip); (try replace R := R.tt ht1); (try replace qB := Nat.le_trans qB ht1.size); replace b := below_touch b ht1 (by omega) (Nat.le_refl _); clear ht1) | (go_at_call 92; clear mA2; refine (riText g _ 1024 _ F5 (by decide)).mono ?_; rintro _ _ ⟨l2, s2, rfl, L2, k1, G2, ht1⟩; clear F5; have F5 := k1; clear k1; replace L2 := hide L2; replace G2 := hide G2; (try replace F5 := F5.tt ht1); (try replace F2 := F2.tt ht1); (try replace F1 := F1.tt ht1); (try replace FX := FX.tt ht1); (first | replace O1 := O1.tg ht1 hgB | replace O1 := O1.tt ht1 | skip); (try replace R := R.tt ht1); (try replace qB := Nat.le_trans qB ht1.size); replace b := below_touch b ht1 (by omega) (Nat.le_refl _); clear ht1) | ((with_reducible show wpList _ _ _ (⟨_, Op.store 27 _ _, _, _, _, _⟩ :: _) _ _); refine wpl_set_wit_key rfl _ _ rfl rfl rfl L1.out FX ?_; intro _ t1 ht1; clear FX; (try replace F5 := F5.tt ht1); (try replace F2 := F2.tt ht1); (try replace F1 := F1.tt ht1); (try replace FX := FX.tt ht1); (first | replace O1 := O1.tg ht1 hgB | replace O1 := O1.tt ht1 | skip); (try replace R := R.tt ht1); (try replace qB := Nat.le_trans qB ht1.size); replace b := below_touch b ht1 (by omega) (Nat.le_refl _); have FX := t1; clear t1 ht1) | ((with_reducible show wpList _ _ _ (⟨_, Op.store 9 _ _, _, _, _, _⟩ :: _) _ _); refine wpl_set_wit_sig rfl _ _ rfl rfl rfl FX ?_; intro _ t1 ht1; clear FX; (try replace F5 := F5.tt ht1); (try replace F2 := F2.tt ht1); (try replace F1 := F1.tt ht1); (try replace FX := FX.tt ht1); (first | replace O1 := O1.tg ht1 hgB | replace O1 := O1.tt ht1 | skip); (try replace R := R.tt ht1); (try replace qB := Nat.le_trans qB ht1.size); replace b := below_touch b ht1 (by omega) (Nat.le_refl _); have FX := t1; clear t1 ht1) | (with_reducible show wpList _ _ _ (⟨_, Op.load _ _, _, _, _, _⟩ :: _) _ _; refine wpl_load_one rfl 53 _ rfl rfl (DAt.c7 F2) (by kernel_rfl) ?_) | (with_reducible show wpList _ _ _ (⟨_, Op.load 142 _, _, _, _, _⟩ :: _) _ _; refine wpl_ld_wit rfl _ rfl rfl FX.cells FX.ok ?_) | ((with_reducible show wpList _ _ _ (⟨_, Op.buildSlice _ _ _, _, _, _, _⟩ :: _) _ _); refine wpl_row1 rfl witElem (by decide) _ rfl (v := witV ⟨l1, ⟨l2.toArray⟩⟩) (el := witCs ⟨l1, ⟨l2.toArray⟩⟩) rfl (by simp [witV, Value.cells]) (witCs_length (show WitT.Ok ⟨l1, ⟨l2.toArray⟩⟩ from L1.out)) (witCs_one _) ?_; intro _ g9 h9 O9 hb; clear FX; replace F5 := F5.later hb; replace F2 := F2.later hb; replace O1 := O1.later hb; replace R := R.later hb; replace F1 := F1.later hb; replace qB := Nat.le_trans qB hb.size; replace b := later b hb; clear hb) | ((with_reducible show wpList _ _ _ (⟨_, Op.call _, _, _, _, _⟩ :: _) _ _); refine wpl_append_row rfl _ _ witElem rfl rfl O1 rfl O9.sl O9.2.1 (k + 1) (by rw [List.length_map, HLL.out]; rfl) (by omega) (by omega) qB ?_; intro a2 c2 w2 O2 ht2 _; replace F5 := F5.touch ht2 (O1.off hgB); replace F2 := F2.touch ht2 (O1.off htB); replace R := R.touch ht2 (fun x hx => .inl (Nat.le_trans hmB (O1.ge x hx))); replace F1 := F1.touch ht2 (O1.off h0B); replace b := b.trans (ht2.below (B := w.heap.size) b.size (fun x hx => Nat.le_trans hwB (O1.ge x hx))); replace qB := Nat.le_trans qB ht2.size; clear O1 O9 ht2) | ((with_reducible show wpList _ _ _ (⟨_, Op.store 53 _ _, _, _, _, _⟩ :: _) _ _); refine wpl_set_dwits (v := .slice a2 (k + 1) c2) rfl _ _ rfl rfl rfl rfl rfl F2 ?_; intro _ t1 ht1; clear F2; replace F5 := F5.tt ht1; replace O2 := O2.tg ht1 htB; replace R := R.tt ht1; replace F1 := F1.tt ht1; replace b := below_touch b ht1 htw (Nat.le_refl _); replace qB := Nat.le_trans qB ht1.size; have F2 := t1; clear t1 ht1))
                  go_roundw
                  case rel => exact ⟨k + 1, c', l ++ [⟨l1, ⟨l2.toArray⟩⟩], s2, .slice a2 (k + 1) c2, by first | rfl | simp, hc2, hide (by rw [List.length_append, HLL.out]; rfl), hide (ok_snoc HOK.out (show WitT.Ok ⟨l1, ⟨l2.toArray⟩⟩ from L1.out)), by rw [List.map_append]; exact O2, hide (HK.out.snoc (show Got witP (some r) ⟨l1, ⟨l2.toArray⟩⟩ s2 from G1.out.bind (G2.out.last (f := fun s : List UInt8 => (⟨l1, ⟨s.toArray⟩⟩ : WitT))))), F5, F2, R, F1, b, qB⟩
                  case measure => simp [RowKit.intOf]; omega
                · have c0 := decide_eq_false (show ¬ (0 : Int) < (c : Int) by omega)
                  have HG : Hid (Got (listP 8 witP) t4 l (some r)) := by
                    have h1 := HK.out
                    rw [show k = n by omega] at h1
                    exact hide (got_counted GC.out h1)
                  go_wp2_with (with_reducible show wpList _ _ _ (⟨_, Op.load _ _, _, _, _, _⟩ :: _) _ _; refine wpl_load_one rfl 4 _ rfl rfl cI (by kernel_rfl) ?_)
                  go_meet
                  case rel => exact ⟨l, some r, v, HOK, O1, HG, F5, F2, R, F1, b⟩
          case rest =>
            clear F5 F2 R F1 b GC hn hBc
            obtain ⟨e5, t5, v5, HO5, O1, HG5, F5, F2, R, F1, b⟩ := hcut
            replace R := stab_more R (((O1.low h0B).low htB).low hgB).st
            clear O1 hmB hgB htB h0B hwB
            have okd : Deed.Ok ⟨e1, e2, l6, l7, l8, e3, e4, e5⟩ := ⟨HO1.out, HO2.out, L6.out, L7.out, L8.out, HO3.out, HO4.out, HO5.out⟩
            obtain ⟨d, hd⟩ : ∃ d : Deed, d = ⟨e1, e2, l6, l7, l8, e3, e4, e5⟩ := ⟨_, rfl⟩
            have HDI : Hid (∀ x, (P5 x ∧ Sl x v5 33 (e5.map witCs)) → DeedIs x (deedV v1 v2 v3 v4 v5 l6 l7 l8) d) := by
              intro x hx
              obtain ⟨r5, y5⟩ := hx
              rw [HP5.out] at r5
              obtain ⟨r4, y4⟩ := r5
              rw [HP4.out] at r4
              obtain ⟨r3, y3⟩ := r4
              rw [HP3.out] at r3
              obtain ⟨r2, y2⟩ := r3
              rw [HP2.out] at r2
              obtain ⟨_, y1⟩ := r2
              rw [hd]
              exact ⟨v1, v2, v3, v4, v5, rfl, y1, y2, y3, y4, y5, okd⟩
            have hg1 : Got bodyP st0 ⟨e1, e2, l6, l7, l8, e3, e4, []⟩ t4 := HG1.out.bind (HG2.out.bind (G6.out.bind (G7.out.bind (G8.out.bind (HG3.out.bind (HG4.out.last (f := fun q => (⟨e1, e2, l6, l7, l8, e3, q, []⟩ : Deed))))))))
            have hg2 : Got deedP st0 d t5 := by rw [hd]; exact hg1.bind (HG5.out.last (f := fun q => (⟨e1, e2, l6, l7, l8, e3, e4, q⟩ : Deed)))
            have hT := HT.out d t5 hg2
            clear HP1 HP2 HP3 HP4 HP5 okd hg1 hg2 HG1 HG2 HG3 HG4 HG5 G6 G7 G8 HO1 HO2 HO3 HO4 HO5 L6 L7 L8 HT hd
            cases t5 with
            | none =>
              have HR : Hid (T = (deed0, 6)) := by rw [hT, if_neg (by simp)]; exact hide rfl
              have cI := F5.flag0
              clear hT R HDI
              go_wp2_with (first | (with_reducible show wpList _ _ _ (⟨_, Op.load _ _, _, _, _, _⟩ :: _) _ _; refine wpl_load_one rfl 4 _ rfl rfl cI (by kernel_rfl) ?_) | (with_reducible show wpList _ _ _ (⟨_, Op.load _ _, _, _, _, _⟩ :: _) _ _; refine wpl_load_one rfl 9 _ rfl rfl cS (by kernel_rfl) ?_) | (with_reducible show wpList _ _ _ (⟨_, Op.binOp _ _ _ _ _, _, _, _, _⟩ :: _) _ _; refine wpl_nes rfl _ _ rfl rfl rfl HE.out ?_) | ((with_reducible show wpList _ _ _ (⟨_, Op.build 55 _, _, _, _, _⟩ :: _) _ _); refine wpl_built0 rfl 55 rfl (cs := deedCs nilS nilS nilS nilS nilS 0 0 0) deedBuilt0 ?_) | ((with_reducible show wpList _ _ _ (⟨_, Op.store 55 _ _, _, _, _, _⟩ :: _) _ _); refine wpl_set_deed rfl _ _ rfl rfl (v1 := nilS) (v2 := nilS) (v3 := nilS) (v4 := nilS) (v5 := nilS) (f := 0) (s := 0) (t := 0) rfl rfl rfl rfl rfl rfl F1 ?_; intro _ t1 ht1; clear F1; replace b := below_touch b ht1 hg0 (Nat.le_refl _); have F1 := t1; clear t1 ht1))
              refine bodyPost_ret (ret_deed_tmp rfl _ _ _ rfl rfl F1) rfl ?_
              rw [HR.out]
              exact ⟨⟨_, rfl, (DeedOwn.nil _ 0).is⟩, b⟩
            | some r =>
              have cI := F5.flag1
              obtain ⟨sx, cS, hsx⟩ := F5.rest
              have HM := hide (fun (w' : World) (h : DeedIs w' (deedV v1 v2 v3 v4 v5 l6 l7 l8) d) => HMY.out _ d w' h)
              by_cases hr : r = []
              · have HE : Hid ((sx.toList == (⟨#[]⟩ : ByteArray).toList) = true) := by rw [ByteArray.toList_eq, hsx, hr, ByteArray.toList_eq]; exact hide rfl
                cases hm : mayD d
                · have HR : Hid (T = (deed0, 6)) := by rw [hT, if_neg (by rw [hm]; simp)]; exact hide rfl
                  rw [hm] at HM
                  clear hT hm hr hsx
                  go_wp2_with (first | (with_reducible show wpList _ _ _ (⟨_, Op.load _ _, _, _, _, _⟩ :: _) _ _; refine wpl_load_one rfl 4 _ rfl rfl cI (by kernel_rfl) ?_) | (with_reducible show wpList _ _ _ (⟨_, Op.load _ _, _, _, _, _⟩ :: _) _ _; refine wpl_load_one rfl 9 _ rfl rfl cS (by kernel_rfl) ?_) | (with_reducible show wpList _ _ _ (⟨_, Op.binOp _ _ _ _ _, _, _, _, _⟩ :: _) _ _; refine wpl_nes rfl _ _ rfl rfl rfl HE.out ?_) | ((with_reducible show wpList _ _ _ (⟨_, Op.build 55 _, _, _, _, _⟩ :: _) _ _); refine wpl_built0 rfl 55 rfl (cs := deedCs nilS nilS nilS nilS nilS 0 0 0) deedBuilt0 ?_) | (with_reducible show wpList _ _ _ (⟨_, Op.load 55 _, _, _, _, _⟩ :: _) _ _; refine wpl_ld_deed rfl _ rfl rfl F2 ?_) | (go_at_call 93; refine (HM.out _ (HDI.out _ R.now)).mono ?_; rintro _ _ ⟨rfl, hc⟩; replace F1 := F1.later hc; replace F2 := F2.later hc; replace R := R.later hc; replace b := later b hc; clear hc) | ((with_reducible show wpList _ _ _ (⟨_, Op.store 55 _ _, _, _, _, _⟩ :: _) _ _); refine wpl_set_deed rfl _ _ rfl rfl (v1 := nilS) (v2 := nilS) (v3 := nilS) (v4 := nilS) (v5 := nilS) (f := 0) (s := 0) (t := 0) rfl rfl rfl rfl rfl rfl F1 ?_; intro _ t1 ht1; clear F1; replace b := below_touch b ht1 hg0 (Nat.le_refl _); have F1 := t1; clear t1 ht1))
                  refine bodyPost_ret (ret_deed_tmp rfl _ _ _ rfl rfl F1) rfl ?_
                  rw [HR.out]
                  exact ⟨⟨_, rfl, (DeedOwn.nil _ 0).is⟩, b⟩
                · have HR : Hid (T = (d, 0)) := by rw [hT, if_pos ⟨by rw [hr], hm⟩]; exact hide rfl
                  rw [hm] at HM
                  clear hT hm hr hsx
                  go_wp2_with (first | (with_reducible show wpList _ _ _ (⟨_, Op.load _ _, _, _, _, _⟩ :: _) _ _; refine wpl_load_one rfl 4 _ rfl rfl cI (by kernel_rfl) ?_) | (with_reducible show wpList _ _ _ (⟨_, Op.load _ _, _, _, _, _⟩ :: _) _ _; refine wpl_load_one rfl 9 _ rfl rfl cS (by kernel_rfl) ?_) | (with_reducible show wpList _ _ _ (⟨_, Op.binOp _ _ _ _ _, _, _, _, _⟩ :: _) _ _; refine wpl_nes rfl _ _ rfl rfl rfl HE.out ?_) | ((with_reducible show wpList _ _ _ (⟨_, Op.build 55 _, _, _, _, _⟩ :: _) _ _); refine wpl_built0 rfl 55 rfl (cs := deedCs nilS nilS nilS nilS nilS 0 0 0) deedBuilt0 ?_) | (with_reducible show wpList _ _ _ (⟨_, Op.load 55 _, _, _, _, _⟩ :: _) _ _; refine wpl_ld_deed rfl _ rfl rfl F2 ?_) | (go_at_call 93; refine (HM.out _ (HDI.out _ R.now)).mono ?_; rintro _ _ ⟨rfl, hc⟩; replace F1 := F1.later hc; replace F2 := F2.later hc; replace R := R.later hc; replace b := later b hc; clear hc) | ((with_reducible show wpList _ _ _ (⟨_, Op.store 55 _ _, _, _, _, _⟩ :: _) _ _); refine wpl_set_deed rfl _ _ rfl rfl (v1 := v1) (v2 := v2) (v3 := v3) (v4 := v4) (v5 := v5) (f := l6) (s := l7) (t := l8) rfl F2.o1 F2.o2 F2.o3 F2.o4 F2.o5 F1 ?_; intro _ t1 ht1; clear F1; replace R := R.tt ht1; replace b := below_touch b ht1 hg0 (Nat.le_refl _); have F1 := t1; clear t1 ht1))
                  refine bodyPost_ret (ret_deed_tmp rfl _ _ _ rfl rfl F1) rfl ?_
                  rw [HR.out]
                  exact ⟨⟨_, rfl, HDI.out _ R.now⟩, b⟩
              · have HE : Hid ((sx.toList == (⟨#[]⟩ : ByteArray).toList) = false) := by rw [ByteArray.toList_eq, hsx, ByteArray.toList_eq]; unfold Hid; rw [beq_eq_false_iff_ne]; exact hr
                have HR : Hid (T = (deed0, 6)) := by rw [hT, if_neg (by simp [hr])]; exact hide rfl
                clear hT hr hsx R HDI
                go_wp2_with (first | (with_reducible show wpList _ _ _ (⟨_, Op.load _ _, _, _, _, _⟩ :: _) _ _; refine wpl_load_one rfl 4 _ rfl rfl cI (by kernel_rfl) ?_) | (with_reducible show wpList _ _ _ (⟨_, Op.load _ _, _, _, _, _⟩ :: _) _ _; refine wpl_load_one rfl 9 _ rfl rfl cS (by kernel_rfl) ?_) | (with_reducible show wpList _ _ _ (⟨_, Op.binOp _ _ _ _ _, _, _, _, _⟩ :: _) _ _; refine wpl_nes rfl _ _ rfl rfl rfl HE.out ?_) | ((with_reducible show wpList _ _ _ (⟨_, Op.build 55 _, _, _, _, _⟩ :: _) _ _); refine wpl_built0 rfl 55 rfl (cs := deedCs nilS nilS nilS nilS nilS 0 0 0) deedBuilt0 ?_) | ((with_reducible show wpList _ _ _ (⟨_, Op.store 55 _ _, _, _, _, _⟩ :: _) _ _); refine wpl_set_deed rfl _ _ rfl rfl (v1 := nilS) (v2 := nilS) (v3 := nilS) (v4 := nilS) (v5 := nilS) (f := 0) (s := 0) (t := 0) rfl rfl rfl rfl rfl rfl F1 ?_; intro _ t1 ht1; clear F1; replace b := below_touch b ht1 hg0 (Nat.le_refl _); have F1 := t1; clear t1 ht1))
                refine bodyPost_ret (ret_deed_tmp rfl _ _ _ rfl rfl F1) rfl ?_
                rw [HR.out]
                exact ⟨⟨_, rfl, (DeedOwn.nil _ 0).is⟩, b⟩
end Go.Proofs.Ytbbfnpfkbbpjgaa
