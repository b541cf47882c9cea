/- Keys that forget: the plain law. -/
import Derived.Test.YtbbfnpfkbbpjgaaOBMRef
import Derived.Test.YtbbfnpfkbbpjgaaOBStep
import Derived.Test.YtbbfnpfkbbpjgaaOBHdAt
import Derived.Test.YtbbfnpfkbbpjgaaOBOrigU
import Derived.Test.YtbbfnpfkbbpjgaaOBOrigH
import Derived.Test.YtbbfnpfkbbpjgaaOBTakeL
namespace Go.Proofs.Ytbbfnpfkbbpjgaa
open Go.RowKit Go.Lib
set_option linter.unusedVariables false
set_option linter.unusedSimpArgs false

def tagLeft : List UInt8 := [108, 101, 102, 116]
def tagRight : List UInt8 := [114, 105, 103, 104, 116]
def tagSum : List UInt8 := [115, 117, 109]
def leftL (s : List UInt8) : List UInt8 := ofX tagLeft [s]
def rightL (s : List UInt8) : List UInt8 := ofX tagRight [s]
def sumL (a b : List UInt8) : List UInt8 := ofX tagSum [a, b]
/-- The public key of a seed of a depth. -/
def pubE : Nat → List UInt8 → List UInt8
  | 0, s => publicL s
  | d + 1, s => sumL (pubE d (leftL s)) (pubE d (rightL s))
/-- Whether the way to period p goes right at row i of d. -/
def wayB (d p i : Nat) : Bool := decide (p / 2 ^ (d - 1 - i) % 2 = 1)
/-- A key. -/
structure Evo where
  d : Int
  p : Int
  leaf : List UInt8
  right : List (List UInt8)
  side : List (List UInt8)
/-- Is there such a period? -/
def perB (d n : Int) : Bool := decide (0 ≤ d ∧ d ≤ 4 ∧ 0 ≤ n ∧ n < 2 ^ d.toNat)
/-- May a key be? -/
def mayE (k : Evo) : Bool := perB k.d k.p && decide (k.right.length = k.d) && decide (k.side.length = k.d) && (List.range k.d.toNat).all fun i => !wayB k.d.toNat k.p.toNat i || decide (k.right.getD i [] = zero32)
end Go.Proofs.Ytbbfnpfkbbpjgaa

/- Package evolve: Public, Sign. -/
namespace Go.Proofs.Ytbbfnpfkbbpjgaa
open Go.RowKit Go.Lib
set_option linter.unusedVariables false
set_option linter.unusedSimpArgs false

/-- What a key signs a message by. -/
def sigK (k : Evo) (m : List UInt8) : List UInt8 := if mayE k then signL k.leaf m ++ k.side.flatten else []
end Go.Proofs.Ytbbfnpfkbbpjgaa

/- Package head: May, granted, Granted, Grant. -/
namespace Go.Proofs.Ytbbfnpfkbbpjgaa
open Go.RowKit Go.Lib
set_option linter.unusedVariables false
set_option linter.unusedSimpArgs false

/-- The text of a right. -/
def grantL (r : Rt) : List UInt8 := ofX tagRight [r.hot, eightL r.counter, eightL r.start]
end Go.Proofs.Ytbbfnpfkbbpjgaa

/- Package head: Granted, Grant. -/
namespace Go.Proofs.Ytbbfnpfkbbpjgaa
open Go.RowKit Go.Lib
set_option linter.unusedVariables false
set_option linter.unusedSimpArgs false

/-- What is granted. -/
def grantR (cold hot : List UInt8) (c s : Nat) : Rt := ⟨hot, c, s, ⟨(signL cold (grantL ⟨hot, c, s, ByteArray.empty⟩)).toArray⟩⟩
end Go.Proofs.Ytbbfnpfkbbpjgaa

/- Package head: Take. -/
namespace Go.Proofs.Ytbbfnpfkbbpjgaa
open Go.RowKit Go.Lib
set_option linter.unusedVariables false
set_option linter.unusedSimpArgs false

theorem wpl_built7 {P : Program} {ops : Array Oper} {rest : List Oper} {o : Oper} {a : Act} {w : World} {Q : Exit → Act → World → Prop} (hw : Region.wanted o (yielded ops a.tmps) = true) (t : TypeId) (x0 x1 x2 x3 x4 x5 x6 : Operand) (ho : o.op = .build t #[(0, x0), (1, x1), (2, x2), (3, x3), (4, x4), (5, x5), (6, x6)]) {v0 v1 v2 v3 v4 v5 v6 : Value}
    (h0 : a.eval x0 = v0) (h1 : a.eval x1 = v1) (h2 : a.eval x2 = v2) (h3 : a.eval x3 = v3) (h4 : a.eval x4 = v4) (h5 : a.eval x5 = v5) (h6 : a.eval x6 = v6) {cs : List Value} (hc : P.built t [(0, v0), (1, v1), (2, v2), (3, v3), (4, v4), (5, v5), (6, v6)] = some cs.toArray)
    (hk : wpList P ops Q rest (a.put o.dst (.agg cs.toArray)) w) : wpList P ops Q (o :: rest) a w := wpl_built hw t _ ho (by simp [h0, h1, h2, h3, h4, h5, h6]) hc hk
end Go.Proofs.Ytbbfnpfkbbpjgaa

/- Layer 16: the small origin, works, great. -/
namespace Go.Proofs.Ytbbfnpfkbbpjgaa
open Go.RowKit Go.Lib
set_option linter.unusedVariables false
set_option linter.unusedSimpArgs false

def smallO : Orig := ⟨1, 1, 1, 1, 1, [0, 0, 0, 0, 0, 0, 1, 1], 5, 0, zero32, [], [], []⟩
theorem smallO_ok : smallO.Ok := ⟨by decide, by decide, by decide, by decide, by decide, rfl, by intro x hx; simp [smallO] at hx; rcases hx with rfl | rfl <;> decide, by decide, by decide, rfl, by simp [smallO], by simp [smallO], by simp [smallO]⟩
theorem smallO_may : mayOr smallO = true := by decide +kernel
theorem orig0_may : mayOr orig0 = false := by decide +kernel
theorem smallO_few : smallO.Few := mayOr_few smallO_ok smallO_may
theorem orig0_few : orig0.Few := ⟨orig0_ok, by decide, by decide, by decide⟩
def smallV : Value := origV [1, 1, 1, 1, 1, 0, 0, 0, 0, 0, 0, 1, 1, 5, 0] zero32 nilS nilS nilS
theorem smallIs (w : World) : OrigIs w smallV smallO := ⟨nilS, nilS, nilS, rfl, Sl.nil w 65, Sl.nil w 67, Sl.nil w 64, smallO_ok⟩
theorem orig0Is (w : World) : OrigIs w (origV ns0 zero32 nilS nilS nilS) orig0 := ⟨nilS, nilS, nilS, rfl, Sl.nil w 65, Sl.nil w 67, Sl.nil w 64, orig0_ok⟩
theorem parBuilt : Try.prog.built 25 [(6, .int .u64 1), (7, .int .u64 1)] = some (numCs [0, 0, 0, 0, 0, 0, 1, 1]).toArray := by kernel_rfl
theorem smallBuilt : Try.prog.built 32 [(0, .int .u64 1), (1, .int .u64 1), (2, .int .u64 1), (3, .int .u64 1), (4, .int .u64 1), (5, .agg (numCs [0, 0, 0, 0, 0, 0, 1, 1]).toArray), (6, .int .u64 5)] = some (origCs [1, 1, 1, 1, 1, 0, 0, 0, 0, 0, 0, 1, 1, 5, 0] zero32 nilS nilS nilS).toArray := by kernel_rfl
set_option maxRecDepth 100000 in
set_option maxHeartbeats 1600000 in
theorem small16_any (w : World) : Calls Try.prog 23 #[] w fun e w' => e = .returned smallV ∧ Below w.heap.size w w' := by
  have b := Below.refl w.heap.size w
  unfold smallV
  go_enter Try.func23, Try.ntmps23
  go_wp2_with (first | (with_reducible show wpList _ _ _ (⟨_, Op.alloc _, _, _, _, _⟩ :: _) _ _; refine wpl_mk_orig rfl rfl ?_; intro _ g0 hg0 F8 hb; replace b := later b hb; clear hb) | ((with_reducible show wpList _ _ _ (⟨_, Op.build 25 _, _, _, _, _⟩ :: _) _ _); refine wpl_built2 rfl 25 _ _ rfl rfl rfl parBuilt ?_) | ((with_reducible show wpList _ _ _ (⟨_, Op.build 32 _, _, _, _, _⟩ :: _) _ _); refine wpl_built7 rfl 32 _ _ _ _ _ _ _ rfl rfl rfl rfl rfl rfl rfl rfl smallBuilt ?_) | ((with_reducible show wpList _ _ _ (⟨_, Op.store _ _ _, _, _, _, _⟩ :: _) _ _); refine wpl_set_orig rfl _ _ rfl rfl (ns := [1, 1, 1, 1, 1, 0, 0, 0, 0, 0, 0, 1, 1, 5, 0]) (nc := zero32) (v1 := nilS) (v2 := nilS) (v3 := nilS) rfl rfl rfl rfl rfl rfl F8 ?_; intro _ t1 ht1; replace b := below_touch b ht1 (by omega) (Nat.le_refl _); clear F8; have F8 := t1; clear t1 ht1))
  exact bodyPost_ret (ret_orig rfl _ _ rfl F8) rfl ⟨rfl, b⟩
set_option maxRecDepth 100000 in
set_option maxHeartbeats 1600000 in
theorem great16_any (v : Value) (o : Orig) (w : World) (h : OrigIs w v o) (h1m : o.coins.length ≤ 4398046511104) (h2m : o.seats.length ≤ 4398046511104) (h3m : o.trusts.length ≤ 4398046511104) :
    Calls Try.prog 20 #[v] w fun e w' => e = .returned (.bool (decide (200 < o.coins.length + o.seats.length + o.trusts.length))) ∧ Below w.heap.size w w' := by
  have hl15 := origNs_length h.ok
  obtain ⟨v1, v2, v3, rfl, h1, h2, h3, ok⟩ := h
  obtain ⟨a1, c1, rfl, -⟩ := h1.shape
  obtain ⟨a2, c2, rfl, -⟩ := h2.shape
  obtain ⟨a3, c3, rfl, -⟩ := h3.shape
  have hnl := ok.nonce
  have b := Below.refl w.heap.size w
  have hB : decide ((200 : Int) < (o.coins.length : Int) + (o.seats.length : Int) + (o.trusts.length : Int)) = decide (200 < o.coins.length + o.seats.length + o.trusts.length) := decide_eq_decide.2 (by omega)
  rw [← hB]
  clear ok h1 h2 h3 hB
  generalize origNs o = ns at *
  generalize o.nonce = nc at *
  generalize o.coins.length = n1 at *
  generalize o.seats.length = n2 at *
  generalize o.trusts.length = n3 at *
  have o1 : (Value.slice a1 n1 c1).oneCell' = true := rfl
  have o2 : (Value.slice a2 n2 c2).oneCell' = true := rfl
  have o3 : (Value.slice a3 n3 c3).oneCell' = true := rfl
  obtain ⟨B, hB⟩ : ∃ B, B = decide ((200 : Int) < (n1 : Int) + (n2 : Int) + (n3 : Int)) := ⟨_, rfl⟩
  rw [← hB]
  have HB := hide (fun _ : Unit => hB.symm)
  have k1 : IntKind.i64.wrap ((n1 : Int) + (n2 : Int)) = (n1 : Int) + (n2 : Int) := by rw [IntKind.wrap_i64]; omega
  have k2 : IntKind.i64.wrap ((n1 : Int) + (n2 : Int) + (n3 : Int)) = (n1 : Int) + (n2 : Int) + (n3 : Int) := by rw [IntKind.wrap_i64]; omega
  clear hB
  have mF1 := True.intro
  go_enter Try.func20, Try.ntmps20
  go_wp2_with (first | (with_reducible show wpList _ _ _ (⟨_, Op.box _ _, _, _, _, _⟩ :: _) _ _; clear mF1; refine wpl_box_orig rfl _ rfl rfl hl15 hnl o1 o2 o3 ?_; intro _ g1 hg1 F1 hb; (try replace F1 := F1.later hb); (try replace F2 := F2.later hb); (try replace F3 := F3.later hb); (try replace F4 := F4.later hb); (try replace F5 := F5.later hb); (try replace F6 := F6.later hb); (try replace F7 := F7.later hb); (try replace F8 := F8.later hb); (try replace F9 := F9.later hb); (try replace G1 := G1.later hb); (try replace G2 := G2.later hb); (try replace G3 := G3.later hb); (try replace z := z.later hb); (try replace b := later b hb); (try replace bB := mixed hB bB hb); clear hb) | (with_reducible show wpList _ _ _ (⟨_, Op.load _ _, _, _, _, _⟩ :: _) _ _; first | refine wpl_load_one rfl 28 _ rfl rfl (OAt.s1 F1) (by kernel_rfl) ?_ | refine wpl_load_one rfl 29 _ rfl rfl (OAt.s2 F1) (by kernel_rfl) ?_ | refine wpl_load_one rfl 30 _ rfl rfl (OAt.s3 F1) (by kernel_rfl) ?_) | (with_reducible show wpList _ _ _ (⟨_, Op.binOp BinOp.gtr _ _ _ _, _, _, _, _⟩ :: _) _ _; refine wpl_gtr rfl _ _ rfl rfl rfl (HB.out ()) ?_))
  go_ret
  exact ⟨rfl, b⟩
set_option maxRecDepth 100000 in
set_option maxHeartbeats 3200000 in
theorem works16 (w : World) : Calls Try.prog 16 #[] w fun e w' => e = .returned (.bool true) ∧ Below w.heap.size w w' := by
  obtain ⟨sS, hsS⟩ : ∃ s : ByteArray, s = ⟨(origL smallO).toArray⟩ := ⟨_, rfl⟩
  have hz : sS.size ≤ 1048576 := by rw [hsS, ba_size]; exact Nat.le_trans (origL_small smallO_few) (by decide)
  have hl : sS.data.toList = origL smallO := by rw [hsS]
  obtain ⟨SV, hSV⟩ : ∃ v, v = smallV := ⟨_, rfl⟩
  have HSM := hide small16_any
  have HIS := hide smallIs
  rw [← hSV] at HSM HIS
  have HP := hide (fun w => oPut_any SV smallO w (HIS.out w) smallO_few.fit)
  rw [if_pos smallO_may, if_pos smallO_may, ← hsS] at HP
  have HTK := hide (fun w => oTake_any sS w hz)
  rw [hl, takeOr_put smallO_ok smallO_may] at HTK
  have HSA := hide (fun (v : Value) (w : World) (h : OrigIs w v smallO) => orefSame_any v SV smallO smallO w h (HIS.out w) smallO_few smallO_few)
  rw [decide_eq_true (rfl : origL smallO = origL smallO)] at HSA
  have HM0 := hide (fun w => oMay_any _ orig0 w (orig0Is w) orig0_few.fit)
  rw [if_neg (by rw [orig0_may]; decide)] at HM0
  have HNS : Hid (smallO.nonce.length = 32 ∧ (origNs smallO).length = 15) := ⟨rfl, rfl⟩
  have b := Below.refl w.heap.size w
  clear hsS hz hl hSV
  generalize hso : smallO = SO at *
  clear hso
  have mF3 := True.intro
  go_enter Try.func16, Try.ntmps16
  go_wp2_with (first | (go_at_call 23; refine (HSM.out _).mono ?_; rintro _ _ ⟨rfl, hc⟩; (try replace F1 := F1.later hc); (try replace F2 := F2.later hc); (try replace F3 := F3.later hc); (try replace F4 := F4.later hc); (try replace F5 := F5.later hc); (try replace F6 := F6.later hc); (try replace F7 := F7.later hc); (try replace F8 := F8.later hc); (try replace F9 := F9.later hc); (try replace G1 := G1.later hc); (try replace G2 := G2.later hc); (try replace G3 := G3.later hc); (try replace z := z.later hc); (try replace b := later b hc); (try replace bB := mixed hB bB hc); clear hc) | (go_at_call 21; refine (HP.out _).mono ?_; rintro _ _ ⟨rfl, hc⟩; (try replace F1 := F1.later hc); (try replace F2 := F2.later hc); (try replace F3 := F3.later hc); (try replace F4 := F4.later hc); (try replace F5 := F5.later hc); (try replace F6 := F6.later hc); (try replace F7 := F7.later hc); (try replace F8 := F8.later hc); (try replace F9 := F9.later hc); (try replace G1 := G1.later hc); (try replace G2 := G2.later hc); (try replace G3 := G3.later hc); (try replace z := z.later hc); (try replace b := later b hc); (try replace bB := mixed hB bB hc); clear hc) | (go_at_call 17; refine (HTK.out _).mono ?_; rintro _ _ ⟨⟨v1, rfl, O1⟩, hc⟩; have I1 := O1.is; clear O1; obtain ⟨y1, y2, y3, rfl, S1, S2, S3, hok⟩ := I1; have p1 := S1.one'; have p2 := S2.one'; have p3 := S3.one'; have I1 := origIs_mk S1 S2 S3 hok; clear S1 S2 S3 hok; replace b := later b hc; clear hc) | (with_reducible show wpList _ _ _ (⟨_, Op.alloc _, _, _, _, _⟩ :: _) _ _; clear mF3; refine wpl_mk_orig rfl rfl ?_; intro _ g3 hg3 F3 ha; simp only [Act.put, List.setIfInBounds_toArray, List.set_cons_succ, List.set_cons_zero]) | ((with_reducible show wpList _ _ _ (⟨_, Op.store _ _ _, _, _, _, _⟩ :: _) _ _); refine wpl_set_orig rfl _ _ rfl rfl (ns := origNs SO) (nc := SO.nonce) (v1 := y1) (v2 := y2) (v3 := y3) rfl HNS.out.2 HNS.out.1 p1 p2 p3 F3 ?_; intro _ t1 ht1; have hb := below_touch ha ht1 hg3 (Nat.le_refl _); clear F3; have F3 := t1; clear t1 ha ht1 hg3; replace I1 := I1.later hb; replace b := later b hb; clear hb) | (with_reducible show Code.wp _ (Code.region _ _ true) _ _ _; (try simp only [Act.put, List.setIfInBounds_toArray, List.set_cons_succ, List.set_cons_zero]); fail))
  (try simp only [Act.put, List.setIfInBounds_toArray, List.set_cons_succ, List.set_cons_zero])
  refine region_since (by kernel_rfl) (by kernel_rfl) ?_
  repeat (first | go_big_quiet_skip | (go_big_quiet_want; first | ((with_reducible show Oper.quiet _ ⟨_, Op.load _ _, _, _, _, _⟩ _ _ _); (refine since_ld_orig _ rfl rfl F3 ?_; simp only [Act.put, List.setIfInBounds_toArray, List.set_cons_succ, List.set_cons_zero]; go_big_quiet_on)) | ((with_reducible show Oper.quiet _ ⟨_, Op.build _ _, _, _, _, _⟩ _ _ _); refine quiet_build _ _ rfl (origCs ns0 zero32 nilS nilS nilS).toArray (by simp only [List.map_toArray, List.map_cons, List.map_nil]; exact origBuilt0) ?_; simp only [Act.put, List.setIfInBounds_toArray, List.set_cons_succ, List.set_cons_zero]; go_big_quiet_on) | (go_big_quiet_op; first | go_big_quiet_on | (refine ⟨_, fun _ => since_of (HSM.out _), ?_⟩; go_big_quiet_on) | (refine ⟨_, fun s => since_of (HSA.out _ _ (I1.later s.ok)), ?_⟩; go_big_quiet_on) | (refine ⟨_, fun _ => since_of (HM0.out _), ?_⟩; go_big_quiet_on))))
  refine wpQuiet_nil ?_
  intro _ hq
  replace b := later b hq
  clear hq
  go_wp2_with fail
  go_ret
  exact ⟨rfl, b⟩
end Go.Proofs.Ytbbfnpfkbbpjgaa

/- The short form of a number, as the reference reads it: plain law. -/
namespace Go.Proofs.Ytbbfnpfkbbpjgaa
open Go.RowKit Go.Lib
set_option linter.unusedVariables false
set_option linter.unusedSimpArgs false

/-- What was read of s up to the place k, and is more: its short form begins so. -/
def PreR (s : List UInt8) (k m : Nat) : Prop := m < 128 ^ k ∧ ∀ x, 0 < x → putF 10 (m + x * 128 ^ k) = s.take k ++ putF (10 - k) x
theorem pre_start (s : List UInt8) : PreR s 0 0 := ⟨by simp, fun x _ => by simp⟩
theorem takeR_next {s : List UInt8} {k : Nat} (hl : k < s.length) : s.take (k + 1) = s.take k ++ [s.getD k 0] := by
  rw [List.take_succ_eq_append_getElem hl, List.getD_eq_getElem?_getD, List.getElem?_eq_getElem hl, Option.getD_some]
theorem pre_next {s : List UInt8} {k m : Nat} (h : PreR s k m) (hk : k < 9) (hl : k < s.length) (hc : 128 ≤ (s.getD k 0).toNat) : PreR s (k + 1) (m + (s.getD k 0).toNat % 128 * 128 ^ k) := by
  obtain ⟨h1, h2⟩ := h
  have e := takeR_next hl
  have hc2 := (s.getD k 0).toNat_lt
  have hof : UInt8.ofNat (s.getD k 0).toNat = s.getD k 0 := UInt8.ofNat_toNat
  generalize s.getD k 0 = c at *
  refine ⟨?_, fun x hx => ?_⟩
  · rw [Nat.pow_succ]
    have : (c.toNat % 128 + 1) * 128 ^ k ≤ 128 * 128 ^ k := Nat.mul_le_mul_right _ (by omega)
    rw [Nat.add_mul] at this
    omega
  · have e1 : m + c.toNat % 128 * 128 ^ k + x * 128 ^ (k + 1) = m + (c.toNat % 128 + x * 128) * 128 ^ k := by
      rw [Nat.pow_succ, Nat.add_mul, Nat.add_assoc, Nat.mul_assoc x, Nat.mul_comm 128]
    rw [e1, h2 _ (by omega), e, List.append_assoc, show 10 - k = (10 - (k + 1)) + 1 by omega, putF, if_neg (by omega),
      show (c.toNat % 128 + x * 128) % 128 + 128 = c.toNat by omega, show (c.toNat % 128 + x * 128) / 128 = x by omega, hof]
    rfl
theorem pre_end {s : List UInt8} {k m : Nat} (h : PreR s k m) (hk : k < 10) (hl : k < s.length) (hc : (s.getD k 0).toNat < 128) (h0 : ¬ ((s.getD k 0).toNat = 0 ∧ 0 < k)) : putL (m + (s.getD k 0).toNat % 128 * 128 ^ k) = s.take (k + 1) := by
  obtain ⟨h1, h2⟩ := h
  rw [takeR_next hl]
  have hof : UInt8.ofNat (s.getD k 0).toNat = s.getD k 0 := UInt8.ofNat_toNat
  generalize s.getD k 0 = c at *
  rw [Nat.mod_eq_of_lt hc]
  by_cases hz : c.toNat = 0
  · have hk0 : k = 0 := by omega
    subst hk0
    have hm : m = 0 := by simpa using h1
    subst hm
    rw [hz]
    have : c = 0 := UInt8.toNat_inj.1 (by simpa using hz)
    subst this
    rfl
  · unfold putL
    rw [h2 _ (by omega), show 10 - k = (10 - (k + 1)) + 1 by omega, putF, if_pos hc, hof]
theorem putF_short : ∀ (r m k : Nat), 0 < k → m < 128 ^ k → (putF r m).length ≤ k
  | 0, _, _, _, _ => by simp [putF]
  | r + 1, m, k, hk, hm => by
    rw [putF]
    split
    · simp; omega
    · rename_i h
      obtain ⟨k, rfl⟩ : ∃ q, k = q + 1 := ⟨k - 1, by omega⟩
      by_cases h0 : k = 0
      · subst h0; simp at hm; omega
      · have := putF_short r (m / 128) k (by omega) (by rw [Nat.pow_succ] at hm; exact Nat.div_lt_of_lt_mul (by rwa [Nat.mul_comm] at hm))
        rw [List.length_cons]; omega
theorem pre_zero {s : List UInt8} {k m : Nat} (h : PreR s k m) (hk : 0 < k) : (putL m).length ≤ k := putF_short _ _ _ hk h.1
/-- A product of 64 bits: is it whole? -/
theorem mul_whole (p k : Nat) (hp : p < 128) (hk : k < 10) : (p * 128 ^ k % 18446744073709551616 / 128 ^ k = p) ↔ ¬ (k = 9 ∧ 1 < p) := by
  have hc : k = 0 ∨ k = 1 ∨ k = 2 ∨ k = 3 ∨ k = 4 ∨ k = 5 ∨ k = 6 ∨ k = 7 ∨ k = 8 ∨ k = 9 := by omega
  have h9 : ∀ q : Fin 128, (q.1 * 9223372036854775808 % 18446744073709551616 / 9223372036854775808 = q.1) ↔ ¬ 1 < q.1 := by decide +kernel
  have h9p := h9 ⟨p, hp⟩
  rcases hc with rfl | rfl | rfl | rfl | rfl | rfl | rfl | rfl | rfl | rfl
  case inr.inr.inr.inr.inr.inr.inr.inr.inr =>
    simp only [Nat.reducePow, true_and]
    exact h9p
  all_goals
    clear h9 h9p
    simp only [Nat.reducePow]
    omega
end Go.Proofs.Ytbbfnpfkbbpjgaa
