/- The row of OriginParams: the law returns true for every input; by the walk in YtbbfnpfkbbpjgaaOriginParams. No condition. -/
import Derived.Test.YtbbfnpfkbbpjgaaOAMBase
import Derived.Test.YtbbfnpfkbbpjgaaOARowOriginKnown
import Derived.Lib.SmallJoins
import Derived.SliceStrings
import Derived.Test.YtbbfnpfkbbpjgaaOAElSeat
import Derived.Test.YtbbfnpfkbbpjgaaOAElIn
import Derived.Test.YtbbfnpfkbbpjgaaOAMRef
import Derived.Test.YtbbfnpfkbbpjgaaOAStep
namespace Go.Proofs.Ytbbfnpfkbbpjgaa.originParams
open Go.ChangeShapes Go.WideShapes Go.ChangeAt Go.RowKit Go.WideMaps Go.WideElems
open Go.ChangeMaps (open_string)
set_option linter.unusedVariables false

set_option maxRecDepth 100000 in
theorem lifted (os : Os) (started : os.Started) (H : Type) (enc : TypeId × Value → H) :
    ReturnsInHanded {} Try.checked os 12 .any (Rows.originParamsSpec.pre6 enc Try.prog Try.f12 Rows.originParamsRow.domain false) (Rows.originParamsSpec.post enc Try.prog Try.f12 false true false false) := by
  refine returnsInHanded_of_change (C := Try.checked) ownsKnob started (by kernel_rfl) Try.func12
    (ChangeSpec.witness6 (enc := enc) (C := Try.checked) false ⟨#[], #[.int .u64 0, .int .u64 0, .agg #[.int .u8 0, .int .u8 0, .int .u8 0, .int .u8 0, .int .u8 0, .int .u8 0, .int .u8 0, .int .u8 0, .int .u8 0, .int .u8 0, .int .u8 0, .int .u8 0, .int .u8 0, .int .u8 0, .int .u8 0, .int .u8 0, .int .u8 0, .int .u8 0, .int .u8 0, .int .u8 0, .int .u8 0, .int .u8 0, .int .u8 0, .int .u8 0, .int .u8 0, .int .u8 0, .int .u8 0, .int .u8 0, .int .u8 0, .int .u8 0, .int .u8 0, .int .u8 0], .int .i64 0], []⟩ 8 (by kernel_rfl) (by kernel_rfl) (by kernel_rfl) (by kernel_rfl)) ?_
  intro W base args ds gs before hval0 hW hcnd _
  have hval : ∀ (j : Nat) t v, Try.f12.params[j]? = some t → args[j]? = some v → Value.okWide Try.prog W .any base t v := hval0
  have hW' := hW
  obtain ⟨p, q, hA0, hV, rfl, hfz, hnd⟩ := hW
  have hA : DataW.TrodAll enc Try.prog W 0 (fun _ => true) true Try.f12.params.toList args.toList ds p := hA0
  rw [Try.params12] at hA hval
  obtain ⟨v0, vs0, d0, ds0, p0, q0, hargs, rfl, rfl, h0, r0⟩ := trodAll_cons hA
  obtain ⟨v1, vs1, d1, ds1, p1, q1, rfl, rfl, rfl, h1, r1⟩ := trodAll_cons r0
  obtain ⟨v2, vs2, d2, ds2, p2, q2, rfl, rfl, rfl, h2, r2⟩ := trodAll_cons r1
  obtain ⟨v3, vs3, d3, ds3, p3, q3, rfl, rfl, rfl, h3, r3⟩ := trodAll_cons r2
  obtain ⟨rfl, rfl, rfl⟩ := trodAll_nil r3
  obtain rfl : args = #[v0, v1, v2, v3] := by cases args; simp_all
  obtain ⟨rfl, rfl⟩ := trodVars_none hV
  obtain ⟨a0, rfl, e0, _, w0⟩ := open_int Try.underlying23 (hval 0 23 v0 rfl rfl) h0
  obtain ⟨a1, rfl, e1, _, w1⟩ := open_int Try.underlying23 (hval 1 23 v1 rfl rfl) h1
  obtain ⟨a2, w2, rfl⟩ := open_hash (hval 2 27 v2 rfl rfl) h2
  obtain ⟨a3, rfl, e3, _, w3⟩ := open_int Try.underlying3 (hval 3 3 v3 rfl rfl) h3
  refine (originParams_any a0 w0 a1 w1 a2 w2 a3 w3 W).mono fun e W' ⟨he, hb⟩ => ?_
  subst he
  exact ⟨_, rfl, law_post isLaidOut (by kernel_rfl) (by kernel_rfl) Try.underlying4 rfl hW' hb ⟨rfl, rfl, rfl⟩⟩

theorem over : Rows.originParamsRow.holds Try.pinned (OpenSpec.ofChange Rows.originParamsSpec) :=
  OpenClaim.holds_of_wide 12 Try.f12 rfl rfl rfl rfl rfl rfl rfl ⟨rfl, rfl, rfl, rfl, rfl⟩ rfl rfl rfl rfl rfl (by kernel_rfl) Try.func12 (by kernel_rfl)
    (of_decide_eq_true (by kernel_rfl)) (by unfold Func.isWrapper; first | (rw [if_pos (by decide +kernel)]; kernel_rfl) | (rw [if_neg (by decide +kernel)]; exact ⟨rfl, rfl⟩))
    (fun os started H enc _ => lifted os started H enc)

theorem proved : Rows.OriginParamsSaid :=
  over
#print axioms proved
end Go.Proofs.Ytbbfnpfkbbpjgaa.originParams

/- The reference of layer 16: less, has. -/
namespace Go.Proofs.Ytbbfnpfkbbpjgaa
open Go.RowKit Go.Lib
set_option linter.unusedVariables false
set_option linter.unusedSimpArgs false

set_option maxRecDepth 100000 in
set_option maxHeartbeats 800000 in
theorem less16_any (p q : List UInt8) (w : World) (hp : p.length = 32) (hq : q.length = 32) :
    Calls Try.prog 111 #[hv p, hv q] w fun e w' => e = .returned (.bool (Op.bytesLess p q)) ∧ Below w.heap.size w w' := by
  have HFX := hide (fun w => refBytes_any p w hp)
  have HFY := hide (fun w => refBytes_any q w hq)
  have HP := hide hp
  have HQ := hide hq
  obtain ⟨sx, hsx⟩ : ∃ z : ByteArray, z = ⟨p.toArray⟩ := ⟨_, rfl⟩
  obtain ⟨sy, hsy⟩ : ∃ z : ByteArray, z = ⟨q.toArray⟩ := ⟨_, rfl⟩
  have hR : Op.bytesLess p q = Op.bytesLess sx.toList sy.toList := by rw [hsx, hsy, ByteArray.toList_eq, ByteArray.toList_eq]
  rw [hR]
  rw [← hsx] at HFX
  rw [← hsy] at HFY
  have b := Below.refl w.heap.size w
  clear hp hq hR hsx hsy
  have mF1 := True.intro
  have mF2 := True.intro
  go_enter Try.func111, Try.ntmps111
  go_wp2_with (first | (with_reducible show wpList _ _ _ (⟨_, Op.box _ _, _, _, _, _⟩ :: _) _ _; clear mF1; refine wpl_box_hash rfl _ rfl rfl HP.out ?_; intro _ g1 hg1 F1 hb; (try replace F1 := F1.later hb); (try replace F2 := F2.later hb); (try replace F3 := F3.later hb); (try replace F4 := F4.later hb); (try replace F5 := F5.later hb); (try replace F6 := F6.later hb); (try replace F7 := F7.later hb); (try replace F8 := F8.later hb); (try replace F9 := F9.later hb); (try replace G1 := G1.later hb); (try replace G2 := G2.later hb); (try replace G3 := G3.later hb); (try replace z := z.later hb); (try replace b := later b hb); (try replace bB := mixed hB bB hb); clear hb) | (with_reducible show wpList _ _ _ (⟨_, Op.box _ _, _, _, _, _⟩ :: _) _ _; clear mF2; refine wpl_box_hash rfl _ rfl rfl HQ.out ?_; intro _ g2 hg2 F2 hb; (try replace F1 := F1.later hb); (try replace F2 := F2.later hb); (try replace F3 := F3.later hb); (try replace F4 := F4.later hb); (try replace F5 := F5.later hb); (try replace F6 := F6.later hb); (try replace F7 := F7.later hb); (try replace F8 := F8.later hb); (try replace F9 := F9.later hb); (try replace G1 := G1.later hb); (try replace G2 := G2.later hb); (try replace G3 := G3.later hb); (try replace z := z.later hb); (try replace b := later b hb); (try replace bB := mixed hB bB hb); clear hb) | (with_reducible show Code.wp _ (Code.region _ _ true) _ _ _; (try simp only [Act.put, List.setIfInBounds_toArray, List.set_cons_succ, List.set_cons_zero]); fail))
  (try simp only [Act.put, List.setIfInBounds_toArray, List.set_cons_succ, List.set_cons_zero])
  refine region_since (by kernel_rfl) (by kernel_rfl) ?_
  repeat (first | go_big_quiet_skip | (go_big_quiet_want; first | ((with_reducible show Oper.quiet _ ⟨_, Op.load _ _, _, _, _, _⟩ _ _ _); first | (refine since_load_elem _ rfl rfl (Cells.arr F1.2) HP.out ?_; simp only [Act.put, List.setIfInBounds_toArray, List.set_cons_succ, List.set_cons_zero]; go_big_quiet_on) | (refine since_load_elem _ rfl rfl (Cells.arr F2.2) HQ.out ?_; simp only [Act.put, List.setIfInBounds_toArray, List.set_cons_succ, List.set_cons_zero]; go_big_quiet_on)) | (go_big_quiet_op; first | go_big_quiet_on | (refine ⟨_, fun _ => since_of (HFX.out _), ?_⟩; clear HFX; go_big_quiet_on) | (refine ⟨_, fun _ => since_of (HFY.out _), ?_⟩; go_big_quiet_on))))
  refine wpQuiet_nil ?_
  intro _ hq
  replace b := later b hq
  clear hq
  go_wp2_with fail
  go_ret
  exact ⟨rfl, b⟩
set_option maxRecDepth 100000 in
set_option maxHeartbeats 1600000 in
theorem has16_any (v : Value) (l : List SeatT) (p : List UInt8) (w : World) (hsl : Sl w v 67 (l.map seatCs)) (hl : ∀ x ∈ l, x.Ok) (hp : p.length = 32) (hm6 : l.length ≤ 1000000) :
    Calls Try.prog 112 #[v, hv p] w fun e w' => e = .returned (.bool (l.any fun s => decide (s.pool = p))) ∧ Below w.heap.size w w' := by
  obtain ⟨a, c, rfl, _⟩ := Sl.shape hsl
  obtain ⟨m, hm⟩ : ∃ m, m = l.length := ⟨_, rfl⟩
  have HM := hide hm
  rw [← hm] at hm6 ⊢
  have HL := hide hl
  have HP := hide hp
  have b := Below.refl w.heap.size w
  clear hm hl hp
  go_enter Try.func112, Try.ntmps112
  go_wp2_with (with_reducible show wpList _ _ _ (⟨_, Op.box _ _, _, _, _, _⟩ :: _) _ _; refine wpl_box_hash rfl _ rfl rfl HP.out ?_; intro _ g1 hg1 F1 hb; (try replace F1 := F1.later hb); (try replace F2 := F2.later hb); (try replace F3 := F3.later hb); (try replace F4 := F4.later hb); (try replace F5 := F5.later hb); (try replace F6 := F6.later hb); (try replace F7 := F7.later hb); (try replace F8 := F8.later hb); (try replace F9 := F9.later hb); (try replace G1 := G1.later hb); (try replace G2 := G2.later hb); (try replace G3 := G3.later hb); (try replace z := z.later hb); (try replace b := later b hb); (try replace bB := mixed hB bB hb); clear hb)
  go_loopw [5] (fun i wr => ∃ k : Nat, i = .int .i64 k ∧ k ≤ m ∧ Hid ((l.take k).any (fun s => decide (s.pool = p)) = false) ∧ HashAt wr g1 p ∧ Below w.heap.size w wr) (fun i _ => m - (RowKit.intOf i).toNat)
  case atStart => exact ⟨0, rfl, by omega, hide (by simp), F1, b⟩
  case round =>
    clear b F1
    obtain ⟨k, rfl, hk, HA, F1, b⟩ := hrel
    by_cases hlt : k < m
    · obtain ⟨x, hx, okx⟩ := get_ok HL.out (k := k) (by rw [← HM.out]; exact hlt)
      obtain ⟨bb, k0, c', he, _, hcs⟩ := Sl.block (hsl.later b) (by rw [← HM.out]; omega)
      simp only [Value.slice.injEq] at he
      obtain ⟨rfl, -, rfl⟩ := he
      have d1 := Cells.left (seatR0 (hcs k x hx))
      have HK1 : Hid (x.pool.length = 32) := okx.1
      have HX := hide (any_take l (fun s => decide (s.pool = p)) k x hx)
      have HX2 := hide (fun h => any_of_get (g := fun s => decide (s.pool = p)) hx h)
      clear hcs hx okx
      cases hB : decide (x.pool = p)
      case true =>
        have HA2 := hide (HX2.out hB)
        have HB := hide hB
        clear HX HX2 HA hB
        go_wp2_with (with_reducible show Code.wp _ (Code.region _ _ true) _ _ _; (try simp only [Act.put, List.setIfInBounds_toArray, List.set_cons_succ, List.set_cons_zero]); fail)
        (try simp only [Act.put, List.setIfInBounds_toArray, List.set_cons_succ, List.set_cons_zero])
        refine region_since (by kernel_rfl) (by kernel_rfl) ?_
        repeat (first | go_big_quiet_skip | (go_big_quiet_want; first | ((with_reducible show Oper.quiet _ ⟨_, Op.load _ _, _, _, _, _⟩ _ _ _); first | (refine since_load_elem _ rfl rfl d1 HK1.out ?_; simp only [Act.put, List.setIfInBounds_toArray, List.set_cons_succ, List.set_cons_zero]; go_big_quiet_on) | (refine since_load_elem _ rfl rfl (Cells.arr F1.2) HP.out ?_; simp only [Act.put, List.setIfInBounds_toArray, List.set_cons_succ, List.set_cons_zero]; go_big_quiet_on)) | ((with_reducible show Oper.quiet _ ⟨_, Op.binOp _ _ _ _ _, _, _, _, _⟩ _ _ _); refine quiet_eq _ _ rfl rfl rfl HK1.out HP.out ?_; rw [HB.out]; simp only [Act.put, List.setIfInBounds_toArray, List.set_cons_succ, List.set_cons_zero]; go_big_quiet_on) | (go_big_quiet_op; go_big_quiet_on)))
        refine wpQuiet_nil ?_
        intro _ hq
        replace b := later b hq
        clear hq d1
        go_wp2_with fail
        go_ret
        exact ⟨by rw [HA2.out]; rfl, b⟩
      case false =>
        have HA2 : Hid ((l.take (k + 1)).any (fun s => decide (s.pool = p)) = false) := by rw [HX.out, HA.out, hB]; exact hide rfl
        have HB := hide hB
        clear HX HX2 HA hB
        go_wp2_with (with_reducible show Code.wp _ (Code.region _ _ true) _ _ _; (try simp only [Act.put, List.setIfInBounds_toArray, List.set_cons_succ, List.set_cons_zero]); fail)
        (try simp only [Act.put, List.setIfInBounds_toArray, List.set_cons_succ, List.set_cons_zero])
        refine region_since (by kernel_rfl) (by kernel_rfl) ?_
        repeat (first | go_big_quiet_skip | (go_big_quiet_want; first | ((with_reducible show Oper.quiet _ ⟨_, Op.load _ _, _, _, _, _⟩ _ _ _); first | (refine since_load_elem _ rfl rfl d1 HK1.out ?_; simp only [Act.put, List.setIfInBounds_toArray, List.set_cons_succ, List.set_cons_zero]; go_big_quiet_on) | (refine since_load_elem _ rfl rfl (Cells.arr F1.2) HP.out ?_; simp only [Act.put, List.setIfInBounds_toArray, List.set_cons_succ, List.set_cons_zero]; go_big_quiet_on)) | ((with_reducible show Oper.quiet _ ⟨_, Op.binOp _ _ _ _ _, _, _, _, _⟩ _ _ _); refine quiet_eq _ _ rfl rfl rfl HK1.out HP.out ?_; rw [HB.out]; simp only [Act.put, List.setIfInBounds_toArray, List.set_cons_succ, List.set_cons_zero]; go_big_quiet_on) | (go_big_quiet_op; go_big_quiet_on)))
        refine wpQuiet_nil ?_
        intro _ hq
        replace b := later b hq
        replace F1 := F1.later hq
        clear hq d1
        go_wp2_with fail
        go_roundw
        case rel => exact ⟨k + 1, by simp, by omega, HA2, F1, b⟩
        case measure => simp [RowKit.intOf]; omega
    · obtain rfl : m = k := by omega
      have hA := HA.out
      rw [List.take_of_length_le (by rw [← HM.out]; exact Nat.le_refl _)] at hA
      have HA2 := hide hA
      clear HA hA hlt hk
      go_wp2_with fail
      go_ret
      exact ⟨by rw [HA2.out]; rfl, b⟩
end Go.Proofs.Ytbbfnpfkbbpjgaa
