/- The references' Takes: what both lean on. -/
import Derived.Test.YtbbfnpfkbbpjgaaOBRiD
import Derived.Test.YtbbfnpfkbbpjgaaOBDeed9
import Derived.Test.YtbbfnpfkbbpjgaaOBHdAt
import Derived.Test.YtbbfnpfkbbpjgaaOBOrig7
import Derived.Test.YtbbfnpfkbbpjgaaOBSlEl
import Derived.Test.YtbbfnpfkbbpjgaaOBMRef
import Derived.Test.YtbbfnpfkbbpjgaaOBStep
namespace Go.Proofs.Ytbbfnpfkbbpjgaa
open Go.RowKit Go.Lib
set_option linter.unusedVariables false
set_option linter.unusedSimpArgs false

theorem got_counted {α : Type} {p : Rdr α} {most n : Nat} {st0 st1 st2 : Option (List UInt8)} {l : List α} (h : Got (countP most) st0 n st1) (k : Got (manyP p n) st1 l st2) : Got (listP most p) st0 l st2 := by
  refine ⟨fun s hs => ?_, fun hs => k.2 (h.2 hs)⟩
  rcases h.1 s hs with ⟨r, h1, h2⟩ | ⟨h1, h2⟩
  · obtain ⟨n', t, hp, hq⟩ := bind_is h1
    by_cases hm : most < n'
    · rw [if_pos hm] at hq; cases hq
    · rw [if_neg hm] at hq
      obtain ⟨rfl, rfl⟩ := pure_is hq
      have e : listP most p s = manyP p n' t := by unfold listP; rw [bind_some hp, if_neg hm]
      rw [e]
      exact k.1 _ h2
  · refine .inr ⟨?_, k.2 h2⟩
    unfold countP at h1
    unfold listP
    cases hp : numP s with
    | none => rw [bind_none hp]
    | some x =>
      obtain ⟨n', t⟩ := x
      rw [bind_some hp] at h1 ⊢
      by_cases hm : most < n'
      · rw [if_pos hm]
      · rw [if_neg hm] at h1; cases h1
theorem outZ0 : Try.prog.built 48 [] = some (outCs out0).toArray := by kernel_rfl
theorem riBuilt (s : ByteArray) : Try.prog.built 101 [(0, .string s), (1, .bool true)] = some #[.string s, .bool true] := by kernel_rfl
/-- One thing more is kept. -/
theorem stab_more {P Q : World → Prop} {m : Nat} {X : List Nat} {w : World} (h : StabX P m X w) (k : StabX Q w.heap.size X w) : StabX (fun x => P x ∧ Q x) w.heap.size X w :=
  ⟨Nat.le_refl _, fun w' ht => ⟨(h.touch ht (fun x hx => hx.elim (fun h1 => .inl (Nat.le_trans h.lt h1)) .inr)).now, k.2 w' ht⟩⟩
theorem tk_base {P : World → Prop} {m0 g gt g0 W0 : Nat} {X : List Nat} {w1 : World} (R : StabX P m0 X w1) (z1 : gt < w1.heap.size) (hgg : g < gt) (h0g : g0 < g) (hw : W0 ≤ w1.heap.size) : ∃ m B, m ≤ B ∧ g < B ∧ gt < B ∧ g0 < B ∧ W0 ≤ B ∧ B ≤ w1.heap.size ∧ StabX P m X w1 :=
  ⟨m0, w1.heap.size, R.lt, by omega, z1, by omega, hw, Nat.le_refl _, R⟩
theorem RdI.flag {w : World} {g : Nat} {st : Option (List UInt8)} (h : RdI w g st) : w.cell? ⟨g, 1, none⟩ = some (.bool st.isSome) := by
  obtain ⟨s, b, h1, _, h2⟩ := h
  cases st with
  | none => rw [RI.c1 h1, h2.bad rfl]; rfl
  | some r => rw [RI.c1 h1, (h2.good r rfl).1]; rfl
theorem RdI.flag0 {w : World} {g : Nat} (h : RdI w g none) : w.cell? ⟨g, 1, none⟩ = some (.bool false) := h.flag
theorem RdI.flag1 {w : World} {g : Nat} {r : List UInt8} (h : RdI w g (some r)) : w.cell? ⟨g, 1, none⟩ = some (.bool true) := h.flag
theorem RdI.rest {w : World} {g : Nat} {r : List UInt8} (h : RdI w g (some r)) : ∃ s : ByteArray, w.cell? ⟨g, 0, none⟩ = some (.string s) ∧ s.data.toList = r := by
  obtain ⟨s, b, h1, _, h2⟩ := h
  exact ⟨s, RI.c0 h1, (h2.good r rfl).2⟩
end Go.Proofs.Ytbbfnpfkbbpjgaa

/- The reference of layer 16: less, has. -/
namespace Go.Proofs.Ytbbfnpfkbbpjgaa
open Go.RowKit Go.Lib
set_option linter.unusedVariables false
set_option linter.unusedSimpArgs false

set_option maxRecDepth 100000 in
set_option maxHeartbeats 800000 in
theorem less16_any (p q : List UInt8) (w : World) (hp : p.length = 32) (hq : q.length = 32) :
    Calls Try.prog 111 #[hv p, hv q] w fun e w' => e = .returned (.bool (Op.bytesLess p q)) ∧ Below w.heap.size w w' := by
  have HFX := hide (fun w => refBytes_any p w hp)
  have HFY := hide (fun w => refBytes_any q w hq)
  have HP := hide hp
  have HQ := hide hq
  obtain ⟨sx, hsx⟩ : ∃ z : ByteArray, z = ⟨p.toArray⟩ := ⟨_, rfl⟩
  obtain ⟨sy, hsy⟩ : ∃ z : ByteArray, z = ⟨q.toArray⟩ := ⟨_, rfl⟩
  have hR : Op.bytesLess p q = Op.bytesLess sx.toList sy.toList := by rw [hsx, hsy, ByteArray.toList_eq, ByteArray.toList_eq]
  rw [hR]
  rw [← hsx] at HFX
  rw [← hsy] at HFY
  have b := Below.refl w.heap.size w
  clear hp hq hR hsx hsy
  have mF1 := True.intro
  have mF2 := True.intro
  go_enter Try.func111, Try.ntmps111
  go_wp2_with (first | (with_reducible show wpList _ _ _ (⟨_, Op.box _ _, _, _, _, _⟩ :: _) _ _; clear mF1; refine wpl_box_hash rfl _ rfl rfl HP.out ?_; intro _ g1 hg1 F1 hb; (try replace F1 := F1.later hb); (try replace F2 := F2.later hb); (try replace F3 := F3.later hb); (try replace F4 := F4.later hb); (try replace F5 := F5.later hb); (try replace F6 := F6.later hb); (try replace F7 := F7.later hb); (try replace F8 := F8.later hb); (try replace F9 := F9.later hb); (try replace G1 := G1.later hb); (try replace G2 := G2.later hb); (try replace G3 := G3.later hb); (try replace z := z.later hb); (try replace b := later b hb); (try replace bB := mixed hB bB hb); clear hb) | (with_reducible show wpList _ _ _ (⟨_, Op.box _ _, _, _, _, _⟩ :: _) _ _; clear mF2; refine wpl_box_hash rfl _ rfl rfl HQ.out ?_; intro _ g2 hg2 F2 hb; (try replace F1 := F1.later hb); (try replace F2 := F2.later hb); (try replace F3 := F3.later hb); (try replace F4 := F4.later hb); (try replace F5 := F5.later hb); (try replace F6 := F6.later hb); (try replace F7 := F7.later hb); (try replace F8 := F8.later hb); (try replace F9 := F9.later hb); (try replace G1 := G1.later hb); (try replace G2 := G2.later hb); (try replace G3 := G3.later hb); (try replace z := z.later hb); (try replace b := later b hb); (try replace bB := mixed hB bB hb); clear hb) | (with_reducible show Code.wp _ (Code.region _ _ true) _ _ _; (try simp only [Act.put, List.setIfInBounds_toArray, List.set_cons_succ, List.set_cons_zero]); fail))
  (try simp only [Act.put, List.setIfInBounds_toArray, List.set_cons_succ, List.set_cons_zero])
  refine region_since (by kernel_rfl) (by kernel_rfl) ?_
  repeat (first | go_big_quiet_skip | (go_big_quiet_want; first | ((with_reducible show Oper.quiet _ ⟨_, Op.load _ _, _, _, _, _⟩ _ _ _); first | (refine since_load_elem _ rfl rfl (Cells.arr F1.2) HP.out ?_; simp only [Act.put, List.setIfInBounds_toArray, List.set_cons_succ, List.set_cons_zero]; go_big_quiet_on) | (refine since_load_elem _ rfl rfl (Cells.arr F2.2) HQ.out ?_; simp only [Act.put, List.setIfInBounds_toArray, List.set_cons_succ, List.set_cons_zero]; go_big_quiet_on)) | (go_big_quiet_op; first | go_big_quiet_on | (refine ⟨_, fun _ => since_of (HFX.out _), ?_⟩; clear HFX; go_big_quiet_on) | (refine ⟨_, fun _ => since_of (HFY.out _), ?_⟩; go_big_quiet_on))))
  refine wpQuiet_nil ?_
  intro _ hq
  replace b := later b hq
  clear hq
  go_wp2_with fail
  go_ret
  exact ⟨rfl, b⟩
set_option maxRecDepth 100000 in
set_option maxHeartbeats 1600000 in
theorem has16_any (v : Value) (l : List SeatT) (p : List UInt8) (w : World) (hsl : Sl w v 67 (l.map seatCs)) (hl : ∀ x ∈ l, x.Ok) (hp : p.length = 32) (hm6 : l.length ≤ 1000000) :
    Calls Try.prog 112 #[v, hv p] w fun e w' => e = .returned (.bool (l.any fun s => decide (s.pool = p))) ∧ Below w.heap.size w w' := by
  obtain ⟨a, c, rfl, _⟩ := Sl.shape hsl
  obtain ⟨m, hm⟩ : ∃ m, m = l.length := ⟨_, rfl⟩
  have HM := hide hm
  rw [← hm] at hm6 ⊢
  have HL := hide hl
  have HP := hide hp
  have b := Below.refl w.heap.size w
  clear hm hl hp
  go_enter Try.func112, Try.ntmps112
  go_wp2_with (with_reducible show wpList _ _ _ (⟨_, Op.box _ _, _, _, _, _⟩ :: _) _ _; refine wpl_box_hash rfl _ rfl rfl HP.out ?_; intro _ g1 hg1 F1 hb; (try replace F1 := F1.later hb); (try replace F2 := F2.later hb); (try replace F3 := F3.later hb); (try replace F4 := F4.later hb); (try replace F5 := F5.later hb); (try replace F6 := F6.later hb); (try replace F7 := F7.later hb); (try replace F8 := F8.later hb); (try replace F9 := F9.later hb); (try replace G1 := G1.later hb); (try replace G2 := G2.later hb); (try replace G3 := G3.later hb); (try replace z := z.later hb); (try replace b := later b hb); (try replace bB := mixed hB bB hb); clear hb)
  go_loopw [5] (fun i wr => ∃ k : Nat, i = .int .i64 k ∧ k ≤ m ∧ Hid ((l.take k).any (fun s => decide (s.pool = p)) = false) ∧ HashAt wr g1 p ∧ Below w.heap.size w wr) (fun i _ => m - (RowKit.intOf i).toNat)
  case atStart => exact ⟨0, rfl, by omega, hide (by simp), F1, b⟩
  case round =>
    clear b F1
    obtain ⟨k, rfl, hk, HA, F1, b⟩ := hrel
    by_cases hlt : k < m
    · obtain ⟨x, hx, okx⟩ := get_ok HL.out (k := k) (by rw [← HM.out]; exact hlt)
      obtain ⟨bb, k0, c', he, _, hcs⟩ := Sl.block (hsl.later b) (by rw [← HM.out]; omega)
      simp only [Value.slice.injEq] at he
      obtain ⟨rfl, -, rfl⟩ := he
      have d1 := Cells.left (seatR0 (hcs k x hx))
      have HK1 : Hid (x.pool.length = 32) := okx.1
      have HX := hide (any_take l (fun s => decide (s.pool = p)) k x hx)
      have HX2 := hide (fun h => any_of_get (g := fun s => decide (s.pool = p)) hx h)
      clear hcs hx okx
      cases hB : decide (x.pool = p)
      case true =>
        have HA2 := hide (HX2.out hB)
        have HB := hide hB
        clear HX HX2 HA hB
        go_wp2_with (with_reducible show Code.wp _ (Code.region _ _ true) _ _ _; (try simp only [Act.put, List.setIfInBounds_toArray, List.set_cons_succ, List.set_cons_zero]); fail)
        (try simp only [Act.put, List.setIfInBounds_toArray, List.set_cons_succ, List.set_cons_zero])
        refine region_since (by kernel_rfl) (by kernel_rfl) ?_
        repeat (first | go_big_quiet_skip | (go_big_quiet_want; first | ((with_reducible show Oper.quiet _ ⟨_, Op.load _ _, _, _, _, _⟩ _ _ _); first | (refine since_load_elem _ rfl rfl d1 HK1.out ?_; simp only [Act.put, List.setIfInBounds_toArray, List.set_cons_succ, List.set_cons_zero]; go_big_quiet_on) | (refine since_load_elem _ rfl rfl (Cells.arr F1.2) HP.out ?_; simp only [Act.put, List.setIfInBounds_toArray, List.set_cons_succ, List.set_cons_zero]; go_big_quiet_on)) | ((with_reducible show Oper.quiet _ ⟨_, Op.binOp _ _ _ _ _, _, _, _, _⟩ _ _ _); refine quiet_eq _ _ rfl rfl rfl HK1.out HP.out ?_; rw [HB.out]; simp only [Act.put, List.setIfInBounds_toArray, List.set_cons_succ, List.set_cons_zero]; go_big_quiet_on) | (go_big_quiet_op; go_big_quiet_on)))
        refine wpQuiet_nil ?_
        intro _ hq
        replace b := later b hq
        clear hq d1
        go_wp2_with fail
        go_ret
        exact ⟨by rw [HA2.out]; rfl, b⟩
      case false =>
        have HA2 : Hid ((l.take (k + 1)).any (fun s => decide (s.pool = p)) = false) := by rw [HX.out, HA.out, hB]; exact hide rfl
        have HB := hide hB
        clear HX HX2 HA hB
        go_wp2_with (with_reducible show Code.wp _ (Code.region _ _ true) _ _ _; (try simp only [Act.put, List.setIfInBounds_toArray, List.set_cons_succ, List.set_cons_zero]); fail)
        (try simp only [Act.put, List.setIfInBounds_toArray, List.set_cons_succ, List.set_cons_zero])
        refine region_since (by kernel_rfl) (by kernel_rfl) ?_
        repeat (first | go_big_quiet_skip | (go_big_quiet_want; first | ((with_reducible show Oper.quiet _ ⟨_, Op.load _ _, _, _, _, _⟩ _ _ _); first | (refine since_load_elem _ rfl rfl d1 HK1.out ?_; simp only [Act.put, List.setIfInBounds_toArray, List.set_cons_succ, List.set_cons_zero]; go_big_quiet_on) | (refine since_load_elem _ rfl rfl (Cells.arr F1.2) HP.out ?_; simp only [Act.put, List.setIfInBounds_toArray, List.set_cons_succ, List.set_cons_zero]; go_big_quiet_on)) | ((with_reducible show Oper.quiet _ ⟨_, Op.binOp _ _ _ _ _, _, _, _, _⟩ _ _ _); refine quiet_eq _ _ rfl rfl rfl HK1.out HP.out ?_; rw [HB.out]; simp only [Act.put, List.setIfInBounds_toArray, List.set_cons_succ, List.set_cons_zero]; go_big_quiet_on) | (go_big_quiet_op; go_big_quiet_on)))
        refine wpQuiet_nil ?_
        intro _ hq
        replace b := later b hq
        replace F1 := F1.later hq
        clear hq d1
        go_wp2_with fail
        go_roundw
        case rel => exact ⟨k + 1, by simp, by omega, HA2, F1, b⟩
        case measure => simp [RowKit.intOf]; omega
    · obtain rfl : m = k := by omega
      have hA := HA.out
      rw [List.take_of_length_le (by rw [← HM.out]; exact Nat.le_refl _)] at hA
      have HA2 := hide hA
      clear HA hA hlt hk
      go_wp2_with fail
      go_ret
      exact ⟨by rw [HA2.out]; rfl, b⟩
end Go.Proofs.Ytbbfnpfkbbpjgaa
