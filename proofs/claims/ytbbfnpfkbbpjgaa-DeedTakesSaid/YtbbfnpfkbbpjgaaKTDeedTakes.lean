/- Laws of layer 13: DeedTakes. -/
import Derived.Test.YtbbfnpfkbbpjgaaKTDeedB
import Derived.Test.YtbbfnpfkbbpjgaaKTDeedMR
import Derived.Test.YtbbfnpfkbbpjgaaKTDeedTR
namespace Go.Proofs.Ytbbfnpfkbbpjgaa
open Go.RowKit Go.Lib
set_option linter.unusedVariables false
set_option linter.unusedSimpArgs false

theorem deedIs_mk {w : World} {v1 v2 v3 v4 v5 : Value} {d : Deed} (h1 : Sl w v1 33 (d.ins.map inCs)) (h2 : Sl w v2 65 (d.outs.map outCs)) (h3 : Sl w v3 68 (d.certs.map certCs)) (h4 : Sl w v4 33 (d.pays.map payCs)) (h5 : Sl w v5 33 (d.wits.map witCs)) (ok : d.Ok) : DeedIs w (deedV v1 v2 v3 v4 v5 d.fee d.frm d.til) d :=
  ⟨v1, v2, v3, v4, v5, rfl, h1, h2, h3, h4, h5, ok⟩
set_option maxRecDepth 100000 in
set_option maxHeartbeats 3200000 in
theorem deedTakes_any (s : ByteArray) (hsz : s.size ≤ maxLen) (w : World) :
    Calls Try.prog 7 #[.string s] w fun x w' => x = .returned (.bool true) ∧ Below w.heap.size w w' := by
  clear hsz
  have HW := hide works13
  have b := Below.refl w.heap.size w
  by_cases hlen : s.size ≤ 16384
  · have HT := hide (fun w => deedTake_any s w (by omega))
    have HR := hide (fun w => refTake13_of refMay_any s w (by omega))
    have cl : decide ((16384 : Int) < (s.size : Int)) = false := decide_eq_false (by omega)
    obtain ⟨x, hx⟩ : ∃ x, x = (takeD s.data.toList).1 := ⟨_, rfl⟩
    obtain ⟨c, hc⟩ : ∃ c, c = (takeD s.data.toList).2 := ⟨_, rfl⟩
    rw [← hx, ← hc] at HT HR
    have HS := hide (fun v u w (h : DeedIs w v x) (k : DeedIs w u x) => refSame_any v u x x w h k)
    rw [sameD_self] at HS
    clear hx hc hlen
    have mF1 := True.intro
    have mF2 := True.intro
    have mS1 := True.intro
    have mS2 := True.intro
    go_enter Try.func7, Try.ntmps7
    go_wp2_with (first | (go_at_call 27; refine (HT.out _).mono ?_; rintro _ _ ⟨⟨v', rfl, IO⟩, hc⟩; have I0 := IO.is; clear IO; obtain ⟨y1, y2, y3, y4, y5, rfl, S1, S2, S3, S4, S5, hok⟩ := I0; have o1 := S1.one'; have o2 := S2.one'; have o3 := S3.one'; have o4 := S4.one'; have o5 := S5.one'; have I1 := deedIs_mk S1 S2 S3 S4 S5 hok; clear S1 S2 S3 S4 S5 hok; replace b := later b hc; clear hc) | (with_reducible show wpList _ _ _ (⟨_, Op.alloc 55, _, _, _, _⟩ :: _) _ _; clear mF1; refine wpl_mk_deed rfl rfl ?_; intro _ g1 hg1 F1 ha; simp only [Act.put, List.setIfInBounds_toArray, List.set_cons_succ, List.set_cons_zero]) | ((with_reducible show wpList _ _ _ (⟨_, Op.store 55 _ _, _, _, _, _⟩ :: _) _ _); clear mS1; refine wpl_set_deed rfl _ _ rfl rfl (v1 := y1) (v2 := y2) (v3 := y3) (v4 := y4) (v5 := y5) (f := x.fee) (s := x.frm) (t := x.til) rfl o1 o2 o3 o4 o5 F1 ?_; intro _ t1 ht1; have hb := below_touch ha ht1 hg1 (Nat.le_refl _); clear F1; replace I1 := I1.later hb; replace b := later b hb; have F1 := t1; clear t1 ht1 ha hb hg1; simp only [Act.put, List.setIfInBounds_toArray, List.set_cons_succ, List.set_cons_zero]) | (go_at_call 28; refine (HR.out _).mono ?_; rintro _ _ ⟨⟨v'', rfl, I0⟩, hc⟩; replace F1 := F1.later hc; replace I1 := I1.later hc; replace b := later b hc; clear hc; obtain ⟨z1, z2, z3, z4, z5, rfl, S1, S2, S3, S4, S5, hok⟩ := I0; have p1 := S1.one'; have p2 := S2.one'; have p3 := S3.one'; have p4 := S4.one'; have p5 := S5.one'; have I2 := deedIs_mk S1 S2 S3 S4 S5 hok; clear S1 S2 S3 S4 S5 hok) | (with_reducible show wpList _ _ _ (⟨_, Op.alloc 55, _, _, _, _⟩ :: _) _ _; clear mF2; refine wpl_mk_deed rfl rfl ?_; intro _ g2 hg2 F2 ha; simp only [Act.put, List.setIfInBounds_toArray, List.set_cons_succ, List.set_cons_zero]) | ((with_reducible show wpList _ _ _ (⟨_, Op.store 55 _ _, _, _, _, _⟩ :: _) _ _); clear mS2; refine wpl_set_deed rfl _ _ rfl rfl (v1 := z1) (v2 := z2) (v3 := z3) (v4 := z4) (v5 := z5) (f := x.fee) (s := x.frm) (t := x.til) rfl p1 p2 p3 p4 p5 F2 ?_; intro _ t1 ht1; have hb := below_touch ha ht1 hg2 (Nat.le_refl _); clear F2; replace F1 := F1.later hb; replace I1 := I1.later hb; replace I2 := I2.later hb; replace b := later b hb; have F2 := t1; clear t1 ht1 ha hb hg2; simp only [Act.put, List.setIfInBounds_toArray, List.set_cons_succ, List.set_cons_zero]) | (with_reducible show wpList _ _ _ (⟨_, Op.load 55 _, _, _, _, _⟩ :: _) _ _; first | refine wpl_ld_deed rfl _ rfl rfl F1 ?_ | refine wpl_ld_deed rfl _ rfl rfl F2 ?_) | (go_at_call 29; refine (HS.out _ _ _ I1 I2).mono ?_; rintro _ _ ⟨rfl, hc⟩; replace b := later b hc; clear hc) | (go_at_call 26; refine (HW.out _).mono ?_; rintro _ _ ⟨rfl, hc⟩; (try replace F1 := F1.later hc); (try replace F2 := F2.later hc); (try replace F3 := F3.later hc); (try replace F4 := F4.later hc); (try replace F5 := F5.later hc); (try replace F6 := F6.later hc); (try replace F7 := F7.later hc); (try replace F8 := F8.later hc); (try replace F9 := F9.later hc); (try replace G1 := G1.later hc); (try replace G2 := G2.later hc); (try replace G3 := G3.later hc); (try replace z := z.later hc); (try replace b := later b hc); (try replace bB := mixed hB bB hc); clear hc))
    go_ret
    exact ⟨by simp, b⟩
  · have cl : decide ((16384 : Int) < (s.size : Int)) = true := decide_eq_true (by omega)
    clear hlen
    go_enter Try.func7, Try.ntmps7
    go_wp2_with (go_at_call 26; refine (HW.out _).mono ?_; rintro _ _ ⟨rfl, hc⟩; (try replace F1 := F1.later hc); (try replace F2 := F2.later hc); (try replace F3 := F3.later hc); (try replace F4 := F4.later hc); (try replace F5 := F5.later hc); (try replace F6 := F6.later hc); (try replace F7 := F7.later hc); (try replace F8 := F8.later hc); (try replace F9 := F9.later hc); (try replace G1 := G1.later hc); (try replace G2 := G2.later hc); (try replace G3 := G3.later hc); (try replace z := z.later hc); (try replace b := later b hc); (try replace bB := mixed hB bB hc); clear hc)
    go_ret
    exact ⟨by simp, b⟩
end Go.Proofs.Ytbbfnpfkbbpjgaa
