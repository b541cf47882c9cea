/- OriginTakes: any bytes: the origin that they are. -/
import Derived.Test.YtbbfnpfkbbpjgaaOBEvoL
import Derived.Test.YtbbfnpfkbbpjgaaOBOrigV
namespace Go.Proofs.Ytbbfnpfkbbpjgaa
open Go.RowKit Go.Lib
set_option linter.unusedVariables false
set_option linter.unusedSimpArgs false

theorem takeOr_few (s : List UInt8) : (takeOr s).1.Few := by
  by_cases h : (takeOr s).2 = 0
  · exact mayOr_few (takeOr_ok s) (takeOr_is h).1
  · rw [takeOr_no h]; exact orig0_few
set_option maxRecDepth 100000 in
set_option maxHeartbeats 3200000 in
theorem originTakes_any (s : ByteArray) (_ : s.size ≤ maxLen) (w : World) :
    Calls Try.prog 3 #[.string s] w fun e w' => e = .returned (.bool true) ∧ Below w.heap.size w w' := by
  have HW := hide works16
  have b := Below.refl w.heap.size w
  by_cases hs : 16384 < s.size
  · have c1 := decide_eq_true (show (16384 : Int) < (s.size : Int) by omega)
    have c2 := decide_eq_true hs
    clear hs
    go_enter Try.func3, Try.ntmps3
    go_wp2_with (go_at_call 16; refine (HW.out _).mono ?_; rintro _ _ ⟨rfl, hc⟩; (try replace F1 := F1.later hc); (try replace F2 := F2.later hc); (try replace F3 := F3.later hc); (try replace F4 := F4.later hc); (try replace F5 := F5.later hc); (try replace F6 := F6.later hc); (try replace F7 := F7.later hc); (try replace F8 := F8.later hc); (try replace F9 := F9.later hc); (try replace G1 := G1.later hc); (try replace G2 := G2.later hc); (try replace G3 := G3.later hc); (try replace z := z.later hc); (try replace b := later b hc); (try replace bB := mixed hB bB hc); clear hc)
    go_ret
    exact ⟨rfl, b⟩
  · have c1 := decide_eq_false (show ¬ (16384 : Int) < (s.size : Int) by omega)
    have c2 := decide_eq_false hs
    have HT := hide (fun w => oTake_any s w (by omega))
    have HR := hide (fun w => refTake16 s w (by omega))
    have hfw := takeOr_few s.data.toList
    generalize takeOr s.data.toList = T at *
    obtain ⟨o, E⟩ := T
    have HS := hide (fun v u w (h : OrigIs w v o) (k : OrigIs w u o) => orefSame_any v u o o w h k hfw hfw)
    have HNS : Hid (o.nonce.length = 32 ∧ (origNs o).length = 15) := ⟨hfw.ok.nonce, origNs_length hfw.ok⟩
    have hq : decide (origL o = origL o) = true := decide_eq_true rfl
    rw [hq] at HS
    clear hs hfw hq
    have mF1 := True.intro
    have mF2 := True.intro
    have mS1 := True.intro
    have mS2 := True.intro
    go_enter Try.func3, Try.ntmps3
    go_wp2_with (first | (go_at_call 17; refine (HT.out _).mono ?_; rintro _ _ ⟨⟨v', rfl, IO⟩, hc⟩; have I0 := IO.is; clear IO; obtain ⟨y1, y2, y3, rfl, S1, S2, S3, hok⟩ := I0; have o1 := S1.one'; have o2 := S2.one'; have o3 := S3.one'; have I1 := origIs_mk S1 S2 S3 hok; clear S1 S2 S3 hok; replace b := later b hc; clear hc) | (go_at_call 18; refine (HR.out _).mono ?_; rintro _ _ ⟨⟨v'', rfl, I0⟩, hc⟩; replace F1 := F1.later hc; replace I1 := I1.later hc; replace b := later b hc; clear hc; obtain ⟨z1, z2, z3, rfl, S1, S2, S3, hok⟩ := I0; have p1 := S1.one'; have p2 := S2.one'; have p3 := S3.one'; have I2 := origIs_mk S1 S2 S3 hok; clear S1 S2 S3 hok) | (with_reducible show wpList _ _ _ (⟨_, Op.alloc 32, _, _, _, _⟩ :: _) _ _; first | (clear mF1; refine wpl_mk_orig rfl rfl ?_; intro _ g1 hg1 F1 ha; simp only [Act.put, List.setIfInBounds_toArray, List.set_cons_succ, List.set_cons_zero]) | (clear mF2; refine wpl_mk_orig rfl rfl ?_; intro _ g2 hg2 F2 ha; simp only [Act.put, List.setIfInBounds_toArray, List.set_cons_succ, List.set_cons_zero])) | ((with_reducible show wpList _ _ _ (⟨_, Op.store 32 _ _, _, _, _, _⟩ :: _) _ _); first | (clear mS1; refine wpl_set_orig rfl _ _ rfl rfl (ns := origNs o) (nc := o.nonce) (v1 := y1) (v2 := y2) (v3 := y3) rfl HNS.out.2 HNS.out.1 o1 o2 o3 F1 ?_; intro _ t1 ht1; have hb := below_touch ha ht1 hg1 (Nat.le_refl _); clear F1; replace I1 := I1.later hb; replace b := later b hb; have F1 := t1; clear t1 ht1 ha hb hg1; simp only [Act.put, List.setIfInBounds_toArray, List.set_cons_succ, List.set_cons_zero]) | (clear mS2; refine wpl_set_orig rfl _ _ rfl rfl (ns := origNs o) (nc := o.nonce) (v1 := z1) (v2 := z2) (v3 := z3) rfl HNS.out.2 HNS.out.1 p1 p2 p3 F2 ?_; intro _ t1 ht1; have hb := below_touch ha ht1 hg2 (Nat.le_refl _); clear F2; replace F1 := F1.later hb; replace I1 := I1.later hb; replace I2 := I2.later hb; replace b := later b hb; have F2 := t1; clear t1 ht1 ha hb hg2; simp only [Act.put, List.setIfInBounds_toArray, List.set_cons_succ, List.set_cons_zero])) | (with_reducible show wpList _ _ _ (⟨_, Op.load 32 _, _, _, _, _⟩ :: _) _ _; first | refine wpl_ld_orig rfl _ rfl rfl F1 ?_ | refine wpl_ld_orig rfl _ rfl rfl F2 ?_) | (go_at_call 19; refine (HS.out _ _ _ I1 I2).mono ?_; rintro _ _ ⟨rfl, hc⟩; replace b := later b hc; clear hc) | (go_at_call 16; refine (HW.out _).mono ?_; rintro _ _ ⟨rfl, hc⟩; (try replace F1 := F1.later hc); (try replace F2 := F2.later hc); (try replace F3 := F3.later hc); (try replace F4 := F4.later hc); (try replace F5 := F5.later hc); (try replace F6 := F6.later hc); (try replace F7 := F7.later hc); (try replace F8 := F8.later hc); (try replace F9 := F9.later hc); (try replace G1 := G1.later hc); (try replace G2 := G2.later hc); (try replace G3 := G3.later hc); (try replace z := z.later hc); (try replace b := later b hc); (try replace bB := mixed hB bB hc); clear hc))
    go_ret
    exact ⟨by simp, b⟩
end Go.Proofs.Ytbbfnpfkbbpjgaa
