/- The row of OriginTakes: the law returns true for every input; by the walk in YtbbfnpfkbbpjgaaOriginTakes. No condition. -/
import Derived.Test.YtbbfnpfkbbpjgaaOBMBase
import Derived.Test.YtbbfnpfkbbpjgaaOBOriginTakes
import Derived.Lib.SmallJoins
import Derived.SliceStrings
namespace Go.Proofs.Ytbbfnpfkbbpjgaa.originTakes
open Go.ChangeShapes Go.WideShapes Go.ChangeAt Go.RowKit Go.WideMaps Go.WideElems
open Go.ChangeMaps (open_string)
set_option linter.unusedVariables false

set_option maxRecDepth 100000 in
theorem lifted (os : Os) (started : os.Started) (H : Type) (enc : TypeId × Value → H) :
    ReturnsInHanded {} Try.checked os 3 .any (Rows.originTakesSpec.pre6 enc Try.prog Try.f3 Rows.originTakesRow.domain false) (Rows.originTakesSpec.post enc Try.prog Try.f3 false true false false) := by
  refine returnsInHanded_of_change (C := Try.checked) ownsKnob started (by kernel_rfl) Try.func3
    (ChangeSpec.witness6 (enc := enc) (C := Try.checked) false ⟨#[], #[.string ByteArray.empty], []⟩ 8 (by kernel_rfl) (by kernel_rfl) (by kernel_rfl) (by kernel_rfl)) ?_
  intro W base args ds gs before hval0 hW hcnd _
  have hval : ∀ (j : Nat) t v, Try.f3.params[j]? = some t → args[j]? = some v → Value.okWide Try.prog W .any base t v := hval0
  have hW' := hW
  obtain ⟨p, q, hA0, hV, rfl, hfz, hnd⟩ := hW
  have hA : DataW.TrodAll enc Try.prog W 0 (fun _ => true) true Try.f3.params.toList args.toList ds p := hA0
  rw [Try.params3] at hA hval
  obtain ⟨v0, vs0, d0, ds0, p0, q0, hargs, rfl, rfl, h0, r0⟩ := trodAll_cons hA
  obtain ⟨rfl, rfl, rfl⟩ := trodAll_nil r0
  obtain rfl : args = #[v0] := by cases args; simp_all
  obtain ⟨rfl, rfl⟩ := trodVars_none hV
  obtain ⟨a0, rfl, e0, _, w0⟩ := open_string Try.underlying9 (hval 0 9 v0 rfl rfl) h0
  refine (originTakes_any a0 w0 W).mono fun e W' ⟨he, hb⟩ => ?_
  subst he
  exact ⟨_, rfl, law_post isLaidOut (by kernel_rfl) (by kernel_rfl) Try.underlying4 rfl hW' hb ⟨rfl, rfl, rfl⟩⟩

theorem over : Rows.originTakesRow.holds Try.pinned (OpenSpec.ofChange Rows.originTakesSpec) :=
  OpenClaim.holds_of_wide 3 Try.f3 rfl rfl rfl rfl rfl rfl rfl ⟨rfl, rfl, rfl, rfl, rfl⟩ rfl rfl rfl rfl rfl (by kernel_rfl) Try.func3 (by kernel_rfl)
    (of_decide_eq_true (by kernel_rfl)) (by unfold Func.isWrapper; first | (rw [if_pos (by decide +kernel)]; kernel_rfl) | (rw [if_neg (by decide +kernel)]; exact ⟨rfl, rfl⟩))
    (fun os started H enc _ => lifted os started H enc)

theorem proved : Rows.OriginTakesSaid :=
  over
#print axioms proved
end Go.Proofs.Ytbbfnpfkbbpjgaa.originTakes

/- OriginBack: an origin is taken as it was put; bytes are put as they were taken. -/
namespace Go.Proofs.Ytbbfnpfkbbpjgaa
open Go.RowKit Go.Lib
set_option linter.unusedVariables false
set_option linter.unusedSimpArgs false

theorem origBack_bytes {s : ByteArray} {l : List UInt8} (h : s.data.toList = l) : (⟨l.toArray⟩ : ByteArray) = s := by
  apply ByteArray.ext
  apply Array.toList_inj.1
  rw [h]
set_option maxRecDepth 100000 in
set_option maxHeartbeats 6400000 in
theorem originBack_any (w : World) (v : Value) (o : Orig) (h : OrigIs w v o) (hc1 : o.coins.length * 72 ≤ reachBytes) (hc2 : o.seats.length * 88 ≤ reachBytes) (hc3 : o.trusts.length * 64 ≤ reachBytes) (s : ByteArray) (_ : s.size ≤ maxLen) :
    Calls Try.prog 4 #[v, .string s] w fun e w' => e = .returned (.bool true) ∧ Below w.heap.size w w' := by
  have hR := reachBytes_lt
  have HG := hide (fun (w' : World) (hb : Below w.heap.size w w') => great16_any v o w' (h.later hb) (by omega) (by omega) (by omega))
  clear hc1 hc2 hc3 hR
  have HW := hide works16
  have hl15 := origNs_length h.ok
  have hII := h
  obtain ⟨v1, v2, v3, rfl, h1, h2, h3, ok⟩ := h
  have o1 := h1.one'
  have o2 := h2.one'
  have o3 := h3.one'
  have hnl := ok.nonce
  have b := Below.refl w.heap.size w
  by_cases hgr : 200 < o.coins.length + o.seats.length + o.trusts.length
  case pos =>
    rw [decide_eq_true hgr] at HG
    clear ok h1 h2 h3 hgr hII
    generalize origNs o = ns at *
    generalize o.nonce = nc at *
    have mF1 := True.intro
    go_enter Try.func4, Try.ntmps4
    go_wp2_with (first | (with_reducible show wpList _ _ _ (⟨_, Op.box _ _, _, _, _, _⟩ :: _) _ _; clear mF1; refine wpl_box_orig rfl _ rfl rfl hl15 hnl o1 o2 o3 ?_; intro _ g1 hg1 F1 hb; (try replace F1 := F1.later hb); (try replace F2 := F2.later hb); (try replace F3 := F3.later hb); (try replace F4 := F4.later hb); (try replace F5 := F5.later hb); (try replace F6 := F6.later hb); (try replace F7 := F7.later hb); (try replace F8 := F8.later hb); (try replace F9 := F9.later hb); (try replace G1 := G1.later hb); (try replace G2 := G2.later hb); (try replace G3 := G3.later hb); (try replace z := z.later hb); (try replace b := later b hb); (try replace bB := mixed hB bB hb); clear hb) | (with_reducible show wpList _ _ _ (⟨_, Op.load 32 _, _, _, _, _⟩ :: _) _ _; refine wpl_ld_orig rfl _ rfl rfl F1 ?_) | (go_at_call 20; refine (HG.out _ b).mono ?_; rintro _ _ ⟨rfl, hc⟩; (try replace F1 := F1.later hc); (try replace F2 := F2.later hc); (try replace F3 := F3.later hc); (try replace F4 := F4.later hc); (try replace F5 := F5.later hc); (try replace F6 := F6.later hc); (try replace F7 := F7.later hc); (try replace F8 := F8.later hc); (try replace F9 := F9.later hc); (try replace G1 := G1.later hc); (try replace G2 := G2.later hc); (try replace G3 := G3.later hc); (try replace z := z.later hc); (try replace b := later b hc); (try replace bB := mixed hB bB hc); clear hc) | (go_at_call 16; refine (HW.out _).mono ?_; rintro _ _ ⟨rfl, hc⟩; (try replace F1 := F1.later hc); (try replace F2 := F2.later hc); (try replace F3 := F3.later hc); (try replace F4 := F4.later hc); (try replace F5 := F5.later hc); (try replace F6 := F6.later hc); (try replace F7 := F7.later hc); (try replace F8 := F8.later hc); (try replace F9 := F9.later hc); (try replace G1 := G1.later hc); (try replace G2 := G2.later hc); (try replace G3 := G3.later hc); (try replace z := z.later hc); (try replace b := later b hc); (try replace bB := mixed hB bB hc); clear hc))
    go_ret
    exact ⟨rfl, b⟩
  have hfit : o.Fit := ⟨by omega, by omega, by omega⟩
  rw [decide_eq_false hgr] at HG
  by_cases hs : 16384 < s.size
  case pos =>
    have c1 := decide_eq_true (show (16384 : Int) < (s.size : Int) by omega)
    have c2 := decide_eq_true hs
    clear ok h1 h2 h3 hgr hII hs hfit
    generalize origNs o = ns at *
    generalize o.nonce = nc at *
    have mF1 := True.intro
    go_enter Try.func4, Try.ntmps4
    go_wp2_with (first | (with_reducible show wpList _ _ _ (⟨_, Op.box _ _, _, _, _, _⟩ :: _) _ _; clear mF1; refine wpl_box_orig rfl _ rfl rfl hl15 hnl o1 o2 o3 ?_; intro _ g1 hg1 F1 hb; (try replace F1 := F1.later hb); (try replace F2 := F2.later hb); (try replace F3 := F3.later hb); (try replace F4 := F4.later hb); (try replace F5 := F5.later hb); (try replace F6 := F6.later hb); (try replace F7 := F7.later hb); (try replace F8 := F8.later hb); (try replace F9 := F9.later hb); (try replace G1 := G1.later hb); (try replace G2 := G2.later hb); (try replace G3 := G3.later hb); (try replace z := z.later hb); (try replace b := later b hb); (try replace bB := mixed hB bB hb); clear hb) | (with_reducible show wpList _ _ _ (⟨_, Op.load 32 _, _, _, _, _⟩ :: _) _ _; refine wpl_ld_orig rfl _ rfl rfl F1 ?_) | (go_at_call 20; refine (HG.out _ b).mono ?_; rintro _ _ ⟨rfl, hc⟩; (try replace F1 := F1.later hc); (try replace F2 := F2.later hc); (try replace F3 := F3.later hc); (try replace F4 := F4.later hc); (try replace F5 := F5.later hc); (try replace F6 := F6.later hc); (try replace F7 := F7.later hc); (try replace F8 := F8.later hc); (try replace F9 := F9.later hc); (try replace G1 := G1.later hc); (try replace G2 := G2.later hc); (try replace G3 := G3.later hc); (try replace z := z.later hc); (try replace b := later b hc); (try replace bB := mixed hB bB hc); clear hc) | (go_at_call 16; refine (HW.out _).mono ?_; rintro _ _ ⟨rfl, hc⟩; (try replace F1 := F1.later hc); (try replace F2 := F2.later hc); (try replace F3 := F3.later hc); (try replace F4 := F4.later hc); (try replace F5 := F5.later hc); (try replace F6 := F6.later hc); (try replace F7 := F7.later hc); (try replace F8 := F8.later hc); (try replace F9 := F9.later hc); (try replace G1 := G1.later hc); (try replace G2 := G2.later hc); (try replace G3 := G3.later hc); (try replace z := z.later hc); (try replace b := later b hc); (try replace bB := mixed hB bB hc); clear hc))
    go_ret
    exact ⟨rfl, b⟩
  have c1 := decide_eq_false (show ¬ (16384 : Int) < (s.size : Int) by omega)
  have c2 := decide_eq_false hs
  have HP1 := hide (fun (w' : World) (hb : Below w.heap.size w w') => oPut_any _ o w' (hII.later hb) hfit)
  have HII := hide (fun (w' : World) (hb : Below w.heap.size w w') => hII.later hb)
  have HT2 := hide (fun w => oTake_any s w (by omega))
  have hTo := takeOr_ok s.data.toList
  have hTf := takeOr_few s.data.toList
  have hTi := fun h => takeOr_is (s := s.data.toList) h
  have hTn := fun h => takeOr_no (s := s.data.toList) h
  obtain ⟨x, hx⟩ : ∃ x, x = (takeOr s.data.toList).1 := ⟨_, rfl⟩
  obtain ⟨E, hE⟩ : ∃ E, E = (takeOr s.data.toList).2 := ⟨_, rfl⟩
  rw [← hx, ← hE] at HT2
  rw [← hx] at hTo hTf
  have HXS : Hid (x.nonce.length = 32 ∧ (origNs x).length = 15) := ⟨hTo.nonce, origNs_length hTo⟩
  have HOS : Hid (o.nonce.length = 32 ∧ (origNs o).length = 15) := ⟨hnl, hl15⟩
  clear hs hgr
  -- the second half: what comes of s
  have hcase : (E = 0 ∧ Hid (∀ v' w', OrigIs w' v' x → Calls Try.prog 21 #[v'] w' fun e w'' => e = .returned (.tuple #[.string s, .int .i64 0]) ∧ Below w'.heap.size w' w'')) ∨ ((E != 0) = true ∧ Hid (∀ v' w', OrigIs w' v' x → Calls Try.prog 19 #[v', origV ns0 zero32 nilS nilS nilS] w' fun e w'' => e = .returned (.bool true) ∧ Below w'.heap.size w' w'')) := by
    by_cases hq : E = 0
    · left
      refine ⟨hq, fun v' w' hv => ?_⟩
      rw [hE] at hq
      obtain ⟨i1, _, i3⟩ := hTi hq
      rw [← hx] at i1 i3
      have k := oPut_any v' x w' hv hTf.fit
      rw [if_pos i1, if_pos i1, origBack_bytes i3] at k
      exact k
    · right
      refine ⟨by rw [bne_iff_ne]; exact hq, fun v' w' hv => ?_⟩
      rw [hE] at hq
      have hn := hTn hq
      have hx0 : x = orig0 := by rw [hx, hn]
      subst hx0
      have k := orefSame_any v' _ orig0 orig0 w' hv (orig0Is w') orig0_few orig0_few
      rwa [decide_eq_true rfl] at k
  clear hTi hTn hx hE hTo hTf
  by_cases hm : mayOr o = true
  · have hfw := mayOr_few ok hm
    rw [if_pos hm, if_pos hm] at HP1
    obtain ⟨sa, hsa⟩ : ∃ u : ByteArray, u = ⟨(origL o).toArray⟩ := ⟨_, rfl⟩
    rw [← hsa] at HP1
    have HT1 := hide (fun w => oTake_any sa w (by rw [hsa, ba_size]; exact Nat.le_trans (origL_small hfw) (by decide)))
    rw [show sa.data.toList = origL o by rw [hsa], takeOr_put ok hm] at HT1
    have HS1 := hide (fun v' w' (h : OrigIs w' v' o) (hb : Below w.heap.size w w') => orefSame_any v' _ o o w' h (hII.later hb) hfw hfw)
    rw [decide_eq_true rfl] at HS1
    clear hsa hfw hm hII ok h1 h2 h3 hfit HII
    rcases hcase with ⟨rfl, HZ⟩ | ⟨c4, HZ⟩
    all_goals
      have mF1 := True.intro
      have mF7 := True.intro
      have mF9 := True.intro
      have mS7 := True.intro
      have mS9 := True.intro
      go_enter Try.func4, Try.ntmps4
      go_wp2_with (first | (with_reducible show wpList _ _ _ (⟨_, Op.box _ _, _, _, _, _⟩ :: _) _ _; clear mF1; refine wpl_box_orig rfl _ rfl rfl hl15 hnl o1 o2 o3 ?_; intro _ g1 hg1 F1 hb; (try replace F1 := F1.later hb); (try replace F2 := F2.later hb); (try replace F3 := F3.later hb); (try replace F4 := F4.later hb); (try replace F5 := F5.later hb); (try replace F6 := F6.later hb); (try replace F7 := F7.later hb); (try replace F8 := F8.later hb); (try replace F9 := F9.later hb); (try replace G1 := G1.later hb); (try replace G2 := G2.later hb); (try replace G3 := G3.later hb); (try replace z := z.later hb); (try replace b := later b hb); (try replace bB := mixed hB bB hb); clear hb) | (with_reducible show wpList _ _ _ (⟨_, Op.load 32 _, _, _, _, _⟩ :: _) _ _; first | refine wpl_ld_orig rfl _ rfl rfl F9 ?_ | refine wpl_ld_orig rfl _ rfl rfl F7 ?_ | refine wpl_ld_orig rfl _ rfl rfl F1 ?_) | (go_at_call 17; refine (HT1.out _).mono ?_; clear HT1; rintro _ _ ⟨⟨v', rfl, IO⟩, hc⟩; have I0 := IO.is; clear IO; obtain ⟨y1, y2, y3, rfl, S1, S2, S3, hok⟩ := I0; have p1 := S1.one'; have p2 := S2.one'; have p3 := S3.one'; have I1 := origIs_mk S1 S2 S3 hok; clear S1 S2 S3 hok; replace F1 := F1.later hc; replace b := later b hc; clear hc) | (with_reducible show wpList _ _ _ (⟨_, Op.alloc 32, _, _, _, _⟩ :: _) _ _; clear mF7; refine wpl_mk_orig rfl rfl ?_; intro _ g7 hg7 F7 ha; simp only [Act.put, List.setIfInBounds_toArray, List.set_cons_succ, List.set_cons_zero]) | ((with_reducible show wpList _ _ _ (⟨_, Op.store 32 _ _, _, _, _, _⟩ :: _) _ _); clear mS7; refine wpl_set_orig rfl _ _ rfl rfl (ns := origNs o) (nc := o.nonce) (v1 := y1) (v2 := y2) (v3 := y3) rfl HOS.out.2 HOS.out.1 p1 p2 p3 F7 ?_; intro _ t1 ht1; have hb := below_touch ha ht1 hg7 (Nat.le_refl _); clear F7; replace F1 := F1.later hb; replace I1 := I1.later hb; replace b := later b hb; have F7 := t1; clear t1 ht1 ha hb hg7; simp only [Act.put, List.setIfInBounds_toArray, List.set_cons_succ, List.set_cons_zero]) | (go_at_call 17; refine (HT2.out _).mono ?_; rintro _ _ ⟨⟨v', rfl, IO⟩, hc⟩; have I0 := IO.is; clear IO; obtain ⟨z1, z2, z3, rfl, S1, S2, S3, hok⟩ := I0; have q1 := S1.one'; have q2 := S2.one'; have q3 := S3.one'; have I2 := origIs_mk S1 S2 S3 hok; clear S1 S2 S3 hok; replace b := later b hc; clear hc) | (with_reducible show wpList _ _ _ (⟨_, Op.alloc 32, _, _, _, _⟩ :: _) _ _; clear mF9; refine wpl_mk_orig rfl rfl ?_; intro _ g9 hg9 F9 ha; simp only [Act.put, List.setIfInBounds_toArray, List.set_cons_succ, List.set_cons_zero]) | ((with_reducible show wpList _ _ _ (⟨_, Op.store 32 _ _, _, _, _, _⟩ :: _) _ _); clear mS9; refine wpl_set_orig rfl _ _ rfl rfl (ns := origNs x) (nc := x.nonce) (v1 := z1) (v2 := z2) (v3 := z3) rfl HXS.out.2 HXS.out.1 q1 q2 q3 F9 ?_; intro _ t1 ht1; have hb := below_touch ha ht1 hg9 (Nat.le_refl _); clear F9; replace I2 := I2.later hb; replace b := later b hb; have F9 := t1; clear t1 ht1 ha hb hg9; simp only [Act.put, List.setIfInBounds_toArray, List.set_cons_succ, List.set_cons_zero]) | (go_at_call 21; (first | (refine (HP1.out _ b).mono ?_; clear HP1) | refine (HZ.out _ _ I2).mono ?_); rintro _ _ ⟨rfl, hc⟩; (try replace F1 := F1.later hc); (try replace F9 := F9.later hc); (try replace I2 := I2.later hc); replace b := later b hc; clear hc) | (go_at_call 19; refine (HS1.out _ _ I1 b).mono ?_; clear HS1; rintro _ _ ⟨rfl, hc⟩; replace b := later b hc; clear hc I1 F7) | (go_at_call 19; refine (HZ.out _ _ I2).mono ?_; rintro _ _ ⟨rfl, hc⟩; replace b := later b hc; clear hc) | ((with_reducible show wpList _ _ _ (⟨_, Op.build 32 _, _, _, _, _⟩ :: _) _ _); refine wpl_built0 rfl 32 rfl (cs := origCs ns0 zero32 nilS nilS nilS) origBuilt0 ?_) | (go_at_call 20; refine (HG.out _ b).mono ?_; rintro _ _ ⟨rfl, hc⟩; (try replace F1 := F1.later hc); (try replace F2 := F2.later hc); (try replace F3 := F3.later hc); (try replace F4 := F4.later hc); (try replace F5 := F5.later hc); (try replace F6 := F6.later hc); (try replace F7 := F7.later hc); (try replace F8 := F8.later hc); (try replace F9 := F9.later hc); (try replace G1 := G1.later hc); (try replace G2 := G2.later hc); (try replace G3 := G3.later hc); (try replace z := z.later hc); (try replace b := later b hc); (try replace bB := mixed hB bB hc); clear hc) | (go_at_call 16; refine (HW.out _).mono ?_; rintro _ _ ⟨rfl, hc⟩; (try replace F1 := F1.later hc); (try replace F2 := F2.later hc); (try replace F3 := F3.later hc); (try replace F4 := F4.later hc); (try replace F5 := F5.later hc); (try replace F6 := F6.later hc); (try replace F7 := F7.later hc); (try replace F8 := F8.later hc); (try replace F9 := F9.later hc); (try replace G1 := G1.later hc); (try replace G2 := G2.later hc); (try replace G3 := G3.later hc); (try replace z := z.later hc); (try replace b := later b hc); (try replace bB := mixed hB bB hc); clear hc))
      go_ret
      exact ⟨by simp, b⟩
  · rw [if_neg hm, if_neg hm] at HP1
    clear hm hII ok h1 h2 h3 hfit HII
    generalize origNs o = ns at *
    generalize o.nonce = nc at *
    rcases hcase with ⟨rfl, HZ⟩ | ⟨c4, HZ⟩
    all_goals
      have mF1 := True.intro
      have mF9 := True.intro
      have mS9 := True.intro
      go_enter Try.func4, Try.ntmps4
      go_wp2_with (first | (with_reducible show wpList _ _ _ (⟨_, Op.box _ _, _, _, _, _⟩ :: _) _ _; clear mF1; refine wpl_box_orig rfl _ rfl rfl hl15 hnl o1 o2 o3 ?_; intro _ g1 hg1 F1 hb; (try replace F1 := F1.later hb); (try replace F2 := F2.later hb); (try replace F3 := F3.later hb); (try replace F4 := F4.later hb); (try replace F5 := F5.later hb); (try replace F6 := F6.later hb); (try replace F7 := F7.later hb); (try replace F8 := F8.later hb); (try replace F9 := F9.later hb); (try replace G1 := G1.later hb); (try replace G2 := G2.later hb); (try replace G3 := G3.later hb); (try replace z := z.later hb); (try replace b := later b hb); (try replace bB := mixed hB bB hb); clear hb) | (with_reducible show wpList _ _ _ (⟨_, Op.load 32 _, _, _, _, _⟩ :: _) _ _; first | refine wpl_ld_orig rfl _ rfl rfl F9 ?_ | refine wpl_ld_orig rfl _ rfl rfl F7 ?_ | refine wpl_ld_orig rfl _ rfl rfl F1 ?_) | (go_at_call 17; refine (HT2.out _).mono ?_; rintro _ _ ⟨⟨v', rfl, IO⟩, hc⟩; have I0 := IO.is; clear IO; obtain ⟨z1, z2, z3, rfl, S1, S2, S3, hok⟩ := I0; have q1 := S1.one'; have q2 := S2.one'; have q3 := S3.one'; have I2 := origIs_mk S1 S2 S3 hok; clear S1 S2 S3 hok; replace b := later b hc; clear hc) | (with_reducible show wpList _ _ _ (⟨_, Op.alloc 32, _, _, _, _⟩ :: _) _ _; clear mF9; refine wpl_mk_orig rfl rfl ?_; intro _ g9 hg9 F9 ha; simp only [Act.put, List.setIfInBounds_toArray, List.set_cons_succ, List.set_cons_zero]) | ((with_reducible show wpList _ _ _ (⟨_, Op.store 32 _ _, _, _, _, _⟩ :: _) _ _); clear mS9; refine wpl_set_orig rfl _ _ rfl rfl (ns := origNs x) (nc := x.nonce) (v1 := z1) (v2 := z2) (v3 := z3) rfl HXS.out.2 HXS.out.1 q1 q2 q3 F9 ?_; intro _ t1 ht1; have hb := below_touch ha ht1 hg9 (Nat.le_refl _); clear F9; replace I2 := I2.later hb; replace b := later b hb; have F9 := t1; clear t1 ht1 ha hb hg9; simp only [Act.put, List.setIfInBounds_toArray, List.set_cons_succ, List.set_cons_zero]) | (go_at_call 21; (first | (refine (HP1.out _ b).mono ?_; clear HP1) | refine (HZ.out _ _ I2).mono ?_); rintro _ _ ⟨rfl, hc⟩; (try replace F1 := F1.later hc); (try replace F9 := F9.later hc); (try replace I2 := I2.later hc); replace b := later b hc; clear hc) | (go_at_call 19; refine (HZ.out _ _ I2).mono ?_; rintro _ _ ⟨rfl, hc⟩; replace b := later b hc; clear hc) | ((with_reducible show wpList _ _ _ (⟨_, Op.build 32 _, _, _, _, _⟩ :: _) _ _); refine wpl_built0 rfl 32 rfl (cs := origCs ns0 zero32 nilS nilS nilS) origBuilt0 ?_) | (go_at_call 20; refine (HG.out _ b).mono ?_; rintro _ _ ⟨rfl, hc⟩; (try replace F1 := F1.later hc); (try replace F2 := F2.later hc); (try replace F3 := F3.later hc); (try replace F4 := F4.later hc); (try replace F5 := F5.later hc); (try replace F6 := F6.later hc); (try replace F7 := F7.later hc); (try replace F8 := F8.later hc); (try replace F9 := F9.later hc); (try replace G1 := G1.later hc); (try replace G2 := G2.later hc); (try replace G3 := G3.later hc); (try replace z := z.later hc); (try replace b := later b hc); (try replace bB := mixed hB bB hc); clear hc) | (go_at_call 16; refine (HW.out _).mono ?_; rintro _ _ ⟨rfl, hc⟩; (try replace F1 := F1.later hc); (try replace F2 := F2.later hc); (try replace F3 := F3.later hc); (try replace F4 := F4.later hc); (try replace F5 := F5.later hc); (try replace F6 := F6.later hc); (try replace F7 := F7.later hc); (try replace F8 := F8.later hc); (try replace F9 := F9.later hc); (try replace G1 := G1.later hc); (try replace G2 := G2.later hc); (try replace G3 := G3.later hc); (try replace z := z.later hc); (try replace b := later b hc); (try replace bB := mixed hB bB hc); clear hc))
      go_ret
      exact ⟨by simp, b⟩
end Go.Proofs.Ytbbfnpfkbbpjgaa
