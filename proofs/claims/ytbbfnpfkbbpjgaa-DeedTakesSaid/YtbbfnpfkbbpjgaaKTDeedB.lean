/- The small deed, and that it goes there and back. -/
import Derived.Test.YtbbfnpfkbbpjgaaKTDeed8
import Derived.Test.YtbbfnpfkbbpjgaaKTDeed9
import Derived.Test.YtbbfnpfkbbpjgaaKTSqPay
import Derived.Test.YtbbfnpfkbbpjgaaKTMCells
namespace Go.Proofs.Ytbbfnpfkbbpjgaa
open Go.RowKit Go.Lib
set_option linter.unusedVariables false
set_option linter.unusedSimpArgs false

def smallD : Deed := ⟨[in0], [], 0, 0, 0, [], [], []⟩
theorem smallD_ok : smallD.Ok := ⟨by intro x hx; simp [smallD] at hx; subst hx; exact in0_ok, by simp [smallD], by decide, by decide, by decide, by simp [smallD], by simp [smallD], by simp [smallD]⟩
theorem smallD_may : mayD smallD = true := by decide +kernel
theorem smallD_len : (fullL smallD).length = 41 := by decide +kernel
theorem smallD_fit : smallD.Fit := ⟨by decide, by decide, by decide, by decide, by decide⟩
theorem inBuilt0 : Try.prog.built 60 [] = some (inCs in0).toArray := by kernel_rfl
theorem deedBuilt1 (a : Option Addr) (n c : Nat) : Try.prog.built 55 [(0, .slice a n c)] = some (deedCs (.slice a n c) nilS nilS nilS nilS 0 0 0).toArray := by kernel_rfl
theorem ret_deed {fn : Func} {q : Tmp} (hr : fn.results = #[.cell q 55]) (tmps : Array Value) (w : World) {g : Nat} {v1 v2 v3 v4 v5 : Value} {f s t : Nat} (hp : tmps.getD q undef = .pointer (some ⟨g, 0, none⟩)) (h : DAt w g v1 v2 v3 v4 v5 f s t) :
    (results fn tmps).run Try.prog w = .ok (deedV v1 v2 v3 v4 v5 f s t) w :=
  results_cell_row hr tmps w g 55 (deedCs v1 v2 v3 v4 v5 f s t).toArray (0, 0) _ hp h.arr Try.underlying55 rfl deedSize
set_option maxRecDepth 100000 in
set_option maxHeartbeats 1600000 in
theorem small_any (w : World) : Calls Try.prog 37 #[] w fun e w' => (∃ v, e = .returned v ∧ DeedOwn w' w.heap.size v smallD) ∧ Below w.heap.size w w' := by
  have b := Below.refl w.heap.size w
  go_enter Try.func37, Try.ntmps37
  go_wp2_with (first | (with_reducible show wpList _ _ _ (⟨_, Op.alloc _, _, _, _, _⟩ :: _) _ _; refine wpl_mk_deed rfl rfl ?_; intro _ g0 hg0 F8 hb; replace b := later b hb; clear hb) | ((with_reducible show wpList _ _ _ (⟨_, Op.build 60 _, _, _, _, _⟩ :: _) _ _); refine wpl_built0 rfl 60 rfl (cs := inCs in0) inBuilt0 ?_) | ((with_reducible show wpList _ _ _ (⟨_, Op.buildSlice _ _ _, _, _, _, _⟩ :: _) _ _); have l8 := F8.lt; refine wpl_row1 rfl inElem (by decide) _ rfl (v := inV in0) (el := inCs in0) rfl (by simp [inV, Value.cells]) (inCs_length in0_ok) (inCs_one in0) ?_; intro _ g9 h9 O9 hb; have qb := b.size; replace F8 := F8.later hb; replace b := later b hb; clear hb) | ((with_reducible show wpList _ _ _ (⟨_, Op.build 55 _, _, _, _, _⟩ :: _) _ _); refine wpl_built1 rfl 55 _ rfl rfl (deedBuilt1 _ _ _) ?_) | ((with_reducible show wpList _ _ _ (⟨_, Op.store _ _ _, _, _, _, _⟩ :: _) _ _); refine wpl_set_deed rfl _ _ rfl rfl (v1 := .slice (some ⟨g9, 0, none⟩) 1 1) (v2 := nilS) (v3 := nilS) (v4 := nilS) (v5 := nilS) (f := 0) (s := 0) (t := 0) rfl rfl rfl rfl rfl rfl F8 ?_; intro _ t1 ht1; replace b := below_touch b ht1 (by omega) (by omega); replace O9 := O9.tg ht1 (by omega); clear F8; have F8 := t1; clear t1 ht1))
  refine bodyPost_ret (ret_deed rfl _ _ rfl F8) rfl ⟨⟨_, rfl, ?_⟩, b⟩
  exact ⟨_, nilS, nilS, nilS, nilS, rfl, O9.base (by omega), OwnR.nil _ _ _ _, OwnR.nil _ _ _ _, OwnR.nil _ _ _ _, OwnR.nil _ _ _ _, smallD_ok⟩
end Go.Proofs.Ytbbfnpfkbbpjgaa

/- That a deed goes there and back: works. -/
namespace Go.Proofs.Ytbbfnpfkbbpjgaa
open Go.RowKit Go.Lib
set_option linter.unusedVariables false
set_option linter.unusedSimpArgs false

theorem smallD_not : sameD smallD deed0 = false := by decide +kernel
set_option maxRecDepth 100000 in
set_option maxHeartbeats 3200000 in
theorem works13 (w : World) : Calls Try.prog 26 #[] w fun e w' => e = .returned (.bool true) ∧ Below w.heap.size w w' := by
  obtain ⟨sS, hsS⟩ : ∃ s : ByteArray, s = ⟨(fullL smallD).toArray⟩ := ⟨_, rfl⟩
  have hz : sS.size = 41 := by rw [hsS]; show (fullL smallD).toArray.size = 41; rw [List.size_toArray]; exact smallD_len
  have hl : sS.data.toList = fullL smallD := by rw [hsS]
  have HP := hide (fun v w (h : DeedIs w v smallD) => dPut_any v smallD w h smallD_fit)
  rw [if_pos smallD_may, if_pos smallD_may, ← hsS] at HP
  have HTK := hide (fun w => deedTake_any sS w (by omega))
  rw [hl, takeD_put smallD_ok smallD_may] at HTK
  have HSM := hide small_any
  have HS1 := hide (fun v u w (h : DeedIs w v smallD) (k : DeedIs w u smallD) => deedSame_any v u smallD smallD w h k)
  rw [sameD_self] at HS1
  have HS2 := hide (fun v u w (h : DeedIs w v smallD) (k : DeedIs w u deed0) => deedSame_any v u smallD deed0 w h k)
  rw [smallD_not] at HS2
  have c41 : ((sS.size : Int) == 41) = true := by rw [hz]; rfl
  have b := Below.refl w.heap.size w
  clear hsS hl hz
  go_enter Try.func26, Try.ntmps26
  go_wp2_with (first | (go_at_call 37; refine (HSM.out _).mono ?_; rintro _ _ ⟨⟨v0, rfl, O0⟩, hc⟩; replace b := later b hc; clear hc) | (go_at_call 34; refine (HP.out _ _ O0.is).mono ?_; rintro _ _ ⟨rfl, hc⟩; replace b := later b hc; clear hc O0) | (go_at_call 27; refine (HTK.out _).mono ?_; rintro _ _ ⟨⟨v1, rfl, y1, y2, y3, y4, y5, rfl, P1, P2, P3, P4, P5, hok⟩, hc⟩; replace b := later b hc; clear hc) | (with_reducible show wpList _ _ _ (⟨_, Op.alloc _, _, _, _, _⟩ :: _) _ _; refine wpl_mk_deed rfl rfl ?_; intro _ g3 hg3 F3 ha) | ((with_reducible show wpList _ _ _ (⟨_, Op.store _ _ _, _, _, _, _⟩ :: _) _ _); refine wpl_set_deed rfl _ _ rfl rfl (v1 := y1) (v2 := y2) (v3 := y3) (v4 := y4) (v5 := y5) (f := 0) (s := 0) (t := 0) rfl P1.sl.one' P2.sl.one' P3.sl.one' P4.sl.one' P5.sl.one' F3 ?_; intro _ t1 ht1; have hb := below_touch ha ht1 hg3 (Nat.le_refl _); clear F3; have F3 := t1; clear t1 ha ht1; replace P1 := P1.later hb; replace P2 := P2.later hb; replace P3 := P3.later hb; replace P4 := P4.later hb; replace P5 := P5.later hb; replace b := later b hb; clear hb) | (with_reducible show Code.wp _ (Code.region _ _ true) _ _ _; (try simp only [Act.put, List.setIfInBounds_toArray, List.set_cons_succ, List.set_cons_zero]); fail))
  have O1 := (show DeedOwn _ _ (deedV y1 y2 y3 y4 y5 smallD.fee smallD.frm smallD.til) smallD from ⟨_, _, _, _, _, rfl, P1, P2, P3, P4, P5, hok⟩)
  clear P1 P2 P3 P4 P5 hok
  have O2 := O1.is
  clear O1
  (try simp only [Act.put, List.setIfInBounds_toArray, List.set_cons_succ, List.set_cons_zero])
  refine region_plan (fun x => Below _ _ x) (.one [0, 1, 2, 3, 4, 5, 6, 7, 8] 9 (.fl [] 10 (.fl [11, 12, 13, 14, 15, 16, 17, 18] 19 (.stop [20, 21, 22])))) (by kernel_rfl) (by kernel_rfl) (by kernel_rfl) (by decide) (lasts_below (Nat.le_refl _)) (Below.refl _ _) ?_
  intro _ _ _ _
  replace O2 := (show DeedIs _ (deedV y1 y2 y3 y4 y5 0 0 0) smallD from O2)
  refine plan_one ?_
  simp only [pickOps, opAt, List.getElem?_cons_succ, List.getElem?_cons_zero, List.nil_append, List.cons_append]
  repeat (first | go_big_quiet_skip | (go_big_quiet_want; first | ((with_reducible show Oper.quiet _ ⟨_, Op.load _ _, _, _, _, _⟩ _ _ _); first | (refine plan_load_cells 55 _ rfl rfl (DAt.cells F3) _ Try.underlying55 rfl deedSize ?_; simp only [Act.put, List.setIfInBounds_toArray, List.set_cons_succ, List.set_cons_zero]; go_big_quiet_on)) | ((with_reducible show Oper.quiet _ ⟨_, Op.build _ _, _, _, _, _⟩ _ _ _); refine quiet_build _ _ rfl (deedCs nilS nilS nilS nilS nilS 0 0 0).toArray (by simp only [List.map_toArray, List.map_cons, List.map_nil]; exact deedBuilt0) ?_; simp only [Act.put, List.setIfInBounds_toArray, List.set_cons_succ, List.set_cons_zero]; go_big_quiet_on) | (go_big_quiet_op; first | go_big_quiet_on | (refine ⟨_, fun _ => rfl, ?_⟩; go_big_quiet_on))))
  refine wpQuiet_nil ?_
  intro _ hb k
  replace F3 := F3.later k
  replace O2 := O2.later k
  replace b := later b k
  go_wp2_with (go_at_call 37; refine (HSM.out _).mono ?_; rintro _ _ ⟨⟨v3, rfl, O3⟩, hc⟩; replace k := later k hc; replace F3 := F3.later hc; replace O2 := O2.later hc; replace b := later b hc; clear hc)
  refine goQ_since (lasts_below (Nat.le_refl _)) k ?_
  (try simp only [Act.put, List.setIfInBounds_toArray, List.set_cons_succ, List.set_cons_zero])
  clear hb k
  refine plan_fl ?_
  simp only [pickOps, opAt, List.getElem?_cons_succ, List.getElem?_cons_zero, List.nil_append, List.cons_append]
  repeat (first | go_big_quiet_skip | (go_big_quiet_want; first | ((with_reducible show Oper.quiet _ ⟨_, Op.load _ _, _, _, _, _⟩ _ _ _); first | (refine plan_load_cells 55 _ rfl rfl (DAt.cells F3) _ Try.underlying55 rfl deedSize ?_; simp only [Act.put, List.setIfInBounds_toArray, List.set_cons_succ, List.set_cons_zero]; go_big_quiet_on)) | ((with_reducible show Oper.quiet _ ⟨_, Op.build _ _, _, _, _, _⟩ _ _ _); refine quiet_build _ _ rfl (deedCs nilS nilS nilS nilS nilS 0 0 0).toArray (by simp only [List.map_toArray, List.map_cons, List.map_nil]; exact deedBuilt0) ?_; simp only [Act.put, List.setIfInBounds_toArray, List.set_cons_succ, List.set_cons_zero]; go_big_quiet_on) | (go_big_quiet_op; first | go_big_quiet_on | (refine ⟨_, fun _ => rfl, ?_⟩; go_big_quiet_on))))
  refine wpQuiet_nil ?_
  refine fl_call (by rfl) rfl (by kernel_rfl) (by simp only [List.map_toArray, List.map_cons, List.map_nil] <;> rfl) (fun w' hC => HS1.out _ _ _ (O2.later (Kl.out hC)) (O3.is.later (Kl.out hC))) ?_
  simp only [Act.put, List.setIfInBounds_toArray, List.set_cons_succ, List.set_cons_zero]
  refine plan_fl ?_
  simp only [pickOps, opAt, List.getElem?_cons_succ, List.getElem?_cons_zero, List.nil_append, List.cons_append]
  repeat (first | go_big_quiet_skip | (go_big_quiet_want; first | ((with_reducible show Oper.quiet _ ⟨_, Op.load _ _, _, _, _, _⟩ _ _ _); first | (refine plan_load_cells 55 _ rfl rfl (DAt.cells F3) _ Try.underlying55 rfl deedSize ?_; simp only [Act.put, List.setIfInBounds_toArray, List.set_cons_succ, List.set_cons_zero]; go_big_quiet_on)) | ((with_reducible show Oper.quiet _ ⟨_, Op.build _ _, _, _, _, _⟩ _ _ _); refine quiet_build _ _ rfl (deedCs nilS nilS nilS nilS nilS 0 0 0).toArray (by simp only [List.map_toArray, List.map_cons, List.map_nil]; exact deedBuilt0) ?_; simp only [Act.put, List.setIfInBounds_toArray, List.set_cons_succ, List.set_cons_zero]; go_big_quiet_on) | (go_big_quiet_op; first | go_big_quiet_on | (refine ⟨_, fun _ => rfl, ?_⟩; go_big_quiet_on))))
  refine wpQuiet_nil ?_
  refine fl_call (by rfl) rfl (by kernel_rfl) (by simp only [List.map_toArray, List.map_cons, List.map_nil] <;> rfl) (fun w' hC => HS2.out _ _ _ (O2.later (Kl.out hC)) (DeedOwn.nil _ 0).is) ?_
  simp only [Act.put, List.setIfInBounds_toArray, List.set_cons_succ, List.set_cons_zero]
  refine plan_stop ?_
  simp only [pickOps, opAt, List.getElem?_cons_succ, List.getElem?_cons_zero, List.nil_append, List.cons_append]
  repeat (first | go_big_quiet_skip | (go_big_quiet_want; first | ((with_reducible show Oper.quiet _ ⟨_, Op.load _ _, _, _, _, _⟩ _ _ _); first | fail) | ((with_reducible show Oper.quiet _ ⟨_, Op.build _ _, _, _, _, _⟩ _ _ _); refine quiet_build _ _ rfl (deedCs nilS nilS nilS nilS nilS 0 0 0).toArray (by simp only [List.map_toArray, List.map_cons, List.map_nil]; exact deedBuilt0) ?_; simp only [Act.put, List.setIfInBounds_toArray, List.set_cons_succ, List.set_cons_zero]; go_big_quiet_on) | (go_big_quiet_op; first | go_big_quiet_on | (refine ⟨_, fun _ => rfl, ?_⟩; go_big_quiet_on))))
  refine wpQuiet_nil ?_
  intro _ hb k
  replace b := later b k
  go_wp2_with fail
  go_ret
  exact ⟨rfl, b⟩
end Go.Proofs.Ytbbfnpfkbbpjgaa
