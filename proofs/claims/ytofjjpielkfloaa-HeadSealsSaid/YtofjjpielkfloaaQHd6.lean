/- Package head: the reader. -/
import Derived.Test.YtofjjpielkfloaaQHd2
namespace Go.Proofs.Ytofjjpielkfloaa
open Go.RowKit Go.Lib
set_option linter.unusedVariables false
set_option linter.unusedSimpArgs false

/-- The reader at block g has the bytes r ahead of it. -/
def Rd (w : World) (g : Nat) (r : List UInt8) : Prop := One w g 91 (.string ⟨r.toArray⟩)
theorem ext_take (r : List UInt8) (n : Nat) : (⟨r.toArray⟩ : ByteArray).extract 0 n = ⟨(r.take n).toArray⟩ := by
  apply ByteArray.ext
  apply Array.toList_inj.1
  simp
theorem ext_drop (r : List UInt8) (n : Nat) : (⟨r.toArray⟩ : ByteArray).extract n (⟨r.toArray⟩ : ByteArray).size = ⟨(r.drop n).toArray⟩ := by
  apply ByteArray.ext
  apply Array.toList_inj.1
  simp [ByteArray.size, List.take_of_length_le]
theorem rdSize : (Try.prog.info? 91).map (·.size) = some 1 := by kernel_rfl
set_option maxRecDepth 100000 in
set_option maxHeartbeats 1600000 in
theorem rdText_any (g : Nat) (r : List UInt8) (n : Nat) (w : World) (h : Rd w g r) (hn : n ≤ r.length) (hm : r.length ≤ 1099511627776) :
    Calls Try.prog 77 #[.pointer (some ⟨g, 0, none⟩), .int .i64 n] w fun e w' => e = .returned (.string ⟨(r.take n).toArray⟩) ∧ Rd w' g (r.drop n) ∧ Touch (fun b => b = g) w w' := by
  have e1 := ext_take r n
  have e2 := ext_drop r n
  have E1 := hide e1
  have E2 := hide e2
  have hs : (⟨r.toArray⟩ : ByteArray).size = r.length := rfl
  rw [← hs] at hn hm
  rw [← e1]
  unfold Rd at h ⊢
  rw [← e2]
  clear e1 e2 E1 E2 hs
  generalize (⟨r.toArray⟩ : ByteArray) = s at *
  have F1 : Arr w g 91 [.string s] := h
  clear h
  have c0 : w.cell? ⟨g, 0, none⟩ = some (.string s) := Arr.cell F1 (i := 0) (by simp)
  have t0 := Arr.thaw F1 0
  go_enter Try.func77, Try.ntmps77
  go_wp2_with fail
  go_ret
  exact ⟨rfl, One.set F1 _, touch_set w ⟨g, 0, none⟩ _⟩
theorem Rd.later {w w' : World} {g : Nat} {r : List UInt8} (h : Rd w g r) (hb : Below w.heap.size w w') : Rd w' g r := One.later h hb
theorem Rd.touch {S : Nat → Prop} {w w' : World} {g : Nat} {r : List UInt8} (h : Rd w g r) (ht : Touch S w w') (hS : ¬ S g) : Rd w' g r := One.touch h ht hS
theorem Rd.lt {w : World} {g : Nat} {r : List UInt8} (h : Rd w g r) : g < w.heap.size := One.lt h
set_option maxRecDepth 100000 in
set_option maxHeartbeats 1600000 in
theorem rdNumber_any (g : Nat) (r : List UInt8) (w : World) (h : Rd w g r) (hn : 8 ≤ r.length) (hm : r.length ≤ 1099511627776) :
    Calls Try.prog 75 #[.pointer (some ⟨g, 0, none⟩)] w fun e w' => e = .returned (.int .u64 (numL (r.take 8))) ∧ Rd w' g (r.drop 8) ∧ Touch (fun b => b = g) w w' := by
  have HT : Hid (Calls Try.prog 77 #[.pointer (some ⟨g, 0, none⟩), .int .i64 8] w fun e w' => e = .returned (.string ⟨(r.take 8).toArray⟩) ∧ Rd w' g (r.drop 8) ∧ Touch (fun b => b = g) w w') := rdText_any g r 8 w h hn hm
  have HE : Hid (∀ w, Calls Try.prog 110 #[.string ⟨(r.take 8).toArray⟩] w fun e w' => e = .returned (.tuple #[.int .u64 (numL (r.take 8)), .int .i64 0]) ∧ Below w.heap.size w w') := fun w => by
    have hz : (⟨(r.take 8).toArray⟩ : ByteArray).size = 8 := by show (r.take 8).toArray.size = 8; rw [List.size_toArray, List.length_take]; omega
    have := takeEight_any ⟨(r.take 8).toArray⟩ w (by omega) (by omega)
    rwa [show (⟨(r.take 8).toArray⟩ : ByteArray).data.toList.take 8 = r.take 8 from by show (r.take 8).take 8 = _; rw [List.take_take, Nat.min_self]] at this
  clear h hn hm
  generalize numL (r.take 8) = N at *
  generalize (⟨(r.take 8).toArray⟩ : ByteArray) = s at *
  go_enter Try.func75, Try.ntmps75
  go_wp2_with (first | (go_at_call 77; refine HT.out.mono ?_; rintro _ w1 ⟨rfl, F1, ht⟩) | (go_at_call 110; refine (HE.out _).mono ?_; rintro _ w2 ⟨rfl, hc⟩; replace F1 := F1.later hc; replace ht := ht.behind hc))
  go_ret
  exact ⟨rfl, F1, ht⟩
set_option maxRecDepth 100000 in
set_option maxHeartbeats 1600000 in
theorem rdHash_any (g : Nat) (r : List UInt8) (w : World) (h : Rd w g r) (hn : 32 ≤ r.length) (hm : r.length ≤ 1099511627776) :
    Calls Try.prog 76 #[.pointer (some ⟨g, 0, none⟩)] w fun e w' => e = .returned (hv (r.take 32)) ∧ Rd w' g (r.drop 32) ∧ Touch (fun b => b = g) w w' := by
  have HT : Hid (∀ w, Rd w g r → Calls Try.prog 77 #[.pointer (some ⟨g, 0, none⟩), .int .i64 32] w fun e w' => e = .returned (.string ⟨(r.take 32).toArray⟩) ∧ Rd w' g (r.drop 32) ∧ Touch (fun b => b = g) w w') := fun w h => rdText_any g r 32 w h hn hm
  have F5 := h
  have hgw := h.lt
  have ht := Touch.refl (fun b => b = g) w
  have hl : (r.take 32).length = 32 := by rw [List.length_take]; omega
  have HL := hide hl
  have HZ : Hid (32 ≤ (⟨(r.take 32).toArray⟩ : ByteArray).size) := by unfold Hid; show 32 ≤ (r.take 32).toArray.size; rw [List.size_toArray]; omega
  have HD : Hid ((⟨(r.take 32).toArray⟩ : ByteArray).data.toList.take 32 = r.take 32) := by unfold Hid; show (r.take 32).take 32 = _; rw [List.take_take, Nat.min_self]
  clear h hn hm hl
  generalize (⟨(r.take 32).toArray⟩ : ByteArray) = s at *
  go_enter Try.func76, Try.ntmps76
  go_wp2_with (first | (with_reducible show wpList _ _ _ (⟨_, Op.alloc _, _, _, _, _⟩ :: _) _ _; refine wpl_mk_hash rfl rfl ?_; first | (have F2x := F2; intro _ g3 h3 F3 hb; have l2 := F2.lt; have l5 := F5.lt; replace F2 := F2.later hb; replace F5 := F5.later hb; replace ht := ht.behind hb; clear hb F2x) | (intro _ g2 h2 F2 hb; have l5 := F5.lt; replace F5 := F5.later hb; replace ht := ht.behind hb; clear hb)) | (with_reducible show Code.wp _ (Code.region _ _ true) _ _ _; (try simp only [Act.put, List.setIfInBounds_toArray, List.set_cons_succ, List.set_cons_zero]); fail))
  (try simp only [Act.put, List.setIfInBounds_toArray, List.set_cons_succ, List.set_cons_zero])
  have w2s := ht.size
  have g23 : g2 < g3 := by omega
  have gg2 : g < g2 := by omega
  have wg3 : w.heap.size ≤ g3 := by omega
  have wg2 : w.heap.size ≤ g2 := h2
  refine region_plan (fun x => Touch (fun b => b = g) _ x) (.one [0, 1] 2 (.bar [] 3 (.stop []))) (by kernel_rfl) (by kernel_rfl) (by kernel_rfl) (by decide) (fun _ _ h hb => h.behind hb) (Touch.refl _ _) ?_
  intro wpl0 hb0 _ k0
  replace F2 := F2.later hb0
  replace F3 := F3.later hb0
  replace F5 := F5.later hb0
  replace ht := ht.behind hb0
  refine plan_one ?_
  simp only [pickOps, opAt, List.getElem?_cons_succ, List.getElem?_cons_zero, List.nil_append, List.cons_append]
  repeat (first | go_big_quiet_skip | (go_big_quiet_want; go_big_quiet_op; first | go_big_quiet_on | (refine ⟨_, fun _ => rfl, ?_⟩; go_big_quiet_on)))
  refine wpQuiet_nil ?_
  intro wq hb k
  replace F2 := F2.later hb
  replace F3 := F3.later hb
  replace F5 := F5.later hb
  replace ht := ht.behind hb
  have l3 := F3.lt
  have l2' := F2.lt
  clear hb
  go_wp2_with (go_at_call 77; refine (HT.out _ F5).mono ?_; rintro _ w1 ⟨rfl, h1, ht1⟩; clear F5; have F5 := h1; clear h1; replace k := k.add ht1 (fun x h => h); replace ht := ht.add ht1 (fun x h => h); replace F3 := F3.touch ht1 (by show ¬ _ = _; omega); replace F2 := F2.touch ht1 (by show ¬ _ = _; omega); clear ht1)
  refine goQ_since (fun _ _ h hb => h.behind hb) k ?_
  clear k
  (try simp only [Act.put, List.setIfInBounds_toArray, List.set_cons_succ, List.set_cons_zero])
  refine plan_bar ?_
  simp only [pickOps, opAt, List.getElem?_cons_succ, List.getElem?_cons_zero, List.nil_append, List.cons_append]
  repeat (first | go_big_quiet_skip | (go_big_quiet_want; go_big_quiet_op; first | go_big_quiet_on | (refine ⟨_, fun _ => rfl, ?_⟩; go_big_quiet_on)))
  refine wpQuiet_nil ?_
  intro wr hb k
  clear k
  replace F2 := F2.later hb
  replace F3 := F3.later hb
  replace F5 := F5.later hb
  replace ht := ht.behind hb
  clear hb
  refine wpl_copy_hash rfl _ _ rfl rfl rfl HZ.out F3 ?_
  rw [HD.out]
  intro ws t1 ht2
  clear F3
  have F3 := t1
  replace F2 := F2.touch ht2 (by show ¬ _ = _; omega)
  replace F5 := F5.touch ht2 (by show ¬ _ = _; omega)
  replace ht := ht.trans ht2 (fun x hx => .inr (by have : x = g3 := hx; omega))
  clear ht2 t1
  refine goB_since ?_
  (try simp only [Act.put, List.setIfInBounds_toArray, List.set_cons_succ, List.set_cons_zero])
  refine plan_stop ?_
  simp only [pickOps, opAt, List.getElem?_cons_succ, List.getElem?_cons_zero, List.nil_append, List.cons_append]
  repeat (first | go_big_quiet_skip | (go_big_quiet_want; go_big_quiet_op; first | go_big_quiet_on | (refine ⟨_, fun _ => rfl, ?_⟩; go_big_quiet_on)))
  refine wpQuiet_nil ?_
  intro wt hb k
  clear k
  replace F2 := F2.later hb
  replace F3 := F3.later hb
  replace F5 := F5.later hb
  replace ht := ht.behind hb
  clear hb
  go_wp2_with (first | (with_reducible show wpList _ _ _ (⟨_, Op.load _ _, _, _, _, _⟩ :: _) _ _; refine wpl_load_hash rfl _ rfl rfl (by assumption) ?_) | (with_reducible show wpList _ _ _ (⟨_, Op.store _ _ _, _, _, _, _⟩ :: _) _ _; refine wpl_set_hash rfl _ _ rfl rfl rfl HL.out F2 ?_; intro _ t1 ht2; replace F5 := F5.touch ht2 (by show ¬ _ = _; omega); replace ht := ht.trans ht2 (fun x hx => .inr (by have : x = g2 := hx; omega)); clear F2; have F2 := t1; clear t1 ht2))
  exact bodyPost_ret (ret_hash rfl _ _ rfl F2) rfl ⟨rfl, F5, ht⟩
end Go.Proofs.Ytofjjpielkfloaa
