/- mintageref02.Plus as a contract, where the sum is a number. -/
import Derived.Test.YtbbfnpfkbbpjgaaOBRef02b
import Derived.Test.YtbbfnpfkbbpjgaaOBSlEl
import Derived.Test.YtbbfnpfkbbpjgaaOBMBase
namespace Go.Proofs.Ytbbfnpfkbbpjgaa
open Go.RowKit Go.Lib
set_option linter.unusedVariables false
set_option linter.unusedSimpArgs false

theorem wideSz : (Try.prog.info? 223).map (·.size) = some 2 := by kernel_rfl
theorem wideZero : (Try.prog.info? 223).bind (·.zero) = some (.agg #[.int .u64 0, .int .u64 0]) := by kernel_rfl
def addL (ah al bh bl : Nat) : List Nat := [al % 4294967296 + bl % 4294967296, al / 4294967296 + bl / 4294967296, ah % 4294967296 + bh % 4294967296, ah / 4294967296 + bh / 4294967296]
theorem of_own (h l : Nat) (w : World) (hh : U64 h) (hl : U64 l) : Calls Try.prog 194 #[.agg #[.int .u64 h, .int .u64 l]] w fun e w' => (∃ v, e = .returned v ∧ OwnR w' w.heap.size 23 1 v (numsC (dig4 h l)) []) ∧ Below w.heap.size w w' := by
  refine (of02_any (h : Int) (l : Int) w (by unfold Word; unfold U64 at hh; omega) (by unfold Word; unfold U64 at hl; omega)).mono ?_
  rintro e w' ⟨v, rfl, hd, hb⟩
  refine ⟨⟨v, rfl, digs_own ?_⟩, hb⟩
  have e1 : (dig4 h l).map (fun n : Nat => (n : Int)) = [(l : Int) % 4294967296, (l : Int) / 4294967296, (h : Int) % 4294967296, (h : Int) / 4294967296] := by simp [dig4]
  rw [e1]
  exact hd
theorem dig4_small {h l k x : Nat} (hh : U64 h) (hl : U64 l) (hx : (dig4 h l)[k]? = some x) : x < 4294967296 := by
  have hm := List.mem_of_getElem? hx
  unfold U64 at hh hl
  simp only [dig4, List.mem_cons, List.not_mem_nil, or_false] at hm
  omega
theorem add_next {ah al bh bl k x y : Nat} (hx : (dig4 ah al)[k]? = some x) (hy : (dig4 bh bl)[k]? = some y) : (addL ah al bh bl).take (k + 1) = (addL ah al bh bl).take k ++ [x + y] := by
  have hk : k < 4 := (List.getElem?_eq_some_iff.1 hx).1
  have hc : k = 0 ∨ k = 1 ∨ k = 2 ∨ k = 3 := by omega
  rcases hc with rfl | rfl | rfl | rfl <;> (simp [dig4] at hx hy; subst hx; subst hy; rfl)
theorem digs_at {w : World} {B : Nat} {v : Value} {l : List Nat} (h : OwnR w B 23 1 v (numsC l) []) (h0 : 0 < l.length) : ∃ g cap, v = .slice (some ⟨g, 0, none⟩) l.length cap ∧ Digs w 0 (.slice (some ⟨g, 0, none⟩) l.length cap) (l.map fun n : Nat => (n : Int)) := by
  have hd := own_digs h
  unfold Digs at hd
  rw [List.length_map] at hd
  obtain ⟨g, cap, rfl, _⟩ := ownsRow_at hd h0
  refine ⟨g, cap, rfl, ?_⟩
  unfold Digs
  rw [List.length_map]
  exact ownsRow_le hd (Nat.zero_le _)
theorem carry_own (g cap : Nat) (l m : List Nat) (w : World) (hl : l.length = 4) (hs : ∀ d ∈ l.map (fun n : Nat => (n : Int)), 0 ≤ d ∧ d < 9223372036854775808) (hc : carryL (l.map fun n : Nat => (n : Int)) 0 = m.map fun n : Nat => (n : Int)) (hd : Digs w 0 (.slice (some ⟨g, 0, none⟩) 4 cap) (l.map fun n : Nat => (n : Int))) :
    Calls Try.prog 196 #[.slice (some ⟨g, 0, none⟩) 4 cap] w fun e w' => (∃ v, e = .returned v ∧ OwnR w' w.heap.size 23 1 v (numsC m) []) ∧ Below w.heap.size w w' := by
  have hll : (l.map fun n : Nat => (n : Int)).length = 4 := by rw [List.length_map, hl]
  have k := carry_any g cap (l.map fun n : Nat => (n : Int)) w (by rw [hll]; decide) (by rw [hll]; decide) (by rw [hll]; exact hd) hs
  rw [hll] at k
  refine k.mono ?_
  rintro e w' ⟨v, rfl, h1, h2⟩
  rw [hc] at h1
  exact ⟨⟨v, rfl, digs_own h1⟩, h2⟩
theorem wide_own (g cap e0 e1 e2 e3 : Nat) (w : World) (s0 : e0 < 4294967296) (s1 : e1 < 4294967296) (s2 : e2 < 4294967296) (s3 : e3 < 4294967296) (hd : Digs w 0 (.slice (some ⟨g, 0, none⟩) 5 cap) (([e0, e1, e2, e3, 0] : List Nat).map fun n : Nat => (n : Int))) :
    Calls Try.prog 195 #[.slice (some ⟨g, 0, none⟩) 5 cap] w fun e w' => e = .returned (.tuple #[.agg #[.int .u64 ((e3 * 4294967296 + e2 : Nat) : Int), .int .u64 ((e1 * 4294967296 + e0 : Nat) : Int)], .bool true]) ∧ Below w.heap.size w w' := by
  have k := wide_any g cap (e0 : Int) (e1 : Int) (e2 : Int) (e3 : Int) 1 w (by decide) hd (by omega) (by omega) (by omega) (by omega)
  refine k.mono ?_
  rintro e w' ⟨rfl, h2⟩
  exact ⟨by rw [Int.natCast_add, Int.natCast_mul, Int.natCast_add, Int.natCast_mul]; rfl, h2⟩
theorem ret_wide_tmp {fn : Func} {q u : Tmp} (hr : fn.results = #[.cell q 223, .tmp u]) (tmps : Array Value) (w : World) {g : Nat} {cs : List Value} (x : Value) (hp : tmps.getD q undef = .pointer (some ⟨g, 0, none⟩)) (hu : tmps.getD u undef = x) (h : Arr w g 223 cs) (hl : cs.length = 2 := by rfl) :
    (results fn tmps).run Try.prog w = .ok (.tuple #[.agg cs.toArray, x]) w :=
  results_row_tmp hr tmps w g 223 cs.toArray (0, 0) _ x hp hu h Try.underlying223 rfl (by rw [List.size_toArray, hl]; exact wideSz)
set_option maxRecDepth 100000 in
set_option maxHeartbeats 1600000 in
theorem refPlus_any (ah al bh bl : Nat) (w : World) (h1 : U64 ah) (h2 : U64 al) (h3 : U64 bh) (h4 : U64 bl) (hf : ah + bh + (al + bl) / 18446744073709551616 < 18446744073709551616) :
    Calls Try.prog 180 #[.agg #[.int .u64 ah, .int .u64 al], .agg #[.int .u64 bh, .int .u64 bl]] w fun e w' => e = .returned (.tuple #[.agg #[.int .u64 ((ah + bh + (al + bl) / 18446744073709551616 : Nat) : Int), .int .u64 (((al + bl) % 18446744073709551616 : Nat) : Int)], .int .i64 0]) ∧ Below w.heap.size w w' := by
  obtain ⟨e0, e1, e2, e3, s0, s1, s2, s3, hcl, hlo, hhi⟩ := plus_digits ah al bh bl h1 h2 h3 h4 hf
  obtain ⟨hi, HHI⟩ : ∃ hi : Nat, hi = e3 * 4294967296 + e2 := ⟨_, rfl⟩
  obtain ⟨lo, HLO⟩ : ∃ lo : Nat, lo = e1 * 4294967296 + e0 := ⟨_, rfl⟩
  rw [← hlo, ← hhi, ← HHI, ← HLO]
  replace HHI := hide HHI
  replace HLO := hide HLO
  have HO1 := hide (fun w => of_own ah al w h1 h2)
  have HO2 := hide (fun w => of_own bh bl w h3 h4)
  have HX := hide (fun (k x : Nat) (hx : (dig4 ah al)[k]? = some x) => dig4_small h1 h2 hx)
  have HY := hide (fun (k x : Nat) (hx : (dig4 bh bl)[k]? = some x) => dig4_small h3 h4 hx)
  have HN := hide (fun (k x y : Nat) (hx : (dig4 ah al)[k]? = some x) (hy : (dig4 bh bl)[k]? = some y) => add_next hx hy)
  have HAL : Hid ((addL ah al bh bl).length = 4) := rfl
  have HD1 : Hid ((dig4 ah al).length = 4) := rfl
  have HD2 : Hid ((dig4 bh bl).length = 4) := rfl
  have HCL : Hid (carryL ((addL ah al bh bl).map fun n : Nat => (n : Int)) 0 = ([e0, e1, e2, e3, 0] : List Nat).map (fun n : Nat => (n : Int))) := hcl
  have HSM : Hid (∀ d ∈ (addL ah al bh bl).map (fun n : Nat => (n : Int)), 0 ≤ d ∧ d < 9223372036854775808) := by
    intro d hd
    obtain ⟨n, hn, rfl⟩ := List.mem_map.1 hd
    unfold U64 at h1 h2 h3 h4
    simp only [addL, List.mem_cons, List.not_mem_nil, or_false] at hn
    omega
  have b := Below.refl w.heap.size w
  generalize addL ah al bh bl = AL at *
  generalize dig4 ah al = DA at *
  generalize dig4 bh bl = DB at *
  clear hcl hlo hhi h1 h2 h3 h4 hf
  have mF1 := True.intro
  have mF2 := True.intro
  have mF3 := True.intro
  have mO1 := True.intro
  have mO2 := True.intro
  go_enter Try.func180, Try.ntmps180
  go_wp2_with (first | (with_reducible show wpList _ _ _ (⟨_, Op.box _ _, _, _, _, _⟩ :: _) _ _; clear mF1; refine wpl_box rfl 223 _ rfl rfl (cs := [.int .u64 ah, .int .u64 al]) rfl ?_; intro _ g1 hg1 F1 hb; replace b := later b hb; clear hb) | (with_reducible show wpList _ _ _ (⟨_, Op.box _ _, _, _, _, _⟩ :: _) _ _; clear mF2; refine wpl_box rfl 223 _ rfl rfl (cs := [.int .u64 bh, .int .u64 bl]) rfl ?_; intro _ g2 hg2 F2 hb; replace F1 := Arr.later F1 hb; replace b := later b hb; clear hb) | (with_reducible show wpList _ _ _ (⟨_, Op.alloc _, _, _, _, _⟩ :: _) _ _; clear mF3; have qb := b.size; refine wpl_mk rfl 223 rfl wideZero (cs := [.int .u64 0, .int .u64 0]) rfl ?_; intro _ g3 hg3 F3 hb; replace F1 := Arr.later F1 hb; replace F2 := Arr.later F2 hb; replace b := later b hb; clear hb) | ((with_reducible show wpList _ _ _ (⟨_, Op.load 223 _, _, _, _, _⟩ :: _) _ _); refine wpl_load_cells (cs := [.int .u64 ah, .int .u64 al]) rfl 223 _ rfl rfl (Cells.arr F1) _ Try.underlying223 rfl wideSz ?_) | ((with_reducible show wpList _ _ _ (⟨_, Op.load 223 _, _, _, _, _⟩ :: _) _ _); refine wpl_load_cells (cs := [.int .u64 bh, .int .u64 bl]) rfl 223 _ rfl rfl (Cells.arr F2) _ Try.underlying223 rfl wideSz ?_) | (go_at_call 194; clear mO1; refine (HO1.out _).mono ?_; rintro _ _ ⟨⟨v6, rfl, O6⟩, hc⟩; replace F1 := Arr.later F1 hc; replace F2 := Arr.later F2 hc; replace F3 := Arr.later F3 hc; replace b := later b hc; clear hc) | (go_at_call 194; clear mO2; refine (HO2.out _).mono ?_; rintro _ W ⟨⟨v7, rfl, O7⟩, hc⟩; replace F3 := Arr.later F3 hc; replace O6 := O6.later hc; replace b := later b hc; clear hc F1 F2))
  have S6 := O6.sl
  have S7 := O7.sl
  clear O6 O7
  obtain ⟨a6, c6, rfl, -⟩ := Sl.shape S6
  obtain ⟨a7, c7, rfl, -⟩ := Sl.shape S7
  rw [HD1.out, HD2.out]
  have T6 : Sl W (.slice a6 4 c6) 1 (numsC DA) := by rwa [HD1.out] at S6
  have T7 : Sl W (.slice a7 4 c7) 1 (numsC DB) := by rwa [HD2.out] at S7
  clear S6 S7 HO1 HO2
  go_loopw [8, 9] (fun v i wr => ∃ k : Nat, i = .int .i64 k ∧ k ≤ 4 ∧ OwnR wr W.heap.size 23 1 v (numsC (AL.take k)) [] ∧ Below W.heap.size W wr) (fun _ i _ => 4 - (RowKit.intOf i).toNat)
  case atStart => exact ⟨0, rfl, by omega, OwnR.nil _ _ _ _, Below.refl _ _⟩
  case round =>
    obtain ⟨k, rfl, hk, O1, b2⟩ := hrel
    by_cases hlt : k < 4
    · obtain ⟨x, hx⟩ : ∃ x, DA[k]? = some x := ⟨_, List.getElem?_eq_getElem (by rw [HD1.out]; exact hlt)⟩
      obtain ⟨y, hy⟩ : ∃ y, DB[k]? = some y := ⟨_, List.getElem?_eq_getElem (by rw [HD2.out]; exact hlt)⟩
      have hx2 := HX.out k x hx
      have hy2 := HY.out k y hy
      have HNX := hide (HN.out k x y hx hy)
      obtain ⟨bb1, kk1, cc1, he1, _, hcs1⟩ := Sl.block (T6.later b2) (by rw [HD1.out]; omega)
      simp only [Value.slice.injEq] at he1
      obtain ⟨rfl, -, rfl⟩ := he1
      obtain ⟨bb2, kk2, cc2, he2, _, hcs2⟩ := Sl.block (T7.later b2) (by rw [HD2.out]; omega)
      simp only [Value.slice.injEq] at he2
      obtain ⟨rfl, -, rfl⟩ := he2
      have d1 := (hcs1 k x hx).num
      have d2 := (hcs2 k y hy).num
      have w1 : IntKind.u64.wrap ((x : Int) + (y : Int)) = ((x + y : Nat) : Int) := by rw [IntKind.wrap_u64]; omega
      have HP : Hid ((numsC (AL.take k)).length = k) := by unfold numsC; rw [List.length_map, List.length_take, HAL.out]; exact hide (by omega)
      clear hcs1 hcs2 hx hy hx2 hy2
      generalize x + y = z at *
      go_wp2_with (with_reducible show Code.wp _ (Code.region _ _ true) _ _ _; (try simp only [Act.put, List.setIfInBounds_toArray, List.set_cons_succ, List.set_cons_zero]); fail)
      (try simp only [Act.put, List.setIfInBounds_toArray, List.set_cons_succ, List.set_cons_zero])
      refine region_plan (fun x => Below wr.heap.size wr x) (.one [0, 1, 2, 3, 4, 5, 6, 7, 8, 9] 10 (.bar [] 11 (.stop [12]))) (by kernel_rfl) (by kernel_rfl) (by kernel_rfl) (by decide) (lasts_below (Nat.le_refl _)) (Below.refl _ _) ?_
      intro _ _ _ _
      refine plan_one ?_
      simp only [pickOps, opAt, List.getElem?_cons_succ, List.getElem?_cons_zero, List.nil_append, List.cons_append]
      repeat (first | go_big_quiet_skip | (go_big_quiet_want; first | ((with_reducible show Oper.quiet _ ⟨_, Op.load _ _, _, _, _, _⟩ _ _ _); first | (refine quiet_load_one 23 _ rfl rfl (cell_kept d1) (by kernel_rfl) ?_; simp only [Act.put, List.setIfInBounds_toArray, List.set_cons_succ, List.set_cons_zero]; go_big_quiet_on) | (refine quiet_load_one 23 _ rfl rfl (cell_kept d2) (by kernel_rfl) ?_; simp only [Act.put, List.setIfInBounds_toArray, List.set_cons_succ, List.set_cons_zero]; go_big_quiet_on)) | (go_big_quiet_op; first | go_big_quiet_on | (refine ⟨_, fun _ => rfl, ?_⟩; go_big_quiet_on))))
      refine wpQuiet_nil ?_
      intro _ _ k1
      refine wpl_row1 rfl digElem (by decide) _ rfl (v := .int .u64 (z : Int)) (el := numC z) rfl rfl rfl (numC_one _) ?_
      intro _ g9 h9 O9 hb
      replace k1 := later k1 hb
      replace O1 := O1.later k1
      replace b2 := later b2 k1
      clear hb
      refine goQ_since (lasts_below (Nat.le_refl _)) k1 ?_
      clear k1 d1 d2
      (try simp only [Act.put, List.setIfInBounds_toArray, List.set_cons_succ, List.set_cons_zero])
      refine plan_bar ?_
      simp only [pickOps, opAt, List.getElem?_cons_succ, List.getElem?_cons_zero, List.nil_append, List.cons_append]
      refine wpQuiet_nil ?_
      intro _ _ k2
      replace O1 := O1.later k2
      replace O9 := O9.later k2
      replace b2 := later b2 k2
      clear k2
      refine wpl_append_row rfl _ _ digElem rfl rfl O1 rfl O9.sl O9.2.1 (k + 1) (by rw [HP.out]; rfl) (by omega) (by omega) b2.size ?_
      intro a2 c2 w2 O2 ht2 _
      replace b2 := b2.trans (ht2.below (B := W.heap.size) b2.size (fun x hx => O1.ge x hx))
      clear O1 O9 ht2
      refine goB_since ?_
      (try simp only [Act.put, List.setIfInBounds_toArray, List.set_cons_succ, List.set_cons_zero])
      refine plan_stop ?_
      simp only [pickOps, opAt, List.getElem?_cons_succ, List.getElem?_cons_zero, List.nil_append, List.cons_append]
      repeat (first | go_big_quiet_skip | (go_big_quiet_want; first | ((with_reducible show Oper.quiet _ ⟨_, Op.load _ _, _, _, _, _⟩ _ _ _); first | fail) | (go_big_quiet_op; first | go_big_quiet_on | (refine ⟨_, fun _ => rfl, ?_⟩; go_big_quiet_on))))
      refine wpQuiet_nil ?_
      intro _ hb4 _
      replace O2 := O2.later hb4
      replace b2 := later b2 hb4
      clear hb4
      go_wp2_with fail
      go_roundw
      case rel => exact ⟨k + 1, by simp, by omega, by rw [HNX.out]; unfold numsC; rw [List.map_append]; exact O2, b2⟩
      case measure => simp [RowKit.intOf]; omega
    · obtain rfl : k = 4 := by omega
      rw [List.take_of_length_le (by rw [HAL.out]; exact Nat.le_refl _)] at O1
      obtain ⟨g8, c8, rfl, D8⟩ := digs_at O1 (by rw [HAL.out]; decide)
      rw [HAL.out] at D8 ⊢
      have F4 := Arr.later F3 b2
      have b3 := later b b2
      clear O1 T6 T7 F3 b b2 HX HY HN HD1 HD2 hk hlt
      have HCA := hide (fun w (hd : Digs w 0 (.slice (some ⟨g8, 0, none⟩) 4 c8) (AL.map fun n : Nat => (n : Int))) => carry_own g8 c8 AL [e0, e1, e2, e3, 0] w HAL.out HSM.out HCL.out hd)
      have HWI := hide (fun g c w (hd : Digs w 0 (.slice (some ⟨g, 0, none⟩) 5 c) (([e0, e1, e2, e3, 0] : List Nat).map fun n : Nat => (n : Int))) => by have k := wide_own g c e0 e1 e2 e3 w s0 s1 s2 s3 hd; rw [← HHI.out, ← HLO.out] at k; exact k)
      clear HAL HSM HCL s0 s1 s2 s3
      clear HHI HLO
      have mF5 := True.intro
      go_wp2_with (first | (go_at_call 196; refine (HCA.out _ D8).mono ?_; rintro _ _ ⟨⟨v9, rfl, O9⟩, hc⟩; obtain ⟨g9, c9, rfl, D9⟩ := digs_at O9 (by simp); replace F4 := Arr.later F4 hc; replace b3 := later b3 hc; clear hc O9) | (go_at_call 195; refine (HWI.out _ _ _ D9).mono ?_; rintro _ _ ⟨rfl, hc⟩; replace F4 := Arr.later F4 hc; replace b3 := later b3 hc; clear hc) | (with_reducible show wpList _ _ _ (⟨_, Op.alloc _, _, _, _, _⟩ :: _) _ _; clear mF5; have qb := b3.size; have q4 := Arr.lt F4; refine wpl_mk rfl 223 rfl wideZero (cs := [.int .u64 0, .int .u64 0]) rfl ?_; intro _ g5 hg5 F5 hb; replace F4 := Arr.later F4 hb; replace b3 := later b3 hb; clear hb) | ((with_reducible show wpList _ _ _ (⟨_, Op.store 223 _ _, _, _, _, _⟩ :: _) _ _); refine wpl_fill rfl 223 _ _ rfl (cs := [.int .u64 hi, .int .u64 lo]) rfl rfl F5 wideSz rfl (by intro v hv; simp at hv; rcases hv with rfl | rfl <;> rfl) ?_; intro _ t1 ht1; clear F5; replace F4 := Arr.touch F4 ht1 (by show ¬ _ = _; omega); replace b3 := below_touch b3 ht1 (by omega) (Nat.le_refl _); have F5 := t1; clear t1 ht1) | ((with_reducible show wpList _ _ _ (⟨_, Op.load 223 _, _, _, _, _⟩ :: _) _ _); refine wpl_load_cells (cs := [.int .u64 hi, .int .u64 lo]) rfl 223 _ rfl rfl (Cells.arr F5) _ Try.underlying223 rfl wideSz ?_) | ((with_reducible show wpList _ _ _ (⟨_, Op.store 223 _ _, _, _, _, _⟩ :: _) _ _); refine wpl_fill rfl 223 _ _ rfl (cs := [.int .u64 hi, .int .u64 lo]) rfl rfl F4 wideSz rfl (by intro v hv; simp at hv; rcases hv with rfl | rfl <;> rfl) ?_; intro _ t1 ht1; clear F4; replace b3 := below_touch b3 ht1 (by omega) (Nat.le_refl _); have F4 := t1; clear t1 ht1))
      exact bodyPost_ret (ret_wide_tmp rfl _ _ _ rfl rfl F4) rfl ⟨rfl, b3⟩
end Go.Proofs.Ytbbfnpfkbbpjgaa

/- wide.Add, wide.Sum. -/
namespace Go.Proofs.Ytbbfnpfkbbpjgaa
open Go.RowKit Go.Lib
set_option linter.unusedVariables false
set_option linter.unusedSimpArgs false

set_option maxRecDepth 100000 in
theorem wadd_any (x y : Nat) (w : World) (hx : U64 x) (hy : U64 y) :
    Calls Try.prog 165 #[.int .u64 x, .int .u64 y] w fun e w' => e = .returned (.tuple #[.int .u64 ((if x + y < 18446744073709551616 then x + y else 0 : Nat) : Int), .int .i64 (if x + y < 18446744073709551616 then 0 else 9)]) ∧ Below w.heap.size w w' := by
  have b := Below.refl w.heap.size w
  have HA := hide (fun w => add64_0 (x : Int) (y : Int) (by omega) (by omega) w)
  by_cases h : x + y < 18446744073709551616
  · rw [if_pos h, if_pos h]
    have e1 : ((x : Int) + (y : Int)) % 18446744073709551616 = ((x + y : Nat) : Int) := by omega
    have e2 : ((x : Int) + (y : Int)) / 18446744073709551616 = 0 := by omega
    rw [e1, e2] at HA
    clear e1 e2 h hx hy
    generalize x + y = z at *
    go_enter Try.func165, Try.ntmps165
    go_wp2_with (simp only [HA.out])
    go_ret2
    exact ⟨rfl, b⟩
  · rw [if_neg h, if_neg h]
    have e2 : ((x : Int) + (y : Int)) / 18446744073709551616 = 1 := by
      have := hx; have := hy; unfold U64 at *; omega
    rw [e2] at HA
    clear e2 h hx hy
    generalize ((x : Int) + (y : Int)) % 18446744073709551616 = z at *
    go_enter Try.func165, Try.ntmps165
    go_wp2_with (simp only [HA.out])
    go_ret2
    exact ⟨rfl, b⟩
theorem sum_next {l : List Nat} {k x : Nat} (h : l[k]? = some x) : (l.take (k + 1)).sum = (l.take k).sum + x := by
  obtain ⟨hk, rfl⟩ := List.getElem?_eq_some_iff.1 h
  rw [List.take_succ_eq_append_getElem hk, List.sum_append]
  simp
theorem sum_le (l : List Nat) (k : Nat) : (l.take k).sum ≤ l.sum := by
  conv => rhs; rw [← List.take_append_drop k l, List.sum_append]
  omega
set_option maxRecDepth 100000 in
set_option maxHeartbeats 1600000 in
theorem wsum_any (v : Value) (l : List Nat) (w : World) (hv : Sl w v 1 (numsC l)) (hl : ∀ x ∈ l, U64 x) :
    Calls Try.prog 126 #[v] w fun e w' => e = .returned (.tuple #[.int .u64 ((if l.sum < 18446744073709551616 then l.sum else 0 : Nat) : Int), .int .i64 (if l.sum < 18446744073709551616 then 0 else 9)]) ∧ Below w.heap.size w w' := by
  obtain ⟨a, c, rfl, hc1, hc2, _⟩ := Sl.shape hv
  unfold maxLen at hc2
  obtain ⟨m, hm⟩ : ∃ m, m = l.length := ⟨_, rfl⟩
  have HM := hide hm
  have hm63 : m ≤ 9223372036854775807 := by omega
  rw [← hm]
  have HL := hide hl
  have HADD := hide (fun (x y : Nat) (w : World) (hx : U64 x) (hy : U64 y) => wadd_any x y w hx hy)
  obtain ⟨R, hR⟩ : ∃ R : Nat, R = (if l.sum < 18446744073709551616 then l.sum else 0) := ⟨_, rfl⟩
  obtain ⟨E, hE⟩ : ∃ E : Int, E = (if l.sum < 18446744073709551616 then 0 else 9) := ⟨_, rfl⟩
  rw [← hR, ← hE]
  have HR := hide hR
  have HE := hide hE
  have b := Below.refl w.heap.size w
  clear hc1 hc2 hm hl hR hE
  go_enter Try.func126, Try.ntmps126
  go_wp2_with fail
  go_loopw [4, 11] (fun s i wr => ∃ k : Nat, i = .int .i64 k ∧ k ≤ m ∧ s = .int .u64 ((l.take k).sum : Nat) ∧ Hid (U64 (l.take k).sum) ∧ Below w.heap.size w wr) (fun _ i _ => m - (RowKit.intOf i).toNat)
  case atStart => exact ⟨0, rfl, by omega, rfl, hide (by show U64 0; decide), b⟩
  case round =>
    clear b
    obtain ⟨k, rfl, hk, rfl, HS, b⟩ := hrel
    by_cases hlt : k < m
    · obtain ⟨x, hx⟩ : ∃ x, l[k]? = some x := ⟨_, List.getElem?_eq_getElem (by rw [← HM.out]; exact hlt)⟩
      have hx64 := HL.out x (List.mem_of_getElem? hx)
      obtain ⟨bb, k0, c', he, _, hcs⟩ := Sl.block (hv.later b) (by rw [← HM.out]; omega)
      simp only [Value.slice.injEq] at he
      obtain ⟨rfl, -, rfl⟩ := he
      have d1 := (hcs k x hx).num
      have HN := hide (sum_next hx)
      have HA := hide (fun w => HADD.out _ x w HS.out hx64)
      have hle := sum_le l (k + 1)
      rw [HN.out] at hle
      have HLE := hide hle
      clear hcs hx hle hx64 HADD
      generalize (l.take k).sum = s at *
      by_cases hq : s + x < 18446744073709551616
      · rw [if_pos hq, if_pos hq] at HA
        have HS2 : Hid (U64 (l.take (k + 1)).sum) := by rw [HN.out]; exact hide hq
        clear hq
        go_wp2_with (first | (with_reducible show wpList _ _ _ (⟨_, Op.load _ _, _, _, _, _⟩ :: _) _ _; refine wpl_load_one rfl 23 _ rfl rfl d1 (by kernel_rfl) ?_) | (go_at_call 165; refine (HA.out _).mono ?_; rintro _ _ ⟨rfl, hc⟩; (try replace F1 := F1.later hc); (try replace F2 := F2.later hc); (try replace F3 := F3.later hc); (try replace F4 := F4.later hc); (try replace F5 := F5.later hc); (try replace F6 := F6.later hc); (try replace F7 := F7.later hc); (try replace F8 := F8.later hc); (try replace F9 := F9.later hc); (try replace G1 := G1.later hc); (try replace G2 := G2.later hc); (try replace G3 := G3.later hc); (try replace z := z.later hc); (try replace b := later b hc); (try replace bB := mixed hB bB hc); clear hc))
        go_roundw
        case rel => exact ⟨k + 1, by simp, by omega, by rw [HN.out]; simp, HS2, b⟩
        case measure => simp [RowKit.intOf]; omega
      · rw [if_neg hq, if_neg hq] at HA
        have hR : ¬ l.sum < 18446744073709551616 := by have := HLE.out; omega
        have HR2 := hide hR
        clear hq hR
        go_wp2_with (first | (with_reducible show wpList _ _ _ (⟨_, Op.load _ _, _, _, _, _⟩ :: _) _ _; refine wpl_load_one rfl 23 _ rfl rfl d1 (by kernel_rfl) ?_) | (go_at_call 165; refine (HA.out _).mono ?_; rintro _ _ ⟨rfl, hc⟩; (try replace F1 := F1.later hc); (try replace F2 := F2.later hc); (try replace F3 := F3.later hc); (try replace F4 := F4.later hc); (try replace F5 := F5.later hc); (try replace F6 := F6.later hc); (try replace F7 := F7.later hc); (try replace F8 := F8.later hc); (try replace F9 := F9.later hc); (try replace G1 := G1.later hc); (try replace G2 := G2.later hc); (try replace G3 := G3.later hc); (try replace z := z.later hc); (try replace b := later b hc); (try replace bB := mixed hB bB hc); clear hc))
        go_ret2
        exact ⟨by rw [HR.out, HE.out, if_neg HR2.out, if_neg HR2.out]; rfl, b⟩
    · obtain rfl : m = k := by omega
      have hT : l.take m = l := List.take_of_length_le (by rw [← HM.out]; exact Nat.le_refl _)
      rw [hT] at HS ⊢
      have HR2 : Hid (l.sum < 18446744073709551616) := HS.out
      clear hT HS hlt hk
      obtain ⟨z, hz⟩ : ∃ z, z = l.sum := ⟨_, rfl⟩
      rw [← hz]
      have HZ := hide hz
      clear hz
      go_wp2_with fail
      go_ret2
      exact ⟨by rw [HR.out, HE.out, if_pos HR2.out, if_pos HR2.out, HZ.out]; rfl, b⟩
end Go.Proofs.Ytbbfnpfkbbpjgaa
