/- The small deed, and that it goes there and back. -/
import Derived.Test.YtbbfnpfkbbpjgaaGreatQPDeed8
import Derived.Test.YtbbfnpfkbbpjgaaGreatQPDeed9
import Derived.Test.YtbbfnpfkbbpjgaaGreatQPSqPay
import Derived.Test.YtbbfnpfkbbpjgaaGreatQPMCells
import Derived.Test.YtbbfnpfkbbpjgaaGreatQPMBase
import Derived.SliceStrings
import Derived.Test.YtbbfnpfkbbpjgaaGreatQPDig8
import Derived.ChangeArms
namespace Go.Proofs.YtbbfnpfkbbpjgaaGreat
open Go.RowKit Go.Lib
set_option linter.unusedVariables false
set_option linter.unusedSimpArgs false

def smallD : Deed := ⟨[in0], [], 0, 0, 0, [], [], []⟩
theorem smallD_ok : smallD.Ok := ⟨by intro x hx; simp [smallD] at hx; subst hx; exact in0_ok, by simp [smallD], by decide, by decide, by decide, by simp [smallD], by simp [smallD], by simp [smallD]⟩
theorem smallD_may : mayD smallD = true := by decide +kernel
theorem smallD_len : (fullL smallD).length = 41 := by decide +kernel
theorem smallD_fit : smallD.Fit := ⟨by decide, by decide, by decide, by decide, by decide⟩
theorem inBuilt0 : Tryz.prog.built 80 [] = some (inCs in0).toArray := by kernel_rfl
theorem deedBuilt1 (a : Option Addr) (n c : Nat) : Tryz.prog.built 29 [(0, .slice a n c)] = some (deedCs (.slice a n c) nilS nilS nilS nilS 0 0 0).toArray := by kernel_rfl
theorem ret_deed {fn : Func} {q : Tmp} (hr : fn.results = #[.cell q 29]) (tmps : Array Value) (w : World) {g : Nat} {v1 v2 v3 v4 v5 : Value} {f s t : Nat} (hp : tmps.getD q undef = .pointer (some ⟨g, 0, none⟩)) (h : DAt w g v1 v2 v3 v4 v5 f s t) :
    (results fn tmps).run Tryz.prog w = .ok (deedV v1 v2 v3 v4 v5 f s t) w :=
  results_cell_row hr tmps w g 29 (deedCs v1 v2 v3 v4 v5 f s t).toArray (0, 0) _ hp h.arr Tryz.underlying29 rfl deedSize
set_option maxRecDepth 100000 in
set_option maxHeartbeats 1600000 in
theorem small_any (w : World) : Calls Tryz.prog 47 #[] w fun e w' => (∃ v, e = .returned v ∧ DeedOwn w' w.heap.size v smallD) ∧ Below w.heap.size w w' := by
  have b := Below.refl w.heap.size w
  go_enter Tryz.func47, Tryz.ntmps47
  go_wp2_with (first | (with_reducible show wpList _ _ _ (⟨_, Op.alloc _, _, _, _, _⟩ :: _) _ _; refine wpl_mk_deed rfl rfl ?_; intro _ g0 hg0 F8 hb; replace b := later b hb; clear hb) | ((with_reducible show wpList _ _ _ (⟨_, Op.build 80 _, _, _, _, _⟩ :: _) _ _); refine wpl_built0 rfl 80 rfl (cs := inCs in0) inBuilt0 ?_) | ((with_reducible show wpList _ _ _ (⟨_, Op.buildSlice _ _ _, _, _, _, _⟩ :: _) _ _); have l8 := F8.lt; refine wpl_row1 rfl inElem (by decide) _ rfl (v := inV in0) (el := inCs in0) rfl (by simp [inV, Value.cells]) (inCs_length in0_ok) (inCs_one in0) ?_; intro _ g9 h9 O9 hb; have qb := b.size; replace F8 := F8.later hb; replace b := later b hb; clear hb) | ((with_reducible show wpList _ _ _ (⟨_, Op.build 29 _, _, _, _, _⟩ :: _) _ _); refine wpl_built1 rfl 29 _ rfl rfl (deedBuilt1 _ _ _) ?_) | ((with_reducible show wpList _ _ _ (⟨_, Op.store _ _ _, _, _, _, _⟩ :: _) _ _); refine wpl_set_deed rfl _ _ rfl rfl (v1 := .slice (some ⟨g9, 0, none⟩) 1 1) (v2 := nilS) (v3 := nilS) (v4 := nilS) (v5 := nilS) (f := 0) (s := 0) (t := 0) rfl rfl rfl rfl rfl rfl F8 ?_; intro _ t1 ht1; replace b := below_touch b ht1 (by omega) (by omega); replace O9 := O9.tg ht1 (by omega); clear F8; have F8 := t1; clear t1 ht1))
  refine bodyPost_ret (ret_deed rfl _ _ rfl F8) rfl ⟨⟨_, rfl, ?_⟩, b⟩
  exact ⟨_, nilS, nilS, nilS, nilS, rfl, O9.base (by omega), OwnR.nil _ _ _ _, OwnR.nil _ _ _ _, OwnR.nil _ _ _ _, OwnR.nil _ _ _ _, smallD_ok⟩
end Go.Proofs.YtbbfnpfkbbpjgaaGreat

/- That a deed goes there and back: works. -/
namespace Go.Proofs.YtbbfnpfkbbpjgaaGreat
open Go.RowKit Go.Lib
set_option linter.unusedVariables false
set_option linter.unusedSimpArgs false

theorem smallD_not : sameD smallD deed0 = false := by decide +kernel
set_option maxRecDepth 100000 in
set_option maxHeartbeats 3200000 in
theorem works13 (w : World) : Calls Tryz.prog 12 #[] w fun e w' => e = .returned (.bool true) ∧ Below w.heap.size w w' := by
  obtain ⟨sS, hsS⟩ : ∃ s : ByteArray, s = ⟨(fullL smallD).toArray⟩ := ⟨_, rfl⟩
  have hz : sS.size = 41 := by rw [hsS]; show (fullL smallD).toArray.size = 41; rw [List.size_toArray]; exact smallD_len
  have hl : sS.data.toList = fullL smallD := by rw [hsS]
  have HP := hide (fun v w (h : DeedIs w v smallD) => dPut_any v smallD w h smallD_fit)
  rw [if_pos smallD_may, if_pos smallD_may, ← hsS] at HP
  have HTK := hide (fun w => deedTake_any sS w (by omega))
  rw [hl, takeD_put smallD_ok smallD_may] at HTK
  have HSM := hide small_any
  have HS1 := hide (fun v u w (h : DeedIs w v smallD) (k : DeedIs w u smallD) => deedSame_any v u smallD smallD w h k)
  rw [sameD_self] at HS1
  have HS2 := hide (fun v u w (h : DeedIs w v smallD) (k : DeedIs w u deed0) => deedSame_any v u smallD deed0 w h k)
  rw [smallD_not] at HS2
  have c41 : ((sS.size : Int) == 41) = true := by rw [hz]; rfl
  have b := Below.refl w.heap.size w
  clear hsS hl hz
  go_enter Tryz.func12, Tryz.ntmps12
  go_wp2_with (first | (go_at_call 47; refine (HSM.out _).mono ?_; rintro _ _ ⟨⟨v0, rfl, O0⟩, hc⟩; replace b := later b hc; clear hc) | (go_at_call 19; refine (HP.out _ _ O0.is).mono ?_; rintro _ _ ⟨rfl, hc⟩; replace b := later b hc; clear hc O0) | (go_at_call 48; refine (HTK.out _).mono ?_; rintro _ _ ⟨⟨v1, rfl, y1, y2, y3, y4, y5, rfl, P1, P2, P3, P4, P5, hok⟩, hc⟩; replace b := later b hc; clear hc) | (with_reducible show wpList _ _ _ (⟨_, Op.alloc _, _, _, _, _⟩ :: _) _ _; refine wpl_mk_deed rfl rfl ?_; intro _ g3 hg3 F3 ha) | ((with_reducible show wpList _ _ _ (⟨_, Op.store _ _ _, _, _, _, _⟩ :: _) _ _); refine wpl_set_deed rfl _ _ rfl rfl (v1 := y1) (v2 := y2) (v3 := y3) (v4 := y4) (v5 := y5) (f := 0) (s := 0) (t := 0) rfl P1.sl.one' P2.sl.one' P3.sl.one' P4.sl.one' P5.sl.one' F3 ?_; intro _ t1 ht1; have hb := below_touch ha ht1 hg3 (Nat.le_refl _); clear F3; have F3 := t1; clear t1 ha ht1; replace P1 := P1.later hb; replace P2 := P2.later hb; replace P3 := P3.later hb; replace P4 := P4.later hb; replace P5 := P5.later hb; replace b := later b hb; clear hb) | (with_reducible show Code.wp _ (Code.region _ _ true) _ _ _; (try simp only [Act.put, List.setIfInBounds_toArray, List.set_cons_succ, List.set_cons_zero]); fail))
  have O1 := (show DeedOwn _ _ (deedV y1 y2 y3 y4 y5 smallD.fee smallD.frm smallD.til) smallD from ⟨_, _, _, _, _, rfl, P1, P2, P3, P4, P5, hok⟩)
  clear P1 P2 P3 P4 P5 hok
  have O2 := O1.is
  clear O1
  (try simp only [Act.put, List.setIfInBounds_toArray, List.set_cons_succ, List.set_cons_zero])
  refine region_plan (fun x => Below _ _ x) (.one [0, 1, 2, 3, 4, 5, 6, 7, 8] 9 (.fl [] 10 (.fl [11, 12, 13, 14, 15, 16, 17, 18] 19 (.stop [20, 21, 22])))) (by kernel_rfl) (by kernel_rfl) (by kernel_rfl) (by decide) (lasts_below (Nat.le_refl _)) (Below.refl _ _) ?_
  intro _ _ _ _
  replace O2 := (show DeedIs _ (deedV y1 y2 y3 y4 y5 0 0 0) smallD from O2)
  refine plan_one ?_
  simp only [pickOps, opAt, List.getElem?_cons_succ, List.getElem?_cons_zero, List.nil_append, List.cons_append]
  repeat (first | go_big_quiet_skip | (go_big_quiet_want; first | ((with_reducible show Oper.quiet _ ⟨_, Op.load _ _, _, _, _, _⟩ _ _ _); first | (refine plan_load_cells 29 _ rfl rfl (DAt.cells F3) _ Tryz.underlying29 rfl deedSize ?_; simp only [Act.put, List.setIfInBounds_toArray, List.set_cons_succ, List.set_cons_zero]; go_big_quiet_on)) | ((with_reducible show Oper.quiet _ ⟨_, Op.build _ _, _, _, _, _⟩ _ _ _); refine quiet_build _ _ rfl (deedCs nilS nilS nilS nilS nilS 0 0 0).toArray (by simp only [List.map_toArray, List.map_cons, List.map_nil]; exact deedBuilt0) ?_; simp only [Act.put, List.setIfInBounds_toArray, List.set_cons_succ, List.set_cons_zero]; go_big_quiet_on) | (go_big_quiet_op; first | go_big_quiet_on | (refine ⟨_, fun _ => rfl, ?_⟩; go_big_quiet_on))))
  refine wpQuiet_nil ?_
  intro _ hb k
  replace F3 := F3.later k
  replace O2 := O2.later k
  replace b := later b k
  go_wp2_with (go_at_call 47; refine (HSM.out _).mono ?_; rintro _ _ ⟨⟨v3, rfl, O3⟩, hc⟩; replace k := later k hc; replace F3 := F3.later hc; replace O2 := O2.later hc; replace b := later b hc; clear hc)
  refine goQ_since (lasts_below (Nat.le_refl _)) k ?_
  (try simp only [Act.put, List.setIfInBounds_toArray, List.set_cons_succ, List.set_cons_zero])
  clear hb k
  refine plan_fl ?_
  simp only [pickOps, opAt, List.getElem?_cons_succ, List.getElem?_cons_zero, List.nil_append, List.cons_append]
  repeat (first | go_big_quiet_skip | (go_big_quiet_want; first | ((with_reducible show Oper.quiet _ ⟨_, Op.load _ _, _, _, _, _⟩ _ _ _); first | (refine plan_load_cells 29 _ rfl rfl (DAt.cells F3) _ Tryz.underlying29 rfl deedSize ?_; simp only [Act.put, List.setIfInBounds_toArray, List.set_cons_succ, List.set_cons_zero]; go_big_quiet_on)) | ((with_reducible show Oper.quiet _ ⟨_, Op.build _ _, _, _, _, _⟩ _ _ _); refine quiet_build _ _ rfl (deedCs nilS nilS nilS nilS nilS 0 0 0).toArray (by simp only [List.map_toArray, List.map_cons, List.map_nil]; exact deedBuilt0) ?_; simp only [Act.put, List.setIfInBounds_toArray, List.set_cons_succ, List.set_cons_zero]; go_big_quiet_on) | (go_big_quiet_op; first | go_big_quiet_on | (refine ⟨_, fun _ => rfl, ?_⟩; go_big_quiet_on))))
  refine wpQuiet_nil ?_
  refine fl_call (by rfl) rfl (by kernel_rfl) (by simp only [List.map_toArray, List.map_cons, List.map_nil] <;> rfl) (fun w' hC => HS1.out _ _ _ (O2.later (Kl.out hC)) (O3.is.later (Kl.out hC))) ?_
  simp only [Act.put, List.setIfInBounds_toArray, List.set_cons_succ, List.set_cons_zero]
  refine plan_fl ?_
  simp only [pickOps, opAt, List.getElem?_cons_succ, List.getElem?_cons_zero, List.nil_append, List.cons_append]
  repeat (first | go_big_quiet_skip | (go_big_quiet_want; first | ((with_reducible show Oper.quiet _ ⟨_, Op.load _ _, _, _, _, _⟩ _ _ _); first | (refine plan_load_cells 29 _ rfl rfl (DAt.cells F3) _ Tryz.underlying29 rfl deedSize ?_; simp only [Act.put, List.setIfInBounds_toArray, List.set_cons_succ, List.set_cons_zero]; go_big_quiet_on)) | ((with_reducible show Oper.quiet _ ⟨_, Op.build _ _, _, _, _, _⟩ _ _ _); refine quiet_build _ _ rfl (deedCs nilS nilS nilS nilS nilS 0 0 0).toArray (by simp only [List.map_toArray, List.map_cons, List.map_nil]; exact deedBuilt0) ?_; simp only [Act.put, List.setIfInBounds_toArray, List.set_cons_succ, List.set_cons_zero]; go_big_quiet_on) | (go_big_quiet_op; first | go_big_quiet_on | (refine ⟨_, fun _ => rfl, ?_⟩; go_big_quiet_on))))
  refine wpQuiet_nil ?_
  refine fl_call (by rfl) rfl (by kernel_rfl) (by simp only [List.map_toArray, List.map_cons, List.map_nil] <;> rfl) (fun w' hC => HS2.out _ _ _ (O2.later (Kl.out hC)) (DeedOwn.nil _ 0).is) ?_
  simp only [Act.put, List.setIfInBounds_toArray, List.set_cons_succ, List.set_cons_zero]
  refine plan_stop ?_
  simp only [pickOps, opAt, List.getElem?_cons_succ, List.getElem?_cons_zero, List.nil_append, List.cons_append]
  repeat (first | go_big_quiet_skip | (go_big_quiet_want; first | ((with_reducible show Oper.quiet _ ⟨_, Op.load _ _, _, _, _, _⟩ _ _ _); first | fail) | ((with_reducible show Oper.quiet _ ⟨_, Op.build _ _, _, _, _, _⟩ _ _ _); refine quiet_build _ _ rfl (deedCs nilS nilS nilS nilS nilS 0 0 0).toArray (by simp only [List.map_toArray, List.map_cons, List.map_nil]; exact deedBuilt0) ?_; simp only [Act.put, List.setIfInBounds_toArray, List.set_cons_succ, List.set_cons_zero]; go_big_quiet_on) | (go_big_quiet_op; first | go_big_quiet_on | (refine ⟨_, fun _ => rfl, ?_⟩; go_big_quiet_on))))
  refine wpQuiet_nil ?_
  intro _ hb k
  replace b := later b k
  go_wp2_with fail
  go_ret
  exact ⟨rfl, b⟩
end Go.Proofs.YtbbfnpfkbbpjgaaGreat

/- Arguments that are slices of flat elements: each element's cells are told by a function. Slices of hashes. -/
namespace Go.Proofs.YtbbfnpfkbbpjgaaGreat
open Go.ChangeShapes Go.WideShapes Go.RowKit
set_option linter.unusedVariables false
set_option linter.unusedSimpArgs false

/-- A list that each place of has something. -/
theorem list_of {α : Type} (n : Nat) (R : Nat → α → Prop) (h : ∀ i, i < n → ∃ y, R i y) : ∃ l : List α, l.length = n ∧ ∀ (i : Nat) (y : α), l[i]? = some y → R i y := by
  induction n with
  | zero => exact ⟨[], rfl, fun i y hi => by simp at hi⟩
  | succ n ih =>
    obtain ⟨l, hl, hr⟩ := ih (fun i hi => h i (by omega))
    obtain ⟨y, hy⟩ := h n (by omega)
    refine ⟨l ++ [y], by simp [hl], fun i z hz => ?_⟩
    by_cases hi : i < l.length
    · rw [List.getElem?_append_left hi] at hz
      exact hr i z hz
    · rw [List.getElem?_append_right (by omega)] at hz
      have h0 : i - l.length = 0 := by
        have := (List.getElem?_eq_some_iff.1 hz).1
        simp at this
        omega
      rw [h0] at hz
      simp at hz
      subst hz
      rwa [show i = n by omega]
/-- A slice of flat elements, from its cells. -/
theorem open_cells {H : Type} {enc : TypeId × Value → H} {w : World} {base : Nat} {spare : Nat → Bool} {held : Bool} {α : Type} (f : α → List Value) (Pr : α → Prop) {t e sz : Nat} (ht : Tryz.prog.underlying t = some (.slice e)) (hc : Tryz.prog.cellsOf e = sz) (hsz : 0 < sz)
    (each : ∀ fuel cs x, DataW.trod enc Tryz.prog w base spare held fuel e cs = some x → cs.length = sz → ∃ y, cs = f y ∧ Pr y) {fuel : Nat} {v : Value} {x : DataW H × List MemPlace}
    (hd : DataW.trod enc Tryz.prog w base spare held fuel t [v] = some x) : ∃ l : List α, Sl w v sz (l.map f) ∧ (∀ y ∈ l, Pr y) ∧ l.length ≤ maxLen := by
  rcases DataW.trod_slice ht hd with ⟨h1, _⟩ | ⟨a, len, cap, elems, rest, n, _, h1, _, hb, hl, hm, hlen, hel, _, _⟩
  · simp only [List.cons.injEq, and_true] at h1
    rw [h1]
    exact ⟨[], Sl.nil w sz, by simp, by simp⟩
  · simp only [List.cons.injEq, and_true] at h1
    rw [h1]
    have key : ∀ i, i < len → ∃ y : α, Pr y ∧ (f y).length = sz ∧ ∀ j, j < sz → w.cell? ((a.add (i * sz)).add j) = (f y)[j]? := by
      intro i hi
      have h2 := hel i hi
      have hi' : i < elems.length := by omega
      rw [List.getElem?_eq_getElem hi', Option.bind_eq_some_iff] at h2
      obtain ⟨cs, hcs, ht'⟩ := h2
      obtain ⟨_, hcl, hcell⟩ := World.cells?_some hcs
      rw [hc] at hcl hcell
      obtain ⟨y, rfl, hp⟩ := each _ _ _ ht' hcl
      exact ⟨y, hp, hcl, hcell⟩
    obtain ⟨l, hl1, hl2⟩ := list_of len _ key
    have hlm : l.length ≤ maxLen := by omega
    refine ⟨l, ⟨some a, cap, by rw [List.length_map, hl1], by rw [List.length_map, hl1]; exact hl, hm, ?_, fun h => (by cases h), fun hne => ?_⟩, ?_, hlm⟩
    · intro e' he
      obtain ⟨y, hy, rfl⟩ := List.mem_map.1 he
      obtain ⟨i, hi⟩ := List.mem_iff_getElem?.1 hy
      exact (hl2 i y hi).2.1
    · have h0 : 0 < l.length := by
        cases l with
        | nil => exact absurd rfl hne
        | cons => simp
      have hc0 := (hl2 0 _ (List.getElem?_eq_getElem h0)).2.2 0 hsz
      have hf0 := (hl2 0 _ (List.getElem?_eq_getElem h0)).2.1
      rw [List.getElem?_eq_getElem (by rw [hf0]; exact hsz)] at hc0
      obtain ⟨g, off, spot⟩ := a
      have hspot : spot = none := by simpa [Addr.add] using World.cell?_spot hc0
      subst hspot
      rw [Cells.add, Cells.add] at hc0
      refine ⟨g, off, rfl, World.block_lt_of_cell? w _ hc0, fun i e' he j u hu => ?_⟩
      rw [List.getElem?_map, Option.map_eq_some_iff] at he
      obtain ⟨y, hy, rfl⟩ := he
      obtain ⟨_, hfl, hcj⟩ := hl2 i y hy
      have := hcj j (by rw [← hfl]; exact (List.getElem?_eq_some_iff.1 hu).1)
      rw [Cells.add, Cells.add, hu] at this
      exact this
    · intro y hy
      obtain ⟨i, hi⟩ := List.mem_iff_getElem?.1 hy
      exact (hl2 i y hi).1
set_option maxRecDepth 100000 in
/-- Thirty-two cells that a hash has. -/
theorem hash_cells {H : Type} {enc : TypeId × Value → H} {w : World} {base : Nat} {spare : Nat → Bool} {held : Bool} {fuel : Nat} {cs : List Value} {x : DataW H × List MemPlace}
    (hf : DataW.trod enc Tryz.prog w base spare held fuel 34 cs = some x) (hcl : cs.length = 32) : ∃ l : List UInt8, cs = bvs l ∧ l.length = 32 := by
  obtain ⟨xs, m, _, _, hlen, hxs, hel⟩ := DataW.trod_array Tryz.underlying34 hf
  rw [cellsByte] at hel
  have hcell : ∀ i, (h : i < cs.length) → ∃ n : UInt8, cs[i] = .int .u8 (n.toNat : Int) := by
    intro i hi
    have h1 := hel i (by omega)
    have hx : i < xs.length := by omega
    rw [List.getElem?_eq_getElem hx] at h1
    obtain ⟨n, hn, _, hw⟩ := DataW.trod_int Tryz.underlying5 h1
    simp only [Nat.mul_one] at hn
    have h2 : ((cs.drop i).take 1)[0]? = some (.int .u8 n) := by rw [hn]; rfl
    have h3 : cs[i]? = some (.int .u8 n) := by
      rw [List.getElem?_take, if_pos (by omega), List.getElem?_drop, Nat.add_zero] at h2
      exact h2
    have hb := bounds_u8 hw
    refine ⟨UInt8.ofNat n.toNat, ?_⟩
    rw [List.getElem?_eq_getElem hi] at h3
    rw [Option.some.inj h3, UInt8.toNat_ofNat']
    congr 1
    omega
  refine ⟨cs.map (fun v => UInt8.ofNat (RowKit.intOf v).toNat), ?_, by simpa using hcl⟩
  apply List.ext_getElem
  · simp [bvs]
  · intro i h1 h2
    obtain ⟨n, hn⟩ := hcell i h1
    simp only [bvs, List.getElem_map, hn, RowKit.intOf]
    simp
end Go.Proofs.YtbbfnpfkbbpjgaaGreat

/- Arguments that are rights or heads: their fields. -/
namespace Go.Proofs.YtbbfnpfkbbpjgaaGreat
open Go.ChangeShapes Go.WideShapes Go.RowKit
set_option linter.unusedVariables false
set_option linter.unusedSimpArgs false

theorem cellsU64 : Tryz.prog.cellsOf 24 = 1 := by kernel_rfl
theorem cellsStr : Tryz.prog.cellsOf 9 = 1 := by kernel_rfl
theorem u64_of {n : Int} (h : (Lit.int .u64 n).wf = true) : ∃ m : Nat, n = m ∧ m < 18446744073709551616 := by
  have h2 : 0 ≤ n ∧ n ≤ 18446744073709551615 := by simpa [Lit.wf, IntKind.min, IntKind.max, IntKind.signed, IntKind.bits] using h
  exact ⟨n.toNat, by omega, by omega⟩
/-- Cut a list in two. -/
theorem cut_at {α : Type} (L : List α) (k n m : Nat) (h : k + n = m) : L.drop k = (L.drop k).take n ++ L.drop m := by
  subst h
  rw [← List.drop_drop, List.take_append_drop]
end Go.Proofs.YtbbfnpfkbbpjgaaGreat
