/- The small deed, and that it goes there and back. -/
import Derived.Test.YtbbfnpfkbbpjgaaQDeed8
import Derived.Test.YtbbfnpfkbbpjgaaQDeed9
import Derived.Test.YtbbfnpfkbbpjgaaQSqPay
import Derived.Test.YtbbfnpfkbbpjgaaQMCells
import Derived.Test.YtbbfnpfkbbpjgaaQElIn
namespace Go.Proofs.Ytbbfnpfkbbpjgaa
open Go.RowKit Go.Lib
set_option linter.unusedVariables false
set_option linter.unusedSimpArgs false

def smallD : Deed := ⟨[in0], [], 0, 0, 0, [], [], []⟩
theorem smallD_ok : smallD.Ok := ⟨by intro x hx; simp [smallD] at hx; subst hx; exact in0_ok, by simp [smallD], by decide, by decide, by decide, by simp [smallD], by simp [smallD], by simp [smallD]⟩
theorem smallD_may : mayD smallD = true := by decide +kernel
theorem smallD_len : (fullL smallD).length = 41 := by decide +kernel
theorem smallD_fit : smallD.Fit := ⟨by decide, by decide, by decide, by decide, by decide⟩
theorem inBuilt0 : Try.prog.built 60 [] = some (inCs in0).toArray := by kernel_rfl
theorem deedBuilt1 (a : Option Addr) (n c : Nat) : Try.prog.built 55 [(0, .slice a n c)] = some (deedCs (.slice a n c) nilS nilS nilS nilS 0 0 0).toArray := by kernel_rfl
theorem ret_deed {fn : Func} {q : Tmp} (hr : fn.results = #[.cell q 55]) (tmps : Array Value) (w : World) {g : Nat} {v1 v2 v3 v4 v5 : Value} {f s t : Nat} (hp : tmps.getD q undef = .pointer (some ⟨g, 0, none⟩)) (h : DAt w g v1 v2 v3 v4 v5 f s t) :
    (results fn tmps).run Try.prog w = .ok (deedV v1 v2 v3 v4 v5 f s t) w :=
  results_cell_row hr tmps w g 55 (deedCs v1 v2 v3 v4 v5 f s t).toArray (0, 0) _ hp h.arr Try.underlying55 rfl deedSize
set_option maxRecDepth 100000 in
set_option maxHeartbeats 1600000 in
theorem small_any (w : World) : Calls Try.prog 37 #[] w fun e w' => (∃ v, e = .returned v ∧ DeedOwn w' w.heap.size v smallD) ∧ Below w.heap.size w w' := by
  have b := Below.refl w.heap.size w
  go_enter Try.func37, Try.ntmps37
  go_wp2_with (first | (with_reducible show wpList _ _ _ (⟨_, Op.alloc _, _, _, _, _⟩ :: _) _ _; refine wpl_mk_deed rfl rfl ?_; intro _ g0 hg0 F8 hb; replace b := later b hb; clear hb) | ((with_reducible show wpList _ _ _ (⟨_, Op.build 60 _, _, _, _, _⟩ :: _) _ _); refine wpl_built0 rfl 60 rfl (cs := inCs in0) inBuilt0 ?_) | ((with_reducible show wpList _ _ _ (⟨_, Op.buildSlice _ _ _, _, _, _, _⟩ :: _) _ _); have l8 := F8.lt; refine wpl_row1 rfl inElem (by decide) _ rfl (v := inV in0) (el := inCs in0) rfl (by simp [inV, Value.cells]) (inCs_length in0_ok) (inCs_one in0) ?_; intro _ g9 h9 O9 hb; have qb := b.size; replace F8 := F8.later hb; replace b := later b hb; clear hb) | ((with_reducible show wpList _ _ _ (⟨_, Op.build 55 _, _, _, _, _⟩ :: _) _ _); refine wpl_built1 rfl 55 _ rfl rfl (deedBuilt1 _ _ _) ?_) | ((with_reducible show wpList _ _ _ (⟨_, Op.store _ _ _, _, _, _, _⟩ :: _) _ _); refine wpl_set_deed rfl _ _ rfl rfl (v1 := .slice (some ⟨g9, 0, none⟩) 1 1) (v2 := nilS) (v3 := nilS) (v4 := nilS) (v5 := nilS) (f := 0) (s := 0) (t := 0) rfl rfl rfl rfl rfl rfl F8 ?_; intro _ t1 ht1; replace b := below_touch b ht1 (by omega) (by omega); replace O9 := O9.tg ht1 (by omega); clear F8; have F8 := t1; clear t1 ht1))
  refine bodyPost_ret (ret_deed rfl _ _ rfl F8) rfl ⟨⟨_, rfl, ?_⟩, b⟩
  exact ⟨_, nilS, nilS, nilS, nilS, rfl, O9.base (by omega), OwnR.nil _ _ _ _, OwnR.nil _ _ _ _, OwnR.nil _ _ _ _, OwnR.nil _ _ _ _, smallD_ok⟩
end Go.Proofs.Ytbbfnpfkbbpjgaa

/- That a deed goes there and back: works. -/
namespace Go.Proofs.Ytbbfnpfkbbpjgaa
open Go.RowKit Go.Lib
set_option linter.unusedVariables false
set_option linter.unusedSimpArgs false

theorem smallD_not : sameD smallD deed0 = false := by decide +kernel
set_option maxRecDepth 100000 in
set_option maxHeartbeats 3200000 in
theorem works13 (w : World) : Calls Try.prog 26 #[] w fun e w' => e = .returned (.bool true) ∧ Below w.heap.size w w' := by
  obtain ⟨sS, hsS⟩ : ∃ s : ByteArray, s = ⟨(fullL smallD).toArray⟩ := ⟨_, rfl⟩
  have hz : sS.size = 41 := by rw [hsS]; show (fullL smallD).toArray.size = 41; rw [List.size_toArray]; exact smallD_len
  have hl : sS.data.toList = fullL smallD := by rw [hsS]
  have HP := hide (fun v w (h : DeedIs w v smallD) => dPut_any v smallD w h smallD_fit)
  rw [if_pos smallD_may, if_pos smallD_may, ← hsS] at HP
  have HTK := hide (fun w => deedTake_any sS w (by omega))
  rw [hl, takeD_put smallD_ok smallD_may] at HTK
  have HSM := hide small_any
  have HS1 := hide (fun v u w (h : DeedIs w v smallD) (k : DeedIs w u smallD) => deedSame_any v u smallD smallD w h k)
  rw [sameD_self] at HS1
  have HS2 := hide (fun v u w (h : DeedIs w v smallD) (k : DeedIs w u deed0) => deedSame_any v u smallD deed0 w h k)
  rw [smallD_not] at HS2
  have c41 : ((sS.size : Int) == 41) = true := by rw [hz]; rfl
  have b := Below.refl w.heap.size w
  clear hsS hl hz
  go_enter Try.func26, Try.ntmps26
  go_wp2_with (first | (go_at_call 37; refine (HSM.out _).mono ?_; rintro _ _ ⟨⟨v0, rfl, O0⟩, hc⟩; replace b := later b hc; clear hc) | (go_at_call 34; refine (HP.out _ _ O0.is).mono ?_; rintro _ _ ⟨rfl, hc⟩; replace b := later b hc; clear hc O0) | (go_at_call 27; refine (HTK.out _).mono ?_; rintro _ _ ⟨⟨v1, rfl, y1, y2, y3, y4, y5, rfl, P1, P2, P3, P4, P5, hok⟩, hc⟩; replace b := later b hc; clear hc) | (with_reducible show wpList _ _ _ (⟨_, Op.alloc _, _, _, _, _⟩ :: _) _ _; refine wpl_mk_deed rfl rfl ?_; intro _ g3 hg3 F3 ha) | ((with_reducible show wpList _ _ _ (⟨_, Op.store _ _ _, _, _, _, _⟩ :: _) _ _); refine wpl_set_deed rfl _ _ rfl rfl (v1 := y1) (v2 := y2) (v3 := y3) (v4 := y4) (v5 := y5) (f := 0) (s := 0) (t := 0) rfl P1.sl.one' P2.sl.one' P3.sl.one' P4.sl.one' P5.sl.one' F3 ?_; intro _ t1 ht1; have hb := below_touch ha ht1 hg3 (Nat.le_refl _); clear F3; have F3 := t1; clear t1 ha ht1; replace P1 := P1.later hb; replace P2 := P2.later hb; replace P3 := P3.later hb; replace P4 := P4.later hb; replace P5 := P5.later hb; replace b := later b hb; clear hb) | (with_reducible show Code.wp _ (Code.region _ _ true) _ _ _; (try simp only [Act.put, List.setIfInBounds_toArray, List.set_cons_succ, List.set_cons_zero]); fail))
  have O1 := (show DeedOwn _ _ (deedV y1 y2 y3 y4 y5 smallD.fee smallD.frm smallD.til) smallD from ⟨_, _, _, _, _, rfl, P1, P2, P3, P4, P5, hok⟩)
  clear P1 P2 P3 P4 P5 hok
  have O2 := O1.is
  clear O1
  (try simp only [Act.put, List.setIfInBounds_toArray, List.set_cons_succ, List.set_cons_zero])
  refine region_plan (fun x => Below _ _ x) (.one [0, 1, 2, 3, 4, 5, 6, 7, 8] 9 (.fl [] 10 (.fl [11, 12, 13, 14, 15, 16, 17, 18] 19 (.stop [20, 21, 22])))) (by kernel_rfl) (by kernel_rfl) (by kernel_rfl) (by decide) (lasts_below (Nat.le_refl _)) (Below.refl _ _) ?_
  intro _ _ _ _
  replace O2 := (show DeedIs _ (deedV y1 y2 y3 y4 y5 0 0 0) smallD from O2)
  refine plan_one ?_
  simp only [pickOps, opAt, List.getElem?_cons_succ, List.getElem?_cons_zero, List.nil_append, List.cons_append]
  repeat (first | go_big_quiet_skip | (go_big_quiet_want; first | ((with_reducible show Oper.quiet _ ⟨_, Op.load _ _, _, _, _, _⟩ _ _ _); first | (refine plan_load_cells 55 _ rfl rfl (DAt.cells F3) _ Try.underlying55 rfl deedSize ?_; simp only [Act.put, List.setIfInBounds_toArray, List.set_cons_succ, List.set_cons_zero]; go_big_quiet_on)) | ((with_reducible show Oper.quiet _ ⟨_, Op.build _ _, _, _, _, _⟩ _ _ _); refine quiet_build _ _ rfl (deedCs nilS nilS nilS nilS nilS 0 0 0).toArray (by simp only [List.map_toArray, List.map_cons, List.map_nil]; exact deedBuilt0) ?_; simp only [Act.put, List.setIfInBounds_toArray, List.set_cons_succ, List.set_cons_zero]; go_big_quiet_on) | (go_big_quiet_op; first | go_big_quiet_on | (refine ⟨_, fun _ => rfl, ?_⟩; go_big_quiet_on))))
  refine wpQuiet_nil ?_
  intro _ hb k
  replace F3 := F3.later k
  replace O2 := O2.later k
  replace b := later b k
  go_wp2_with (go_at_call 37; refine (HSM.out _).mono ?_; rintro _ _ ⟨⟨v3, rfl, O3⟩, hc⟩; replace k := later k hc; replace F3 := F3.later hc; replace O2 := O2.later hc; replace b := later b hc; clear hc)
  refine goQ_since (lasts_below (Nat.le_refl _)) k ?_
  (try simp only [Act.put, List.setIfInBounds_toArray, List.set_cons_succ, List.set_cons_zero])
  clear hb k
  refine plan_fl ?_
  simp only [pickOps, opAt, List.getElem?_cons_succ, List.getElem?_cons_zero, List.nil_append, List.cons_append]
  repeat (first | go_big_quiet_skip | (go_big_quiet_want; first | ((with_reducible show Oper.quiet _ ⟨_, Op.load _ _, _, _, _, _⟩ _ _ _); first | (refine plan_load_cells 55 _ rfl rfl (DAt.cells F3) _ Try.underlying55 rfl deedSize ?_; simp only [Act.put, List.setIfInBounds_toArray, List.set_cons_succ, List.set_cons_zero]; go_big_quiet_on)) | ((with_reducible show Oper.quiet _ ⟨_, Op.build _ _, _, _, _, _⟩ _ _ _); refine quiet_build _ _ rfl (deedCs nilS nilS nilS nilS nilS 0 0 0).toArray (by simp only [List.map_toArray, List.map_cons, List.map_nil]; exact deedBuilt0) ?_; simp only [Act.put, List.setIfInBounds_toArray, List.set_cons_succ, List.set_cons_zero]; go_big_quiet_on) | (go_big_quiet_op; first | go_big_quiet_on | (refine ⟨_, fun _ => rfl, ?_⟩; go_big_quiet_on))))
  refine wpQuiet_nil ?_
  refine fl_call (by rfl) rfl (by kernel_rfl) (by simp only [List.map_toArray, List.map_cons, List.map_nil] <;> rfl) (fun w' hC => HS1.out _ _ _ (O2.later (Kl.out hC)) (O3.is.later (Kl.out hC))) ?_
  simp only [Act.put, List.setIfInBounds_toArray, List.set_cons_succ, List.set_cons_zero]
  refine plan_fl ?_
  simp only [pickOps, opAt, List.getElem?_cons_succ, List.getElem?_cons_zero, List.nil_append, List.cons_append]
  repeat (first | go_big_quiet_skip | (go_big_quiet_want; first | ((with_reducible show Oper.quiet _ ⟨_, Op.load _ _, _, _, _, _⟩ _ _ _); first | (refine plan_load_cells 55 _ rfl rfl (DAt.cells F3) _ Try.underlying55 rfl deedSize ?_; simp only [Act.put, List.setIfInBounds_toArray, List.set_cons_succ, List.set_cons_zero]; go_big_quiet_on)) | ((with_reducible show Oper.quiet _ ⟨_, Op.build _ _, _, _, _, _⟩ _ _ _); refine quiet_build _ _ rfl (deedCs nilS nilS nilS nilS nilS 0 0 0).toArray (by simp only [List.map_toArray, List.map_cons, List.map_nil]; exact deedBuilt0) ?_; simp only [Act.put, List.setIfInBounds_toArray, List.set_cons_succ, List.set_cons_zero]; go_big_quiet_on) | (go_big_quiet_op; first | go_big_quiet_on | (refine ⟨_, fun _ => rfl, ?_⟩; go_big_quiet_on))))
  refine wpQuiet_nil ?_
  refine fl_call (by rfl) rfl (by kernel_rfl) (by simp only [List.map_toArray, List.map_cons, List.map_nil] <;> rfl) (fun w' hC => HS2.out _ _ _ (O2.later (Kl.out hC)) (DeedOwn.nil _ 0).is) ?_
  simp only [Act.put, List.setIfInBounds_toArray, List.set_cons_succ, List.set_cons_zero]
  refine plan_stop ?_
  simp only [pickOps, opAt, List.getElem?_cons_succ, List.getElem?_cons_zero, List.nil_append, List.cons_append]
  repeat (first | go_big_quiet_skip | (go_big_quiet_want; first | ((with_reducible show Oper.quiet _ ⟨_, Op.load _ _, _, _, _, _⟩ _ _ _); first | fail) | ((with_reducible show Oper.quiet _ ⟨_, Op.build _ _, _, _, _, _⟩ _ _ _); refine quiet_build _ _ rfl (deedCs nilS nilS nilS nilS nilS 0 0 0).toArray (by simp only [List.map_toArray, List.map_cons, List.map_nil]; exact deedBuilt0) ?_; simp only [Act.put, List.setIfInBounds_toArray, List.set_cons_succ, List.set_cons_zero]; go_big_quiet_on) | (go_big_quiet_op; first | go_big_quiet_on | (refine ⟨_, fun _ => rfl, ?_⟩; go_big_quiet_on))))
  refine wpQuiet_nil ?_
  intro _ hb k
  replace b := later b k
  go_wp2_with fail
  go_ret
  exact ⟨rfl, b⟩
end Go.Proofs.Ytbbfnpfkbbpjgaa

/- Laws of layer 13: DeedKnown, the plain parts. -/
namespace Go.Proofs.Ytbbfnpfkbbpjgaa
open Go.RowKit Go.Lib
set_option linter.unusedVariables false
set_option linter.unusedSimpArgs false

def twiceD : Deed := ⟨[in0, in0], [], 0, 0, 0, [], [], []⟩
def lateD : Deed := ⟨[in0], [], 0, 2, 1, [], [], []⟩
def noneD : Deed := ⟨[in0], [out0], 0, 0, 0, [], [], []⟩
theorem twiceD_ok : twiceD.Ok := ⟨by intro x hx; simp [twiceD] at hx; subst hx; exact in0_ok, by simp [twiceD], by decide, by decide, by decide, by simp [twiceD], by simp [twiceD], by simp [twiceD]⟩
theorem lateD_ok : lateD.Ok := ⟨by intro x hx; simp [lateD] at hx; subst hx; exact in0_ok, by simp [lateD], by decide, by decide, by decide, by simp [lateD], by simp [lateD], by simp [lateD]⟩
theorem noneD_ok : noneD.Ok := ⟨by intro x hx; simp [noneD] at hx; subst hx; exact in0_ok, by intro x hx; simp [noneD] at hx; subst hx; exact out0_ok, by decide, by decide, by decide, by simp [noneD], by simp [noneD], by simp [noneD]⟩
theorem twiceD_may : mayD twiceD = false := by decide +kernel
theorem lateD_may : mayD lateD = false := by decide +kernel
theorem noneD_may : mayD noneD = false := by decide +kernel
theorem deed0_may : mayD deed0 = false := by decide +kernel
theorem take_none : (takeD []).2 = 6 := by decide +kernel
theorem take_none' : (takeD []).1 = deed0 := by rw [takeD_no (by rw [take_none]; decide)]
def in258 : InT := ⟨zero32, 258⟩
theorem in258_ok : in258.Ok := ⟨rfl, by decide⟩
theorem spot258 : (⟨(spotL in258).toArray⟩ : ByteArray) = ⟨(List.replicate 38 0).toArray⟩ ++ ⟨#[1, 2]⟩ := by
  apply ByteArray.ext; decide +kernel
theorem outBuilt0 : Try.prog.built 48 [] = some (outCs out0).toArray := by kernel_rfl
theorem inBuilt258 : Try.prog.built 60 [(1, .int .u64 258)] = some (inCs in258).toArray := by kernel_rfl
theorem deedBuilt2 (a : Option Addr) (n c : Nat) (a2 : Option Addr) (n2 c2 : Nat) : Try.prog.built 55 [(0, .slice a n c), (1, .slice a2 n2 c2)] = some (deedCs (.slice a n c) (.slice a2 n2 c2) nilS nilS nilS 0 0 0).toArray := by kernel_rfl
theorem deedBuilt3 (a : Option Addr) (n c : Nat) : Try.prog.built 55 [(0, .slice a n c), (3, .int .u64 2), (4, .int .u64 1)] = some (deedCs (.slice a n c) nilS nilS nilS nilS 0 2 1).toArray := by kernel_rfl
theorem deedElem : ElemOf Try.prog 67 55 8 144 := elOf Try.underlying67 (by decide) (by kernel_rfl)
section
variable {P : Program} {ops : Array Oper} {rest : List Oper} {o : Oper} {a : Act} {w : World} {Q : Exit → Act → World → Prop}
theorem wpl_lit (hw : Region.wanted o (yielded ops a.tmps) = true) {t e sz by' : Nat} (E : ElemOf P t e sz by') (n : Nat) (parts : Array (Nat × Operand)) (ho : o.op = .buildSlice t n parts) (els : List (List Value)) (hn : els.length = n)
    (hp : (parts.map fun (i, x) => (i, a.eval x)).toList = (els.map fun x => Value.agg x.toArray).zipIdx.map fun x => (x.2, x.1)) (hl : ∀ x ∈ els, x.length = sz) (h0 : 0 < n * sz) (h1 : n * sz ≤ 16777216)
    (hk : ∀ w2 g, Sl w2 (.slice (some ⟨g, 0, none⟩) n n) sz els → Below w.heap.size w w2 → wpList P ops Q rest (a.put o.dst (.slice (some ⟨g, 0, none⟩) n n)) w2) : wpList P ops Q (o :: rest) a w := by
  obtain ⟨ht, pos, i, z, hi, hz, hs, hby, hzs⟩ := E
  exact wpl_dense hw t e sz n parts ho els hn hp i ht hi hs z hz hl h0 h1 (fun w2 h hb _ => hk w2 _ h hb)
theorem wpl_lit2 (hw : Region.wanted o (yielded ops a.tmps) = true) {t e sz by' : Nat} (E : ElemOf P t e sz by') (hz : sz ≤ 1000) (x0 x1 : Operand) (ho : o.op = .buildSlice t 2 #[(0, x0), (1, x1)]) {e0 e1 : List Value} (y0 : a.eval x0 = .agg e0.toArray) (y1 : a.eval x1 = .agg e1.toArray) (l0 : e0.length = sz) (l1 : e1.length = sz)
    (hk : ∀ w2 g, Sl w2 (.slice (some ⟨g, 0, none⟩) 2 2) sz [e0, e1] → Below w.heap.size w w2 → wpList P ops Q rest (a.put o.dst (.slice (some ⟨g, 0, none⟩) 2 2)) w2) : wpList P ops Q (o :: rest) a w :=
  wpl_lit hw E 2 _ ho [e0, e1] rfl (by simp [y0, y1]) (fun x hx => by simp at hx; rcases hx with rfl | rfl <;> assumption) (by have := E.pos; omega) (by omega) hk
theorem wpl_lit4 (hw : Region.wanted o (yielded ops a.tmps) = true) {t e sz by' : Nat} (E : ElemOf P t e sz by') (hz : sz ≤ 1000) (x0 x1 x2 x3 : Operand) (ho : o.op = .buildSlice t 4 #[(0, x0), (1, x1), (2, x2), (3, x3)]) {e0 e1 e2 e3 : List Value} (y0 : a.eval x0 = .agg e0.toArray) (y1 : a.eval x1 = .agg e1.toArray) (y2 : a.eval x2 = .agg e2.toArray) (y3 : a.eval x3 = .agg e3.toArray) (l0 : e0.length = sz) (l1 : e1.length = sz) (l2 : e2.length = sz) (l3 : e3.length = sz)
    (hk : ∀ w2 g, Sl w2 (.slice (some ⟨g, 0, none⟩) 4 4) sz [e0, e1, e2, e3] → Below w.heap.size w w2 → wpList P ops Q rest (a.put o.dst (.slice (some ⟨g, 0, none⟩) 4 4)) w2) : wpList P ops Q (o :: rest) a w :=
  wpl_lit hw E 4 _ ho [e0, e1, e2, e3] rfl (by simp [y0, y1, y2, y3]) (fun x hx => by simp at hx; rcases hx with rfl | rfl | rfl | rfl <;> assumption) (by have := E.pos; omega) (by omega) hk
end
/-- A deed that may not be, in a slice. -/
def BadAt (w : World) (g k : Nat) : Prop := ∃ v1 v2 v3 v4 v5 f s t d, v1.oneCell' = true ∧ v2.oneCell' = true ∧ v3.oneCell' = true ∧ v4.oneCell' = true ∧ v5.oneCell' = true ∧ Cells w g k (deedCs v1 v2 v3 v4 v5 f s t) ∧ DeedIs w (deedV v1 v2 v3 v4 v5 f s t) d ∧ d.Fit ∧ mayD d = false
theorem BadAt.later {w w' : World} {g k : Nat} (h : BadAt w g k) (hb : Below w.heap.size w w') : BadAt w' g k := by
  obtain ⟨v1, v2, v3, v4, v5, f, s, t, d, o1, o2, o3, o4, o5, hc, hd, hf, hm⟩ := h
  exact ⟨v1, v2, v3, v4, v5, f, s, t, d, o1, o2, o3, o4, o5, hc.later hb, hd.later hb, hf, hm⟩
theorem fitS {d : Deed} (h : d.ins.length ≤ 8 ∧ d.outs.length ≤ 8 ∧ d.certs.length ≤ 8 ∧ d.pays.length ≤ 8 ∧ d.wits.length ≤ 8) : d.Fit := ⟨by omega, by omega, by omega, by omega, by omega⟩
def BadsAt (w : World) (g : Nat) : Prop := ∀ k, k < 4 → BadAt w g (k * 8)
theorem BadsAt.later {w w' : World} {g : Nat} (h : BadsAt w g) (hb : Below w.heap.size w w') : BadsAt w' g := fun k hk => (h k hk).later hb
theorem bads {w : World} {g4 g5 g6 g7 g8 : Nat} (G1 : Sl w (.slice (some ⟨g4, 0, none⟩) 2 2) 33 [inCs in0, inCs in0]) (G2 : Sl w (.slice (some ⟨g5, 0, none⟩) 1 1) 33 [inCs in0]) (G3 : Sl w (.slice (some ⟨g6, 0, none⟩) 1 1) 33 [inCs in0]) (F4 : Sl w (.slice (some ⟨g7, 0, none⟩) 1 1) 65 [outCs out0])
    (F6 : Sl w (.slice (some ⟨g8, 0, none⟩) 4 4) 8 [deedCs nilS nilS nilS nilS nilS 0 0 0, deedCs (.slice (some ⟨g4, 0, none⟩) 2 2) nilS nilS nilS nilS 0 0 0, deedCs (.slice (some ⟨g5, 0, none⟩) 1 1) nilS nilS nilS nilS 0 2 1, deedCs (.slice (some ⟨g6, 0, none⟩) 1 1) (.slice (some ⟨g7, 0, none⟩) 1 1) nilS nilS nilS 0 0 0]) : BadsAt w g8 := by
  obtain ⟨b, k0, c, he, _, hc⟩ := Sl.block (f := id) (l := [deedCs nilS nilS nilS nilS nilS 0 0 0, deedCs (.slice (some ⟨g4, 0, none⟩) 2 2) nilS nilS nilS nilS 0 0 0, deedCs (.slice (some ⟨g5, 0, none⟩) 1 1) nilS nilS nilS nilS 0 2 1, deedCs (.slice (some ⟨g6, 0, none⟩) 1 1) (.slice (some ⟨g7, 0, none⟩) 1 1) nilS nilS nilS 0 0 0]) (by simpa using F6) (by simp)
  simp only [Value.slice.injEq, Option.some.injEq, Addr.mk.injEq] at he
  obtain ⟨⟨rfl, rfl, -⟩, -, -⟩ := he
  have c0 := hc 0 _ rfl
  have c1 := hc 1 _ rfl
  have c2 := hc 2 _ rfl
  have c3 := hc 3 _ rfl
  have n1 := Sl.nil w 33
  have n2 := Sl.nil w 65
  have n3 := Sl.nil w 68
  intro k hk
  have h4 : k = 0 ∨ k = 1 ∨ k = 2 ∨ k = 3 := by omega
  rcases h4 with rfl | rfl | rfl | rfl
  · exact ⟨_, _, _, _, _, _, _, _, deed0, rfl, rfl, rfl, rfl, rfl, c0, (DeedOwn.nil w 0).is, fitS (by decide), deed0_may⟩
  · exact ⟨_, _, _, _, _, _, _, _, twiceD, rfl, rfl, rfl, rfl, rfl, c1, ⟨_, _, _, _, _, rfl, G1, n2, n3, n1, n1, twiceD_ok⟩, fitS (by decide), twiceD_may⟩
  · exact ⟨_, _, _, _, _, _, _, _, lateD, rfl, rfl, rfl, rfl, rfl, c2, ⟨_, _, _, _, _, rfl, G2, n2, n3, n1, n1, lateD_ok⟩, fitS (by decide), lateD_may⟩
  · exact ⟨_, _, _, _, _, _, _, _, noneD, rfl, rfl, rfl, rfl, rfl, c3, ⟨_, _, _, _, _, rfl, G3, F4, n3, n1, n1, noneD_ok⟩, fitS (by decide), noneD_may⟩
end Go.Proofs.Ytbbfnpfkbbpjgaa
