/- Package origin: Put, Id. -/
import Derived.Test.YtbbfnpfkbbpjgaaOBOrigG
import Derived.Test.YtbbfnpfkbbpjgaaOBOrigD
namespace Go.Proofs.Ytbbfnpfkbbpjgaa
open Go.RowKit Go.Lib
set_option linter.unusedVariables false
set_option linter.unusedSimpArgs false

theorem OAt.below {w w' : World} {g B : Nat} {ns : List Nat} {nc : List UInt8} {v1 v2 v3 : Value} (h : OAt w g ns nc v1 v2 v3) (hb : Below B w w') (hB : g < B) : OAt w' g ns nc v1 v2 v3 := ⟨h.len, h.nl, h.o1, h.o2, h.o3, Arr.below h.arr hb hB⟩
theorem OAt.parSl {w : World} {g : Nat} {ns : List Nat} {nc : List UInt8} {v1 v2 v3 : Value} (h : OAt w g ns nc v1 v2 v3) {A B L : List Nat} (hn : ns = A ++ (L ++ B)) (hA : A.length = 5) (hL : L.length = 8) : Sl w (.slice (some ⟨g, 5, none⟩) 8 8) 1 (numsC L) := by
  have hc := h.pars hn hA
  refine ⟨some ⟨g, 5, none⟩, 8, by rw [numsC_length, hL], by rw [numsC_length, hL]; exact Nat.le_refl _, by decide, fun e he => ?_, fun h => (by cases h), fun _ => ⟨g, 5, rfl, h.lt, fun i e he => ?_⟩⟩
  · obtain ⟨n, _, rfl⟩ := List.mem_map.1 he
    rfl
  · unfold numsC at he
    rw [List.getElem?_map, Option.map_eq_some_iff] at he
    obtain ⟨n, hn', rfl⟩ := he
    intro j u hu
    have hj : j = 0 := by have := (List.getElem?_eq_some_iff.1 hu).1; simp [numC] at this; omega
    subst hj
    have := hc i (.int .u64 (n : Int)) (by unfold numCs; rw [List.getElem?_map, hn']; rfl)
    simp only [numC, List.getElem?_cons_zero, Option.some.injEq] at hu
    subst hu
    simpa using this
set_option maxRecDepth 100000 in
set_option maxHeartbeats 6400000 in
theorem oPut_yes (v : Value) (o : Orig) (w : World) (h : OrigIs w v o) (hm : mayOr o = true) :
    Calls Try.prog 21 #[v] w fun e w' => e = .returned (.tuple #[.string ⟨(origL o).toArray⟩, .int .i64 0]) ∧ Below w.heap.size w w' := by
  have hf := mayOr_few h.ok hm
  have HM := hide (fun (w' : World) (hb : Below w.heap.size w w') => oMay_any v o w' (h.later hb) hf.fit)
  rw [if_pos hm] at HM
  have HAT := origNs_at h.ok
  have hl15 := origNs_length h.ok
  have HUU := origNs_u64 h.ok
  obtain ⟨v1, v2, v3, rfl, h1, h2, h3, ok⟩ := h
  have o1 := h1.one'
  have o2 := h2.one'
  have o3 := h3.one'
  have hnl := ok.nonce
  have h0 := hide HAT.1
  have h1' := hide HAT.2.1
  have h2' := hide HAT.2.2.1
  have h3' := hide HAT.2.2.2.1
  have h4' := hide HAT.2.2.2.2.1
  have h13 := hide HAT.2.2.2.2.2.1
  have h14 := hide HAT.2.2.2.2.2.2
  have HP8 := hide ok.plen
  have HNS : Hid (origNs o = [o.k, o.epoch, o.period, o.rateA, o.rateB] ++ (o.params ++ [o.reserves, o.treasury])) := rfl
  have HN1 := hide (fun v w (hsl : Sl w v 1 (numsC [o.k, o.epoch, o.period, o.rateA, o.rateB])) => numbers_any v _ w hsl (fun x hx => HUU x (by rw [HNS.out]; exact List.mem_append_left _ hx)) (show 5 ≤ 15 by decide))
  have HN2 := hide (fun v w (hsl : Sl w v 1 (numsC o.params)) => numbers_any v _ w hsl ok.params (by rw [ok.plen]; decide))
  have HN3 := hide (fun v w (hsl : Sl w v 1 (numsC [o.reserves, o.treasury])) => numbers_any v _ w hsl (fun x hx => HUU x (by rw [HNS.out]; exact List.mem_append_right _ (List.mem_append_right _ hx))) (show 2 ≤ 15 by decide))
  have HN4 := hide (fun w => bytes_any o.nonce w ok.nonce)
  have HQ1 := hide (fun (g : Nat) (X : List UInt8) (w' : World) (F2 : Bld w' g X) (hX : X.length ≤ 100000) (hgw : w.heap.size ≤ g) (hb : Below w.heap.size w w') => oput_out g X v1 o.coins w' F2 (fun w2 hb2 => h1.later (below_more hb hb2 hgw)) ok.coins hf.coins hX)
  have HQ2 := hide (fun (g : Nat) (X : List UInt8) (w' : World) (F2 : Bld w' g X) (hX : X.length ≤ 100000) (hgw : w.heap.size ≤ g) (hb : Below w.heap.size w w') => oput_seat g X v2 o.seats w' F2 (fun w2 hb2 => h2.later (below_more hb hb2 hgw)) ok.seats (Nat.le_trans hf.seats (by decide)) hX)
  have HQ3 := hide (fun (g : Nat) (X : List UInt8) (w' : World) (F2 : Bld w' g X) (hX : X.length ≤ 100000) (hgw : w.heap.size ≤ g) (hb : Below w.heap.size w w') => oput_trust g X v3 o.trusts w' F2 (fun w2 hb2 => h3.later (below_more hb hb2 hgw)) ok.trusts hf.trusts hX)
  have hsz := origL_small hf
  obtain ⟨X1, hX1⟩ : ∃ X, X = [o.k, o.epoch, o.period, o.rateA, o.rateB].flatMap putL ++ o.params.flatMap putL ++ [o.reserves, o.treasury].flatMap putL ++ o.nonce := ⟨_, rfl⟩
  have hE : origL o = X1 ++ (listL outtL o.coins ++ (listL seatL o.seats ++ listL trustL o.trusts)) := by
    rw [hX1]
    unfold origL
    simp only [List.flatMap_cons, List.flatMap_nil, List.append_nil, List.append_assoc]
  rw [hE] at hsz ⊢
  simp only [List.length_append] at hsz
  obtain ⟨y1, hy1⟩ : ∃ u : ByteArray, u = ⟨([o.k, o.epoch, o.period, o.rateA, o.rateB].flatMap putL).toArray⟩ := ⟨_, rfl⟩
  obtain ⟨y2, hy2⟩ : ∃ u : ByteArray, u = ⟨(o.params.flatMap putL).toArray⟩ := ⟨_, rfl⟩
  obtain ⟨y3, hy3⟩ : ∃ u : ByteArray, u = ⟨([o.reserves, o.treasury].flatMap putL).toArray⟩ := ⟨_, rfl⟩
  obtain ⟨y4, hy4⟩ : ∃ u : ByteArray, u = ⟨o.nonce.toArray⟩ := ⟨_, rfl⟩
  have hSN : y1 ++ y2 ++ y3 ++ y4 = ⟨X1.toArray⟩ := by
    rw [hy1, hy2, hy3, hy4, hX1]
    simp only [cat_bytes]
  have hsum : (y1 ++ y2 ++ y3 ++ y4).size = X1.length := by rw [hSN, ba_size]
  simp only [ByteArray.size_append] at hsum
  have z1 : ¬ 9223372036854775807 < y1.size + y2.size := by omega
  have z2 : ¬ 9223372036854775807 < (y1 ++ y2).size + y3.size := by simp only [ByteArray.size_append]; omega
  have z3 : ¬ 9223372036854775807 < (y1 ++ y2 ++ y3).size + y4.size := by simp only [ByteArray.size_append]; omega
  have hss : (y1 ++ y2 ++ y3 ++ y4).size ≤ 20000 := by simp only [ByteArray.size_append]; omega
  have HSN : Hid ((y1 ++ y2 ++ y3 ++ y4).data.toList = X1) := by rw [hSN]; exact hide rfl
  rw [← hy1] at HN1
  rw [← hy2] at HN2
  rw [← hy3] at HN3
  rw [← hy4] at HN4
  clear hE hX1 hy1 hy2 hy3 hy4 hSN hsum ok hf HAT HUU hm h1 h2 h3
  obtain ⟨Z1, hZ1⟩ : ∃ Z, Z = listL outtL o.coins := ⟨_, rfl⟩
  obtain ⟨Z2, hZ2⟩ : ∃ Z, Z = listL seatL o.seats := ⟨_, rfl⟩
  obtain ⟨Z3, hZ3⟩ : ∃ Z, Z = listL trustL o.trusts := ⟨_, rfl⟩
  rw [← hZ1] at HQ1
  rw [← hZ2] at HQ2
  rw [← hZ3] at HQ3
  rw [← hZ1, ← hZ2, ← hZ3]
  rw [← hZ1, ← hZ2, ← hZ3] at hsz
  clear hZ1 hZ2 hZ3
  generalize origNs o = ns at *
  generalize o.nonce = nc at *
  generalize o.params = ps at *
  generalize o.k = k' at *
  generalize o.epoch = e' at *
  generalize o.period = p' at *
  generalize o.rateA = ra at *
  generalize o.rateB = rb at *
  generalize o.reserves = rs at *
  generalize o.treasury = tr at *
  clear o
  obtain ⟨A5, hA5⟩ : ∃ A, A = [k', e', p', ra, rb] := ⟨_, rfl⟩
  obtain ⟨A2, hA2⟩ : ∃ A, A = [rs, tr] := ⟨_, rfl⟩
  have HP0 : Hid ([(0, Value.int .u64 (k' : Int)), (1, .int .u64 (e' : Int)), (2, .int .u64 (p' : Int)), (3, .int .u64 (ra : Int)), (4, .int .u64 (rb : Int))] = (numCs A5).zipIdx.map fun x => (x.2, x.1)) := by rw [hA5]; exact hide rfl
  have HP2 : Hid ([(0, Value.int .u64 (rs : Int)), (1, .int .u64 (tr : Int))] = (numCs A2).zipIdx.map fun x => (x.2, x.1)) := by rw [hA2]; exact hide rfl
  have HA5 : Hid (A5.length = 5) := by rw [hA5]; exact hide rfl
  have HA2 : Hid (A2.length = 2) := by rw [hA2]; exact hide rfl
  rw [← hA5, ← hA2] at HNS
  rw [← hA5] at HN1
  rw [← hA2] at HN3
  clear hA5 hA2
  have b := Below.refl w.heap.size w
  have mF1 := True.intro
  have mF2 := True.intro
  go_enter Try.func21, Try.ntmps21
  go_wp2_with (first | (with_reducible show wpList _ _ _ (⟨_, Op.box _ _, _, _, _, _⟩ :: _) _ _; clear mF1; refine wpl_box_orig rfl _ rfl rfl hl15 hnl o1 o2 o3 ?_; intro _ g1 hg1 F1 hb; (try replace F1 := F1.later hb); (try replace F2 := F2.later hb); (try replace F3 := F3.later hb); (try replace F4 := F4.later hb); (try replace F5 := F5.later hb); (try replace F6 := F6.later hb); (try replace F7 := F7.later hb); (try replace F8 := F8.later hb); (try replace F9 := F9.later hb); (try replace G1 := G1.later hb); (try replace G2 := G2.later hb); (try replace G3 := G3.later hb); (try replace z := z.later hb); (try replace b := later b hb); (try replace bB := mixed hB bB hb); clear hb) | (with_reducible show wpList _ _ _ (⟨_, Op.alloc _, _, _, _, _⟩ :: _) _ _; clear mF2; have q1 := F1.lt; refine wpl_mk_bld rfl rfl ?_; intro _ g hg F2 hb; have hgw : w.heap.size ≤ g := Nat.le_trans b.size hg; have hg1g : g1 < g := Nat.lt_of_lt_of_le q1 hg; replace F1 := F1.later hb; replace b := later b hb; clear hb) | (with_reducible show wpList _ _ _ (⟨_, Op.load 32 _, _, _, _, _⟩ :: _) _ _; refine wpl_ld_orig rfl _ rfl rfl F1 ?_) | (go_at_call 25; refine (HM.out _ b).mono ?_; rintro _ _ ⟨rfl, hc⟩; (try replace F1 := F1.later hc); (try replace F2 := F2.later hc); (try replace F3 := F3.later hc); (try replace F4 := F4.later hc); (try replace F5 := F5.later hc); (try replace F6 := F6.later hc); (try replace F7 := F7.later hc); (try replace F8 := F8.later hc); (try replace F9 := F9.later hc); (try replace G1 := G1.later hc); (try replace G2 := G2.later hc); (try replace G3 := G3.later hc); (try replace z := z.later hc); (try replace b := later b hc); (try replace bB := mixed hB bB hc); clear hc) | (with_reducible show Code.wp _ (Code.region _ _ true) _ _ _; (try simp only [Act.put, List.setIfInBounds_toArray, List.set_cons_succ, List.set_cons_zero]); fail))
  (try simp only [Act.put, List.setIfInBounds_toArray, List.set_cons_succ, List.set_cons_zero])
  refine region_plan (fun x => Below _ _ x) (.two [0, 1, 2, 3, 4, 5, 6, 7, 8, 9, 12, 13, 16, 17, 18, 19, 23, 24] 10 (.fl [] 11 (.fl [] 14 (.one [15] 20 (.fl [] 21 (.fl [22] 25 (.bar [26] 27 (.stop []))))))) 20 (.one [] 10 (.fl [] 11 (.fl [] 14 (.fl [15] 21 (.fl [22] 25 (.bar [26] 27 (.stop [])))))))) (by kernel_rfl) (by kernel_rfl) (by kernel_rfl) (by decide) (lasts_below (Nat.le_refl _)) (Below.refl _ _) ?_
  intro _ _ _ _
  refine plan_two ?_
  simp only [pickOps, opAt, List.getElem?_cons_succ, List.getElem?_cons_zero, List.nil_append, List.cons_append]
  repeat (first | go_big_quiet_skip | (go_big_quiet_want; first | ((with_reducible show Oper.quiet _ ⟨_, Op.load _ _, _, _, _, _⟩ _ _ _); first | (first | (refine plan_load_one 23 _ rfl rfl (OAt.num F1 h0.out) (by kernel_rfl) ?_; simp only [Act.put, List.setIfInBounds_toArray, List.set_cons_succ, List.set_cons_zero]; go_big_quiet_on) | (refine plan_load_one 23 _ rfl rfl (OAt.num F1 h1'.out) (by kernel_rfl) ?_; simp only [Act.put, List.setIfInBounds_toArray, List.set_cons_succ, List.set_cons_zero]; go_big_quiet_on) | (refine plan_load_one 23 _ rfl rfl (OAt.num F1 h2'.out) (by kernel_rfl) ?_; simp only [Act.put, List.setIfInBounds_toArray, List.set_cons_succ, List.set_cons_zero]; go_big_quiet_on) | (refine plan_load_one 23 _ rfl rfl (OAt.num F1 h3'.out) (by kernel_rfl) ?_; simp only [Act.put, List.setIfInBounds_toArray, List.set_cons_succ, List.set_cons_zero]; go_big_quiet_on) | (refine plan_load_one 23 _ rfl rfl (OAt.num F1 h4'.out) (by kernel_rfl) ?_; simp only [Act.put, List.setIfInBounds_toArray, List.set_cons_succ, List.set_cons_zero]; go_big_quiet_on) | (refine plan_load_one 23 _ rfl rfl (OAt.num F1 h13.out) (by kernel_rfl) ?_; simp only [Act.put, List.setIfInBounds_toArray, List.set_cons_succ, List.set_cons_zero]; go_big_quiet_on) | (refine plan_load_one 23 _ rfl rfl (OAt.num F1 h14.out) (by kernel_rfl) ?_; simp only [Act.put, List.setIfInBounds_toArray, List.set_cons_succ, List.set_cons_zero]; go_big_quiet_on) | (refine plan_load_elem _ rfl rfl (OAt.nonce F1) hnl ?_; simp only [Act.put, List.setIfInBounds_toArray, List.set_cons_succ, List.set_cons_zero]; go_big_quiet_on))) | (go_big_quiet_op; first | go_big_quiet_on | (refine ⟨_, fun _ => rfl, ?_⟩; go_big_quiet_on))))
  refine wpQuiet_nil ?_
  intro _ _ k
  replace b := later b k
  replace F1 := F1.later k
  replace F2 := F2.later k
  refine And.intro ?A ?B
  case' A =>
    refine wpl_numsR rfl 5 _ rfl A5 HA5.out (by simp only [List.map_toArray, List.map_cons, List.map_nil]; exact HP0.out) (by decide) (by decide) ?_
    intro _ g9 B hBB hg9 O1 hb
    replace b := later b hb
    replace F1 := F1.later hb
    replace F2 := F2.later hb
    (try replace S5 := S5.later hb)
    (try replace S2 := S2.later hb)
    have S5 := O1.sl
    replace k := later k hb
    clear hb O1 hBB hg9
    refine goQ_since (lasts_below (Nat.le_refl _)) k ?_
    clear k
    (try simp only [Act.put, List.setIfInBounds_toArray, List.set_cons_succ, List.set_cons_zero])
    refine plan_fl ?_
    simp only [pickOps, opAt, List.getElem?_cons_succ, List.getElem?_cons_zero, List.nil_append, List.cons_append]
    repeat (first | go_big_quiet_skip | (go_big_quiet_want; first | ((with_reducible show Oper.quiet _ ⟨_, Op.load _ _, _, _, _, _⟩ _ _ _); first | fail) | (go_big_quiet_op; first | go_big_quiet_on | (refine ⟨_, fun _ => rfl, ?_⟩; go_big_quiet_on))))
    refine wpQuiet_nil ?_
    refine fl_call (by rfl) rfl (by kernel_rfl) (by simp only [List.map_toArray, List.map_cons, List.map_nil] <;> rfl) (fun w' hC => HN1.out _ w' (S5.later (Kl.out hC))) ?_
    simp only [Act.put, List.setIfInBounds_toArray, List.set_cons_succ, List.set_cons_zero]
    refine plan_fl ?_
    simp only [pickOps, opAt, List.getElem?_cons_succ, List.getElem?_cons_zero, List.nil_append, List.cons_append]
    repeat (first | go_big_quiet_skip | (go_big_quiet_want; first | ((with_reducible show Oper.quiet _ ⟨_, Op.load _ _, _, _, _, _⟩ _ _ _); first | fail) | (go_big_quiet_op; first | go_big_quiet_on | (refine ⟨_, fun _ => rfl, ?_⟩; go_big_quiet_on))))
    refine wpQuiet_nil ?_
    refine fl_call (by rfl) rfl (by kernel_rfl) (by simp only [List.map_toArray, List.map_cons, List.map_nil] <;> rfl) (fun w' hC => HN2.out _ w' ((OAt.parSl F1 HNS.out HA5.out HP8.out).later (Kl.out hC))) ?_
    simp only [Act.put, List.setIfInBounds_toArray, List.set_cons_succ, List.set_cons_zero]
    refine plan_one ?_
    simp only [pickOps, opAt, List.getElem?_cons_succ, List.getElem?_cons_zero, List.nil_append, List.cons_append]
    repeat (first | go_big_quiet_skip | (go_big_quiet_want; first | ((with_reducible show Oper.quiet _ ⟨_, Op.load _ _, _, _, _, _⟩ _ _ _); first | fail) | (go_big_quiet_op; first | go_big_quiet_on | (refine ⟨_, fun _ => rfl, ?_⟩; go_big_quiet_on))))
    refine wpQuiet_nil ?_
    intro _ hb k
    replace b := later b k
    replace F1 := F1.later k
    replace F2 := F2.later k
    (try replace S5 := S5.later k)
    (try replace S2 := S2.later k)
    clear hb
    refine wpl_numsR rfl 2 _ rfl A2 HA2.out (by simp only [List.map_toArray, List.map_cons, List.map_nil]; exact HP2.out) (by decide) (by decide) ?_
    intro _ g9 B hBB hg9 O1 hb
    replace b := later b hb
    replace F1 := F1.later hb
    replace F2 := F2.later hb
    (try replace S5 := S5.later hb)
    (try replace S2 := S2.later hb)
    have S2 := O1.sl
    replace k := later k hb
    clear hb O1 hBB hg9
    refine goQ_since (lasts_below (Nat.le_refl _)) k ?_
    clear k
    (try simp only [Act.put, List.setIfInBounds_toArray, List.set_cons_succ, List.set_cons_zero])
    refine plan_fl ?_
    simp only [pickOps, opAt, List.getElem?_cons_succ, List.getElem?_cons_zero, List.nil_append, List.cons_append]
    repeat (first | go_big_quiet_skip | (go_big_quiet_want; first | ((with_reducible show Oper.quiet _ ⟨_, Op.load _ _, _, _, _, _⟩ _ _ _); first | fail) | (go_big_quiet_op; first | go_big_quiet_on | (refine ⟨_, fun _ => rfl, ?_⟩; go_big_quiet_on))))
    refine wpQuiet_nil ?_
    refine fl_call (by rfl) rfl (by kernel_rfl) (by simp only [List.map_toArray, List.map_cons, List.map_nil] <;> rfl) (fun w' hC => HN3.out _ w' (S2.later (Kl.out hC))) ?_
    simp only [Act.put, List.setIfInBounds_toArray, List.set_cons_succ, List.set_cons_zero]
  case' B =>
    refine wpl_numsR rfl 2 _ rfl A2 HA2.out (by simp only [List.map_toArray, List.map_cons, List.map_nil]; exact HP2.out) (by decide) (by decide) ?_
    intro _ g9 B hBB hg9 O1 hb
    replace b := later b hb
    replace F1 := F1.later hb
    replace F2 := F2.later hb
    (try replace S5 := S5.later hb)
    (try replace S2 := S2.later hb)
    have S2 := O1.sl
    replace k := later k hb
    clear hb O1 hBB hg9
    refine goQ_since (lasts_below (Nat.le_refl _)) k ?_
    clear k
    (try simp only [Act.put, List.setIfInBounds_toArray, List.set_cons_succ, List.set_cons_zero])
    refine plan_one ?_
    simp only [pickOps, opAt, List.getElem?_cons_succ, List.getElem?_cons_zero, List.nil_append, List.cons_append]
    repeat (first | go_big_quiet_skip | (go_big_quiet_want; first | ((with_reducible show Oper.quiet _ ⟨_, Op.load _ _, _, _, _, _⟩ _ _ _); first | fail) | (go_big_quiet_op; first | go_big_quiet_on | (refine ⟨_, fun _ => rfl, ?_⟩; go_big_quiet_on))))
    refine wpQuiet_nil ?_
    intro _ hb k
    replace b := later b k
    replace F1 := F1.later k
    replace F2 := F2.later k
    (try replace S5 := S5.later k)
    (try replace S2 := S2.later k)
    clear hb
    refine wpl_numsR rfl 5 _ rfl A5 HA5.out (by simp only [List.map_toArray, List.map_cons, List.map_nil]; exact HP0.out) (by decide) (by decide) ?_
    intro _ g9 B hBB hg9 O1 hb
    replace b := later b hb
    replace F1 := F1.later hb
    replace F2 := F2.later hb
    (try replace S5 := S5.later hb)
    (try replace S2 := S2.later hb)
    have S5 := O1.sl
    replace k := later k hb
    clear hb O1 hBB hg9
    refine goQ_since (lasts_below (Nat.le_refl _)) k ?_
    clear k
    (try simp only [Act.put, List.setIfInBounds_toArray, List.set_cons_succ, List.set_cons_zero])
    refine plan_fl ?_
    simp only [pickOps, opAt, List.getElem?_cons_succ, List.getElem?_cons_zero, List.nil_append, List.cons_append]
    repeat (first | go_big_quiet_skip | (go_big_quiet_want; first | ((with_reducible show Oper.quiet _ ⟨_, Op.load _ _, _, _, _, _⟩ _ _ _); first | fail) | (go_big_quiet_op; first | go_big_quiet_on | (refine ⟨_, fun _ => rfl, ?_⟩; go_big_quiet_on))))
    refine wpQuiet_nil ?_
    refine fl_call (by rfl) rfl (by kernel_rfl) (by simp only [List.map_toArray, List.map_cons, List.map_nil] <;> rfl) (fun w' hC => HN1.out _ w' (S5.later (Kl.out hC))) ?_
    simp only [Act.put, List.setIfInBounds_toArray, List.set_cons_succ, List.set_cons_zero]
    refine plan_fl ?_
    simp only [pickOps, opAt, List.getElem?_cons_succ, List.getElem?_cons_zero, List.nil_append, List.cons_append]
    repeat (first | go_big_quiet_skip | (go_big_quiet_want; first | ((with_reducible show Oper.quiet _ ⟨_, Op.load _ _, _, _, _, _⟩ _ _ _); first | fail) | (go_big_quiet_op; first | go_big_quiet_on | (refine ⟨_, fun _ => rfl, ?_⟩; go_big_quiet_on))))
    refine wpQuiet_nil ?_
    refine fl_call (by rfl) rfl (by kernel_rfl) (by simp only [List.map_toArray, List.map_cons, List.map_nil] <;> rfl) (fun w' hC => HN2.out _ w' ((OAt.parSl F1 HNS.out HA5.out HP8.out).later (Kl.out hC))) ?_
    simp only [Act.put, List.setIfInBounds_toArray, List.set_cons_succ, List.set_cons_zero]
    refine plan_fl ?_
    simp only [pickOps, opAt, List.getElem?_cons_succ, List.getElem?_cons_zero, List.nil_append, List.cons_append]
    repeat (first | go_big_quiet_skip | (go_big_quiet_want; first | ((with_reducible show Oper.quiet _ ⟨_, Op.load _ _, _, _, _, _⟩ _ _ _); first | fail) | (go_big_quiet_op; first | go_big_quiet_on | (refine ⟨_, fun _ => rfl, ?_⟩; go_big_quiet_on))))
    refine wpQuiet_nil ?_
    refine fl_call (by rfl) rfl (by kernel_rfl) (by simp only [List.map_toArray, List.map_cons, List.map_nil] <;> rfl) (fun w' hC => HN3.out _ w' (S2.later (Kl.out hC))) ?_
    simp only [Act.put, List.setIfInBounds_toArray, List.set_cons_succ, List.set_cons_zero]
  all_goals
    refine plan_fl ?_
    simp only [pickOps, opAt, List.getElem?_cons_succ, List.getElem?_cons_zero, List.nil_append, List.cons_append]
    repeat (first | go_big_quiet_skip | (go_big_quiet_want; first | ((with_reducible show Oper.quiet _ ⟨_, Op.load _ _, _, _, _, _⟩ _ _ _); first | fail) | (go_big_quiet_op; first | go_big_quiet_on | (refine ⟨_, fun _ => rfl, ?_⟩; go_big_quiet_on))))
    refine wpQuiet_nil ?_
    refine fl_call (by rfl) rfl (by kernel_rfl) (by simp only [List.map_toArray, List.map_cons, List.map_nil] <;> rfl) (fun w' hC => HN4.out w') ?_
    simp only [Act.put, List.setIfInBounds_toArray, List.set_cons_succ, List.set_cons_zero]
    refine plan_bar ?_
    simp only [pickOps, opAt, List.getElem?_cons_succ, List.getElem?_cons_zero, List.nil_append, List.cons_append]
    repeat (first | go_big_quiet_skip | (go_big_quiet_want; first | ((with_reducible show Oper.quiet _ ⟨_, Op.load _ _, _, _, _, _⟩ _ _ _); first | fail) | (go_big_quiet_op; first | go_big_quiet_on | (refine ⟨_, fun _ => rfl, ?_⟩; go_big_quiet_on))))
    refine wpQuiet_nil ?_
    intro _ hb k
    replace b := later b k
    replace F1 := F1.later k
    replace F2 := F2.later k
    clear hb k S5 S2 HN1 HN2 HN3 HN4
    go_wp2_with (go_at_call 63; refine (bld_writeB _ _ _ _ F2 (by simp only [List.length_nil]; omega)).mono ?_; rintro _ _ ⟨rfl, t1, hc⟩; clear F2; have F2 := t1; replace F1 := F1.below hc hg1g; replace b := below_more b hc hgw; clear t1 hc)
    rw [HSN.out, List.nil_append] at F2
    refine goB_since ?_
    (try simp only [Act.put, List.setIfInBounds_toArray, List.set_cons_succ, List.set_cons_zero])
    refine plan_stop ?_
    simp only [pickOps, opAt, List.getElem?_cons_succ, List.getElem?_cons_zero, List.nil_append, List.cons_append]
    repeat (first | go_big_quiet_skip | (go_big_quiet_want; first | ((with_reducible show Oper.quiet _ ⟨_, Op.load _ _, _, _, _, _⟩ _ _ _); first | fail) | (go_big_quiet_op; first | go_big_quiet_on | (refine ⟨_, fun _ => rfl, ?_⟩; go_big_quiet_on))))
    refine wpQuiet_nil ?_
    intro _ hb k
    replace b := later b hb
    replace F1 := F1.later hb
    replace F2 := F2.later hb
    clear hb k z1 z2 z3
    go_wp2_with (first | (with_reducible show wpList _ _ _ (⟨_, Op.load _ _, _, _, _, _⟩ :: _) _ _; first | refine wpl_load_one rfl 28 _ rfl rfl (OAt.s1 F1) (by kernel_rfl) ?_ | refine wpl_load_one rfl 29 _ rfl rfl (OAt.s2 F1) (by kernel_rfl) ?_ | refine wpl_load_one rfl 30 _ rfl rfl (OAt.s3 F1) (by kernel_rfl) ?_) | (go_at_call 66; refine (HQ1.out g _ _ F2 (by omega) hgw b).mono ?_; rintro _ _ ⟨rfl, t1, hc⟩; clear F2; have F2 := t1; replace F1 := F1.below hc hg1g; replace b := below_more b hc hgw; clear t1 hc) | (go_at_call 69; refine (HQ2.out g _ _ F2 (by simp only [List.length_append]; omega) hgw b).mono ?_; rintro _ _ ⟨rfl, t1, hc⟩; clear F2; have F2 := t1; replace F1 := F1.below hc hg1g; replace b := below_more b hc hgw; clear t1 hc) | (go_at_call 71; refine (HQ3.out g _ _ F2 (by simp only [List.length_append]; omega) hgw b).mono ?_; rintro _ _ ⟨rfl, t1, hc⟩; clear F2; have F2 := t1; replace F1 := F1.below hc hg1g; replace b := below_more b hc hgw; clear t1 hc) | (go_at_call 73; refine (bld_string _ _ _ F2).mono ?_; rintro _ _ ⟨rfl, hc⟩; replace b := below_more b hc hgw; clear hc))
    go_ret2
    exact ⟨rfl, b⟩
set_option maxRecDepth 100000 in
set_option maxHeartbeats 1600000 in
theorem oPut_any (v : Value) (o : Orig) (w : World) (h : OrigIs w v o) (hf : o.Fit) :
    Calls Try.prog 21 #[v] w fun e w' => e = .returned (.tuple #[.string ⟨(if mayOr o = true then origL o else []).toArray⟩, .int .i64 (if mayOr o = true then 0 else 2)]) ∧ Below w.heap.size w w' := by
  by_cases hm : mayOr o = true
  · rw [if_pos hm, if_pos hm]
    exact oPut_yes v o w h hm
  · have HM := hide (fun (w' : World) (hb : Below w.heap.size w w') => oMay_any v o w' (h.later hb) hf)
    rw [if_neg hm] at HM
    rw [if_neg hm, if_neg hm]
    have hl15 := origNs_length h.ok
    obtain ⟨v1, v2, v3, rfl, h1, h2, h3, ok⟩ := h
    have o1 := h1.one'
    have o2 := h2.one'
    have o3 := h3.one'
    have hnl := ok.nonce
    have b := Below.refl w.heap.size w
    clear ok h1 h2 h3 hf hm
    generalize origNs o = ns at *
    generalize o.nonce = nc at *
    have mF1 := True.intro
    go_enter Try.func21, Try.ntmps21
    go_wp2_with (first | (with_reducible show wpList _ _ _ (⟨_, Op.box _ _, _, _, _, _⟩ :: _) _ _; clear mF1; refine wpl_box_orig rfl _ rfl rfl hl15 hnl o1 o2 o3 ?_; intro _ g1 hg1 F1 hb; (try replace F1 := F1.later hb); (try replace F2 := F2.later hb); (try replace F3 := F3.later hb); (try replace F4 := F4.later hb); (try replace F5 := F5.later hb); (try replace F6 := F6.later hb); (try replace F7 := F7.later hb); (try replace F8 := F8.later hb); (try replace F9 := F9.later hb); (try replace G1 := G1.later hb); (try replace G2 := G2.later hb); (try replace G3 := G3.later hb); (try replace z := z.later hb); (try replace b := later b hb); (try replace bB := mixed hB bB hb); clear hb) | (with_reducible show wpList _ _ _ (⟨_, Op.load _ _, _, _, _, _⟩ :: _) _ _; refine wpl_ld_orig rfl _ rfl rfl F1 ?_) | (go_at_call 25; refine (HM.out _ b).mono ?_; rintro _ _ ⟨rfl, hc⟩; (try replace F1 := F1.later hc); (try replace F2 := F2.later hc); (try replace F3 := F3.later hc); (try replace F4 := F4.later hc); (try replace F5 := F5.later hc); (try replace F6 := F6.later hc); (try replace F7 := F7.later hc); (try replace F8 := F8.later hc); (try replace F9 := F9.later hc); (try replace G1 := G1.later hc); (try replace G2 := G2.later hc); (try replace G3 := G3.later hc); (try replace z := z.later hc); (try replace b := later b hc); (try replace bB := mixed hB bB hc); clear hc))
    go_ret2
    exact ⟨rfl, b⟩
end Go.Proofs.Ytbbfnpfkbbpjgaa
