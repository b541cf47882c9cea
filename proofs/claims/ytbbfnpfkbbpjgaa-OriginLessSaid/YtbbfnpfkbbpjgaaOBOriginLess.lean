/- OriginLess: what may be may be with less. -/
import Derived.Test.YtbbfnpfkbbpjgaaOBEvoL
import Derived.Test.YtbbfnpfkbbpjgaaOBRowOriginBack
namespace Go.Proofs.Ytbbfnpfkbbpjgaa
open Go.RowKit Go.Lib
set_option linter.unusedVariables false
set_option linter.unusedSimpArgs false

theorem els_out {l : List OutT} (h : ∀ x ∈ l, x.Ok) : Els 65 (l.map outCs) := fun e he => by
  obtain ⟨x, hx, rfl⟩ := List.mem_map.1 he
  exact ⟨outCs_length (h x hx), outCs_one x⟩
theorem els_trust {l : List TrustT} (h : ∀ x ∈ l, x.Ok) : Els 64 (l.map trustCs) := fun e he => by
  obtain ⟨x, hx, rfl⟩ := List.mem_map.1 he
  exact ⟨trustCs_length (h x hx), trustCs_one x⟩
/-- Where an int stands to a list. -/
theorem int_tri (i : Int) (n : Nat) : (decide (0 ≤ i) = false) ∨ (decide (0 ≤ i) = true ∧ decide (i < (n : Int)) = false) ∨ (∃ I : Nat, i = (I : Int) ∧ I < n) := by
  by_cases h0 : 0 ≤ i
  · by_cases h1 : i < n
    · exact .inr (.inr ⟨i.toNat, by omega, by omega⟩)
    · exact .inr (.inl ⟨decide_eq_true h0, decide_eq_false h1⟩)
  · exact .inl (decide_eq_false h0)
theorem ns_reserves {o : Orig} (ok : o.Ok) (r : Nat) (c : List OutT) (u : List TrustT) : (origNs o).set 13 r = origNs (withO o r c u) := by
  have hp := ok.plen
  obtain ⟨k, e, p, a, b, ps, rs, t, nc, cc, ss, tt⟩ := o
  match ps, hp with
  | [p0, p1, p2, p3, p4, p5, p6, p7], _ => rfl
/-- What a list is cut into around a place. -/
theorem cut_facts {α : Type} {f : α → List Value} {l : List α} {w : World} {b k c sz : Nat} (h : Sl w (.slice (some ⟨b, k, none⟩) l.length c) sz (l.map f)) (he : Els sz (l.map f)) {I : Nat} (hI : I < l.length) :
    ∃ (ad : Option Addr) (A B : List (List Value)) (m : Nat), (ad = if c = I + 1 then some ⟨b, k, none⟩ else some ⟨b, k + (I + 1) * sz, none⟩) ∧ I ≤ c ∧ I + 1 ≤ l.length ∧ (∀ w', Below w.heap.size w w' → Sl w' (.slice (some ⟨b, k, none⟩) I c) sz A) ∧ (∀ w', Below w.heap.size w w' → Sl w' (.slice ad (l.length - (I + 1)) (c - (I + 1))) sz B)
      ∧ Els sz A ∧ Els sz B ∧ ([] : List (List Value)).length + A.length = I ∧ ([] ++ A).length + B.length = m ∧ [] ++ A ++ B = (outAt I l).map f ∧ m ≤ l.length := by
  obtain ⟨_, c', e1, hc, _⟩ := id h
  simp only [Value.slice.injEq] at e1
  obtain ⟨_, _, rfl⟩ := e1
  rw [List.length_map] at hc
  have hA : ((l.map f).take I).length = I := by rw [List.length_take, List.length_map]; omega
  have hB : ((l.map f).drop (I + 1)).length = l.length - (I + 1) := by rw [List.length_drop, List.length_map]
  refine ⟨_, (l.map f).take I, (l.map f).drop (I + 1), l.length - 1, rfl, by omega, hI, fun w' hb => (h.later hb).pre I (by omega), fun w' hb => (h.later hb).suf (I + 1) (by omega) _ rfl, fun e h => he e (List.mem_of_mem_take h), fun e h => he e (List.mem_of_mem_drop h), by rw [hA]; simp, by rw [List.nil_append, hA, hB]; omega, by simp [outAt, List.map_take, List.map_drop], by omega⟩
set_option maxRecDepth 100000 in
set_option maxHeartbeats 3200000 in
/-- Where nothing is asked. -/
theorem less_works (w : World) (v : Value) (o : Orig) (h : OrigIs w v o) (i k n : Int) (h1m : o.coins.length ≤ 4398046511104) (h2m : o.seats.length ≤ 4398046511104) (h3m : o.trusts.length ≤ 4398046511104) (hq : 200 < o.coins.length + o.seats.length + o.trusts.length ∨ mayOr o = false) :
    Calls Try.prog 6 #[v, .int .i64 i, .int .i64 k, .int .u64 n] w fun e w' => e = .returned (.bool true) ∧ Below w.heap.size w w' := by
  have HG := hide (fun (w' : World) (hb : Below w.heap.size w w') => great16_any v o w' (h.later hb) h1m h2m h3m)
  have HW := hide works16
  have hl15 := origNs_length h.ok
  have hII := h
  obtain ⟨v1, v2, v3, rfl, h1, h2, h3, ok⟩ := h
  have o1 := h1.one'
  have o2 := h2.one'
  have o3 := h3.one'
  have hnl := ok.nonce
  have b := Below.refl w.heap.size w
  by_cases hgr : 200 < o.coins.length + o.seats.length + o.trusts.length
  · rw [decide_eq_true hgr] at HG
    clear ok h1 h2 h3 hgr hII hq
    generalize origNs o = ns at *
    generalize o.nonce = nc at *
    have mF1 := True.intro
    go_enter Try.func6, Try.ntmps6
    go_wp2_with (first | (with_reducible show wpList _ _ _ (⟨_, Op.box _ _, _, _, _, _⟩ :: _) _ _; clear mF1; refine wpl_box_orig rfl _ rfl rfl hl15 hnl o1 o2 o3 ?_; intro _ g1 hg1 F1 hb; (try replace F1 := F1.later hb); (try replace F2 := F2.later hb); (try replace F3 := F3.later hb); (try replace F4 := F4.later hb); (try replace F5 := F5.later hb); (try replace F6 := F6.later hb); (try replace F7 := F7.later hb); (try replace F8 := F8.later hb); (try replace F9 := F9.later hb); (try replace G1 := G1.later hb); (try replace G2 := G2.later hb); (try replace G3 := G3.later hb); (try replace z := z.later hb); (try replace b := later b hb); (try replace bB := mixed hB bB hb); clear hb) | (with_reducible show wpList _ _ _ (⟨_, Op.load 32 _, _, _, _, _⟩ :: _) _ _; refine wpl_ld_orig rfl _ rfl rfl F1 ?_) | (go_at_call 20; refine (HG.out _ b).mono ?_; rintro _ _ ⟨rfl, hc⟩; (try replace F1 := F1.later hc); (try replace F2 := F2.later hc); (try replace F3 := F3.later hc); (try replace F4 := F4.later hc); (try replace F5 := F5.later hc); (try replace F6 := F6.later hc); (try replace F7 := F7.later hc); (try replace F8 := F8.later hc); (try replace F9 := F9.later hc); (try replace G1 := G1.later hc); (try replace G2 := G2.later hc); (try replace G3 := G3.later hc); (try replace z := z.later hc); (try replace b := later b hc); (try replace bB := mixed hB bB hc); clear hc) | (go_at_call 16; refine (HW.out _).mono ?_; rintro _ _ ⟨rfl, hc⟩; (try replace F1 := F1.later hc); (try replace F2 := F2.later hc); (try replace F3 := F3.later hc); (try replace F4 := F4.later hc); (try replace F5 := F5.later hc); (try replace F6 := F6.later hc); (try replace F7 := F7.later hc); (try replace F8 := F8.later hc); (try replace F9 := F9.later hc); (try replace G1 := G1.later hc); (try replace G2 := G2.later hc); (try replace G3 := G3.later hc); (try replace z := z.later hc); (try replace b := later b hc); (try replace bB := mixed hB bB hc); clear hc))
    go_ret
    exact ⟨rfl, b⟩
  · have hm : mayOr o = false := by rcases hq with hq | hq; exact absurd hq hgr; exact hq
    have HM := hide (fun (w' : World) (hb : Below w.heap.size w w') => oMay_any _ o w' (hII.later hb) ⟨by omega, by omega, by omega⟩)
    rw [if_neg (by rw [hm]; decide)] at HM
    rw [decide_eq_false hgr] at HG
    clear ok h1 h2 h3 hgr hII hq hm
    generalize origNs o = ns at *
    generalize o.nonce = nc at *
    have mF1 := True.intro
    go_enter Try.func6, Try.ntmps6
    go_wp2_with (first | (with_reducible show wpList _ _ _ (⟨_, Op.box _ _, _, _, _, _⟩ :: _) _ _; clear mF1; refine wpl_box_orig rfl _ rfl rfl hl15 hnl o1 o2 o3 ?_; intro _ g1 hg1 F1 hb; (try replace F1 := F1.later hb); (try replace F2 := F2.later hb); (try replace F3 := F3.later hb); (try replace F4 := F4.later hb); (try replace F5 := F5.later hb); (try replace F6 := F6.later hb); (try replace F7 := F7.later hb); (try replace F8 := F8.later hb); (try replace F9 := F9.later hb); (try replace G1 := G1.later hb); (try replace G2 := G2.later hb); (try replace G3 := G3.later hb); (try replace z := z.later hb); (try replace b := later b hb); (try replace bB := mixed hB bB hb); clear hb) | (with_reducible show wpList _ _ _ (⟨_, Op.load 32 _, _, _, _, _⟩ :: _) _ _; refine wpl_ld_orig rfl _ rfl rfl F1 ?_) | (go_at_call 20; refine (HG.out _ b).mono ?_; rintro _ _ ⟨rfl, hc⟩; (try replace F1 := F1.later hc); (try replace F2 := F2.later hc); (try replace F3 := F3.later hc); (try replace F4 := F4.later hc); (try replace F5 := F5.later hc); (try replace F6 := F6.later hc); (try replace F7 := F7.later hc); (try replace F8 := F8.later hc); (try replace F9 := F9.later hc); (try replace G1 := G1.later hc); (try replace G2 := G2.later hc); (try replace G3 := G3.later hc); (try replace z := z.later hc); (try replace b := later b hc); (try replace bB := mixed hB bB hc); clear hc) | (go_at_call 25; refine (HM.out _ b).mono ?_; rintro _ _ ⟨rfl, hc⟩; (try replace F1 := F1.later hc); (try replace F2 := F2.later hc); (try replace F3 := F3.later hc); (try replace F4 := F4.later hc); (try replace F5 := F5.later hc); (try replace F6 := F6.later hc); (try replace F7 := F7.later hc); (try replace F8 := F8.later hc); (try replace F9 := F9.later hc); (try replace G1 := G1.later hc); (try replace G2 := G2.later hc); (try replace G3 := G3.later hc); (try replace z := z.later hc); (try replace b := later b hc); (try replace bB := mixed hB bB hc); clear hc) | (go_at_call 16; refine (HW.out _).mono ?_; rintro _ _ ⟨rfl, hc⟩; (try replace F1 := F1.later hc); (try replace F2 := F2.later hc); (try replace F3 := F3.later hc); (try replace F4 := F4.later hc); (try replace F5 := F5.later hc); (try replace F6 := F6.later hc); (try replace F7 := F7.later hc); (try replace F8 := F8.later hc); (try replace F9 := F9.later hc); (try replace G1 := G1.later hc); (try replace G2 := G2.later hc); (try replace G3 := G3.later hc); (try replace z := z.later hc); (try replace b := later b hc); (try replace bB := mixed hB bB hc); clear hc))
    go_ret
    exact ⟨rfl, b⟩
theorem less_total {o : Orig} (ok : o.Ok) (hm : mayOr o = true) (n' : Nat) (hn' : n' ≤ o.reserves) (c : List OutT) (u : List TrustT) (G : Nat) (hs : (c.map OutT.amount).sum + G = (o.coins.map OutT.amount).sum) (hcl : c.length ≤ o.coins.length) (hul : u.length ≤ o.trusts.length) (hc : ∀ x ∈ c, x ∈ o.coins) (hu : ∀ x ∈ u, x ∈ o.trusts) (hur : risesB TrustT.key u = true) (v1 v2 v3 : Value) (w : World) (S1 : Sl w v1 65 (c.map outCs)) (S2 : Sl w v2 67 (o.seats.map seatCs)) (S3 : Sl w v3 64 (u.map trustCs)) :
    Calls Try.prog 22 #[origV ((origNs o).set 13 (o.reserves - n')) o.nonce v1 v2 v3] w fun e w' => e = .returned (.tuple #[.int .u64 ((totalN o - G - n' : Nat) : Int), .int .i64 0]) ∧ Below w.heap.size w w' := by
  have okL := withO_ok ok (r := o.reserves - n') (by omega) hc hu
  have hmL := withO_may hm (r := o.reserves - n') (by omega) (by omega) hcl hul hc hu hur
  have hI : OrigIs w (origV ((origNs o).set 13 (o.reserves - n')) o.nonce v1 v2 v3) (withO o (o.reserves - n') c u) := ⟨v1, v2, v3, by rw [ns_reserves ok _ c u]; rfl, S1, S2, S3, okL⟩
  have k := oTotal_any _ _ w hI (mayOr_few okL hmL).fit
  rw [if_pos hmL, if_pos hmL, withO_total] at k
  have e : o.reserves - n' + o.treasury + (c.map OutT.amount).sum = totalN o - G - n' := by unfold totalN; omega
  rwa [e] at k
set_option maxRecDepth 100000 in
set_option maxHeartbeats 6400000 in
theorem less_main (w : World) (v : Value) (o : Orig) (h : OrigIs w v o) (i k : Int) (n : Nat) (hn : U64 n) (hf : o.Few) (hm : mayOr o = true) :
    Calls Try.prog 6 #[v, .int .i64 i, .int .i64 k, .int .u64 n] w fun e w' => e = .returned (.bool true) ∧ Below w.heap.size w w' := by
  have hmc := hf.coins
  have hms := hf.seats
  have hmt := hf.trusts
  have HG := hide (fun (w' : World) (hb : Below w.heap.size w w') => great16_any v o w' (h.later hb) (by omega) (by omega) (by omega))
  rw [decide_eq_false (show ¬ 200 < o.coins.length + o.seats.length + o.trusts.length by omega)] at HG
  have HW := hide works16
  have hl15 := origNs_length h.ok
  have HM := hide (fun (w' : World) (hb : Below w.heap.size w w') => oMay_any v o w' (h.later hb) hf.fit)
  rw [if_pos hm] at HM
  have HT1 := hide (fun (w' : World) (hb : Below w.heap.size w w') => oTotal_any v o w' (h.later hb) hf.fit)
  rw [if_pos hm, if_pos hm] at HT1
  have hTl := total_lt hm
  obtain ⟨v1, v2, v3, rfl, h1, h2, h3, ok⟩ := h
  obtain ⟨a1, cp1, rfl, -⟩ := h1.shape
  obtain ⟨a3, cp3, rfl, -⟩ := h3.shape
  have o1 : (Value.slice a1 o.coins.length cp1).oneCell' = true := rfl
  have o2 := h2.one'
  have o3 : (Value.slice a3 o.trusts.length cp3).oneCell' = true := rfl
  have hnl := ok.nonce
  have b := Below.refl w.heap.size w
  obtain ⟨T, hT⟩ : ∃ T, T = totalN o := ⟨_, rfl⟩
  rw [← hT] at HT1 hTl
  have E9 : Hid (∀ _ : Unit, decide ((9223372036854775808 : Int) ≤ (T : Int)) = false) := fun _ => decide_eq_false (by omega)
  have h13 := hide (origNs_at ok).2.2.2.2.2.1
  obtain ⟨n', hn'⟩ : ∃ n', n' = min n o.reserves := ⟨_, rfl⟩
  have hn2 : n' ≤ o.reserves := by omega
  have zm : min (n : Int) (o.reserves : Int) = (n' : Int) := by omega
  have hr64 := ok.reserves
  have zr : IntKind.u64.wrap ((o.reserves : Int) - (n' : Int)) = ((o.reserves - n' : Nat) : Int) := by rw [IntKind.wrap_u64]; unfold U64 at hr64; omega
  have hru : risesB TrustT.key o.trusts = true := by
    simp only [mayOr, listsB, Bool.and_eq_true] at hm
    exact hm.2.2.2.2.2.1
  have HTL := hide hTl
  have HTT := hide hT
  have z0 : IntKind.u64.wrap (T : Int) = (T : Int) := by rw [IntKind.wrap_u64]; omega
  have HTB : Hid (n' ≤ T) := by rw [hT]; unfold totalN; exact hide (by omega)
  clear hTl hT hn' hr64
  rcases int_tri i o.coins.length with e1 | ⟨e1, e2⟩ | ⟨I, rfl, hI⟩
  case inl =>
    have E1 := hide (fun _ : Unit => e1)
    clear e1
    have z2 : IntKind.u64.wrap ((T : Int) - (n' : Int)) = ((T - n' : Nat) : Int) := by rw [IntKind.wrap_u64]; have := HTL.out; have := HTB.out; omega
    have mF1 := True.intro
    have mF2 := True.intro
    go_enter Try.func6, Try.ntmps6
    go_wp2_with (first | (with_reducible show wpList _ _ _ (⟨_, Op.box _ _, _, _, _, _⟩ :: _) _ _; clear mF1; refine wpl_box_orig rfl _ rfl rfl hl15 hnl o1 o2 o3 ?_; intro _ g1 hg1 F1 hb; (try replace F1 := F1.later hb); (try replace F2 := F2.later hb); (try replace F3 := F3.later hb); (try replace F4 := F4.later hb); (try replace F5 := F5.later hb); (try replace F6 := F6.later hb); (try replace F7 := F7.later hb); (try replace F8 := F8.later hb); (try replace F9 := F9.later hb); (try replace G1 := G1.later hb); (try replace G2 := G2.later hb); (try replace G3 := G3.later hb); (try replace z := z.later hb); (try replace b := later b hb); (try replace bB := mixed hB bB hb); clear hb) | (with_reducible show wpList _ _ _ (⟨_, Op.alloc 32, _, _, _, _⟩ :: _) _ _; clear mF2; have q1 := F1.lt; refine wpl_mk_orig rfl rfl ?_; have qw := b.size; intro _ g2 hg2 F2 hb; have h12 : g1 < g2 := (by omega); have hw2 : w.heap.size ≤ g2 := (by omega); replace F1 := F1.later hb; replace b := later b hb; clear hb q1 qw) | (with_reducible show wpList _ _ _ (⟨_, Op.store 32 _ _, _, _, _, _⟩ :: _) _ _; refine wpl_set_orig rfl _ _ rfl rfl (ns := origNs o) (nc := o.nonce) (v1 := .slice (a1) o.coins.length cp1) (v2 := v2) (v3 := .slice a3 o.trusts.length cp3) rfl hl15 hnl o1 o2 o3 F2 ?_; intro _ t1 ht1; clear F2; replace F1 := F1.tt ht1; replace b := below_touch b ht1 hw2 (Nat.le_refl _); have F2 := t1; clear t1 ht1) | (with_reducible show wpList _ _ _ (⟨_, Op.load 32 _, _, _, _, _⟩ :: _) _ _; first | refine wpl_ld_orig rfl _ rfl rfl F1 ?_ | refine wpl_ld_orig rfl _ rfl rfl F2 ?_) | (go_at_call 20; refine (HG.out _ b).mono ?_; rintro _ _ ⟨rfl, hc⟩; (try replace F1 := F1.later hc); (try replace F2 := F2.later hc); (try replace F3 := F3.later hc); (try replace F4 := F4.later hc); (try replace F5 := F5.later hc); (try replace F6 := F6.later hc); (try replace F7 := F7.later hc); (try replace F8 := F8.later hc); (try replace F9 := F9.later hc); (try replace G1 := G1.later hc); (try replace G2 := G2.later hc); (try replace G3 := G3.later hc); (try replace z := z.later hc); (try replace b := later b hc); (try replace bB := mixed hB bB hc); clear hc) | (go_at_call 25; refine (HM.out _ b).mono ?_; rintro _ _ ⟨rfl, hc⟩; (try replace F1 := F1.later hc); (try replace F2 := F2.later hc); (try replace F3 := F3.later hc); (try replace F4 := F4.later hc); (try replace F5 := F5.later hc); (try replace F6 := F6.later hc); (try replace F7 := F7.later hc); (try replace F8 := F8.later hc); (try replace F9 := F9.later hc); (try replace G1 := G1.later hc); (try replace G2 := G2.later hc); (try replace G3 := G3.later hc); (try replace z := z.later hc); (try replace b := later b hc); (try replace bB := mixed hB bB hc); clear hc) | (go_at_call 22; refine (HT1.out _ b).mono ?_; rintro _ _ ⟨rfl, hc⟩; (try replace F1 := F1.later hc); (try replace F2 := F2.later hc); (try replace F3 := F3.later hc); (try replace F4 := F4.later hc); (try replace F5 := F5.later hc); (try replace F6 := F6.later hc); (try replace F7 := F7.later hc); (try replace F8 := F8.later hc); (try replace F9 := F9.later hc); (try replace G1 := G1.later hc); (try replace G2 := G2.later hc); (try replace G3 := G3.later hc); (try replace z := z.later hc); (try replace b := later b hc); (try replace bB := mixed hB bB hc); clear hc) | (with_reducible show wpList _ _ _ (⟨_, Op.load _ _, _, _, _, _⟩ :: _) _ _; first | refine wpl_load_one rfl 28 _ rfl rfl (OAt.s1 F1) (by kernel_rfl) ?_ | refine wpl_load_one rfl 29 _ rfl rfl (OAt.s2 F1) (by kernel_rfl) ?_ | refine wpl_load_one rfl 30 _ rfl rfl (OAt.s3 F1) (by kernel_rfl) ?_) | (with_reducible show wpList _ _ _ (⟨_, Op.load 23 _, _, _, _, _⟩ :: _) _ _; first | refine wpl_load_one rfl 23 _ rfl rfl (OAt.num F1 h13.out) (by kernel_rfl) ?_ | refine wpl_load_one rfl 23 _ rfl rfl (OAt.num F2 h13.out) (by kernel_rfl) ?_) | (with_reducible show wpList _ _ _ (⟨_, Op.binOp BinOp.geq 23 _ _ _, _, _, _, _⟩ :: _) _ _; refine wpl_geq rfl _ _ rfl rfl rfl (E9.out ()) ?_) | (with_reducible show wpList _ _ _ (⟨_, Op.binOp BinOp.geq 3 _ _ _, _, _, _, _⟩ :: _) _ _; refine wpl_geq rfl _ _ rfl rfl rfl (E1.out ()) ?_) | (with_reducible show wpList _ _ _ (⟨_, Op.binOp BinOp.geq 3 _ _ _, _, _, _, _⟩ :: _) _ _; generalize hstop : wpList _ _ _ _ _ _ = Gstop))
    -- h1.later b coins' slice, o.coins coins' list, 0 gone, (by omega) sum, (Nat.le_refl _) length, (fun _ hx => hx) members, skip facts beside
    rcases int_tri k o.trusts.length with e1 | ⟨e1, e2⟩ | ⟨K, rfl, hK⟩
    case inl =>
      have E3 := hide (fun _ : Unit => e1)
      clear e1
      rw [← hstop]; clear hstop
      have HTZ := hide (fun (x1 x3 : Value) w' (hb : Below w.heap.size w w') S1 S3 => less_total ok hm n' hn2 o.coins o.trusts 0 (by omega) (Nat.le_refl _) (Nat.le_refl _) (fun _ hx => hx) (fun _ hx => hx) hru x1 v2 x3 w' S1 (h2.later hb) S3)
      rw [← HTT.out] at HTZ
      (try rw [Nat.sub_zero] at HTZ)
      go_wp2_with (first | (with_reducible show wpList _ _ _ (⟨_, Op.load 32 _, _, _, _, _⟩ :: _) _ _; refine wpl_ld_orig rfl _ rfl rfl F2 ?_) | (with_reducible show wpList _ _ _ (⟨_, Op.load _ _, _, _, _, _⟩ :: _) _ _; first | refine wpl_load_one rfl 28 _ rfl rfl (OAt.s1 F1) (by kernel_rfl) ?_ | refine wpl_load_one rfl 29 _ rfl rfl (OAt.s2 F1) (by kernel_rfl) ?_ | refine wpl_load_one rfl 30 _ rfl rfl (OAt.s3 F1) (by kernel_rfl) ?_) | (with_reducible show wpList _ _ _ (⟨_, Op.load 23 _, _, _, _, _⟩ :: _) _ _; first | refine wpl_load_one rfl 23 _ rfl rfl (OAt.num F1 h13.out) (by kernel_rfl) ?_ | refine wpl_load_one rfl 23 _ rfl rfl (OAt.num F2 h13.out) (by kernel_rfl) ?_) | (with_reducible show wpList _ _ _ (⟨_, Op.store 23 _ _, _, _, _, _⟩ :: _) _ _; refine wpl_set_onum (n := o.reserves - n') rfl _ _ rfl rfl rfl (by decide) F2 ?_; intro _ t1 ht1; clear F2; replace F1 := F1.tt ht1; (try replace O1 := O1.tg ht1 hgO1); (try replace O3 := O3.tg ht1 hgO3); replace b := below_touch b ht1 hw2 (Nat.le_refl _); have F2 := t1; clear t1 ht1) | (go_at_call 22; refine (HTZ.out _ _ _ b (h1.later b) (h3.later b)).mono ?_; rintro _ _ ⟨rfl, hc⟩; (try replace F1 := F1.later hc); (try replace F2 := F2.later hc); (try replace F3 := F3.later hc); (try replace F4 := F4.later hc); (try replace F5 := F5.later hc); (try replace F6 := F6.later hc); (try replace F7 := F7.later hc); (try replace F8 := F8.later hc); (try replace F9 := F9.later hc); (try replace G1 := G1.later hc); (try replace G2 := G2.later hc); (try replace G3 := G3.later hc); (try replace z := z.later hc); (try replace b := later b hc); (try replace bB := mixed hB bB hc); clear hc) | (go_at_call 16; refine (HW.out _).mono ?_; rintro _ _ ⟨rfl, hc⟩; (try replace F1 := F1.later hc); (try replace F2 := F2.later hc); (try replace F3 := F3.later hc); (try replace F4 := F4.later hc); (try replace F5 := F5.later hc); (try replace F6 := F6.later hc); (try replace F7 := F7.later hc); (try replace F8 := F8.later hc); (try replace F9 := F9.later hc); (try replace G1 := G1.later hc); (try replace G2 := G2.later hc); (try replace G3 := G3.later hc); (try replace z := z.later hc); (try replace b := later b hc); (try replace bB := mixed hB bB hc); clear hc) | (with_reducible show wpList _ _ _ (⟨_, Op.binOp BinOp.geq 3 _ _ _, _, _, _, _⟩ :: _) _ _; refine wpl_geq rfl _ _ rfl rfl rfl (E3.out ()) ?_))
      go_ret
      exact ⟨by simp, b⟩
    case inr.inl =>
      have E3 := hide (fun _ : Unit => e1)
      have E4 := hide (fun _ : Unit => e2)
      clear e1 e2
      rw [← hstop]; clear hstop
      have HTZ := hide (fun (x1 x3 : Value) w' (hb : Below w.heap.size w w') S1 S3 => less_total ok hm n' hn2 o.coins o.trusts 0 (by omega) (Nat.le_refl _) (Nat.le_refl _) (fun _ hx => hx) (fun _ hx => hx) hru x1 v2 x3 w' S1 (h2.later hb) S3)
      rw [← HTT.out] at HTZ
      (try rw [Nat.sub_zero] at HTZ)
      go_wp2_with (first | (with_reducible show wpList _ _ _ (⟨_, Op.load 32 _, _, _, _, _⟩ :: _) _ _; refine wpl_ld_orig rfl _ rfl rfl F2 ?_) | (with_reducible show wpList _ _ _ (⟨_, Op.load _ _, _, _, _, _⟩ :: _) _ _; first | refine wpl_load_one rfl 28 _ rfl rfl (OAt.s1 F1) (by kernel_rfl) ?_ | refine wpl_load_one rfl 29 _ rfl rfl (OAt.s2 F1) (by kernel_rfl) ?_ | refine wpl_load_one rfl 30 _ rfl rfl (OAt.s3 F1) (by kernel_rfl) ?_) | (with_reducible show wpList _ _ _ (⟨_, Op.load 23 _, _, _, _, _⟩ :: _) _ _; first | refine wpl_load_one rfl 23 _ rfl rfl (OAt.num F1 h13.out) (by kernel_rfl) ?_ | refine wpl_load_one rfl 23 _ rfl rfl (OAt.num F2 h13.out) (by kernel_rfl) ?_) | (with_reducible show wpList _ _ _ (⟨_, Op.store 23 _ _, _, _, _, _⟩ :: _) _ _; refine wpl_set_onum (n := o.reserves - n') rfl _ _ rfl rfl rfl (by decide) F2 ?_; intro _ t1 ht1; clear F2; replace F1 := F1.tt ht1; (try replace O1 := O1.tg ht1 hgO1); (try replace O3 := O3.tg ht1 hgO3); replace b := below_touch b ht1 hw2 (Nat.le_refl _); have F2 := t1; clear t1 ht1) | (go_at_call 22; refine (HTZ.out _ _ _ b (h1.later b) (h3.later b)).mono ?_; rintro _ _ ⟨rfl, hc⟩; (try replace F1 := F1.later hc); (try replace F2 := F2.later hc); (try replace F3 := F3.later hc); (try replace F4 := F4.later hc); (try replace F5 := F5.later hc); (try replace F6 := F6.later hc); (try replace F7 := F7.later hc); (try replace F8 := F8.later hc); (try replace F9 := F9.later hc); (try replace G1 := G1.later hc); (try replace G2 := G2.later hc); (try replace G3 := G3.later hc); (try replace z := z.later hc); (try replace b := later b hc); (try replace bB := mixed hB bB hc); clear hc) | (go_at_call 16; refine (HW.out _).mono ?_; rintro _ _ ⟨rfl, hc⟩; (try replace F1 := F1.later hc); (try replace F2 := F2.later hc); (try replace F3 := F3.later hc); (try replace F4 := F4.later hc); (try replace F5 := F5.later hc); (try replace F6 := F6.later hc); (try replace F7 := F7.later hc); (try replace F8 := F8.later hc); (try replace F9 := F9.later hc); (try replace G1 := G1.later hc); (try replace G2 := G2.later hc); (try replace G3 := G3.later hc); (try replace z := z.later hc); (try replace b := later b hc); (try replace bB := mixed hB bB hc); clear hc) | (with_reducible show wpList _ _ _ (⟨_, Op.binOp BinOp.geq 3 _ _ _, _, _, _, _⟩ :: _) _ _; refine wpl_geq rfl _ _ rfl rfl rfl (E3.out ()) ?_) | (with_reducible show wpList _ _ _ (⟨_, Op.binOp BinOp.lss 3 _ _ _, _, _, _, _⟩ :: _) _ _; refine wpl_lss rfl _ _ rfl rfl rfl (E4.out ()) ?_))
      go_ret
      exact ⟨by simp, b⟩
    case inr.inr =>
      have E3 : Hid (∀ _ : Unit, decide ((0 : Int) ≤ (K : Int)) = true) := fun _ => decide_eq_true (by omega)
      have E4 : Hid (∀ _ : Unit, decide ((K : Int) < (o.trusts.length : Int)) = true) := fun _ => decide_eq_true (by omega)
      rw [← hstop]; clear hstop
      go_wp2_with (first | (with_reducible show wpList _ _ _ (⟨_, Op.load _ _, _, _, _, _⟩ :: _) _ _; first | refine wpl_load_one rfl 28 _ rfl rfl (OAt.s1 F1) (by kernel_rfl) ?_ | refine wpl_load_one rfl 29 _ rfl rfl (OAt.s2 F1) (by kernel_rfl) ?_ | refine wpl_load_one rfl 30 _ rfl rfl (OAt.s3 F1) (by kernel_rfl) ?_) | (with_reducible show wpList _ _ _ (⟨_, Op.binOp BinOp.geq 3 _ _ _, _, _, _, _⟩ :: _) _ _; refine wpl_geq rfl _ _ rfl rfl rfl (E3.out ()) ?_) | (with_reducible show wpList _ _ _ (⟨_, Op.binOp BinOp.lss 3 _ _ _, _, _, _, _⟩ :: _) _ _; refine wpl_lss rfl _ _ rfl rfl rfl (E4.out ()) ?_))
      obtain ⟨b3, k3, c3', he, -, -⟩ := h3.block (by omega)
      simp only [Value.slice.injEq] at he
      obtain ⟨rfl, -, rfl⟩ := he
      obtain ⟨ad3, A3, B3, m3, hA, hI1, hI2, hP, hQ, hEa, hEb, hL, hM, hN, hm3⟩ := cut_facts h3 (els_trust ok.trusts) hK
      have PA3 := hide hA
      have PI3 := hide hI1
      have PS3 := hide hI2
      have PP3 := hide hP
      have PQ3 := hide hQ
      have PE3 := hide hEa
      have PF3 := hide hEb
      have PL3 := hide hL
      have PM3 := hide hM
      have PN3 := hide hN
      clear hA hI1 hI2 hP hQ hEa hEb hL hM hN
      have zk : IntKind.i64.wrap ((K : Int) + 1) = ((K + 1 : Nat) : Int) := by rw [IntKind.wrap_i64]; omega
      -- Trust type, trustElem element lemma, 3 names' tail, OAt.s3 F1 load fact, wpl_set_otrusts setter, skip facts beside
      go_wp2_with (with_reducible show Code.wp _ (Code.region _ _ true) _ _ _; (try simp only [Act.put, List.setIfInBounds_toArray, List.set_cons_succ, List.set_cons_zero]); fail)
      (try simp only [Act.put, List.setIfInBounds_toArray, List.set_cons_succ, List.set_cons_zero])
      have hg1 := F1.lt
      have hg2 := F2.lt
      have hwW := b.size
      skip
      refine region_plan (fun x => Below (World.heap _).size _ x) (.one [1, 2, 3, 4, 6, 7, 8, 9, 10] 0 (.one [] 5 (.bar [] 11 (.bar [12] 13 (.stop []))))) (by kernel_rfl) (by kernel_rfl) (by kernel_rfl) (by decide) (lasts_below (Nat.le_refl _)) (Below.refl _ _) ?_
      intro _ _ _ _
      refine plan_one ?_
      simp only [pickOps, opAt, List.getElem?_cons_succ, List.getElem?_cons_zero, List.nil_append, List.cons_append]
      (repeat (first | go_big_quiet_skip | (go_big_quiet_want; first | (refine plan_load_one 30 _ rfl rfl (OAt.s3 F1) (by kernel_rfl) ?_; simp only [Act.put, List.setIfInBounds_toArray, List.set_cons_succ, List.set_cons_zero]; go_big_quiet_on) | (refine quiet_pre trustElem _ _ rfl rfl rfl PI3.out ?_; simp only [Act.put, List.setIfInBounds_toArray, List.set_cons_succ, List.set_cons_zero]; go_big_quiet_on) | (refine quiet_suf trustElem _ _ rfl rfl rfl PS3.out PA3.out ?_; simp only [Act.put, List.setIfInBounds_toArray, List.set_cons_succ, List.set_cons_zero]; go_big_quiet_on) | (go_big_quiet_op; go_big_quiet_on))))
      refine wpQuiet_nil ?_
      intro _ _ hk
      (try replace F1 := F1.later hk); (try replace F2 := F2.later hk); (try replace F3 := F3.later hk); (try replace F4 := F4.later hk); (try replace F5 := F5.later hk); (try replace F6 := F6.later hk); (try replace F7 := F7.later hk); (try replace F8 := F8.later hk); (try replace F9 := F9.later hk); (try replace G1 := G1.later hk); (try replace G2 := G2.later hk); (try replace G3 := G3.later hk); (try replace z := z.later hk); (try replace b := later b hk); (try replace bB := mixed hB bB hk)
      (try replace O1 := O1.later hk)
      have hkz := hk.size
      go_wp2_with ((with_reducible show wpList _ _ _ (⟨_, Op.buildSlice _ _ _, _, _, _, _⟩ :: _) _ _); refine wpl_row0 rfl trustElem rfl ?_; intro _ g9 hg9 O9 hb; replace O9 := O9.base hkz; (try replace F1 := F1.later hb); (try replace F2 := F2.later hb); (try replace F3 := F3.later hb); (try replace F4 := F4.later hb); (try replace F5 := F5.later hb); (try replace F6 := F6.later hb); (try replace F7 := F7.later hb); (try replace F8 := F8.later hb); (try replace F9 := F9.later hb); (try replace G1 := G1.later hb); (try replace G2 := G2.later hb); (try replace G3 := G3.later hb); (try replace z := z.later hb); (try replace b := later b hb); (try replace bB := mixed hB bB hb); (try replace O1 := O1.later hb); replace hk := later hk hb; clear hb)
      refine goQ_same (lasts_below (Nat.le_refl _)) hk ?_
      (try simp only [Act.put, List.setIfInBounds_toArray, List.set_cons_succ, List.set_cons_zero])
      refine plan_one ?_
      simp only [pickOps, opAt, List.getElem?_cons_succ, List.getElem?_cons_zero, List.nil_append, List.cons_append]
      refine wpQuiet_nil ?_
      intro _ hb hk2
      (try replace F1 := F1.later hb); (try replace F2 := F2.later hb); (try replace F3 := F3.later hb); (try replace F4 := F4.later hb); (try replace F5 := F5.later hb); (try replace F6 := F6.later hb); (try replace F7 := F7.later hb); (try replace F8 := F8.later hb); (try replace F9 := F9.later hb); (try replace G1 := G1.later hb); (try replace G2 := G2.later hb); (try replace G3 := G3.later hb); (try replace z := z.later hb); (try replace b := later b hb); (try replace bB := mixed hB bB hb)
      (try replace O1 := O1.later hb)
      replace O9 := O9.later hb
      clear hk hb hkz
      have hk := hk2
      clear hk2
      go_wp2_with ((with_reducible show wpList _ _ _ (⟨_, Op.call _, _, _, _, _⟩ :: _) _ _); refine wpl_append_row rfl _ _ trustElem rfl rfl O9 rfl (PP3.out _ b) PE3.out _ PL3.out (by omega) (by omega) hk.size ?_; intro a8 c8 _ O8 ht _; replace F1 := F1.touch ht (O9.off hg1); replace F2 := F2.touch ht (O9.off hg2); (try replace O1 := O1.beside ht (fun y hy hz => by have := hl1 y hz; have := O9.ge y hy; omega)); replace b := b.trans (ht.below (B := w.heap.size) b.size (fun y hy => Nat.le_trans hwW (O9.ge y hy))); replace hk := hk.trans (ht.below hk.size (fun y hy => O9.ge y hy)); clear O9 ht)
      refine goQ_same (lasts_below (Nat.le_refl _)) hk ?_
      (try simp only [Act.put, List.setIfInBounds_toArray, List.set_cons_succ, List.set_cons_zero])
      refine plan_bar ?_
      simp only [pickOps, opAt, List.getElem?_cons_succ, List.getElem?_cons_zero, List.nil_append, List.cons_append]
      refine wpQuiet_nil ?_
      intro _ hb hk2
      (try replace F1 := F1.later hb); (try replace F2 := F2.later hb); (try replace F3 := F3.later hb); (try replace F4 := F4.later hb); (try replace F5 := F5.later hb); (try replace F6 := F6.later hb); (try replace F7 := F7.later hb); (try replace F8 := F8.later hb); (try replace F9 := F9.later hb); (try replace G1 := G1.later hb); (try replace G2 := G2.later hb); (try replace G3 := G3.later hb); (try replace z := z.later hb); (try replace b := later b hb); (try replace bB := mixed hB bB hb)
      (try replace O1 := O1.later hb)
      replace O8 := O8.later hb
      clear hk hb
      have hk := hk2
      clear hk2
      go_wp2_with ((with_reducible show wpList _ _ _ (⟨_, Op.call _, _, _, _, _⟩ :: _) _ _); refine wpl_append_row rfl _ _ trustElem rfl rfl O8 rfl (PQ3.out _ b) PF3.out _ PM3.out (by omega) (by omega) hk.size ?_; intro a7 c7 _ O7 ht _; replace F1 := F1.touch ht (O8.off hg1); replace F2 := F2.touch ht (O8.off hg2); (try replace O1 := O1.beside ht (fun y hy hz => by have := hl1 y hz; have := O8.ge y hy; omega)); replace b := b.trans (ht.below (B := w.heap.size) b.size (fun y hy => Nat.le_trans hwW (O8.ge y hy))); clear O8 ht hk)
      refine goB_since ?_
      (try simp only [Act.put, List.setIfInBounds_toArray, List.set_cons_succ, List.set_cons_zero])
      refine plan_bar ?_
      simp only [pickOps, opAt, List.getElem?_cons_succ, List.getElem?_cons_zero, List.nil_append, List.cons_append]
      repeat (first | go_big_quiet_skip | (go_big_quiet_want; first | ((with_reducible show Oper.quiet _ ⟨_, Op.load _ _, _, _, _, _⟩ _ _ _); first | fail) | (go_big_quiet_op; first | go_big_quiet_on | (refine ⟨_, fun _ => rfl, ?_⟩; go_big_quiet_on))))
      refine wpQuiet_nil ?_
      intro _ hb _
      (try replace F1 := F1.later hb); (try replace F2 := F2.later hb); (try replace F3 := F3.later hb); (try replace F4 := F4.later hb); (try replace F5 := F5.later hb); (try replace F6 := F6.later hb); (try replace F7 := F7.later hb); (try replace F8 := F8.later hb); (try replace F9 := F9.later hb); (try replace G1 := G1.later hb); (try replace G2 := G2.later hb); (try replace G3 := G3.later hb); (try replace z := z.later hb); (try replace b := later b hb); (try replace bB := mixed hB bB hb)
      (try replace O1 := O1.later hb)
      replace O7 := O7.later hb
      clear hb
      go_wp2_with ((with_reducible show wpList _ _ _ (⟨_, Op.store _ _ _, _, _, _, _⟩ :: _) _ _); refine wpl_set_otrusts rfl _ _ rfl rfl rfl rfl rfl F2 ?_; intro _ t1 ht1; clear F2; replace F1 := F1.tt ht1; (try replace O1 := O1.tg ht1 hgO1); replace O7 := O7.tg ht1 hg2; replace b := below_touch b ht1 hw2 (Nat.le_refl _); have F2 := t1; clear t1 ht1)
      refine goB_since ?_
      (try simp only [Act.put, List.setIfInBounds_toArray, List.set_cons_succ, List.set_cons_zero])
      refine plan_stop ?_
      refine wpQuiet_nil ?_
      intro _ hb _
      (try replace F1 := F1.later hb); (try replace F2 := F2.later hb); (try replace F3 := F3.later hb); (try replace F4 := F4.later hb); (try replace F5 := F5.later hb); (try replace F6 := F6.later hb); (try replace F7 := F7.later hb); (try replace F8 := F8.later hb); (try replace F9 := F9.later hb); (try replace G1 := G1.later hb); (try replace G2 := G2.later hb); (try replace G3 := G3.later hb); (try replace z := z.later hb); (try replace b := later b hb); (try replace bB := mixed hB bB hb)
      (try replace O1 := O1.later hb)
      replace O7 := O7.later hb
      clear hb
      rw [PN3.out] at O7
      have O3 := O7
      have hgO3 := hg2
      clear O7
      have HTZ := hide (fun (x1 x3 : Value) w' (hb : Below w.heap.size w w') S1 S3 => less_total ok hm n' hn2 o.coins (outAt K o.trusts) 0 (by omega) (Nat.le_refl _) (outAt_len K _) (fun _ hx => hx) (fun _ hx => outAt_mem hx) (outAt_rises _ K _ hru) x1 v2 x3 w' S1 (h2.later hb) S3)
      rw [← HTT.out] at HTZ
      (try rw [Nat.sub_zero] at HTZ)
      go_wp2_with (first | (with_reducible show wpList _ _ _ (⟨_, Op.load 32 _, _, _, _, _⟩ :: _) _ _; refine wpl_ld_orig rfl _ rfl rfl F2 ?_) | (with_reducible show wpList _ _ _ (⟨_, Op.load _ _, _, _, _, _⟩ :: _) _ _; first | refine wpl_load_one rfl 28 _ rfl rfl (OAt.s1 F1) (by kernel_rfl) ?_ | refine wpl_load_one rfl 29 _ rfl rfl (OAt.s2 F1) (by kernel_rfl) ?_ | refine wpl_load_one rfl 30 _ rfl rfl (OAt.s3 F1) (by kernel_rfl) ?_) | (with_reducible show wpList _ _ _ (⟨_, Op.load 23 _, _, _, _, _⟩ :: _) _ _; first | refine wpl_load_one rfl 23 _ rfl rfl (OAt.num F1 h13.out) (by kernel_rfl) ?_ | refine wpl_load_one rfl 23 _ rfl rfl (OAt.num F2 h13.out) (by kernel_rfl) ?_) | (with_reducible show wpList _ _ _ (⟨_, Op.store 23 _ _, _, _, _, _⟩ :: _) _ _; refine wpl_set_onum (n := o.reserves - n') rfl _ _ rfl rfl rfl (by decide) F2 ?_; intro _ t1 ht1; clear F2; replace F1 := F1.tt ht1; (try replace O1 := O1.tg ht1 hgO1); (try replace O3 := O3.tg ht1 hgO3); replace b := below_touch b ht1 hw2 (Nat.le_refl _); have F2 := t1; clear t1 ht1) | (go_at_call 22; refine (HTZ.out _ _ _ b (h1.later b) (O3.sl)).mono ?_; rintro _ _ ⟨rfl, hc⟩; (try replace F1 := F1.later hc); (try replace F2 := F2.later hc); (try replace F3 := F3.later hc); (try replace F4 := F4.later hc); (try replace F5 := F5.later hc); (try replace F6 := F6.later hc); (try replace F7 := F7.later hc); (try replace F8 := F8.later hc); (try replace F9 := F9.later hc); (try replace G1 := G1.later hc); (try replace G2 := G2.later hc); (try replace G3 := G3.later hc); (try replace z := z.later hc); (try replace b := later b hc); (try replace bB := mixed hB bB hc); clear hc) | (go_at_call 16; refine (HW.out _).mono ?_; rintro _ _ ⟨rfl, hc⟩; (try replace F1 := F1.later hc); (try replace F2 := F2.later hc); (try replace F3 := F3.later hc); (try replace F4 := F4.later hc); (try replace F5 := F5.later hc); (try replace F6 := F6.later hc); (try replace F7 := F7.later hc); (try replace F8 := F8.later hc); (try replace F9 := F9.later hc); (try replace G1 := G1.later hc); (try replace G2 := G2.later hc); (try replace G3 := G3.later hc); (try replace z := z.later hc); (try replace b := later b hc); (try replace bB := mixed hB bB hc); clear hc))
      go_ret
      exact ⟨by simp, b⟩
  case inr.inl =>
    have E1 := hide (fun _ : Unit => e1)
    have E2 := hide (fun _ : Unit => e2)
    clear e1 e2
    have z2 : IntKind.u64.wrap ((T : Int) - (n' : Int)) = ((T - n' : Nat) : Int) := by rw [IntKind.wrap_u64]; have := HTL.out; have := HTB.out; omega
    have mF1 := True.intro
    have mF2 := True.intro
    go_enter Try.func6, Try.ntmps6
    go_wp2_with (first | (with_reducible show wpList _ _ _ (⟨_, Op.box _ _, _, _, _, _⟩ :: _) _ _; clear mF1; refine wpl_box_orig rfl _ rfl rfl hl15 hnl o1 o2 o3 ?_; intro _ g1 hg1 F1 hb; (try replace F1 := F1.later hb); (try replace F2 := F2.later hb); (try replace F3 := F3.later hb); (try replace F4 := F4.later hb); (try replace F5 := F5.later hb); (try replace F6 := F6.later hb); (try replace F7 := F7.later hb); (try replace F8 := F8.later hb); (try replace F9 := F9.later hb); (try replace G1 := G1.later hb); (try replace G2 := G2.later hb); (try replace G3 := G3.later hb); (try replace z := z.later hb); (try replace b := later b hb); (try replace bB := mixed hB bB hb); clear hb) | (with_reducible show wpList _ _ _ (⟨_, Op.alloc 32, _, _, _, _⟩ :: _) _ _; clear mF2; have q1 := F1.lt; refine wpl_mk_orig rfl rfl ?_; have qw := b.size; intro _ g2 hg2 F2 hb; have h12 : g1 < g2 := (by omega); have hw2 : w.heap.size ≤ g2 := (by omega); replace F1 := F1.later hb; replace b := later b hb; clear hb q1 qw) | (with_reducible show wpList _ _ _ (⟨_, Op.store 32 _ _, _, _, _, _⟩ :: _) _ _; refine wpl_set_orig rfl _ _ rfl rfl (ns := origNs o) (nc := o.nonce) (v1 := .slice (a1) o.coins.length cp1) (v2 := v2) (v3 := .slice a3 o.trusts.length cp3) rfl hl15 hnl o1 o2 o3 F2 ?_; intro _ t1 ht1; clear F2; replace F1 := F1.tt ht1; replace b := below_touch b ht1 hw2 (Nat.le_refl _); have F2 := t1; clear t1 ht1) | (with_reducible show wpList _ _ _ (⟨_, Op.load 32 _, _, _, _, _⟩ :: _) _ _; first | refine wpl_ld_orig rfl _ rfl rfl F1 ?_ | refine wpl_ld_orig rfl _ rfl rfl F2 ?_) | (go_at_call 20; refine (HG.out _ b).mono ?_; rintro _ _ ⟨rfl, hc⟩; (try replace F1 := F1.later hc); (try replace F2 := F2.later hc); (try replace F3 := F3.later hc); (try replace F4 := F4.later hc); (try replace F5 := F5.later hc); (try replace F6 := F6.later hc); (try replace F7 := F7.later hc); (try replace F8 := F8.later hc); (try replace F9 := F9.later hc); (try replace G1 := G1.later hc); (try replace G2 := G2.later hc); (try replace G3 := G3.later hc); (try replace z := z.later hc); (try replace b := later b hc); (try replace bB := mixed hB bB hc); clear hc) | (go_at_call 25; refine (HM.out _ b).mono ?_; rintro _ _ ⟨rfl, hc⟩; (try replace F1 := F1.later hc); (try replace F2 := F2.later hc); (try replace F3 := F3.later hc); (try replace F4 := F4.later hc); (try replace F5 := F5.later hc); (try replace F6 := F6.later hc); (try replace F7 := F7.later hc); (try replace F8 := F8.later hc); (try replace F9 := F9.later hc); (try replace G1 := G1.later hc); (try replace G2 := G2.later hc); (try replace G3 := G3.later hc); (try replace z := z.later hc); (try replace b := later b hc); (try replace bB := mixed hB bB hc); clear hc) | (go_at_call 22; refine (HT1.out _ b).mono ?_; rintro _ _ ⟨rfl, hc⟩; (try replace F1 := F1.later hc); (try replace F2 := F2.later hc); (try replace F3 := F3.later hc); (try replace F4 := F4.later hc); (try replace F5 := F5.later hc); (try replace F6 := F6.later hc); (try replace F7 := F7.later hc); (try replace F8 := F8.later hc); (try replace F9 := F9.later hc); (try replace G1 := G1.later hc); (try replace G2 := G2.later hc); (try replace G3 := G3.later hc); (try replace z := z.later hc); (try replace b := later b hc); (try replace bB := mixed hB bB hc); clear hc) | (with_reducible show wpList _ _ _ (⟨_, Op.load _ _, _, _, _, _⟩ :: _) _ _; first | refine wpl_load_one rfl 28 _ rfl rfl (OAt.s1 F1) (by kernel_rfl) ?_ | refine wpl_load_one rfl 29 _ rfl rfl (OAt.s2 F1) (by kernel_rfl) ?_ | refine wpl_load_one rfl 30 _ rfl rfl (OAt.s3 F1) (by kernel_rfl) ?_) | (with_reducible show wpList _ _ _ (⟨_, Op.load 23 _, _, _, _, _⟩ :: _) _ _; first | refine wpl_load_one rfl 23 _ rfl rfl (OAt.num F1 h13.out) (by kernel_rfl) ?_ | refine wpl_load_one rfl 23 _ rfl rfl (OAt.num F2 h13.out) (by kernel_rfl) ?_) | (with_reducible show wpList _ _ _ (⟨_, Op.binOp BinOp.geq 23 _ _ _, _, _, _, _⟩ :: _) _ _; refine wpl_geq rfl _ _ rfl rfl rfl (E9.out ()) ?_) | (with_reducible show wpList _ _ _ (⟨_, Op.binOp BinOp.geq 3 _ _ _, _, _, _, _⟩ :: _) _ _; refine wpl_geq rfl _ _ rfl rfl rfl (E1.out ()) ?_) | (with_reducible show wpList _ _ _ (⟨_, Op.binOp BinOp.lss 3 _ _ _, _, _, _, _⟩ :: _) _ _; refine wpl_lss rfl _ _ rfl rfl rfl (E2.out ()) ?_) | (with_reducible show wpList _ _ _ (⟨_, Op.binOp BinOp.geq 3 _ _ _, _, _, _, _⟩ :: _) _ _; generalize hstop : wpList _ _ _ _ _ _ = Gstop))
    -- h1.later b coins' slice, o.coins coins' list, 0 gone, (by omega) sum, (Nat.le_refl _) length, (fun _ hx => hx) members, skip facts beside
    rcases int_tri k o.trusts.length with e1 | ⟨e1, e2⟩ | ⟨K, rfl, hK⟩
    case inl =>
      have E3 := hide (fun _ : Unit => e1)
      clear e1
      rw [← hstop]; clear hstop
      have HTZ := hide (fun (x1 x3 : Value) w' (hb : Below w.heap.size w w') S1 S3 => less_total ok hm n' hn2 o.coins o.trusts 0 (by omega) (Nat.le_refl _) (Nat.le_refl _) (fun _ hx => hx) (fun _ hx => hx) hru x1 v2 x3 w' S1 (h2.later hb) S3)
      rw [← HTT.out] at HTZ
      (try rw [Nat.sub_zero] at HTZ)
      go_wp2_with (first | (with_reducible show wpList _ _ _ (⟨_, Op.load 32 _, _, _, _, _⟩ :: _) _ _; refine wpl_ld_orig rfl _ rfl rfl F2 ?_) | (with_reducible show wpList _ _ _ (⟨_, Op.load _ _, _, _, _, _⟩ :: _) _ _; first | refine wpl_load_one rfl 28 _ rfl rfl (OAt.s1 F1) (by kernel_rfl) ?_ | refine wpl_load_one rfl 29 _ rfl rfl (OAt.s2 F1) (by kernel_rfl) ?_ | refine wpl_load_one rfl 30 _ rfl rfl (OAt.s3 F1) (by kernel_rfl) ?_) | (with_reducible show wpList _ _ _ (⟨_, Op.load 23 _, _, _, _, _⟩ :: _) _ _; first | refine wpl_load_one rfl 23 _ rfl rfl (OAt.num F1 h13.out) (by kernel_rfl) ?_ | refine wpl_load_one rfl 23 _ rfl rfl (OAt.num F2 h13.out) (by kernel_rfl) ?_) | (with_reducible show wpList _ _ _ (⟨_, Op.store 23 _ _, _, _, _, _⟩ :: _) _ _; refine wpl_set_onum (n := o.reserves - n') rfl _ _ rfl rfl rfl (by decide) F2 ?_; intro _ t1 ht1; clear F2; replace F1 := F1.tt ht1; (try replace O1 := O1.tg ht1 hgO1); (try replace O3 := O3.tg ht1 hgO3); replace b := below_touch b ht1 hw2 (Nat.le_refl _); have F2 := t1; clear t1 ht1) | (go_at_call 22; refine (HTZ.out _ _ _ b (h1.later b) (h3.later b)).mono ?_; rintro _ _ ⟨rfl, hc⟩; (try replace F1 := F1.later hc); (try replace F2 := F2.later hc); (try replace F3 := F3.later hc); (try replace F4 := F4.later hc); (try replace F5 := F5.later hc); (try replace F6 := F6.later hc); (try replace F7 := F7.later hc); (try replace F8 := F8.later hc); (try replace F9 := F9.later hc); (try replace G1 := G1.later hc); (try replace G2 := G2.later hc); (try replace G3 := G3.later hc); (try replace z := z.later hc); (try replace b := later b hc); (try replace bB := mixed hB bB hc); clear hc) | (go_at_call 16; refine (HW.out _).mono ?_; rintro _ _ ⟨rfl, hc⟩; (try replace F1 := F1.later hc); (try replace F2 := F2.later hc); (try replace F3 := F3.later hc); (try replace F4 := F4.later hc); (try replace F5 := F5.later hc); (try replace F6 := F6.later hc); (try replace F7 := F7.later hc); (try replace F8 := F8.later hc); (try replace F9 := F9.later hc); (try replace G1 := G1.later hc); (try replace G2 := G2.later hc); (try replace G3 := G3.later hc); (try replace z := z.later hc); (try replace b := later b hc); (try replace bB := mixed hB bB hc); clear hc) | (with_reducible show wpList _ _ _ (⟨_, Op.binOp BinOp.geq 3 _ _ _, _, _, _, _⟩ :: _) _ _; refine wpl_geq rfl _ _ rfl rfl rfl (E3.out ()) ?_))
      go_ret
      exact ⟨by simp, b⟩
    case inr.inl =>
      have E3 := hide (fun _ : Unit => e1)
      have E4 := hide (fun _ : Unit => e2)
      clear e1 e2
      rw [← hstop]; clear hstop
      have HTZ := hide (fun (x1 x3 : Value) w' (hb : Below w.heap.size w w') S1 S3 => less_total ok hm n' hn2 o.coins o.trusts 0 (by omega) (Nat.le_refl _) (Nat.le_refl _) (fun _ hx => hx) (fun _ hx => hx) hru x1 v2 x3 w' S1 (h2.later hb) S3)
      rw [← HTT.out] at HTZ
      (try rw [Nat.sub_zero] at HTZ)
      go_wp2_with (first | (with_reducible show wpList _ _ _ (⟨_, Op.load 32 _, _, _, _, _⟩ :: _) _ _; refine wpl_ld_orig rfl _ rfl rfl F2 ?_) | (with_reducible show wpList _ _ _ (⟨_, Op.load _ _, _, _, _, _⟩ :: _) _ _; first | refine wpl_load_one rfl 28 _ rfl rfl (OAt.s1 F1) (by kernel_rfl) ?_ | refine wpl_load_one rfl 29 _ rfl rfl (OAt.s2 F1) (by kernel_rfl) ?_ | refine wpl_load_one rfl 30 _ rfl rfl (OAt.s3 F1) (by kernel_rfl) ?_) | (with_reducible show wpList _ _ _ (⟨_, Op.load 23 _, _, _, _, _⟩ :: _) _ _; first | refine wpl_load_one rfl 23 _ rfl rfl (OAt.num F1 h13.out) (by kernel_rfl) ?_ | refine wpl_load_one rfl 23 _ rfl rfl (OAt.num F2 h13.out) (by kernel_rfl) ?_) | (with_reducible show wpList _ _ _ (⟨_, Op.store 23 _ _, _, _, _, _⟩ :: _) _ _; refine wpl_set_onum (n := o.reserves - n') rfl _ _ rfl rfl rfl (by decide) F2 ?_; intro _ t1 ht1; clear F2; replace F1 := F1.tt ht1; (try replace O1 := O1.tg ht1 hgO1); (try replace O3 := O3.tg ht1 hgO3); replace b := below_touch b ht1 hw2 (Nat.le_refl _); have F2 := t1; clear t1 ht1) | (go_at_call 22; refine (HTZ.out _ _ _ b (h1.later b) (h3.later b)).mono ?_; rintro _ _ ⟨rfl, hc⟩; (try replace F1 := F1.later hc); (try replace F2 := F2.later hc); (try replace F3 := F3.later hc); (try replace F4 := F4.later hc); (try replace F5 := F5.later hc); (try replace F6 := F6.later hc); (try replace F7 := F7.later hc); (try replace F8 := F8.later hc); (try replace F9 := F9.later hc); (try replace G1 := G1.later hc); (try replace G2 := G2.later hc); (try replace G3 := G3.later hc); (try replace z := z.later hc); (try replace b := later b hc); (try replace bB := mixed hB bB hc); clear hc) | (go_at_call 16; refine (HW.out _).mono ?_; rintro _ _ ⟨rfl, hc⟩; (try replace F1 := F1.later hc); (try replace F2 := F2.later hc); (try replace F3 := F3.later hc); (try replace F4 := F4.later hc); (try replace F5 := F5.later hc); (try replace F6 := F6.later hc); (try replace F7 := F7.later hc); (try replace F8 := F8.later hc); (try replace F9 := F9.later hc); (try replace G1 := G1.later hc); (try replace G2 := G2.later hc); (try replace G3 := G3.later hc); (try replace z := z.later hc); (try replace b := later b hc); (try replace bB := mixed hB bB hc); clear hc) | (with_reducible show wpList _ _ _ (⟨_, Op.binOp BinOp.geq 3 _ _ _, _, _, _, _⟩ :: _) _ _; refine wpl_geq rfl _ _ rfl rfl rfl (E3.out ()) ?_) | (with_reducible show wpList _ _ _ (⟨_, Op.binOp BinOp.lss 3 _ _ _, _, _, _, _⟩ :: _) _ _; refine wpl_lss rfl _ _ rfl rfl rfl (E4.out ()) ?_))
      go_ret
      exact ⟨by simp, b⟩
    case inr.inr =>
      have E3 : Hid (∀ _ : Unit, decide ((0 : Int) ≤ (K : Int)) = true) := fun _ => decide_eq_true (by omega)
      have E4 : Hid (∀ _ : Unit, decide ((K : Int) < (o.trusts.length : Int)) = true) := fun _ => decide_eq_true (by omega)
      rw [← hstop]; clear hstop
      go_wp2_with (first | (with_reducible show wpList _ _ _ (⟨_, Op.load _ _, _, _, _, _⟩ :: _) _ _; first | refine wpl_load_one rfl 28 _ rfl rfl (OAt.s1 F1) (by kernel_rfl) ?_ | refine wpl_load_one rfl 29 _ rfl rfl (OAt.s2 F1) (by kernel_rfl) ?_ | refine wpl_load_one rfl 30 _ rfl rfl (OAt.s3 F1) (by kernel_rfl) ?_) | (with_reducible show wpList _ _ _ (⟨_, Op.binOp BinOp.geq 3 _ _ _, _, _, _, _⟩ :: _) _ _; refine wpl_geq rfl _ _ rfl rfl rfl (E3.out ()) ?_) | (with_reducible show wpList _ _ _ (⟨_, Op.binOp BinOp.lss 3 _ _ _, _, _, _, _⟩ :: _) _ _; refine wpl_lss rfl _ _ rfl rfl rfl (E4.out ()) ?_))
      obtain ⟨b3, k3, c3', he, -, -⟩ := h3.block (by omega)
      simp only [Value.slice.injEq] at he
      obtain ⟨rfl, -, rfl⟩ := he
      obtain ⟨ad3, A3, B3, m3, hA, hI1, hI2, hP, hQ, hEa, hEb, hL, hM, hN, hm3⟩ := cut_facts h3 (els_trust ok.trusts) hK
      have PA3 := hide hA
      have PI3 := hide hI1
      have PS3 := hide hI2
      have PP3 := hide hP
      have PQ3 := hide hQ
      have PE3 := hide hEa
      have PF3 := hide hEb
      have PL3 := hide hL
      have PM3 := hide hM
      have PN3 := hide hN
      clear hA hI1 hI2 hP hQ hEa hEb hL hM hN
      have zk : IntKind.i64.wrap ((K : Int) + 1) = ((K + 1 : Nat) : Int) := by rw [IntKind.wrap_i64]; omega
      -- Trust type, trustElem element lemma, 3 names' tail, OAt.s3 F1 load fact, wpl_set_otrusts setter, skip facts beside
      go_wp2_with (with_reducible show Code.wp _ (Code.region _ _ true) _ _ _; (try simp only [Act.put, List.setIfInBounds_toArray, List.set_cons_succ, List.set_cons_zero]); fail)
      (try simp only [Act.put, List.setIfInBounds_toArray, List.set_cons_succ, List.set_cons_zero])
      have hg1 := F1.lt
      have hg2 := F2.lt
      have hwW := b.size
      skip
      refine region_plan (fun x => Below (World.heap _).size _ x) (.one [1, 2, 3, 4, 6, 7, 8, 9, 10] 0 (.one [] 5 (.bar [] 11 (.bar [12] 13 (.stop []))))) (by kernel_rfl) (by kernel_rfl) (by kernel_rfl) (by decide) (lasts_below (Nat.le_refl _)) (Below.refl _ _) ?_
      intro _ _ _ _
      refine plan_one ?_
      simp only [pickOps, opAt, List.getElem?_cons_succ, List.getElem?_cons_zero, List.nil_append, List.cons_append]
      (repeat (first | go_big_quiet_skip | (go_big_quiet_want; first | (refine plan_load_one 30 _ rfl rfl (OAt.s3 F1) (by kernel_rfl) ?_; simp only [Act.put, List.setIfInBounds_toArray, List.set_cons_succ, List.set_cons_zero]; go_big_quiet_on) | (refine quiet_pre trustElem _ _ rfl rfl rfl PI3.out ?_; simp only [Act.put, List.setIfInBounds_toArray, List.set_cons_succ, List.set_cons_zero]; go_big_quiet_on) | (refine quiet_suf trustElem _ _ rfl rfl rfl PS3.out PA3.out ?_; simp only [Act.put, List.setIfInBounds_toArray, List.set_cons_succ, List.set_cons_zero]; go_big_quiet_on) | (go_big_quiet_op; go_big_quiet_on))))
      refine wpQuiet_nil ?_
      intro _ _ hk
      (try replace F1 := F1.later hk); (try replace F2 := F2.later hk); (try replace F3 := F3.later hk); (try replace F4 := F4.later hk); (try replace F5 := F5.later hk); (try replace F6 := F6.later hk); (try replace F7 := F7.later hk); (try replace F8 := F8.later hk); (try replace F9 := F9.later hk); (try replace G1 := G1.later hk); (try replace G2 := G2.later hk); (try replace G3 := G3.later hk); (try replace z := z.later hk); (try replace b := later b hk); (try replace bB := mixed hB bB hk)
      (try replace O1 := O1.later hk)
      have hkz := hk.size
      go_wp2_with ((with_reducible show wpList _ _ _ (⟨_, Op.buildSlice _ _ _, _, _, _, _⟩ :: _) _ _); refine wpl_row0 rfl trustElem rfl ?_; intro _ g9 hg9 O9 hb; replace O9 := O9.base hkz; (try replace F1 := F1.later hb); (try replace F2 := F2.later hb); (try replace F3 := F3.later hb); (try replace F4 := F4.later hb); (try replace F5 := F5.later hb); (try replace F6 := F6.later hb); (try replace F7 := F7.later hb); (try replace F8 := F8.later hb); (try replace F9 := F9.later hb); (try replace G1 := G1.later hb); (try replace G2 := G2.later hb); (try replace G3 := G3.later hb); (try replace z := z.later hb); (try replace b := later b hb); (try replace bB := mixed hB bB hb); (try replace O1 := O1.later hb); replace hk := later hk hb; clear hb)
      refine goQ_same (lasts_below (Nat.le_refl _)) hk ?_
      (try simp only [Act.put, List.setIfInBounds_toArray, List.set_cons_succ, List.set_cons_zero])
      refine plan_one ?_
      simp only [pickOps, opAt, List.getElem?_cons_succ, List.getElem?_cons_zero, List.nil_append, List.cons_append]
      refine wpQuiet_nil ?_
      intro _ hb hk2
      (try replace F1 := F1.later hb); (try replace F2 := F2.later hb); (try replace F3 := F3.later hb); (try replace F4 := F4.later hb); (try replace F5 := F5.later hb); (try replace F6 := F6.later hb); (try replace F7 := F7.later hb); (try replace F8 := F8.later hb); (try replace F9 := F9.later hb); (try replace G1 := G1.later hb); (try replace G2 := G2.later hb); (try replace G3 := G3.later hb); (try replace z := z.later hb); (try replace b := later b hb); (try replace bB := mixed hB bB hb)
      (try replace O1 := O1.later hb)
      replace O9 := O9.later hb
      clear hk hb hkz
      have hk := hk2
      clear hk2
      go_wp2_with ((with_reducible show wpList _ _ _ (⟨_, Op.call _, _, _, _, _⟩ :: _) _ _); refine wpl_append_row rfl _ _ trustElem rfl rfl O9 rfl (PP3.out _ b) PE3.out _ PL3.out (by omega) (by omega) hk.size ?_; intro a8 c8 _ O8 ht _; replace F1 := F1.touch ht (O9.off hg1); replace F2 := F2.touch ht (O9.off hg2); (try replace O1 := O1.beside ht (fun y hy hz => by have := hl1 y hz; have := O9.ge y hy; omega)); replace b := b.trans (ht.below (B := w.heap.size) b.size (fun y hy => Nat.le_trans hwW (O9.ge y hy))); replace hk := hk.trans (ht.below hk.size (fun y hy => O9.ge y hy)); clear O9 ht)
      refine goQ_same (lasts_below (Nat.le_refl _)) hk ?_
      (try simp only [Act.put, List.setIfInBounds_toArray, List.set_cons_succ, List.set_cons_zero])
      refine plan_bar ?_
      simp only [pickOps, opAt, List.getElem?_cons_succ, List.getElem?_cons_zero, List.nil_append, List.cons_append]
      refine wpQuiet_nil ?_
      intro _ hb hk2
      (try replace F1 := F1.later hb); (try replace F2 := F2.later hb); (try replace F3 := F3.later hb); (try replace F4 := F4.later hb); (try replace F5 := F5.later hb); (try replace F6 := F6.later hb); (try replace F7 := F7.later hb); (try replace F8 := F8.later hb); (try replace F9 := F9.later hb); (try replace G1 := G1.later hb); (try replace G2 := G2.later hb); (try replace G3 := G3.later hb); (try replace z := z.later hb); (try replace b := later b hb); (try replace bB := mixed hB bB hb)
      (try replace O1 := O1.later hb)
      replace O8 := O8.later hb
      clear hk hb
      have hk := hk2
      clear hk2
      go_wp2_with ((with_reducible show wpList _ _ _ (⟨_, Op.call _, _, _, _, _⟩ :: _) _ _); refine wpl_append_row rfl _ _ trustElem rfl rfl O8 rfl (PQ3.out _ b) PF3.out _ PM3.out (by omega) (by omega) hk.size ?_; intro a7 c7 _ O7 ht _; replace F1 := F1.touch ht (O8.off hg1); replace F2 := F2.touch ht (O8.off hg2); (try replace O1 := O1.beside ht (fun y hy hz => by have := hl1 y hz; have := O8.ge y hy; omega)); replace b := b.trans (ht.below (B := w.heap.size) b.size (fun y hy => Nat.le_trans hwW (O8.ge y hy))); clear O8 ht hk)
      refine goB_since ?_
      (try simp only [Act.put, List.setIfInBounds_toArray, List.set_cons_succ, List.set_cons_zero])
      refine plan_bar ?_
      simp only [pickOps, opAt, List.getElem?_cons_succ, List.getElem?_cons_zero, List.nil_append, List.cons_append]
      repeat (first | go_big_quiet_skip | (go_big_quiet_want; first | ((with_reducible show Oper.quiet _ ⟨_, Op.load _ _, _, _, _, _⟩ _ _ _); first | fail) | (go_big_quiet_op; first | go_big_quiet_on | (refine ⟨_, fun _ => rfl, ?_⟩; go_big_quiet_on))))
      refine wpQuiet_nil ?_
      intro _ hb _
      (try replace F1 := F1.later hb); (try replace F2 := F2.later hb); (try replace F3 := F3.later hb); (try replace F4 := F4.later hb); (try replace F5 := F5.later hb); (try replace F6 := F6.later hb); (try replace F7 := F7.later hb); (try replace F8 := F8.later hb); (try replace F9 := F9.later hb); (try replace G1 := G1.later hb); (try replace G2 := G2.later hb); (try replace G3 := G3.later hb); (try replace z := z.later hb); (try replace b := later b hb); (try replace bB := mixed hB bB hb)
      (try replace O1 := O1.later hb)
      replace O7 := O7.later hb
      clear hb
      go_wp2_with ((with_reducible show wpList _ _ _ (⟨_, Op.store _ _ _, _, _, _, _⟩ :: _) _ _); refine wpl_set_otrusts rfl _ _ rfl rfl rfl rfl rfl F2 ?_; intro _ t1 ht1; clear F2; replace F1 := F1.tt ht1; (try replace O1 := O1.tg ht1 hgO1); replace O7 := O7.tg ht1 hg2; replace b := below_touch b ht1 hw2 (Nat.le_refl _); have F2 := t1; clear t1 ht1)
      refine goB_since ?_
      (try simp only [Act.put, List.setIfInBounds_toArray, List.set_cons_succ, List.set_cons_zero])
      refine plan_stop ?_
      refine wpQuiet_nil ?_
      intro _ hb _
      (try replace F1 := F1.later hb); (try replace F2 := F2.later hb); (try replace F3 := F3.later hb); (try replace F4 := F4.later hb); (try replace F5 := F5.later hb); (try replace F6 := F6.later hb); (try replace F7 := F7.later hb); (try replace F8 := F8.later hb); (try replace F9 := F9.later hb); (try replace G1 := G1.later hb); (try replace G2 := G2.later hb); (try replace G3 := G3.later hb); (try replace z := z.later hb); (try replace b := later b hb); (try replace bB := mixed hB bB hb)
      (try replace O1 := O1.later hb)
      replace O7 := O7.later hb
      clear hb
      rw [PN3.out] at O7
      have O3 := O7
      have hgO3 := hg2
      clear O7
      have HTZ := hide (fun (x1 x3 : Value) w' (hb : Below w.heap.size w w') S1 S3 => less_total ok hm n' hn2 o.coins (outAt K o.trusts) 0 (by omega) (Nat.le_refl _) (outAt_len K _) (fun _ hx => hx) (fun _ hx => outAt_mem hx) (outAt_rises _ K _ hru) x1 v2 x3 w' S1 (h2.later hb) S3)
      rw [← HTT.out] at HTZ
      (try rw [Nat.sub_zero] at HTZ)
      go_wp2_with (first | (with_reducible show wpList _ _ _ (⟨_, Op.load 32 _, _, _, _, _⟩ :: _) _ _; refine wpl_ld_orig rfl _ rfl rfl F2 ?_) | (with_reducible show wpList _ _ _ (⟨_, Op.load _ _, _, _, _, _⟩ :: _) _ _; first | refine wpl_load_one rfl 28 _ rfl rfl (OAt.s1 F1) (by kernel_rfl) ?_ | refine wpl_load_one rfl 29 _ rfl rfl (OAt.s2 F1) (by kernel_rfl) ?_ | refine wpl_load_one rfl 30 _ rfl rfl (OAt.s3 F1) (by kernel_rfl) ?_) | (with_reducible show wpList _ _ _ (⟨_, Op.load 23 _, _, _, _, _⟩ :: _) _ _; first | refine wpl_load_one rfl 23 _ rfl rfl (OAt.num F1 h13.out) (by kernel_rfl) ?_ | refine wpl_load_one rfl 23 _ rfl rfl (OAt.num F2 h13.out) (by kernel_rfl) ?_) | (with_reducible show wpList _ _ _ (⟨_, Op.store 23 _ _, _, _, _, _⟩ :: _) _ _; refine wpl_set_onum (n := o.reserves - n') rfl _ _ rfl rfl rfl (by decide) F2 ?_; intro _ t1 ht1; clear F2; replace F1 := F1.tt ht1; (try replace O1 := O1.tg ht1 hgO1); (try replace O3 := O3.tg ht1 hgO3); replace b := below_touch b ht1 hw2 (Nat.le_refl _); have F2 := t1; clear t1 ht1) | (go_at_call 22; refine (HTZ.out _ _ _ b (h1.later b) (O3.sl)).mono ?_; rintro _ _ ⟨rfl, hc⟩; (try replace F1 := F1.later hc); (try replace F2 := F2.later hc); (try replace F3 := F3.later hc); (try replace F4 := F4.later hc); (try replace F5 := F5.later hc); (try replace F6 := F6.later hc); (try replace F7 := F7.later hc); (try replace F8 := F8.later hc); (try replace F9 := F9.later hc); (try replace G1 := G1.later hc); (try replace G2 := G2.later hc); (try replace G3 := G3.later hc); (try replace z := z.later hc); (try replace b := later b hc); (try replace bB := mixed hB bB hc); clear hc) | (go_at_call 16; refine (HW.out _).mono ?_; rintro _ _ ⟨rfl, hc⟩; (try replace F1 := F1.later hc); (try replace F2 := F2.later hc); (try replace F3 := F3.later hc); (try replace F4 := F4.later hc); (try replace F5 := F5.later hc); (try replace F6 := F6.later hc); (try replace F7 := F7.later hc); (try replace F8 := F8.later hc); (try replace F9 := F9.later hc); (try replace G1 := G1.later hc); (try replace G2 := G2.later hc); (try replace G3 := G3.later hc); (try replace z := z.later hc); (try replace b := later b hc); (try replace bB := mixed hB bB hc); clear hc))
      go_ret
      exact ⟨by simp, b⟩
  case inr.inr =>
    have E1 : Hid (∀ _ : Unit, decide ((0 : Int) ≤ (I : Int)) = true) := fun _ => decide_eq_true (by omega)
    have E2 : Hid (∀ _ : Unit, decide ((I : Int) < (o.coins.length : Int)) = true) := fun _ => decide_eq_true (by omega)
    obtain ⟨b1, k1, c1', he, -, hcs⟩ := h1.block (by omega)
    simp only [Value.slice.injEq] at he
    obtain ⟨rfl, -, rfl⟩ := he
    obtain ⟨x, hx, okx⟩ := get_ok ok.coins hI
    have d2 := (outR2 (hcs I x hx) okx).one
    have HD2 := hide (fun w' (hb : Below w.heap.size w w') => (outR2 ((hcs I x hx).later hb) okx).one)
    have hsum := outAt_sum hx
    have HSM := hide hsum
    obtain ⟨G, hG⟩ : ∃ G, G = x.amount := ⟨_, rfl⟩
    rw [← hG] at HSM hsum HD2
    obtain ⟨ad1, A1, B1, m1, hA, hI1, hI2, hP, hQ, hEa, hEb, hL, hM, hN, hm1⟩ := cut_facts h1 (els_out ok.coins) hI
    have PA1 := hide hA
    have PI1 := hide hI1
    have PS1 := hide hI2
    have PP1 := hide hP
    have PQ1 := hide hQ
    have PE1 := hide hEa
    have PF1 := hide hEb
    have PL1 := hide hL
    have PM1 := hide hM
    have PN1 := hide hN
    have HTG : Hid (n' + G ≤ T) := by have := HTT.out; rw [this]; unfold totalN; exact hide (by omega)
    clear hA hI1 hI2 hP hQ hEa hEb hL hM hN d2 hsum hG hx hcs okx
    have zi : IntKind.i64.wrap ((I : Int) + 1) = ((I + 1 : Nat) : Int) := by rw [IntKind.wrap_i64]; omega
    have zg : IntKind.u64.wrap ((T : Int) - (G : Int)) = ((T - G : Nat) : Int) := by rw [IntKind.wrap_u64]; have := HTL.out; have := HTG.out; omega
    have z2 : IntKind.u64.wrap (((T - G : Nat) : Int) - (n' : Int)) = ((T - G - n' : Nat) : Int) := by rw [IntKind.wrap_u64]; have := HTL.out; have := HTG.out; omega
    have mF1 := True.intro
    have mF2 := True.intro
    go_enter Try.func6, Try.ntmps6
    go_wp2_with (first | (with_reducible show wpList _ _ _ (⟨_, Op.box _ _, _, _, _, _⟩ :: _) _ _; clear mF1; refine wpl_box_orig rfl _ rfl rfl hl15 hnl o1 o2 o3 ?_; intro _ g1 hg1 F1 hb; (try replace F1 := F1.later hb); (try replace F2 := F2.later hb); (try replace F3 := F3.later hb); (try replace F4 := F4.later hb); (try replace F5 := F5.later hb); (try replace F6 := F6.later hb); (try replace F7 := F7.later hb); (try replace F8 := F8.later hb); (try replace F9 := F9.later hb); (try replace G1 := G1.later hb); (try replace G2 := G2.later hb); (try replace G3 := G3.later hb); (try replace z := z.later hb); (try replace b := later b hb); (try replace bB := mixed hB bB hb); clear hb) | (with_reducible show wpList _ _ _ (⟨_, Op.alloc 32, _, _, _, _⟩ :: _) _ _; clear mF2; have q1 := F1.lt; refine wpl_mk_orig rfl rfl ?_; have qw := b.size; intro _ g2 hg2 F2 hb; have h12 : g1 < g2 := (by omega); have hw2 : w.heap.size ≤ g2 := (by omega); replace F1 := F1.later hb; replace b := later b hb; clear hb q1 qw) | (with_reducible show wpList _ _ _ (⟨_, Op.store 32 _ _, _, _, _, _⟩ :: _) _ _; refine wpl_set_orig rfl _ _ rfl rfl (ns := origNs o) (nc := o.nonce) (v1 := .slice (some ⟨b1, k1, none⟩) o.coins.length cp1) (v2 := v2) (v3 := .slice a3 o.trusts.length cp3) rfl hl15 hnl o1 o2 o3 F2 ?_; intro _ t1 ht1; clear F2; replace F1 := F1.tt ht1; replace b := below_touch b ht1 hw2 (Nat.le_refl _); have F2 := t1; clear t1 ht1) | (with_reducible show wpList _ _ _ (⟨_, Op.load 32 _, _, _, _, _⟩ :: _) _ _; first | refine wpl_ld_orig rfl _ rfl rfl F1 ?_ | refine wpl_ld_orig rfl _ rfl rfl F2 ?_) | (go_at_call 20; refine (HG.out _ b).mono ?_; rintro _ _ ⟨rfl, hc⟩; (try replace F1 := F1.later hc); (try replace F2 := F2.later hc); (try replace F3 := F3.later hc); (try replace F4 := F4.later hc); (try replace F5 := F5.later hc); (try replace F6 := F6.later hc); (try replace F7 := F7.later hc); (try replace F8 := F8.later hc); (try replace F9 := F9.later hc); (try replace G1 := G1.later hc); (try replace G2 := G2.later hc); (try replace G3 := G3.later hc); (try replace z := z.later hc); (try replace b := later b hc); (try replace bB := mixed hB bB hc); clear hc) | (go_at_call 25; refine (HM.out _ b).mono ?_; rintro _ _ ⟨rfl, hc⟩; (try replace F1 := F1.later hc); (try replace F2 := F2.later hc); (try replace F3 := F3.later hc); (try replace F4 := F4.later hc); (try replace F5 := F5.later hc); (try replace F6 := F6.later hc); (try replace F7 := F7.later hc); (try replace F8 := F8.later hc); (try replace F9 := F9.later hc); (try replace G1 := G1.later hc); (try replace G2 := G2.later hc); (try replace G3 := G3.later hc); (try replace z := z.later hc); (try replace b := later b hc); (try replace bB := mixed hB bB hc); clear hc) | (go_at_call 22; refine (HT1.out _ b).mono ?_; rintro _ _ ⟨rfl, hc⟩; (try replace F1 := F1.later hc); (try replace F2 := F2.later hc); (try replace F3 := F3.later hc); (try replace F4 := F4.later hc); (try replace F5 := F5.later hc); (try replace F6 := F6.later hc); (try replace F7 := F7.later hc); (try replace F8 := F8.later hc); (try replace F9 := F9.later hc); (try replace G1 := G1.later hc); (try replace G2 := G2.later hc); (try replace G3 := G3.later hc); (try replace z := z.later hc); (try replace b := later b hc); (try replace bB := mixed hB bB hc); clear hc) | (with_reducible show wpList _ _ _ (⟨_, Op.load _ _, _, _, _, _⟩ :: _) _ _; first | refine wpl_load_one rfl 28 _ rfl rfl (OAt.s1 F1) (by kernel_rfl) ?_ | refine wpl_load_one rfl 29 _ rfl rfl (OAt.s2 F1) (by kernel_rfl) ?_ | refine wpl_load_one rfl 30 _ rfl rfl (OAt.s3 F1) (by kernel_rfl) ?_) | (with_reducible show wpList _ _ _ (⟨_, Op.load 23 _, _, _, _, _⟩ :: _) _ _; first | refine wpl_load_one rfl 23 _ rfl rfl (OAt.num F1 h13.out) (by kernel_rfl) ?_ | refine wpl_load_one rfl 23 _ rfl rfl (OAt.num F2 h13.out) (by kernel_rfl) ?_) | (with_reducible show wpList _ _ _ (⟨_, Op.binOp BinOp.geq 23 _ _ _, _, _, _, _⟩ :: _) _ _; refine wpl_geq rfl _ _ rfl rfl rfl (E9.out ()) ?_) | (with_reducible show wpList _ _ _ (⟨_, Op.binOp BinOp.geq 3 _ _ _, _, _, _, _⟩ :: _) _ _; refine wpl_geq rfl _ _ rfl rfl rfl (E1.out ()) ?_) | (with_reducible show wpList _ _ _ (⟨_, Op.binOp BinOp.lss 3 _ _ _, _, _, _, _⟩ :: _) _ _; refine wpl_lss rfl _ _ rfl rfl rfl (E2.out ()) ?_))
    -- Out type, outElem element lemma, 1 names' tail, OAt.s1 F1 load fact, wpl_set_ocoins setter, skip facts beside
    go_wp2_with (with_reducible show Code.wp _ (Code.region _ _ true) _ _ _; (try simp only [Act.put, List.setIfInBounds_toArray, List.set_cons_succ, List.set_cons_zero]); fail)
    (try simp only [Act.put, List.setIfInBounds_toArray, List.set_cons_succ, List.set_cons_zero])
    have hg1 := F1.lt
    have hg2 := F2.lt
    have hwW := b.size
    skip
    refine region_plan (fun x => Below (World.heap _).size _ x) (.one [1, 2, 3, 4, 6, 7, 8, 9, 10] 0 (.one [] 5 (.bar [] 11 (.bar [12] 13 (.stop []))))) (by kernel_rfl) (by kernel_rfl) (by kernel_rfl) (by decide) (lasts_below (Nat.le_refl _)) (Below.refl _ _) ?_
    intro _ _ _ _
    refine plan_one ?_
    simp only [pickOps, opAt, List.getElem?_cons_succ, List.getElem?_cons_zero, List.nil_append, List.cons_append]
    (repeat (first | go_big_quiet_skip | (go_big_quiet_want; first | (refine plan_load_one 28 _ rfl rfl (OAt.s1 F1) (by kernel_rfl) ?_; simp only [Act.put, List.setIfInBounds_toArray, List.set_cons_succ, List.set_cons_zero]; go_big_quiet_on) | (refine quiet_pre outElem _ _ rfl rfl rfl PI1.out ?_; simp only [Act.put, List.setIfInBounds_toArray, List.set_cons_succ, List.set_cons_zero]; go_big_quiet_on) | (refine quiet_suf outElem _ _ rfl rfl rfl PS1.out PA1.out ?_; simp only [Act.put, List.setIfInBounds_toArray, List.set_cons_succ, List.set_cons_zero]; go_big_quiet_on) | (go_big_quiet_op; go_big_quiet_on))))
    refine wpQuiet_nil ?_
    intro _ _ hk
    (try replace F1 := F1.later hk); (try replace F2 := F2.later hk); (try replace F3 := F3.later hk); (try replace F4 := F4.later hk); (try replace F5 := F5.later hk); (try replace F6 := F6.later hk); (try replace F7 := F7.later hk); (try replace F8 := F8.later hk); (try replace F9 := F9.later hk); (try replace G1 := G1.later hk); (try replace G2 := G2.later hk); (try replace G3 := G3.later hk); (try replace z := z.later hk); (try replace b := later b hk); (try replace bB := mixed hB bB hk)
    (try replace O1 := O1.later hk)
    have hkz := hk.size
    go_wp2_with ((with_reducible show wpList _ _ _ (⟨_, Op.buildSlice _ _ _, _, _, _, _⟩ :: _) _ _); refine wpl_row0 rfl outElem rfl ?_; intro _ g9 hg9 O9 hb; replace O9 := O9.base hkz; (try replace F1 := F1.later hb); (try replace F2 := F2.later hb); (try replace F3 := F3.later hb); (try replace F4 := F4.later hb); (try replace F5 := F5.later hb); (try replace F6 := F6.later hb); (try replace F7 := F7.later hb); (try replace F8 := F8.later hb); (try replace F9 := F9.later hb); (try replace G1 := G1.later hb); (try replace G2 := G2.later hb); (try replace G3 := G3.later hb); (try replace z := z.later hb); (try replace b := later b hb); (try replace bB := mixed hB bB hb); (try replace O1 := O1.later hb); replace hk := later hk hb; clear hb)
    refine goQ_same (lasts_below (Nat.le_refl _)) hk ?_
    (try simp only [Act.put, List.setIfInBounds_toArray, List.set_cons_succ, List.set_cons_zero])
    refine plan_one ?_
    simp only [pickOps, opAt, List.getElem?_cons_succ, List.getElem?_cons_zero, List.nil_append, List.cons_append]
    refine wpQuiet_nil ?_
    intro _ hb hk2
    (try replace F1 := F1.later hb); (try replace F2 := F2.later hb); (try replace F3 := F3.later hb); (try replace F4 := F4.later hb); (try replace F5 := F5.later hb); (try replace F6 := F6.later hb); (try replace F7 := F7.later hb); (try replace F8 := F8.later hb); (try replace F9 := F9.later hb); (try replace G1 := G1.later hb); (try replace G2 := G2.later hb); (try replace G3 := G3.later hb); (try replace z := z.later hb); (try replace b := later b hb); (try replace bB := mixed hB bB hb)
    (try replace O1 := O1.later hb)
    replace O9 := O9.later hb
    clear hk hb hkz
    have hk := hk2
    clear hk2
    go_wp2_with ((with_reducible show wpList _ _ _ (⟨_, Op.call _, _, _, _, _⟩ :: _) _ _); refine wpl_append_row rfl _ _ outElem rfl rfl O9 rfl (PP1.out _ b) PE1.out _ PL1.out (by omega) (by omega) hk.size ?_; intro a8 c8 _ O8 ht _; replace F1 := F1.touch ht (O9.off hg1); replace F2 := F2.touch ht (O9.off hg2); (try replace O1 := O1.beside ht (fun y hy hz => by have := hl1 y hz; have := O9.ge y hy; omega)); replace b := b.trans (ht.below (B := w.heap.size) b.size (fun y hy => Nat.le_trans hwW (O9.ge y hy))); replace hk := hk.trans (ht.below hk.size (fun y hy => O9.ge y hy)); clear O9 ht)
    refine goQ_same (lasts_below (Nat.le_refl _)) hk ?_
    (try simp only [Act.put, List.setIfInBounds_toArray, List.set_cons_succ, List.set_cons_zero])
    refine plan_bar ?_
    simp only [pickOps, opAt, List.getElem?_cons_succ, List.getElem?_cons_zero, List.nil_append, List.cons_append]
    refine wpQuiet_nil ?_
    intro _ hb hk2
    (try replace F1 := F1.later hb); (try replace F2 := F2.later hb); (try replace F3 := F3.later hb); (try replace F4 := F4.later hb); (try replace F5 := F5.later hb); (try replace F6 := F6.later hb); (try replace F7 := F7.later hb); (try replace F8 := F8.later hb); (try replace F9 := F9.later hb); (try replace G1 := G1.later hb); (try replace G2 := G2.later hb); (try replace G3 := G3.later hb); (try replace z := z.later hb); (try replace b := later b hb); (try replace bB := mixed hB bB hb)
    (try replace O1 := O1.later hb)
    replace O8 := O8.later hb
    clear hk hb
    have hk := hk2
    clear hk2
    go_wp2_with ((with_reducible show wpList _ _ _ (⟨_, Op.call _, _, _, _, _⟩ :: _) _ _); refine wpl_append_row rfl _ _ outElem rfl rfl O8 rfl (PQ1.out _ b) PF1.out _ PM1.out (by omega) (by omega) hk.size ?_; intro a7 c7 _ O7 ht _; replace F1 := F1.touch ht (O8.off hg1); replace F2 := F2.touch ht (O8.off hg2); (try replace O1 := O1.beside ht (fun y hy hz => by have := hl1 y hz; have := O8.ge y hy; omega)); replace b := b.trans (ht.below (B := w.heap.size) b.size (fun y hy => Nat.le_trans hwW (O8.ge y hy))); clear O8 ht hk)
    refine goB_since ?_
    (try simp only [Act.put, List.setIfInBounds_toArray, List.set_cons_succ, List.set_cons_zero])
    refine plan_bar ?_
    simp only [pickOps, opAt, List.getElem?_cons_succ, List.getElem?_cons_zero, List.nil_append, List.cons_append]
    repeat (first | go_big_quiet_skip | (go_big_quiet_want; first | ((with_reducible show Oper.quiet _ ⟨_, Op.load _ _, _, _, _, _⟩ _ _ _); first | fail) | (go_big_quiet_op; first | go_big_quiet_on | (refine ⟨_, fun _ => rfl, ?_⟩; go_big_quiet_on))))
    refine wpQuiet_nil ?_
    intro _ hb _
    (try replace F1 := F1.later hb); (try replace F2 := F2.later hb); (try replace F3 := F3.later hb); (try replace F4 := F4.later hb); (try replace F5 := F5.later hb); (try replace F6 := F6.later hb); (try replace F7 := F7.later hb); (try replace F8 := F8.later hb); (try replace F9 := F9.later hb); (try replace G1 := G1.later hb); (try replace G2 := G2.later hb); (try replace G3 := G3.later hb); (try replace z := z.later hb); (try replace b := later b hb); (try replace bB := mixed hB bB hb)
    (try replace O1 := O1.later hb)
    replace O7 := O7.later hb
    clear hb
    go_wp2_with ((with_reducible show wpList _ _ _ (⟨_, Op.store _ _ _, _, _, _, _⟩ :: _) _ _); refine wpl_set_ocoins rfl _ _ rfl rfl rfl rfl rfl F2 ?_; intro _ t1 ht1; clear F2; replace F1 := F1.tt ht1; (try replace O1 := O1.tg ht1 hgO1); replace O7 := O7.tg ht1 hg2; replace b := below_touch b ht1 hw2 (Nat.le_refl _); have F2 := t1; clear t1 ht1)
    refine goB_since ?_
    (try simp only [Act.put, List.setIfInBounds_toArray, List.set_cons_succ, List.set_cons_zero])
    refine plan_stop ?_
    refine wpQuiet_nil ?_
    intro _ hb _
    (try replace F1 := F1.later hb); (try replace F2 := F2.later hb); (try replace F3 := F3.later hb); (try replace F4 := F4.later hb); (try replace F5 := F5.later hb); (try replace F6 := F6.later hb); (try replace F7 := F7.later hb); (try replace F8 := F8.later hb); (try replace F9 := F9.later hb); (try replace G1 := G1.later hb); (try replace G2 := G2.later hb); (try replace G3 := G3.later hb); (try replace z := z.later hb); (try replace b := later b hb); (try replace bB := mixed hB bB hb)
    (try replace O1 := O1.later hb)
    replace O7 := O7.later hb
    clear hb
    rw [PN1.out] at O7
    have O1 := O7
    have hgO1 := hg2
    clear O7
    go_wp2_with (first | (with_reducible show wpList _ _ _ (⟨_, Op.load _ _, _, _, _, _⟩ :: _) _ _; first | refine wpl_load_one rfl 28 _ rfl rfl (OAt.s1 F1) (by kernel_rfl) ?_ | refine wpl_load_one rfl 29 _ rfl rfl (OAt.s2 F1) (by kernel_rfl) ?_ | refine wpl_load_one rfl 30 _ rfl rfl (OAt.s3 F1) (by kernel_rfl) ?_) | (with_reducible show wpList _ _ _ (⟨_, Op.load 23 _, _, _, _, _⟩ :: _) _ _; refine wpl_load_one rfl 23 _ rfl rfl (HD2.out _ b) (by kernel_rfl) ?_) | (with_reducible show wpList _ _ _ (⟨_, Op.binOp BinOp.geq 3 _ _ _, _, _, _, _⟩ :: _) _ _; generalize hstop : wpList _ _ _ _ _ _ = Gstop))
    -- O1.sl coins' slice, (outAt I o.coins) coins' list, G gone, HSM.out sum, (outAt_len I _) length, (fun _ hx => outAt_mem hx) members, have hl1 := O1.lt facts beside
    rcases int_tri k o.trusts.length with e1 | ⟨e1, e2⟩ | ⟨K, rfl, hK⟩
    case inl =>
      have E3 := hide (fun _ : Unit => e1)
      clear e1
      rw [← hstop]; clear hstop
      have HTZ := hide (fun (x1 x3 : Value) w' (hb : Below w.heap.size w w') S1 S3 => less_total ok hm n' hn2 (outAt I o.coins) o.trusts G HSM.out (outAt_len I _) (Nat.le_refl _) (fun _ hx => outAt_mem hx) (fun _ hx => hx) hru x1 v2 x3 w' S1 (h2.later hb) S3)
      rw [← HTT.out] at HTZ
      (try rw [Nat.sub_zero] at HTZ)
      go_wp2_with (first | (with_reducible show wpList _ _ _ (⟨_, Op.load 32 _, _, _, _, _⟩ :: _) _ _; refine wpl_ld_orig rfl _ rfl rfl F2 ?_) | (with_reducible show wpList _ _ _ (⟨_, Op.load _ _, _, _, _, _⟩ :: _) _ _; first | refine wpl_load_one rfl 28 _ rfl rfl (OAt.s1 F1) (by kernel_rfl) ?_ | refine wpl_load_one rfl 29 _ rfl rfl (OAt.s2 F1) (by kernel_rfl) ?_ | refine wpl_load_one rfl 30 _ rfl rfl (OAt.s3 F1) (by kernel_rfl) ?_) | (with_reducible show wpList _ _ _ (⟨_, Op.load 23 _, _, _, _, _⟩ :: _) _ _; first | refine wpl_load_one rfl 23 _ rfl rfl (OAt.num F1 h13.out) (by kernel_rfl) ?_ | refine wpl_load_one rfl 23 _ rfl rfl (OAt.num F2 h13.out) (by kernel_rfl) ?_) | (with_reducible show wpList _ _ _ (⟨_, Op.store 23 _ _, _, _, _, _⟩ :: _) _ _; refine wpl_set_onum (n := o.reserves - n') rfl _ _ rfl rfl rfl (by decide) F2 ?_; intro _ t1 ht1; clear F2; replace F1 := F1.tt ht1; (try replace O1 := O1.tg ht1 hgO1); (try replace O3 := O3.tg ht1 hgO3); replace b := below_touch b ht1 hw2 (Nat.le_refl _); have F2 := t1; clear t1 ht1) | (go_at_call 22; refine (HTZ.out _ _ _ b (O1.sl) (h3.later b)).mono ?_; rintro _ _ ⟨rfl, hc⟩; (try replace F1 := F1.later hc); (try replace F2 := F2.later hc); (try replace F3 := F3.later hc); (try replace F4 := F4.later hc); (try replace F5 := F5.later hc); (try replace F6 := F6.later hc); (try replace F7 := F7.later hc); (try replace F8 := F8.later hc); (try replace F9 := F9.later hc); (try replace G1 := G1.later hc); (try replace G2 := G2.later hc); (try replace G3 := G3.later hc); (try replace z := z.later hc); (try replace b := later b hc); (try replace bB := mixed hB bB hc); clear hc) | (go_at_call 16; refine (HW.out _).mono ?_; rintro _ _ ⟨rfl, hc⟩; (try replace F1 := F1.later hc); (try replace F2 := F2.later hc); (try replace F3 := F3.later hc); (try replace F4 := F4.later hc); (try replace F5 := F5.later hc); (try replace F6 := F6.later hc); (try replace F7 := F7.later hc); (try replace F8 := F8.later hc); (try replace F9 := F9.later hc); (try replace G1 := G1.later hc); (try replace G2 := G2.later hc); (try replace G3 := G3.later hc); (try replace z := z.later hc); (try replace b := later b hc); (try replace bB := mixed hB bB hc); clear hc) | (with_reducible show wpList _ _ _ (⟨_, Op.binOp BinOp.geq 3 _ _ _, _, _, _, _⟩ :: _) _ _; refine wpl_geq rfl _ _ rfl rfl rfl (E3.out ()) ?_))
      go_ret
      exact ⟨by simp, b⟩
    case inr.inl =>
      have E3 := hide (fun _ : Unit => e1)
      have E4 := hide (fun _ : Unit => e2)
      clear e1 e2
      rw [← hstop]; clear hstop
      have HTZ := hide (fun (x1 x3 : Value) w' (hb : Below w.heap.size w w') S1 S3 => less_total ok hm n' hn2 (outAt I o.coins) o.trusts G HSM.out (outAt_len I _) (Nat.le_refl _) (fun _ hx => outAt_mem hx) (fun _ hx => hx) hru x1 v2 x3 w' S1 (h2.later hb) S3)
      rw [← HTT.out] at HTZ
      (try rw [Nat.sub_zero] at HTZ)
      go_wp2_with (first | (with_reducible show wpList _ _ _ (⟨_, Op.load 32 _, _, _, _, _⟩ :: _) _ _; refine wpl_ld_orig rfl _ rfl rfl F2 ?_) | (with_reducible show wpList _ _ _ (⟨_, Op.load _ _, _, _, _, _⟩ :: _) _ _; first | refine wpl_load_one rfl 28 _ rfl rfl (OAt.s1 F1) (by kernel_rfl) ?_ | refine wpl_load_one rfl 29 _ rfl rfl (OAt.s2 F1) (by kernel_rfl) ?_ | refine wpl_load_one rfl 30 _ rfl rfl (OAt.s3 F1) (by kernel_rfl) ?_) | (with_reducible show wpList _ _ _ (⟨_, Op.load 23 _, _, _, _, _⟩ :: _) _ _; first | refine wpl_load_one rfl 23 _ rfl rfl (OAt.num F1 h13.out) (by kernel_rfl) ?_ | refine wpl_load_one rfl 23 _ rfl rfl (OAt.num F2 h13.out) (by kernel_rfl) ?_) | (with_reducible show wpList _ _ _ (⟨_, Op.store 23 _ _, _, _, _, _⟩ :: _) _ _; refine wpl_set_onum (n := o.reserves - n') rfl _ _ rfl rfl rfl (by decide) F2 ?_; intro _ t1 ht1; clear F2; replace F1 := F1.tt ht1; (try replace O1 := O1.tg ht1 hgO1); (try replace O3 := O3.tg ht1 hgO3); replace b := below_touch b ht1 hw2 (Nat.le_refl _); have F2 := t1; clear t1 ht1) | (go_at_call 22; refine (HTZ.out _ _ _ b (O1.sl) (h3.later b)).mono ?_; rintro _ _ ⟨rfl, hc⟩; (try replace F1 := F1.later hc); (try replace F2 := F2.later hc); (try replace F3 := F3.later hc); (try replace F4 := F4.later hc); (try replace F5 := F5.later hc); (try replace F6 := F6.later hc); (try replace F7 := F7.later hc); (try replace F8 := F8.later hc); (try replace F9 := F9.later hc); (try replace G1 := G1.later hc); (try replace G2 := G2.later hc); (try replace G3 := G3.later hc); (try replace z := z.later hc); (try replace b := later b hc); (try replace bB := mixed hB bB hc); clear hc) | (go_at_call 16; refine (HW.out _).mono ?_; rintro _ _ ⟨rfl, hc⟩; (try replace F1 := F1.later hc); (try replace F2 := F2.later hc); (try replace F3 := F3.later hc); (try replace F4 := F4.later hc); (try replace F5 := F5.later hc); (try replace F6 := F6.later hc); (try replace F7 := F7.later hc); (try replace F8 := F8.later hc); (try replace F9 := F9.later hc); (try replace G1 := G1.later hc); (try replace G2 := G2.later hc); (try replace G3 := G3.later hc); (try replace z := z.later hc); (try replace b := later b hc); (try replace bB := mixed hB bB hc); clear hc) | (with_reducible show wpList _ _ _ (⟨_, Op.binOp BinOp.geq 3 _ _ _, _, _, _, _⟩ :: _) _ _; refine wpl_geq rfl _ _ rfl rfl rfl (E3.out ()) ?_) | (with_reducible show wpList _ _ _ (⟨_, Op.binOp BinOp.lss 3 _ _ _, _, _, _, _⟩ :: _) _ _; refine wpl_lss rfl _ _ rfl rfl rfl (E4.out ()) ?_))
      go_ret
      exact ⟨by simp, b⟩
    case inr.inr =>
      have E3 : Hid (∀ _ : Unit, decide ((0 : Int) ≤ (K : Int)) = true) := fun _ => decide_eq_true (by omega)
      have E4 : Hid (∀ _ : Unit, decide ((K : Int) < (o.trusts.length : Int)) = true) := fun _ => decide_eq_true (by omega)
      rw [← hstop]; clear hstop
      go_wp2_with (first | (with_reducible show wpList _ _ _ (⟨_, Op.load _ _, _, _, _, _⟩ :: _) _ _; first | refine wpl_load_one rfl 28 _ rfl rfl (OAt.s1 F1) (by kernel_rfl) ?_ | refine wpl_load_one rfl 29 _ rfl rfl (OAt.s2 F1) (by kernel_rfl) ?_ | refine wpl_load_one rfl 30 _ rfl rfl (OAt.s3 F1) (by kernel_rfl) ?_) | (with_reducible show wpList _ _ _ (⟨_, Op.binOp BinOp.geq 3 _ _ _, _, _, _, _⟩ :: _) _ _; refine wpl_geq rfl _ _ rfl rfl rfl (E3.out ()) ?_) | (with_reducible show wpList _ _ _ (⟨_, Op.binOp BinOp.lss 3 _ _ _, _, _, _, _⟩ :: _) _ _; refine wpl_lss rfl _ _ rfl rfl rfl (E4.out ()) ?_))
      obtain ⟨b3, k3, c3', he, -, -⟩ := h3.block (by omega)
      simp only [Value.slice.injEq] at he
      obtain ⟨rfl, -, rfl⟩ := he
      obtain ⟨ad3, A3, B3, m3, hA, hI1, hI2, hP, hQ, hEa, hEb, hL, hM, hN, hm3⟩ := cut_facts h3 (els_trust ok.trusts) hK
      have PA3 := hide hA
      have PI3 := hide hI1
      have PS3 := hide hI2
      have PP3 := hide hP
      have PQ3 := hide hQ
      have PE3 := hide hEa
      have PF3 := hide hEb
      have PL3 := hide hL
      have PM3 := hide hM
      have PN3 := hide hN
      clear hA hI1 hI2 hP hQ hEa hEb hL hM hN
      have zk : IntKind.i64.wrap ((K : Int) + 1) = ((K + 1 : Nat) : Int) := by rw [IntKind.wrap_i64]; omega
      -- Trust type, trustElem element lemma, 3 names' tail, OAt.s3 F1 load fact, wpl_set_otrusts setter, have hl1 := O1.lt facts beside
      go_wp2_with (with_reducible show Code.wp _ (Code.region _ _ true) _ _ _; (try simp only [Act.put, List.setIfInBounds_toArray, List.set_cons_succ, List.set_cons_zero]); fail)
      (try simp only [Act.put, List.setIfInBounds_toArray, List.set_cons_succ, List.set_cons_zero])
      have hg1 := F1.lt
      have hg2 := F2.lt
      have hwW := b.size
      have hl1 := O1.lt
      refine region_plan (fun x => Below (World.heap _).size _ x) (.one [1, 2, 3, 4, 6, 7, 8, 9, 10] 0 (.one [] 5 (.bar [] 11 (.bar [12] 13 (.stop []))))) (by kernel_rfl) (by kernel_rfl) (by kernel_rfl) (by decide) (lasts_below (Nat.le_refl _)) (Below.refl _ _) ?_
      intro _ _ _ _
      refine plan_one ?_
      simp only [pickOps, opAt, List.getElem?_cons_succ, List.getElem?_cons_zero, List.nil_append, List.cons_append]
      (repeat (first | go_big_quiet_skip | (go_big_quiet_want; first | (refine plan_load_one 30 _ rfl rfl (OAt.s3 F1) (by kernel_rfl) ?_; simp only [Act.put, List.setIfInBounds_toArray, List.set_cons_succ, List.set_cons_zero]; go_big_quiet_on) | (refine quiet_pre trustElem _ _ rfl rfl rfl PI3.out ?_; simp only [Act.put, List.setIfInBounds_toArray, List.set_cons_succ, List.set_cons_zero]; go_big_quiet_on) | (refine quiet_suf trustElem _ _ rfl rfl rfl PS3.out PA3.out ?_; simp only [Act.put, List.setIfInBounds_toArray, List.set_cons_succ, List.set_cons_zero]; go_big_quiet_on) | (go_big_quiet_op; go_big_quiet_on))))
      refine wpQuiet_nil ?_
      intro _ _ hk
      (try replace F1 := F1.later hk); (try replace F2 := F2.later hk); (try replace F3 := F3.later hk); (try replace F4 := F4.later hk); (try replace F5 := F5.later hk); (try replace F6 := F6.later hk); (try replace F7 := F7.later hk); (try replace F8 := F8.later hk); (try replace F9 := F9.later hk); (try replace G1 := G1.later hk); (try replace G2 := G2.later hk); (try replace G3 := G3.later hk); (try replace z := z.later hk); (try replace b := later b hk); (try replace bB := mixed hB bB hk)
      (try replace O1 := O1.later hk)
      have hkz := hk.size
      go_wp2_with ((with_reducible show wpList _ _ _ (⟨_, Op.buildSlice _ _ _, _, _, _, _⟩ :: _) _ _); refine wpl_row0 rfl trustElem rfl ?_; intro _ g9 hg9 O9 hb; replace O9 := O9.base hkz; (try replace F1 := F1.later hb); (try replace F2 := F2.later hb); (try replace F3 := F3.later hb); (try replace F4 := F4.later hb); (try replace F5 := F5.later hb); (try replace F6 := F6.later hb); (try replace F7 := F7.later hb); (try replace F8 := F8.later hb); (try replace F9 := F9.later hb); (try replace G1 := G1.later hb); (try replace G2 := G2.later hb); (try replace G3 := G3.later hb); (try replace z := z.later hb); (try replace b := later b hb); (try replace bB := mixed hB bB hb); (try replace O1 := O1.later hb); replace hk := later hk hb; clear hb)
      refine goQ_same (lasts_below (Nat.le_refl _)) hk ?_
      (try simp only [Act.put, List.setIfInBounds_toArray, List.set_cons_succ, List.set_cons_zero])
      refine plan_one ?_
      simp only [pickOps, opAt, List.getElem?_cons_succ, List.getElem?_cons_zero, List.nil_append, List.cons_append]
      refine wpQuiet_nil ?_
      intro _ hb hk2
      (try replace F1 := F1.later hb); (try replace F2 := F2.later hb); (try replace F3 := F3.later hb); (try replace F4 := F4.later hb); (try replace F5 := F5.later hb); (try replace F6 := F6.later hb); (try replace F7 := F7.later hb); (try replace F8 := F8.later hb); (try replace F9 := F9.later hb); (try replace G1 := G1.later hb); (try replace G2 := G2.later hb); (try replace G3 := G3.later hb); (try replace z := z.later hb); (try replace b := later b hb); (try replace bB := mixed hB bB hb)
      (try replace O1 := O1.later hb)
      replace O9 := O9.later hb
      clear hk hb hkz
      have hk := hk2
      clear hk2
      go_wp2_with ((with_reducible show wpList _ _ _ (⟨_, Op.call _, _, _, _, _⟩ :: _) _ _); refine wpl_append_row rfl _ _ trustElem rfl rfl O9 rfl (PP3.out _ b) PE3.out _ PL3.out (by omega) (by omega) hk.size ?_; intro a8 c8 _ O8 ht _; replace F1 := F1.touch ht (O9.off hg1); replace F2 := F2.touch ht (O9.off hg2); (try replace O1 := O1.beside ht (fun y hy hz => by have := hl1 y hz; have := O9.ge y hy; omega)); replace b := b.trans (ht.below (B := w.heap.size) b.size (fun y hy => Nat.le_trans hwW (O9.ge y hy))); replace hk := hk.trans (ht.below hk.size (fun y hy => O9.ge y hy)); clear O9 ht)
      refine goQ_same (lasts_below (Nat.le_refl _)) hk ?_
      (try simp only [Act.put, List.setIfInBounds_toArray, List.set_cons_succ, List.set_cons_zero])
      refine plan_bar ?_
      simp only [pickOps, opAt, List.getElem?_cons_succ, List.getElem?_cons_zero, List.nil_append, List.cons_append]
      refine wpQuiet_nil ?_
      intro _ hb hk2
      (try replace F1 := F1.later hb); (try replace F2 := F2.later hb); (try replace F3 := F3.later hb); (try replace F4 := F4.later hb); (try replace F5 := F5.later hb); (try replace F6 := F6.later hb); (try replace F7 := F7.later hb); (try replace F8 := F8.later hb); (try replace F9 := F9.later hb); (try replace G1 := G1.later hb); (try replace G2 := G2.later hb); (try replace G3 := G3.later hb); (try replace z := z.later hb); (try replace b := later b hb); (try replace bB := mixed hB bB hb)
      (try replace O1 := O1.later hb)
      replace O8 := O8.later hb
      clear hk hb
      have hk := hk2
      clear hk2
      go_wp2_with ((with_reducible show wpList _ _ _ (⟨_, Op.call _, _, _, _, _⟩ :: _) _ _); refine wpl_append_row rfl _ _ trustElem rfl rfl O8 rfl (PQ3.out _ b) PF3.out _ PM3.out (by omega) (by omega) hk.size ?_; intro a7 c7 _ O7 ht _; replace F1 := F1.touch ht (O8.off hg1); replace F2 := F2.touch ht (O8.off hg2); (try replace O1 := O1.beside ht (fun y hy hz => by have := hl1 y hz; have := O8.ge y hy; omega)); replace b := b.trans (ht.below (B := w.heap.size) b.size (fun y hy => Nat.le_trans hwW (O8.ge y hy))); clear O8 ht hk)
      refine goB_since ?_
      (try simp only [Act.put, List.setIfInBounds_toArray, List.set_cons_succ, List.set_cons_zero])
      refine plan_bar ?_
      simp only [pickOps, opAt, List.getElem?_cons_succ, List.getElem?_cons_zero, List.nil_append, List.cons_append]
      repeat (first | go_big_quiet_skip | (go_big_quiet_want; first | ((with_reducible show Oper.quiet _ ⟨_, Op.load _ _, _, _, _, _⟩ _ _ _); first | fail) | (go_big_quiet_op; first | go_big_quiet_on | (refine ⟨_, fun _ => rfl, ?_⟩; go_big_quiet_on))))
      refine wpQuiet_nil ?_
      intro _ hb _
      (try replace F1 := F1.later hb); (try replace F2 := F2.later hb); (try replace F3 := F3.later hb); (try replace F4 := F4.later hb); (try replace F5 := F5.later hb); (try replace F6 := F6.later hb); (try replace F7 := F7.later hb); (try replace F8 := F8.later hb); (try replace F9 := F9.later hb); (try replace G1 := G1.later hb); (try replace G2 := G2.later hb); (try replace G3 := G3.later hb); (try replace z := z.later hb); (try replace b := later b hb); (try replace bB := mixed hB bB hb)
      (try replace O1 := O1.later hb)
      replace O7 := O7.later hb
      clear hb
      go_wp2_with ((with_reducible show wpList _ _ _ (⟨_, Op.store _ _ _, _, _, _, _⟩ :: _) _ _); refine wpl_set_otrusts rfl _ _ rfl rfl rfl rfl rfl F2 ?_; intro _ t1 ht1; clear F2; replace F1 := F1.tt ht1; (try replace O1 := O1.tg ht1 hgO1); replace O7 := O7.tg ht1 hg2; replace b := below_touch b ht1 hw2 (Nat.le_refl _); have F2 := t1; clear t1 ht1)
      refine goB_since ?_
      (try simp only [Act.put, List.setIfInBounds_toArray, List.set_cons_succ, List.set_cons_zero])
      refine plan_stop ?_
      refine wpQuiet_nil ?_
      intro _ hb _
      (try replace F1 := F1.later hb); (try replace F2 := F2.later hb); (try replace F3 := F3.later hb); (try replace F4 := F4.later hb); (try replace F5 := F5.later hb); (try replace F6 := F6.later hb); (try replace F7 := F7.later hb); (try replace F8 := F8.later hb); (try replace F9 := F9.later hb); (try replace G1 := G1.later hb); (try replace G2 := G2.later hb); (try replace G3 := G3.later hb); (try replace z := z.later hb); (try replace b := later b hb); (try replace bB := mixed hB bB hb)
      (try replace O1 := O1.later hb)
      replace O7 := O7.later hb
      clear hb
      rw [PN3.out] at O7
      have O3 := O7
      have hgO3 := hg2
      clear O7
      have HTZ := hide (fun (x1 x3 : Value) w' (hb : Below w.heap.size w w') S1 S3 => less_total ok hm n' hn2 (outAt I o.coins) (outAt K o.trusts) G HSM.out (outAt_len I _) (outAt_len K _) (fun _ hx => outAt_mem hx) (fun _ hx => outAt_mem hx) (outAt_rises _ K _ hru) x1 v2 x3 w' S1 (h2.later hb) S3)
      rw [← HTT.out] at HTZ
      (try rw [Nat.sub_zero] at HTZ)
      go_wp2_with (first | (with_reducible show wpList _ _ _ (⟨_, Op.load 32 _, _, _, _, _⟩ :: _) _ _; refine wpl_ld_orig rfl _ rfl rfl F2 ?_) | (with_reducible show wpList _ _ _ (⟨_, Op.load _ _, _, _, _, _⟩ :: _) _ _; first | refine wpl_load_one rfl 28 _ rfl rfl (OAt.s1 F1) (by kernel_rfl) ?_ | refine wpl_load_one rfl 29 _ rfl rfl (OAt.s2 F1) (by kernel_rfl) ?_ | refine wpl_load_one rfl 30 _ rfl rfl (OAt.s3 F1) (by kernel_rfl) ?_) | (with_reducible show wpList _ _ _ (⟨_, Op.load 23 _, _, _, _, _⟩ :: _) _ _; first | refine wpl_load_one rfl 23 _ rfl rfl (OAt.num F1 h13.out) (by kernel_rfl) ?_ | refine wpl_load_one rfl 23 _ rfl rfl (OAt.num F2 h13.out) (by kernel_rfl) ?_) | (with_reducible show wpList _ _ _ (⟨_, Op.store 23 _ _, _, _, _, _⟩ :: _) _ _; refine wpl_set_onum (n := o.reserves - n') rfl _ _ rfl rfl rfl (by decide) F2 ?_; intro _ t1 ht1; clear F2; replace F1 := F1.tt ht1; (try replace O1 := O1.tg ht1 hgO1); (try replace O3 := O3.tg ht1 hgO3); replace b := below_touch b ht1 hw2 (Nat.le_refl _); have F2 := t1; clear t1 ht1) | (go_at_call 22; refine (HTZ.out _ _ _ b (O1.sl) (O3.sl)).mono ?_; rintro _ _ ⟨rfl, hc⟩; (try replace F1 := F1.later hc); (try replace F2 := F2.later hc); (try replace F3 := F3.later hc); (try replace F4 := F4.later hc); (try replace F5 := F5.later hc); (try replace F6 := F6.later hc); (try replace F7 := F7.later hc); (try replace F8 := F8.later hc); (try replace F9 := F9.later hc); (try replace G1 := G1.later hc); (try replace G2 := G2.later hc); (try replace G3 := G3.later hc); (try replace z := z.later hc); (try replace b := later b hc); (try replace bB := mixed hB bB hc); clear hc) | (go_at_call 16; refine (HW.out _).mono ?_; rintro _ _ ⟨rfl, hc⟩; (try replace F1 := F1.later hc); (try replace F2 := F2.later hc); (try replace F3 := F3.later hc); (try replace F4 := F4.later hc); (try replace F5 := F5.later hc); (try replace F6 := F6.later hc); (try replace F7 := F7.later hc); (try replace F8 := F8.later hc); (try replace F9 := F9.later hc); (try replace G1 := G1.later hc); (try replace G2 := G2.later hc); (try replace G3 := G3.later hc); (try replace z := z.later hc); (try replace b := later b hc); (try replace bB := mixed hB bB hc); clear hc))
      go_ret
      exact ⟨by simp, b⟩
theorem originLess_any (w : World) (v : Value) (o : Orig) (h : OrigIs w v o) (hc1 : o.coins.length * 72 ≤ reachBytes) (hc2 : o.seats.length * 88 ≤ reachBytes) (hc3 : o.trusts.length * 64 ≤ reachBytes) (i : Int) (_ : (Lit.int .i64 i).wf = true) (k : Int) (_ : (Lit.int .i64 k).wf = true) (x : Int) (hx : (Lit.int .u64 x).wf = true) :
    Calls Try.prog 6 #[v, .int .i64 i, .int .i64 k, .int .u64 x] w fun e w' => e = .returned (.bool true) ∧ Below w.heap.size w w' := by
  have hR := reachBytes_lt
  have hw := wf_u64 hx
  obtain ⟨n, rfl⟩ : ∃ n : Nat, x = n := ⟨x.toNat, by omega⟩
  cases hm : mayOr o with
  | true => exact less_main w v o h i k n (by unfold U64; omega) (mayOr_few h.ok hm) hm
  | false => exact less_works w v o h i k n (by omega) (by omega) (by omega) (.inr hm)
end Go.Proofs.Ytbbfnpfkbbpjgaa
