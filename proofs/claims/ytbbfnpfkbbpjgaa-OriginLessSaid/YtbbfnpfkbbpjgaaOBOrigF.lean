/- The reference of layer 16: Bytes, Id, Same. Printed by gen_orefbytes.py. -/
import Derived.Test.YtbbfnpfkbbpjgaaOBOrigA
import Derived.Test.YtbbfnpfkbbpjgaaOBOrigD
import Derived.Test.YtbbfnpfkbbpjgaaOBMCells
import Derived.Test.YtbbfnpfkbbpjgaaOBStSeat
namespace Go.Proofs.Ytbbfnpfkbbpjgaa
open Go.RowKit Go.Lib
set_option linter.unusedVariables false
set_option linter.unusedSimpArgs false

theorem rput_any (n : Nat) (w : World) (hn : U64 n) : Calls Try.prog 113 #[.int .u64 n] w fun e w' => e = .returned (.string ⟨(putL n).toArray⟩) ∧ Below w.heap.size w w' := refPut_lit n n w rfl hn
theorem seat_le (x : SeatT) (h : x.Ok) : (seatL x).length ≤ 160 := by
  have h1 := putL_length x.pledge
  have h2 := putL_length x.cost
  have h3 := putL_length x.margin
  unfold seatL
  simp only [List.length_append, h.1, h.2.1]
  omega
theorem trust_le (x : TrustT) (h : x.Ok) : (trustL x).length ≤ 160 := by
  unfold trustL
  simp only [List.length_append, h.1, h.2]
  omega
theorem out_le' (x : OutT) (h : x.Ok) : (outtL x).length ≤ 160 := Nat.le_trans (out_le x h) (by decide)
theorem flat_small {α : Type} {f : α → List UInt8} {Ok : α → Prop} (hl : ∀ x, Ok x → (f x).length ≤ 160) {l : List α} (ho : ∀ x ∈ l, Ok x) (hm : l.length ≤ 32) (k : Nat) : ((l.take k).flatMap f).length ≤ 5120 := by
  have h1 := flat_le f (l.take k) 160 (fun y hy => hl y (ho y (List.mem_of_mem_take hy)))
  have h2 : (l.take k).length ≤ 32 := by rw [List.length_take]; omega
  have h3 : (l.take k).length * 160 ≤ 32 * 160 := Nat.mul_le_mul_right _ h2
  omega
theorem origL_eq (o : Orig) : origL o = (((((((((origNs o).flatMap putL ++ o.nonce) ++ putL o.coins.length) ++ o.coins.flatMap outtL) ++ putL o.seats.length) ++ o.seats.flatMap seatL) ++ putL o.trusts.length) ++ o.trusts.flatMap trustL)) := by
  unfold origL origNs listL
  simp only [List.flatMap_cons, List.flatMap_append, List.flatMap_nil, List.append_nil, List.append_assoc]
theorem origL_small {o : Orig} (hf : o.Few) : (origL o).length ≤ 20000 := by
  have h1 := flat_small out_le' hf.ok.coins hf.coins 32
  have h2 := flat_small seat_le hf.ok.seats (Nat.le_trans hf.seats (by decide)) 32
  have h3 := flat_small trust_le hf.ok.trusts hf.trusts 32
  have h4 := flat_le putL (origNs o) 10 (fun y _ => putL_length y)
  rw [List.take_of_length_le hf.coins] at h1
  rw [List.take_of_length_le (Nat.le_trans hf.seats (by decide))] at h2
  rw [List.take_of_length_le hf.trusts] at h3
  rw [origNs_length hf.ok] at h4
  have p1 := putL_length o.coins.length
  have p2 := putL_length o.seats.length
  have p3 := putL_length o.trusts.length
  rw [origL_eq]
  simp only [List.length_append, hf.ok.nonce]
  omega
theorem nums_small {L : List Nat} (hm : L.length ≤ 15) (k : Nat) : ((L.take k).flatMap putL).length ≤ 150 := by
  have h1 := flat_le putL (L.take k) 10 (fun y _ => putL_length y)
  have h2 : (L.take k).length ≤ 15 := by rw [List.length_take]; omega
  omega
theorem pars_more {A ps : List Nat} {k n : Nat} (h : ps[k]? = some n) : numsC (A ++ ps.take (k + 1)) = numsC (A ++ ps.take k) ++ [numC n] := by
  obtain ⟨hk, rfl⟩ := List.getElem?_eq_some_iff.1 h
  rw [List.take_succ_eq_append_getElem hk, ← List.append_assoc, numsC_app]
  rfl
theorem nums_at {ns A ps B : List Nat} {k n : Nat} (h : ns = A ++ (ps ++ B)) (hA : A.length = 5) (hn : ps[k]? = some n) : ns[5 + k]? = some n := by
  rw [h, List.getElem?_append_right (by omega), hA, show 5 + k - 5 = k by omega, List.getElem?_append_left (List.getElem?_eq_some_iff.1 hn).1, hn]
theorem pars_len {A ps : List Nat} {k : Nat} (hA : A.length = 5) (h : k ≤ ps.length) : (numsC (A ++ ps.take k)).length = k + 5 := by
  rw [numsC_length, List.length_append, List.length_take, hA, Nat.min_eq_left h]; omega
set_option maxRecDepth 100000 in
set_option maxHeartbeats 12800000 in
theorem orefBytes_any (v : Value) (o : Orig) (w : World) (h : OrigIs w v o) (hf : o.Few) :
    Calls Try.prog 44 #[v] w fun e w' => e = .returned (.string ⟨(origL o).toArray⟩) ∧ Below w.heap.size w w' := by
  have HAT := origNs_at h.ok
  have hl15 := origNs_length h.ok
  have HU := hide (origNs_u64 h.ok)
  obtain ⟨v1, v2, v3, rfl, h1, h2, h3, ok⟩ := h
  obtain ⟨a1, c1, rfl, -⟩ := h1.shape
  obtain ⟨a2, c2, rfl, -⟩ := h2.shape
  obtain ⟨a3, c3, rfl, -⟩ := h3.shape
  have hnl := ok.nonce
  have h0 := hide HAT.1
  have h1' := hide HAT.2.1
  have h2' := hide HAT.2.2.1
  have h3' := hide HAT.2.2.2.1
  have h4' := hide HAT.2.2.2.2.1
  have h13 := hide HAT.2.2.2.2.2.1
  have h14 := hide HAT.2.2.2.2.2.2
  have HP8 := hide ok.plen
  have HNS : Hid (origNs o = [o.k, o.epoch, o.period, o.rateA, o.rateB] ++ (o.params ++ [o.reserves, o.treasury])) := rfl
  have HL1 := hide ok.coins
  have HL2 := hide ok.seats
  have HL3 := hide ok.trusts
  have m1 := hf.coins
  have m2 := hf.seats
  have m3 := hf.trusts
  obtain ⟨RES, hRES⟩ : ∃ R, R = origL o := ⟨_, rfl⟩
  rw [← hRES]
  rw [origL_eq o] at hRES
  have HRES := hide hRES
  have HNB := hide (fun w => refBytes_any o.nonce w ok.nonce)
  clear ok hf HAT hRES
  generalize origNs o = ns at *
  generalize o.nonce = nc at *
  generalize o.params = ps at *
  generalize o.k = k' at *
  generalize o.epoch = e' at *
  generalize o.period = p' at *
  generalize o.rateA = ra at *
  generalize o.rateB = rb at *
  generalize o.reserves = rs at *
  generalize o.treasury = tr at *
  generalize o.coins = l1 at *
  generalize o.seats = l2 at *
  generalize o.trusts = l3 at *
  clear o
  obtain ⟨n1, hn1⟩ : ∃ n, n = l1.length := ⟨_, rfl⟩
  obtain ⟨n2, hn2⟩ : ∃ n, n = l2.length := ⟨_, rfl⟩
  obtain ⟨n3, hn3⟩ : ∃ n, n = l3.length := ⟨_, rfl⟩
  have HN1 := hide hn1
  have HN2 := hide hn2
  have HN3 := hide hn3
  rw [← hn1] at h1 m1 HRES ⊢
  rw [← hn2] at h2 m2 HRES ⊢
  rw [← hn3] at h3 m3 HRES ⊢
  clear hn1 hn2 hn3
  obtain ⟨A5, hA5⟩ : ∃ A, A = [k', e', p', ra, rb] := ⟨_, rfl⟩
  have HP0 : Hid ([(0, Value.int .u64 (k' : Int)), (1, .int .u64 (e' : Int)), (2, .int .u64 (p' : Int)), (3, .int .u64 (ra : Int)), (4, .int .u64 (rb : Int))] = (numCs A5).zipIdx.map fun x => (x.2, x.1)) := by rw [hA5]; exact hide rfl
  have HP2 : Hid ([(0, Value.int .u64 (rs : Int)), (1, .int .u64 (tr : Int))] = (numCs [rs, tr]).zipIdx.map fun x => (x.2, x.1)) := rfl
  have HA5 : Hid (A5.length = 5) := by rw [hA5]; exact hide rfl
  rw [← hA5] at HNS
  clear hA5
  have b := Below.refl w.heap.size w
  have mF1 := True.intro
  have mO1 := True.intro
  go_enter Try.func44, Try.ntmps44
  go_wp2_with (first | (with_reducible show wpList _ _ _ (⟨_, Op.box _ _, _, _, _, _⟩ :: _) _ _; clear mF1; refine wpl_box_orig rfl _ rfl rfl hl15 hnl rfl rfl rfl ?_; intro _ g1 hg1 F1 hb; (try replace F1 := F1.later hb); (try replace F2 := F2.later hb); (try replace F3 := F3.later hb); (try replace F4 := F4.later hb); (try replace F5 := F5.later hb); (try replace F6 := F6.later hb); (try replace F7 := F7.later hb); (try replace F8 := F8.later hb); (try replace F9 := F9.later hb); (try replace G1 := G1.later hb); (try replace G2 := G2.later hb); (try replace G3 := G3.later hb); (try replace z := z.later hb); (try replace b := later b hb); (try replace bB := mixed hB bB hb); clear hb) | (with_reducible show wpList _ _ _ (⟨_, Op.load 23 _, _, _, _, _⟩ :: _) _ _; first | refine wpl_load_one rfl 23 _ rfl rfl (OAt.num F1 h0.out) (by kernel_rfl) ?_ | refine wpl_load_one rfl 23 _ rfl rfl (OAt.num F1 h1'.out) (by kernel_rfl) ?_ | refine wpl_load_one rfl 23 _ rfl rfl (OAt.num F1 h2'.out) (by kernel_rfl) ?_ | refine wpl_load_one rfl 23 _ rfl rfl (OAt.num F1 h3'.out) (by kernel_rfl) ?_ | refine wpl_load_one rfl 23 _ rfl rfl (OAt.num F1 h4'.out) (by kernel_rfl) ?_) | ((with_reducible show wpList _ _ _ (⟨_, Op.buildSlice _ _ _, _, _, _, _⟩ :: _) _ _); clear mO1; refine wpl_numsR rfl 5 _ rfl A5 HA5.out (by simp only [List.map_toArray, List.map_cons, List.map_nil]; exact HP0.out) (by decide) (by decide) ?_; intro _ g9 B hBB hg9 O1 hb; have q1 : g1 < B := (by have := F1.lt; omega); have qw : w.heap.size ≤ B := (by have := b.size; omega); have qB := hb.size; rw [hBB] at qB; clear hBB; replace F1 := F1.later hb; replace b := later b hb; clear hb))
  clear h0 h1' h2' h3' h4' HP0
  go_loopw [3, 4] (fun s i wr => ∃ k : Nat, i = .int .i64 k ∧ k ≤ 8 ∧ OwnR wr B 23 1 s (numsC (A5 ++ ps.take k)) [] ∧ OAt wr g1 ns nc (.slice a1 n1 c1) (.slice a2 n2 c2) (.slice a3 n3 c3) ∧ Below w.heap.size w wr ∧ B ≤ wr.heap.size) (fun _ i _ => 8 - (RowKit.intOf i).toNat)
  case atStart => exact ⟨0, rfl, by omega, by simpa using O1, F1, b, qB⟩
  clear b O1 F1 qB
  obtain ⟨k, rfl, hk, O1, F1, b, qB⟩ := hrel
  by_cases hlt : k < 8
  case pos =>
    obtain ⟨n, hn⟩ : ∃ n, ps[k]? = some n := ⟨_, List.getElem?_eq_getElem (by rw [HP8.out]; exact hlt)⟩
    have HN := hide (nums_at HNS.out HA5.out hn)
    have HX := hide (pars_more (A := A5) hn)
    have HP := hide (pars_len (ps := ps) (k := k) HA5.out (by rw [HP8.out]; omega))
    obtain ⟨aS, cS, rfl⟩ := O1.shape
    rw [HP.out] at O1 ⊢
    clear hn
    go_wp2_with (first | (with_reducible show wpList _ _ _ (⟨_, Op.load 23 _, _, _, _, _⟩ :: _) _ _; refine wpl_load_one rfl 23 _ rfl rfl (OAt.num F1 HN.out) (by kernel_rfl) ?_) | ((with_reducible show wpList _ _ _ (⟨_, Op.buildSlice _ _ _, _, _, _, _⟩ :: _) _ _); refine wpl_row1 rfl numElem (by decide) _ rfl (v := .int .u64 ((n : Nat) : Int)) (el := numC n) rfl rfl rfl (numC_one _) ?_; intro _ g9 h9 O9 hb; replace O1 := O1.later hb; replace F1 := F1.later hb; replace qB := Nat.le_trans qB hb.size; replace b := later b hb; clear hb) | ((with_reducible show wpList _ _ _ (⟨_, Op.call _, _, _, _, _⟩ :: _) _ _); refine wpl_append_row rfl _ _ numElem rfl rfl O1 rfl O9.sl O9.2.1 (k + 6) (by rw [HP.out]; rfl) (by omega) (by omega) qB ?_; intro a2' c2' w2 O2 ht2 _; replace F1 := F1.touch ht2 (O1.off q1); replace b := b.trans (ht2.below (B := w.heap.size) b.size (fun y hy => Nat.le_trans qw (O1.ge y hy))); replace qB := Nat.le_trans qB ht2.size; clear O1 O9 ht2))
    go_roundw
    case rel => exact ⟨k + 1, by simp, by omega, by rw [HX.out]; exact O2, F1, b, qB⟩
    case measure => simp [RowKit.intOf]; omega
  obtain rfl : k = 8 := by omega
  rw [List.take_of_length_le (by rw [HP8.out]; exact Nat.le_refl _)] at O1
  have HP : Hid ((numsC (A5 ++ ps)).length = 13) := by rw [numsC_length, List.length_append, HA5.out, HP8.out]; exact hide rfl
  have HQ : Hid (numsC (A5 ++ ps) ++ numsC [rs, tr] = numsC ns) := by rw [HNS.out, ← numsC_app, List.append_assoc]; exact hide rfl
  obtain ⟨aS, cS, rfl⟩ := O1.shape
  rw [HP.out] at O1 ⊢
  clear hlt hk
  go_wp2_with (first | (with_reducible show wpList _ _ _ (⟨_, Op.load 23 _, _, _, _, _⟩ :: _) _ _; first | refine wpl_load_one rfl 23 _ rfl rfl (OAt.num F1 h13.out) (by kernel_rfl) ?_ | refine wpl_load_one rfl 23 _ rfl rfl (OAt.num F1 h14.out) (by kernel_rfl) ?_) | ((with_reducible show wpList _ _ _ (⟨_, Op.buildSlice _ _ _, _, _, _, _⟩ :: _) _ _); refine wpl_numsR rfl 2 _ rfl [rs, tr] rfl (by simp only [List.map_toArray, List.map_cons, List.map_nil]; exact HP2.out) (by decide) (by decide) ?_; intro _ g9 B9 hB9 hg9 O9 hb; replace O1 := O1.later hb; replace F1 := F1.later hb; replace qB := Nat.le_trans qB hb.size; replace b := later b hb; clear hb) | ((with_reducible show wpList _ _ _ (⟨_, Op.call _, _, _, _, _⟩ :: _) _ _); refine wpl_append_row rfl _ _ numElem rfl rfl O1 rfl O9.sl O9.2.1 15 (by rw [HP.out]; rfl) (by omega) (by omega) qB ?_; intro a2' c2' w2 O2 ht2 _; replace F1 := F1.touch ht2 (O1.off q1); replace b := b.trans (ht2.below (B := w.heap.size) b.size (fun y hy => Nat.le_trans qw (O1.ge y hy))); replace qB := Nat.le_trans qB ht2.size; clear O1 O9 ht2))
  rw [HQ.out] at O2
  clear HP HQ HP2 h13 h14
  go_loopw [5, 6] (fun s i wr => ∃ (k : Nat) (S : ByteArray), i = .int .i64 k ∧ k ≤ 15 ∧ s = .string S ∧ Hid (S = ⟨((ns.take k).flatMap putL).toArray⟩) ∧ OwnR wr B 23 1 (.slice a2' 15 c2') (numsC ns) [] ∧ OAt wr g1 ns nc (.slice a1 n1 c1) (.slice a2 n2 c2) (.slice a3 n3 c3) ∧ Below w.heap.size w wr) (fun _ i _ => 15 - (RowKit.intOf i).toNat)
  case atStart => exact ⟨0, _, rfl, by omega, rfl, hide rfl, O2, F1, b⟩
  clear b O2 F1 qB
  obtain ⟨k, S, rfl, hk, rfl, HS, O1, F1, b⟩ := hrel
  by_cases hlt : k < 15
  case pos =>
    obtain ⟨n, hn⟩ : ∃ n, ns[k]? = some n := ⟨_, List.getElem?_eq_getElem (by rw [hl15]; exact hlt)⟩
    obtain ⟨bb, k0, c', he, _, hcs⟩ := Sl.block (f := numC) (l := ns) O1.sl (by rw [hl15]; decide)
    simp only [Value.slice.injEq] at he
    obtain ⟨rfl, -, rfl⟩ := he
    have d1 := (hcs k n hn).num
    have HPN := hide (fun w => rput_any n w (HU.out n (List.mem_of_getElem? hn)))
    have HNX := hide (flat_next putL ns k n hn)
    have e0 : S.size ≤ 150 := by rw [HS.out, ba_size]; exact nums_small (by omega) k
    obtain ⟨x0, hx0⟩ : ∃ u : ByteArray, u = ⟨(putL n).toArray⟩ := ⟨_, rfl⟩
    have e1 : x0.size ≤ 10 := by rw [hx0, ba_size]; exact putL_length n
    rw [← hx0] at HPN
    have z1 : ¬ 9223372036854775807 < S.size + x0.size := by omega
    have HSN : Hid (S ++ x0 = ⟨((ns.take (k + 1)).flatMap putL).toArray⟩) := by
      unfold Hid
      rw [HS.out, hx0, cat_bytes, HNX.out]
    clear hcs hn hx0 e0 e1 HNX HU
    go_wp2_with (first | (with_reducible show wpList _ _ _ (⟨_, Op.load _ _, _, _, _, _⟩ :: _) _ _; refine wpl_load_one rfl 23 _ rfl rfl d1 (by kernel_rfl) ?_) | (go_at_call 113; refine (HPN.out _).mono ?_; rintro _ _ ⟨rfl, hc⟩; replace O1 := O1.later hc; replace F1 := F1.later hc; replace b := later b hc; clear hc))
    generalize S ++ x0 = T at *
    go_roundw
    case rel => exact ⟨k + 1, T, by simp, by omega, rfl, HSN, O1, F1, b⟩
    case measure => simp [RowKit.intOf]; omega
  obtain rfl : k = 15 := by omega
  rw [List.take_of_length_le (by omega)] at HS
  clear hlt hk O1 HU
  have e0 : S.size ≤ 150 := by
    have := nums_small (L := ns) (by omega) 15
    rw [List.take_of_length_le (by omega)] at this
    rw [HS.out, ba_size]
    exact this
  have HPN := hide (fun w => rput_any n1 w (show n1 < 18446744073709551616 by omega))
  obtain ⟨x0, hx0⟩ : ∃ u : ByteArray, u = ⟨nc.toArray⟩ := ⟨_, rfl⟩
  obtain ⟨x1, hx1⟩ : ∃ u : ByteArray, u = ⟨(putL n1).toArray⟩ := ⟨_, rfl⟩
  have e1 : x0.size = 32 := by rw [hx0, ba_size, hnl]
  have e2 : x1.size ≤ 10 := by rw [hx1, ba_size]; exact putL_length n1
  rw [← hx0] at HNB
  rw [← hx1] at HPN
  have z1 : ¬ 9223372036854775807 < S.size + x0.size := by omega
  have z2 : ¬ 9223372036854775807 < (S ++ x0).size + x1.size := by rw [ByteArray.size_append]; omega
  have kw : IntKind.u64.wrap (n1 : Int) = (n1 : Int) := by rw [IntKind.wrap_u64]; omega
  obtain ⟨X, hX⟩ : ∃ X, X = ((ns.flatMap putL ++ nc) ++ putL n1) := ⟨_, rfl⟩
  have HSN : Hid (S ++ x0 ++ x1 = ⟨X.toArray⟩) := by
    unfold Hid
    rw [HS.out, hx0, hx1, cat_bytes, cat_bytes, hX]
  have hXL : X.length ≤ 200 := by
    have h1 : (S ++ x0 ++ x1).size = X.length := by rw [HSN.out, ba_size]
    rw [← h1, ByteArray.size_append, ByteArray.size_append]
    omega
  rw [← hX] at HRES
  clear hx0 hx1 e0 e1 e2 HS hX
  go_wp2_with (with_reducible show Code.wp _ (Code.region _ _ true) _ _ _; (try simp only [Act.put, List.setIfInBounds_toArray, List.set_cons_succ, List.set_cons_zero]); fail)
  (try simp only [Act.put, List.setIfInBounds_toArray, List.set_cons_succ, List.set_cons_zero])
  refine region_since (by kernel_rfl) (by kernel_rfl) ?_
  repeat (first | go_big_quiet_skip | (go_big_quiet_want; first | ((with_reducible show Oper.quiet _ ⟨_, Op.load _ _, _, _, _, _⟩ _ _ _); first | (refine since_load_elem _ rfl rfl (OAt.nonce F1) (hnl) ?_; simp only [Act.put, List.setIfInBounds_toArray, List.set_cons_succ, List.set_cons_zero]; go_big_quiet_on) | (refine since_load_one 28 _ rfl rfl (OAt.s1 F1) (by kernel_rfl) ?_; simp only [Act.put, List.setIfInBounds_toArray, List.set_cons_succ, List.set_cons_zero]; go_big_quiet_on)) | (go_big_quiet_op; first | go_big_quiet_on | (refine ⟨_, fun _ => since_of (HNB.out _), ?_⟩; go_big_quiet_on) | (refine ⟨_, fun _ => since_of (HPN.out _), ?_⟩; go_big_quiet_on))))
  refine wpQuiet_nil ?_
  intro _ hq
  (try replace F1 := F1.later hq); (try replace F2 := F2.later hq); (try replace F3 := F3.later hq); (try replace F4 := F4.later hq); (try replace F5 := F5.later hq); (try replace F6 := F6.later hq); (try replace F7 := F7.later hq); (try replace F8 := F8.later hq); (try replace F9 := F9.later hq); (try replace G1 := G1.later hq); (try replace G2 := G2.later hq); (try replace G3 := G3.later hq); (try replace z := z.later hq); (try replace b := later b hq); (try replace bB := mixed hB bB hq)
  clear hq HNB HPN kw z1 z2
  generalize S ++ x0 ++ x1 = T at *
  go_wp2_with fail
  go_loopw [5, 7] (fun s i wr => ∃ (k : Nat) (S : ByteArray), i = .int .i64 k ∧ k ≤ n1 ∧ s = .string S ∧ Hid (S = ⟨(X ++ (l1.take k).flatMap outtL).toArray⟩) ∧ OAt wr g1 ns nc (.slice a1 n1 c1) (.slice a2 n2 c2) (.slice a3 n3 c3) ∧ Below w.heap.size w wr) (fun _ i _ => n1 - (RowKit.intOf i).toNat)
  case atStart => exact ⟨0, _, rfl, by omega, rfl, by rw [List.take_zero, List.flatMap_nil, List.append_nil]; exact HSN, F1, b⟩
  clear b F1 HSN
  obtain ⟨k, S, rfl, hk, rfl, HS, F1, b⟩ := hrel
  by_cases hlt : k < n1
  case pos =>
    obtain ⟨x, hx, okx⟩ := get_ok HL1.out (k := k) (by rw [← HN1.out]; exact hlt)
    obtain ⟨bb, k0, c', he, _, hcs⟩ := (h1.later b).block (by rw [← HN1.out]; omega)
    simp only [Value.slice.injEq] at he
    obtain ⟨rfl, -, rfl⟩ := he
    have d1 := hcs k x hx
    have OX := hide okx
    clear hcs okx
    have HNX := hide (flat_next outtL l1 k x hx)
    have e0 : S.size ≤ 5320 := by
      have := flat_small out_le' HL1.out (by rw [← HN1.out]; omega) k
      rw [HS.out, ba_size, List.length_append]
      omega
    obtain ⟨y0, hy0⟩ : ∃ u : ByteArray, u = ⟨x.dst.toArray⟩ := ⟨_, rfl⟩
    have HH0 : Hid (x.dst.length = 32) := OX.out.1
    have u0 : y0.size ≤ 32 := by rw [hy0, ba_size, HH0.out]; exact Nat.le_refl _
    have HC0 := hide (fun w => refBytes_any x.dst w HH0.out)
    rw [← hy0] at HC0
    have z0 : ¬ 9223372036854775807 < (S).size + y0.size := by omega
    obtain ⟨y1, hy1⟩ : ∃ u : ByteArray, u = ⟨x.stake.toArray⟩ := ⟨_, rfl⟩
    have HH1 : Hid (x.stake.length = 32) := OX.out.2.1
    have u1 : y1.size ≤ 32 := by rw [hy1, ba_size, HH1.out]; exact Nat.le_refl _
    have HC1 := hide (fun w => refBytes_any x.stake w HH1.out)
    rw [← hy1] at HC1
    have z1 : ¬ 9223372036854775807 < (S ++ y0).size + y1.size := by simp only [ByteArray.size_append]; omega
    obtain ⟨y2, hy2⟩ : ∃ u : ByteArray, u = ⟨(putL x.amount).toArray⟩ := ⟨_, rfl⟩
    have u2 : y2.size ≤ 10 := by rw [hy2, ba_size]; exact putL_length _
    have HC2 := hide (fun w => rput_any x.amount w OX.out.2.2)
    rw [← hy2] at HC2
    have z2 : ¬ 9223372036854775807 < (S ++ y0 ++ y1).size + y2.size := by simp only [ByteArray.size_append]; omega
    have HSN : Hid (S ++ y0 ++ y1 ++ y2 = ⟨(X ++ (l1.take (k + 1)).flatMap outtL).toArray⟩) := by
      unfold Hid
      rw [HS.out, hy0, hy1, hy2]
      simp only [cat_bytes]
      rw [HNX.out]
      unfold outtL
      simp only [List.append_assoc]
    clear hx e0 hy0 u0 hy1 u1 hy2 u2 HNX
    go_wp2_with (first | (with_reducible show wpList _ _ _ (⟨_, Op.load _ _, _, _, _, _⟩ :: _) _ _; first | refine wpl_load_one rfl 28 _ rfl rfl (OAt.s1 F1) (by kernel_rfl) ?_ | refine wpl_load_one rfl 29 _ rfl rfl (OAt.s2 F1) (by kernel_rfl) ?_ | refine wpl_load_one rfl 30 _ rfl rfl (OAt.s3 F1) (by kernel_rfl) ?_) | (with_reducible show wpList _ _ _ (⟨_, Op.load _ _, _, _, _, _⟩ :: _) _ _; refine wpl_ld_out rfl _ rfl rfl d1 OX.out ?_) | (with_reducible show wpList _ _ _ (⟨_, Op.alloc _, _, _, _, _⟩ :: _) _ _; refine wpl_mk_out rfl rfl ?_; intro _ g5 hg5 F3 hb; have q5 := F1.lt; replace F1 := F1.later hb; replace b := later b hb; clear hb) | (with_reducible show wpList _ _ _ (⟨_, Op.store _ _ _, _, _, _, _⟩ :: _) _ _; refine wpl_set_out rfl _ _ rfl rfl rfl OX.out F3 ?_; intro _ t1 ht1; clear F3; replace F1 := F1.tt ht1; replace b := below_touch b ht1 (by omega) (Nat.le_refl _); have F3 := t1; clear t1 ht1) | (with_reducible show Code.wp _ (Code.region _ _ true) _ _ _; (try simp only [Act.put, List.setIfInBounds_toArray, List.set_cons_succ, List.set_cons_zero]); fail))
    (try simp only [Act.put, List.setIfInBounds_toArray, List.set_cons_succ, List.set_cons_zero])
    refine region_since (by kernel_rfl) (by kernel_rfl) ?_
    repeat (first | go_big_quiet_skip | (go_big_quiet_want; first | ((with_reducible show Oper.quiet _ ⟨_, Op.load _ _, _, _, _, _⟩ _ _ _); first | (refine since_load_elem _ rfl rfl (OutAt.dst F3) (HH0.out) ?_; simp only [Act.put, List.setIfInBounds_toArray, List.set_cons_succ, List.set_cons_zero]; go_big_quiet_on) | (refine since_load_elem _ rfl rfl (OutAt.stake F3) (HH1.out) ?_; simp only [Act.put, List.setIfInBounds_toArray, List.set_cons_succ, List.set_cons_zero]; go_big_quiet_on) | (refine since_load_one 23 _ rfl rfl (OutAt.amount F3) (by kernel_rfl) ?_; simp only [Act.put, List.setIfInBounds_toArray, List.set_cons_succ, List.set_cons_zero]; go_big_quiet_on)) | (go_big_quiet_op; first | go_big_quiet_on | (refine ⟨_, fun _ => since_of (HC0.out _), ?_⟩; clear HC0; go_big_quiet_on) | (refine ⟨_, fun _ => since_of (HC1.out _), ?_⟩; go_big_quiet_on) | (refine ⟨_, fun _ => since_of (HC2.out _), ?_⟩; go_big_quiet_on))))
    refine wpQuiet_nil ?_
    intro _ hq
    (try replace F1 := F1.later hq); (try replace F2 := F2.later hq); (try replace F3 := F3.later hq); (try replace F4 := F4.later hq); (try replace F5 := F5.later hq); (try replace F6 := F6.later hq); (try replace F7 := F7.later hq); (try replace F8 := F8.later hq); (try replace F9 := F9.later hq); (try replace G1 := G1.later hq); (try replace G2 := G2.later hq); (try replace G3 := G3.later hq); (try replace z := z.later hq); (try replace b := later b hq); (try replace bB := mixed hB bB hq)
    clear hq z0 z1 z2
    generalize S ++ y0 ++ y1 ++ y2 = T at *
    go_wp2_with fail
    first
      | (go_roundw
         case rel => exact ⟨k + 1, T, by simp, by omega, rfl, HSN, F1, b⟩)
      | (refine ⟨?_, ?measure⟩; (repeat apply Exists.intro); refine ⟨?rel, rfl⟩
         case rel => exact ⟨k + 1, T, by simp, by omega, rfl, HSN, F1, b⟩)
    case measure => simp [RowKit.intOf]; omega
  obtain rfl : n1 = k := by omega
  rw [List.take_of_length_le (by rw [← HN1.out]; exact Nat.le_refl _)] at HS
  clear hlt hk
  obtain ⟨Y, hY⟩ : ∃ QQ, QQ = ((X ++ l1.flatMap outtL) ++ putL n2) := ⟨_, rfl⟩
  have e0 : S.size ≤ 5320 := by
    have := flat_small out_le' HL1.out (by rw [← HN1.out]; omega) 32
    rw [List.take_of_length_le (by rw [← HN1.out]; omega)] at this
    rw [HS.out, ba_size, List.length_append]
    omega
  have HPN := hide (fun w => rput_any n2 w (show n2 < 18446744073709551616 by omega))
  obtain ⟨x1, hx1⟩ : ∃ u : ByteArray, u = ⟨(putL n2).toArray⟩ := ⟨_, rfl⟩
  have e2 : x1.size ≤ 10 := by rw [hx1, ba_size]; exact putL_length n2
  rw [← hx1] at HPN
  have z1 : ¬ 9223372036854775807 < S.size + x1.size := by omega
  have kw : IntKind.u64.wrap (n2 : Int) = (n2 : Int) := by rw [IntKind.wrap_u64]; omega
  have HSN : Hid (S ++ x1 = ⟨Y.toArray⟩) := by
    unfold Hid
    rw [HS.out, hx1, cat_bytes, hY]
  have hYL : Y.length ≤ 5330 := by
    have h1 : (S ++ x1).size = Y.length := by rw [HSN.out, ba_size]
    rw [← h1, ByteArray.size_append]
    omega
  rw [← hY] at HRES
  clear hx1 e0 e2 HS hY
  go_wp2_with (first | (with_reducible show wpList _ _ _ (⟨_, Op.load _ _, _, _, _, _⟩ :: _) _ _; first | refine wpl_load_one rfl 28 _ rfl rfl (OAt.s1 F1) (by kernel_rfl) ?_ | refine wpl_load_one rfl 29 _ rfl rfl (OAt.s2 F1) (by kernel_rfl) ?_ | refine wpl_load_one rfl 30 _ rfl rfl (OAt.s3 F1) (by kernel_rfl) ?_) | (go_at_call 113; refine (HPN.out _).mono ?_; rintro _ _ ⟨rfl, hc⟩; (try replace F1 := F1.later hc); (try replace F2 := F2.later hc); (try replace F3 := F3.later hc); (try replace F4 := F4.later hc); (try replace F5 := F5.later hc); (try replace F6 := F6.later hc); (try replace F7 := F7.later hc); (try replace F8 := F8.later hc); (try replace F9 := F9.later hc); (try replace G1 := G1.later hc); (try replace G2 := G2.later hc); (try replace G3 := G3.later hc); (try replace z := z.later hc); (try replace b := later b hc); (try replace bB := mixed hB bB hc); clear hc))
  clear HPN kw z1
  generalize S ++ x1 = T at *
  go_loopw [5, 9] (fun s i wr => ∃ (k : Nat) (S : ByteArray), i = .int .i64 k ∧ k ≤ n2 ∧ s = .string S ∧ Hid (S = ⟨(Y ++ (l2.take k).flatMap seatL).toArray⟩) ∧ OAt wr g1 ns nc (.slice a1 n1 c1) (.slice a2 n2 c2) (.slice a3 n3 c3) ∧ Below w.heap.size w wr) (fun _ i _ => n2 - (RowKit.intOf i).toNat)
  case atStart => exact ⟨0, _, rfl, by omega, rfl, by rw [List.take_zero, List.flatMap_nil, List.append_nil]; exact HSN, F1, b⟩
  clear b F1 HSN
  obtain ⟨k, S, rfl, hk, rfl, HS, F1, b⟩ := hrel
  by_cases hlt : k < n2
  case pos =>
    obtain ⟨x, hx, okx⟩ := get_ok HL2.out (k := k) (by rw [← HN2.out]; exact hlt)
    obtain ⟨bb, k0, c', he, _, hcs⟩ := (h2.later b).block (by rw [← HN2.out]; omega)
    simp only [Value.slice.injEq] at he
    obtain ⟨rfl, -, rfl⟩ := he
    have d1 := hcs k x hx
    have OX := hide okx
    clear hcs okx
    have HNX := hide (flat_next seatL l2 k x hx)
    have e0 : S.size ≤ 10450 := by
      have := flat_small seat_le HL2.out (by rw [← HN2.out]; omega) k
      rw [HS.out, ba_size, List.length_append]
      omega
    obtain ⟨y0, hy0⟩ : ∃ u : ByteArray, u = ⟨x.pool.toArray⟩ := ⟨_, rfl⟩
    have HH0 : Hid (x.pool.length = 32) := OX.out.1
    have u0 : y0.size ≤ 32 := by rw [hy0, ba_size, HH0.out]; exact Nat.le_refl _
    have HC0 := hide (fun w => refBytes_any x.pool w HH0.out)
    rw [← hy0] at HC0
    have z0 : ¬ 9223372036854775807 < (S).size + y0.size := by omega
    obtain ⟨y1, hy1⟩ : ∃ u : ByteArray, u = ⟨x.key.toArray⟩ := ⟨_, rfl⟩
    have HH1 : Hid (x.key.length = 32) := OX.out.2.1
    have u1 : y1.size ≤ 32 := by rw [hy1, ba_size, HH1.out]; exact Nat.le_refl _
    have HC1 := hide (fun w => refBytes_any x.key w HH1.out)
    rw [← hy1] at HC1
    have z1 : ¬ 9223372036854775807 < (S ++ y0).size + y1.size := by simp only [ByteArray.size_append]; omega
    obtain ⟨y2, hy2⟩ : ∃ u : ByteArray, u = ⟨(putL x.pledge).toArray⟩ := ⟨_, rfl⟩
    have u2 : y2.size ≤ 10 := by rw [hy2, ba_size]; exact putL_length _
    have HC2 := hide (fun w => rput_any x.pledge w OX.out.2.2.1)
    rw [← hy2] at HC2
    have z2 : ¬ 9223372036854775807 < (S ++ y0 ++ y1).size + y2.size := by simp only [ByteArray.size_append]; omega
    obtain ⟨y3, hy3⟩ : ∃ u : ByteArray, u = ⟨(putL x.cost).toArray⟩ := ⟨_, rfl⟩
    have u3 : y3.size ≤ 10 := by rw [hy3, ba_size]; exact putL_length _
    have HC3 := hide (fun w => rput_any x.cost w OX.out.2.2.2.1)
    rw [← hy3] at HC3
    have z3 : ¬ 9223372036854775807 < (S ++ y0 ++ y1 ++ y2).size + y3.size := by simp only [ByteArray.size_append]; omega
    obtain ⟨y4, hy4⟩ : ∃ u : ByteArray, u = ⟨(putL x.margin).toArray⟩ := ⟨_, rfl⟩
    have u4 : y4.size ≤ 10 := by rw [hy4, ba_size]; exact putL_length _
    have HC4 := hide (fun w => rput_any x.margin w OX.out.2.2.2.2)
    rw [← hy4] at HC4
    have z4 : ¬ 9223372036854775807 < (S ++ y0 ++ y1 ++ y2 ++ y3).size + y4.size := by simp only [ByteArray.size_append]; omega
    have HSN : Hid (S ++ y0 ++ y1 ++ y2 ++ y3 ++ y4 = ⟨(Y ++ (l2.take (k + 1)).flatMap seatL).toArray⟩) := by
      unfold Hid
      rw [HS.out, hy0, hy1, hy2, hy3, hy4]
      simp only [cat_bytes]
      rw [HNX.out]
      unfold seatL
      simp only [List.append_assoc]
    clear hx e0 hy0 u0 hy1 u1 hy2 u2 hy3 u3 hy4 u4 HNX
    go_wp2_with (first | (with_reducible show wpList _ _ _ (⟨_, Op.load _ _, _, _, _, _⟩ :: _) _ _; first | refine wpl_load_one rfl 28 _ rfl rfl (OAt.s1 F1) (by kernel_rfl) ?_ | refine wpl_load_one rfl 29 _ rfl rfl (OAt.s2 F1) (by kernel_rfl) ?_ | refine wpl_load_one rfl 30 _ rfl rfl (OAt.s3 F1) (by kernel_rfl) ?_) | (with_reducible show wpList _ _ _ (⟨_, Op.load _ _, _, _, _, _⟩ :: _) _ _; refine wpl_ld_seat rfl _ rfl rfl d1 OX.out ?_) | (with_reducible show wpList _ _ _ (⟨_, Op.alloc _, _, _, _, _⟩ :: _) _ _; refine wpl_mk_seat rfl rfl ?_; intro _ g5 hg5 F3 hb; have q5 := F1.lt; replace F1 := F1.later hb; replace b := later b hb; clear hb) | (with_reducible show wpList _ _ _ (⟨_, Op.store _ _ _, _, _, _, _⟩ :: _) _ _; refine wpl_set_seat rfl _ _ rfl rfl rfl OX.out F3 ?_; intro _ t1 ht1; clear F3; replace F1 := F1.tt ht1; replace b := below_touch b ht1 (by omega) (Nat.le_refl _); have F3 := t1; clear t1 ht1) | (with_reducible show Code.wp _ (Code.region _ _ true) _ _ _; (try simp only [Act.put, List.setIfInBounds_toArray, List.set_cons_succ, List.set_cons_zero]); fail))
    (try simp only [Act.put, List.setIfInBounds_toArray, List.set_cons_succ, List.set_cons_zero])
    refine region_since (by kernel_rfl) (by kernel_rfl) ?_
    repeat (first | go_big_quiet_skip | (go_big_quiet_want; first | ((with_reducible show Oper.quiet _ ⟨_, Op.load _ _, _, _, _, _⟩ _ _ _); first | (refine since_load_elem _ rfl rfl (SeatAt.pool F3) (HH0.out) ?_; simp only [Act.put, List.setIfInBounds_toArray, List.set_cons_succ, List.set_cons_zero]; go_big_quiet_on) | (refine since_load_elem _ rfl rfl (SeatAt.key F3) (HH1.out) ?_; simp only [Act.put, List.setIfInBounds_toArray, List.set_cons_succ, List.set_cons_zero]; go_big_quiet_on) | (refine since_load_one 23 _ rfl rfl (SeatAt.pledge F3) (by kernel_rfl) ?_; simp only [Act.put, List.setIfInBounds_toArray, List.set_cons_succ, List.set_cons_zero]; go_big_quiet_on) | (refine since_load_one 23 _ rfl rfl (SeatAt.cost F3) (by kernel_rfl) ?_; simp only [Act.put, List.setIfInBounds_toArray, List.set_cons_succ, List.set_cons_zero]; go_big_quiet_on) | (refine since_load_one 23 _ rfl rfl (SeatAt.margin F3) (by kernel_rfl) ?_; simp only [Act.put, List.setIfInBounds_toArray, List.set_cons_succ, List.set_cons_zero]; go_big_quiet_on)) | (go_big_quiet_op; first | go_big_quiet_on | (refine ⟨_, fun _ => since_of (HC0.out _), ?_⟩; clear HC0; go_big_quiet_on) | (refine ⟨_, fun _ => since_of (HC1.out _), ?_⟩; go_big_quiet_on) | (refine ⟨_, fun _ => since_of (HC2.out _), ?_⟩; clear HC2; go_big_quiet_on) | (refine ⟨_, fun _ => since_of (HC3.out _), ?_⟩; clear HC3; go_big_quiet_on) | (refine ⟨_, fun _ => since_of (HC4.out _), ?_⟩; go_big_quiet_on))))
    refine wpQuiet_nil ?_
    intro _ hq
    (try replace F1 := F1.later hq); (try replace F2 := F2.later hq); (try replace F3 := F3.later hq); (try replace F4 := F4.later hq); (try replace F5 := F5.later hq); (try replace F6 := F6.later hq); (try replace F7 := F7.later hq); (try replace F8 := F8.later hq); (try replace F9 := F9.later hq); (try replace G1 := G1.later hq); (try replace G2 := G2.later hq); (try replace G3 := G3.later hq); (try replace z := z.later hq); (try replace b := later b hq); (try replace bB := mixed hB bB hq)
    clear hq z0 z1 z2 z3 z4
    generalize S ++ y0 ++ y1 ++ y2 ++ y3 ++ y4 = T at *
    go_wp2_with fail
    first
      | (go_roundw
         case rel => exact ⟨k + 1, T, by simp, by omega, rfl, HSN, F1, b⟩)
      | (refine ⟨?_, ?measure⟩; (repeat apply Exists.intro); refine ⟨?rel, rfl⟩
         case rel => exact ⟨k + 1, T, by simp, by omega, rfl, HSN, F1, b⟩)
    case measure => simp [RowKit.intOf]; omega
  obtain rfl : n2 = k := by omega
  rw [List.take_of_length_le (by rw [← HN2.out]; exact Nat.le_refl _)] at HS
  clear hlt hk
  obtain ⟨Z, hZ⟩ : ∃ QQ, QQ = ((Y ++ l2.flatMap seatL) ++ putL n3) := ⟨_, rfl⟩
  have e0 : S.size ≤ 10450 := by
    have := flat_small seat_le HL2.out (by rw [← HN2.out]; omega) 32
    rw [List.take_of_length_le (by rw [← HN2.out]; omega)] at this
    rw [HS.out, ba_size, List.length_append]
    omega
  have HPN := hide (fun w => rput_any n3 w (show n3 < 18446744073709551616 by omega))
  obtain ⟨x1, hx1⟩ : ∃ u : ByteArray, u = ⟨(putL n3).toArray⟩ := ⟨_, rfl⟩
  have e2 : x1.size ≤ 10 := by rw [hx1, ba_size]; exact putL_length n3
  rw [← hx1] at HPN
  have z1 : ¬ 9223372036854775807 < S.size + x1.size := by omega
  have kw : IntKind.u64.wrap (n3 : Int) = (n3 : Int) := by rw [IntKind.wrap_u64]; omega
  have HSN : Hid (S ++ x1 = ⟨Z.toArray⟩) := by
    unfold Hid
    rw [HS.out, hx1, cat_bytes, hZ]
  have hZL : Z.length ≤ 10460 := by
    have h1 : (S ++ x1).size = Z.length := by rw [HSN.out, ba_size]
    rw [← h1, ByteArray.size_append]
    omega
  rw [← hZ] at HRES
  clear hx1 e0 e2 HS hZ
  go_wp2_with (first | (with_reducible show wpList _ _ _ (⟨_, Op.load _ _, _, _, _, _⟩ :: _) _ _; first | refine wpl_load_one rfl 28 _ rfl rfl (OAt.s1 F1) (by kernel_rfl) ?_ | refine wpl_load_one rfl 29 _ rfl rfl (OAt.s2 F1) (by kernel_rfl) ?_ | refine wpl_load_one rfl 30 _ rfl rfl (OAt.s3 F1) (by kernel_rfl) ?_) | (go_at_call 113; refine (HPN.out _).mono ?_; rintro _ _ ⟨rfl, hc⟩; (try replace F1 := F1.later hc); (try replace F2 := F2.later hc); (try replace F3 := F3.later hc); (try replace F4 := F4.later hc); (try replace F5 := F5.later hc); (try replace F6 := F6.later hc); (try replace F7 := F7.later hc); (try replace F8 := F8.later hc); (try replace F9 := F9.later hc); (try replace G1 := G1.later hc); (try replace G2 := G2.later hc); (try replace G3 := G3.later hc); (try replace z := z.later hc); (try replace b := later b hc); (try replace bB := mixed hB bB hc); clear hc))
  clear HPN kw z1
  generalize S ++ x1 = T at *
  go_loopw [5, 11] (fun s i wr => ∃ (k : Nat) (S : ByteArray), i = .int .i64 k ∧ k ≤ n3 ∧ s = .string S ∧ Hid (S = ⟨(Z ++ (l3.take k).flatMap trustL).toArray⟩) ∧ OAt wr g1 ns nc (.slice a1 n1 c1) (.slice a2 n2 c2) (.slice a3 n3 c3) ∧ Below w.heap.size w wr) (fun _ i _ => n3 - (RowKit.intOf i).toNat)
  case atStart => exact ⟨0, _, rfl, by omega, rfl, by rw [List.take_zero, List.flatMap_nil, List.append_nil]; exact HSN, F1, b⟩
  clear b F1 HSN
  obtain ⟨k, S, rfl, hk, rfl, HS, F1, b⟩ := hrel
  by_cases hlt : k < n3
  case pos =>
    obtain ⟨x, hx, okx⟩ := get_ok HL3.out (k := k) (by rw [← HN3.out]; exact hlt)
    obtain ⟨bb, k0, c', he, _, hcs⟩ := (h3.later b).block (by rw [← HN3.out]; omega)
    simp only [Value.slice.injEq] at he
    obtain ⟨rfl, -, rfl⟩ := he
    have d1 := hcs k x hx
    have OX := hide okx
    clear hcs okx
    have HNX := hide (flat_next trustL l3 k x hx)
    have e0 : S.size ≤ 15580 := by
      have := flat_small trust_le HL3.out (by rw [← HN3.out]; omega) k
      rw [HS.out, ba_size, List.length_append]
      omega
    obtain ⟨y0, hy0⟩ : ∃ u : ByteArray, u = ⟨x.key.toArray⟩ := ⟨_, rfl⟩
    have HH0 : Hid (x.key.length = 32) := OX.out.1
    have u0 : y0.size ≤ 32 := by rw [hy0, ba_size, HH0.out]; exact Nat.le_refl _
    have HC0 := hide (fun w => refBytes_any x.key w HH0.out)
    rw [← hy0] at HC0
    have z0 : ¬ 9223372036854775807 < (S).size + y0.size := by omega
    obtain ⟨y1, hy1⟩ : ∃ u : ByteArray, u = ⟨x.pool.toArray⟩ := ⟨_, rfl⟩
    have HH1 : Hid (x.pool.length = 32) := OX.out.2
    have u1 : y1.size ≤ 32 := by rw [hy1, ba_size, HH1.out]; exact Nat.le_refl _
    have HC1 := hide (fun w => refBytes_any x.pool w HH1.out)
    rw [← hy1] at HC1
    have z1 : ¬ 9223372036854775807 < (S ++ y0).size + y1.size := by simp only [ByteArray.size_append]; omega
    have HSN : Hid (S ++ y0 ++ y1 = ⟨(Z ++ (l3.take (k + 1)).flatMap trustL).toArray⟩) := by
      unfold Hid
      rw [HS.out, hy0, hy1]
      simp only [cat_bytes]
      rw [HNX.out]
      unfold trustL
      simp only [List.append_assoc]
    clear hx e0 hy0 u0 hy1 u1 HNX
    have K1 := Cells.left (trustR0 d1)
    have K2 := trustR1 d1 OX.out
    go_wp2_with (first | (with_reducible show wpList _ _ _ (⟨_, Op.load _ _, _, _, _, _⟩ :: _) _ _; first | refine wpl_load_one rfl 28 _ rfl rfl (OAt.s1 F1) (by kernel_rfl) ?_ | refine wpl_load_one rfl 29 _ rfl rfl (OAt.s2 F1) (by kernel_rfl) ?_ | refine wpl_load_one rfl 30 _ rfl rfl (OAt.s3 F1) (by kernel_rfl) ?_) | (with_reducible show Code.wp _ (Code.region _ _ true) _ _ _; (try simp only [Act.put, List.setIfInBounds_toArray, List.set_cons_succ, List.set_cons_zero]); fail))
    (try simp only [Act.put, List.setIfInBounds_toArray, List.set_cons_succ, List.set_cons_zero])
    refine region_since (by kernel_rfl) (by kernel_rfl) ?_
    repeat (first | go_big_quiet_skip | (go_big_quiet_want; first | ((with_reducible show Oper.quiet _ ⟨_, Op.load _ _, _, _, _, _⟩ _ _ _); first | (refine since_load_one 30 _ rfl rfl (OAt.s3 F1) (by kernel_rfl) ?_; simp only [Act.put, List.setIfInBounds_toArray, List.set_cons_succ, List.set_cons_zero]; go_big_quiet_on) | (refine since_load_elem _ rfl rfl (K1) (HH0.out) ?_; simp only [Act.put, List.setIfInBounds_toArray, List.set_cons_succ, List.set_cons_zero]; go_big_quiet_on) | (refine since_load_elem _ rfl rfl (K2) (HH1.out) ?_; simp only [Act.put, List.setIfInBounds_toArray, List.set_cons_succ, List.set_cons_zero]; go_big_quiet_on)) | (go_big_quiet_op; first | go_big_quiet_on | (refine ⟨_, fun _ => since_of (HC0.out _), ?_⟩; clear HC0; go_big_quiet_on) | (refine ⟨_, fun _ => since_of (HC1.out _), ?_⟩; go_big_quiet_on))))
    refine wpQuiet_nil ?_
    intro _ hq
    (try replace F1 := F1.later hq); (try replace F2 := F2.later hq); (try replace F3 := F3.later hq); (try replace F4 := F4.later hq); (try replace F5 := F5.later hq); (try replace F6 := F6.later hq); (try replace F7 := F7.later hq); (try replace F8 := F8.later hq); (try replace F9 := F9.later hq); (try replace G1 := G1.later hq); (try replace G2 := G2.later hq); (try replace G3 := G3.later hq); (try replace z := z.later hq); (try replace b := later b hq); (try replace bB := mixed hB bB hq)
    clear hq z0 z1
    generalize S ++ y0 ++ y1 = T at *
    go_wp2_with fail
    first
      | (go_roundw
         case rel => exact ⟨k + 1, T, by simp, by omega, rfl, HSN, F1, b⟩)
      | (refine ⟨?_, ?measure⟩; (repeat apply Exists.intro); refine ⟨?rel, rfl⟩
         case rel => exact ⟨k + 1, T, by simp, by omega, rfl, HSN, F1, b⟩)
    case measure => simp [RowKit.intOf]; omega
  obtain rfl : n3 = k := by omega
  rw [List.take_of_length_le (by rw [← HN3.out]; exact Nat.le_refl _)] at HS
  clear hlt hk
  have HF : Hid (S = ⟨RES.toArray⟩) := by rw [HRES.out]; exact HS
  clear HS
  go_wp2_with (with_reducible show wpList _ _ _ (⟨_, Op.load _ _, _, _, _, _⟩ :: _) _ _; first | refine wpl_load_one rfl 28 _ rfl rfl (OAt.s1 F1) (by kernel_rfl) ?_ | refine wpl_load_one rfl 29 _ rfl rfl (OAt.s2 F1) (by kernel_rfl) ?_ | refine wpl_load_one rfl 30 _ rfl rfl (OAt.s3 F1) (by kernel_rfl) ?_)
  go_ret
  exact ⟨by rw [← HF.out]; rfl, b⟩
set_option maxRecDepth 100000 in
set_option maxHeartbeats 1600000 in
theorem orefSame_any (v u : Value) (o p : Orig) (w : World) (h : OrigIs w v o) (k : OrigIs w u p) (hf : o.Few) (kf : p.Few) :
    Calls Try.prog 19 #[v, u] w fun e w' => e = .returned (.bool (decide (origL o = origL p))) ∧ Below w.heap.size w w' := by
  have HY := hide (fun (w' : World) (hb : Below w.heap.size w w') => orefBytes_any v o w' (h.later hb) hf)
  have HZ := hide (fun (w' : World) (hb : Below w.heap.size w w') => orefBytes_any u p w' (k.later hb) kf)
  have hl15 := origNs_length h.ok
  have kl15 := origNs_length k.ok
  obtain ⟨v1, v2, v3, rfl, h1, h2, h3, ok⟩ := h
  obtain ⟨u1, u2, u3, rfl, k1, k2, k3, kk⟩ := k
  have o1 := h1.one'
  have o2 := h2.one'
  have o3 := h3.one'
  have p1 := k1.one'
  have p2 := k2.one'
  have p3 := k3.one'
  have hnl := ok.nonce
  have knl := kk.nonce
  have b := Below.refl w.heap.size w
  clear ok kk h1 h2 h3 k1 k2 k3 hf kf
  have e1 : (⟨(origL o).toArray⟩ : ByteArray).toList = origL o := by rw [ByteArray.toList_eq]
  have e2 : (⟨(origL p).toArray⟩ : ByteArray).toList = origL p := by rw [ByteArray.toList_eq]
  obtain ⟨B, hB⟩ : ∃ B, decide (origL o = origL p) = B := ⟨_, rfl⟩
  rw [hB]
  have hE : ((⟨(origL o).toArray⟩ : ByteArray).toList == (⟨(origL p).toArray⟩ : ByteArray).toList) = B := by
    rw [e1, e2, ← hB]
    by_cases hq : origL o = origL p
    · rw [decide_eq_true hq, hq]; exact beq_self_eq_true _
    · rw [decide_eq_false hq]; exact beq_eq_false_iff_ne.2 hq
  clear e1 e2 hB
  generalize origNs o = ns at *
  generalize o.nonce = nc at *
  generalize origNs p = ms at *
  generalize p.nonce = mc at *
  generalize (⟨(origL o).toArray⟩ : ByteArray) = sa at *
  generalize (⟨(origL p).toArray⟩ : ByteArray) = sb at *
  have mF1 := True.intro
  have mF2 := True.intro
  go_enter Try.func19, Try.ntmps19
  go_wp2_with (first | (with_reducible show wpList _ _ _ (⟨_, Op.box _ _, _, _, _, _⟩ :: _) _ _; clear mF1; refine wpl_box_orig rfl _ rfl rfl hl15 hnl o1 o2 o3 ?_; intro _ g1 hg1 F1 hb; (try replace F1 := F1.later hb); (try replace F2 := F2.later hb); (try replace F3 := F3.later hb); (try replace F4 := F4.later hb); (try replace F5 := F5.later hb); (try replace F6 := F6.later hb); (try replace F7 := F7.later hb); (try replace F8 := F8.later hb); (try replace F9 := F9.later hb); (try replace G1 := G1.later hb); (try replace G2 := G2.later hb); (try replace G3 := G3.later hb); (try replace z := z.later hb); (try replace b := later b hb); (try replace bB := mixed hB bB hb); clear hb) | (with_reducible show wpList _ _ _ (⟨_, Op.box _ _, _, _, _, _⟩ :: _) _ _; clear mF2; refine wpl_box_orig rfl _ rfl rfl kl15 knl p1 p2 p3 ?_; intro _ g2 hg2 F2 hb; (try replace F1 := F1.later hb); (try replace F2 := F2.later hb); (try replace F3 := F3.later hb); (try replace F4 := F4.later hb); (try replace F5 := F5.later hb); (try replace F6 := F6.later hb); (try replace F7 := F7.later hb); (try replace F8 := F8.later hb); (try replace F9 := F9.later hb); (try replace G1 := G1.later hb); (try replace G2 := G2.later hb); (try replace G3 := G3.later hb); (try replace z := z.later hb); (try replace b := later b hb); (try replace bB := mixed hB bB hb); clear hb) | (with_reducible show Code.wp _ (Code.region _ _ true) _ _ _; (try simp only [Act.put, List.setIfInBounds_toArray, List.set_cons_succ, List.set_cons_zero]); fail))
  (try simp only [Act.put, List.setIfInBounds_toArray, List.set_cons_succ, List.set_cons_zero])
  refine region_since (by kernel_rfl) (by kernel_rfl) ?_
  repeat (first | go_big_quiet_skip | (go_big_quiet_want; first | ((with_reducible show Oper.quiet _ ⟨_, Op.load _ _, _, _, _, _⟩ _ _ _); first | (refine since_ld_orig _ rfl rfl F1 ?_; simp only [Act.put, List.setIfInBounds_toArray, List.set_cons_succ, List.set_cons_zero]; go_big_quiet_on) | (refine since_ld_orig _ rfl rfl F2 ?_; simp only [Act.put, List.setIfInBounds_toArray, List.set_cons_succ, List.set_cons_zero]; go_big_quiet_on)) | (go_big_quiet_op; first | go_big_quiet_on | (refine ⟨_, fun s => since_of (HY.out _ (later b s.ok)), ?_⟩; clear HY; go_big_quiet_on) | (refine ⟨_, fun s => since_of (HZ.out _ (later b s.ok)), ?_⟩; go_big_quiet_on))))
  refine wpQuiet_nil ?_
  intro _ hq
  (try replace F1 := F1.later hq); (try replace F2 := F2.later hq); (try replace F3 := F3.later hq); (try replace F4 := F4.later hq); (try replace F5 := F5.later hq); (try replace F6 := F6.later hq); (try replace F7 := F7.later hq); (try replace F8 := F8.later hq); (try replace F9 := F9.later hq); (try replace G1 := G1.later hq); (try replace G2 := G2.later hq); (try replace G3 := G3.later hq); (try replace z := z.later hq); (try replace b := later b hq); (try replace bB := mixed hB bB hq)
  clear hq
  go_wp2_with fail
  go_ret
  exact ⟨rfl, b⟩
end Go.Proofs.Ytbbfnpfkbbpjgaa
