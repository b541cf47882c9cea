/- Package head: Take. -/
import Derived.Test.YtofjjpielkfloaaHd6
namespace Go.Proofs.Ytofjjpielkfloaa
open Go.RowKit Go.Lib
set_option linter.unusedVariables false
set_option linter.unusedSimpArgs false

theorem Rd.tt {w w' : World} {g g' : Nat} {r : List UInt8} (h : Rd w g r) (ht : Touch (fun x => x = g') w w') (hS : ¬ g = g' := by omega) : Rd w' g r := h.touch ht hS
/-- The head that bytes are. -/
def hdOf (L : List UInt8) : Hd := ⟨numL (L.take 8), numL ((L.drop 8).take 8), (L.drop 16).take 32, (L.drop 48).take 32, (L.drop 80).take 32, numL ((L.drop 112).take 8), numL ((L.drop 120).take 8),
  ⟨(L.drop 128).take 32, numL ((L.drop 160).take 8), numL ((L.drop 168).take 8), ⟨((L.drop 176).take 1024).toArray⟩⟩, ⟨((L.drop 1200).take 1120).toArray⟩⟩
theorem numL_small (l : List UInt8) : numL (l.take 8) < 18446744073709551616 := by
  have h1 := numL_lt (l.take 8)
  have h2 : (l.take 8).length ≤ 8 := by rw [List.length_take]; omega
  have h3 : 256 ^ (l.take 8).length ≤ 256 ^ 8 := Nat.pow_le_pow_right (by omega) h2
  omega
theorem hdOf_ok {L : List UInt8} (h : L.length = 2320) : (hdOf L).Ok := by
  have k : ∀ i, i + 32 ≤ 2320 → ((L.drop i).take 32).length = 32 := fun i hi => by rw [List.length_take, List.length_drop, h]; omega
  exact ⟨numL_small _, numL_small _, k 16 (by decide), k 48 (by decide), k 80 (by decide), numL_small _, numL_small _, ⟨k 128 (by decide), numL_small _, numL_small _⟩⟩
theorem wpl_built7 {P : Program} {ops : Array Oper} {rest : List Oper} {o : Oper} {a : Act} {w : World} {Q : Exit → Act → World → Prop} (hw : Region.wanted o (yielded ops a.tmps) = true) (t : TypeId) (x0 x1 x2 x3 x4 x5 x6 : Operand) (ho : o.op = .build t #[(0, x0), (1, x1), (2, x2), (3, x3), (4, x4), (5, x5), (6, x6)]) {v0 v1 v2 v3 v4 v5 v6 : Value}
    (h0 : a.eval x0 = v0) (h1 : a.eval x1 = v1) (h2 : a.eval x2 = v2) (h3 : a.eval x3 = v3) (h4 : a.eval x4 = v4) (h5 : a.eval x5 = v5) (h6 : a.eval x6 = v6) {cs : List Value} (hc : P.built t [(0, v0), (1, v1), (2, v2), (3, v3), (4, v4), (5, v5), (6, v6)] = some cs.toArray)
    (hk : wpList P ops Q rest (a.put o.dst (.agg cs.toArray)) w) : wpList P ops Q (o :: rest) a w := wpl_built hw t _ ho (by simp [h0, h1, h2, h3, h4, h5, h6]) hc hk
theorem wpl_built4 {P : Program} {ops : Array Oper} {rest : List Oper} {o : Oper} {a : Act} {w : World} {Q : Exit → Act → World → Prop} (hw : Region.wanted o (yielded ops a.tmps) = true) (t : TypeId) (x0 x1 x2 x3 : Operand) (ho : o.op = .build t #[(0, x0), (1, x1), (2, x2), (3, x3)]) {v0 v1 v2 v3 : Value}
    (h0 : a.eval x0 = v0) (h1 : a.eval x1 = v1) (h2 : a.eval x2 = v2) (h3 : a.eval x3 = v3) {cs : List Value} (hc : P.built t [(0, v0), (1, v1), (2, v2), (3, v3)] = some cs.toArray)
    (hk : wpList P ops Q rest (a.put o.dst (.agg cs.toArray)) w) : wpList P ops Q (o :: rest) a w := wpl_built hw t _ ho (by simp [h0, h1, h2, h3]) hc hk
set_option maxRecDepth 100000 in
theorem rtBuilt4 (c s : Nat) (g : ByteArray) {l : List UInt8} (h : l.length = 32) : Try.prog.built 48 [(0, hv l), (1, .int .u64 c), (2, .int .u64 s), (3, .string g)] = some (rtCs ⟨l, c, s, g⟩).toArray := by
  obtain ⟨x0, x1, x2, x3, x4, x5, x6, x7, x8, x9, x10, x11, x12, x13, x14, x15, x16, x17, x18, x19, x20, x21, x22, x23, x24, x25, x26, x27, x28, x29, x30, x31, rfl⟩ := hash_cons h
  clear h
  kernel_rfl
set_option maxRecDepth 100000 in
theorem hdBuilt7 (n m s k : Nat) {p q b : List UInt8} (hp : p.length = 32) (hq : q.length = 32) (hb : b.length = 32) :
    Try.prog.built 50 [(0, .int .u64 n), (1, .int .u64 m), (2, hv p), (3, hv q), (4, hv b), (5, .int .u64 s), (6, .int .u64 k)] = some (hdCs ⟨n, m, p, q, b, s, k, rt0, ByteArray.empty⟩).toArray := by
  obtain ⟨x0, x1, x2, x3, x4, x5, x6, x7, x8, x9, x10, x11, x12, x13, x14, x15, x16, x17, x18, x19, x20, x21, x22, x23, x24, x25, x26, x27, x28, x29, x30, x31, rfl⟩ := hash_cons hp
  obtain ⟨y0, y1, y2, y3, y4, y5, y6, y7, y8, y9, y10, y11, y12, y13, y14, y15, y16, y17, y18, y19, y20, y21, y22, y23, y24, y25, y26, y27, y28, y29, y30, y31, rfl⟩ := hash_cons hq
  obtain ⟨z0, z1, z2, z3, z4, z5, z6, z7, z8, z9, z10, z11, z12, z13, z14, z15, z16, z17, z18, z19, z20, z21, z22, z23, z24, z25, z26, z27, z28, z29, z30, z31, rfl⟩ := hash_cons hb
  clear hp hq hb
  kernel_rfl
theorem rdZero : (Try.prog.info? 91).bind (·.zero) = some (.string ⟨#[]⟩) := by kernel_rfl
set_option maxRecDepth 100000 in
set_option maxHeartbeats 3200000 in
theorem hdTake_in (L : List UInt8) (hL : L.length = 2320) (w : World) :
    Calls Try.prog 34 #[.string ⟨L.toArray⟩] w fun e w' => e = .returned (.tuple #[hdV (hdOf L), .int .i64 0]) ∧ Below w.heap.size w w' := by
  have HN : Hid (∀ k g w, Rd w g (L.drop k) → k + 8 ≤ 2320 → Calls Try.prog 75 #[.pointer (some ⟨g, 0, none⟩)] w fun e w' => e = .returned (.int .u64 (numL ((L.drop k).take 8))) ∧ Rd w' g (L.drop (k + 8)) ∧ Touch (fun b => b = g) w w') := fun k g w h hk => by
    have := rdNumber_any g _ w h (by rw [List.length_drop, hL]; omega) (by rw [List.length_drop, hL]; omega)
    rwa [List.drop_drop] at this
  have HH : Hid (∀ k g w, Rd w g (L.drop k) → k + 32 ≤ 2320 → Calls Try.prog 76 #[.pointer (some ⟨g, 0, none⟩)] w fun e w' => e = .returned (hv ((L.drop k).take 32)) ∧ Rd w' g (L.drop (k + 32)) ∧ Touch (fun b => b = g) w w') := fun k g w h hk => by
    have := rdHash_any g _ w h (by rw [List.length_drop, hL]; omega) (by rw [List.length_drop, hL]; omega)
    rwa [List.drop_drop] at this
  have HT : Hid (∀ k n g w, Rd w g (L.drop k) → k + n ≤ 2320 → Calls Try.prog 77 #[.pointer (some ⟨g, 0, none⟩), .int .i64 n] w fun e w' => e = .returned (.string ⟨((L.drop k).take n).toArray⟩) ∧ Rd w' g (L.drop (k + n)) ∧ Touch (fun b => b = g) w w') := fun k n g w h hk => by
    have := rdText_any g _ n w h (by rw [List.length_drop, hL]; omega) (by rw [List.length_drop, hL]; omega)
    rwa [List.drop_drop] at this
  have HL : Hid (∀ k, k + 32 ≤ 2320 → ((L.drop k).take 32).length = 32) := fun i hi => by rw [List.length_take, List.length_drop, hL]; omega
  have HOK := hide (hdOf_ok hL)
  have HO : Hid (hdOf L = hdOf L) := rfl
  have hz : (⟨L.toArray⟩ : ByteArray).size = 2320 := by show L.toArray.size = 2320; rw [List.size_toArray]; exact hL
  have HS : Hid ((⟨L.toArray⟩ : ByteArray) = ⟨(L.drop 0).toArray⟩) := rfl
  have b := Below.refl w.heap.size w
  clear hL
  generalize hs0 : (⟨L.toArray⟩ : ByteArray) = s at HS hz ⊢
  clear hs0
  have HT1 : Hid (∀ k g w, Rd w g (L.drop k) → k + 1024 ≤ 2320 → Calls Try.prog 77 #[.pointer (some ⟨g, 0, none⟩), .int .i64 1024] w fun e w' => e = .returned (.string ⟨((L.drop k).take 1024).toArray⟩) ∧ Rd w' g (L.drop (k + 1024)) ∧ Touch (fun b => b = g) w w') := fun k g w h hk => HT.out k 1024 g w h hk
  have HT2 : Hid (∀ k g w, Rd w g (L.drop k) → k + 1120 ≤ 2320 → Calls Try.prog 77 #[.pointer (some ⟨g, 0, none⟩), .int .i64 1120] w fun e w' => e = .returned (.string ⟨((L.drop k).take 1120).toArray⟩) ∧ Rd w' g (L.drop (k + 1120)) ∧ Touch (fun b => b = g) w w') := fun k g w h hk => HT.out k 1120 g w h hk
  clear HT
  have mF1 := True.intro
  have mF2 := True.intro
  have mF6 := True.intro
  go_enter Try.func34, Try.ntmps34
  go_wp2_with (first | (with_reducible show wpList _ _ _ (⟨_, Op.alloc _, _, _, _, _⟩ :: _) _ _; clear mF2; refine wpl_mk_hd rfl rfl ?_; intro _ g2 hg2 F2 hb; (try have := F1.lt); (try have := F2.lt); (try have := F3.lt); (try have := F4.lt); (try have := F5.lt); (try have := F6.lt); (try have := F7.lt); (try have := F8.lt); (try have := F9.lt); (try have := z.lt); (try have := G1.lt); (try have := G2.lt); (try have := G3.lt); (try have := b.size); (try replace F1 := F1.later hb); (try replace F2 := F2.later hb); (try replace F3 := F3.later hb); (try replace F4 := F4.later hb); (try replace F5 := F5.later hb); (try replace F6 := F6.later hb); (try replace F7 := F7.later hb); (try replace F8 := F8.later hb); (try replace F9 := F9.later hb); (try replace G1 := G1.later hb); (try replace G2 := G2.later hb); (try replace G3 := G3.later hb); (try replace z := z.later hb); (try replace b := later b hb); (try replace bB := mixed hB bB hb); clear hb) | ((with_reducible show wpList _ _ _ (⟨_, Op.alloc 91, _, _, _, _⟩ :: _) _ _); clear mF1; refine wpl_mk rfl 91 rfl rdZero (cs := [.string ⟨#[]⟩]) rfl ?_; intro _ g4 h4 F1 hb; (try have := F1.lt); (try have := F2.lt); (try have := F3.lt); (try have := F4.lt); (try have := F5.lt); (try have := F6.lt); (try have := F7.lt); (try have := F8.lt); (try have := F9.lt); (try have := z.lt); (try have := G1.lt); (try have := G2.lt); (try have := G3.lt); (try have := b.size); have l1 := Arr.lt F1; replace F2 := F2.later hb; replace b := later b hb; clear hb) | ((with_reducible show wpList _ _ _ (⟨_, Op.store 91 _ _, _, _, _, _⟩ :: _) _ _); refine wpl_set_one rfl 91 _ _ rfl (v := .string s) rfl rfl F1 (by decide) rdSize rfl rfl ?_; intro _ F5 ht; replace F5 : Rd _ g4 (L.drop 0) := (by have h5 := F5; rw [HS.out] at h5; exact h5); replace F2 := F2.tt ht; replace b := below_touch b ht (by omega) (by omega); clear ht F1) | (go_at_call 75; refine (HN.out _ _ _ F5 (by decide)).mono ?_; (rintro _ _ ⟨rfl, h1, ht⟩; clear F5; have F5 := h1; clear h1; replace F2 := F2.tt ht; (try replace F6 := F6.tt ht); replace b := below_touch b ht (by omega) (by omega); clear ht)) | (go_at_call 76; refine (HH.out _ _ _ F5 (by decide)).mono ?_; (rintro _ _ ⟨rfl, h1, ht⟩; clear F5; have F5 := h1; clear h1; replace F2 := F2.tt ht; (try replace F6 := F6.tt ht); replace b := below_touch b ht (by omega) (by omega); clear ht)) | (go_at_call 77; (with_reducible show Calls _ _ #[_, .int .i64 1024] _ _); refine (HT1.out _ _ _ F5 (by decide)).mono ?_; (rintro _ _ ⟨rfl, h1, ht⟩; clear F5; have F5 := h1; clear h1; replace F2 := F2.tt ht; (try replace F6 := F6.tt ht); replace b := below_touch b ht (by omega) (by omega); clear ht)) | (go_at_call 77; (with_reducible show Calls _ _ #[_, .int .i64 1120] _ _); refine (HT2.out _ _ _ F5 (by decide)).mono ?_; (rintro _ _ ⟨rfl, h1, ht⟩; clear F5; have F5 := h1; clear h1; replace F2 := F2.tt ht; (try replace F6 := F6.tt ht); replace b := below_touch b ht (by omega) (by omega); clear ht)) | ((with_reducible show wpList _ _ _ (⟨_, Op.build _ _, _, _, _, _⟩ :: _) _ _); refine wpl_built7 rfl 50 _ _ _ _ _ _ _ rfl rfl rfl rfl rfl rfl rfl rfl (hdBuilt7 _ _ _ _ (HL.out _ (by decide)) (HL.out _ (by decide)) (HL.out _ (by decide))) ?_) | ((with_reducible show wpList _ _ _ (⟨_, Op.build _ _, _, _, _, _⟩ :: _) _ _); refine wpl_built4 rfl 48 _ _ _ _ rfl rfl rfl rfl rfl (rtBuilt4 _ _ _ (HL.out _ (by decide))) ?_) | (with_reducible show wpList _ _ _ (⟨_, Op.alloc _, _, _, _, _⟩ :: _) _ _; clear mF6; refine wpl_mk_hd rfl rfl ?_; intro _ g5 hg5 F6 hb; (try have := F1.lt); (try have := F2.lt); (try have := F3.lt); (try have := F4.lt); (try have := F5.lt); (try have := F6.lt); (try have := F7.lt); (try have := F8.lt); (try have := F9.lt); (try have := z.lt); (try have := G1.lt); (try have := G2.lt); (try have := G3.lt); (try have := b.size); (try replace F1 := F1.later hb); (try replace F2 := F2.later hb); (try replace F3 := F3.later hb); (try replace F4 := F4.later hb); (try replace F5 := F5.later hb); (try replace F6 := F6.later hb); (try replace F7 := F7.later hb); (try replace F8 := F8.later hb); (try replace F9 := F9.later hb); (try replace G1 := G1.later hb); (try replace G2 := G2.later hb); (try replace G3 := G3.later hb); (try replace z := z.later hb); (try replace b := later b hb); (try replace bB := mixed hB bB hb); clear hb) | (with_reducible show wpList _ _ _ (⟨_, Op.load _ _, _, _, _, _⟩ :: _) _ _; first | ((with_reducible show wpList _ _ _ (⟨_, Op.load 9 _, _, _, _, _⟩ :: _) _ _); first | (refine wpl_load_one rfl 9 _ rfl rfl (HdAt.c134 (by assumption)) (by kernel_rfl) ?_) | (refine wpl_load_one rfl 9 _ rfl rfl (HdAt.c135 (by assumption)) (by kernel_rfl) ?_) | (refine wpl_load_one rfl 9 _ rfl rfl (RtAt.c34 (by assumption)) (by kernel_rfl) ?_) | (refine wpl_load_one rfl 9 _ rfl rfl (One.cell (by assumption)) (by kernel_rfl) ?_)) | ((with_reducible show wpList _ _ _ (⟨_, Op.load 46 _, _, _, _, _⟩ :: _) _ _); first | (refine wpl_load_one rfl 46 _ rfl rfl (HdAt.c133 (by assumption)) (by kernel_rfl) ?_) | (refine wpl_load_one rfl 46 _ rfl rfl (HdAt.c132 (by assumption)) (by kernel_rfl) ?_) | (refine wpl_load_one rfl 46 _ rfl rfl (RtAt.c32 (by assumption)) (by kernel_rfl) ?_) | (refine wpl_load_one rfl 46 _ rfl rfl (RtAt.c33 (by assumption)) (by kernel_rfl) ?_)) | ((with_reducible show wpList _ _ _ (⟨_, Op.load 23 _, _, _, _, _⟩ :: _) _ _); first | (refine wpl_load_hash rfl _ rfl rfl (by assumption) ?_) | (refine wpl_load_elem rfl _ rfl rfl (HdAt.ch (by assumption)) (HdAt.ok (by assumption)).right.hot ?_) | (refine wpl_load_elem rfl _ rfl rfl (RtAt.c0 (by assumption)) (RtAt.ok (by assumption)).hot ?_)) | (refine wpl_load_hd rfl _ rfl rfl (by assumption) ?_) | (refine wpl_load_rt rfl _ rfl rfl (by assumption) ?_) | (refine wpl_load_hdrt rfl _ rfl rfl (by assumption) ?_)) | (with_reducible show wpList _ _ _ (⟨_, Op.store _ _ _, _, _, _, _⟩ :: _) _ _; refine wpl_set_hd rfl _ _ rfl rfl rfl ⟨numL_small _, numL_small _, HL.out _ (by decide), HL.out _ (by decide), HL.out _ (by decide), numL_small _, numL_small _, rt0_ok⟩ F6 ?_; intro _ t1 ht; (try replace F1 := F1.tt ht); (try replace F2 := F2.tt ht); (try replace F3 := F3.tt ht); (try replace F4 := F4.tt ht); (try replace F5 := F5.tt ht); (try replace F6 := F6.tt ht); (try replace F7 := F7.tt ht); (try replace F8 := F8.tt ht); (try replace F9 := F9.tt ht); (try replace G1 := G1.tt ht); (try replace G2 := G2.tt ht); (try replace G3 := G3.tt ht); (try replace z := z.tt ht); (try replace b := below_touch b ht (by omega) (by omega)); (try replace bB := below_touch bB ht (by omega) hB); replace F6 := t1; clear ht) | (with_reducible show wpList _ _ _ (⟨_, Op.store _ _ _, _, _, _, _⟩ :: _) _ _; refine wpl_set_hdrt rfl _ _ rfl rfl rfl ⟨HL.out _ (by decide), numL_small _, numL_small _⟩ F6 ?_; intro _ t1 ht; (try replace F1 := F1.tt ht); (try replace F2 := F2.tt ht); (try replace F3 := F3.tt ht); (try replace F4 := F4.tt ht); (try replace F5 := F5.tt ht); (try replace F6 := F6.tt ht); (try replace F7 := F7.tt ht); (try replace F8 := F8.tt ht); (try replace F9 := F9.tt ht); (try replace G1 := G1.tt ht); (try replace G2 := G2.tt ht); (try replace G3 := G3.tt ht); (try replace z := z.tt ht); (try replace b := below_touch b ht (by omega) (by omega)); (try replace bB := below_touch bB ht (by omega) hB); replace F6 := t1; clear ht) | (with_reducible show wpList _ _ _ (⟨_, Op.store _ _ _, _, _, _, _⟩ :: _) _ _; refine wpl_set_hdsig rfl _ _ rfl rfl rfl F6 ?_; intro _ t1 ht; (try replace F1 := F1.tt ht); (try replace F2 := F2.tt ht); (try replace F3 := F3.tt ht); (try replace F4 := F4.tt ht); (try replace F5 := F5.tt ht); (try replace F6 := F6.tt ht); (try replace F7 := F7.tt ht); (try replace F8 := F8.tt ht); (try replace F9 := F9.tt ht); (try replace G1 := G1.tt ht); (try replace G2 := G2.tt ht); (try replace G3 := G3.tt ht); (try replace z := z.tt ht); (try replace b := below_touch b ht (by omega) (by omega)); (try replace bB := below_touch bB ht (by omega) hB); replace F6 := t1; clear ht) | (with_reducible show wpList _ _ _ (⟨_, Op.store _ _ _, _, _, _, _⟩ :: _) _ _; refine wpl_set_hd rfl _ _ rfl rfl rfl (HdAt.ok F6) F2 ?_; intro _ t1 ht; (try replace F1 := F1.tt ht); (try replace F2 := F2.tt ht); (try replace F3 := F3.tt ht); (try replace F4 := F4.tt ht); (try replace F5 := F5.tt ht); (try replace F6 := F6.tt ht); (try replace F7 := F7.tt ht); (try replace F8 := F8.tt ht); (try replace F9 := F9.tt ht); (try replace G1 := G1.tt ht); (try replace G2 := G2.tt ht); (try replace G3 := G3.tt ht); (try replace z := z.tt ht); (try replace b := below_touch b ht (by omega) (by omega)); (try replace bB := below_touch bB ht (by omega) hB); replace F2 := t1; clear ht))
  exact bodyPost_ret (ret_hd_tmp rfl _ _ _ rfl rfl F2) rfl ⟨rfl, b⟩
set_option maxRecDepth 100000 in
set_option maxHeartbeats 1600000 in
theorem hdTake_out (s : ByteArray) (hs : s.size ≠ 2320) (w : World) :
    Calls Try.prog 34 #[.string s] w fun e w' => e = .returned (.tuple #[hdV hd0, .int .i64 6]) ∧ Below w.heap.size w w' := by
  have e0 : ((s.size : Int) != 2320) = true := by simp; omega
  have b := Below.refl w.heap.size w
  clear hs
  have mF2 := True.intro
  go_enter Try.func34, Try.ntmps34
  go_wp2_with (first | (with_reducible show wpList _ _ _ (⟨_, Op.alloc _, _, _, _, _⟩ :: _) _ _; clear mF2; refine wpl_mk_hd rfl rfl ?_; intro _ g2 hg2 F2 hb; (try have := F1.lt); (try have := F2.lt); (try have := F3.lt); (try have := F4.lt); (try have := F5.lt); (try have := F6.lt); (try have := F7.lt); (try have := F8.lt); (try have := F9.lt); (try have := z.lt); (try have := G1.lt); (try have := G2.lt); (try have := G3.lt); (try have := b.size); (try replace F1 := F1.later hb); (try replace F2 := F2.later hb); (try replace F3 := F3.later hb); (try replace F4 := F4.later hb); (try replace F5 := F5.later hb); (try replace F6 := F6.later hb); (try replace F7 := F7.later hb); (try replace F8 := F8.later hb); (try replace F9 := F9.later hb); (try replace G1 := G1.later hb); (try replace G2 := G2.later hb); (try replace G3 := G3.later hb); (try replace z := z.later hb); (try replace b := later b hb); (try replace bB := mixed hB bB hb); clear hb) | ((with_reducible show wpList _ _ _ (⟨_, Op.build _ _, _, _, _, _⟩ :: _) _ _); refine wpl_build rfl 50 _ rfl (hdCs hd0).toArray (by simpa using hdBuilt0) ?_) | (with_reducible show wpList _ _ _ (⟨_, Op.store _ _ _, _, _, _, _⟩ :: _) _ _; refine wpl_set_hd rfl _ _ rfl rfl rfl hd0_ok F2 ?_; intro _ t1 ht; (try replace F1 := F1.tt ht); (try replace F2 := F2.tt ht); (try replace F3 := F3.tt ht); (try replace F4 := F4.tt ht); (try replace F5 := F5.tt ht); (try replace F6 := F6.tt ht); (try replace F7 := F7.tt ht); (try replace F8 := F8.tt ht); (try replace F9 := F9.tt ht); (try replace G1 := G1.tt ht); (try replace G2 := G2.tt ht); (try replace G3 := G3.tt ht); (try replace z := z.tt ht); (try replace b := below_touch b ht (by omega) (by omega)); (try replace bB := below_touch bB ht (by omega) hB); replace F2 := t1; clear ht))
  exact bodyPost_ret (ret_hd_tmp rfl _ _ _ rfl rfl F2) rfl ⟨rfl, b⟩
/-- What Take hands back. -/
def takeH (s : ByteArray) : Hd × Int := if s.size = 2320 then (hdOf s.data.toList, 0) else (hd0, 6)
theorem takeH_ok (s : ByteArray) : (takeH s).1.Ok := by
  unfold takeH
  split
  · rename_i h; exact hdOf_ok (by simpa using h)
  · exact hd0_ok
theorem hdTake_any (s : ByteArray) (w : World) :
    Calls Try.prog 34 #[.string s] w fun e w' => e = .returned (.tuple #[hdV (takeH s).1, .int .i64 (takeH s).2]) ∧ Below w.heap.size w w' := by
  unfold takeH
  by_cases h : s.size = 2320
  · rw [if_pos h]
    have := hdTake_in s.data.toList (by simpa using h) w
    have e : (⟨s.data.toList.toArray⟩ : ByteArray) = s := by cases s; simp
    rwa [e] at this
  · rw [if_neg h]; exact hdTake_out s h w
end Go.Proofs.Ytofjjpielkfloaa
