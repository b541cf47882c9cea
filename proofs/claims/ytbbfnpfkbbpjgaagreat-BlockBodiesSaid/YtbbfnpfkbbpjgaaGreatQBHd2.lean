/- Package head: Granted, Grant. -/
import Derived.Test.YtbbfnpfkbbpjgaaGreatQBHdAt
import Derived.Test.YtbbfnpfkbbpjgaaGreatQBMOnce
import Derived.Test.YtbbfnpfkbbpjgaaGreatQBStep
namespace Go.Proofs.YtbbfnpfkbbpjgaaGreat
open Go.RowKit Go.Lib
set_option linter.unusedVariables false
set_option linter.unusedSimpArgs false
set_option maxRecDepth 100000
set_option maxHeartbeats 4000000
theorem q1b {n : Nat} {l : List UInt8} (h : l.length = n + 1) : ∃ x t, l = x :: t ∧ t.length = n := by
  cases l with
  | nil => cases h
  | cons x t => exact ⟨x, t, rfl, by simpa using h⟩
theorem q5e {l : List UInt8} (h : l.length = 32) : ∃ x0 x1 x2 x3 x4 x5 x6 x7 x8 x9 x10 x11 x12 x13 x14 x15 x16 x17 x18 x19 x20 x21 x22 x23 x24 x25 x26 x27 x28 x29 x30 x31 : UInt8, l = [x0, x1, x2, x3, x4, x5, x6, x7, x8, x9, x10, x11, x12, x13, x14, x15, x16, x17, x18, x19, x20, x21, x22, x23, x24, x25, x26, x27, x28, x29, x30, x31] := by
  obtain ⟨x0, t0, rfl, h0⟩ := q1b h
  obtain ⟨x1, t1, rfl, h1⟩ := q1b h0
  obtain ⟨x2, t2, rfl, h2⟩ := q1b h1
  obtain ⟨x3, t3, rfl, h3⟩ := q1b h2
  obtain ⟨x4, t4, rfl, h4⟩ := q1b h3
  obtain ⟨x5, t5, rfl, h5⟩ := q1b h4
  obtain ⟨x6, t6, rfl, h6⟩ := q1b h5
  obtain ⟨x7, t7, rfl, h7⟩ := q1b h6
  obtain ⟨x8, t8, rfl, h8⟩ := q1b h7
  obtain ⟨x9, t9, rfl, h9⟩ := q1b h8
  obtain ⟨x10, t10, rfl, h10⟩ := q1b h9
  obtain ⟨x11, t11, rfl, h11⟩ := q1b h10
  obtain ⟨x12, t12, rfl, h12⟩ := q1b h11
  obtain ⟨x13, t13, rfl, h13⟩ := q1b h12
  obtain ⟨x14, t14, rfl, h14⟩ := q1b h13
  obtain ⟨x15, t15, rfl, h15⟩ := q1b h14
  obtain ⟨x16, t16, rfl, h16⟩ := q1b h15
  obtain ⟨x17, t17, rfl, h17⟩ := q1b h16
  obtain ⟨x18, t18, rfl, h18⟩ := q1b h17
  obtain ⟨x19, t19, rfl, h19⟩ := q1b h18
  obtain ⟨x20, t20, rfl, h20⟩ := q1b h19
  obtain ⟨x21, t21, rfl, h21⟩ := q1b h20
  obtain ⟨x22, t22, rfl, h22⟩ := q1b h21
  obtain ⟨x23, t23, rfl, h23⟩ := q1b h22
  obtain ⟨x24, t24, rfl, h24⟩ := q1b h23
  obtain ⟨x25, t25, rfl, h25⟩ := q1b h24
  obtain ⟨x26, t26, rfl, h26⟩ := q1b h25
  obtain ⟨x27, t27, rfl, h27⟩ := q1b h26
  obtain ⟨x28, t28, rfl, h28⟩ := q1b h27
  obtain ⟨x29, t29, rfl, h29⟩ := q1b h28
  obtain ⟨x30, t30, rfl, h30⟩ := q1b h29
  obtain ⟨x31, t31, rfl, h31⟩ := q1b h30
  obtain rfl := List.eq_nil_of_length_eq_zero h31
  exact ⟨x0, x1, x2, x3, x4, x5, x6, x7, x8, x9, x10, x11, x12, x13, x14, x15, x16, x17, x18, x19, x20, x21, x22, x23, x24, x25, x26, x27, x28, x29, x30, x31, rfl⟩
end Go.Proofs.YtbbfnpfkbbpjgaaGreat
/- Package head: the reader. -/
namespace Go.Proofs.YtbbfnpfkbbpjgaaGreat
open Go.RowKit Go.Lib
set_option linter.unusedVariables false
set_option linter.unusedSimpArgs false
set_option maxRecDepth 100000
set_option maxHeartbeats 4000000
/-- The reader at block g has the bytes r ahead of it. -/
def Rd (w : World) (g : Nat) (r : List UInt8) : Prop := One w g 176 (.string ⟨r.toArray⟩)
theorem x8x (r : List UInt8) (n : Nat) : (⟨r.toArray⟩ : ByteArray).extract 0 n = ⟨(r.take n).toArray⟩ := by
  apply ByteArray.ext
  apply Array.toList_inj.1
  simp
theorem x6s (r : List UInt8) (n : Nat) : (⟨r.toArray⟩ : ByteArray).extract n (⟨r.toArray⟩ : ByteArray).size = ⟨(r.drop n).toArray⟩ := by
  apply ByteArray.ext
  apply Array.toList_inj.1
  simp [ByteArray.size, List.take_of_length_le]
theorem rdSize : (Tryz.prog.info? 176).map (·.size) = some 1 := by kernel_rfl
theorem j0f (g : Nat) (r : List UInt8) (n : Nat) (w : World) (h : Rd w g r) (hn : n ≤ r.length) (hm : r.length ≤ 1099511627776) :
    Calls Tryz.prog 140 #[.pointer (some ⟨g, 0, none⟩), .int .i64 n] w fun e w' => e = .returned (.string ⟨(r.take n).toArray⟩) ∧ Rd w' g (r.drop n) ∧ Touch (fun b => b = g) w w' := by
  have e1 := x8x r n
  have e2 := x6s r n
  have E1 := hide e1
  have E2 := hide e2
  have hs : (⟨r.toArray⟩ : ByteArray).size = r.length := rfl
  rw [← hs] at hn hm
  rw [← e1]
  unfold Rd at h ⊢
  rw [← e2]
  clear e1 e2 E1 E2 hs
  generalize (⟨r.toArray⟩ : ByteArray) = s at *
  have F1 : Arr w g 176 [.string s] := h
  clear h
  have c0 : w.cell? ⟨g, 0, none⟩ = some (.string s) := Arr.cell F1 (i := 0) (by simp)
  have t0 := Arr.thaw F1 0
  go_enter Tryz.func140, Tryz.ntmps140
  go_wp2_with fail
  go_ret
  exact ⟨rfl, One.set F1 _, q7q w ⟨g, 0, none⟩ _⟩
theorem Rd.later {w w' : World} {g : Nat} {r : List UInt8} (h : Rd w g r) (hb : Below w.heap.size w w') : Rd w' g r := One.later h hb
theorem Rd.touch {S : Nat → Prop} {w w' : World} {g : Nat} {r : List UInt8} (h : Rd w g r) (ht : Touch S w w') (hS : ¬ S g) : Rd w' g r := One.touch h ht hS
theorem Rd.lt {w : World} {g : Nat} {r : List UInt8} (h : Rd w g r) : g < w.heap.size := One.lt h
theorem j5i (g : Nat) (r : List UInt8) (w : World) (h : Rd w g r) (hn : 8 ≤ r.length) (hm : r.length ≤ 1099511627776) :
    Calls Tryz.prog 138 #[.pointer (some ⟨g, 0, none⟩)] w fun e w' => e = .returned (.int .u64 (numL (r.take 8))) ∧ Rd w' g (r.drop 8) ∧ Touch (fun b => b = g) w w' := by
  have HT : Hid (Calls Tryz.prog 140 #[.pointer (some ⟨g, 0, none⟩), .int .i64 8] w fun e w' => e = .returned (.string ⟨(r.take 8).toArray⟩) ∧ Rd w' g (r.drop 8) ∧ Touch (fun b => b = g) w w') := j0f g r 8 w h hn hm
  have HE : Hid (∀ w, Calls Tryz.prog 174 #[.string ⟨(r.take 8).toArray⟩] w fun e w' => e = .returned (.tuple #[.int .u64 (numL (r.take 8)), .int .i64 0]) ∧ Below w.heap.size w w') := fun w => by
    have hz : (⟨(r.take 8).toArray⟩ : ByteArray).size = 8 := by show (r.take 8).toArray.size = 8; rw [List.size_toArray, List.length_take]; omega
    have := j4m ⟨(r.take 8).toArray⟩ w (by omega) (by omega)
    rwa [show (⟨(r.take 8).toArray⟩ : ByteArray).data.toList.take 8 = r.take 8 from by show (r.take 8).take 8 = _; rw [List.take_take, Nat.min_self]] at this
  clear h hn hm
  generalize numL (r.take 8) = N at *
  generalize (⟨(r.take 8).toArray⟩ : ByteArray) = s at *
  go_enter Tryz.func138, Tryz.ntmps138
  go_wp2_with (first | (go_at_call 140; refine HT.out.mono ?_; rintro _ w1 ⟨rfl, F1, ht⟩) | (go_at_call 174; refine (HE.out _).mono ?_; rintro _ w2 ⟨rfl, hc⟩; replace F1 := F1.later hc; replace ht := ht.behind hc))
  go_ret
  exact ⟨rfl, F1, ht⟩
theorem x1b (g : Nat) (r : List UInt8) (w : World) (h : Rd w g r) (hn : 32 ≤ r.length) (hm : r.length ≤ 1099511627776) :
    Calls Tryz.prog 139 #[.pointer (some ⟨g, 0, none⟩)] w fun e w' => e = .returned (hv (r.take 32)) ∧ Rd w' g (r.drop 32) ∧ Touch (fun b => b = g) w w' := by
  have HT : Hid (∀ w, Rd w g r → Calls Tryz.prog 140 #[.pointer (some ⟨g, 0, none⟩), .int .i64 32] w fun e w' => e = .returned (.string ⟨(r.take 32).toArray⟩) ∧ Rd w' g (r.drop 32) ∧ Touch (fun b => b = g) w w') := fun w h => j0f g r 32 w h hn hm
  have F5 := h
  have hgw := h.lt
  have ht := Touch.refl (fun b => b = g) w
  have hl : (r.take 32).length = 32 := by rw [List.length_take]; omega
  have HL := hide hl
  have HZ : Hid (32 ≤ (⟨(r.take 32).toArray⟩ : ByteArray).size) := by unfold Hid; show 32 ≤ (r.take 32).toArray.size; rw [List.size_toArray]; omega
  have HD : Hid ((⟨(r.take 32).toArray⟩ : ByteArray).data.toList.take 32 = r.take 32) := by unfold Hid; show (r.take 32).take 32 = _; rw [List.take_take, Nat.min_self]
  clear h hn hm hl
  generalize (⟨(r.take 32).toArray⟩ : ByteArray) = s at *
  go_enter Tryz.func139, Tryz.ntmps139
  go_wp2_with (first | (with_reducible refine w5g ?_; refine q0v rfl rfl ?_; first | (have F2x := F2; intro _ g3 h3 F3 hb; have l2 := F2.lt; have l5 := F5.lt; replace F2 := F2.later hb; replace F5 := F5.later hb; replace ht := ht.behind hb; clear hb F2x) | (intro _ g2 h2 F2 hb; have l5 := F5.lt; replace F5 := F5.later hb; replace ht := ht.behind hb; clear hb)) | (with_reducible show Code.wp _ (Code.region _ _ true) _ _ _; (try simp only [pS]); fail))
  (try simp only [pS])
  have w2s := ht.size
  have g23 : g2 < g3 := by omega
  have gg2 : g < g2 := by omega
  have wg3 : w.heap.size ≤ g3 := by omega
  have wg2 : w.heap.size ≤ g2 := h2
  refine q1n (fun x => Touch (fun b => b = g) _ x) (.one [0, 1] 2 (.bar [] 3 (.stop []))) (by kernel_rfl) (by kernel_rfl) (by kernel_rfl) (by decide) (fun _ _ h hb => h.behind hb) (Touch.refl _ _) ?_
  intro wpl0 hb0 _ k0
  replace F2 := F2.later hb0
  replace F3 := F3.later hb0
  replace F5 := F5.later hb0
  replace ht := ht.behind hb0
  refine q0w ?_
  simp only [pickOps, opAt, List.getElem?_cons_succ, List.getElem?_cons_zero, List.nil_append, List.cons_append]
  repeat (first | go_big_quiet_skip | (go_big_quiet_want; go_big_quiet_op; first | go_big_quiet_on | (refine ⟨_, fun _ => rfl, ?_⟩; go_big_quiet_on)))
  refine wpQuiet_nil ?_
  intro wq hb k
  replace F2 := F2.later hb
  replace F3 := F3.later hb
  replace F5 := F5.later hb
  replace ht := ht.behind hb
  have l3 := F3.lt
  have l2' := F2.lt
  clear hb
  go_wp2_with (go_at_call 140; refine (HT.out _ F5).mono ?_; rintro _ w1 ⟨rfl, h1, ht1⟩; clear F5; have F5 := h1; clear h1; replace k := k.add ht1 (fun x h => h); replace ht := ht.add ht1 (fun x h => h); replace F3 := F3.touch ht1 (by show ¬ _ = _; omega); replace F2 := F2.touch ht1 (by show ¬ _ = _; omega); clear ht1)
  refine q6x (fun _ _ h hb => h.behind hb) k ?_
  clear k
  (try simp only [pS])
  refine q2s ?_
  simp only [pickOps, opAt, List.getElem?_cons_succ, List.getElem?_cons_zero, List.nil_append, List.cons_append]
  repeat (first | go_big_quiet_skip | (go_big_quiet_want; go_big_quiet_op; first | go_big_quiet_on | (refine ⟨_, fun _ => rfl, ?_⟩; go_big_quiet_on)))
  refine wpQuiet_nil ?_
  intro wr hb k
  clear k
  replace F2 := F2.later hb
  replace F3 := F3.later hb
  replace F5 := F5.later hb
  replace ht := ht.behind hb
  clear hb
  refine q9y rfl _ _ rfl rfl rfl HZ.out F3 ?_
  rw [HD.out]
  intro ws t1 ht2
  clear F3
  have F3 := t1
  replace F2 := F2.touch ht2 (by show ¬ _ = _; omega)
  replace F5 := F5.touch ht2 (by show ¬ _ = _; omega)
  replace ht := ht.trans ht2 (fun x hx => .inr (by have : x = g3 := hx; omega))
  clear ht2 t1
  refine q1y ?_
  (try simp only [pS])
  refine q2i ?_
  simp only [pickOps, opAt, List.getElem?_cons_succ, List.getElem?_cons_zero, List.nil_append, List.cons_append]
  repeat (first | go_big_quiet_skip | (go_big_quiet_want; go_big_quiet_op; first | go_big_quiet_on | (refine ⟨_, fun _ => rfl, ?_⟩; go_big_quiet_on)))
  refine wpQuiet_nil ?_
  intro wt hb k
  clear k
  replace F2 := F2.later hb
  replace F3 := F3.later hb
  replace F5 := F5.later hb
  replace ht := ht.behind hb
  clear hb
  go_wp2_with (first | (with_reducible refine w0g ?_; refine q0t rfl _ rfl rfl (by assumption) ?_) | (with_reducible refine w6g ?_; refine q0l rfl _ _ rfl rfl rfl HL.out F2 ?_; intro _ t1 ht2; replace F5 := F5.touch ht2 (by show ¬ _ = _; omega); replace ht := ht.trans ht2 (fun x hx => .inr (by have : x = g2 := hx; omega)); clear F2; have F2 := t1; clear t1 ht2))
  exact bodyPost_ret (q3f rfl _ _ rfl F2) rfl ⟨rfl, F5, ht⟩
end Go.Proofs.YtbbfnpfkbbpjgaaGreat
/- Package head: Take. -/
namespace Go.Proofs.YtbbfnpfkbbpjgaaGreat
open Go.RowKit Go.Lib
set_option linter.unusedVariables false
set_option linter.unusedSimpArgs false
set_option maxRecDepth 100000
set_option maxHeartbeats 4000000
theorem Rd.tt {w w' : World} {g g' : Nat} {r : List UInt8} (h : Rd w g r) (ht : Touch (fun x => x = g') w w') (hS : ¬ g = g' := by omega) : Rd w' g r := h.touch ht hS
/-- The head that bytes are. -/
def hdOf (L : List UInt8) : Hd := ⟨numL (L.take 8), numL ((L.drop 8).take 8), (L.drop 16).take 32, (L.drop 48).take 32, (L.drop 80).take 32, numL ((L.drop 112).take 8), numL ((L.drop 120).take 8),
  ⟨(L.drop 128).take 32, numL ((L.drop 160).take 8), numL ((L.drop 168).take 8), ⟨((L.drop 176).take 1024).toArray⟩⟩, ⟨((L.drop 1200).take 1120).toArray⟩⟩
theorem q3c (l : List UInt8) : numL (l.take 8) < 18446744073709551616 := by
  have h1 := x4e (l.take 8)
  have h2 : (l.take 8).length ≤ 8 := by rw [List.length_take]; omega
  have h3 : 256 ^ (l.take 8).length ≤ 256 ^ 8 := Nat.pow_le_pow_right (by omega) h2
  omega
theorem x4q {L : List UInt8} (h : L.length = 2320) : (hdOf L).Ok := by
  have k : ∀ i, i + 32 ≤ 2320 → ((L.drop i).take 32).length = 32 := fun i hi => by rw [List.length_take, List.length_drop, h]; omega
  exact ⟨q3c _, q3c _, k 16 (by decide), k 48 (by decide), k 80 (by decide), q3c _, q3c _, ⟨k 128 (by decide), q3c _, q3c _⟩⟩
theorem x1c {P : Program} {ops : Array Oper} {rest : List Oper} {o : Oper} {a : Act} {w : World} {Q : Exit → Act → World → Prop} (hw : Region.wanted o (yielded ops a.tmps) = true) (t : TypeId) (x0 x1 x2 x3 x4 x5 x6 : Operand) (ho : o.op = .build t #[(0, x0), (1, x1), (2, x2), (3, x3), (4, x4), (5, x5), (6, x6)]) {v0 v1 v2 v3 v4 v5 v6 : Value}
    (h0 : a.eval x0 = v0) (h1 : a.eval x1 = v1) (h2 : a.eval x2 = v2) (h3 : a.eval x3 = v3) (h4 : a.eval x4 = v4) (h5 : a.eval x5 = v5) (h6 : a.eval x6 = v6) {cs : List Value} (hc : P.built t [(0, v0), (1, v1), (2, v2), (3, v3), (4, v4), (5, v5), (6, v6)] = some cs.toArray)
    (hk : wpList P ops Q rest (a.put o.dst (.agg cs.toArray)) w) : wpList P ops Q (o :: rest) a w := q9d hw t _ ho (by simp [h0, h1, h2, h3, h4, h5, h6]) hc hk
theorem x0y {P : Program} {ops : Array Oper} {rest : List Oper} {o : Oper} {a : Act} {w : World} {Q : Exit → Act → World → Prop} (hw : Region.wanted o (yielded ops a.tmps) = true) (t : TypeId) (x0 x1 x2 x3 : Operand) (ho : o.op = .build t #[(0, x0), (1, x1), (2, x2), (3, x3)]) {v0 v1 v2 v3 : Value}
    (h0 : a.eval x0 = v0) (h1 : a.eval x1 = v1) (h2 : a.eval x2 = v2) (h3 : a.eval x3 = v3) {cs : List Value} (hc : P.built t [(0, v0), (1, v1), (2, v2), (3, v3)] = some cs.toArray)
    (hk : wpList P ops Q rest (a.put o.dst (.agg cs.toArray)) w) : wpList P ops Q (o :: rest) a w := q9d hw t _ ho (by simp [h0, h1, h2, h3]) hc hk
theorem rtBuilt4 (c s : Nat) (g : ByteArray) {l : List UInt8} (h : l.length = 32) : Tryz.prog.built 47 [(0, hv l), (1, .int .u64 c), (2, .int .u64 s), (3, .string g)] = some (rtCs ⟨l, c, s, g⟩).toArray := by
  obtain ⟨x0, x1, x2, x3, x4, x5, x6, x7, x8, x9, x10, x11, x12, x13, x14, x15, x16, x17, x18, x19, x20, x21, x22, x23, x24, x25, x26, x27, x28, x29, x30, x31, rfl⟩ := q5e h
  clear h
  kernel_rfl
theorem hdBuilt7 (n m s k : Nat) {p q b : List UInt8} (hp : p.length = 32) (hq : q.length = 32) (hb : b.length = 32) :
    Tryz.prog.built 49 [(0, .int .u64 n), (1, .int .u64 m), (2, hv p), (3, hv q), (4, hv b), (5, .int .u64 s), (6, .int .u64 k)] = some (hdCs ⟨n, m, p, q, b, s, k, rt0, ByteArray.empty⟩).toArray := by
  obtain ⟨x0, x1, x2, x3, x4, x5, x6, x7, x8, x9, x10, x11, x12, x13, x14, x15, x16, x17, x18, x19, x20, x21, x22, x23, x24, x25, x26, x27, x28, x29, x30, x31, rfl⟩ := q5e hp
  obtain ⟨y0, y1, y2, y3, y4, y5, y6, y7, y8, y9, y10, y11, y12, y13, y14, y15, y16, y17, y18, y19, y20, y21, y22, y23, y24, y25, y26, y27, y28, y29, y30, y31, rfl⟩ := q5e hq
  obtain ⟨z0, z1, z2, z3, z4, z5, z6, z7, z8, z9, z10, z11, z12, z13, z14, z15, z16, z17, z18, z19, z20, z21, z22, z23, z24, z25, z26, z27, z28, z29, z30, z31, rfl⟩ := q5e hb
  clear hp hq hb
  kernel_rfl
theorem rdZero : (Tryz.prog.info? 176).bind (·.zero) = some (.string ⟨#[]⟩) := by kernel_rfl
theorem x4u (L : List UInt8) (hL : L.length = 2320) (w : World) :
    Calls Tryz.prog 66 #[.string ⟨L.toArray⟩] w fun e w' => e = .returned (.tuple #[hdV (hdOf L), .int .i64 0]) ∧ Below w.heap.size w w' := by
  have HN : Hid (∀ k g w, Rd w g (L.drop k) → k + 8 ≤ 2320 → Calls Tryz.prog 138 #[.pointer (some ⟨g, 0, none⟩)] w fun e w' => e = .returned (.int .u64 (numL ((L.drop k).take 8))) ∧ Rd w' g (L.drop (k + 8)) ∧ Touch (fun b => b = g) w w') := fun k g w h hk => by
    have := j5i g _ w h (by rw [List.length_drop, hL]; omega) (by rw [List.length_drop, hL]; omega)
    rwa [List.drop_drop] at this
  have HH : Hid (∀ k g w, Rd w g (L.drop k) → k + 32 ≤ 2320 → Calls Tryz.prog 139 #[.pointer (some ⟨g, 0, none⟩)] w fun e w' => e = .returned (hv ((L.drop k).take 32)) ∧ Rd w' g (L.drop (k + 32)) ∧ Touch (fun b => b = g) w w') := fun k g w h hk => by
    have := x1b g _ w h (by rw [List.length_drop, hL]; omega) (by rw [List.length_drop, hL]; omega)
    rwa [List.drop_drop] at this
  have HT : Hid (∀ k n g w, Rd w g (L.drop k) → k + n ≤ 2320 → Calls Tryz.prog 140 #[.pointer (some ⟨g, 0, none⟩), .int .i64 n] w fun e w' => e = .returned (.string ⟨((L.drop k).take n).toArray⟩) ∧ Rd w' g (L.drop (k + n)) ∧ Touch (fun b => b = g) w w') := fun k n g w h hk => by
    have := j0f g _ n w h (by rw [List.length_drop, hL]; omega) (by rw [List.length_drop, hL]; omega)
    rwa [List.drop_drop] at this
  have HL : Hid (∀ k, k + 32 ≤ 2320 → ((L.drop k).take 32).length = 32) := fun i hi => by rw [List.length_take, List.length_drop, hL]; omega
  have HOK := hide (x4q hL)
  have HO : Hid (hdOf L = hdOf L) := rfl
  have hz : (⟨L.toArray⟩ : ByteArray).size = 2320 := by show L.toArray.size = 2320; rw [List.size_toArray]; exact hL
  have HS : Hid ((⟨L.toArray⟩ : ByteArray) = ⟨(L.drop 0).toArray⟩) := rfl
  have b := Below.refl w.heap.size w
  clear hL
  generalize hs0 : (⟨L.toArray⟩ : ByteArray) = s at HS hz ⊢
  clear hs0
  have HT1 : Hid (∀ k g w, Rd w g (L.drop k) → k + 1024 ≤ 2320 → Calls Tryz.prog 140 #[.pointer (some ⟨g, 0, none⟩), .int .i64 1024] w fun e w' => e = .returned (.string ⟨((L.drop k).take 1024).toArray⟩) ∧ Rd w' g (L.drop (k + 1024)) ∧ Touch (fun b => b = g) w w') := fun k g w h hk => HT.out k 1024 g w h hk
  have HT2 : Hid (∀ k g w, Rd w g (L.drop k) → k + 1120 ≤ 2320 → Calls Tryz.prog 140 #[.pointer (some ⟨g, 0, none⟩), .int .i64 1120] w fun e w' => e = .returned (.string ⟨((L.drop k).take 1120).toArray⟩) ∧ Rd w' g (L.drop (k + 1120)) ∧ Touch (fun b => b = g) w w') := fun k g w h hk => HT.out k 1120 g w h hk
  clear HT
  have mF1 := True.intro
  have mF2 := True.intro
  have mF6 := True.intro
  go_enter Tryz.func66, Tryz.ntmps66
  go_wp2_with (first | (with_reducible refine w5g ?_; clear mF2; refine q7u rfl rfl ?_; intro _ g2 hg2 F2 hb; (try have := F1.lt); (try have := F2.lt); (try have := F5.lt); (try have := F6.lt); (try have := b.size); (try replace F1 := F1.later hb); (try replace F2 := F2.later hb); (try replace F5 := F5.later hb); (try replace F6 := F6.later hb); (try replace b := later b hb); clear hb) | ((with_reducible show wpList _ _ _ (⟨_, Op.alloc 176, _, _, _, _⟩ :: _) _ _); clear mF1; refine q4s rfl 176 rfl rdZero (cs := [.string ⟨#[]⟩]) rfl ?_; intro _ g4 h4 F1 hb; (try have := F1.lt); (try have := F2.lt); (try have := F5.lt); (try have := F6.lt); (try have := b.size); have l1 := Arr.lt F1; replace F2 := F2.later hb; replace b := later b hb; clear hb) | ((with_reducible show wpList _ _ _ (⟨_, Op.store 176 _ _, _, _, _, _⟩ :: _) _ _); refine q1a rfl 176 _ _ rfl (v := .string s) rfl rfl F1 (by decide) rdSize rfl rfl ?_; intro _ F5 ht; replace F5 : Rd _ g4 (L.drop 0) := (by have h5 := F5; rw [HS.out] at h5; exact h5); replace F2 := F2.tt ht; replace b := q0c b ht (by omega) (by omega); clear ht F1) | (go_at_call 138; refine (HN.out _ _ _ F5 (by decide)).mono ?_; (rintro _ _ ⟨rfl, h1, ht⟩; clear F5; have F5 := h1; clear h1; replace F2 := F2.tt ht; (try replace F6 := F6.tt ht); replace b := q0c b ht (by omega) (by omega); clear ht)) | (go_at_call 139; refine (HH.out _ _ _ F5 (by decide)).mono ?_; (rintro _ _ ⟨rfl, h1, ht⟩; clear F5; have F5 := h1; clear h1; replace F2 := F2.tt ht; (try replace F6 := F6.tt ht); replace b := q0c b ht (by omega) (by omega); clear ht)) | (go_at_call 140; (with_reducible show Calls _ _ #[_, .int .i64 1024] _ _); refine (HT1.out _ _ _ F5 (by decide)).mono ?_; (rintro _ _ ⟨rfl, h1, ht⟩; clear F5; have F5 := h1; clear h1; replace F2 := F2.tt ht; (try replace F6 := F6.tt ht); replace b := q0c b ht (by omega) (by omega); clear ht)) | (go_at_call 140; (with_reducible show Calls _ _ #[_, .int .i64 1120] _ _); refine (HT2.out _ _ _ F5 (by decide)).mono ?_; (rintro _ _ ⟨rfl, h1, ht⟩; clear F5; have F5 := h1; clear h1; replace F2 := F2.tt ht; (try replace F6 := F6.tt ht); replace b := q0c b ht (by omega) (by omega); clear ht)) | ((with_reducible refine w7g ?_); refine x1c rfl 49 _ _ _ _ _ _ _ rfl rfl rfl rfl rfl rfl rfl rfl (hdBuilt7 _ _ _ _ (HL.out _ (by decide)) (HL.out _ (by decide)) (HL.out _ (by decide))) ?_) | ((with_reducible refine w7g ?_); refine x0y rfl 47 _ _ _ _ rfl rfl rfl rfl rfl (rtBuilt4 _ _ _ (HL.out _ (by decide))) ?_) | (with_reducible refine w5g ?_; clear mF6; refine q7u rfl rfl ?_; intro _ g5 hg5 F6 hb; (try have := F1.lt); (try have := F2.lt); (try have := F5.lt); (try have := F6.lt); (try have := b.size); (try replace F1 := F1.later hb); (try replace F2 := F2.later hb); (try replace F5 := F5.later hb); (try replace F6 := F6.later hb); (try replace b := later b hb); clear hb) | (with_reducible refine w0g ?_; first | ((with_reducible refine w1g ?_); first | (refine q0a rfl 9 _ rfl rfl (HdAt.c134 (by assumption)) (by kernel_rfl) ?_) | (refine q0a rfl 9 _ rfl rfl (HdAt.c135 (by assumption)) (by kernel_rfl) ?_) | (refine q0a rfl 9 _ rfl rfl (RtAt.c34 (by assumption)) (by kernel_rfl) ?_) | (refine q0a rfl 9 _ rfl rfl (One.cell (by assumption)) (by kernel_rfl) ?_)) | ((with_reducible refine w2g ?_); first | (refine q0a rfl 24 _ rfl rfl (HdAt.c133 (by assumption)) (by kernel_rfl) ?_) | (refine q0a rfl 24 _ rfl rfl (HdAt.c132 (by assumption)) (by kernel_rfl) ?_) | (refine q0a rfl 24 _ rfl rfl (RtAt.c32 (by assumption)) (by kernel_rfl) ?_) | (refine q0a rfl 24 _ rfl rfl (RtAt.c33 (by assumption)) (by kernel_rfl) ?_)) | ((with_reducible refine w3g ?_); first | (refine q0t rfl _ rfl rfl (by assumption) ?_) | (refine q0j rfl _ rfl rfl (HdAt.ch (by assumption)) (HdAt.ok (by assumption)).right.hot ?_) | (refine q0j rfl _ rfl rfl (RtAt.c0 (by assumption)) (RtAt.ok (by assumption)).hot ?_)) | (refine q4a rfl _ rfl rfl (by assumption) ?_) | (refine q5y rfl _ rfl rfl (by assumption) ?_) | (refine q4q rfl _ rfl rfl (by assumption) ?_)) | (with_reducible refine w6g ?_; refine q6t rfl _ _ rfl rfl rfl ⟨q3c _, q3c _, HL.out _ (by decide), HL.out _ (by decide), HL.out _ (by decide), q3c _, q3c _, x9a⟩ F6 ?_; intro _ t1 ht; (try replace F1 := F1.tt ht); (try replace F2 := F2.tt ht); (try replace F5 := F5.tt ht); (try replace F6 := F6.tt ht); (try replace b := q0c b ht (by omega) (by omega)); replace F6 := t1; clear ht) | (with_reducible refine w6g ?_; refine j6z rfl _ _ rfl rfl rfl ⟨HL.out _ (by decide), q3c _, q3c _⟩ F6 ?_; intro _ t1 ht; (try replace F1 := F1.tt ht); (try replace F2 := F2.tt ht); (try replace F5 := F5.tt ht); (try replace F6 := F6.tt ht); (try replace b := q0c b ht (by omega) (by omega)); replace F6 := t1; clear ht) | (with_reducible refine w6g ?_; refine j4q rfl _ _ rfl rfl rfl F6 ?_; intro _ t1 ht; (try replace F1 := F1.tt ht); (try replace F2 := F2.tt ht); (try replace F5 := F5.tt ht); (try replace F6 := F6.tt ht); (try replace b := q0c b ht (by omega) (by omega)); replace F6 := t1; clear ht) | (with_reducible refine w6g ?_; refine q6t rfl _ _ rfl rfl rfl (HdAt.ok F6) F2 ?_; intro _ t1 ht; (try replace F1 := F1.tt ht); (try replace F2 := F2.tt ht); (try replace F5 := F5.tt ht); (try replace F6 := F6.tt ht); (try replace b := q0c b ht (by omega) (by omega)); replace F2 := t1; clear ht))
  exact bodyPost_ret (x0b rfl _ _ _ rfl rfl F2) rfl ⟨rfl, b⟩
end Go.Proofs.YtbbfnpfkbbpjgaaGreat
/- Eight bytes are a number, and back: plain law. -/
namespace Go.Proofs.YtbbfnpfkbbpjgaaGreat
open Go.RowKit Go.Lib
set_option linter.unusedVariables false
set_option linter.unusedSimpArgs false
set_option maxRecDepth 100000
set_option maxHeartbeats 4000000
theorem q5o (n : Nat) (h : n < 18446744073709551616) : numL (eightL n) = n := by
  have e : eightL n = [UInt8.ofNat (n / 72057594037927936 % 256), UInt8.ofNat (n / 281474976710656 % 256), UInt8.ofNat (n / 1099511627776 % 256), UInt8.ofNat (n / 4294967296 % 256), UInt8.ofNat (n / 16777216 % 256), UInt8.ofNat (n / 65536 % 256), UInt8.ofNat (n / 256 % 256), UInt8.ofNat (n / 1 % 256)] := by
    simp [eightL, List.range_succ]
  rw [e]
  unfold numL
  simp only [List.foldl_cons, List.foldl_nil, UInt8.toNat_ofNat']
  have k7 : n / 72057594037927936 < 256 := by omega
  have k6 : n / 281474976710656 = n / 72057594037927936 * 256 + n / 281474976710656 % 256 := by omega
  have k5 : n / 1099511627776 = n / 281474976710656 * 256 + n / 1099511627776 % 256 := by omega
  have k4 : n / 4294967296 = n / 1099511627776 * 256 + n / 4294967296 % 256 := by omega
  have k3 : n / 16777216 = n / 4294967296 * 256 + n / 16777216 % 256 := by omega
  have k2 : n / 65536 = n / 16777216 * 256 + n / 65536 % 256 := by omega
  have k1 : n / 256 = n / 65536 * 256 + n / 256 % 256 := by omega
  have k0 : n = n / 256 * 256 + n % 256 := by omega
  have m : ∀ x : Nat, x % 256 % 2 ^ 8 = x % 256 := fun x => by omega
  simp only [m, Nat.div_one, Nat.zero_mul, Nat.zero_add]
  rw [Nat.mod_eq_of_lt k7, ← k6, ← k5, ← k4, ← k3, ← k2, ← k1, ← k0]
end Go.Proofs.YtbbfnpfkbbpjgaaGreat
