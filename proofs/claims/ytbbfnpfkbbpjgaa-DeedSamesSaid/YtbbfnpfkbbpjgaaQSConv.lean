/- Bytes in memory turned into a string, as a step. -/
import Derived.Test.YtbbfnpfkbbpjgaaQSStep
import Derived.Test.YtbbfnpfkbbpjgaaQSDig8
import Derived.Test.YtbbfnpfkbbpjgaaQSDeedL
import Derived.Test.YtbbfnpfkbbpjgaaQSDeedB
import Derived.Test.YtbbfnpfkbbpjgaaQSDeedR
namespace Go.Proofs.Ytbbfnpfkbbpjgaa
open Go.RowKit Go.Lib
set_option linter.unusedVariables false
set_option linter.unusedSimpArgs false

theorem conv_cells {w : World} {g k : Nat} {l : List UInt8} (h : Cells w g k (bvs l)) {n : Nat} (cap : Nat) (hn : l.length = n) : (convert 63 9 (.slice (some ⟨g, k, none⟩) n cap)).run Try.prog w = .ok (.string ⟨l.toArray⟩) w := by
  subst hn
  refine run_convert_bytes_back w _ _ 5 ⟨g, k, none⟩ cap l Try.underlying63 Try.underlying5 Try.underlying9 (fun j hj => ?_)
  rw [Cells.add]
  exact h j _ (by unfold bvs; rw [List.getElem?_map, List.getElem?_eq_getElem hj]; rfl)
section
variable {ops : Array Oper} {rest : List Oper} {o : Oper} {a : Act} {w w0 : World} {Q : Exit → Act → World → Prop} {K : Act → Prop} {g k n cap : Nat} {l : List UInt8}
theorem exec_conv (x : Operand) (ho : o.op = .convert 63 9 x) (hx : a.eval x = .slice (some ⟨g, k, none⟩) n cap) (h : Cells w g k (bvs l)) (hn : l.length = n) : (execOp a.eval o).run Try.prog w = .ok (.value (.string ⟨l.toArray⟩)) w := by
  unfold execOp
  simp only [ho, hx, Sem.run_bind, conv_cells h cap hn, Result.andThen_ok, Sem.run_pure]
theorem since_conv (x : Operand) (ho : o.op = .convert 63 9 x) (hx : a.eval x = .slice (some ⟨g, k, none⟩) n cap) (h : Cells w0 g k (bvs l)) (hn : l.length = n)
    (hk : K (a.put o.dst (.string ⟨l.toArray⟩))) : o.quiet Try.prog a (fun w' => ∃ s : Since w0, w' = s.w) K :=
  quiet_value _ (fun w ⟨s, hs⟩ => by subst hs; exact exec_conv x ho hx (fun j v hj => Since.cell (h j v hj) s) hn) hk
end
end Go.Proofs.Ytbbfnpfkbbpjgaa

/- Eight bytes are a number, and back: plain law. -/
namespace Go.Proofs.Ytbbfnpfkbbpjgaa
open Go.RowKit Go.Lib
set_option linter.unusedVariables false
set_option linter.unusedSimpArgs false

theorem numL_eight (n : Nat) (h : n < 18446744073709551616) : numL (eightL n) = n := by
  have e : eightL n = [UInt8.ofNat (n / 72057594037927936 % 256), UInt8.ofNat (n / 281474976710656 % 256), UInt8.ofNat (n / 1099511627776 % 256), UInt8.ofNat (n / 4294967296 % 256), UInt8.ofNat (n / 16777216 % 256), UInt8.ofNat (n / 65536 % 256), UInt8.ofNat (n / 256 % 256), UInt8.ofNat (n / 1 % 256)] := by
    simp [eightL, List.range_succ]
  rw [e]
  unfold numL
  simp only [List.foldl_cons, List.foldl_nil, UInt8.toNat_ofNat']
  have k7 : n / 72057594037927936 < 256 := by omega
  have k6 : n / 281474976710656 = n / 72057594037927936 * 256 + n / 281474976710656 % 256 := by omega
  have k5 : n / 1099511627776 = n / 281474976710656 * 256 + n / 1099511627776 % 256 := by omega
  have k4 : n / 4294967296 = n / 1099511627776 * 256 + n / 4294967296 % 256 := by omega
  have k3 : n / 16777216 = n / 4294967296 * 256 + n / 16777216 % 256 := by omega
  have k2 : n / 65536 = n / 16777216 * 256 + n / 65536 % 256 := by omega
  have k1 : n / 256 = n / 65536 * 256 + n / 256 % 256 := by omega
  have k0 : n = n / 256 * 256 + n % 256 := by omega
  have m : ∀ x : Nat, x % 256 % 2 ^ 8 = x % 256 := fun x => by omega
  simp only [m, Nat.div_one, Nat.zero_mul, Nat.zero_add]
  rw [Nat.mod_eq_of_lt k7, ← k6, ← k5, ← k4, ← k3, ← k2, ← k1, ← k0]
end Go.Proofs.Ytbbfnpfkbbpjgaa

/- Spots in their order: plain law. -/
namespace Go.Proofs.Ytbbfnpfkbbpjgaa
open Go.RowKit Go.Lib
set_option linter.unusedVariables false
set_option linter.unusedSimpArgs false

theorem foldN (l : List UInt8) : ∀ n : Nat, l.foldl (fun n x => n * 256 + x.toNat) n = n * 256 ^ l.length + numL l := by
  unfold numL
  induction l with
  | nil => intro n; simp
  | cons x l ih =>
    intro n
    rw [List.foldl_cons, ih, List.foldl_cons, ih (0 * 256 + x.toNat), List.length_cons, Nat.pow_succ]
    rw [Nat.zero_mul, Nat.zero_add, Nat.add_mul, Nat.add_assoc]
    congr 1
    rw [Nat.mul_comm (256 ^ l.length) 256, Nat.mul_assoc]
theorem numL_cons (x : UInt8) (l : List UInt8) : numL (x :: l) = x.toNat * 256 ^ l.length + numL l := by
  have := foldN l (0 * 256 + x.toNat)
  rw [Nat.zero_mul, Nat.zero_add] at this
  show List.foldl _ _ _ = _
  rw [List.foldl_cons, Nat.zero_mul, Nat.zero_add, this]
theorem less_num : ∀ (a b : List UInt8), a.length = b.length → Op.bytesLess a b = decide (numL a < numL b)
  | [], [], _ => by simp [Op.bytesLess, numL]
  | [], _ :: _, h => by simp at h
  | _ :: _, [], h => by simp at h
  | x :: a, y :: b, h => by
    have hl : a.length = b.length := by simpa using h
    have ih := less_num a b hl
    have ha := numL_lt a
    have hb := numL_lt b
    rw [numL_cons, numL_cons, hl]
    rw [hl] at ha
    unfold Op.bytesLess
    rw [ih]
    generalize 256 ^ b.length = P at *
    generalize numL a = A at *
    generalize numL b = B at *
    have hxy : (x < y) = (x.toNat < y.toNat) := rfl
    rcases Nat.lt_trichotomy x.toNat y.toNat with h1 | h1 | h1
    · have h2 : x.toNat * P + A < y.toNat * P + B := by
        have : (x.toNat + 1) * P ≤ y.toNat * P := Nat.mul_le_mul_right _ h1
        rw [Nat.add_mul] at this
        omega
      simp [hxy, h1, h2]
    · have e : x = y := UInt8.toNat_inj.1 h1
      subst e
      simp
    · have h2 : ¬ x.toNat * P + A < y.toNat * P + B := by
        have : (y.toNat + 1) * P ≤ x.toNat * P := Nat.mul_le_mul_right _ h1
        rw [Nat.add_mul] at this
        omega
      have h3 : ¬ x.toNat < y.toNat := by omega
      have h4 : ¬ x = y := fun h => by rw [h] at h1; omega
      simp [hxy, h3, h4, h2]
theorem less_app : ∀ (a b c d : List UInt8), a.length = b.length → Op.bytesLess (a ++ c) (b ++ d) = (Op.bytesLess a b || (decide (a = b) && Op.bytesLess c d))
  | [], [], c, d, _ => by simp [Op.bytesLess]
  | [], _ :: _, _, _, h => by simp at h
  | _ :: _, [], _, _, h => by simp at h
  | x :: a, y :: b, c, d, h => by
    have ih := less_app a b c d (by simpa using h)
    have e1 : ∀ (x y : UInt8) (u v : List UInt8), Op.bytesLess (x :: u) (y :: v) = (decide (x < y) || (x == y && Op.bytesLess u v)) := fun _ _ _ _ => rfl
    rw [List.cons_append, List.cons_append, e1, e1, ih]
    generalize Op.bytesLess c d = Z
    generalize Op.bytesLess a b = Y
    by_cases e : x = y
    · subst e
      simp
    · have e2 : (x == y) = false := by rw [beq_eq_false_iff_ne]; exact e
      rw [e2]
      simp [e]
theorem spot_less (x y : InT) (hx : x.Ok) (hy : y.Ok) : Op.bytesLess (spotL x) (spotL y) = (Op.bytesLess x.tx y.tx || (decide (x.tx = y.tx) && decide (x.index < y.index))) := by
  unfold spotL
  rw [less_app _ _ _ _ (by rw [hx.1, hy.1]), less_num (eightL x.index) (eightL y.index) (by rw [eightL_length, eightL_length]), numL_eight _ hx.2, numL_eight _ hy.2]
end Go.Proofs.Ytbbfnpfkbbpjgaa

/- Laws of layer 13: DeedSames. -/
namespace Go.Proofs.Ytbbfnpfkbbpjgaa
open Go.RowKit Go.Lib
set_option linter.unusedVariables false
set_option linter.unusedSimpArgs false

set_option maxRecDepth 100000 in
set_option maxHeartbeats 40000000 in
theorem deedSames_any (w : World) (v : Value) (d : Deed) (h : DeedIs w v d) (hf : d.Fit) (u : Value) (e : Deed) (k : DeedIs w u e) (kf : e.Fit) (x : InT) (hx : x.Ok) (y : InT) (hy : y.Ok) :
    Calls Try.prog 8 #[v, u, inV x, inV y] w fun x w' => x = .returned (.bool true) ∧ Below w.heap.size w w' := by
  have HD1 := hide (fun (w' : World) (hb : Below w.heap.size w w') => deedSame_any v u d e w' (h.later hb) (k.later hb))
  have HD2 := hide (fun (w' : World) (hb : Below w.heap.size w w') => refSame_any v u d e w' (h.later hb) (k.later hb))
  have HG1 := hide (fun (w' : World) (hb : Below w.heap.size w w') => great13_any v d w' (h.later hb) hf)
  have HG2 := hide (fun (w' : World) (hb : Below w.heap.size w w') => great13_any u e w' (k.later hb) kf)
  have HW := hide works13
  have HSX := hide (fun w => spot_any x w hx)
  have HSY := hide (fun w => spot_any y w hy)
  have HRX := hide (fun w => refSpot_any x w hx)
  have HXO := hide hx
  have HYO := hide hy
  have HX1 : Hid (x.tx.length = 32) := hx.1
  have HY1 : Hid (y.tx.length = 32) := hy.1
  have hL := spot_less x y hx hy
  have hl1 : ∀ l : List UInt8, (⟨l.toArray⟩ : ByteArray).toList = l := fun l => by rw [ByteArray.toList_eq]
  rw [← hl1 (spotL x), ← hl1 (spotL y), ← hl1 x.tx, ← hl1 y.tx] at hL
  rw [hl1 x.tx, hl1 y.tx] at hL
  have c1 : Op.bytesLess (⟨x.tx.toArray⟩ : ByteArray).toList (⟨y.tx.toArray⟩ : ByteArray).toList = Op.bytesLess x.tx y.tx := by rw [hl1, hl1]
  have c2 : decide ((x.index : Int) < (y.index : Int)) = decide (x.index < y.index) := decide_eq_decide.2 (by omega)
  clear hl1
  generalize sameD d e = S at *
  obtain ⟨v1, v2, v3, v4, v5, rfl, h1, h2, h3, h4, h5, ok⟩ := h
  obtain ⟨u1, u2, u3, u4, u5, rfl, k1, k2, k3, k4, k5, oe⟩ := k
  have o1 := h1.one'
  have o2 := h2.one'
  have o3 := h3.one'
  have o4 := h4.one'
  have o5 := h5.one'
  have p1 := k1.one'
  have p2 := k2.one'
  have p3 := k3.one'
  have p4 := k4.one'
  have p5 := k5.one'
  obtain ⟨a1, r1, rfl, -⟩ := h1.shape
  obtain ⟨b1, e1, rfl, -⟩ := k1.shape
  have b := Below.refl w.heap.size w
  clear h1 h2 h3 h4 h5 k1 k2 k3 k4 k5 ok oe hf kf hx hy
  obtain ⟨tx, htx⟩ : ∃ t : ByteArray, (⟨x.tx.toArray⟩ : ByteArray) = t := ⟨_, rfl⟩
  obtain ⟨ty, hty⟩ : ∃ t : ByteArray, (⟨y.tx.toArray⟩ : ByteArray) = t := ⟨_, rfl⟩
  rw [htx, hty] at c1
  have HTX := hide htx
  have HTY := hide hty
  clear htx hty
  generalize (⟨(spotL x).toArray⟩ : ByteArray) = sx at *
  generalize (⟨(spotL y).toArray⟩ : ByteArray) = sy at *
  have HE : Hid (decide (x.tx = y.tx) = decide (x.tx = y.tx)) := hide rfl
  generalize Op.bytesLess x.tx y.tx = A at *
  obtain ⟨I, hI⟩ : ∃ I, decide (x.index < y.index) = I := ⟨_, rfl⟩
  rw [hI] at hL c2
  generalize d.fee = f at *
  generalize d.frm = s at *
  generalize d.til = t at *
  generalize e.fee = f' at *
  generalize e.frm = s' at *
  generalize e.til = t' at *
  generalize d.ins.length = n1 at *
  generalize e.ins.length = m1 at *
  obtain ⟨E, hE⟩ : ∃ E, E = decide (x.tx = y.tx) := ⟨_, rfl⟩
  rw [← hE] at hL
  clear HE
  have HE : Hid (decide (x.tx = y.tx) = E) := hE.symm
  clear hE
  cases S <;> cases A <;> cases E <;> cases I
  all_goals
    simp only [Bool.true_or, Bool.false_or, Bool.true_and, Bool.false_and] at hL
    have mF1 := True.intro
    have mF2 := True.intro
    have mF3 := True.intro
    have mF4 := True.intro
    go_enter Try.func8, Try.ntmps8
    go_wp2_with (first | (with_reducible show wpList _ _ _ (⟨_, Op.box 55 _, _, _, _, _⟩ :: _) _ _; clear mF1; refine wpl_box_deed rfl _ rfl rfl o1 o2 o3 o4 o5 ?_; intro _ g1 hg1 F1 hb; (try replace F1 := F1.later hb); (try replace F2 := F2.later hb); (try replace F3 := F3.later hb); (try replace F4 := F4.later hb); (try replace F5 := F5.later hb); (try replace F6 := F6.later hb); (try replace F7 := F7.later hb); (try replace F8 := F8.later hb); (try replace F9 := F9.later hb); (try replace G1 := G1.later hb); (try replace G2 := G2.later hb); (try replace G3 := G3.later hb); (try replace z := z.later hb); (try replace b := later b hb); (try replace bB := mixed hB bB hb); clear hb) | (with_reducible show wpList _ _ _ (⟨_, Op.box 55 _, _, _, _, _⟩ :: _) _ _; clear mF2; refine wpl_box_deed rfl _ rfl rfl p1 p2 p3 p4 p5 ?_; have q1 := F1.lt; intro _ g2 hg2 F2 hb; (try replace F1 := F1.later hb); (try replace F2 := F2.later hb); (try replace F3 := F3.later hb); (try replace F4 := F4.later hb); (try replace F5 := F5.later hb); (try replace F6 := F6.later hb); (try replace F7 := F7.later hb); (try replace F8 := F8.later hb); (try replace F9 := F9.later hb); (try replace G1 := G1.later hb); (try replace G2 := G2.later hb); (try replace G3 := G3.later hb); (try replace z := z.later hb); (try replace b := later b hb); (try replace bB := mixed hB bB hb); clear hb) | (with_reducible show wpList _ _ _ (⟨_, Op.box 60 _, _, _, _, _⟩ :: _) _ _; clear mF3; refine wpl_box_in rfl _ rfl rfl HXO.out ?_; intro _ g3 hg3 F3 hb; (try replace F1 := F1.later hb); (try replace F2 := F2.later hb); (try replace F3 := F3.later hb); (try replace F4 := F4.later hb); (try replace F5 := F5.later hb); (try replace F6 := F6.later hb); (try replace F7 := F7.later hb); (try replace F8 := F8.later hb); (try replace F9 := F9.later hb); (try replace G1 := G1.later hb); (try replace G2 := G2.later hb); (try replace G3 := G3.later hb); (try replace z := z.later hb); (try replace b := later b hb); (try replace bB := mixed hB bB hb); clear hb) | (with_reducible show wpList _ _ _ (⟨_, Op.box 60 _, _, _, _, _⟩ :: _) _ _; clear mF4; refine wpl_box_in rfl _ rfl rfl HYO.out ?_; intro _ g4 hg4 F4 hb; (try replace F1 := F1.later hb); (try replace F2 := F2.later hb); (try replace F3 := F3.later hb); (try replace F4 := F4.later hb); (try replace F5 := F5.later hb); (try replace F6 := F6.later hb); (try replace F7 := F7.later hb); (try replace F8 := F8.later hb); (try replace F9 := F9.later hb); (try replace G1 := G1.later hb); (try replace G2 := G2.later hb); (try replace G3 := G3.later hb); (try replace z := z.later hb); (try replace b := later b hb); (try replace bB := mixed hB bB hb); clear hb) | (with_reducible show wpList _ _ _ (⟨_, Op.load 55 _, _, _, _, _⟩ :: _) _ _; first | refine wpl_ld_deed rfl _ rfl rfl F1 ?_ | refine wpl_ld_deed rfl _ rfl rfl F2 ?_) | (go_at_call 30; first | ((with_reducible show Calls _ _ #[deedV (.slice a1 _ _) _ _ _ _ _ _ _] _ _); refine (HG1.out _ b).mono ?_; rintro _ _ ⟨⟨B1, rfl⟩, hc⟩; (try replace F1 := F1.later hc); (try replace F2 := F2.later hc); (try replace F3 := F3.later hc); (try replace F4 := F4.later hc); (try replace F5 := F5.later hc); (try replace F6 := F6.later hc); (try replace F7 := F7.later hc); (try replace F8 := F8.later hc); (try replace F9 := F9.later hc); (try replace G1 := G1.later hc); (try replace G2 := G2.later hc); (try replace G3 := G3.later hc); (try replace z := z.later hc); (try replace b := later b hc); (try replace bB := mixed hB bB hc); clear hc; cases B1) | ((with_reducible show Calls _ _ #[deedV (.slice b1 _ _) _ _ _ _ _ _ _] _ _); refine (HG2.out _ b).mono ?_; rintro _ _ ⟨⟨B2, rfl⟩, hc⟩; (try replace F1 := F1.later hc); (try replace F2 := F2.later hc); (try replace F3 := F3.later hc); (try replace F4 := F4.later hc); (try replace F5 := F5.later hc); (try replace F6 := F6.later hc); (try replace F7 := F7.later hc); (try replace F8 := F8.later hc); (try replace F9 := F9.later hc); (try replace G1 := G1.later hc); (try replace G2 := G2.later hc); (try replace G3 := G3.later hc); (try replace z := z.later hc); (try replace b := later b hc); (try replace bB := mixed hB bB hc); clear hc; cases B2)) | (go_at_call 26; refine (HW.out _).mono ?_; rintro _ _ ⟨rfl, hc⟩; (try replace F1 := F1.later hc); (try replace F2 := F2.later hc); (try replace F3 := F3.later hc); (try replace F4 := F4.later hc); (try replace F5 := F5.later hc); (try replace F6 := F6.later hc); (try replace F7 := F7.later hc); (try replace F8 := F8.later hc); (try replace F9 := F9.later hc); (try replace G1 := G1.later hc); (try replace G2 := G2.later hc); (try replace G3 := G3.later hc); (try replace z := z.later hc); (try replace b := later b hc); (try replace bB := mixed hB bB hc); clear hc) | (with_reducible show Code.wp _ (Code.region _ _ true) _ _ _; (try simp only [Act.put, List.setIfInBounds_toArray, List.set_cons_succ, List.set_cons_zero]); (refine region_since (by kernel_rfl) (by kernel_rfl) ?_; (repeat (first | go_big_quiet_skip | (go_big_quiet_want; first | ((with_reducible show Oper.quiet _ ⟨_, Op.load _ _, _, _, _, _⟩ _ _ _); first | (refine since_ld_in _ rfl rfl F3.cells HXO.out ?_; simp only [Act.put, List.setIfInBounds_toArray, List.set_cons_succ, List.set_cons_zero]; go_big_quiet_on) | (refine since_ld_in _ rfl rfl F4.cells HYO.out ?_; simp only [Act.put, List.setIfInBounds_toArray, List.set_cons_succ, List.set_cons_zero]; go_big_quiet_on)) | (go_big_quiet_op; first | go_big_quiet_on | (refine ⟨_, fun _ => since_of (HSX.out _), ?_⟩; go_big_quiet_on) | (refine ⟨_, fun _ => since_of (HSY.out _), ?_⟩; go_big_quiet_on))))); refine wpQuiet_nil ?_; intro _ hq; (try replace F1 := F1.later hq); (try replace F2 := F2.later hq); (try replace F3 := F3.later hq); (try replace F4 := F4.later hq); (try replace F5 := F5.later hq); (try replace F6 := F6.later hq); (try replace F7 := F7.later hq); (try replace F8 := F8.later hq); (try replace F9 := F9.later hq); (try replace G1 := G1.later hq); (try replace G2 := G2.later hq); (try replace G3 := G3.later hq); (try replace z := z.later hq); (try replace b := later b hq); (try replace bB := mixed hB bB hq); clear hq)) | (with_reducible show Code.wp _ (Code.region _ _ true) _ _ _; (try simp only [Act.put, List.setIfInBounds_toArray, List.set_cons_succ, List.set_cons_zero]); fail))
    all_goals first
      | (go_ret
         exact ⟨by simp, b⟩)
      | skip
    (try simp only [Act.put, List.setIfInBounds_toArray, List.set_cons_succ, List.set_cons_zero])
    refine region_since (by kernel_rfl) (by kernel_rfl) ?_
    repeat (first | go_big_quiet_skip | (go_big_quiet_want; first | ((with_reducible show Oper.quiet _ ⟨_, Op.load _ _, _, _, _, _⟩ _ _ _); first | (refine since_load_cells 55 _ rfl rfl (DAt.cells F1) _ Try.underlying55 rfl deedSize ?_; simp only [Act.put, List.setIfInBounds_toArray, List.set_cons_succ, List.set_cons_zero]; go_big_quiet_on) | (refine since_load_cells 55 _ rfl rfl (DAt.cells F2) _ Try.underlying55 rfl deedSize ?_; simp only [Act.put, List.setIfInBounds_toArray, List.set_cons_succ, List.set_cons_zero]; go_big_quiet_on) | (refine since_ld_in _ rfl rfl F3.cells HXO.out ?_; simp only [Act.put, List.setIfInBounds_toArray, List.set_cons_succ, List.set_cons_zero]; go_big_quiet_on) | (refine since_ld_in _ rfl rfl F4.cells HYO.out ?_; simp only [Act.put, List.setIfInBounds_toArray, List.set_cons_succ, List.set_cons_zero]; go_big_quiet_on) | (refine since_load_elem _ rfl rfl (InAt.tx F3) (HX1.out) ?_; simp only [Act.put, List.setIfInBounds_toArray, List.set_cons_succ, List.set_cons_zero]; go_big_quiet_on) | (refine since_load_elem _ rfl rfl (InAt.tx F4) (HY1.out) ?_; simp only [Act.put, List.setIfInBounds_toArray, List.set_cons_succ, List.set_cons_zero]; go_big_quiet_on) | (refine since_load_one 23 _ rfl rfl (InAt.index F3) (by kernel_rfl) ?_; simp only [Act.put, List.setIfInBounds_toArray, List.set_cons_succ, List.set_cons_zero]; go_big_quiet_on) | (refine since_load_one 23 _ rfl rfl (InAt.index F4) (by kernel_rfl) ?_; simp only [Act.put, List.setIfInBounds_toArray, List.set_cons_succ, List.set_cons_zero]; go_big_quiet_on)) | ((with_reducible show Oper.quiet _ ⟨_, Op.convert _ _ _, _, _, _, _⟩ _ _ _); first | (refine since_conv _ rfl rfl (InAt.tx F3) HX1.out ?_; rw [HTX.out]; simp only [Act.put, List.setIfInBounds_toArray, List.set_cons_succ, List.set_cons_zero]; go_big_quiet_on) | (refine since_conv _ rfl rfl (InAt.tx F4) HY1.out ?_; rw [HTY.out]; simp only [Act.put, List.setIfInBounds_toArray, List.set_cons_succ, List.set_cons_zero]; go_big_quiet_on)) | ((with_reducible show Oper.quiet _ ⟨_, Op.binOp BinOp.eql 27 _ _ _, _, _, _, _⟩ _ _ _); refine quiet_eq _ _ rfl rfl rfl HX1.out HY1.out ?_; rw [HE.out]; simp only [Act.put, List.setIfInBounds_toArray, List.set_cons_succ, List.set_cons_zero]; go_big_quiet_on) | (go_big_quiet_op; first | go_big_quiet_on | (refine ⟨_, fun s => since_of (HD1.out _ (later b s.ok)), ?_⟩; go_big_quiet_on) | (refine ⟨_, fun s => since_of (HD2.out _ (later b s.ok)), ?_⟩; go_big_quiet_on) | (refine ⟨_, fun s => since_of (HRX.out _), ?_⟩; go_big_quiet_on) | (refine ⟨_, fun s => since_of (HW.out _), ?_⟩; go_big_quiet_on))))
    refine wpQuiet_nil ?_
    intro _ hq
    (try replace F1 := F1.later hq); (try replace F2 := F2.later hq); (try replace F3 := F3.later hq); (try replace F4 := F4.later hq); (try replace F5 := F5.later hq); (try replace F6 := F6.later hq); (try replace F7 := F7.later hq); (try replace F8 := F8.later hq); (try replace F9 := F9.later hq); (try replace G1 := G1.later hq); (try replace G2 := G2.later hq); (try replace G3 := G3.later hq); (try replace z := z.later hq); (try replace b := later b hq); (try replace bB := mixed hB bB hq)
    clear hq
    go_wp2_with fail
    go_ret
    exact ⟨by simp, b⟩
end Go.Proofs.Ytbbfnpfkbbpjgaa
