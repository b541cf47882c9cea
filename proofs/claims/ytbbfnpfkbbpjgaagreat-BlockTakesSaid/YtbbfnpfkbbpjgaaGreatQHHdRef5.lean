/- The reference of layer 14: Take. -/
import Derived.Test.YtbbfnpfkbbpjgaaGreatQHDgText
import Derived.Test.YtbbfnpfkbbpjgaaGreatQHBlkE
import Derived.Test.YtbbfnpfkbbpjgaaGreatQHHd7
import Derived.Test.YtbbfnpfkbbpjgaaGreatQHTakeRW
import Derived.Test.YtbbfnpfkbbpjgaaGreatQHRowE
import Derived.Test.YtbbfnpfkbbpjgaaGreatQHElCert
import Derived.Test.YtbbfnpfkbbpjgaaGreatQHDeed9
import Derived.Test.YtbbfnpfkbbpjgaaGreatQHDeed3
import Derived.Test.YtbbfnpfkbbpjgaaGreatQHBlk3
namespace Go.Proofs.YtbbfnpfkbbpjgaaGreat
open Go.RowKit Go.Lib
set_option linter.unusedVariables false
set_option linter.unusedSimpArgs false
set_option maxRecDepth 100000
set_option maxHeartbeats 4000000
theorem ri_of {w : World} {g : Nat} {r : List UInt8} {s : ByteArray} (h : Arr w g 179 [.string s, .bool true]) (hs : s = ⟨r.toArray⟩) : Ri w g r := by
 subst hs; exact h
theorem riBuilt (s : ByteArray) : Tryz.prog.built 179 [(0, .string s), (1, .bool true)] = some #[.string s, .bool true] := by kernel_rfl
theorem j7q (L : List UInt8) (hL : L.length = 2320) (w : World) :
  Calls Tryz.prog 69 #[.string ⟨L.toArray⟩] w fun e w' => e = .returned (.tuple #[hdV (hdOf L), .int .i64 0]) ∧ Below w.heap.size w w' := by
 have HN : Hid (∀ k g w, Ri w g (L.drop k) → k + 8 ≤ 2320 → Calls Tryz.prog 143 #[.pointer (some ⟨g, 0, none⟩)] w fun e w' => e = .returned (.int .u64 (numL ((L.drop k).take 8))) ∧ Ri w' g (L.drop (k + 8)) ∧ Touch (fun b => b = g) w w') := fun k g w h hk => by
  have := x0d g _ w h (by rw [List.length_drop, hL]; omega) (by rw [List.length_drop, hL]; omega)
  rwa [List.drop_drop] at this
 have HH : Hid (∀ k g w, Ri w g (L.drop k) → k + 32 ≤ 2320 → Calls Tryz.prog 144 #[.pointer (some ⟨g, 0, none⟩)] w fun e w' => e = .returned (hv ((L.drop k).take 32)) ∧ Ri w' g (L.drop (k + 32)) ∧ Touch (fun b => b = g) w w') := fun k g w h hk => by
  have := x3a g _ w h (by rw [List.length_drop, hL]; omega) (by rw [List.length_drop, hL]; omega)
  rwa [List.drop_drop] at this
 have HT : ∀ k n g w, Ri w g (L.drop k) → k + n ≤ 2320 → Calls Tryz.prog 145 #[.pointer (some ⟨g, 0, none⟩), .int .i64 n] w fun e w' => e = .returned (.string ⟨((L.drop k).take n).toArray⟩) ∧ Ri w' g (L.drop (k + n)) ∧ Touch (fun b => b = g) w w' := fun k n g w h hk => by
  have := j0s g _ n w h (by rw [List.length_drop, hL]; omega) (by rw [List.length_drop, hL]; omega)
  rwa [List.drop_drop] at this
 have HT1 : Hid (∀ k g w, Ri w g (L.drop k) → k + 1024 ≤ 2320 → Calls Tryz.prog 145 #[.pointer (some ⟨g, 0, none⟩), .int .i64 1024] w fun e w' => e = .returned (.string ⟨((L.drop k).take 1024).toArray⟩) ∧ Ri w' g (L.drop (k + 1024)) ∧ Touch (fun b => b = g) w w') := fun k g w h hk => HT k 1024 g w h hk
 have HT2 : Hid (∀ k g w, Ri w g (L.drop k) → k + 1120 ≤ 2320 → Calls Tryz.prog 145 #[.pointer (some ⟨g, 0, none⟩), .int .i64 1120] w fun e w' => e = .returned (.string ⟨((L.drop k).take 1120).toArray⟩) ∧ Ri w' g (L.drop (k + 1120)) ∧ Touch (fun b => b = g) w w') := fun k g w h hk => HT k 1120 g w h hk
 clear HT
 have HL : Hid (∀ k, k + 32 ≤ 2320 → ((L.drop k).take 32).length = 32) := fun i hi => by rw [List.length_take, List.length_drop, hL]; omega
 have HO : Hid (hdOf L = hdOf L) := rfl
 have hz : (⟨L.toArray⟩ : ByteArray).size = 2320 := by show L.toArray.size = 2320; rw [List.size_toArray]; exact hL
 have HS : Hid ((⟨L.toArray⟩ : ByteArray) = ⟨(L.drop 0).toArray⟩) := rfl
 have b := Below.refl w.heap.size w
 have HB := hide riBuilt
 clear hL
 generalize hs0 : (⟨L.toArray⟩ : ByteArray) = s at HS hz ⊢
 clear hs0
 have mF1 := True.intro
 have mF2 := True.intro
 have mF6 := True.intro
 go_enter Tryz.func69, Tryz.ntmps69
 go_wp2_with (first | (with_reducible refine w3g ?_; clear mF2; refine q4s rfl rfl ?_; intro _ g2 hg2 F2 hb; (try have := F1.lt); (try have := F2.lt); (try have := F5.lt); (try have := F6.lt); (try have := b.size); (try replace b := later b hb); clear hb) | ((with_reducible refine w5g ?_); first | refine j5f rfl 179 _ _ rfl (cs := [.string s, .bool true]) rfl rfl (HB.out s) ?_ | refine j4g rfl 49 _ rfl (hdCs hd0).toArray (by simpa using hdBuilt0) ?_) | (with_reducible refine w2g ?_; clear mF1; refine q4j rfl 179 _ rfl (v := .agg #[.string s, .bool true]) rfl (cs := [.string s, .bool true]) rfl ?_; intro _ g4 h4 F1 hb; (try have := F1.lt); (try have := F2.lt); (try have := F5.lt); (try have := F6.lt); (try have := b.size); have l1 := Arr.lt F1; replace F2 := F2.later hb; replace b := later b hb; clear hb; have F5 := ri_of F1 HS.out; clear F1) | (with_reducible refine w3g ?_; clear mF6; refine q4s rfl rfl ?_; intro _ g5 hg5 F6 hb; (try have := F1.lt); (try have := F2.lt); (try have := F5.lt); (try have := F6.lt); (try have := b.size); (try replace F2 := F2.later hb); (try replace F5 := F5.later hb); (try replace b := later b hb); clear hb) | (with_reducible refine w4g ?_; refine q3x rfl _ _ rfl rfl rfl q4w F6 ?_; intro _ t1 ht; (try replace F2 := F2.tt ht); (try replace F5 := F5.tt ht); (try replace b := q0b b ht (by omega) (by omega)); replace F6 := t1; clear ht) | (go_at_call 143; refine (HN.out _ _ _ F5 (by decide)).mono ?_; (rintro _ _ ⟨rfl, h1, ht⟩; clear F5; have F5 := h1; clear h1; replace F2 := F2.tt ht; (try replace F6 := F6.tt ht); replace b := q0b b ht (by omega) (by omega); clear ht)) | (go_at_call 144; refine (HH.out _ _ _ F5 (by decide)).mono ?_; (rintro _ _ ⟨rfl, h1, ht⟩; clear F5; have F5 := h1; clear h1; replace F2 := F2.tt ht; (try replace F6 := F6.tt ht); replace b := q0b b ht (by omega) (by omega); clear ht)) | (go_at_call 145; (with_reducible show Calls _ _ #[_, .int .i64 1024] _ _); refine (HT1.out _ _ _ F5 (by decide)).mono ?_; (rintro _ _ ⟨rfl, h1, ht⟩; clear F5; have F5 := h1; clear h1; replace F2 := F2.tt ht; (try replace F6 := F6.tt ht); replace b := q0b b ht (by omega) (by omega); clear ht)) | (go_at_call 145; (with_reducible show Calls _ _ #[_, .int .i64 1120] _ _); refine (HT2.out _ _ _ F5 (by decide)).mono ?_; (rintro _ _ ⟨rfl, h1, ht⟩; clear F5; have F5 := h1; clear h1; replace F2 := F2.tt ht; (try replace F6 := F6.tt ht); replace b := q0b b ht (by omega) (by omega); clear ht)) | ((with_reducible refine w20g ?_); refine j4e rfl _ _ rfl rfl rfl (q1r _) F6 ?_; intro _ t1 ht; (try replace F2 := F2.tt ht); (try replace F5 := F5.tt ht); (try replace b := q0b b ht (by omega) (by omega)); replace F6 := t1; clear ht) | ((with_reducible refine w20g ?_); refine j1c rfl _ _ rfl rfl rfl (q1r _) F6 ?_; intro _ t1 ht; (try replace F2 := F2.tt ht); (try replace F5 := F5.tt ht); (try replace b := q0b b ht (by omega) (by omega)); (try dsimp only at t1); replace F6 := t1; clear ht) | ((with_reducible refine w20g ?_); refine j3a rfl _ _ rfl rfl rfl (q1r _) F6 ?_; intro _ t1 ht; (try replace F2 := F2.tt ht); (try replace F5 := F5.tt ht); (try replace b := q0b b ht (by omega) (by omega)); (try dsimp only at t1); replace F6 := t1; clear ht) | ((with_reducible refine w20g ?_); refine j2n rfl _ _ rfl rfl rfl (q1r _) F6 ?_; intro _ t1 ht; (try replace F2 := F2.tt ht); (try replace F5 := F5.tt ht); (try replace b := q0b b ht (by omega) (by omega)); (try dsimp only at t1); replace F6 := t1; clear ht) | ((with_reducible refine w20g ?_); refine q9o rfl _ _ rfl rfl rfl (q1r _) F6 ?_; intro _ t1 ht; (try replace F2 := F2.tt ht); (try replace F5 := F5.tt ht); (try replace b := q0b b ht (by omega) (by omega)); (try dsimp only at t1); replace F6 := t1; clear ht) | ((with_reducible refine w20g ?_); refine j2b rfl _ _ rfl rfl rfl (q1r _) F6 ?_; intro _ t1 ht; (try replace F2 := F2.tt ht); (try replace F5 := F5.tt ht); (try replace b := q0b b ht (by omega) (by omega)); (try dsimp only at t1); replace F6 := t1; clear ht) | ((with_reducible refine w14g ?_); refine j2y rfl _ _ rfl rfl rfl (HL.out _ (by decide)) F6 ?_; intro _ t1 ht; (try replace F2 := F2.tt ht); (try replace F5 := F5.tt ht); (try replace b := q0b b ht (by omega) (by omega)); (try dsimp only at t1); replace F6 := t1; clear ht) | ((with_reducible refine w14g ?_); refine j2u rfl _ _ rfl rfl rfl (HL.out _ (by decide)) F6 ?_; intro _ t1 ht; (try replace F2 := F2.tt ht); (try replace F5 := F5.tt ht); (try replace b := q0b b ht (by omega) (by omega)); (try dsimp only at t1); replace F6 := t1; clear ht) | ((with_reducible refine w14g ?_); refine j2z rfl _ _ rfl rfl rfl (HL.out _ (by decide)) F6 ?_; intro _ t1 ht; (try replace F2 := F2.tt ht); (try replace F5 := F5.tt ht); (try replace b := q0b b ht (by omega) (by omega)); (try dsimp only at t1); replace F6 := t1; clear ht) | ((with_reducible refine w14g ?_); refine j4u rfl _ _ rfl rfl rfl (HL.out _ (by decide)) F6 ?_; intro _ t1 ht; (try replace F2 := F2.tt ht); (try replace F5 := F5.tt ht); (try replace b := q0b b ht (by omega) (by omega)); (try dsimp only at t1); replace F6 := t1; clear ht) | ((with_reducible refine w21g ?_); refine j4c rfl _ _ rfl rfl rfl F6 ?_; intro _ t1 ht; (try replace F2 := F2.tt ht); (try replace F5 := F5.tt ht); (try replace b := q0b b ht (by omega) (by omega)); (try dsimp only at t1); replace F6 := t1; clear ht) | ((with_reducible refine w21g ?_); refine q9y rfl _ _ rfl rfl rfl F6 ?_; intro _ t1 ht; (try replace F2 := F2.tt ht); (try replace F5 := F5.tt ht); (try replace b := q0b b ht (by omega) (by omega)); (try dsimp only at t1); replace F6 := t1; clear ht) | (with_reducible refine w0g ?_; first | (refine q4a rfl _ rfl rfl (by assumption) ?_)) | (with_reducible refine w4g ?_; refine q3x rfl _ _ rfl rfl rfl (HdAt.ok F6) F2 ?_; intro _ t1 ht; (try replace F5 := F5.tt ht); (try replace F6 := F6.tt ht); (try replace b := q0b b ht (by omega) (by omega)); replace F2 := t1; clear ht))
 exact bodyPost_ret (j5s rfl _ _ _ rfl rfl F2) rfl ⟨rfl, b⟩
theorem x6n (L Z : List UInt8) (k : Nat) (hL : L.length = 32) (hZ : Z.length = 32) (hk : k < 32) : (L.take k ++ Z.drop k).set k (L.getD k 0) = L.take (k + 1) ++ Z.drop (k + 1) := by
 have e : (L.take k).length = k := by rw [List.length_take]; omega
 have e2 : L.take (k + 1) = L.take k ++ [L.getD k 0] := by
  rw [List.take_succ_eq_append_getElem (by omega), List.getD_eq_getElem?_getD, List.getElem?_eq_getElem (by omega), Option.getD_some]
 have e3 : Z.drop k = Z.getD k 0 :: Z.drop (k + 1) := by
  rw [List.drop_eq_getElem_cons (by omega), List.getD_eq_getElem?_getD, List.getElem?_eq_getElem (by omega), Option.getD_some]
 rw [List.set_append, if_neg (by omega), e, Nat.sub_self, e3, List.set_cons_zero, e2, List.append_assoc]
 rfl
theorem riHash (g : Nat) (st : Option (List UInt8)) (w : World) (h : RdI w g st) :
  Calls Tryz.prog 144 #[.pointer (some ⟨g, 0, none⟩)] w fun e w' => ∃ (l : List UInt8) (st' : Option (List UInt8)), e = .returned (hv l) ∧ l.length = 32 ∧ RdI w' g st' ∧ Got (textP 32) st l st' ∧ Touch (fun b => b = g) w w' := by
 have HT := hide (fun (w : World) (h : RdI w g st) => riText g st 32 w h (by decide))
 have F5 := h
 have hgw := h.lt
 have ht := Touch.refl (fun b => b = g) w
 clear h
 have mF2 := True.intro
 have mF3 := True.intro
 go_enter Tryz.func144, Tryz.ntmps144
 go_wp2_with (first | (with_reducible refine w3g ?_; clear mF2; refine q0r rfl rfl ?_; intro _ g2 h2 F2 hb; have l5 := F5.lt; replace F5 := F5.later hb; replace ht := ht.behind hb; clear hb) | (go_at_call 145; refine (HT.out _ F5).mono ?_; rintro _ w1 ⟨L, st', rfl, hl, h1, hg, ht1⟩; clear F5; have F5 := h1; clear h1; have HG := hide hg; have HL := hide hl; clear hg hl; replace ht := ht.add ht1 (fun x h => h); replace F2 := F2.touch ht1 (by show ¬ _ = _; omega); clear ht1) | (with_reducible refine w5g ?_; refine q2n rfl rfl ?_) | (with_reducible refine w3g ?_; clear mF3; refine q0r rfl rfl ?_; intro _ g3 h3 F3 hb; have l2 := F2.lt; have l5b := F5.lt; replace F2 := F2.later hb; replace F5 := F5.later hb; replace ht := ht.behind hb; clear hb) | (with_reducible refine w4g ?_; refine q0k rfl _ _ rfl rfl rfl (show zero32.length = 32 from rfl) F3 ?_; intro _ t1 ht2; replace F2 := F2.touch ht2 (by show ¬ _ = _; omega); replace F5 := F5.touch ht2 (by show ¬ _ = _; omega); replace ht := ht.trans ht2 (fun x hx => .inr (by have : x = g3 := hx; have := ht.size; omega)); clear F3; have F3 := t1; clear t1 ht2))
 have g23 : g2 < g3 := by omega
 have gg2 : g < g2 := by omega
 have wg2 : w.heap.size ≤ g2 := h2
 have wg3 : w.heap.size ≤ g3 := by omega
 have hz : (⟨L.toArray⟩ : ByteArray).size = 32 := by show L.toArray.size = 32; rw [List.size_toArray]; exact HL.out
 have HS : Hid ((⟨L.toArray⟩ : ByteArray).data.toList = L) := rfl
 have HZ := hide hz
 clear hz
 generalize (⟨L.toArray⟩ : ByteArray) = s at *
 go_loopw [5] (fun i wr => ∃ k : Nat, k ≤ 32 ∧ i = .int .i64 k ∧ RdI wr g st' ∧ HashAt wr g2 zero32 ∧ Byts wr g3 34 (L.take k ++ zero32.drop k) ∧ Touch (fun b => b = g) w wr) (fun i _ => 32 - (RowKit.intOf i).toNat)
 case atStart => exact ⟨0, by omega, rfl, F5, F2, F3.2, ht⟩
 case round =>
  clear F5 F2 F3 ht
  obtain ⟨k, hk, rfl, F5, F2, F3, ht⟩ := hrel
  by_cases hlt : k < 32
  ·have hks : k < s.size := by rw [HZ.out]; exact hlt
   have eb : ∀ h : k < s.size, ((s[k]'h).toNat : Int) = ((L.getD k 0).toNat : Int) := fun h => by rw [j0y s k h, HS.out]
   have x1 := Byts.cell F3 (i := k) (by rw [List.length_append, List.length_take, List.length_drop, HL.out, show zero32.length = 32 from rfl]; omega)
   have x2 := Arr.thaw F3 k
   have d1 := Byts.set F3 k (L.getD k 0)
   rw [x6n L zero32 k HL.out rfl hlt] at d1
   have d2 := F5.touch (q3s _ ⟨g3, k, none⟩ (.int .u8 ((L.getD k 0).toNat : Int))) (by show ¬ g = g3; omega)
   have d3 := F2.touch (q3s _ ⟨g3, k, none⟩ (.int .u8 ((L.getD k 0).toNat : Int))) (by show ¬ g2 = g3; omega)
   have d4 := ht.trans (q3s _ ⟨g3, k, none⟩ (.int .u8 ((L.getD k 0).toNat : Int))) (fun x hx => .inr (by have : x = g3 := hx; omega))
   have D1 := hide d1
   have D2 := hide d2
   have D3 := hide d3
   have D4 := hide d4
   clear d1 d2 d3 d4 F3 F5 F2 ht
   generalize L.getD k 0 = c at *
   go_wp2_with fail
   go_roundw
   case rel => exact ⟨k + 1, by omega, by simp, D2.out, D3.out, D1.out, D4.out⟩
   case measure => simp [RowKit.intOf]; omega
  ·obtain rfl : k = 32 := by omega
   have F4 : HashAt _ g3 L := ⟨HL.out, by have := F3; rwa [List.take_of_length_le (by rw [HL.out]; exact Nat.le_refl _), List.drop_of_length_le (by rw [show zero32.length = 32 from rfl]; exact Nat.le_refl _), List.append_nil] at this⟩
   clear F3 hlt hk
   go_wp2_with (first | (with_reducible refine w0g ?_; refine q1a rfl _ rfl rfl (by assumption) ?_) | (with_reducible refine w4g ?_; refine q0k rfl _ _ rfl rfl rfl HL.out F2 ?_; intro _ t1 ht2; replace F5 := F5.touch ht2 (by show ¬ _ = _; omega); replace ht := ht.trans ht2 (fun x hx => .inr (by have : x = g2 := hx; omega)); clear F2; have F2 := t1; clear t1 ht2))
   exact bodyPost_ret (q2v rfl _ _ rfl F2) rfl ⟨L, st', rfl, HL.out, F5, HG.out, ht⟩
section
variable {ops : Array Oper} {rest : List Oper} {o : Oper} {a : Act} {w w0 : World} {Q : Exit → Act → World → Prop} {K : Act → Prop}
theorem j6n (hgd : o.guard = none) (x y : Operand) (ho : o.op = .store 34 x y) {g : Nat} {d : InT} {l : List UInt8} (hx : a.eval x = .pointer (some ⟨g, 0, none⟩)) (hy : a.eval y = hv l) (hl : l.length = 32) (h : InAt w g d)
  (hk : ∀ w2, InAt w2 g { d with tx := l } → Touch (fun b => b = g) w w2 → wpList Tryz.prog ops Q rest (a.put o.dst undef) w2) : wpList Tryz.prog ops Q (o :: rest) a w :=
 q2r hgd 34 x y ho hx hy h.arr (by rw [q0c, hl]; exact hashSz32) (by rw [q4o h.ok, q0c, hl]; omega) (fun v hv => List.all_eq_true.1 (q1f l) v hv) (inCs { d with tx := l }) (by
  rw [q9j (A := ([] : List Value)) (X := bvs d.tx) (B := [.int .u64 d.index]) (by simp [inCs]) (by simp [q0c]) (by rw [q0c, q0c, hl, show d.tx.length = 32 from h.ok.1])]
  simp [inCs]) (fun w2 ha ht => hk w2 ⟨⟨hl, h.ok.2⟩, ha⟩ ht)
theorem j2c (hgd : o.guard = none) (x y : Operand) (ho : o.op = .store 24 x y) {g : Nat} {d : InT} {n : Nat} (hx : a.eval x = .pointer (some ⟨g, 32, none⟩)) (hy : a.eval y = .int .u64 n) (hl : U64 n) (h : InAt w g d)
  (hk : ∀ w2, InAt w2 g { d with index := n } → Touch (fun b => b = g) w w2 → wpList Tryz.prog ops Q rest (a.put o.dst undef) w2) : wpList Tryz.prog ops Q (o :: rest) a w :=
 q0i hgd 24 x y ho hx hy h.arr (by rw [q4o h.ok]; omega) u64Sz rfl rfl (fun w2 ha ht => hk w2 ⟨⟨h.ok.1, hl⟩, by
  rw [q7t (A := bvs d.tx) (B := []) (by simp [inCs] <;> rfl) (by simp [q0c, show d.tx.length = 32 from h.ok.1])] at ha
  simpa [inCs] using ha⟩ ht)
end
section
variable {ops : Array Oper} {rest : List Oper} {o : Oper} {a : Act} {w w0 : World} {Q : Exit → Act → World → Prop} {K : Act → Prop}
theorem j2t (hgd : o.guard = none) (x y : Operand) (ho : o.op = .store 34 x y) {g : Nat} {d : OutT} {l : List UInt8} (hx : a.eval x = .pointer (some ⟨g, 0, none⟩)) (hy : a.eval y = hv l) (hl : l.length = 32) (h : OutAt w g d)
  (hk : ∀ w2, OutAt w2 g { d with dst := l } → Touch (fun b => b = g) w w2 → wpList Tryz.prog ops Q rest (a.put o.dst undef) w2) : wpList Tryz.prog ops Q (o :: rest) a w :=
 q2r hgd 34 x y ho hx hy h.arr (by rw [q0c, hl]; exact hashSz32) (by rw [q3o h.ok, q0c, hl]; omega) (fun v hv => List.all_eq_true.1 (q1f l) v hv) (outCs { d with dst := l }) (by
  rw [q9j (A := ([] : List Value)) (X := bvs d.dst) (B := bvs d.stake ++ ([.int .u64 d.amount])) (by simp [outCs]) (by simp [q0c]) (by rw [q0c, q0c, hl, show d.dst.length = 32 from h.ok.1])]
  simp [outCs]) (fun w2 ha ht => hk w2 ⟨⟨hl, h.ok.2.1, h.ok.2.2⟩, ha⟩ ht)
theorem j0u (hgd : o.guard = none) (x y : Operand) (ho : o.op = .store 34 x y) {g : Nat} {d : OutT} {l : List UInt8} (hx : a.eval x = .pointer (some ⟨g, 32, none⟩)) (hy : a.eval y = hv l) (hl : l.length = 32) (h : OutAt w g d)
  (hk : ∀ w2, OutAt w2 g { d with stake := l } → Touch (fun b => b = g) w w2 → wpList Tryz.prog ops Q rest (a.put o.dst undef) w2) : wpList Tryz.prog ops Q (o :: rest) a w :=
 q2r hgd 34 x y ho hx hy h.arr (by rw [q0c, hl]; exact hashSz32) (by rw [q3o h.ok, q0c, hl]; omega) (fun v hv => List.all_eq_true.1 (q1f l) v hv) (outCs { d with stake := l }) (by
  rw [q9j (A := bvs d.dst) (X := bvs d.stake) (B := [.int .u64 d.amount]) (by simp [outCs]) (by simp [q0c, show d.dst.length = 32 from h.ok.1]) (by rw [q0c, q0c, hl, show d.stake.length = 32 from h.ok.2.1])]
  simp [outCs]) (fun w2 ha ht => hk w2 ⟨⟨h.ok.1, hl, h.ok.2.2⟩, ha⟩ ht)
theorem j0c (hgd : o.guard = none) (x y : Operand) (ho : o.op = .store 24 x y) {g : Nat} {d : OutT} {n : Nat} (hx : a.eval x = .pointer (some ⟨g, 64, none⟩)) (hy : a.eval y = .int .u64 n) (hl : U64 n) (h : OutAt w g d)
  (hk : ∀ w2, OutAt w2 g { d with amount := n } → Touch (fun b => b = g) w w2 → wpList Tryz.prog ops Q rest (a.put o.dst undef) w2) : wpList Tryz.prog ops Q (o :: rest) a w :=
 q0i hgd 24 x y ho hx hy h.arr (by rw [q3o h.ok]; omega) u64Sz rfl rfl (fun w2 ha ht => hk w2 ⟨⟨h.ok.1, h.ok.2.1, hl⟩, by
  rw [q7t (A := bvs d.dst ++ bvs d.stake) (B := []) (by simp [outCs] <;> rfl) (by simp [q0c, show d.dst.length = 32 from h.ok.1, show d.stake.length = 32 from h.ok.2.1])] at ha
  simpa [outCs] using ha⟩ ht)
end
section
variable {ops : Array Oper} {rest : List Oper} {o : Oper} {a : Act} {w w0 : World} {Q : Exit → Act → World → Prop} {K : Act → Prop}
theorem j3c (hgd : o.guard = none) (x y : Operand) (ho : o.op = .store 34 x y) {g : Nat} {d : PayT} {l : List UInt8} (hx : a.eval x = .pointer (some ⟨g, 0, none⟩)) (hy : a.eval y = hv l) (hl : l.length = 32) (h : PayAt w g d)
  (hk : ∀ w2, PayAt w2 g { d with key := l } → Touch (fun b => b = g) w w2 → wpList Tryz.prog ops Q rest (a.put o.dst undef) w2) : wpList Tryz.prog ops Q (o :: rest) a w :=
 q2r hgd 34 x y ho hx hy h.arr (by rw [q0c, hl]; exact hashSz32) (by rw [q4h h.ok, q0c, hl]; omega) (fun v hv => List.all_eq_true.1 (q1f l) v hv) (payCs { d with key := l }) (by
  rw [q9j (A := ([] : List Value)) (X := bvs d.key) (B := [.int .u64 d.amount]) (by simp [payCs]) (by simp [q0c]) (by rw [q0c, q0c, hl, show d.key.length = 32 from h.ok.1])]
  simp [payCs]) (fun w2 ha ht => hk w2 ⟨⟨hl, h.ok.2⟩, ha⟩ ht)
theorem q9p (hgd : o.guard = none) (x y : Operand) (ho : o.op = .store 24 x y) {g : Nat} {d : PayT} {n : Nat} (hx : a.eval x = .pointer (some ⟨g, 32, none⟩)) (hy : a.eval y = .int .u64 n) (hl : U64 n) (h : PayAt w g d)
  (hk : ∀ w2, PayAt w2 g { d with amount := n } → Touch (fun b => b = g) w w2 → wpList Tryz.prog ops Q rest (a.put o.dst undef) w2) : wpList Tryz.prog ops Q (o :: rest) a w :=
 q0i hgd 24 x y ho hx hy h.arr (by rw [q4h h.ok]; omega) u64Sz rfl rfl (fun w2 ha ht => hk w2 ⟨⟨h.ok.1, hl⟩, by
  rw [q7t (A := bvs d.key) (B := []) (by simp [payCs] <;> rfl) (by simp [q0c, show d.key.length = 32 from h.ok.1])] at ha
  simpa [payCs] using ha⟩ ht)
end
theorem q3i {α : Type} {p : Rdr α} {most n : Nat} {st0 st1 st2 : Option (List UInt8)} {l : List α} (h : Got (countP most) st0 n st1) (k : Got (manyP p n) st1 l st2) : Got (listP most p) st0 l st2 := by
 refine ⟨fun s hs => ?_, fun hs => k.2 (h.2 hs)⟩
 rcases h.1 s hs with ⟨r, h1, h2⟩ | ⟨h1, h2⟩
 ·obtain ⟨n', t, hp, hq⟩ := q2k h1
  by_cases hm : most < n'
  ·rw [if_pos hm] at hq; cases hq
  ·rw [if_neg hm] at hq
   obtain ⟨rfl, rfl⟩ := q7w hq
   have e : listP most p s = manyP p n' t := by unfold listP; rw [q0l hp, if_neg hm]
   rw [e]
   exact k.1 _ h2
 ·refine .inr ⟨?_, k.2 h2⟩
  unfold countP at h1
  unfold listP
  cases hp : numP s with
  | none => rw [q2t hp]
  | some x =>
   obtain ⟨n', t⟩ := x
   rw [q0l hp] at h1 ⊢
   by_cases hm : most < n'
   ·rw [if_pos hm]
   ·rw [if_neg hm] at h1; cases h1
theorem certZ0 : Tryz.prog.built 87 [] = some (certCs cert0).toArray := by kernel_rfl
theorem inZ0 : Tryz.prog.built 80 [] = some (inCs in0).toArray := by kernel_rfl
theorem outZ0 : Tryz.prog.built 84 [] = some (outCs out0).toArray := by kernel_rfl
theorem payZ0 : Tryz.prog.built 89 [] = some (payCs pay0).toArray := by kernel_rfl
theorem witZ0 : Tryz.prog.built 74 [] = some (witCs wit0).toArray := by kernel_rfl
theorem riBuiltK (s : ByteArray) : Tryz.prog.built 179 [(0, .string s), (1, .bool true)] = some #[.string s, .bool true] := by kernel_rfl
/-- One thing more is kept. -/
theorem q7q {P Q : World → Prop} {m : Nat} {X : List Nat} {w : World} (h : StabX P m X w) (k : StabX Q w.heap.size X w) : StabX (fun x => P x ∧ Q x) w.heap.size X w :=
 ⟨Nat.le_refl _, fun w' ht => ⟨(h.touch ht (fun x hx => hx.elim (fun h1 => .inl (Nat.le_trans h.lt h1)) .inr)).now, k.2 w' ht⟩⟩
theorem x9n {w : World} {gt f s t : Nat} {v1 v2 v3 v4 v5 : Value} (_ : DAt w gt v1 v2 v3 v4 v5 f s t) (X : List Nat) : StabX (fun _ => True) w.heap.size X w := ⟨Nat.le_refl _, fun _ _ => True.intro⟩
theorem j3h {P : World → Prop} {m0 g gt g0 W0 : Nat} {X : List Nat} {w1 : World} (R : StabX P m0 X w1) (z1 : gt < w1.heap.size) (hgg : g < gt) (h0g : g0 < g) (hw : W0 ≤ w1.heap.size) : ∃ m B, m ≤ B ∧ g < B ∧ gt < B ∧ g0 < B ∧ W0 ≤ B ∧ B ≤ w1.heap.size ∧ StabX P m X w1 :=
 ⟨m0, w1.heap.size, R.lt, by omega, z1, by omega, hw, Nat.le_refl _, R⟩
theorem RdI.flag {w : World} {g : Nat} {st : Option (List UInt8)} (h : RdI w g st) : w.cell? ⟨g, 1, none⟩ = some (.bool st.isSome) := by
 obtain ⟨s, b, h1, _, h2⟩ := h
 cases st with
 | none => rw [RI.c1 h1, h2.bad rfl]; rfl
 | some r => rw [RI.c1 h1, (h2.good r rfl).1]; rfl
theorem RdI.flag0 {w : World} {g : Nat} (h : RdI w g none) : w.cell? ⟨g, 1, none⟩ = some (.bool false) := h.flag
theorem RdI.flag1 {w : World} {g : Nat} {r : List UInt8} (h : RdI w g (some r)) : w.cell? ⟨g, 1, none⟩ = some (.bool true) := h.flag
theorem RdI.rest {w : World} {g : Nat} {r : List UInt8} (h : RdI w g (some r)) : ∃ s : ByteArray, w.cell? ⟨g, 0, none⟩ = some (.string s) ∧ s.data.toList = r := by
 obtain ⟨s, b, h1, _, h2⟩ := h
 exact ⟨s, RI.c0 h1, (h2.good r rfl).2⟩
end Go.Proofs.YtbbfnpfkbbpjgaaGreat
