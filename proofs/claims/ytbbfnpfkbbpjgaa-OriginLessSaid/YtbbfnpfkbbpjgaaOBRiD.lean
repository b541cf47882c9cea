/- The reference of layer 13: the reader In, whatever was wrong: Text, Number, Count. -/
import Derived.Test.YtbbfnpfkbbpjgaaOBTakeW
import Derived.Test.YtbbfnpfkbbpjgaaOBTakeRW
namespace Go.Proofs.Ytbbfnpfkbbpjgaa
open Go.RowKit Go.Lib
set_option linter.unusedVariables false
set_option linter.unusedSimpArgs false

/-- The reader's variable. -/
def RI (w : World) (g : Nat) (s : ByteArray) (b : Bool) : Prop := Arr w g 101 [.string s, .bool b]
section
variable {w w' : World} {g : Nat} {s : ByteArray} {b : Bool}
theorem RI.later (h : RI w g s b) (hb : Below w.heap.size w w') : RI w' g s b := Arr.later h hb
theorem RI.touch {S : Nat → Prop} (h : RI w g s b) (ht : Touch S w w') (hS : ¬ S g) : RI w' g s b := Arr.touch h ht hS
theorem RI.lt (h : RI w g s b) : g < w.heap.size := Arr.lt h
theorem RI.c0 (h : RI w g s b) : w.cell? ⟨g, 0, none⟩ = some (.string s) := Arr.cell h (i := 0) (by simp)
theorem RI.c1 (h : RI w g s b) : w.cell? ⟨g, 1, none⟩ = some (.bool b) := Arr.cell h (i := 1) (by simp)
end
section
variable {ops : Array Oper} {rest : List Oper} {o : Oper} {a : Act} {w : World} {Q : Exit → Act → World → Prop}
theorem wpl_set_iok (hgd : o.guard = none) (x y : Operand) (ho : o.op = .store 4 x y) {g : Nat} {s : ByteArray} {b q : Bool} (hx : a.eval x = .pointer (some ⟨g, 1, none⟩)) (hy : a.eval y = .bool q) (h : RI w g s b)
    (hk : ∀ w2, RI w2 g s q → Touch (fun b => b = g) w w2 → wpList Try.prog ops Q rest (a.put o.dst undef) w2) : wpList Try.prog ops Q (o :: rest) a w :=
  wpl_set_one hgd 4 x y ho hx hy h (by simp) boolSizeR rfl rfl (fun w2 ha ht => hk w2 ha ht)
theorem wpl_set_is (hgd : o.guard = none) (x y : Operand) (ho : o.op = .store 9 x y) {g : Nat} {s q : ByteArray} {b : Bool} (hx : a.eval x = .pointer (some ⟨g, 0, none⟩)) (hy : a.eval y = .string q) (h : RI w g s b)
    (hk : ∀ w2, RI w2 g q b → Touch (fun b => b = g) w w2 → wpList Try.prog ops Q rest (a.put o.dst undef) w2) : wpList Try.prog ops Q (o :: rest) a w :=
  wpl_set_one hgd 9 x y ho hx hy h (by simp) strSizeR rfl rfl (fun w2 ha ht => hk w2 ha ht)
end
/-- What is told by the reader's two parts. -/
structure Cond (st : Option (List UInt8)) (s : ByteArray) (b : Bool) : Prop where
  bad : st = none → b = false
  good : ∀ r, st = some r → b = true ∧ s.data.toList = r
theorem Cond.no (s : ByteArray) : Cond none s false := ⟨fun _ => rfl, fun _ h => by cases h⟩
theorem Cond.drop {st : Option (List UInt8)} {s s2 : ByteArray} {b : Bool} (h : Cond st s b) (k : Nat) (h2 : s2.data.toList = s.data.toList.drop k) : Cond (st.map (List.drop k)) s2 b := by
  refine ⟨fun h0 => h.bad (by cases st with | none => rfl | some r => cases h0), fun r hr => ?_⟩
  cases st with
  | none => cases hr
  | some q =>
    obtain ⟨h3, h4⟩ := h.good q rfl
    exact ⟨h3, by rw [h2, h4]; exact Option.some.inj hr⟩
def RdI (w : World) (g : Nat) (st : Option (List UInt8)) : Prop := ∃ s b, RI w g s b ∧ s.size ≤ 1048576 ∧ Cond st s b
theorem RdI.later {w w' : World} {g : Nat} {st : Option (List UInt8)} (h : RdI w g st) (hb : Below w.heap.size w w') : RdI w' g st := by
  obtain ⟨s, b, h1, h2⟩ := h
  exact ⟨s, b, h1.later hb, h2⟩
theorem RdI.touch {S : Nat → Prop} {w w' : World} {g : Nat} {st : Option (List UInt8)} (h : RdI w g st) (ht : Touch S w w') (hS : ¬ S g) : RdI w' g st := by
  obtain ⟨s, b, h1, h2⟩ := h
  exact ⟨s, b, h1.touch ht hS, h2⟩
theorem RdI.tt {w w' : World} {g g' : Nat} {st : Option (List UInt8)} (h : RdI w g st) (ht : Touch (fun x => x = g') w w') (hS : ¬ g = g' := by omega) : RdI w' g st := h.touch ht hS
theorem RdI.lt {w : World} {g : Nat} {st : Option (List UInt8)} (h : RdI w g st) : g < w.heap.size := by
  obtain ⟨s, b, h1, h2⟩ := h
  exact h1.lt
theorem got_text {st : Option (List UInt8)} {s : ByteArray} {b : Bool} (h : Cond st s b) (n : Nat) (hn : ¬ s.size < n) : Got (textP n) st (s.data.toList.take n) (st.map (List.drop n)) := by
  refine ⟨fun r hr => .inl ⟨r.drop n, ?_, by rw [hr]; rfl⟩, fun h0 => by rw [h0]; rfl⟩
  have h1 := (h.good r hr).2
  have hz : s.size = r.length := by rw [← h1, Array.length_toList]; rfl
  unfold textP
  rw [if_neg (by omega), h1]
theorem got_text_no {st : Option (List UInt8)} {s : ByteArray} {b : Bool} (h : Cond st s b) (n : Nat) (hn : s.size < n) (l : List UInt8) : Got (textP n) st l none := by
  refine ⟨fun r hr => .inr ⟨?_, rfl⟩, fun h0 => rfl⟩
  have h1 := (h.good r hr).2
  have hz : s.size = r.length := by rw [← h1, Array.length_toList]; rfl
  unfold textP
  rw [if_pos (by omega)]
theorem got_num {st : Option (List UInt8)} {s : ByteArray} {b : Bool} (h : Cond st s b) {n k : Nat} (hq : takeO s.data.toList = some (n, k)) : Got numP st n (st.map (List.drop k)) := by
  refine ⟨fun r hr => .inl ⟨r.drop k, ?_, by rw [hr]; rfl⟩, fun h0 => by rw [h0]; rfl⟩
  have h1 := (h.good r hr).2
  unfold numP
  rw [← h1, hq]
theorem got_num_no {st : Option (List UInt8)} {s : ByteArray} {b : Bool} (h : Cond st s b) (hq : takeO s.data.toList = none) (n : Nat) : Got numP st n none := by
  refine ⟨fun r hr => .inr ⟨?_, rfl⟩, fun h0 => rfl⟩
  have h1 := (h.good r hr).2
  unfold numP
  rw [← h1, hq]
/-- A number that is no more than most. -/
def countP (most : Nat) : Rdr Nat := bindP numP fun n => if most < n then (fun _ => none) else pureP n
theorem got_count {st st1 : Option (List UInt8)} {n most : Nat} (h : Got numP st n st1) (hn : ¬ most < n) : Got (countP most) st n st1 := h.bind (by rw [if_neg hn]; exact got_pure _ _)
theorem got_count_no {st st1 : Option (List UInt8)} {n most : Nat} (h : Got numP st n st1) (hn : most < n) (m : Nat) : Got (countP most) st m none := h.bind (by rw [if_pos hn]; exact got_over _ _)
theorem made_zero (n : Nat) : (madeCells #[.int .u8 0] n).toList = bvs (List.replicate n 0) := by
  unfold madeCells bvs
  rw [List.map_replicate, Array.toList_map, Array.toList_range]
  refine List.eq_replicate_iff.2 ⟨by simp, fun x hx => ?_⟩
  obtain ⟨i, _, rfl⟩ := List.mem_map.1 hx
  simp [Nat.mod_one]
theorem u8Ie : ∃ ie, Try.prog.info? 5 = some ie ∧ ie.size = 1 ∧ ie.bytes = 1 ∧ ie.zero = some (.int .u8 0) := by
  obtain ⟨i, hi, h⟩ := Option.map_eq_some_iff.1 (show (Try.prog.info? 5).map (fun i => (i.size, i.bytes, i.zero)) = some (1, 1, some (.int .u8 0)) by kernel_rfl)
  simp only [Prod.mk.injEq] at h
  exact ⟨i, hi, h.1, h.2.1, h.2.2⟩
theorem owns_fullR {w : World} {B e sz g n : Nat} {xs : List Value} (h : w.ownsRow B e sz (.slice (some ⟨g, 0, none⟩) n n) n xs) : Arr w g e xs := by
  obtain ⟨h1, h | ⟨g', cap, cur, hv, hg, hh, hc, hm, hs, ht⟩⟩ := h
  · exact absurd h.1 (by simp)
  · simp only [Value.slice.injEq, Option.some.injEq, Addr.mk.injEq, and_true, true_and] at hv
    obtain ⟨rfl, rfl⟩ := hv
    unfold Arr
    rw [hh, ← ht, List.take_of_length_le (by simp [hs])]
section
variable {ops : Array Oper} {rest : List Oper} {o : Oper} {a : Act} {w : World} {Q : Exit → Act → World → Prop}
/-- So many noughts. -/
theorem wpl_make_bytes (hg : o.guard = none) (l c : Operand) (hop : o.op = .makeSlice 63 l c) (n : Nat) (hl : a.eval l = .int .i64 n) (hc : a.eval c = .int .i64 n) (hn : n ≤ 1048576)
    (hK : ∀ w2 g, w.heap.size ≤ g → Cells w2 g 0 (bvs (List.replicate n 0)) → Below w.heap.size w w2 → wpList Try.prog ops Q rest (a.put o.dst (.slice (some ⟨g, 0, none⟩) n n)) w2) : wpList Try.prog ops Q (o :: rest) a w := by
  obtain ⟨ie, hi1, hi2, hi3, hi4⟩ := u8Ie
  refine wpList_make_full w hg l c 63 hop w.heap.size 5 ie (.int .u8 0) 1 Try.underlying63 hi1 hi4 hi2 .i64 .i64 _ _ n hl hc rfl rfl (by rw [hi3]; omega) (by unfold maxLen; omega) (Nat.le_refl _) ?_
  intro w1 hown hg1
  refine hK w1 w.heap.size (Nat.le_refl _) ?_ ((Below.refl _ _).grown hg1 (Nat.le_refl _) (fun k h => by cases h))
  have h := Cells.arr (owns_fullR hown)
  rw [← made_zero, show n = n * 1 by omega]
  exact h
end
set_option maxRecDepth 100000 in
set_option maxHeartbeats 1600000 in
theorem riText (g : Nat) (st : Option (List UInt8)) (n : Nat) (w : World) (h : RdI w g st) (hn : n ≤ 1024) :
    Calls Try.prog 92 #[.pointer (some ⟨g, 0, none⟩), .int .i64 n] w fun e w' => ∃ (l : List UInt8) (st' : Option (List UInt8)), e = .returned (.string ⟨l.toArray⟩) ∧ l.length = n ∧ RdI w' g st' ∧ Got (textP n) st l st' ∧ Touch (fun b => b = g) w w' := by
  obtain ⟨s, b, F1, hs, hcd⟩ := h
  have ht := Touch.refl (fun b => b = g) w
  have gw := F1.lt
  by_cases hlt : s.size < n
  · have c1 := decide_eq_true (show (s.size : Int) < (n : Int) by omega)
    have HGT := hide (got_text_no hcd n hlt (List.replicate n 0))
    clear hcd
    go_enter Try.func92, Try.ntmps92
    go_wp2_with (first | (with_reducible show wpList _ _ _ (⟨_, Op.load _ _, _, _, _, _⟩ :: _) _ _; refine wpl_load_one rfl 4 _ rfl rfl (RI.c1 F1) (by kernel_rfl) ?_) | (with_reducible show wpList _ _ _ (⟨_, Op.load _ _, _, _, _, _⟩ :: _) _ _; refine wpl_load_one rfl 9 _ rfl rfl (RI.c0 F1) (by kernel_rfl) ?_) | (with_reducible show wpList _ _ _ (⟨_, Op.store _ _ _, _, _, _, _⟩ :: _) _ _; first | (refine wpl_set_iok rfl _ _ rfl rfl rfl F1 ?_; intro _ t1 h2; clear F1; have F1 := t1; replace ht := ht.add h2 (fun x h => h); clear t1 h2) | (refine wpl_set_is rfl _ _ rfl rfl rfl F1 ?_; intro _ t1 h2; clear F1; have F1 := t1; replace ht := ht.add h2 (fun x h => h); clear t1 h2)) | (with_reducible show wpList _ _ _ (⟨_, Op.makeSlice _ _ _, _, _, _, _⟩ :: _) _ _; refine wpl_make_bytes rfl _ _ rfl n rfl rfl (by omega) ?_; intro _ g2 h2 F2 hb; have hcv := conv_cells F2 n List.length_replicate; replace F1 := F1.later hb; replace ht := ht.behind hb; clear hb))
    go_ret
    exact ⟨List.replicate n 0, none, rfl, List.length_replicate, ⟨s, false, F1, hs, Cond.no s⟩, HGT.out, ht⟩
  · have c1 := decide_eq_false (show ¬ (s.size : Int) < (n : Int) by omega)
    have hns : n ≤ s.size := by omega
    have HGT := hide (got_text hcd n hlt)
    have HE : Hid (s.extract 0 n = ⟨(s.data.toList.take n).toArray⟩) := by
      apply ByteArray.ext
      apply Array.toList_inj.1
      rw [ext_take']
    have HLN : Hid ((s.data.toList.take n).length = n) := by
      have : s.size = s.data.toList.length := by rw [Array.length_toList]; rfl
      rw [List.length_take]; exact hide (by omega)
    have HC := hide (hcd.drop n (ext_drop' s n))
    have HS : Hid ((s.extract n s.size).size ≤ 1048576) := by
      have h1 : (s.extract n s.size).size = (s.extract n s.size).data.toList.length := by rw [Array.length_toList]; rfl
      have h2 : s.size = s.data.toList.length := by rw [Array.length_toList]; rfl
      rw [h1, ext_drop', List.length_drop]
      exact hide (by omega)
    clear hcd hlt
    generalize s.data.toList.take n = L at *
    go_enter Try.func92, Try.ntmps92
    go_wp2_with (first | (with_reducible show wpList _ _ _ (⟨_, Op.load _ _, _, _, _, _⟩ :: _) _ _; refine wpl_load_one rfl 4 _ rfl rfl (RI.c1 F1) (by kernel_rfl) ?_) | (with_reducible show wpList _ _ _ (⟨_, Op.load _ _, _, _, _, _⟩ :: _) _ _; refine wpl_load_one rfl 9 _ rfl rfl (RI.c0 F1) (by kernel_rfl) ?_) | (with_reducible show wpList _ _ _ (⟨_, Op.store _ _ _, _, _, _, _⟩ :: _) _ _; first | (refine wpl_set_iok rfl _ _ rfl rfl rfl F1 ?_; intro _ t1 h2; clear F1; have F1 := t1; replace ht := ht.add h2 (fun x h => h); clear t1 h2) | (refine wpl_set_is rfl _ _ rfl rfl rfl F1 ?_; intro _ t1 h2; clear F1; have F1 := t1; replace ht := ht.add h2 (fun x h => h); clear t1 h2)))
    go_ret
    exact ⟨L, _, by rw [← HE.out]; rfl, HLN.out, ⟨_, b, F1, HS.out, HC.out⟩, HGT.out, ht⟩
set_option maxRecDepth 100000 in
set_option maxHeartbeats 1600000 in
theorem riNumber (g : Nat) (st : Option (List UInt8)) (w : World) (h : RdI w g st) :
    Calls Try.prog 60 #[.pointer (some ⟨g, 0, none⟩)] w fun e w' => ∃ (n : Nat) (st' : Option (List UInt8)), e = .returned (.int .u64 n) ∧ U64 n ∧ RdI w' g st' ∧ Got numP st n st' ∧ Touch (fun b => b = g) w w' := by
  obtain ⟨s, b, F1, hs, hcd⟩ := h
  have HT := hide (fun w => refTake_any s w (by omega))
  have ht := Touch.refl (fun b => b = g) w
  have gw := F1.lt
  cases hq : takeO s.data.toList with
  | none =>
    have HGT := hide (got_num_no hcd hq 0)
    rw [hq] at HT
    clear hq hcd
    generalize takeV s.data.toList = tv at *
    go_enter Try.func60, Try.ntmps60
    go_wp2_with (first | (with_reducible show wpList _ _ _ (⟨_, Op.load _ _, _, _, _, _⟩ :: _) _ _; refine wpl_load_one rfl 4 _ rfl rfl (RI.c1 F1) (by kernel_rfl) ?_) | (with_reducible show wpList _ _ _ (⟨_, Op.load _ _, _, _, _, _⟩ :: _) _ _; refine wpl_load_one rfl 9 _ rfl rfl (RI.c0 F1) (by kernel_rfl) ?_) | (with_reducible show wpList _ _ _ (⟨_, Op.store _ _ _, _, _, _, _⟩ :: _) _ _; first | (refine wpl_set_iok rfl _ _ rfl rfl rfl F1 ?_; intro _ t1 h2; clear F1; have F1 := t1; replace ht := ht.add h2 (fun x h => h); clear t1 h2) | (refine wpl_set_is rfl _ _ rfl rfl rfl F1 ?_; intro _ t1 h2; clear F1; have F1 := t1; replace ht := ht.add h2 (fun x h => h); clear t1 h2)) | (go_at_call 124; refine (HT.out _).mono ?_; rintro _ _ ⟨⟨c, rfl, hc0⟩, hc⟩; replace F1 := F1.later hc; replace ht := ht.behind hc; have c1 : (c != 0) = true := (by rw [bne_iff_ne]; intro h; have := hc0.1 h; cases this); clear hc hc0))
    go_ret
    exact ⟨0, none, rfl, by decide, ⟨s, false, F1, hs, Cond.no s⟩, HGT.out, ht⟩
  | some x =>
    obtain ⟨n, k⟩ := x
    obtain ⟨i1, i2, i3, i4⟩ := takeO_is hq
    have hv : takeV s.data.toList = (n, k) := by unfold takeV; rw [hq]; rfl
    have hz : s.size = s.data.toList.length := by rw [Array.length_toList]; rfl
    have HGT := hide (got_num hcd hq)
    have HC := hide (hcd.drop k (ext_drop' s k))
    have HS : Hid ((s.extract k s.size).size ≤ 1048576) := by
      have : (s.extract k s.size).size = (s.extract k s.size).data.toList.length := by rw [Array.length_toList]; rfl
      rw [this, ext_drop', List.length_drop]
      exact hide (by omega)
    have hks : k ≤ s.size := by omega
    have HN : Hid (U64 n) := i1
    rw [hq, hv] at HT
    clear hq hcd hv hz i1 i2 i3 i4
    go_enter Try.func60, Try.ntmps60
    go_wp2_with (first | (with_reducible show wpList _ _ _ (⟨_, Op.load _ _, _, _, _, _⟩ :: _) _ _; refine wpl_load_one rfl 4 _ rfl rfl (RI.c1 F1) (by kernel_rfl) ?_) | (with_reducible show wpList _ _ _ (⟨_, Op.load _ _, _, _, _, _⟩ :: _) _ _; refine wpl_load_one rfl 9 _ rfl rfl (RI.c0 F1) (by kernel_rfl) ?_) | (with_reducible show wpList _ _ _ (⟨_, Op.store _ _ _, _, _, _, _⟩ :: _) _ _; first | (refine wpl_set_iok rfl _ _ rfl rfl rfl F1 ?_; intro _ t1 h2; clear F1; have F1 := t1; replace ht := ht.add h2 (fun x h => h); clear t1 h2) | (refine wpl_set_is rfl _ _ rfl rfl rfl F1 ?_; intro _ t1 h2; clear F1; have F1 := t1; replace ht := ht.add h2 (fun x h => h); clear t1 h2)) | (go_at_call 124; refine (HT.out _).mono ?_; rintro _ _ ⟨⟨c, rfl, hc0⟩, hc⟩; replace F1 := F1.later hc; replace ht := ht.behind hc; obtain rfl : c = 0 := hc0.2 rfl; clear hc hc0))
    go_ret
    exact ⟨n, _, rfl, HN.out, ⟨_, b, F1, HS.out, HC.out⟩, HGT.out, ht⟩
set_option maxRecDepth 100000 in
set_option maxHeartbeats 1600000 in
theorem riCount (g most : Nat) (st : Option (List UInt8)) (w : World) (h : RdI w g st) :
    Calls Try.prog 62 #[.pointer (some ⟨g, 0, none⟩), .int .u64 most] w fun e w' => ∃ (n : Nat) (st' : Option (List UInt8)), e = .returned (.int .u64 n) ∧ n ≤ most ∧ RdI w' g st' ∧ Got (countP most) st n st' ∧ Touch (fun b => b = g) w w' := by
  have HN := hide (fun w (h : RdI w g st) => riNumber g st w h)
  have ht := Touch.refl (fun b => b = g) w
  have F5 := h
  clear h
  go_enter Try.func62, Try.ntmps62
  go_wp2_with (first | (go_at_call 60; refine (HN.out _ F5).mono ?_; rintro _ w1 ⟨n, st1, rfl, hn, h1, hg, ht1⟩; clear F5; have F5 := h1; clear h1; replace ht := ht.add ht1 (fun x h => h); clear ht1) | (with_reducible show wpList _ _ _ (⟨_, Op.binOp BinOp.gtr _ _ _ _, _, _, _, _⟩ :: _) _ _; generalize hstop : wpList _ _ _ _ _ _ = Gstop))
  by_cases hq : most < n
  · have c1 := decide_eq_true (show (most : Int) < (n : Int) by omega)
    obtain ⟨s, bb, F1, hs, _⟩ := F5
    have HG := hide (got_count_no hg hq 0)
    clear hg hn HN
    rw [← hstop]; clear hstop
    go_wp2_with (first | (with_reducible show wpList _ _ _ (⟨_, Op.store _ _ _, _, _, _, _⟩ :: _) _ _; first | (refine wpl_set_iok rfl _ _ rfl rfl rfl F1 ?_; intro _ t1 h2; clear F1; have F1 := t1; replace ht := ht.add h2 (fun x h => h); clear t1 h2) | (refine wpl_set_is rfl _ _ rfl rfl rfl F1 ?_; intro _ t1 h2; clear F1; have F1 := t1; replace ht := ht.add h2 (fun x h => h); clear t1 h2)))
    go_ret
    exact ⟨0, none, rfl, Nat.zero_le _, ⟨s, false, F1, hs, Cond.no s⟩, HG.out, ht⟩
  · have c1 := decide_eq_false (show ¬ (most : Int) < (n : Int) by omega)
    have HG := hide (got_count hg hq)
    clear hg hn HN
    rw [← hstop]; clear hstop
    go_wp2_with fail
    go_ret
    exact ⟨n, st1, rfl, by omega, F5, HG.out, ht⟩
end Go.Proofs.Ytbbfnpfkbbpjgaa

/- The reference of layer 13: the reader In, whatever was wrong: Hash. -/
namespace Go.Proofs.Ytbbfnpfkbbpjgaa
open Go.RowKit Go.Lib
set_option linter.unusedVariables false
set_option linter.unusedSimpArgs false

theorem set_nextI (L Z : List UInt8) (k : Nat) (hL : L.length = 32) (hZ : Z.length = 32) (hk : k < 32) : (L.take k ++ Z.drop k).set k (L.getD k 0) = L.take (k + 1) ++ Z.drop (k + 1) := by
  have e : (L.take k).length = k := by rw [List.length_take]; omega
  have e2 : L.take (k + 1) = L.take k ++ [L.getD k 0] := by
    rw [List.take_succ_eq_append_getElem (by omega), List.getD_eq_getElem?_getD, List.getElem?_eq_getElem (by omega), Option.getD_some]
  have e3 : Z.drop k = Z.getD k 0 :: Z.drop (k + 1) := by
    rw [List.drop_eq_getElem_cons (by omega), List.getD_eq_getElem?_getD, List.getElem?_eq_getElem (by omega), Option.getD_some]
  rw [List.set_append, if_neg (by omega), e, Nat.sub_self, e3, List.set_cons_zero, e2, List.append_assoc]
  rfl
set_option maxRecDepth 100000 in
set_option maxHeartbeats 1600000 in
theorem riHash (g : Nat) (st : Option (List UInt8)) (w : World) (h : RdI w g st) :
    Calls Try.prog 61 #[.pointer (some ⟨g, 0, none⟩)] w fun e w' => ∃ (l : List UInt8) (st' : Option (List UInt8)), e = .returned (hv l) ∧ l.length = 32 ∧ RdI w' g st' ∧ Got (textP 32) st l st' ∧ Touch (fun b => b = g) w w' := by
  have HT := hide (fun (w : World) (h : RdI w g st) => riText g st 32 w h (by decide))
  have F5 := h
  have hgw := h.lt
  have ht := Touch.refl (fun b => b = g) w
  clear h
  have mF2 := True.intro
  have mF3 := True.intro
  go_enter Try.func61, Try.ntmps61
  go_wp2_with (first | (with_reducible show wpList _ _ _ (⟨_, Op.alloc _, _, _, _, _⟩ :: _) _ _; clear mF2; refine wpl_mk_hash rfl rfl ?_; intro _ g2 h2 F2 hb; have l5 := F5.lt; replace F5 := F5.later hb; replace ht := ht.behind hb; clear hb) | (go_at_call 92; refine (HT.out _ F5).mono ?_; rintro _ w1 ⟨L, st', rfl, hl, h1, hg, ht1⟩; clear F5; have F5 := h1; clear h1; have HG := hide hg; have HL := hide hl; clear hg hl; replace ht := ht.add ht1 (fun x h => h); replace F2 := F2.touch ht1 (by show ¬ _ = _; omega); clear ht1) | (with_reducible show wpList _ _ _ (⟨_, Op.build _ _, _, _, _, _⟩ :: _) _ _; refine wpl_zero_hash rfl rfl ?_) | (with_reducible show wpList _ _ _ (⟨_, Op.alloc _, _, _, _, _⟩ :: _) _ _; clear mF3; refine wpl_mk_hash rfl rfl ?_; intro _ g3 h3 F3 hb; have l2 := F2.lt; have l5b := F5.lt; replace F2 := F2.later hb; replace F5 := F5.later hb; replace ht := ht.behind hb; clear hb) | (with_reducible show wpList _ _ _ (⟨_, Op.store _ _ _, _, _, _, _⟩ :: _) _ _; refine wpl_set_hash rfl _ _ rfl rfl rfl (show zero32.length = 32 from rfl) F3 ?_; intro _ t1 ht2; replace F2 := F2.touch ht2 (by show ¬ _ = _; omega); replace F5 := F5.touch ht2 (by show ¬ _ = _; omega); replace ht := ht.trans ht2 (fun x hx => .inr (by have : x = g3 := hx; have := ht.size; omega)); clear F3; have F3 := t1; clear t1 ht2))
  have g23 : g2 < g3 := by omega
  have gg2 : g < g2 := by omega
  have wg2 : w.heap.size ≤ g2 := h2
  have wg3 : w.heap.size ≤ g3 := by omega
  have hz : (⟨L.toArray⟩ : ByteArray).size = 32 := by show L.toArray.size = 32; rw [List.size_toArray]; exact HL.out
  have HS : Hid ((⟨L.toArray⟩ : ByteArray).data.toList = L) := rfl
  have HZ := hide hz
  clear hz
  generalize (⟨L.toArray⟩ : ByteArray) = s at *
  go_loopw [5] (fun i wr => ∃ k : Nat, k ≤ 32 ∧ i = .int .i64 k ∧ RdI wr g st' ∧ HashAt wr g2 zero32 ∧ Byts wr g3 27 (L.take k ++ zero32.drop k) ∧ Touch (fun b => b = g) w wr) (fun i _ => 32 - (RowKit.intOf i).toNat)
  case atStart => exact ⟨0, by omega, rfl, F5, F2, F3.2, ht⟩
  case round =>
    clear F5 F2 F3 ht
    obtain ⟨k, hk, rfl, F5, F2, F3, ht⟩ := hrel
    by_cases hlt : k < 32
    · have hks : k < s.size := by rw [HZ.out]; exact hlt
      have eb : ∀ h : k < s.size, ((s[k]'h).toNat : Int) = ((L.getD k 0).toNat : Int) := fun h => by rw [byte_at s k h, HS.out]
      have x1 := Byts.cell F3 (i := k) (by rw [List.length_append, List.length_take, List.length_drop, HL.out, show zero32.length = 32 from rfl]; omega)
      have x2 := Arr.thaw F3 k
      have d1 := Byts.set F3 k (L.getD k 0)
      rw [set_nextI L zero32 k HL.out rfl hlt] at d1
      have d2 := F5.touch (touch_set _ ⟨g3, k, none⟩ (.int .u8 ((L.getD k 0).toNat : Int))) (by show ¬ g = g3; omega)
      have d3 := F2.touch (touch_set _ ⟨g3, k, none⟩ (.int .u8 ((L.getD k 0).toNat : Int))) (by show ¬ g2 = g3; omega)
      have d4 := ht.trans (touch_set _ ⟨g3, k, none⟩ (.int .u8 ((L.getD k 0).toNat : Int))) (fun x hx => .inr (by have : x = g3 := hx; omega))
      have D1 := hide d1
      have D2 := hide d2
      have D3 := hide d3
      have D4 := hide d4
      clear d1 d2 d3 d4 F3 F5 F2 ht
      generalize L.getD k 0 = c at *
      go_wp2_with fail
      go_roundw
      case rel => exact ⟨k + 1, by omega, by simp, D2.out, D3.out, D1.out, D4.out⟩
      case measure => simp [RowKit.intOf]; omega
    · obtain rfl : k = 32 := by omega
      have F4 : HashAt _ g3 L := ⟨HL.out, by have := F3; rwa [List.take_of_length_le (by rw [HL.out]; exact Nat.le_refl _), List.drop_of_length_le (by rw [show zero32.length = 32 from rfl]; exact Nat.le_refl _), List.append_nil] at this⟩
      clear F3 hlt hk
      go_wp2_with (first | (with_reducible show wpList _ _ _ (⟨_, Op.load _ _, _, _, _, _⟩ :: _) _ _; refine wpl_load_hash rfl _ rfl rfl (by assumption) ?_) | (with_reducible show wpList _ _ _ (⟨_, Op.store _ _ _, _, _, _, _⟩ :: _) _ _; refine wpl_set_hash rfl _ _ rfl rfl rfl HL.out F2 ?_; intro _ t1 ht2; replace F5 := F5.touch ht2 (by show ¬ _ = _; omega); replace ht := ht.trans ht2 (fun x hx => .inr (by have : x = g2 := hx; omega)); clear F2; have F2 := t1; clear t1 ht2))
      exact bodyPost_ret (ret_hash rfl _ _ rfl F2) rfl ⟨L, st', rfl, HL.out, F5, HG.out, ht⟩
end Go.Proofs.Ytbbfnpfkbbpjgaa
