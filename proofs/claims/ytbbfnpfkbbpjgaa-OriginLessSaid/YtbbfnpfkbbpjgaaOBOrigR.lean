/- origin.reader: number, hash. -/
import Derived.Test.YtbbfnpfkbbpjgaaOBTakeW
import Derived.Test.YtbbfnpfkbbpjgaaOBMCells
namespace Go.Proofs.Ytbbfnpfkbbpjgaa
open Go.RowKit Go.Lib
set_option linter.unusedVariables false
set_option linter.unusedSimpArgs false

/-- The reader's variable. -/
def ORA (w : World) (g : Nat) (s : ByteArray) (b : Bool) : Prop := Arr w g 84 [.string s, .bool b]
theorem ORA.later {w w' : World} {g : Nat} {s : ByteArray} {b : Bool} (h : ORA w g s b) (hb : Below w.heap.size w w') : ORA w' g s b := Arr.later h hb
theorem ORA.touch {S : Nat → Prop} {w w' : World} {g : Nat} {s : ByteArray} {b : Bool} (h : ORA w g s b) (ht : Touch S w w') (hS : ¬ S g) : ORA w' g s b := Arr.touch h ht hS
theorem ORA.lt {w : World} {g : Nat} {s : ByteArray} {b : Bool} (h : ORA w g s b) : g < w.heap.size := Arr.lt h
theorem ORA.c0 {w : World} {g : Nat} {s : ByteArray} {b : Bool} (h : ORA w g s b) : w.cell? ⟨g, 0, none⟩ = some (.string s) := Arr.cell h (i := 0) (by simp)
theorem ORA.c1 {w : World} {g : Nat} {s : ByteArray} {b : Bool} (h : ORA w g s b) : w.cell? ⟨g, 1, none⟩ = some (.bool b) := Arr.cell h (i := 1) (by simp)
section
variable {ops : Array Oper} {rest : List Oper} {o : Oper} {a : Act} {w : World} {Q : Exit → Act → World → Prop}
theorem wpl_set_obad (hgd : o.guard = none) (x y : Operand) (ho : o.op = .store 4 x y) {g : Nat} {s : ByteArray} {b q : Bool} (hx : a.eval x = .pointer (some ⟨g, 1, none⟩)) (hy : a.eval y = .bool q) (h : ORA w g s b)
    (hk : ∀ w2, ORA w2 g s q → Touch (fun b => b = g) w w2 → wpList Try.prog ops Q rest (a.put o.dst undef) w2) : wpList Try.prog ops Q (o :: rest) a w :=
  wpl_set_one hgd 4 x y ho hx hy h (by simp) boolSizeR rfl rfl (fun w2 ha ht => hk w2 ha ht)
theorem wpl_set_os (hgd : o.guard = none) (x y : Operand) (ho : o.op = .store 9 x y) {g : Nat} {s q : ByteArray} {b : Bool} (hx : a.eval x = .pointer (some ⟨g, 0, none⟩)) (hy : a.eval y = .string q) (h : ORA w g s b)
    (hk : ∀ w2, ORA w2 g q b → Touch (fun b => b = g) w w2 → wpList Try.prog ops Q rest (a.put o.dst undef) w2) : wpList Try.prog ops Q (o :: rest) a w :=
  wpl_set_one hgd 9 x y ho hx hy h (by simp) strSizeR rfl rfl (fun w2 ha ht => hk w2 ha ht)
end
/-- What the reader at block g has ahead of it (none: something was wrong). -/
def RdO (w : World) (g : Nat) (st : Option (List UInt8)) : Prop := ∃ s b, ORA w g s b ∧ s.size ≤ 1048576 ∧ (st = none → b = true) ∧ (∀ r, st = some r → b = false ∧ s.data.toList = r)
theorem RdO.later {w w' : World} {g : Nat} {st : Option (List UInt8)} (h : RdO w g st) (hb : Below w.heap.size w w') : RdO w' g st := by
  obtain ⟨s, b, h1, h2⟩ := h
  exact ⟨s, b, h1.later hb, h2⟩
theorem RdO.touch {S : Nat → Prop} {w w' : World} {g : Nat} {st : Option (List UInt8)} (h : RdO w g st) (ht : Touch S w w') (hS : ¬ S g) : RdO w' g st := by
  obtain ⟨s, b, h1, h2⟩ := h
  exact ⟨s, b, h1.touch ht hS, h2⟩
theorem RdO.lt {w : World} {g : Nat} {st : Option (List UInt8)} (h : RdO w g st) : g < w.heap.size := by
  obtain ⟨s, b, h1, h2⟩ := h
  exact h1.lt
theorem RdO.bad {w : World} {g : Nat} {s : ByteArray} (h : ORA w g s true) (hs : s.size ≤ 1048576) : RdO w g none := ⟨s, true, h, hs, fun _ => rfl, fun _ h => by cases h⟩
theorem RdO.good {w : World} {g : Nat} {s : ByteArray} {r : List UInt8} (h : ORA w g s false) (hs : s.size ≤ 1048576) (hr : s.data.toList = r) : RdO w g (some r) := ⟨s, false, h, hs, fun h => (by cases h), fun q hq => ⟨rfl, by rw [hr]; exact Option.some.inj hq⟩⟩
set_option maxRecDepth 100000 in
set_option maxHeartbeats 1600000 in
theorem rdONumber (g : Nat) (st : Option (List UInt8)) (w : World) (h : RdO w g st) :
    Calls Try.prog 52 #[.pointer (some ⟨g, 0, none⟩)] w fun e w' => ∃ (n : Nat) (st' : Option (List UInt8)), e = .returned (.int .u64 n) ∧ U64 n ∧ RdO w' g st' ∧ Got numP st n st' ∧ Touch (fun b => b = g) w w' := by
  obtain ⟨s, b, F1, hs, hbad, hgood⟩ := h
  have HT := hide (fun w => digTake_any s w (by omega))
  have ht := Touch.refl (fun b => b = g) w
  have HG := hide hgood
  clear hgood
  cases st with
  | none =>
    obtain rfl := hbad rfl
    clear hbad HG
    generalize takeV s.data.toList = tv at *
    generalize takeO s.data.toList = tq at *
    go_enter Try.func52, Try.ntmps52
    go_wp2_with (first | (with_reducible show wpList _ _ _ (⟨_, Op.load _ _, _, _, _, _⟩ :: _) _ _; refine wpl_load_one rfl 4 _ rfl rfl (ORA.c1 F1) (by kernel_rfl) ?_) | (with_reducible show wpList _ _ _ (⟨_, Op.load _ _, _, _, _, _⟩ :: _) _ _; refine wpl_load_one rfl 9 _ rfl rfl (ORA.c0 F1) (by kernel_rfl) ?_) | (with_reducible show wpList _ _ _ (⟨_, Op.store _ _ _, _, _, _, _⟩ :: _) _ _; first | (refine wpl_set_obad rfl _ _ rfl rfl rfl F1 ?_; intro _ t1 h2; clear F1; have F1 := t1; replace ht := ht.add h2 (fun x h => h); clear t1 h2) | (refine wpl_set_os rfl _ _ rfl rfl rfl F1 ?_; intro _ t1 h2; clear F1; have F1 := t1; replace ht := ht.add h2 (fun x h => h); clear t1 h2)) | (go_at_call 123; refine (HT.out _).mono ?_; rintro _ _ ⟨⟨c, rfl, hc0⟩, hc⟩; replace F1 := F1.later hc; replace ht := ht.behind hc; clear hc hc0))
    go_ret
    exact ⟨0, none, rfl, by decide, RdO.bad F1 hs, got_bad _ _, ht⟩
  | some r =>
    obtain ⟨rfl, hr⟩ := HG.out r rfl
    rw [hr] at HT
    clear hbad HG
    cases hq : takeO r with
    | none =>
      have HGT : Hid (Got numP (some r) 0 none) := ⟨fun q hq2 => .inr ⟨by obtain rfl := Option.some.inj hq2; unfold numP; rw [hq], rfl⟩, fun h => by cases h⟩
      rw [hq] at HT
      clear hq hr
      generalize takeV r = tv at *
      go_enter Try.func52, Try.ntmps52
      go_wp2_with (first | (with_reducible show wpList _ _ _ (⟨_, Op.load _ _, _, _, _, _⟩ :: _) _ _; refine wpl_load_one rfl 4 _ rfl rfl (ORA.c1 F1) (by kernel_rfl) ?_) | (with_reducible show wpList _ _ _ (⟨_, Op.load _ _, _, _, _, _⟩ :: _) _ _; refine wpl_load_one rfl 9 _ rfl rfl (ORA.c0 F1) (by kernel_rfl) ?_) | (with_reducible show wpList _ _ _ (⟨_, Op.store _ _ _, _, _, _, _⟩ :: _) _ _; first | (refine wpl_set_obad rfl _ _ rfl rfl rfl F1 ?_; intro _ t1 h2; clear F1; have F1 := t1; replace ht := ht.add h2 (fun x h => h); clear t1 h2) | (refine wpl_set_os rfl _ _ rfl rfl rfl F1 ?_; intro _ t1 h2; clear F1; have F1 := t1; replace ht := ht.add h2 (fun x h => h); clear t1 h2)) | (go_at_call 123; refine (HT.out _).mono ?_; rintro _ _ ⟨⟨c, rfl, hc0⟩, hc⟩; replace F1 := F1.later hc; replace ht := ht.behind hc; have c1 : (c != 0) = true := (by rw [bne_iff_ne]; intro h; have := hc0.1 h; cases this); clear hc hc0))
      go_ret
      exact ⟨0, none, rfl, by decide, RdO.bad F1 hs, HGT.out, ht⟩
    | some x =>
      obtain ⟨n, k⟩ := x
      obtain ⟨i1, i2, i3, i4⟩ := takeO_is hq
      have hv : takeV r = (n, k) := by unfold takeV; rw [hq]; rfl
      have hz : s.size = r.length := by rw [← hr, Array.length_toList]; rfl
      have HGT : Hid (Got numP (some r) n (some (r.drop k))) := ⟨fun q hq2 => .inl ⟨r.drop k, by obtain rfl := Option.some.inj hq2; unfold numP; rw [hq], rfl⟩, fun h => by cases h⟩
      have HD : Hid ((s.extract k s.size).data.toList = r.drop k) := by rw [ext_drop', hr]; exact hide rfl
      have HS : Hid ((s.extract k s.size).size ≤ 1048576) := by
        have : (s.extract k s.size).size = (s.extract k s.size).data.toList.length := by rw [Array.length_toList]; rfl
        rw [this, HD.out, List.length_drop]
        exact hide (by omega)
      have hks : k ≤ s.size := by omega
      have HN : Hid (U64 n) := i1
      rw [hq, hv] at HT
      clear hq hr hv hz i1 i2 i3 i4
      go_enter Try.func52, Try.ntmps52
      go_wp2_with (first | (with_reducible show wpList _ _ _ (⟨_, Op.load _ _, _, _, _, _⟩ :: _) _ _; refine wpl_load_one rfl 4 _ rfl rfl (ORA.c1 F1) (by kernel_rfl) ?_) | (with_reducible show wpList _ _ _ (⟨_, Op.load _ _, _, _, _, _⟩ :: _) _ _; refine wpl_load_one rfl 9 _ rfl rfl (ORA.c0 F1) (by kernel_rfl) ?_) | (with_reducible show wpList _ _ _ (⟨_, Op.store _ _ _, _, _, _, _⟩ :: _) _ _; first | (refine wpl_set_obad rfl _ _ rfl rfl rfl F1 ?_; intro _ t1 h2; clear F1; have F1 := t1; replace ht := ht.add h2 (fun x h => h); clear t1 h2) | (refine wpl_set_os rfl _ _ rfl rfl rfl F1 ?_; intro _ t1 h2; clear F1; have F1 := t1; replace ht := ht.add h2 (fun x h => h); clear t1 h2)) | (go_at_call 123; refine (HT.out _).mono ?_; rintro _ _ ⟨⟨c, rfl, hc0⟩, hc⟩; replace F1 := F1.later hc; replace ht := ht.behind hc; obtain rfl : c = 0 := hc0.2 rfl; clear hc hc0))
      go_ret
      exact ⟨n, some (r.drop k), rfl, HN.out, RdO.good F1 HS.out HD.out, HGT.out, ht⟩
theorem RdO.flag {w : World} {g : Nat} {st : Option (List UInt8)} (h : RdO w g st) : w.cell? ⟨g, 1, none⟩ = some (.bool st.isNone) := by
  obtain ⟨s, b, h1, _, h2, h3⟩ := h
  cases st with
  | none => rw [ORA.c1 h1, h2 rfl]; rfl
  | some r => rw [ORA.c1 h1, (h3 r rfl).1]; rfl
theorem RdO.flag0 {w : World} {g : Nat} (h : RdO w g none) : w.cell? ⟨g, 1, none⟩ = some (.bool true) := h.flag
theorem RdO.flag1 {w : World} {g : Nat} {r : List UInt8} (h : RdO w g (some r)) : w.cell? ⟨g, 1, none⟩ = some (.bool false) := h.flag
theorem RdO.tt {w w' : World} {g g' : Nat} {st : Option (List UInt8)} (h : RdO w g st) (ht : Touch (fun y => y = g') w w') (hS : ¬ g = g' := by omega) : RdO w' g st := h.touch ht hS
theorem textP_no {r : List UInt8} (h : r.length < 32) (v : List UInt8) : Got (textP 32) (some r) v none := ⟨fun q hq => .inr ⟨by obtain rfl := Option.some.inj hq; unfold textP; rw [if_pos (by omega)], rfl⟩, fun h => by cases h⟩
theorem textP_yes {r : List UInt8} (h : ¬ r.length < 32) : Got (textP 32) (some r) (r.take 32) (some (r.drop 32)) := ⟨fun q hq => .inl ⟨r.drop 32, by obtain rfl := Option.some.inj hq; unfold textP; rw [if_neg (by omega)], rfl⟩, fun h => by cases h⟩
set_option maxRecDepth 100000 in
set_option maxHeartbeats 3200000 in
theorem rdOHash (g : Nat) (st : Option (List UInt8)) (w : World) (h : RdO w g st) :
    Calls Try.prog 53 #[.pointer (some ⟨g, 0, none⟩)] w fun e w' => ∃ (l : List UInt8) (st' : Option (List UInt8)), e = .returned (hv l) ∧ l.length = 32 ∧ RdO w' g st' ∧ Got (textP 32) st l st' ∧ Touch (fun b => b = g) w w' := by
  have hgw := h.lt
  obtain ⟨s, b, F1, hs, hbad, hgood⟩ := h
  have ht := Touch.refl (fun b => b = g) w
  have HG := hide hgood
  clear hgood
  cases st with
  | none =>
    obtain rfl := hbad rfl
    clear hbad HG
    have mF2 := True.intro
    have mF3 := True.intro
    go_enter Try.func53, Try.ntmps53
    go_wp2_with (first | (with_reducible show wpList _ _ _ (⟨_, Op.alloc _, _, _, _, _⟩ :: _) _ _; first | (clear mF2; refine wpl_mk_hash rfl rfl ?_; intro _ g2 h2 F2 hb; have l1 := F1.lt; replace F1 := F1.later hb; have gg2 : g < g2 := (by omega); have wg2 : w.heap.size ≤ g2 := h2; replace ht := ht.behind hb; clear hb) | (clear mF3; refine wpl_mk_hash rfl rfl ?_; intro _ g3 h3 F3 hb; have l2 := F2.lt; have g23 : g2 < g3 := (by omega); replace F1 := F1.later hb; replace F2 := F2.later hb; replace ht := ht.behind hb; clear hb)) | (with_reducible show wpList _ _ _ (⟨_, Op.load _ _, _, _, _, _⟩ :: _) _ _; refine wpl_load_one rfl 4 _ rfl rfl (ORA.c1 F1) (by kernel_rfl) ?_) | (with_reducible show wpList _ _ _ (⟨_, Op.load _ _, _, _, _, _⟩ :: _) _ _; refine wpl_load_one rfl 9 _ rfl rfl (ORA.c0 F1) (by kernel_rfl) ?_) | (with_reducible show wpList _ _ _ (⟨_, Op.load 27 _, _, _, _, _⟩ :: _) _ _; refine wpl_load_hash rfl _ rfl rfl F3 ?_) | (with_reducible show wpList _ _ _ (⟨_, Op.store 27 _ _, _, _, _, _⟩ :: _) _ _; refine wpl_set_hash rfl _ _ rfl rfl rfl (show zero32.length = 32 from rfl) F2 ?_; intro _ t1 ht2; replace F1 := F1.touch ht2 (by show ¬ _ = _; omega); replace ht := ht.trans ht2 (fun x hx => .inr (by have : x = g2 := hx; omega)); clear F2; have F2 := t1; clear t1 ht2) | (with_reducible show wpList _ _ _ (⟨_, Op.store _ _ _, _, _, _, _⟩ :: _) _ _; first | (refine wpl_set_obad rfl _ _ rfl rfl rfl F1 ?_; intro _ t1 h2; clear F1; have F1 := t1; replace F2 := F2.touch h2 (by show ¬ _ = _; omega); replace F3 := F3.touch h2 (by show ¬ _ = _; omega); replace ht := ht.add h2 (fun x h => h); clear t1 h2) | (refine wpl_set_os rfl _ _ rfl rfl rfl F1 ?_; intro _ t1 h2; clear F1; have F1 := t1; replace F2 := F2.touch h2 (by show ¬ _ = _; omega); replace F3 := F3.touch h2 (by show ¬ _ = _; omega); replace ht := ht.add h2 (fun x h => h); clear t1 h2)) | (with_reducible show Code.wp _ (Code.region _ _ true) _ _ _; (try simp only [Act.put, List.setIfInBounds_toArray, List.set_cons_succ, List.set_cons_zero]); fail))
    exact bodyPost_ret (ret_hash rfl _ _ rfl F2) rfl ⟨zero32, none, rfl, rfl, RdO.bad F1 hs, got_bad _ _, ht⟩
  | some r =>
    obtain ⟨rfl, hr⟩ := HG.out r rfl
    have hz : s.size = r.length := by rw [← hr, Array.length_toList]; rfl
    clear hbad HG
    by_cases hlt : s.size < 32
    · have c1 := decide_eq_true (show (s.size : Int) < 32 by omega)
      have HGT := hide (textP_no (r := r) (by omega) zero32)
      clear hr hz
      have mF2 := True.intro
      have mF3 := True.intro
      go_enter Try.func53, Try.ntmps53
      go_wp2_with (first | (with_reducible show wpList _ _ _ (⟨_, Op.alloc _, _, _, _, _⟩ :: _) _ _; first | (clear mF2; refine wpl_mk_hash rfl rfl ?_; intro _ g2 h2 F2 hb; have l1 := F1.lt; replace F1 := F1.later hb; have gg2 : g < g2 := (by omega); have wg2 : w.heap.size ≤ g2 := h2; replace ht := ht.behind hb; clear hb) | (clear mF3; refine wpl_mk_hash rfl rfl ?_; intro _ g3 h3 F3 hb; have l2 := F2.lt; have g23 : g2 < g3 := (by omega); replace F1 := F1.later hb; replace F2 := F2.later hb; replace ht := ht.behind hb; clear hb)) | (with_reducible show wpList _ _ _ (⟨_, Op.load _ _, _, _, _, _⟩ :: _) _ _; refine wpl_load_one rfl 4 _ rfl rfl (ORA.c1 F1) (by kernel_rfl) ?_) | (with_reducible show wpList _ _ _ (⟨_, Op.load _ _, _, _, _, _⟩ :: _) _ _; refine wpl_load_one rfl 9 _ rfl rfl (ORA.c0 F1) (by kernel_rfl) ?_) | (with_reducible show wpList _ _ _ (⟨_, Op.load 27 _, _, _, _, _⟩ :: _) _ _; refine wpl_load_hash rfl _ rfl rfl F3 ?_) | (with_reducible show wpList _ _ _ (⟨_, Op.store 27 _ _, _, _, _, _⟩ :: _) _ _; refine wpl_set_hash rfl _ _ rfl rfl rfl (show zero32.length = 32 from rfl) F2 ?_; intro _ t1 ht2; replace F1 := F1.touch ht2 (by show ¬ _ = _; omega); replace ht := ht.trans ht2 (fun x hx => .inr (by have : x = g2 := hx; omega)); clear F2; have F2 := t1; clear t1 ht2) | (with_reducible show wpList _ _ _ (⟨_, Op.store _ _ _, _, _, _, _⟩ :: _) _ _; first | (refine wpl_set_obad rfl _ _ rfl rfl rfl F1 ?_; intro _ t1 h2; clear F1; have F1 := t1; replace F2 := F2.touch h2 (by show ¬ _ = _; omega); replace F3 := F3.touch h2 (by show ¬ _ = _; omega); replace ht := ht.add h2 (fun x h => h); clear t1 h2) | (refine wpl_set_os rfl _ _ rfl rfl rfl F1 ?_; intro _ t1 h2; clear F1; have F1 := t1; replace F2 := F2.touch h2 (by show ¬ _ = _; omega); replace F3 := F3.touch h2 (by show ¬ _ = _; omega); replace ht := ht.add h2 (fun x h => h); clear t1 h2)) | (with_reducible show Code.wp _ (Code.region _ _ true) _ _ _; (try simp only [Act.put, List.setIfInBounds_toArray, List.set_cons_succ, List.set_cons_zero]); fail))
      exact bodyPost_ret (ret_hash rfl _ _ rfl F2) rfl ⟨zero32, none, rfl, rfl, RdO.bad F1 hs, HGT.out, ht⟩
    · have c1 := decide_eq_false (show ¬ (s.size : Int) < 32 by omega)
      have hns : 32 ≤ s.size := by omega
      have HZ : Hid (32 ≤ s.size) := hns
      have HGT := hide (textP_yes (r := r) (by omega))
      have HL : Hid ((r.take 32).length = 32) := by rw [List.length_take]; exact hide (by omega)
      have HT : Hid (s.data.toList.take 32 = r.take 32) := by rw [hr]; exact hide rfl
      have HD : Hid ((s.extract 32 s.size).data.toList = r.drop 32) := by rw [ext_drop', hr]; exact hide rfl
      have HS : Hid ((s.extract 32 s.size).size ≤ 1048576) := by
        have : (s.extract 32 s.size).size = (s.extract 32 s.size).data.toList.length := by rw [Array.length_toList]; rfl
        rw [this, HD.out, List.length_drop]
        exact hide (by omega)
      clear hr hz hlt
      have mF2 := True.intro
      have mF3 := True.intro
      go_enter Try.func53, Try.ntmps53
      go_wp2_with (first | (with_reducible show wpList _ _ _ (⟨_, Op.alloc _, _, _, _, _⟩ :: _) _ _; first | (clear mF2; refine wpl_mk_hash rfl rfl ?_; intro _ g2 h2 F2 hb; have l1 := F1.lt; replace F1 := F1.later hb; have gg2 : g < g2 := (by omega); have wg2 : w.heap.size ≤ g2 := h2; replace ht := ht.behind hb; clear hb) | (clear mF3; refine wpl_mk_hash rfl rfl ?_; intro _ g3 h3 F3 hb; have l2 := F2.lt; have g23 : g2 < g3 := (by omega); replace F1 := F1.later hb; replace F2 := F2.later hb; replace ht := ht.behind hb; clear hb)) | (with_reducible show wpList _ _ _ (⟨_, Op.load _ _, _, _, _, _⟩ :: _) _ _; refine wpl_load_one rfl 4 _ rfl rfl (ORA.c1 F1) (by kernel_rfl) ?_) | (with_reducible show wpList _ _ _ (⟨_, Op.load _ _, _, _, _, _⟩ :: _) _ _; refine wpl_load_one rfl 9 _ rfl rfl (ORA.c0 F1) (by kernel_rfl) ?_) | (with_reducible show wpList _ _ _ (⟨_, Op.load 27 _, _, _, _, _⟩ :: _) _ _; refine wpl_load_hash rfl _ rfl rfl F3 ?_) | (with_reducible show wpList _ _ _ (⟨_, Op.store 27 _ _, _, _, _, _⟩ :: _) _ _; refine wpl_set_hash rfl _ _ rfl rfl rfl (show zero32.length = 32 from rfl) F2 ?_; intro _ t1 ht2; replace F1 := F1.touch ht2 (by show ¬ _ = _; omega); replace ht := ht.trans ht2 (fun x hx => .inr (by have : x = g2 := hx; omega)); clear F2; have F2 := t1; clear t1 ht2) | (with_reducible show wpList _ _ _ (⟨_, Op.store _ _ _, _, _, _, _⟩ :: _) _ _; first | (refine wpl_set_obad rfl _ _ rfl rfl rfl F1 ?_; intro _ t1 h2; clear F1; have F1 := t1; replace F2 := F2.touch h2 (by show ¬ _ = _; omega); replace F3 := F3.touch h2 (by show ¬ _ = _; omega); replace ht := ht.add h2 (fun x h => h); clear t1 h2) | (refine wpl_set_os rfl _ _ rfl rfl rfl F1 ?_; intro _ t1 h2; clear F1; have F1 := t1; replace F2 := F2.touch h2 (by show ¬ _ = _; omega); replace F3 := F3.touch h2 (by show ¬ _ = _; omega); replace ht := ht.add h2 (fun x h => h); clear t1 h2)) | (with_reducible show Code.wp _ (Code.region _ _ true) _ _ _; (try simp only [Act.put, List.setIfInBounds_toArray, List.set_cons_succ, List.set_cons_zero]); fail))
      (try simp only [Act.put, List.setIfInBounds_toArray, List.set_cons_succ, List.set_cons_zero])
      have w3 := F3.lt
      have w2' := F2.lt
      refine region_plan (fun x => Touch (fun b => b = g) _ x) (.one [0, 1] 2 (.bar [3, 4] 5 (.stop []))) (by kernel_rfl) (by kernel_rfl) (by kernel_rfl) (by decide) (fun _ _ h hb => h.behind hb) (Touch.refl _ _) ?_
      intro wpl0 hb0 _ k0
      replace F2 := F2.later hb0
      replace F3 := F3.later hb0
      replace F1 := F1.later hb0
      replace ht := ht.behind hb0
      clear hb0
      refine plan_one ?_
      simp only [pickOps, opAt, List.getElem?_cons_succ, List.getElem?_cons_zero, List.nil_append, List.cons_append]
      repeat (first | go_big_quiet_skip | (go_big_quiet_want; go_big_quiet_op; first | go_big_quiet_on | (refine ⟨_, fun _ => rfl, ?_⟩; go_big_quiet_on)))
      refine wpQuiet_nil ?_
      intro wq hb k
      replace F2 := F2.later hb
      replace F3 := F3.later hb
      replace F1 := F1.later hb
      replace ht := ht.behind hb
      clear hb
      go_wp2_with fail
      refine goQ_since (fun _ _ h hb => h.behind hb) k ?_
      clear k k0
      (try simp only [Act.put, List.setIfInBounds_toArray, List.set_cons_succ, List.set_cons_zero])
      refine plan_bar ?_
      simp only [pickOps, opAt, List.getElem?_cons_succ, List.getElem?_cons_zero, List.nil_append, List.cons_append]
      repeat (first | go_big_quiet_skip | (go_big_quiet_want; first | ((with_reducible show Oper.quiet _ ⟨_, Op.load _ _, _, _, _, _⟩ _ _ _); (refine quiet_load_one 9 _ rfl rfl (fun w hw => ORA.c0 (F1.later (Kl.out hw))) (by kernel_rfl) ?_; simp only [Act.put, List.setIfInBounds_toArray, List.set_cons_succ, List.set_cons_zero]; go_big_quiet_on)) | (go_big_quiet_op; first | go_big_quiet_on | (refine ⟨_, fun _ => rfl, ?_⟩; go_big_quiet_on))))
      refine wpQuiet_nil ?_
      intro wr hb k
      clear k
      replace F2 := F2.later hb
      replace F3 := F3.later hb
      replace F1 := F1.later hb
      replace ht := ht.behind hb
      clear hb
      refine wpl_copy_hash rfl _ _ rfl rfl rfl HZ.out F3 ?_
      rw [HT.out]
      intro ws t1 ht2
      clear F3
      have F3 := t1
      replace F2 := F2.touch ht2 (by show ¬ _ = _; omega)
      replace F1 := F1.touch ht2 (by show ¬ _ = _; omega)
      replace ht := ht.trans ht2 (fun x hx => .inr (by have : x = g3 := hx; omega))
      clear ht2 t1
      refine goB_since ?_
      (try simp only [Act.put, List.setIfInBounds_toArray, List.set_cons_succ, List.set_cons_zero])
      refine plan_stop ?_
      simp only [pickOps, opAt, List.getElem?_cons_succ, List.getElem?_cons_zero, List.nil_append, List.cons_append]
      repeat (first | go_big_quiet_skip | (go_big_quiet_want; go_big_quiet_op; first | go_big_quiet_on | (refine ⟨_, fun _ => rfl, ?_⟩; go_big_quiet_on)))
      refine wpQuiet_nil ?_
      intro wt hb k
      clear k
      replace F2 := F2.later hb
      replace F3 := F3.later hb
      replace F1 := F1.later hb
      replace ht := ht.behind hb
      clear hb
      go_wp2_with (first | (with_reducible show wpList _ _ _ (⟨_, Op.load _ _, _, _, _, _⟩ :: _) _ _; refine wpl_load_one rfl 4 _ rfl rfl (ORA.c1 F1) (by kernel_rfl) ?_) | (with_reducible show wpList _ _ _ (⟨_, Op.load _ _, _, _, _, _⟩ :: _) _ _; refine wpl_load_one rfl 9 _ rfl rfl (ORA.c0 F1) (by kernel_rfl) ?_) | (with_reducible show wpList _ _ _ (⟨_, Op.load 27 _, _, _, _, _⟩ :: _) _ _; refine wpl_load_hash rfl _ rfl rfl F3 ?_) | (with_reducible show wpList _ _ _ (⟨_, Op.store 27 _ _, _, _, _, _⟩ :: _) _ _; refine wpl_set_hash rfl _ _ rfl rfl rfl (HL.out) F2 ?_; intro _ t1 ht2; replace F1 := F1.touch ht2 (by show ¬ _ = _; omega); replace ht := ht.trans ht2 (fun x hx => .inr (by have : x = g2 := hx; omega)); clear F2; have F2 := t1; clear t1 ht2) | (with_reducible show wpList _ _ _ (⟨_, Op.store _ _ _, _, _, _, _⟩ :: _) _ _; first | (refine wpl_set_obad rfl _ _ rfl rfl rfl F1 ?_; intro _ t1 h2; clear F1; have F1 := t1; replace F2 := F2.touch h2 (by show ¬ _ = _; omega); replace F3 := F3.touch h2 (by show ¬ _ = _; omega); replace ht := ht.add h2 (fun x h => h); clear t1 h2) | (refine wpl_set_os rfl _ _ rfl rfl rfl F1 ?_; intro _ t1 h2; clear F1; have F1 := t1; replace F2 := F2.touch h2 (by show ¬ _ = _; omega); replace F3 := F3.touch h2 (by show ¬ _ = _; omega); replace ht := ht.add h2 (fun x h => h); clear t1 h2)))
      exact bodyPost_ret (ret_hash rfl _ _ rfl F2) rfl ⟨r.take 32, some (r.drop 32), rfl, HL.out, RdO.good F1 HS.out HD.out, HGT.out, ht⟩
end Go.Proofs.Ytbbfnpfkbbpjgaa
