/- digit.Take, and the reference's, as contracts. -/
import Derived.Test.YtbbfnpfkbbpjgaaGreatQHTakeL
import Derived.Test.YtbbfnpfkbbpjgaaGreatQHStep
import Derived.Test.YtbbfnpfkbbpjgaaGreatQHBuilderS
import Derived.Test.YtbbfnpfkbbpjgaaGreatQHShelf
import Derived.Test.YtbbfnpfkbbpjgaaGreatQHMCells
import Derived.Test.YtbbfnpfkbbpjgaaGreatQHMOf
namespace Go.Proofs.YtbbfnpfkbbpjgaaGreat
open Go.RowKit Go.Lib
set_option linter.unusedVariables false
set_option linter.unusedSimpArgs false
set_option maxRecDepth 100000
set_option maxHeartbeats 4000000
theorem z1z (c : Nat) (hc : c < 256) : bits BinOp.andNot .u8 (c : Int) 128 = ((c % 128 : Nat) : Int) := by
 rw [show (128 : Int) = ((128 : Nat) : Int) by rfl, u8_andNot_nat c 128 hc (by omega)]
 congr 1
 have : ∀ m : Fin 256, m.1 &&& (255 - 128) = m.1 % 128 := by decide +kernel
 exact this ⟨c, hc⟩
theorem z1r (m c k : Nat) (hm : m < 128 ^ k) (hc : c < 256) (hk : k < 10) (h9 : k = 9 → c % 128 < 2) : bits BinOp.or .u64 (m : Int) (IntKind.u64.wrap (((c % 128 : Nat) : Int) * 2 ^ (7 * k))) = ((m + c % 128 * 128 ^ k : Nat) : Int) := by
 have hp : (128 : Nat) ^ k = 2 ^ (7 * k) := by rw [show (128 : Nat) = 2 ^ 7 by rfl, ← Nat.pow_mul]
 rw [hp]
 rw [hp] at hm
 have hP : c % 128 * 2 ^ (7 * k) + 2 ^ (7 * k) ≤ 18446744073709551616 := by
  have h63 : (2 : Nat) ^ (7 * k) ≤ 2 ^ 63 := Nat.pow_le_pow_right (by omega) (by omega)
  by_cases h : k = 9
  ·have := h9 h
   have : (c % 128 + 1) * 2 ^ (7 * k) ≤ 2 * 2 ^ 63 := Nat.mul_le_mul (by omega) h63
   rw [Nat.add_mul] at this
   omega
  ·have h56 : (2 : Nat) ^ (7 * k) ≤ 2 ^ 56 := Nat.pow_le_pow_right (by omega) (by omega)
   have : (c % 128 + 1) * 2 ^ (7 * k) ≤ 128 * 2 ^ 56 := Nat.mul_le_mul (by omega) h56
   rw [Nat.add_mul] at this
   omega
 have hw : IntKind.u64.wrap (((c % 128 : Nat) : Int) * 2 ^ (7 * k)) = ((c % 128 * 2 ^ (7 * k) : Nat) : Int) := by
  rw [IntKind.wrap_u64]
  have : (((c % 128 : Nat) : Int) * 2 ^ (7 * k)) = ((c % 128 * 2 ^ (7 * k) : Nat) : Int) := by push_cast; rfl
  rw [this]
  have h2 : 0 < (2 : Nat) ^ (7 * k) := Nat.pow_pos (by omega)
  omega
 rw [hw]
 generalize hA : c % 128 * 2 ^ (7 * k) = A at *
 have h1 : (BitVec.ofInt 64 (m : Int)).toNat = m := by
  rw [BitVec.ofInt_natCast, BitVec.toNat_ofNat]; exact Nat.mod_eq_of_lt (by omega)
 have h2 : (BitVec.ofInt 64 (A : Int)).toNat = A := by
  have h2 : 0 < (2 : Nat) ^ (7 * k) := Nat.pow_pos (by omega)
  rw [BitVec.ofInt_natCast, BitVec.toNat_ofNat]; exact Nat.mod_eq_of_lt (by omega)
 show IntKind.u64.wrap ((BitVec.ofInt 64 (m : Int) ||| BitVec.ofInt 64 (A : Int)).toNat : Int) = _
 have h3 := Nat.two_pow_add_eq_or_of_lt (i := 7 * k) (b := m) hm (c % 128)
 rw [BitVec.toNat_or, h1, h2, Nat.or_comm, ← hA, Nat.mul_comm, ← h3, Nat.mul_comm, hA, IntKind.wrap_u64]
 omega
def takeV (l : List UInt8) : Nat × Nat := (takeO l).getD (0, 0)
theorem q9i (s : ByteArray) (w : World) (hs : s.size ≤ 1099511627776) :
    Calls Tryz.prog 67 #[.string s] w fun e w' => (∃ c : Int, e = .returned (.tuple #[.int .u64 (takeV s.data.toList).1, .int .i64 (takeV s.data.toList).2, .int .i64 c]) ∧ (c = 0 ↔ (takeO s.data.toList).isSome = true)) ∧ Below w.heap.size w w' := by
  obtain ⟨T, hT⟩ : ∃ T, T = takeO s.data.toList := ⟨_, rfl⟩
  unfold takeV
  rw [← hT]
  have b := Below.refl w.heap.size w
  have hz : s.data.toList.length = s.size := by simp
  generalize hl : s.data.toList = l at *
  have HB : Hid (∀ k (h : k < s.size), ((s[k]'h).toNat : Int) = ((l.getD k 0).toNat : Int)) := fun k h => by rw [← hl]; exact j0y s k h
  have HZ := hide hz
  have HT := hide hT
  unfold takeO at HT
  clear hl hz hT
  go_enter Tryz.func67, Tryz.ntmps67
  go_wp2_with fail
  go_loopw [5, 8] (fun n i wr => ∃ k m : Nat, n = .int .u64 m ∧ i = .int .i64 k ∧ k ≤ 10 ∧ k ≤ s.size ∧ m < 128 ^ k ∧ Hid (T = takeF l (10 - k) k m) ∧ Below w.heap.size w wr) (fun _ i _ => 10 - (RowKit.intOf i).toNat)
  case atStart => exact ⟨0, 0, rfl, rfl, by omega, Nat.zero_le _, by simp, HT, b⟩
  case round =>
    clear HT b
    obtain ⟨k, m, rfl, rfl, hk, hkz, hm, HT, b⟩ := hrel
    by_cases hlt : k < 10
    · obtain ⟨r, hr⟩ : ∃ r, 10 - k = r + 1 := ⟨9 - k, by omega⟩
      have hT := HT.out
      rw [hr, takeF] at hT
      by_cases hks : k < s.size
      · have e1 := HB.out k hks
        have hz := HZ.out
        rw [if_neg (by omega)] at hT
        generalize (l.getD k 0) = c at *
        have hc := c.toNat_lt
        have e2 : ((k : Int) == (s.size : Int)) = false := by rw [beq_eq_false_iff_ne]; omega
        clear hz HT
        by_cases h9 : r = 0 ∧ 1 < c.toNat
        · rw [if_pos h9] at hT
          have e3 : ((k : Int) == 9) = true := by rw [beq_iff_eq]; omega
          have e4 : decide ((1 : Int) < (c.toNat : Int)) = true := decide_eq_true (by omega)
          subst hT
          go_wp2_with fail
          go_ret3
          exact ⟨⟨6, rfl, by simp⟩, b⟩
        · rw [if_neg h9] at hT
          have hbit := z1r m c.toNat k hm hc (by omega) (fun h => by omega)
          have hA := z1z c.toNat hc
          have hW : IntKind.u64.wrap ((c.toNat % 128 : Nat) : Int) = ((c.toNat % 128 : Nat) : Int) := by rw [IntKind.wrap_u64]; omega
          have hm2 : m + c.toNat % 128 * 128 ^ k < 128 ^ (k + 1) := by
            have : c.toNat % 128 * 128 ^ k + 128 ^ k ≤ 128 * 128 ^ k := by rw [← Nat.succ_mul]; exact Nat.mul_le_mul_right _ (by omega)
            rw [Nat.pow_succ]; omega
          by_cases h128 : c.toNat < 128
          · rw [if_pos h128] at hT
            have c1 : decide ((c.toNat : Int) < 128) = true := decide_eq_true (by omega)
            by_cases hc0 : c.toNat = 0
            · by_cases h0 : 0 < k
              · rw [if_pos ⟨hc0, h0⟩] at hT
                have e5 : ((c.toNat : Int) == 0) = true := by rw [beq_iff_eq]; omega
                have e6 : decide ((0 : Int) < (k : Int)) = true := decide_eq_true (by omega)
                have e4 : decide ((1 : Int) < (c.toNat : Int)) = false := decide_eq_false (by omega)
                subst hT
                clear hbit hA hW hm2
                by_cases hk9 : k = 9
                · subst hk9
                  clear e6 e2
                  go_wp2_with fail
                  go_ret3
                  exact ⟨⟨6, rfl, by simp⟩, b⟩
                · have e3 : ((k : Int) == 9) = false := by rw [beq_eq_false_iff_ne]; omega
                  go_wp2_with fail
                  go_ret3
                  exact ⟨⟨6, rfl, by simp⟩, b⟩
              · rw [if_neg (fun h => h0 h.2)] at hT
                obtain rfl : k = 0 := by omega
                obtain rfl : m = 0 := by simpa using hm
                have e5 : c = 0 := UInt8.toNat_inj.1 (by simpa using hc0)
                subst e5
                have hT2 : T = some (0, 1) := hT
                subst hT2
                clear hbit hA hW hm2 hT
                go_wp2_with fail
                go_ret3
                exact ⟨⟨0, rfl, by simp⟩, b⟩
            · rw [if_neg (fun h => hc0 h.1)] at hT
              have e5 : ((c.toNat : Int) == 0) = false := by rw [beq_eq_false_iff_ne]; omega
              generalize m + c.toNat % 128 * 128 ^ k = m2 at *
              subst hT
              by_cases hk9 : k = 9
              · subst hk9
                have e4 : decide ((1 : Int) < (c.toNat : Int)) = false := decide_eq_false (by omega)
                have hb2 : bits BinOp.or .u64 (m : Int) (IntKind.u64.wrap (((c.toNat % 128 : Nat) : Int) * 9223372036854775808)) = (m2 : Int) := hbit
                have hb3 : IntKind.u64.wrap (((c.toNat % 128 : Nat) : Int) * 9223372036854775808) = (c.toNat : Int) % 128 * 9223372036854775808 := by rw [IntKind.wrap_u64]; omega
                rw [hb3] at hb2
                have HB2 := hide hb2
                clear hbit hb2 hb3
                go_wp2_with fail
                go_ret3
                exact ⟨⟨0, by simpa using HB2.out, by simp⟩, b⟩
              · have e3 : ((k : Int) == 9) = false := by rw [beq_eq_false_iff_ne]; omega
                go_wp2_with fail
                go_ret3
                exact ⟨⟨0, by simpa using hbit, by simp⟩, b⟩
          · rw [if_neg h128] at hT
            have c1 : decide ((c.toNat : Int) < 128) = false := decide_eq_false (by omega)
            have hr2 : r = 10 - (k + 1) := by omega
            have e3 : ((k : Int) == 9) = false := by rw [beq_eq_false_iff_ne]; omega
            generalize m + c.toNat % 128 * 128 ^ k = m2 at *
            rw [hr2] at hT
            have HT := hide hT
            clear hT
            go_wp2_with fail
            go_roundw
            case rel => exact ⟨k + 1, m2, by simpa using hbit, by simp, by omega, by omega, hm2, HT, b⟩
            case measure => simp [RowKit.intOf]; omega
      · have hks' : s.size = k := by
          omega
        have hz := HZ.out
        have hle : l.length ≤ k := by omega
        rw [if_pos hle] at hT
        have e2 : ((k : Int) == (s.size : Int)) = true := by rw [beq_iff_eq]; omega
        subst hT
        clear hz hks' hks
        go_wp2_with fail
        go_ret3
        exact ⟨⟨10, rfl, by simp⟩, b⟩
    · obtain rfl : k = 10 := by omega
      have hT : T = none := HT.out
      subst hT
      go_wp2_with fail
      go_ret3
      exact ⟨⟨6, rfl, by simp⟩, b⟩
/-- The reader's variable. -/
def RA (w : World) (g : Nat) (s : ByteArray) (b : Bool) : Prop := Arr w g 135 [.string s, .bool b]
theorem RA.later {w w' : World} {g : Nat} {s : ByteArray} {b : Bool} (h : RA w g s b) (hb : Below w.heap.size w w') : RA w' g s b := Arr.later h hb
theorem RA.touch {S : Nat → Prop} {w w' : World} {g : Nat} {s : ByteArray} {b : Bool} (h : RA w g s b) (ht : Touch S w w') (hS : ¬ S g) : RA w' g s b := Arr.touch h ht hS
theorem RA.lt {w : World} {g : Nat} {s : ByteArray} {b : Bool} (h : RA w g s b) : g < w.heap.size := Arr.lt h
theorem RA.c0 {w : World} {g : Nat} {s : ByteArray} {b : Bool} (h : RA w g s b) : w.cell? ⟨g, 0, none⟩ = some (.string s) := Arr.cell h (i := 0) (by simp)
theorem RA.c1 {w : World} {g : Nat} {s : ByteArray} {b : Bool} (h : RA w g s b) : w.cell? ⟨g, 1, none⟩ = some (.bool b) := Arr.cell h (i := 1) (by simp)
theorem strSizeR : (Tryz.prog.info? 9).map (·.size) = some 1 := by kernel_rfl
theorem boolSizeR : (Tryz.prog.info? 4).map (·.size) = some 1 := by kernel_rfl
section
variable {ops : Array Oper} {rest : List Oper} {o : Oper} {a : Act} {w : World} {Q : Exit → Act → World → Prop}
theorem q2y (hgd : o.guard = none) (x y : Operand) (ho : o.op = .store 4 x y) {g : Nat} {s : ByteArray} {b q : Bool} (hx : a.eval x = .pointer (some ⟨g, 1, none⟩)) (hy : a.eval y = .bool q) (h : RA w g s b)
  (hk : ∀ w2, RA w2 g s q → Touch (fun b => b = g) w w2 → wpList Tryz.prog ops Q rest (a.put o.dst undef) w2) : wpList Tryz.prog ops Q (o :: rest) a w :=
 q0i hgd 4 x y ho hx hy h (by simp) boolSizeR rfl rfl (fun w2 ha ht => hk w2 ha ht)
theorem j7o (hgd : o.guard = none) (x y : Operand) (ho : o.op = .store 9 x y) {g : Nat} {s q : ByteArray} {b : Bool} (hx : a.eval x = .pointer (some ⟨g, 0, none⟩)) (hy : a.eval y = .string q) (h : RA w g s b)
  (hk : ∀ w2, RA w2 g q b → Touch (fun b => b = g) w w2 → wpList Tryz.prog ops Q rest (a.put o.dst undef) w2) : wpList Tryz.prog ops Q (o :: rest) a w :=
 q0i hgd 9 x y ho hx hy h (by simp) strSizeR rfl rfl (fun w2 ha ht => hk w2 ha ht)
end
/-- What the reader at block g has ahead of it (none: something was wrong). -/
def RdD (w : World) (g : Nat) (st : Option (List UInt8)) : Prop := ∃ s b, RA w g s b ∧ s.size ≤ 1048576 ∧ (st = none → b = true) ∧ (∀ r, st = some r → b = false ∧ s.data.toList = r)
theorem RdD.later {w w' : World} {g : Nat} {st : Option (List UInt8)} (h : RdD w g st) (hb : Below w.heap.size w w') : RdD w' g st := by
 obtain ⟨s, b, h1, h2⟩ := h
 exact ⟨s, b, h1.later hb, h2⟩
theorem RdD.touch {S : Nat → Prop} {w w' : World} {g : Nat} {st : Option (List UInt8)} (h : RdD w g st) (ht : Touch S w w') (hS : ¬ S g) : RdD w' g st := by
 obtain ⟨s, b, h1, h2⟩ := h
 exact ⟨s, b, h1.touch ht hS, h2⟩
theorem RdD.lt {w : World} {g : Nat} {st : Option (List UInt8)} (h : RdD w g st) : g < w.heap.size := by
 obtain ⟨s, b, h1, h2⟩ := h
 exact h1.lt
theorem RdD.bad {w : World} {g : Nat} {s : ByteArray} (h : RA w g s true) (hs : s.size ≤ 1048576) : RdD w g none := ⟨s, true, h, hs, fun _ => rfl, fun _ h => by cases h⟩
theorem RdD.good {w : World} {g : Nat} {s : ByteArray} {r : List UInt8} (h : RA w g s false) (hs : s.size ≤ 1048576) (hr : s.data.toList = r) : RdD w g (some r) := ⟨s, false, h, hs, fun h => (by cases h), fun q hq => ⟨rfl, by rw [hr]; exact Option.some.inj hq⟩⟩
theorem j8u (s : ByteArray) (n : Nat) : (s.extract 0 n).data.toList = s.data.toList.take n := by simp
theorem q7e (s : ByteArray) (n : Nat) : (s.extract n s.size).data.toList = s.data.toList.drop n := by
 obtain ⟨⟨r⟩⟩ := s
 simp [ByteArray.size, List.take_of_length_le]
theorem z2a (n : Nat) : (Lib.repeatL [(0 : UInt8)] n).length = n := by
 induction n with
 | zero => rfl
 | succ n ih => simp [Lib.repeatL] at ih ⊢; exact ih
theorem rdText (g : Nat) (st : Option (List UInt8)) (n : Nat) (w : World) (h : RdD w g st) (hn : n ≤ 1024) :
  Calls Tryz.prog 103 #[.pointer (some ⟨g, 0, none⟩), .int .i64 n] w fun e w' => ∃ (l : List UInt8) (st' : Option (List UInt8)), e = .returned (.string ⟨l.toArray⟩) ∧ l.length = n ∧ RdD w' g st' ∧ Got (textP n) st l st' ∧ Touch (fun b => b = g) w w' := by
 obtain ⟨s, b, F1, hs, hbad, hgood⟩ := h
 have HREP : Hid (∀ w : World, Calls Tryz.prog 157 #[.string ⟨#[0]⟩, .int .i64 n] w fun e w' => e = .returned (.string ⟨(Lib.repeatL [(0 : UInt8)] n).toArray⟩) ∧ Below w.heap.size w w') := fun w => by
  have h := Tryz.strings_Repeat ⟨#[0]⟩ n w (by omega) (by show 1 * _ ≤ _; omega)
  exact h
 have ht := Touch.refl (fun b => b = g) w
 have HL := hide (z2a n)
 generalize Lib.repeatL [(0 : UInt8)] n = z at *
 have HG := hide hgood
 clear hgood
 cases st with
 | none =>
  obtain rfl := hbad rfl
  clear hbad HG
  go_enter Tryz.func103, Tryz.ntmps103
  go_wp2_with (first | (with_reducible refine w0g ?_; refine q0a rfl 4 _ rfl rfl (RA.c1 F1) (by kernel_rfl) ?_) | (with_reducible refine w4g ?_; first | (refine q2y rfl _ _ rfl rfl rfl F1 ?_; intro _ t1 h2; clear F1; have F1 := t1; replace ht := ht.add h2 (fun x h => h); clear t1 h2)) | (go_at_call 157; refine (HREP.out _).mono ?_; rintro _ _ ⟨rfl, hc⟩; replace F1 := F1.later hc; replace ht := ht.behind hc; clear hc))
  go_ret
  exact ⟨z, none, rfl, HL.out, RdD.bad F1 hs, x6w _ _, ht⟩
 | some r =>
  obtain ⟨rfl, hr⟩ := HG.out r rfl
  have hz : s.size = r.length := by rw [← hr, Array.length_toList]; rfl
  clear hbad HG
  by_cases hlt : s.size < n
  ·have c1 := decide_eq_true (show (s.size : Int) < (n : Int) by omega)
   have HGT : Hid (Got (textP n) (some r) z none) := ⟨fun q hq => .inr ⟨by obtain rfl := Option.some.inj hq; unfold textP; rw [if_pos (by omega)], rfl⟩, fun h => by cases h⟩
   clear hr hz
   go_enter Tryz.func103, Tryz.ntmps103
   go_wp2_with (first | (with_reducible refine w0g ?_; refine q0a rfl 4 _ rfl rfl (RA.c1 F1) (by kernel_rfl) ?_) | (with_reducible refine w0g ?_; refine q0a rfl 9 _ rfl rfl (RA.c0 F1) (by kernel_rfl) ?_) | (with_reducible refine w4g ?_; first | (refine q2y rfl _ _ rfl rfl rfl F1 ?_; intro _ t1 h2; clear F1; have F1 := t1; replace ht := ht.add h2 (fun x h => h); clear t1 h2)) | (go_at_call 157; refine (HREP.out _).mono ?_; rintro _ _ ⟨rfl, hc⟩; replace F1 := F1.later hc; replace ht := ht.behind hc; clear hc))
   go_ret
   exact ⟨z, none, rfl, HL.out, RdD.bad F1 hs, HGT.out, ht⟩
  ·have c1 := decide_eq_false (show ¬ (s.size : Int) < (n : Int) by omega)
   have hns : n ≤ s.size := by omega
   have HGT : Hid (Got (textP n) (some r) (r.take n) (some (r.drop n))) := ⟨fun q hq => .inl ⟨r.drop n, by obtain rfl := Option.some.inj hq; unfold textP; rw [if_neg (by omega)], rfl⟩, fun h => by cases h⟩
   have HLN : Hid ((r.take n).length = n) := by rw [List.length_take]; exact hide (by omega)
   have HE : Hid (s.extract 0 n = ⟨(r.take n).toArray⟩) := by
    apply ByteArray.ext
    apply Array.toList_inj.1
    rw [j8u, hr]
   have HD : Hid ((s.extract n s.size).data.toList = r.drop n) := by rw [q7e, hr]; exact hide rfl
   have HS : Hid ((s.extract n s.size).size ≤ 1048576) := by
    have : (s.extract n s.size).size = (s.extract n s.size).data.toList.length := by rw [Array.length_toList]; rfl
    rw [this, HD.out, List.length_drop]
    exact hide (by omega)
   clear hr hz hlt
   go_enter Tryz.func103, Tryz.ntmps103
   go_wp2_with (first | (with_reducible refine w0g ?_; refine q0a rfl 4 _ rfl rfl (RA.c1 F1) (by kernel_rfl) ?_) | (with_reducible refine w0g ?_; refine q0a rfl 9 _ rfl rfl (RA.c0 F1) (by kernel_rfl) ?_) | (with_reducible refine w4g ?_; first | (refine q2y rfl _ _ rfl rfl rfl F1 ?_; intro _ t1 h2; clear F1; have F1 := t1; replace ht := ht.add h2 (fun x h => h); clear t1 h2) | (refine j7o rfl _ _ rfl rfl rfl F1 ?_; intro _ t1 h2; clear F1; have F1 := t1; replace ht := ht.add h2 (fun x h => h); clear t1 h2)))
   go_ret
   exact ⟨r.take n, some (r.drop n), by rw [← HE.out]; rfl, HLN.out, RdD.good (by have q := F1; rwa [decide_eq_false (show ¬ s.size < n by omega)] at q) HS.out HD.out, HGT.out, ht⟩
theorem rdNumber (g : Nat) (st : Option (List UInt8)) (w : World) (h : RdD w g st) :
  Calls Tryz.prog 98 #[.pointer (some ⟨g, 0, none⟩)] w fun e w' => ∃ (n : Nat) (st' : Option (List UInt8)), e = .returned (.int .u64 n) ∧ U64 n ∧ RdD w' g st' ∧ Got numP st n st' ∧ Touch (fun b => b = g) w w' := by
 obtain ⟨s, b, F1, hs, hbad, hgood⟩ := h
 have HT := hide (fun w => q9i s w (by omega))
 have ht := Touch.refl (fun b => b = g) w
 have HG := hide hgood
 clear hgood
 cases st with
 | none =>
  obtain rfl := hbad rfl
  clear hbad HG
  generalize takeV s.data.toList = tv at *
  generalize takeO s.data.toList = tq at *
  go_enter Tryz.func98, Tryz.ntmps98
  go_wp2_with (first | (with_reducible refine w0g ?_; refine q0a rfl 4 _ rfl rfl (RA.c1 F1) (by kernel_rfl) ?_) | (with_reducible refine w0g ?_; refine q0a rfl 9 _ rfl rfl (RA.c0 F1) (by kernel_rfl) ?_) | (with_reducible refine w4g ?_; first | (refine q2y rfl _ _ rfl rfl rfl F1 ?_; intro _ t1 h2; clear F1; have F1 := t1; replace ht := ht.add h2 (fun x h => h); clear t1 h2)) | (go_at_call 67; refine (HT.out _).mono ?_; rintro _ _ ⟨⟨c, rfl, hc0⟩, hc⟩; replace F1 := F1.later hc; replace ht := ht.behind hc; clear hc hc0))
  go_ret
  exact ⟨0, none, rfl, by decide, RdD.bad F1 hs, x6w _ _, ht⟩
 | some r =>
  obtain ⟨rfl, hr⟩ := HG.out r rfl
  rw [hr] at HT
  clear hbad HG
  cases hq : takeO r with
  | none =>
   have HGT : Hid (Got numP (some r) 0 none) := ⟨fun q hq2 => .inr ⟨by obtain rfl := Option.some.inj hq2; unfold numP; rw [hq], rfl⟩, fun h => by cases h⟩
   rw [hq] at HT
   clear hq hr
   generalize takeV r = tv at *
   go_enter Tryz.func98, Tryz.ntmps98
   go_wp2_with (first | (with_reducible refine w0g ?_; refine q0a rfl 4 _ rfl rfl (RA.c1 F1) (by kernel_rfl) ?_) | (with_reducible refine w0g ?_; refine q0a rfl 9 _ rfl rfl (RA.c0 F1) (by kernel_rfl) ?_) | (with_reducible refine w4g ?_; first | (refine q2y rfl _ _ rfl rfl rfl F1 ?_; intro _ t1 h2; clear F1; have F1 := t1; replace ht := ht.add h2 (fun x h => h); clear t1 h2)) | (go_at_call 67; refine (HT.out _).mono ?_; rintro _ _ ⟨⟨c, rfl, hc0⟩, hc⟩; replace F1 := F1.later hc; replace ht := ht.behind hc; have c1 : (c != 0) = true := (by rw [bne_iff_ne]; intro h; have := hc0.1 h; cases this); clear hc hc0))
   go_ret
   exact ⟨0, none, rfl, by decide, RdD.bad F1 hs, HGT.out, ht⟩
  | some x =>
   obtain ⟨n, k⟩ := x
   obtain ⟨i1, i2, i3, i4⟩ := q6n hq
   have hv : takeV r = (n, k) := by unfold takeV; rw [hq]; rfl
   have hz : s.size = r.length := by rw [← hr, Array.length_toList]; rfl
   have HGT : Hid (Got numP (some r) n (some (r.drop k))) := ⟨fun q hq2 => .inl ⟨r.drop k, by obtain rfl := Option.some.inj hq2; unfold numP; rw [hq], rfl⟩, fun h => by cases h⟩
   have HD : Hid ((s.extract k s.size).data.toList = r.drop k) := by rw [q7e, hr]; exact hide rfl
   have HS : Hid ((s.extract k s.size).size ≤ 1048576) := by
    have : (s.extract k s.size).size = (s.extract k s.size).data.toList.length := by rw [Array.length_toList]; rfl
    rw [this, HD.out, List.length_drop]
    exact hide (by omega)
   have hks : k ≤ s.size := by omega
   have HN : Hid (U64 n) := i1
   rw [hq, hv] at HT
   clear hq hr hv hz i1 i2 i3 i4
   go_enter Tryz.func98, Tryz.ntmps98
   go_wp2_with (first | (with_reducible refine w0g ?_; refine q0a rfl 4 _ rfl rfl (RA.c1 F1) (by kernel_rfl) ?_) | (with_reducible refine w0g ?_; refine q0a rfl 9 _ rfl rfl (RA.c0 F1) (by kernel_rfl) ?_) | (with_reducible refine w4g ?_; first | (refine q2y rfl _ _ rfl rfl rfl F1 ?_; intro _ t1 h2; clear F1; have F1 := t1; replace ht := ht.add h2 (fun x h => h); clear t1 h2) | (refine j7o rfl _ _ rfl rfl rfl F1 ?_; intro _ t1 h2; clear F1; have F1 := t1; replace ht := ht.add h2 (fun x h => h); clear t1 h2)) | (go_at_call 67; refine (HT.out _).mono ?_; rintro _ _ ⟨⟨c, rfl, hc0⟩, hc⟩; replace F1 := F1.later hc; replace ht := ht.behind hc; obtain rfl : c = 0 := hc0.2 rfl; clear hc hc0))
   go_ret
   exact ⟨n, some (r.drop k), rfl, HN.out, RdD.good F1 HS.out HD.out, HGT.out, ht⟩
theorem x4d (l : List UInt8) (h : l.length = 32) : (⟨l.toArray⟩ : ByteArray).data.toList.take 32 = l := by
 show l.take 32 = l
 exact List.take_of_length_le (by omega)
theorem rdHash (g : Nat) (st : Option (List UInt8)) (w : World) (h : RdD w g st) :
  Calls Tryz.prog 97 #[.pointer (some ⟨g, 0, none⟩)] w fun e w' => ∃ (l : List UInt8) (st' : Option (List UInt8)), e = .returned (hv l) ∧ l.length = 32 ∧ RdD w' g st' ∧ Got (textP 32) st l st' ∧ Touch (fun b => b = g) w w' := by
 have HT := hide (fun (w : World) (h : RdD w g st) => rdText g st 32 w h (by decide))
 have F5 := h
 have hgw := h.lt
 have ht := Touch.refl (fun b => b = g) w
 clear h
 go_enter Tryz.func97, Tryz.ntmps97
 go_wp2_with (first | (with_reducible refine w3g ?_; refine q0r rfl rfl ?_; first | (have F2x := F2; intro _ g3 h3 F3 hb; have l2 := F2.lt; have l5 := F5.lt; replace F2 := F2.later hb; replace F5 := F5.later hb; replace ht := ht.behind hb; clear hb F2x) | (intro _ g2 h2 F2 hb; have l5 := F5.lt; replace F5 := F5.later hb; replace ht := ht.behind hb; clear hb)) | (with_reducible show Code.wp _ (Code.region _ _ true) _ _ _; (try simp only [pS]); fail))
 (try simp only [pS])
 have w2s := ht.size
 have g23 : g2 < g3 := by omega
 have gg2 : g < g2 := by omega
 have wg3 : w.heap.size ≤ g3 := by omega
 have wg2 : w.heap.size ≤ g2 := h2
 refine q1m (fun x => Touch (fun b => b = g) _ x) (.one [0, 1] 2 (.bar [] 3 (.stop []))) (by kernel_rfl) (by kernel_rfl) (by kernel_rfl) (by decide) (fun _ _ h hb => h.behind hb) (Touch.refl _ _) ?_
 intro wpl0 hb0 _ k0
 replace F2 := F2.later hb0
 replace F3 := F3.later hb0
 replace F5 := F5.later hb0
 replace ht := ht.behind hb0
 refine q0w ?_
 simp only [pickOps, opAt, List.getElem?_cons_succ, List.getElem?_cons_zero, List.nil_append, List.cons_append]
 repeat ((go_big_quiet_want; go_big_quiet_op; first | go_big_quiet_on | (refine ⟨_, fun _ => rfl, ?_⟩; go_big_quiet_on)))
 refine wpQuiet_nil ?_
 intro wq hb k
 replace F2 := F2.later hb
 replace F3 := F3.later hb
 replace F5 := F5.later hb
 replace ht := ht.behind hb
 have l3 := F3.lt
 have l2' := F2.lt
 clear hb
 go_wp2_with (go_at_call 103; refine (HT.out _ F5).mono ?_; rintro _ w1 ⟨l, st', rfl, hl, h1, hg, ht1⟩; clear F5; have F5 := h1; clear h1; replace k := k.add ht1 (fun x h => h); replace ht := ht.add ht1 (fun x h => h); replace F3 := F3.touch ht1 (by show ¬ _ = _; omega); replace F2 := F2.touch ht1 (by show ¬ _ = _; omega); clear ht1)
 refine q6y (fun _ _ h hb => h.behind hb) k ?_
 clear k
 have HZ : Hid (32 ≤ (⟨l.toArray⟩ : ByteArray).size) := by unfold Hid; show 32 ≤ l.toArray.size; rw [List.size_toArray]; omega
 have HD := hide (x4d l hl)
 have HL := hide hl
 have HGT := hide hg
 clear hl hg
 generalize (⟨l.toArray⟩ : ByteArray) = s at *
 refine q2u ?_
 simp only [pickOps, opAt, List.getElem?_cons_succ, List.getElem?_cons_zero, List.nil_append, List.cons_append]
 repeat (fail)
 refine wpQuiet_nil ?_
 intro wr hb k
 clear k
 replace F2 := F2.later hb
 replace F3 := F3.later hb
 replace F5 := F5.later hb
 replace ht := ht.behind hb
 clear hb
 refine q9q rfl _ _ rfl rfl rfl HZ.out F3 ?_
 rw [HD.out]
 intro ws t1 ht2
 clear F3
 have F3 := t1
 replace F2 := F2.touch ht2 (by show ¬ _ = _; omega)
 replace F5 := F5.touch ht2 (by show ¬ _ = _; omega)
 replace ht := ht.trans ht2 (fun x hx => .inr (by have : x = g3 := hx; omega))
 clear ht2 t1
 refine q1v ?_
 (try simp only [pS])
 refine q2l ?_
 simp only [pickOps, opAt, List.getElem?_cons_succ, List.getElem?_cons_zero, List.nil_append, List.cons_append]
 repeat (fail)
 refine wpQuiet_nil ?_
 intro wt hb k
 clear k
 replace F2 := F2.later hb
 replace F3 := F3.later hb
 replace F5 := F5.later hb
 replace ht := ht.behind hb
 clear hb
 go_wp2_with (first | (with_reducible refine w0g ?_; refine q1a rfl _ rfl rfl (by assumption) ?_) | (with_reducible refine w4g ?_; refine q0k rfl _ _ rfl rfl rfl HL.out F2 ?_; intro _ t1 ht2; replace F5 := F5.touch ht2 (by show ¬ _ = _; omega); replace ht := ht.trans ht2 (fun x hx => .inr (by have : x = g2 := hx; omega)); clear F2; have F2 := t1; clear t1 ht2))
 exact bodyPost_ret (q2v rfl _ _ rfl F2) rfl ⟨l, _, rfl, HL.out, F5, HGT.out, ht⟩
theorem q1c {n : Nat} {l : List UInt8} (h : l.length = n + 1) : ∃ x t, l = x :: t ∧ t.length = n := by
 cases l with
 | nil => cases h
 | cons x t => exact ⟨x, t, rfl, by simpa using h⟩
theorem q5f {l : List UInt8} (h : l.length = 32) : ∃ x0 x1 x2 x3 x4 x5 x6 x7 x8 x9 x10 x11 x12 x13 x14 x15 x16 x17 x18 x19 x20 x21 x22 x23 x24 x25 x26 x27 x28 x29 x30 x31 : UInt8, l = [x0, x1, x2, x3, x4, x5, x6, x7, x8, x9, x10, x11, x12, x13, x14, x15, x16, x17, x18, x19, x20, x21, x22, x23, x24, x25, x26, x27, x28, x29, x30, x31] := by
 obtain ⟨x0, t0, rfl, h0⟩ := q1c h
 obtain ⟨x1, t1, rfl, h1⟩ := q1c h0
 obtain ⟨x2, t2, rfl, h2⟩ := q1c h1
 obtain ⟨x3, t3, rfl, h3⟩ := q1c h2
 obtain ⟨x4, t4, rfl, h4⟩ := q1c h3
 obtain ⟨x5, t5, rfl, h5⟩ := q1c h4
 obtain ⟨x6, t6, rfl, h6⟩ := q1c h5
 obtain ⟨x7, t7, rfl, h7⟩ := q1c h6
 obtain ⟨x8, t8, rfl, h8⟩ := q1c h7
 obtain ⟨x9, t9, rfl, h9⟩ := q1c h8
 obtain ⟨x10, t10, rfl, h10⟩ := q1c h9
 obtain ⟨x11, t11, rfl, h11⟩ := q1c h10
 obtain ⟨x12, t12, rfl, h12⟩ := q1c h11
 obtain ⟨x13, t13, rfl, h13⟩ := q1c h12
 obtain ⟨x14, t14, rfl, h14⟩ := q1c h13
 obtain ⟨x15, t15, rfl, h15⟩ := q1c h14
 obtain ⟨x16, t16, rfl, h16⟩ := q1c h15
 obtain ⟨x17, t17, rfl, h17⟩ := q1c h16
 obtain ⟨x18, t18, rfl, h18⟩ := q1c h17
 obtain ⟨x19, t19, rfl, h19⟩ := q1c h18
 obtain ⟨x20, t20, rfl, h20⟩ := q1c h19
 obtain ⟨x21, t21, rfl, h21⟩ := q1c h20
 obtain ⟨x22, t22, rfl, h22⟩ := q1c h21
 obtain ⟨x23, t23, rfl, h23⟩ := q1c h22
 obtain ⟨x24, t24, rfl, h24⟩ := q1c h23
 obtain ⟨x25, t25, rfl, h25⟩ := q1c h24
 obtain ⟨x26, t26, rfl, h26⟩ := q1c h25
 obtain ⟨x27, t27, rfl, h27⟩ := q1c h26
 obtain ⟨x28, t28, rfl, h28⟩ := q1c h27
 obtain ⟨x29, t29, rfl, h29⟩ := q1c h28
 obtain ⟨x30, t30, rfl, h30⟩ := q1c h29
 obtain ⟨x31, t31, rfl, h31⟩ := q1c h30
 obtain rfl := List.eq_nil_of_length_eq_zero h31
 exact ⟨x0, x1, x2, x3, x4, x5, x6, x7, x8, x9, x10, x11, x12, x13, x14, x15, x16, x17, x18, x19, x20, x21, x22, x23, x24, x25, x26, x27, x28, x29, x30, x31, rfl⟩
end Go.Proofs.YtbbfnpfkbbpjgaaGreat
