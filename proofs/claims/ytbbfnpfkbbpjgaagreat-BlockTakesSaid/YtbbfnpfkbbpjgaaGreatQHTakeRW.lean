/- The reference's Take (mintageref01) as a contract. -/
import Derived.Test.YtbbfnpfkbbpjgaaGreatQHDeed9
import Derived.Test.YtbbfnpfkbbpjgaaGreatQHTakeW
import Derived.Test.YtbbfnpfkbbpjgaaGreatQHMRef
import Derived.Test.YtbbfnpfkbbpjgaaGreatQHStep
import Derived.Test.YtbbfnpfkbbpjgaaGreatQHBlk3
namespace Go.Proofs.YtbbfnpfkbbpjgaaGreat
open Go.RowKit Go.Lib
set_option linter.unusedVariables false
set_option linter.unusedSimpArgs false
set_option maxRecDepth 100000
set_option maxHeartbeats 4000000
theorem z2f {P : Program} {ops : Array Oper} {rest : List Oper} {o : Oper} {a : Act} {w : World} {Q : Exit → Act → World → Prop} (hw : Region.wanted o (yielded ops a.tmps) = true) {t u : TypeId} (x y : Operand) (ho : o.op = .binOp .eql t x y u) {m n : ByteArray} (hx : a.eval x = .string m) (hy : a.eval y = .string n) {B : Bool} (hB : (m.toList == n.toList) = B) (hk : wpList P ops Q rest (a.put o.dst (.bool B)) w) : wpList P ops Q (o :: rest) a w :=
 q3l hw _ (by
  unfold execOp
  simp only [ho, hx, hy, Sem.run_bind]
  subst hB
  simp [eqGuard, binOp, Op.stringOp]) hk
theorem x3v (s : ByteArray) (n : Nat) : (s.extract 0 n).data.toList = s.data.toList.take n := by simp
theorem x2o (s t : ByteArray) (w : World) (hs : s.size ≤ 1099511627776) (ht : t.size ≤ 1099511627776) :
  Calls Tryz.prog 146 #[.string s, .string t] w fun e w' => (∃ B : Bool, e = .returned (.bool B) ∧ (∀ r, s.data.toList = t.data.toList ++ r → B = true)) ∧ Below w.heap.size w w' := by
 have b := Below.refl w.heap.size w
 have hz1 : s.size = s.data.toList.length := by rw [Array.length_toList]; rfl
 have hz2 : t.size = t.data.toList.length := by rw [Array.length_toList]; rfl
 by_cases hlt : t.size ≤ s.size
 ·have c1 : decide ((t.size : Int) ≤ (s.size : Int)) = true := decide_eq_true (by omega)
  obtain ⟨B, hB⟩ : ∃ B, B = ((s.extract 0 t.size).toList == t.toList) := ⟨_, rfl⟩
  have HK : Hid (∀ r, s.data.toList = t.data.toList ++ r → B = true) := fun r hr => by
   rw [hB, beq_iff_eq, ByteArray.toList_eq, ByteArray.toList_eq, x3v, hr, hz2, List.take_left]
  have HB := hide hB.symm
  clear hB hz1 hz2
  go_enter Tryz.func146, Tryz.ntmps146
  go_wp2_with (with_reducible show wpList _ _ _ (⟨_, Op.binOp BinOp.eql _ _ _ _, _, _, _, _⟩ :: _) _ _; refine z2f rfl _ _ rfl rfl rfl HB.out ?_)
  go_ret
  exact ⟨⟨B, rfl, HK.out⟩, b⟩
 ·have c1 : decide ((t.size : Int) ≤ (s.size : Int)) = false := decide_eq_false (by omega)
  have HK : Hid (∀ r, s.data.toList = t.data.toList ++ r → false = true) := fun r hr => by
   have := congrArg List.length hr
   rw [List.length_append] at this
   omega
  clear hz1 hz2
  go_enter Tryz.func146, Tryz.ntmps146
  go_wp2_with fail
  go_ret
  exact ⟨⟨false, rfl, HK.out⟩, b⟩
theorem x9y {m p k : Nat} (hm : m < 128 ^ k) (hp : p < 128) (hk : k < 10) (h : ¬ (k = 9 ∧ 1 < p)) : p * 128 ^ k < 18446744073709551616 ∧ m + p * 128 ^ k < 18446744073709551616 := by
 by_cases h9 : k = 9
 ·subst h9
  have e : (128 : Nat) ^ 9 = 9223372036854775808 := by decide
  rw [e] at hm ⊢
  have : p = 0 ∨ p = 1 := by omega
  rcases this with rfl | rfl <;> omega
 ·have e : (128 : Nat) ^ k ≤ 128 ^ 8 := Nat.pow_le_pow_right (by decide) (by omega)
  have e8 : (128 : Nat) ^ 8 = 72057594037927936 := by decide
  have e2 : p * 128 ^ k ≤ 127 * 128 ^ 8 := Nat.mul_le_mul (by omega) e
  rw [e8] at e e2
  omega
theorem q8y (s : ByteArray) (w : World) (hs : s.size ≤ 1099511627776) :
  Calls Tryz.prog 70 #[.string s] w fun e w' => (∃ c : Int, e = .returned (.tuple #[.int .u64 (takeV s.data.toList).1, .int .i64 (takeV s.data.toList).2, .int .i64 c]) ∧ (c = 0 ↔ (takeO s.data.toList).isSome = true)) ∧ Below w.heap.size w w' := by
 obtain ⟨T, hT⟩ : ∃ T, T = takeO s.data.toList := ⟨_, rfl⟩
 unfold takeV
 rw [← hT]
 have b := Below.refl w.heap.size w
 have hz : s.data.toList.length = s.size := by simp
 have HBG := hide (fun (n : Nat) (w : World) (h : (putL n).length ≤ 1099511627776) => x2o s ⟨(putL n).toArray⟩ w hs (by show (putL n).toArray.size ≤ _; rw [List.size_toArray]; exact h))
 have hbl : ∀ n r, s.data.toList = putL n ++ r → s.data.toList = (⟨(putL n).toArray⟩ : ByteArray).data.toList ++ r := fun n r h => h
 generalize hl : s.data.toList = l at *
 have HB : Hid (∀ k (h : k < s.size), ((s[k]'h).toNat : Int) = ((l.getD k 0).toNat : Int)) := fun k h => by rw [← hl]; exact j0y s k h
 have HZ := hide hz
 have HT := hide hT
 unfold takeO at HT
 clear hl hz hT hbl
 go_enter Tryz.func70, Tryz.ntmps70
 go_wp2_with fail
 go_loopw [5, 6, 7] (fun n t i wr => ∃ k m : Nat, n = .int .u64 m ∧ t = .int .u64 ((128 ^ k : Nat) : Int) ∧ i = .int .i64 k ∧ k ≤ 9 ∧ k ≤ s.size ∧ PreR l k m ∧ Hid (T = takeF l (10 - k) k m) ∧ Below w.heap.size w wr) (fun _ _ i _ => 10 - (RowKit.intOf i).toNat)
 case atStart => exact ⟨0, 0, rfl, rfl, rfl, by omega, Nat.zero_le _, x6g l, HT, b⟩
 case round =>
  clear HT b
  obtain ⟨k, m, rfl, rfl, rfl, hk, hkz, hpre, HT, b⟩ := hrel
  have hT := HT.out
  rw [show 10 - k = (9 - k) + 1 by omega, takeF] at hT
  clear HT
  by_cases hks : k < s.size
  ·have e1 := HB.out k hks
   have hz := HZ.out
   have hkl : k < l.length := by omega
   rw [if_neg (by omega)] at hT
   have hend := z2m hpre (by omega) hkl
   have hnext := fun h1 h2 => x8n hpre h1 hkl h2
   have hzero := z0u hpre
   obtain ⟨hm, -⟩ := hpre
   generalize l.getD k 0 = c at *
   have hc2 := c.toNat_lt
   obtain ⟨p, hp⟩ : ∃ p, p = c.toNat % 128 := ⟨_, rfl⟩
   have hp1 : p < 128 := by omega
   rw [← hp] at hT hend hnext
   have k10 : k < 10 := by omega
   have HPC := hide hp
   clear hp
   have hkl2 := hide hkl
   clear hz hkl
   have hmw := x7x p k hp1 k10
   have x1 : ((c.toNat : Int) % 128) = (p : Int) := by have := HPC.out; omega
   have x2 : IntKind.u64.wrap (p : Int) = (p : Int) := by rw [IntKind.wrap_u64]; omega
   have tp : 0 < (128 : Nat) ^ k := Nat.pow_pos (by decide)
   have tl : (128 : Nat) ^ k ≤ 9223372036854775808 := by
    have : (128 : Nat) ^ k ≤ 128 ^ 9 := Nat.pow_le_pow_right (by decide) hk
    have e9 : (128 : Nat) ^ 9 = 9223372036854775808 := by decide
    omega
   by_cases hov : k = 9 ∧ 1 < p
   ·rw [if_pos ⟨by omega, by have := HPC.out; omega⟩] at hT
    have hne : ¬ p * 128 ^ k % 18446744073709551616 / 128 ^ k = p := fun h => (hmw.1 h) hov
    generalize (128 : Nat) ^ k = t at *
    have w1 : IntKind.u64.wrap ((p : Int) * (t : Int)) = ((p * t % 18446744073709551616 : Nat) : Int) := by rw [IntKind.wrap_u64, Int.natCast_emod, Int.natCast_mul]; rfl
    have hz64 : p * t % 18446744073709551616 < 18446744073709551616 := Nat.mod_lt _ (by decide)
    generalize p * t % 18446744073709551616 = z at *
    have w2 : (z : Int) / (t : Int) = ((z / t : Nat) : Int) := by rw [Int.natCast_ediv]
    have w4 : Int.tdiv (z : Int) (t : Int) = ((z / t : Nat) : Int) := by rw [Int.tdiv_eq_ediv_of_nonneg (by omega), w2]
    have z1 : z / t ≤ z := Nat.div_le_self _ _
    have z2 : z < 18446744073709551616 := hz64
    generalize z / t = y at *
    have w5 : IntKind.u64.wrap (y : Int) = (y : Int) := by rw [IntKind.wrap_u64]; omega
    have w3 : ((y : Int) != (p : Int)) = true := by rw [bne_iff_ne]; omega
    have t0 : ((t : Int) == 0) = false := by rw [beq_eq_false_iff_ne]; omega
    subst hT
    clear hmw hend hnext hzero z1 hne hov
    go_wp2_with fail
    go_ret3
    exact ⟨⟨6, rfl, by simp⟩, b⟩
   ·obtain ⟨r1, r2⟩ := x9y hm hp1 k10 hov
    have hq : p * 128 ^ k / 128 ^ k = p := Nat.mul_div_cancel _ tp
    have tn : 128 ^ k * 128 = (128 : Nat) ^ (k + 1) := by rw [Nat.pow_succ]
    clear hmw
    have t9 : k < 9 → (128 : Nat) ^ k * 128 < 18446744073709551616 := fun h => by
     have : (128 : Nat) ^ k ≤ 128 ^ 8 := Nat.pow_le_pow_right (by decide) (by omega)
     have e8 : (128 : Nat) ^ 8 = 72057594037927936 := by decide
     omega
    generalize hz0 : p * 128 ^ k = z at *
    generalize (128 : Nat) ^ k = t at *
    have w1 : IntKind.u64.wrap ((p : Int) * (t : Int)) = (z : Int) := by rw [IntKind.wrap_u64, ← hz0]; push_cast; rw [← hz0] at r1; push_cast at r1; omega
    have w2 : (z : Int) / (t : Int) = (p : Int) := by rw [← Int.natCast_ediv, hq]
    have w4 : Int.tdiv (z : Int) (t : Int) = (p : Int) := by rw [Int.tdiv_eq_ediv_of_nonneg (by omega), w2]
    have w6 : IntKind.u64.wrap ((m : Int) + (z : Int)) = ((m + z : Nat) : Int) := by rw [IntKind.wrap_u64]; omega
    have t0 : ((t : Int) == 0) = false := by rw [beq_eq_false_iff_ne]; omega
    by_cases h128 : c.toNat < 128
    ·have c1 : decide ((c.toNat : Int) < 128) = true := decide_eq_true (by omega)
     rw [if_neg (by have := HPC.out; omega), if_pos h128] at hT
     by_cases h0 : c.toNat = 0 ∧ 0 < k
     ·rw [if_pos h0] at hT
      have hp0 : p = 0 := by have := HPC.out; omega
      clear HPC
      subst hp0
      obtain rfl : z = 0 := by rw [← hz0]; simp
      have hlen := hzero h0.2
      have HPT := hide (fun w => q8k m m w rfl (by omega))
      have HBGM := hide (fun w => HBG.out m w (by omega))
      have hsz : (⟨(putL m).toArray⟩ : ByteArray).size ≤ k := by show (putL m).toArray.size ≤ k; rw [List.size_toArray]; exact hlen
      generalize (⟨(putL m).toArray⟩ : ByteArray) = sp at *
      have c2 : ((sp.size : Int) != (k : Int) + 1) = true := by rw [bne_iff_ne]; omega
      subst hT
      clear hend hnext hzero hlen HBG h0 h128 hq hov r1 r2
      go_wp2_with (first | (go_at_call 146; refine (HBGM.out _).mono ?_; rintro _ _ ⟨⟨B, rfl, -⟩, hc⟩; replace b := later b hc; clear hc; cases B) | (go_at_call 82; refine (HPT.out _).mono ?_; rintro _ _ ⟨rfl, hc⟩; (try replace b := later b hc); clear hc))
      all_goals
       go_ret3
       exact ⟨⟨6, rfl, by simp⟩, b⟩
     ·rw [if_neg h0] at hT
      have hput := hend h128 h0
      have hlen : (putL (m + z)).length = k + 1 := by rw [hput, List.length_take]; have := hkl2.out; omega
      have HPT := hide (fun w => q8k ((m + z : Nat) : Int) (m + z) w rfl r2)
      have HBGM : Hid (∀ w, Calls Tryz.prog 146 #[.string s, .string ⟨(putL (m + z)).toArray⟩] w fun e w' => e = .returned (.bool true) ∧ Below w.heap.size w w') := fun w => (HBG.out (m + z) w (by omega)).mono fun e w' ⟨⟨B, h1, h2⟩, h3⟩ => ⟨by rw [h1, h2 (l.drop (k + 1)) (by show l = putL (m + z) ++ _; rw [hput, List.take_append_drop])], h3⟩
      have hsz : (⟨(putL (m + z)).toArray⟩ : ByteArray).size = k + 1 := by show (putL (m + z)).toArray.size = k + 1; rw [List.size_toArray]; exact hlen
      generalize (⟨(putL (m + z)).toArray⟩ : ByteArray) = sp at *
      have c2 : ((sp.size : Int) != (k : Int) + 1) = false := by rw [hsz]; simp
      subst hT
      clear hend hnext hzero hlen HBG h0 h128 hq hov r1 hput
      go_wp2_with (first | (go_at_call 146; refine (HBGM.out _).mono ?_; rintro _ _ ⟨rfl, hc⟩; (try replace b := later b hc); clear hc) | (go_at_call 82; refine (HPT.out _).mono ?_; rintro _ _ ⟨rfl, hc⟩; (try replace b := later b hc); clear hc))
      go_ret3
      exact ⟨⟨0, by simp, by simp⟩, b⟩
    ·have c1 : decide ((c.toNat : Int) < 128) = false := decide_eq_false (by omega)
     by_cases h9 : k = 9
     ·rw [if_pos ⟨by omega, by have := HPC.out; omega⟩] at hT
      have c3 : ((k : Int) == 9) = true := by rw [beq_iff_eq]; omega
      subst hT
      clear hend hnext hzero hq r1 hov h9 t9 tn
      go_wp2_with fail
      go_ret3
      exact ⟨⟨6, rfl, by simp⟩, b⟩
     ·rw [if_neg (by omega), if_neg h128] at hT
      have c3 : ((k : Int) == 9) = false := by rw [beq_eq_false_iff_ne]; omega
      have HP := hide (hnext (by omega) (by omega))
      have HT : Hid (T = takeF l (10 - (k + 1)) (k + 1) (m + z)) := by rw [show 10 - (k + 1) = 9 - k by omega]; exact hT
      have w7 : IntKind.u64.wrap ((t : Int) * 128) = ((t * 128 : Nat) : Int) := by have := t9 (by omega); rw [IntKind.wrap_u64]; omega
      have TN := hide tn
      clear hend hnext hzero hq hT tn t9 r1 hov
      go_wp2_with fail
      go_roundw
      case rel => exact ⟨k + 1, m + z, by simp, by rw [← TN.out]; simp, by simp, by omega, by omega, HP.out, HT, b⟩
      case measure => simp [RowKit.intOf]; omega
  ·rw [if_pos (by have := HZ.out; omega)] at hT
   subst hT
   have c1 : decide ((k : Int) < (s.size : Int)) = false := decide_eq_false (by omega)
   go_wp2_with fail
   go_ret3
   exact ⟨⟨10, rfl, by simp⟩, b⟩
/-- The reader's variable. -/
def RI (w : World) (g : Nat) (s : ByteArray) (b : Bool) : Prop := Arr w g 179 [.string s, .bool b]
section
variable {w w' : World} {g : Nat} {s : ByteArray} {b : Bool}
theorem RI.later (h : RI w g s b) (hb : Below w.heap.size w w') : RI w' g s b := Arr.later h hb
theorem RI.touch {S : Nat → Prop} (h : RI w g s b) (ht : Touch S w w') (hS : ¬ S g) : RI w' g s b := Arr.touch h ht hS
theorem RI.lt (h : RI w g s b) : g < w.heap.size := Arr.lt h
theorem RI.c0 (h : RI w g s b) : w.cell? ⟨g, 0, none⟩ = some (.string s) := Arr.cell h (i := 0) (by simp)
theorem RI.c1 (h : RI w g s b) : w.cell? ⟨g, 1, none⟩ = some (.bool b) := Arr.cell h (i := 1) (by simp)
end
section
variable {ops : Array Oper} {rest : List Oper} {o : Oper} {a : Act} {w : World} {Q : Exit → Act → World → Prop}
theorem q9l (hgd : o.guard = none) (x y : Operand) (ho : o.op = .store 4 x y) {g : Nat} {s : ByteArray} {b q : Bool} (hx : a.eval x = .pointer (some ⟨g, 1, none⟩)) (hy : a.eval y = .bool q) (h : RI w g s b)
  (hk : ∀ w2, RI w2 g s q → Touch (fun b => b = g) w w2 → wpList Tryz.prog ops Q rest (a.put o.dst undef) w2) : wpList Tryz.prog ops Q (o :: rest) a w :=
 q0i hgd 4 x y ho hx hy h (by simp) boolSizeR rfl rfl (fun w2 ha ht => hk w2 ha ht)
theorem j5j (hgd : o.guard = none) (x y : Operand) (ho : o.op = .store 9 x y) {g : Nat} {s q : ByteArray} {b : Bool} (hx : a.eval x = .pointer (some ⟨g, 0, none⟩)) (hy : a.eval y = .string q) (h : RI w g s b)
  (hk : ∀ w2, RI w2 g q b → Touch (fun b => b = g) w w2 → wpList Tryz.prog ops Q rest (a.put o.dst undef) w2) : wpList Tryz.prog ops Q (o :: rest) a w :=
 q0i hgd 9 x y ho hx hy h (by simp) strSizeR rfl rfl (fun w2 ha ht => hk w2 ha ht)
end
/-- What is told by the reader's two parts. -/
structure Cond (st : Option (List UInt8)) (s : ByteArray) (b : Bool) : Prop where
 bad : st = none → b = false
 good : ∀ r, st = some r → b = true ∧ s.data.toList = r
theorem Cond.no (s : ByteArray) : Cond none s false := ⟨fun _ => rfl, fun _ h => by cases h⟩
theorem Cond.drop {st : Option (List UInt8)} {s s2 : ByteArray} {b : Bool} (h : Cond st s b) (k : Nat) (h2 : s2.data.toList = s.data.toList.drop k) : Cond (st.map (List.drop k)) s2 b := by
 refine ⟨fun h0 => h.bad (by cases st with | none => rfl | some r => cases h0), fun r hr => ?_⟩
 cases st with
 | none => cases hr
 | some q =>
  obtain ⟨h3, h4⟩ := h.good q rfl
  exact ⟨h3, by rw [h2, h4]; exact Option.some.inj hr⟩
def RdI (w : World) (g : Nat) (st : Option (List UInt8)) : Prop := ∃ s b, RI w g s b ∧ s.size ≤ 1048576 ∧ Cond st s b
theorem RdI.later {w w' : World} {g : Nat} {st : Option (List UInt8)} (h : RdI w g st) (hb : Below w.heap.size w w') : RdI w' g st := by
 obtain ⟨s, b, h1, h2⟩ := h
 exact ⟨s, b, h1.later hb, h2⟩
theorem RdI.touch {S : Nat → Prop} {w w' : World} {g : Nat} {st : Option (List UInt8)} (h : RdI w g st) (ht : Touch S w w') (hS : ¬ S g) : RdI w' g st := by
 obtain ⟨s, b, h1, h2⟩ := h
 exact ⟨s, b, h1.touch ht hS, h2⟩
theorem RdI.tt {w w' : World} {g g' : Nat} {st : Option (List UInt8)} (h : RdI w g st) (ht : Touch (fun x => x = g') w w') (hS : ¬ g = g' := by omega) : RdI w' g st := h.touch ht hS
theorem RdI.lt {w : World} {g : Nat} {st : Option (List UInt8)} (h : RdI w g st) : g < w.heap.size := by
 obtain ⟨s, b, h1, h2⟩ := h
 exact h1.lt
theorem z0t {st : Option (List UInt8)} {s : ByteArray} {b : Bool} (h : Cond st s b) (n : Nat) (hn : ¬ s.size < n) : Got (textP n) st (s.data.toList.take n) (st.map (List.drop n)) := by
 refine ⟨fun r hr => .inl ⟨r.drop n, ?_, by rw [hr]; rfl⟩, fun h0 => by rw [h0]; rfl⟩
 have h1 := (h.good r hr).2
 have hz : s.size = r.length := by rw [← h1, Array.length_toList]; rfl
 unfold textP
 rw [if_neg (by omega), h1]
theorem j9r {st : Option (List UInt8)} {s : ByteArray} {b : Bool} (h : Cond st s b) (n : Nat) (hn : s.size < n) (l : List UInt8) : Got (textP n) st l none := by
 refine ⟨fun r hr => .inr ⟨?_, rfl⟩, fun h0 => rfl⟩
 have h1 := (h.good r hr).2
 have hz : s.size = r.length := by rw [← h1, Array.length_toList]; rfl
 unfold textP
 rw [if_pos (by omega)]
theorem z1v {st : Option (List UInt8)} {s : ByteArray} {b : Bool} (h : Cond st s b) {n k : Nat} (hq : takeO s.data.toList = some (n, k)) : Got numP st n (st.map (List.drop k)) := by
 refine ⟨fun r hr => .inl ⟨r.drop k, ?_, by rw [hr]; rfl⟩, fun h0 => by rw [h0]; rfl⟩
 have h1 := (h.good r hr).2
 unfold numP
 rw [← h1, hq]
theorem x4l {st : Option (List UInt8)} {s : ByteArray} {b : Bool} (h : Cond st s b) (hq : takeO s.data.toList = none) (n : Nat) : Got numP st n none := by
 refine ⟨fun r hr => .inr ⟨?_, rfl⟩, fun h0 => rfl⟩
 have h1 := (h.good r hr).2
 unfold numP
 rw [← h1, hq]
/-- A number that is no more than most. -/
def countP (most : Nat) : Rdr Nat := bindP numP fun n => if most < n then (fun _ => none) else pureP n
theorem x5z {st st1 : Option (List UInt8)} {n most : Nat} (h : Got numP st n st1) (hn : ¬ most < n) : Got (countP most) st n st1 := h.bind (by rw [if_neg hn]; exact j6j _ _)
theorem j9b {st st1 : Option (List UInt8)} {n most : Nat} (h : Got numP st n st1) (hn : most < n) (m : Nat) : Got (countP most) st m none := h.bind (by rw [if_pos hn]; exact x1j _ _)
theorem x5c (n : Nat) : (madeCells #[.int .u8 0] n).toList = bvs (List.replicate n 0) := by
 unfold madeCells bvs
 rw [List.map_replicate, Array.toList_map, Array.toList_range]
 refine List.eq_replicate_iff.2 ⟨by simp, fun x hx => ?_⟩
 obtain ⟨i, _, rfl⟩ := List.mem_map.1 hx
 simp [Nat.mod_one]
theorem u8Ie : ∃ ie, Tryz.prog.info? 5 = some ie ∧ ie.size = 1 ∧ ie.bytes = 1 ∧ ie.zero = some (.int .u8 0) := by
 obtain ⟨i, hi, h⟩ := Option.map_eq_some_iff.1 (show (Tryz.prog.info? 5).map (fun i => (i.size, i.bytes, i.zero)) = some (1, 1, some (.int .u8 0)) by kernel_rfl)
 simp only [Prod.mk.injEq] at h
 exact ⟨i, hi, h.1, h.2.1, h.2.2⟩
theorem x2b {w : World} {B e sz g n : Nat} {xs : List Value} (h : w.ownsRow B e sz (.slice (some ⟨g, 0, none⟩) n n) n xs) : Arr w g e xs := by
 obtain ⟨h1, h | ⟨g', cap, cur, hv, hg, hh, hc, hm, hs, ht⟩⟩ := h
 ·exact absurd h.1 (by simp)
 ·simp only [Value.slice.injEq, Option.some.injEq, Addr.mk.injEq, and_true, true_and] at hv
  obtain ⟨rfl, rfl⟩ := hv
  unfold Arr
  rw [hh, ← ht, List.take_of_length_le (by simp [hs])]
section
variable {ops : Array Oper} {rest : List Oper} {o : Oper} {a : Act} {w : World} {Q : Exit → Act → World → Prop}
/-- So many noughts. -/
theorem q3u (hg : o.guard = none) (l c : Operand) (hop : o.op = .makeSlice 93 l c) (n : Nat) (hl : a.eval l = .int .i64 n) (hc : a.eval c = .int .i64 n) (hn : n ≤ 1048576)
  (hK : ∀ w2 g, w.heap.size ≤ g → Cells w2 g 0 (bvs (List.replicate n 0)) → Below w.heap.size w w2 → wpList Tryz.prog ops Q rest (a.put o.dst (.slice (some ⟨g, 0, none⟩) n n)) w2) : wpList Tryz.prog ops Q (o :: rest) a w := by
 obtain ⟨ie, hi1, hi2, hi3, hi4⟩ := u8Ie
 refine wpList_make_full w hg l c 93 hop w.heap.size 5 ie (.int .u8 0) 1 Tryz.underlying93 hi1 hi4 hi2 .i64 .i64 _ _ n hl hc rfl rfl (by rw [hi3]; omega) (by unfold maxLen; omega) (Nat.le_refl _) ?_
 intro w1 hown hg1
 refine hK w1 w.heap.size (Nat.le_refl _) ?_ ((Below.refl _ _).grown hg1 (Nat.le_refl _) (fun k h => by cases h))
 have h := Cells.arr (x2b hown)
 rw [← x5c, show n = n * 1 by omega]
 exact h
end
theorem riText (g : Nat) (st : Option (List UInt8)) (n : Nat) (w : World) (h : RdI w g st) (hn : n ≤ 1024) :
  Calls Tryz.prog 145 #[.pointer (some ⟨g, 0, none⟩), .int .i64 n] w fun e w' => ∃ (l : List UInt8) (st' : Option (List UInt8)), e = .returned (.string ⟨l.toArray⟩) ∧ l.length = n ∧ RdI w' g st' ∧ Got (textP n) st l st' ∧ Touch (fun b => b = g) w w' := by
 obtain ⟨s, b, F1, hs, hcd⟩ := h
 have ht := Touch.refl (fun b => b = g) w
 have gw := F1.lt
 by_cases hlt : s.size < n
 ·have c1 := decide_eq_true (show (s.size : Int) < (n : Int) by omega)
  have HGT := hide (j9r hcd n hlt (List.replicate n 0))
  clear hcd
  go_enter Tryz.func145, Tryz.ntmps145
  go_wp2_with (first | (with_reducible refine w0g ?_; refine q0a rfl 9 _ rfl rfl (RI.c0 F1) (by kernel_rfl) ?_) | (with_reducible refine w4g ?_; first | (refine q9l rfl _ _ rfl rfl rfl F1 ?_; intro _ t1 h2; clear F1; have F1 := t1; replace ht := ht.add h2 (fun x h => h); clear t1 h2)) | (with_reducible show wpList _ _ _ (⟨_, Op.makeSlice _ _ _, _, _, _, _⟩ :: _) _ _; refine q3u rfl _ _ rfl n rfl rfl (by omega) ?_; intro _ g2 h2 F2 hb; have hcv := j5o F2 n List.length_replicate; replace F1 := F1.later hb; replace ht := ht.behind hb; clear hb))
  go_ret
  exact ⟨List.replicate n 0, none, rfl, List.length_replicate, ⟨s, false, F1, hs, Cond.no s⟩, HGT.out, ht⟩
 ·have c1 := decide_eq_false (show ¬ (s.size : Int) < (n : Int) by omega)
  have hns : n ≤ s.size := by omega
  have HGT := hide (z0t hcd n hlt)
  have HE : Hid (s.extract 0 n = ⟨(s.data.toList.take n).toArray⟩) := by
   apply ByteArray.ext
   apply Array.toList_inj.1
   rw [j8u]
  have HLN : Hid ((s.data.toList.take n).length = n) := by
   have : s.size = s.data.toList.length := by rw [Array.length_toList]; rfl
   rw [List.length_take]; exact hide (by omega)
  have HC := hide (hcd.drop n (q7e s n))
  have HS : Hid ((s.extract n s.size).size ≤ 1048576) := by
   have h1 : (s.extract n s.size).size = (s.extract n s.size).data.toList.length := by rw [Array.length_toList]; rfl
   have h2 : s.size = s.data.toList.length := by rw [Array.length_toList]; rfl
   rw [h1, q7e, List.length_drop]
   exact hide (by omega)
  clear hcd hlt
  generalize s.data.toList.take n = L at *
  go_enter Tryz.func145, Tryz.ntmps145
  go_wp2_with (first | (with_reducible refine w0g ?_; refine q0a rfl 9 _ rfl rfl (RI.c0 F1) (by kernel_rfl) ?_) | (with_reducible refine w4g ?_; first | (refine j5j rfl _ _ rfl rfl rfl F1 ?_; intro _ t1 h2; clear F1; have F1 := t1; replace ht := ht.add h2 (fun x h => h); clear t1 h2)))
  go_ret
  exact ⟨L, _, by rw [← HE.out]; rfl, HLN.out, ⟨_, b, F1, HS.out, HC.out⟩, HGT.out, ht⟩
theorem riNumber (g : Nat) (st : Option (List UInt8)) (w : World) (h : RdI w g st) :
  Calls Tryz.prog 148 #[.pointer (some ⟨g, 0, none⟩)] w fun e w' => ∃ (n : Nat) (st' : Option (List UInt8)), e = .returned (.int .u64 n) ∧ U64 n ∧ RdI w' g st' ∧ Got numP st n st' ∧ Touch (fun b => b = g) w w' := by
 obtain ⟨s, b, F1, hs, hcd⟩ := h
 have HT := hide (fun w => q8y s w (by omega))
 have ht := Touch.refl (fun b => b = g) w
 have gw := F1.lt
 cases hq : takeO s.data.toList with
 | none =>
  have HGT := hide (x4l hcd hq 0)
  rw [hq] at HT
  clear hq hcd
  generalize takeV s.data.toList = tv at *
  go_enter Tryz.func148, Tryz.ntmps148
  go_wp2_with (first | (with_reducible refine w0g ?_; refine q0a rfl 9 _ rfl rfl (RI.c0 F1) (by kernel_rfl) ?_) | (with_reducible refine w4g ?_; first | (refine q9l rfl _ _ rfl rfl rfl F1 ?_; intro _ t1 h2; clear F1; have F1 := t1; replace ht := ht.add h2 (fun x h => h); clear t1 h2)) | (go_at_call 70; refine (HT.out _).mono ?_; rintro _ _ ⟨⟨c, rfl, hc0⟩, hc⟩; replace F1 := F1.later hc; replace ht := ht.behind hc; have c1 : (c != 0) = true := (by rw [bne_iff_ne]; intro h; have := hc0.1 h; cases this); clear hc hc0))
  go_ret
  exact ⟨0, none, rfl, by decide, ⟨s, false, F1, hs, Cond.no s⟩, HGT.out, ht⟩
 | some x =>
  obtain ⟨n, k⟩ := x
  obtain ⟨i1, i2, i3, i4⟩ := q6n hq
  have hv : takeV s.data.toList = (n, k) := by unfold takeV; rw [hq]; rfl
  have hz : s.size = s.data.toList.length := by rw [Array.length_toList]; rfl
  have HGT := hide (z1v hcd hq)
  have HC := hide (hcd.drop k (q7e s k))
  have HS : Hid ((s.extract k s.size).size ≤ 1048576) := by
   have : (s.extract k s.size).size = (s.extract k s.size).data.toList.length := by rw [Array.length_toList]; rfl
   rw [this, q7e, List.length_drop]
   exact hide (by omega)
  have hks : k ≤ s.size := by omega
  have HN : Hid (U64 n) := i1
  rw [hq, hv] at HT
  clear hq hcd hv hz i1 i2 i3 i4
  go_enter Tryz.func148, Tryz.ntmps148
  go_wp2_with (first | (with_reducible refine w0g ?_; refine q0a rfl 9 _ rfl rfl (RI.c0 F1) (by kernel_rfl) ?_) | (with_reducible refine w4g ?_; first | (refine j5j rfl _ _ rfl rfl rfl F1 ?_; intro _ t1 h2; clear F1; have F1 := t1; replace ht := ht.add h2 (fun x h => h); clear t1 h2)) | (go_at_call 70; refine (HT.out _).mono ?_; rintro _ _ ⟨⟨c, rfl, hc0⟩, hc⟩; replace F1 := F1.later hc; replace ht := ht.behind hc; obtain rfl : c = 0 := hc0.2 rfl; clear hc hc0))
  go_ret
  exact ⟨n, _, rfl, HN.out, ⟨_, b, F1, HS.out, HC.out⟩, HGT.out, ht⟩
theorem riCount (g most : Nat) (st : Option (List UInt8)) (w : World) (h : RdI w g st) :
  Calls Tryz.prog 147 #[.pointer (some ⟨g, 0, none⟩), .int .u64 most] w fun e w' => ∃ (n : Nat) (st' : Option (List UInt8)), e = .returned (.int .u64 n) ∧ n ≤ most ∧ RdI w' g st' ∧ Got (countP most) st n st' ∧ Touch (fun b => b = g) w w' := by
 have HN := hide (fun w (h : RdI w g st) => riNumber g st w h)
 have ht := Touch.refl (fun b => b = g) w
 have F5 := h
 clear h
 go_enter Tryz.func147, Tryz.ntmps147
 go_wp2_with (first | (go_at_call 148; refine (HN.out _ F5).mono ?_; rintro _ w1 ⟨n, st1, rfl, hn, h1, hg, ht1⟩; clear F5; have F5 := h1; clear h1; replace ht := ht.add ht1 (fun x h => h); clear ht1) | (with_reducible refine w17g ?_; generalize hstop : wpList _ _ _ _ _ _ = Gstop))
 by_cases hq : most < n
 ·have c1 := decide_eq_true (show (most : Int) < (n : Int) by omega)
  obtain ⟨s, bb, F1, hs, _⟩ := F5
  have HG := hide (j9b hg hq 0)
  clear hg hn HN
  rw [← hstop]; clear hstop
  go_wp2_with ((with_reducible refine w4g ?_; first | (refine q9l rfl _ _ rfl rfl rfl F1 ?_; intro _ t1 h2; clear F1; have F1 := t1; replace ht := ht.add h2 (fun x h => h); clear t1 h2)))
  go_ret
  exact ⟨0, none, rfl, Nat.zero_le _, ⟨s, false, F1, hs, Cond.no s⟩, HG.out, ht⟩
 ·have c1 := decide_eq_false (show ¬ (most : Int) < (n : Int) by omega)
  have HG := hide (x5z hg hq)
  clear hg hn HN
  rw [← hstop]; clear hstop
  go_wp2_with fail
  go_ret
  exact ⟨n, st1, rfl, by omega, F5, HG.out, ht⟩
end Go.Proofs.YtbbfnpfkbbpjgaaGreat
