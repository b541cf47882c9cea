/- What a reader has read, that may have met what is wrong. Plain law. -/
import Derived.Test.YtbbfnpfkbbpjgaaGreatQPDeedL
import Derived.Test.YtbbfnpfkbbpjgaaGreatQPDeed6
import Derived.Test.YtbbfnpfkbbpjgaaGreatQPDig8
namespace Go.Proofs.YtbbfnpfkbbpjgaaGreat
open Go.RowKit Go.Lib
set_option linter.unusedVariables false
set_option linter.unusedSimpArgs false

/-- With st ahead (none: something was wrong) p has read v, and st' is ahead. -/
def Got {α : Type} (p : Rdr α) (st : Option (List UInt8)) (v : α) (st' : Option (List UInt8)) : Prop :=
  (∀ s, st = some s → (∃ r, p s = some (v, r) ∧ st' = some r) ∨ (p s = none ∧ st' = none)) ∧ (st = none → st' = none)
theorem got_pure {α : Type} (a : α) (st : Option (List UInt8)) : Got (pureP a) st a st := ⟨fun s h => .inl ⟨s, rfl, h⟩, fun h => h⟩
theorem Got.bind {α β : Type} {p : Rdr α} {q : α → Rdr β} {st st1 st2 : Option (List UInt8)} {a : α} {b : β} (h : Got p st a st1) (k : Got (q a) st1 b st2) : Got (bindP p q) st b st2 := by
  refine ⟨fun s hs => ?_, fun hs => k.2 (h.2 hs)⟩
  rcases h.1 s hs with ⟨r, h1, h2⟩ | ⟨h1, h2⟩
  · rw [bind_some h1]; exact k.1 r h2
  · rw [bind_none h1]; exact .inr ⟨rfl, k.2 h2⟩
theorem Got.last {α β : Type} {p : Rdr α} {f : α → β} {st st1 : Option (List UInt8)} {a : α} (h : Got p st a st1) : Got (bindP p fun a => pureP (f a)) st (f a) st1 := h.bind (got_pure _ _)
/-- Too many. -/
theorem got_over {α : Type} (v : α) (st : Option (List UInt8)) : Got (fun _ => none) st v none := ⟨fun _ _ => .inr ⟨rfl, rfl⟩, fun _ => rfl⟩
theorem got_bad {α : Type} (p : Rdr α) (v : α) : Got p none v none := ⟨fun _ h => (by cases h), fun _ => rfl⟩
/-- n things more. -/
theorem got_none {α : Type} (p : Rdr α) (st : Option (List UInt8)) : Got (manyP p 0) st [] st := got_pure _ _
theorem manyP_snoc {α : Type} (p : Rdr α) : ∀ n s, manyP p (n + 1) s = bindP (manyP p n) (fun l => bindP p fun a => pureP (l ++ [a])) s
  | 0, s => by
    show bindP p _ s = bindP (pureP []) _ s
    rw [bind_some (show pureP [] s = some ([], s) from rfl)]
    cases h : p s with
    | none => rw [bind_none h, bind_none h]
    | some x => obtain ⟨a, r⟩ := x; rw [bind_some h, bind_some h]; rfl
  | n + 1, s => by
    show bindP p (fun a => bindP (manyP p (n + 1)) fun l => pureP (a :: l)) s = bindP (bindP p fun a => bindP (manyP p n) fun l => pureP (a :: l)) _ s
    cases h : p s with
    | none => rw [bind_none h, bind_none (bind_none h)]
    | some x =>
      obtain ⟨a, r⟩ := x
      rw [bind_some h]
      have e := manyP_snoc p n r
      cases hm : manyP p n r with
      | none =>
        rw [bind_none hm] at e
        rw [bind_none e, bind_none (by rw [bind_some h, bind_none hm])]
      | some y =>
        obtain ⟨l, t⟩ := y
        rw [bind_some hm] at e
        have e2 : bindP p (fun a => bindP (manyP p n) fun l => pureP (a :: l)) s = some (a :: l, t) := by rw [bind_some h, bind_some hm]; rfl
        rw [bind_some e2]
        cases hp : p t with
        | none => rw [bind_none hp] at e; rw [bind_none e, bind_none hp]
        | some z =>
          obtain ⟨b, u⟩ := z
          rw [bind_some hp] at e
          rw [bind_some e, bind_some hp]
          rfl
theorem Got.snoc {α : Type} {p : Rdr α} {n : Nat} {st st1 st2 : Option (List UInt8)} {l : List α} {a : α} (h : Got (manyP p n) st l st1) (k : Got p st1 a st2) : Got (manyP p (n + 1)) st (l ++ [a]) st2 := by
  have e : manyP p (n + 1) = bindP (manyP p n) (fun l => bindP p fun a => pureP (l ++ [a])) := funext (manyP_snoc p n)
  rw [e]
  exact h.bind k.last
theorem Got.list {α : Type} {p : Rdr α} {most n : Nat} {st st1 st2 : Option (List UInt8)} {l : List α} (h : Got numP st n st1) (hn : ¬ most < n) (k : Got (manyP p n) st1 l st2) : Got (listP most p) st l st2 :=
  h.bind (by rw [if_neg hn]; exact k)
theorem Got.over {α : Type} {p : Rdr α} {most n : Nat} {st st1 : Option (List UInt8)} (h : Got numP st n st1) (hn : most < n) (l : List α) : Got (listP most p) st l none :=
  h.bind (by rw [if_pos hn]; exact got_over l st1)
/-- What was begun, and was wrong. -/
theorem Got.stop {α : Type} {p : Rdr α} {n k : Nat} {st : Option (List UInt8)} {l : List α} (h : Got (manyP p n) st l none) (m : List α) : Got (manyP p (n + k)) st m none := by
  induction k with
  | zero => exact ⟨fun s hs => by
      rcases h.1 s hs with ⟨r, _, h2⟩ | h2
      · cases h2
      · exact .inr h2, fun _ => rfl⟩
  | succ k ih =>
    refine ⟨fun s hs => .inr ⟨?_, rfl⟩, fun _ => rfl⟩
    rcases ih.1 s hs with ⟨r, _, h2⟩ | ⟨h2, _⟩
    · cases h2
    · show manyP p (n + k + 1) s = none
      rw [manyP_snoc, bind_none h2]
/-- The end of Take: a deed was read, and nothing is left. -/
theorem takeD_got {s : List UInt8} {d : Deed} {st : Option (List UInt8)} (h : Got deedP (some s) d st) : takeD s = if st = some [] ∧ mayD d = true then (d, 0) else (deed0, 6) := by
  unfold takeD
  rcases h.1 s rfl with ⟨r, h1, h2⟩ | ⟨h1, h2⟩
  · rw [h1, h2]
    cases r with
    | nil => simp
    | cons x y => simp
  · rw [h1, h2]
    simp
end Go.Proofs.YtbbfnpfkbbpjgaaGreat

/- digit.Take, and the reference's, as contracts. -/
namespace Go.Proofs.YtbbfnpfkbbpjgaaGreat
open Go.RowKit Go.Lib
set_option linter.unusedVariables false
set_option linter.unusedSimpArgs false

theorem and_not (c : Nat) (hc : c < 256) : bits BinOp.andNot .u8 (c : Int) 128 = ((c % 128 : Nat) : Int) := by
  rw [show (128 : Int) = ((128 : Nat) : Int) by rfl, u8_andNot_nat c 128 hc (by omega)]
  congr 1
  have : ∀ m : Fin 256, m.1 &&& (255 - 128) = m.1 % 128 := by decide +kernel
  exact this ⟨c, hc⟩
theorem take_or (m c k : Nat) (hm : m < 128 ^ k) (hc : c < 256) (hk : k < 10) (h9 : k = 9 → c % 128 < 2) : bits BinOp.or .u64 (m : Int) (IntKind.u64.wrap (((c % 128 : Nat) : Int) * 2 ^ (7 * k))) = ((m + c % 128 * 128 ^ k : Nat) : Int) := by
  have hp : (128 : Nat) ^ k = 2 ^ (7 * k) := by rw [show (128 : Nat) = 2 ^ 7 by rfl, ← Nat.pow_mul]
  rw [hp]
  rw [hp] at hm
  have hP : c % 128 * 2 ^ (7 * k) + 2 ^ (7 * k) ≤ 18446744073709551616 := by
    have h63 : (2 : Nat) ^ (7 * k) ≤ 2 ^ 63 := Nat.pow_le_pow_right (by omega) (by omega)
    by_cases h : k = 9
    · have := h9 h
      have : (c % 128 + 1) * 2 ^ (7 * k) ≤ 2 * 2 ^ 63 := Nat.mul_le_mul (by omega) h63
      rw [Nat.add_mul] at this
      omega
    · have h56 : (2 : Nat) ^ (7 * k) ≤ 2 ^ 56 := Nat.pow_le_pow_right (by omega) (by omega)
      have : (c % 128 + 1) * 2 ^ (7 * k) ≤ 128 * 2 ^ 56 := Nat.mul_le_mul (by omega) h56
      rw [Nat.add_mul] at this
      omega
  have hw : IntKind.u64.wrap (((c % 128 : Nat) : Int) * 2 ^ (7 * k)) = ((c % 128 * 2 ^ (7 * k) : Nat) : Int) := by
    rw [IntKind.wrap_u64]
    have : (((c % 128 : Nat) : Int) * 2 ^ (7 * k)) = ((c % 128 * 2 ^ (7 * k) : Nat) : Int) := by push_cast; rfl
    rw [this]
    have h2 : 0 < (2 : Nat) ^ (7 * k) := Nat.pow_pos (by omega)
    omega
  rw [hw]
  generalize hA : c % 128 * 2 ^ (7 * k) = A at *
  have h1 : (BitVec.ofInt 64 (m : Int)).toNat = m := by
    rw [BitVec.ofInt_natCast, BitVec.toNat_ofNat]; exact Nat.mod_eq_of_lt (by omega)
  have h2 : (BitVec.ofInt 64 (A : Int)).toNat = A := by
    have h2 : 0 < (2 : Nat) ^ (7 * k) := Nat.pow_pos (by omega)
    rw [BitVec.ofInt_natCast, BitVec.toNat_ofNat]; exact Nat.mod_eq_of_lt (by omega)
  show IntKind.u64.wrap ((BitVec.ofInt 64 (m : Int) ||| BitVec.ofInt 64 (A : Int)).toNat : Int) = _
  have h3 := Nat.two_pow_add_eq_or_of_lt (i := 7 * k) (b := m) hm (c % 128)
  rw [BitVec.toNat_or, h1, h2, Nat.or_comm, ← hA, Nat.mul_comm, ← h3, Nat.mul_comm, hA, IntKind.wrap_u64]
  omega
def takeV (l : List UInt8) : Nat × Nat := (takeO l).getD (0, 0)
set_option maxRecDepth 100000 in
set_option maxHeartbeats 1600000 in
theorem digTake_any (s : ByteArray) (w : World) (hs : s.size ≤ 1099511627776) :
    Calls Tryz.prog 67 #[.string s] w fun e w' => (∃ c : Int, e = .returned (.tuple #[.int .u64 (takeV s.data.toList).1, .int .i64 (takeV s.data.toList).2, .int .i64 c]) ∧ (c = 0 ↔ (takeO s.data.toList).isSome = true)) ∧ Below w.heap.size w w' := by
  obtain ⟨T, hT⟩ : ∃ T, T = takeO s.data.toList := ⟨_, rfl⟩
  unfold takeV
  rw [← hT]
  have b := Below.refl w.heap.size w
  have hz : s.data.toList.length = s.size := by simp
  generalize hl : s.data.toList = l at *
  have HB : Hid (∀ k (h : k < s.size), ((s[k]'h).toNat : Int) = ((l.getD k 0).toNat : Int)) := fun k h => by rw [← hl]; exact byte_at s k h
  have HZ := hide hz
  have HT := hide hT
  unfold takeO at HT
  clear hl hz hT
  go_enter Tryz.func67, Tryz.ntmps67
  go_wp2_with fail
  go_loopw [5, 8] (fun n i wr => ∃ k m : Nat, n = .int .u64 m ∧ i = .int .i64 k ∧ k ≤ 10 ∧ k ≤ s.size ∧ m < 128 ^ k ∧ Hid (T = takeF l (10 - k) k m) ∧ Below w.heap.size w wr) (fun _ i _ => 10 - (RowKit.intOf i).toNat)
  case atStart => exact ⟨0, 0, rfl, rfl, by omega, Nat.zero_le _, by simp, HT, b⟩
  case round =>
    clear HT b
    obtain ⟨k, m, rfl, rfl, hk, hkz, hm, HT, b⟩ := hrel
    by_cases hlt : k < 10
    · obtain ⟨r, hr⟩ : ∃ r, 10 - k = r + 1 := ⟨9 - k, by omega⟩
      have hT := HT.out
      rw [hr, takeF] at hT
      by_cases hks : k < s.size
      · have e1 := HB.out k hks
        have hz := HZ.out
        rw [if_neg (by omega)] at hT
        generalize (l.getD k 0) = c at *
        have hc := c.toNat_lt
        have e2 : ((k : Int) == (s.size : Int)) = false := by rw [beq_eq_false_iff_ne]; omega
        clear hz HT
        by_cases h9 : r = 0 ∧ 1 < c.toNat
        · rw [if_pos h9] at hT
          have e3 : ((k : Int) == 9) = true := by rw [beq_iff_eq]; omega
          have e4 : decide ((1 : Int) < (c.toNat : Int)) = true := decide_eq_true (by omega)
          subst hT
          go_wp2_with fail
          go_ret3
          exact ⟨⟨6, rfl, by simp⟩, b⟩
        · rw [if_neg h9] at hT
          have hbit := take_or m c.toNat k hm hc (by omega) (fun h => by omega)
          have hA := and_not c.toNat hc
          have hW : IntKind.u64.wrap ((c.toNat % 128 : Nat) : Int) = ((c.toNat % 128 : Nat) : Int) := by rw [IntKind.wrap_u64]; omega
          have hm2 : m + c.toNat % 128 * 128 ^ k < 128 ^ (k + 1) := by
            have : c.toNat % 128 * 128 ^ k + 128 ^ k ≤ 128 * 128 ^ k := by rw [← Nat.succ_mul]; exact Nat.mul_le_mul_right _ (by omega)
            rw [Nat.pow_succ]; omega
          by_cases h128 : c.toNat < 128
          · rw [if_pos h128] at hT
            have c1 : decide ((c.toNat : Int) < 128) = true := decide_eq_true (by omega)
            by_cases hc0 : c.toNat = 0
            · by_cases h0 : 0 < k
              · rw [if_pos ⟨hc0, h0⟩] at hT
                have e5 : ((c.toNat : Int) == 0) = true := by rw [beq_iff_eq]; omega
                have e6 : decide ((0 : Int) < (k : Int)) = true := decide_eq_true (by omega)
                have e4 : decide ((1 : Int) < (c.toNat : Int)) = false := decide_eq_false (by omega)
                subst hT
                clear hbit hA hW hm2
                by_cases hk9 : k = 9
                · subst hk9
                  clear e6 e2
                  go_wp2_with fail
                  go_ret3
                  exact ⟨⟨6, rfl, by simp⟩, b⟩
                · have e3 : ((k : Int) == 9) = false := by rw [beq_eq_false_iff_ne]; omega
                  go_wp2_with fail
                  go_ret3
                  exact ⟨⟨6, rfl, by simp⟩, b⟩
              · rw [if_neg (fun h => h0 h.2)] at hT
                obtain rfl : k = 0 := by omega
                obtain rfl : m = 0 := by simpa using hm
                have e5 : c = 0 := UInt8.toNat_inj.1 (by simpa using hc0)
                subst e5
                have hT2 : T = some (0, 1) := hT
                subst hT2
                clear hbit hA hW hm2 hT
                go_wp2_with fail
                go_ret3
                exact ⟨⟨0, rfl, by simp⟩, b⟩
            · rw [if_neg (fun h => hc0 h.1)] at hT
              have e5 : ((c.toNat : Int) == 0) = false := by rw [beq_eq_false_iff_ne]; omega
              generalize m + c.toNat % 128 * 128 ^ k = m2 at *
              subst hT
              by_cases hk9 : k = 9
              · subst hk9
                have e4 : decide ((1 : Int) < (c.toNat : Int)) = false := decide_eq_false (by omega)
                have hb2 : bits BinOp.or .u64 (m : Int) (IntKind.u64.wrap (((c.toNat % 128 : Nat) : Int) * 9223372036854775808)) = (m2 : Int) := hbit
                have hb3 : IntKind.u64.wrap (((c.toNat % 128 : Nat) : Int) * 9223372036854775808) = (c.toNat : Int) % 128 * 9223372036854775808 := by rw [IntKind.wrap_u64]; omega
                rw [hb3] at hb2
                have HB2 := hide hb2
                clear hbit hb2 hb3
                go_wp2_with fail
                go_ret3
                exact ⟨⟨0, by simpa using HB2.out, by simp⟩, b⟩
              · have e3 : ((k : Int) == 9) = false := by rw [beq_eq_false_iff_ne]; omega
                go_wp2_with fail
                go_ret3
                exact ⟨⟨0, by simpa using hbit, by simp⟩, b⟩
          · rw [if_neg h128] at hT
            have c1 : decide ((c.toNat : Int) < 128) = false := decide_eq_false (by omega)
            have hr2 : r = 10 - (k + 1) := by omega
            have e3 : ((k : Int) == 9) = false := by rw [beq_eq_false_iff_ne]; omega
            generalize m + c.toNat % 128 * 128 ^ k = m2 at *
            rw [hr2] at hT
            have HT := hide hT
            clear hT
            go_wp2_with fail
            go_roundw
            case rel => exact ⟨k + 1, m2, by simpa using hbit, by simp, by omega, by omega, hm2, HT, b⟩
            case measure => simp [RowKit.intOf]; omega
      · have hks' : s.size = k := by
          omega
        have hz := HZ.out
        have hle : l.length ≤ k := by omega
        rw [if_pos hle] at hT
        have e2 : ((k : Int) == (s.size : Int)) = true := by rw [beq_iff_eq]; omega
        subst hT
        clear hz hks' hks
        go_wp2_with fail
        go_ret3
        exact ⟨⟨10, rfl, by simp⟩, b⟩
    · obtain rfl : k = 10 := by omega
      have hT : T = none := HT.out
      subst hT
      go_wp2_with fail
      go_ret3
      exact ⟨⟨6, rfl, by simp⟩, b⟩
end Go.Proofs.YtbbfnpfkbbpjgaaGreat
