/- digit.Take, and the reference's, as contracts. -/
import Derived.Test.YtbbfnpfkbbpjgaaOBTakeL
import Derived.Test.YtbbfnpfkbbpjgaaOBStep
import Derived.Test.YtbbfnpfkbbpjgaaOBShelf
namespace Go.Proofs.Ytbbfnpfkbbpjgaa
open Go.RowKit Go.Lib
set_option linter.unusedVariables false
set_option linter.unusedSimpArgs false

theorem and_not (c : Nat) (hc : c < 256) : bits BinOp.andNot .u8 (c : Int) 128 = ((c % 128 : Nat) : Int) := by
  rw [show (128 : Int) = ((128 : Nat) : Int) by rfl, u8_andNot_nat c 128 hc (by omega)]
  congr 1
  have : ∀ m : Fin 256, m.1 &&& (255 - 128) = m.1 % 128 := by decide +kernel
  exact this ⟨c, hc⟩
theorem take_or (m c k : Nat) (hm : m < 128 ^ k) (hc : c < 256) (hk : k < 10) (h9 : k = 9 → c % 128 < 2) : bits BinOp.or .u64 (m : Int) (IntKind.u64.wrap (((c % 128 : Nat) : Int) * 2 ^ (7 * k))) = ((m + c % 128 * 128 ^ k : Nat) : Int) := by
  have hp : (128 : Nat) ^ k = 2 ^ (7 * k) := by rw [show (128 : Nat) = 2 ^ 7 by rfl, ← Nat.pow_mul]
  rw [hp]
  rw [hp] at hm
  have hP : c % 128 * 2 ^ (7 * k) + 2 ^ (7 * k) ≤ 18446744073709551616 := by
    have h63 : (2 : Nat) ^ (7 * k) ≤ 2 ^ 63 := Nat.pow_le_pow_right (by omega) (by omega)
    by_cases h : k = 9
    · have := h9 h
      have : (c % 128 + 1) * 2 ^ (7 * k) ≤ 2 * 2 ^ 63 := Nat.mul_le_mul (by omega) h63
      rw [Nat.add_mul] at this
      omega
    · have h56 : (2 : Nat) ^ (7 * k) ≤ 2 ^ 56 := Nat.pow_le_pow_right (by omega) (by omega)
      have : (c % 128 + 1) * 2 ^ (7 * k) ≤ 128 * 2 ^ 56 := Nat.mul_le_mul (by omega) h56
      rw [Nat.add_mul] at this
      omega
  have hw : IntKind.u64.wrap (((c % 128 : Nat) : Int) * 2 ^ (7 * k)) = ((c % 128 * 2 ^ (7 * k) : Nat) : Int) := by
    rw [IntKind.wrap_u64]
    have : (((c % 128 : Nat) : Int) * 2 ^ (7 * k)) = ((c % 128 * 2 ^ (7 * k) : Nat) : Int) := by push_cast; rfl
    rw [this]
    have h2 : 0 < (2 : Nat) ^ (7 * k) := Nat.pow_pos (by omega)
    omega
  rw [hw]
  generalize hA : c % 128 * 2 ^ (7 * k) = A at *
  have h1 : (BitVec.ofInt 64 (m : Int)).toNat = m := by
    rw [BitVec.ofInt_natCast, BitVec.toNat_ofNat]; exact Nat.mod_eq_of_lt (by omega)
  have h2 : (BitVec.ofInt 64 (A : Int)).toNat = A := by
    have h2 : 0 < (2 : Nat) ^ (7 * k) := Nat.pow_pos (by omega)
    rw [BitVec.ofInt_natCast, BitVec.toNat_ofNat]; exact Nat.mod_eq_of_lt (by omega)
  show IntKind.u64.wrap ((BitVec.ofInt 64 (m : Int) ||| BitVec.ofInt 64 (A : Int)).toNat : Int) = _
  have h3 := Nat.two_pow_add_eq_or_of_lt (i := 7 * k) (b := m) hm (c % 128)
  rw [BitVec.toNat_or, h1, h2, Nat.or_comm, ← hA, Nat.mul_comm, ← h3, Nat.mul_comm, hA, IntKind.wrap_u64]
  omega
def takeV (l : List UInt8) : Nat × Nat := (takeO l).getD (0, 0)
set_option maxRecDepth 100000 in
set_option maxHeartbeats 1600000 in
theorem digTake_any (s : ByteArray) (w : World) (hs : s.size ≤ 1099511627776) :
    Calls Try.prog 123 #[.string s] w fun e w' => (∃ c : Int, e = .returned (.tuple #[.int .u64 (takeV s.data.toList).1, .int .i64 (takeV s.data.toList).2, .int .i64 c]) ∧ (c = 0 ↔ (takeO s.data.toList).isSome = true)) ∧ Below w.heap.size w w' := by
  obtain ⟨T, hT⟩ : ∃ T, T = takeO s.data.toList := ⟨_, rfl⟩
  unfold takeV
  rw [← hT]
  have b := Below.refl w.heap.size w
  have hz : s.data.toList.length = s.size := by simp
  generalize hl : s.data.toList = l at *
  have HB : Hid (∀ k (h : k < s.size), ((s[k]'h).toNat : Int) = ((l.getD k 0).toNat : Int)) := fun k h => by rw [← hl]; exact byte_at s k h
  have HZ := hide hz
  have HT := hide hT
  unfold takeO at HT
  clear hl hz hT
  go_enter Try.func123, Try.ntmps123
  go_wp2_with fail
  go_loopw [5, 8] (fun n i wr => ∃ k m : Nat, n = .int .u64 m ∧ i = .int .i64 k ∧ k ≤ 10 ∧ k ≤ s.size ∧ m < 128 ^ k ∧ Hid (T = takeF l (10 - k) k m) ∧ Below w.heap.size w wr) (fun _ i _ => 10 - (RowKit.intOf i).toNat)
  case atStart => exact ⟨0, 0, rfl, rfl, by omega, Nat.zero_le _, by simp, HT, b⟩
  case round =>
    clear HT b
    obtain ⟨k, m, rfl, rfl, hk, hkz, hm, HT, b⟩ := hrel
    by_cases hlt : k < 10
    · obtain ⟨r, hr⟩ : ∃ r, 10 - k = r + 1 := ⟨9 - k, by omega⟩
      have hT := HT.out
      rw [hr, takeF] at hT
      by_cases hks : k < s.size
      · have e1 := HB.out k hks
        have hz := HZ.out
        rw [if_neg (by omega)] at hT
        generalize (l.getD k 0) = c at *
        have hc := c.toNat_lt
        have e2 : ((k : Int) == (s.size : Int)) = false := by rw [beq_eq_false_iff_ne]; omega
        clear hz HT
        by_cases h9 : r = 0 ∧ 1 < c.toNat
        · rw [if_pos h9] at hT
          have e3 : ((k : Int) == 9) = true := by rw [beq_iff_eq]; omega
          have e4 : decide ((1 : Int) < (c.toNat : Int)) = true := decide_eq_true (by omega)
          subst hT
          go_wp2_with fail
          go_ret3
          exact ⟨⟨6, rfl, by simp⟩, b⟩
        · rw [if_neg h9] at hT
          have hbit := take_or m c.toNat k hm hc (by omega) (fun h => by omega)
          have hA := and_not c.toNat hc
          have hW : IntKind.u64.wrap ((c.toNat % 128 : Nat) : Int) = ((c.toNat % 128 : Nat) : Int) := by rw [IntKind.wrap_u64]; omega
          have hm2 : m + c.toNat % 128 * 128 ^ k < 128 ^ (k + 1) := by
            have : c.toNat % 128 * 128 ^ k + 128 ^ k ≤ 128 * 128 ^ k := by rw [← Nat.succ_mul]; exact Nat.mul_le_mul_right _ (by omega)
            rw [Nat.pow_succ]; omega
          by_cases h128 : c.toNat < 128
          · rw [if_pos h128] at hT
            have c1 : decide ((c.toNat : Int) < 128) = true := decide_eq_true (by omega)
            by_cases hc0 : c.toNat = 0
            · by_cases h0 : 0 < k
              · rw [if_pos ⟨hc0, h0⟩] at hT
                have e5 : ((c.toNat : Int) == 0) = true := by rw [beq_iff_eq]; omega
                have e6 : decide ((0 : Int) < (k : Int)) = true := decide_eq_true (by omega)
                have e4 : decide ((1 : Int) < (c.toNat : Int)) = false := decide_eq_false (by omega)
                subst hT
                clear hbit hA hW hm2
                by_cases hk9 : k = 9
                · subst hk9
                  clear e6 e2
                  go_wp2_with fail
                  go_ret3
                  exact ⟨⟨6, rfl, by simp⟩, b⟩
                · have e3 : ((k : Int) == 9) = false := by rw [beq_eq_false_iff_ne]; omega
                  go_wp2_with fail
                  go_ret3
                  exact ⟨⟨6, rfl, by simp⟩, b⟩
              · rw [if_neg (fun h => h0 h.2)] at hT
                obtain rfl : k = 0 := by omega
                obtain rfl : m = 0 := by simpa using hm
                have e5 : c = 0 := UInt8.toNat_inj.1 (by simpa using hc0)
                subst e5
                have hT2 : T = some (0, 1) := hT
                subst hT2
                clear hbit hA hW hm2 hT
                go_wp2_with fail
                go_ret3
                exact ⟨⟨0, rfl, by simp⟩, b⟩
            · rw [if_neg (fun h => hc0 h.1)] at hT
              have e5 : ((c.toNat : Int) == 0) = false := by rw [beq_eq_false_iff_ne]; omega
              generalize m + c.toNat % 128 * 128 ^ k = m2 at *
              subst hT
              by_cases hk9 : k = 9
              · subst hk9
                have e4 : decide ((1 : Int) < (c.toNat : Int)) = false := decide_eq_false (by omega)
                have hb2 : bits BinOp.or .u64 (m : Int) (IntKind.u64.wrap (((c.toNat % 128 : Nat) : Int) * 9223372036854775808)) = (m2 : Int) := hbit
                have hb3 : IntKind.u64.wrap (((c.toNat % 128 : Nat) : Int) * 9223372036854775808) = (c.toNat : Int) % 128 * 9223372036854775808 := by rw [IntKind.wrap_u64]; omega
                rw [hb3] at hb2
                have HB2 := hide hb2
                clear hbit hb2 hb3
                go_wp2_with fail
                go_ret3
                exact ⟨⟨0, by simpa using HB2.out, by simp⟩, b⟩
              · have e3 : ((k : Int) == 9) = false := by rw [beq_eq_false_iff_ne]; omega
                go_wp2_with fail
                go_ret3
                exact ⟨⟨0, by simpa using hbit, by simp⟩, b⟩
          · rw [if_neg h128] at hT
            have c1 : decide ((c.toNat : Int) < 128) = false := decide_eq_false (by omega)
            have hr2 : r = 10 - (k + 1) := by omega
            have e3 : ((k : Int) == 9) = false := by rw [beq_eq_false_iff_ne]; omega
            generalize m + c.toNat % 128 * 128 ^ k = m2 at *
            rw [hr2] at hT
            have HT := hide hT
            clear hT
            go_wp2_with fail
            go_roundw
            case rel => exact ⟨k + 1, m2, by simpa using hbit, by simp, by omega, by omega, hm2, HT, b⟩
            case measure => simp [RowKit.intOf]; omega
      · have hks' : s.size = k := by
          omega
        have hz := HZ.out
        have hle : l.length ≤ k := by omega
        rw [if_pos hle] at hT
        have e2 : ((k : Int) == (s.size : Int)) = true := by rw [beq_iff_eq]; omega
        subst hT
        clear hz hks' hks
        go_wp2_with fail
        go_ret3
        exact ⟨⟨10, rfl, by simp⟩, b⟩
    · obtain rfl : k = 10 := by omega
      have hT : T = none := HT.out
      subst hT
      go_wp2_with fail
      go_ret3
      exact ⟨⟨6, rfl, by simp⟩, b⟩
end Go.Proofs.Ytbbfnpfkbbpjgaa

/- deed.reader: text, number. -/
namespace Go.Proofs.Ytbbfnpfkbbpjgaa
open Go.RowKit Go.Lib
set_option linter.unusedVariables false
set_option linter.unusedSimpArgs false

theorem strSizeR : (Try.prog.info? 9).map (·.size) = some 1 := by kernel_rfl
theorem boolSizeR : (Try.prog.info? 4).map (·.size) = some 1 := by kernel_rfl
section
variable {ops : Array Oper} {rest : List Oper} {o : Oper} {a : Act} {w : World} {Q : Exit → Act → World → Prop}
end
theorem ext_take' (s : ByteArray) (n : Nat) : (s.extract 0 n).data.toList = s.data.toList.take n := by simp
theorem ext_drop' (s : ByteArray) (n : Nat) : (s.extract n s.size).data.toList = s.data.toList.drop n := by
  obtain ⟨⟨r⟩⟩ := s
  simp [ByteArray.size, List.take_of_length_le]
end Go.Proofs.Ytbbfnpfkbbpjgaa

/- Origins: their parts, their bytes, when they may be. Plain law. -/
namespace Go.Proofs.Ytbbfnpfkbbpjgaa
open Go.RowKit Go.Lib
set_option linter.unusedVariables false
set_option linter.unusedSimpArgs false

structure SeatT where
  pool : List UInt8
  key : List UInt8
  pledge : Nat
  cost : Nat
  margin : Nat
structure TrustT where
  key : List UInt8
  pool : List UInt8
structure Orig where
  k : Nat
  epoch : Nat
  period : Nat
  rateA : Nat
  rateB : Nat
  params : List Nat
  reserves : Nat
  treasury : Nat
  nonce : List UInt8
  coins : List OutT
  seats : List SeatT
  trusts : List TrustT
def SeatT.Ok (x : SeatT) : Prop := x.pool.length = 32 ∧ x.key.length = 32 ∧ U64 x.pledge ∧ U64 x.cost ∧ U64 x.margin
def TrustT.Ok (x : TrustT) : Prop := x.key.length = 32 ∧ x.pool.length = 32
structure Orig.Ok (o : Orig) : Prop where
  k : U64 o.k
  epoch : U64 o.epoch
  period : U64 o.period
  rateA : U64 o.rateA
  rateB : U64 o.rateB
  plen : o.params.length = 8
  params : ∀ x ∈ o.params, U64 x
  reserves : U64 o.reserves
  treasury : U64 o.treasury
  nonce : o.nonce.length = 32
  coins : ∀ x ∈ o.coins, x.Ok
  seats : ∀ x ∈ o.seats, x.Ok
  trusts : ∀ x ∈ o.trusts, x.Ok
/-! ### Bytes -/
def seatL (x : SeatT) : List UInt8 := x.pool ++ (x.key ++ (putL x.pledge ++ (putL x.cost ++ putL x.margin)))
def trustL (x : TrustT) : List UInt8 := x.key ++ x.pool
def origL (o : Orig) : List UInt8 := putL o.k ++ (putL o.epoch ++ (putL o.period ++ (putL o.rateA ++ (putL o.rateB ++ (o.params.flatMap putL ++ (putL o.reserves ++ (putL o.treasury ++ (o.nonce ++ (listL outtL o.coins ++ (listL seatL o.seats ++ listL trustL o.trusts))))))))))
/-! ### Reading -/
def seatP : Rdr SeatT := bindP (textP 32) fun t => bindP (textP 32) fun u => bindP numP fun a => bindP numP fun b => bindP numP fun c => pureP ⟨t, u, a, b, c⟩
def trustP : Rdr TrustT := bindP (textP 32) fun t => bindP (textP 32) fun u => pureP ⟨t, u⟩
def origP : Rdr Orig := bindP numP fun k => bindP numP fun e => bindP numP fun p => bindP numP fun a => bindP numP fun b => bindP (manyP numP 8) fun l => bindP numP fun r => bindP numP fun t => bindP (textP 32) fun n =>
  bindP (listP 32 outP) fun c => bindP (listP 16 seatP) fun s => bindP (listP 32 trustP) fun u => pureP ⟨k, e, p, a, b, l, r, t, n, c, s, u⟩
theorem reads_seat : Reads seatP seatL SeatT.Ok := by
  refine ⟨fun x rest hx => ?_, fun s x r h => ?_⟩
  · unfold seatP seatL
    simp only [List.append_assoc]
    rw [bind_some ((reads_text 32).put _ _ hx.1), bind_some ((reads_text 32).put _ _ hx.2.1), bind_some (reads_num.put _ _ hx.2.2.1), bind_some (reads_num.put _ _ hx.2.2.2.1), bind_some (reads_num.put _ _ hx.2.2.2.2)]; rfl
  · obtain ⟨t, s1, h1, h⟩ := bind_is h
    obtain ⟨u, s2, h2, h⟩ := bind_is h
    obtain ⟨a, s3, h3, h⟩ := bind_is h
    obtain ⟨b, s4, h4, h⟩ := bind_is h
    obtain ⟨c, s5, h5, h⟩ := bind_is h
    obtain ⟨rfl, rfl⟩ := pure_is h
    obtain ⟨o1, e1⟩ := (reads_text 32).got _ _ _ h1
    obtain ⟨o2, e2⟩ := (reads_text 32).got _ _ _ h2
    obtain ⟨o3, e3⟩ := reads_num.got _ _ _ h3
    obtain ⟨o4, e4⟩ := reads_num.got _ _ _ h4
    obtain ⟨o5, e5⟩ := reads_num.got _ _ _ h5
    exact ⟨⟨o1, o2, o3, o4, o5⟩, by rw [e1, e2, e3, e4, e5]; simp [seatL]⟩
theorem reads_trust : Reads trustP trustL TrustT.Ok := by
  refine ⟨fun x rest hx => ?_, fun s x r h => ?_⟩
  · unfold trustP trustL
    simp only [List.append_assoc]
    rw [bind_some ((reads_text 32).put _ _ hx.1), bind_some ((reads_text 32).put _ _ hx.2)]; rfl
  · obtain ⟨t, s1, h1, h⟩ := bind_is h
    obtain ⟨u, s2, h2, h⟩ := bind_is h
    obtain ⟨rfl, rfl⟩ := pure_is h
    obtain ⟨o1, e1⟩ := (reads_text 32).got _ _ _ h1
    obtain ⟨o2, e2⟩ := (reads_text 32).got _ _ _ h2
    exact ⟨⟨o1, o2⟩, by rw [e1, e2]; simp [trustL]⟩
/-- Not too many parts. -/
structure Orig.Few (o : Orig) : Prop where
  ok : o.Ok
  coins : o.coins.length ≤ 32
  seats : o.seats.length ≤ 16
  trusts : o.trusts.length ≤ 32
theorem reads_orig : Reads origP origL Orig.Few := by
  refine ⟨fun o rest ho => ?_, fun s o r h => ?_⟩
  · obtain ⟨ok, h1, h2, h3⟩ := ho
    unfold origP origL
    simp only [List.append_assoc]
    rw [bind_some (reads_num.put _ _ ok.k), bind_some (reads_num.put _ _ ok.epoch), bind_some (reads_num.put _ _ ok.period), bind_some (reads_num.put _ _ ok.rateA), bind_some (reads_num.put _ _ ok.rateB),
      bind_some ((reads_many reads_num 8).put o.params _ ⟨ok.plen, ok.params⟩), bind_some (reads_num.put _ _ ok.reserves), bind_some (reads_num.put _ _ ok.treasury), bind_some ((reads_text 32).put _ _ ok.nonce),
      bind_some ((reads_list reads_out 32 (by decide)).put o.coins _ ⟨h1, ok.coins⟩), bind_some ((reads_list reads_seat 16 (by decide)).put o.seats _ ⟨h2, ok.seats⟩), bind_some ((reads_list reads_trust 32 (by decide)).put o.trusts _ ⟨h3, ok.trusts⟩)]
    rfl
  · obtain ⟨x1, s1, h1, h⟩ := bind_is h
    obtain ⟨x2, s2, h2, h⟩ := bind_is h
    obtain ⟨x3, s3, h3, h⟩ := bind_is h
    obtain ⟨x4, s4, h4, h⟩ := bind_is h
    obtain ⟨x5, s5, h5, h⟩ := bind_is h
    obtain ⟨x6, s6, h6, h⟩ := bind_is h
    obtain ⟨x7, s7, h7, h⟩ := bind_is h
    obtain ⟨x8, s8, h8, h⟩ := bind_is h
    obtain ⟨x9, s9, h9, h⟩ := bind_is h
    obtain ⟨xa, sa, ha, h⟩ := bind_is h
    obtain ⟨xb, sb, hb, h⟩ := bind_is h
    obtain ⟨xc, sc, hc, h⟩ := bind_is h
    obtain ⟨rfl, rfl⟩ := pure_is h
    obtain ⟨o1, e1⟩ := reads_num.got _ _ _ h1
    obtain ⟨o2, e2⟩ := reads_num.got _ _ _ h2
    obtain ⟨o3, e3⟩ := reads_num.got _ _ _ h3
    obtain ⟨o4, e4⟩ := reads_num.got _ _ _ h4
    obtain ⟨o5, e5⟩ := reads_num.got _ _ _ h5
    obtain ⟨o6, e6⟩ := (reads_many reads_num 8).got _ _ _ h6
    obtain ⟨o7, e7⟩ := reads_num.got _ _ _ h7
    obtain ⟨o8, e8⟩ := reads_num.got _ _ _ h8
    obtain ⟨o9, e9⟩ := (reads_text 32).got _ _ _ h9
    obtain ⟨oa, ea⟩ := (reads_list reads_out 32 (by decide)).got _ _ _ ha
    obtain ⟨ob, eb⟩ := (reads_list reads_seat 16 (by decide)).got _ _ _ hb
    obtain ⟨oc, ec⟩ := (reads_list reads_trust 32 (by decide)).got _ _ _ hc
    refine ⟨⟨⟨o1, o2, o3, o4, o5, o6.1, o6.2, o7, o8, o9, oa.2, ob.2, oc.2⟩, oa.1, ob.1, oc.1⟩, ?_⟩
    rw [e1, e2, e3, e4, e5, e6, e7, e8, e9, ea, eb, ec]
    simp [origL]
/-! ### When an origin may be -/
def parE (place n : Nat) : Int :=
  if place = 0 ∨ place = 2 ∨ place = 3 then (if n < 1099511627776 then 0 else 2)
  else if place = 1 then (if n < 1048576 then 0 else 2)
  else if place = 4 ∨ place = 5 then (if n ≤ 1000 then 0 else 2)
  else if place = 6 then (if 1 ≤ n ∧ n ≤ 1000 then 0 else 2)
  else if place = 7 then (if 1 ≤ n ∧ n ≤ 32768 then 0 else 2)
  else 5
def parsB : Nat → List Nat → Bool
  | _, [] => true
  | i, n :: l => decide (parE i n = 0) && parsB (i + 1) l
def totalN (o : Orig) : Nat := o.reserves + o.treasury + (o.coins.map OutT.amount).sum
def seatB (x : SeatT) : Bool := decide (x.pledge < 9223372036854775808) && (decide (x.cost < 9223372036854775808) && decide (x.margin ≤ 1000))
def trustB (l : List SeatT) (x : TrustT) : Bool := decide (x.pool = zero32) || l.any fun s => decide (s.pool = x.pool)
def headB (o : Orig) : Bool := (decide (1 ≤ o.k) && decide (o.k ≤ 4096)) && ((decide (1 ≤ o.epoch) && decide (o.epoch ≤ 1048576)) && ((decide (1 ≤ o.period) && decide (o.period ≤ 1048576)) && ((decide (1 ≤ o.rateB) && decide (o.rateB ≤ 65536)) && (decide (1 ≤ o.rateA) && decide (o.rateA ≤ o.rateB)))))
def sizesB (o : Orig) : Bool := decide (o.coins.length ≤ 32) && (decide (o.seats.length ≤ 16) && decide (o.trusts.length ≤ 32))
def listsB (o : Orig) : Bool := sizesB o && (risesB SeatT.pool o.seats && (risesB TrustT.key o.trusts && ((o.coins.all fun x => decide (0 < x.amount)) && (o.seats.all seatB && o.trusts.all (trustB o.seats)))))
def mayOr (o : Orig) : Bool := headB o && (parsB 0 o.params && (decide (totalN o < 9223372036854775808) && listsB o))
theorem mayOr_few {o : Orig} (ok : o.Ok) (h : mayOr o = true) : o.Few := by
  simp only [mayOr, listsB, sizesB, Bool.and_eq_true, decide_eq_true_eq] at h
  obtain ⟨_, _, _, ⟨h1, h2, h3⟩, _⟩ := h
  exact ⟨ok, h1, h2, h3⟩
def orig0 : Orig := ⟨0, 0, 0, 0, 0, [0, 0, 0, 0, 0, 0, 0, 0], 0, 0, zero32, [], [], []⟩
theorem orig0_ok : orig0.Ok := ⟨by decide, by decide, by decide, by decide, by decide, rfl, by intro x hx; simp [orig0] at hx; subst hx; decide, by decide, by decide, rfl, by simp [orig0], by simp [orig0], by simp [orig0]⟩
/-- Take. -/
def takeOr (s : List UInt8) : Orig × Int := match origP s with
  | some (o, []) => if mayOr o = true then (o, 0) else (orig0, 6)
  | _ => (orig0, 6)
theorem takeOr_put {o : Orig} (ok : o.Ok) (h : mayOr o = true) : takeOr (origL o) = (o, 0) := by
  have := reads_orig.put o [] (mayOr_few ok h)
  rw [List.append_nil] at this
  unfold takeOr
  rw [this]
  exact if_pos h
theorem takeOr_is {s : List UInt8} (h : (takeOr s).2 = 0) : mayOr (takeOr s).1 = true ∧ (takeOr s).1.Ok ∧ s = origL (takeOr s).1 := by
  unfold takeOr at h ⊢
  split
  · rename_i o hq
    rw [hq] at h
    simp only at h
    by_cases hm : mayOr o = true
    · rw [if_pos hm]
      obtain ⟨ok, e⟩ := reads_orig.got _ _ _ hq
      exact ⟨hm, ok.ok, by rw [e, List.append_nil]⟩
    · rw [if_neg hm] at h; cases h
  · rename_i hq
    split at h
    · rename_i o hq2
      exact absurd hq2 (hq o)
    · cases h
theorem takeOr_ok (s : List UInt8) : (takeOr s).1.Ok := by
  unfold takeOr
  split
  · rename_i o hq
    split
    · exact (reads_orig.got _ _ _ hq).1.ok
    · exact orig0_ok
  · exact orig0_ok
theorem takeOr_no {s : List UInt8} (h : (takeOr s).2 ≠ 0) : takeOr s = (orig0, 6) := by
  unfold takeOr at h ⊢
  split
  · rename_i o hq
    rw [hq] at h
    simp only at h
    split
    · rename_i hm; rw [if_pos hm] at h; exact absurd rfl h
    · rfl
  · rfl
theorem takeOr_got {s : List UInt8} {o : Orig} {st : Option (List UInt8)} (h : Got origP (some s) o st) : takeOr s = if st = some [] ∧ mayOr o = true then (o, 0) else (orig0, 6) := by
  unfold takeOr
  rcases h.1 s rfl with ⟨r, h1, h2⟩ | ⟨h1, h2⟩
  · rw [h1, h2]
    cases r with
    | nil => simp
    | cons x y => simp
  · rw [h1, h2]
    simp
end Go.Proofs.Ytbbfnpfkbbpjgaa
