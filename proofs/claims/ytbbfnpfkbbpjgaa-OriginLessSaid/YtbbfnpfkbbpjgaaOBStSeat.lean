/- api.Seat: one field stored. -/
import Derived.Test.YtbbfnpfkbbpjgaaOBSlEl
import Derived.Test.YtbbfnpfkbbpjgaaOBHdAt
namespace Go.Proofs.Ytbbfnpfkbbpjgaa
open Go.RowKit Go.Lib
set_option linter.unusedVariables false
set_option linter.unusedSimpArgs false

section
variable {ops : Array Oper} {rest : List Oper} {o : Oper} {a : Act} {w w0 : World} {Q : Exit → Act → World → Prop} {K : Act → Prop}
theorem wpl_set_seat_pool (hgd : o.guard = none) (x y : Operand) (ho : o.op = .store 27 x y) {g : Nat} {d : SeatT} {l : List UInt8} (hx : a.eval x = .pointer (some ⟨g, 0, none⟩)) (hy : a.eval y = hv l) (hl : l.length = 32) (h : SeatAt w g d)
    (hk : ∀ w2, SeatAt w2 g { d with pool := l } → Touch (fun b => b = g) w w2 → wpList Try.prog ops Q rest (a.put o.dst undef) w2) : wpList Try.prog ops Q (o :: rest) a w :=
  wpl_put_at hgd 27 x y ho hx hy h.arr (by rw [bvs_length, hl]; exact hashSz32) (by rw [seatCs_length h.ok, bvs_length, hl]; omega) (fun v hv => List.all_eq_true.1 (bvs_one l) v hv) (seatCs { d with pool := l }) (by
    rw [put_mid (A := ([] : List Value)) (X := bvs d.pool) (B := bvs d.key ++ (.int .u64 d.pledge :: (.int .u64 d.cost :: ([.int .u64 d.margin])))) (by simp [seatCs]) (by simp [bvs_length]) (by rw [bvs_length, bvs_length, hl, show d.pool.length = 32 from h.ok.1])]
    simp [seatCs]) (fun w2 ha ht => hk w2 ⟨⟨hl, h.ok.2.1, h.ok.2.2.1, h.ok.2.2.2.1, h.ok.2.2.2.2⟩, ha⟩ ht)
theorem wpl_set_seat_key (hgd : o.guard = none) (x y : Operand) (ho : o.op = .store 27 x y) {g : Nat} {d : SeatT} {l : List UInt8} (hx : a.eval x = .pointer (some ⟨g, 32, none⟩)) (hy : a.eval y = hv l) (hl : l.length = 32) (h : SeatAt w g d)
    (hk : ∀ w2, SeatAt w2 g { d with key := l } → Touch (fun b => b = g) w w2 → wpList Try.prog ops Q rest (a.put o.dst undef) w2) : wpList Try.prog ops Q (o :: rest) a w :=
  wpl_put_at hgd 27 x y ho hx hy h.arr (by rw [bvs_length, hl]; exact hashSz32) (by rw [seatCs_length h.ok, bvs_length, hl]; omega) (fun v hv => List.all_eq_true.1 (bvs_one l) v hv) (seatCs { d with key := l }) (by
    rw [put_mid (A := bvs d.pool) (X := bvs d.key) (B := .int .u64 d.pledge :: (.int .u64 d.cost :: ([.int .u64 d.margin]))) (by simp [seatCs]) (by simp [bvs_length, show d.pool.length = 32 from h.ok.1]) (by rw [bvs_length, bvs_length, hl, show d.key.length = 32 from h.ok.2.1])]
    simp [seatCs]) (fun w2 ha ht => hk w2 ⟨⟨h.ok.1, hl, h.ok.2.2.1, h.ok.2.2.2.1, h.ok.2.2.2.2⟩, ha⟩ ht)
theorem wpl_set_seat_pledge (hgd : o.guard = none) (x y : Operand) (ho : o.op = .store 23 x y) {g : Nat} {d : SeatT} {n : Nat} (hx : a.eval x = .pointer (some ⟨g, 64, none⟩)) (hy : a.eval y = .int .u64 n) (hl : U64 n) (h : SeatAt w g d)
    (hk : ∀ w2, SeatAt w2 g { d with pledge := n } → Touch (fun b => b = g) w w2 → wpList Try.prog ops Q rest (a.put o.dst undef) w2) : wpList Try.prog ops Q (o :: rest) a w :=
  wpl_set_one hgd 23 x y ho hx hy h.arr (by rw [seatCs_length h.ok]; omega) u64Sz rfl rfl (fun w2 ha ht => hk w2 ⟨⟨h.ok.1, h.ok.2.1, hl, h.ok.2.2.2.1, h.ok.2.2.2.2⟩, by
    rw [set_mid (A := bvs d.pool ++ bvs d.key) (B := .int .u64 d.cost :: ([.int .u64 d.margin])) (by simp [seatCs] <;> rfl) (by simp [bvs_length, show d.pool.length = 32 from h.ok.1, show d.key.length = 32 from h.ok.2.1])] at ha
    simpa [seatCs] using ha⟩ ht)
theorem wpl_set_seat_cost (hgd : o.guard = none) (x y : Operand) (ho : o.op = .store 23 x y) {g : Nat} {d : SeatT} {n : Nat} (hx : a.eval x = .pointer (some ⟨g, 65, none⟩)) (hy : a.eval y = .int .u64 n) (hl : U64 n) (h : SeatAt w g d)
    (hk : ∀ w2, SeatAt w2 g { d with cost := n } → Touch (fun b => b = g) w w2 → wpList Try.prog ops Q rest (a.put o.dst undef) w2) : wpList Try.prog ops Q (o :: rest) a w :=
  wpl_set_one hgd 23 x y ho hx hy h.arr (by rw [seatCs_length h.ok]; omega) u64Sz rfl rfl (fun w2 ha ht => hk w2 ⟨⟨h.ok.1, h.ok.2.1, h.ok.2.2.1, hl, h.ok.2.2.2.2⟩, by
    rw [set_mid (A := bvs d.pool ++ bvs d.key ++ [.int .u64 d.pledge]) (B := [.int .u64 d.margin]) (by simp [seatCs] <;> rfl) (by simp [bvs_length, show d.pool.length = 32 from h.ok.1, show d.key.length = 32 from h.ok.2.1])] at ha
    simpa [seatCs] using ha⟩ ht)
theorem wpl_set_seat_margin (hgd : o.guard = none) (x y : Operand) (ho : o.op = .store 23 x y) {g : Nat} {d : SeatT} {n : Nat} (hx : a.eval x = .pointer (some ⟨g, 66, none⟩)) (hy : a.eval y = .int .u64 n) (hl : U64 n) (h : SeatAt w g d)
    (hk : ∀ w2, SeatAt w2 g { d with margin := n } → Touch (fun b => b = g) w w2 → wpList Try.prog ops Q rest (a.put o.dst undef) w2) : wpList Try.prog ops Q (o :: rest) a w :=
  wpl_set_one hgd 23 x y ho hx hy h.arr (by rw [seatCs_length h.ok]; omega) u64Sz rfl rfl (fun w2 ha ht => hk w2 ⟨⟨h.ok.1, h.ok.2.1, h.ok.2.2.1, h.ok.2.2.2.1, hl⟩, by
    rw [set_mid (A := bvs d.pool ++ bvs d.key ++ [.int .u64 d.pledge] ++ [.int .u64 d.cost]) (B := []) (by simp [seatCs] <;> rfl) (by simp [bvs_length, show d.pool.length = 32 from h.ok.1, show d.key.length = 32 from h.ok.2.1])] at ha
    simpa [seatCs] using ha⟩ ht)
end
end Go.Proofs.Ytbbfnpfkbbpjgaa

/- api.Trust: one field stored. -/
namespace Go.Proofs.Ytbbfnpfkbbpjgaa
open Go.RowKit Go.Lib
set_option linter.unusedVariables false
set_option linter.unusedSimpArgs false

section
variable {ops : Array Oper} {rest : List Oper} {o : Oper} {a : Act} {w w0 : World} {Q : Exit → Act → World → Prop} {K : Act → Prop}
theorem wpl_set_trust_key (hgd : o.guard = none) (x y : Operand) (ho : o.op = .store 27 x y) {g : Nat} {d : TrustT} {l : List UInt8} (hx : a.eval x = .pointer (some ⟨g, 0, none⟩)) (hy : a.eval y = hv l) (hl : l.length = 32) (h : TrustAt w g d)
    (hk : ∀ w2, TrustAt w2 g { d with key := l } → Touch (fun b => b = g) w w2 → wpList Try.prog ops Q rest (a.put o.dst undef) w2) : wpList Try.prog ops Q (o :: rest) a w :=
  wpl_put_at hgd 27 x y ho hx hy h.arr (by rw [bvs_length, hl]; exact hashSz32) (by rw [trustCs_length h.ok, bvs_length, hl]; omega) (fun v hv => List.all_eq_true.1 (bvs_one l) v hv) (trustCs { d with key := l }) (by
    rw [put_mid (A := ([] : List Value)) (X := bvs d.key) (B := bvs d.pool) (by simp [trustCs]) (by simp [bvs_length]) (by rw [bvs_length, bvs_length, hl, show d.key.length = 32 from h.ok.1])]
    simp [trustCs]) (fun w2 ha ht => hk w2 ⟨⟨hl, h.ok.2⟩, ha⟩ ht)
theorem wpl_set_trust_pool (hgd : o.guard = none) (x y : Operand) (ho : o.op = .store 27 x y) {g : Nat} {d : TrustT} {l : List UInt8} (hx : a.eval x = .pointer (some ⟨g, 32, none⟩)) (hy : a.eval y = hv l) (hl : l.length = 32) (h : TrustAt w g d)
    (hk : ∀ w2, TrustAt w2 g { d with pool := l } → Touch (fun b => b = g) w w2 → wpList Try.prog ops Q rest (a.put o.dst undef) w2) : wpList Try.prog ops Q (o :: rest) a w :=
  wpl_put_at hgd 27 x y ho hx hy h.arr (by rw [bvs_length, hl]; exact hashSz32) (by rw [trustCs_length h.ok, bvs_length, hl]; omega) (fun v hv => List.all_eq_true.1 (bvs_one l) v hv) (trustCs { d with pool := l }) (by
    rw [put_mid (A := bvs d.key) (X := bvs d.pool) (B := []) (by simp [trustCs]) (by simp [bvs_length, show d.key.length = 32 from h.ok.1]) (by rw [bvs_length, bvs_length, hl, show d.pool.length = 32 from h.ok.2])]
    simp [trustCs]) (fun w2 ha ht => hk w2 ⟨⟨h.ok.1, hl⟩, ha⟩ ht)
end
end Go.Proofs.Ytbbfnpfkbbpjgaa
