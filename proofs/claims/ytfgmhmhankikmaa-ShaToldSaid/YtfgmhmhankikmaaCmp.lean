/- wide.Compare: a contract for every pair of wide numbers. -/
import Derived.Test.YtfgmhmhankikmaaWide
namespace Go.Proofs.Ytfgmhmhankikmaa
open Go.RowKit Go.Lib

theorem later {a b c : World} (h : Below a.heap.size a b) (k : Below b.heap.size b c) : Below a.heap.size a c := h.trans (k.mono h.size)
theorem below2 (w : World) (o1 o2 : Obj) : Below w.heap.size w ((w.alloc o1).alloc o2) := ((Below.refl _ _).alloc (Nat.le_refl _) _).alloc (by simp) _

theorem cmp_eq (ah al : Int) (w : World) :
    Calls Try.prog 75 #[.agg #[.int .u64 ah, .int .u64 al], .agg #[.int .u64 ah, .int .u64 al]] w fun e w' => e = .returned (.int .i64 0) ∧ Below w.heap.size w w' := by
  go_enter Try.func75, Try.ntmps75
  go_wp2
  go_ret
  exact ⟨rfl, below2 _ _ _⟩
theorem cmp_lt (ah al bh bl : Int) (h : ah < bh) (w : World) :
    Calls Try.prog 75 #[.agg #[.int .u64 ah, .int .u64 al], .agg #[.int .u64 bh, .int .u64 bl]] w fun e w' => e = .returned (.int .i64 (-1)) ∧ Below w.heap.size w w' := by
  have e1 : (ah == bh) = false := beq_eq_false_iff_ne.2 (by omega)
  go_enter Try.func75, Try.ntmps75
  go_wp2
  go_ret
  exact ⟨rfl, below2 _ _ _⟩
theorem cmp_lt2 (ah al bl : Int) (h : al < bl) (w : World) :
    Calls Try.prog 75 #[.agg #[.int .u64 ah, .int .u64 al], .agg #[.int .u64 ah, .int .u64 bl]] w fun e w' => e = .returned (.int .i64 (-1)) ∧ Below w.heap.size w w' := by
  have e1 : (al == bl) = false := beq_eq_false_iff_ne.2 (by omega)
  go_enter Try.func75, Try.ntmps75
  go_wp2
  go_ret
  exact ⟨rfl, below2 _ _ _⟩
theorem cmp_gt (ah al bh bl : Int) (h : bh < ah) (w : World) :
    Calls Try.prog 75 #[.agg #[.int .u64 ah, .int .u64 al], .agg #[.int .u64 bh, .int .u64 bl]] w fun e w' => e = .returned (.int .i64 1) ∧ Below w.heap.size w w' := by
  have e1 : (ah == bh) = false := beq_eq_false_iff_ne.2 (by omega)
  have e2 : ¬ ah < bh := by omega
  go_enter Try.func75, Try.ntmps75
  go_wp2
  go_ret
  exact ⟨rfl, below2 _ _ _⟩
theorem cmp_gt2 (ah al bl : Int) (h : bl < al) (w : World) :
    Calls Try.prog 75 #[.agg #[.int .u64 ah, .int .u64 al], .agg #[.int .u64 ah, .int .u64 bl]] w fun e w' => e = .returned (.int .i64 1) ∧ Below w.heap.size w w' := by
  have e1 : (al == bl) = false := beq_eq_false_iff_ne.2 (by omega)
  have e2 : ¬ al < bl := by omega
  go_enter Try.func75, Try.ntmps75
  go_wp2
  go_ret
  exact ⟨rfl, below2 _ _ _⟩

/-- What wide.Compare answers. -/
def cmpW (ah al bh bl : Int) : Int := if ah < bh ∨ ah = bh ∧ al < bl then -1 else if ah = bh ∧ al = bl then 0 else 1

theorem cmp_any (ah al bh bl : Int) (w : World) :
    Calls Try.prog 75 #[.agg #[.int .u64 ah, .int .u64 al], .agg #[.int .u64 bh, .int .u64 bl]] w fun e w' => e = .returned (.int .i64 (cmpW ah al bh bl)) ∧ Below w.heap.size w w' := by
  unfold cmpW
  by_cases h1 : ah < bh
  · rw [if_pos (.inl h1)]; exact cmp_lt ah al bh bl h1 w
  · by_cases h2 : ah = bh
    · subst h2
      by_cases h3 : al < bl
      · rw [if_pos (.inr ⟨rfl, h3⟩)]; exact cmp_lt2 ah al bl h3 w
      · rw [if_neg (by omega)]
        by_cases h4 : al = bl
        · subst h4; rw [if_pos ⟨rfl, rfl⟩]; exact cmp_eq ah al w
        · rw [if_neg (by omega)]; exact cmp_gt2 ah al bl (by omega) w
    · rw [if_neg (by omega), if_neg (by omega)]; exact cmp_gt ah al bh bl (by omega) w

/-- The test by a wide number's value. -/
theorem cmpW_lt (ah al bh bl : Int) (h1 : Word ah) (h2 : Word al) (h3 : Word bh) (h4 : Word bl) :
    (decide (cmpW ah al bh bl < 0)) = decide (ah * 18446744073709551616 + al < bh * 18446744073709551616 + bl) := by
  obtain ⟨_, _⟩ := h1; obtain ⟨_, _⟩ := h2; obtain ⟨_, _⟩ := h3; obtain ⟨_, _⟩ := h4
  unfold cmpW
  split
  · rename_i h; simp; omega
  · split <;> simp <;> omega
end Go.Proofs.Ytfgmhmhankikmaa
