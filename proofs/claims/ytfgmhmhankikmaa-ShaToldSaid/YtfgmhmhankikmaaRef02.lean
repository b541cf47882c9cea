/- The reference's arithmetic in digits of 32 bits (mintageref02): of, carry, by, wide as contracts. -/
import Derived.Test.YtfgmhmhankikmaaCmp
namespace Go.Proofs.Ytfgmhmhankikmaa
open Go.RowKit Go.Lib

theorem info64 : (Try.prog.info? 31).map (fun i => (i.zero, i.size, i.bytes)) = some (some (.int .u64 0), 1, 8) := by kernel_rfl

/-- v is a slice that holds the digits ds, in a block from base on. -/
def Digs (w : World) (base : Nat) (v : Value) (ds : List Int) : Prop := w.ownsRow base 31 1 v ds.length (ds.map (Value.int .u64))

theorem ownsRow_le {w : World} {base base' : Nat} {e : TypeId} {size : Nat} {v : Value} {n : Nat} {xs : List Value} (h : w.ownsRow base e size v n xs) (hb : base' ≤ base) : w.ownsRow base' e size v n xs := by
  refine ⟨h.1, ?_⟩
  rcases h.2 with h2 | ⟨g, cap, cur, e1, hg, r⟩
  · exact .inl h2
  · exact .inr ⟨g, cap, cur, e1, Nat.le_trans hb hg, r⟩
theorem ownsRow_later {w w' : World} {base : Nat} {e : TypeId} {size : Nat} {v : Value} {n : Nat} {xs : List Value} (h : w.ownsRow base e size v n xs) (hb : Below w.heap.size w w') : w'.ownsRow base e size v n xs := by
  refine ⟨h.1, ?_⟩
  rcases h.2 with h2 | ⟨g, cap, cur, e1, hg, hh, r⟩
  · exact .inl h2
  · have hlt := (Array.getElem?_eq_some_iff.1 hh).1
    exact .inr ⟨g, cap, cur, e1, hg, (hb.block g hlt).trans hh, r⟩
/-- A slice that is not empty has an address. -/
theorem ownsRow_at {w : World} {base : Nat} {e : TypeId} {v : Value} {n : Nat} {xs : List Value} (h : w.ownsRow base e 1 v n xs) (hn : 0 < n) : ∃ g cap, v = .slice (some ⟨g, 0, none⟩) n cap ∧ g < w.heap.size ∧ base ≤ g ∧ n ≤ cap := by
  rcases h.2 with ⟨_, h2⟩ | ⟨g, cap, cur, e1, hg, hh, hc, _⟩
  · omega
  · exact ⟨g, cap, e1, (Array.getElem?_eq_some_iff.1 hh).1, hg, hc⟩
theorem grown_below {w w1 : World} {base : Nat} {v : Value} {n size : Nat} {e : TypeId} {xs : List Value} {o : Obj} (hown : w.ownsRow base e size v n xs) (hg : (w.alloc o).grownBy w1 v.ownBlock) (hB : base ≤ w.heap.size) : Below base w w1 :=
  ((Below.refl base w).alloc hB o).grown hg (by simp; omega) (fun k hk => (hown.lt k hk).1)

theorem getD_eq {α : Type} (l : List α) (i : Nat) (d : α) (h : i < l.length) : l.getD i d = l[i] := by simp [List.getD, h]
theorem getD_mem {α : Type} (l : List α) (i : Nat) (d : α) (h : i < l.length) : l.getD i d ∈ l := by rw [getD_eq l i d h]; exact List.getElem_mem h
theorem drop_getD {α : Type} (l : List α) (i : Nat) (d : α) (h : i < l.length) : l.drop i = l.getD i d :: l.drop (i + 1) := by rw [getD_eq l i d h]; exact List.drop_eq_getElem_cons h

theorem digs_cell {w : World} {base g cap n : Nat} {ds : List Int} (h : w.ownsRow base 31 1 (.slice (some ⟨g, 0, none⟩) n cap) n (ds.map (Value.int .u64))) (j : Nat) (hj : j < n) (hl : ds.length = n) : w.cell? ⟨g, j, none⟩ = some (.int .u64 (ds.getD j 0)) := by
  rw [h.cellAt j (by omega)]
  simp [List.getElem?_map, List.getElem?_eq_getElem (show j < ds.length by omega)]

/-! ### carry -/
def carryL : List Int → Int → List Int
  | [], ov => [ov]
  | d :: ds, ov => (d + ov) % 4294967296 :: carryL ds ((d + ov) / 4294967296)

theorem carryL_length (ds : List Int) : ∀ ov, (carryL ds ov).length = ds.length + 1 := by
  induction ds with
  | nil => intro ov; rfl
  | cons d ds ih => intro ov; simp [carryL, ih]

set_option maxHeartbeats 1000000 in
theorem carry_any (g cap : Nat) (ds : List Int) (w : World) (hn : 0 < ds.length) (hn2 : ds.length ≤ 64) (hd : Digs w 0 (.slice (some ⟨g, 0, none⟩) ds.length cap) ds) (hb : ∀ d ∈ ds, 0 ≤ d ∧ d < 9223372036854775808) :
    Calls Try.prog 79 #[.slice (some ⟨g, 0, none⟩) ds.length cap] w fun e w' => ∃ v, e = .returned v ∧ Digs w' w.heap.size v (carryL ds 0) ∧ Below w.heap.size w w' := by
  obtain ⟨i0, hi, hz0, hz1, hz2⟩ := info_parts info64
  unfold Digs at hd
  have hgl : g < w.heap.size := by
    obtain ⟨g', cap', e, h, _⟩ := ownsRow_at hd hn
    simp only [Value.slice.injEq, Option.some.injEq, Addr.mk.injEq] at e
    obtain ⟨⟨rfl, _⟩, _⟩ := e
    exact h
  have HB := hide hb
  have HD := hide hd
  clear hb hd
  go_enter Try.func79, Try.ntmps79
  go_wp2_with fail
  go_loopw [3, 4, 5] (fun out ov i wr => ∃ (k : Nat) (o : Int) (pre : List Int), k ≤ ds.length ∧ i = .int .i64 k ∧ ov = .int .u64 o ∧ 0 ≤ o ∧ o ≤ 4294967296 ∧ pre.length = k ∧ carryL ds 0 = pre ++ carryL (ds.drop k) o ∧
      wr.ownsRow w.heap.size 31 1 out k (pre.map (Value.int .u64)) ∧ Below w.heap.size w wr) (fun _ _ i _ => ds.length - (intOf i).toNat)
  case atStart => exact ⟨0, 0, [], by omega, rfl, rfl, by omega, by omega, rfl, by simp, World.ownsRow_nil _ _ _ _, Below.refl _ _⟩
  case round =>
    obtain ⟨k, o, pre, hk, rfl, rfl, ho0, ho1, hpl, hpre, hown, hbr⟩ := hrel
    have HP := hide hpre
    have HL := hide hpl
    clear hpre hpl
    by_cases hlt : k < ds.length
    · have hcell : wr.cell? ⟨g, k, none⟩ = some (.int .u64 (ds.getD k 0)) := (hbr.cell (p := ⟨g, k, none⟩) hgl).trans (digs_cell HD.out k hlt rfl)
      have hdb := HB.out (ds.getD k 0) (getD_mem ds k 0 hlt)
      have hdrop := hide (drop_getD ds k 0 hlt)
      generalize ds.getD k 0 = d at *
      obtain ⟨d0, d1⟩ := hdb
      go_wp2_with (at_builtin; refine wpList_append_own _ rfl _ _ 100 rfl w.heap.size 31 i0 (.int .u64 0) 1 8 Try.underlying100 hi hz0 hz1 hz2 rfl (by decide) _ _ _ rfl (hown.alloc _) ⟨wr.heap.size, 0, none⟩ 1 1 [.int .u64 ((d + o) % 4294967296)] rfl rfl ?c1 ?c2 ?c3 ?c4 ?c5 ?_)
      case c1 => exact (cell_one_new _ _ _)
      case c2 => intro u hu; simp at hu; subst hu; rfl
      case c3 => unfold maxLen; omega
      case c4 => omega
      case c5 => have := hbr.size; simp; omega
      intro v' w1 hown' hgrow _
      have hb1 := hbr.trans (grown_below hown hgrow hbr.size)
      clear hgrow
      go_wp2
      go_roundw
      case rel =>
        refine ⟨k + 1, (d + o) / 4294967296, pre ++ [(d + o) % 4294967296], by omega, by go_num, rfl, by omega, by omega, by simp [HL.out], ?_, ?_, hb1⟩
        · rw [HP.out, hdrop.out]; simp [carryL]
        · simpa using hown'
      case measure => simp [intOf]; omega
    · obtain rfl : k = ds.length := by omega
      go_wp2_with (at_builtin; refine wpList_append_own _ rfl _ _ 100 rfl w.heap.size 31 i0 (.int .u64 0) 1 8 Try.underlying100 hi hz0 hz1 hz2 rfl (by decide) _ _ _ rfl (hown.alloc _) ⟨wr.heap.size, 0, none⟩ 1 1 [.int .u64 o] rfl rfl ?c1 ?c2 ?c3 ?c4 ?c5 ?_)
      case c1 => exact (cell_one_new _ _ _)
      case c2 => intro u hu; simp at hu; subst hu; rfl
      case c3 => unfold maxLen; omega
      case c4 => omega
      case c5 => have := hbr.size; simp; omega
      intro v' w1 hown' hgrow _
      have hb1 := hbr.trans (grown_below hown hgrow hbr.size)
      clear hgrow
      go_wp2
      go_ret
      refine ⟨v', rfl, ?_, hb1⟩
      unfold Digs
      rw [carryL_length, HP.out, List.drop_length]
      simpa [carryL] using hown'
end Go.Proofs.Ytfgmhmhankikmaa
