/- The reference's product of a wide number and a word (mintageref02.Times, Mul), as contracts, where the product fits. -/
import Derived.Test.YtfgmhmhankikmaaRef02c
import Derived.Deep.AppendLies
namespace Go.Proofs.Ytfgmhmhankikmaa
open Go.RowKit Go.Lib

/-- A slice of n digits in new memory. -/
def NewDigs (w : World) (n : Nat) (ds : List Int) (g cap : Nat) (w' : World) : Prop :=
  w'.ownsRow w.heap.size 31 1 (.slice (some ⟨g, 0, none⟩) n cap) n (ds.map (Value.int .u64)) ∧ ds.length = n ∧ w.heap.size ≤ g ∧ g < w'.heap.size ∧ Below w.heap.size w w'

theorem newDigs_of {w w' : World} {v : Value} {ds : List Int} {n : Nat} (h : Digs w' w.heap.size v ds) (hl : ds.length = n) (hn : 0 < n) (hb : Below w.heap.size w w') : ∃ g cap, v = .slice (some ⟨g, 0, none⟩) n cap ∧ NewDigs w n ds g cap w' := by
  unfold Digs at h
  rw [hl] at h
  obtain ⟨g, cap, rfl, h1, h2, _⟩ := ownsRow_at h hn
  exact ⟨g, cap, rfl, h, hl, h2, h1, hb⟩

theorem of4 (hi lo : Int) (w : World) (h1 : Word hi) (h2 : Word lo) :
    Calls Try.prog 77 #[.agg #[.int .u64 hi, .int .u64 lo]] w fun e w' => ∃ g cap, e = .returned (.slice (some ⟨g, 0, none⟩) 4 cap) ∧ NewDigs w 4 (ofL hi lo) g cap w' :=
  (of_any hi lo w h1 h2).mono fun e w' ⟨v, he, hd, hb⟩ => by
    obtain ⟨g, cap, rfl, h⟩ := newDigs_of (n := 4) hd rfl (by omega) hb
    exact ⟨g, cap, he, h⟩
theorem by5 (g cap base : Nat) (ds : List Int) (n : Int) (w : World) (hd : w.ownsRow base 31 1 (.slice (some ⟨g, 0, none⟩) 4 cap) 4 (ds.map (Value.int .u64))) (hl : ds.length = 4) (hb : ∀ d ∈ ds, 0 ≤ d ∧ d < 4294967296) (n0 : 0 ≤ n ∧ n < 4294967296) :
    Calls Try.prog 76 #[.slice (some ⟨g, 0, none⟩) 4 cap, .int .u64 n] w fun e w' => ∃ g cap, e = .returned (.slice (some ⟨g, 0, none⟩) 5 cap) ∧ NewDigs w 5 (byL ds n 0) g cap w' := by
  have := by_any g cap ds n w (by omega) (by omega) (by unfold Digs; rw [hl]; exact ownsRow_le hd (Nat.zero_le _)) hb n0.1 n0.2
  rw [hl] at this
  refine this.mono fun e w' ⟨v, he, hd, hb⟩ => ?_
  obtain ⟨g, cap, rfl, h⟩ := newDigs_of (n := 5) hd (by rw [byL_length, hl]) (by omega) hb
  exact ⟨g, cap, he, h⟩
theorem carry7 (g cap base : Nat) (ds : List Int) (w : World) (hd : w.ownsRow base 31 1 (.slice (some ⟨g, 0, none⟩) 6 cap) 6 (ds.map (Value.int .u64))) (hl : ds.length = 6) (hb : ∀ d ∈ ds, 0 ≤ d ∧ d < 9223372036854775808) :
    Calls Try.prog 79 #[.slice (some ⟨g, 0, none⟩) 6 cap] w fun e w' => ∃ g cap, e = .returned (.slice (some ⟨g, 0, none⟩) 7 cap) ∧ NewDigs w 7 (carryL ds 0) g cap w' := by
  have := carry_any g cap ds w (by omega) (by omega) (by unfold Digs; rw [hl]; exact ownsRow_le hd (Nat.zero_le _)) hb
  rw [hl] at this
  refine this.mono fun e w' ⟨v, he, hd, hb⟩ => ?_
  obtain ⟨g, cap, rfl, h⟩ := newDigs_of (n := 7) hd (by rw [carryL_length, hl]) (by omega) hb
  exact ⟨g, cap, he, h⟩
theorem wide7 (g cap base : Nat) (d0 d1 d2 d3 : Int) (w : World) (hd : w.ownsRow base 31 1 (.slice (some ⟨g, 0, none⟩) 7 cap) 7 ([d0, d1, d2, d3, 0, 0, 0].map (Value.int .u64)))
    (a0 : 0 ≤ d0 ∧ d0 < 4294967296) (a1 : 0 ≤ d1 ∧ d1 < 4294967296) (a2 : 0 ≤ d2 ∧ d2 < 4294967296) (a3 : 0 ≤ d3 ∧ d3 < 4294967296) :
    Calls Try.prog 78 #[.slice (some ⟨g, 0, none⟩) 7 cap] w fun e w' => e = .returned (.tuple #[.agg #[.int .u64 (d3 * 4294967296 + d2), .int .u64 (d1 * 4294967296 + d0)], .bool true]) ∧ Below w.heap.size w w' :=
  wide_any g cap d0 d1 d2 d3 3 w (by omega) (by unfold Digs; exact ownsRow_le hd (Nat.zero_le _)) a0 a1 a2 a3

theorem sumL_at (l h : List Int) (k : Nat) (h1 : 1 ≤ k) (h2 : k < 5) : (sumL l h).getD k 0 = l.getD k 0 + h.getD (k - 1) 0 := by
  have : k = 1 ∨ k = 2 ∨ k = 3 ∨ k = 4 := by omega
  rcases this with rfl | rfl | rfl | rfl <;> rfl
theorem take_next {α : Type} (l : List α) (k : Nat) (d : α) (h : k < l.length) : l.take (k + 1) = l.take k ++ [l.getD k d] := by
  rw [List.take_succ_eq_append_getElem h, getD_eq l k d h]

set_option maxRecDepth 100000 in
set_option maxHeartbeats 3200000 in
theorem refTimes (xh xl b : Int) (w : World) (h1 : Word xh) (h2 : Word xl) (h3 : Word b) (hfit : (xh * 18446744073709551616 + xl) * b < 18446744073709551616 * 18446744073709551616) :
    Calls Try.prog 47 #[.agg #[.int .u64 xh, .int .u64 xl], .int .u64 b] w fun e w' =>
      e = .returned (.tuple #[.agg #[.int .u64 ((xh * 18446744073709551616 + xl) * b / 18446744073709551616), .int .u64 ((xh * 18446744073709551616 + xl) * b % 18446744073709551616)], .int .i64 0]) ∧ Below w.heap.size w w' := by
  obtain ⟨i0, hi, hz0, hz1, hz2⟩ := info_parts info64
  obtain ⟨e0, e1, e2, e3, hcarry, r0, r1, r2, r3, hq, hr, hsmall⟩ := fit_digits _ _ _ h1 h2 h3 hfit
  obtain ⟨b0, b1⟩ := h3
  have hn1 := hide (show 0 ≤ b % 4294967296 ∧ b % 4294967296 < 4294967296 from by omega)
  have hn2 := hide (show 0 ≤ b / 4294967296 ∧ b / 4294967296 < 4294967296 from by omega)
  have HQ := hide hq
  have HR := hide hr
  have HO := hide (ofL_small h1 h2)
  clear hq hr hfit
  have c1 : ((w.alloc (Obj.cells #[.int .u64 xh, .int .u64 xl] 70)).alloc (Obj.cells #[.int .u64 0, .int .u64 0] 70)).cell? ⟨w.heap.size, 0, none⟩ = some (.int .u64 xh) := by simp [go_sem]
  have c2 : ((w.alloc (Obj.cells #[.int .u64 xh, .int .u64 xl] 70)).alloc (Obj.cells #[.int .u64 0, .int .u64 0] 70)).cell? ⟨w.heap.size, 1, none⟩ = some (.int .u64 xl) := by simp [go_sem]
  go_enter Try.func47, Try.ntmps47
  go_wp2_with fail
  refine (of4 xh xl _ h1 h2).mono ?_
  rintro e w1 ⟨g1, k1, rfl, hd1, hl1, hg1, hg1', hb1⟩
  replace c1 := cell_later hb1 c1
  replace c2 := cell_later hb1 c2
  have D1 := hide hd1
  clear hd1
  go_wp2_with fail
  refine (by5 g1 k1 _ (ofL xh xl) _ _ D1.out rfl HO.out hn1.out).mono ?_
  rintro e w2 ⟨g2, k2, rfl, hd2, hl2, hg2, hg2', hb2⟩
  replace c1 := cell_later hb2 c1
  replace c2 := cell_later hb2 c2
  have D2 := hide hd2
  clear hd2 D1 hl1
  go_wp2_with fail
  refine (of4 xh xl _ h1 h2).mono ?_
  rintro e w3 ⟨g3, k3, rfl, hd3, hl3, hg3, hg3', hb3⟩
  replace c1 := cell_later hb3 c1
  replace c2 := cell_later hb3 c2
  have D3 := hide hd3
  clear hd3 hl3
  go_wp2_with fail
  refine (by5 g3 k3 _ (ofL xh xl) _ _ D3.out rfl HO.out hn2.out).mono ?_
  rintro e w4 ⟨g4, k4, rfl, hd4, hl4, hg4, hg4', hb4⟩
  have D2' := hide (ownsRow_later (ownsRow_later D2.out hb3) hb4)
  have D4 := hide hd4
  clear hd4 D3 D2 c1 c2
  have HB := hide (later (below2 w (Obj.cells #[.int .u64 xh, .int .u64 xl] 70) (Obj.cells #[.int .u64 0, .int .u64 0] 70)) (later hb1 (later hb2 (later hb3 hb4))))
  have hz : w4.cell? ⟨w.heap.size + 1, 0, none⟩ = some (.int .u64 0) ∧ w4.cell? ⟨w.heap.size + 1, 1, none⟩ = some (.int .u64 0) ∧ w4.frozen? ⟨w.heap.size + 1, 0, none⟩ = false ∧ w4.frozen? ⟨w.heap.size + 1, 1, none⟩ = false := by
    have hb := later hb1 (later hb2 (later hb3 hb4))
    refine ⟨cell_later hb (by simp [go_sem]), cell_later hb (by simp [go_sem]), ?_, ?_⟩
    · rw [hb.frozen (by simp)]; simp [go_sem]
    · rw [hb.frozen (by simp)]; simp [go_sem]
  clear hb1 hb2 hb3 hb4
  generalize hP : byL (ofL xh xl) (b % 4294967296) 0 = ps at *
  generalize hQ : byL (ofL xh xl) (b / 4294967296) 0 = qs at *
  have HL2 := hide hl2
  have HL4 := hide hl4
  have HC := hide hcarry
  have HS := hide hsmall
  clear hP hQ hl2 hl4 hcarry hsmall
  have p0 : w4.cell? ⟨g2, 0, none⟩ = some (.int .u64 (ps.getD 0 0)) := digs_cell D2'.out 0 (by omega) HL2.out
  go_wp2_with fail
  have hg2w : g2 < w4.heap.size := by
    obtain ⟨g', cap', e, h, _⟩ := ownsRow_at D2'.out (by omega)
    simp only [Value.slice.injEq, Option.some.injEq, Addr.mk.injEq] at e
    obtain ⟨⟨rfl, _⟩, _⟩ := e
    exact h
  go_loopw [8, 9] (fun d i wr => ∃ (k : Nat) (g cap : Nat), 1 ≤ k ∧ k ≤ 5 ∧ i = .int .i64 k ∧ d = .slice (some ⟨g, 0, none⟩) k cap ∧
      wr.ownsRow w4.heap.size 31 1 (.slice (some ⟨g, 0, none⟩) k cap) k (((sumL ps qs).take k).map (Value.int .u64)) ∧ Below w4.heap.size w4 wr) (fun _ i _ => 5 - (intOf i).toNat)
  case atStart =>
    refine ⟨1, w4.heap.size, 1, by omega, by omega, rfl, rfl, ?_, (Below.refl _ _).alloc (Nat.le_refl _) _⟩
    have := World.ownsRow_lit (w := w4) (base := w4.heap.size) (e := 31) (size := 1) #[.int .u64 (ps.getD 0 0)] 1 (by simp) (by unfold maxLen; omega) rfl
    simpa [sumL] using this
  case round =>
    obtain ⟨k, g, cap, hk1, hk5, rfl, rfl, hown, hbr⟩ := hrel
    by_cases hlt : k < 5
    · obtain ⟨j, rfl⟩ : ∃ j, k = j + 1 := ⟨k - 1, by omega⟩
      have cx : wr.cell? ⟨g2, j + 1, none⟩ = some (.int .u64 (ps.getD (j + 1) 0)) := (hbr.cell (p := ⟨g2, j + 1, none⟩) hg2w).trans (digs_cell D2'.out (j + 1) (by omega) HL2.out)
      have cy : wr.cell? ⟨g4, j, none⟩ = some (.int .u64 (qs.getD j 0)) := (hbr.cell (p := ⟨g4, j, none⟩) hg4').trans (digs_cell D4.out j (by omega) HL4.out)
      have hs := HS.out ((sumL ps qs).getD (j + 1) 0) (getD_mem _ _ _ (by show j + 1 < 6; omega))
      have htk := hide (take_next (sumL ps qs) (j + 1) 0 (by show j + 1 < 6; omega))
      have hsx := sumL_at ps qs (j + 1) hk1 hlt
      rw [Nat.add_sub_cancel] at hsx
      rw [hsx] at hs
      have HX := hide hsx
      clear hsx
      generalize ps.getD (j + 1) 0 = x at *
      generalize qs.getD j 0 = y at *
      obtain ⟨s0, s1⟩ := hs
      have ag : (Value.slice (some ⟨g, 0, none⟩) (j + 1) cap).ownBlock ≠ some g2 := by
        have := (hown.lt g rfl).1
        simp [Value.ownBlock]; omega
      have ah : (Value.slice (some ⟨g, 0, none⟩) (j + 1) cap).ownBlock ≠ some g4 := by
        have := (hown.lt g rfl).1
        simp [Value.ownBlock]; omega
      have q0 : (0 : Int) ≤ (j : Int) + 1 := by omega
      have q1 : (j : Int) + 1 < 5 := by omega
      have q2 : (0 : Int) ≤ (j : Int) := by omega
      have q3 : (j : Int) < 5 := by omega
      have q4 : ((j : Int) + 1).toNat = j + 1 := by omega
      have q5 : IntKind.i64.wrap (j : Int) = j := IntWalk.i64_in _ (by omega)
      have q6 : IntKind.u64.wrap (x + y) = x + y := IntWalk.u64_in _ (by omega)
      have hsz := hbr.size
      go_wp2_with fail
      go_region_held3 (fun w' => w'.cell? ⟨g2, j + 1, none⟩ = some (.int .u64 x) ∧ w'.cell? ⟨g4, j, none⟩ = some (.int .u64 y))
        ((go_split_ands; (refine ⟨?_, ?_⟩ <;> (first | (go_keep; done) | (rw [hgrow.cell_far _ (by simp; omega) (Ne.symm ag)]; assumption) | (rw [hgrow.cell_far _ (by simp; omega) (Ne.symm ah)]; assumption)))))
        ((refine step_append_lies _ (by rfl) _ _ _ (by rfl) w4.heap.size 31 i0 _ 1 8 Try.underlying100 hi hz0 hz1 hz2 rfl (by omega) _ (j + 1) _ (by rfl) ((hown.alloc _).drew) ⟨wr.heap.size, 0, none⟩ 1 1 [.int .u64 (x + y)] (by rfl) (by rfl) (World.news_of_block (cs := #[.int .u64 (x + y)]) (t := 31) (fr := (0, 0)) (heap_alloc_new wr _)) (by simp [Value.oneCell']) (by omega) (by unfold maxLen; omega) (by omega) (by simp; omega) (wr.heap.size + 1) (by simp) ?_; intro gg cap w5 hown1 hgrow hat hlt))
      clear q0 q2 q3 q4 q5 q6 cx cy
      have hb1 : Below w4.heap.size w4 w5 := hbr.trans (((Below.refl _ _).alloc hsz _).drew.grown hgrow (by simp; omega) (fun i hi => (hown.lt i hi).1))
      clear hgrow hat hown
      go_wp2_with fail
      go_roundw
      case rel =>
        refine ⟨j + 2, gg, cap, by omega, by omega, by go_num, rfl, ?_, hb1⟩
        rw [htk.out, HX.out, List.map_append]
        simpa using hown1
      case measure => simp [intOf]; omega
    · obtain rfl : k = 5 := by omega
      have cy : wr.cell? ⟨g4, 4, none⟩ = some (.int .u64 (qs.getD 4 0)) := (hbr.cell (p := ⟨g4, 4, none⟩) hg4').trans (digs_cell D4.out 4 (by omega) HL4.out)
      have hfull : (sumL ps qs).take 5 ++ [qs.getD 4 0] = sumL ps qs := rfl
      have HF := hide hfull
      clear hfull
      generalize qs.getD 4 0 = y at *
      go_wp2_with (at_builtin; refine wpList_append_own _ rfl _ _ 100 rfl w4.heap.size 31 i0 (.int .u64 0) 1 8 Try.underlying100 hi hz0 hz1 hz2 rfl (by decide) _ _ _ rfl (hown.alloc _) ⟨wr.heap.size, 0, none⟩ 1 1 [.int .u64 y] rfl rfl ?c1 ?c2 ?c3 ?c4 ?c5 ?_)
      case c1 => exact (cell_one_new _ _ _)
      case c2 => intro u hu; simp at hu; subst hu; rfl
      case c3 => unfold maxLen; omega
      case c4 => omega
      case c5 => have := hbr.size; simp; omega
      intro v' w5 hown' hgrow _
      have hb5 := hbr.trans (grown_below hown hgrow hbr.size)
      clear hgrow hown
      obtain ⟨g6, k6, rfl, hg6, hg6b, _⟩ := ownsRow_at hown' (by omega)
      have D6 := hide hown'
      clear hown'
      go_wp2_with fail
      refine (carry7 g6 k6 w4.heap.size (sumL ps qs) _ (by have := D6.out; rw [← HF.out, List.map_append]; simpa using this) rfl HS.out).mono ?_
      rintro e w6 ⟨g7, k7, rfl, hd7, -, -, -, hb6⟩
      rw [HC.out] at hd7
      have D7 := hide hd7
      clear hd7
      go_wp2_with fail
      refine (wide7 g7 k7 _ e0 e1 e2 e3 _ D7.out r0 r1 r2 r3).mono ?_
      rintro e w7 ⟨rfl, hb7⟩
      obtain ⟨z0, z1, z2, z3⟩ := hz
      have hb47 : Below w4.heap.size w4 w7 := hb5.trans ((later hb6 hb7).mono hb5.size)
      have rlt : w.heap.size + 1 < w4.heap.size := World.block_lt_of_cell? w4 _ z0
      replace z0 := cell_later hb47 z0
      replace z1 := cell_later hb47 z1
      rw [← hb47.frozen (p := ⟨w.heap.size + 1, 0, none⟩) rlt] at z2
      rw [← hb47.frozen (p := ⟨w.heap.size + 1, 1, none⟩) rlt] at z3
      have rlt7 : w.heap.size + 1 < w7.heap.size := Nat.lt_of_lt_of_le rlt hb47.size
      go_wp2_with fail
      simp [bodyPost, results, Try.results47, go_sem, rlt7, z0, z1]
      refine ⟨⟨HQ.out, HR.out⟩, ?_⟩
      have hb07 : Below w.heap.size w w7 := HB.out.trans (hb47.mono HB.out.size)
      exact ((hb07.setCell (by simp) _).setCell (by simp) _).alloc (by have := hb07.size; simpa using this) _

/-- mintageref02.Mul -/
theorem refMul (x y : Int) (w : World) (h1 : Word x) (h2 : Word y) :
    Calls Try.prog 48 #[.int .u64 x, .int .u64 y] w fun e w' =>
      e = .returned (.agg #[.int .u64 (x * y / 18446744073709551616), .int .u64 (x * y % 18446744073709551616)]) ∧ Below w.heap.size w w' := by
  have hfit : (0 * 18446744073709551616 + x) * y < 18446744073709551616 * 18446744073709551616 := by
    obtain ⟨a, b⟩ := h1; obtain ⟨c, d⟩ := h2
    have : x * y ≤ 18446744073709551615 * 18446744073709551615 := Int.mul_le_mul (by omega) (by omega) c (by omega)
    rw [Int.zero_mul, Int.zero_add]
    omega
  have ht := refTimes 0 x y (w.alloc (Obj.cells #[.int .u64 0, .int .u64 0] 70)) (by unfold Word; omega) h1 h2 hfit
  rw [Int.zero_mul, Int.zero_add] at ht
  have HT := hide ht
  clear ht hfit
  go_enter Try.func48, Try.ntmps48
  go_wp2_with fail
  refine HT.out.mono ?_
  rintro e w1 ⟨rfl, hb1⟩
  have z0 : w1.cell? ⟨w.heap.size, 0, none⟩ = some (.int .u64 0) := cell_later hb1 (by simp [go_sem])
  have z1 : w1.cell? ⟨w.heap.size, 1, none⟩ = some (.int .u64 0) := cell_later hb1 (by simp [go_sem])
  have z2 : w1.frozen? ⟨w.heap.size, 0, none⟩ = false := by rw [hb1.frozen (by simp)]; simp [go_sem]
  have z3 : w1.frozen? ⟨w.heap.size, 1, none⟩ = false := by rw [hb1.frozen (by simp)]; simp [go_sem]
  have rlt : w.heap.size < w1.heap.size := World.block_lt_of_cell? w1 _ z0
  generalize hq : x * y / 18446744073709551616 = q at *
  generalize hr : x * y % 18446744073709551616 = r at *
  have HQ := hide hq
  have HR := hide hr
  clear hq hr
  go_wp2_with fail
  simp [bodyPost, results, Try.results48, go_sem, rlt, z0, z1]
  have hb : Below w.heap.size w w1 := ((Below.refl w.heap.size w).alloc (Nat.le_refl _) _).trans (hb1.mono (by simp))
  exact ⟨⟨HQ.out.symm, HR.out.symm⟩, ((hb.setCell (by simp) _).setCell (by simp) _).alloc (by have := hb.size; simpa using this) _⟩
end Go.Proofs.Ytfgmhmhankikmaa
