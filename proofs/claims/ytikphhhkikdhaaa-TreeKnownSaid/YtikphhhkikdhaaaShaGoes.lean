/- sha.goes as a contract. (Printed by gen_goes.py.) -/
import Derived.Test.YtikphhhkikdhaaaShaWords
namespace Go.Proofs.Ytikphhhkikdhaaa
open Go.RowKit Go.Lib

def V8.val (v : V8) : Value := .agg #[.int .u32 (wv v.a), .int .u32 (wv v.b), .int .u32 (wv v.c), .int .u32 (wv v.d), .int .u32 (wv v.e), .int .u32 (wv v.f), .int .u32 (wv v.g), .int .u32 (wv v.h)]
theorem V8.val_eq (v : V8) : v.val = .agg (wvs v.list).toArray := rfl
/-- The first i words of u, then those of v. -/
def mixL (u v : V8) (i : Nat) : List W32 := u.list.take i ++ v.list.drop i

set_option maxRecDepth 100000 in
set_option maxHeartbeats 3200000 in
theorem goes_any (v : V8) (rb wb : Nat) (ws : List W32) (w : World) (hl : ws.length = 64) (hr : Words w rb 74 rootsL) (hw : Words w wb 74 ws) :
    Calls Try.prog 65 #[v.val, .pointer (some ⟨rb, 0, none⟩), .pointer (some ⟨wb, 0, none⟩)] w fun e w' => e = .returned (goesV v ws).val ∧ Below w.heap.size w w' := by
  unfold V8.val
  obtain ⟨R, hR⟩ : ∃ R : V8, R = goesV v ws := ⟨_, rfl⟩
  rw [← hR]
  have HG : Hid (R = v.plus (rounds v rootsL ws 64)) := hR
  have HL := hide hl
  clear hR hl
  have L1 : ∀ a b, bits .xor .u32 (wv a) (wv b) = wv (a ^^^ b) := w_xor
  have L2 : ∀ a b, bits .and .u32 (wv a) (wv b) = wv (a &&& b) := w_and
  have L3 : ∀ a b, IntKind.u32.wrap (wv a + wv b) = wv (a + b) := w_add
  have L4 : ∀ a, bits .xor .u32 (if IntKind.u32.signed = true then -1 else IntKind.u32.max) (wv a) = wv (~~~ a) := w_com
  go_enter Try.func65, Try.ntmps65
  go_wp2_with fail
  show Code.wp _ _ _ _ ((w.alloc (.cells (wvs v.list).toArray 72)).alloc (.cells (wvs (List.replicate 8 0)).toArray 72))
  have hv : Words ((w.alloc (.cells (wvs v.list).toArray 72)).alloc (.cells (wvs (List.replicate 8 0)).toArray 72)) w.heap.size 72 v.list := (Arr.new w _ _).alloc _
  have ho : Words ((w.alloc (.cells (wvs v.list).toArray 72)).alloc (.cells (wvs (List.replicate 8 0)).toArray 72)) (w.heap.size + 1) 72 (V8.list ⟨0, 0, 0, 0, 0, 0, 0, 0⟩) := Arr.new2 _ _ _ _
  have hb := below2 w (.cells (wvs v.list).toArray 72) (.cells (wvs (List.replicate 8 0)).toArray 72)
  replace hr : Words _ rb 74 rootsL := Arr.later hr hb
  replace hw : Words _ wb 74 ws := Arr.later hw hb
  generalize (w.alloc (.cells (wvs v.list).toArray 72)).alloc (.cells (wvs (List.replicate 8 0)).toArray 72) = W at *
  have c0 : W.cell? ⟨w.heap.size, 0, none⟩ = some (.int .u32 (wv v.a)) := Words.cell hv (i := 0) (by decide : 0 < 8)
  have k0 := Since.cell c0
  have c1 : W.cell? ⟨w.heap.size, 1, none⟩ = some (.int .u32 (wv v.b)) := Words.cell hv (i := 1) (by decide : 1 < 8)
  have k1 := Since.cell c1
  have c2 : W.cell? ⟨w.heap.size, 2, none⟩ = some (.int .u32 (wv v.c)) := Words.cell hv (i := 2) (by decide : 2 < 8)
  have k2 := Since.cell c2
  have c3 : W.cell? ⟨w.heap.size, 3, none⟩ = some (.int .u32 (wv v.d)) := Words.cell hv (i := 3) (by decide : 3 < 8)
  have k3 := Since.cell c3
  have c4 : W.cell? ⟨w.heap.size, 4, none⟩ = some (.int .u32 (wv v.e)) := Words.cell hv (i := 4) (by decide : 4 < 8)
  have k4 := Since.cell c4
  have c5 : W.cell? ⟨w.heap.size, 5, none⟩ = some (.int .u32 (wv v.f)) := Words.cell hv (i := 5) (by decide : 5 < 8)
  have k5 := Since.cell c5
  have c6 : W.cell? ⟨w.heap.size, 6, none⟩ = some (.int .u32 (wv v.g)) := Words.cell hv (i := 6) (by decide : 6 < 8)
  have k6 := Since.cell c6
  have c7 : W.cell? ⟨w.heap.size, 7, none⟩ = some (.int .u32 (wv v.h)) := Words.cell hv (i := 7) (by decide : 7 < 8)
  have k7 := Since.cell c7
  refine region_since (by kernel_rfl) (by kernel_rfl) ?_
  repeat (first | go_big_quiet_skip | (go_big_quiet_want; go_big_quiet_op; go_big_quiet_on))
  refine wpQuiet_nil ?_
  intro w1 hw1
  clear c0 c1 c2 c3 c4 c5 c6 c7 k0 k1 k2 k3 k4 k5 k6 k7
  replace hv : Words w1 w.heap.size 72 v.list := Arr.later hv hw1
  replace ho : Words w1 (w.heap.size + 1) 72 _ := Arr.later ho hw1
  replace hr : Words w1 rb 74 rootsL := Arr.later hr hw1
  replace hw : Words w1 wb 74 ws := Arr.later hw hw1
  replace hb : Below w.heap.size w w1 := later hb hw1
  clear hw1
  go_wp2_with fail
  go_loopw [7, 8, 9, 10, 11, 12, 13, 14, 36] (fun a b c d e f g h i wr => ∃ n : Nat, n ≤ 64 ∧ i = .int .i64 n ∧ a = .int .u32 (wv (rounds v rootsL ws n).a) ∧ b = .int .u32 (wv (rounds v rootsL ws n).b) ∧ c = .int .u32 (wv (rounds v rootsL ws n).c) ∧ d = .int .u32 (wv (rounds v rootsL ws n).d) ∧ e = .int .u32 (wv (rounds v rootsL ws n).e) ∧ f = .int .u32 (wv (rounds v rootsL ws n).f) ∧ g = .int .u32 (wv (rounds v rootsL ws n).g) ∧ h = .int .u32 (wv (rounds v rootsL ws n).h) ∧ Below w1.heap.size w1 wr) (fun _ _ _ _ _ _ _ _ i _ => 64 - (RowKit.intOf i).toNat)
  case atStart => exact ⟨0, by omega, rfl, rfl, rfl, rfl, rfl, rfl, rfl, rfl, rfl, Below.refl _ _⟩
  case round =>
    obtain ⟨n, hn, rfl, rfl, rfl, rfl, rfl, rfl, rfl, rfl, rfl, hbr⟩ := hrel
    by_cases hlt : n < 64
    · have HS : Hid (rounds v rootsL ws (n + 1) = round1 (rounds v rootsL ws n) (rootsL.getD n 0) (ws.getD n 0)) := rfl
      have cr : wr.cell? ⟨rb, n, none⟩ = some (.int .u32 (wv (rootsL.getD n 0))) := by
        rw [hbr.cell (p := ⟨rb, n, none⟩) (Arr.lt hr)]; exact Words.cell hr (i := n) (show n < 64 by omega)
      have cw : wr.cell? ⟨wb, n, none⟩ = some (.int .u32 (wv (ws.getD n 0))) := by
        rw [hbr.cell (p := ⟨wb, n, none⟩) (Arr.lt hw)]; exact Words.cell hw (i := n) (by rw [HL.out]; omega)
      have i1 : (n : Int) < 64 := by omega
      generalize rootsL.getD n 0 = kn at *
      generalize ws.getD n 0 = wn at *
      obtain ⟨r, hr0⟩ : ∃ r, r = rounds v rootsL ws n := ⟨_, rfl⟩
      rw [← hr0] at HS ⊢
      have HR := hide hr0
      clear hr0
      obtain ⟨a, b, c, d, e, f, g, h⟩ := r
      have f1 := Since.cell cr
      have f2 := Since.cell cw
      go_wp2_with fail
      refine region_since (by kernel_rfl) (by kernel_rfl) ?_
      repeat (first | go_big_quiet_skip | (go_big_quiet_want; go_big_quiet_op; go_big_quiet_on))
      go_big_quiet_want; go_big_quiet_op
      refine ⟨_, fun _ => since_same (turn6 _ _), ?_⟩
      go_big_quiet_on
      repeat (first | go_big_quiet_skip | (go_big_quiet_want; go_big_quiet_op; go_big_quiet_on))
      go_big_quiet_want; go_big_quiet_op
      refine ⟨_, fun _ => since_same (turn11 _ _), ?_⟩
      go_big_quiet_on
      repeat (first | go_big_quiet_skip | (go_big_quiet_want; go_big_quiet_op; go_big_quiet_on))
      go_big_quiet_want; go_big_quiet_op
      refine ⟨_, fun _ => since_same (turn25 _ _), ?_⟩
      go_big_quiet_on
      repeat (first | go_big_quiet_skip | (go_big_quiet_want; go_big_quiet_op; go_big_quiet_on))
      refine wpQuiet_nil ?_
      intro w2 hw2
      clear f1 f2 cr cw
      go_wp2_with fail
      refine (turn2 _ _).mono ?_
      rintro _ _ ⟨rfl, rfl⟩
      go_wp2_with fail
      refine (turn13 _ _).mono ?_
      rintro _ _ ⟨rfl, rfl⟩
      go_wp2_with fail
      refine (turn22 _ _).mono ?_
      rintro _ _ ⟨rfl, rfl⟩
      go_wp2_with fail
      go_roundw
      case rel =>
        refine ⟨n + 1, by omega, by simp, ?_⟩
        rw [HS.out]
        exact ⟨rfl, rfl, rfl, rfl, rfl, rfl, rfl, rfl, later hbr hw2⟩
      case measure => simp [RowKit.intOf]; omega
    · have hn64 : n = 64 := by omega
      subst hn64
      replace hv : Words wr w.heap.size 72 v.list := Arr.later hv hbr
      replace ho : Words wr (w.heap.size + 1) 72 _ := Arr.later ho hbr
      replace hb : Below w.heap.size w wr := later hb hbr
      clear hr hw hbr
      obtain ⟨r, hr0⟩ : ∃ r, r = rounds v rootsL ws 64 := ⟨_, rfl⟩
      rw [← hr0] at HG ⊢
      clear hr0
      go_wp2_with fail
      go_loopw [112] (fun i wq => ∃ k : Nat, k ≤ 8 ∧ i = .int .i64 k ∧ Words wq w.heap.size 72 (mixL R v k) ∧ Words wq (w.heap.size + 1) 72 (V8.list ⟨0, 0, 0, 0, 0, 0, 0, 0⟩) ∧ Below w.heap.size w wq) (fun i _ => 8 - (RowKit.intOf i).toNat)
      case atStart => exact ⟨0, by omega, rfl, hv, ho, hb⟩
      case round =>
        obtain ⟨k, hk, rfl, gv, go, gb⟩ := hrel
        by_cases hk8 : k < 8
        · have hcs : k = 0 ∨ k = 1 ∨ k = 2 ∨ k = 3 ∨ k = 4 ∨ k = 5 ∨ k = 6 ∨ k = 7 := by omega
          rcases hcs with rfl | rfl | rfl | rfl | rfl | rfl | rfl | rfl
          · have c := Words.cell gv (i := 0) (by simp [mixL, V8.list])
            rw [show (mixL R v 0).getD 0 0 = v.a from rfl] at c
            have t := Arr.thaw gv 0
            have g2 := Words.set gv 0 (v.a + r.a)
            rw [show (mixL R v 0).set 0 (v.a + r.a) = mixL R v 1 by rw [HG.out]; rfl] at g2
            have g3 := Arr.other go ⟨w.heap.size, 0, none⟩ (.int .u32 (wv (v.a + r.a))) (by simp)
            have gb2 := gb.setCell (p := ⟨w.heap.size, 0, none⟩) (Nat.le_refl _) (.int .u32 (wv (v.a + r.a)))
            have ix : ∀ w, (Instr.index 72 (.agg #[.int .u32 (wv r.a), .int .u32 (wv r.b), .int .u32 (wv r.c), .int .u32 (wv r.d), .int .u32 (wv r.e), .int .u32 (wv r.f), .int .u32 (wv r.g), .int .u32 (wv r.h)]) (.int .i64 0)).run Try.prog w = .ok (.int .u32 (wv r.a)) w := fun _ => by kernel_rfl
            go_wp2_with fail
            go_roundw
            case rel => exact ⟨1, by omega, rfl, g2, g3, gb2⟩
            case measure => simp [RowKit.intOf]
          · have c := Words.cell gv (i := 1) (by simp [mixL, V8.list])
            rw [show (mixL R v 1).getD 1 0 = v.b from rfl] at c
            have t := Arr.thaw gv 1
            have g2 := Words.set gv 1 (v.b + r.b)
            rw [show (mixL R v 1).set 1 (v.b + r.b) = mixL R v 2 by rw [HG.out]; rfl] at g2
            have g3 := Arr.other go ⟨w.heap.size, 1, none⟩ (.int .u32 (wv (v.b + r.b))) (by simp)
            have gb2 := gb.setCell (p := ⟨w.heap.size, 1, none⟩) (Nat.le_refl _) (.int .u32 (wv (v.b + r.b)))
            have ix : ∀ w, (Instr.index 72 (.agg #[.int .u32 (wv r.a), .int .u32 (wv r.b), .int .u32 (wv r.c), .int .u32 (wv r.d), .int .u32 (wv r.e), .int .u32 (wv r.f), .int .u32 (wv r.g), .int .u32 (wv r.h)]) (.int .i64 1)).run Try.prog w = .ok (.int .u32 (wv r.b)) w := fun _ => by kernel_rfl
            go_wp2_with fail
            go_roundw
            case rel => exact ⟨2, by omega, rfl, g2, g3, gb2⟩
            case measure => simp [RowKit.intOf]
          · have c := Words.cell gv (i := 2) (by simp [mixL, V8.list])
            rw [show (mixL R v 2).getD 2 0 = v.c from rfl] at c
            have t := Arr.thaw gv 2
            have g2 := Words.set gv 2 (v.c + r.c)
            rw [show (mixL R v 2).set 2 (v.c + r.c) = mixL R v 3 by rw [HG.out]; rfl] at g2
            have g3 := Arr.other go ⟨w.heap.size, 2, none⟩ (.int .u32 (wv (v.c + r.c))) (by simp)
            have gb2 := gb.setCell (p := ⟨w.heap.size, 2, none⟩) (Nat.le_refl _) (.int .u32 (wv (v.c + r.c)))
            have ix : ∀ w, (Instr.index 72 (.agg #[.int .u32 (wv r.a), .int .u32 (wv r.b), .int .u32 (wv r.c), .int .u32 (wv r.d), .int .u32 (wv r.e), .int .u32 (wv r.f), .int .u32 (wv r.g), .int .u32 (wv r.h)]) (.int .i64 2)).run Try.prog w = .ok (.int .u32 (wv r.c)) w := fun _ => by kernel_rfl
            go_wp2_with fail
            go_roundw
            case rel => exact ⟨3, by omega, rfl, g2, g3, gb2⟩
            case measure => simp [RowKit.intOf]
          · have c := Words.cell gv (i := 3) (by simp [mixL, V8.list])
            rw [show (mixL R v 3).getD 3 0 = v.d from rfl] at c
            have t := Arr.thaw gv 3
            have g2 := Words.set gv 3 (v.d + r.d)
            rw [show (mixL R v 3).set 3 (v.d + r.d) = mixL R v 4 by rw [HG.out]; rfl] at g2
            have g3 := Arr.other go ⟨w.heap.size, 3, none⟩ (.int .u32 (wv (v.d + r.d))) (by simp)
            have gb2 := gb.setCell (p := ⟨w.heap.size, 3, none⟩) (Nat.le_refl _) (.int .u32 (wv (v.d + r.d)))
            have ix : ∀ w, (Instr.index 72 (.agg #[.int .u32 (wv r.a), .int .u32 (wv r.b), .int .u32 (wv r.c), .int .u32 (wv r.d), .int .u32 (wv r.e), .int .u32 (wv r.f), .int .u32 (wv r.g), .int .u32 (wv r.h)]) (.int .i64 3)).run Try.prog w = .ok (.int .u32 (wv r.d)) w := fun _ => by kernel_rfl
            go_wp2_with fail
            go_roundw
            case rel => exact ⟨4, by omega, rfl, g2, g3, gb2⟩
            case measure => simp [RowKit.intOf]
          · have c := Words.cell gv (i := 4) (by simp [mixL, V8.list])
            rw [show (mixL R v 4).getD 4 0 = v.e from rfl] at c
            have t := Arr.thaw gv 4
            have g2 := Words.set gv 4 (v.e + r.e)
            rw [show (mixL R v 4).set 4 (v.e + r.e) = mixL R v 5 by rw [HG.out]; rfl] at g2
            have g3 := Arr.other go ⟨w.heap.size, 4, none⟩ (.int .u32 (wv (v.e + r.e))) (by simp)
            have gb2 := gb.setCell (p := ⟨w.heap.size, 4, none⟩) (Nat.le_refl _) (.int .u32 (wv (v.e + r.e)))
            have ix : ∀ w, (Instr.index 72 (.agg #[.int .u32 (wv r.a), .int .u32 (wv r.b), .int .u32 (wv r.c), .int .u32 (wv r.d), .int .u32 (wv r.e), .int .u32 (wv r.f), .int .u32 (wv r.g), .int .u32 (wv r.h)]) (.int .i64 4)).run Try.prog w = .ok (.int .u32 (wv r.e)) w := fun _ => by kernel_rfl
            go_wp2_with fail
            go_roundw
            case rel => exact ⟨5, by omega, rfl, g2, g3, gb2⟩
            case measure => simp [RowKit.intOf]
          · have c := Words.cell gv (i := 5) (by simp [mixL, V8.list])
            rw [show (mixL R v 5).getD 5 0 = v.f from rfl] at c
            have t := Arr.thaw gv 5
            have g2 := Words.set gv 5 (v.f + r.f)
            rw [show (mixL R v 5).set 5 (v.f + r.f) = mixL R v 6 by rw [HG.out]; rfl] at g2
            have g3 := Arr.other go ⟨w.heap.size, 5, none⟩ (.int .u32 (wv (v.f + r.f))) (by simp)
            have gb2 := gb.setCell (p := ⟨w.heap.size, 5, none⟩) (Nat.le_refl _) (.int .u32 (wv (v.f + r.f)))
            have ix : ∀ w, (Instr.index 72 (.agg #[.int .u32 (wv r.a), .int .u32 (wv r.b), .int .u32 (wv r.c), .int .u32 (wv r.d), .int .u32 (wv r.e), .int .u32 (wv r.f), .int .u32 (wv r.g), .int .u32 (wv r.h)]) (.int .i64 5)).run Try.prog w = .ok (.int .u32 (wv r.f)) w := fun _ => by kernel_rfl
            go_wp2_with fail
            go_roundw
            case rel => exact ⟨6, by omega, rfl, g2, g3, gb2⟩
            case measure => simp [RowKit.intOf]
          · have c := Words.cell gv (i := 6) (by simp [mixL, V8.list])
            rw [show (mixL R v 6).getD 6 0 = v.g from rfl] at c
            have t := Arr.thaw gv 6
            have g2 := Words.set gv 6 (v.g + r.g)
            rw [show (mixL R v 6).set 6 (v.g + r.g) = mixL R v 7 by rw [HG.out]; rfl] at g2
            have g3 := Arr.other go ⟨w.heap.size, 6, none⟩ (.int .u32 (wv (v.g + r.g))) (by simp)
            have gb2 := gb.setCell (p := ⟨w.heap.size, 6, none⟩) (Nat.le_refl _) (.int .u32 (wv (v.g + r.g)))
            have ix : ∀ w, (Instr.index 72 (.agg #[.int .u32 (wv r.a), .int .u32 (wv r.b), .int .u32 (wv r.c), .int .u32 (wv r.d), .int .u32 (wv r.e), .int .u32 (wv r.f), .int .u32 (wv r.g), .int .u32 (wv r.h)]) (.int .i64 6)).run Try.prog w = .ok (.int .u32 (wv r.g)) w := fun _ => by kernel_rfl
            go_wp2_with fail
            go_roundw
            case rel => exact ⟨7, by omega, rfl, g2, g3, gb2⟩
            case measure => simp [RowKit.intOf]
          · have c := Words.cell gv (i := 7) (by simp [mixL, V8.list])
            rw [show (mixL R v 7).getD 7 0 = v.h from rfl] at c
            have t := Arr.thaw gv 7
            have g2 := Words.set gv 7 (v.h + r.h)
            rw [show (mixL R v 7).set 7 (v.h + r.h) = mixL R v 8 by rw [HG.out]; rfl] at g2
            have g3 := Arr.other go ⟨w.heap.size, 7, none⟩ (.int .u32 (wv (v.h + r.h))) (by simp)
            have gb2 := gb.setCell (p := ⟨w.heap.size, 7, none⟩) (Nat.le_refl _) (.int .u32 (wv (v.h + r.h)))
            have ix : ∀ w, (Instr.index 72 (.agg #[.int .u32 (wv r.a), .int .u32 (wv r.b), .int .u32 (wv r.c), .int .u32 (wv r.d), .int .u32 (wv r.e), .int .u32 (wv r.f), .int .u32 (wv r.g), .int .u32 (wv r.h)]) (.int .i64 7)).run Try.prog w = .ok (.int .u32 (wv r.h)) w := fun _ => by kernel_rfl
            go_wp2_with fail
            go_roundw
            case rel => exact ⟨8, by omega, rfl, g2, g3, gb2⟩
            case measure => simp [RowKit.intOf]
        · have hk8' : k = 8 := by omega
          subst hk8'
          have gv' : Words wr w.heap.size 72 R.list := gv
          have hrow := Arr.row go (wvs R.list)
          have hbe := below_setRow gb (by omega : w.heap.size ≤ w.heap.size + 1) (wvs R.list).toArray
          have HAG := hide (show R.val = .agg (wvs R.list).toArray from rfl)
          have hi : Hid ((Try.prog.info? 72).map (·.size) = some (wvs R.list).toArray.size) := by unfold Hid; kernel_rfl
          have HONE := hide (show (wvs R.list).toArray.all (·.oneCell') = true by simpa using wvs_one R.list)
          have HSZ := hide (show (wvs (V8.list ⟨0, 0, 0, 0, 0, 0, 0, 0⟩)).toArray.size = (wvs R.list).toArray.size from rfl)
          have HP1 := hide gv'
          have HP0 := hide go
          clear gv' gv go
          unfold Words at HP1
          generalize wvs R.list = vs at *
          go_wp2_with (first | (refine wpList_load_row rfl 72 (.tmp 3) rfl w.heap.size rfl 72 vs.toArray (0, 0) _ HP1.out Try.underlying72 rfl hi.out ?_) | (refine wpList_store_row rfl 72 (.tmp 6) (.tmp 123) rfl (w.heap.size + 1) vs.toArray rfl rfl 72 _ HP0.out hi.out HSZ.out HONE.out ?_))
          refine bodyPost_ret (v := .agg vs.toArray) (results_cell_row rfl _ _ (w.heap.size + 1) 72 _ (0, 0) _ rfl hrow Try.underlying72 rfl hi.out) rfl ⟨?_, hbe⟩
          rw [← HAG.out]; rfl
end Go.Proofs.Ytikphhhkikdhaaa
