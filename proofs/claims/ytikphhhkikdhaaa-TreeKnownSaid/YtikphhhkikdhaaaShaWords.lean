/- sha.words as a contract. -/
import Derived.Test.YtikphhhkikdhaaaArr
namespace Go.Proofs.Ytikphhhkikdhaaa
open Go.RowKit Go.Lib

def sByte (s : ByteArray) (p : Nat) : W32 := BitVec.ofNat 32 (s.data.toList.getD p 0).toNat
theorem sByte_at (s : ByteArray) (p : Nat) (h : p < s.size) : ((s[p]'h).toNat : Int) = wv (sByte s p) := by
  have hl : p < s.data.toList.length := by simpa using h
  unfold sByte
  rw [List.getD_eq_getElem?_getD, List.getElem?_eq_getElem hl, Option.getD_some]
  have e : s.data.toList[p] = s[p] := by simp; rfl
  rw [e, wv_ofNat _ (by have := (s[p]).toNat_lt; omega)]
abbrev zero64 : Obj := .cells (wvs (fill [] 64)).toArray 74

set_option maxRecDepth 100000 in
set_option maxHeartbeats 3200000 in
theorem words_any (s : ByteArray) (w : World) (hs : s.size = 64) :
    Calls Try.prog 64 #[.string s] w fun e w' => e = .returned (.agg (wvs (sched (sByte s))).toArray) ∧ Below w.heap.size w w' := by
  go_enter Try.func64, Try.ntmps64
  go_wp2_with fail
  show Code.wp _ _ _ _ ((w.alloc zero64).alloc zero64)
  have r0 : Words ((w.alloc zero64).alloc zero64) w.heap.size 74 (fill [] 64) := (Arr.new w _ 74).alloc _
  have r1 : Words ((w.alloc zero64).alloc zero64) (w.heap.size + 1) 74 (fill [] 64) := Arr.new2 _ _ _ _
  have hb := below2 w zero64 zero64
  generalize (w.alloc zero64).alloc zero64 = W at *
  go_loopw [9] (fun i wr => ∃ k : Nat, k ≤ 16 ∧ i = .int .i64 k ∧ Words wr w.heap.size 74 (fill [] 64) ∧ Words wr (w.heap.size + 1) 74 (fill (fw (sByte s) k) 64) ∧ Below w.heap.size w wr) (fun i _ => 16 - (RowKit.intOf i).toNat)
  case atStart => exact ⟨0, by omega, rfl, r0, r1, hb⟩
  case round =>
    obtain ⟨k, hk, rfl, q0, q1, hbr⟩ := hrel
    by_cases hlt : k < 16
    · go_wp2_with fail
      have q1' : Words wr (w.heap.size + 1) 74 (fill (fw (sByte s) k ++ [part (sByte s) k 0]) 64) := by
        have := fill_zero (fw (sByte s) k) 64 (by rw [fw_length]; omega)
        rw [show part (sByte s) k 0 = 0 from rfl, this]; exact q1
      go_loopw [12] (fun i wr => ∃ j : Nat, j ≤ 4 ∧ i = .int .i64 j ∧ Words wr w.heap.size 74 (fill [] 64) ∧ Words wr (w.heap.size + 1) 74 (fill (fw (sByte s) k ++ [part (sByte s) k j]) 64) ∧ Below w.heap.size w wr) (fun i _ => 4 - (RowKit.intOf i).toNat)
      case atStart => exact ⟨0, by omega, rfl, q0, q1', hbr⟩
      case round =>
        obtain ⟨j, hj, rfl, p0, p1, hbr2⟩ := hrel
        by_cases hlt2 : j < 4
        · have c1 : wr.cell? ⟨w.heap.size + 1, k, none⟩ = some (.int .u32 (wv (part (sByte s) k j))) := by
            have := p1.cell (i := k) (by rw [fill_length _ _ (by simp [fw_length]; omega)]; omega)
            rw [this]
            have := fill_last (fw (sByte s) k) (part (sByte s) k j) 64
            rw [fw_length] at this
            rw [this]
          have f1 := Since.cell c1
          have i1 : (k : Int) < 64 := by omega
          have i2 : 4 * (k : Int) + (j : Int) < 64 := by omega
          have i3 : 0 ≤ 4 * (k : Int) + (j : Int) := by omega
          have e1 : ∀ h : 4 * k + j < s.size, ((s[4 * k + j]'h).toNat : Int) = wv (sByte s (4 * k + j)) := fun h => sByte_at s _ h
          have e2 : wv (part (sByte s) k j) * (256 : Int) % (4294967296 : Int) = wv (part (sByte s) k j <<< 8) := w_shl8 _
          have e4 : wv (sByte s (4 * k + j)) % 4294967296 = wv (sByte s (4 * k + j)) := w_mod _
          have e3 := w_or (part (sByte s) k j <<< 8) (sByte s (4 * k + j))
          go_wp2_with fail
          refine region_since_tail 14 (by kernel_rfl) (by kernel_rfl) ?_
          simp only [List.take_succ_cons, List.take_zero]
          repeat (first | go_big_quiet_skip | (go_big_quiet_want; go_big_quiet_op; go_big_quiet_on))
          refine wpQuiet_nil ?_
          intro w' hw'
          simp only [List.drop_succ_cons, List.drop_zero]
          have p0' := Arr.later p0 hw'
          have p1' : Words w' (w.heap.size + 1) 74 _ := Arr.later p1 hw'
          have c2 := cell_later hw' c1
          have t2 := Arr.thaw p1' k
          clear f1 c1
          go_wp2_with fail
          go_roundw
          case rel =>
            refine ⟨j + 1, by omega, by simp, Arr.other p0' _ _ (by simp), ?_, (hbr2.trans (hw'.mono hbr2.size)).setCell (by simp) _⟩
            have := Words.set p1' k (part (sByte s) k j <<< 8 ||| sByte s (4 * k + j))
            have e := fill_over (fw (sByte s) k) (part (sByte s) k j) (part (sByte s) k j <<< 8 ||| sByte s (4 * k + j)) 64 (by rw [fw_length]; omega)
            rw [fw_length] at e
            rw [e] at this
            exact this
          case measure => simp [RowKit.intOf]; omega
        · go_wp2_with fail
          have hj4 : j = 4 := by omega
          subst hj4
          go_roundw
          case rel =>
            refine ⟨k + 1, by omega, by simp, p0, ?_, hbr2⟩
            rw [fw_succ]; exact p1
          case measure => simp [RowKit.intOf]; omega
    · have hk16 : k = 16 := by omega
      subst hk16
      have q1' : Words wr (w.heap.size + 1) 74 (fill (grow (fw (sByte s) 16) 0) 64) := q1
      go_wp2_with fail
      clear q1
      go_loopw [6] (fun i wr => ∃ t : Nat, 16 ≤ t ∧ t ≤ 64 ∧ i = .int .i64 t ∧ Words wr w.heap.size 74 (fill [] 64) ∧ Words wr (w.heap.size + 1) 74 (fill (grow (fw (sByte s) 16) (t - 16)) 64) ∧ Below w.heap.size w wr) (fun i _ => 64 - (RowKit.intOf i).toNat)
      case atStart => exact ⟨16, by omega, by omega, rfl, q0, q1', hbr⟩
      case round =>
        obtain ⟨t, ht1, ht2, rfl, p0, p1, hbr2⟩ := hrel
        by_cases hlt3 : t < 64
        · have HL : (grow (fw (sByte s) 16) (t - 16)).length = t := by rw [grow_length, fw_length]; omega
          have HN : nextW (grow (fw (sByte s) 16) (t - 16)) t = nextW (grow (fw (sByte s) 16) (t - 16)) ((fw (sByte s) 16).length + (t - 16)) := by rw [fw_length]; congr 1; omega
          have HG : grow (fw (sByte s) 16) (t + 1 - 16) = grow (fw (sByte s) 16) (t - 16) ++ [nextW (grow (fw (sByte s) 16) (t - 16)) t] := by
            rw [HN, show t + 1 - 16 = (t - 16) + 1 by omega]; rfl
          replace HN := hide HN
          replace HG := hide HG
          generalize grow (fw (sByte s) 16) (t - 16) = ws at *
          have hcell : ∀ i, i < t → wr.cell? ⟨w.heap.size + 1, i, none⟩ = some (.int .u32 (wv (ws.getD i 0))) := fun i hi => by
            rw [p1.cell (i := i) (by rw [fill_length _ _ (by omega)]; omega), fill_getD _ _ _ (by omega)]
          have c1 := hcell (t - 15) (by omega)
          have c2 := hcell (t - 2) (by omega)
          have c3 := hcell (t - 16) (by omega)
          have c4 := hcell (t - 7) (by omega)
          have HX : Hid (ws.getD (t - 16) 0 + ws.getD (t - 7) 0 + sg0 (ws.getD (t - 15) 0) + sg1 (ws.getD (t - 2) 0) = nextW ws t) := rfl
          replace HL := hide HL
          clear hcell
          generalize ws.getD (t - 15) 0 = x15 at *
          generalize ws.getD (t - 2) 0 = x2 at *
          generalize ws.getD (t - 16) 0 = x16 at *
          generalize ws.getD (t - 7) 0 = x7 at *
          have f1 := Since.cell c1
          have f2 := Since.cell c2
          have f3 := Since.cell c3
          have f4 := Since.cell c4
          have i0 : (t : Int) < 64 := by omega
          have i1 : 0 ≤ (t : Int) - 15 := by omega
          have i2 : 0 ≤ (t : Int) - 2 := by omega
          have i3 : 0 ≤ (t : Int) - 16 := by omega
          have i4 : 0 ≤ (t : Int) - 7 := by omega
          have j1 : (t : Int) - 15 < 64 := by omega
          have j2 : (t : Int) - 2 < 64 := by omega
          have j3 : (t : Int) - 16 < 64 := by omega
          have j4 : (t : Int) - 7 < 64 := by omega
          have n1 : ((t : Int) - 15).toNat = t - 15 := by omega
          have n2 : ((t : Int) - 2).toNat = t - 2 := by omega
          have n3 : ((t : Int) - 16).toNat = t - 16 := by omega
          have n4 : ((t : Int) - 7).toNat = t - 7 := by omega
          go_wp2_with fail
          refine region_since (by kernel_rfl) (by kernel_rfl) ?_
          repeat (first | go_big_quiet_skip | (go_big_quiet_want; go_big_quiet_op; go_big_quiet_on))
          refine wpQuiet_nil ?_
          intro w1 hw1
          clear f1 f2 f3 f4
          replace c3 := cell_later hw1 c3
          replace c4 := cell_later hw1 c4
          have f3 := Since.cell c3
          have f4 := Since.cell c4
          have a1 := w_add x16 x7
          have a2 := w_xor (rotr x15 7) (rotr x15 18)
          have a3 : wv x15 / (8 : Int) = _ := w_shr3 x15
          have a4 := w_xor (rotr x15 7 ^^^ rotr x15 18) (x15 >>> 3)
          have a5 := w_add (x16 + x7) (sg0 x15)
          have a6 := w_xor (rotr x2 17) (rotr x2 19)
          have a7 : wv x2 / (1024 : Int) = _ := w_shr10 x2
          have a8 := w_xor (rotr x2 17 ^^^ rotr x2 19) (x2 >>> 10)
          have a9 := w_add (x16 + x7 + sg0 x15) (sg1 x2)
          rw [show sg0 x15 = rotr x15 7 ^^^ rotr x15 18 ^^^ x15 >>> 3 from rfl] at *
          rw [show sg1 x2 = rotr x2 17 ^^^ rotr x2 19 ^^^ x2 >>> 10 from rfl] at *
          go_wp2_with fail
          refine region_since_tail 29 (by kernel_rfl) (by kernel_rfl) ?_
          simp only [List.take_succ_cons, List.take_zero]
          repeat (first | go_big_quiet_skip | (go_big_quiet_want; go_big_quiet_op; go_big_quiet_on))
          go_big_quiet_want; go_big_quiet_op
          refine ⟨_, fun _ => since_same (turn7 _ _), ?_⟩
          go_big_quiet_on
          repeat (first | go_big_quiet_skip | (go_big_quiet_want; go_big_quiet_op; go_big_quiet_on))
          go_big_quiet_want; go_big_quiet_op
          refine ⟨_, fun _ => since_same (turn18 _ _), ?_⟩
          go_big_quiet_on
          repeat (first | go_big_quiet_skip | (go_big_quiet_want; go_big_quiet_op; go_big_quiet_on))
          go_big_quiet_want; go_big_quiet_op
          refine ⟨_, fun _ => since_same (turn17 _ _), ?_⟩
          go_big_quiet_on
          repeat (first | go_big_quiet_skip | (go_big_quiet_want; go_big_quiet_op; go_big_quiet_on))
          go_big_quiet_want; go_big_quiet_op
          refine ⟨_, fun _ => since_same (turn19 _ _), ?_⟩
          go_big_quiet_on
          repeat (first | go_big_quiet_skip | (go_big_quiet_want; go_big_quiet_op; go_big_quiet_on))
          refine wpQuiet_nil ?_
          intro w2 hw2
          simp only [List.drop_succ_cons, List.drop_zero]
          have hw := later hw1 hw2
          have p0' := Arr.later p0 hw
          have p1' : Words w2 (w.heap.size + 1) 74 _ := Arr.later p1 hw
          have HL' := HL.out
          have c5 := p1'.cell (i := t) (by rw [fill_length _ _ (by omega)]; omega)
          have t2 := Arr.thaw p1' t
          replace HL' := hide HL'
          clear f3 f4 c1 c2 c3 c4
          go_wp2_with fail
          go_roundw
          case rel =>
            refine ⟨t + 1, by omega, by omega, by simp, Arr.other p0' _ _ (by simp), ?_, (hbr2.trans (hw.mono hbr2.size)).setCell (by simp) _⟩
            rw [HG.out, ← HX.out]
            have e := fill_next ws 64 (by rw [HL.out]; omega) (x16 + x7 + (rotr x15 7 ^^^ rotr x15 18 ^^^ x15 >>> 3) + (rotr x2 17 ^^^ rotr x2 19 ^^^ x2 >>> 10))
            rw [HL.out] at e
            rw [← e]
            exact Words.set p1' t _
          case measure => simp [RowKit.intOf]; omega
        · have ht64 : t = 64 := by omega
          subst ht64
          have HS : Hid (fill (grow (fw (sByte s) 16) (64 - 16)) 64 = sched (sByte s)) := by
            unfold Hid sched
            have := fill_full (grow (fw (sByte s) 16) 48)
            rw [show (grow (fw (sByte s) 16) 48).length = 64 from by rw [grow_length, fw_length]] at this
            exact this
          rw [HS.out] at p1
          clear HS q1'
          have HL := hide (sched_length (sByte s))
          obtain ⟨ws, hws⟩ : ∃ ws, ws = sched (sByte s) := ⟨_, rfl⟩
          rw [← hws] at p1 HL
          have HWS := hide hws
          clear hws
          have hlv : (wvs ws).length = 64 := by rw [wvs_length]; exact HL.out
          have hbe := below_setRow hbr2 (Nat.le_refl _) (wvs ws).toArray
          have hone := wvs_one ws
          obtain ⟨vs, hvs⟩ : ∃ vs, vs = wvs ws := ⟨_, rfl⟩
          have P1 : Arr wr (w.heap.size + 1) 74 (wvs ws) := p1
          have hrow := Arr.row p0 (wvs ws)
          rw [← hvs] at P1 hbe hlv hrow hone
          have HVS := hide hvs
          clear hvs p1
          have hi : Hid ((Try.prog.info? 74).map (·.size) = some vs.toArray.size) := by rw [show vs.toArray.size = 64 by simp [hlv]]; unfold Hid; kernel_rfl
          have HONE := hide (show vs.toArray.all (·.oneCell') = true by simpa using hone)
          have HSZ := hide (show (wvs (fill [] 64)).toArray.size = vs.toArray.size by simp [hlv, wvs, fill])
          have HP1 := hide P1
          have HP0 := hide p0
          clear hlv hone P1 p0
          go_wp2_with (first | (refine wpList_load_row rfl 74 (.tmp 3) rfl (w.heap.size + 1) rfl 74 vs.toArray (0, 0) _ HP1.out Try.underlying74 rfl hi.out ?_) | (refine wpList_store_row rfl 74 (.tmp 2) (.tmp 72) rfl w.heap.size vs.toArray rfl rfl 74 _ HP0.out hi.out HSZ.out HONE.out ?_))
          refine bodyPost_ret (v := .agg vs.toArray) (results_cell_row rfl _ _ w.heap.size 74 _ (0, 0) _ rfl hrow Try.underlying74 rfl hi.out) rfl ⟨?_, hbe⟩
          rw [HVS.out, HWS.out]
end Go.Proofs.Ytikphhhkikdhaaa
