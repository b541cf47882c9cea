/- mintageref03.Sum as a contract: what it computes is the sum of ShaSpec. -/
import Derived.Test.YtikphhhkikdhaaaRefSumL
namespace Go.Proofs.Ytikphhhkikdhaaa
open Go.RowKit Go.Lib

theorem elemBytes : Elem Try.prog 53 5 1 1 := Elem.mk' Try.underlying53 info8 rfl (by decide) (by decide)
theorem info32 : (Try.prog.info? 71).map (fun i => (i.zero, i.size, i.bytes)) = some (some (.int .u32 0), 1, 4) := by kernel_rfl
theorem elemWords : Elem Try.prog 99 71 1 4 := Elem.mk' Try.underlying99 info32 rfl (by decide) (by decide)
theorem bvs_append (a b : List UInt8) : bvs (a ++ b) = bvs a ++ bvs b := by simp [bvs]
theorem one_byte_ok (y : Value) (h : y.oneCell' = true) : ∀ u ∈ [y], u.oneCell' = true := by intro u hu; simp at hu; subst hu; exact h
theorem nil_made (w : World) (base : Nat) (e : TypeId) (hb : base ≤ w.heap.size) : Owns (w.alloc (.cells #[] e)) base e 1 (.slice (some ⟨w.heap.size, 0, none⟩) 0 0) 0 [] :=
  .of_row (World.ownsRow_made w #[] 0 hb (by unfold maxLen; omega) rfl)
theorem own_lt {w : World} {base g cap n : Nat} {e : TypeId} {size : Nat} {xs : List Value} (h : Owns w base e size (.slice (some ⟨g, 0, none⟩) n cap) n xs) : base ≤ g ∧ g < w.heap.size := h.lt g rfl
/-- What the first lines make of a text. -/
def padTo (s : List UInt8) (j : Nat) : List UInt8 := s ++ 128 :: List.replicate j 0
theorem padTo_length (s : List UInt8) (j : Nat) : (padTo s j).length = s.length + 1 + j := by simp [padTo]; omega
theorem padTo_next (s : List UInt8) (j : Nat) : padTo s (j + 1) = padTo s j ++ [0] := by simp [padTo, List.replicate_succ']
theorem padTo_end (s : List UInt8) : padTo s (noughts s.length) ++ eightL (s.length * 8) = padL s := by simp [padTo, padL]

set_option maxRecDepth 100000 in
set_option maxHeartbeats 12800000 in
theorem refSum_any (s : ByteArray) (w : World) (hs : s.size ≤ 1099511627776) :
    Calls Try.prog 83 #[.string s] w fun e w' => e = .returned (hv (sha s.data.toList)) ∧ Below w.heap.size w w' := by
  have HR : Hid (hv (sha s.data.toList) = hv (outL (states (padL s.data.toList) ((padL s.data.toList).length / 64)))) := rfl
  generalize hv (sha s.data.toList) = R at *
  have HSL := hide (show s.data.toList.length = s.size by simp)
  have HZ := HashAt.zero w
  have hb0 := below1 w (.cells (bvs zero32).toArray 23)
  have hW : Hid ((w.alloc (.cells (bvs zero32).toArray 23)).heap.size = w.heap.size + 1) := by unfold Hid; simp
  have HEig := hide (fun W : World => refEight_any (s.size * 8) W (by omega))
  have hu : Hid (((s.size * 8 : Nat) : Int) = (s.size : Int) * 8) := by unfold Hid; push_cast; rfl
  have hu2 : (s.size : Int) * 8 < 18446744073709551616 := by omega
  go_enter Try.func83, Try.ntmps83
  go_wp2_with (refine wpl_bytes (w := w.alloc (.cells (bvs zero32).toArray 23)) rfl 9 53 5 _ rfl Try.underlying9 Try.underlying53 Try.underlying5 rfl (by omega) (w.heap.size + 1) (Nat.le_of_eq hW.out.symm) ?_)
  intro cap w1 hown hb1 hcap hsz
  generalize w.alloc (.cells (bvs zero32).toArray 23) = W at *
  have hsz1 : w.heap.size + 1 ≤ w1.heap.size := by omega
  clear hsz
  go_wp2_with (refine wpl_append elemBytes rfl _ _ rfl (w.heap.size + 1) rfl (hown.alloc (.cells #[.int .u8 128] 5)) ⟨w1.heap.size, 0, none⟩ 1 1 [.int .u8 128] rfl rfl (news_new w1 #[.int .u8 128] 5) (one_byte_ok _ rfl) (by omega) (by simp; omega) ?_)
  intro v2 w2 hown2 hb2 _ _
  have hbW : Below (w.heap.size + 1) W w2 := by
    exact hb1.trans (((Below.refl _ _).alloc hsz1 _).trans hb2)
  have hown3 : Owns w2 (w.heap.size + 1) 5 1 v2 (padTo s.data.toList 0).length (bvs (padTo s.data.toList 0)) := by
    rw [padTo_length, HSL.out]
    have e : bvs (padTo s.data.toList 0) = bvs s.data.toList ++ [.int .u8 128] := by unfold padTo; rw [bvs_append]; rfl
    rw [e]
    exact hown2
  clear hown hown2 hb1 hb2 hcap hsz1
  have hws2 : w.heap.size + 1 ≤ w2.heap.size := by have := hbW.size; rw [hW.out] at this; exact this
  have hn64 : noughts s.size < 64 := by unfold noughts; omega
  have HNP := hide (padTo_next s.data.toList)
  have HPL := hide (padTo_length s.data.toList)
  have HPE := hide (padTo_end s.data.toList)
  go_wp2_with fail
  go_loopw [3] (fun b wr => ∃ j : Nat, j ≤ noughts s.size ∧ lenOf b = s.size + 1 + j ∧ Owns wr (w.heap.size + 1) 5 1 b (s.size + 1 + j) (bvs (padTo s.data.toList j)) ∧ Below (w.heap.size + 1) W wr ∧ w.heap.size + 1 ≤ wr.heap.size) (fun b _ => s.size + 65 - lenOf b)
  case atStart =>
    rw [HPL.out, HSL.out] at hown3
    refine ⟨0, by omega, ?_, hown3, hbW, hws2⟩
    obtain ⟨g, c, rfl, _⟩ := hown3.at_ (by omega)
    rfl
  case round =>
    obtain ⟨j, hj, hlb, hown, hbr, hwr⟩ := hrel
    obtain ⟨n, hn⟩ : ∃ n, n = s.size + 1 + j := ⟨_, rfl⟩
    rw [← hn] at hown hlb
    have hnb : n ≤ 1099511627776 + 65 := by omega
    by_cases hlt : j < noughts s.size
    · have e1 : ((n : Int) % 64 != 56) = true := by
        rw [bne_iff_ne]; unfold noughts at hlt; omega
      have e2 : s.size + 1 + (j + 1) = n + 1 := by omega
      have HN := hide hn
      have HLB := hide hlb
      have E2 := hide e2
      have E3 : Hid (n < s.size + 65) := by unfold Hid; omega
      have HLT := hide hlt
      have HJ := hide hj
      obtain ⟨g, c, hv, hg1, hg2, hg3⟩ := hown.at_ (by omega)
      subst hv
      clear hn hlb e2 hlt hj hs hn64 hu2
      go_wp2_with (refine wpl_append elemBytes rfl _ _ rfl (w.heap.size + 1) rfl (hown.alloc (.cells #[.int .u8 0] 5)) ⟨wr.heap.size, 0, none⟩ 1 1 [.int .u8 0] rfl rfl (news_new wr #[.int .u8 0] 5) (one_byte_ok _ rfl) (by omega) (by simp; omega) ?_)
      intro v3 w3 hown' hb3 _ _
      have hbr3 : Below (w.heap.size + 1) W w3 := hbr.trans (((Below.refl _ _).alloc hwr _).trans hb3)
      have hwr3 : w.heap.size + 1 ≤ w3.heap.size := by have := hb3.size; simp at this; omega
      have hl3 : Hid (lenOf v3 = n + 1) := by obtain ⟨g', c', rfl, _⟩ := hown'.at_ (by omega); rfl
      have hown4 : Hid (Owns w3 (w.heap.size + 1) 5 1 v3 (n + 1) (bvs (padTo s.data.toList (j + 1)))) := by
        unfold Hid; rw [HNP.out, bvs_append]; exact hown'
      clear hb3 hown' hown hbr
      go_wp2_with fail
      go_roundw
      case rel => exact ⟨j + 1, by have := HLT.out; omega, by rw [hl3.out, E2.out], by rw [E2.out]; exact hown4.out, hbr3, hwr3⟩
      case measure => rw [hl3.out, HLB.out]; have := E3.out; omega
    · have hjn : j = noughts s.size := by omega
      have e1 : ((n : Int) % 64 != 56) = false := by
        rw [bne_eq_false_iff_eq]; rw [hjn] at hn; unfold noughts at hn; omega
      have hnn : n + 8 = (padL s.data.toList).length := by rw [padL_length, HSL.out, hn, hjn]; omega
      have HNN := hide hnn
      have hpe : Hid (bvs (padTo s.data.toList j) ++ bvs (eightL (s.size * 8)) = bvs (padL s.data.toList)) := by
        unfold Hid; rw [← bvs_append, hjn, ← HPE.out, HSL.out]
      have E8L := hide (eightL_length (s.size * 8))
      generalize padL s.data.toList = p at *
      generalize eightL (s.size * 8) = e8 at *
      obtain ⟨g, c, hv, hg1, hg2, hg3⟩ := hown.at_ (by omega)
      subst hv
      clear hn hlb hlt hj hn64 HNP HPL HPE hjn hnn hown3 hbW hws2
      go_wp2_with fail
      rw [← hu.out]
      refine (HEig.out _).mono ?_
      rintro _ w3 ⟨rfl, hb3⟩
      have hown3 := hown.later hb3
      have hbr3 := hbr.trans (hb3.mono hwr)
      have hwr3 : w.heap.size + 1 ≤ w3.heap.size := by have := hb3.size; omega
      clear hown hbr hb3 hwr
      go_wp2_with (refine wpl_bytes rfl 9 53 5 _ rfl Try.underlying9 Try.underlying53 Try.underlying5 rfl (by show e8.length ≤ _; rw [E8L.out]; omega) 0 (Nat.zero_le _) ?_)
      intro cap4 w4 hown4 hb4 hcap4 hsz4
      clear hsz4 hcap4
      go_wp2_with (refine wpl_append elemBytes rfl _ _ rfl (w.heap.size + 1) rfl (hown3.later hb4) ⟨w3.heap.size, 0, none⟩ e8.length cap4 (bvs e8) rfl (by simp [bvs]) (hown4.cells rfl) (fun u hu => List.all_eq_true.1 (bvs_one e8) u hu) (by rw [E8L.out]; omega) (by have := hb4.size; omega) ?_)
      intro v5 w5 hown5 hb5 _ _
      have hown6 : Owns w5 (w.heap.size + 1) 5 1 v5 p.length (bvs p) := by
        rw [hpe.out, E8L.out, HNN.out] at hown5; exact hown5
      have hbr6 : Below (w.heap.size + 1) W w5 := hbr3.trans ((hb4.mono hwr3).trans hb5)
      have hwr6 : w.heap.size + 1 ≤ w5.heap.size := by have := hbr6.size; rw [hW.out] at this; exact this
      have HP64 : Hid (p.length % 64 = 0) := by
        unfold Hid; rw [← HNN.out]
        have : n % 64 = 56 := by rw [bne_eq_false_iff_eq] at e1; omega
        omega
      have hpm : p.length ≤ 1099511627776 + 100 := by rw [← HNN.out]; omega
      have hpp : 0 < p.length := by rw [← HNN.out]; omega
      have hmk := make64
      clear hown3 hown4 hb4 hb5 hown5 hbr3 hwr3 hpe E8L HEig hu hu2 e1 hg1 hg2 hg3 hnb HNN
      obtain ⟨gp, cp, hv, hg1, hg2, hg3⟩ := hown6.at_ hpp
      subst hv
      go_wp2_with fail
      refine (cubes_any _).mono ?_
      rintro _ w6 ⟨rfl, rfl⟩
      have v0 : Words (w5.alloc (.cells (wvs startV.list).toArray 71)) w5.heap.size 71 startV.list := Arr.new _ _ _
      have v1 := Arr.alloc v0 (.cells (wvs rootsL).toArray 71)
      have v2 := hide (Arr.alloc v1 (.cells (wvs zw64).toArray 71))
      have k1 : Words ((w5.alloc (.cells (wvs startV.list).toArray 71)).alloc (.cells (wvs rootsL).toArray 71)) (w5.heap.size + 1) 71 rootsL := Arr.new2 _ _ _ _
      have k2 := hide (Arr.alloc k1 (.cells (wvs zw64).toArray 71))
      have hb6 := ((Below.refl (w.heap.size + 1) w5).alloc hwr6 (.cells (wvs startV.list).toArray 71)).alloc (by simp; omega) (.cells (wvs rootsL).toArray 71)
      have hb7 := hb6.alloc (by simp; omega) (.cells (wvs zw64).toArray 71)
      have z1 : Hid (Words (((w5.alloc (.cells (wvs startV.list).toArray 71)).alloc (.cells (wvs rootsL).toArray 71)).alloc (.cells (wvs zw64).toArray 71)) (w5.heap.size + 1 + 1) 71 zw64) := by
        have := Arr.new ((w5.alloc (.cells (wvs startV.list).toArray 71)).alloc (.cells (wvs rootsL).toArray 71)) (wvs zw64) 71
        have e : ((w5.alloc (.cells (wvs startV.list).toArray 71)).alloc (.cells (wvs rootsL).toArray 71)).heap.size = w5.heap.size + 1 + 1 := by simp
        rw [e] at this
        exact this
      have hown7 := hide (hown6.later (((Below.refl w5.heap.size w5).alloc (Nat.le_refl _) (.cells (wvs startV.list).toArray 71) |>.alloc (by simp) (.cells (wvs rootsL).toArray 71)).alloc (by simp; omega) (.cells (wvs zw64).toArray 71)))
      have hb8 := hide (hbr6.trans hb7)
      have hR := hide (HZ.below hb8.out (by omega))
      clear v0 v1 k1 hb6 hb7 hown6 hbr6 HZ
      go_wp2_with fail
      show Code.wp _ _ _ _ (((w5.alloc (.cells (wvs startV.list).toArray 71)).alloc (.cells (wvs rootsL).toArray 71)).alloc (.cells (wvs zw64).toArray 71))
      clear hmk
      generalize ((w5.alloc (.cells (wvs startV.list).toArray 71)).alloc (.cells (wvs rootsL).toArray 71)).alloc (.cells (wvs zw64).toArray 71) = W8 at *
      generalize w5.heap.size = gv at *
      have RV := v2.out
      have RZ := z1.out
      have RK : SumKeep W w.heap.size gp cp gv p W8 := ⟨k2.out, hown7.out, hR.out, hb8.out, Arr.lt z1.out, hg1, hwr6⟩
      clear v2 k2 z1 hown7 hb8 hR
      go_loopw [7] (fun i wr => ∃ (t : Nat) (ws : List W32), t ≤ p.length ∧ t % 64 = 0 ∧ i = .int .i64 t ∧ ws.length = 64 ∧ Words wr gv 71 (states p (t / 64)).list ∧ Words wr (gv + 1 + 1) 71 ws ∧ SumKeep W w.heap.size gp cp gv p wr) (fun i _ => p.length - (RowKit.intOf i).toNat)
      case atStart => exact ⟨0, zw64, by omega, rfl, rfl, rfl, RV, RZ, RK⟩
      case round =>
        obtain ⟨t, ws, ht, ht64, rfl, hwl, qv, qz, qk⟩ := hrel
        clear RV RZ RK
        by_cases hlt : t < p.length
        · have hle : t + 64 ≤ p.length := by have := HP64.out; omega
          have i1 : (t : Int) + 64 ≤ p.length := by omega
          obtain ⟨sl, hsl⟩ : ∃ sl, sl = sched (byteW p t) := ⟨_, rfl⟩
          have HSL2 : Hid (sl.length = 64) := by rw [hsl]; exact sched_length _
          have HLO : Hid (∀ k, k < 16 → sl.getD k 0 = part (byteW p t) k 4) := by rw [hsl]; exact sched_low _
          have HHI : Hid (∀ k, 16 ≤ k → k < 64 → sl.getD k 0 = sg1 (sl.getD (k - 2) 0) + sl.getD (k - 7) 0 + sg0 (sl.getD (k - 15) 0) + sl.getD (k - 16) 0) := by rw [hsl]; exact sched_high _
          have HNX : Hid (states p ((t + 64) / 64) = goesV (states p (t / 64)) sl) := by
            unfold Hid
            rw [hsl, show (t + 64) / 64 = t / 64 + 1 by omega, show t = 64 * (t / 64) by omega]
            simp only [states]
            rw [show 64 * (t / 64) / 64 = t / 64 by omega]
          have HT64 := hide ht64
          have HWL := hide hwl
          clear hsl ht64 hwl
          generalize states p (t / 64) = v at *
          have hz : Hid (over (sl.take 0) ws = ws) := by simp [over, Hid]
          go_wp2_with fail
          go_loopw [8] (fun i wr => ∃ k : Nat, k ≤ 64 ∧ i = .int .i64 k ∧ Words wr (gv + 1 + 1) 71 (over (sl.take k) ws) ∧ Words wr gv 71 v.list ∧ SumKeep W w.heap.size gp cp gv p wr) (fun i _ => 64 - (RowKit.intOf i).toNat)
          case atStart => exact ⟨0, by omega, rfl, by rw [hz.out]; exact qz, qv, qk⟩
          case round =>
            obtain ⟨k, hk, rfl, rz, rv, rk⟩ := hrel
            clear qv qz qk
            by_cases hk64 : k < 64
            · have htl : (sl.take k).length = k := by rw [List.length_take, HSL2.out]; omega
              have hol : (over (sl.take k) ws).length = 64 := by rw [over_length _ _ (by rw [htl, HWL.out]; omega), HWL.out]
              have HNXT : Hid ((over (sl.take k) ws).set k (sl.getD k 0) = over (sl.take (k + 1)) ws) := by
                have h1 := over_next (sl.take k) ws (sl.getD k 0) (by rw [htl, HWL.out]; omega)
                rw [htl, ← take_next sl k 0 (by rw [HSL2.out]; omega)] at h1
                exact h1
              have i0 : (k : Int) < 64 := by omega
              by_cases hk16 : k < 16
              · have c0 := rk.byte (t + 4 * k) t (4 * k) (by omega) (by omega)
                have c1 := rk.byte (t + 4 * k + 1) t (4 * k + 1) (by omega) (by omega)
                have c2 := rk.byte (t + 4 * k + 2) t (4 * k + 2) (by omega) (by omega)
                have c3 := rk.byte (t + 4 * k + 3) t (4 * k + 3) (by omega) (by omega)
                have HV : Hid (byteW p t (4 * k) <<< 24 ||| byteW p t (4 * k + 1) <<< 16 ||| byteW p t (4 * k + 2) <<< 8 ||| byteW p t (4 * k + 3) = sl.getD k 0) := by
                  unfold Hid; rw [part_or, HLO.out k hk16]
                generalize byteW p t (4 * k) = x0 at *
                generalize byteW p t (4 * k + 1) = x1 at *
                generalize byteW p t (4 * k + 2) = x2 at *
                generalize byteW p t (4 * k + 3) = x3 at *
                have f0 := Since.cell c0
                have f1 := Since.cell c1
                have f2 := Since.cell c2
                have f3 := Since.cell c3
                have j0 : (k : Int) < 16 := by omega
                have j1 : (t : Int) + 4 * (k : Int) + 3 < p.length := by omega
                have L1 : ∀ a b : W32, bits .or .u32 (wv a) (wv b) = wv (a ||| b) := w_or
                have L2 : ∀ a : W32, wv a % (4294967296 : Int) = wv a := w_mod
                have L3 : ∀ a : W32, wv a * (16777216 : Int) % (4294967296 : Int) = wv (a <<< 24) := w_shl24
                have L4 : ∀ a : W32, wv a * (65536 : Int) % (4294967296 : Int) = wv (a <<< 16) := w_shl16
                have L5 : ∀ a : W32, wv a * (256 : Int) % (4294967296 : Int) = wv (a <<< 8) := w_shl8
                replace htl := hide htl
                replace hol := hide hol
                clear c0 c1 c2 c3
                go_wp2_with fail
                refine region_since_tail 32 (by kernel_rfl) (by kernel_rfl) ?_
                simp only [List.take_succ_cons, List.take_zero]
                repeat (first | go_big_quiet_skip | (go_big_quiet_want; go_big_quiet_op; go_big_quiet_on))
                refine wpQuiet_nil ?_
                intro w9 hw9
                simp only [List.drop_succ_cons, List.drop_zero]
                clear f0 f1 f2 f3
                have rz9 : Words w9 (gv + 1 + 1) 71 (over (sl.take k) ws) := Arr.later rz hw9
                have rv9 : Words w9 gv 71 v.list := Arr.later rv hw9
                have rk9 := rk.later hw9
                have cz := rz9.cell (i := k) (by rw [hol.out]; omega)
                have tz := Arr.thaw rz9 k
                clear rz rv rk
                go_wp2_with fail
                go_roundw
                case rel =>
                  refine ⟨k + 1, by omega, by simp, ?_, Arr.other rv9 _ _ (by show gv ≠ gv + 1 + 1; omega), rk9.set _ _ (by show gv ≤ gv + 1 + 1; omega) (by show gv + 1 + 1 ≠ gv + 1; omega)⟩
                  rw [← HNXT.out, ← HV.out]
                  exact rz9.set k _
                case measure => simp [RowKit.intOf]; omega
              · have g15 : (over (sl.take k) ws).getD (k - 15) 0 = sl.getD (k - 15) 0 := by rw [over_getD _ _ _ (by rw [htl]; omega), take_getD _ _ _ _ (by omega)]
                have g2 : (over (sl.take k) ws).getD (k - 2) 0 = sl.getD (k - 2) 0 := by rw [over_getD _ _ _ (by rw [htl]; omega), take_getD _ _ _ _ (by omega)]
                have g16 : (over (sl.take k) ws).getD (k - 16) 0 = sl.getD (k - 16) 0 := by rw [over_getD _ _ _ (by rw [htl]; omega), take_getD _ _ _ _ (by omega)]
                have g7 : (over (sl.take k) ws).getD (k - 7) 0 = sl.getD (k - 7) 0 := by rw [over_getD _ _ _ (by rw [htl]; omega), take_getD _ _ _ _ (by omega)]
                have c15 := rz.cell (i := k - 15) (by rw [hol]; omega)
                have c2 := rz.cell (i := k - 2) (by rw [hol]; omega)
                have c16 := rz.cell (i := k - 16) (by rw [hol]; omega)
                have c7 := rz.cell (i := k - 7) (by rw [hol]; omega)
                rw [g15] at c15
                rw [g2] at c2
                rw [g16] at c16
                rw [g7] at c7
                have HV := hide (HHI.out k (by omega) hk64)
                have HX : Hid (rotr (sl.getD (k - 2) 0) 17 ^^^ rotr (sl.getD (k - 2) 0) 19 ^^^ sl.getD (k - 2) 0 >>> 10 + sl.getD (k - 7) 0 + (rotr (sl.getD (k - 15) 0) 7 ^^^ rotr (sl.getD (k - 15) 0) 18 ^^^ sl.getD (k - 15) 0 >>> 3) + sl.getD (k - 16) 0 = sl.getD k 0 ∨ True) := .inr trivial
                have HV2 : Hid ((rotr (sl.getD (k - 2) 0) 17 ^^^ rotr (sl.getD (k - 2) 0) 19 ^^^ sl.getD (k - 2) 0 >>> 10) + sl.getD (k - 7) 0 + (rotr (sl.getD (k - 15) 0) 7 ^^^ rotr (sl.getD (k - 15) 0) 18 ^^^ sl.getD (k - 15) 0 >>> 3) + sl.getD (k - 16) 0 = sl.getD k 0) := HV.out.symm
                clear HV HX g15 g2 g16 g7
                generalize sl.getD (k - 15) 0 = x15 at *
                generalize sl.getD (k - 2) 0 = x2 at *
                generalize sl.getD (k - 16) 0 = x16 at *
                generalize sl.getD (k - 7) 0 = x7 at *
                have f16 := Since.cell c16
                have f7 := Since.cell c7
                have j0 : ¬ (k : Int) < 16 := by omega
                have i1' : 0 ≤ (k : Int) - 15 := by omega
                have i2 : 0 ≤ (k : Int) - 2 := by omega
                have i3 : 0 ≤ (k : Int) - 16 := by omega
                have i4 : 0 ≤ (k : Int) - 7 := by omega
                have j1 : (k : Int) - 15 < 64 := by omega
                have j2 : (k : Int) - 2 < 64 := by omega
                have j3 : (k : Int) - 16 < 64 := by omega
                have j4 : (k : Int) - 7 < 64 := by omega
                have n1 : ((k : Int) - 15).toNat = k - 15 := by omega
                have n2 : ((k : Int) - 2).toNat = k - 2 := by omega
                have n3 : ((k : Int) - 16).toNat = k - 16 := by omega
                have n4 : ((k : Int) - 7).toNat = k - 7 := by omega
                have L1 : ∀ a b : W32, bits .xor .u32 (wv a) (wv b) = wv (a ^^^ b) := w_xor
                have L2 : ∀ a b : W32, IntKind.u32.wrap (wv a + wv b) = wv (a + b) := w_add
                have L3 : ∀ a : W32, wv a / (8 : Int) = wv (a >>> 3) := w_shr3
                have L4 : ∀ a : W32, wv a / (1024 : Int) = wv (a >>> 10) := w_shr10
                replace htl := hide htl
                replace hol := hide hol
                go_wp2_with fail
                refine region_since_tail 32 (by kernel_rfl) (by kernel_rfl) ?_
                simp only [List.take_succ_cons, List.take_zero]
                repeat (first | go_big_quiet_skip | (go_big_quiet_want; go_big_quiet_op; go_big_quiet_on))
                go_big_quiet_want; go_big_quiet_op
                refine ⟨_, fun _ => since_of (refTurn17 _ _), ?_⟩
                go_big_quiet_on
                repeat (first | go_big_quiet_skip | (go_big_quiet_want; go_big_quiet_op; go_big_quiet_on))
                go_big_quiet_want; go_big_quiet_op
                refine ⟨_, fun _ => since_of (refTurn19 _ _), ?_⟩
                go_big_quiet_on
                repeat (first | go_big_quiet_skip | (go_big_quiet_want; go_big_quiet_op; go_big_quiet_on))
                go_big_quiet_want; go_big_quiet_op
                refine ⟨_, fun _ => since_of (refTurn7 _ _), ?_⟩
                go_big_quiet_on
                repeat (first | go_big_quiet_skip | (go_big_quiet_want; go_big_quiet_op; go_big_quiet_on))
                go_big_quiet_want; go_big_quiet_op
                refine ⟨_, fun _ => since_of (refTurn18 _ _), ?_⟩
                go_big_quiet_on
                repeat (first | go_big_quiet_skip | (go_big_quiet_want; go_big_quiet_op; go_big_quiet_on))
                refine wpQuiet_nil ?_
                intro w9 hw9
                simp only [List.drop_succ_cons, List.drop_zero]
                clear f16 f7 c15 c2 c16 c7
                have rz9 : Words w9 (gv + 1 + 1) 71 (over (sl.take k) ws) := Arr.later rz hw9
                have rv9 : Words w9 gv 71 v.list := Arr.later rv hw9
                have rk9 := rk.later hw9
                have cz := rz9.cell (i := k) (by rw [hol.out]; omega)
                have tz := Arr.thaw rz9 k
                clear rz rv rk
                go_wp2_with fail
                go_roundw
                case rel =>
                  refine ⟨k + 1, by omega, by simp, ?_, Arr.other rv9 _ _ (by show gv ≠ gv + 1 + 1; omega), rk9.set _ _ (by show gv ≤ gv + 1 + 1; omega) (by show gv + 1 + 1 ≠ gv + 1; omega)⟩
                  rw [← HNXT.out, ← HV2.out]
                  exact rz9.set k _
                case measure => simp [RowKit.intOf]; omega
            · have hk' : k = 64 := by omega
              subst hk'
              have hfull : over (sl.take 64) ws = sl := by
                rw [show sl.take 64 = sl by rw [← HSL2.out, List.take_length]]
                exact over_full _ _ (by rw [HSL2.out, HWL.out])
              rw [hfull] at rz
              clear hfull HLO HHI hz
              have rvn := arr_news (Arr.alloc rv (.cells #[] 71))
              have hws9 : w.heap.size + 1 ≤ wr.heap.size := by have := rk.s; omega
              have hvone : ∀ u ∈ wvs v.list, u.oneCell' = true := fun u hu => List.all_eq_true.1 (wvs_one v.list) u hu
              go_wp2_with (refine wpl_append elemWords rfl _ _ rfl (w.heap.size + 1) rfl (nil_made wr (w.heap.size + 1) 71 hws9) ⟨gv, 0, none⟩ 8 8 (wvs v.list) rfl rfl rvn hvone (by omega) (by simp; omega) ?_)
              intro v9 w9 hown9 hb9 hg9 hat9
              have rk9 : SumKeep W w.heap.size gp cp gv p w9 := by
                have h1 := rk.later ((Below.refl wr.heap.size wr).alloc (Nat.le_refl _) (.cells #[] 71))
                exact h1.grown hg9 hb9 rk.s
              have hsw := rk.s
              have rv9 : Words w9 gv 71 v.list := Arr.grown (Arr.alloc rv (.cells #[] 71)) hg9 (by simp [Value.ownBlock]; omega)
              have rz9 : Words w9 (gv + 1 + 1) 71 sl := Arr.grown (Arr.alloc rz (.cells #[] 71)) hg9 (by simp [Value.ownBlock]; omega)
              have hown10 : Owns w9 (w.heap.size + 1) 71 1 v9 8 (wvs v.list) := by simpa using hown9
              obtain ⟨gw, cw, hvw, hgw1, hgw2, hgw3⟩ := hown10.at_ (by omega)
              subst hvw
              have hgv3 : gv + 1 + 1 < gw := by
                rcases hat9 with h | h
                · simp only [Value.ownBlock, Option.some.injEq] at h; omega
                · simp only [Value.ownBlock, Option.some.injEq] at h; first | omega | (simp at h; omega)
              clear rvn hvone hown9 hb9 hg9 rk rv rz hsw hat9 hk hk64
              go_wp2_with fail
              go_loopw [13] (fun i wr => ∃ k : Nat, k ≤ 64 ∧ i = .int .i64 k ∧ Words wr gv 71 (rounds v rootsL sl k).list ∧ Words wr (gv + 1 + 1) 71 sl ∧ SumKeep W w.heap.size gp cp gv p wr ∧
                Owns wr (w.heap.size + 1) 71 1 (.slice (some ⟨gw, 0, none⟩) 8 cw) 8 (wvs v.list)) (fun i _ => 64 - (RowKit.intOf i).toNat)
              case atStart => exact ⟨0, by omega, rfl, rv9, rz9, rk9, hown10⟩
              case round =>
                obtain ⟨k, hk, rfl, rv, rz, rk, ro⟩ := hrel
                clear rv9 rz9 rk9 hown10
                by_cases hk64 : k < 64
                · have HNR : Hid ((rounds v rootsL sl (k + 1)).list = (round1 (rounds v rootsL sl k) (rootsL.getD k 0) (sl.getD k 0)).list) := rfl
                  have cz := rz.cell (i := k) (by rw [HSL2.out]; omega)
                  have ck := Words.cell rk.k (i := k) (by show k < 64; omega)
                  generalize rounds v rootsL sl k = r at *
                  generalize rootsL.getD k 0 = kk at *
                  generalize sl.getD k 0 = zz at *
                  have a0 : wr.cell? ⟨gv, 0, none⟩ = some (.int .u32 (wv r.a)) := Words.cell rv (i := 0) (by decide : 0 < 8)
                  have a1 : wr.cell? ⟨gv, 1, none⟩ = some (.int .u32 (wv r.b)) := Words.cell rv (i := 1) (by decide : 1 < 8)
                  have a2 : wr.cell? ⟨gv, 2, none⟩ = some (.int .u32 (wv r.c)) := Words.cell rv (i := 2) (by decide : 2 < 8)
                  have a4 : wr.cell? ⟨gv, 4, none⟩ = some (.int .u32 (wv r.e)) := Words.cell rv (i := 4) (by decide : 4 < 8)
                  have a5 : wr.cell? ⟨gv, 5, none⟩ = some (.int .u32 (wv r.f)) := Words.cell rv (i := 5) (by decide : 5 < 8)
                  have a6 : wr.cell? ⟨gv, 6, none⟩ = some (.int .u32 (wv r.g)) := Words.cell rv (i := 6) (by decide : 6 < 8)
                  have a7 : wr.cell? ⟨gv, 7, none⟩ = some (.int .u32 (wv r.h)) := Words.cell rv (i := 7) (by decide : 7 < 8)
                  have s5 := Since.cell a5
                  have s6 := Since.cell a6
                  have s7 := Since.cell a7
                  have sk := Since.cell ck
                  have sz := Since.cell cz
                  have i0 : (k : Int) < 64 := by omega
                  have L1 : ∀ a b : W32, bits .xor .u32 (wv a) (wv b) = wv (a ^^^ b) := w_xor
                  have L2 : ∀ a b : W32, IntKind.u32.wrap (wv a + wv b) = wv (a + b) := w_add
                  have L3 : ∀ a b : W32, bits .and .u32 (wv a) (wv b) = wv (a &&& b) := w_and
                  have L4 : ∀ a b : W32, bits .or .u32 (wv a) (wv b) = wv (a ||| b) := w_or
                  have L5 := xorF
                  go_wp2_with fail
                  refine region_since (by kernel_rfl) (by kernel_rfl) ?_
                  repeat (first | go_big_quiet_skip | (go_big_quiet_want; go_big_quiet_op; go_big_quiet_on))
                  go_big_quiet_want; go_big_quiet_op
                  refine ⟨_, fun _ => since_of (refTurn6 _ _), ?_⟩
                  go_big_quiet_on
                  repeat (first | go_big_quiet_skip | (go_big_quiet_want; go_big_quiet_op; go_big_quiet_on))
                  go_big_quiet_want; go_big_quiet_op
                  refine ⟨_, fun _ => since_of (refTurn11 _ _), ?_⟩
                  go_big_quiet_on
                  repeat (first | go_big_quiet_skip | (go_big_quiet_want; go_big_quiet_op; go_big_quiet_on))
                  go_big_quiet_want; go_big_quiet_op
                  refine ⟨_, fun _ => since_of (refTurn25 _ _), ?_⟩
                  go_big_quiet_on
                  repeat (first | go_big_quiet_skip | (go_big_quiet_want; go_big_quiet_op; go_big_quiet_on))
                  refine wpQuiet_nil ?_
                  intro w10 hw10
                  have s1 := Since.cell (cell_later hw10 a1)
                  have s2 := Since.cell (cell_later hw10 a2)
                  clear s5 s6 s7 sk sz
                  obtain ⟨x, hx⟩ : ∃ x, x = r.h + (rotr r.e 6 ^^^ rotr r.e 11 ^^^ rotr r.e 25) + (r.e &&& r.f ||| (r.e ^^^ 4294967295#32) &&& r.g) + kk + zz := ⟨_, rfl⟩
                  rw [← hx]
                  have HX : Hid (x = rx r kk zz) := by rw [hx]; exact congrArg (fun q => r.h + (rotr r.e 6 ^^^ rotr r.e 11 ^^^ rotr r.e 25) + q + kk + zz) (ch_or r.e r.f r.g)
                  clear hx
                  go_wp2_with fail
                  refine region_since (by kernel_rfl) (by kernel_rfl) ?_
                  repeat (first | go_big_quiet_skip | (go_big_quiet_want; go_big_quiet_op; go_big_quiet_on))
                  go_big_quiet_want; go_big_quiet_op
                  refine ⟨_, fun _ => since_of (refTurn2 _ _), ?_⟩
                  go_big_quiet_on
                  repeat (first | go_big_quiet_skip | (go_big_quiet_want; go_big_quiet_op; go_big_quiet_on))
                  go_big_quiet_want; go_big_quiet_op
                  refine ⟨_, fun _ => since_of (refTurn13 _ _), ?_⟩
                  go_big_quiet_on
                  repeat (first | go_big_quiet_skip | (go_big_quiet_want; go_big_quiet_op; go_big_quiet_on))
                  go_big_quiet_want; go_big_quiet_op
                  refine ⟨_, fun _ => since_of (refTurn22 _ _), ?_⟩
                  go_big_quiet_on
                  repeat (first | go_big_quiet_skip | (go_big_quiet_want; go_big_quiet_op; go_big_quiet_on))
                  refine wpQuiet_nil ?_
                  intro w11 hw11
                  obtain ⟨y, hy⟩ : ∃ y, y = (rotr r.a 2 ^^^ rotr r.a 13 ^^^ rotr r.a 22) + (r.a &&& r.b ||| r.a &&& r.c ||| r.b &&& r.c) := ⟨_, rfl⟩
                  rw [← hy]
                  have HY : Hid (y = ry r) := by rw [hy, maj_or]; rfl
                  have hw := later hw10 hw11
                  have rv11 : Words w11 gv 71 (shiftL r.list 7) := by rw [shift_full r.list rfl]; exact Arr.later rv hw
                  have rz11 : Words w11 (gv + 1 + 1) 71 sl := Arr.later rz hw
                  have rk11 := rk.later hw
                  have ro11 := ro.later hw
                  clear hy s1 s2 a0 a1 a2 a4 a5 a6 a7 hw10 hw11 hw rv rz rk ro ck cz L1 L3 L4 L5
                  go_wp2_with fail
                  go_loopw [18] (fun i wr => ∃ j : Nat, j ≤ 7 ∧ i = .int .i64 j ∧ Words wr gv 71 (shiftL r.list j) ∧ Words wr (gv + 1 + 1) 71 sl ∧ SumKeep W w.heap.size gp cp gv p wr ∧
                    Owns wr (w.heap.size + 1) 71 1 (.slice (some ⟨gw, 0, none⟩) 8 cw) 8 (wvs v.list)) (fun i _ => (RowKit.intOf i).toNat)
                  case atStart => exact ⟨7, by omega, rfl, rv11, rz11, rk11, ro11⟩
                  case round =>
                    obtain ⟨j, hj, rfl, rv, rz, rk, ro⟩ := hrel
                    clear rv11 rz11 rk11 ro11
                    by_cases hj0 : 0 < j
                    · have hsl := shift_length r.list rfl j hj
                      have HNS := hide (shift_next r.list rfl j (by omega) hj)
                      have cj := rv.cell (i := j - 1) (by rw [hsl]; omega)
                      have cj2 := rv.cell (i := j) (by rw [hsl]; omega)
                      have tj := Arr.thaw rv j
                      have e1 : (0 : Int) < (j : Int) := by omega
                      have e2 : (j : Int) - 1 < 8 := by omega
                      have e3 : 0 ≤ (j : Int) - 1 := by omega
                      have e4 : ((j : Int) - 1).toNat = j - 1 := by omega
                      have e5 : (j : Int) < 8 := by omega
                      have rv' := rv.set j ((shiftL r.list j).getD (j - 1) 0)
                      rw [HNS.out] at rv'
                      generalize (shiftL r.list j).getD (j - 1) 0 = q at *
                      have rk' := rk.set ⟨gv, j, none⟩ (.int .u32 (wv q)) (by show gv ≤ gv; omega) (by show gv ≠ gv + 1; omega)
                      have rz' : Words (wr.setCell ⟨gv, j, none⟩ (.int .u32 (wv q))) (gv + 1 + 1) 71 sl := Arr.other rz _ _ (by show gv + 1 + 1 ≠ gv; omega)
                      have ro' := ro.setCell ⟨gv, j, none⟩ (.int .u32 (wv q)) (by simp [Value.ownBlock]; omega)
                      replace hsl := hide hsl
                      go_wp2_with fail
                      go_roundw
                      case rel => exact ⟨j - 1, by omega, by rw [show ((j - 1 : Nat) : Int) = (j : Int) - 1 by omega], rv', rz', rk', ro'⟩
                      case measure => simp [RowKit.intOf]; omega
                    · have hj00 : j = 0 := by omega
                      subst hj00
                      have c4 : wr.cell? ⟨gv, 4, none⟩ = some (.int .u32 (wv r.d)) := Words.cell rv (i := 4) (by decide : 4 < 8)
                      have t4 := Arr.thaw rv 4
                      have rv1 := rv.set 4 (r.d + x)
                      have t0 := Arr.thaw rv1 0
                      have c0 := Words.cell rv1 (i := 0) (by show 0 < 8; omega)
                      have rv2 := rv1.set 0 (x + y)
                      have rk1 := (rk.set ⟨gv, 4, none⟩ (.int .u32 (wv (r.d + x))) (by show gv ≤ gv; omega) (by show gv ≠ gv + 1; omega)).set ⟨gv, 0, none⟩ (.int .u32 (wv (x + y))) (by show gv ≤ gv; omega) (by show gv ≠ gv + 1; omega)
                      have rz1 : Words ((wr.setCell ⟨gv, 4, none⟩ (.int .u32 (wv (r.d + x)))).setCell ⟨gv, 0, none⟩ (.int .u32 (wv (x + y)))) (gv + 1 + 1) 71 sl := Arr.other (Arr.other rz _ _ (by show gv + 1 + 1 ≠ gv; omega)) _ _ (by show gv + 1 + 1 ≠ gv; omega)
                      have ro1 := (ro.setCell ⟨gv, 4, none⟩ (.int .u32 (wv (r.d + x))) (by simp [Value.ownBlock]; omega)).setCell ⟨gv, 0, none⟩ (.int .u32 (wv (x + y))) (by simp [Value.ownBlock]; omega)
                      have HLAST : Hid ((((shiftL r.list 0).set 4 (r.d + x)).set 0 (x + y)) = (rounds v rootsL sl (k + 1)).list) := by
                        unfold Hid; rw [HNR.out, HX.out, HY.out]; rfl
                      go_wp2_with fail
                      go_roundw
                      case rel => exact ⟨k + 1, by omega, by simp, by rw [← HLAST.out]; exact rv2, rz1, rk1, ro1⟩
                      case measure => simp [RowKit.intOf]; omega
                · have hk' : k = 64 := by omega
                  subst hk'
                  obtain ⟨r, hr⟩ : ∃ r, r = rounds v rootsL sl 64 := ⟨_, rfl⟩
                  rw [← hr] at rv
                  have HG : Hid ((r.plus v).list = (goesV v sl).list) := by rw [hr]; exact goesV_plus v sl
                  clear hr
                  have hz0 : Hid (over ((plusL r v).take 0) r.list = r.list) := by simp [over, Hid]
                  go_wp2_with fail
                  go_loopw [19] (fun i wr => ∃ j : Nat, j ≤ 8 ∧ i = .int .i64 j ∧ Words wr gv 71 (over ((plusL r v).take j) r.list) ∧ Words wr (gv + 1 + 1) 71 sl ∧ SumKeep W w.heap.size gp cp gv p wr ∧
                    Owns wr (w.heap.size + 1) 71 1 (.slice (some ⟨gw, 0, none⟩) 8 cw) 8 (wvs v.list)) (fun i _ => 8 - (RowKit.intOf i).toNat)
                  case atStart => exact ⟨0, by omega, rfl, by rw [hz0.out]; exact rv, rz, rk, ro⟩
                  case round =>
                    clear rv rz rk ro
                    obtain ⟨j, hj, rfl, rv, rz, rk, ro⟩ := hrel
                    have hpl : (plusL r v).length = 8 := by simp [plusL]
                    by_cases hj8 : j < 8
                    · have htl : ((plusL r v).take j).length = j := by rw [List.length_take, hpl]; omega
                      have hol : (over ((plusL r v).take j) r.list).length = 8 := by rw [over_length _ _ (by rw [htl]; show j ≤ 8; omega)]; rfl
                      have hg : (over ((plusL r v).take j) r.list).getD j 0 = r.list.getD j 0 := over_rest _ _ _ (by rw [htl]; exact Nat.le_refl _)
                      have HNXT : Hid ((over ((plusL r v).take j) r.list).set j (r.list.getD j 0 + v.list.getD j 0) = over ((plusL r v).take (j + 1)) r.list) := by
                        have h1 := over_next ((plusL r v).take j) r.list ((plusL r v).getD j 0) (by rw [htl]; exact hj8)
                        rw [htl, ← take_next _ j 0 (by rw [hpl]; omega), plusL_getD r v j hj8] at h1
                        exact h1
                      have cj := rv.cell (i := j) (by rw [hol]; omega)
                      rw [hg] at cj
                      have cw0 : wr.cell? ⟨gw, j, none⟩ = some (.int .u32 (wv (v.list.getD j 0))) := by rw [ro.cell j (by omega), wvs_getD _ _ (by exact hj8)]
                      clear hg
                      have hold : Hid ((over ((plusL r v).take j) r.list).length = 8) := hol
                      generalize r.list.getD j 0 = q1 at *
                      generalize v.list.getD j 0 = q2 at *
                      have s1 := Since.cell cj
                      have s2 := Since.cell cw0
                      have i0 : (j : Int) < 8 := by omega
                      have L2 : ∀ a b : W32, IntKind.u32.wrap (wv a + wv b) = wv (a + b) := w_add
                      replace hpl := hide hpl
                      replace htl := hide htl
                      clear hol
                      go_wp2_with fail
                      refine region_since_tail 12 (by kernel_rfl) (by kernel_rfl) ?_
                      simp only [List.take_succ_cons, List.take_zero]
                      repeat (first | go_big_quiet_skip | (go_big_quiet_want; go_big_quiet_op; go_big_quiet_on))
                      refine wpQuiet_nil ?_
                      intro w9 hw9
                      simp only [List.drop_succ_cons, List.drop_zero]
                      clear s1 s2
                      have rv9 : Words w9 gv 71 _ := Arr.later rv hw9
                      have rz9 : Words w9 (gv + 1 + 1) 71 sl := Arr.later rz hw9
                      have rk9 := rk.later hw9
                      have ro9 := ro.later hw9
                      have c9 := rv9.cell (i := j) (by rw [hold.out]; omega)
                      have t9 := Arr.thaw rv9 j
                      have rv10 := rv9.set j (q1 + q2)
                      rw [HNXT.out] at rv10
                      have rk10 := rk9.set ⟨gv, j, none⟩ (.int .u32 (wv (q1 + q2))) (by show gv ≤ gv; omega) (by show gv ≠ gv + 1; omega)
                      have rz10 : Words (w9.setCell ⟨gv, j, none⟩ (.int .u32 (wv (q1 + q2)))) (gv + 1 + 1) 71 sl := Arr.other rz9 _ _ (by show gv + 1 + 1 ≠ gv; omega)
                      have ro10 := ro9.setCell ⟨gv, j, none⟩ (.int .u32 (wv (q1 + q2))) (by simp [Value.ownBlock]; omega)
                      clear rv rz rk ro rv9 rz9 rk9 ro9 cj cw0 hw9
                      go_wp2_with fail
                      go_roundw
                      case rel => exact ⟨j + 1, by omega, by simp, rv10, rz10, rk10, ro10⟩
                      case measure => simp [RowKit.intOf]; omega
                    · have hj8' : j = 8 := by omega
                      subst hj8'
                      rw [show (plusL r v).take 8 = plusL r v by rw [← hpl, List.take_length], over_full _ _ (by rw [hpl]; rfl), plusL_eq, HG.out] at rv
                      go_wp2_with fail
                      go_roundw
                      case rel => exact ⟨t + 64, sl, hle, by have := HT64.out; omega, by simp, HSL2.out, by rw [HNX.out]; exact rv, rz, rk⟩
                      case measure => simp [RowKit.intOf]; omega
        · have hte : t = p.length := by omega
          subst hte
          have HP2 := HR
          generalize states p (p.length / 64) = v at *
          obtain ⟨bs, hh⟩ : ∃ bs, bs = outL v := ⟨_, rfl⟩
          rw [← hh] at HP2
          have HH := hide hh
          have HHL : Hid (bs.length = 32) := by rw [hh]; simp [outL, Hid]
          clear hh qz hwl ht64
          obtain ⟨hS, hSb⟩ := hash_set wr zero32 rfl
          have K1 := qk.later hSb
          have hsz := hide (show wr.heap.size + 1 = ((wr.alloc (.cells (bvs zero32).toArray 23)).setRow wr.heap.size (bvs zero32).toArray).heap.size by simp)
          have V1 : Words ((wr.alloc (.cells (bvs zero32).toArray 23)).setRow wr.heap.size (bvs zero32).toArray) gv 71 v.list := Arr.later qv hSb
          have hlast := qk.s
          clear hSb qv qk
          replace hS := hide hS
          go_wp2_with (first | (refine wpl_zero_hash rfl rfl ?_) | (refine wpl_store_hash rfl _ _ rfl rfl rfl rfl (HashAt.zero wr) ?_))
          show Code.wp _ _ _ _ ((wr.alloc (.cells (bvs zero32).toArray 23)).setRow wr.heap.size (bvs zero32).toArray)
          generalize (wr.alloc (.cells (bvs zero32).toArray 23)).setRow wr.heap.size (bvs zero32).toArray = W10 at *
          generalize wr.heap.size = g9 at *
          have D0 : Byts W10 g9 23 (bfill bs 0) := by
            rw [show bfill bs 0 = zero32 by simp [bfill, HHL.out, zero32]]; exact hS.out.2
          clear hS
          go_loopw [21] (fun i wq => ∃ k : Nat, k ≤ 32 ∧ i = .int .i64 k ∧ Byts wq g9 23 (bfill bs k) ∧ Words wq gv 71 v.list ∧ SumKeep W w.heap.size gp cp gv p wq) (fun i _ => 32 - (RowKit.intOf i).toNat)
          case atStart => exact ⟨0, by omega, rfl, D0, V1, K1⟩
          case round =>
            obtain ⟨k, hk, rfl, d0, d1, d2⟩ := hrel
            clear D0 V1 K1
            by_cases hk32 : k < 32
            · have x0 : wr.cell? ⟨gv, k / 4, none⟩ = some (.int .u32 (wv (v.list.getD (k / 4) 0))) := Words.cell d1 (i := k / 4) (by show k / 4 < 8; omega)
              have e1 := outB_at v k
              have d4 := Byts.set d0 k (bs.getD k 0)
              rw [bfill_next _ _ (by rw [HHL.out]; omega), show bs.getD k 0 = outB v k by rw [HH.out]; simp [outL, hk32], e1] at d4
              have x1 := Byts.cell d0 (i := k) (by rw [bfill_length _ _ (by rw [HHL.out]; omega), HHL.out]; omega)
              have x2 := Arr.thaw d0 k
              generalize v.list.getD (k / 4) 0 = x at *
              have d5 : Words (wr.setCell ⟨g9, k, none⟩ (.int .u8 (wv x / 2 ^ (24 - k % 4 * 8) % 256))) gv 71 v.list := Arr.other d1 _ _ (by show gv ≠ g9; omega)
              have d6 := d2.set ⟨g9, k, none⟩ (.int .u8 (wv x / 2 ^ (24 - k % 4 * 8) % 256)) (by show gv ≤ g9; omega) (by show g9 ≠ gv + 1; omega)
              clear e1
              go_wp2_with fail
              exact ⟨⟨k + 1, by omega, by simp, d4, d5, d6⟩, by simp [RowKit.intOf]; omega⟩
            · have hk' : k = 32 := by omega
              subst hk'
              rw [show bfill bs 32 = bs by have := bfill_full bs; rwa [HHL.out] at this] at d0
              have hA : HashAt wr g9 bs := ⟨HHL.out, d0⟩
              have hZ := d2.r
              have hfin := hide (hZ.row bs HHL.out)
              have hBe := hide (below_setRow (hb0.trans (d2.o.mono (by omega))) (Nat.le_refl w.heap.size) (bvs bs).toArray)
              clear d0 d1 d2
              go_wp2_with (first | (refine wpl_load_hash rfl _ rfl rfl hA ?_) | (refine wpl_store_hash rfl _ _ rfl rfl rfl HHL.out hZ ?_))
              refine bodyPost_ret (v := hv bs) (ret_hash rfl _ _ rfl hfin.out) rfl ⟨?_, hBe.out⟩
              rw [HP2.out]
end Go.Proofs.Ytikphhhkikdhaaa
