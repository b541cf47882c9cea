/- sha.Sum as a contract: what it computes is the sum of ShaSpec. -/
import Derived.Test.YtikphhhkikdhaaaShaSmall
import Derived.Test.YtikphhhkikdhaaaShelf
import Derived.Laws.IdiomStrings
namespace Go.Proofs.Ytikphhhkikdhaaa
open Go.RowKit Go.Lib

def zero32 : List UInt8 := List.replicate 32 0
/-- A hash as a value. -/
def hv (l : List UInt8) : Value := .agg (bvs l).toArray
def padB (s : ByteArray) : ByteArray := ⟨(padL s.data.toList).toArray⟩
theorem repeat_zero (n : Nat) : Lib.repeatL [0] n = List.replicate n 0 := by
  induction n with
  | zero => rfl
  | succ n ih => simp [Lib.repeatL, ih, List.replicate_succ]

theorem eight_lit (m : Int) (n : Nat) (w : World) (h : m = (n : Nat)) : Calls Try.prog 61 #[.int .u64 m] w fun e w' => e = .returned (.string ⟨(eightL n).toArray⟩) ∧ Below w.heap.size w w' := h ▸ eight_any n w
theorem part_congr {f g : Nat → W32} {k : Nat} (j : Nat) (h : ∀ i, i < 4 * k + j → f i = g i) : part f k j = part g k j := by
  induction j with
  | zero => rfl
  | succ j ih => simp only [part]; rw [ih (fun i hi => h i (by omega)), h _ (by omega)]
theorem sched_congr {f g : Nat → W32} (h : ∀ i, i < 64 → f i = g i) : sched f = sched g := by
  unfold sched
  congr 1
  unfold fw
  apply List.map_congr_left
  intro k hk
  have := List.mem_range.1 hk
  exact part_congr 4 (fun i hi => h i (by omega))
theorem sched_slice (p : List UInt8) (pb : ByteArray) (t : Nat) (h : pb = ⟨p.toArray⟩) (ht : t + 64 ≤ pb.size) : sched (sByte (pb.extract t (t + 64))) = sched (byteW p t) := by
  apply sched_congr
  intro i hi
  unfold sByte byteW
  subst h
  have hl : t + 64 ≤ p.length := by have : (⟨p.toArray⟩ : ByteArray).size = p.length := rfl; omega
  rw [ByteArray.data_extract]
  simp only [List.extract_toArray, List.extract_eq_take_drop]
  congr 2
  simp only [List.getD_eq_getElem?_getD, List.getElem?_take, List.getElem?_drop]
  rw [if_pos (by omega)]
theorem outB_at (v : V8) (k : Nat) : ((outB v k).toNat : Int) = wv (v.list.getD (k / 4) 0) / 2 ^ (24 - k % 4 * 8) % 256 := by
  rw [w_shr]
  unfold outB wv
  generalize v.list.getD (k / 4) 0 >>> (24 - k % 4 * 8) = y
  rw [UInt8.toNat_ofNat']
  omega
set_option maxRecDepth 100000 in
set_option maxHeartbeats 3200000 in
theorem sum_any (s : ByteArray) (w : World) (hs : s.size ≤ 1099511627776) :
    Calls Try.prog 33 #[.string s] w fun e w' => e = .returned (hv (sha s.data.toList)) ∧ Below w.heap.size w w' := by
  have hm1 : (119 - (s.size : Int)) % 64 = ((noughts s.size : Nat) : Int) := by unfold noughts; omega
  have hm2 : (119 - (s.size : Int) % 64) % 64 = ((noughts s.size : Nat) : Int) := by unfold noughts; omega
  have hn : noughts s.size < 64 := by unfold noughts; omega
  have hu : (s.size : Int) * 8 < 18446744073709551616 := by omega
  have HP : Hid (s ++ ⟨#[128]⟩ ++ ⟨(Lib.repeatL [0] (noughts s.size)).toArray⟩ ++ ⟨(eightL (s.size * 8)).toArray⟩ = padB s) := by
    unfold Hid padB padL
    rw [repeat_zero]
    apply ByteArray.ext
    simp
  have HR : Hid (hv (sha s.data.toList) = hv (outL (states (padL s.data.toList) ((padL s.data.toList).length / 64)))) := rfl
  have HN : Hid ((padL s.data.toList).length = (padB s).size) := by simp [padB]; rfl
  have HM : Hid ((padB s).size % 64 = 0) := by have := padL_blocks s.data.toList; unfold Hid; rw [HN.out] at this; exact this
  have HZ : Hid ((padB s).size ≤ 1099511627776 + 80) := by
    have h1 := padL_length s.data.toList
    have h2 : noughts s.data.toList.length < 64 := by unfold noughts; omega
    have h3 : s.data.toList.length = s.size := by simp
    have h4 := HN.out
    unfold Hid; omega
  generalize hv (sha s.data.toList) = R at *
  have HRep := hide (fun W : World => Try.strings_Repeat ⟨#[0]⟩ (noughts s.size) W (by omega) (by show 1 * _ ≤ _; omega))
  have HEig := hide (fun W : World => eight_lit ((s.size : Int) * 8) (s.size * 8) W (by push_cast; rfl))
  replace HRep : Hid (∀ W : World, Calls Try.prog 35 #[.string ⟨#[0]⟩, .int .i64 (noughts s.size)] W fun e w' => e = .returned (.string ⟨(Lib.repeatL [0] (noughts s.size)).toArray⟩) ∧ Below W.heap.size W w') := HRep
  generalize (⟨(Lib.repeatL [0] (noughts s.size)).toArray⟩ : ByteArray) = zs at *
  generalize (⟨(eightL (s.size * 8)).toArray⟩ : ByteArray) = es at *
  obtain ⟨pb, hpb⟩ : ∃ pb, pb = padB s := ⟨_, rfl⟩
  rw [← hpb] at HP HN HM HZ
  have HPB := hide hpb
  clear hpb
  generalize noughts s.size = ns at *
  go_enter Try.func33, Try.ntmps33
  go_wp2_with fail
  have r0 : Byts (w.alloc (.cells (bvs zero32).toArray 23)) w.heap.size 23 zero32 := Arr.new w _ _
  have hb := below1 w (.cells (bvs zero32).toArray 23)
  show Calls _ _ _ (w.alloc (.cells (bvs zero32).toArray 23)) _
  generalize w.alloc (.cells (bvs zero32).toArray 23) = W at *
  refine (HRep.out _).mono ?_
  rintro _ w1 ⟨rfl, hb1⟩
  clear hm1 hm2
  have c1 : ¬ 9223372036854775807 < (s ++ ⟨#[128]⟩).size + zs.size := by
    have e := congrArg ByteArray.size HP.out
    have := HZ.out
    simp only [ByteArray.size_append] at e ⊢
    omega
  have c2 : ¬ 9223372036854775807 < (s ++ ⟨#[128]⟩ ++ zs).size + es.size := by
    have e := congrArg ByteArray.size HP.out
    have := HZ.out
    simp only [ByteArray.size_append] at e ⊢
    omega
  generalize s ++ ⟨#[128]⟩ = s1 at *
  generalize (119 - (s.size : Int) % 64) % 64 = q3 at *
  generalize 119 - (s.size : Int) % 64 = q4 at *
  replace c2 := hide c2
  go_wp2_with fail
  have c2' := c2.out
  generalize s1 ++ zs = s2 at *
  refine (HEig.out _).mono ?_
  rintro _ w2 ⟨rfl, hb2⟩
  have hp := HP.out
  go_wp2_with fail
  refine (start_any _).mono ?_
  rintro _ w3 ⟨rfl, hb3⟩
  go_wp2_with fail
  refine (roots_any _).mono ?_
  rintro _ w4 ⟨rfl, hb4⟩
  have hbw := later (later hb1 hb2) (later hb3 hb4)
  replace r0 : Byts w4 w.heap.size 23 zero32 := Arr.later r0 hbw
  replace hb := later hb hbw
  clear hb1 hb2 hb3 hb4 hbw
  clear c1 c2 c2' hn HRep HEig hs hu hp
  have HONE1 := hide (show (wvs rootsL).toArray.all (·.oneCell') = true by simpa using wvs_one rootsL)
  have HONE2 := hide (show (wvs startV.list).toArray.all (·.oneCell') = true by simpa using wvs_one startV.list)
  have HI1 : Hid ((Try.prog.info? 74).map (·.size) = some (wvs rootsL).toArray.size) := by unfold Hid; kernel_rfl
  have HI2 : Hid ((Try.prog.info? 72).map (·.size) = some (wvs startV.list).toArray.size) := by unfold Hid; kernel_rfl
  have HS1 : Hid ((wvs (List.replicate 64 0)).toArray.size = (wvs rootsL).toArray.size) := rfl
  have HS2 : Hid ((wvs (List.replicate 8 0)).toArray.size = (wvs startV.list).toArray.size) := rfl
  obtain ⟨o1, ho1⟩ : ∃ o : Obj, o = .cells (wvs (List.replicate 8 0)).toArray 72 := ⟨_, rfl⟩
  obtain ⟨o2, ho2⟩ : ∃ o : Obj, o = .cells (wvs (List.replicate 64 0)).toArray 74 := ⟨_, rfl⟩
  have QA : Hid (Arr ((w4.alloc o1).alloc o2) w4.heap.size 72 (wvs (List.replicate 8 0))) := by rw [ho1]; exact (Arr.new w4 _ _).alloc _
  have QB0 : Hid (Arr ((w4.alloc o1).alloc o2) (w4.heap.size + 1) 74 (wvs (List.replicate 64 0))) := by rw [ho2]; exact Arr.new2 _ _ _ _
  have QB := hide (Arr.row_other QB0.out w4.heap.size (wvs startV.list).toArray (by omega))
  have QK := hide (Arr.row QB.out (wvs rootsL))
  have QV := hide (Arr.row_other (Arr.row QA.out (wvs startV.list)) (w4.heap.size + 1) (wvs rootsL).toArray (by omega))
  have hbo := below_setRow (below_setRow (below2 w4 o1 o2) (Nat.le_refl _) (wvs startV.list).toArray) (by omega : w4.heap.size ≤ w4.heap.size + 1) (wvs rootsL).toArray
  have QO := hide (Arr.below r0 hbo (Arr.lt r0))
  replace hb := hide (later hb hbo)
  clear hbo
  have hg := Arr.lt r0
  clear r0
  subst ho1 ho2
  go_wp2_with (first | (refine wpList_store_row rfl 72 (.tmp 5) (.tmp 27) rfl w4.heap.size (wvs startV.list).toArray rfl rfl 72 _ QA.out HI2.out HS2.out HONE2.out ?_) | (refine wpList_store_row rfl 74 (.tmp 6) (.tmp 28) rfl (w4.heap.size + 1) (wvs rootsL).toArray rfl rfl 74 _ QB.out HI1.out HS1.out HONE1.out ?_))
  show Code.wp _ _ _ _ ((((w4.alloc (Obj.cells (wvs (List.replicate 8 0)).toArray 72)).alloc (Obj.cells (wvs (List.replicate 64 0)).toArray 74)).setRow w4.heap.size (wvs startV.list).toArray).setRow (w4.heap.size + 1) (wvs rootsL).toArray)
  clear QA QB0 QB HONE1 HI1 HS1 HS2 HI2 HONE2
  generalize (((w4.alloc (Obj.cells (wvs (List.replicate 8 0)).toArray 72)).alloc (Obj.cells (wvs (List.replicate 64 0)).toArray 74)).setRow w4.heap.size (wvs startV.list).toArray).setRow (w4.heap.size + 1) (wvs rootsL).toArray = W7 at *
  generalize w4.heap.size = g at *
  have HP2 := HR
  obtain ⟨p, hp⟩ : ∃ p, p = padL s.data.toList := ⟨_, rfl⟩
  rw [← hp] at HP2 HN
  clear HR HP
  have HPD : Hid (pb = ⟨p.toArray⟩) := by rw [hp]; exact HPB.out
  clear HPB hp
  have RV := QV.out
  have RK := QK.out
  have RO := QO.out
  have RB := hb.out
  clear QV QK QO hb
  go_loopw [7] (fun i wr => ∃ t : Nat, t ≤ pb.size ∧ t % 64 = 0 ∧ i = .int .i64 t ∧ Arr wr g 72 (wvs (states p (t / 64)).list) ∧ Arr wr (g + 1) 74 (wvs rootsL) ∧ Arr wr w.heap.size 23 (bvs zero32) ∧ Below w.heap.size w wr) (fun i _ => pb.size - (RowKit.intOf i).toNat)
  case atStart => exact ⟨0, by omega, rfl, rfl, RV, RK, RO, RB⟩
  case round =>
    obtain ⟨t, ht, ht64, rfl, qv, qk, qo, qb⟩ := hrel
    by_cases hlt : t < pb.size
    · have hle : t + 64 ≤ pb.size := by have := HM.out; omega
      have hz := HZ.out
      have i1 : (t : Int) + 64 ≤ pb.size := by omega
      have i2 : (t : Int) + 64 < 9223372036854775808 := by omega
      have hsz : (pb.extract t (t + 64)).size = 64 := by rw [ByteArray.size_extract]; omega
      have HSC := hide (sched_slice p pb t HPD.out hle)
      have HWL := hide (sched_length (byteW p t))
      have HNX : Hid (states p ((t + 64) / 64) = goesV (states p (t / 64)) (sched (byteW p t))) := by
        unfold Hid
        rw [show (t + 64) / 64 = t / 64 + 1 by omega, show t = 64 * (t / 64) by omega]
        simp only [states]
        rw [show 64 * (t / 64) / 64 = t / 64 by omega]
      replace hsz := hide hsz
      go_wp2_with fail
      refine (words_any _ _ hsz.out).mono ?_
      rintro _ w5 ⟨rfl, hb5⟩
      rw [HSC.out]
      generalize sched (byteW p t) = ws at *
      generalize states p (t / 64) = v at *
      have qv5 : Arr w5 g 72 (wvs v.list) := Arr.later qv hb5
      have qk5 := Arr.later qk hb5
      have qo5 := Arr.later qo hb5
      have qb5 := qb.trans (hb5.mono qb.size)
      have l1 := Arr.lt qv5
      have l2 := Arr.lt qk5
      have l3 := Arr.lt qo5
      have A0 := Arr.new w5 (wvs (List.replicate 64 0)) 74
      have A1 := Arr.row A0 (wvs ws)
      have A2 := Arr.row_other (Arr.alloc qv5 (.cells (wvs (List.replicate 64 0)).toArray 74)) w5.heap.size (wvs ws).toArray (by omega)
      have A3 := Arr.row_other (Arr.alloc qk5 (.cells (wvs (List.replicate 64 0)).toArray 74)) w5.heap.size (wvs ws).toArray (by omega)
      have A4 := Arr.row_other (Arr.alloc qo5 (.cells (wvs (List.replicate 64 0)).toArray 74)) w5.heap.size (wvs ws).toArray (by omega)
      have A5 := below_setRow (qb5.alloc qb5.size (.cells (wvs (List.replicate 64 0)).toArray 74)) qb5.size (wvs ws).toArray
      have HI3 : Hid ((Try.prog.info? 74).map (·.size) = some (wvs ws).toArray.size) := by rw [show (wvs ws).toArray.size = 64 by simp [wvs_length, HWL.out]]; unfold Hid; kernel_rfl
      have HS3 : Hid ((wvs (List.replicate 64 0)).toArray.size = (wvs ws).toArray.size) := by unfold Hid; simp [wvs_length, HWL.out]
      have HO3 := hide (show (wvs ws).toArray.all (·.oneCell') = true by simpa using wvs_one ws)
      have HI4 : Hid ((Try.prog.info? 72).map (·.size) = some (wvs v.list).toArray.size) := by rw [show (wvs v.list).toArray.size = 8 by simp [wvs, V8.list]]; unfold Hid; kernel_rfl
      replace A0 := hide A0
      replace A1 := hide A1
      replace A2 := hide A2
      replace A3 := hide A3
      replace A4 := hide A4
      replace A5 := hide A5
      clear qv5 qk5 qo5 qb5 hb5 l1 l2 l3 qv qk qo qb
      go_wp2_with (first | (refine wpList_store_row rfl 74 (.tmp 8) (.tmp 40) rfl w5.heap.size (wvs ws).toArray rfl rfl 74 _ A0.out HI3.out HS3.out HO3.out ?_) | (refine wpList_load_row rfl 72 (.tmp 5) rfl g rfl 72 (wvs v.list).toArray (0, 0) _ A2.out Try.underlying72 rfl HI4.out ?_))
      show Calls _ _ _ ((w5.alloc (.cells (wvs (List.replicate 64 0)).toArray 74)).setRow w5.heap.size (wvs ws).toArray) _
      clear A0 HI3 HS3 HO3
      generalize (w5.alloc (.cells (wvs (List.replicate 64 0)).toArray 74)).setRow w5.heap.size (wvs ws).toArray = W6 at *
      refine (goes_any v (g + 1) w5.heap.size ws W6 HWL.out A3.out A1.out).mono ?_
      rintro _ w6 ⟨rfl, hb6⟩
      generalize goesV v ws = u at *
      have B0 := hide (Arr.later A2.out hb6)
      have B1 := hide (Arr.row B0.out (wvs u.list))
      have B2 := hide (Arr.row_other (Arr.later A3.out hb6) g (wvs u.list).toArray (by omega))
      have B3 := hide (Arr.row_other (Arr.later A4.out hb6) g (wvs u.list).toArray (by omega))
      have B4 := hide (below_setRow (A5.out.trans (hb6.mono A5.out.size)) (by omega : w.heap.size ≤ g) (wvs u.list).toArray)
      have HI5 : Hid ((Try.prog.info? 72).map (·.size) = some (wvs u.list).toArray.size) := by rw [show (wvs u.list).toArray.size = 8 by simp [wvs, V8.list]]; unfold Hid; kernel_rfl
      have HS5 : Hid ((wvs v.list).toArray.size = (wvs u.list).toArray.size) := by unfold Hid; simp [wvs, V8.list]
      have HO5 := hide (show (wvs u.list).toArray.all (·.oneCell') = true by simpa using wvs_one u.list)
      clear A1 A2 A3 A4 A5 hb6
      go_wp2_with (refine wpList_store_row rfl 72 (.tmp 5) (.tmp 42) rfl g (wvs u.list).toArray rfl rfl 72 _ B0.out HI5.out HS5.out HO5.out ?_)
      go_roundw
      case rel =>
        refine ⟨t + 64, hle, by omega, by simp, ?_⟩
        rw [HNX.out]
        exact ⟨B1.out, B2.out, B3.out, B4.out⟩
      case measure => simp [RowKit.intOf]; omega
    · have hte : t = pb.size := by omega
      subst hte
      rw [HN.out] at HP2
      generalize states p (pb.size / 64) = v at *
      clear qk
      obtain ⟨bs, hh⟩ : ∃ bs, bs = outL v := ⟨_, rfl⟩
      rw [← hh] at HP2
      have HH := hide hh
      clear hh RV RK RO RB
      have HHL : Hid (bs.length = 32) := by rw [HH.out]; simp [outL, Hid]
      have hwg := Arr.lt qo
      have hgg := Arr.lt qv
      have C0 : Byts (wr.alloc (.cells (bvs zero32).toArray 23)) wr.heap.size 23 (bfill bs 0) := by
        rw [show bfill bs 0 = zero32 by simp [bfill, HHL.out, zero32]]; exact Arr.new wr _ _
      have C1 := Arr.alloc qv (.cells (bvs zero32).toArray 23)
      have C2 := Arr.alloc qo (.cells (bvs zero32).toArray 23)
      have C3 := qb.alloc qb.size (.cells (bvs zero32).toArray 23)
      have C4 : wr.heap.size < (wr.alloc (.cells (bvs zero32).toArray 23)).heap.size := by simp
      clear qv qo qb
      go_wp2_with fail
      show Code.wp _ _ _ _ (wr.alloc (.cells (bvs zero32).toArray 23))
      generalize wr.alloc (.cells (bvs zero32).toArray 23) = W8 at *
      generalize wr.heap.size = g9 at *
      go_loopw [43] (fun i wq => ∃ k : Nat, k ≤ 32 ∧ i = .int .i64 k ∧ Byts wq g9 23 (bfill bs k) ∧ Arr wq g 72 (wvs v.list) ∧ Arr wq w.heap.size 23 (bvs zero32) ∧ Below w.heap.size w wq) (fun i _ => 32 - (RowKit.intOf i).toNat)
      case atStart => exact ⟨0, by omega, rfl, C0, C1, C2, C3⟩
      case round =>
        obtain ⟨k, hk, rfl, d0, d1, d2, d3⟩ := hrel
        by_cases hk32 : k < 32
        · have x0 : wr.cell? ⟨g, k / 4, none⟩ = some (.int .u32 (wv (v.list.getD (k / 4) 0))) := Words.cell d1 (i := k / 4) (by show k / 4 < 8; omega)
          have e1 := outB_at v k
          have d4 := Byts.set d0 k (bs.getD k 0)
          rw [bfill_next _ _ (by rw [HHL.out]; omega), show bs.getD k 0 = outB v k by rw [HH.out]; simp [outL, hk32], e1] at d4
          have x1 := Byts.cell d0 (i := k) (by rw [bfill_length _ _ (by rw [HHL.out]; omega), HHL.out]; omega)
          have x2 := Arr.thaw d0 k
          generalize v.list.getD (k / 4) 0 = x at *
          have d5 := Arr.other d1 ⟨g9, k, none⟩ (.int .u8 (wv x / 2 ^ (24 - k % 4 * 8) % 256)) (by show g ≠ g9; omega)
          have d6 := Arr.other d2 ⟨g9, k, none⟩ (.int .u8 (wv x / 2 ^ (24 - k % 4 * 8) % 256)) (by show w.heap.size ≠ g9; omega)
          have d7 := d3.setCell (p := ⟨g9, k, none⟩) (by show w.heap.size ≤ g9; omega) (.int .u8 (wv x / 2 ^ (24 - k % 4 * 8) % 256))
          clear e1
          go_wp2_with fail
          exact ⟨⟨k + 1, by omega, by simp, d4, d5, d6, d7⟩, by simp [RowKit.intOf]; omega⟩
        · have hk' : k = 32 := by omega
          subst hk'
          rw [show bfill bs 32 = bs by have := bfill_full bs; rwa [HHL.out] at this] at d0
          have y1 := hide (Arr.row d2 (bvs bs))
          have y2 := hide (below_setRow d3 (Nat.le_refl w.heap.size) (bvs bs).toArray)
          have y3 := hide (show Arr wr g9 23 (bvs bs) from d0)
          have y4 := hide d2
          have y5 : Hid ((Try.prog.info? 23).map (·.size) = some (bvs bs).toArray.size) := by rw [show (bvs bs).toArray.size = 32 by simp [bvs, HHL.out]]; unfold Hid; kernel_rfl
          have y6 : Hid ((bvs zero32).toArray.size = (bvs bs).toArray.size) := by unfold Hid; simp [bvs, HHL.out, zero32]
          have y7 := hide (show (bvs bs).toArray.all (·.oneCell') = true by simpa using bvs_one bs)
          clear d0 d1 d2 d3
          go_wp2_with (first | (refine wpList_load_row rfl 23 (.tmp 9) rfl g9 rfl 23 (bvs bs).toArray (0, 0) _ y3.out Try.underlying23 rfl y5.out ?_) | (refine wpList_store_row rfl 23 (.tmp 2) (.tmp 59) rfl w.heap.size (bvs bs).toArray rfl rfl 23 _ y4.out y5.out y6.out y7.out ?_))
          refine bodyPost_ret (v := .agg (bvs bs).toArray) (results_cell_row rfl _ _ w.heap.size 23 _ (0, 0) _ rfl y1.out Try.underlying23 rfl y5.out) rfl ⟨?_, y2.out⟩
          rw [HP2.out, hv]
end Go.Proofs.Ytikphhhkikdhaaa
