/- sha.Read as a contract. -/
import Derived.Test.YtfgmhmhankikmaaHex
namespace Go.Proofs.Ytfgmhmhankikmaa
open Go.RowKit Go.Lib

def digV (c : UInt8) : Int := Lib.indexByte [48, 49, 50, 51, 52, 53, 54, 55, 56, 57, 97, 98, 99, 100, 101, 102] c
theorem digV_range (c : UInt8) : -1 ≤ digV c ∧ digV c < 16 := by
  have : ∀ n : Fin 256, -1 ≤ digV (UInt8.ofNat n.1) ∧ digV (UInt8.ofNat n.1) < 16 := by decide +kernel
  have h := this ⟨c.toNat, c.toNat_lt⟩
  simpa using h
/-- One digit more. -/
def rd (s : List UInt8) : Nat → List UInt8
  | 0 => zero32
  | i + 1 => (rd s i).set (i / 2) (UInt8.ofNat ((((rd s i).getD (i / 2) 0).toNat * 16 + (digV (s.getD i 0)).toNat) % 256))
theorem rd_length (s : List UInt8) (i : Nat) : (rd s i).length = 32 := by
  induction i with
  | zero => simp [rd, zero32]
  | succ i ih => simp [rd, ih]
def readL (s : List UInt8) : List UInt8 × Int :=
  if s.length = 64 ∧ s.all (fun c => decide (0 ≤ digV c)) = true then (rd s 64, 0) else (zero32, 2)

theorem results_row_tmp {P : Program} {fn : Func} {p u : Tmp} {ty : TypeId} (h : fn.results = #[.cell p ty, .tmp u]) (tmps : Array Value) (w : World) (g : Nat) (t : TypeId) (cs : Array Value) (fr : Nat × Nat) (d : TypeDesc) (v : Value)
    (hp : tmps.getD p undef = .pointer (some ⟨g, 0, none⟩)) (hv : tmps.getD u undef = v) (hg : w.heap[g]? = some (.cells cs t fr))
    (hu : P.underlying ty = some d) (hd : (match d with | .struct _ | .array _ _ => true | _ => false) = true) (hi : (P.info? ty).map (·.size) = some cs.size) :
    (results fn tmps).run P w = .ok (.tuple #[.agg cs, v]) w := by
  rw [results_cell_tmp h, hp, hv]
  simp [asAddr, run_loadVar_row w g t ty cs fr d hg hu hd hi]

theorem byte_at (s : ByteArray) (p : Nat) (h : p < s.size) : ((s[p]'h).toNat : Int) = ((s.data.toList.getD p 0).toNat : Int) := by
  have hl : p < s.data.toList.length := by simpa using h
  rw [List.getD_eq_getElem?_getD, List.getElem?_eq_getElem hl, Option.getD_some]
  have e : s.data.toList[p] = s[p] := by simp; rfl
  rw [e]
theorem digit_call (c : UInt8) (w : World) :
    Calls Try.prog 42 #[.string ⟨#[48, 49, 50, 51, 52, 53, 54, 55, 56, 57, 97, 98, 99, 100, 101, 102]⟩, .int .u8 (c.toNat : Int)] w fun e w' => e = .returned (.int .i64 (digV c)) ∧ w' = w := by
  have := Try.strings_IndexByte ⟨#[48, 49, 50, 51, 52, 53, 54, 55, 56, 57, 97, 98, 99, 100, 101, 102]⟩ (c.toNat : Int) w
  have e : ((c.toNat : Int)).toNat.toUInt8 = c := by simp
  rw [e] at this
  exact this
theorem or16 (a k : Nat) (hk : k < 16) : bits .or .u8 ((a : Int) * 16 % 256) (k : Int) = (((a * 16 + k) % 256 : Nat) : Int) := by
  have e : ((a : Int) * 16 % 256) = ((a * 16 % 256 : Nat) : Int) := by omega
  rw [e, u8_or_nat _ _ (by omega) (by omega)]
  have h : (a * 16 % 256) ||| k = a * 16 % 256 + k := by
    have : a * 16 % 256 = (a % 16) <<< 4 := by rw [Nat.shiftLeft_eq]; omega
    rw [this, ← Nat.shiftLeft_add_eq_or_of_lt (by omega : k < 2 ^ 4)]
  rw [h]
  congr 1
  omega

set_option maxRecDepth 100000 in
set_option maxHeartbeats 3200000 in
theorem read_any (s : ByteArray) (w : World) :
    Calls Try.prog 16 #[.string s] w fun e w' => e = .returned (.tuple #[hv (readL s.data.toList).1, .int .i64 (readL s.data.toList).2]) ∧ Below w.heap.size w w' := by
  have hz : Hid (Try.prog.built 23 [] = some (bvs zero32).toArray) := by unfold Hid; kernel_rfl
  have hi0 : Hid ((Try.prog.info? 23).map (·.size) = some (bvs zero32).toArray.size) := by unfold Hid; kernel_rfl
  have ho0 := hide (show (bvs zero32).toArray.all (·.oneCell') = true by simpa using bvs_one zero32)
  have q0 := hide (Arr.alloc (Arr.new w (bvs zero32) 23) (.cells (bvs zero32).toArray 23))
  have q1 := hide (Arr.new2 w (.cells (bvs zero32).toArray 23) (bvs zero32) 23)
  have hb := hide (below2 w (.cells (bvs zero32).toArray 23) (.cells (bvs zero32).toArray 23))
  obtain ⟨R, hR⟩ : ∃ R, R = readL s.data.toList := ⟨_, rfl⟩
  rw [← hR]
  have HR := hide hR
  clear hR
  have hs1 : Hid (s.size = s.data.toList.length) := by unfold Hid; simp
  by_cases hlen : s.size = 64
  · go_enter Try.func16, Try.ntmps16
    go_wp2_with fail
    show Code.wp _ _ _ _ ((w.alloc (.cells (bvs zero32).toArray 23)).alloc (.cells (bvs zero32).toArray 23))
    have r0 := q0.out
    have r1 := q1.out
    have rb := hb.out
    clear q0 q1 hb
    generalize (w.alloc (.cells (bvs zero32).toArray 23)).alloc (.cells (bvs zero32).toArray 23) = W at *
    go_loopw [13] (fun i wr => ∃ k : Nat, k ≤ 64 ∧ i = .int .i64 k ∧ (∀ j, j < k → 0 ≤ digV (s.data.toList.getD j 0)) ∧ Arr wr w.heap.size 23 (bvs zero32) ∧ Byts wr (w.heap.size + 1) 23 (rd s.data.toList k) ∧ Below w.heap.size w wr) (fun i _ => 64 - (RowKit.intOf i).toNat)
    case atStart => exact ⟨0, by omega, rfl, fun j hj => absurd hj (by omega), r0, r1, rb⟩
    case round =>
      obtain ⟨k, hk, rfl, hall, p0, p1, hbr⟩ := hrel
      replace hall := hide hall
      by_cases hlt : k < 64
      · have eb : ∀ h : k < s.size, ((s[k]'h).toNat : Int) = ((s.data.toList.getD k 0).toNat : Int) := fun h => byte_at s k h
        have hdr := digV_range (s.data.toList.getD k 0)
        have HRD : Hid (rd s.data.toList (k + 1) = (rd s.data.toList k).set (k / 2) (UInt8.ofNat ((((rd s.data.toList k).getD (k / 2) 0).toNat * 16 + (digV (s.data.toList.getD k 0)).toNat) % 256))) := rfl
        have HC : Hid (∀ c, s.data.toList.getD k 0 = c → digV c < 0 → R = (zero32, 2)) := by
          intro c hc hneg
          rw [HR.out]; unfold readL
          rw [if_neg]
          intro h
          have hm : c ∈ s.data.toList := by
            have hl : k < s.data.toList.length := by rw [← hs1.out]; omega
            rw [← hc, List.getD_eq_getElem?_getD, List.getElem?_eq_getElem hl]
            exact List.getElem_mem hl
          have := List.all_eq_true.1 h.2 c hm
          simp at this
          omega
        have HA : Hid (∀ c, s.data.toList.getD k 0 = c → 0 ≤ digV c → ∀ j, j < k + 1 → 0 ≤ digV (s.data.toList.getD j 0)) := by
          intro c hc h0 j hj
          rcases Nat.lt_or_ge j k with hjk | hjk
          · exact hall.out j hjk
          · have : j = k := by omega
            subst this
            rw [hc]; exact h0
        obtain ⟨c, hc⟩ : ∃ c, s.data.toList.getD k 0 = c := ⟨_, rfl⟩
        have HC2 := hide (HC.out c hc)
        have HA2 := hide (HA.out c hc)
        rw [hc] at eb hdr HRD
        clear hc HC HA hall
        go_wp2_with fail
        refine (digit_call c _).mono ?_
        rintro _ _ ⟨rfl, rfl⟩
        clear eb
        by_cases hneg : digV c < 0
        · have hR2 := hide (HC2.out hneg)
          have hrow := hide (Arr.row p0 (bvs zero32))
          have hbe := hide (below_setRow hbr (Nat.le_refl _) (bvs zero32).toArray)
          replace p0 := hide p0
          clear p1 hbr
          go_wp2_with (first | (refine wpList_build_is rfl 23 #[] rfl (bvs zero32).toArray hz.out ?_) | (refine wpList_store_row rfl 23 (.tmp 2) (.tmp 22) rfl w.heap.size (bvs zero32).toArray rfl rfl 23 _ p0.out hi0.out rfl ho0.out ?_))
          refine bodyPost_ret (v := .tuple #[hv zero32, .int .i64 2]) (results_row_tmp rfl _ _ w.heap.size 23 _ (0, 0) _ _ rfl rfl hrow.out Try.underlying23 rfl hi0.out) rfl ⟨?_, hbe.out⟩
          rw [hR2.out]
        · have hnn : 0 ≤ digV c := by omega
          have hA3 := hide (HA2.out hnn)
          obtain ⟨dv, hdv⟩ : ∃ dv : Nat, digV c = dv := ⟨(digV c).toNat, by omega⟩
          have hdv16 : dv < 16 := by omega
          rw [hdv] at HRD ⊢
          clear hneg hnn HC2 HA2 hdr hdv
          have HLR := hide (rd_length s.data.toList k)
          have x1 := p1.cell (i := k / 2) (by rw [HLR.out]; omega)
          have x2 := Arr.thaw p1 (k / 2)
          have o1 := or16 ((rd s.data.toList k).getD (k / 2) 0).toNat dv hdv16
          have d1 := Byts.set p1 (k / 2) (UInt8.ofNat ((((rd s.data.toList k).getD (k / 2) 0).toNat * 16 + dv) % 256))
          have o2 : ((UInt8.ofNat ((((rd s.data.toList k).getD (k / 2) 0).toNat * 16 + dv) % 256)).toNat : Int) = (((((rd s.data.toList k).getD (k / 2) 0).toNat * 16 + dv) % 256 : Nat) : Int) := by
            rw [UInt8.toNat_ofNat']; omega
          rw [o2] at d1
          have HRD' : Hid (rd s.data.toList (k + 1) = (rd s.data.toList k).set (k / 2) (UInt8.ofNat ((((rd s.data.toList k).getD (k / 2) 0).toNat * 16 + dv) % 256))) := by simpa using HRD
          rw [← HRD'.out] at d1
          clear HRD HRD' o2
          generalize ((rd s.data.toList k).getD (k / 2) 0).toNat = x at *
          generalize (x * 16 + dv) % 256 = y at *
          have d2 := Arr.other p0 ⟨w.heap.size + 1, k / 2, none⟩ (.int .u8 (y : Int)) (by simp)
          have d3 := hbr.setCell (p := ⟨w.heap.size + 1, k / 2, none⟩) (by simp) (.int .u8 (y : Int))
          have m1 : (dv : Int) % 256 = dv := by omega
          have m2 : 0 ≤ (dv : Int) := by omega
          have m3 : (k : Int) / 2 < 32 := by omega
          clear p0 p1 hbr
          go_wp2_with fail
          exact ⟨⟨k + 1, by omega, by simp, hA3.out, d2, d1, d3⟩, by simp [RowKit.intOf]; omega⟩
      · have hk64 : k = 64 := by omega
        subst hk64
        have HRZ : Hid (R = (rd s.data.toList 64, 0)) := by
          rw [HR.out]; unfold Hid readL
          rw [if_pos]
          refine ⟨by rw [← hs1.out]; exact hlen, ?_⟩
          rw [List.all_eq_true]
          intro c hc
          obtain ⟨j, hj, e⟩ := List.getElem_of_mem hc
          have hj' : j < 64 := by rw [← hs1.out, hlen] at hj; exact hj
          have := hall.out j hj'
          rw [List.getD_eq_getElem?_getD, List.getElem?_eq_getElem hj, Option.getD_some, e] at this
          simpa using this
        have HLR := hide (rd_length s.data.toList 64)
        have P1 : Arr wr (w.heap.size + 1) 23 (bvs (rd s.data.toList 64)) := p1
        generalize rd s.data.toList 64 = bs at *
        have y1 := hide (Arr.row p0 (bvs bs))
        have y2 := hide (below_setRow hbr (Nat.le_refl w.heap.size) (bvs bs).toArray)
        have y3 := hide P1
        have y4 := hide p0
        have y5 : Hid ((Try.prog.info? 23).map (·.size) = some (bvs bs).toArray.size) := by rw [show (bvs bs).toArray.size = 32 by simp [bvs, HLR.out]]; unfold Hid; kernel_rfl
        have y6 : Hid ((bvs zero32).toArray.size = (bvs bs).toArray.size) := by unfold Hid; simp [bvs, HLR.out, zero32]
        have y7 := hide (show (bvs bs).toArray.all (·.oneCell') = true by simpa using bvs_one bs)
        clear p0 p1 P1 hbr
        go_wp2_with (first | (refine wpList_load_row rfl 23 (.tmp 4) rfl (w.heap.size + 1) rfl 23 (bvs bs).toArray (0, 0) _ y3.out Try.underlying23 rfl y5.out ?_) | (refine wpList_store_row rfl 23 (.tmp 2) (.tmp 35) rfl w.heap.size (bvs bs).toArray rfl rfl 23 _ y4.out y5.out y6.out y7.out ?_))
        refine bodyPost_ret (v := .tuple #[hv bs, .int .i64 0]) (results_row_tmp rfl _ _ w.heap.size 23 _ (0, 0) _ _ rfl rfl y1.out Try.underlying23 rfl y5.out) rfl ⟨?_, y2.out⟩
        rw [HRZ.out]
  · have HRZ : Hid (R = (zero32, 2)) := by
      rw [HR.out]; unfold Hid readL
      rw [if_neg (by rw [← hs1.out]; exact fun h => hlen h.1)]
    rw [HRZ.out]
    go_enter Try.func16, Try.ntmps16
    have hrow := hide (Arr.row q0.out (bvs zero32))
    have hbe := hide (below_setRow hb.out (Nat.le_refl _) (bvs zero32).toArray)
    clear hb
    go_wp2_with (first | (refine wpList_load_row rfl 23 (.tmp 4) rfl (w.heap.size + 1) rfl 23 (bvs zero32).toArray (0, 0) _ q1.out Try.underlying23 rfl hi0.out ?_) | (refine wpList_store_row rfl 23 (.tmp 2) (.tmp 10) rfl w.heap.size (bvs zero32).toArray rfl rfl 23 _ q0.out hi0.out rfl ho0.out ?_))
    refine bodyPost_ret (v := .tuple #[hv zero32, .int .i64 2]) (results_row_tmp rfl _ _ w.heap.size 23 _ (0, 0) _ _ rfl rfl hrow.out Try.underlying23 rfl hi0.out) rfl ⟨rfl, hbe.out⟩
end Go.Proofs.Ytfgmhmhankikmaa
