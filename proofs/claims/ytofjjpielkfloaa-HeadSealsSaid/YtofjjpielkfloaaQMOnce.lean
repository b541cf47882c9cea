/- Several texts of this proof in one: Once1, OnceBit, OncePub, OncePublic, OnceTell1, OncePublic2, OnceTells, OnceSign, OnceKey, OnceLaw, OnceCheck, OnceTells2, OnceCheck2, OnceWorks. -/
import Derived.Test.YtofjjpielkfloaaQMRef
import Derived.Test.YtofjjpielkfloaaQMOf
/- Package once: bit, mark, secret. -/
namespace Go.Proofs.Ytofjjpielkfloaa
open Go.RowKit Go.Lib

def tagMark : List UInt8 := [109, 97, 114, 107]
def tagSecret : List UInt8 := [115, 101, 99, 114, 101, 116]
/-- A secret's mark; a seed's secret. -/
def markL (s : List UInt8) : List UInt8 := ofX tagMark [s]
def secretL (seed : List UInt8) (i b : Nat) : List UInt8 := ofX tagSecret [seed, [UInt8.ofNat (2 * i + b)]]
theorem markL_length (s : List UInt8) : (markL s).length = 32 := ofX_length _ _
theorem secretL_length (s : List UInt8) (i b : Nat) : (secretL s i b).length = 32 := ofX_length _ _

set_option maxRecDepth 100000 in
set_option maxHeartbeats 1600000 in
theorem mark_any (s : List UInt8) (hs : s.length ≤ 1048576) (w : World) :
    Calls Try.prog 97 #[.string ⟨s.toArray⟩] w fun e w' => e = .returned (.string ⟨(markL s).toArray⟩) ∧ Below w.heap.size w w' := by
  obtain ⟨r, hr⟩ : ∃ r, r = markL s := ⟨_, rfl⟩
  have HR : Hid (∀ w, Calls Try.prog 94 #[.string ⟨#[109, 97, 114, 107]⟩, .slice (some ⟨w.heap.size, 0, none⟩) 1 1] (w.alloc (.cells #[.string ⟨s.toArray⟩] 9)) fun e w' => e = .returned (hv r) ∧ Below w.heap.size w w') :=
    fun w => by rw [hr]; exact of1 tagMark s w (by decide) hs
  have HL : Hid (r.length = 32) := by rw [hr]; exact markL_length s
  rw [← hr]
  clear hr hs
  generalize (⟨s.toArray⟩ : ByteArray) = sb at *
  go_enter Try.func97, Try.ntmps97
  go_wp2_with fail
  refine (HR.out _).mono ?_
  rintro _ w1 ⟨rfl, hb1⟩
  go_wp2_with fail
  refine (bytes_any _ _ HL.out).mono ?_
  rintro _ w2 ⟨rfl, hb2⟩
  go_wp2_with fail
  go_ret
  exact ⟨rfl, later hb1 hb2⟩

theorem of_at (tag : List UInt8) (ps : List (List UInt8)) (v : Value) (w : World) (hv0 : Strs w v (ps.map txt)) (ht : tag.length ≤ 1048576) (hp : ∀ p ∈ ps, p.length ≤ 1048576) (hn : ps.length ≤ 16) :
    Calls Try.prog 94 #[.string (txt tag), v] w fun e w' => e = .returned (hv (ofX tag ps)) ∧ Below w.heap.size w w' := by
  have hl : (putText (txt tag).data.toList ++ tellL (ps.map txt)).length ≤ 1099511627776 := by
    have h1 := putText_le tag
    have h2 := tells_le ps 1048576 hp
    rw [tellL_txt, List.length_append]
    have h3 : ps.length * (10 + 1048576) ≤ 16 * (10 + 1048576) := Nat.mul_le_mul_right _ hn
    show (putText tag).length + _ ≤ _
    omega
  refine (of_any (txt tag) (ps.map txt) _ _ hv0 (by simp; omega) hl).mono ?_
  rintro e w' ⟨rfl, hb⟩
  rw [ofL_txt]
  exact ⟨rfl, hb⟩
theorem mixed_now {B : Nat} {W a b : World} (hB : B ≤ W.heap.size) (h : ∃ s : From B W, a = s.w) (k : Below a.heap.size a b) : Fromly B W b := by
  obtain ⟨s, rfl⟩ := h
  exact fromly (mixed hB s.ok k)

set_option maxRecDepth 100000 in
set_option maxHeartbeats 1600000 in
theorem secret_any (seed : List UInt8) (i b : Nat) (hl : seed.length = 32) (hi : i < 16) (hb : b < 2) (w : World) :
    Calls Try.prog 98 #[hv seed, .int .i64 i, .int .i64 b] w fun e w' => e = .returned (.string ⟨(secretL seed i b).toArray⟩) ∧ Below w.heap.size w w' := by
  obtain ⟨r, hr⟩ : ∃ r, r = secretL seed i b := ⟨_, rfl⟩
  obtain ⟨c, hc⟩ : ∃ c : UInt8, c = UInt8.ofNat (2 * i + b) := ⟨_, rfl⟩
  have HR : Hid (∀ w v, Strs w v [⟨seed.toArray⟩, ⟨#[c]⟩] → Calls Try.prog 94 #[.string ⟨#[115, 101, 99, 114, 101, 116]⟩, v] w fun e w' => e = .returned (hv r) ∧ Below w.heap.size w w') :=
    fun w v hs => by rw [hr]; rw [hc] at hs; exact of_at tagSecret [seed, [UInt8.ofNat (2 * i + b)]] v w hs (by decide) (two_small (by omega) (by simp)) (by simp)
  have HC : Hid ((2 * (i : Int) + (b : Int)) = (c.toNat : Int)) := by rw [hc, UInt8.toNat_ofNat']; unfold Hid; omega
  clear hc
  have HL : Hid (r.length = 32) := by rw [hr]; exact secretL_length _ _ _
  rw [← hr]
  have HSL := hide hl
  have hB := below1 w (.cells (bvs seed).toArray 23)
  have hA := HashAt.new w seed hl
  clear hr hl
  unfold hv
  go_enter Try.func98, Try.ntmps98
  go_wp2_with fail
  show Code.wp _ _ _ _ (w.alloc (.cells (bvs seed).toArray 23))
  generalize hW : w.alloc (.cells (bvs seed).toArray 23) = W at *
  have hs1 : w.heap.size < W.heap.size := hA.lt
  refine region_float W.heap.size [([0], true, [1]), ([2,3,4,5,6], false, [7]), ([], false, [8]), ([], false, [9]), ([], false, [10]), ([], false, [11]), ([], false, [12])] (by kernel_rfl) (by kernel_rfl) (by kernel_rfl) (by decide) (Nat.le_refl _) ?_
  intro w0 hw0 hs
  simp only [pickFl, pickOps, List.getElem?_cons_succ, List.getElem?_cons_zero, List.nil_append, List.cons_append]
  refine fl_float ?_
  go_big_quiet_want
  refine mix_load_hash _ rfl rfl hA hs1 ?_
  simp only [Act.put, List.setIfInBounds_toArray, List.set_cons_succ, List.set_cons_zero]
  go_big_quiet_on
  refine wpQuiet_nil ?_
  refine fl_call (args := #[hv seed]) (by rfl) rfl (by kernel_rfl) (by simp only [List.map_toArray, List.map_cons, List.map_nil]; rfl) (fun w' _ => bytes_any seed w' HSL.out) ?_
  intro w1 hw1
  simp only [Act.put, List.setIfInBounds_toArray, List.set_cons_succ, List.set_cons_zero]
  refine fl_loud ?_
  repeat (first | go_big_quiet_skip | (go_big_quiet_want; go_big_quiet_op; go_big_quiet_on))
  refine wpQuiet_nil ?_
  intro w2 hw2 hC2
  go_wp2_with fail
  rw [HC.out]
  have hy : Byts (w2.alloc (.cells (bvs [c]).toArray 5)) w2.heap.size 5 [c] := Arr.new w2 (bvs [c]) 5
  have hb2 := below1 w2 (.cells (bvs [c]).toArray 5)
  show mixQ _ _ _ _ (w2.alloc (.cells (bvs [c]).toArray 5))
  refine mixQ_mk (mixed_now (Nat.le_refl _) hC2 hb2) ?_
  generalize w2.alloc (.cells (bvs [c]).toArray 5) = W2 at *
  refine fl_loud (wpQuiet_nil ?_)
  intro w3 hw3 hC3
  have ht := Byts.text (P := Try.prog) (hy.later hw3 : Byts _ _ _ _) 76 9 5 1 1 rfl Try.underlying76 Try.underlying5 Try.underlying9
  go_wp2_with fail
  refine mixQ_mk hC3 (fl_loud (wpQuiet_nil ?_))
  intro w4 hw4 hC4
  go_wp2_with fail
  have hst := strs_new w4 [seed, [c]]
  have hb4 := below1 w4 (.cells #[.string ⟨seed.toArray⟩, .string ⟨#[c]⟩] 9)
  show mixQ _ _ _ _ (w4.alloc (.cells #[.string ⟨seed.toArray⟩, .string ⟨#[c]⟩] 9))
  refine mixQ_mk (mixed_now (Nat.le_refl _) hC4 hb4) ?_
  replace hst : Strs (w4.alloc (.cells #[.string ⟨seed.toArray⟩, .string ⟨#[c]⟩] 9)) (.slice (some ⟨w4.heap.size, 0, none⟩) 2 2) [⟨seed.toArray⟩, ⟨#[c]⟩] := hst
  generalize w4.alloc (.cells #[.string ⟨seed.toArray⟩, .string ⟨#[c]⟩] 9) = W4 at *
  refine fl_loud (wpQuiet_nil ?_)
  intro w5 hw5 hC5
  go_wp2_with fail
  refine (HR.out _ _ (strs_later hst hw5)).mono ?_
  rintro _ w6 ⟨rfl, hb6⟩
  go_wp2_with fail
  refine mixQ_mk (mixed_now (Nat.le_refl _) hC5 hb6) (fl_loud (wpQuiet_nil ?_))
  intro w7 hw7 hC7
  go_wp2_with fail
  refine (bytes_any _ _ HL.out).mono ?_
  rintro _ w8 ⟨rfl, hb8⟩
  go_wp2_with fail
  refine mixQ_mk (mixed_now (Nat.le_refl _) hC7 hb8) (fl_loud (wpQuiet_nil ?_))
  intro w9 hw9 hC9
  go_wp2_with fail
  refine mixQ_mk hC9 (fl_end ?_)
  intro w10 hw10 hC10
  obtain ⟨s, rfl⟩ := hC10
  have hend := later hB s.ok
  go_wp2_with fail
  go_ret
  exact ⟨rfl, hend⟩
end Go.Proofs.Ytofjjpielkfloaa

/- Package once: a message's bits. -/
namespace Go.Proofs.Ytofjjpielkfloaa
open Go.RowKit Go.Lib

/-- A message's bit at a place. -/
def bitL (m : List UInt8) (i : Nat) : Nat := (m.getD (i / 8) 0).toNat / 2 ^ (7 - i % 8) % 2
theorem bitL_lt (m : List UInt8) (i : Nat) : bitL m i < 2 := Nat.mod_lt _ (by decide)

theorem bits_one (c : UInt8) (k : Nat) (hk : k < 8) : wrap64 (bits BinOp.and IntKind.u8 ((c.toNat : Int) / 2 ^ k) 1) = ((c.toNat / 2 ^ k % 2 : Nat) : Int) := by
  have : ∀ n : Fin 256, ∀ k : Fin 8, wrap64 (bits BinOp.and IntKind.u8 ((n.1 : Int) / 2 ^ k.1) 1) = ((n.1 / 2 ^ k.1 % 2 : Nat) : Int) := by decide +kernel
  exact this ⟨c.toNat, c.toNat_lt⟩ ⟨k, hk⟩
set_option maxRecDepth 100000 in
set_option maxHeartbeats 1600000 in
theorem bit_any (m : List UInt8) (i : Nat) (hl : m.length = 32) (hi : i < 16) (w : World) :
    Calls Try.prog 104 #[hv m, .int .i64 i] w fun e w' => e = .returned (.int .i64 (bitL m i)) ∧ Below w.heap.size w w' := by
  obtain ⟨r, hr⟩ : ∃ r, r = bitL m i := ⟨_, rfl⟩
  have HR := hide hr
  rw [← hr]
  clear hr
  have hB := below1 w (.cells (bvs m).toArray 23)
  have hA := HashAt.new w m hl
  have hc : (w.alloc (.cells (bvs m).toArray 23)).cell? ⟨w.heap.size, i / 8, none⟩ = some (.int .u8 ((m.getD (i / 8) 0).toNat : Int)) := by
    rw [Arr.cell hA.2 (i := i / 8) (by rw [bvs_length]; omega), bvs_getD m _ (by omega)]
  have hd : Int.tdiv (i : Int) 8 = ((i / 8 : Nat) : Int) := by rw [Int.tdiv_eq_ediv_of_nonneg (by omega)]; omega
  have hm : Int.tmod (i : Int) 8 = ((i % 8 : Nat) : Int) := by rw [Int.tmod_eq_emod_of_nonneg (by omega)]; omega
  have HL := hide hl
  clear hl
  unfold hv
  go_enter Try.func104, Try.ntmps104
  go_wp2_with fail
  have e : wrap64 (bits BinOp.and IntKind.u8 (((m[i / 8]?.getD 0).toNat : Int) / 2 ^ (7 - i % 8)) 1) = (r : Int) := by
    rw [bits_one _ _ (by omega), HR.out]
    unfold bitL
    rw [List.getD_eq_getElem?_getD]
  rw [e]
  go_ret
  exact ⟨rfl, hB⟩
end Go.Proofs.Ytofjjpielkfloaa

/- Package once: the closure of Public. -/
namespace Go.Proofs.Ytofjjpielkfloaa
open Go.RowKit Go.Lib

def pairV (a b : List UInt8) : Value := .agg #[.string ⟨a.toArray⟩, .string ⟨b.toArray⟩]
/-- A load of a whole hash, in a class in which it lies. -/
theorem kept_load_hash {o : Oper} {a : Act} {K : World → Prop} {N : Act → Prop} (x : Operand) (ho : o.op = .load 23 x) {g : Nat} {l : List UInt8} (hx : a.eval x = .pointer (some ⟨g, 0, none⟩)) (h : ∀ w, K w → HashAt w g l) (hl : l.length = 32) (hk : N (a.put o.dst (hv l))) :
    o.quiet Try.prog a (fun w' => ∃ s : Kept K, w' = s.w) N := by
  refine quiet_value (hv l) (fun w hw => ?_) hk
  obtain ⟨s, rfl⟩ := hw
  unfold execOp
  simp only [ho, hx, Instr.loadAt, Instr.sureAddr, Sem.run_bind, Sem.run_pure, Result.andThen_ok, run_loadVar_row s.w g 23 23 (bvs l).toArray (0, 0) _ (h _ s.ok).2 Try.underlying23 rfl (hashInfoOf l hl)]
  rfl
theorem built2 (a b : ByteArray) : Try.prog.built 111 [(0, .string a), (1, .string b)] = some #[.string a, .string b] := by kernel_rfl
theorem info2 : (Try.prog.info? 111).map (·.size) = some 2 := by kernel_rfl
/-- Two texts in a block. -/
def PairAt (w : World) (g : Nat) : Prop := ∃ a b : ByteArray, Arr w g 111 [.string a, .string b]

set_option maxRecDepth 100000 in
set_option maxHeartbeats 1600000 in
theorem pub1_any (seed : List UInt8) (g i : Nat) (hi : i < 16) (w : World) (hA : HashAt w g seed) :
    Calls Try.prog 96 #[.int .i64 i, .pointer (some ⟨g, 0, none⟩)] w fun e w' => e = .returned (pairV (markL (secretL seed i 0)) (markL (secretL seed i 1))) ∧ Below w.heap.size w w' := by
  have HS : Hid (∀ (b : Nat) w, b < 2 → Calls Try.prog 98 #[hv seed, .int .i64 i, .int .i64 b] w fun e w' => e = .returned (.string ⟨(secretL seed i b).toArray⟩) ∧ Below w.heap.size w w') :=
    fun b w hb => secret_any seed i b hA.1 hi hb w
  have HM : Hid (∀ (b : Nat) w, Calls Try.prog 97 #[.string ⟨(secretL seed i b).toArray⟩] w fun e w' => e = .returned (.string ⟨(markL (secretL seed i b)).toArray⟩) ∧ Below w.heap.size w w') :=
    fun b w => mark_any _ (by rw [secretL_length]; omega) w
  have hb := below1 w (.cells #[.string ⟨#[]⟩, .string ⟨#[]⟩] 111)
  have hp : PairAt (w.alloc (.cells #[.string ⟨#[]⟩, .string ⟨#[]⟩] 111)) w.heap.size := ⟨_, _, Arr.new w [.string ⟨#[]⟩, .string ⟨#[]⟩] 111⟩
  have HL := hide hA.1
  have hg := hA.lt
  go_enter Try.func96, Try.ntmps96
  go_wp2_with fail
  have hz : w.heap.size < (w.alloc (.cells #[.string ⟨#[]⟩, .string ⟨#[]⟩] 111)).heap.size := by simp
  have hA1 := hA.later hb
  show Code.wp _ _ _ _ (w.alloc (.cells #[.string ⟨#[]⟩, .string ⟨#[]⟩] 111))
  generalize w.alloc (.cells #[.string ⟨#[]⟩, .string ⟨#[]⟩] 111) = W at *
  refine region_kept (fun w2 => Below w.heap.size w w2 ∧ HashAt w2 g seed ∧ PairAt w2 w.heap.size) [([0, 1], true, [2]), ([], true, [3]), ([4, 5], true, [6]), ([], true, [7]), ([8], false, [9])] (by kernel_rfl) (by kernel_rfl) (by kernel_rfl) (by decide) ⟨hb, hA1, hp⟩ (fun a b h k => ⟨later h.1 k, h.2.1.later k, by obtain ⟨x, y, h⟩ := h.2.2; exact ⟨x, y, h.later k⟩⟩) ?_
  intro w0 hw0 hs
  simp only [pickFl, pickOps, List.getElem?_cons_succ, List.getElem?_cons_zero, List.nil_append, List.cons_append]
  refine fl_float ?_
  go_big_quiet_want
  refine kept_load_hash _ rfl rfl (fun w h => h.2.1) HL.out ?_
  simp only [Act.put, List.setIfInBounds_toArray, List.set_cons_succ, List.set_cons_zero]
  go_big_quiet_on
  repeat (first | go_big_quiet_skip | (go_big_quiet_want; go_big_quiet_op; go_big_quiet_on))
  refine wpQuiet_nil ?_
  refine fl_call (args := #[hv seed, .int .i64 i, .int .i64 0]) (by rfl) rfl (by kernel_rfl) (by simp only [List.map_toArray, List.map_cons, List.map_nil]; rfl) (fun w' _ => HS.out 0 w' (by decide)) ?_
  intro w1 hw1
  simp only [Act.put, List.setIfInBounds_toArray, List.set_cons_succ, List.set_cons_zero]
  refine fl_float (wpQuiet_nil ?_)
  refine fl_call (args := #[.string ⟨(secretL seed i 0).toArray⟩]) (by rfl) rfl (by kernel_rfl) (by simp only [List.map_toArray, List.map_cons, List.map_nil]; rfl) (fun w' _ => HM.out 0 w') ?_
  intro w2 hw2
  simp only [Act.put, List.setIfInBounds_toArray, List.set_cons_succ, List.set_cons_zero]
  refine fl_float ?_
  go_big_quiet_want
  refine kept_load_hash _ rfl rfl (fun w h => h.2.1) HL.out ?_
  simp only [Act.put, List.setIfInBounds_toArray, List.set_cons_succ, List.set_cons_zero]
  go_big_quiet_on
  repeat (first | go_big_quiet_skip | (go_big_quiet_want; go_big_quiet_op; go_big_quiet_on))
  refine wpQuiet_nil ?_
  refine fl_call (args := #[hv seed, .int .i64 i, .int .i64 1]) (by rfl) rfl (by kernel_rfl) (by simp only [List.map_toArray, List.map_cons, List.map_nil]; rfl) (fun w' _ => HS.out 1 w' (by decide)) ?_
  intro w3 hw3
  simp only [Act.put, List.setIfInBounds_toArray, List.set_cons_succ, List.set_cons_zero]
  refine fl_float (wpQuiet_nil ?_)
  refine fl_call (args := #[.string ⟨(secretL seed i 1).toArray⟩]) (by rfl) rfl (by kernel_rfl) (by simp only [List.map_toArray, List.map_cons, List.map_nil]; rfl) (fun w' _ => HM.out 1 w') ?_
  intro w4 hw4
  simp only [Act.put, List.setIfInBounds_toArray, List.set_cons_succ, List.set_cons_zero]
  obtain ⟨m0, hm0⟩ : ∃ m0, m0 = markL (secretL seed i 0) := ⟨_, rfl⟩
  obtain ⟨m1, hm1⟩ : ∃ m1, m1 = markL (secretL seed i 1) := ⟨_, rfl⟩
  rw [← hm0, ← hm1]
  refine fl_loud ?_
  go_big_quiet_want
  refine quiet_build _ _ rfl #[.string ⟨m0.toArray⟩, .string ⟨m1.toArray⟩] (by simp only [List.map_toArray, List.map_cons, List.map_nil]; exact built2 _ _) ?_
  simp only [Act.put, List.setIfInBounds_toArray, List.set_cons_succ, List.set_cons_zero]
  go_big_quiet_on
  refine wpQuiet_nil ?_
  intro w5 hw5 hC5
  obtain ⟨⟨w5, hb5, hA5, x, y, hp5⟩, rfl⟩ := hC5
  refine wpList_store_row rfl 111 _ _ rfl w.heap.size #[.string ⟨m0.toArray⟩, .string ⟨m1.toArray⟩] rfl rfl 111 _ hp5 info2 rfl (by simp [Value.oneCell']) ?_
  have hr := Arr.row hp5 [.string ⟨m0.toArray⟩, .string ⟨m1.toArray⟩]
  have hbr := below_setRow hb5 (Nat.le_refl w.heap.size) #[.string ⟨m0.toArray⟩, .string ⟨m1.toArray⟩]
  have hAr := HashAt.row_other hA5 w.heap.size #[.string ⟨m0.toArray⟩, .string ⟨m1.toArray⟩] (by omega)
  refine mixQ_mk (kept ⟨hbr, hAr, _, _, hr⟩) (fl_end ?_)
  intro w6 hw6 _
  have hr6 := hr.later hw6
  have hb6 := later hbr hw6
  go_wp2_with fail
  exact bodyPost_ret (v := pairV m0 m1) (results_cell_row rfl _ _ w.heap.size 111 _ (0, 0) _ rfl hr6 Try.underlying111 rfl info2) rfl ⟨by rw [hm0, hm1], hb6⟩
end Go.Proofs.Ytofjjpielkfloaa

/- Package once: public, by the closure of Public. -/
namespace Go.Proofs.Ytofjjpielkfloaa
open Go.RowKit Go.Lib

def tagOnce : List UInt8 := [111, 110, 99, 101]
/-- What the marks come to, place by place. -/
def joinM (m : Nat → List UInt8 × List UInt8) (k : Nat) : List UInt8 := (List.range k).flatMap fun i => (m i).1 ++ (m i).2
theorem joinM_succ (m : Nat → List UInt8 × List UInt8) (k : Nat) : joinM m (k + 1) = joinM m k ++ (m k).1 ++ (m k).2 := by
  unfold joinM
  rw [List.range_succ, List.flatMap_append]
  simp
theorem joinM_length (m : Nat → List UInt8 × List UInt8) (hm : ∀ i, (m i).1.length = 32 ∧ (m i).2.length = 32) : ∀ k, (joinM m k).length = 64 * k
  | 0 => rfl
  | k + 1 => by rw [joinM_succ, List.length_append, List.length_append, joinM_length m hm k, (hm k).1, (hm k).2]; omega
def onceL (m : Nat → List UInt8 × List UInt8) : List UInt8 := ofX tagOnce [joinM m 16]
/-- .. and of a place the first j. -/
def halfM (a b : List UInt8) : Nat → List UInt8
  | 0 => []
  | 1 => a
  | _ => a ++ b
theorem builder_more {B b : Nat} {x : List UInt8} {s : List UInt8} {w : World} {all : List UInt8} (h : Lib.BuilderAt 78 5 B b (.pointer (some ⟨b, 0, none⟩)) (Lib.byteCells x ++ Lib.strCells ⟨s.toArray⟩) w) (ha : all = x ++ s) :
    Lib.IsBuilder 78 5 B b (Lib.byteCells all) w := by
  refine Or.inr ?_
  have e : Lib.byteCells all = Lib.byteCells x ++ Lib.strCells ⟨s.toArray⟩ := by rw [ha]; simp [Lib.byteCells, Lib.strCells]
  rw [e]; exact h

-- BEGIN
set_option maxRecDepth 100000 in
set_option maxHeartbeats 3200000 in
theorem public_seed (m : Nat → List UInt8 × List UInt8) (hm : ∀ i, (m i).1.length = 32 ∧ (m i).2.length = 32) (g : Nat) (w : World) (KEEP : World → Prop) (hk1 : ∀ w', Below w.heap.size w w' → KEEP w')
    (hc0 : ∀ (i : Nat) w, i < 16 → KEEP w → Calls Try.prog 96 #[.int .i64 i, .pointer (some ⟨g, 0, none⟩)] w fun e w' => e = .returned (pairV (m i).1 (m i).2) ∧ Below w.heap.size w w') :
    Calls Try.prog 95 #[.func (.func 96) #[] #[.pointer (some ⟨g, 0, none⟩)]] w fun e w' => e = .returned (hv (onceL m)) ∧ Below w.heap.size w w' := by
  obtain ⟨R, hR⟩ : ∃ R, R = onceL m := ⟨_, rfl⟩
  rw [← hR]
  have HR := hide hR
  clear hR
  have HM := hide hm
  have HK := hide hk1
  have HC := hide hc0
  clear hm hk1 hc0
  have q0 := hide (Arr.alloc (Arr.new w (bvs zero32) 23) (.cells #[.pointer none, .slice none 0 0] 78))
  have hb := hide (below2 w (.cells (bvs zero32).toArray 23) (.cells #[.pointer none, .slice none 0 0] 78))
  have hbu : Hid (Lib.IsBuilder 78 5 (w.heap.size + 1) (w.heap.size + 1) (Lib.byteCells (joinM m 0)) ((w.alloc (.cells (bvs zero32).toArray 23)).alloc (.cells #[.pointer none, .slice none 0 0] 78))) := by
    refine Or.inl ⟨by omega, .slice none 0 0, ?_, World.ownsRow_nil _ _ _ _, by simp [Value.ownBlock]⟩
    exact Arr.new2 w (.cells (bvs zero32).toArray 23) [.pointer none, .slice none 0 0] 78
  go_enter Try.func95, Try.ntmps95
  go_wp2_with fail
  have hW : w.heap.size + 1 ≤ ((w.alloc (.cells (bvs zero32).toArray 23)).alloc (.cells #[.pointer none, .slice none 0 0] 78)).heap.size := by simp
  have hb' := hb.out
  have q0' := q0.out
  have hbu' := hbu.out
  clear hb q0 hbu
  go_loopw [7] (fun i wr => ∃ k : Nat, k ≤ 16 ∧ i = .int .i64 k ∧ Lib.IsBuilder 78 5 (w.heap.size + 1) (w.heap.size + 1) (Lib.byteCells (joinM m k)) wr ∧ Arr wr w.heap.size 23 (bvs zero32) ∧ w.heap.size + 1 ≤ wr.heap.size ∧ Below w.heap.size w wr) (fun i _ => 16 - (RowKit.intOf i).toNat)
  case atStart => exact ⟨0, by omega, rfl, hbu', q0', hW, hb'⟩
  case round =>
    obtain ⟨k, hk, rfl, qb, qo, qs, qw⟩ := hrel
    clear hbu' q0' hW hb'
    by_cases hlt : k < 16
    · have hc := HC.out k wr hlt (HK.out _ qw)
      have hj := joinM_length m HM.out k
      have hs := joinM_succ m k
      obtain ⟨hm0, hm1⟩ := HM.out k
      generalize (m k).1 = x0 at *
      generalize (m k).2 = x1 at *
      have HS := hide hs
      have HJ := hide hj
      have HX0 := hide hm0
      have HX1 := hide hm1
      clear hs hj hm0 hm1
      go_wp2_with fail
      refine hc.mono ?_
      rintro _ w3 ⟨rfl, hb3⟩
      have e1 := hb3.size
      have b4 := builder_later qb hb3
      have q4 := Arr.later qo hb3
      have w4 := qw.trans (hb3.mono qw.size)
      clear qb qo qw hc
      have qs4 : w.heap.size + 1 ≤ w3.heap.size := by omega
      clear qs hb3 e1
      unfold pairV
      go_wp2_with fail
      obtain ⟨wo, hwo⟩ : ∃ wo : World, wo = wr := ⟨_, rfl⟩
      clear hwo
      go_loopw [13] (fun i wq => ∃ j : Nat, j ≤ 2 ∧ i = .int .i64 j ∧ Lib.IsBuilder 78 5 (w.heap.size + 1) (w.heap.size + 1) (Lib.byteCells (joinM m k ++ halfM x0 x1 j)) wq ∧ Arr wq w.heap.size 23 (bvs zero32) ∧ w.heap.size + 1 ≤ wq.heap.size ∧ Below w.heap.size w wq) (fun i _ => 2 - (RowKit.intOf i).toNat)
      case atStart => exact ⟨0, by omega, rfl, by simpa [halfM] using b4, q4, qs4, w4⟩
      case round =>
        obtain ⟨j, hj, rfl, pb, po, ps, pw⟩ := hrel
        clear b4 q4 qs4 w4
        rcases (by omega : j = 0 ∨ j = 1 ∨ j = 2) with rfl | rfl | rfl
        · have ix : ∀ w, (Instr.index 111 (.agg #[.string ⟨x0.toArray⟩, .string ⟨x1.toArray⟩]) (.int .i64 0)).run Try.prog w = .ok (.string ⟨x0.toArray⟩) w := fun _ => by kernel_rfl
          go_wp2_with fail
          refine (writeString _ _ _ ⟨x0.toArray⟩ _ pb (by have := HJ.out; have h0 := HX0.out; rw [Lib.byteCells_length, List.length_append]; show _ + x0.length ≤ _; simp only [halfM, List.length_nil]; omega) (by omega)).mono ?_
          rintro _ w5 ⟨rfl, b5, hb5⟩
          have q5 := Arr.below po hb5 (by omega)
          have w6 := pw.trans (hb5.mono (by omega))
          have e2 := hb5.size
          have b6 := builder_more b5 (show joinM m k ++ halfM x0 x1 1 = _ by simp [halfM])
          have e3 : w.heap.size + 1 ≤ w5.heap.size := by omega
          clear pb po pw b5 hb5 e2
          go_wp2_with fail
          go_roundw
          case rel => exact ⟨1, by omega, by simp, b6, q5, e3, w6⟩
          case measure => simp [RowKit.intOf]
        · have ix : ∀ w, (Instr.index 111 (.agg #[.string ⟨x0.toArray⟩, .string ⟨x1.toArray⟩]) (.int .i64 1)).run Try.prog w = .ok (.string ⟨x1.toArray⟩) w := fun _ => by kernel_rfl
          go_wp2_with fail
          refine (writeString _ _ _ ⟨x1.toArray⟩ _ pb (by have := HJ.out; have h0 := HX0.out; have h1 := HX1.out; rw [Lib.byteCells_length, List.length_append]; show _ + x1.length ≤ _; simp only [halfM]; omega) (by omega)).mono ?_
          rintro _ w5 ⟨rfl, b5, hb5⟩
          have q5 := Arr.below po hb5 (by omega)
          have w6 := pw.trans (hb5.mono (by omega))
          have e2 := hb5.size
          have b6 := builder_more b5 (show joinM m k ++ halfM x0 x1 2 = _ by simp [halfM])
          have e3 : w.heap.size + 1 ≤ w5.heap.size := by omega
          clear pb po pw b5 hb5 e2
          go_wp2_with fail
          go_roundw
          case rel => exact ⟨2, by omega, by simp, b6, q5, e3, w6⟩
          case measure => simp [RowKit.intOf]
        · go_wp2_with fail
          have b6 : Lib.IsBuilder 78 5 (w.heap.size + 1) (w.heap.size + 1) (Lib.byteCells (joinM m (k + 1))) wr := by
            rw [HS.out, List.append_assoc]; exact pb
          go_roundw
          case rel => exact ⟨k + 1, by omega, by simp, b6, po, ps, pw⟩
          case measure => simp [RowKit.intOf]; omega
    · have hkn : k = 16 := by omega
      subst hkn
      have HJ := hide (joinM_length m HM.out 16)
      obtain ⟨all, hall⟩ : ∃ all, all = joinM m 16 := ⟨_, rfl⟩
      rw [← hall] at qb HJ
      have HRA : Hid (R = ofX tagOnce [all]) := by rw [HR.out, hall]; rfl
      clear hall
      go_wp2_with fail
      refine (Try.Builder_String_any _ _ _ _ qb qs).mono ?_
      rintro _ w7 ⟨rfl, hb7⟩
      have q7 := Arr.below qo hb7 (by omega)
      have w8 := qw.trans (hb7.mono (by omega))
      clear qb qo qw
      go_wp2_with fail
      refine (of1 tagOnce all _ (by decide) (by have := HJ.out; omega)).mono ?_
      rintro _ w9 ⟨rfl, hb9⟩
      have q9 := hide (Arr.later q7 hb9)
      have w10 := w8.trans (hb9.mono w8.size)
      have hlR : R.length = 32 := by rw [HRA.out]; exact ofX_length _ _
      have e : hv (ofX tagOnce [all]) = hv R := by rw [HRA.out]
      rw [e]
      clear e
      have y1 := hide (Arr.row q9.out (bvs R))
      have y2 := hide (below_setRow w10 (Nat.le_refl w.heap.size) (bvs R).toArray)
      have hz : HashAt w9 w.heap.size zero32 := ⟨rfl, q9.out⟩
      have HLR := hide hlR
      clear q7 w8 hb9 w10 hlR
      go_wp2_with (refine wpl_store_hash rfl _ _ rfl rfl rfl HLR.out hz ?_)
      exact bodyPost_ret (v := hv R) (ret_hash rfl _ _ rfl ⟨HLR.out, y1.out⟩) rfl ⟨rfl, y2.out⟩
-- END
end Go.Proofs.Ytofjjpielkfloaa

/- Package once: the closure of Tells. -/
namespace Go.Proofs.Ytofjjpielkfloaa
open Go.RowKit Go.Lib

theorem txt_back (s : ByteArray) : (⟨s.data.toList.toArray⟩ : ByteArray) = s := by cases s; simp
theorem mark_ba (s : ByteArray) (hs : s.size ≤ 1048576) (w : World) :
    Calls Try.prog 97 #[.string s] w fun e w' => e = .returned (.string ⟨(markL s.data.toList).toArray⟩) ∧ Below w.heap.size w w' := by
  have := mark_any s.data.toList (by simpa using hs) w
  rwa [txt_back] at this
/-- A part of a text. -/
def cut (s : ByteArray) (x y : Nat) : List UInt8 := (s.extract x y).data.toList
/-- What a signature's place tells: the two marks. -/
def tellM (m : List UInt8) (sig : ByteArray) (i : Nat) : List UInt8 × List UInt8 :=
  if 16 ≤ i then (zero32, zero32) else if bitL m i = 0 then (markL (cut sig (64 * i) (64 * i + 32)), cut sig (64 * i + 32) (64 * i + 64)) else (cut sig (64 * i + 32) (64 * i + 64), markL (cut sig (64 * i) (64 * i + 32)))
set_option maxRecDepth 100000 in
set_option maxHeartbeats 1600000 in
theorem tell1_any (m : List UInt8) (sig : ByteArray) (hsz : sig.size = 1024) (g h i : Nat) (hi : i < 16) (w : World) (hA : HashAt w g m) (hh : h < w.heap.size) (hs : w.cell? ⟨h, 0, none⟩ = some (.string sig)) :
    Calls Try.prog 109 #[.int .i64 i, .pointer (some ⟨g, 0, none⟩), .pointer (some ⟨h, 0, none⟩)] w fun e w' => e = .returned (pairV (tellM m sig i).1 (tellM m sig i).2) ∧ Below w.heap.size w w' := by
  have hb := below2 w (.cells #[.string ⟨#[]⟩, .string ⟨#[]⟩] 111) (.cells #[.string ⟨#[]⟩, .string ⟨#[]⟩] 111)
  have hp := Arr.new2 w (.cells #[.string ⟨#[]⟩, .string ⟨#[]⟩] 111) [.string ⟨#[]⟩, .string ⟨#[]⟩] 111
  have hq := Arr.alloc (Arr.new w [.string ⟨#[]⟩, .string ⟨#[]⟩] 111) (.cells #[.string ⟨#[]⟩, .string ⟨#[]⟩] 111)
  have hA1 := hA.later hb
  have hs1 := (hb.cell (p := ⟨h, 0, none⟩) hh).trans hs
  have hg := hA.lt
  have HB := hide (fun w => bit_any m i hA.1 hi w)
  have HA := hide hA1
  have hbl := bitL_lt m i
  clear hA hs
  have HT0 : Hid (bitL m i = 0 → tellM m sig i = (markL (cut sig (64 * i) (64 * i + 32)), cut sig (64 * i + 32) (64 * i + 64))) := fun h => by unfold tellM; rw [if_neg (by omega), if_pos h]
  have HT1 : Hid (bitL m i ≠ 0 → tellM m sig i = (cut sig (64 * i + 32) (64 * i + 64), markL (cut sig (64 * i) (64 * i + 32)))) := fun h => by unfold tellM; rw [if_neg (by omega), if_neg h]
  generalize bitL m i = b at *
  go_enter Try.func109, Try.ntmps109
  go_wp2_with (refine wpl_load_hash rfl _ rfl rfl HA.out ?_)
  show Calls _ _ _ ((w.alloc (.cells #[.string ⟨#[]⟩, .string ⟨#[]⟩] 111)).alloc (.cells #[.string ⟨#[]⟩, .string ⟨#[]⟩] 111)) _
  generalize (w.alloc (.cells #[.string ⟨#[]⟩, .string ⟨#[]⟩] 111)).alloc (.cells #[.string ⟨#[]⟩, .string ⟨#[]⟩] 111) = W at *
  refine (HB.out _).mono ?_
  rintro _ w3 ⟨rfl, hb3⟩
  go_wp2_with fail
  have hb4 := later hb hb3
  have hp3 := hp.later hb3
  have hq3 := hq.later hb3
  have hs3 := (hb3.cell (p := ⟨h, 0, none⟩) (by have := hb.size; show h < _; omega)).trans hs1
  clear hb hp hq hs1 hA1 HA hb3
  obtain ⟨K, hKd⟩ : ∃ K : World → Prop, ∀ w2, K w2 ↔ (Below w.heap.size w w2 ∧ w2.cell? ⟨h, 0, none⟩ = some (.string sig) ∧ PairAt w2 (w.heap.size + 1) ∧ PairAt w2 w.heap.size) := ⟨_, fun _ => Iff.rfl⟩
  have hK3 : K w3 := (hKd _).2 ⟨hb4, hs3, ⟨_, _, hp3⟩, ⟨_, _, hq3⟩⟩
  have hne : Nonempty (Kept K) := ⟨⟨w3, hK3⟩⟩
  refine region_kept K [([0, 1, 2, 3, 4, 5, 6, 7], true, [8]), ([9, 10, 11, 12, 13, 14, 15], false, [16]), ([17], false, [18])] (by kernel_rfl) (by kernel_rfl) (by kernel_rfl) (by decide) hK3
    (fun a c h1 k => by rw [hKd] at h1 ⊢; obtain ⟨r1, r2, ⟨x, y, r3⟩, ⟨x', y', r4⟩⟩ := h1; exact ⟨later r1 k, (k.cell (p := ⟨h, 0, none⟩) (by have := r1.size; show h < _; omega)).trans r2, ⟨x, y, r3.later k⟩, ⟨x', y', r4.later k⟩⟩) ?_
  obtain ⟨X, hX⟩ : ∃ X : ByteArray, X = ⟨(markL (cut sig (64 * i) (64 * i + 32))).toArray⟩ := ⟨_, rfl⟩
  have HMK : Hid (∀ w, Calls Try.prog 97 #[.string (sig.extract (64 * i) (64 * i + 32))] w fun e w' => e = .returned (.string X) ∧ Below w.heap.size w w') := by
    intro w; rw [hX]; exact mark_ba (sig.extract (64 * i) (64 * i + 32)) (by rw [ByteArray.size_extract]; omega) w
  have HX := hide hX
  have HY : Hid (⟨(cut sig (64 * i + 32) (64 * i + 64)).toArray⟩ = sig.extract (64 * i + 32) (64 * i + 64)) := txt_back _
  clear hX
  rcases (by omega : b = 0 ∨ b = 1) with rfl | rfl
  · intro w0 hw0 hs0
    simp only [pickFl, pickOps, List.getElem?_cons_succ, List.getElem?_cons_zero, List.nil_append, List.cons_append]
    have hcs : ∀ s : Kept K, s.w.cell? ⟨h, 0, none⟩ = some (.string sig) := fun s => ((hKd _).1 s.ok).2.1
    refine fl_float ?_
    repeat (first | go_big_quiet_skip | (go_big_quiet_want; go_big_quiet_op; go_big_quiet_on))
    refine wpQuiet_nil ?_
    refine fl_call (args := #[.string (sig.extract (64 * i) (64 * i + 32))]) (by rfl) rfl (by kernel_rfl) (by simp only [List.map_toArray, List.map_cons, List.map_nil]; rfl) (fun w' _ => HMK.out w') ?_
    intro w4 hw4
    simp only [Act.put, List.setIfInBounds_toArray, List.set_cons_succ, List.set_cons_zero]
    refine fl_loud ?_
    repeat (first | go_big_quiet_skip | (go_big_quiet_want; go_big_quiet_op; go_big_quiet_on))
    refine wpQuiet_nil ?_
    intro w5 hw5 hC5
    obtain ⟨s5, rfl⟩ := hC5
    generalize sig.extract (64 * i + 32) (64 * i + 64) = Y at *
    obtain ⟨k1, k2, ⟨y0, y1, k3⟩, ⟨z0, z1, k4⟩⟩ := (hKd _).1 s5.ok
    generalize s5.w = w5 at *
    have c0 : w5.cell? ⟨w.heap.size + 1, 0, none⟩ = some (.string y0) := k3.cell (by simp)
    have t0 := k3.thaw 0
    go_wp2_with fail
    have r5 : Arr (w5.setCell ⟨w.heap.size + 1, 0, none⟩ (.string X)) (w.heap.size + 1) 111 [.string X, .string y1] := k3.set 0 _
    have s5 : Below w.heap.size w5 (w5.setCell ⟨w.heap.size + 1, 0, none⟩ (.string X)) := (Below.refl _ _).setCell (by show w.heap.size ≤ w.heap.size + 1; omega) _
    have q5 := k4.other ⟨w.heap.size + 1, 0, none⟩ (.string X) (by show w.heap.size ≠ w.heap.size + 1; omega)
    refine mixQ_mk (kept ((hKd _).2 ⟨k1.trans s5, (s5.cell (p := ⟨h, 0, none⟩) hh).trans k2, ⟨_, _, r5⟩, ⟨_, _, q5⟩⟩)) (fl_loud ?_)
    repeat (first | go_big_quiet_skip | (go_big_quiet_want; go_big_quiet_op; go_big_quiet_on))
    refine wpQuiet_nil ?_
    intro w6 hw6 hC6
    have r6 := r5.later hw6
    have q6 := q5.later hw6
    have b6 := later (k1.trans s5) hw6
    have k6 := (hw6.cell (p := ⟨h, 0, none⟩) (by have := (k1.trans s5).size; show h < _; omega)).trans ((s5.cell (p := ⟨h, 0, none⟩) hh).trans k2)
    have c6 : w6.cell? ⟨w.heap.size + 1, 1, none⟩ = some (.string y1) := r6.cell (by simp)
    have t6 := r6.thaw 1
    clear r5 q5 s5 k1 k2 k3 k4 hC6
    go_wp2_with fail
    have r7 : Arr (w6.setCell ⟨w.heap.size + 1, 1, none⟩ (.string Y)) (w.heap.size + 1) 111 [.string X, .string Y] := r6.set 1 _
    have s7 : Below w.heap.size w6 (w6.setCell ⟨w.heap.size + 1, 1, none⟩ (.string Y)) := (Below.refl _ _).setCell (by show w.heap.size ≤ w.heap.size + 1; omega) _
    have q7 := q6.other ⟨w.heap.size + 1, 1, none⟩ (.string Y) (by show w.heap.size ≠ w.heap.size + 1; omega)
    refine mixQ_mk (kept ((hKd _).2 ⟨b6.trans s7, (s7.cell (p := ⟨h, 0, none⟩) hh).trans k6, ⟨_, _, r7⟩, ⟨_, _, q7⟩⟩)) (fl_end ?_)
    intro w8 hw8 _
    have r8 := r7.later hw8
    have q8 := q7.later hw8
    have b8 := later (b6.trans s7) hw8
    clear r7 q7 s7 r6 q6 b6 c6 t6 hcs
    go_wp2_with (first | (refine wpList_load_row rfl 111 _ rfl (w.heap.size + 1) rfl 111 #[.string X, .string Y] (0, 0) _ r8 Try.underlying111 rfl info2 ?_) | (refine wpList_store_row rfl 111 _ _ rfl w.heap.size #[.string X, .string Y] rfl rfl 111 _ q8 info2 rfl (by simp [Value.oneCell']) ?_))
    have y1 := Arr.row q8 [.string X, .string Y]
    have y2 := below_setRow b8 (Nat.le_refl w.heap.size) #[.string X, .string Y]
    have ee : Value.agg #[.string X, .string Y] = pairV (tellM m sig i).1 (tellM m sig i).2 := by
      rw [(HT0.out (by trivial))]
      unfold pairV
      rw [HY.out, HX.out]
    exact bodyPost_ret (v := .agg #[.string X, .string Y]) (results_cell_row rfl _ _ w.heap.size 111 _ (0, 0) _ rfl y1 Try.underlying111 rfl info2) rfl ⟨by rw [ee], y2⟩
  · intro w0 hw0 hs0
    simp only [pickFl, pickOps, List.getElem?_cons_succ, List.getElem?_cons_zero, List.nil_append, List.cons_append]
    have hcs : ∀ s : Kept K, s.w.cell? ⟨h, 0, none⟩ = some (.string sig) := fun s => ((hKd _).1 s.ok).2.1
    refine fl_float ?_
    repeat (first | go_big_quiet_skip | (go_big_quiet_want; go_big_quiet_op; go_big_quiet_on))
    refine wpQuiet_nil ?_
    refine fl_call (args := #[.string (sig.extract (64 * i) (64 * i + 32))]) (by rfl) rfl (by kernel_rfl) (by simp only [List.map_toArray, List.map_cons, List.map_nil]; rfl) (fun w' _ => HMK.out w') ?_
    intro w4 hw4
    simp only [Act.put, List.setIfInBounds_toArray, List.set_cons_succ, List.set_cons_zero]
    refine fl_loud ?_
    repeat (first | go_big_quiet_skip | (go_big_quiet_want; go_big_quiet_op; go_big_quiet_on))
    refine wpQuiet_nil ?_
    intro w5 hw5 hC5
    obtain ⟨s5, rfl⟩ := hC5
    generalize sig.extract (64 * i + 32) (64 * i + 64) = Y at *
    obtain ⟨k1, k2, ⟨y0, y1, k3⟩, ⟨z0, z1, k4⟩⟩ := (hKd _).1 s5.ok
    generalize s5.w = w5 at *
    have c0 : w5.cell? ⟨w.heap.size + 1, 1, none⟩ = some (.string y1) := k3.cell (by simp)
    have t0 := k3.thaw 1
    go_wp2_with fail
    have r5 : Arr (w5.setCell ⟨w.heap.size + 1, 1, none⟩ (.string X)) (w.heap.size + 1) 111 [.string y0, .string X] := k3.set 1 _
    have s5 : Below w.heap.size w5 (w5.setCell ⟨w.heap.size + 1, 1, none⟩ (.string X)) := (Below.refl _ _).setCell (by show w.heap.size ≤ w.heap.size + 1; omega) _
    have q5 := k4.other ⟨w.heap.size + 1, 1, none⟩ (.string X) (by show w.heap.size ≠ w.heap.size + 1; omega)
    refine mixQ_mk (kept ((hKd _).2 ⟨k1.trans s5, (s5.cell (p := ⟨h, 0, none⟩) hh).trans k2, ⟨_, _, r5⟩, ⟨_, _, q5⟩⟩)) (fl_loud ?_)
    repeat (first | go_big_quiet_skip | (go_big_quiet_want; go_big_quiet_op; go_big_quiet_on))
    refine wpQuiet_nil ?_
    intro w6 hw6 hC6
    have r6 := r5.later hw6
    have q6 := q5.later hw6
    have b6 := later (k1.trans s5) hw6
    have k6 := (hw6.cell (p := ⟨h, 0, none⟩) (by have := (k1.trans s5).size; show h < _; omega)).trans ((s5.cell (p := ⟨h, 0, none⟩) hh).trans k2)
    have c6 : w6.cell? ⟨w.heap.size + 1, 0, none⟩ = some (.string y0) := r6.cell (by simp)
    have t6 := r6.thaw 0
    clear r5 q5 s5 k1 k2 k3 k4 hC6
    go_wp2_with fail
    have r7 : Arr (w6.setCell ⟨w.heap.size + 1, 0, none⟩ (.string Y)) (w.heap.size + 1) 111 [.string Y, .string X] := r6.set 0 _
    have s7 : Below w.heap.size w6 (w6.setCell ⟨w.heap.size + 1, 0, none⟩ (.string Y)) := (Below.refl _ _).setCell (by show w.heap.size ≤ w.heap.size + 1; omega) _
    have q7 := q6.other ⟨w.heap.size + 1, 0, none⟩ (.string Y) (by show w.heap.size ≠ w.heap.size + 1; omega)
    refine mixQ_mk (kept ((hKd _).2 ⟨b6.trans s7, (s7.cell (p := ⟨h, 0, none⟩) hh).trans k6, ⟨_, _, r7⟩, ⟨_, _, q7⟩⟩)) (fl_end ?_)
    intro w8 hw8 _
    have r8 := r7.later hw8
    have q8 := q7.later hw8
    have b8 := later (b6.trans s7) hw8
    clear r7 q7 s7 r6 q6 b6 c6 t6 hcs
    go_wp2_with (first | (refine wpList_load_row rfl 111 _ rfl (w.heap.size + 1) rfl 111 #[.string Y, .string X] (0, 0) _ r8 Try.underlying111 rfl info2 ?_) | (refine wpList_store_row rfl 111 _ _ rfl w.heap.size #[.string Y, .string X] rfl rfl 111 _ q8 info2 rfl (by simp [Value.oneCell']) ?_))
    have y1 := Arr.row q8 [.string Y, .string X]
    have y2 := below_setRow b8 (Nat.le_refl w.heap.size) #[.string Y, .string X]
    have ee : Value.agg #[.string Y, .string X] = pairV (tellM m sig i).1 (tellM m sig i).2 := by
      rw [(HT1.out (by first | trivial | decide))]
      unfold pairV
      rw [HY.out, HX.out]
    exact bodyPost_ret (v := .agg #[.string Y, .string X]) (results_cell_row rfl _ _ w.heap.size 111 _ (0, 0) _ rfl y1 Try.underlying111 rfl info2) rfl ⟨by rw [ee], y2⟩
end Go.Proofs.Ytofjjpielkfloaa

/- Package once: public, by the closure of Tells. -/
namespace Go.Proofs.Ytofjjpielkfloaa
open Go.RowKit Go.Lib

set_option maxRecDepth 100000 in
set_option maxHeartbeats 3200000 in
theorem public_tells (m : Nat → List UInt8 × List UInt8) (hm : ∀ i, (m i).1.length = 32 ∧ (m i).2.length = 32) (g h : Nat) (w : World) (KEEP : World → Prop) (hk1 : ∀ w', Below w.heap.size w w' → KEEP w')
    (hc0 : ∀ (i : Nat) w, i < 16 → KEEP w → Calls Try.prog 109 #[.int .i64 i, .pointer (some ⟨g, 0, none⟩), .pointer (some ⟨h, 0, none⟩)] w fun e w' => e = .returned (pairV (m i).1 (m i).2) ∧ Below w.heap.size w w') :
    Calls Try.prog 95 #[.func (.func 109) #[] #[.pointer (some ⟨g, 0, none⟩), .pointer (some ⟨h, 0, none⟩)]] w fun e w' => e = .returned (hv (onceL m)) ∧ Below w.heap.size w w' := by
  obtain ⟨R, hR⟩ : ∃ R, R = onceL m := ⟨_, rfl⟩
  rw [← hR]
  have HR := hide hR
  clear hR
  have HM := hide hm
  have HK := hide hk1
  have HC := hide hc0
  clear hm hk1 hc0
  have q0 := hide (Arr.alloc (Arr.new w (bvs zero32) 23) (.cells #[.pointer none, .slice none 0 0] 78))
  have hb := hide (below2 w (.cells (bvs zero32).toArray 23) (.cells #[.pointer none, .slice none 0 0] 78))
  have hbu : Hid (Lib.IsBuilder 78 5 (w.heap.size + 1) (w.heap.size + 1) (Lib.byteCells (joinM m 0)) ((w.alloc (.cells (bvs zero32).toArray 23)).alloc (.cells #[.pointer none, .slice none 0 0] 78))) := by
    refine Or.inl ⟨by omega, .slice none 0 0, ?_, World.ownsRow_nil _ _ _ _, by simp [Value.ownBlock]⟩
    exact Arr.new2 w (.cells (bvs zero32).toArray 23) [.pointer none, .slice none 0 0] 78
  go_enter Try.func95, Try.ntmps95
  go_wp2_with fail
  have hW : w.heap.size + 1 ≤ ((w.alloc (.cells (bvs zero32).toArray 23)).alloc (.cells #[.pointer none, .slice none 0 0] 78)).heap.size := by simp
  have hb' := hb.out
  have q0' := q0.out
  have hbu' := hbu.out
  clear hb q0 hbu
  go_loopw [7] (fun i wr => ∃ k : Nat, k ≤ 16 ∧ i = .int .i64 k ∧ Lib.IsBuilder 78 5 (w.heap.size + 1) (w.heap.size + 1) (Lib.byteCells (joinM m k)) wr ∧ Arr wr w.heap.size 23 (bvs zero32) ∧ w.heap.size + 1 ≤ wr.heap.size ∧ Below w.heap.size w wr) (fun i _ => 16 - (RowKit.intOf i).toNat)
  case atStart => exact ⟨0, by omega, rfl, hbu', q0', hW, hb'⟩
  case round =>
    obtain ⟨k, hk, rfl, qb, qo, qs, qw⟩ := hrel
    clear hbu' q0' hW hb'
    by_cases hlt : k < 16
    · have hc := HC.out k wr hlt (HK.out _ qw)
      have hj := joinM_length m HM.out k
      have hs := joinM_succ m k
      obtain ⟨hm0, hm1⟩ := HM.out k
      generalize (m k).1 = x0 at *
      generalize (m k).2 = x1 at *
      have HS := hide hs
      have HJ := hide hj
      have HX0 := hide hm0
      have HX1 := hide hm1
      clear hs hj hm0 hm1
      go_wp2_with fail
      refine hc.mono ?_
      rintro _ w3 ⟨rfl, hb3⟩
      have e1 := hb3.size
      have b4 := builder_later qb hb3
      have q4 := Arr.later qo hb3
      have w4 := qw.trans (hb3.mono qw.size)
      clear qb qo qw hc
      have qs4 : w.heap.size + 1 ≤ w3.heap.size := by omega
      clear qs hb3 e1
      unfold pairV
      go_wp2_with fail
      obtain ⟨wo, hwo⟩ : ∃ wo : World, wo = wr := ⟨_, rfl⟩
      clear hwo
      go_loopw [13] (fun i wq => ∃ j : Nat, j ≤ 2 ∧ i = .int .i64 j ∧ Lib.IsBuilder 78 5 (w.heap.size + 1) (w.heap.size + 1) (Lib.byteCells (joinM m k ++ halfM x0 x1 j)) wq ∧ Arr wq w.heap.size 23 (bvs zero32) ∧ w.heap.size + 1 ≤ wq.heap.size ∧ Below w.heap.size w wq) (fun i _ => 2 - (RowKit.intOf i).toNat)
      case atStart => exact ⟨0, by omega, rfl, by simpa [halfM] using b4, q4, qs4, w4⟩
      case round =>
        obtain ⟨j, hj, rfl, pb, po, ps, pw⟩ := hrel
        clear b4 q4 qs4 w4
        rcases (by omega : j = 0 ∨ j = 1 ∨ j = 2) with rfl | rfl | rfl
        · have ix : ∀ w, (Instr.index 111 (.agg #[.string ⟨x0.toArray⟩, .string ⟨x1.toArray⟩]) (.int .i64 0)).run Try.prog w = .ok (.string ⟨x0.toArray⟩) w := fun _ => by kernel_rfl
          go_wp2_with fail
          refine (writeString _ _ _ ⟨x0.toArray⟩ _ pb (by have := HJ.out; have h0 := HX0.out; rw [Lib.byteCells_length, List.length_append]; show _ + x0.length ≤ _; simp only [halfM, List.length_nil]; omega) (by omega)).mono ?_
          rintro _ w5 ⟨rfl, b5, hb5⟩
          have q5 := Arr.below po hb5 (by omega)
          have w6 := pw.trans (hb5.mono (by omega))
          have e2 := hb5.size
          have b6 := builder_more b5 (show joinM m k ++ halfM x0 x1 1 = _ by simp [halfM])
          have e3 : w.heap.size + 1 ≤ w5.heap.size := by omega
          clear pb po pw b5 hb5 e2
          go_wp2_with fail
          go_roundw
          case rel => exact ⟨1, by omega, by simp, b6, q5, e3, w6⟩
          case measure => simp [RowKit.intOf]
        · have ix : ∀ w, (Instr.index 111 (.agg #[.string ⟨x0.toArray⟩, .string ⟨x1.toArray⟩]) (.int .i64 1)).run Try.prog w = .ok (.string ⟨x1.toArray⟩) w := fun _ => by kernel_rfl
          go_wp2_with fail
          refine (writeString _ _ _ ⟨x1.toArray⟩ _ pb (by have := HJ.out; have h0 := HX0.out; have h1 := HX1.out; rw [Lib.byteCells_length, List.length_append]; show _ + x1.length ≤ _; simp only [halfM]; omega) (by omega)).mono ?_
          rintro _ w5 ⟨rfl, b5, hb5⟩
          have q5 := Arr.below po hb5 (by omega)
          have w6 := pw.trans (hb5.mono (by omega))
          have e2 := hb5.size
          have b6 := builder_more b5 (show joinM m k ++ halfM x0 x1 2 = _ by simp [halfM])
          have e3 : w.heap.size + 1 ≤ w5.heap.size := by omega
          clear pb po pw b5 hb5 e2
          go_wp2_with fail
          go_roundw
          case rel => exact ⟨2, by omega, by simp, b6, q5, e3, w6⟩
          case measure => simp [RowKit.intOf]
        · go_wp2_with fail
          have b6 : Lib.IsBuilder 78 5 (w.heap.size + 1) (w.heap.size + 1) (Lib.byteCells (joinM m (k + 1))) wr := by
            rw [HS.out, List.append_assoc]; exact pb
          go_roundw
          case rel => exact ⟨k + 1, by omega, by simp, b6, po, ps, pw⟩
          case measure => simp [RowKit.intOf]; omega
    · have hkn : k = 16 := by omega
      subst hkn
      have HJ := hide (joinM_length m HM.out 16)
      obtain ⟨all, hall⟩ : ∃ all, all = joinM m 16 := ⟨_, rfl⟩
      rw [← hall] at qb HJ
      have HRA : Hid (R = ofX tagOnce [all]) := by rw [HR.out, hall]; rfl
      clear hall
      go_wp2_with fail
      refine (Try.Builder_String_any _ _ _ _ qb qs).mono ?_
      rintro _ w7 ⟨rfl, hb7⟩
      have q7 := Arr.below qo hb7 (by omega)
      have w8 := qw.trans (hb7.mono (by omega))
      clear qb qo qw
      go_wp2_with fail
      refine (of1 tagOnce all _ (by decide) (by have := HJ.out; omega)).mono ?_
      rintro _ w9 ⟨rfl, hb9⟩
      have q9 := hide (Arr.later q7 hb9)
      have w10 := w8.trans (hb9.mono w8.size)
      have hlR : R.length = 32 := by rw [HRA.out]; exact ofX_length _ _
      have e : hv (ofX tagOnce [all]) = hv R := by rw [HRA.out]
      rw [e]
      clear e
      have y1 := hide (Arr.row q9.out (bvs R))
      have y2 := hide (below_setRow w10 (Nat.le_refl w.heap.size) (bvs R).toArray)
      have hz : HashAt w9 w.heap.size zero32 := ⟨rfl, q9.out⟩
      have HLR := hide hlR
      clear q7 w8 hb9 w10 hlR
      go_wp2_with (refine wpl_store_hash rfl _ _ rfl rfl rfl HLR.out hz ?_)
      exact bodyPost_ret (v := hv R) (ret_hash rfl _ _ rfl ⟨HLR.out, y1.out⟩) rfl ⟨rfl, y2.out⟩
end Go.Proofs.Ytofjjpielkfloaa

/- Package once: Tells, Check. -/
namespace Go.Proofs.Ytofjjpielkfloaa
open Go.RowKit Go.Lib

theorem cut_eq (s : ByteArray) (x y : Nat) : cut s x y = (s.data.toList.drop x).take (y - x) := by
  unfold cut
  rw [ByteArray.data_extract, Array.toList_extract, List.extract_eq_take_drop]
theorem cut_length (s : ByteArray) (x y : Nat) (h : y ≤ s.size) : (cut s x y).length = y - x := by
  have : s.data.toList.length = s.size := by simp
  rw [cut_eq, List.length_take, List.length_drop, this]
  omega
theorem tellM_length (m : List UInt8) (sig : ByteArray) (hs : sig.size = 1024) (i : Nat) : (tellM m sig i).1.length = 32 ∧ (tellM m sig i).2.length = 32 := by
  unfold tellM
  split
  · exact ⟨rfl, rfl⟩
  · have h := cut_length sig (64 * i + 32) (64 * i + 64) (by omega)
    split
    · exact ⟨markL_length _, by rw [h]; omega⟩
    · exact ⟨by rw [h]; omega, markL_length _⟩
/-- What Tells hands back. -/
def tellsL (m : List UInt8) (sig : ByteArray) : List UInt8 := onceL (tellM m sig)
theorem tellsL_length (m : List UInt8) (sig : ByteArray) : (tellsL m sig).length = 32 := ofX_length _ _

set_option maxRecDepth 100000 in
set_option maxHeartbeats 1600000 in
theorem tells_any (m : List UInt8) (sig : ByteArray) (hl : m.length = 32) (hs : sig.size = 1024) (w : World) :
    Calls Try.prog 72 #[hv m, .string sig] w fun e w' => e = .returned (.tuple #[hv (tellsL m sig), .int .i64 0]) ∧ Below w.heap.size w w' := by
  obtain ⟨R, hR⟩ : ∃ R, R = tellsL m sig := ⟨_, rfl⟩
  have HR := hide hR
  have HLR : Hid (R.length = 32) := by rw [hR]; exact tellsL_length _ _
  rw [← hR]
  clear hR
  have hA := HashAt.alloc (HashAt.alloc (HashAt.new w m hl) (.cells #[.string sig] 9)) (.cells (bvs zero32).toArray 23)
  have hS : (((w.alloc (.cells (bvs m).toArray 23)).alloc (.cells #[.string sig] 9)).alloc (.cells (bvs zero32).toArray 23)).cell? ⟨w.heap.size + 1, 0, none⟩ = some (.string sig) := Arr.cell (Arr.alloc (Arr.new2 w (.cells (bvs m).toArray 23) [.string sig] 9) (.cells (bvs zero32).toArray 23)) (i := 0) (by simp)
  have hZ : HashAt (((w.alloc (.cells (bvs m).toArray 23)).alloc (.cells #[.string sig] 9)).alloc (.cells (bvs zero32).toArray 23)) (w.heap.size + 2) zero32 := by
    have := HashAt.new ((w.alloc (.cells (bvs m).toArray 23)).alloc (.cells #[.string sig] 9)) zero32 rfl
    simpa using this
  have hb : Below w.heap.size w (((w.alloc (.cells (bvs m).toArray 23)).alloc (.cells #[.string sig] 9)).alloc (.cells (bvs zero32).toArray 23)) := later (below2 w _ _) (below1 _ _)
  have hz : w.heap.size + 3 ≤ (((w.alloc (.cells (bvs m).toArray 23)).alloc (.cells #[.string sig] 9)).alloc (.cells (bvs zero32).toArray 23)).heap.size := by simp
  have HT := hide (fun (W : World) (hA : HashAt W w.heap.size m) (hS : W.cell? ⟨w.heap.size + 1, 0, none⟩ = some (.string sig)) (hz : w.heap.size + 3 ≤ W.heap.size) =>
    public_tells (tellM m sig) (tellM_length m sig hs) w.heap.size (w.heap.size + 1) W (fun w' => HashAt w' w.heap.size m ∧ w.heap.size + 3 ≤ w'.heap.size ∧ w'.cell? ⟨w.heap.size + 1, 0, none⟩ = some (.string sig))
      (fun w' h => ⟨hA.later h, by have := h.size; omega, (h.cell (p := ⟨w.heap.size + 1, 0, none⟩) (by show w.heap.size + 1 < _; omega)).trans hS⟩)
      (fun i w' hi h => tell1_any m sig hs w.heap.size (w.heap.size + 1) i hi w' h.1 (by have := h.2.1; omega) h.2.2))
  have hd : ((sig.size : Int) != 1024) = false := by simp [hs]
  have HSZ := hide hs
  clear hs hl
  unfold hv
  go_enter Try.func72, Try.ntmps72
  go_wp2_with fail
  show Calls _ _ _ (((w.alloc (.cells (bvs m).toArray 23)).alloc (.cells #[.string sig] 9)).alloc (.cells (bvs zero32).toArray 23)) _
  generalize ((w.alloc (.cells (bvs m).toArray 23)).alloc (.cells #[.string sig] 9)).alloc (.cells (bvs zero32).toArray 23) = W at *
  refine (HT.out W hA hS hz).mono ?_
  rintro _ w1 ⟨rfl, hb1⟩
  have e : hv (onceL (tellM m sig)) = hv R := by rw [HR.out]; rfl
  rw [e]
  clear e
  have z1 := hZ.later hb1
  have q1 := hide (z1.row R HLR.out)
  have b1 := hide (below_setRow (later hb hb1) (show w.heap.size ≤ w.heap.size + 2 by omega) (bvs R).toArray)
  go_wp2_with (refine wpl_store_hash rfl _ _ rfl rfl rfl HLR.out z1 ?_)
  exact bodyPost_ret (ret_hash_tmp rfl _ _ (.int .i64 0) rfl rfl q1.out) rfl ⟨rfl, b1.out⟩

end Go.Proofs.Ytofjjpielkfloaa

/- Package once: Sign. -/
namespace Go.Proofs.Ytofjjpielkfloaa
open Go.RowKit Go.Lib

/-- What a signature tells of a place: the secret of the message's bit, the mark of the other. -/
def signM (seed m : List UInt8) (i : Nat) : List UInt8 × List UInt8 := (secretL seed i (bitL m i), markL (secretL seed i (1 - bitL m i)))
theorem signM_length (seed m : List UInt8) (i : Nat) : (signM seed m i).1.length = 32 ∧ (signM seed m i).2.length = 32 := ⟨secretL_length _ _ _, markL_length _⟩
def signL (seed m : List UInt8) : List UInt8 := joinM (signM seed m) 16
theorem signL_length (seed m : List UInt8) : (signL seed m).length = 1024 := joinM_length _ (signM_length seed m) 16
theorem below3' (w : World) (a b c : Obj) : Below w.heap.size w (((w.alloc a).alloc b).alloc c) := later (below2 w a b) (below1 _ c)

set_option maxRecDepth 100000 in
set_option maxHeartbeats 3200000 in
theorem sign_any (seed m : List UInt8) (hl : seed.length = 32) (hml : m.length = 32) (w : World) :
    Calls Try.prog 62 #[hv seed, hv m] w fun e w' => e = .returned (.string ⟨(signL seed m).toArray⟩) ∧ Below w.heap.size w w' := by
  obtain ⟨W0, hW0⟩ : ∃ W0, W0 = (w.alloc (.cells (bvs seed).toArray 23)).alloc (.cells (bvs m).toArray 23) := ⟨_, rfl⟩
  have hA : HashAt (W0.alloc (.cells #[.pointer none, .slice none 0 0] 78)) w.heap.size seed := by rw [hW0]; exact HashAt.alloc (HashAt.alloc (HashAt.new w seed hl) _) _
  have hM : HashAt (W0.alloc (.cells #[.pointer none, .slice none 0 0] 78)) (w.heap.size + 1) m := by rw [hW0]; exact HashAt.alloc (HashAt.new2 w _ m hml) _
  have hb : Below w.heap.size w (W0.alloc (.cells #[.pointer none, .slice none 0 0] 78)) := by rw [hW0]; exact below3' w _ _ _
  have hz0 : W0.heap.size = w.heap.size + 2 := by rw [hW0]; simp
  have hbu : Lib.IsBuilder 78 5 (w.heap.size + 2) (w.heap.size + 2) (Lib.byteCells (joinM (signM seed m) 0)) (W0.alloc (.cells #[.pointer none, .slice none 0 0] 78)) := by
    rw [← hz0]
    refine Or.inl ⟨by omega, .slice none 0 0, ?_, World.ownsRow_nil _ _ _ _, by simp [Value.ownBlock]⟩
    exact Arr.new W0 [.pointer none, .slice none 0 0] 78
  have hW : w.heap.size + 2 ≤ (W0.alloc (.cells #[.pointer none, .slice none 0 0] 78)).heap.size := by simp [hz0]
  obtain ⟨R, hR⟩ : ∃ R, R = signL seed m := ⟨_, rfl⟩
  rw [← hR]
  have HR := hide hR
  have HL := hide hl
  have HML := hide hml
  clear hR hl hml
  unfold hv
  go_enter Try.func62, Try.ntmps62
  go_wp2_with fail
  rw [← hW0]
  clear hW0 hz0
  generalize W0.alloc (.cells #[.pointer none, .slice none 0 0] 78) = W at *
  go_loopw [8] (fun i wr => ∃ k : Nat, k ≤ 16 ∧ i = .int .i64 k ∧ Lib.IsBuilder 78 5 (w.heap.size + 2) (w.heap.size + 2) (Lib.byteCells (joinM (signM seed m) k)) wr ∧ HashAt wr w.heap.size seed ∧ HashAt wr (w.heap.size + 1) m ∧ w.heap.size + 2 ≤ wr.heap.size ∧ Below w.heap.size w wr) (fun i _ => 16 - (RowKit.intOf i).toNat)
  case atStart => exact ⟨0, by omega, rfl, hbu, hA, hM, hW, hb⟩
  case round =>
    obtain ⟨k, hk, rfl, qb, qA, qM, qs, qw⟩ := hrel
    clear hbu hA hM hW hb
    by_cases hlt : k < 16
    · have HB := hide (fun w => bit_any m k HML.out hlt w)
      have HS := hide (fun (b : Nat) (w : World) (hb : b < 2) => secret_any seed k b HL.out hlt hb w)
      have HMK := hide (fun w => mark_any (secretL seed k (1 - bitL m k)) (by rw [secretL_length]; omega) w)
      have HSL := hide (secretL_length seed k (bitL m k))
      have HKL := hide (markL_length (secretL seed k (1 - bitL m k)))
      have hj := joinM_length (signM seed m) (signM_length seed m) k
      have hs := joinM_succ (signM seed m) k
      have HSU : Hid (joinM (signM seed m) (k + 1) = joinM (signM seed m) k ++ secretL seed k (bitL m k) ++ markL (secretL seed k (1 - bitL m k))) := hs
      have HJ := hide hj
      clear hs hj
      have hbl := bitL_lt m k
      generalize bitL m k = b at *
      have HS0 := hide (fun w => HS.out b w hbl)
      have HS1 : Hid (∀ w, Calls Try.prog 98 #[hv seed, .int .i64 k, .int .i64 (1 - (b : Int))] w fun e w' => e = .returned (.string ⟨(secretL seed k (1 - b)).toArray⟩) ∧ Below w.heap.size w w') := by
        intro w
        have := HS.out (1 - b) w (by omega)
        rwa [show ((1 - b : Nat) : Int) = 1 - (b : Int) by omega] at this
      clear HS
      generalize secretL seed k b = s0 at *
      generalize markL (secretL seed k (1 - b)) = s1 at *
      generalize secretL seed k (1 - b) = s2 at *
      go_wp2_with (refine wpl_load_hash rfl _ rfl rfl qM ?_)
      refine (HB.out _).mono ?_
      rintro _ w3 ⟨rfl, hb3⟩
      have qb3 := builder_later qb hb3
      have qA3 := qA.later hb3
      have qM3 := qM.later hb3
      have qw3 := later qw hb3
      have qs3 : w.heap.size + 2 ≤ w3.heap.size := by have := hb3.size; omega
      clear qb qA qM qw qs hb3
      go_wp2_with (refine wpl_load_hash rfl _ rfl rfl qA3 ?_)
      refine (HS0.out _).mono ?_
      rintro _ w4 ⟨rfl, hb4⟩
      have qb4 := builder_later qb3 hb4
      have qA4 := qA3.later hb4
      have qM4 := qM3.later hb4
      have qw4 := later qw3 hb4
      have qs4 : w.heap.size + 2 ≤ w4.heap.size := by have := hb4.size; omega
      clear qb3 qA3 qM3 qw3 qs3 hb4
      go_wp2_with fail
      refine (writeString _ _ _ ⟨s0.toArray⟩ _ qb4 (by have := HJ.out; have h0 := HSL.out; rw [Lib.byteCells_length]; show _ + s0.length ≤ _; omega) (by omega)).mono ?_
      rintro _ w5 ⟨rfl, b5, hb5⟩
      have qA5 := qA4.below hb5 (by omega)
      have qM5 := qM4.below hb5 (by omega)
      have qw5 := qw4.trans (hb5.mono (by omega))
      have qs5 : w.heap.size + 2 ≤ w5.heap.size := by have := hb5.size; omega
      have qb5 := builder_more b5 rfl
      clear qb4 qA4 qM4 qw4 qs4 b5 hb5
      go_wp2_with (refine wpl_load_hash rfl _ rfl rfl qA5 ?_)
      refine (HS1.out _).mono ?_
      rintro _ w6 ⟨rfl, hb6⟩
      go_wp2_with fail
      refine (HMK.out _).mono ?_
      rintro _ w7 ⟨rfl, hb7⟩
      have h67 := later hb6 hb7
      have qb7 := builder_later qb5 h67
      have qA7 := qA5.later h67
      have qM7 := qM5.later h67
      have qw7 := later qw5 h67
      have qs7 : w.heap.size + 2 ≤ w7.heap.size := by have := h67.size; omega
      clear qb5 qA5 qM5 qw5 qs5 hb6 hb7 h67
      go_wp2_with fail
      refine (writeString _ _ _ ⟨s1.toArray⟩ _ qb7 (by have := HJ.out; have h0 := HSL.out; have h1 := HKL.out; rw [Lib.byteCells_length, List.length_append]; show _ + s1.length ≤ _; omega) (by omega)).mono ?_
      rintro _ w8 ⟨rfl, b8, hb8⟩
      have qA8 := qA7.below hb8 (by omega)
      have qM8 := qM7.below hb8 (by omega)
      have qw8 := qw7.trans (hb8.mono (by omega))
      have qs8 : w.heap.size + 2 ≤ w8.heap.size := by have := hb8.size; omega
      have qb8 := builder_more b8 HSU.out
      clear qb7 qA7 qM7 qw7 qs7 b8 hb8
      go_wp2_with fail
      go_roundw
      case rel => exact ⟨k + 1, by omega, by simp, qb8, qA8, qM8, qs8, qw8⟩
      case measure => simp [RowKit.intOf]; omega
    · have hkn : k = 16 := by omega
      subst hkn
      go_wp2_with fail
      refine (Try.Builder_String_any _ _ _ _ qb qs).mono ?_
      rintro _ w7 ⟨rfl, hb7⟩
      have w8 := qw.trans (hb7.mono (by omega))
      rw [show joinM (signM seed m) 16 = R from HR.out.symm]
      clear qb qw
      go_wp2_with fail
      go_ret
      exact ⟨rfl, w8⟩
end Go.Proofs.Ytofjjpielkfloaa

/- Package once: Public. -/
namespace Go.Proofs.Ytofjjpielkfloaa
open Go.RowKit Go.Lib

def seedM (seed : List UInt8) (i : Nat) : List UInt8 × List UInt8 := (markL (secretL seed i 0), markL (secretL seed i 1))
theorem seedM_length (seed : List UInt8) (i : Nat) : (seedM seed i).1.length = 32 ∧ (seedM seed i).2.length = 32 := ⟨markL_length _, markL_length _⟩
/-- A seed's public key. -/
def publicL (seed : List UInt8) : List UInt8 := onceL (seedM seed)
theorem publicL_length (seed : List UInt8) : (publicL seed).length = 32 := ofX_length _ _

set_option maxRecDepth 100000 in
set_option maxHeartbeats 1600000 in
theorem publicKey_any (seed : List UInt8) (hl : seed.length = 32) (w : World) :
    Calls Try.prog 54 #[hv seed] w fun e w' => e = .returned (hv (publicL seed)) ∧ Below w.heap.size w w' := by
  obtain ⟨R, hR⟩ : ∃ R, R = publicL seed := ⟨_, rfl⟩
  have HR := hide hR
  have HLR : Hid (R.length = 32) := by rw [hR]; exact publicL_length seed
  rw [← hR]
  clear hR
  have HA := hide (HashAt.new2 (w.alloc (.cells (bvs seed).toArray 23)) (.cells (bvs zero32).toArray 23) zero32 rfl)
  clear HA
  have hA := HashAt.alloc (HashAt.new w seed hl) (.cells (bvs zero32).toArray 23)
  have hZ := HashAt.new2 w (.cells (bvs seed).toArray 23) zero32 rfl
  have hb := below2 w (.cells (bvs seed).toArray 23) (.cells (bvs zero32).toArray 23)
  unfold hv
  go_enter Try.func54, Try.ntmps54
  go_wp2_with fail
  show Calls _ _ _ ((w.alloc (.cells (bvs seed).toArray 23)).alloc (.cells (bvs zero32).toArray 23)) _
  generalize (w.alloc (.cells (bvs seed).toArray 23)).alloc (.cells (bvs zero32).toArray 23) = W at *
  refine (public_seed (seedM seed) (seedM_length seed) w.heap.size W (fun w' => HashAt w' w.heap.size seed) (fun w' h => hA.later h) (fun i w' hi h => pub1_any seed w.heap.size i hi w' h)).mono ?_
  rintro _ w1 ⟨rfl, hb1⟩
  have e : hv (onceL (seedM seed)) = hv R := by rw [HR.out]; rfl
  rw [e]
  clear e
  have z1 := hZ.later hb1
  have q1 := hide (z1.row R HLR.out)
  have b1 := hide (below_setRow (later hb hb1) (Nat.le_succ w.heap.size) (bvs R).toArray)
  go_wp2_with (refine wpl_store_hash rfl _ _ rfl rfl rfl HLR.out z1 ?_)
  exact bodyPost_ret (v := hv R) (ret_hash rfl _ _ rfl q1.out) rfl ⟨rfl, b1.out⟩
end Go.Proofs.Ytofjjpielkfloaa

/- Once, in plain words: a signature tells the public key of the seed that made it. -/
namespace Go.Proofs.Ytofjjpielkfloaa
open Go.RowKit Go.Lib

theorem joinM_parts (m : Nat → List UInt8 × List UInt8) (i : Nat) : ∀ d, ∃ rest, joinM m (i + 1 + d) = joinM m i ++ (m i).1 ++ (m i).2 ++ rest
  | 0 => ⟨[], by rw [Nat.add_zero, joinM_succ]; simp⟩
  | d + 1 => by
    obtain ⟨rest, h⟩ := joinM_parts m i d
    refine ⟨rest ++ (m (i + 1 + d)).1 ++ (m (i + 1 + d)).2, ?_⟩
    rw [← Nat.add_assoc, joinM_succ, h]
    simp
theorem joinM_cut (m : Nat → List UInt8 × List UInt8) (hm : ∀ i, (m i).1.length = 32 ∧ (m i).2.length = 32) (i : Nat) (hi : i < 16) :
    ((joinM m 16).drop (64 * i)).take 32 = (m i).1 ∧ ((joinM m 16).drop (64 * i + 32)).take 32 = (m i).2 := by
  obtain ⟨rest, h⟩ := joinM_parts m i (15 - i)
  rw [show i + 1 + (15 - i) = 16 by omega] at h
  have hl := joinM_length m hm i
  obtain ⟨h1, h2⟩ := hm i
  rw [h]
  generalize joinM m i = p at *
  generalize (m i).1 = x at *
  generalize (m i).2 = y at *
  constructor
  · rw [← hl, List.append_assoc, List.append_assoc, List.drop_left, ← h1, List.take_left]
  · rw [show 64 * i + 32 = (p ++ x).length by rw [List.length_append, hl, h1], List.append_assoc, List.drop_left, ← h2, List.take_left]
theorem joinM_congr (m n : Nat → List UInt8 × List UInt8) (h : ∀ i, i < 16 → m i = n i) : joinM m 16 = joinM n 16 := by
  unfold joinM
  rw [List.flatMap_def, List.flatMap_def]
  congr 1
  apply List.map_congr_left
  intro i hi
  rw [h i (by simpa using hi)]
theorem tell_sign (seed m : List UInt8) (i : Nat) (hi : i < 16) : tellM m ⟨(signL seed m).toArray⟩ i = seedM seed i := by
  obtain ⟨h1, h2⟩ := joinM_cut (signM seed m) (signM_length seed m) i hi
  have e1 : cut ⟨(signL seed m).toArray⟩ (64 * i) (64 * i + 32) = (signM seed m i).1 := by rw [cut_eq, ← h1, show 64 * i + 32 - 64 * i = 32 by omega]; rfl
  have e2 : cut ⟨(signL seed m).toArray⟩ (64 * i + 32) (64 * i + 64) = (signM seed m i).2 := by rw [cut_eq, ← h2, show 64 * i + 64 - (64 * i + 32) = 32 by omega]; rfl
  unfold tellM seedM
  rw [if_neg (by omega), e1, e2]
  have hb := bitL_lt m i
  unfold signM
  split
  · rename_i h0
    rw [h0]
  · rename_i h0
    rw [show bitL m i = 1 by omega]
theorem tells_sign (seed m : List UInt8) : tellsL m ⟨(signL seed m).toArray⟩ = publicL seed := by
  unfold tellsL publicL onceL
  rw [joinM_congr _ _ (tell_sign seed m)]
end Go.Proofs.Ytofjjpielkfloaa

/- Package once: Check. -/
namespace Go.Proofs.Ytofjjpielkfloaa
open Go.RowKit Go.Lib

set_option maxRecDepth 100000 in
set_option maxHeartbeats 800000 in
theorem check_any (p m : List UInt8) (sig : ByteArray) (hp : p.length = 32) (hl : m.length = 32) (hs : sig.size = 1024) (w : World) :
    Calls Try.prog 89 #[hv p, hv m, .string sig] w fun e w' => e = .returned (.bool (decide (tellsL m sig = p))) ∧ Below w.heap.size w w' := by
  have HT := hide (fun w => tells_any m sig hl hs w)
  have HLR := hide (tellsL_length m sig)
  have hP := HashAt.alloc (HashAt.new w p hp) (.cells (bvs m).toArray 23)
  have hM := HashAt.new2 w (.cells (bvs p).toArray 23) m hl
  have hb := below2 w (.cells (bvs p).toArray 23) (.cells (bvs m).toArray 23)
  have HP := hide hp
  clear hl hs hp
  generalize tellsL m sig = R at *
  unfold hv
  go_enter Try.func89, Try.ntmps89
  go_wp2_with (refine wpl_load_hash (w := (w.alloc (.cells (bvs p).toArray 23)).alloc (.cells (bvs m).toArray 23)) rfl _ rfl rfl hM ?_)
  show Calls _ _ _ ((w.alloc (.cells (bvs p).toArray 23)).alloc (.cells (bvs m).toArray 23)) _
  generalize (w.alloc (.cells (bvs p).toArray 23)).alloc (.cells (bvs m).toArray 23) = W at *
  refine (HT.out _).mono ?_
  rintro _ w1 ⟨rfl, hb1⟩
  have z1 := HashAt.zero w1
  have p1 := (hP.later hb1).alloc (.cells (bvs zero32).toArray 23)
  have b1 := later (later hb hb1) (below1 w1 (.cells (bvs zero32).toArray 23))
  have n1 : w.heap.size ≠ w1.heap.size := by have := (hP.later hb1).lt; omega
  have q1 := z1.row R HLR.out
  have p2 := p1.row_other w1.heap.size (bvs R).toArray n1
  have b2 := below_setRow b1 (show w.heap.size ≤ w1.heap.size by have := (hP.later hb1).lt; omega) (bvs R).toArray
  clear hP hM hb hb1 p1 b1 n1
  go_wp2_with (first | (refine wpl_store_hash (w := w1.alloc (.cells (bvs zero32).toArray 23)) rfl _ _ rfl rfl rfl HLR.out z1 ?_) | (refine wpl_load_hash (w := (w1.alloc (.cells (bvs zero32).toArray 23)).setRow w1.heap.size (bvs R).toArray) rfl _ rfl rfl q1 ?_) | (refine wpl_load_hash (w := (w1.alloc (.cells (bvs zero32).toArray 23)).setRow w1.heap.size (bvs R).toArray) rfl _ rfl rfl p2 ?_) | (refine wpl_eq_hash rfl _ _ rfl rfl rfl HLR.out HP.out ?_))
  go_ret
  exact ⟨rfl, b2⟩
end Go.Proofs.Ytofjjpielkfloaa

/- Package once: Tells of a text that has not the length. -/
namespace Go.Proofs.Ytofjjpielkfloaa
open Go.RowKit Go.Lib

set_option maxRecDepth 100000 in
set_option maxHeartbeats 400000 in
theorem tells_bad (m : List UInt8) (sig : ByteArray) (hs : sig.size ≠ 1024) (w : World) :
    Calls Try.prog 72 #[hv m, .string sig] w fun e w' => e = .returned (.tuple #[hv zero32, .int .i64 6]) ∧ Below w.heap.size w w' := by
  have hZ : HashAt (((w.alloc (.cells (bvs m).toArray 23)).alloc (.cells #[.string sig] 9)).alloc (.cells (bvs zero32).toArray 23)) (w.heap.size + 2) zero32 := by
    have := HashAt.new ((w.alloc (.cells (bvs m).toArray 23)).alloc (.cells #[.string sig] 9)) zero32 rfl
    simpa using this
  have hb : Below w.heap.size w (((w.alloc (.cells (bvs m).toArray 23)).alloc (.cells #[.string sig] 9)).alloc (.cells (bvs zero32).toArray 23)) := later (below2 w _ _) (below1 _ _)
  have hd : ((sig.size : Int) != 1024) = true := by simp; omega
  clear hs
  unfold hv
  go_enter Try.func72, Try.ntmps72
  have q1 := hZ.row zero32 rfl
  have b1 := below_setRow hb (show w.heap.size ≤ w.heap.size + 2 by omega) (bvs zero32).toArray
  go_wp2_with (first | (refine wpl_build rfl 23 _ rfl (bvs zero32).toArray (by simpa using hashBuilt) ?_) | (refine wpl_store_hash (w := ((w.alloc (.cells (bvs m).toArray 23)).alloc (.cells #[.string sig] 9)).alloc (.cells (bvs zero32).toArray 23)) rfl _ _ rfl rfl rfl rfl hZ ?_))
  show bodyPost _ _ _ _ _ ((((w.alloc (.cells (bvs m).toArray 23)).alloc (.cells #[.string sig] 9)).alloc (.cells (bvs zero32).toArray 23)).setRow (w.heap.size + 2) (bvs zero32).toArray)
  generalize (((w.alloc (.cells (bvs m).toArray 23)).alloc (.cells #[.string sig] 9)).alloc (.cells (bvs zero32).toArray 23)).setRow (w.heap.size + 2) (bvs zero32).toArray = W at *
  exact bodyPost_ret (ret_hash_tmp (g := w.heap.size + 2) rfl _ _ (.int .i64 6) rfl rfl q1) rfl ⟨rfl, b1⟩
end Go.Proofs.Ytofjjpielkfloaa

/- Package once: Check of a text that has not the length. -/
namespace Go.Proofs.Ytofjjpielkfloaa
open Go.RowKit Go.Lib

set_option maxRecDepth 100000 in
set_option maxHeartbeats 800000 in
theorem check_bad (p m : List UInt8) (sig : ByteArray) (hp : p.length = 32) (hl : m.length = 32) (hs : sig.size ≠ 1024) (w : World) :
    Calls Try.prog 89 #[hv p, hv m, .string sig] w fun e w' => e = .returned (.bool false) ∧ Below w.heap.size w w' := by
  have HT := hide (fun w => tells_bad m sig hs w)
  have hP := HashAt.alloc (HashAt.new w p hp) (.cells (bvs m).toArray 23)
  have hM := HashAt.new2 w (.cells (bvs p).toArray 23) m hl
  have hb := below2 w (.cells (bvs p).toArray 23) (.cells (bvs m).toArray 23)
  clear hl hs hp
  unfold hv
  go_enter Try.func89, Try.ntmps89
  go_wp2_with (refine wpl_load_hash (w := (w.alloc (.cells (bvs p).toArray 23)).alloc (.cells (bvs m).toArray 23)) rfl _ rfl rfl hM ?_)
  show Calls _ _ _ ((w.alloc (.cells (bvs p).toArray 23)).alloc (.cells (bvs m).toArray 23)) _
  generalize (w.alloc (.cells (bvs p).toArray 23)).alloc (.cells (bvs m).toArray 23) = W at *
  refine (HT.out _).mono ?_
  rintro _ w1 ⟨rfl, hb1⟩
  have z1 := HashAt.zero w1
  have b1 := later (later hb hb1) (below1 w1 (.cells (bvs zero32).toArray 23))
  have b2 := below_setRow b1 (show w.heap.size ≤ w1.heap.size by have := (hP.later hb1).lt; omega) (bvs zero32).toArray
  clear hP hM hb hb1 b1
  go_wp2_with (refine wpl_store_hash (w := w1.alloc (.cells (bvs zero32).toArray 23)) rfl _ _ rfl rfl rfl rfl z1 ?_)
  show bodyPost _ _ _ _ _ ((w1.alloc (.cells (bvs zero32).toArray 23)).setRow w1.heap.size (bvs zero32).toArray)
  generalize (w1.alloc (.cells (bvs zero32).toArray 23)).setRow w1.heap.size (bvs zero32).toArray = w2 at *
  go_ret
  exact ⟨rfl, b2⟩
end Go.Proofs.Ytofjjpielkfloaa

/- The small things that the laws of layer 5 ask first. -/
namespace Go.Proofs.Ytofjjpielkfloaa
open Go.RowKit Go.Lib

def one32 : List UInt8 := 1 :: List.replicate 31 0
def two32 : List UInt8 := 2 :: List.replicate 31 0
theorem built_one : Try.prog.built 23 [(0, .int .u8 1)] = some (bvs one32).toArray := by kernel_rfl
theorem built_two : Try.prog.built 23 [(0, .int .u8 2)] = some (bvs two32).toArray := by kernel_rfl

def checkR (p m : List UInt8) (sig : ByteArray) : Bool := decide (sig.size = 1024) && decide (tellsL m sig = p)
theorem check_all (p m : List UInt8) (sig : ByteArray) (hp : p.length = 32) (hl : m.length = 32) (w : World) :
    Calls Try.prog 89 #[hv p, hv m, .string sig] w fun e w' => e = .returned (.bool (checkR p m sig)) ∧ Below w.heap.size w w' := by
  unfold checkR
  by_cases h : sig.size = 1024
  · rw [decide_eq_true h, Bool.true_and]; exact check_any p m sig hp hl h w
  · rw [decide_eq_false h, Bool.false_and]; exact check_bad p m sig hp hl h w
end Go.Proofs.Ytofjjpielkfloaa
