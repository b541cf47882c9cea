/- Package once: bit, mark, secret. -/
import Derived.Test.YtikphhhkikdhaaaOfs
import Derived.Test.YtikphhhkikdhaaaHash
import Derived.Test.YtikphhhkikdhaaaFloat
import Derived.Test.YtikphhhkikdhaaaShaParts
namespace Go.Proofs.Ytikphhhkikdhaaa
open Go.RowKit Go.Lib

def tagMark : List UInt8 := [109, 97, 114, 107]
def tagSecret : List UInt8 := [115, 101, 99, 114, 101, 116]
/-- A secret's mark; a seed's secret. -/
def markL (s : List UInt8) : List UInt8 := ofX tagMark [s]
def secretL (seed : List UInt8) (i b : Nat) : List UInt8 := ofX tagSecret [seed, [UInt8.ofNat (2 * i + b)]]
theorem markL_length (s : List UInt8) : (markL s).length = 32 := ofX_length _ _
theorem secretL_length (s : List UInt8) (i b : Nat) : (secretL s i b).length = 32 := ofX_length _ _

set_option maxRecDepth 100000 in
set_option maxHeartbeats 1600000 in
theorem mark_any (s : List UInt8) (hs : s.length ≤ 1048576) (w : World) :
    Calls Try.prog 40 #[.string ⟨s.toArray⟩] w fun e w' => e = .returned (.string ⟨(markL s).toArray⟩) ∧ Below w.heap.size w w' := by
  obtain ⟨r, hr⟩ : ∃ r, r = markL s := ⟨_, rfl⟩
  have HR : Hid (∀ w, Calls Try.prog 26 #[.string ⟨#[109, 97, 114, 107]⟩, .slice (some ⟨w.heap.size, 0, none⟩) 1 1] (w.alloc (.cells #[.string ⟨s.toArray⟩] 9)) fun e w' => e = .returned (hv r) ∧ Below w.heap.size w w') :=
    fun w => by rw [hr]; exact of1 tagMark s w (by decide) hs
  have HL : Hid (r.length = 32) := by rw [hr]; exact markL_length s
  rw [← hr]
  clear hr hs
  generalize (⟨s.toArray⟩ : ByteArray) = sb at *
  go_enter Try.func40, Try.ntmps40
  go_wp2_with fail
  refine (HR.out _).mono ?_
  rintro _ w1 ⟨rfl, hb1⟩
  go_wp2_with fail
  refine (bytes_any _ _ HL.out).mono ?_
  rintro _ w2 ⟨rfl, hb2⟩
  go_wp2_with fail
  go_ret
  exact ⟨rfl, later hb1 hb2⟩

theorem of_at (tag : List UInt8) (ps : List (List UInt8)) (v : Value) (w : World) (hv0 : Strs w v (ps.map txt)) (ht : tag.length ≤ 1048576) (hp : ∀ p ∈ ps, p.length ≤ 1048576) (hn : ps.length ≤ 16) :
    Calls Try.prog 26 #[.string (txt tag), v] w fun e w' => e = .returned (hv (ofX tag ps)) ∧ Below w.heap.size w w' := by
  have hl : (putText (txt tag).data.toList ++ tellL (ps.map txt)).length ≤ 1099511627776 := by
    have h1 := putText_le tag
    have h2 := tells_le ps 1048576 hp
    rw [tellL_txt, List.length_append]
    have h3 : ps.length * (10 + 1048576) ≤ 16 * (10 + 1048576) := Nat.mul_le_mul_right _ hn
    show (putText tag).length + _ ≤ _
    omega
  refine (of_any (txt tag) (ps.map txt) _ _ hv0 (by simp; omega) hl).mono ?_
  rintro e w' ⟨rfl, hb⟩
  rw [ofL_txt]
  exact ⟨rfl, hb⟩
theorem mixed_now {B : Nat} {W a b : World} (hB : B ≤ W.heap.size) (h : ∃ s : From B W, a = s.w) (k : Below a.heap.size a b) : Fromly B W b := by
  obtain ⟨s, rfl⟩ := h
  exact fromly (mixed hB s.ok k)

set_option maxRecDepth 100000 in
set_option maxHeartbeats 1600000 in
theorem secret_any (seed : List UInt8) (i b : Nat) (hl : seed.length = 32) (hi : i < 16) (hb : b < 2) (w : World) :
    Calls Try.prog 41 #[hv seed, .int .i64 i, .int .i64 b] w fun e w' => e = .returned (.string ⟨(secretL seed i b).toArray⟩) ∧ Below w.heap.size w w' := by
  obtain ⟨r, hr⟩ : ∃ r, r = secretL seed i b := ⟨_, rfl⟩
  obtain ⟨c, hc⟩ : ∃ c : UInt8, c = UInt8.ofNat (2 * i + b) := ⟨_, rfl⟩
  have HR : Hid (∀ w v, Strs w v [⟨seed.toArray⟩, ⟨#[c]⟩] → Calls Try.prog 26 #[.string ⟨#[115, 101, 99, 114, 101, 116]⟩, v] w fun e w' => e = .returned (hv r) ∧ Below w.heap.size w w') :=
    fun w v hs => by rw [hr]; rw [hc] at hs; exact of_at tagSecret [seed, [UInt8.ofNat (2 * i + b)]] v w hs (by decide) (two_small (by omega) (by simp)) (by simp)
  have HC : Hid ((2 * (i : Int) + (b : Int)) = (c.toNat : Int)) := by rw [hc, UInt8.toNat_ofNat']; unfold Hid; omega
  clear hc
  have HL : Hid (r.length = 32) := by rw [hr]; exact secretL_length _ _ _
  rw [← hr]
  have HSL := hide hl
  have hB := below1 w (.cells (bvs seed).toArray 23)
  have hA := HashAt.new w seed hl
  clear hr hl
  unfold hv
  go_enter Try.func41, Try.ntmps41
  go_wp2_with fail
  show Code.wp _ _ _ _ (w.alloc (.cells (bvs seed).toArray 23))
  generalize hW : w.alloc (.cells (bvs seed).toArray 23) = W at *
  have hs1 : w.heap.size < W.heap.size := hA.lt
  refine region_float W.heap.size [([0], true, [1]), ([2,3,4,5,6], false, [7]), ([], false, [8]), ([], false, [9]), ([], false, [10]), ([], false, [11]), ([], false, [12])] (by kernel_rfl) (by kernel_rfl) (by kernel_rfl) (by decide) (Nat.le_refl _) ?_
  intro w0 hw0 hs
  simp only [pickFl, pickOps, List.getElem?_cons_succ, List.getElem?_cons_zero, List.nil_append, List.cons_append]
  refine fl_float ?_
  go_big_quiet_want
  refine mix_load_hash _ rfl rfl hA hs1 ?_
  simp only [Act.put, List.setIfInBounds_toArray, List.set_cons_succ, List.set_cons_zero]
  go_big_quiet_on
  refine wpQuiet_nil ?_
  refine fl_call (args := #[hv seed]) (by rfl) rfl (by kernel_rfl) (by simp only [List.map_toArray, List.map_cons, List.map_nil]; rfl) (fun w' _ => bytes_any seed w' HSL.out) ?_
  intro w1 hw1
  simp only [Act.put, List.setIfInBounds_toArray, List.set_cons_succ, List.set_cons_zero]
  refine fl_loud ?_
  repeat (first | go_big_quiet_skip | (go_big_quiet_want; go_big_quiet_op; go_big_quiet_on))
  refine wpQuiet_nil ?_
  intro w2 hw2 hC2
  go_wp2_with fail
  rw [HC.out]
  have hy : Byts (w2.alloc (.cells (bvs [c]).toArray 5)) w2.heap.size 5 [c] := Arr.new w2 (bvs [c]) 5
  have hb2 := below1 w2 (.cells (bvs [c]).toArray 5)
  show mixQ _ _ _ _ (w2.alloc (.cells (bvs [c]).toArray 5))
  refine mixQ_mk (mixed_now (Nat.le_refl _) hC2 hb2) ?_
  generalize w2.alloc (.cells (bvs [c]).toArray 5) = W2 at *
  refine fl_loud (wpQuiet_nil ?_)
  intro w3 hw3 hC3
  have ht := Byts.text (P := Try.prog) (hy.later hw3 : Byts _ _ _ _) 53 9 5 1 1 rfl Try.underlying53 Try.underlying5 Try.underlying9
  go_wp2_with fail
  refine mixQ_mk hC3 (fl_loud (wpQuiet_nil ?_))
  intro w4 hw4 hC4
  go_wp2_with fail
  have hst := strs_new w4 [seed, [c]]
  have hb4 := below1 w4 (.cells #[.string ⟨seed.toArray⟩, .string ⟨#[c]⟩] 9)
  show mixQ _ _ _ _ (w4.alloc (.cells #[.string ⟨seed.toArray⟩, .string ⟨#[c]⟩] 9))
  refine mixQ_mk (mixed_now (Nat.le_refl _) hC4 hb4) ?_
  replace hst : Strs (w4.alloc (.cells #[.string ⟨seed.toArray⟩, .string ⟨#[c]⟩] 9)) (.slice (some ⟨w4.heap.size, 0, none⟩) 2 2) [⟨seed.toArray⟩, ⟨#[c]⟩] := hst
  generalize w4.alloc (.cells #[.string ⟨seed.toArray⟩, .string ⟨#[c]⟩] 9) = W4 at *
  refine fl_loud (wpQuiet_nil ?_)
  intro w5 hw5 hC5
  go_wp2_with fail
  refine (HR.out _ _ (strs_later hst hw5)).mono ?_
  rintro _ w6 ⟨rfl, hb6⟩
  go_wp2_with fail
  refine mixQ_mk (mixed_now (Nat.le_refl _) hC5 hb6) (fl_loud (wpQuiet_nil ?_))
  intro w7 hw7 hC7
  go_wp2_with fail
  refine (bytes_any _ _ HL.out).mono ?_
  rintro _ w8 ⟨rfl, hb8⟩
  go_wp2_with fail
  refine mixQ_mk (mixed_now (Nat.le_refl _) hC7 hb8) (fl_loud (wpQuiet_nil ?_))
  intro w9 hw9 hC9
  go_wp2_with fail
  refine mixQ_mk hC9 (fl_end ?_)
  intro w10 hw10 hC10
  obtain ⟨s, rfl⟩ := hC10
  have hend := later hB s.ok
  go_wp2_with fail
  go_ret
  exact ⟨rfl, hend⟩
end Go.Proofs.Ytikphhhkikdhaaa
