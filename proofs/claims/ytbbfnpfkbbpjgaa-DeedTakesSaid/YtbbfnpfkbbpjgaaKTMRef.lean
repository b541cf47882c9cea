/- Several texts of this proof in one: Ref01, RefSumL, RefSum, RefPut, RefOf, Ofs, Ref03, Works03, ShaParts. -/
import Derived.Test.YtbbfnpfkbbpjgaaKTMOf
import Derived.Test.YtbbfnpfkbbpjgaaKTMBase
import Derived.BigRegion
import Derived.Deep.AppendLies
/- The reference's Eight, Put, PutText (mintageref01) as contracts. -/
namespace Go.Proofs.Ytbbfnpfkbbpjgaa
open Go.RowKit Go.Lib

theorem one_byte (y : Int) (x : Nat) (hy : y = (x : Int)) (hx : x < 256) (w : World) :
    (convert 63 9 (.slice (some ⟨w.heap.size, 0, none⟩) 1 1)).run Try.prog (w.alloc (.cells #[.int .u8 y] 5)) = .ok (.string ⟨#[UInt8.ofNat x]⟩) (w.alloc (.cells #[.int .u8 y] 5)) := by
  have h := Byts.text (P := Try.prog) (Arr.new w (bvs [UInt8.ofNat x]) 5 : Byts _ _ _ [UInt8.ofNat x]) 63 9 5 1 1 rfl Try.underlying63 Try.underlying5 Try.underlying9
  have e : (bvs [UInt8.ofNat x]).toArray = #[.int .u8 y] := by
    have : ((UInt8.ofNat x).toNat : Int) = y := by rw [UInt8.toNat_ofNat', hy]; omega
    simp only [bvs, List.map_cons, List.map_nil, this]
  rw [e] at h
  exact h
theorem one_byte_drew (y : Int) (x : Nat) (hy : y = (x : Int)) (hx : x < 256) (w : World) :
    (convert 63 9 (.slice (some ⟨w.heap.size, 0, none⟩) 1 1)).run Try.prog (w.alloc (.cells #[.int .u8 y] 5)).drew = .ok (.string ⟨#[UInt8.ofNat x]⟩) (w.alloc (.cells #[.int .u8 y] 5)).drew := by
  have e : (bvs [UInt8.ofNat x]).toArray = #[.int .u8 y] := by
    have : ((UInt8.ofNat x).toNat : Int) = y := by rw [UInt8.toNat_ofNat', hy]; omega
    simp only [bvs, List.map_cons, List.map_nil, this]
  have ha : Byts (w.alloc (.cells #[.int .u8 y] 5)).drew w.heap.size 5 [UInt8.ofNat x] := by
    have h := Arr.new w (bvs [UInt8.ofNat x]) 5
    rw [e] at h
    exact h
  exact Byts.text (P := Try.prog) ha 63 9 5 1 1 rfl Try.underlying63 Try.underlying5 Try.underlying9
theorem one_byte_after (y : Int) (x : Nat) (hy : y = (x : Int)) (hx : x < 256) (w w' : World) (hb : Below (w.alloc (.cells #[.int .u8 y] 5)).drew.heap.size (w.alloc (.cells #[.int .u8 y] 5)).drew w') :
    (convert 63 9 (.slice (some ⟨w.heap.size, 0, none⟩) 1 1)).run Try.prog w' = .ok (.string ⟨#[UInt8.ofNat x]⟩) w' := by
  have e : (bvs [UInt8.ofNat x]).toArray = #[.int .u8 y] := by
    have : ((UInt8.ofNat x).toNat : Int) = y := by rw [UInt8.toNat_ofNat', hy]; omega
    simp only [bvs, List.map_cons, List.map_nil, this]
  have ha : Byts (w.alloc (.cells #[.int .u8 y] 5)).drew w.heap.size 5 [UInt8.ofNat x] := by
    have h := Arr.new w (bvs [UInt8.ofNat x]) 5
    rw [e] at h
    exact h
  exact Byts.text (P := Try.prog) (Arr.later ha hb : Byts _ _ _ _) 63 9 5 1 1 rfl Try.underlying63 Try.underlying5 Try.underlying9
theorem eight_step (n k : Nat) (h : k < 8) : (eightL n).drop (8 - (k + 1)) = UInt8.ofNat (n / 256 ^ k % 256) :: (eightL n).drop (8 - k) := by
  have h8 : k = 0 ∨ k = 1 ∨ k = 2 ∨ k = 3 ∨ k = 4 ∨ k = 5 ∨ k = 6 ∨ k = 7 := by omega
  rcases h8 with rfl | rfl | rfl | rfl | rfl | rfl | rfl | rfl <;> simp [eightL, List.range_succ]

set_option maxRecDepth 100000 in
set_option maxHeartbeats 3200000 in
theorem refEight_any (n0 : Nat) (w : World) (hn : n0 < 18446744073709551616) :
    Calls Try.prog 101 #[.int .u64 n0] w fun e w' => e = .returned (.string ⟨(eightL n0).toArray⟩) ∧ Below w.heap.size w w' := by
  have HS := hide (eight_step n0)
  have HZ := hide (show (eightL n0).drop 8 = [] by simp [eightL])
  have HF := hide (show (eightL n0).drop 0 = eightL n0 by simp)
  have HL := hide (eightL_length n0)
  generalize eightL n0 = el at *
  go_enter Try.func101, Try.ntmps101
  go_wp2_with fail
  go_loopw [0, 3, 4] (fun m s i wr => ∃ k : Nat, k ≤ 8 ∧ i = .int .i64 k ∧ m = .int .u64 ((n0 / 256 ^ k : Nat) : Int) ∧ s = .string ⟨(el.drop (8 - k)).toArray⟩ ∧ Below w.heap.size w wr) (fun _ _ i _ => 8 - (RowKit.intOf i).toNat)
  case atStart => exact ⟨0, by omega, rfl, by simp, by rw [show 8 - 0 = 8 by rfl, HZ.out], Below.refl _ _⟩
  case round =>
    obtain ⟨k, hk, rfl, rfl, rfl, qb⟩ := hrel
    by_cases hlt : k < 8
    · have HK := hide (HS.out k hlt)
      have HLN : Hid ((⟨(el.drop (8 - k)).toArray⟩ : ByteArray).size ≤ 8) := by unfold Hid; show (el.drop (8 - k)).length ≤ 8; rw [List.length_drop, HL.out]; omega
      have HC : Hid ((⟨#[UInt8.ofNat (n0 / 256 ^ k % 256)]⟩ : ByteArray) ++ ⟨(el.drop (8 - k)).toArray⟩ = ⟨(el.drop (8 - (k + 1))).toArray⟩) := by
        unfold Hid; rw [HK.out]; apply ByteArray.ext; simp
      have HD : Hid ((n0 / 256 ^ (k + 1) : Nat) = n0 / 256 ^ k / 256) := by unfold Hid; rw [Nat.pow_succ, Nat.div_div_eq_div_mul]
      have hm : n0 / 256 ^ k < 18446744073709551616 := Nat.lt_of_le_of_lt (Nat.div_le_self _ _) hn
      generalize n0 / 256 ^ k = m at *
      generalize (⟨(el.drop (8 - k)).toArray⟩ : ByteArray) = sk at *
      have hmi : 0 ≤ (m : Int) / 256 ∧ (m : Int) / 256 < 18446744073709551616 := by omega
      replace hmi := hide hmi
      clear hm
      have ht := one_byte ((m : Int) % 256) (m % 256) (by omega) (by omega) wr
      have c1 : ¬ 9223372036854775807 < (⟨#[UInt8.ofNat (m % 256)]⟩ : ByteArray).size + sk.size := by have := HLN.out; show ¬ _ < 1 + sk.size; omega
      have q2 := qb.alloc (qb.size) (.cells #[.int .u8 ((m : Int) % 256)] 5)
      generalize (⟨#[UInt8.ofNat (m % 256)]⟩ : ByteArray) = b1 at *
      go_wp2_with fail
      go_roundw
      case rel => exact ⟨k + 1, by omega, by simp, by rw [HD.out, IntKind.wrap_u64, Int.emod_eq_of_lt hmi.out.1 hmi.out.2]; simp, by rw [HC.out], q2⟩
      case measure => simp [RowKit.intOf]; omega
    · have hk8 : k = 8 := by omega
      subst hk8
      rw [show 8 - 8 = 0 by rfl, HF.out]
      go_wp2_with fail
      go_ret
      exact ⟨rfl, qb⟩
end Go.Proofs.Ytbbfnpfkbbpjgaa

/- The reference's sum: what its steps do, in plain Lean; cubes as a contract. -/
namespace Go.Proofs.Ytbbfnpfkbbpjgaa
open Go.RowKit Go.Lib

/-- The length of a slice. -/
def lenOf : Value → Nat := fun v => match v with | .slice _ n _ => n | _ => 0
/-- The first words anew, the others as they were. -/
def over (new old : List W32) : List W32 := new ++ old.drop new.length
theorem Arr.grown {w w' : World} {b : Nat} {t : TypeId} {cs : List Value} (h : Arr w b t cs) {row : Option Nat} (hg : w.grownBy w' row) (hne : some b ≠ row) : Arr w' b t cs := by
  unfold Arr; rw [hg.block b h.lt hne]; exact h
section
variable {W wr w' : World} {rb gp cp gv : Nat} {p : List UInt8}
end
end Go.Proofs.Ytbbfnpfkbbpjgaa

/- mintageref03.Sum as a contract: what it computes is the sum of ShaSpec. -/
namespace Go.Proofs.Ytbbfnpfkbbpjgaa
open Go.RowKit Go.Lib

end Go.Proofs.Ytbbfnpfkbbpjgaa

/- The reference's Put, PutText (mintageref01) as contracts. -/
namespace Go.Proofs.Ytbbfnpfkbbpjgaa
open Go.RowKit Go.Lib

set_option maxRecDepth 100000 in
theorem refPut_small (f n : Nat) (w : World) (hn : n < 128) :
    Calls Try.prog 113 #[.int .u64 n] w fun e w' => e = .returned (.string ⟨(putF (f + 1) n).toArray⟩) ∧ Below w.heap.size w w' := by
  have HE : Hid (putF (f + 1) n = [UInt8.ofNat n]) := by unfold Hid; rw [putF, if_pos hn]
  rw [HE.out]
  have ht := one_byte ((n : Int) % 256) n (by omega) (by omega) w
  have e1 : (n : Int) < 128 := by omega
  have e2 : (n : Int) % 256 = (n : Int) := by omega
  rw [e2] at ht
  go_enter Try.func113, Try.ntmps113
  go_wp2_with fail
  go_ret
  exact ⟨rfl, below1 _ _⟩

set_option maxRecDepth 100000 in
set_option maxHeartbeats 3200000 in
theorem refPut_any (f : Nat) : ∀ (n : Nat) (w : World), f < 999 → n < 18446744073709551616 → n < 128 ^ (f + 1) →
    Calls Try.prog 113 #[.int .u64 n] w fun e w' => e = .returned (.string ⟨(putF (f + 1) n).toArray⟩) ∧ Below w.heap.size w w' := by
  induction f with
  | zero => intro n w _ _ hf; exact refPut_small 0 n w (by simpa using hf)
  | succ f ih =>
    intro n w hfb hn hf
    by_cases hlt : n < 128
    · exact refPut_small (f + 1) n w hlt
    · have HE : Hid (putF (f + 1 + 1) n = UInt8.ofNat (n % 128 + 128) :: putF (f + 1) (n / 128)) := by
        unfold Hid; rw [putF, if_neg hlt]
      rw [HE.out]
      have IH := hide (fun w => ih (n / 128) w (by omega) (by omega) (by rw [Nat.pow_succ] at hf; exact Nat.div_lt_of_lt_mul (by rw [Nat.mul_comm]; exact hf)))
      clear ih
      have hrl := putF_length (f + 1) (n / 128)
      have hff : f + 1 < 999 := hfb
      generalize putF (f + 1) (n / 128) = rest at *
      obtain ⟨y, hy⟩ : ∃ y : Nat, y = n % 128 + 128 := ⟨_, rfl⟩
      have hy2 : y < 256 := by omega
      have e1 : (n : Int) % 128 + 128 = (y : Int) := by omega
      have e2 : (y : Int) % 256 = (y : Int) := by omega
      have e3 : (n : Int) / 128 = ((n / 128 : Nat) : Int) := by omega
      have e4 : (n : Int).tmod 128 = (n : Int) % 128 := Int.tmod_eq_emod_of_nonneg (by omega)
      have e5 : (n : Int).tdiv 128 = (n : Int) / 128 := Int.tdiv_eq_ediv_of_nonneg (by omega)
      have e6 : IntKind.u64.wrap ((n : Int) % 128 + 128) = (y : Int) := by rw [IntKind.wrap_u64]; omega
      have hcv0 : ∀ W : World, (convert 63 9 (.slice (some ⟨W.heap.size, 0, none⟩) 1 1)).run Try.prog (W.alloc (.cells #[.int .u8 (y : Int)] 5)) = .ok (.string ⟨#[UInt8.ofNat y]⟩) (W.alloc (.cells #[.int .u8 (y : Int)] 5)) := fun W => one_byte _ y rfl hy2 W
      have g1 : IntKind.u64.wrap (y : Int) = (y : Int) := by rw [IntKind.wrap_u64]; omega
      have g2 : IntKind.u8.wrap (y : Int) = (y : Int) := by rw [IntKind.wrap_u8']; omega
      have g3 : IntKind.u64.wrap ((n : Int) / 128) = ((n / 128 : Nat) : Int) := by rw [IntKind.wrap_u64]; omega
      have hcv1 : ∀ W : World, (convert 63 9 (.slice (some ⟨W.heap.size, 0, none⟩) 1 1)).run Try.prog (W.alloc (.cells #[.int .u8 (y : Int)] 5)).drew = .ok (.string ⟨#[UInt8.ofNat y]⟩) (W.alloc (.cells #[.int .u8 (y : Int)] 5)).drew := fun W => one_byte_drew _ y rfl hy2 W
      have HAF := hide (fun (W W' : World) hb => one_byte_after (y : Int) y rfl hy2 W W' hb)
      rw [← hy] at HE ⊢
      generalize n / 128 = m at *
      have c1 : ¬ 9223372036854775807 < (⟨#[UInt8.ofNat y]⟩ : ByteArray).size + (⟨rest.toArray⟩ : ByteArray).size := by show ¬ _ < 1 + rest.length; omega
      have HC : Hid ((⟨#[UInt8.ofNat y]⟩ : ByteArray) ++ ⟨rest.toArray⟩ = ⟨(UInt8.ofNat y :: rest).toArray⟩) := by unfold Hid; apply ByteArray.ext; simp
      generalize (⟨(UInt8.ofNat y :: rest).toArray⟩ : ByteArray) = full at *
      generalize (⟨rest.toArray⟩ : ByteArray) = rb at *
      generalize (⟨#[UInt8.ofNat y]⟩ : ByteArray) = b1 at *
      clear hy e3
      go_enter Try.func113, Try.ntmps113
      go_wp2_with fail
      go_region_with
        (first | (go_at_call 113; refine (IH.out _).mono ?_; rintro e w' ⟨rfl, hb⟩; first | (have hcv2 := HAF.out _ _ hb) | skip))
      all_goals (go_wp2_with fail; go_ret; refine ⟨by rw [HC.out]; rfl, ?_⟩)
      all_goals (first
        | exact later (Below.drew (below1 w (.cells #[.int .u8 (y : Int)] 5))) hb
        | exact (later (Below.drew (Below.refl _ w)) hb).alloc (later (Below.drew (Below.refl _ w)) hb).size _)
theorem refPut_lit (m : Int) (n : Nat) (w : World) (h : m = (n : Nat)) (hn : n < 18446744073709551616) : Calls Try.prog 113 #[.int .u64 m] w fun e w' => e = .returned (.string ⟨(putL n).toArray⟩) ∧ Below w.heap.size w w' :=
  h ▸ refPut_any 9 n w (by omega) hn (by omega)
end Go.Proofs.Ytbbfnpfkbbpjgaa

/- mintageref03.Of as a contract. -/
namespace Go.Proofs.Ytbbfnpfkbbpjgaa
open Go.RowKit Go.Lib

end Go.Proofs.Ytbbfnpfkbbpjgaa

/- sha.Of and the reference's Of at few parts, by lists. -/
namespace Go.Proofs.Ytbbfnpfkbbpjgaa
open Go.RowKit Go.Lib

end Go.Proofs.Ytbbfnpfkbbpjgaa

/- The reference's Bytes, Hex (mintageref03) as contracts. -/
namespace Go.Proofs.Ytbbfnpfkbbpjgaa
open Go.RowKit Go.Lib

/-- The text of a row of bytes of one's own. -/
theorem owns_text {w : World} {base : Nat} {v : Value} {l : List UInt8} (h : w.ownsRow base 5 1 v l.length (bvs l)) (h0 : 0 < l.length) :
    (convert 63 9 v).run Try.prog w = .ok (.string ⟨l.toArray⟩) w := by
  obtain ⟨hl, h⟩ := h
  rcases h with ⟨_, hz⟩ | ⟨g, cap, cur, rfl, hg, hgk, hnc, hcm, hcs, htk⟩
  · omega
  · refine run_convert_bytes_back w 63 9 5 ⟨g, 0, none⟩ cap l Try.underlying63 Try.underlying5 Try.underlying9 (fun j hj => ?_)
    have hadd : (⟨g, 0, none⟩ : Addr).add j = ⟨g, j, none⟩ := by unfold Addr.add; split <;> simp_all
    rw [hadd, cell_of_row w g j cur 5 (0, 0) hgk]
    have h1 : (cur.toList.take (l.length * 1))[j]? = (bvs l)[j]? := by rw [htk]
    rw [List.getElem?_take, if_pos (by omega)] at h1
    have h2 : (bvs l)[j]? = some (.int .u8 (l[j].toNat : Int)) := by simp [bvs, hj]
    rw [h2] at h1
    simpa using h1
theorem bvs_take (l : List UInt8) (k : Nat) (h : k < l.length) : bvs (l.take (k + 1)) = bvs (l.take k) ++ [.int .u8 ((l.getD k 0).toNat : Int)] := by
  have e : l.getD k 0 = l[k] := by simp [h]
  rw [List.take_succ_eq_append_getElem h, e]
  unfold bvs
  rw [List.map_append]
  rfl

set_option maxRecDepth 100000 in
set_option maxHeartbeats 3200000 in
theorem refBytes_any (l : List UInt8) (w : World) (hl : l.length = 32) :
    Calls Try.prog 100 #[hv l] w fun e w' => e = .returned (.string ⟨l.toArray⟩) ∧ Below w.heap.size w w' := by
  obtain ⟨i0, hi, hz0, hz1, hz2⟩ := info_parts info8
  have HL := hide hl
  clear hl
  unfold hv
  go_enter Try.func100, Try.ntmps100
  go_wp2_with fail
  have r0 : Byts (w.alloc (.cells (bvs l).toArray 27)) w.heap.size 27 l := Arr.new w _ _
  have hb := below1 w (.cells (bvs l).toArray 27)
  have hW : w.heap.size + 1 = (w.alloc (.cells (bvs l).toArray 27)).heap.size := by simp
  replace hW := hide hW
  generalize w.alloc (.cells (bvs l).toArray 27) = W at *
  go_loopw [3, 4] (fun b i wr => ∃ k : Nat, k ≤ 32 ∧ i = .int .i64 k ∧ wr.ownsRow (w.heap.size + 1) 5 1 b k (bvs (l.take k)) ∧ Below (w.heap.size + 1) W wr) (fun _ i _ => 32 - (RowKit.intOf i).toNat)
  case atStart => exact ⟨0, by omega, rfl, World.ownsRow_nil _ _ _ _, Below.refl _ _⟩
  case round =>
    obtain ⟨k, hk, rfl, hown, hbr⟩ := hrel
    have hws : w.heap.size + 1 ≤ wr.heap.size := by have := hbr.size; have := hW.out; omega
    by_cases hlt : k < 32
    · have c1 : wr.cell? ⟨w.heap.size, k, none⟩ = some (.int .u8 ((l.getD k 0).toNat : Int)) := (hbr.cell (p := ⟨w.heap.size, k, none⟩) (by simp)).trans (Byts.cell r0 (by rw [HL.out]; omega))
      have HN : Hid (bvs (l.take (k + 1)) = bvs (l.take k) ++ [.int .u8 ((l.getD k 0).toNat : Int)]) := bvs_take l k (by rw [HL.out]; omega)
      generalize (l.getD k 0).toNat = c at *
      have i0' : (k : Int) < 32 := by omega
      go_wp2_with (at_builtin; refine wpList_append_own _ rfl _ _ 63 rfl (w.heap.size + 1) 5 i0 (.int .u8 0) 1 1 Try.underlying63 hi hz0 hz1 hz2 rfl (by decide) _ _ _ rfl (hown.alloc _) ⟨wr.heap.size, 0, none⟩ 1 1 [.int .u8 (c : Int)] rfl rfl ?c1 ?c2 ?c3 ?c4 ?c5 ?_)
      case c1 => exact (cell_one_new _ _ _)
      case c2 => intro u hu; simp at hu; subst hu; rfl
      case c3 => unfold maxLen; omega
      case c4 => omega
      case c5 => simp; omega
      intro v' w1 hown' hgrow _
      have hb1 := hbr.trans (grown_below hown hgrow hws)
      clear hgrow c1
      go_wp2_with fail
      go_roundw
      case rel => exact ⟨k + 1, by omega, by simp, by rw [HN.out]; exact hown', hb1⟩
      case measure => simp [RowKit.intOf]; omega
    · have hk32 : k = 32 := by omega
      subst hk32
      have ht := owns_text (l := l) (by rw [HL.out]; rw [show l.take 32 = l by rw [← HL.out, List.take_length]] at hown; exact hown) (by rw [HL.out]; omega)
      have hbe : Below w.heap.size w wr := hb.trans (hbr.mono (by omega))
      clear hown hbr hb
      go_wp2_with fail
      go_ret
      exact ⟨rfl, hbe⟩
end Go.Proofs.Ytbbfnpfkbbpjgaa

/- mintagelaw03.works answers true. -/
namespace Go.Proofs.Ytbbfnpfkbbpjgaa
open Go.RowKit Go.Lib

end Go.Proofs.Ytbbfnpfkbbpjgaa

/- The law ShaParts: any parts under any tag. -/
namespace Go.Proofs.Ytbbfnpfkbbpjgaa
open Go.RowKit Go.Lib

end Go.Proofs.Ytbbfnpfkbbpjgaa
