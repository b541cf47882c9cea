/- The reference's Bytes, Hex (mintageref03) as contracts. -/
import Derived.Test.YtikphhhkikdhaaaHex
import Derived.Test.YtikphhhkikdhaaaRef02
import Derived.Test.YtikphhhkikdhaaaRef01
import Derived.Test.YtikphhhkikdhaaaMix
import Derived.Deep.AppendLies
namespace Go.Proofs.Ytikphhhkikdhaaa
open Go.RowKit Go.Lib

/-- The text of a row of bytes of one's own. -/
theorem owns_text {w : World} {base : Nat} {v : Value} {l : List UInt8} (h : w.ownsRow base 5 1 v l.length (bvs l)) (h0 : 0 < l.length) :
    (convert 53 9 v).run Try.prog w = .ok (.string ⟨l.toArray⟩) w := by
  obtain ⟨hl, h⟩ := h
  rcases h with ⟨_, hz⟩ | ⟨g, cap, cur, rfl, hg, hgk, hnc, hcm, hcs, htk⟩
  · omega
  · refine run_convert_bytes_back w 53 9 5 ⟨g, 0, none⟩ cap l Try.underlying53 Try.underlying5 Try.underlying9 (fun j hj => ?_)
    have hadd : (⟨g, 0, none⟩ : Addr).add j = ⟨g, j, none⟩ := by unfold Addr.add; split <;> simp_all
    rw [hadd, cell_of_row w g j cur 5 (0, 0) hgk]
    have h1 : (cur.toList.take (l.length * 1))[j]? = (bvs l)[j]? := by rw [htk]
    rw [List.getElem?_take, if_pos (by omega)] at h1
    have h2 : (bvs l)[j]? = some (.int .u8 (l[j].toNat : Int)) := by simp [bvs, hj]
    rw [h2] at h1
    simpa using h1
theorem bvs_take (l : List UInt8) (k : Nat) (h : k < l.length) : bvs (l.take (k + 1)) = bvs (l.take k) ++ [.int .u8 ((l.getD k 0).toNat : Int)] := by
  have e : l.getD k 0 = l[k] := by simp [h]
  rw [List.take_succ_eq_append_getElem h, e]
  unfold bvs
  rw [List.map_append]
  rfl

set_option maxRecDepth 100000 in
set_option maxHeartbeats 3200000 in
theorem refBytes_any (l : List UInt8) (w : World) (hl : l.length = 32) :
    Calls Try.prog 70 #[hv l] w fun e w' => e = .returned (.string ⟨l.toArray⟩) ∧ Below w.heap.size w w' := by
  obtain ⟨i0, hi, hz0, hz1, hz2⟩ := info_parts info8
  have HL := hide hl
  clear hl
  unfold hv
  go_enter Try.func70, Try.ntmps70
  go_wp2_with fail
  have r0 : Byts (w.alloc (.cells (bvs l).toArray 23)) w.heap.size 23 l := Arr.new w _ _
  have hb := below1 w (.cells (bvs l).toArray 23)
  have hW : w.heap.size + 1 = (w.alloc (.cells (bvs l).toArray 23)).heap.size := by simp
  replace hW := hide hW
  generalize w.alloc (.cells (bvs l).toArray 23) = W at *
  go_loopw [3, 4] (fun b i wr => ∃ k : Nat, k ≤ 32 ∧ i = .int .i64 k ∧ wr.ownsRow (w.heap.size + 1) 5 1 b k (bvs (l.take k)) ∧ Below (w.heap.size + 1) W wr) (fun _ i _ => 32 - (RowKit.intOf i).toNat)
  case atStart => exact ⟨0, by omega, rfl, World.ownsRow_nil _ _ _ _, Below.refl _ _⟩
  case round =>
    obtain ⟨k, hk, rfl, hown, hbr⟩ := hrel
    have hws : w.heap.size + 1 ≤ wr.heap.size := by have := hbr.size; have := hW.out; omega
    by_cases hlt : k < 32
    · have c1 : wr.cell? ⟨w.heap.size, k, none⟩ = some (.int .u8 ((l.getD k 0).toNat : Int)) := (hbr.cell (p := ⟨w.heap.size, k, none⟩) (by simp)).trans (Byts.cell r0 (by rw [HL.out]; omega))
      have HN : Hid (bvs (l.take (k + 1)) = bvs (l.take k) ++ [.int .u8 ((l.getD k 0).toNat : Int)]) := bvs_take l k (by rw [HL.out]; omega)
      generalize (l.getD k 0).toNat = c at *
      have i0' : (k : Int) < 32 := by omega
      go_wp2_with (at_builtin; refine wpList_append_own _ rfl _ _ 53 rfl (w.heap.size + 1) 5 i0 (.int .u8 0) 1 1 Try.underlying53 hi hz0 hz1 hz2 rfl (by decide) _ _ _ rfl (hown.alloc _) ⟨wr.heap.size, 0, none⟩ 1 1 [.int .u8 (c : Int)] rfl rfl ?c1 ?c2 ?c3 ?c4 ?c5 ?_)
      case c1 => exact (cell_one_new _ _ _)
      case c2 => intro u hu; simp at hu; subst hu; rfl
      case c3 => unfold maxLen; omega
      case c4 => omega
      case c5 => simp; omega
      intro v' w1 hown' hgrow _
      have hb1 := hbr.trans (grown_below hown hgrow hws)
      clear hgrow c1
      go_wp2_with fail
      go_roundw
      case rel => exact ⟨k + 1, by omega, by simp, by rw [HN.out]; exact hown', hb1⟩
      case measure => simp [RowKit.intOf]; omega
    · have hk32 : k = 32 := by omega
      subst hk32
      have ht := owns_text (l := l) (by rw [HL.out]; rw [show l.take 32 = l by rw [← HL.out, List.take_length]] at hown; exact hown) (by rw [HL.out]; omega)
      have hbe : Below w.heap.size w wr := hb.trans (hbr.mono (by omega))
      clear hown hbr hb
      go_wp2_with fail
      go_ret
      exact ⟨rfl, hbe⟩
theorem hexL_take (l : List UInt8) (k : Nat) (h : k < l.length) : hexL (l.take (k + 1)) = hexL (l.take k) ++ [hexD ((l.getD k 0).toNat / 16), hexD ((l.getD k 0).toNat % 16)] := by
  have e : l.getD k 0 = l[k] := by simp [h]
  rw [List.take_succ_eq_append_getElem h, e]
  unfold hexL
  rw [List.flatMap_append]
  rfl

end Go.Proofs.Ytikphhhkikdhaaa
