/- sha.Of as a contract. -/
import Derived.Test.YtikphhhkikdhaaaPut
import Derived.Test.YtikphhhkikdhaaaHex
namespace Go.Proofs.Ytikphhhkikdhaaa
open Go.RowKit Go.Lib

/-- A value that is a slice of texts. -/
def Strs (w : World) (v : Value) (ps : List ByteArray) : Prop :=
  ∃ a cap, v = .slice a ps.length cap ∧ ∀ i, i < ps.length → ∃ g off, a = some ⟨g, off, none⟩ ∧ g < w.heap.size ∧ w.cell? ⟨g, off + i, none⟩ = some (.string (ps.getD i ByteArray.empty))
def tellL (ps : List ByteArray) : List UInt8 := ps.flatMap fun s => putText s.data.toList
def ofL (tag : ByteArray) (ps : List ByteArray) : List UInt8 := sha (putText tag.data.toList ++ tellL ps)

theorem putText_size (s : ByteArray) : s.size ≤ (putText s.data.toList).length := by
  have : s.data.toList.length = s.size := by simp
  simp only [putText, List.length_append]
  omega
theorem tellL_part (ps : List ByteArray) (s : ByteArray) (h : s ∈ ps) : s.size ≤ (tellL ps).length := by
  induction ps with
  | nil => cases h
  | cons a ps ih =>
    simp only [tellL, List.flatMap_cons, List.length_append]
    rcases List.mem_cons.1 h with rfl | h
    · have := putText_size s; omega
    · have := ih h
      simp only [tellL] at this
      omega
/-- A builder is as it was in every later world. -/
theorem builder_later {T e : TypeId} {B b : Nat} {bs : List Value} {w w' : World} (h : Lib.IsBuilder T e B b bs w) (hb : Below w.heap.size w w') : Lib.IsBuilder T e B b bs w' := by
  have key : ∀ p, Lib.BuilderAt T e B b p bs w → Lib.BuilderAt T e B b p bs w' := by
    rintro p ⟨hB, v, hbk, hown, hne⟩
    have hlt : b < w.heap.size := (Array.getElem?_eq_some_iff.1 hbk).1
    refine ⟨hB, v, by rw [hb.block b hlt]; exact hbk, ?_, hne⟩
    obtain ⟨hl, h⟩ := hown
    refine ⟨hl, ?_⟩
    rcases h with h | ⟨g, cap, cur, hv, hg, hgk, r⟩
    · exact Or.inl h
    · have hglt : g < w.heap.size := (Array.getElem?_eq_some_iff.1 hgk).1
      exact Or.inr ⟨g, cap, cur, hv, hg, by rw [hb.block g hglt]; exact hgk, r⟩
  rcases h with h | h
  · exact Or.inl (key _ h)
  · exact Or.inr (key _ h)

set_option maxRecDepth 100000 in
set_option maxHeartbeats 3200000 in
theorem of_any (tag : ByteArray) (ps : List ByteArray) (v : Value) (w : World) (hv0 : Strs w v ps) (hn : ps.length < 4611686018427387904) (hs : (putText tag.data.toList ++ tellL ps).length ≤ 1099511627776) :
    Calls Try.prog 26 #[.string tag, v] w fun e w' => e = .returned (hv (ofL tag ps)) ∧ Below w.heap.size w w' := by
  obtain ⟨R, hR⟩ : ∃ R, R = ofL tag ps := ⟨_, rfl⟩
  rw [← hR]
  have HR := hide hR
  clear hR
  have HS := hide hs
  clear hs
  have hst : ∀ i, i < ps.length → (ps.getD i ByteArray.empty).size ≤ 1099511627776 := by
    intro i hi
    have h := HS.out
    have hm : ps.getD i ByteArray.empty ∈ ps := by rw [List.getD_eq_getElem?_getD, List.getElem?_eq_getElem hi]; exact List.getElem_mem hi
    have := tellL_part ps _ hm
    rw [List.length_append] at h
    omega
  have htg : tag.size ≤ 1099511627776 := by
    have h := HS.out
    have h2 := putText_size tag
    rw [List.length_append] at h
    omega
  have HST := hide hst
  clear hst
  obtain ⟨a, cap, rfl, hcell⟩ := hv0
  have HCELL := hide hcell
  clear hcell
  have q0 := hide (Arr.alloc (Arr.new w (bvs zero32) 23) (.cells #[.pointer none, .slice none 0 0] 55))
  have hb := hide (below2 w (.cells (bvs zero32).toArray 23) (.cells #[.pointer none, .slice none 0 0] 55))
  have hbu : Hid (Lib.IsBuilder 55 5 (w.heap.size + 1) (w.heap.size + 1) (Lib.byteCells []) ((w.alloc (.cells (bvs zero32).toArray 23)).alloc (.cells #[.pointer none, .slice none 0 0] 55))) := by
    refine Or.inl ⟨by omega, .slice none 0 0, ?_, World.ownsRow_nil _ _ _ _, by simp [Value.ownBlock]⟩
    exact Arr.new2 w (.cells (bvs zero32).toArray 23) [.pointer none, .slice none 0 0] 55
  go_enter Try.func26, Try.ntmps26
  go_wp2_with fail
  show Calls _ _ _ ((w.alloc (.cells (bvs zero32).toArray 23)).alloc (.cells #[.pointer none, .slice none 0 0] 55)) _
  have hW : w.heap.size + 2 = ((w.alloc (.cells (bvs zero32).toArray 23)).alloc (.cells #[.pointer none, .slice none 0 0] 55)).heap.size := by simp
  replace hW := hide hW
  generalize (w.alloc (.cells (bvs zero32).toArray 23)).alloc (.cells #[.pointer none, .slice none 0 0] 55) = W at *
  refine (putText_any tag _ htg).mono ?_
  rintro _ w1 ⟨rfl, hb1⟩
  have hle1 := hb1.size
  have hwl := hW.out
  have b1 := builder_later hbu.out hb1
  go_wp2_with fail
  have HTL : Hid ((putText tag.data.toList).length ≤ 1099511627776) := by have h := HS.out; rw [List.length_append] at h; unfold Hid; omega
  refine (writeString _ _ _ _ _ b1 (by have := HTL.out; rw [Lib.byteCells_length]; show 0 + (putText tag.data.toList).length ≤ _; omega) (by omega)).mono ?_
  rintro _ w2 ⟨rfl, b2, hb2⟩
  have HK : Below (w.heap.size + 1) W w2 := (hb1.mono (by omega)).trans hb2
  have q2 : Arr w2 w.heap.size 23 (bvs zero32) := Arr.below q0.out HK (by omega)
  have hw2 : Below w.heap.size w w2 := hb.out.trans (HK.mono (by omega))
  have b3 : Lib.IsBuilder 55 5 (w.heap.size + 1) (w.heap.size + 1) (Lib.byteCells (putText tag.data.toList ++ tellL (ps.take 0))) w2 := by
    refine Or.inr ?_
    have e : Lib.byteCells (putText tag.data.toList ++ tellL (ps.take 0)) = Lib.byteCells [] ++ Lib.strCells ⟨(putText tag.data.toList).toArray⟩ := by simp [Lib.byteCells, Lib.strCells, tellL]
    rw [e]; exact b2
  have hws : w.heap.size + 1 ≤ w2.heap.size := by have := HK.size; omega
  clear b1 b2 hb1 hb2 hle1 hwl HK
  go_wp2_with fail
  go_loopw [13] (fun i wr => ∃ k : Nat, k ≤ ps.length ∧ i = .int .i64 k ∧ Lib.IsBuilder 55 5 (w.heap.size + 1) (w.heap.size + 1) (Lib.byteCells (putText tag.data.toList ++ tellL (ps.take k))) wr ∧ Arr wr w.heap.size 23 (bvs zero32) ∧ w.heap.size + 1 ≤ wr.heap.size ∧ Below w.heap.size w wr) (fun i _ => ps.length - (RowKit.intOf i).toNat)
  case atStart => exact ⟨0, by omega, rfl, b3, q2, hws, hw2⟩
  case round =>
    obtain ⟨k, hk, rfl, qb, qo, qs, qw⟩ := hrel
    by_cases hlt : k < ps.length
    · obtain ⟨g, off, rfl, hg, hc⟩ := HCELL.out k hlt
      have c1 : wr.cell? ⟨g, off + k, none⟩ = some (.string (ps.getD k ByteArray.empty)) := (qw.cell (p := ⟨g, off + k, none⟩) hg).trans hc
      have hz := HST.out k hlt
      have HT : Hid (tellL (ps.take (k + 1)) = tellL (ps.take k) ++ putText (ps.getD k ByteArray.empty).data.toList) := by
        unfold Hid tellL
        rw [List.take_succ_eq_append_getElem hlt, List.flatMap_append]
        simp [hlt]
      have HL : Hid ((putText tag.data.toList ++ tellL (ps.take k)).length + (putText (ps.getD k ByteArray.empty).data.toList).length ≤ 1099511627776) := by
        have h1 := HS.out
        have h2 : tellL ps = tellL (ps.take (k + 1)) ++ tellL (ps.drop (k + 1)) := by unfold tellL; rw [← List.flatMap_append, List.take_append_drop]
        rw [h2, HT.out] at h1
        simp only [List.length_append] at h1 ⊢
        unfold Hid
        omega
      generalize ps.getD k ByteArray.empty = pk at *
      clear hc
      go_wp2_with fail
      refine (putText_any pk _ hz).mono ?_
      rintro _ w3 ⟨rfl, hb3⟩
      have e1 := hb3.size
      have b4 := builder_later qb hb3
      have q4 := Arr.later qo hb3
      have w4 := qw.trans (hb3.mono qw.size)
      clear c1 qb qo qw
      go_wp2_with fail
      refine (writeString _ _ _ _ _ b4 (by have := HL.out; rw [Lib.byteCells_length]; show _ + (putText pk.data.toList).length ≤ _; omega) (by omega)).mono ?_
      rintro _ w5 ⟨rfl, b5, hb5⟩
      have q5 := Arr.below q4 hb5 (by omega)
      have w6 := w4.trans (hb5.mono (by omega))
      have e2 := hb5.size
      have b6 : Lib.IsBuilder 55 5 (w.heap.size + 1) (w.heap.size + 1) (Lib.byteCells (putText tag.data.toList ++ tellL (ps.take (k + 1)))) w5 := by
        refine Or.inr ?_
        rw [HT.out]
        have e : Lib.byteCells (putText tag.data.toList ++ (tellL (ps.take k) ++ putText pk.data.toList)) = Lib.byteCells (putText tag.data.toList ++ tellL (ps.take k)) ++ Lib.strCells ⟨(putText pk.data.toList).toArray⟩ := by simp [Lib.byteCells, Lib.strCells]
        rw [e]; exact b5
      have e3 : w.heap.size + 1 ≤ w5.heap.size := by omega
      clear b4 b5 q4 w4 hb3 hb5 e1 e2
      go_wp2_with fail
      go_roundw
      case rel => exact ⟨k + 1, by omega, by simp, b6, q5, e3, w6⟩
      case measure => simp [RowKit.intOf]; omega
    · have hkn : k = ps.length := by omega
      subst hkn
      rw [List.take_length] at qb
      obtain ⟨all, hall⟩ : ∃ all, all = putText tag.data.toList ++ tellL ps := ⟨_, rfl⟩
      rw [← hall] at qb HS
      have HRA : Hid (R = sha all) := by rw [HR.out, hall]; rfl
      clear hall
      go_wp2_with fail
      refine (Try.Builder_String_any _ _ _ _ qb qs).mono ?_
      rintro _ w7 ⟨rfl, hb7⟩
      have q7 := Arr.below qo hb7 (by omega)
      have w8 := qw.trans (hb7.mono (by omega))
      clear qb qo qw
      go_wp2_with fail
      refine (sum_any _ _ (by show all.length ≤ _; exact HS.out)).mono ?_
      rintro _ w9 ⟨rfl, hb9⟩
      have q9 := hide (Arr.later q7 hb9)
      have w10 := w8.trans (hb9.mono w8.size)
      have e : sha ((⟨all.toArray⟩ : ByteArray).data.toList) = R := HRA.out.symm
      have hlR : Hid (R.length = 32) := by rw [HRA.out]; exact sha_length _
      rw [e]
      clear e
      have y1 := hide (Arr.row q9.out (bvs R))
      have y2 := hide (below_setRow w10 (Nat.le_refl w.heap.size) (bvs R).toArray)
      have y5 : Hid ((Try.prog.info? 23).map (·.size) = some (bvs R).toArray.size) := by rw [show (bvs R).toArray.size = 32 by simp [bvs, hlR.out]]; unfold Hid; kernel_rfl
      have y6 : Hid ((bvs zero32).toArray.size = (bvs R).toArray.size) := by unfold Hid; simp [bvs, hlR.out, zero32]
      have y7 := hide (show (bvs R).toArray.all (·.oneCell') = true by simpa using bvs_one R)
      clear q7 w8 hb9 w10
      go_wp2_with (refine wpList_store_row rfl 23 (.tmp 4) (.tmp 22) rfl w.heap.size (bvs R).toArray rfl rfl 23 _ q9.out y5.out y6.out y7.out ?_)
      exact bodyPost_ret (v := .agg (bvs R).toArray) (results_cell_row rfl _ _ w.heap.size 23 _ (0, 0) _ rfl y1.out Try.underlying23 rfl y5.out) rfl ⟨rfl, y2.out⟩
end Go.Proofs.Ytikphhhkikdhaaa
