/- Several texts of this proof in one: Ref01, RefSumL, RefSum, RefPut, RefOf, Ofs, Ref03, Works03, ShaParts. -/
import Derived.Test.YtbbfnpfkbbpjgaaOBMOf
import Derived.Test.YtbbfnpfkbbpjgaaOBMBase
import Derived.BigRegion
import Derived.Deep.AppendLies
/- The reference's Eight, Put, PutText (mintageref01) as contracts. -/
namespace Go.Proofs.Ytbbfnpfkbbpjgaa
open Go.RowKit Go.Lib

theorem one_byte (y : Int) (x : Nat) (hy : y = (x : Int)) (hx : x < 256) (w : World) :
    (convert 63 9 (.slice (some ⟨w.heap.size, 0, none⟩) 1 1)).run Try.prog (w.alloc (.cells #[.int .u8 y] 5)) = .ok (.string ⟨#[UInt8.ofNat x]⟩) (w.alloc (.cells #[.int .u8 y] 5)) := by
  have h := Byts.text (P := Try.prog) (Arr.new w (bvs [UInt8.ofNat x]) 5 : Byts _ _ _ [UInt8.ofNat x]) 63 9 5 1 1 rfl Try.underlying63 Try.underlying5 Try.underlying9
  have e : (bvs [UInt8.ofNat x]).toArray = #[.int .u8 y] := by
    have : ((UInt8.ofNat x).toNat : Int) = y := by rw [UInt8.toNat_ofNat', hy]; omega
    simp only [bvs, List.map_cons, List.map_nil, this]
  rw [e] at h
  exact h
theorem one_byte_drew (y : Int) (x : Nat) (hy : y = (x : Int)) (hx : x < 256) (w : World) :
    (convert 63 9 (.slice (some ⟨w.heap.size, 0, none⟩) 1 1)).run Try.prog (w.alloc (.cells #[.int .u8 y] 5)).drew = .ok (.string ⟨#[UInt8.ofNat x]⟩) (w.alloc (.cells #[.int .u8 y] 5)).drew := by
  have e : (bvs [UInt8.ofNat x]).toArray = #[.int .u8 y] := by
    have : ((UInt8.ofNat x).toNat : Int) = y := by rw [UInt8.toNat_ofNat', hy]; omega
    simp only [bvs, List.map_cons, List.map_nil, this]
  have ha : Byts (w.alloc (.cells #[.int .u8 y] 5)).drew w.heap.size 5 [UInt8.ofNat x] := by
    have h := Arr.new w (bvs [UInt8.ofNat x]) 5
    rw [e] at h
    exact h
  exact Byts.text (P := Try.prog) ha 63 9 5 1 1 rfl Try.underlying63 Try.underlying5 Try.underlying9
theorem one_byte_after (y : Int) (x : Nat) (hy : y = (x : Int)) (hx : x < 256) (w w' : World) (hb : Below (w.alloc (.cells #[.int .u8 y] 5)).drew.heap.size (w.alloc (.cells #[.int .u8 y] 5)).drew w') :
    (convert 63 9 (.slice (some ⟨w.heap.size, 0, none⟩) 1 1)).run Try.prog w' = .ok (.string ⟨#[UInt8.ofNat x]⟩) w' := by
  have e : (bvs [UInt8.ofNat x]).toArray = #[.int .u8 y] := by
    have : ((UInt8.ofNat x).toNat : Int) = y := by rw [UInt8.toNat_ofNat', hy]; omega
    simp only [bvs, List.map_cons, List.map_nil, this]
  have ha : Byts (w.alloc (.cells #[.int .u8 y] 5)).drew w.heap.size 5 [UInt8.ofNat x] := by
    have h := Arr.new w (bvs [UInt8.ofNat x]) 5
    rw [e] at h
    exact h
  exact Byts.text (P := Try.prog) (Arr.later ha hb : Byts _ _ _ _) 63 9 5 1 1 rfl Try.underlying63 Try.underlying5 Try.underlying9
end Go.Proofs.Ytbbfnpfkbbpjgaa

/- The reference's sum: what its steps do, in plain Lean; cubes as a contract. -/
namespace Go.Proofs.Ytbbfnpfkbbpjgaa
open Go.RowKit Go.Lib

/-- The length of a slice. -/
def lenOf : Value → Nat := fun v => match v with | .slice _ n _ => n | _ => 0
/-- The first words anew, the others as they were. -/
def over (new old : List W32) : List W32 := new ++ old.drop new.length
theorem Arr.grown {w w' : World} {b : Nat} {t : TypeId} {cs : List Value} (h : Arr w b t cs) {row : Option Nat} (hg : w.grownBy w' row) (hne : some b ≠ row) : Arr w' b t cs := by
  unfold Arr; rw [hg.block b h.lt hne]; exact h
section
variable {W wr w' : World} {rb gp cp gv : Nat} {p : List UInt8}
end
end Go.Proofs.Ytbbfnpfkbbpjgaa

/- mintageref03.Sum as a contract: what it computes is the sum of ShaSpec. -/
namespace Go.Proofs.Ytbbfnpfkbbpjgaa
open Go.RowKit Go.Lib

end Go.Proofs.Ytbbfnpfkbbpjgaa

/- The reference's Put, PutText (mintageref01) as contracts. -/
namespace Go.Proofs.Ytbbfnpfkbbpjgaa
open Go.RowKit Go.Lib

set_option maxRecDepth 100000 in
theorem refPut_small (f n : Nat) (w : World) (hn : n < 128) :
    Calls Try.prog 113 #[.int .u64 n] w fun e w' => e = .returned (.string ⟨(putF (f + 1) n).toArray⟩) ∧ Below w.heap.size w w' := by
  have HE : Hid (putF (f + 1) n = [UInt8.ofNat n]) := by unfold Hid; rw [putF, if_pos hn]
  rw [HE.out]
  have ht := one_byte ((n : Int) % 256) n (by omega) (by omega) w
  have e1 : (n : Int) < 128 := by omega
  have e2 : (n : Int) % 256 = (n : Int) := by omega
  rw [e2] at ht
  go_enter Try.func113, Try.ntmps113
  go_wp2_with fail
  go_ret
  exact ⟨rfl, below1 _ _⟩

set_option maxRecDepth 100000 in
set_option maxHeartbeats 3200000 in
theorem refPut_any (f : Nat) : ∀ (n : Nat) (w : World), f < 999 → n < 18446744073709551616 → n < 128 ^ (f + 1) →
    Calls Try.prog 113 #[.int .u64 n] w fun e w' => e = .returned (.string ⟨(putF (f + 1) n).toArray⟩) ∧ Below w.heap.size w w' := by
  induction f with
  | zero => intro n w _ _ hf; exact refPut_small 0 n w (by simpa using hf)
  | succ f ih =>
    intro n w hfb hn hf
    by_cases hlt : n < 128
    · exact refPut_small (f + 1) n w hlt
    · have HE : Hid (putF (f + 1 + 1) n = UInt8.ofNat (n % 128 + 128) :: putF (f + 1) (n / 128)) := by
        unfold Hid; rw [putF, if_neg hlt]
      rw [HE.out]
      have IH := hide (fun w => ih (n / 128) w (by omega) (by omega) (by rw [Nat.pow_succ] at hf; exact Nat.div_lt_of_lt_mul (by rw [Nat.mul_comm]; exact hf)))
      clear ih
      have hrl := putF_length (f + 1) (n / 128)
      have hff : f + 1 < 999 := hfb
      generalize putF (f + 1) (n / 128) = rest at *
      obtain ⟨y, hy⟩ : ∃ y : Nat, y = n % 128 + 128 := ⟨_, rfl⟩
      have hy2 : y < 256 := by omega
      have e1 : (n : Int) % 128 + 128 = (y : Int) := by omega
      have e2 : (y : Int) % 256 = (y : Int) := by omega
      have e3 : (n : Int) / 128 = ((n / 128 : Nat) : Int) := by omega
      have e4 : (n : Int).tmod 128 = (n : Int) % 128 := Int.tmod_eq_emod_of_nonneg (by omega)
      have e5 : (n : Int).tdiv 128 = (n : Int) / 128 := Int.tdiv_eq_ediv_of_nonneg (by omega)
      have e6 : IntKind.u64.wrap ((n : Int) % 128 + 128) = (y : Int) := by rw [IntKind.wrap_u64]; omega
      have hcv0 : ∀ W : World, (convert 63 9 (.slice (some ⟨W.heap.size, 0, none⟩) 1 1)).run Try.prog (W.alloc (.cells #[.int .u8 (y : Int)] 5)) = .ok (.string ⟨#[UInt8.ofNat y]⟩) (W.alloc (.cells #[.int .u8 (y : Int)] 5)) := fun W => one_byte _ y rfl hy2 W
      have g1 : IntKind.u64.wrap (y : Int) = (y : Int) := by rw [IntKind.wrap_u64]; omega
      have g2 : IntKind.u8.wrap (y : Int) = (y : Int) := by rw [IntKind.wrap_u8']; omega
      have g3 : IntKind.u64.wrap ((n : Int) / 128) = ((n / 128 : Nat) : Int) := by rw [IntKind.wrap_u64]; omega
      have hcv1 : ∀ W : World, (convert 63 9 (.slice (some ⟨W.heap.size, 0, none⟩) 1 1)).run Try.prog (W.alloc (.cells #[.int .u8 (y : Int)] 5)).drew = .ok (.string ⟨#[UInt8.ofNat y]⟩) (W.alloc (.cells #[.int .u8 (y : Int)] 5)).drew := fun W => one_byte_drew _ y rfl hy2 W
      have HAF := hide (fun (W W' : World) hb => one_byte_after (y : Int) y rfl hy2 W W' hb)
      rw [← hy] at HE ⊢
      generalize n / 128 = m at *
      have c1 : ¬ 9223372036854775807 < (⟨#[UInt8.ofNat y]⟩ : ByteArray).size + (⟨rest.toArray⟩ : ByteArray).size := by show ¬ _ < 1 + rest.length; omega
      have HC : Hid ((⟨#[UInt8.ofNat y]⟩ : ByteArray) ++ ⟨rest.toArray⟩ = ⟨(UInt8.ofNat y :: rest).toArray⟩) := by unfold Hid; apply ByteArray.ext; simp
      generalize (⟨(UInt8.ofNat y :: rest).toArray⟩ : ByteArray) = full at *
      generalize (⟨rest.toArray⟩ : ByteArray) = rb at *
      generalize (⟨#[UInt8.ofNat y]⟩ : ByteArray) = b1 at *
      clear hy e3
      go_enter Try.func113, Try.ntmps113
      go_wp2_with fail
      go_region_with
        (first | (go_at_call 113; refine (IH.out _).mono ?_; rintro e w' ⟨rfl, hb⟩; first | (have hcv2 := HAF.out _ _ hb) | skip))
      all_goals (go_wp2_with fail; go_ret; refine ⟨by rw [HC.out]; rfl, ?_⟩)
      all_goals (first
        | exact later (Below.drew (below1 w (.cells #[.int .u8 (y : Int)] 5))) hb
        | exact (later (Below.drew (Below.refl _ w)) hb).alloc (later (Below.drew (Below.refl _ w)) hb).size _)
theorem refPut_lit (m : Int) (n : Nat) (w : World) (h : m = (n : Nat)) (hn : n < 18446744073709551616) : Calls Try.prog 113 #[.int .u64 m] w fun e w' => e = .returned (.string ⟨(putL n).toArray⟩) ∧ Below w.heap.size w w' :=
  h ▸ refPut_any 9 n w (by omega) hn (by omega)
end Go.Proofs.Ytbbfnpfkbbpjgaa

/- mintageref03.Of as a contract. -/
namespace Go.Proofs.Ytbbfnpfkbbpjgaa
open Go.RowKit Go.Lib

theorem cat_bytes (a b : List UInt8) : (⟨a.toArray⟩ : ByteArray) ++ ⟨b.toArray⟩ = ⟨(a ++ b).toArray⟩ := by apply ByteArray.ext; simp
end Go.Proofs.Ytbbfnpfkbbpjgaa

/- sha.Of and the reference's Of at few parts, by lists. -/
namespace Go.Proofs.Ytbbfnpfkbbpjgaa
open Go.RowKit Go.Lib

/-- What parts under a tag come to. -/
def ofX (tag : List UInt8) (ps : List (List UInt8)) : List UInt8 := sha (putText tag ++ ps.flatMap putText)
end Go.Proofs.Ytbbfnpfkbbpjgaa

/- The reference's Bytes, Hex (mintageref03) as contracts. -/
namespace Go.Proofs.Ytbbfnpfkbbpjgaa
open Go.RowKit Go.Lib

/-- The text of a row of bytes of one's own. -/
theorem owns_text {w : World} {base : Nat} {v : Value} {l : List UInt8} (h : w.ownsRow base 5 1 v l.length (bvs l)) (h0 : 0 < l.length) :
    (convert 63 9 v).run Try.prog w = .ok (.string ⟨l.toArray⟩) w := by
  obtain ⟨hl, h⟩ := h
  rcases h with ⟨_, hz⟩ | ⟨g, cap, cur, rfl, hg, hgk, hnc, hcm, hcs, htk⟩
  · omega
  · refine run_convert_bytes_back w 63 9 5 ⟨g, 0, none⟩ cap l Try.underlying63 Try.underlying5 Try.underlying9 (fun j hj => ?_)
    have hadd : (⟨g, 0, none⟩ : Addr).add j = ⟨g, j, none⟩ := by unfold Addr.add; split <;> simp_all
    rw [hadd, cell_of_row w g j cur 5 (0, 0) hgk]
    have h1 : (cur.toList.take (l.length * 1))[j]? = (bvs l)[j]? := by rw [htk]
    rw [List.getElem?_take, if_pos (by omega)] at h1
    have h2 : (bvs l)[j]? = some (.int .u8 (l[j].toNat : Int)) := by simp [bvs, hj]
    rw [h2] at h1
    simpa using h1
theorem bvs_take (l : List UInt8) (k : Nat) (h : k < l.length) : bvs (l.take (k + 1)) = bvs (l.take k) ++ [.int .u8 ((l.getD k 0).toNat : Int)] := by
  have e : l.getD k 0 = l[k] := by simp [h]
  rw [List.take_succ_eq_append_getElem h, e]
  unfold bvs
  rw [List.map_append]
  rfl

set_option maxRecDepth 100000 in
set_option maxHeartbeats 3200000 in
theorem refBytes_any (l : List UInt8) (w : World) (hl : l.length = 32) :
    Calls Try.prog 100 #[hv l] w fun e w' => e = .returned (.string ⟨l.toArray⟩) ∧ Below w.heap.size w w' := by
  obtain ⟨i0, hi, hz0, hz1, hz2⟩ := info_parts info8
  have HL := hide hl
  clear hl
  unfold hv
  go_enter Try.func100, Try.ntmps100
  go_wp2_with fail
  have r0 : Byts (w.alloc (.cells (bvs l).toArray 27)) w.heap.size 27 l := Arr.new w _ _
  have hb := below1 w (.cells (bvs l).toArray 27)
  have hW : w.heap.size + 1 = (w.alloc (.cells (bvs l).toArray 27)).heap.size := by simp
  replace hW := hide hW
  generalize w.alloc (.cells (bvs l).toArray 27) = W at *
  go_loopw [3, 4] (fun b i wr => ∃ k : Nat, k ≤ 32 ∧ i = .int .i64 k ∧ wr.ownsRow (w.heap.size + 1) 5 1 b k (bvs (l.take k)) ∧ Below (w.heap.size + 1) W wr) (fun _ i _ => 32 - (RowKit.intOf i).toNat)
  case atStart => exact ⟨0, by omega, rfl, World.ownsRow_nil _ _ _ _, Below.refl _ _⟩
  case round =>
    obtain ⟨k, hk, rfl, hown, hbr⟩ := hrel
    have hws : w.heap.size + 1 ≤ wr.heap.size := by have := hbr.size; have := hW.out; omega
    by_cases hlt : k < 32
    · have c1 : wr.cell? ⟨w.heap.size, k, none⟩ = some (.int .u8 ((l.getD k 0).toNat : Int)) := (hbr.cell (p := ⟨w.heap.size, k, none⟩) (by simp)).trans (Byts.cell r0 (by rw [HL.out]; omega))
      have HN : Hid (bvs (l.take (k + 1)) = bvs (l.take k) ++ [.int .u8 ((l.getD k 0).toNat : Int)]) := bvs_take l k (by rw [HL.out]; omega)
      generalize (l.getD k 0).toNat = c at *
      have i0' : (k : Int) < 32 := by omega
      go_wp2_with (at_builtin; refine wpList_append_own _ rfl _ _ 63 rfl (w.heap.size + 1) 5 i0 (.int .u8 0) 1 1 Try.underlying63 hi hz0 hz1 hz2 rfl (by decide) _ _ _ rfl (hown.alloc _) ⟨wr.heap.size, 0, none⟩ 1 1 [.int .u8 (c : Int)] rfl rfl ?c1 ?c2 ?c3 ?c4 ?c5 ?_)
      case c1 => exact (cell_one_new _ _ _)
      case c2 => intro u hu; simp at hu; subst hu; rfl
      case c3 => unfold maxLen; omega
      case c4 => omega
      case c5 => simp; omega
      intro v' w1 hown' hgrow _
      have hb1 := hbr.trans (grown_below hown hgrow hws)
      clear hgrow c1
      go_wp2_with fail
      go_roundw
      case rel => exact ⟨k + 1, by omega, by simp, by rw [HN.out]; exact hown', hb1⟩
      case measure => simp [RowKit.intOf]; omega
    · have hk32 : k = 32 := by omega
      subst hk32
      have ht := owns_text (l := l) (by rw [HL.out]; rw [show l.take 32 = l by rw [← HL.out, List.take_length]] at hown; exact hown) (by rw [HL.out]; omega)
      have hbe : Below w.heap.size w wr := hb.trans (hbr.mono (by omega))
      clear hown hbr hb
      go_wp2_with fail
      go_ret
      exact ⟨rfl, hbe⟩
end Go.Proofs.Ytbbfnpfkbbpjgaa

/- mintagelaw03.works answers true. -/
namespace Go.Proofs.Ytbbfnpfkbbpjgaa
open Go.RowKit Go.Lib

end Go.Proofs.Ytbbfnpfkbbpjgaa

/- The law ShaParts: any parts under any tag. -/
namespace Go.Proofs.Ytbbfnpfkbbpjgaa
open Go.RowKit Go.Lib

end Go.Proofs.Ytbbfnpfkbbpjgaa

/- Several texts of this proof in one: Once1, OnceBit, OncePub, OncePublic, OnceTell1, OncePublic2, OnceTells, OnceSign, OnceKey, OnceLaw, OnceCheck, OnceTells2, OnceCheck2, OnceWorks. -/
/- Package once: bit, mark, secret. -/
namespace Go.Proofs.Ytbbfnpfkbbpjgaa
open Go.RowKit Go.Lib

def tagMark : List UInt8 := [109, 97, 114, 107]
def tagSecret : List UInt8 := [115, 101, 99, 114, 101, 116]
/-- A secret's mark; a seed's secret. -/
def markL (s : List UInt8) : List UInt8 := ofX tagMark [s]
def secretL (seed : List UInt8) (i b : Nat) : List UInt8 := ofX tagSecret [seed, [UInt8.ofNat (2 * i + b)]]
end Go.Proofs.Ytbbfnpfkbbpjgaa

/- Package once: a message's bits. -/
namespace Go.Proofs.Ytbbfnpfkbbpjgaa
open Go.RowKit Go.Lib

/-- A message's bit at a place. -/
def bitL (m : List UInt8) (i : Nat) : Nat := (m.getD (i / 8) 0).toNat / 2 ^ (7 - i % 8) % 2
end Go.Proofs.Ytbbfnpfkbbpjgaa

/- Package once: the closure of Public. -/
namespace Go.Proofs.Ytbbfnpfkbbpjgaa
open Go.RowKit Go.Lib

end Go.Proofs.Ytbbfnpfkbbpjgaa

/- Package once: public, by the closure of Public. -/
namespace Go.Proofs.Ytbbfnpfkbbpjgaa
open Go.RowKit Go.Lib

def tagOnce : List UInt8 := [111, 110, 99, 101]
/-- What the marks come to, place by place. -/
def joinM (m : Nat → List UInt8 × List UInt8) (k : Nat) : List UInt8 := (List.range k).flatMap fun i => (m i).1 ++ (m i).2
def onceL (m : Nat → List UInt8 × List UInt8) : List UInt8 := ofX tagOnce [joinM m 16]
theorem builder_more {B b : Nat} {x : List UInt8} {s : List UInt8} {w : World} {all : List UInt8} (h : Lib.BuilderAt 105 5 B b (.pointer (some ⟨b, 0, none⟩)) (Lib.byteCells x ++ Lib.strCells ⟨s.toArray⟩) w) (ha : all = x ++ s) :
    Lib.IsBuilder 105 5 B b (Lib.byteCells all) w := by
  refine Or.inr ?_
  have e : Lib.byteCells all = Lib.byteCells x ++ Lib.strCells ⟨s.toArray⟩ := by rw [ha]; simp [Lib.byteCells, Lib.strCells]
  rw [e]; exact h

-- BEGIN
-- END
end Go.Proofs.Ytbbfnpfkbbpjgaa

/- Package once: the closure of Tells. -/
namespace Go.Proofs.Ytbbfnpfkbbpjgaa
open Go.RowKit Go.Lib

end Go.Proofs.Ytbbfnpfkbbpjgaa

/- Package once: public, by the closure of Tells. -/
namespace Go.Proofs.Ytbbfnpfkbbpjgaa
open Go.RowKit Go.Lib

end Go.Proofs.Ytbbfnpfkbbpjgaa

/- Package once: Tells, Check. -/
namespace Go.Proofs.Ytbbfnpfkbbpjgaa
open Go.RowKit Go.Lib

end Go.Proofs.Ytbbfnpfkbbpjgaa

/- Package once: Sign. -/
namespace Go.Proofs.Ytbbfnpfkbbpjgaa
open Go.RowKit Go.Lib

/-- What a signature tells of a place: the secret of the message's bit, the mark of the other. -/
def signM (seed m : List UInt8) (i : Nat) : List UInt8 × List UInt8 := (secretL seed i (bitL m i), markL (secretL seed i (1 - bitL m i)))
def signL (seed m : List UInt8) : List UInt8 := joinM (signM seed m) 16
end Go.Proofs.Ytbbfnpfkbbpjgaa

/- Package once: Public. -/
namespace Go.Proofs.Ytbbfnpfkbbpjgaa
open Go.RowKit Go.Lib

def seedM (seed : List UInt8) (i : Nat) : List UInt8 × List UInt8 := (markL (secretL seed i 0), markL (secretL seed i 1))
/-- A seed's public key. -/
def publicL (seed : List UInt8) : List UInt8 := onceL (seedM seed)
end Go.Proofs.Ytbbfnpfkbbpjgaa

/- Once, in plain words: a signature tells the public key of the seed that made it. -/
namespace Go.Proofs.Ytbbfnpfkbbpjgaa
open Go.RowKit Go.Lib

end Go.Proofs.Ytbbfnpfkbbpjgaa

/- Package once: Check. -/
namespace Go.Proofs.Ytbbfnpfkbbpjgaa
open Go.RowKit Go.Lib

end Go.Proofs.Ytbbfnpfkbbpjgaa

/- Package once: Tells of a text that has not the length. -/
namespace Go.Proofs.Ytbbfnpfkbbpjgaa
open Go.RowKit Go.Lib

end Go.Proofs.Ytbbfnpfkbbpjgaa

/- Package once: Check of a text that has not the length. -/
namespace Go.Proofs.Ytbbfnpfkbbpjgaa
open Go.RowKit Go.Lib

end Go.Proofs.Ytbbfnpfkbbpjgaa

/- The small things that the laws of layer 5 ask first. -/
namespace Go.Proofs.Ytbbfnpfkbbpjgaa
open Go.RowKit Go.Lib

def one32 : List UInt8 := 1 :: List.replicate 31 0
def two32 : List UInt8 := 2 :: List.replicate 31 0
end Go.Proofs.Ytbbfnpfkbbpjgaa
