/- Rows of bytes in a block, and their text. -/
import Derived.Test.YtikphhhkikdhaaaArr
import Derived.Laws.IdiomStrings
namespace Go.Proofs.Ytikphhhkikdhaaa
open Go.RowKit Go.Lib

/-! ### Bytes -/
/-- Bytes as values. -/
def bvs (l : List UInt8) : List Value := l.map fun b => .int .u8 (b.toNat : Int)
theorem bvs_length (l : List UInt8) : (bvs l).length = l.length := by simp [bvs]
theorem bvs_getD (l : List UInt8) (i : Nat) (h : i < l.length) : (bvs l).getD i undef = .int .u8 ((l.getD i 0).toNat : Int) := by simp [bvs, h]
theorem bvs_set (l : List UInt8) (i : Nat) (x : UInt8) : (bvs l).set i (.int .u8 (x.toNat : Int)) = bvs (l.set i x) := by simp [bvs, List.map_set]
theorem bvs_one (l : List UInt8) : (bvs l).all (·.oneCell') = true := by simp only [bvs, List.all_map, List.all_eq_true]; intros; rfl
def Byts (w : World) (b : Nat) (t : TypeId) (l : List UInt8) : Prop := Arr w b t (bvs l)
theorem Byts.cell {w : World} {b : Nat} {t : TypeId} {l : List UInt8} (h : Byts w b t l) {i : Nat} (hi : i < l.length) : w.cell? ⟨b, i, none⟩ = some (.int .u8 ((l.getD i 0).toNat : Int)) := by
  rw [Arr.cell h (by rw [bvs_length]; exact hi), bvs_getD l i hi]
theorem Byts.set {w : World} {b : Nat} {t : TypeId} {l : List UInt8} (h : Byts w b t l) (i : Nat) (x : UInt8) : Byts (w.setCell ⟨b, i, none⟩ (.int .u8 (x.toNat : Int))) b t (l.set i x) := by
  unfold Byts; rw [← bvs_set]; exact Arr.set h i _
/-- The first k bytes of l, then noughts: as many as l has. -/
def bfill (l : List UInt8) (k : Nat) : List UInt8 := l.take k ++ List.replicate (l.length - k) 0
theorem bfill_length (l : List UInt8) (k : Nat) (h : k ≤ l.length) : (bfill l k).length = l.length := by simp [bfill]; omega
theorem bfill_full (l : List UInt8) : bfill l l.length = l := by simp [bfill]
theorem bfill_next (l : List UInt8) (k : Nat) (h : k < l.length) : (bfill l k).set k (l.getD k 0) = bfill l (k + 1) := by
  unfold bfill
  have hk : (l.take k).length = k := by simp; omega
  rw [List.set_append_right _ _ (by omega), hk, Nat.sub_self]
  obtain ⟨m, hm⟩ : ∃ m, l.length - k = m + 1 := ⟨l.length - k - 1, by omega⟩
  rw [hm, List.replicate_succ, List.set_cons_zero, show l.length - (k + 1) = m by omega, List.take_succ_eq_append_getElem h, List.append_assoc, show l.getD k 0 = l[k] by simp [h]]
  rfl
/-- The text of a row's bytes. -/
theorem Byts.text {P : Program} {w : World} {b : Nat} {t : TypeId} {l : List UInt8} (h : Byts w b t l) (src dst e : TypeId) (n cap : Nat) (hn : l.length = n) (hs : P.underlying src = some (.slice e)) (he : P.underlying e = some (.int .u8)) (hd : P.underlying dst = some .string) :
    (convert src dst (.slice (some ⟨b, 0, none⟩) n cap)).run P w = .ok (.string ⟨l.toArray⟩) w := by
  subst hn
  refine run_convert_bytes_back w src dst e ⟨b, 0, none⟩ cap l hs he hd (fun j hj => ?_)
  have hadd : (⟨b, 0, none⟩ : Addr).add j = ⟨b, j, none⟩ := by unfold Addr.add; split <;> simp_all
  rw [hadd, h.cell hj]
  simp [hj]
end Go.Proofs.Ytikphhhkikdhaaa
