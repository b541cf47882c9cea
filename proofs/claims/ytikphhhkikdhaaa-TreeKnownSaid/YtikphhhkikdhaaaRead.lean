/- sha.Read as a contract. -/
import Derived.Test.YtikphhhkikdhaaaHex
import Derived.Lib.Bytealg
namespace Go.Proofs.Ytikphhhkikdhaaa
open Go.RowKit Go.Lib

def digV (c : UInt8) : Int := Lib.indexByte [48, 49, 50, 51, 52, 53, 54, 55, 56, 57, 97, 98, 99, 100, 101, 102] c
theorem digV_range (c : UInt8) : -1 ≤ digV c ∧ digV c < 16 := by
  have : ∀ n : Fin 256, -1 ≤ digV (UInt8.ofNat n.1) ∧ digV (UInt8.ofNat n.1) < 16 := by decide +kernel
  have h := this ⟨c.toNat, c.toNat_lt⟩
  simpa using h
/-- One digit more. -/
def rd (s : List UInt8) : Nat → List UInt8
  | 0 => zero32
  | i + 1 => (rd s i).set (i / 2) (UInt8.ofNat ((((rd s i).getD (i / 2) 0).toNat * 16 + (digV (s.getD i 0)).toNat) % 256))
theorem rd_length (s : List UInt8) (i : Nat) : (rd s i).length = 32 := by
  induction i with
  | zero => simp [rd, zero32]
  | succ i ih => simp [rd, ih]
def readL (s : List UInt8) : List UInt8 × Int :=
  if s.length = 64 ∧ s.all (fun c => decide (0 ≤ digV c)) = true then (rd s 64, 0) else (zero32, 2)

theorem results_row_tmp {P : Program} {fn : Func} {p u : Tmp} {ty : TypeId} (h : fn.results = #[.cell p ty, .tmp u]) (tmps : Array Value) (w : World) (g : Nat) (t : TypeId) (cs : Array Value) (fr : Nat × Nat) (d : TypeDesc) (v : Value)
    (hp : tmps.getD p undef = .pointer (some ⟨g, 0, none⟩)) (hv : tmps.getD u undef = v) (hg : w.heap[g]? = some (.cells cs t fr))
    (hu : P.underlying ty = some d) (hd : (match d with | .struct _ | .array _ _ => true | _ => false) = true) (hi : (P.info? ty).map (·.size) = some cs.size) :
    (results fn tmps).run P w = .ok (.tuple #[.agg cs, v]) w := by
  rw [results_cell_tmp h, hp, hv]
  simp [asAddr, run_loadVar_row w g t ty cs fr d hg hu hd hi]

theorem byte_at (s : ByteArray) (p : Nat) (h : p < s.size) : ((s[p]'h).toNat : Int) = ((s.data.toList.getD p 0).toNat : Int) := by
  have hl : p < s.data.toList.length := by simpa using h
  rw [List.getD_eq_getElem?_getD, List.getElem?_eq_getElem hl, Option.getD_some]
  have e : s.data.toList[p] = s[p] := by simp; rfl
  rw [e]
theorem or16 (a k : Nat) (hk : k < 16) : bits .or .u8 ((a : Int) * 16 % 256) (k : Int) = (((a * 16 + k) % 256 : Nat) : Int) := by
  have e : ((a : Int) * 16 % 256) = ((a * 16 % 256 : Nat) : Int) := by omega
  rw [e, u8_or_nat _ _ (by omega) (by omega)]
  have h : (a * 16 % 256) ||| k = a * 16 % 256 + k := by
    have : a * 16 % 256 = (a % 16) <<< 4 := by rw [Nat.shiftLeft_eq]; omega
    rw [this, ← Nat.shiftLeft_add_eq_or_of_lt (by omega : k < 2 ^ 4)]
  rw [h]
  congr 1
  omega

end Go.Proofs.Ytikphhhkikdhaaa
