/- The row of OriginKnown: the law returns true for every input; by the walk in YtbbfnpfkbbpjgaaOriginKnown. No condition. -/
import Derived.Test.YtbbfnpfkbbpjgaaOAMBase
import Derived.Test.YtbbfnpfkbbpjgaaOAEvoL
import Derived.Lib.SmallJoins
import Derived.SliceStrings
import Derived.Test.YtbbfnpfkbbpjgaaOADig8
import Derived.Test.YtbbfnpfkbbpjgaaOAElIn
import Derived.Test.YtbbfnpfkbbpjgaaOAHdAt
import Derived.Test.YtbbfnpfkbbpjgaaOAOrigM
import Derived.Test.YtbbfnpfkbbpjgaaOAMRef
import Derived.Test.YtbbfnpfkbbpjgaaOAMCells
import Derived.Test.YtbbfnpfkbbpjgaaOAStep
import Derived.Test.YtbbfnpfkbbpjgaaOAMOnce
namespace Go.Proofs.Ytbbfnpfkbbpjgaa.originKnown
open Go.ChangeShapes Go.WideShapes Go.ChangeAt Go.RowKit Go.WideMaps Go.WideElems
open Go.ChangeMaps (open_string)
set_option linter.unusedVariables false

set_option maxRecDepth 100000 in
theorem lifted (os : Os) (started : os.Started) (H : Type) (enc : TypeId × Value → H) :
    ReturnsInHanded {} Try.checked os 5 .any (Rows.originKnownSpec.pre6 enc Try.prog Try.f5 Rows.originKnownRow.domain false) (Rows.originKnownSpec.post enc Try.prog Try.f5 false true false false) := by
  refine returnsInHanded_of_change (C := Try.checked) ownsKnob started (by kernel_rfl) Try.func5
    (ChangeSpec.witness6 (enc := enc) (C := Try.checked) false ⟨#[], #[], []⟩ 8 (by kernel_rfl) (by kernel_rfl) (by kernel_rfl) (by kernel_rfl)) ?_
  intro W base args ds gs before hval0 hW hcnd _
  have hval : ∀ (j : Nat) t v, Try.f5.params[j]? = some t → args[j]? = some v → Value.okWide Try.prog W .any base t v := hval0
  have hW' := hW
  obtain ⟨p, q, hA0, hV, rfl, hfz, hnd⟩ := hW
  have hA : DataW.TrodAll enc Try.prog W 0 (fun _ => true) true Try.f5.params.toList args.toList ds p := hA0
  rw [Try.params5] at hA hval
  obtain ⟨rfl, rfl, rfl⟩ := trodAll_none hA
  obtain ⟨rfl, rfl⟩ := trodVars_none hV
  refine (originKnown_any  W).mono fun e W' ⟨he, hb⟩ => ?_
  subst he
  exact ⟨_, rfl, law_post isLaidOut (by kernel_rfl) (by kernel_rfl) Try.underlying4 rfl hW' hb ⟨rfl, rfl, rfl⟩⟩

theorem over : Rows.originKnownRow.holds Try.pinned (OpenSpec.ofChange Rows.originKnownSpec) :=
  OpenClaim.holds_of_wide 5 Try.f5 rfl rfl rfl rfl rfl rfl rfl ⟨rfl, rfl, rfl, rfl, rfl⟩ rfl rfl rfl rfl rfl (by kernel_rfl) Try.func5 (by kernel_rfl)
    (of_decide_eq_true (by kernel_rfl)) (by unfold Func.isWrapper; first | (rw [if_pos (by decide +kernel)]; kernel_rfl) | (rw [if_neg (by decide +kernel)]; exact ⟨rfl, rfl⟩))
    (fun os started H enc _ => lifted os started H enc)

theorem proved : Rows.OriginKnownSaid :=
  over
#print axioms proved
end Go.Proofs.Ytbbfnpfkbbpjgaa.originKnown

/- Package origin: Coin; the reference's. -/
namespace Go.Proofs.Ytbbfnpfkbbpjgaa
open Go.RowKit Go.Lib
set_option linter.unusedVariables false
set_option linter.unusedSimpArgs false

def tagCoin : List UInt8 := [99, 111, 105, 110]
def coinIn (id : List UInt8) (n : Nat) : InT := ⟨ofX tagCoin [id, eightL n], 0⟩
theorem coinIn_ok (id : List UInt8) (n : Nat) : (coinIn id n).Ok := ⟨ofX_length _ _, by show U64 0; decide⟩
theorem inBuilt1 (l : List UInt8) (h : l.length = 32) : Try.prog.built 60 [(0, hv l)] = some (inCs ⟨l, 0⟩).toArray := by
  obtain ⟨x0, x1, x2, x3, x4, x5, x6, x7, x8, x9, x10, x11, x12, x13, x14, x15, x16, x17, x18, x19, x20, x21, x22, x23, x24, x25, x26, x27, x28, x29, x30, x31, rfl⟩ := hash_bytes h
  kernel_rfl
set_option maxRecDepth 100000 in
set_option maxHeartbeats 1600000 in
theorem coin_any (id : List UInt8) (i : Int) (n : Nat) (w : World) (hid : id.length = 32) (hn : IntKind.u64.wrap i = (n : Int)) (h64 : U64 n) :
    Calls Try.prog 40 #[hv id, .int .i64 i] w fun e w' => e = .returned (inV (coinIn id n)) ∧ Below w.heap.size w w' := by
  have HB := hide (fun w => bytes_any id w hid)
  have HE := hide (fun w => digEight_any n w h64)
  have HO : Hid (∀ w, Calls Try.prog 108 #[.string ⟨#[99, 111, 105, 110]⟩, .slice (some ⟨w.heap.size, 0, none⟩) 2 2] (w.alloc (.cells #[.string ⟨id.toArray⟩, .string ⟨(eightL n).toArray⟩] 9)) fun e w' => e = .returned (hv (ofX tagCoin [id, eightL n])) ∧ Below w.heap.size w w') := fun w => of2 tagCoin id (eightL n) w (by decide) (by omega) (by rw [eightL_length]; decide)
  have HL := hide (ofX_length tagCoin [id, eightL n])
  have HID := hide hid
  unfold coinIn
  have b := Below.refl w.heap.size w
  clear hid h64
  generalize ofX tagCoin [id, eightL n] = R at *
  generalize (⟨id.toArray⟩ : ByteArray) = sa at *
  generalize (⟨(eightL n).toArray⟩ : ByteArray) = sb at *
  go_enter Try.func40, Try.ntmps40
  go_wp2_with (first | (with_reducible show wpList _ _ _ (⟨_, Op.box _ _, _, _, _, _⟩ :: _) _ _; refine wpl_box_hash rfl _ rfl rfl HID.out ?_; intro _ g1 hg1 F1 hb; (try replace F1 := F1.later hb); (try replace F2 := F2.later hb); (try replace F3 := F3.later hb); (try replace F4 := F4.later hb); (try replace F5 := F5.later hb); (try replace F6 := F6.later hb); (try replace F7 := F7.later hb); (try replace F8 := F8.later hb); (try replace F9 := F9.later hb); (try replace G1 := G1.later hb); (try replace G2 := G2.later hb); (try replace G3 := G3.later hb); (try replace z := z.later hb); (try replace b := later b hb); (try replace bB := mixed hB bB hb); clear hb) | (with_reducible show wpList _ _ _ (⟨_, Op.alloc _, _, _, _, _⟩ :: _) _ _; refine wpl_mk_in rfl rfl ?_; have qb := b.size; intro _ g2 hg2 F2 hb; (try replace F1 := F1.later hb); (try replace F2 := F2.later hb); (try replace F3 := F3.later hb); (try replace F4 := F4.later hb); (try replace F5 := F5.later hb); (try replace F6 := F6.later hb); (try replace F7 := F7.later hb); (try replace F8 := F8.later hb); (try replace F9 := F9.later hb); (try replace G1 := G1.later hb); (try replace G2 := G2.later hb); (try replace G3 := G3.later hb); (try replace z := z.later hb); (try replace b := later b hb); (try replace bB := mixed hB bB hb); clear hb) | (with_reducible show wpList _ _ _ (⟨_, Op.load _ _, _, _, _, _⟩ :: _) _ _; refine wpl_load_hash rfl _ rfl rfl (by assumption) ?_) | (go_at_call 65; refine (HB.out _).mono ?_; rintro _ _ ⟨rfl, hc⟩; (try replace F1 := F1.later hc); (try replace F2 := F2.later hc); (try replace F3 := F3.later hc); (try replace F4 := F4.later hc); (try replace F5 := F5.later hc); (try replace F6 := F6.later hc); (try replace F7 := F7.later hc); (try replace F8 := F8.later hc); (try replace F9 := F9.later hc); (try replace G1 := G1.later hc); (try replace G2 := G2.later hc); (try replace G3 := G3.later hc); (try replace z := z.later hc); (try replace b := later b hc); (try replace bB := mixed hB bB hc); clear hc) | (go_at_call 94; refine (HE.out _).mono ?_; rintro _ _ ⟨rfl, hc⟩; (try replace F1 := F1.later hc); (try replace F2 := F2.later hc); (try replace F3 := F3.later hc); (try replace F4 := F4.later hc); (try replace F5 := F5.later hc); (try replace F6 := F6.later hc); (try replace F7 := F7.later hc); (try replace F8 := F8.later hc); (try replace F9 := F9.later hc); (try replace G1 := G1.later hc); (try replace G2 := G2.later hc); (try replace G3 := G3.later hc); (try replace z := z.later hc); (try replace b := later b hc); (try replace bB := mixed hB bB hc); clear hc) | (go_at_call 108; refine (HO.out _).mono ?_; rintro _ _ ⟨rfl, hc⟩; (try replace F1 := F1.later hc); (try replace F2 := F2.later hc); (try replace F3 := F3.later hc); (try replace F4 := F4.later hc); (try replace F5 := F5.later hc); (try replace F6 := F6.later hc); (try replace F7 := F7.later hc); (try replace F8 := F8.later hc); (try replace F9 := F9.later hc); (try replace G1 := G1.later hc); (try replace G2 := G2.later hc); (try replace G3 := G3.later hc); (try replace z := z.later hc); (try replace b := later b hc); (try replace bB := mixed hB bB hc); clear hc) | ((with_reducible show wpList _ _ _ (⟨_, Op.build 60 _, _, _, _, _⟩ :: _) _ _); refine wpl_built1 rfl 60 _ rfl rfl (inBuilt1 _ HL.out) ?_) | ((with_reducible show wpList _ _ _ (⟨_, Op.store 60 _ _, _, _, _, _⟩ :: _) _ _); refine wpl_set_in rfl _ _ rfl rfl (d := ⟨R, 0⟩) rfl ⟨HL.out, by show U64 0; decide⟩ F2 ?_; intro _ t1 ht1; clear F2; replace b := below_touch b ht1 (by omega) (Nat.le_refl _); have F2 := t1; clear t1 ht1))
  exact bodyPost_ret (ret_in rfl _ _ rfl F2) rfl ⟨rfl, b⟩
set_option maxRecDepth 100000 in
set_option maxHeartbeats 1600000 in
theorem refCoin_any (id : List UInt8) (i : Int) (n : Nat) (w : World) (hid : id.length = 32) (hn : IntKind.u64.wrap i = (n : Int)) (h64 : U64 n) :
    Calls Try.prog 41 #[hv id, .int .i64 i] w fun e w' => e = .returned (inV (coinIn id n)) ∧ Below w.heap.size w w' := by
  have HB := hide (fun w => refBytes_any id w hid)
  have HE := hide (fun w => refEight_any n w h64)
  have HO : Hid (∀ w, Calls Try.prog 109 #[.string ⟨#[99, 111, 105, 110]⟩, .string ⟨id.toArray⟩, .string ⟨(eightL n).toArray⟩] w fun e w' => e = .returned (hv (ofX tagCoin [id, eightL n])) ∧ Below w.heap.size w w') := fun w => refTwo_any tagCoin id (eightL n) w (by decide) (by omega) (by rw [eightL_length]; decide)
  have HL := hide (ofX_length tagCoin [id, eightL n])
  have HID := hide hid
  unfold coinIn
  have b := Below.refl w.heap.size w
  clear hid h64
  generalize ofX tagCoin [id, eightL n] = R at *
  generalize (⟨id.toArray⟩ : ByteArray) = sa at *
  generalize (⟨(eightL n).toArray⟩ : ByteArray) = sb at *
  go_enter Try.func41, Try.ntmps41
  go_wp2_with (first | (with_reducible show wpList _ _ _ (⟨_, Op.box _ _, _, _, _, _⟩ :: _) _ _; refine wpl_box_hash rfl _ rfl rfl HID.out ?_; intro _ g1 hg1 F1 hb; (try replace F1 := F1.later hb); (try replace F2 := F2.later hb); (try replace F3 := F3.later hb); (try replace F4 := F4.later hb); (try replace F5 := F5.later hb); (try replace F6 := F6.later hb); (try replace F7 := F7.later hb); (try replace F8 := F8.later hb); (try replace F9 := F9.later hb); (try replace G1 := G1.later hb); (try replace G2 := G2.later hb); (try replace G3 := G3.later hb); (try replace z := z.later hb); (try replace b := later b hb); (try replace bB := mixed hB bB hb); clear hb) | (with_reducible show wpList _ _ _ (⟨_, Op.alloc _, _, _, _, _⟩ :: _) _ _; refine wpl_mk_in rfl rfl ?_; have qb := b.size; intro _ g2 hg2 F2 hb; (try replace F1 := F1.later hb); (try replace F2 := F2.later hb); (try replace F3 := F3.later hb); (try replace F4 := F4.later hb); (try replace F5 := F5.later hb); (try replace F6 := F6.later hb); (try replace F7 := F7.later hb); (try replace F8 := F8.later hb); (try replace F9 := F9.later hb); (try replace G1 := G1.later hb); (try replace G2 := G2.later hb); (try replace G3 := G3.later hb); (try replace z := z.later hb); (try replace b := later b hb); (try replace bB := mixed hB bB hb); clear hb) | (with_reducible show wpList _ _ _ (⟨_, Op.load _ _, _, _, _, _⟩ :: _) _ _; refine wpl_load_hash rfl _ rfl rfl (by assumption) ?_) | (go_at_call 100; refine (HB.out _).mono ?_; rintro _ _ ⟨rfl, hc⟩; (try replace F1 := F1.later hc); (try replace F2 := F2.later hc); (try replace F3 := F3.later hc); (try replace F4 := F4.later hc); (try replace F5 := F5.later hc); (try replace F6 := F6.later hc); (try replace F7 := F7.later hc); (try replace F8 := F8.later hc); (try replace F9 := F9.later hc); (try replace G1 := G1.later hc); (try replace G2 := G2.later hc); (try replace G3 := G3.later hc); (try replace z := z.later hc); (try replace b := later b hc); (try replace bB := mixed hB bB hc); clear hc) | (go_at_call 101; refine (HE.out _).mono ?_; rintro _ _ ⟨rfl, hc⟩; (try replace F1 := F1.later hc); (try replace F2 := F2.later hc); (try replace F3 := F3.later hc); (try replace F4 := F4.later hc); (try replace F5 := F5.later hc); (try replace F6 := F6.later hc); (try replace F7 := F7.later hc); (try replace F8 := F8.later hc); (try replace F9 := F9.later hc); (try replace G1 := G1.later hc); (try replace G2 := G2.later hc); (try replace G3 := G3.later hc); (try replace z := z.later hc); (try replace b := later b hc); (try replace bB := mixed hB bB hc); clear hc) | (go_at_call 109; refine (HO.out _).mono ?_; rintro _ _ ⟨rfl, hc⟩; (try replace F1 := F1.later hc); (try replace F2 := F2.later hc); (try replace F3 := F3.later hc); (try replace F4 := F4.later hc); (try replace F5 := F5.later hc); (try replace F6 := F6.later hc); (try replace F7 := F7.later hc); (try replace F8 := F8.later hc); (try replace F9 := F9.later hc); (try replace G1 := G1.later hc); (try replace G2 := G2.later hc); (try replace G3 := G3.later hc); (try replace z := z.later hc); (try replace b := later b hc); (try replace bB := mixed hB bB hc); clear hc) | ((with_reducible show wpList _ _ _ (⟨_, Op.build 60 _, _, _, _, _⟩ :: _) _ _); refine wpl_built1 rfl 60 _ rfl rfl (inBuilt1 _ HL.out) ?_) | ((with_reducible show wpList _ _ _ (⟨_, Op.store 60 _ _, _, _, _, _⟩ :: _) _ _); refine wpl_set_in rfl _ _ rfl rfl (d := ⟨R, 0⟩) rfl ⟨HL.out, by show U64 0; decide⟩ F2 ?_; intro _ t1 ht1; clear F2; replace b := below_touch b ht1 (by omega) (Nat.le_refl _); have F2 := t1; clear t1 ht1))
  exact bodyPost_ret (ret_in rfl _ _ rfl F2) rfl ⟨rfl, b⟩
end Go.Proofs.Ytbbfnpfkbbpjgaa

/- Package head: joined, signed, text, Put, Id. -/
namespace Go.Proofs.Ytbbfnpfkbbpjgaa
open Go.RowKit Go.Lib
set_option linter.unusedVariables false
set_option linter.unusedSimpArgs false

/-- What is signed of a head. -/
def signedL (d : Hd) : List UInt8 := eightL d.slot ++ (eightL d.number ++ (d.prev ++ (d.pool ++ (d.body ++ (eightL d.size ++ (eightL d.many ++ (d.right.hot ++ (eightL d.right.counter ++ (eightL d.right.start ++ d.right.sig.data.toList)))))))))
def tagSign : List UInt8 := [115, 105, 103, 110]
/-- The text that is signed of a head. -/
def textL (d : Hd) : List UInt8 := ofX tagSign [signedL d]
end Go.Proofs.Ytbbfnpfkbbpjgaa

/- Package head: Id, Seal, Sealed. -/
namespace Go.Proofs.Ytbbfnpfkbbpjgaa
open Go.RowKit Go.Lib
set_option linter.unusedVariables false
set_option linter.unusedSimpArgs false

/-- How a head is sealed. -/
def sealH (d : Hd) (k : Evo) : Hd × Int := if d.right.sig.size = 1024 ∧ k.d = 3 ∧ mayE k = true then ({ d with sig := ⟨(sigK k (textL d)).toArray⟩ }, 0) else (hd0, 2)
end Go.Proofs.Ytbbfnpfkbbpjgaa

/- The reference of layer 6: Over, May, Public. -/
namespace Go.Proofs.Ytbbfnpfkbbpjgaa
open Go.RowKit Go.Lib
set_option linter.unusedVariables false
set_option linter.unusedSimpArgs false

theorem Sl.st {w : World} {v : Value} {sz : Nat} {els : List (List Value)} (h : Sl w v sz els) : Stab (fun w => Sl w v sz els) w.heap.size w := Stab.of (fun _ _ h hb => Sl.later h hb) h
end Go.Proofs.Ytbbfnpfkbbpjgaa

/- The reference of layer 6: Key. -/
namespace Go.Proofs.Ytbbfnpfkbbpjgaa
open Go.RowKit Go.Lib
set_option linter.unusedVariables false
set_option linter.unusedSimpArgs false

/-- The rest of the way to period p: n rows of d. -/
def keyF (d p : Nat) : Nat → List UInt8 → List (List UInt8) × List (List UInt8) × List UInt8
  | 0, s => ([], [], s)
  | n + 1, s => if wayB d p (d - (n + 1)) then (zero32 :: (keyF d p n (rightL s)).1, pubE n (leftL s) :: (keyF d p n (rightL s)).2.1, (keyF d p n (rightL s)).2.2)
      else (rightL s :: (keyF d p n (leftL s)).1, pubE n (rightL s) :: (keyF d p n (leftL s)).2.1, (keyF d p n (leftL s)).2.2)
def keyE (d p : Nat) (s : List UInt8) : Evo := ⟨d, p, (keyF d p d s).2.2, (keyF d p d s).1, (keyF d p d s).2.1⟩
end Go.Proofs.Ytbbfnpfkbbpjgaa

/- Keys that forget: the plain laws of signing and checking, and of the way from key to key. No walk in sight. -/
namespace Go.Proofs.Ytbbfnpfkbbpjgaa
open Go.RowKit Go.Lib
set_option linter.unusedVariables false
set_option linter.unusedSimpArgs false

theorem toList_extract (l : List UInt8) (i j : Nat) : ((⟨l.toArray⟩ : ByteArray).extract i j).data.toList = (l.drop i).take (j - i) := by
  simp
/-- A key's lists are lists of hashes. -/
def Whole (k : Evo) : Prop := k.leaf.length = 32 ∧ (∀ x ∈ k.right, x.length = 32) ∧ ∀ x ∈ k.side, x.length = 32
end Go.Proofs.Ytbbfnpfkbbpjgaa

/- The small things that the laws of layer 14 ask first: a sealed head. -/
namespace Go.Proofs.Ytbbfnpfkbbpjgaa
open Go.RowKit Go.Lib
set_option linter.unusedVariables false
set_option linter.unusedSimpArgs false

/-- The sealed head of the law, and what it is made of. -/
def p14 : List UInt8 := pubE 3 one32
def r14 : Rt := grantR two32 p14 0 3
def h14 : Hd := ⟨5, 0, zero32, zero32, zero32, 0, 0, r14, ByteArray.empty⟩
def s14 : Hd := (sealH h14 (keyE 3 0 one32)).1
end Go.Proofs.Ytbbfnpfkbbpjgaa

/- Laws of layer 14: what is gone through. -/
namespace Go.Proofs.Ytbbfnpfkbbpjgaa
open Go.RowKit Go.Lib
set_option linter.unusedVariables false
set_option linter.unusedSimpArgs false

theorem wf_u64 {x : Int} (h : (Lit.int .u64 x).wf = true) : 0 ≤ x ∧ x < 18446744073709551616 := by
  have : 0 ≤ x ∧ x ≤ 18446744073709551615 := by simpa [Lit.wf, IntKind.min, IntKind.max, IntKind.signed, IntKind.bits] using h
  omega
end Go.Proofs.Ytbbfnpfkbbpjgaa

/- OriginParams: any place, any number, any coin's spot. -/
namespace Go.Proofs.Ytbbfnpfkbbpjgaa
open Go.RowKit Go.Lib
set_option linter.unusedVariables false
set_option linter.unusedSimpArgs false

theorem sameIn_self (x : InT) : sameIn x x = true := by unfold sameIn; simp
set_option maxRecDepth 100000 in
set_option maxHeartbeats 1600000 in
theorem originParams_any (x : Int) (hx : (Lit.int .u64 x).wf = true) (y : Int) (hy : (Lit.int .u64 y).wf = true) (l : List UInt8) (hl : l.length = 32) (i : Int) (hi : (Lit.int .i64 i).wf = true) (w : World) :
    Calls Try.prog 12 #[.int .u64 x, .int .u64 y, hv l, .int .i64 i] w fun e w' => e = .returned (.bool true) ∧ Below w.heap.size w w' := by
  obtain ⟨p, rfl⟩ : ∃ p : Nat, x = p := ⟨x.toNat, by have := wf_u64 hx; omega⟩
  obtain ⟨q, rfl⟩ : ∃ q : Nat, y = q := ⟨y.toNat, by have := wf_u64 hy; omega⟩
  obtain ⟨n, hn⟩ : ∃ n : Nat, IntKind.u64.wrap i = (n : Int) := ⟨(IntKind.u64.wrap i).toNat, by rw [IntKind.wrap_u64]; omega⟩
  have h64 : U64 n := by unfold U64; rw [IntKind.wrap_u64] at hn; omega
  have HP := hide (fun w => param_any p q w)
  have HR := hide (fun w => refParam_any p q w)
  have HC := hide (fun w => coin_any l i n w hl hn h64)
  have HD := hide (fun w => refCoin_any l i n w hl hn h64)
  have HOK := hide (coinIn_ok l n)
  have HW := hide works16
  have HSS := hide (sameIn_self (coinIn l n))
  have HLL := hide hl
  have b := Below.refl w.heap.size w
  clear hx hy hi hn h64 hl
  generalize parE p q = E at *
  generalize coinIn l n = C at *
  go_enter Try.func12, Try.ntmps12
  go_wp2_with (first | (with_reducible show wpList _ _ _ (⟨_, Op.box _ _, _, _, _, _⟩ :: _) _ _; refine wpl_box_hash rfl _ rfl rfl HLL.out ?_; intro _ g1 hg1 F1 hb; (try replace F1 := F1.later hb); (try replace F2 := F2.later hb); (try replace F3 := F3.later hb); (try replace F4 := F4.later hb); (try replace F5 := F5.later hb); (try replace F6 := F6.later hb); (try replace F7 := F7.later hb); (try replace F8 := F8.later hb); (try replace F9 := F9.later hb); (try replace G1 := G1.later hb); (try replace G2 := G2.later hb); (try replace G3 := G3.later hb); (try replace z := z.later hb); (try replace b := later b hb); (try replace bB := mixed hB bB hb); clear hb) | (with_reducible show Code.wp _ (Code.region _ _ true) _ _ _; (try simp only [Act.put, List.setIfInBounds_toArray, List.set_cons_succ, List.set_cons_zero]); fail))
  (try simp only [Act.put, List.setIfInBounds_toArray, List.set_cons_succ, List.set_cons_zero])
  refine region_since (by kernel_rfl) (by kernel_rfl) ?_
  repeat (first | go_big_quiet_skip | (go_big_quiet_want; first | ((with_reducible show Oper.quiet _ ⟨_, Op.load _ _, _, _, _, _⟩ _ _ _); (refine since_load_elem _ rfl rfl (Cells.arr F1.2) HLL.out ?_; simp only [Act.put, List.setIfInBounds_toArray, List.set_cons_succ, List.set_cons_zero]; go_big_quiet_on)) | ((with_reducible show Oper.quiet _ ⟨_, Op.binOp BinOp.eql 60 _ _ _, _, _, _, _⟩ _ _ _); refine quiet_eq_in _ _ rfl rfl rfl HOK.out HOK.out ?_; rw [HSS.out]; simp only [Act.put, List.setIfInBounds_toArray, List.set_cons_succ, List.set_cons_zero]; go_big_quiet_on) | (go_big_quiet_op; first | go_big_quiet_on | (refine ⟨_, fun _ => since_of (HP.out _), ?_⟩; go_big_quiet_on) | (refine ⟨_, fun _ => since_of (HR.out _), ?_⟩; go_big_quiet_on) | (refine ⟨_, fun _ => since_of (HC.out _), ?_⟩; go_big_quiet_on) | (refine ⟨_, fun _ => since_of (HD.out _), ?_⟩; go_big_quiet_on) | (refine ⟨_, fun _ => since_of (HW.out _), ?_⟩; go_big_quiet_on))))
  refine wpQuiet_nil ?_
  intro _ hq
  replace b := later b hq
  clear hq
  go_wp2_with fail
  go_ret
  exact ⟨rfl, b⟩
end Go.Proofs.Ytbbfnpfkbbpjgaa
