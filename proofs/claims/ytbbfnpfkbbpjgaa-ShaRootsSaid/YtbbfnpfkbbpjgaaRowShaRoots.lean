/- The row of ShaRoots: the law returns true for every input; by the walk in YtbbfnpfkbbpjgaaRoots4. No condition. -/
import Derived.Test.YtbbfnpfkbbpjgaaMBase
import Derived.Test.YtbbfnpfkbbpjgaaRoots4
import Derived.Lib.SmallJoins
import Derived.SliceStrings
import Derived.HandedShaped
namespace Go.Proofs.Ytbbfnpfkbbpjgaa.shaRoots
open Go.ChangeShapes Go.WideShapes Go.ChangeAt Go.RowKit Go.WideMaps Go.WideElems
open Go.ChangeMaps (open_string)
set_option linter.unusedVariables false

set_option maxRecDepth 100000 in
theorem lifted (os : Os) (started : os.Started) (H : Type) (enc : TypeId × Value → H) :
    ReturnsInHanded {} Try.checked os 15 .any (Rows.shaRootsSpec.pre6 enc Try.prog Try.f15 Rows.shaRootsRow.domain false) (Rows.shaRootsSpec.post enc Try.prog Try.f15 false true false false) := by
  refine returnsInHanded_of_change_shaped (C := Try.checked) ownsKnob started (by kernel_rfl) Try.func15
    (ChangeSpec.witness6 (enc := enc) (C := Try.checked) false ⟨#[], #[], []⟩ 8 (by kernel_rfl) (by kernel_rfl) (by kernel_rfl) (by kernel_rfl)) ?_
  intro W base args ds gs before hval0 hW hcnd _ hsh _
  obtain ⟨m0, hm0⟩ := Try.laysM144.s1_3 W hsh
  have hval : ∀ (j : Nat) t v, Try.f15.params[j]? = some t → args[j]? = some v → Value.okWide Try.prog W .any base t v := hval0
  have hW' := hW
  obtain ⟨p, q, hA0, hV, rfl, hfz, hnd⟩ := hW
  have hA : DataW.TrodAll enc Try.prog W 0 (fun _ => true) true Try.f15.params.toList args.toList ds p := hA0
  rw [Try.params15] at hA hval
  obtain ⟨rfl, rfl, rfl⟩ := trodAll_none hA
  obtain ⟨rfl, rfl⟩ := trodVars_none hV
  refine (shaRoots_any W m0 hm0).mono fun e W' ⟨he, hb⟩ => ?_
  subst he
  exact ⟨_, rfl, law_post isLaidOut (by kernel_rfl) (by kernel_rfl) Try.underlying4 rfl hW' hb ⟨rfl, rfl, rfl⟩⟩

theorem over : Rows.shaRootsRow.holds Try.pinned (OpenSpec.ofChange Rows.shaRootsSpec) :=
  OpenClaim.holds_of_wide 15 Try.f15 rfl rfl rfl rfl rfl rfl rfl ⟨rfl, rfl, rfl, rfl, rfl⟩ rfl rfl rfl rfl rfl (by kernel_rfl) Try.func15 (by kernel_rfl)
    (of_decide_eq_true (by kernel_rfl)) (by unfold Func.isWrapper; first | (rw [if_pos (by decide +kernel)]; kernel_rfl) | (rw [if_neg (by decide +kernel)]; exact ⟨rfl, rfl⟩))
    (fun os started H enc _ => lifted os started H enc)

theorem proved : Rows.ShaRootsSaid :=
  over
#print axioms proved
end Go.Proofs.Ytbbfnpfkbbpjgaa.shaRoots
