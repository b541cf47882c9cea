/- Laws of trees: TreeProves. -/
import Derived.Test.YtikphhhkikdhaaaTreeWorks
import Derived.Test.YtikphhhkikdhaaaRefTree3
import Derived.Test.YtikphhhkikdhaaaHsEq
namespace Go.Proofs.Ytikphhhkikdhaaa
open Go.RowKit Go.Lib
set_option linter.unusedVariables false
set_option linter.unusedSimpArgs false

/-- What Prove hands back, any place. -/
def ProveR (w : World) (l : List H32) (i : Int) (e : Ending) (w' : World) : Prop := ∃ v p n, e = .returned (.tuple #[v, .int .i64 n]) ∧ Hs w' v p ∧ Below w.heap.size w w' ∧ (p, n) = (if 0 ≤ i ∧ i < l.length then (provL l i.toNat, (0 : Int)) else ([], 5))
theorem prove_all (v : Value) (l : List H32) (i : Int) (w : World) (hv0 : Hs w v l) (hm : l.length ≤ 400000) : Calls Try.prog 32 #[v, .int .i64 i] w (ProveR w l i) := by
  by_cases h : 0 ≤ i ∧ i < l.length
  · obtain ⟨k, rfl⟩ := Int.eq_ofNat_of_zero_le h.1
    refine (prove_in v l k w hv0 hm (by omega)).mono ?_
    rintro _ w1 ⟨v1, rfl, h1, h2⟩
    exact ⟨v1, _, 0, rfl, h1, h2, by rw [if_pos h, Int.toNat_natCast]⟩
  · refine (prove_out v l i w hv0 (by omega)).mono ?_
    rintro _ w1 ⟨rfl, h2⟩
    exact ⟨_, [], 5, rfl, Hs.nil _, h2, by rw [if_neg h]⟩
theorem refProve_all (v : Value) (l : List H32) (i : Int) (w : World) (hv0 : Hs w v l) (hm : l.length ≤ 300000) : Calls Try.prog 37 #[v, .int .i64 i] w (ProveR w l i) := by
  by_cases h : 0 ≤ i ∧ i < l.length
  · obtain ⟨k, rfl⟩ := Int.eq_ofNat_of_zero_le h.1
    refine (refProve_in v l k w hv0 hm (by omega)).mono ?_
    rintro _ w1 ⟨v1, rfl, h1, h2⟩
    exact ⟨v1, _, 0, rfl, h1, h2, by rw [if_pos h, Int.toNat_natCast]⟩
  · refine (refProve_out v l i w hv0 (by omega)).mono ?_
    rintro _ w1 ⟨rfl, h2⟩
    exact ⟨_, [], 5, rfl, Hs.nil _, h2, by rw [if_neg h]⟩
set_option maxRecDepth 100000 in
set_option maxHeartbeats 800000 in
theorem treeProves_row (w : World) (v : Value) (l : List H32) (hv0 : Hs w v l) (hn : l.length ≤ 9223372036854775807) (i : Int) (hi : (Lit.int .i64 i).wf = true) :
    Calls Try.prog 15 #[v, .int .i64 i] w fun e w' => e = .returned (.bool true) ∧ Below w.heap.size w w' := by
  obtain ⟨a, cap, rfl, hc1, hc2, hc0⟩ := hv0.shape
  have b := Below.refl w.heap.size w
  by_cases h : l.length ≤ 300
  · have HT : Hid (∀ w, Hs w (.slice a l.length cap) l → Calls Try.prog 32 #[.slice a l.length cap, .int .i64 i] w (ProveR w l i)) := fun w h => prove_all _ l i w h (by omega)
    have HF : Hid (∀ w, Hs w (.slice a l.length cap) l → Calls Try.prog 37 #[.slice a l.length cap, .int .i64 i] w (ProveR w l i)) := fun w h => refProve_all _ l i w h (by omega)
    clear hi
    generalize l.length = n at *
    go_enter Try.func15, Try.ntmps15
    go_wp2_with fail
    refine (HT.out _ hv0).mono ?_
    rintro _ w1 ⟨v1, p1, n1, rfl, hs1, hb1, he1⟩
    have HE1 := hide he1
    clear he1
    replace hv0 := hv0.later hb1
    replace b := later b hb1
    go_wp2_with fail
    refine (HF.out _ hv0).mono ?_
    rintro _ w2 ⟨v2, p2, n2, rfl, hs2, hb2, he2⟩
    have hpn := HE1.out.trans he2.symm
    simp only [Prod.mk.injEq] at hpn
    obtain ⟨rfl, rfl⟩ := hpn
    clear he2 HE1
    replace hs1 := hs1.later hb2
    replace hv0 := hv0.later hb2
    replace b := later b hb2
    go_wp2_with fail
    refine (hsEqual_same _ _ _ _ hs1 hs2).mono ?_
    rintro _ wc1 ⟨rfl, hc1⟩
    replace hv0 := hv0.later hc1
    replace b := later b hc1
    clear hc1
    go_wp2_with fail
    refine (works04 _).mono ?_
    rintro _ wc2 ⟨rfl, hc2⟩
    replace b := later b hc2
    clear hc2
    go_wp2_with fail
    go_ret
    exact ⟨rfl, b⟩
  · clear hi
    generalize l.length = n at *
    go_enter Try.func15, Try.ntmps15
    go_wp2_with fail
    refine (works04 _).mono ?_
    rintro _ wc3 ⟨rfl, hc3⟩
    replace b := later b hc3
    clear hc3
    go_wp2_with fail
    go_ret
    exact ⟨rfl, b⟩
end Go.Proofs.Ytikphhhkikdhaaa
