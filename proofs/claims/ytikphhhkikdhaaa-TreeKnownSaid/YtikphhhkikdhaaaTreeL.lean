/- Trees of hashes, in plain words: rows, the top, proofs, and what a proof comes to. -/
import Derived.Test.YtikphhhkikdhaaaOfs
namespace Go.Proofs.Ytikphhhkikdhaaa

abbrev H32 := List UInt8
def tagLeaf : H32 := [108, 101, 97, 102]
def tagPair : H32 := [112, 97, 105, 114]
def tagRoot : H32 := [114, 111, 111, 116]
def tagNone : H32 := [110, 111, 110, 101]
def leafL (h : H32) : H32 := ofX tagLeaf [h]
def pairL (a b : H32) : H32 := ofX tagPair [a, b]
def noneL : H32 := ofX tagNone []
theorem leafL_length (h : H32) : (leafL h).length = 32 := ofX_length _ _
theorem pairL_length (a b : H32) : (pairL a b).length = 32 := ofX_length _ _
theorem noneL_length : noneL.length = 32 := ofX_length _ _
/-- The row above. -/
def upL : List H32 → List H32
  | a :: b :: r => pairL a b :: upL r
  | l => l
theorem upL_length : ∀ l, (upL l).length = (l.length + 1) / 2
  | [] => rfl
  | [_] => by simp [upL]
  | a :: b :: r => by
    rw [upL, List.length_cons, upL_length r, List.length_cons, List.length_cons]
    omega
theorem upL_32 : ∀ l, (∀ h ∈ l, h.length = 32) → ∀ h ∈ upL l, h.length = 32
  | [], _, h, hh => by simp [upL] at hh
  | [a], hl, h, hh => hl h (by simpa [upL] using hh)
  | a :: b :: r, hl, h, hh => by
    rw [upL, List.mem_cons] at hh
    rcases hh with rfl | hh
    · exact pairL_length _ _
    · exact upL_32 r (fun x hx => hl x (by simp [hx])) h hh
theorem upL_get : ∀ (l : List H32) (k : Nat), 2 * k < l.length → (upL l).getD k [] = if 2 * k + 1 < l.length then pairL (l.getD (2 * k) []) (l.getD (2 * k + 1) []) else l.getD (2 * k) []
  | [], k, h => by simp at h
  | [a], k, h => by
    have : k = 0 := by simp at h; omega
    subst this
    simp [upL]
  | a :: b :: r, 0, _ => by simp [upL]
  | a :: b :: r, k + 1, h => by
    have := upL_get r k (by simp at h; omega)
    rw [upL, List.getD_cons_succ, this]
    have e : 2 * (k + 1) = 2 * k + 1 + 1 := by omega
    rw [e]
    simp only [List.getD_cons_succ, List.length_cons, Nat.add_lt_add_iff_right]
/-- What stands beside. -/
def oth (i : Nat) : Nat := if i % 2 = 0 then i + 1 else i - 1
theorem oth_xor (i : Nat) : i ^^^ 1 = oth i := by
  unfold oth
  have h : (i ^^^ 1) / 2 = i / 2 := by
    have := Nat.xor_div_two (a := i) (b := 1)
    simpa using this
  have h2 : (i ^^^ 1) % 2 = (i + 1) % 2 := by
    have := Nat.xor_mod_two_pow (a := i) (b := 1) (n := 1)
    rcases Nat.mod_two_eq_zero_or_one i with h0 | h0
    · rw [show (2 : Nat) ^ 1 = 2 from rfl, h0] at this
      rw [this]; simp; omega
    · rw [show (2 : Nat) ^ 1 = 2 from rfl, h0] at this
      rw [this]; simp; omega
  split <;> omega

/-- The top of a row. -/
def topF : Nat → List H32 → H32
  | 0, r => r.getD 0 []
  | f + 1, r => if r.length ≤ 1 then r.getD 0 [] else topF f (upL r)
theorem topF_one (f : Nat) (r : List H32) (h : r.length ≤ 1) : topF f r = r.getD 0 [] := by cases f <;> simp [topF, h]
theorem topF_up (f : Nat) (r : List H32) (h : 1 < r.length) (hf : r.length ≤ f) : topF f r = topF (f - 1) (upL r) := by
  cases f with
  | zero => omega
  | succ f => rw [topF, if_neg (by omega)]; rfl
/-- The proof of the i-th. -/
def proofF : Nat → List H32 → Nat → List H32
  | 0, _, _ => []
  | f + 1, r, i => if r.length ≤ 1 then [] else (if oth i < r.length then [r.getD (oth i) []] else []) ++ proofF f (upL r) (i / 2)
theorem proofF_one (f : Nat) (r : List H32) (i : Nat) (h : r.length ≤ 1) : proofF f r i = [] := by cases f <;> simp [proofF, h]
theorem proofF_up (f : Nat) (r : List H32) (i : Nat) (h : 1 < r.length) (hf : r.length ≤ f) : proofF f r i = (if oth i < r.length then [r.getD (oth i) []] else []) ++ proofF (f - 1) (upL r) (i / 2) := by
  cases f with
  | zero => omega
  | succ f => rw [proofF, if_neg (by omega)]; rfl
theorem proofF_32 : ∀ (f : Nat) (r : List H32) (i : Nat), (∀ h ∈ r, h.length = 32) → ∀ h ∈ proofF f r i, h.length = 32
  | 0, _, _, _, h, hh => by simp [proofF] at hh
  | f + 1, r, i, hr, h, hh => by
    unfold proofF at hh
    split at hh
    · simp at hh
    · rw [List.mem_append] at hh
      rcases hh with hh | hh
      · split at hh
        · rename_i hlt
          simp only [List.mem_singleton] at hh
          subst hh
          rw [List.getD_eq_getElem?_getD, List.getElem?_eq_getElem hlt]
          exact hr _ (List.getElem_mem _)
        · simp at hh
      · exact proofF_32 f (upL r) (i / 2) (upL_32 r hr) h hh
/-- What a hash comes to by a proof, and what is left of the proof. -/
def chkF : Nat → Nat → Nat → H32 → List H32 → Option (H32 × List H32)
  | 0, _, _, t, p => some (t, p)
  | f + 1, wide, i, t, p => if wide ≤ 1 then some (t, p) else
      if oth i < wide then match p with
        | [] => none
        | x :: ps => chkF f ((wide + 1) / 2) (i / 2) (if i % 2 = 0 then pairL t x else pairL x t) ps
      else chkF f ((wide + 1) / 2) (i / 2) t p
theorem chkF_one (f wide i : Nat) (t : H32) (p : List H32) (h : wide ≤ 1) : chkF f wide i t p = some (t, p) := by cases f <;> simp [chkF, h]
theorem chkF_no (f wide i : Nat) (t : H32) (p : List H32) (h : 1 < wide) (hf : wide ≤ f) (ho : ¬ oth i < wide) : chkF f wide i t p = chkF (f - 1) ((wide + 1) / 2) (i / 2) t p := by
  cases f with
  | zero => omega
  | succ f =>
    have h1 : ¬ wide ≤ 1 := by omega
    simp [chkF, h1, ho]
theorem chkF_nil (f wide i : Nat) (t : H32) (h : 1 < wide) (hf : wide ≤ f) (ho : oth i < wide) : chkF f wide i t [] = none := by
  cases f with
  | zero => omega
  | succ f =>
    have h1 : ¬ wide ≤ 1 := by omega
    simp [chkF, h1, ho]
theorem chkF_cons (f wide i : Nat) (t x : H32) (ps : List H32) (h : 1 < wide) (hf : wide ≤ f) (ho : oth i < wide) : chkF f wide i t (x :: ps) = chkF (f - 1) ((wide + 1) / 2) (i / 2) (if i % 2 = 0 then pairL t x else pairL x t) ps := by
  cases f with
  | zero => omega
  | succ f =>
    have h1 : ¬ wide ≤ 1 := by omega
    simp [chkF, h1, ho]
theorem half_le {n f : Nat} (h : 1 < n) (hf : n ≤ f) : (n + 1) / 2 ≤ f - 1 := by omega
/-- What is proved is checked; what is put behind the proof is left. -/
theorem chk_proof : ∀ (f : Nat) (r : List H32) (i : Nat) (extra : List H32), i < r.length → r.length ≤ f → chkF f r.length i (r.getD i []) (proofF f r i ++ extra) = some (topF f r, extra)
  | 0, r, i, extra, hi, hf => by omega
  | f + 1, r, i, extra, hi, hf => by
    by_cases h1 : r.length ≤ 1
    · have : i = 0 := by omega
      subst this
      rw [chkF_one _ _ _ _ _ h1, proofF_one _ _ _ h1, topF_one _ _ h1]; rfl
    · have h2 : 1 < r.length := by omega
      have hl := upL_length r
      have ih := chk_proof f (upL r) (i / 2) extra (by rw [hl]; omega) (by rw [hl]; omega)
      rw [hl] at ih
      rw [proofF_up _ _ _ h2 hf, topF_up _ _ h2 hf]
      have hg := upL_get r (i / 2) (by omega)
      by_cases ho : oth i < r.length
      · rw [if_pos ho, List.append_assoc, List.cons_append, List.nil_append, chkF_cons _ _ _ _ _ _ h2 hf ho]
        unfold oth at ho ⊢
        by_cases he : i % 2 = 0
        · rw [if_pos he] at ho
          rw [if_pos he, if_pos he]
          rw [show 2 * (i / 2) = i by omega, if_pos ho] at hg
          rw [← hg]
          exact ih
        · rw [if_neg he] at ho
          rw [if_neg he, if_neg he]
          rw [show 2 * (i / 2) = i - 1 by omega, if_pos (by omega), show i - 1 + 1 = i by omega] at hg
          rw [← hg]
          exact ih
      · rw [if_neg ho, List.nil_append, chkF_no _ _ _ _ _ h2 hf ho]
        unfold oth at ho
        have he : i % 2 = 0 := by
          by_cases he : i % 2 = 0
          · exact he
          · rw [if_neg he] at ho; omega
        rw [if_pos he] at ho
        rw [show 2 * (i / 2) = i by omega, if_neg ho] at hg
        rw [← hg]
        exact ih
/-- How many hashes a proof has. -/
def cntF : Nat → Nat → Nat → Nat
  | 0, _, _ => 0
  | f + 1, wide, i => if wide ≤ 1 then 0 else (if oth i < wide then 1 else 0) + cntF f ((wide + 1) / 2) (i / 2)
theorem proofF_length : ∀ (f : Nat) (r : List H32) (i : Nat), (proofF f r i).length = cntF f r.length i
  | 0, _, _ => rfl
  | f + 1, r, i => by
    have ih := proofF_length f (upL r) (i / 2)
    rw [upL_length] at ih
    unfold proofF cntF
    split
    · rfl
    · rw [List.length_append, ih]
      split <;> simp
theorem chkF_few : ∀ (f wide i : Nat) (t : H32) (p : List H32), p.length < cntF f wide i → chkF f wide i t p = none
  | 0, _, _, _, _, h => by simp [cntF] at h
  | f + 1, wide, i, t, p, h => by
    unfold cntF at h
    unfold chkF
    by_cases h1 : wide ≤ 1
    · rw [if_pos h1] at h; omega
    · rw [if_neg h1] at h ⊢
      by_cases ho : oth i < wide
      · rw [if_pos ho] at h ⊢
        cases p with
        | nil => rfl
        | cons x ps => exact chkF_few f _ _ _ ps (by simp at h; omega)
      · rw [if_neg ho] at h ⊢
        exact chkF_few f _ _ _ p (by omega)
/-- The binary digits of a number. -/
def digs : Nat → Nat → Nat
  | 0, _ => 0
  | f + 1, n => if n = 0 then 0 else 1 + digs f (n / 2)
theorem cnt_first : ∀ (f n : Nat), n ≤ f → cntF f n 0 = digs f (n - 1)
  | 0, _, _ => rfl
  | f + 1, n, h => by
    unfold cntF digs
    by_cases h1 : n ≤ 1
    · rw [if_pos h1, if_pos (show n - 1 = 0 by omega)]
    · rw [if_neg h1, if_neg (show ¬ n - 1 = 0 by omega), if_pos (show oth 0 < n by unfold oth; simp; omega), Nat.zero_div, cnt_first f ((n + 1) / 2) (by omega), show (n + 1) / 2 - 1 = (n - 1) / 2 by omega]
theorem cnt_le : ∀ (f n i : Nat), n ≤ f → cntF f n i ≤ digs f (n - 1)
  | 0, _, _, _ => Nat.le_refl _
  | f + 1, n, i, h => by
    unfold cntF digs
    by_cases h1 : n ≤ 1
    · rw [if_pos h1]; omega
    · have := cnt_le f ((n + 1) / 2) (i / 2) (by omega)
      rw [show (n + 1) / 2 - 1 = (n - 1) / 2 by omega] at this
      rw [if_neg h1, if_neg (show ¬ n - 1 = 0 by omega)]
      split <;> omega
/-- The root of so many with a top. -/
def rootL (n : Nat) (top : H32) : H32 := ofX tagRoot [eightL n, top]
theorem rootL_length (n : Nat) (t : H32) : (rootL n t).length = 32 := ofX_length _ _
/-- What hashes come to. -/
def topL (l : List H32) : H32 := if l = [] then noneL else topF l.length (l.map leafL)
theorem topL_length (l : List H32) : (topL l).length = 32 := by
  have h1 : ∀ (f : Nat) (r : List H32), 0 < r.length → (∀ h ∈ r, h.length = 32) → (topF f r).length = 32 := by
    intro f
    induction f with
    | zero => intro r h0 hr; rw [topF, List.getD_eq_getElem?_getD, List.getElem?_eq_getElem h0]; exact hr _ (List.getElem_mem _)
    | succ f ih =>
      intro r h0 hr
      unfold topF
      split
      · rw [List.getD_eq_getElem?_getD, List.getElem?_eq_getElem h0]; exact hr _ (List.getElem_mem _)
      · exact ih _ (by rw [upL_length]; omega) (upL_32 r hr)
  unfold topL
  split
  · exact noneL_length
  · rename_i h
    refine h1 _ _ (by simpa using List.length_pos_iff.2 h) (fun x hx => ?_)
    obtain ⟨y, _, rfl⟩ := List.mem_map.1 hx
    exact leafL_length y
def treeL (l : List H32) : H32 := rootL l.length (topL l)
def provL (l : List H32) (i : Nat) : List H32 := proofF l.length (l.map leafL) i
/-- What Check says. -/
def checkL (root : H32) (n i : Int) (h : H32) (proof : List H32) : Bool :=
  if i < 0 ∨ n ≤ i ∨ 1048576 < n then false else
    match chkF n.toNat n.toNat i.toNat (leafL h) proof with
    | some (t, []) => decide (rootL n.toNat t = root)
    | _ => false
theorem check_back (l : List H32) (i : Nat) (hi : i < l.length) (hn : l.length ≤ 1048576) : checkL (treeL l) l.length i (l.getD i []) (provL l i) = true := by
  have h := chk_proof l.length (l.map leafL) i [] (by simpa using hi) (by simp)
  rw [List.append_nil, List.length_map] at h
  have e : (l.map leafL).getD i [] = leafL (l.getD i []) := by simp [hi]
  rw [e] at h
  unfold checkL treeL topL provL
  rw [if_neg (by omega), Int.toNat_natCast, Int.toNat_natCast, h, if_neg (by intro h0; rw [h0] at hi; simp at hi)]
  simp
theorem check_more (l : List H32) (i : Nat) (hi : i < l.length) (hn : l.length ≤ 1048576) (x : H32) (root : H32) : checkL root l.length i (l.getD i []) (provL l i ++ [x]) = false := by
  have h := chk_proof l.length (l.map leafL) i [x] (by simpa using hi) (by simp)
  rw [List.length_map] at h
  have e : (l.map leafL).getD i [] = leafL (l.getD i []) := by simp [hi]
  rw [e] at h
  unfold checkL provL
  rw [if_neg (by omega), Int.toNat_natCast, Int.toNat_natCast, h]
theorem check_less (l : List H32) (i : Nat) (hi : i < l.length) (hn : l.length ≤ 1048576) (root h : H32) (hp : 0 < (provL l i).length) : checkL root l.length i h ((provL l i).drop 1) = false := by
  have hl := proofF_length l.length (l.map leafL) i
  unfold checkL
  rw [if_neg (by omega), Int.toNat_natCast, Int.toNat_natCast, chkF_few]
  rw [List.length_drop]
  unfold provL at hp ⊢
  rw [hl, List.length_map] at hp ⊢
  omega
theorem check_out (l : List H32) (i : Nat) (root h : H32) (p : List H32) : checkL root l.length (l.length + i) h p = false := by
  unfold checkL
  rw [if_pos (by omega)]
end Go.Proofs.Ytikphhhkikdhaaa
