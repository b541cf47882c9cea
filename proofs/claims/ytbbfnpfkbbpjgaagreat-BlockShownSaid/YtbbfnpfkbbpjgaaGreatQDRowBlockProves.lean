/- The row of BlockProves: the law returns true for every input; by the walk in YtbbfnpfkbbpjgaaGreatBlockProves. No condition. -/
import Derived.Test.YtbbfnpfkbbpjgaaGreatQDMBase
import Derived.Test.YtbbfnpfkbbpjgaaGreatQDRefTree3
import Derived.Lib.SmallJoins
import Derived.SliceStrings
import Derived.Test.YtbbfnpfkbbpjgaaGreatQDOpenSl
import Derived.Test.YtbbfnpfkbbpjgaaGreatQDTreeCheck
namespace Go.Proofs.YtbbfnpfkbbpjgaaGreat.blockProves
open Go.ChangeShapes Go.WideShapes Go.ChangeAt Go.RowKit Go.WideMaps Go.WideElems
open Go.ChangeMaps (open_string)
set_option linter.unusedVariables false

set_option maxRecDepth 100000 in
theorem lifted (os : Os) (started : os.Started) (H : Type) (enc : TypeId × Value → H) :
  ReturnsInHanded {} Tryz.checked os 9 .any (Rows.blockProvesSpec.pre6 enc Tryz.prog Tryz.f9 Rows.blockProvesRow.domain false) (Rows.blockProvesSpec.post enc Tryz.prog Tryz.f9 false true false false) := by
 refine returnsInHanded_of_change (C := Tryz.checked) ownsKnob started (by kernel_rfl) Tryz.func9
  (ChangeSpec.witness6 (enc := enc) (C := Tryz.checked) false ⟨#[], #[.agg #[.int .u64 0, .int .u64 0, .int .u8 0, .int .u8 0, .int .u8 0, .int .u8 0, .int .u8 0, .int .u8 0, .int .u8 0, .int .u8 0, .int .u8 0, .int .u8 0, .int .u8 0, .int .u8 0, .int .u8 0, .int .u8 0, .int .u8 0, .int .u8 0, .int .u8 0, .int .u8 0, .int .u8 0, .int .u8 0, .int .u8 0, .int .u8 0, .int .u8 0, .int .u8 0, .int .u8 0, .int .u8 0, .int .u8 0, .int .u8 0, .int .u8 0, .int .u8 0, .int .u8 0, .int .u8 0, .int .u8 0, .int .u8 0, .int .u8 0, .int .u8 0, .int .u8 0, .int .u8 0, .int .u8 0, .int .u8 0, .int .u8 0, .int .u8 0, .int .u8 0, .int .u8 0, .int .u8 0, .int .u8 0, .int .u8 0, .int .u8 0, .int .u8 0, .int .u8 0, .int .u8 0, .int .u8 0, .int .u8 0, .int .u8 0, .int .u8 0, .int .u8 0, .int .u8 0, .int .u8 0, .int .u8 0, .int .u8 0, .int .u8 0, .int .u8 0, .int .u8 0, .int .u8 0, .int .u8 0, .int .u8 0, .int .u8 0, .int .u8 0, .int .u8 0, .int .u8 0, .int .u8 0, .int .u8 0, .int .u8 0, .int .u8 0, .int .u8 0, .int .u8 0, .int .u8 0, .int .u8 0, .int .u8 0, .int .u8 0, .int .u8 0, .int .u8 0, .int .u8 0, .int .u8 0, .int .u8 0, .int .u8 0, .int .u8 0, .int .u8 0, .int .u8 0, .int .u8 0, .int .u8 0, .int .u8 0, .int .u8 0, .int .u8 0, .int .u8 0, .int .u8 0, .int .u64 0, .int .u64 0, .int .u8 0, .int .u8 0, .int .u8 0, .int .u8 0, .int .u8 0, .int .u8 0, .int .u8 0, .int .u8 0, .int .u8 0, .int .u8 0, .int .u8 0, .int .u8 0, .int .u8 0, .int .u8 0, .int .u8 0, .int .u8 0, .int .u8 0, .int .u8 0, .int .u8 0, .int .u8 0, .int .u8 0, .int .u8 0, .int .u8 0, .int .u8 0, .int .u8 0, .int .u8 0, .int .u8 0, .int .u8 0, .int .u8 0, .int .u8 0, .int .u8 0, .int .u8 0, .int .u64 0, .int .u64 0, .string ByteArray.empty, .string ByteArray.empty, .slice none 0 0], .agg #[.int .u64 0, .int .u64 0, .int .u8 0, .int .u8 0, .int .u8 0, .int .u8 0, .int .u8 0, .int .u8 0, .int .u8 0, .int .u8 0, .int .u8 0, .int .u8 0, .int .u8 0, .int .u8 0, .int .u8 0, .int .u8 0, .int .u8 0, .int .u8 0, .int .u8 0, .int .u8 0, .int .u8 0, .int .u8 0, .int .u8 0, .int .u8 0, .int .u8 0, .int .u8 0, .int .u8 0, .int .u8 0, .int .u8 0, .int .u8 0, .int .u8 0, .int .u8 0, .int .u8 0, .int .u8 0, .int .u8 0, .int .u8 0, .int .u8 0, .int .u8 0, .int .u8 0, .int .u8 0, .int .u8 0, .int .u8 0, .int .u8 0, .int .u8 0, .int .u8 0, .int .u8 0, .int .u8 0, .int .u8 0, .int .u8 0, .int .u8 0, .int .u8 0, .int .u8 0, .int .u8 0, .int .u8 0, .int .u8 0, .int .u8 0, .int .u8 0, .int .u8 0, .int .u8 0, .int .u8 0, .int .u8 0, .int .u8 0, .int .u8 0, .int .u8 0, .int .u8 0, .int .u8 0, .int .u8 0, .int .u8 0, .int .u8 0, .int .u8 0, .int .u8 0, .int .u8 0, .int .u8 0, .int .u8 0, .int .u8 0, .int .u8 0, .int .u8 0, .int .u8 0, .int .u8 0, .int .u8 0, .int .u8 0, .int .u8 0, .int .u8 0, .int .u8 0, .int .u8 0, .int .u8 0, .int .u8 0, .int .u8 0, .int .u8 0, .int .u8 0, .int .u8 0, .int .u8 0, .int .u8 0, .int .u8 0, .int .u8 0, .int .u8 0, .int .u8 0, .int .u8 0, .int .u64 0, .int .u64 0, .int .u8 0, .int .u8 0, .int .u8 0, .int .u8 0, .int .u8 0, .int .u8 0, .int .u8 0, .int .u8 0, .int .u8 0, .int .u8 0, .int .u8 0, .int .u8 0, .int .u8 0, .int .u8 0, .int .u8 0, .int .u8 0, .int .u8 0, .int .u8 0, .int .u8 0, .int .u8 0, .int .u8 0, .int .u8 0, .int .u8 0, .int .u8 0, .int .u8 0, .int .u8 0, .int .u8 0, .int .u8 0, .int .u8 0, .int .u8 0, .int .u8 0, .int .u8 0, .int .u64 0, .int .u64 0, .string ByteArray.empty, .string ByteArray.empty, .slice none 0 0], .int .i64 0], []⟩ 8 (by kernel_rfl) (by kernel_rfl) (by kernel_rfl) (by kernel_rfl)) ?_
 intro W base args ds gs before hval0 hW hcnd _
 have hval : ∀ (j : Nat) t v, Tryz.f9.params[j]? = some t → args[j]? = some v → Value.okWide Tryz.prog W .any base t v := hval0
 have hW' := hW
 obtain ⟨p, q, hA0, hV, rfl, hfz, hnd⟩ := hW
 have hA : DataW.TrodAll enc Tryz.prog W 0 (fun _ => true) true Tryz.f9.params.toList args.toList ds p := hA0
 rw [Tryz.params9] at hA hval
 obtain ⟨v0, vs0, d0, ds0, p0, q0, hargs, rfl, rfl, h0, r0⟩ := trodAll_cons hA
 obtain ⟨v1, vs1, d1, ds1, p1, q1, rfl, rfl, rfl, h1, r1⟩ := trodAll_cons r0
 obtain ⟨v2, vs2, d2, ds2, p2, q2, rfl, rfl, rfl, h2, r2⟩ := trodAll_cons r1
 obtain ⟨rfl, rfl, rfl⟩ := trodAll_nil r2
 obtain rfl : args = #[v0, v1, v2] := by cases args; simp_all
 obtain ⟨rfl, rfl⟩ := trodVars_none hV
 obtain ⟨a0, w0, k0, n0, _, _⟩ := j0t (hval 0 51 v0 rfl rfl) h0
 obtain ⟨a1, w1, k1, n1, _, _⟩ := j0t (hval 1 51 v1 rfl rfl) h1
 obtain ⟨a2, rfl, e2, _, w2⟩ := open_int Tryz.underlying3 (hval 2 3 v2 rfl rfl) h2
 refine (j2r W v0 a0 w0 k0 n0 v1 a1 w1 k1 n1 a2 w2).mono fun e W' ⟨he, hb⟩ => ?_
 subst he
 exact ⟨_, rfl, x0o isLaidOut (by kernel_rfl) (by kernel_rfl) Tryz.underlying4 rfl hW' hb ⟨rfl, rfl, rfl⟩⟩

theorem over : Rows.blockProvesRow.holds Tryz.pinned (OpenSpec.ofChange Rows.blockProvesSpec) :=
 OpenClaim.holds_of_wide 9 Tryz.f9 rfl rfl rfl rfl rfl rfl rfl ⟨rfl, rfl, rfl, rfl, rfl⟩ rfl rfl rfl rfl rfl (by kernel_rfl) Tryz.func9 (by kernel_rfl)
  (of_decide_eq_true (by kernel_rfl)) (by unfold Func.isWrapper; first | (rw [if_pos (by decide +kernel)]; kernel_rfl) | (rw [if_neg (by decide +kernel)]; exact ⟨rfl, rfl⟩))
  (fun os started H enc _ => lifted os started H enc)

theorem proved : Rows.BlockProvesSaid :=
 over
#print axioms proved
end Go.Proofs.YtbbfnpfkbbpjgaaGreat.blockProves

/- BlockShown: of a block whose head says what its deeds are, each deed's proof is checked by the head alone. -/
namespace Go.Proofs.YtbbfnpfkbbpjgaaGreat
open Go.RowKit Go.Lib
set_option linter.unusedVariables false
set_option linter.unusedSimpArgs false

section
variable {ops : Array Oper} {rest : List Oper} {o : Oper} {a : Act} {w w0 : World} {Q : Exit → Act → World → Prop} {K : Act → Prop} {g : Nat} {d : Hd} {v : Value}
theorem wpl_set_blk_size (hgd : o.guard = none) (x y : Operand) (ho : o.op = .store 24 x y) {n : Nat} (hx : a.eval x = .pointer (some ⟨g, 98, none⟩)) (hy : a.eval y = .int .u64 n) (hn : n < 18446744073709551616) (h : KAt w g d v)
  (hk : ∀ w2, KAt w2 g { d with size := n } v → Touch (fun b => b = g) w w2 → wpList Tryz.prog ops Q rest (a.put o.dst undef) w2) : wpList Tryz.prog ops Q (o :: rest) a w :=
 q0v hgd 24 x y ho hx hy h.arr (by rw [q1o v h.ok]; omega) u64Size rfl rfl (fun w2 ha ht => hk w2 ⟨⟨h.ok.slot, h.ok.number, h.ok.prev, h.ok.pool, h.ok.body, hn, h.ok.many, h.ok.right⟩, h.one, by rw [q9h h.ok v _ (by omega) (hdSet98 h.ok n)] at ha; exact ha⟩ ht)
theorem wpl_set_blk_many (hgd : o.guard = none) (x y : Operand) (ho : o.op = .store 24 x y) {n : Nat} (hx : a.eval x = .pointer (some ⟨g, 99, none⟩)) (hy : a.eval y = .int .u64 n) (hn : n < 18446744073709551616) (h : KAt w g d v)
  (hk : ∀ w2, KAt w2 g { d with many := n } v → Touch (fun b => b = g) w w2 → wpList Tryz.prog ops Q rest (a.put o.dst undef) w2) : wpList Tryz.prog ops Q (o :: rest) a w :=
 q0v hgd 24 x y ho hx hy h.arr (by rw [q1o v h.ok]; omega) u64Size rfl rfl (fun w2 ha ht => hk w2 ⟨⟨h.ok.slot, h.ok.number, h.ok.prev, h.ok.pool, h.ok.body, h.ok.size, hn, h.ok.right⟩, h.one, by rw [q9h h.ok v _ (by omega) (hdSet99 h.ok n)] at ha; exact ha⟩ ht)
theorem blkPut66 {l : List UInt8} (h : d.Ok) (hl : l.length = 32) (v : Value) : (blkCs d v).take 66 ++ bvs l ++ (blkCs d v).drop (66 + (bvs l).length) = blkCs { d with body := l } v := by
 have e := q1y h
 have e2 : (bvs l).length = 32 := by rw [q0c, hl]
 have := hdPut66 h hl
 unfold blkCs
 rw [List.take_append_of_le_length (by omega), List.drop_append_of_le_length (by omega), ← List.append_assoc, this]
theorem wpl_set_blk_body (hgd : o.guard = none) (x y : Operand) (ho : o.op = .store 34 x y) {l : List UInt8} (hx : a.eval x = .pointer (some ⟨g, 66, none⟩)) (hy : a.eval y = hv l) (hl : l.length = 32) (h : KAt w g d v)
  (hk : ∀ w2, KAt w2 g { d with body := l } v → Touch (fun b => b = g) w w2 → wpList Tryz.prog ops Q rest (a.put o.dst undef) w2) : wpList Tryz.prog ops Q (o :: rest) a w :=
 q4x hgd 34 x y ho hx hy h.arr (by rw [q0c, hl]; exact hashSz) (by rw [q1o v h.ok, q0c, hl]; omega) (fun v hv => List.all_eq_true.1 (q1l l) v hv) _ (blkPut66 h.ok hl v) (fun w2 ha ht => hk w2 ⟨⟨h.ok.slot, h.ok.number, h.ok.prev, h.ok.pool, hl, h.ok.size, h.ok.many, h.ok.right⟩, h.one, ha⟩ ht)
theorem kat_body {l : List UInt8} (he : d.body = l) (h : KAt w g d v) : Cells w g 66 (bvs l) := he ▸ h.body
theorem kat_many {n : Nat} (he : d.many = n) (h : KAt w g d v) : w.cell? ⟨g, 99, none⟩ = some (.int .u64 n) := he ▸ h.many
theorem kat_is {e : Hd} (he : e = d) (h : KAt w g d v) : KAt w g e v := he ▸ h
end
def headX (d : Hd) (R : List UInt8) (s m : Nat) : Hd := { d with body := R, size := s, many := m }
theorem bodB_small (l : List Deed) : (bodB l).1.2 < 18446744073709551616 ∧ (bodB l).2.1 < 18446744073709551616 := by
 unfold bodB
 split
 ·split
  ·rename_i h
   exact ⟨by show sizB l < _; omega, by show l.length < _; omega⟩
  ·exact ⟨by show 0 < _; omega, by show 0 < _; omega⟩
 ·exact ⟨by show 0 < _; omega, by show 0 < _; omega⟩
def blkX (x : Blk) : Blk := ⟨headX x.head (bodB x.deeds).1.1 (bodB x.deeds).1.2 (bodB x.deeds).2.1, x.deeds⟩
theorem blkX_is {w : World} {x : Blk} {u : Value} (h : BlkIs w (blkV x.head u) x) (hD : DsIs w u x.deeds) : BlkIs w (blkV (blkX x).head u) (blkX x) := by
 have ok := h.ok.head
 have z := bodB_small x.deeds
 exact ⟨u, rfl, hD, ⟨ok.slot, ok.number, ok.prev, ok.pool, q6b _, z.1, z.2, ok.right⟩⟩
theorem blkX_may (x : Blk) : mayB (blkX x) = (mayH x.head && fewB x.deeds) := rfl
theorem blkX_fit (x : Blk) : fitB (blkX x) = mayB (blkX x) := by
 unfold fitB
 cases h : mayB (blkX x) with
 | false => rfl
 | true =>
  rw [blkX_may, Bool.and_eq_true] at h
  have e := j6h h.2
  have e1 : (blkX x).head.body = treeL (fulsB (blkX x).deeds) := by show (bodB x.deeds).1.1 = _; rw [e]; rfl
  have e2 : (blkX x).head.size = sizB (blkX x).deeds := by show (bodB x.deeds).1.2 = _; rw [e]; rfl
  have e3 : (blkX x).head.many = (blkX x).deeds.length := by show (bodB x.deeds).2.1 = _; rw [e]; rfl
  rw [decide_eq_true e1, decide_eq_true e2, decide_eq_true e3]
  rfl
set_option maxRecDepth 100000 in
set_option maxHeartbeats 3200000 in
theorem blockShown_any (w : World) (v : Value) (x : Blk) (h : BlkIs w v x) (hf : ∀ d ∈ x.deeds, d.Fit) (hn : x.deeds.length ≤ 9223372036854775807) :
  Calls Tryz.prog 10 #[v] w fun e w' => e = .returned (.bool true) ∧ Below w.heap.size w w' := by
 have HG := hide (fun (w' : World) (hb : Below w.heap.size w w') => q8u v x w' (h.later hb) hf hn)
 have HW := hide works15
 obtain ⟨u, rfl, hD, hok⟩ := id h
 have hX := blkX_is h hD
 have o1 : u.oneCell' = true := by obtain ⟨a, c, rfl⟩ := hD.shape; rfl
 have HOK := hide hok
 have HB := hide (fun (hk : x.deeds.length ≤ 60) (w' : World) (hb : Below w.heap.size w w') => j2p u x.deeds w' (hD.later hb) (by omega) hf)
 have HF := hide (fun (hk : x.deeds.length ≤ 60) (w' : World) (hb : Below w.heap.size w w') => j6r _ (blkX x) w' (hX.later hb) (show x.deeds.length ≤ 1000 by omega) hf)
 have HM := hide (fun (hk : x.deeds.length ≤ 60) (w' : World) (hb : Below w.heap.size w w') => q9q _ (blkX x) w' (hX.later hb) (show x.deeds.length ≤ 1000 by omega) hf)
 rw [blkX_fit] at HF
 have HL := hide (q6b x.deeds)
 have z1 := (bodB_small x.deeds).1
 have z2 := (bodB_small x.deeds).2
 have hz := j2c x.deeds
 have hmx := blkX_may x
 obtain ⟨D, hDX⟩ : ∃ D, D = (blkX x).head := ⟨_, rfl⟩
 have HDX : Hid (D = headX x.head (bodB x.deeds).1.1 (bodB x.deeds).1.2 (bodB x.deeds).2.1) := hDX
 rw [← hDX] at HF HM
 have b := Below.refl w.heap.size w
 by_cases hm : mayB (blkX x) = true
 ·have h2 := hm
  rw [hmx, Bool.and_eq_true] at h2
  have e0 := j6h h2.2
  have hc0 := hz.2 h2.2
  have HP := hide (fun (hk : x.deeds.length ≤ 60) (w' : World) (hb : Below w.heap.size w w') (k : Nat) (hk' : k < x.deeds.length) => x7w (k := k) (hX.later hb) (show x.deeds.length ≤ 1000 by omega) hf hm hk')
  have HCK := hide (fun (hk : x.deeds.length ≤ 60) (k : Nat) (hk' : k < x.deeds.length) (pv : Value) (w' : World) (hs : Hs w' pv (provL (fulsB x.deeds) k)) => j6f (bodB x.deeds).1.1 ((fulsB x.deeds).getD k []) ((bodB x.deeds).2.1 : Nat) k pv (provL (fulsB x.deeds) k) w' (q6b x.deeds) (j5n x.deeds hk') hs (by have := j1y (fulsB x.deeds).length ((fulsB x.deeds).map leafL) k; rw [q3e] at this; unfold provL; rw [q3e]; omega))
  have hck : ∀ k, k < x.deeds.length → x.deeds.length ≤ 60 → checkL (bodB x.deeds).1.1 ((bodB x.deeds).2.1 : Nat) k ((fulsB x.deeds).getD k []) (provL (fulsB x.deeds) k) = true := fun k hk h60 => by
   rw [e0]
   have := x1n (fulsB x.deeds) k (by rw [q3e]; exact hk) (by rw [q3e]; omega)
   rwa [q3e] at this
  have HCE := hide hck
  have HFL := hide (fun (k : Nat) (hk' : k < x.deeds.length) => j5n x.deeds hk')
  have hm3 : x.deeds.length = (bodB x.deeds).2.1 := by rw [e0]
  have hm4 : ∃ a c, u = .slice a x.deeds.length c := hD.shape
  rw [hm] at HF
  rw [if_pos hm] at HM
  rw [← hDX] at HP
  have hdeeds : (blkX x).deeds = x.deeds := rfl
  rw [hdeeds] at HP
  clear hm h2 h hf hn hD hok hDX hz hmx hX e0 hck hdeeds
  rw [hc0] at HB
  clear hc0
  generalize (bodB x.deeds).1.1 = R at *
  generalize (bodB x.deeds).1.2 = s at *
  generalize (bodB x.deeds).2.1 = m at *
  generalize (bodB x.deeds).2.2 = c at *
  generalize fulsB x.deeds = fs at *
  generalize x.deeds.length = n at *
  generalize x.head = d at *
  clear x
  subst hm3
  obtain ⟨a5, c5, rfl⟩ := hm4
  have mF1 := True.intro
  have mF3 := True.intro
  go_enter Tryz.func10, Tryz.ntmps10
  go_wp2_with (first | (with_reducible refine w2g ?_; clear mF1; refine q0l rfl _ rfl rfl HOK.out o1 ?_; intro _ g1 hg1 F1 hb; (try replace b := later b hb); clear hb) | (with_reducible refine w16g ?_; refine q0p rfl _ rfl rfl F1 ?_) | (with_reducible refine w0g ?_; refine q0a rfl 42 _ rfl rfl (KAt.ds F1) (by kernel_rfl) ?_) | (with_reducible refine w0g ?_; refine q0r rfl _ rfl rfl (by assumption) ?_) | (go_at_call 30; refine (HG.out _ b).mono ?_; rintro _ _ ⟨⟨B, rfl, hB⟩, hc⟩; (try replace F1 := F1.later hc); (try replace b := later b hc); clear hc; cases B) | (go_at_call 25; refine (HB.out (by simpa using hB) _ b).mono ?_; rintro _ _ ⟨rfl, hc⟩; (try replace F1 := F1.later hc); (try replace b := later b hc); clear hc) | (go_at_call 24; refine (HW.out _).mono ?_; rintro _ _ ⟨rfl, hc⟩; (try replace F1 := F1.later hc); (try replace b := later b hc); clear hc) | (with_reducible refine w3g ?_; clear mF3; refine q0k rfl rfl ?_; intro _ g3 hg3 F3 hb; (try have := F1.lt); (try have := F3.lt); (try have := F8.lt); (try have := b.size); (try replace F1 := F1.later hb); (try replace b := later b hb); clear hb) | (with_reducible refine w14g ?_; first | (refine q0i rfl _ _ rfl rfl rfl HL.out F3 ?_; intro _ t1 ht; replace F1 := F1.tt ht; replace b := q0b b ht (by omega) (by omega); replace F3 := t1; clear ht) | (refine wpl_set_blk_body rfl _ _ rfl rfl rfl HL.out F1 ?_; intro _ t1 ht; replace F3 := F3.tt ht; replace b := q0b b ht (by omega) (by omega); replace F1 := t1; clear ht)) | (with_reducible show wpList _ _ _ (⟨_, Op.store 24 _ _, _, _, _, _⟩ :: _) _ _; first | (refine wpl_set_blk_size rfl _ _ rfl rfl rfl z1 F1 ?_; intro _ t1 ht; replace F3 := F3.tt ht; replace b := q0b b ht (by omega) (by omega); replace F1 := t1; clear ht) | (refine wpl_set_blk_many rfl _ _ rfl rfl rfl z2 F1 ?_; intro _ t1 ht; replace F3 := F3.tt ht; replace b := q0b b ht (by omega) (by omega); replace F1 := kat_is HDX.out t1; clear ht)) | (with_reducible show Code.wp _ (Code.region _ _ true) _ _ _; (try simp only [pS]); fail))
  all_goals try (go_ret; exact ⟨rfl, b⟩)
  have hk : n ≤ 60 := by simpa using hB
  refine q0e (by kernel_rfl) (by kernel_rfl) ?_
  repeat ((go_big_quiet_want; first | ((with_reducible refine w28g ?_); refine q3d _ rfl rfl F1 ?_; simp only [pS]; go_big_quiet_on) | (go_big_quiet_op; first | go_big_quiet_on | (refine ⟨_, fun s => q0f (HF.out hk _ (later b s.ok)), ?_⟩; go_big_quiet_on) | (refine ⟨_, fun s => q0f (HM.out hk _ (later b s.ok)), ?_⟩; go_big_quiet_on))))
  refine wpQuiet_nil ?_
  intro _ hq
  (try replace F1 := F1.later hq); (try replace F3 := F3.later hq); (try replace b := later b hq)
  clear hq
  go_wp2_with (first | (with_reducible refine w16g ?_; refine q0p rfl _ rfl rfl F1 ?_) | (with_reducible refine w0g ?_; refine q0a rfl 42 _ rfl rfl (KAt.ds F1) (by kernel_rfl) ?_) | (go_at_call 37; refine (HF.out (by simpa using hB) _ b).mono ?_; rintro _ _ ⟨rfl, hc⟩; (try replace F1 := F1.later hc); (try replace F3 := F3.later hc); (try replace b := later b hc); clear hc) | (with_reducible show Code.wp _ (Code.region _ _ true) _ _ _; fail))
  have HDB : Hid (D.body = R) := by have := HDX.out; rw [this]; exact hide rfl
  have HDM : Hid (D.many = n) := by have := HDX.out; rw [this]; exact hide rfl
  clear HDX HB HG HF HM
  go_loopw [48] (fun i wr => ∃ k : Nat, i = .int .i64 k ∧ k ≤ n ∧ KAt wr g1 D (Value.slice a5 n c5) ∧ HashAt wr g3 R ∧ Below w.heap.size w wr) (fun i _ => n - (RowKit.intOf i).toNat)
  case atStart => exact ⟨0, rfl, by omega, F1, F3, b⟩
  case round =>
   clear F1 F3 b
   obtain ⟨k, rfl, hk1, F1, F3, b⟩ := hrel
   by_cases hlt : k < n
   ·have HPk := hide (fun (w' : World) (hb : Below w.heap.size w w') => HP.out hk w' hb k hlt)
    have HCKk := hide (fun (pv : Value) (w' : World) (hs : Hs w' pv (provL fs k)) => HCK.out hk k hlt pv w' hs)
    have hce := HCE.out k hlt hk
    have hl0 := HFL.out k hlt
    rw [hce] at HCKk
    generalize fs.getD k [] = g0 at *
    generalize provL fs k = PR at *
    have L0 := hide hl0
    clear hce hl0
    have mF8 := True.intro
    go_wp2_with (first | (with_reducible refine w16g ?_; refine q0p rfl _ rfl rfl F1 ?_) | (go_at_call 40; refine (HPk.out _ b).mono ?_; rintro _ _ ⟨⟨pv, rfl, hP⟩, hc⟩; replace F1 := F1.later hc; replace F3 := F3.later hc; replace b := later b hc; clear hc) | (with_reducible refine w3g ?_; clear mF8; refine q0k rfl rfl ?_; intro _ g8 hg8 F8 ha) | (with_reducible refine w4g ?_; refine q0i rfl _ _ rfl rfl rfl L0.out F8 ?_; intro _ t1 ht1; have hc := q0b ha ht1 hg8 (Nat.le_refl _); clear F8; replace F1 := F1.later hc; replace F3 := F3.later hc; replace hP := hP.later hc; replace b := later b hc; have F8 := t1; clear t1 ha ht1 hc) | (with_reducible show wpList _ _ _ (⟨_, Op.load 34 _, _, _, _, _⟩ :: _) _ _; first | refine q0r rfl _ rfl rfl F8 ?_ | refine q0g rfl _ rfl rfl (kat_body HDB.out F1) HL.out ?_) | (with_reducible refine w0g ?_; refine q0a rfl 24 _ rfl rfl (kat_many HDM.out F1) (by kernel_rfl) ?_) | (go_at_call 46; refine (HCKk.out _ _ hP).mono ?_; rintro _ _ ⟨rfl, hc⟩; replace F1 := F1.later hc; replace F3 := F3.later hc; replace b := later b hc; clear hc hP F8))
    go_roundw
    case rel => exact ⟨k + 1, by simp, by omega, F1, F3, b⟩
    case measure => simp [RowKit.intOf]; omega
   ·obtain rfl : n = k := by omega
    go_wp2_with ((go_at_call 24; refine (HW.out _).mono ?_; rintro _ _ ⟨rfl, hc⟩; (try replace F1 := F1.later hc); (try replace F3 := F3.later hc); (try replace b := later b hc); clear hc))
    go_ret
    exact ⟨rfl, b⟩
 ·have hm' : mayB (blkX x) = false := by simpa using hm
  rw [hm'] at HF
  rw [if_neg hm] at HM
  clear hm hm' h hf hn hD hok hDX hz hmx hX
  generalize (bodB x.deeds).1.1 = R at *
  generalize (bodB x.deeds).1.2 = s at *
  generalize (bodB x.deeds).2.1 = m at *
  generalize (bodB x.deeds).2.2 = c at *
  generalize x.deeds.length = n at *
  generalize x.head = d at *
  clear x
  by_cases hc0 : c = 0
  ·subst hc0
   have mF1 := True.intro
   have mF3 := True.intro
   go_enter Tryz.func10, Tryz.ntmps10
   go_wp2_with (first | (with_reducible refine w2g ?_; clear mF1; refine q0l rfl _ rfl rfl HOK.out o1 ?_; intro _ g1 hg1 F1 hb; (try replace b := later b hb); clear hb) | (with_reducible refine w16g ?_; refine q0p rfl _ rfl rfl F1 ?_) | (with_reducible refine w0g ?_; refine q0a rfl 42 _ rfl rfl (KAt.ds F1) (by kernel_rfl) ?_) | (with_reducible refine w0g ?_; refine q0r rfl _ rfl rfl (by assumption) ?_) | (go_at_call 30; refine (HG.out _ b).mono ?_; rintro _ _ ⟨⟨B, rfl, hB⟩, hc⟩; (try replace F1 := F1.later hc); (try replace b := later b hc); clear hc; cases B) | (go_at_call 25; refine (HB.out (by simpa using hB) _ b).mono ?_; rintro _ _ ⟨rfl, hc⟩; (try replace F1 := F1.later hc); (try replace b := later b hc); clear hc) | (go_at_call 24; refine (HW.out _).mono ?_; rintro _ _ ⟨rfl, hc⟩; (try replace F1 := F1.later hc); (try replace b := later b hc); clear hc) | (with_reducible refine w3g ?_; clear mF3; refine q0k rfl rfl ?_; intro _ g3 hg3 F3 hb; (try have := F1.lt); (try have := F3.lt); (try have := F8.lt); (try have := b.size); (try replace F1 := F1.later hb); (try replace b := later b hb); clear hb) | (with_reducible refine w14g ?_; first | (refine q0i rfl _ _ rfl rfl rfl HL.out F3 ?_; intro _ t1 ht; replace F1 := F1.tt ht; replace b := q0b b ht (by omega) (by omega); replace F3 := t1; clear ht) | (refine wpl_set_blk_body rfl _ _ rfl rfl rfl HL.out F1 ?_; intro _ t1 ht; replace F3 := F3.tt ht; replace b := q0b b ht (by omega) (by omega); replace F1 := t1; clear ht)) | (with_reducible show wpList _ _ _ (⟨_, Op.store 24 _ _, _, _, _, _⟩ :: _) _ _; first | (refine wpl_set_blk_size rfl _ _ rfl rfl rfl z1 F1 ?_; intro _ t1 ht; replace F3 := F3.tt ht; replace b := q0b b ht (by omega) (by omega); replace F1 := t1; clear ht) | (refine wpl_set_blk_many rfl _ _ rfl rfl rfl z2 F1 ?_; intro _ t1 ht; replace F3 := F3.tt ht; replace b := q0b b ht (by omega) (by omega); replace F1 := kat_is HDX.out t1; clear ht)) | (with_reducible show Code.wp _ (Code.region _ _ true) _ _ _; (try simp only [pS]); fail))
   all_goals try (go_ret; exact ⟨rfl, b⟩)
   have hk : n ≤ 60 := by simpa using hB
   refine q0e (by kernel_rfl) (by kernel_rfl) ?_
   repeat ((go_big_quiet_want; first | ((with_reducible refine w28g ?_); refine q3d _ rfl rfl F1 ?_; simp only [pS]; go_big_quiet_on) | (go_big_quiet_op; first | go_big_quiet_on | (refine ⟨_, fun s => q0f (HF.out hk _ (later b s.ok)), ?_⟩; go_big_quiet_on) | (refine ⟨_, fun s => q0f (HM.out hk _ (later b s.ok)), ?_⟩; go_big_quiet_on))))
   refine wpQuiet_nil ?_
   intro _ hq
   (try replace F1 := F1.later hq); (try replace F3 := F3.later hq); (try replace b := later b hq)
   clear hq
   go_wp2_with (first | (with_reducible refine w16g ?_; refine q0p rfl _ rfl rfl F1 ?_) | (go_at_call 37; refine (HF.out (by simpa using hB) _ b).mono ?_; rintro _ _ ⟨rfl, hc⟩; (try replace F1 := F1.later hc); (try replace F3 := F3.later hc); (try replace b := later b hc); clear hc) | (go_at_call 24; refine (HW.out _).mono ?_; rintro _ _ ⟨rfl, hc⟩; (try replace F1 := F1.later hc); (try replace F3 := F3.later hc); (try replace b := later b hc); clear hc) | (with_reducible show Code.wp _ (Code.region _ _ true) _ _ _; fail))
   go_ret
   exact ⟨rfl, b⟩
  ·have hc1 : (c != 0) = true := by simpa using hc0
   clear hc0
   have mF1 := True.intro
   have mF3 := True.intro
   go_enter Tryz.func10, Tryz.ntmps10
   go_wp2_with (first | (with_reducible refine w2g ?_; clear mF1; refine q0l rfl _ rfl rfl HOK.out o1 ?_; intro _ g1 hg1 F1 hb; (try replace b := later b hb); clear hb) | (with_reducible refine w16g ?_; refine q0p rfl _ rfl rfl F1 ?_) | (with_reducible refine w0g ?_; refine q0a rfl 42 _ rfl rfl (KAt.ds F1) (by kernel_rfl) ?_) | (with_reducible refine w0g ?_; refine q0r rfl _ rfl rfl (by assumption) ?_) | (go_at_call 30; refine (HG.out _ b).mono ?_; rintro _ _ ⟨⟨B, rfl, hB⟩, hc⟩; (try replace F1 := F1.later hc); (try replace b := later b hc); clear hc; cases B) | (go_at_call 25; refine (HB.out (by simpa using hB) _ b).mono ?_; rintro _ _ ⟨rfl, hc⟩; (try replace F1 := F1.later hc); (try replace b := later b hc); clear hc) | (go_at_call 24; refine (HW.out _).mono ?_; rintro _ _ ⟨rfl, hc⟩; (try replace F1 := F1.later hc); (try replace b := later b hc); clear hc) | (with_reducible refine w3g ?_; clear mF3; refine q0k rfl rfl ?_; intro _ g3 hg3 F3 hb; (try have := F1.lt); (try have := F3.lt); (try have := F8.lt); (try have := b.size); (try replace F1 := F1.later hb); (try replace b := later b hb); clear hb) | (with_reducible refine w14g ?_; first | (refine q0i rfl _ _ rfl rfl rfl HL.out F3 ?_; intro _ t1 ht; replace F1 := F1.tt ht; replace b := q0b b ht (by omega) (by omega); replace F3 := t1; clear ht) | (refine wpl_set_blk_body rfl _ _ rfl rfl rfl HL.out F1 ?_; intro _ t1 ht; replace F3 := F3.tt ht; replace b := q0b b ht (by omega) (by omega); replace F1 := t1; clear ht)) | (with_reducible show wpList _ _ _ (⟨_, Op.store 24 _ _, _, _, _, _⟩ :: _) _ _; first | (refine wpl_set_blk_size rfl _ _ rfl rfl rfl z1 F1 ?_; intro _ t1 ht; replace F3 := F3.tt ht; replace b := q0b b ht (by omega) (by omega); replace F1 := t1; clear ht) | (refine wpl_set_blk_many rfl _ _ rfl rfl rfl z2 F1 ?_; intro _ t1 ht; replace F3 := F3.tt ht; replace b := q0b b ht (by omega) (by omega); replace F1 := kat_is HDX.out t1; clear ht)) | (with_reducible show Code.wp _ (Code.region _ _ true) _ _ _; (try simp only [pS]); fail))
   all_goals try (go_ret; exact ⟨rfl, b⟩)
   have hk : n ≤ 60 := by simpa using hB
   refine q0e (by kernel_rfl) (by kernel_rfl) ?_
   repeat ((go_big_quiet_want; first | ((with_reducible refine w28g ?_); refine q3d _ rfl rfl F1 ?_; simp only [pS]; go_big_quiet_on) | (go_big_quiet_op; first | go_big_quiet_on | (refine ⟨_, fun s => q0f (HF.out hk _ (later b s.ok)), ?_⟩; go_big_quiet_on) | (refine ⟨_, fun s => q0f (HM.out hk _ (later b s.ok)), ?_⟩; go_big_quiet_on))))
   refine wpQuiet_nil ?_
   intro _ hq
   (try replace F1 := F1.later hq); (try replace F3 := F3.later hq); (try replace b := later b hq)
   clear hq
   go_wp2_with (first | (go_at_call 24; refine (HW.out _).mono ?_; rintro _ _ ⟨rfl, hc⟩; (try replace F1 := F1.later hc); (try replace F3 := F3.later hc); (try replace b := later b hc); clear hc) | (with_reducible show Code.wp _ (Code.region _ _ true) _ _ _; fail))
   go_ret
   exact ⟨rfl, b⟩
end Go.Proofs.YtbbfnpfkbbpjgaaGreat
