/- The reference of layer 13: Body, Bytes, Id, Full. Printed by gen_drefbytes.py. -/
import Derived.Test.YtbbfnpfkbbpjgaaGreatQHDeed5
import Derived.Test.YtbbfnpfkbbpjgaaGreatQHBlk3
import Derived.Test.YtbbfnpfkbbpjgaaGreatQHMCells
import Derived.Test.YtbbfnpfkbbpjgaaGreatQHRowE
import Derived.Test.YtbbfnpfkbbpjgaaGreatQHBlkM
import Derived.Test.YtbbfnpfkbbpjgaaGreatQHDeed3
namespace Go.Proofs.YtbbfnpfkbbpjgaaGreat
open Go.RowKit Go.Lib
set_option linter.unusedVariables false
set_option linter.unusedSimpArgs false
set_option maxRecDepth 100000
set_option maxHeartbeats 4000000
theorem j7c (n : Nat) (w : World) (hn : n < 18446744073709551616) : Calls Tryz.prog 82 #[.int .u64 n] w fun e w' => e = .returned (.string ⟨(putL n).toArray⟩) ∧ Below w.heap.size w w' := q8k n n w rfl hn
theorem q7f (n : Nat) (w : World) (hn : n ≤ 8) : Calls Tryz.prog 54 #[.int .i64 n] w fun e w' => e = .returned (.string ⟨(putL n).toArray⟩) ∧ Below w.heap.size w w' := by
 have HP := hide (fun w => j7c n w (by omega))
 have kw : IntKind.u64.wrap (n : Int) = (n : Int) := by rw [IntKind.wrap_u64]; omega
 have b := Below.refl w.heap.size w
 generalize (⟨(putL n).toArray⟩ : ByteArray) = sb at *
 go_enter Tryz.func54, Tryz.ntmps54
 go_wp2_with (go_at_call 82; refine (HP.out _).mono ?_; rintro _ _ ⟨rfl, hc⟩; (try replace b := later b hc); clear hc)
 go_ret
 exact ⟨rfl, b⟩
theorem q5v (n : Nat) (w : World) (hn : U64 n) : Calls Tryz.prog 56 #[.int .u64 n] w fun e w' => e = .returned (.string ⟨(putL n).toArray⟩) ∧ Below w.heap.size w w' := by
 have HP := hide (fun w => j7c n w hn)
 have b := Below.refl w.heap.size w
 generalize (⟨(putL n).toArray⟩ : ByteArray) = sb at *
 clear hn
 go_enter Tryz.func56, Tryz.ntmps56
 go_wp2_with (go_at_call 82; refine (HP.out _).mono ?_; rintro _ _ ⟨rfl, hc⟩; (try replace b := later b hc); clear hc)
 go_ret
 exact ⟨rfl, b⟩
theorem q6d (k : List UInt8) (w : World) (hk : k.length = 32) : Calls Tryz.prog 55 #[hv k] w fun e w' => e = .returned (.string ⟨k.toArray⟩) ∧ Below w.heap.size w w' := by
 have HP := hide (fun w => q2w k w hk)
 have HK := hide hk
 have b := Below.refl w.heap.size w
 generalize (⟨k.toArray⟩ : ByteArray) = sb at *
 clear hk
 unfold hv
 have mF1 := True.intro
 go_enter Tryz.func55, Tryz.ntmps55
 go_wp2_with (first | (with_reducible refine w2g ?_; clear mF1; refine j1v rfl _ rfl rfl HK.out ?_; intro _ g1 hg1 F1 hb; (try have := F1.lt); (try have := b.size); (try replace b := later b hb); clear hb) | (with_reducible refine w0g ?_; refine q1a rfl _ rfl rfl F1 ?_) | (go_at_call 53; refine (HP.out _).mono ?_; rintro _ _ ⟨rfl, hc⟩; (try replace F1 := F1.later hc); (try replace b := later b hc); clear hc))
 go_ret
 exact ⟨rfl, b⟩
theorem q6g {α : Type} {f : α → List UInt8} {Ok : α → Prop} (hl : ∀ x, Ok x → (f x).length ≤ 160) {l : List α} (ho : ∀ x ∈ l, Ok x) (hm : l.length ≤ 8) (k : Nat) : ((l.take k).flatMap f).length ≤ 1280 := by
 have h1 := q3g f (l.take k) 160 (fun y hy => hl y (ho y (List.mem_of_mem_take hy)))
 have h2 : (l.take k).length ≤ 8 := by rw [List.length_take]; omega
 have h3 : (l.take k).length * 160 ≤ 8 * 160 := Nat.mul_le_mul_right _ h2
 omega
theorem z0z (x : InT) (h : x.Ok) : (inL x).length ≤ 160 := Nat.le_trans (z1p x h) (by decide)
theorem x6l (x : OutT) (h : x.Ok) : (outtL x).length ≤ 160 := Nat.le_trans (x7v x h) (by decide)
theorem z1x (x : PayT) (h : x.Ok) : (payL x).length ≤ 160 := Nat.le_trans (x5b x h) (by decide)
theorem j0i (x y : List UInt8) : (⟨x.toArray⟩ ++ ⟨y.toArray⟩ : ByteArray) = ⟨(x ++ y).toArray⟩ := by
 apply ByteArray.ext
 simp [ByteArray.data_append]
theorem q4r (x : List UInt8) : (⟨x.toArray⟩ : ByteArray).size = x.length := by show x.toArray.size = _; rw [List.size_toArray]
theorem z0x (d : Deed) : bodyL d = (((((((((putL d.ins.length ++ d.ins.flatMap inL) ++ putL d.outs.length) ++ d.outs.flatMap outtL) ++ putL d.fee) ++ putL d.frm) ++ putL d.til) ++ putL d.certs.length) ++ d.certs.flatMap certL) ++ putL d.pays.length) ++ d.pays.flatMap payL := by
 unfold bodyL listL
 simp only [List.append_assoc]
theorem byteElem : ElemOf Tryz.prog 93 5 1 1 := elOf Tryz.underlying93 (by decide) (by kernel_rfl)
theorem x6p {ops : Array Oper} {rest : List Oper} {o : Oper} {a : Act} {w : World} {Q : Exit → Act → World → Prop} (hw : Region.wanted o (yielded ops a.tmps) = true) (x : Operand) (ho : o.op = .buildSlice 93 1 #[(0, x)]) (n : Nat) (hx : a.eval x = .int .u8 (n : Int)) (hn : n < 256)
  (hk : ∀ w2 g, w.heap.size ≤ g → Cells w2 g 0 (bvs [UInt8.ofNat n]) → Below w.heap.size w w2 → wpList Tryz.prog ops Q rest (a.put o.dst (.slice (some ⟨g, 0, none⟩) 1 1)) w2) : wpList Tryz.prog ops Q (o :: rest) a w := by
 refine q2q hw byteElem (by decide) x ho (v := .int .u8 (n : Int)) (el := [.int .u8 (n : Int)]) hx rfl rfl (by intro u hu; simp at hu; subst hu; rfl) ?_
 intro w2 g hg O hb
 refine hk w2 g hg ?_ hb
 obtain ⟨b, k, c, he, _, hcs⟩ := Sl.block (f := fun (m : Nat) => [Value.int .u8 (m : Int)]) (l := [n]) O.sl (by simp)
 simp only [Value.slice.injEq, Option.some.injEq, Addr.mk.injEq] at he
 obtain ⟨⟨rfl, rfl, -⟩, -, -⟩ := he
 have := hcs 0 n rfl
 have e : bvs [UInt8.ofNat n] = [Value.int .u8 (n : Int)] := by
  unfold bvs
  simp only [List.map_cons, List.map_nil, UInt8.toNat_ofNat', List.cons.injEq, Value.int.injEq, and_true, true_and]
  omega
 rw [e]
 simpa using this
theorem x3u {o : Oper} {a : Act} {K : Act → Prop} {w0 : World} {g k n cap : Nat} {l : List UInt8} (x : Operand) (ho : o.op = .convert 93 9 x) (hx : a.eval x = .slice (some ⟨g, k, none⟩) n cap) (h : Cells w0 g k (bvs l)) (hn : l.length = n)
  (hk : K (a.put o.dst (.string ⟨l.toArray⟩))) : o.quiet Tryz.prog a (fun w' => ∃ s : Kept (fun x => Below w0.heap.size w0 x), w' = s.w) K :=
 q2z _ (fun w hw => j9g x ho hx (Cells.later h (Kl.out hw)) hn) hk
theorem j7k (v : Value) (d : Deed) (w : World) (h : DeedIs w v d) (hf : d.Few) :
    Calls Tryz.prog 14 #[v] w fun e w' => e = .returned (.string ⟨(bodyL d).toArray⟩) ∧ Below w.heap.size w w' := by
  obtain ⟨v1, v2, v3, v4, v5, rfl, h1, h2, h3, h4, h5, ok⟩ := h
  obtain ⟨a1, c1, rfl, -⟩ := h1.shape
  obtain ⟨a2, c2, rfl, -⟩ := h2.shape
  obtain ⟨a3, c3, rfl, -⟩ := h3.shape
  obtain ⟨a4, c4, rfl, -⟩ := h4.shape
  obtain ⟨a5, c5, rfl, -⟩ := h5.shape
  have HL1 := hide ok.ins
  have HL2 := hide ok.outs
  have HL3 := hide ok.certs
  have HL4 := hide ok.pays
  have m1 := hf.ins
  have m2 := hf.outs
  have m3 := hf.certs
  have m4 := hf.pays
  have u1 : U64 d.fee := ok.fee
  have u2 : U64 d.frm := ok.frm
  have u3 : U64 d.til := ok.til
  have HC1 := hide (fun w => q5v d.fee w u1)
  have HC2 := hide (fun w => q5v d.frm w u2)
  have HC3 := hide (fun w => q5v d.til w u3)
  obtain ⟨RES, hRES⟩ : ∃ R, R = bodyL d := ⟨_, rfl⟩
  rw [← hRES]
  rw [z0x d] at hRES
  have HRES := hide hRES
  clear ok hf hRES h5 u1 u2 u3
  generalize d.wits.length = n5 at *
  generalize d.fee = f at *
  generalize d.frm = s at *
  generalize d.til = t at *
  generalize d.ins = l1 at *
  generalize d.outs = l2 at *
  generalize d.certs = l3 at *
  generalize d.pays = l4 at *
  clear d
  obtain ⟨n1, hn1⟩ : ∃ n, n = l1.length := ⟨_, rfl⟩
  have HN1 := hide hn1
  rw [← hn1] at h1 m1 HRES ⊢
  clear hn1
  obtain ⟨n2, hn2⟩ : ∃ n, n = l2.length := ⟨_, rfl⟩
  have HN2 := hide hn2
  rw [← hn2] at h2 m2 HRES ⊢
  clear hn2
  obtain ⟨n3, hn3⟩ : ∃ n, n = l3.length := ⟨_, rfl⟩
  have HN3 := hide hn3
  rw [← hn3] at h3 m3 HRES ⊢
  clear hn3
  obtain ⟨n4, hn4⟩ : ∃ n, n = l4.length := ⟨_, rfl⟩
  have HN4 := hide hn4
  rw [← hn4] at h4 m4 HRES ⊢
  clear hn4
  have b := Below.refl w.heap.size w
  have HPN := hide (fun w => q7f n1 w (by omega))
  obtain ⟨S0, hS0⟩ : ∃ u : ByteArray, u = ⟨(putL n1).toArray⟩ := ⟨_, rfl⟩
  have e0 := q0g n1
  obtain ⟨X, hX⟩ : ∃ X, X = putL n1 := ⟨_, rfl⟩
  rw [← hX] at hS0 e0 HRES
  rw [← hX, ← hS0] at HPN
  have HSN : Hid (S0 = ⟨X.toArray⟩) := hS0
  have hXL : X.length ≤ 10 := e0
  clear hS0 hX e0
  have mF1 := True.intro
  go_enter Tryz.func14, Tryz.ntmps14
  go_wp2_with (first | (with_reducible refine w2g ?_; clear mF1; refine q0x rfl _ rfl rfl rfl rfl rfl rfl rfl ?_; intro _ g1 hg1 F1 hb; (try replace b := later b hb); clear hb) | (with_reducible refine w0g ?_; first | refine q0a rfl 22 _ rfl rfl (DAt.c0 F1) (by kernel_rfl) ?_) | (go_at_call 54; refine (HPN.out _).mono ?_; rintro _ _ ⟨rfl, hc⟩; (try replace F1 := F1.later hc); (try replace b := later b hc); clear hc))
  clear HPN
  go_loopw [3, 4] (fun q i wr => ∃ (k : Nat) (S : ByteArray), i = .int .i64 k ∧ k ≤ n1 ∧ q = .string S ∧ Hid (S = ⟨(X ++ (l1.take k).flatMap inL).toArray⟩) ∧ DAt wr g1 (.slice a1 n1 c1) (.slice a2 n2 c2) (.slice a3 n3 c3) (.slice a4 n4 c4) (.slice a5 n5 c5) f s t ∧ Below w.heap.size w wr) (fun _ i _ => n1 - (RowKit.intOf i).toNat)
  case atStart => exact ⟨0, _, rfl, by omega, rfl, by rw [List.take_zero, List.flatMap_nil, List.append_nil]; exact HSN, F1, b⟩
  clear b F1 HSN
  obtain ⟨k, S, rfl, hk, rfl, HS, F1, b⟩ := hrel
  by_cases hlt : k < n1
  case pos =>
    obtain ⟨x, hx, okx⟩ := q1i HL1.out (k := k) (by rw [← HN1.out]; exact hlt)
    obtain ⟨bb, k0, c', he, _, hcs⟩ := (h1.later b).block (by rw [← HN1.out]; omega)
    simp only [Value.slice.injEq] at he
    obtain ⟨rfl, -, rfl⟩ := he
    have d1 := hcs k x hx
    have OX := hide okx
    clear hcs okx
    have HNX := hide (q3m inL l1 k x hx)
    have e0 : S.size ≤ 1290 := by
      have := q6g z0z HL1.out (by rw [← HN1.out]; omega) k
      rw [HS.out, q4r, List.length_append]
      omega
    obtain ⟨y0, hy0⟩ : ∃ u : ByteArray, u = ⟨x.tx.toArray⟩ := ⟨_, rfl⟩
    have HH0 : Hid (x.tx.length = 32) := OX.out.1
    have u0 : y0.size ≤ 32 := by rw [hy0, q4r, HH0.out]; exact Nat.le_refl _
    have HC0 := hide (fun w => q6d x.tx w HH0.out)
    rw [← hy0] at HC0
    have z0 : ¬ 9223372036854775807 < (S).size + y0.size := by omega
    obtain ⟨y1, hy1⟩ : ∃ u : ByteArray, u = ⟨(putL x.index).toArray⟩ := ⟨_, rfl⟩
    have u1 : y1.size ≤ 10 := by rw [hy1, q4r]; exact q0g _
    have HC1 := hide (fun w => q5v x.index w OX.out.2)
    rw [← hy1] at HC1
    have z1 : ¬ 9223372036854775807 < (S ++ y0).size + y1.size := by simp only [ByteArray.size_append]; omega
    have HSN : Hid (S ++ y0 ++ y1 = ⟨(X ++ (l1.take (k + 1)).flatMap inL).toArray⟩) := by
      unfold Hid
      rw [HS.out, hy0, hy1]
      simp only [j0i]
      rw [HNX.out]
      unfold inL
      simp only [List.append_assoc, List.cons_append, List.nil_append]
    clear hx e0 hy0 u0 hy1 u1 HNX
    have K0 := Cells.left (inR0 d1)
    have K1 : wr.cell? ⟨bb, k0 + k * 33 + 32, none⟩ = some (.int .u64 x.index) := (inR1 d1 OX.out).one
    go_wp2_with (first | (with_reducible refine w0g ?_; first | refine q0a rfl 22 _ rfl rfl (DAt.c0 F1) (by kernel_rfl) ?_) | (with_reducible show Code.wp _ (Code.region _ _ true) _ _ _; fail))
    refine q0e (by kernel_rfl) (by kernel_rfl) ?_
    repeat ((go_big_quiet_want; first | ((with_reducible refine w28g ?_); first | (refine q0d 22 _ rfl rfl (DAt.c0 F1) (by kernel_rfl) ?_; simp only [pS]; go_big_quiet_on) | (refine q0m _ rfl rfl (K0) (HH0.out) ?_; simp only [pS]; go_big_quiet_on) | (refine q0d 24 _ rfl rfl (K1) (by kernel_rfl) ?_; simp only [pS]; go_big_quiet_on)) | (go_big_quiet_op; first | go_big_quiet_on | (refine ⟨_, fun _ => q0f (HC0.out _), ?_⟩; go_big_quiet_on) | (refine ⟨_, fun _ => q0f (HC1.out _), ?_⟩; go_big_quiet_on))))
    refine wpQuiet_nil ?_
    intro _ hq
    (try replace F1 := F1.later hq); (try replace b := later b hq)
    clear hq z0 z1 K0 K1
    generalize S ++ y0 ++ y1 = T at *
    go_wp2_with fail
    first
      | (go_roundw
         case rel => exact ⟨k + 1, T, by simp, by omega, rfl, HSN, F1, b⟩)
      | (refine ⟨?_, ?measure⟩; (repeat apply Exists.intro); refine ⟨?rel, rfl⟩
         case rel => exact ⟨k + 1, T, by simp, by omega, rfl, HSN, F1, b⟩)
    case measure => simp [RowKit.intOf]; omega
  obtain rfl : n1 = k := by omega
  rw [List.take_of_length_le (by rw [← HN1.out]; exact Nat.le_refl _)] at HS
  clear hlt hk
  obtain ⟨Y, hY⟩ : ∃ QQ, QQ = ((X ++ l1.flatMap inL) ++ putL n2) := ⟨_, rfl⟩
  have e0 : S.size ≤ 1290 := by
    have := q6g z0z HL1.out (by rw [← HN1.out]; omega) 8
    rw [List.take_of_length_le (by rw [← HN1.out]; omega)] at this
    rw [HS.out, q4r, List.length_append]
    omega
  have HPN := hide (fun w => q7f n2 w (by omega))
  obtain ⟨x1, hx1⟩ : ∃ u : ByteArray, u = ⟨(putL n2).toArray⟩ := ⟨_, rfl⟩
  have e2 : x1.size ≤ 10 := by rw [hx1, q4r]; exact q0g n2
  rw [← hx1] at HPN
  have z1 : ¬ 9223372036854775807 < S.size + x1.size := by omega
  have HSN : Hid (S ++ x1 = ⟨Y.toArray⟩) := by
    unfold Hid
    rw [HS.out, hx1, j0i, hY]
  have hYL : Y.length ≤ 1300 := by
    have h1 : (S ++ x1).size = Y.length := by rw [HSN.out, q4r]
    rw [← h1, ByteArray.size_append]
    omega
  rw [← hY] at HRES
  clear hx1 e0 e2 HS hY
  go_wp2_with (first | (with_reducible refine w0g ?_; first | refine q0a rfl 22 _ rfl rfl (DAt.c0 F1) (by kernel_rfl) ?_ | refine q0a rfl 23 _ rfl rfl (DAt.c1 F1) (by kernel_rfl) ?_) | (go_at_call 54; refine (HPN.out _).mono ?_; rintro _ _ ⟨rfl, hc⟩; (try replace F1 := F1.later hc); (try replace b := later b hc); clear hc))
  clear HPN z1
  generalize S ++ x1 = T at *
  go_loopw [3, 5] (fun q i wr => ∃ (k : Nat) (S : ByteArray), i = .int .i64 k ∧ k ≤ n2 ∧ q = .string S ∧ Hid (S = ⟨(Y ++ (l2.take k).flatMap outtL).toArray⟩) ∧ DAt wr g1 (.slice a1 n1 c1) (.slice a2 n2 c2) (.slice a3 n3 c3) (.slice a4 n4 c4) (.slice a5 n5 c5) f s t ∧ Below w.heap.size w wr) (fun _ i _ => n2 - (RowKit.intOf i).toNat)
  case atStart => exact ⟨0, _, rfl, by omega, rfl, by rw [List.take_zero, List.flatMap_nil, List.append_nil]; exact HSN, F1, b⟩
  clear b F1 HSN
  obtain ⟨k, S, rfl, hk, rfl, HS, F1, b⟩ := hrel
  by_cases hlt : k < n2
  case pos =>
    obtain ⟨x, hx, okx⟩ := q1i HL2.out (k := k) (by rw [← HN2.out]; exact hlt)
    obtain ⟨bb, k0, c', he, _, hcs⟩ := (h2.later b).block (by rw [← HN2.out]; omega)
    simp only [Value.slice.injEq] at he
    obtain ⟨rfl, -, rfl⟩ := he
    have d1 := hcs k x hx
    have OX := hide okx
    clear hcs okx
    have HNX := hide (q3m outtL l2 k x hx)
    have e0 : S.size ≤ 2580 := by
      have := q6g x6l HL2.out (by rw [← HN2.out]; omega) k
      rw [HS.out, q4r, List.length_append]
      omega
    obtain ⟨y0, hy0⟩ : ∃ u : ByteArray, u = ⟨x.dst.toArray⟩ := ⟨_, rfl⟩
    have HH0 : Hid (x.dst.length = 32) := OX.out.1
    have u0 : y0.size ≤ 32 := by rw [hy0, q4r, HH0.out]; exact Nat.le_refl _
    have HC0 := hide (fun w => q6d x.dst w HH0.out)
    rw [← hy0] at HC0
    have z0 : ¬ 9223372036854775807 < (S).size + y0.size := by omega
    obtain ⟨y1, hy1⟩ : ∃ u : ByteArray, u = ⟨x.stake.toArray⟩ := ⟨_, rfl⟩
    have HH1 : Hid (x.stake.length = 32) := OX.out.2.1
    have u1 : y1.size ≤ 32 := by rw [hy1, q4r, HH1.out]; exact Nat.le_refl _
    have HC1 := hide (fun w => q6d x.stake w HH1.out)
    rw [← hy1] at HC1
    have z1 : ¬ 9223372036854775807 < (S ++ y0).size + y1.size := by simp only [ByteArray.size_append]; omega
    obtain ⟨y2, hy2⟩ : ∃ u : ByteArray, u = ⟨(putL x.amount).toArray⟩ := ⟨_, rfl⟩
    have u2 : y2.size ≤ 10 := by rw [hy2, q4r]; exact q0g _
    have HC2 := hide (fun w => q5v x.amount w OX.out.2.2)
    rw [← hy2] at HC2
    have z2 : ¬ 9223372036854775807 < (S ++ y0 ++ y1).size + y2.size := by simp only [ByteArray.size_append]; omega
    have HSN : Hid (S ++ y0 ++ y1 ++ y2 = ⟨(Y ++ (l2.take (k + 1)).flatMap outtL).toArray⟩) := by
      unfold Hid
      rw [HS.out, hy0, hy1, hy2]
      simp only [j0i]
      rw [HNX.out]
      unfold outtL
      simp only [List.append_assoc, List.cons_append, List.nil_append]
    clear hx e0 hy0 u0 hy1 u1 hy2 u2 HNX
    have K0 := Cells.left (outR0 d1)
    have K1 := Cells.left (outR1 d1 OX.out)
    have K2 : wr.cell? ⟨bb, k0 + k * 65 + 64, none⟩ = some (.int .u64 x.amount) := (outR2 d1 OX.out).one
    go_wp2_with (first | (with_reducible refine w0g ?_; first | refine q0a rfl 23 _ rfl rfl (DAt.c1 F1) (by kernel_rfl) ?_) | (with_reducible show Code.wp _ (Code.region _ _ true) _ _ _; fail))
    refine q0e (by kernel_rfl) (by kernel_rfl) ?_
    repeat ((go_big_quiet_want; first | ((with_reducible refine w28g ?_); first | (refine q0d 23 _ rfl rfl (DAt.c1 F1) (by kernel_rfl) ?_; simp only [pS]; go_big_quiet_on) | (refine q0m _ rfl rfl (K0) (HH0.out) ?_; simp only [pS]; go_big_quiet_on) | (refine q0m _ rfl rfl (K1) (HH1.out) ?_; simp only [pS]; go_big_quiet_on) | (refine q0d 24 _ rfl rfl (K2) (by kernel_rfl) ?_; simp only [pS]; go_big_quiet_on)) | (go_big_quiet_op; first | go_big_quiet_on | (refine ⟨_, fun _ => q0f (HC0.out _), ?_⟩; clear HC0; go_big_quiet_on) | (refine ⟨_, fun _ => q0f (HC1.out _), ?_⟩; go_big_quiet_on) | (refine ⟨_, fun _ => q0f (HC2.out _), ?_⟩; go_big_quiet_on))))
    refine wpQuiet_nil ?_
    intro _ hq
    (try replace F1 := F1.later hq); (try replace b := later b hq)
    clear hq z0 z1 z2 K0 K1 K2
    generalize S ++ y0 ++ y1 ++ y2 = T at *
    go_wp2_with fail
    first
      | (go_roundw
         case rel => exact ⟨k + 1, T, by simp, by omega, rfl, HSN, F1, b⟩)
      | (refine ⟨?_, ?measure⟩; (repeat apply Exists.intro); refine ⟨?rel, rfl⟩
         case rel => exact ⟨k + 1, T, by simp, by omega, rfl, HSN, F1, b⟩)
    case measure => simp [RowKit.intOf]; omega
  obtain rfl : n2 = k := by omega
  rw [List.take_of_length_le (by rw [← HN2.out]; exact Nat.le_refl _)] at HS
  clear hlt hk
  obtain ⟨Z, hZ⟩ : ∃ QQ, QQ = (((((Y ++ l2.flatMap outtL) ++ putL f) ++ putL s) ++ putL t) ++ putL n3) := ⟨_, rfl⟩
  have e0 : S.size ≤ 2580 := by
    have := q6g x6l HL2.out (by rw [← HN2.out]; omega) 8
    rw [List.take_of_length_le (by rw [← HN2.out]; omega)] at this
    rw [HS.out, q4r, List.length_append]
    omega
  have HPN := hide (fun w => q7f n3 w (by omega))
  obtain ⟨x1, hx1⟩ : ∃ u : ByteArray, u = ⟨(putL f).toArray⟩ := ⟨_, rfl⟩
  obtain ⟨x2, hx2⟩ : ∃ u : ByteArray, u = ⟨(putL s).toArray⟩ := ⟨_, rfl⟩
  obtain ⟨x3, hx3⟩ : ∃ u : ByteArray, u = ⟨(putL t).toArray⟩ := ⟨_, rfl⟩
  obtain ⟨x4, hx4⟩ : ∃ u : ByteArray, u = ⟨(putL n3).toArray⟩ := ⟨_, rfl⟩
  have e1 : x1.size ≤ 10 := by rw [hx1, q4r]; exact q0g _
  have e2 : x2.size ≤ 10 := by rw [hx2, q4r]; exact q0g _
  have e3 : x3.size ≤ 10 := by rw [hx3, q4r]; exact q0g _
  have e4 : x4.size ≤ 10 := by rw [hx4, q4r]; exact q0g _
  rw [← hx1] at HC1
  rw [← hx2] at HC2
  rw [← hx3] at HC3
  rw [← hx4] at HPN
  have z1 : ¬ 9223372036854775807 < S.size + x1.size := by omega
  have z2 : ¬ 9223372036854775807 < (S ++ x1).size + x2.size := by simp only [ByteArray.size_append]; omega
  have z3 : ¬ 9223372036854775807 < (S ++ x1 ++ x2).size + x3.size := by simp only [ByteArray.size_append]; omega
  have z4 : ¬ 9223372036854775807 < (S ++ x1 ++ x2 ++ x3).size + x4.size := by simp only [ByteArray.size_append]; omega
  have HSN : Hid (S ++ x1 ++ x2 ++ x3 ++ x4 = ⟨Z.toArray⟩) := by
    unfold Hid
    rw [HS.out, hx1, hx2, hx3, hx4, hZ]
    simp only [j0i]
  have hZL : Z.length ≤ 2620 := by
    have h1 : (S ++ x1 ++ x2 ++ x3 ++ x4).size = Z.length := by rw [HSN.out, q4r]
    rw [← h1]
    simp only [ByteArray.size_append]
    omega
  rw [← hZ] at HRES
  clear hx1 hx2 hx3 hx4 e0 e1 e2 e3 e4 HS hZ
  go_wp2_with (first | (with_reducible refine w0g ?_; first | refine q0a rfl 23 _ rfl rfl (DAt.c1 F1) (by kernel_rfl) ?_) | (with_reducible show Code.wp _ (Code.region _ _ true) _ _ _; fail))
  refine q0e (by kernel_rfl) (by kernel_rfl) ?_
  repeat ((go_big_quiet_want; first | ((with_reducible refine w28g ?_); first | (refine q0d 24 _ rfl rfl (DAt.c2 F1) (by kernel_rfl) ?_; simp only [pS]; go_big_quiet_on) | (refine q0d 24 _ rfl rfl (DAt.c3 F1) (by kernel_rfl) ?_; simp only [pS]; go_big_quiet_on) | (refine q0d 24 _ rfl rfl (DAt.c4 F1) (by kernel_rfl) ?_; simp only [pS]; go_big_quiet_on) | (refine q0d 25 _ rfl rfl (DAt.c5 F1) (by kernel_rfl) ?_; simp only [pS]; go_big_quiet_on)) | (go_big_quiet_op; first | go_big_quiet_on | (refine ⟨_, fun _ => q0f (HPN.out _), ?_⟩; go_big_quiet_on) | (refine ⟨_, fun _ => q0f (HC1.out _), ?_⟩; clear HC1; go_big_quiet_on) | (refine ⟨_, fun _ => q0f (HC2.out _), ?_⟩; clear HC2; go_big_quiet_on) | (refine ⟨_, fun _ => q0f (HC3.out _), ?_⟩; go_big_quiet_on))))
  refine wpQuiet_nil ?_
  intro _ hq
  (try replace F1 := F1.later hq); (try replace b := later b hq)
  clear hq HPN z1 z2 z3 z4
  generalize S ++ x1 ++ x2 ++ x3 ++ x4 = T at *
  go_wp2_with fail
  go_loopw [3, 6] (fun q i wr => ∃ (k : Nat) (S : ByteArray), i = .int .i64 k ∧ k ≤ n3 ∧ q = .string S ∧ Hid (S = ⟨(Z ++ (l3.take k).flatMap certL).toArray⟩) ∧ DAt wr g1 (.slice a1 n1 c1) (.slice a2 n2 c2) (.slice a3 n3 c3) (.slice a4 n4 c4) (.slice a5 n5 c5) f s t ∧ Below w.heap.size w wr) (fun _ i _ => n3 - (RowKit.intOf i).toNat)
  case atStart => exact ⟨0, _, rfl, by omega, rfl, by rw [List.take_zero, List.flatMap_nil, List.append_nil]; exact HSN, F1, b⟩
  clear b F1 HSN
  obtain ⟨k, S, rfl, hk, rfl, HS, F1, b⟩ := hrel
  by_cases hlt : k < n3
  case pos =>
    obtain ⟨x, hx, okx⟩ := q1i HL3.out (k := k) (by rw [← HN3.out]; exact hlt)
    obtain ⟨bb, k0, c', he, _, hcs⟩ := (h3.later b).block (by rw [← HN3.out]; omega)
    simp only [Value.slice.injEq] at he
    obtain ⟨rfl, -, rfl⟩ := he
    have d1 := hcs k x hx
    have OX := hide okx
    clear hcs okx
    have HNX := hide (q3m certL l3 k x hx)
    have e0 : S.size ≤ 3900 := by
      have := q6g j6d HL3.out (by rw [← HN3.out]; omega) k
      rw [HS.out, q4r, List.length_append]
      omega
    obtain ⟨y0, hy0⟩ : ∃ u : ByteArray, u = ⟨[UInt8.ofNat x.kind].toArray⟩ := ⟨_, rfl⟩
    have u0 : y0.size ≤ 10 := by rw [hy0, q4r]; simp
    have hkd : x.kind < 256 := OX.out.1
    have HY0 := hide hy0
    have z0 : ¬ 9223372036854775807 < (S).size + y0.size := by omega
    obtain ⟨y1, hy1⟩ : ∃ u : ByteArray, u = ⟨x.key.toArray⟩ := ⟨_, rfl⟩
    have HH1 : Hid (x.key.length = 32) := OX.out.2.1
    have u1 : y1.size ≤ 32 := by rw [hy1, q4r, HH1.out]; exact Nat.le_refl _
    have HC1 := hide (fun w => q6d x.key w HH1.out)
    rw [← hy1] at HC1
    have z1 : ¬ 9223372036854775807 < (S ++ y0).size + y1.size := by simp only [ByteArray.size_append]; omega
    obtain ⟨y2, hy2⟩ : ∃ u : ByteArray, u = ⟨x.pool.toArray⟩ := ⟨_, rfl⟩
    have HH2 : Hid (x.pool.length = 32) := OX.out.2.2.1
    have u2 : y2.size ≤ 32 := by rw [hy2, q4r, HH2.out]; exact Nat.le_refl _
    have HC2 := hide (fun w => q6d x.pool w HH2.out)
    rw [← hy2] at HC2
    have z2 : ¬ 9223372036854775807 < (S ++ y0 ++ y1).size + y2.size := by simp only [ByteArray.size_append]; omega
    obtain ⟨y3, hy3⟩ : ∃ u : ByteArray, u = ⟨(putL x.a).toArray⟩ := ⟨_, rfl⟩
    have u3 : y3.size ≤ 10 := by rw [hy3, q4r]; exact q0g _
    have HC3 := hide (fun w => q5v x.a w OX.out.2.2.2.1)
    rw [← hy3] at HC3
    have z3 : ¬ 9223372036854775807 < (S ++ y0 ++ y1 ++ y2).size + y3.size := by simp only [ByteArray.size_append]; omega
    obtain ⟨y4, hy4⟩ : ∃ u : ByteArray, u = ⟨(putL x.b).toArray⟩ := ⟨_, rfl⟩
    have u4 : y4.size ≤ 10 := by rw [hy4, q4r]; exact q0g _
    have HC4 := hide (fun w => q5v x.b w OX.out.2.2.2.2.1)
    rw [← hy4] at HC4
    have z4 : ¬ 9223372036854775807 < (S ++ y0 ++ y1 ++ y2 ++ y3).size + y4.size := by simp only [ByteArray.size_append]; omega
    obtain ⟨y5, hy5⟩ : ∃ u : ByteArray, u = ⟨(putL x.c).toArray⟩ := ⟨_, rfl⟩
    have u5 : y5.size ≤ 10 := by rw [hy5, q4r]; exact q0g _
    have HC5 := hide (fun w => q5v x.c w OX.out.2.2.2.2.2)
    rw [← hy5] at HC5
    have z5 : ¬ 9223372036854775807 < (S ++ y0 ++ y1 ++ y2 ++ y3 ++ y4).size + y5.size := by simp only [ByteArray.size_append]; omega
    have HSN : Hid (S ++ y0 ++ y1 ++ y2 ++ y3 ++ y4 ++ y5 = ⟨(Z ++ (l3.take (k + 1)).flatMap certL).toArray⟩) := by
      unfold Hid
      rw [HS.out, hy0, hy1, hy2, hy3, hy4, hy5]
      simp only [j0i]
      rw [HNX.out]
      unfold certL
      simp only [List.append_assoc, List.cons_append, List.nil_append]
    clear hx e0 hy0 u0 hy1 u1 hy2 u2 hy3 u3 hy4 u4 hy5 u5 HNX
    go_wp2_with (first | (with_reducible refine w0g ?_; first | refine q0a rfl 25 _ rfl rfl (DAt.c5 F1) (by kernel_rfl) ?_) | (with_reducible refine w0g ?_; refine q1k rfl _ rfl rfl d1 OX.out ?_) | (with_reducible refine w3g ?_; refine q3f rfl rfl ?_; intro _ g5 hg5 F3 hb; have q5 := F1.lt; replace F1 := F1.later hb; replace b := later b hb; clear hb) | (with_reducible refine w4g ?_; refine q2o rfl _ _ rfl rfl rfl OX.out F3 ?_; intro _ t1 ht1; clear F3; replace F1 := F1.tt ht1; replace b := q0b b ht1 (by omega) (Nat.le_refl _); have F3 := t1; clear t1 ht1) | (with_reducible show Code.wp _ (Code.region _ _ true) _ _ _; (try simp only [pS]); fail))
    (try simp only [pS])
    refine q1m (fun x => Below _ _ x) (.fl [0, 1, 2, 6, 7, 10, 11, 14, 15, 18, 19, 22, 23] 8 (.fl [] 12 (.fl [] 16 (.fl [] 20 (.fl [] 24 (.one [] 3 (.stop [4, 5, 9, 13, 17, 21, 25, 26]))))))) (by kernel_rfl) (by kernel_rfl) (by kernel_rfl) (by decide) (q3h (Nat.le_refl _)) (Below.refl _ _) ?_
    intro _ _ _ _
    refine q7m ?_
    simp only [pickOps, opAt, List.getElem?_cons_succ, List.getElem?_cons_zero, List.nil_append, List.cons_append]
    repeat ((go_big_quiet_want; first | ((with_reducible refine w28g ?_); first | (first | (refine q5u 5 _ rfl rfl (CertAt.kind F3) (by kernel_rfl) ?_; simp only [pS]; go_big_quiet_on) | (refine q5m _ rfl rfl (CertAt.key F3) HH1.out ?_; simp only [pS]; go_big_quiet_on) | (refine q5m _ rfl rfl (CertAt.pool F3) HH2.out ?_; simp only [pS]; go_big_quiet_on) | (refine q5u 24 _ rfl rfl (CertAt.a F3) (by kernel_rfl) ?_; simp only [pS]; go_big_quiet_on) | (refine q5u 24 _ rfl rfl (CertAt.b F3) (by kernel_rfl) ?_; simp only [pS]; go_big_quiet_on) | (refine q5u 24 _ rfl rfl (CertAt.c F3) (by kernel_rfl) ?_; simp only [pS]; go_big_quiet_on))) | (go_big_quiet_op; first | go_big_quiet_on)))
    refine wpQuiet_nil ?_
    refine q7p (by rfl) rfl (by kernel_rfl) (by simp only [List.map_toArray, List.map_cons, List.map_nil] <;> rfl) (fun w' hC => HC1.out w') ?_
    clear HC1
    simp only [pS]
    refine q7m ?_
    simp only [pickOps, opAt, List.getElem?_cons_succ, List.getElem?_cons_zero, List.nil_append, List.cons_append]
    repeat (fail)
    refine wpQuiet_nil ?_
    refine q7p (by rfl) rfl (by kernel_rfl) (by simp only [List.map_toArray, List.map_cons, List.map_nil] <;> rfl) (fun w' hC => HC2.out w') ?_
    clear HC2
    simp only [pS]
    refine q7m ?_
    simp only [pickOps, opAt, List.getElem?_cons_succ, List.getElem?_cons_zero, List.nil_append, List.cons_append]
    repeat (fail)
    refine wpQuiet_nil ?_
    refine q7p (by rfl) rfl (by kernel_rfl) (by simp only [List.map_toArray, List.map_cons, List.map_nil] <;> rfl) (fun w' hC => HC3.out w') ?_
    clear HC3
    simp only [pS]
    refine q7m ?_
    simp only [pickOps, opAt, List.getElem?_cons_succ, List.getElem?_cons_zero, List.nil_append, List.cons_append]
    repeat (fail)
    refine wpQuiet_nil ?_
    refine q7p (by rfl) rfl (by kernel_rfl) (by simp only [List.map_toArray, List.map_cons, List.map_nil] <;> rfl) (fun w' hC => HC4.out w') ?_
    clear HC4
    simp only [pS]
    refine q7m ?_
    simp only [pickOps, opAt, List.getElem?_cons_succ, List.getElem?_cons_zero, List.nil_append, List.cons_append]
    repeat (fail)
    refine wpQuiet_nil ?_
    refine q7p (by rfl) rfl (by kernel_rfl) (by simp only [List.map_toArray, List.map_cons, List.map_nil] <;> rfl) (fun w' hC => HC5.out w') ?_
    clear HC5
    simp only [pS]
    refine q0w ?_
    simp only [pickOps, opAt, List.getElem?_cons_succ, List.getElem?_cons_zero, List.nil_append, List.cons_append]
    repeat (fail)
    refine wpQuiet_nil ?_
    intro _ hb k'
    replace F1 := F1.later k'
    replace b := later b k'
    clear hb
    refine x6p rfl _ rfl x.kind rfl hkd ?_
    intro wz g9 hg9 O1 hb
    replace F1 := F1.later hb
    replace b := later b hb
    replace k' := later k' hb
    clear hb hg9
    refine q6y (q3h (Nat.le_refl _)) k' ?_
    clear k'
    (try simp only [pS])
    refine q2l ?_
    simp only [pickOps, opAt, List.getElem?_cons_succ, List.getElem?_cons_zero, List.nil_append, List.cons_append]
    (repeat ((go_big_quiet_want; first | ((with_reducible show Oper.quiet _ ⟨_, Op.convert _ _ _, _, _, _, _⟩ _ _ _); refine x3u _ rfl rfl O1 rfl ?_; rw [← HY0.out]; simp only [pS]; go_big_quiet_on) | (go_big_quiet_op; go_big_quiet_on))))
    refine wpQuiet_nil ?_
    intro _ hb k'
    replace F1 := F1.later k'
    replace b := later b k'
    clear hb k' O1 HY0 F3 z0 z1 z2 z3 z4 z5
    generalize S ++ y0 ++ y1 ++ y2 ++ y3 ++ y4 ++ y5 = T at *
    go_wp2_with fail
    first
      | (go_roundw
         case rel => exact ⟨k + 1, T, by simp, by omega, rfl, HSN, F1, b⟩)
      | (refine ⟨?_, ?measure⟩; (repeat apply Exists.intro); refine ⟨?rel, rfl⟩
         case rel => exact ⟨k + 1, T, by simp, by omega, rfl, HSN, F1, b⟩)
    case measure => simp [RowKit.intOf]; omega
  obtain rfl : n3 = k := by omega
  rw [List.take_of_length_le (by rw [← HN3.out]; exact Nat.le_refl _)] at HS
  clear hlt hk
  obtain ⟨V, hV⟩ : ∃ QQ, QQ = ((Z ++ l3.flatMap certL) ++ putL n4) := ⟨_, rfl⟩
  have e0 : S.size ≤ 3900 := by
    have := q6g j6d HL3.out (by rw [← HN3.out]; omega) 8
    rw [List.take_of_length_le (by rw [← HN3.out]; omega)] at this
    rw [HS.out, q4r, List.length_append]
    omega
  have HPN := hide (fun w => q7f n4 w (by omega))
  obtain ⟨x1, hx1⟩ : ∃ u : ByteArray, u = ⟨(putL n4).toArray⟩ := ⟨_, rfl⟩
  have e2 : x1.size ≤ 10 := by rw [hx1, q4r]; exact q0g n4
  rw [← hx1] at HPN
  have z1 : ¬ 9223372036854775807 < S.size + x1.size := by omega
  have HSN : Hid (S ++ x1 = ⟨V.toArray⟩) := by
    unfold Hid
    rw [HS.out, hx1, j0i, hV]
  have hVL : V.length ≤ 3910 := by
    have h1 : (S ++ x1).size = V.length := by rw [HSN.out, q4r]
    rw [← h1, ByteArray.size_append]
    omega
  rw [← hV] at HRES
  clear hx1 e0 e2 HS hV
  go_wp2_with (first | (with_reducible refine w0g ?_; first | refine q0a rfl 25 _ rfl rfl (DAt.c5 F1) (by kernel_rfl) ?_ | refine q0a rfl 26 _ rfl rfl (DAt.c6 F1) (by kernel_rfl) ?_) | (go_at_call 54; refine (HPN.out _).mono ?_; rintro _ _ ⟨rfl, hc⟩; (try replace F1 := F1.later hc); (try replace b := later b hc); clear hc))
  clear HPN z1
  generalize S ++ x1 = T at *
  go_loopw [3, 8] (fun q i wr => ∃ (k : Nat) (S : ByteArray), i = .int .i64 k ∧ k ≤ n4 ∧ q = .string S ∧ Hid (S = ⟨(V ++ (l4.take k).flatMap payL).toArray⟩) ∧ DAt wr g1 (.slice a1 n1 c1) (.slice a2 n2 c2) (.slice a3 n3 c3) (.slice a4 n4 c4) (.slice a5 n5 c5) f s t ∧ Below w.heap.size w wr) (fun _ i _ => n4 - (RowKit.intOf i).toNat)
  case atStart => exact ⟨0, _, rfl, by omega, rfl, by rw [List.take_zero, List.flatMap_nil, List.append_nil]; exact HSN, F1, b⟩
  clear b F1 HSN
  obtain ⟨k, S, rfl, hk, rfl, HS, F1, b⟩ := hrel
  by_cases hlt : k < n4
  case pos =>
    obtain ⟨x, hx, okx⟩ := q1i HL4.out (k := k) (by rw [← HN4.out]; exact hlt)
    obtain ⟨bb, k0, c', he, _, hcs⟩ := (h4.later b).block (by rw [← HN4.out]; omega)
    simp only [Value.slice.injEq] at he
    obtain ⟨rfl, -, rfl⟩ := he
    have d1 := hcs k x hx
    have OX := hide okx
    clear hcs okx
    have HNX := hide (q3m payL l4 k x hx)
    have e0 : S.size ≤ 5190 := by
      have := q6g z1x HL4.out (by rw [← HN4.out]; omega) k
      rw [HS.out, q4r, List.length_append]
      omega
    obtain ⟨y0, hy0⟩ : ∃ u : ByteArray, u = ⟨x.key.toArray⟩ := ⟨_, rfl⟩
    have HH0 : Hid (x.key.length = 32) := OX.out.1
    have u0 : y0.size ≤ 32 := by rw [hy0, q4r, HH0.out]; exact Nat.le_refl _
    have HC0 := hide (fun w => q6d x.key w HH0.out)
    rw [← hy0] at HC0
    have z0 : ¬ 9223372036854775807 < (S).size + y0.size := by omega
    obtain ⟨y1, hy1⟩ : ∃ u : ByteArray, u = ⟨(putL x.amount).toArray⟩ := ⟨_, rfl⟩
    have u1 : y1.size ≤ 10 := by rw [hy1, q4r]; exact q0g _
    have HC1 := hide (fun w => q5v x.amount w OX.out.2)
    rw [← hy1] at HC1
    have z1 : ¬ 9223372036854775807 < (S ++ y0).size + y1.size := by simp only [ByteArray.size_append]; omega
    have HSN : Hid (S ++ y0 ++ y1 = ⟨(V ++ (l4.take (k + 1)).flatMap payL).toArray⟩) := by
      unfold Hid
      rw [HS.out, hy0, hy1]
      simp only [j0i]
      rw [HNX.out]
      unfold payL
      simp only [List.append_assoc, List.cons_append, List.nil_append]
    clear hx e0 hy0 u0 hy1 u1 HNX
    have K0 := Cells.left (payR0 d1)
    have K1 : wr.cell? ⟨bb, k0 + k * 33 + 32, none⟩ = some (.int .u64 x.amount) := (payR1 d1 OX.out).one
    go_wp2_with (first | (with_reducible refine w0g ?_; first | refine q0a rfl 26 _ rfl rfl (DAt.c6 F1) (by kernel_rfl) ?_) | (with_reducible show Code.wp _ (Code.region _ _ true) _ _ _; fail))
    refine q0e (by kernel_rfl) (by kernel_rfl) ?_
    repeat ((go_big_quiet_want; first | ((with_reducible refine w28g ?_); first | (refine q0d 26 _ rfl rfl (DAt.c6 F1) (by kernel_rfl) ?_; simp only [pS]; go_big_quiet_on) | (refine q0m _ rfl rfl (K0) (HH0.out) ?_; simp only [pS]; go_big_quiet_on) | (refine q0d 24 _ rfl rfl (K1) (by kernel_rfl) ?_; simp only [pS]; go_big_quiet_on)) | (go_big_quiet_op; first | go_big_quiet_on | (refine ⟨_, fun _ => q0f (HC0.out _), ?_⟩; go_big_quiet_on) | (refine ⟨_, fun _ => q0f (HC1.out _), ?_⟩; go_big_quiet_on))))
    refine wpQuiet_nil ?_
    intro _ hq
    (try replace F1 := F1.later hq); (try replace b := later b hq)
    clear hq z0 z1 K0 K1
    generalize S ++ y0 ++ y1 = T at *
    go_wp2_with fail
    first
      | (go_roundw
         case rel => exact ⟨k + 1, T, by simp, by omega, rfl, HSN, F1, b⟩)
      | (refine ⟨?_, ?measure⟩; (repeat apply Exists.intro); refine ⟨?rel, rfl⟩
         case rel => exact ⟨k + 1, T, by simp, by omega, rfl, HSN, F1, b⟩)
    case measure => simp [RowKit.intOf]; omega
  obtain rfl : n4 = k := by omega
  rw [List.take_of_length_le (by rw [← HN4.out]; exact Nat.le_refl _)] at HS
  clear hlt hk
  have HF : Hid (S = ⟨RES.toArray⟩) := by rw [HRES.out]; exact HS
  clear HS
  go_wp2_with (with_reducible refine w0g ?_; first | refine q0a rfl 26 _ rfl rfl (DAt.c6 F1) (by kernel_rfl) ?_)
  go_ret
  exact ⟨by rw [← HF.out]; rfl, b⟩
theorem x2t {l : List WitT} (ho : ∀ x ∈ l, x.Ok) (hz : ∀ x ∈ l, x.sig.size = 1024) (hm : l.length ≤ 8) (k : Nat) : ((l.take k).flatMap witL).length ≤ 8800 := by
 have h1 := q3g witL (l.take k) 1100 (fun y hy => x6h y (ho y (List.mem_of_mem_take hy)) (hz y (List.mem_of_mem_take hy)))
 have h2 : (l.take k).length ≤ 8 := by rw [List.length_take]; omega
 have h3 : (l.take k).length * 1100 ≤ 8 * 1100 := Nat.mul_le_mul_right _ h2
 omega
theorem x9k (d : Deed) : fullL d = (bodyL d ++ putL d.wits.length) ++ d.wits.flatMap witL := by
 unfold fullL listL
 simp only [List.append_assoc]
theorem z0w (s : ByteArray) : s = ⟨s.data.toList.toArray⟩ := rfl
theorem j0l (v : Value) (d : Deed) (w : World) (h : DeedIs w v d) (hf : d.FewW) :
    Calls Tryz.prog 15 #[v] w fun e w' => e = .returned (.string ⟨(fullL d).toArray⟩) ∧ Below w.heap.size w w' := by
  have HB := hide (fun (w' : World) (hb : Below w.heap.size w w') => j7k v d w' (h.later hb) hf.few)
  have hbl := j6h hf.few
  obtain ⟨v1, v2, v3, v4, v5, rfl, h1, h2, h3, h4, h5, ok⟩ := h
  obtain ⟨a1, c1, rfl, -⟩ := h1.shape
  obtain ⟨a2, c2, rfl, -⟩ := h2.shape
  obtain ⟨a3, c3, rfl, -⟩ := h3.shape
  obtain ⟨a4, c4, rfl, -⟩ := h4.shape
  obtain ⟨a5, c5, rfl, -⟩ := h5.shape
  have HL5 := hide ok.wits
  have HZ5 := hide hf.sigs
  have m5 := hf.wits
  obtain ⟨RES, hRES⟩ : ∃ R, R = fullL d := ⟨_, rfl⟩
  rw [← hRES]
  rw [x9k d] at hRES
  have HRES := hide hRES
  clear ok hf hRES h1 h2 h3 h4
  generalize bodyL d = BD at *
  generalize d.fee = f at *
  generalize d.frm = s at *
  generalize d.til = t at *
  generalize d.ins.length = n1 at *
  generalize d.outs.length = n2 at *
  generalize d.certs.length = n3 at *
  generalize d.pays.length = n4 at *
  generalize d.wits = l5 at *
  clear d
  obtain ⟨n5, hn5⟩ : ∃ n, n = l5.length := ⟨_, rfl⟩
  have HN5 := hide hn5
  rw [← hn5] at h5 m5 HRES HB ⊢
  clear hn5
  have b := Below.refl w.heap.size w
  have HPN := hide (fun w => q7f n5 w (by omega))
  obtain ⟨S, hS⟩ : ∃ u : ByteArray, u = ⟨BD.toArray⟩ := ⟨_, rfl⟩
  have e1 : S.size ≤ 5300 := by rw [hS, q4r]; exact hbl
  rw [← hS] at HB
  obtain ⟨x1, hx1⟩ : ∃ u : ByteArray, u = ⟨(putL n5).toArray⟩ := ⟨_, rfl⟩
  have e2 : x1.size ≤ 10 := by rw [hx1, q4r]; exact q0g _
  rw [← hx1] at HPN
  have z1 : ¬ 9223372036854775807 < S.size + x1.size := by omega
  obtain ⟨X, hX⟩ : ∃ X, X = BD ++ putL n5 := ⟨_, rfl⟩
  rw [← hX] at HRES
  have HSN : Hid (S ++ x1 = ⟨X.toArray⟩) := by
    unfold Hid
    rw [hS, hx1, j0i, hX]
  have hXL : X.length ≤ 5310 := by
    have h1 : (S ++ x1).size = X.length := by rw [HSN.out, q4r]
    rw [← h1, ByteArray.size_append]
    omega
  clear hS hx1 e1 e2 hX hbl
  have mF1 := True.intro
  go_enter Tryz.func15, Tryz.ntmps15
  go_wp2_with (first | (with_reducible refine w2g ?_; clear mF1; refine q0x rfl _ rfl rfl rfl rfl rfl rfl rfl ?_; intro _ g1 hg1 F1 hb; (try replace b := later b hb); clear hb) | (with_reducible show Code.wp _ (Code.region _ _ true) _ _ _; fail))
  refine q0e (by kernel_rfl) (by kernel_rfl) ?_
  repeat ((go_big_quiet_want; first | ((with_reducible refine w28g ?_); first | (refine q0d 27 _ rfl rfl (DAt.c7 F1) (by kernel_rfl) ?_; simp only [pS]; go_big_quiet_on) | (refine q9v _ rfl rfl F1 ?_; simp only [pS]; go_big_quiet_on)) | (go_big_quiet_op; first | go_big_quiet_on | (refine ⟨_, fun _ => q0f (HPN.out _), ?_⟩; go_big_quiet_on) | (refine ⟨_, fun s => q0f (HB.out _ (later b s.ok)), ?_⟩; go_big_quiet_on))))
  refine wpQuiet_nil ?_
  intro _ hq
  (try replace F1 := F1.later hq); (try replace b := later b hq)
  clear hq HPN HB z1
  generalize S ++ x1 = T at *
  go_wp2_with fail
  go_loopw [3, 4] (fun q i wr => ∃ (k : Nat) (S : ByteArray), i = .int .i64 k ∧ k ≤ n5 ∧ q = .string S ∧ Hid (S = ⟨(X ++ (l5.take k).flatMap witL).toArray⟩) ∧ DAt wr g1 (.slice a1 n1 c1) (.slice a2 n2 c2) (.slice a3 n3 c3) (.slice a4 n4 c4) (.slice a5 n5 c5) f s t ∧ Below w.heap.size w wr) (fun _ i _ => n5 - (RowKit.intOf i).toNat)
  case atStart => exact ⟨0, _, rfl, by omega, rfl, by rw [List.take_zero, List.flatMap_nil, List.append_nil]; exact HSN, F1, b⟩
  clear b F1 HSN
  obtain ⟨k, S, rfl, hk, rfl, HS, F1, b⟩ := hrel
  by_cases hlt : k < n5
  case pos =>
    obtain ⟨x, hx, okx⟩ := q1i HL5.out (k := k) (by rw [← HN5.out]; exact hlt)
    have hsz := HZ5.out x (List.mem_of_getElem? hx)
    obtain ⟨bb, k0, c', he, _, hcs⟩ := (h5.later b).block (by rw [← HN5.out]; omega)
    simp only [Value.slice.injEq] at he
    obtain ⟨rfl, -, rfl⟩ := he
    have d1 := hcs k x hx
    have OX := hide okx
    clear hcs okx
    have HNX := hide (q3m witL l5 k x hx)
    have e0 : S.size ≤ 14110 := by
      have := x2t HL5.out HZ5.out (by rw [← HN5.out]; omega) k
      rw [HS.out, q4r, List.length_append]
      omega
    obtain ⟨y0, hy0⟩ : ∃ u : ByteArray, u = ⟨x.key.toArray⟩ := ⟨_, rfl⟩
    have HH0 : Hid (x.key.length = 32) := OX.out
    have u0 : y0.size ≤ 32 := by rw [hy0, q4r, HH0.out]; exact Nat.le_refl _
    have HC0 := hide (fun w => q6d x.key w HH0.out)
    rw [← hy0] at HC0
    have z0 : ¬ 9223372036854775807 < S.size + y0.size := by omega
    have z1 : ¬ 9223372036854775807 < (S ++ y0).size + x.sig.size := by simp only [ByteArray.size_append]; omega
    have HSN : Hid (S ++ y0 ++ x.sig = ⟨(X ++ (l5.take (k + 1)).flatMap witL).toArray⟩) := by
      unfold Hid
      rw [HS.out, hy0, z0w x.sig]
      simp only [j0i]
      rw [HNX.out]
      unfold witL
      simp only [List.append_assoc]
    have K0 := Cells.left (witR0 d1)
    have K1 : wr.cell? ⟨bb, k0 + k * 33 + 32, none⟩ = some (.string x.sig) := (witR1 d1 OX.out).one
    clear hx e0 hy0 u0 HNX hsz
    go_wp2_with (first | (with_reducible refine w0g ?_; first | refine q0a rfl 27 _ rfl rfl (DAt.c7 F1) (by kernel_rfl) ?_) | (with_reducible show Code.wp _ (Code.region _ _ true) _ _ _; fail))
    refine q0e (by kernel_rfl) (by kernel_rfl) ?_
    repeat ((go_big_quiet_want; first | ((with_reducible refine w28g ?_); first | (refine q0d 27 _ rfl rfl (DAt.c7 F1) (by kernel_rfl) ?_; simp only [pS]; go_big_quiet_on) | (refine q0m _ rfl rfl (K0) (HH0.out) ?_; simp only [pS]; go_big_quiet_on) | (refine q0d 9 _ rfl rfl (K1) (by kernel_rfl) ?_; simp only [pS]; go_big_quiet_on)) | (go_big_quiet_op; first | go_big_quiet_on | (refine ⟨_, fun _ => q0f (HC0.out _), ?_⟩; go_big_quiet_on))))
    refine wpQuiet_nil ?_
    intro _ hq
    (try replace F1 := F1.later hq); (try replace b := later b hq)
    clear hq z0 z1 K0 K1
    generalize S ++ y0 ++ x.sig = T at *
    go_wp2_with fail
    first
      | (go_roundw
         case rel => exact ⟨k + 1, T, by simp, by omega, rfl, HSN, F1, b⟩)
      | (refine ⟨?_, ?measure⟩; (repeat apply Exists.intro); refine ⟨?rel, rfl⟩
         case rel => exact ⟨k + 1, T, by simp, by omega, rfl, HSN, F1, b⟩)
    case measure => simp [RowKit.intOf]; omega
  obtain rfl : n5 = k := by omega
  rw [List.take_of_length_le (by rw [← HN5.out]; exact Nat.le_refl _)] at HS
  have HF : Hid (S = ⟨RES.toArray⟩) := by rw [HRES.out]; exact HS
  clear HS hlt hk
  go_wp2_with (with_reducible refine w0g ?_; first | refine q0a rfl 27 _ rfl rfl (DAt.c7 F1) (by kernel_rfl) ?_)
  go_ret
  exact ⟨by rw [← HF.out]; rfl, b⟩
theorem j9e (v : Value) (d : Deed) (w : World) (h : DeedIs w v d) (hf : d.FewW) :
  Calls Tryz.prog 17 #[v] w fun e w' => e = .returned (hv (ofX tagFull [fullL d])) ∧ Below w.heap.size w w' := by
 have HY := hide (fun (w' : World) (hb : Below w.heap.size w w') => j0l v d w' (h.later hb) hf)
 have hle := j5y hf
 have HO : Hid (∀ w, Calls Tryz.prog 57 #[.string ⟨#[102, 117, 108, 108]⟩, .string ⟨(fullL d).toArray⟩] w fun e w' => e = .returned (hv (ofX tagFull [fullL d])) ∧ Below w.heap.size w w') := fun w => j5r tagFull (fullL d) w (by decide) (by omega)
 have HL := hide (q1z tagFull [fullL d])
 obtain ⟨v1, v2, v3, v4, v5, rfl, h1, h2, h3, h4, h5, ok⟩ := h
 have o1 := h1.one'
 have o2 := h2.one'
 have o3 := h3.one'
 have o4 := h4.one'
 have o5 := h5.one'
 have b := Below.refl w.heap.size w
 clear ok h1 h2 h3 h4 h5 hf hle
 generalize d.fee = f at *
 generalize d.frm = s at *
 generalize d.til = t at *
 generalize ofX tagFull [fullL d] = R at *
 generalize (⟨(fullL d).toArray⟩ : ByteArray) = sb at *
 have mF1 := True.intro
 have mF2 := True.intro
 go_enter Tryz.func17, Tryz.ntmps17
 go_wp2_with (first | (with_reducible refine w2g ?_; clear mF1; refine q0x rfl _ rfl rfl o1 o2 o3 o4 o5 ?_; intro _ g1 hg1 F1 hb; (try replace b := later b hb); clear hb) | (with_reducible refine w3g ?_; clear mF2; refine q0r rfl rfl ?_; intro _ g2 hg2 F2 hb; (try have := F1.lt); (try have := F2.lt); (try have := b.size); (try replace F1 := F1.later hb); (try replace b := later b hb); clear hb) | (with_reducible refine w0g ?_; refine q1g rfl _ rfl rfl F1 ?_) | (go_at_call 15; refine (HY.out _ b).mono ?_; rintro _ _ ⟨rfl, hc⟩; (try replace F1 := F1.later hc); (try replace F2 := F2.later hc); (try replace b := later b hc); clear hc) | (go_at_call 57; refine (HO.out _).mono ?_; rintro _ _ ⟨rfl, hc⟩; (try replace F1 := F1.later hc); (try replace F2 := F2.later hc); (try replace b := later b hc); clear hc) | (with_reducible refine w4g ?_; refine q0k rfl _ _ rfl rfl rfl HL.out F2 ?_; intro _ t1 ht; (try replace F1 := F1.tt ht); (try replace b := q0b b ht (by omega) (by omega)); replace F2 := t1; clear ht))
 exact bodyPost_ret (q2v rfl _ _ rfl F2) rfl ⟨rfl, b⟩
end Go.Proofs.YtbbfnpfkbbpjgaaGreat
