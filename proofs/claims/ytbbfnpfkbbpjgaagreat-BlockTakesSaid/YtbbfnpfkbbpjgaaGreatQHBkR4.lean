/- The reference of layer 15: Same. -/
import Derived.Test.YtbbfnpfkbbpjgaaGreatQHBlkE
import Derived.Test.YtbbfnpfkbbpjgaaGreatQHBlkM
import Derived.Test.YtbbfnpfkbbpjgaaGreatQHDeedR
import Derived.Test.YtbbfnpfkbbpjgaaGreatQHSqOut
namespace Go.Proofs.YtbbfnpfkbbpjgaaGreat
open Go.RowKit Go.Lib
set_option linter.unusedVariables false
set_option linter.unusedSimpArgs false
set_option maxRecDepth 100000
set_option maxHeartbeats 4000000
theorem j3x {α : Type} {f : α → α → Bool} : ∀ {l m : List α}, l.length ≠ m.length → sameL f l m = false
 | [], [], h => absurd rfl h
 | [], _ :: _, _ => rfl
 | _ :: _, [], _ => rfl
 | a :: l, b :: m, h => by
  show (f a b && sameL f l m) = false
  rw [j3x (l := l) (m := m) (by simpa using h), Bool.and_false]
theorem j2o {α : Type} {f : α → α → Bool} : ∀ {l m : List α} {k : Nat} {a b : α}, l[k]? = some a → m[k]? = some b → f a b = false → sameL f l m = false
 | x :: l, y :: m, 0, a, b, h1, h2, h3 => by
  simp only [List.getElem?_cons_zero, Option.some.injEq] at h1 h2
  subst h1 h2
  show (f x y && sameL f l m) = false
  rw [h3, Bool.false_and]
 | x :: l, y :: m, k + 1, a, b, h1, h2, h3 => by
  show (f x y && sameL f l m) = false
  rw [j2o (k := k) (by simpa using h1) (by simpa using h2) h3, Bool.and_false]
theorem j3l {α : Type} {f : α → α → Bool} : ∀ {l m : List α}, l.length = m.length → (∀ (k : Nat) (a b : α), l[k]? = some a → m[k]? = some b → f a b = true) → sameL f l m = true
 | [], [], _, _ => rfl
 | a :: l, b :: m, h, hf => by
  show (f a b && sameL f l m) = true
  rw [hf 0 a b rfl rfl, j3l (l := l) (m := m) (by simpa using h) (fun k x y hx hy => hf (k + 1) x y (by simpa using hx) (by simpa using hy))]
  rfl
theorem x7n (v u : Value) (x y : Blk) (w : World) (hx : BlkIs w v x) (hy : BlkIs w u y) :
  Calls Tryz.prog 29 #[v, u] w fun e w' => e = .returned (.bool (samB x y)) ∧ Below w.heap.size w w' := by
 obtain ⟨v1, rfl, hD, hok⟩ := hx
 obtain ⟨u1, rfl, hE, kok⟩ := hy
 have hn0 : x.deeds.length ≤ maxLen := by obtain ⟨vs, S, e, -⟩ := hD; obtain ⟨a, c, h1, h2, h3, -⟩ := (show Sl w v1 8 (vs.map id) by rw [List.map_id]; exact S).shape; simp only [← e]; omega
 have hn1 : x.deeds.length ≤ 9223372036854775807 := hn0
 clear hn0
 obtain ⟨a1, c1, rfl⟩ := hD.shape
 obtain ⟨a2, c2, rfl⟩ := hE.shape
 have o1 : (Value.slice a1 x.deeds.length c1).oneCell' = true := rfl
 have o2 : (Value.slice a2 y.deeds.length c2).oneCell' = true := rfl
 have HOK := hide hok
 have KOK := hide kok
 have b := Below.refl w.heap.size w
 unfold samB
 have HSL := hide (fun h => j3x (f := sameD) (l := x.deeds) (m := y.deeds) h)
 have HSG := hide (fun (k : Nat) (a b : Deed) h1 h2 h3 => j2o (f := sameD) (l := x.deeds) (m := y.deeds) (k := k) (a := a) (b := b) h1 h2 h3)
 have HSA := hide (fun h h2 => j3l (f := sameD) (l := x.deeds) (m := y.deeds) h h2)
 have q : ((x.deeds.length : Int) != (y.deeds.length : Int)) = !decide (x.deeds.length = y.deeds.length) := q6v _ _
 clear hok kok
 generalize hHD : samHd x.head y.head = HB at *
 have E1 := hide hHD
 clear hHD
 generalize sameL sameD x.deeds y.deeds = SL at *
 generalize x.head = d at *
 generalize y.head = e at *
 generalize x.deeds = l at *
 generalize y.deeds = m at *
 clear x y
 obtain ⟨n, hn⟩ : ∃ n, n = l.length := ⟨_, rfl⟩
 obtain ⟨n2, hn2⟩ : ∃ n, n = m.length := ⟨_, rfl⟩
 have HN := hide hn
 have HN2 := hide hn2
 rw [← hn] at hD o1 HSL HSA q hn1 ⊢
 rw [← hn2] at hE o2 HSL HSA q ⊢
 clear hn hn2
 cases HB
 case false =>
  rw [Bool.false_and]
  clear HSL HSG HSA q hD hE hn1
  have mF1 := True.intro
  have mF2 := True.intro
  go_enter Tryz.func29, Tryz.ntmps29
  go_wp2_with (first | (with_reducible refine w2g ?_; first | (clear mF1; refine q1h rfl _ rfl rfl HOK.out o1 ?_; intro _ g1 hg1 F1 hb; replace b := later b hb; clear hb) | (clear mF2; refine q1h rfl _ rfl rfl KOK.out o2 ?_; intro _ g2 hg2 F2 hb; replace F1 := F1.later hb; replace b := later b hb; clear hb)) | (with_reducible refine w9g ?_; first | refine q1y rfl _ rfl rfl F1 ?_ | refine q1y rfl _ rfl rfl F2 ?_) | (with_reducible show wpList _ _ _ (⟨_, Op.binOp BinOp.neq 49 _ _ _, _, _, _, _⟩ :: _) _ _; refine j4i rfl _ _ rfl rfl rfl HOK.out KOK.out ?_; rw [E1.out]))
  go_ret
  exact ⟨rfl, b⟩
 case true =>
  rw [Bool.true_and]
  by_cases hl : n = n2
  ·rw [decide_eq_true hl] at q
   subst hl
   have mF1 := True.intro
   have mF2 := True.intro
   go_enter Tryz.func29, Tryz.ntmps29
   go_wp2_with (first | (with_reducible refine w2g ?_; first | (clear mF1; refine q1h rfl _ rfl rfl HOK.out o1 ?_; intro _ g1 hg1 F1 hb; replace b := later b hb; clear hb) | (clear mF2; refine q1h rfl _ rfl rfl KOK.out o2 ?_; intro _ g2 hg2 F2 hb; replace F1 := F1.later hb; replace b := later b hb; clear hb)) | (with_reducible refine w9g ?_; first | refine q1y rfl _ rfl rfl F1 ?_ | refine q1y rfl _ rfl rfl F2 ?_) | (with_reducible refine w10g ?_; first | refine q0a rfl 42 _ rfl rfl (KAt.ds F1) (by kernel_rfl) ?_ | refine q0a rfl 42 _ rfl rfl (KAt.ds F2) (by kernel_rfl) ?_) | (with_reducible show wpList _ _ _ (⟨_, Op.binOp BinOp.neq 49 _ _ _, _, _, _, _⟩ :: _) _ _; refine j4i rfl _ _ rfl rfl rfl HOK.out KOK.out ?_; rw [E1.out]))
   go_loopw [5] (fun i wr => ∃ k : Nat, i = .int .i64 k ∧ k ≤ n ∧ Hid (∀ j a b, j < k → l[j]? = some a → m[j]? = some b → sameD a b = true) ∧ KAt wr g1 d (.slice a1 n c1) ∧ KAt wr g2 e (.slice a2 n c2) ∧ Below w.heap.size w wr) (fun i _ => n - (RowKit.intOf i).toNat)
   case atStart => exact ⟨0, rfl, by omega, fun j a b h => by omega, F1, F2, b⟩
   clear F1 F2 b
   obtain ⟨k, rfl, hk, HA, F1, F2, b⟩ := hrel
   by_cases hlt : k < n
   case pos =>
    obtain ⟨x, hx⟩ : ∃ x, l[k]? = some x := ⟨_, List.getElem?_eq_getElem (by rw [← HN.out]; exact hlt)⟩
    obtain ⟨y, hy⟩ : ∃ y, m[k]? = some y := ⟨_, List.getElem?_eq_getElem (by rw [← HN2.out]; exact hlt)⟩
    obtain ⟨b1, k1, c1', he1, _, hcs1⟩ := (hD.later b).block (by rw [← HN.out]; omega)
    rw [← HN.out] at he1
    simp only [Value.slice.injEq] at he1
    obtain ⟨rfl, -, rfl⟩ := he1
    obtain ⟨b2, k2, c2', he2, _, hcs2⟩ := (hE.later b).block (by rw [← HN2.out]; omega)
    rw [← HN2.out] at he2
    simp only [Value.slice.injEq] at he2
    obtain ⟨rfl, -, rfl⟩ := he2
    obtain ⟨p1, p2, p3, p4, p5, d1, I1, -⟩ := hcs1 k x hx
    obtain ⟨r1, r2, r3, r4, r5, d2, I2, -⟩ := hcs2 k y hy
    have HS := hide (fun (w' : World) (hb : Below wr.heap.size wr w') => j9q _ _ x y w' (I1.later hb) (I2.later hb))
    have HNO := hide (fun h3 => HSG.out k x y hx hy h3)
    have HYE : Hid (sameD x y = true → ∀ j a b, j < k + 1 → l[j]? = some a → m[j]? = some b → sameD a b = true) := fun h3 j a b hj ha hb => by
     by_cases hjk : j < k
     ·exact HA.out j a b hjk ha hb
     ·obtain rfl : j = k := by omega
      rw [hx] at ha
      rw [hy] at hb
      cases ha
      cases hb
      exact h3
    clear hcs1 hcs2 hx hy I1 I2 HSG HSA HSL q HA
    generalize sameD x y = SD at *
    generalize x.fee = f1 at *
    generalize x.frm = s1 at *
    generalize x.til = t1 at *
    generalize y.fee = f2 at *
    generalize y.frm = s2 at *
    generalize y.til = t2 at *
    clear x y
    cases SD
    case false =>
     have hSL := HNO.out rfl
     subst hSL
     have k3 := Below.refl wr.heap.size wr
     go_wp2_with (first | (with_reducible refine w10g ?_; first | refine q0a rfl 42 _ rfl rfl (KAt.ds F1) (by kernel_rfl) ?_) | (with_reducible show Code.wp _ (Code.region _ _ true) _ _ _; fail))
     refine q0e (by kernel_rfl) (by kernel_rfl) ?_
     repeat ((go_big_quiet_want; first | ((with_reducible refine w28g ?_); first | (refine q0d 42 _ rfl rfl (KAt.ds F1) (by kernel_rfl) ?_; simp only [pS]; go_big_quiet_on) | (refine q0d 42 _ rfl rfl (KAt.ds F2) (by kernel_rfl) ?_; simp only [pS]; go_big_quiet_on) | (refine q6q _ rfl rfl d1 ?_; simp only [pS]; go_big_quiet_on) | (refine q6q _ rfl rfl d2 ?_; simp only [pS]; go_big_quiet_on)) | (go_big_quiet_op; first | go_big_quiet_on | (refine ⟨_, fun s => q0f (HS.out _ (later k3 s.ok)), ?_⟩; go_big_quiet_on))))
     refine wpQuiet_nil ?_
     intro _ hq
     replace F1 := F1.later hq
     replace F2 := F2.later hq
     replace b := later b hq
     clear hq k3
     go_wp2_with fail
     go_ret
     exact ⟨rfl, b⟩
    case true =>
     have HYE2 := hide (HYE.out rfl)
     have k3 := Below.refl wr.heap.size wr
     go_wp2_with (first | (with_reducible refine w10g ?_; first | refine q0a rfl 42 _ rfl rfl (KAt.ds F1) (by kernel_rfl) ?_) | (with_reducible show Code.wp _ (Code.region _ _ true) _ _ _; fail))
     refine q0e (by kernel_rfl) (by kernel_rfl) ?_
     repeat ((go_big_quiet_want; first | ((with_reducible refine w28g ?_); first | (refine q0d 42 _ rfl rfl (KAt.ds F1) (by kernel_rfl) ?_; simp only [pS]; go_big_quiet_on) | (refine q0d 42 _ rfl rfl (KAt.ds F2) (by kernel_rfl) ?_; simp only [pS]; go_big_quiet_on) | (refine q6q _ rfl rfl d1 ?_; simp only [pS]; go_big_quiet_on) | (refine q6q _ rfl rfl d2 ?_; simp only [pS]; go_big_quiet_on)) | (go_big_quiet_op; first | go_big_quiet_on | (refine ⟨_, fun s => q0f (HS.out _ (later k3 s.ok)), ?_⟩; go_big_quiet_on))))
     refine wpQuiet_nil ?_
     intro _ hq
     replace F1 := F1.later hq
     replace F2 := F2.later hq
     replace b := later b hq
     clear hq k3
     go_wp2_with fail
     go_roundw
     case rel => exact ⟨k + 1, by simp, by omega, HYE2.out, F1, F2, b⟩
     case measure => simp [RowKit.intOf]; omega
   obtain rfl : n = k := by omega
   have hSL := HSA.out trivial (fun j a b ha hb => HA.out j a b (by have := (List.getElem?_eq_some_iff.1 ha).1; rw [HN.out]; exact this) ha hb)
   subst hSL
   go_wp2_with ((with_reducible refine w10g ?_; first | refine q0a rfl 42 _ rfl rfl (KAt.ds F1) (by kernel_rfl) ?_))
   go_ret
   exact ⟨rfl, b⟩
  ·rw [decide_eq_false hl] at q
   have hSL := HSL.out hl
   subst hSL
   clear HSL HSG HSA hD hE hl
   have mF1 := True.intro
   have mF2 := True.intro
   go_enter Tryz.func29, Tryz.ntmps29
   go_wp2_with (first | (with_reducible refine w2g ?_; first | (clear mF1; refine q1h rfl _ rfl rfl HOK.out o1 ?_; intro _ g1 hg1 F1 hb; replace b := later b hb; clear hb) | (clear mF2; refine q1h rfl _ rfl rfl KOK.out o2 ?_; intro _ g2 hg2 F2 hb; replace F1 := F1.later hb; replace b := later b hb; clear hb)) | (with_reducible refine w9g ?_; first | refine q1y rfl _ rfl rfl F1 ?_ | refine q1y rfl _ rfl rfl F2 ?_) | (with_reducible refine w10g ?_; first | refine q0a rfl 42 _ rfl rfl (KAt.ds F1) (by kernel_rfl) ?_ | refine q0a rfl 42 _ rfl rfl (KAt.ds F2) (by kernel_rfl) ?_) | (with_reducible show wpList _ _ _ (⟨_, Op.binOp BinOp.neq 49 _ _ _, _, _, _, _⟩ :: _) _ _; refine j4i rfl _ _ rfl rfl rfl HOK.out KOK.out ?_; rw [E1.out]))
   go_ret
   exact ⟨rfl, b⟩
theorem x3s (v u : Value) (d e : Deed) (w : World) (hd : DeedIs w v d) (he : DeedIs w u e) :
  Calls Tryz.prog 91 #[v, u] w fun x w' => x = .returned (.bool (sameD d e)) ∧ Below w.heap.size w w' := by
 have HS := hide (fun (w' : World) (hb : Below w.heap.size w w') => j7z v u d e w' (hd.later hb) (he.later hb))
 obtain ⟨v1, v2, v3, v4, v5, rfl, h1, h2, h3, h4, h5, ok⟩ := hd
 obtain ⟨u1, u2, u3, u4, u5, rfl, k1, k2, k3, k4, k5, oe⟩ := he
 have o1 := h1.one'
 have o2 := h2.one'
 have o3 := h3.one'
 have o4 := h4.one'
 have o5 := h5.one'
 have p1 := k1.one'
 have p2 := k2.one'
 have p3 := k3.one'
 have p4 := k4.one'
 have p5 := k5.one'
 have b := Below.refl w.heap.size w
 clear h1 h2 h3 h4 h5 k1 k2 k3 k4 k5 ok oe
 generalize sameD d e = S at *
 generalize d.fee = f1 at *
 generalize d.frm = s1 at *
 generalize d.til = t1' at *
 generalize e.fee = f2 at *
 generalize e.frm = s2 at *
 generalize e.til = t2' at *
 have mF1 := True.intro
 have mF2 := True.intro
 go_enter Tryz.func91, Tryz.ntmps91
 go_wp2_with (first | (with_reducible refine w2g ?_; clear mF1; refine q0x rfl _ rfl rfl o1 o2 o3 o4 o5 ?_; intro _ g2 hg2 F1 hb; (try replace b := later b hb); clear hb) | (with_reducible refine w2g ?_; clear mF2; refine q0x rfl _ rfl rfl p1 p2 p3 p4 p5 ?_; intro _ g3 hg3 F2 hb; (try replace F1 := F1.later hb); (try replace b := later b hb); clear hb) | (with_reducible refine w11g ?_; first | refine q1g rfl _ rfl rfl F1 ?_ | refine q1g rfl _ rfl rfl F2 ?_) | (go_at_call 49; refine (HS.out _ b).mono ?_; rintro _ _ ⟨rfl, hc⟩; (try replace F1 := F1.later hc); (try replace F2 := F2.later hc); (try replace b := later b hc); clear hc))
 go_ret
 exact ⟨rfl, b⟩
theorem x0a (v u : Value) (l m : List Deed) (w : World) (hD : DsIs w v l) (hE : DsIs w u m) :
  Calls Tryz.prog 90 #[v, u, .func (.func 91) #[] #[]] w fun e w' => e = .returned (.bool (sameL sameD l m)) ∧ Below w.heap.size w w' := by
 have hn0 : l.length ≤ maxLen := by obtain ⟨vs, S, e, -⟩ := hD; obtain ⟨a, c, h1, h2, h3, -⟩ := (show Sl w v 8 (vs.map id) by rw [List.map_id]; exact S).shape; simp only [← e]; omega
 have hn1 : l.length ≤ 9223372036854775807 := hn0
 clear hn0
 obtain ⟨a1, c1, rfl⟩ := hD.shape
 obtain ⟨a2, c2, rfl⟩ := hE.shape
 have b := Below.refl w.heap.size w
 have HSL := hide (fun h => j3x (f := sameD) (l := l) (m := m) h)
 have HSG := hide (fun (k : Nat) (a b : Deed) h1 h2 h3 => j2o (f := sameD) (l := l) (m := m) (k := k) (a := a) (b := b) h1 h2 h3)
 have HSA := hide (fun h h2 => j3l (f := sameD) (l := l) (m := m) h h2)
 have q : ((l.length : Int) != (m.length : Int)) = !decide (l.length = m.length) := q6v _ _
 generalize sameL sameD l m = SL at *
 obtain ⟨n, hn⟩ : ∃ n, n = l.length := ⟨_, rfl⟩
 obtain ⟨n2, hn2⟩ : ∃ n, n = m.length := ⟨_, rfl⟩
 have HN := hide hn
 have HN2 := hide hn2
 rw [← hn] at hD HSL HSA q hn1 ⊢
 rw [← hn2] at hE HSL HSA q ⊢
 clear hn hn2
 by_cases hl : n = n2
 ·rw [decide_eq_true hl] at q
  subst hl
  go_enter Tryz.func90, Tryz.ntmps90
  go_wp2_with fail
  go_loopw [17] (fun i wr => ∃ k : Nat, i = .int .i64 k ∧ k ≤ n ∧ Hid (∀ j a b, j < k → l[j]? = some a → m[j]? = some b → sameD a b = true) ∧ Below w.heap.size w wr) (fun i _ => n - (RowKit.intOf i).toNat)
  case atStart => exact ⟨0, rfl, by omega, fun j a b h => by omega, b⟩
  clear b
  obtain ⟨k, rfl, hk, HA, b⟩ := hrel
  by_cases hlt : k < n
  case pos =>
   obtain ⟨x, hx⟩ : ∃ x, l[k]? = some x := ⟨_, List.getElem?_eq_getElem (by rw [← HN.out]; exact hlt)⟩
   obtain ⟨y, hy⟩ : ∃ y, m[k]? = some y := ⟨_, List.getElem?_eq_getElem (by rw [← HN2.out]; exact hlt)⟩
   obtain ⟨b1, k1, c1', he1, _, hcs1⟩ := (hD.later b).block (by rw [← HN.out]; omega)
   rw [← HN.out] at he1
   simp only [Value.slice.injEq] at he1
   obtain ⟨rfl, -, rfl⟩ := he1
   obtain ⟨b2, k2, c2', he2, _, hcs2⟩ := (hE.later b).block (by rw [← HN2.out]; omega)
   rw [← HN2.out] at he2
   simp only [Value.slice.injEq] at he2
   obtain ⟨rfl, -, rfl⟩ := he2
   obtain ⟨p1, p2, p3, p4, p5, d1, I1, o1, o2, o3, o4, o5⟩ := hcs1 k x hx
   obtain ⟨r1, r2, r3, r4, r5, d2, I2, o6, o7, o8, o9, o0⟩ := hcs2 k y hy
   have HS := hide (fun (w' : World) (hb : Below wr.heap.size wr w') => x3s _ _ x y w' (I1.later hb) (I2.later hb))
   have k3 := Below.refl wr.heap.size wr
   have HNO := hide (fun h3 => HSG.out k x y hx hy h3)
   have HYE : Hid (sameD x y = true → ∀ j a b, j < k + 1 → l[j]? = some a → m[j]? = some b → sameD a b = true) := fun h3 j a b hj ha hb => by
    by_cases hjk : j < k
    ·exact HA.out j a b hjk ha hb
    ·obtain rfl : j = k := by omega
     rw [hx] at ha
     rw [hy] at hb
     cases ha
     cases hb
     exact h3
   clear hcs1 hcs2 hx hy I1 I2 HSG HSA HSL q HA
   generalize sameD x y = SD at *
   generalize x.fee = f1 at *
   generalize x.frm = s1 at *
   generalize x.til = t1' at *
   generalize y.fee = f2 at *
   generalize y.frm = s2 at *
   generalize y.til = t2' at *
   clear x y
   cases SD
   case false =>
    have hSL := HNO.out rfl
    subst hSL
    have mF5 := True.intro
    have mF6 := True.intro
    have mS5 := True.intro
    have mS6 := True.intro
    go_wp2_with (first | (with_reducible refine w11g ?_; first | refine q3w rfl _ rfl rfl (d1.later k3) ?_ | refine q3w rfl _ rfl rfl (d2.later k3) ?_ | refine q1g rfl _ rfl rfl F5 ?_ | refine q1g rfl _ rfl rfl F6 ?_) | (with_reducible refine w12g ?_; first | (clear mF5; refine q1x rfl rfl ?_; have qb5 := b.size; have qk5 := k3.size; intro _ g5 hg5 F5 hb; replace k3 := later k3 hb; replace b := later b hb; clear hb) | (clear mF6; refine q1x rfl rfl ?_; have qb6 := b.size; have qk6 := k3.size; have q56 := F5.lt; intro _ g6 hg6 F6 hb; replace k3 := later k3 hb; replace F5 := F5.later hb; replace b := later b hb; clear hb)) | ((with_reducible refine w13g ?_); first | (clear mS5; refine q1b rfl _ _ rfl rfl (v1 := p1) (v2 := p2) (v3 := p3) (v4 := p4) (v5 := p5) (f := f1) (s := s1) (t := t1') rfl o1 o2 o3 o4 o5 F5 ?_; intro _ t1 ht1; clear F5; replace k3 := q0b k3 ht1 (by omega) (Nat.le_refl _); replace b := q0b b ht1 (by omega) (Nat.le_refl _); have F5 := t1; clear t1 ht1) | (clear mS6; refine q1b rfl _ _ rfl rfl (v1 := r1) (v2 := r2) (v3 := r3) (v4 := r4) (v5 := r5) (f := f2) (s := s2) (t := t2') rfl o6 o7 o8 o9 o0 F6 ?_; intro _ t1 ht1; clear F6; replace k3 := q0b k3 ht1 (by omega) (Nat.le_refl _); replace F5 := F5.tt ht1; replace b := q0b b ht1 (by omega) (Nat.le_refl _); have F6 := t1; clear t1 ht1)))
    show Calls Tryz.prog 91 _ _ _
    refine (HS.out _ k3).mono ?_
    rintro _ _ ⟨rfl, hb⟩
    replace b := later b hb
    clear hb
    go_wp2_with fail
    go_ret
    exact ⟨rfl, b⟩
   case true =>
    have HYE2 := hide (HYE.out rfl)
    have mF5 := True.intro
    have mF6 := True.intro
    have mS5 := True.intro
    have mS6 := True.intro
    go_wp2_with (first | (with_reducible refine w11g ?_; first | refine q3w rfl _ rfl rfl (d1.later k3) ?_ | refine q3w rfl _ rfl rfl (d2.later k3) ?_ | refine q1g rfl _ rfl rfl F5 ?_ | refine q1g rfl _ rfl rfl F6 ?_) | (with_reducible refine w12g ?_; first | (clear mF5; refine q1x rfl rfl ?_; have qb5 := b.size; have qk5 := k3.size; intro _ g5 hg5 F5 hb; replace k3 := later k3 hb; replace b := later b hb; clear hb) | (clear mF6; refine q1x rfl rfl ?_; have qb6 := b.size; have qk6 := k3.size; have q56 := F5.lt; intro _ g6 hg6 F6 hb; replace k3 := later k3 hb; replace F5 := F5.later hb; replace b := later b hb; clear hb)) | ((with_reducible refine w13g ?_); first | (clear mS5; refine q1b rfl _ _ rfl rfl (v1 := p1) (v2 := p2) (v3 := p3) (v4 := p4) (v5 := p5) (f := f1) (s := s1) (t := t1') rfl o1 o2 o3 o4 o5 F5 ?_; intro _ t1 ht1; clear F5; replace k3 := q0b k3 ht1 (by omega) (Nat.le_refl _); replace b := q0b b ht1 (by omega) (Nat.le_refl _); have F5 := t1; clear t1 ht1) | (clear mS6; refine q1b rfl _ _ rfl rfl (v1 := r1) (v2 := r2) (v3 := r3) (v4 := r4) (v5 := r5) (f := f2) (s := s2) (t := t2') rfl o6 o7 o8 o9 o0 F6 ?_; intro _ t1 ht1; clear F6; replace k3 := q0b k3 ht1 (by omega) (Nat.le_refl _); replace F5 := F5.tt ht1; replace b := q0b b ht1 (by omega) (Nat.le_refl _); have F6 := t1; clear t1 ht1)))
    show Calls Tryz.prog 91 _ _ _
    refine (HS.out _ k3).mono ?_
    rintro _ _ ⟨rfl, hb⟩
    replace b := later b hb
    clear hb
    go_wp2_with fail
    go_roundw
    case rel => exact ⟨k + 1, by simp, by omega, HYE2.out, b⟩
    case measure => simp [RowKit.intOf]; omega
  obtain rfl : n = k := by omega
  have hSL := HSA.out trivial (fun j a b ha hb => HA.out j a b (by have := (List.getElem?_eq_some_iff.1 ha).1; rw [HN.out]; exact this) ha hb)
  subst hSL
  go_wp2_with fail
  go_ret
  exact ⟨rfl, b⟩
 ·rw [decide_eq_false hl] at q
  have hSL := HSL.out hl
  subst hSL
  clear HSL HSG HSA hD hE hl
  go_enter Tryz.func90, Tryz.ntmps90
  go_wp2_with fail
  go_ret
  exact ⟨rfl, b⟩
theorem x7a (v u : Value) (x y : Blk) (w : World) (hx : BlkIs w v x) (hy : BlkIs w u y) :
  Calls Tryz.prog 42 #[v, u] w fun e w' => e = .returned (.bool (samB x y)) ∧ Below w.heap.size w w' := by
 obtain ⟨v1, rfl, hD, hok⟩ := hx
 obtain ⟨u1, rfl, hE, kok⟩ := hy
 have HEQ := hide (fun (w' : World) (hb : Below w.heap.size w w') => x0a _ _ x.deeds y.deeds w' (hD.later hb) (hE.later hb))
 obtain ⟨a1, c1, rfl⟩ := hD.shape
 obtain ⟨a2, c2, rfl⟩ := hE.shape
 have o1 : (Value.slice a1 x.deeds.length c1).oneCell' = true := rfl
 have o2 : (Value.slice a2 y.deeds.length c2).oneCell' = true := rfl
 have HOK := hide hok
 have KOK := hide kok
 have b := Below.refl w.heap.size w
 unfold samB
 clear hok kok hD hE
 generalize hHD : samHd x.head y.head = HB at *
 have E1 := hide hHD
 clear hHD
 generalize sameL sameD x.deeds y.deeds = SL at *
 generalize x.head = d at *
 generalize y.head = e at *
 generalize x.deeds.length = n at *
 generalize y.deeds.length = n2 at *
 clear x y
 cases HB
 case false =>
  rw [Bool.false_and]
  have mF1 := True.intro
  have mF2 := True.intro
  go_enter Tryz.func42, Tryz.ntmps42
  go_wp2_with (first | (with_reducible refine w2g ?_; first | (clear mF1; refine q1h rfl _ rfl rfl HOK.out o1 ?_; intro _ g1 hg1 F1 hb; replace b := later b hb; clear hb) | (clear mF2; refine q1h rfl _ rfl rfl KOK.out o2 ?_; intro _ g2 hg2 F2 hb; replace F1 := F1.later hb; replace b := later b hb; clear hb)) | (with_reducible refine w9g ?_; first | refine q1y rfl _ rfl rfl F1 ?_ | refine q1y rfl _ rfl rfl F2 ?_) | (with_reducible show wpList _ _ _ (⟨_, Op.binOp BinOp.eql 49 _ _ _, _, _, _, _⟩ :: _) _ _; refine j8o rfl _ _ rfl rfl rfl HOK.out KOK.out ?_; rw [E1.out]))
  go_ret
  exact ⟨rfl, b⟩
 case true =>
  rw [Bool.true_and]
  have mF1 := True.intro
  have mF2 := True.intro
  go_enter Tryz.func42, Tryz.ntmps42
  go_wp2_with (first | (with_reducible refine w2g ?_; first | (clear mF1; refine q1h rfl _ rfl rfl HOK.out o1 ?_; intro _ g1 hg1 F1 hb; replace b := later b hb; clear hb) | (clear mF2; refine q1h rfl _ rfl rfl KOK.out o2 ?_; intro _ g2 hg2 F2 hb; replace F1 := F1.later hb; replace b := later b hb; clear hb)) | (with_reducible refine w9g ?_; first | refine q1y rfl _ rfl rfl F1 ?_ | refine q1y rfl _ rfl rfl F2 ?_) | (with_reducible refine w10g ?_; first | refine q0a rfl 42 _ rfl rfl (KAt.ds F1) (by kernel_rfl) ?_ | refine q0a rfl 42 _ rfl rfl (KAt.ds F2) (by kernel_rfl) ?_) | (with_reducible show wpList _ _ _ (⟨_, Op.binOp BinOp.eql 49 _ _ _, _, _, _, _⟩ :: _) _ _; refine j8o rfl _ _ rfl rfl rfl HOK.out KOK.out ?_; rw [E1.out]) | (go_at_call 90; refine (HEQ.out _ b).mono ?_; rintro _ _ ⟨rfl, hc⟩; (try replace F1 := F1.later hc); (try replace F2 := F2.later hc); (try replace b := later b hc); clear hc))
  go_ret
  exact ⟨rfl, b⟩
end Go.Proofs.YtbbfnpfkbbpjgaaGreat
