/- Several texts of this proof in one: Ref01, RefSumL, RefSum, RefPut, RefOf, Ofs, Ref03, Works03, ShaParts. -/
import Derived.Test.YtbbfnpfkbbpjgaaGreatQHMOf
import Derived.Test.YtbbfnpfkbbpjgaaGreatQHMBase
import Derived.BigRegion
import Derived.Deep.AppendLies
/- The reference's Eight, Put, PutText (mintageref01) as contracts. -/
namespace Go.Proofs.YtbbfnpfkbbpjgaaGreat
open Go.RowKit Go.Lib
set_option linter.unusedVariables false
set_option linter.unusedSimpArgs false
set_option maxRecDepth 100000
set_option maxHeartbeats 4000000
theorem j6a (y : Int) (x : Nat) (hy : y = (x : Int)) (hx : x < 256) (w : World) :
  (convert 93 9 (.slice (some ⟨w.heap.size, 0, none⟩) 1 1)).run Tryz.prog (w.alloc (.cells #[.int .u8 y] 5)) = .ok (.string ⟨#[UInt8.ofNat x]⟩) (w.alloc (.cells #[.int .u8 y] 5)) := by
 have h := Byts.text (P := Tryz.prog) (Arr.new w (bvs [UInt8.ofNat x]) 5 : Byts _ _ _ [UInt8.ofNat x]) 93 9 5 1 1 rfl Tryz.underlying93 Tryz.underlying5 Tryz.underlying9
 have e : (bvs [UInt8.ofNat x]).toArray = #[.int .u8 y] := by
  have : ((UInt8.ofNat x).toNat : Int) = y := by rw [UInt8.toNat_ofNat', hy]; omega
  simp only [bvs, List.map_cons, List.map_nil, this]
 rw [e] at h
 exact h
theorem j7b (y : Int) (x : Nat) (hy : y = (x : Int)) (hx : x < 256) (w : World) :
  (convert 93 9 (.slice (some ⟨w.heap.size, 0, none⟩) 1 1)).run Tryz.prog (w.alloc (.cells #[.int .u8 y] 5)).drew = .ok (.string ⟨#[UInt8.ofNat x]⟩) (w.alloc (.cells #[.int .u8 y] 5)).drew := by
 have e : (bvs [UInt8.ofNat x]).toArray = #[.int .u8 y] := by
  have : ((UInt8.ofNat x).toNat : Int) = y := by rw [UInt8.toNat_ofNat', hy]; omega
  simp only [bvs, List.map_cons, List.map_nil, this]
 have ha : Byts (w.alloc (.cells #[.int .u8 y] 5)).drew w.heap.size 5 [UInt8.ofNat x] := by
  have h := Arr.new w (bvs [UInt8.ofNat x]) 5
  rw [e] at h
  exact h
 exact Byts.text (P := Tryz.prog) ha 93 9 5 1 1 rfl Tryz.underlying93 Tryz.underlying5 Tryz.underlying9
theorem j4o (y : Int) (x : Nat) (hy : y = (x : Int)) (hx : x < 256) (w w' : World) (hb : Below (w.alloc (.cells #[.int .u8 y] 5)).drew.heap.size (w.alloc (.cells #[.int .u8 y] 5)).drew w') :
  (convert 93 9 (.slice (some ⟨w.heap.size, 0, none⟩) 1 1)).run Tryz.prog w' = .ok (.string ⟨#[UInt8.ofNat x]⟩) w' := by
 have e : (bvs [UInt8.ofNat x]).toArray = #[.int .u8 y] := by
  have : ((UInt8.ofNat x).toNat : Int) = y := by rw [UInt8.toNat_ofNat', hy]; omega
  simp only [bvs, List.map_cons, List.map_nil, this]
 have ha : Byts (w.alloc (.cells #[.int .u8 y] 5)).drew w.heap.size 5 [UInt8.ofNat x] := by
  have h := Arr.new w (bvs [UInt8.ofNat x]) 5
  rw [e] at h
  exact h
 exact Byts.text (P := Tryz.prog) (Arr.later ha hb : Byts _ _ _ _) 93 9 5 1 1 rfl Tryz.underlying93 Tryz.underlying5 Tryz.underlying9
theorem x2c (n k : Nat) (h : k < 8) : (eightL n).drop (8 - (k + 1)) = UInt8.ofNat (n / 256 ^ k % 256) :: (eightL n).drop (8 - k) := by
 have h8 : k = 0 ∨ k = 1 ∨ k = 2 ∨ k = 3 ∨ k = 4 ∨ k = 5 ∨ k = 6 ∨ k = 7 := by omega
 rcases h8 with rfl | rfl | rfl | rfl | rfl | rfl | rfl | rfl <;> simp [eightL, List.range_succ]
theorem q7s (n0 : Nat) (w : World) (hn : n0 < 18446744073709551616) :
  Calls Tryz.prog 113 #[.int .u64 n0] w fun e w' => e = .returned (.string ⟨(eightL n0).toArray⟩) ∧ Below w.heap.size w w' := by
 have HS := hide (x2c n0)
 have HZ := hide (show (eightL n0).drop 8 = [] by simp [eightL])
 have HF := hide (show (eightL n0).drop 0 = eightL n0 by simp)
 have HL := hide (q0o n0)
 generalize eightL n0 = el at *
 go_enter Tryz.func113, Tryz.ntmps113
 go_wp2_with fail
 go_loopw [0, 3, 4] (fun m s i wr => ∃ k : Nat, k ≤ 8 ∧ i = .int .i64 k ∧ m = .int .u64 ((n0 / 256 ^ k : Nat) : Int) ∧ s = .string ⟨(el.drop (8 - k)).toArray⟩ ∧ Below w.heap.size w wr) (fun _ _ i _ => 8 - (RowKit.intOf i).toNat)
 case atStart => exact ⟨0, by omega, rfl, by simp, by rw [show 8 - 0 = 8 by rfl, HZ.out], Below.refl _ _⟩
 case round =>
  obtain ⟨k, hk, rfl, rfl, rfl, qb⟩ := hrel
  by_cases hlt : k < 8
  ·have HK := hide (HS.out k hlt)
   have HLN : Hid ((⟨(el.drop (8 - k)).toArray⟩ : ByteArray).size ≤ 8) := by unfold Hid; show (el.drop (8 - k)).length ≤ 8; rw [List.length_drop, HL.out]; omega
   have HC : Hid ((⟨#[UInt8.ofNat (n0 / 256 ^ k % 256)]⟩ : ByteArray) ++ ⟨(el.drop (8 - k)).toArray⟩ = ⟨(el.drop (8 - (k + 1))).toArray⟩) := by
    unfold Hid; rw [HK.out]; apply ByteArray.ext; simp
   have HD : Hid ((n0 / 256 ^ (k + 1) : Nat) = n0 / 256 ^ k / 256) := by unfold Hid; rw [Nat.pow_succ, Nat.div_div_eq_div_mul]
   have hm : n0 / 256 ^ k < 18446744073709551616 := Nat.lt_of_le_of_lt (Nat.div_le_self _ _) hn
   generalize n0 / 256 ^ k = m at *
   generalize (⟨(el.drop (8 - k)).toArray⟩ : ByteArray) = sk at *
   have hmi : 0 ≤ (m : Int) / 256 ∧ (m : Int) / 256 < 18446744073709551616 := by omega
   replace hmi := hide hmi
   clear hm
   have ht := j6a ((m : Int) % 256) (m % 256) (by omega) (by omega) wr
   have c1 : ¬ 9223372036854775807 < (⟨#[UInt8.ofNat (m % 256)]⟩ : ByteArray).size + sk.size := by have := HLN.out; show ¬ _ < 1 + sk.size; omega
   have q2 := qb.alloc (qb.size) (.cells #[.int .u8 ((m : Int) % 256)] 5)
   generalize (⟨#[UInt8.ofNat (m % 256)]⟩ : ByteArray) = b1 at *
   go_wp2_with fail
   go_roundw
   case rel => exact ⟨k + 1, by omega, by simp, by rw [HD.out, IntKind.wrap_u64, Int.emod_eq_of_lt hmi.out.1 hmi.out.2]; simp, by rw [HC.out], q2⟩
   case measure => simp [RowKit.intOf]; omega
  ·have hk8 : k = 8 := by omega
   subst hk8
   rw [show 8 - 8 = 0 by rfl, HF.out]
   go_wp2_with fail
   go_ret
   exact ⟨rfl, qb⟩
/-- The length of a slice. -/
def lenOf : Value → Nat := fun v => match v with | .slice _ n _ => n | _ => 0
/-- The first words anew, the others as they were. -/
def over (new old : List W32) : List W32 := new ++ old.drop new.length
theorem j2q (new old : List W32) (h : new.length ≤ old.length) : (over new old).length = old.length := by simp [over]; omega
theorem j0d (new old : List W32) (i : Nat) (h : i < new.length) : (over new old).getD i 0 = new.getD i 0 := by
 simp only [over, List.getD_eq_getElem?_getD, List.getElem?_append_left h]
theorem j7f (new old : List W32) (x : W32) (h : new.length < old.length) : (over new old).set new.length x = over (new ++ [x]) old := by
 unfold over
 rw [List.set_append_right _ _ (Nat.le_refl _), Nat.sub_self, List.drop_eq_getElem_cons h, List.set_cons_zero, List.append_assoc]
 simp
theorem j8x (new old : List W32) (h : new.length = old.length) : over new old = new := by simp [over, h]
theorem j3r {α : Type} (l : List α) (k : Nat) (d : α) (h : k < l.length) : l.take (k + 1) = l.take k ++ [l.getD k d] := by
 rw [List.take_succ_eq_append_getElem h]; simp [h]
theorem j0h {α : Type} (l : List α) (i k : Nat) (d : α) (h : i < k) : (l.take k).getD i d = l.getD i d := by
 simp only [List.getD_eq_getElem?_getD, List.getElem?_take, if_pos h]
theorem j3d (ws : List W32) (n i : Nat) (h : i < ws.length + n) (m : Nat) (hm : n ≤ m) : (grow ws m).getD i 0 = (grow ws n).getD i 0 := by
  induction m with
  | zero => have : n = 0 := by omega
            subst this; rfl
  | succ m ih =>
    by_cases e : n = m + 1
    · subst e; rfl
    · rw [← ih (by omega)]
      simp only [grow, List.getD_eq_getElem?_getD]
      rw [List.getElem?_append_left (by rw [q6a]; omega)]
theorem x5o (f : Nat → W32) (k : Nat) (h : k < 16) : (sched f).getD k 0 = part f k 4 := by
 unfold sched
 rw [j3d (fw f 16) 0 k (by rw [q3b]; omega) 48 (by omega)]
 simp [grow, fw, h]
theorem x4j (f : Nat → W32) (k : Nat) (h : 16 ≤ k) (h2 : k < 64) :
  (sched f).getD k 0 = sg1 ((sched f).getD (k - 2) 0) + (sched f).getD (k - 7) 0 + sg0 ((sched f).getD (k - 15) 0) + (sched f).getD (k - 16) 0 := by
 have e : ∀ i, i < k → (sched f).getD i 0 = (grow (fw f 16) (k - 16)).getD i 0 := fun i hi => j3d (fw f 16) (k - 16) i (by rw [q3b]; omega) 48 (by omega)
 rw [e (k - 2) (by omega), e (k - 7) (by omega), e (k - 15) (by omega), e (k - 16) (by omega), x4k]
 unfold sched
 rw [j3d (fw f 16) (k - 16 + 1) k (by rw [q3b]; omega) 48 (by omega)]
 simp only [grow, List.getD_eq_getElem?_getD]
 have hl : (grow (fw f 16) (k - 16)).length = k := by rw [q6a, q3b]; omega
 rw [List.getElem?_append_right (by omega), hl, Nat.sub_self]
 simp only [List.getElem?_cons_zero, Option.getD_some]
 rw [q3b, show 16 + (k - 16) = k by omega]
/-- A list whose members behind place j have gone on by one. -/
def shiftL (l : List W32) (j : Nat) : List W32 := l.take (j + 1) ++ (l.drop j).take (7 - j)
theorem x3i (l : List W32) (h : l.length = 8) : shiftL l 7 = l := by simp [shiftL]; rw [List.take_of_length_le (by omega)]
theorem j8q (l : List W32) (h : l.length = 8) (j : Nat) (hj : j ≤ 7) : (shiftL l j).length = 8 := by simp [shiftL, h]; omega
theorem z0p (l : List W32) (h : l.length = 8) : ∃ v : V8, l = v.list := by
 match l, h with
 | [a, b, c, d, e, f, g, h'], _ => exact ⟨⟨a, b, c, d, e, f, g, h'⟩, rfl⟩
theorem x3t (l : List W32) (h : l.length = 8) (j : Nat) (h1 : 1 ≤ j) (h2 : j ≤ 7) : (shiftL l j).set j ((shiftL l j).getD (j - 1) 0) = shiftL l (j - 1) := by
 obtain ⟨v, rfl⟩ := z0p l h
 have : j = 1 ∨ j = 2 ∨ j = 3 ∨ j = 4 ∨ j = 5 ∨ j = 6 ∨ j = 7 := by omega
 rcases this with rfl | rfl | rfl | rfl | rfl | rfl | rfl <;> rfl
def plusL (u v : V8) : List W32 := (List.range 8).map fun i => u.list.getD i 0 + v.list.getD i 0
theorem z0g (u v : V8) : plusL u v = (u.plus v).list := rfl
theorem x2m (u v : V8) (i : Nat) (h : i < 8) : (plusL u v).getD i 0 = u.list.getD i 0 + v.list.getD i 0 := by simp [plusL, h]
theorem x4h (v : V8) (ws : List W32) : ((rounds v rootsL ws 64).plus v).list = (goesV v ws).list := by
 simp only [goesV, V8.plus, V8.list, List.cons.injEq, and_true]
 refine ⟨?_, ?_, ?_, ?_, ?_, ?_, ?_, ?_⟩ <;> exact BitVec.add_comm _ _
theorem cubesCells : (#[.int .u32 1116352408, .int .u32 1899447441, .int .u32 3049323471, .int .u32 3921009573, .int .u32 961987163, .int .u32 1508970993, .int .u32 2453635748, .int .u32 2870763221, .int .u32 3624381080, .int .u32 310598401, .int .u32 607225278, .int .u32 1426881987, .int .u32 1925078388, .int .u32 2162078206, .int .u32 2614888103, .int .u32 3248222580, .int .u32 3835390401, .int .u32 4022224774, .int .u32 264347078, .int .u32 604807628, .int .u32 770255983, .int .u32 1249150122, .int .u32 1555081692, .int .u32 1996064986, .int .u32 2554220882, .int .u32 2821834349, .int .u32 2952996808, .int .u32 3210313671, .int .u32 3336571891, .int .u32 3584528711, .int .u32 113926993, .int .u32 338241895, .int .u32 666307205, .int .u32 773529912, .int .u32 1294757372, .int .u32 1396182291, .int .u32 1695183700, .int .u32 1986661051, .int .u32 2177026350, .int .u32 2456956037, .int .u32 2730485921, .int .u32 2820302411, .int .u32 3259730800, .int .u32 3345764771, .int .u32 3516065817, .int .u32 3600352804, .int .u32 4094571909, .int .u32 275423344, .int .u32 430227734, .int .u32 506948616, .int .u32 659060556, .int .u32 883997877, .int .u32 958139571, .int .u32 1322822218, .int .u32 1537002063, .int .u32 1747873779, .int .u32 1955562222, .int .u32 2024104815, .int .u32 2227730452, .int .u32 2361852424, .int .u32 2428436474, .int .u32 2756734187, .int .u32 3204031479, .int .u32 3329325298] : Array Value) = (wvs rootsL).toArray := by kernel_rfl
def zw64 : List W32 := List.replicate 64 0
theorem make64 (w : World) : (Instr.makeSlice 209 (.int .i64 64) (.int .i64 64)).run Tryz.prog w = .ok (.slice (some ⟨w.heap.size, 0, none⟩) 64 64) (w.alloc (.cells (wvs zw64).toArray 189)) := by kernel_rfl
theorem x6c (w : World) : Calls Tryz.prog 182 #[] w fun e w' => e = .returned (.slice (some ⟨w.heap.size, 0, none⟩) 64 64) ∧ w' = w.alloc (.cells (wvs rootsL).toArray 189) := by
 rw [← cubesCells]
 go_enter Tryz.func182, Tryz.ntmps182
 go_wp2_with fail
 go_ret
 exact ⟨rfl, rfl⟩
theorem x7m (new old : List W32) (i : Nat) (h : new.length ≤ i) : (over new old).getD i 0 = old.getD i 0 := by
 simp only [over, List.getD_eq_getElem?_getD, List.getElem?_append_right h, List.getElem?_drop]
 rw [show new.length + (i - new.length) = i by omega]
theorem z0v {w : World} {b : Nat} {t : TypeId} {cs : List Value} (h : Arr w b t cs) : ∀ j u, cs[j]? = some u → w.cell? ((⟨b, 0, none⟩ : Addr).add j) = some u := by
 intro j u hu
 exact World.news_of_block (cs := cs.toArray) h j u hu
theorem Arr.grown {w w' : World} {b : Nat} {t : TypeId} {cs : List Value} (h : Arr w b t cs) {row : Option Nat} (hg : w.grownBy w' row) (hne : some b ≠ row) : Arr w' b t cs := by
 unfold Arr; rw [hg.block b h.lt hne]; exact h
theorem xorF (a : W32) : bits .xor .u32 (wv a) 4294967295 = wv (a ^^^ 0xffffffff) := j6s a 0xffffffff
/-- What the loops of the sum leave as it is. -/
structure SumKeep (W : World) (rb gp cp gv : Nat) (p : List UInt8) (wr : World) : Prop where
 k : Words wr (gv + 1) 189 rootsL
 b : Owns wr (rb + 1) 5 1 (.slice (some ⟨gp, 0, none⟩) p.length cp) p.length (bvs p)
 r : HashAt wr rb zero32
 o : Below (rb + 1) W wr
 s : gv + 1 + 1 < wr.heap.size
 h1 : gp < gv
 h2 : rb + 1 ≤ gv
section
variable {W wr w' : World} {rb gp cp gv : Nat} {p : List UInt8}
theorem SumKeep.later (h : SumKeep W rb gp cp gv p wr) (hb : Below wr.heap.size wr w') : SumKeep W rb gp cp gv p w' :=
 ⟨Arr.later h.k hb, h.b.later hb, h.r.later hb, h.o.trans (hb.mono (by have := h.s; have := h.h2; omega)), by have := h.s; have := hb.size; omega, h.h1, h.h2⟩
theorem SumKeep.set (h : SumKeep W rb gp cp gv p wr) (a : Addr) (u : Value) (h1 : gv ≤ a.block) (h2 : a.block ≠ gv + 1) : SumKeep W rb gp cp gv p (wr.setCell a u) :=
 ⟨Arr.other h.k a u (by omega), h.b.setCell a u (by have := h.h1; simp [Value.ownBlock]; omega), h.r.below ((Below.refl (rb + 1) wr).setCell (p := a) (by have := h.h2; omega) u) (by omega), h.o.setCell (by have := h.h2; omega) u, by have := h.s; simpa [World.setCell] using this, h.h1, h.h2⟩
theorem SumKeep.grown (h : SumKeep W rb gp cp gv p wr) {row : Nat} (hg : wr.grownBy w' (some row)) (hb : Below (rb + 1) wr w') (hr : gv + 1 + 1 < row) : SumKeep W rb gp cp gv p w' :=
 ⟨Arr.grown h.k hg (by simp; omega), h.b.grown hg (.inr (by have := h.h1; simp [Value.ownBlock]; omega)), h.r.below hb (by omega), h.o.trans hb, by have := h.s; have := hb.size; omega, h.h1, h.h2⟩
theorem SumKeep.byte (h : SumKeep W rb gp cp gv p wr) (i : Nat) (t q : Nat) (hq : i = t + q) (hi : i < p.length) : wr.cell? ⟨gp, i, none⟩ = some (.int .u8 (wv (byteW p t q))) := by
 rw [h.b.cell i (by omega), x1k _ _ hi]
 unfold byteW
 rw [← hq]
 have := (p.getD i 0).toNat_lt
 congr 2
 unfold wv
 rw [BitVec.toNat_ofNat]
 omega
end
theorem elemBytes : Elem Tryz.prog 93 5 1 1 := Elem.mk' Tryz.underlying93 info8 rfl (by decide) (by decide)
theorem info32 : (Tryz.prog.info? 189).map (fun i => (i.zero, i.size, i.bytes)) = some (some (.int .u32 0), 1, 4) := by kernel_rfl
theorem elemWords : Elem Tryz.prog 209 189 1 4 := Elem.mk' Tryz.underlying209 info32 rfl (by decide) (by decide)
theorem j1d (a b : List UInt8) : bvs (a ++ b) = bvs a ++ bvs b := by simp [bvs]
theorem j4b (y : Value) (h : y.oneCell' = true) : ∀ u ∈ [y], u.oneCell' = true := by intro u hu; simp at hu; subst hu; exact h
theorem z0r (w : World) (base : Nat) (e : TypeId) (hb : base ≤ w.heap.size) : Owns (w.alloc (.cells #[] e)) base e 1 (.slice (some ⟨w.heap.size, 0, none⟩) 0 0) 0 [] :=
 .of_row (World.ownsRow_made w #[] 0 hb (by unfold maxLen; omega) rfl)
/-- What the first lines make of a text. -/
def padTo (s : List UInt8) (j : Nat) : List UInt8 := s ++ 128 :: List.replicate j 0
theorem j1x (s : List UInt8) (j : Nat) : (padTo s j).length = s.length + 1 + j := by simp [padTo]; omega
theorem x2w (s : List UInt8) (j : Nat) : padTo s (j + 1) = padTo s j ++ [0] := by simp [padTo, List.replicate_succ']
theorem x7f (s : List UInt8) : padTo s (noughts s.length) ++ eightL (s.length * 8) = padL s := by simp [padTo, padL]
theorem x3n (s : ByteArray) (w : World) (hs : s.size ≤ 1099511627776) :
    Calls Tryz.prog 158 #[.string s] w fun e w' => e = .returned (hv (sha s.data.toList)) ∧ Below w.heap.size w w' := by
  have HR : Hid (hv (sha s.data.toList) = hv (outL (states (padL s.data.toList) ((padL s.data.toList).length / 64)))) := rfl
  generalize hv (sha s.data.toList) = R at *
  have HSL := hide (show s.data.toList.length = s.size by simp)
  have HZ := HashAt.zero w
  have hb0 := below1 w (.cells (bvs zero32).toArray 34)
  have hW : Hid ((w.alloc (.cells (bvs zero32).toArray 34)).heap.size = w.heap.size + 1) := by unfold Hid; simp
  have HEig := hide (fun W : World => q7s (s.size * 8) W (by omega))
  have hu : Hid (((s.size * 8 : Nat) : Int) = (s.size : Int) * 8) := by unfold Hid; push_cast; rfl
  have hu2 : (s.size : Int) * 8 < 18446744073709551616 := by omega
  go_enter Tryz.func158, Tryz.ntmps158
  go_wp2_with (refine j7w (w := w.alloc (.cells (bvs zero32).toArray 34)) rfl 9 93 5 _ rfl Tryz.underlying9 Tryz.underlying93 Tryz.underlying5 rfl (by omega) (w.heap.size + 1) (Nat.le_of_eq hW.out.symm) ?_)
  intro cap w1 hown hb1 hcap hsz
  generalize w.alloc (.cells (bvs zero32).toArray 34) = W at *
  have hsz1 : w.heap.size + 1 ≤ w1.heap.size := by omega
  clear hsz
  go_wp2_with (refine q8l elemBytes rfl _ _ rfl (w.heap.size + 1) rfl (hown.alloc (.cells #[.int .u8 128] 5)) ⟨w1.heap.size, 0, none⟩ 1 1 [.int .u8 128] rfl rfl (x1v w1 #[.int .u8 128] 5) (j4b _ rfl) (by omega) (by simp; omega) ?_)
  intro v2 w2 hown2 hb2 _ _
  have hbW : Below (w.heap.size + 1) W w2 := by
    exact hb1.trans (((Below.refl _ _).alloc hsz1 _).trans hb2)
  have hown3 : Owns w2 (w.heap.size + 1) 5 1 v2 (padTo s.data.toList 0).length (bvs (padTo s.data.toList 0)) := by
    rw [j1x, HSL.out]
    have e : bvs (padTo s.data.toList 0) = bvs s.data.toList ++ [.int .u8 128] := by unfold padTo; rw [j1d]; rfl
    rw [e]
    exact hown2
  clear hown hown2 hb1 hb2 hcap hsz1
  have hws2 : w.heap.size + 1 ≤ w2.heap.size := by have := hbW.size; rw [hW.out] at this; exact this
  have hn64 : noughts s.size < 64 := by unfold noughts; omega
  have HNP := hide (x2w s.data.toList)
  have HPL := hide (j1x s.data.toList)
  have HPE := hide (x7f s.data.toList)
  go_wp2_with fail
  go_loopw [3] (fun b wr => ∃ j : Nat, j ≤ noughts s.size ∧ lenOf b = s.size + 1 + j ∧ Owns wr (w.heap.size + 1) 5 1 b (s.size + 1 + j) (bvs (padTo s.data.toList j)) ∧ Below (w.heap.size + 1) W wr ∧ w.heap.size + 1 ≤ wr.heap.size) (fun b _ => s.size + 65 - lenOf b)
  case atStart =>
    rw [HPL.out, HSL.out] at hown3
    refine ⟨0, by omega, ?_, hown3, hbW, hws2⟩
    obtain ⟨g, c, rfl, _⟩ := hown3.at_ (by omega)
    rfl
  case round =>
    obtain ⟨j, hj, hlb, hown, hbr, hwr⟩ := hrel
    obtain ⟨n, hn⟩ : ∃ n, n = s.size + 1 + j := ⟨_, rfl⟩
    rw [← hn] at hown hlb
    have hnb : n ≤ 1099511627776 + 65 := by omega
    by_cases hlt : j < noughts s.size
    · have e1 : ((n : Int) % 64 != 56) = true := by
        rw [bne_iff_ne]; unfold noughts at hlt; omega
      have e2 : s.size + 1 + (j + 1) = n + 1 := by omega
      have HN := hide hn
      have HLB := hide hlb
      have E2 := hide e2
      have E3 : Hid (n < s.size + 65) := by unfold Hid; omega
      have HLT := hide hlt
      have HJ := hide hj
      obtain ⟨g, c, hv, hg1, hg2, hg3⟩ := hown.at_ (by omega)
      subst hv
      clear hn hlb e2 hlt hj hs hn64 hu2
      go_wp2_with (refine q8l elemBytes rfl _ _ rfl (w.heap.size + 1) rfl (hown.alloc (.cells #[.int .u8 0] 5)) ⟨wr.heap.size, 0, none⟩ 1 1 [.int .u8 0] rfl rfl (x1v wr #[.int .u8 0] 5) (j4b _ rfl) (by omega) (by simp; omega) ?_)
      intro v3 w3 hown' hb3 _ _
      have hbr3 : Below (w.heap.size + 1) W w3 := hbr.trans (((Below.refl _ _).alloc hwr _).trans hb3)
      have hwr3 : w.heap.size + 1 ≤ w3.heap.size := by have := hb3.size; simp at this; omega
      have hl3 : Hid (lenOf v3 = n + 1) := by obtain ⟨g', c', rfl, _⟩ := hown'.at_ (by omega); rfl
      have hown4 : Hid (Owns w3 (w.heap.size + 1) 5 1 v3 (n + 1) (bvs (padTo s.data.toList (j + 1)))) := by
        unfold Hid; rw [HNP.out, j1d]; exact hown'
      clear hb3 hown' hown hbr
      go_wp2_with fail
      go_roundw
      case rel => exact ⟨j + 1, by have := HLT.out; omega, by rw [hl3.out, E2.out], by rw [E2.out]; exact hown4.out, hbr3, hwr3⟩
      case measure => rw [hl3.out, HLB.out]; have := E3.out; omega
    · have hjn : j = noughts s.size := by omega
      have e1 : ((n : Int) % 64 != 56) = false := by
        rw [bne_eq_false_iff_eq]; rw [hjn] at hn; unfold noughts at hn; omega
      have hnn : n + 8 = (padL s.data.toList).length := by rw [q9c, HSL.out, hn, hjn]; omega
      have HNN := hide hnn
      have hpe : Hid (bvs (padTo s.data.toList j) ++ bvs (eightL (s.size * 8)) = bvs (padL s.data.toList)) := by
        unfold Hid; rw [← j1d, hjn, ← HPE.out, HSL.out]
      have E8L := hide (q0o (s.size * 8))
      generalize padL s.data.toList = p at *
      generalize eightL (s.size * 8) = e8 at *
      obtain ⟨g, c, hv, hg1, hg2, hg3⟩ := hown.at_ (by omega)
      subst hv
      clear hn hlb hlt hj hn64 HNP HPL HPE hjn hnn hown3 hbW hws2
      go_wp2_with fail
      rw [← hu.out]
      refine (HEig.out _).mono ?_
      rintro _ w3 ⟨rfl, hb3⟩
      have hown3 := hown.later hb3
      have hbr3 := hbr.trans (hb3.mono hwr)
      have hwr3 : w.heap.size + 1 ≤ w3.heap.size := by have := hb3.size; omega
      clear hown hbr hb3 hwr
      go_wp2_with (refine j7w rfl 9 93 5 _ rfl Tryz.underlying9 Tryz.underlying93 Tryz.underlying5 rfl (by show e8.length ≤ _; rw [E8L.out]; omega) 0 (Nat.zero_le _) ?_)
      intro cap4 w4 hown4 hb4 hcap4 hsz4
      clear hsz4 hcap4
      go_wp2_with (refine q8l elemBytes rfl _ _ rfl (w.heap.size + 1) rfl (hown3.later hb4) ⟨w3.heap.size, 0, none⟩ e8.length cap4 (bvs e8) rfl (by simp [bvs]) (hown4.cells rfl) (fun u hu => List.all_eq_true.1 (q1f e8) u hu) (by rw [E8L.out]; omega) (by have := hb4.size; omega) ?_)
      intro v5 w5 hown5 hb5 _ _
      have hown6 : Owns w5 (w.heap.size + 1) 5 1 v5 p.length (bvs p) := by
        rw [hpe.out, E8L.out, HNN.out] at hown5; exact hown5
      have hbr6 : Below (w.heap.size + 1) W w5 := hbr3.trans ((hb4.mono hwr3).trans hb5)
      have hwr6 : w.heap.size + 1 ≤ w5.heap.size := by have := hbr6.size; rw [hW.out] at this; exact this
      have HP64 : Hid (p.length % 64 = 0) := by
        unfold Hid; rw [← HNN.out]
        have : n % 64 = 56 := by rw [bne_eq_false_iff_eq] at e1; omega
        omega
      have hpm : p.length ≤ 1099511627776 + 100 := by rw [← HNN.out]; omega
      have hpp : 0 < p.length := by rw [← HNN.out]; omega
      have hmk := make64
      clear hown3 hown4 hb4 hb5 hown5 hbr3 hwr3 hpe E8L HEig hu hu2 e1 hg1 hg2 hg3 hnb HNN
      obtain ⟨gp, cp, hv, hg1, hg2, hg3⟩ := hown6.at_ hpp
      subst hv
      go_wp2_with fail
      refine (x6c _).mono ?_
      rintro _ w6 ⟨rfl, rfl⟩
      have v0 : Words (w5.alloc (.cells (wvs startV.list).toArray 189)) w5.heap.size 189 startV.list := Arr.new _ _ _
      have v1 := Arr.alloc v0 (.cells (wvs rootsL).toArray 189)
      have v2 := hide (Arr.alloc v1 (.cells (wvs zw64).toArray 189))
      have k1 : Words ((w5.alloc (.cells (wvs startV.list).toArray 189)).alloc (.cells (wvs rootsL).toArray 189)) (w5.heap.size + 1) 189 rootsL := Arr.new2 _ _ _ _
      have k2 := hide (Arr.alloc k1 (.cells (wvs zw64).toArray 189))
      have hb6 := ((Below.refl (w.heap.size + 1) w5).alloc hwr6 (.cells (wvs startV.list).toArray 189)).alloc (by simp; omega) (.cells (wvs rootsL).toArray 189)
      have hb7 := hb6.alloc (by simp; omega) (.cells (wvs zw64).toArray 189)
      have z1 : Hid (Words (((w5.alloc (.cells (wvs startV.list).toArray 189)).alloc (.cells (wvs rootsL).toArray 189)).alloc (.cells (wvs zw64).toArray 189)) (w5.heap.size + 1 + 1) 189 zw64) := by
        have := Arr.new ((w5.alloc (.cells (wvs startV.list).toArray 189)).alloc (.cells (wvs rootsL).toArray 189)) (wvs zw64) 189
        have e : ((w5.alloc (.cells (wvs startV.list).toArray 189)).alloc (.cells (wvs rootsL).toArray 189)).heap.size = w5.heap.size + 1 + 1 := by simp
        rw [e] at this
        exact this
      have hown7 := hide (hown6.later (((Below.refl w5.heap.size w5).alloc (Nat.le_refl _) (.cells (wvs startV.list).toArray 189) |>.alloc (by simp) (.cells (wvs rootsL).toArray 189)).alloc (by simp; omega) (.cells (wvs zw64).toArray 189)))
      have hb8 := hide (hbr6.trans hb7)
      have hR := hide (HZ.below hb8.out (by omega))
      clear v0 v1 k1 hb6 hb7 hown6 hbr6 HZ
      go_wp2_with fail
      show Code.wp _ _ _ _ (((w5.alloc (.cells (wvs startV.list).toArray 189)).alloc (.cells (wvs rootsL).toArray 189)).alloc (.cells (wvs zw64).toArray 189))
      clear hmk
      generalize ((w5.alloc (.cells (wvs startV.list).toArray 189)).alloc (.cells (wvs rootsL).toArray 189)).alloc (.cells (wvs zw64).toArray 189) = W8 at *
      generalize w5.heap.size = gv at *
      have RV := v2.out
      have RZ := z1.out
      have RK : SumKeep W w.heap.size gp cp gv p W8 := ⟨k2.out, hown7.out, hR.out, hb8.out, Arr.lt z1.out, hg1, hwr6⟩
      clear v2 k2 z1 hown7 hb8 hR
      go_loopw [7] (fun i wr => ∃ (t : Nat) (ws : List W32), t ≤ p.length ∧ t % 64 = 0 ∧ i = .int .i64 t ∧ ws.length = 64 ∧ Words wr gv 189 (states p (t / 64)).list ∧ Words wr (gv + 1 + 1) 189 ws ∧ SumKeep W w.heap.size gp cp gv p wr) (fun i _ => p.length - (RowKit.intOf i).toNat)
      case atStart => exact ⟨0, zw64, by omega, rfl, rfl, rfl, RV, RZ, RK⟩
      case round =>
        obtain ⟨t, ws, ht, ht64, rfl, hwl, qv, qz, qk⟩ := hrel
        clear RV RZ RK
        by_cases hlt : t < p.length
        · have hle : t + 64 ≤ p.length := by have := HP64.out; omega
          have i1 : (t : Int) + 64 ≤ p.length := by omega
          obtain ⟨sl, hsl⟩ : ∃ sl, sl = sched (byteW p t) := ⟨_, rfl⟩
          have HSL2 : Hid (sl.length = 64) := by rw [hsl]; exact q8a _
          have HLO : Hid (∀ k, k < 16 → sl.getD k 0 = part (byteW p t) k 4) := by rw [hsl]; exact x5o _
          have HHI : Hid (∀ k, 16 ≤ k → k < 64 → sl.getD k 0 = sg1 (sl.getD (k - 2) 0) + sl.getD (k - 7) 0 + sg0 (sl.getD (k - 15) 0) + sl.getD (k - 16) 0) := by rw [hsl]; exact x4j _
          have HNX : Hid (states p ((t + 64) / 64) = goesV (states p (t / 64)) sl) := by
            unfold Hid
            rw [hsl, show (t + 64) / 64 = t / 64 + 1 by omega, show t = 64 * (t / 64) by omega]
            simp only [states]
            rw [show 64 * (t / 64) / 64 = t / 64 by omega]
          have HT64 := hide ht64
          have HWL := hide hwl
          clear hsl ht64 hwl
          generalize states p (t / 64) = v at *
          have hz : Hid (over (sl.take 0) ws = ws) := by simp [over, Hid]
          go_wp2_with fail
          go_loopw [8] (fun i wr => ∃ k : Nat, k ≤ 64 ∧ i = .int .i64 k ∧ Words wr (gv + 1 + 1) 189 (over (sl.take k) ws) ∧ Words wr gv 189 v.list ∧ SumKeep W w.heap.size gp cp gv p wr) (fun i _ => 64 - (RowKit.intOf i).toNat)
          case atStart => exact ⟨0, by omega, rfl, by rw [hz.out]; exact qz, qv, qk⟩
          case round =>
            obtain ⟨k, hk, rfl, rz, rv, rk⟩ := hrel
            clear qv qz qk
            by_cases hk64 : k < 64
            · have htl : (sl.take k).length = k := by rw [List.length_take, HSL2.out]; omega
              have hol : (over (sl.take k) ws).length = 64 := by rw [j2q _ _ (by rw [htl, HWL.out]; omega), HWL.out]
              have HNXT : Hid ((over (sl.take k) ws).set k (sl.getD k 0) = over (sl.take (k + 1)) ws) := by
                have h1 := j7f (sl.take k) ws (sl.getD k 0) (by rw [htl, HWL.out]; omega)
                rw [htl, ← j3r sl k 0 (by rw [HSL2.out]; omega)] at h1
                exact h1
              have i0 : (k : Int) < 64 := by omega
              by_cases hk16 : k < 16
              · have c0 := rk.byte (t + 4 * k) t (4 * k) (by omega) (by omega)
                have c1 := rk.byte (t + 4 * k + 1) t (4 * k + 1) (by omega) (by omega)
                have c2 := rk.byte (t + 4 * k + 2) t (4 * k + 2) (by omega) (by omega)
                have c3 := rk.byte (t + 4 * k + 3) t (4 * k + 3) (by omega) (by omega)
                have HV : Hid (byteW p t (4 * k) <<< 24 ||| byteW p t (4 * k + 1) <<< 16 ||| byteW p t (4 * k + 2) <<< 8 ||| byteW p t (4 * k + 3) = sl.getD k 0) := by
                  unfold Hid; rw [z1y, HLO.out k hk16]
                generalize byteW p t (4 * k) = x0 at *
                generalize byteW p t (4 * k + 1) = x1 at *
                generalize byteW p t (4 * k + 2) = x2 at *
                generalize byteW p t (4 * k + 3) = x3 at *
                have f0 := Since.cell c0
                have f1 := Since.cell c1
                have f2 := Since.cell c2
                have f3 := Since.cell c3
                have j0 : (k : Int) < 16 := by omega
                have j1 : (t : Int) + 4 * (k : Int) + 3 < p.length := by omega
                have L1 : ∀ a b : W32, bits .or .u32 (wv a) (wv b) = wv (a ||| b) := w_or
                have L2 : ∀ a : W32, wv a % (4294967296 : Int) = wv a := w_mod
                have L3 : ∀ a : W32, wv a * (16777216 : Int) % (4294967296 : Int) = wv (a <<< 24) := z2p
                have L4 : ∀ a : W32, wv a * (65536 : Int) % (4294967296 : Int) = wv (a <<< 16) := z1o
                have L5 : ∀ a : W32, wv a * (256 : Int) % (4294967296 : Int) = wv (a <<< 8) := z1c
                replace htl := hide htl
                replace hol := hide hol
                clear c0 c1 c2 c3
                go_wp2_with fail
                refine q0n 32 (by kernel_rfl) (by kernel_rfl) ?_
                simp only [List.take_succ_cons, List.take_zero]
                repeat ((go_big_quiet_want; go_big_quiet_op; go_big_quiet_on))
                refine wpQuiet_nil ?_
                intro w9 hw9
                simp only [List.drop_succ_cons, List.drop_zero]
                clear f0 f1 f2 f3
                have rz9 : Words w9 (gv + 1 + 1) 189 (over (sl.take k) ws) := Arr.later rz hw9
                have rv9 : Words w9 gv 189 v.list := Arr.later rv hw9
                have rk9 := rk.later hw9
                have cz := rz9.cell (i := k) (by rw [hol.out]; omega)
                have tz := Arr.thaw rz9 k
                clear rz rv rk
                go_wp2_with fail
                go_roundw
                case rel =>
                  refine ⟨k + 1, by omega, by simp, ?_, Arr.other rv9 _ _ (by show gv ≠ gv + 1 + 1; omega), rk9.set _ _ (by show gv ≤ gv + 1 + 1; omega) (by show gv + 1 + 1 ≠ gv + 1; omega)⟩
                  rw [← HNXT.out, ← HV.out]
                  exact rz9.set k _
                case measure => simp [RowKit.intOf]; omega
              · have g15 : (over (sl.take k) ws).getD (k - 15) 0 = sl.getD (k - 15) 0 := by rw [j0d _ _ _ (by rw [htl]; omega), j0h _ _ _ _ (by omega)]
                have g2 : (over (sl.take k) ws).getD (k - 2) 0 = sl.getD (k - 2) 0 := by rw [j0d _ _ _ (by rw [htl]; omega), j0h _ _ _ _ (by omega)]
                have g16 : (over (sl.take k) ws).getD (k - 16) 0 = sl.getD (k - 16) 0 := by rw [j0d _ _ _ (by rw [htl]; omega), j0h _ _ _ _ (by omega)]
                have g7 : (over (sl.take k) ws).getD (k - 7) 0 = sl.getD (k - 7) 0 := by rw [j0d _ _ _ (by rw [htl]; omega), j0h _ _ _ _ (by omega)]
                have c15 := rz.cell (i := k - 15) (by rw [hol]; omega)
                have c2 := rz.cell (i := k - 2) (by rw [hol]; omega)
                have c16 := rz.cell (i := k - 16) (by rw [hol]; omega)
                have c7 := rz.cell (i := k - 7) (by rw [hol]; omega)
                rw [g15] at c15
                rw [g2] at c2
                rw [g16] at c16
                rw [g7] at c7
                have HV := hide (HHI.out k (by omega) hk64)
                have HX : Hid (rotr (sl.getD (k - 2) 0) 17 ^^^ rotr (sl.getD (k - 2) 0) 19 ^^^ sl.getD (k - 2) 0 >>> 10 + sl.getD (k - 7) 0 + (rotr (sl.getD (k - 15) 0) 7 ^^^ rotr (sl.getD (k - 15) 0) 18 ^^^ sl.getD (k - 15) 0 >>> 3) + sl.getD (k - 16) 0 = sl.getD k 0 ∨ True) := .inr trivial
                have HV2 : Hid ((rotr (sl.getD (k - 2) 0) 17 ^^^ rotr (sl.getD (k - 2) 0) 19 ^^^ sl.getD (k - 2) 0 >>> 10) + sl.getD (k - 7) 0 + (rotr (sl.getD (k - 15) 0) 7 ^^^ rotr (sl.getD (k - 15) 0) 18 ^^^ sl.getD (k - 15) 0 >>> 3) + sl.getD (k - 16) 0 = sl.getD k 0) := HV.out.symm
                clear HV HX g15 g2 g16 g7
                generalize sl.getD (k - 15) 0 = x15 at *
                generalize sl.getD (k - 2) 0 = x2 at *
                generalize sl.getD (k - 16) 0 = x16 at *
                generalize sl.getD (k - 7) 0 = x7 at *
                have f16 := Since.cell c16
                have f7 := Since.cell c7
                have j0 : ¬ (k : Int) < 16 := by omega
                have i1' : 0 ≤ (k : Int) - 15 := by omega
                have i2 : 0 ≤ (k : Int) - 2 := by omega
                have i3 : 0 ≤ (k : Int) - 16 := by omega
                have i4 : 0 ≤ (k : Int) - 7 := by omega
                have j1 : (k : Int) - 15 < 64 := by omega
                have j2 : (k : Int) - 2 < 64 := by omega
                have j3 : (k : Int) - 16 < 64 := by omega
                have j4 : (k : Int) - 7 < 64 := by omega
                have n1 : ((k : Int) - 15).toNat = k - 15 := by omega
                have n2 : ((k : Int) - 2).toNat = k - 2 := by omega
                have n3 : ((k : Int) - 16).toNat = k - 16 := by omega
                have n4 : ((k : Int) - 7).toNat = k - 7 := by omega
                have L1 : ∀ a b : W32, bits .xor .u32 (wv a) (wv b) = wv (a ^^^ b) := j6s
                have L2 : ∀ a b : W32, IntKind.u32.wrap (wv a + wv b) = wv (a + b) := j9t
                have L3 : ∀ a : W32, wv a / (8 : Int) = wv (a >>> 3) := z1f
                have L4 : ∀ a : W32, wv a / (1024 : Int) = wv (a >>> 10) := x4p
                replace htl := hide htl
                replace hol := hide hol
                go_wp2_with fail
                refine q0n 32 (by kernel_rfl) (by kernel_rfl) ?_
                simp only [List.take_succ_cons, List.take_zero]
                repeat ((go_big_quiet_want; go_big_quiet_op; go_big_quiet_on))
                go_big_quiet_want; go_big_quiet_op
                refine ⟨_, fun _ => q0f (refTurn17 _ _), ?_⟩
                go_big_quiet_on
                repeat ((go_big_quiet_want; go_big_quiet_op; go_big_quiet_on))
                go_big_quiet_want; go_big_quiet_op
                refine ⟨_, fun _ => q0f (refTurn19 _ _), ?_⟩
                go_big_quiet_on
                repeat ((go_big_quiet_want; go_big_quiet_op; go_big_quiet_on))
                go_big_quiet_want; go_big_quiet_op
                refine ⟨_, fun _ => q0f (refTurn7 _ _), ?_⟩
                go_big_quiet_on
                repeat ((go_big_quiet_want; go_big_quiet_op; go_big_quiet_on))
                go_big_quiet_want; go_big_quiet_op
                refine ⟨_, fun _ => q0f (refTurn18 _ _), ?_⟩
                go_big_quiet_on
                repeat ((go_big_quiet_want; go_big_quiet_op; go_big_quiet_on))
                refine wpQuiet_nil ?_
                intro w9 hw9
                simp only [List.drop_succ_cons, List.drop_zero]
                clear f16 f7 c15 c2 c16 c7
                have rz9 : Words w9 (gv + 1 + 1) 189 (over (sl.take k) ws) := Arr.later rz hw9
                have rv9 : Words w9 gv 189 v.list := Arr.later rv hw9
                have rk9 := rk.later hw9
                have cz := rz9.cell (i := k) (by rw [hol.out]; omega)
                have tz := Arr.thaw rz9 k
                clear rz rv rk
                go_wp2_with fail
                go_roundw
                case rel =>
                  refine ⟨k + 1, by omega, by simp, ?_, Arr.other rv9 _ _ (by show gv ≠ gv + 1 + 1; omega), rk9.set _ _ (by show gv ≤ gv + 1 + 1; omega) (by show gv + 1 + 1 ≠ gv + 1; omega)⟩
                  rw [← HNXT.out, ← HV2.out]
                  exact rz9.set k _
                case measure => simp [RowKit.intOf]; omega
            · have hk' : k = 64 := by omega
              subst hk'
              have hfull : over (sl.take 64) ws = sl := by
                rw [show sl.take 64 = sl by rw [← HSL2.out, List.take_length]]
                exact j8x _ _ (by rw [HSL2.out, HWL.out])
              rw [hfull] at rz
              clear hfull HLO HHI hz
              have rvn := z0v (Arr.alloc rv (.cells #[] 189))
              have hws9 : w.heap.size + 1 ≤ wr.heap.size := by have := rk.s; omega
              have hvone : ∀ u ∈ wvs v.list, u.oneCell' = true := fun u hu => List.all_eq_true.1 (q8c v.list) u hu
              go_wp2_with (refine q8l elemWords rfl _ _ rfl (w.heap.size + 1) rfl (z0r wr (w.heap.size + 1) 189 hws9) ⟨gv, 0, none⟩ 8 8 (wvs v.list) rfl rfl rvn hvone (by omega) (by simp; omega) ?_)
              intro v9 w9 hown9 hb9 hg9 hat9
              have rk9 : SumKeep W w.heap.size gp cp gv p w9 := by
                have h1 := rk.later ((Below.refl wr.heap.size wr).alloc (Nat.le_refl _) (.cells #[] 189))
                exact h1.grown hg9 hb9 rk.s
              have hsw := rk.s
              have rv9 : Words w9 gv 189 v.list := Arr.grown (Arr.alloc rv (.cells #[] 189)) hg9 (by simp [Value.ownBlock]; omega)
              have rz9 : Words w9 (gv + 1 + 1) 189 sl := Arr.grown (Arr.alloc rz (.cells #[] 189)) hg9 (by simp [Value.ownBlock]; omega)
              have hown10 : Owns w9 (w.heap.size + 1) 189 1 v9 8 (wvs v.list) := by simpa using hown9
              obtain ⟨gw, cw, hvw, hgw1, hgw2, hgw3⟩ := hown10.at_ (by omega)
              subst hvw
              have hgv3 : gv + 1 + 1 < gw := by
                rcases hat9 with h | h
                · simp only [Value.ownBlock, Option.some.injEq] at h; omega
                · simp only [Value.ownBlock, Option.some.injEq] at h; first | omega
              clear rvn hvone hown9 hb9 hg9 rk rv rz hsw hat9 hk hk64
              go_wp2_with fail
              go_loopw [13] (fun i wr => ∃ k : Nat, k ≤ 64 ∧ i = .int .i64 k ∧ Words wr gv 189 (rounds v rootsL sl k).list ∧ Words wr (gv + 1 + 1) 189 sl ∧ SumKeep W w.heap.size gp cp gv p wr ∧
                Owns wr (w.heap.size + 1) 189 1 (.slice (some ⟨gw, 0, none⟩) 8 cw) 8 (wvs v.list)) (fun i _ => 64 - (RowKit.intOf i).toNat)
              case atStart => exact ⟨0, by omega, rfl, rv9, rz9, rk9, hown10⟩
              case round =>
                obtain ⟨k, hk, rfl, rv, rz, rk, ro⟩ := hrel
                clear rv9 rz9 rk9 hown10
                by_cases hk64 : k < 64
                · have HNR : Hid ((rounds v rootsL sl (k + 1)).list = (round1 (rounds v rootsL sl k) (rootsL.getD k 0) (sl.getD k 0)).list) := rfl
                  have cz := rz.cell (i := k) (by rw [HSL2.out]; omega)
                  have ck := Words.cell rk.k (i := k) (by show k < 64; omega)
                  generalize rounds v rootsL sl k = r at *
                  generalize rootsL.getD k 0 = kk at *
                  generalize sl.getD k 0 = zz at *
                  have a0 : wr.cell? ⟨gv, 0, none⟩ = some (.int .u32 (wv r.a)) := Words.cell rv (i := 0) (by decide : 0 < 8)
                  have a1 : wr.cell? ⟨gv, 1, none⟩ = some (.int .u32 (wv r.b)) := Words.cell rv (i := 1) (by decide : 1 < 8)
                  have a2 : wr.cell? ⟨gv, 2, none⟩ = some (.int .u32 (wv r.c)) := Words.cell rv (i := 2) (by decide : 2 < 8)
                  have a4 : wr.cell? ⟨gv, 4, none⟩ = some (.int .u32 (wv r.e)) := Words.cell rv (i := 4) (by decide : 4 < 8)
                  have a5 : wr.cell? ⟨gv, 5, none⟩ = some (.int .u32 (wv r.f)) := Words.cell rv (i := 5) (by decide : 5 < 8)
                  have a6 : wr.cell? ⟨gv, 6, none⟩ = some (.int .u32 (wv r.g)) := Words.cell rv (i := 6) (by decide : 6 < 8)
                  have a7 : wr.cell? ⟨gv, 7, none⟩ = some (.int .u32 (wv r.h)) := Words.cell rv (i := 7) (by decide : 7 < 8)
                  have s5 := Since.cell a5
                  have s6 := Since.cell a6
                  have s7 := Since.cell a7
                  have sk := Since.cell ck
                  have sz := Since.cell cz
                  have i0 : (k : Int) < 64 := by omega
                  have L1 : ∀ a b : W32, bits .xor .u32 (wv a) (wv b) = wv (a ^^^ b) := j6s
                  have L2 : ∀ a b : W32, IntKind.u32.wrap (wv a + wv b) = wv (a + b) := j9t
                  have L3 : ∀ a b : W32, bits .and .u32 (wv a) (wv b) = wv (a &&& b) := w_and
                  have L4 : ∀ a b : W32, bits .or .u32 (wv a) (wv b) = wv (a ||| b) := w_or
                  have L5 := xorF
                  go_wp2_with fail
                  refine q0e (by kernel_rfl) (by kernel_rfl) ?_
                  repeat ((go_big_quiet_want; go_big_quiet_op; go_big_quiet_on))
                  go_big_quiet_want; go_big_quiet_op
                  refine ⟨_, fun _ => q0f (refTurn6 _ _), ?_⟩
                  go_big_quiet_on
                  repeat ((go_big_quiet_want; go_big_quiet_op; go_big_quiet_on))
                  go_big_quiet_want; go_big_quiet_op
                  refine ⟨_, fun _ => q0f (refTurn11 _ _), ?_⟩
                  go_big_quiet_on
                  repeat ((go_big_quiet_want; go_big_quiet_op; go_big_quiet_on))
                  go_big_quiet_want; go_big_quiet_op
                  refine ⟨_, fun _ => q0f (refTurn25 _ _), ?_⟩
                  go_big_quiet_on
                  repeat ((go_big_quiet_want; go_big_quiet_op; go_big_quiet_on))
                  refine wpQuiet_nil ?_
                  intro w10 hw10
                  have s1 := Since.cell (cell_later hw10 a1)
                  have s2 := Since.cell (cell_later hw10 a2)
                  clear s5 s6 s7 sk sz
                  obtain ⟨x, hx⟩ : ∃ x, x = r.h + (rotr r.e 6 ^^^ rotr r.e 11 ^^^ rotr r.e 25) + (r.e &&& r.f ||| (r.e ^^^ 4294967295#32) &&& r.g) + kk + zz := ⟨_, rfl⟩
                  rw [← hx]
                  have HX : Hid (x = rx r kk zz) := by rw [hx]; exact congrArg (fun q => r.h + (rotr r.e 6 ^^^ rotr r.e 11 ^^^ rotr r.e 25) + q + kk + zz) (ch_or r.e r.f r.g)
                  clear hx
                  go_wp2_with fail
                  refine q0e (by kernel_rfl) (by kernel_rfl) ?_
                  repeat ((go_big_quiet_want; go_big_quiet_op; go_big_quiet_on))
                  go_big_quiet_want; go_big_quiet_op
                  refine ⟨_, fun _ => q0f (refTurn2 _ _), ?_⟩
                  go_big_quiet_on
                  repeat ((go_big_quiet_want; go_big_quiet_op; go_big_quiet_on))
                  go_big_quiet_want; go_big_quiet_op
                  refine ⟨_, fun _ => q0f (refTurn13 _ _), ?_⟩
                  go_big_quiet_on
                  repeat ((go_big_quiet_want; go_big_quiet_op; go_big_quiet_on))
                  go_big_quiet_want; go_big_quiet_op
                  refine ⟨_, fun _ => q0f (refTurn22 _ _), ?_⟩
                  go_big_quiet_on
                  repeat ((go_big_quiet_want; go_big_quiet_op; go_big_quiet_on))
                  refine wpQuiet_nil ?_
                  intro w11 hw11
                  obtain ⟨y, hy⟩ : ∃ y, y = (rotr r.a 2 ^^^ rotr r.a 13 ^^^ rotr r.a 22) + (r.a &&& r.b ||| r.a &&& r.c ||| r.b &&& r.c) := ⟨_, rfl⟩
                  rw [← hy]
                  have HY : Hid (y = ry r) := by rw [hy, maj_or]; rfl
                  have hw := later hw10 hw11
                  have rv11 : Words w11 gv 189 (shiftL r.list 7) := by rw [x3i r.list rfl]; exact Arr.later rv hw
                  have rz11 : Words w11 (gv + 1 + 1) 189 sl := Arr.later rz hw
                  have rk11 := rk.later hw
                  have ro11 := ro.later hw
                  clear hy s1 s2 a0 a1 a2 a4 a5 a6 a7 hw10 hw11 hw rv rz rk ro ck cz L1 L3 L4 L5
                  go_wp2_with fail
                  go_loopw [18] (fun i wr => ∃ j : Nat, j ≤ 7 ∧ i = .int .i64 j ∧ Words wr gv 189 (shiftL r.list j) ∧ Words wr (gv + 1 + 1) 189 sl ∧ SumKeep W w.heap.size gp cp gv p wr ∧
                    Owns wr (w.heap.size + 1) 189 1 (.slice (some ⟨gw, 0, none⟩) 8 cw) 8 (wvs v.list)) (fun i _ => (RowKit.intOf i).toNat)
                  case atStart => exact ⟨7, by omega, rfl, rv11, rz11, rk11, ro11⟩
                  case round =>
                    obtain ⟨j, hj, rfl, rv, rz, rk, ro⟩ := hrel
                    clear rv11 rz11 rk11 ro11
                    by_cases hj0 : 0 < j
                    · have hsl := j8q r.list rfl j hj
                      have HNS := hide (x3t r.list rfl j (by omega) hj)
                      have cj := rv.cell (i := j - 1) (by rw [hsl]; omega)
                      have cj2 := rv.cell (i := j) (by rw [hsl]; omega)
                      have tj := Arr.thaw rv j
                      have e1 : (0 : Int) < (j : Int) := by omega
                      have e2 : (j : Int) - 1 < 8 := by omega
                      have e3 : 0 ≤ (j : Int) - 1 := by omega
                      have e4 : ((j : Int) - 1).toNat = j - 1 := by omega
                      have e5 : (j : Int) < 8 := by omega
                      have rv' := rv.set j ((shiftL r.list j).getD (j - 1) 0)
                      rw [HNS.out] at rv'
                      generalize (shiftL r.list j).getD (j - 1) 0 = q at *
                      have rk' := rk.set ⟨gv, j, none⟩ (.int .u32 (wv q)) (by show gv ≤ gv; omega) (by show gv ≠ gv + 1; omega)
                      have rz' : Words (wr.setCell ⟨gv, j, none⟩ (.int .u32 (wv q))) (gv + 1 + 1) 189 sl := Arr.other rz _ _ (by show gv + 1 + 1 ≠ gv; omega)
                      have ro' := ro.setCell ⟨gv, j, none⟩ (.int .u32 (wv q)) (by simp [Value.ownBlock]; omega)
                      replace hsl := hide hsl
                      go_wp2_with fail
                      go_roundw
                      case rel => exact ⟨j - 1, by omega, by rw [show ((j - 1 : Nat) : Int) = (j : Int) - 1 by omega], rv', rz', rk', ro'⟩
                      case measure => simp [RowKit.intOf]; omega
                    · have hj00 : j = 0 := by omega
                      subst hj00
                      have c4 : wr.cell? ⟨gv, 4, none⟩ = some (.int .u32 (wv r.d)) := Words.cell rv (i := 4) (by decide : 4 < 8)
                      have t4 := Arr.thaw rv 4
                      have rv1 := rv.set 4 (r.d + x)
                      have t0 := Arr.thaw rv1 0
                      have c0 := Words.cell rv1 (i := 0) (by show 0 < 8; omega)
                      have rv2 := rv1.set 0 (x + y)
                      have rk1 := (rk.set ⟨gv, 4, none⟩ (.int .u32 (wv (r.d + x))) (by show gv ≤ gv; omega) (by show gv ≠ gv + 1; omega)).set ⟨gv, 0, none⟩ (.int .u32 (wv (x + y))) (by show gv ≤ gv; omega) (by show gv ≠ gv + 1; omega)
                      have rz1 : Words ((wr.setCell ⟨gv, 4, none⟩ (.int .u32 (wv (r.d + x)))).setCell ⟨gv, 0, none⟩ (.int .u32 (wv (x + y)))) (gv + 1 + 1) 189 sl := Arr.other (Arr.other rz _ _ (by show gv + 1 + 1 ≠ gv; omega)) _ _ (by show gv + 1 + 1 ≠ gv; omega)
                      have ro1 := (ro.setCell ⟨gv, 4, none⟩ (.int .u32 (wv (r.d + x))) (by simp [Value.ownBlock]; omega)).setCell ⟨gv, 0, none⟩ (.int .u32 (wv (x + y))) (by simp [Value.ownBlock]; omega)
                      have HLAST : Hid ((((shiftL r.list 0).set 4 (r.d + x)).set 0 (x + y)) = (rounds v rootsL sl (k + 1)).list) := by
                        unfold Hid; rw [HNR.out, HX.out, HY.out]; rfl
                      go_wp2_with fail
                      go_roundw
                      case rel => exact ⟨k + 1, by omega, by simp, by rw [← HLAST.out]; exact rv2, rz1, rk1, ro1⟩
                      case measure => simp [RowKit.intOf]; omega
                · have hk' : k = 64 := by omega
                  subst hk'
                  obtain ⟨r, hr⟩ : ∃ r, r = rounds v rootsL sl 64 := ⟨_, rfl⟩
                  rw [← hr] at rv
                  have HG : Hid ((r.plus v).list = (goesV v sl).list) := by rw [hr]; exact x4h v sl
                  clear hr
                  have hz0 : Hid (over ((plusL r v).take 0) r.list = r.list) := by simp [over, Hid]
                  go_wp2_with fail
                  go_loopw [19] (fun i wr => ∃ j : Nat, j ≤ 8 ∧ i = .int .i64 j ∧ Words wr gv 189 (over ((plusL r v).take j) r.list) ∧ Words wr (gv + 1 + 1) 189 sl ∧ SumKeep W w.heap.size gp cp gv p wr ∧
                    Owns wr (w.heap.size + 1) 189 1 (.slice (some ⟨gw, 0, none⟩) 8 cw) 8 (wvs v.list)) (fun i _ => 8 - (RowKit.intOf i).toNat)
                  case atStart => exact ⟨0, by omega, rfl, by rw [hz0.out]; exact rv, rz, rk, ro⟩
                  case round =>
                    clear rv rz rk ro
                    obtain ⟨j, hj, rfl, rv, rz, rk, ro⟩ := hrel
                    have hpl : (plusL r v).length = 8 := by simp [plusL]
                    by_cases hj8 : j < 8
                    · have htl : ((plusL r v).take j).length = j := by rw [List.length_take, hpl]; omega
                      have hol : (over ((plusL r v).take j) r.list).length = 8 := by rw [j2q _ _ (by rw [htl]; show j ≤ 8; omega)]; rfl
                      have hg : (over ((plusL r v).take j) r.list).getD j 0 = r.list.getD j 0 := x7m _ _ _ (by rw [htl]; exact Nat.le_refl _)
                      have HNXT : Hid ((over ((plusL r v).take j) r.list).set j (r.list.getD j 0 + v.list.getD j 0) = over ((plusL r v).take (j + 1)) r.list) := by
                        have h1 := j7f ((plusL r v).take j) r.list ((plusL r v).getD j 0) (by rw [htl]; exact hj8)
                        rw [htl, ← j3r _ j 0 (by rw [hpl]; omega), x2m r v j hj8] at h1
                        exact h1
                      have cj := rv.cell (i := j) (by rw [hol]; omega)
                      rw [hg] at cj
                      have cw0 : wr.cell? ⟨gw, j, none⟩ = some (.int .u32 (wv (v.list.getD j 0))) := by rw [ro.cell j (by omega), x1d _ _ (by exact hj8)]
                      clear hg
                      have hold : Hid ((over ((plusL r v).take j) r.list).length = 8) := hol
                      generalize r.list.getD j 0 = q1 at *
                      generalize v.list.getD j 0 = q2 at *
                      have s1 := Since.cell cj
                      have s2 := Since.cell cw0
                      have i0 : (j : Int) < 8 := by omega
                      have L2 : ∀ a b : W32, IntKind.u32.wrap (wv a + wv b) = wv (a + b) := j9t
                      replace hpl := hide hpl
                      replace htl := hide htl
                      clear hol
                      go_wp2_with fail
                      refine q0n 12 (by kernel_rfl) (by kernel_rfl) ?_
                      simp only [List.take_succ_cons, List.take_zero]
                      repeat ((go_big_quiet_want; go_big_quiet_op; go_big_quiet_on))
                      refine wpQuiet_nil ?_
                      intro w9 hw9
                      simp only [List.drop_succ_cons, List.drop_zero]
                      clear s1 s2
                      have rv9 : Words w9 gv 189 _ := Arr.later rv hw9
                      have rz9 : Words w9 (gv + 1 + 1) 189 sl := Arr.later rz hw9
                      have rk9 := rk.later hw9
                      have ro9 := ro.later hw9
                      have c9 := rv9.cell (i := j) (by rw [hold.out]; omega)
                      have t9 := Arr.thaw rv9 j
                      have rv10 := rv9.set j (q1 + q2)
                      rw [HNXT.out] at rv10
                      have rk10 := rk9.set ⟨gv, j, none⟩ (.int .u32 (wv (q1 + q2))) (by show gv ≤ gv; omega) (by show gv ≠ gv + 1; omega)
                      have rz10 : Words (w9.setCell ⟨gv, j, none⟩ (.int .u32 (wv (q1 + q2)))) (gv + 1 + 1) 189 sl := Arr.other rz9 _ _ (by show gv + 1 + 1 ≠ gv; omega)
                      have ro10 := ro9.setCell ⟨gv, j, none⟩ (.int .u32 (wv (q1 + q2))) (by simp [Value.ownBlock]; omega)
                      clear rv rz rk ro rv9 rz9 rk9 ro9 cj cw0 hw9
                      go_wp2_with fail
                      go_roundw
                      case rel => exact ⟨j + 1, by omega, by simp, rv10, rz10, rk10, ro10⟩
                      case measure => simp [RowKit.intOf]; omega
                    · have hj8' : j = 8 := by omega
                      subst hj8'
                      rw [show (plusL r v).take 8 = plusL r v by rw [← hpl, List.take_length], j8x _ _ (by rw [hpl]; rfl), z0g, HG.out] at rv
                      go_wp2_with fail
                      go_roundw
                      case rel => exact ⟨t + 64, sl, hle, by have := HT64.out; omega, by simp, HSL2.out, by rw [HNX.out]; exact rv, rz, rk⟩
                      case measure => simp [RowKit.intOf]; omega
        · have hte : t = p.length := by omega
          subst hte
          have HP2 := HR
          generalize states p (p.length / 64) = v at *
          obtain ⟨bs, hh⟩ : ∃ bs, bs = outL v := ⟨_, rfl⟩
          rw [← hh] at HP2
          have HH := hide hh
          have HHL : Hid (bs.length = 32) := by rw [hh]; simp [outL, Hid]
          clear hh qz hwl ht64
          obtain ⟨hS, hSb⟩ := j6f wr zero32 rfl
          have K1 := qk.later hSb
          have hsz := hide (show wr.heap.size + 1 = ((wr.alloc (.cells (bvs zero32).toArray 34)).setRow wr.heap.size (bvs zero32).toArray).heap.size by simp)
          have V1 : Words ((wr.alloc (.cells (bvs zero32).toArray 34)).setRow wr.heap.size (bvs zero32).toArray) gv 189 v.list := Arr.later qv hSb
          have hlast := qk.s
          clear hSb qv qk
          replace hS := hide hS
          go_wp2_with (first | (refine q2n rfl rfl ?_) | (refine q0y rfl _ _ rfl rfl rfl rfl (HashAt.zero wr) ?_))
          show Code.wp _ _ _ _ ((wr.alloc (.cells (bvs zero32).toArray 34)).setRow wr.heap.size (bvs zero32).toArray)
          generalize (wr.alloc (.cells (bvs zero32).toArray 34)).setRow wr.heap.size (bvs zero32).toArray = W10 at *
          generalize wr.heap.size = g9 at *
          have D0 : Byts W10 g9 34 (bfill bs 0) := by
            rw [show bfill bs 0 = zero32 by simp [bfill, HHL.out, zero32]]; exact hS.out.2
          clear hS
          go_loopw [21] (fun i wq => ∃ k : Nat, k ≤ 32 ∧ i = .int .i64 k ∧ Byts wq g9 34 (bfill bs k) ∧ Words wq gv 189 v.list ∧ SumKeep W w.heap.size gp cp gv p wq) (fun i _ => 32 - (RowKit.intOf i).toNat)
          case atStart => exact ⟨0, by omega, rfl, D0, V1, K1⟩
          case round =>
            obtain ⟨k, hk, rfl, d0, d1, d2⟩ := hrel
            clear D0 V1 K1
            by_cases hk32 : k < 32
            · have x0 : wr.cell? ⟨gv, k / 4, none⟩ = some (.int .u32 (wv (v.list.getD (k / 4) 0))) := Words.cell d1 (i := k / 4) (by show k / 4 < 8; omega)
              have e1 := x6z v k
              have d4 := Byts.set d0 k (bs.getD k 0)
              rw [j0w _ _ (by rw [HHL.out]; omega), show bs.getD k 0 = outB v k by rw [HH.out]; simp [outL, hk32], e1] at d4
              have x1 := Byts.cell d0 (i := k) (by rw [q8f _ _ (by rw [HHL.out]; omega), HHL.out]; omega)
              have x2 := Arr.thaw d0 k
              generalize v.list.getD (k / 4) 0 = x at *
              have d5 : Words (wr.setCell ⟨g9, k, none⟩ (.int .u8 (wv x / 2 ^ (24 - k % 4 * 8) % 256))) gv 189 v.list := Arr.other d1 _ _ (by show gv ≠ g9; omega)
              have d6 := d2.set ⟨g9, k, none⟩ (.int .u8 (wv x / 2 ^ (24 - k % 4 * 8) % 256)) (by show gv ≤ g9; omega) (by show g9 ≠ gv + 1; omega)
              clear e1
              go_wp2_with fail
              exact ⟨⟨k + 1, by omega, by simp, d4, d5, d6⟩, by simp [RowKit.intOf]; omega⟩
            · have hk' : k = 32 := by omega
              subst hk'
              rw [show bfill bs 32 = bs by have := j0n bs; rwa [HHL.out] at this] at d0
              have hA : HashAt wr g9 bs := ⟨HHL.out, d0⟩
              have hZ := d2.r
              have hfin := hide (hZ.row bs HHL.out)
              have hBe := hide (q0p (hb0.trans (d2.o.mono (by omega))) (Nat.le_refl w.heap.size) (bvs bs).toArray)
              clear d0 d1 d2
              go_wp2_with (first | (refine q1a rfl _ rfl rfl hA ?_) | (refine q0y rfl _ _ rfl rfl rfl HHL.out hZ ?_))
              refine bodyPost_ret (v := hv bs) (q2v rfl _ _ rfl hfin.out) rfl ⟨?_, hBe.out⟩
              rw [HP2.out]
theorem j1o (f n : Nat) (w : World) (hn : n < 128) :
  Calls Tryz.prog 82 #[.int .u64 n] w fun e w' => e = .returned (.string ⟨(putF (f + 1) n).toArray⟩) ∧ Below w.heap.size w w' := by
 have HE : Hid (putF (f + 1) n = [UInt8.ofNat n]) := by unfold Hid; rw [putF, if_pos hn]
 rw [HE.out]
 have ht := j6a ((n : Int) % 256) n (by omega) (by omega) w
 have e1 : (n : Int) < 128 := by omega
 have e2 : (n : Int) % 256 = (n : Int) := by omega
 rw [e2] at ht
 go_enter Tryz.func82, Tryz.ntmps82
 go_wp2_with fail
 go_ret
 exact ⟨rfl, below1 _ _⟩
theorem x3z (f : Nat) : ∀ (n : Nat) (w : World), f < 999 → n < 18446744073709551616 → n < 128 ^ (f + 1) →
    Calls Tryz.prog 82 #[.int .u64 n] w fun e w' => e = .returned (.string ⟨(putF (f + 1) n).toArray⟩) ∧ Below w.heap.size w w' := by
  induction f with
  | zero => intro n w _ _ hf; exact j1o 0 n w (by simpa using hf)
  | succ f ih =>
    intro n w hfb hn hf
    by_cases hlt : n < 128
    · exact j1o (f + 1) n w hlt
    · have HE : Hid (putF (f + 1 + 1) n = UInt8.ofNat (n % 128 + 128) :: putF (f + 1) (n / 128)) := by
        unfold Hid; rw [putF, if_neg hlt]
      rw [HE.out]
      have IH := hide (fun w => ih (n / 128) w (by omega) (by omega) (by rw [Nat.pow_succ] at hf; exact Nat.div_lt_of_lt_mul (by rw [Nat.mul_comm]; exact hf)))
      clear ih
      have hrl := j3b (f + 1) (n / 128)
      have hff : f + 1 < 999 := hfb
      generalize putF (f + 1) (n / 128) = rest at *
      obtain ⟨y, hy⟩ : ∃ y : Nat, y = n % 128 + 128 := ⟨_, rfl⟩
      have hy2 : y < 256 := by omega
      have e1 : (n : Int) % 128 + 128 = (y : Int) := by omega
      have e2 : (y : Int) % 256 = (y : Int) := by omega
      have e3 : (n : Int) / 128 = ((n / 128 : Nat) : Int) := by omega
      have e4 : (n : Int).tmod 128 = (n : Int) % 128 := Int.tmod_eq_emod_of_nonneg (by omega)
      have e5 : (n : Int).tdiv 128 = (n : Int) / 128 := Int.tdiv_eq_ediv_of_nonneg (by omega)
      have e6 : IntKind.u64.wrap ((n : Int) % 128 + 128) = (y : Int) := by rw [IntKind.wrap_u64]; omega
      have hcv0 : ∀ W : World, (convert 93 9 (.slice (some ⟨W.heap.size, 0, none⟩) 1 1)).run Tryz.prog (W.alloc (.cells #[.int .u8 (y : Int)] 5)) = .ok (.string ⟨#[UInt8.ofNat y]⟩) (W.alloc (.cells #[.int .u8 (y : Int)] 5)) := fun W => j6a _ y rfl hy2 W
      have g1 : IntKind.u64.wrap (y : Int) = (y : Int) := by rw [IntKind.wrap_u64]; omega
      have g2 : IntKind.u8.wrap (y : Int) = (y : Int) := by rw [IntKind.wrap_u8']; omega
      have g3 : IntKind.u64.wrap ((n : Int) / 128) = ((n / 128 : Nat) : Int) := by rw [IntKind.wrap_u64]; omega
      have hcv1 : ∀ W : World, (convert 93 9 (.slice (some ⟨W.heap.size, 0, none⟩) 1 1)).run Tryz.prog (W.alloc (.cells #[.int .u8 (y : Int)] 5)).drew = .ok (.string ⟨#[UInt8.ofNat y]⟩) (W.alloc (.cells #[.int .u8 (y : Int)] 5)).drew := fun W => j7b _ y rfl hy2 W
      have HAF := hide (fun (W W' : World) hb => j4o (y : Int) y rfl hy2 W W' hb)
      rw [← hy] at HE ⊢
      generalize n / 128 = m at *
      have c1 : ¬ 9223372036854775807 < (⟨#[UInt8.ofNat y]⟩ : ByteArray).size + (⟨rest.toArray⟩ : ByteArray).size := by show ¬ _ < 1 + rest.length; omega
      have HC : Hid ((⟨#[UInt8.ofNat y]⟩ : ByteArray) ++ ⟨rest.toArray⟩ = ⟨(UInt8.ofNat y :: rest).toArray⟩) := by unfold Hid; apply ByteArray.ext; simp
      generalize (⟨(UInt8.ofNat y :: rest).toArray⟩ : ByteArray) = full at *
      generalize (⟨rest.toArray⟩ : ByteArray) = rb at *
      generalize (⟨#[UInt8.ofNat y]⟩ : ByteArray) = b1 at *
      clear hy e3
      go_enter Tryz.func82, Tryz.ntmps82
      go_wp2_with fail
      go_region_with
        ((go_at_call 82; refine (IH.out _).mono ?_; rintro e w' ⟨rfl, hb⟩; first | (have hcv2 := HAF.out _ _ hb) | skip))
      all_goals (go_wp2_with fail; go_ret; refine ⟨by rw [HC.out]; rfl, ?_⟩)
      all_goals (first
        | exact later (Below.drew (below1 w (.cells #[.int .u8 (y : Int)] 5))) hb
        | exact (later (Below.drew (Below.refl _ w)) hb).alloc (later (Below.drew (Below.refl _ w)) hb).size _)
theorem q8k (m : Int) (n : Nat) (w : World) (h : m = (n : Nat)) (hn : n < 18446744073709551616) : Calls Tryz.prog 82 #[.int .u64 m] w fun e w' => e = .returned (.string ⟨(putL n).toArray⟩) ∧ Below w.heap.size w w' :=
 h ▸ x3z 9 n w (by omega) hn (by omega)
theorem q8t (s : ByteArray) (w : World) (hs : s.size ≤ 1099511627776) :
  Calls Tryz.prog 83 #[.string s] w fun e w' => e = .returned (.string ⟨(putText s.data.toList).toArray⟩) ∧ Below w.heap.size w w' := by
 have hl := q0g s.size
 have c1 : ¬ 9223372036854775807 < (⟨(putL s.size).toArray⟩ : ByteArray).size + s.size := by
  have : (⟨(putL s.size).toArray⟩ : ByteArray).size = (putL s.size).length := rfl
  omega
 have HE : Hid ((⟨(putL s.size).toArray⟩ : ByteArray) ++ s = ⟨(putText s.data.toList).toArray⟩) := by
  unfold Hid putText
  apply ByteArray.ext
  have : s.data.toList.length = s.size := by simp
  rw [this]
  simp
 have HC := hide (fun w => q8k (s.size : Int) s.size w rfl (by omega))
 clear hl
 generalize (⟨(putL s.size).toArray⟩ : ByteArray) = pl at *
 generalize (⟨(putText s.data.toList).toArray⟩ : ByteArray) = R at *
 replace c1 := hide c1
 go_enter Tryz.func83, Tryz.ntmps83
 go_wp2_with fail
 refine (HC.out _).mono ?_
 rintro _ w1 ⟨rfl, hb1⟩
 have c2 := c1.out
 have he := HE.out
 go_wp2_with fail
 go_ret
 exact ⟨rfl, hb1⟩
theorem x7b (a b : List UInt8) : (⟨a.toArray⟩ : ByteArray) ++ ⟨b.toArray⟩ = ⟨(a ++ b).toArray⟩ := by apply ByteArray.ext; simp
theorem z1s {w : World} {v : Value} {ps : List ByteArray} (h : Strs w v ps) : ∃ a cap, v = .slice a ps.length cap ∧ ∀ i, i < ps.length → ∃ g off, a = some ⟨g, off, none⟩ ∧ g < w.heap.size ∧ w.cell? ⟨g, off + i, none⟩ = some (.string (ps.getD i ByteArray.empty)) := h
theorem j4z (ps : List ByteArray) (k : Nat) (h : k < ps.length) : tellL (ps.take (k + 1)) = tellL (ps.take k) ++ putText (ps.getD k ByteArray.empty).data.toList := by
 unfold tellL
 rw [j3r ps k ByteArray.empty h, List.flatMap_append]
 simp
theorem x8d (ps : List ByteArray) (k : Nat) : (tellL (ps.take k)).length ≤ (tellL ps).length := by
 have : tellL ps = tellL (ps.take k) ++ tellL (ps.drop k) := by unfold tellL; rw [← List.flatMap_append, List.take_append_drop]
 rw [this, List.length_append]
 omega
theorem j8g (tag : ByteArray) (ps : List ByteArray) (v : Value) (w : World) (hv0 : Strs w v ps) (hn : ps.length < 4611686018427387904) (hs : (putText tag.data.toList ++ tellL ps).length ≤ 1099511627776) :
  Calls Tryz.prog 114 #[.string tag, v] w fun e w' => e = .returned (hv (ofL tag ps)) ∧ Below w.heap.size w w' := by
 obtain ⟨R, hR⟩ : ∃ R, R = ofL tag ps := ⟨_, rfl⟩
 rw [← hR]
 have HR := hide hR
 clear hR
 have HS := hide hs
 clear hs
 have HST : Hid (∀ i, i < ps.length → (ps.getD i ByteArray.empty).size ≤ 1099511627776) := by
  intro i hi
  have h := HS.out
  have hm : ps.getD i ByteArray.empty ∈ ps := by rw [List.getD_eq_getElem?_getD, List.getElem?_eq_getElem hi]; exact List.getElem_mem hi
  have := j5m ps _ hm
  rw [List.length_append] at h
  omega
 have htg : tag.size ≤ 1099511627776 := by
  have h := HS.out
  have h2 := q7x tag
  rw [List.length_append] at h
  omega
 obtain ⟨a, cap, rfl, hcell⟩ := z1s hv0
 have HCELL := hide hcell
 clear hcell hv0
 have HZ := HashAt.zero w
 have hb := below1 w (.cells (bvs zero32).toArray 34)
 go_enter Tryz.func114, Tryz.ntmps114
 go_wp2_with fail
 show Calls _ _ _ (w.alloc (.cells (bvs zero32).toArray 34)) _
 generalize w.alloc (.cells (bvs zero32).toArray 34) = W at *
 refine (q8t tag _ htg).mono ?_
 rintro _ w1 ⟨rfl, hb1⟩
 have z1 := HZ.later hb1
 have b1 := later hb hb1
 have HT0 : Hid (putText tag.data.toList ++ tellL (ps.take 0) = putText tag.data.toList) := by simp [tellL, Hid]
 clear HZ hb hb1 htg
 go_wp2_with fail
 go_loopw [5, 6] (fun sv i wr => ∃ k : Nat, k ≤ ps.length ∧ i = .int .i64 k ∧ sv = .string ⟨(putText tag.data.toList ++ tellL (ps.take k)).toArray⟩ ∧ HashAt wr w.heap.size zero32 ∧ Below w.heap.size w wr) (fun _ i _ => ps.length - (RowKit.intOf i).toNat)
 case atStart => exact ⟨0, by omega, rfl, by rw [HT0.out], z1, b1⟩
 case round =>
  obtain ⟨k, hk, rfl, rfl, qz, qb⟩ := hrel
  clear z1 b1
  by_cases hlt : k < ps.length
  ·obtain ⟨g, off, rfl, hg, hc⟩ := HCELL.out k hlt
   have c1 : wr.cell? ⟨g, off + k, none⟩ = some (.string (ps.getD k ByteArray.empty)) := (qb.cell (p := ⟨g, off + k, none⟩) hg).trans hc
   have hz := HST.out k hlt
   have HT : Hid ((⟨(putText tag.data.toList ++ tellL (ps.take k)).toArray⟩ : ByteArray) ++ ⟨(putText (ps.getD k ByteArray.empty).data.toList).toArray⟩ = ⟨(putText tag.data.toList ++ tellL (ps.take (k + 1))).toArray⟩) := by
    unfold Hid; rw [x7b, j4z ps k hlt, List.append_assoc]
   have HC : Hid (¬ 9223372036854775807 < (⟨(putText tag.data.toList ++ tellL (ps.take k)).toArray⟩ : ByteArray).size + (⟨(putText (ps.getD k ByteArray.empty).data.toList).toArray⟩ : ByteArray).size) := by
    have h1 := HS.out
    have h2 := x8d ps (k + 1)
    rw [j4z ps k hlt] at h2
    simp only [List.length_append] at h1 h2
    show ¬ _ < (putText tag.data.toList ++ tellL (ps.take k)).length + (putText (ps.getD k ByteArray.empty).data.toList).length
    rw [List.length_append]
    omega
   generalize ps.getD k ByteArray.empty = pk at *
   generalize (⟨(putText tag.data.toList ++ tellL (ps.take k)).toArray⟩ : ByteArray) = sk at *
   clear hc
   go_wp2_with fail
   refine (q8t pk _ hz).mono ?_
   rintro _ w3 ⟨rfl, hb3⟩
   have z3 := qz.later hb3
   have b3 := qb.trans (hb3.mono qb.size)
   generalize (⟨(putText pk.data.toList).toArray⟩ : ByteArray) = pt at *
   have hc := HC.out
   clear c1 qz qb
   go_wp2_with fail
   go_roundw
   case rel => exact ⟨k + 1, by omega, by simp, by rw [HT.out], z3, b3⟩
   case measure => simp [RowKit.intOf]; omega
  ·have hkn : k = ps.length := by omega
   subst hkn
   rw [List.take_length]
   have HRA : Hid (R = sha (⟨(putText tag.data.toList ++ tellL ps).toArray⟩ : ByteArray).data.toList) := by rw [HR.out]; rfl
   have HLS : Hid ((⟨(putText tag.data.toList ++ tellL ps).toArray⟩ : ByteArray).size ≤ 1099511627776) := HS.out
   generalize (⟨(putText tag.data.toList ++ tellL ps).toArray⟩ : ByteArray) = all at *
   go_wp2_with fail
   refine (x3n all _ HLS.out).mono ?_
   rintro _ w7 ⟨rfl, hb7⟩
   rw [← HRA.out]
   have hlR : Hid (R.length = 32) := by rw [HRA.out]; exact j0p _
   have z7 := qz.later hb7
   have hfin := hide (z7.row R hlR.out)
   have hBe := hide (q0p (qb.trans (hb7.mono qb.size)) (Nat.le_refl w.heap.size) (bvs R).toArray)
   clear qz qb hb7
   go_wp2_with (refine q0y rfl _ _ rfl rfl rfl hlR.out z7 ?_)
   exact bodyPost_ret (v := hv R) (q2v rfl _ _ rfl hfin.out) rfl ⟨rfl, hBe.out⟩
/-- What parts under a tag come to. -/
def ofX (tag : List UInt8) (ps : List (List UInt8)) : List UInt8 := sha (putText tag ++ ps.flatMap putText)
theorem q1z (tag : List UInt8) (ps : List (List UInt8)) : (ofX tag ps).length = 32 := j0p _
def txt (l : List UInt8) : ByteArray := ⟨l.toArray⟩
theorem q8g (ps : List (List UInt8)) : tellL (ps.map txt) = ps.flatMap putText := by
 unfold tellL txt
 rw [List.flatMap_map]
theorem j6w (tag : List UInt8) (ps : List (List UInt8)) : ofL (txt tag) (ps.map txt) = ofX tag ps := by
 unfold ofL ofX
 rw [q8g]
 rfl
theorem q5i (l : List UInt8) : (putText l).length ≤ 10 + l.length := by
 have := q0g l.length
 unfold putText
 rw [List.length_append]
 omega
theorem j2h (ps : List (List UInt8)) (m : Nat) (h : ∀ p ∈ ps, p.length ≤ m) : (ps.flatMap putText).length ≤ ps.length * (10 + m) := by
 induction ps with
 | nil => simp
 | cons a ps ih =>
  have h1 := q5i a
  have h2 := h a (by simp)
  have h3 := ih (fun p hp => h p (by simp [hp]))
  rw [List.flatMap_cons, List.length_append, List.length_cons, Nat.add_mul]
  omega
theorem x1g (w : World) (ps : List (List UInt8)) : Strs (w.alloc (.cells (ps.map fun p => Value.string (txt p)).toArray 9)) (.slice (some ⟨w.heap.size, 0, none⟩) ps.length ps.length) (ps.map txt) := by
 refine ⟨some ⟨w.heap.size, 0, none⟩, ps.length, by simp, fun i hi => ⟨w.heap.size, 0, rfl, by simp, ?_⟩⟩
 have hi' : i < ps.length := by simpa using hi
 have := Arr.cell (Arr.new w (ps.map fun p => Value.string (txt p)) 9) (i := i) (by simpa using hi')
 rw [Nat.zero_add, this]
 simp [hi']
theorem z1d (tag : List UInt8) (ps : List (List UInt8)) (w : World) (ht : tag.length ≤ 1048576) (hp : ∀ p ∈ ps, p.length ≤ 1048576) (hn : ps.length ≤ 16) :
  Calls Tryz.prog 61 #[.string (txt tag), .slice (some ⟨w.heap.size, 0, none⟩) ps.length ps.length] (w.alloc (.cells (ps.map fun p => Value.string (txt p)).toArray 9)) fun e w' => e = .returned (hv (ofX tag ps)) ∧ Below w.heap.size w w' := by
 have hl : (putText (txt tag).data.toList ++ tellL (ps.map txt)).length ≤ 1099511627776 := by
  have h1 := q5i tag
  have h2 := j2h ps 1048576 hp
  rw [q8g, List.length_append]
  have h3 : ps.length * (10 + 1048576) ≤ 16 * (10 + 1048576) := Nat.mul_le_mul_right _ hn
  show (putText tag).length + _ ≤ _
  omega
 refine (z1i (txt tag) (ps.map txt) _ _ (x1g w ps) (by simp; omega) hl).mono ?_
 rintro e w' ⟨rfl, hb⟩
 rw [j6w]
 exact ⟨rfl, later (below1 w _) hb⟩
theorem j8z (tag : List UInt8) (ps : List (List UInt8)) (w : World) (ht : tag.length ≤ 1048576) (hp : ∀ p ∈ ps, p.length ≤ 1048576) (hn : ps.length ≤ 16) :
  Calls Tryz.prog 114 #[.string (txt tag), .slice (some ⟨w.heap.size, 0, none⟩) ps.length ps.length] (w.alloc (.cells (ps.map fun p => Value.string (txt p)).toArray 9)) fun e w' => e = .returned (hv (ofX tag ps)) ∧ Below w.heap.size w w' := by
 have hl : (putText (txt tag).data.toList ++ tellL (ps.map txt)).length ≤ 1099511627776 := by
  have h1 := q5i tag
  have h2 := j2h ps 1048576 hp
  rw [q8g, List.length_append]
  have h3 : ps.length * (10 + 1048576) ≤ 16 * (10 + 1048576) := Nat.mul_le_mul_right _ hn
  show (putText tag).length + _ ≤ _
  omega
 refine (j8g (txt tag) (ps.map txt) _ _ (x1g w ps) (by simp; omega) hl).mono ?_
 rintro e w' ⟨rfl, hb⟩
 rw [j6w]
 exact ⟨rfl, later (below1 w _) hb⟩
theorem j7j {a b : List UInt8} (ha : a.length ≤ 1048576) (hb : b.length ≤ 1048576) : ∀ p ∈ [a, b], p.length ≤ 1048576 := by
 intro p hp; simp at hp; rcases hp with rfl | rfl <;> assumption
theorem j7s {a : List UInt8} (ha : a.length ≤ 1048576) : ∀ p ∈ [a], p.length ≤ 1048576 := by
 intro p hp; simp at hp; subst hp; exact ha
theorem of1 (tag a : List UInt8) (w : World) (ht : tag.length ≤ 1048576) (ha : a.length ≤ 1048576) :
  Calls Tryz.prog 61 #[.string ⟨tag.toArray⟩, .slice (some ⟨w.heap.size, 0, none⟩) 1 1] (w.alloc (.cells #[.string ⟨a.toArray⟩] 9)) fun e w' => e = .returned (hv (ofX tag [a])) ∧ Below w.heap.size w w' :=
 z1d tag [a] w ht (j7s ha) (by simp)
theorem of2 (tag a b : List UInt8) (w : World) (ht : tag.length ≤ 1048576) (ha : a.length ≤ 1048576) (hb : b.length ≤ 1048576) :
  Calls Tryz.prog 61 #[.string ⟨tag.toArray⟩, .slice (some ⟨w.heap.size, 0, none⟩) 2 2] (w.alloc (.cells #[.string ⟨a.toArray⟩, .string ⟨b.toArray⟩] 9)) fun e w' => e = .returned (hv (ofX tag [a, b])) ∧ Below w.heap.size w w' :=
 z1d tag [a, b] w ht (j7j ha hb) (by simp)
theorem refOf1 (tag a : List UInt8) (w : World) (ht : tag.length ≤ 1048576) (ha : a.length ≤ 1048576) :
  Calls Tryz.prog 114 #[.string ⟨tag.toArray⟩, .slice (some ⟨w.heap.size, 0, none⟩) 1 1] (w.alloc (.cells #[.string ⟨a.toArray⟩] 9)) fun e w' => e = .returned (hv (ofX tag [a])) ∧ Below w.heap.size w w' :=
 j8z tag [a] w ht (j7s ha) (by simp)
theorem refOf2 (tag a b : List UInt8) (w : World) (ht : tag.length ≤ 1048576) (ha : a.length ≤ 1048576) (hb : b.length ≤ 1048576) :
  Calls Tryz.prog 114 #[.string ⟨tag.toArray⟩, .slice (some ⟨w.heap.size, 0, none⟩) 2 2] (w.alloc (.cells #[.string ⟨a.toArray⟩, .string ⟨b.toArray⟩] 9)) fun e w' => e = .returned (hv (ofX tag [a, b])) ∧ Below w.heap.size w w' :=
 j8z tag [a, b] w ht (j7j ha hb) (by simp)
/-- The text of a row of bytes of one's own. -/
theorem x7s {w : World} {base : Nat} {v : Value} {l : List UInt8} (h : w.ownsRow base 5 1 v l.length (bvs l)) (h0 : 0 < l.length) :
  (convert 93 9 v).run Tryz.prog w = .ok (.string ⟨l.toArray⟩) w := by
 obtain ⟨hl, h⟩ := h
 rcases h with ⟨_, hz⟩ | ⟨g, cap, cur, rfl, hg, hgk, hnc, hcm, hcs, htk⟩
 ·omega
 ·refine run_convert_bytes_back w 93 9 5 ⟨g, 0, none⟩ cap l Tryz.underlying93 Tryz.underlying5 Tryz.underlying9 (fun j hj => ?_)
  have hadd : (⟨g, 0, none⟩ : Addr).add j = ⟨g, j, none⟩ := by unfold Addr.add; split <;> simp_all
  rw [hadd, cell_of_row w g j cur 5 (0, 0) hgk]
  have h1 : (cur.toList.take (l.length * 1))[j]? = (bvs l)[j]? := by rw [htk]
  rw [List.getElem?_take, if_pos (by omega)] at h1
  have h2 : (bvs l)[j]? = some (.int .u8 (l[j].toNat : Int)) := by simp [bvs, hj]
  rw [h2] at h1
  simpa using h1
theorem x9x (l : List UInt8) (k : Nat) (h : k < l.length) : bvs (l.take (k + 1)) = bvs (l.take k) ++ [.int .u8 ((l.getD k 0).toNat : Int)] := by
 have e : l.getD k 0 = l[k] := by simp [h]
 rw [List.take_succ_eq_append_getElem h, e]
 unfold bvs
 rw [List.map_append]
 rfl
theorem q2w (l : List UInt8) (w : World) (hl : l.length = 32) :
  Calls Tryz.prog 53 #[hv l] w fun e w' => e = .returned (.string ⟨l.toArray⟩) ∧ Below w.heap.size w w' := by
 obtain ⟨i0, hi, hz0, hz1, hz2⟩ := info_parts info8
 have HL := hide hl
 clear hl
 unfold hv
 go_enter Tryz.func53, Tryz.ntmps53
 go_wp2_with fail
 have r0 : Byts (w.alloc (.cells (bvs l).toArray 34)) w.heap.size 34 l := Arr.new w _ _
 have hb := below1 w (.cells (bvs l).toArray 34)
 have hW : w.heap.size + 1 = (w.alloc (.cells (bvs l).toArray 34)).heap.size := by simp
 replace hW := hide hW
 generalize w.alloc (.cells (bvs l).toArray 34) = W at *
 go_loopw [3, 4] (fun b i wr => ∃ k : Nat, k ≤ 32 ∧ i = .int .i64 k ∧ wr.ownsRow (w.heap.size + 1) 5 1 b k (bvs (l.take k)) ∧ Below (w.heap.size + 1) W wr) (fun _ i _ => 32 - (RowKit.intOf i).toNat)
 case atStart => exact ⟨0, by omega, rfl, World.ownsRow_nil _ _ _ _, Below.refl _ _⟩
 case round =>
  obtain ⟨k, hk, rfl, hown, hbr⟩ := hrel
  have hws : w.heap.size + 1 ≤ wr.heap.size := by have := hbr.size; have := hW.out; omega
  by_cases hlt : k < 32
  ·have c1 : wr.cell? ⟨w.heap.size, k, none⟩ = some (.int .u8 ((l.getD k 0).toNat : Int)) := (hbr.cell (p := ⟨w.heap.size, k, none⟩) (by simp)).trans (Byts.cell r0 (by rw [HL.out]; omega))
   have HN : Hid (bvs (l.take (k + 1)) = bvs (l.take k) ++ [.int .u8 ((l.getD k 0).toNat : Int)]) := x9x l k (by rw [HL.out]; omega)
   generalize (l.getD k 0).toNat = c at *
   have i0' : (k : Int) < 32 := by omega
   go_wp2_with (at_builtin; refine wpList_append_own _ rfl _ _ 93 rfl (w.heap.size + 1) 5 i0 (.int .u8 0) 1 1 Tryz.underlying93 hi hz0 hz1 hz2 rfl (by decide) _ _ _ rfl (hown.alloc _) ⟨wr.heap.size, 0, none⟩ 1 1 [.int .u8 (c : Int)] rfl rfl ?c1 ?c2 ?c3 ?c4 ?c5 ?_)
   case c1 => exact (cell_one_new _ _ _)
   case c2 => intro u hu; simp at hu; subst hu; rfl
   case c3 => unfold maxLen; omega
   case c4 => omega
   case c5 => simp; omega
   intro v' w1 hown' hgrow _
   have hb1 := hbr.trans (j9u hown hgrow hws)
   clear hgrow c1
   go_wp2_with fail
   go_roundw
   case rel => exact ⟨k + 1, by omega, by simp, by rw [HN.out]; exact hown', hb1⟩
   case measure => simp [RowKit.intOf]; omega
  ·have hk32 : k = 32 := by omega
   subst hk32
   have ht := x7s (l := l) (by rw [HL.out]; rw [show l.take 32 = l by rw [← HL.out, List.take_length]] at hown; exact hown) (by rw [HL.out]; omega)
   have hbe : Below w.heap.size w wr := hb.trans (hbr.mono (by omega))
   clear hown hbr hb
   go_wp2_with fail
   go_ret
   exact ⟨rfl, hbe⟩
end Go.Proofs.YtbbfnpfkbbpjgaaGreat
