/- The reference's sum: what its steps do, in plain Lean; cubes as a contract. -/
import Derived.Test.YtikphhhkikdhaaaShaSum
import Derived.Test.YtikphhhkikdhaaaHash
import Derived.Test.YtikphhhkikdhaaaOwns
import Derived.Test.YtikphhhkikdhaaaRef01
namespace Go.Proofs.Ytikphhhkikdhaaa
open Go.RowKit Go.Lib

/-- The length of a slice. -/
def lenOf : Value → Nat := fun v => match v with | .slice _ n _ => n | _ => 0
/-- The first words anew, the others as they were. -/
def over (new old : List W32) : List W32 := new ++ old.drop new.length
theorem over_length (new old : List W32) (h : new.length ≤ old.length) : (over new old).length = old.length := by simp [over]; omega
theorem over_getD (new old : List W32) (i : Nat) (h : i < new.length) : (over new old).getD i 0 = new.getD i 0 := by
  simp only [over, List.getD_eq_getElem?_getD, List.getElem?_append_left h]
theorem over_next (new old : List W32) (x : W32) (h : new.length < old.length) : (over new old).set new.length x = over (new ++ [x]) old := by
  unfold over
  rw [List.set_append_right _ _ (Nat.le_refl _), Nat.sub_self, List.drop_eq_getElem_cons h, List.set_cons_zero, List.append_assoc]
  simp
theorem over_full (new old : List W32) (h : new.length = old.length) : over new old = new := by simp [over, h]
theorem take_next {α : Type} (l : List α) (k : Nat) (d : α) (h : k < l.length) : l.take (k + 1) = l.take k ++ [l.getD k d] := by
  rw [List.take_succ_eq_append_getElem h]; simp [h]
theorem take_getD {α : Type} (l : List α) (i k : Nat) (d : α) (h : i < k) : (l.take k).getD i d = l.getD i d := by
  simp only [List.getD_eq_getElem?_getD, List.getElem?_take, if_pos h]

theorem grow_getD (ws : List W32) (n i : Nat) (h : i < ws.length + n) (m : Nat) (hm : n ≤ m) : (grow ws m).getD i 0 = (grow ws n).getD i 0 := by
  induction m with
  | zero => have : n = 0 := by omega
            subst this; rfl
  | succ m ih =>
    by_cases e : n = m + 1
    · subst e; rfl
    · rw [← ih (by omega)]
      simp only [grow, List.getD_eq_getElem?_getD]
      rw [List.getElem?_append_left (by rw [grow_length]; omega)]
theorem sched_low (f : Nat → W32) (k : Nat) (h : k < 16) : (sched f).getD k 0 = part f k 4 := by
  unfold sched
  rw [grow_getD (fw f 16) 0 k (by rw [fw_length]; omega) 48 (by omega)]
  simp [grow, fw, h]
theorem sched_high (f : Nat → W32) (k : Nat) (h : 16 ≤ k) (h2 : k < 64) :
    (sched f).getD k 0 = sg1 ((sched f).getD (k - 2) 0) + (sched f).getD (k - 7) 0 + sg0 ((sched f).getD (k - 15) 0) + (sched f).getD (k - 16) 0 := by
  have e : ∀ i, i < k → (sched f).getD i 0 = (grow (fw f 16) (k - 16)).getD i 0 := fun i hi => grow_getD (fw f 16) (k - 16) i (by rw [fw_length]; omega) 48 (by omega)
  rw [e (k - 2) (by omega), e (k - 7) (by omega), e (k - 15) (by omega), e (k - 16) (by omega), next_other]
  unfold sched
  rw [grow_getD (fw f 16) (k - 16 + 1) k (by rw [fw_length]; omega) 48 (by omega)]
  simp only [grow, List.getD_eq_getElem?_getD]
  have hl : (grow (fw f 16) (k - 16)).length = k := by rw [grow_length, fw_length]; omega
  rw [List.getElem?_append_right (by omega), hl, Nat.sub_self]
  simp only [List.getElem?_cons_zero, Option.getD_some]
  rw [fw_length, show 16 + (k - 16) = k by omega]

/-- A list whose members behind place j have gone on by one. -/
def shiftL (l : List W32) (j : Nat) : List W32 := l.take (j + 1) ++ (l.drop j).take (7 - j)
theorem shift_full (l : List W32) (h : l.length = 8) : shiftL l 7 = l := by simp [shiftL]; rw [List.take_of_length_le (by omega)]
theorem shift_length (l : List W32) (h : l.length = 8) (j : Nat) (hj : j ≤ 7) : (shiftL l j).length = 8 := by simp [shiftL, h]; omega
theorem eight_of (l : List W32) (h : l.length = 8) : ∃ v : V8, l = v.list := by
  match l, h with
  | [a, b, c, d, e, f, g, h'], _ => exact ⟨⟨a, b, c, d, e, f, g, h'⟩, rfl⟩
theorem shift_next (l : List W32) (h : l.length = 8) (j : Nat) (h1 : 1 ≤ j) (h2 : j ≤ 7) : (shiftL l j).set j ((shiftL l j).getD (j - 1) 0) = shiftL l (j - 1) := by
  obtain ⟨v, rfl⟩ := eight_of l h
  have : j = 1 ∨ j = 2 ∨ j = 3 ∨ j = 4 ∨ j = 5 ∨ j = 6 ∨ j = 7 := by omega
  rcases this with rfl | rfl | rfl | rfl | rfl | rfl | rfl <;> rfl
theorem shift_end (v : V8) (x y : W32) : ((shiftL v.list 0).set 4 ((shiftL v.list 0).getD 4 0 + x)).set 0 y = [y, v.a, v.b, v.c, v.d + x, v.e, v.f, v.g] := rfl
/-- The sum of two rows, word by word. -/
theorem plus_take (v u : V8) : ((List.range 8).map fun i => u.list.getD i 0 + v.list.getD i 0) = (u.plus v).list := rfl
def plusL (u v : V8) : List W32 := (List.range 8).map fun i => u.list.getD i 0 + v.list.getD i 0
theorem plusL_eq (u v : V8) : plusL u v = (u.plus v).list := rfl
theorem plusL_getD (u v : V8) (i : Nat) (h : i < 8) : (plusL u v).getD i 0 = u.list.getD i 0 + v.list.getD i 0 := by simp [plusL, h]
theorem goesV_plus (v : V8) (ws : List W32) : ((rounds v rootsL ws 64).plus v).list = (goesV v ws).list := by
  simp only [goesV, V8.plus, V8.list, List.cons.injEq, and_true]
  refine ⟨?_, ?_, ?_, ?_, ?_, ?_, ?_, ?_⟩ <;> exact BitVec.add_comm _ _

theorem cubesCells : (#[.int .u32 1116352408, .int .u32 1899447441, .int .u32 3049323471, .int .u32 3921009573, .int .u32 961987163, .int .u32 1508970993, .int .u32 2453635748, .int .u32 2870763221, .int .u32 3624381080, .int .u32 310598401, .int .u32 607225278, .int .u32 1426881987, .int .u32 1925078388, .int .u32 2162078206, .int .u32 2614888103, .int .u32 3248222580, .int .u32 3835390401, .int .u32 4022224774, .int .u32 264347078, .int .u32 604807628, .int .u32 770255983, .int .u32 1249150122, .int .u32 1555081692, .int .u32 1996064986, .int .u32 2554220882, .int .u32 2821834349, .int .u32 2952996808, .int .u32 3210313671, .int .u32 3336571891, .int .u32 3584528711, .int .u32 113926993, .int .u32 338241895, .int .u32 666307205, .int .u32 773529912, .int .u32 1294757372, .int .u32 1396182291, .int .u32 1695183700, .int .u32 1986661051, .int .u32 2177026350, .int .u32 2456956037, .int .u32 2730485921, .int .u32 2820302411, .int .u32 3259730800, .int .u32 3345764771, .int .u32 3516065817, .int .u32 3600352804, .int .u32 4094571909, .int .u32 275423344, .int .u32 430227734, .int .u32 506948616, .int .u32 659060556, .int .u32 883997877, .int .u32 958139571, .int .u32 1322822218, .int .u32 1537002063, .int .u32 1747873779, .int .u32 1955562222, .int .u32 2024104815, .int .u32 2227730452, .int .u32 2361852424, .int .u32 2428436474, .int .u32 2756734187, .int .u32 3204031479, .int .u32 3329325298] : Array Value) = (wvs rootsL).toArray := by kernel_rfl
def zw64 : List W32 := List.replicate 64 0
theorem make64 (w : World) : (Instr.makeSlice 99 (.int .i64 64) (.int .i64 64)).run Try.prog w = .ok (.slice (some ⟨w.heap.size, 0, none⟩) 64 64) (w.alloc (.cells (wvs zw64).toArray 71)) := by kernel_rfl
set_option maxRecDepth 100000 in
set_option maxHeartbeats 3200000 in
theorem cubes_any (w : World) : Calls Try.prog 88 #[] w fun e w' => e = .returned (.slice (some ⟨w.heap.size, 0, none⟩) 64 64) ∧ w' = w.alloc (.cells (wvs rootsL).toArray 71) := by
  rw [← cubesCells]
  go_enter Try.func88, Try.ntmps88
  go_wp2_with fail
  go_ret
  exact ⟨rfl, rfl⟩
theorem over_rest (new old : List W32) (i : Nat) (h : new.length ≤ i) : (over new old).getD i 0 = old.getD i 0 := by
  simp only [over, List.getD_eq_getElem?_getD, List.getElem?_append_right h, List.getElem?_drop]
  rw [show new.length + (i - new.length) = i by omega]
theorem arr_news {w : World} {b : Nat} {t : TypeId} {cs : List Value} (h : Arr w b t cs) : ∀ j u, cs[j]? = some u → w.cell? ((⟨b, 0, none⟩ : Addr).add j) = some u := by
  intro j u hu
  exact World.news_of_block (cs := cs.toArray) h j u hu
theorem Arr.grown {w w' : World} {b : Nat} {t : TypeId} {cs : List Value} (h : Arr w b t cs) {row : Option Nat} (hg : w.grownBy w' row) (hne : some b ≠ row) : Arr w' b t cs := by
  unfold Arr; rw [hg.block b h.lt hne]; exact h
theorem xorF (a : W32) : bits .xor .u32 (wv a) 4294967295 = wv (a ^^^ 0xffffffff) := w_xor a 0xffffffff
/-- What the loops of the sum leave as it is. -/
structure SumKeep (W : World) (rb gp cp gv : Nat) (p : List UInt8) (wr : World) : Prop where
  k : Words wr (gv + 1) 71 rootsL
  b : Owns wr (rb + 1) 5 1 (.slice (some ⟨gp, 0, none⟩) p.length cp) p.length (bvs p)
  r : HashAt wr rb zero32
  o : Below (rb + 1) W wr
  s : gv + 1 + 1 < wr.heap.size
  h1 : gp < gv
  h2 : rb + 1 ≤ gv
section
variable {W wr w' : World} {rb gp cp gv : Nat} {p : List UInt8}
theorem SumKeep.later (h : SumKeep W rb gp cp gv p wr) (hb : Below wr.heap.size wr w') : SumKeep W rb gp cp gv p w' :=
  ⟨Arr.later h.k hb, h.b.later hb, h.r.later hb, h.o.trans (hb.mono (by have := h.s; have := h.h2; omega)), by have := h.s; have := hb.size; omega, h.h1, h.h2⟩
theorem SumKeep.set (h : SumKeep W rb gp cp gv p wr) (a : Addr) (u : Value) (h1 : gv ≤ a.block) (h2 : a.block ≠ gv + 1) : SumKeep W rb gp cp gv p (wr.setCell a u) :=
  ⟨Arr.other h.k a u (by omega), h.b.setCell a u (by have := h.h1; simp [Value.ownBlock]; omega), h.r.below ((Below.refl (rb + 1) wr).setCell (p := a) (by have := h.h2; omega) u) (by omega), h.o.setCell (by have := h.h2; omega) u, by have := h.s; simpa [World.setCell] using this, h.h1, h.h2⟩
theorem SumKeep.grown (h : SumKeep W rb gp cp gv p wr) {row : Nat} (hg : wr.grownBy w' (some row)) (hb : Below (rb + 1) wr w') (hr : gv + 1 + 1 < row) : SumKeep W rb gp cp gv p w' :=
  ⟨Arr.grown h.k hg (by simp; omega), h.b.grown hg (.inr (by have := h.h1; simp [Value.ownBlock]; omega)), h.r.below hb (by omega), h.o.trans hb, by have := h.s; have := hb.size; omega, h.h1, h.h2⟩
theorem SumKeep.byte (h : SumKeep W rb gp cp gv p wr) (i : Nat) (t q : Nat) (hq : i = t + q) (hi : i < p.length) : wr.cell? ⟨gp, i, none⟩ = some (.int .u8 (wv (byteW p t q))) := by
  rw [h.b.cell i (by omega), bvs_getD _ _ hi]
  unfold byteW
  rw [← hq]
  have := (p.getD i 0).toNat_lt
  congr 2
  unfold wv
  rw [BitVec.toNat_ofNat]
  omega
end
end Go.Proofs.Ytikphhhkikdhaaa
