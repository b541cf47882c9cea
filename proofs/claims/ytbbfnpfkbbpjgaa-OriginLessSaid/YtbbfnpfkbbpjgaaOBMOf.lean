/- Several texts of this proof in one: Mix, Hash, Owns, Put, Of, Float. -/
import Derived.Test.YtbbfnpfkbbpjgaaOBMBase
import Derived.OrdersHeld
import Derived.BigFrame
import Derived.Deep.AppendLies
import Derived.Maps.AppendAt
import Derived.Laws.BitsAll
/- A region that draws its order, walked by a schedule: operations that only look (in every world of a class they yield one value and leave the world alone) are pulled ahead; between them operations that may do anything come up alone, and leave a world of the class. -/
namespace Go.Proofs.Ytbbfnpfkbbpjgaa
open Go.RowKit

section
variable {P : Program} {ops : Array Oper} {md : Region.Mode} {C : World → Prop} {Q : Exit → Act → World → Prop}

/-- Operations that hand back a value, and are no call. -/
def plainOp (o : Oper) : Bool :=
  match o.op with
  | .move _ | .assign _ | .pick .. | .load .. | .binOp .. | .unOp .. | .convert .. | .slice .. | .fieldAddr .. | .field .. | .indexAddr .. | .index .. | .extract .. | .build .. | .makeFunc .. => true
  | .call { callee := .builtin .len, .. } => true
  | _ => false

theorem sem_value {s : Sem Value} {w w' : World} {n : Next} (h : (do let x ← s; pure (.value x) : Sem Next).run P w = .ok n w') : ∃ v, n = .value v := by
  rw [Sem.run_bind] at h
  cases hs : s.run P w with
  | ok v w1 =>
    rw [hs, Result.andThen_ok, Sem.run_pure] at h
    injection h with h1 h2
    exact ⟨v, h1.symm⟩
  | halt x w1 =>
    rw [hs] at h
    cases h
theorem plainOp_value {o : Oper} (hp : plainOp o = true) {ρ : Operand → Value} {w w' : World} {n : Next} (h : (execOp ρ o).run P w = .ok n w') : ∃ v, n = .value v := by
  obtain ⟨dst, op, type, pos, after, guard⟩ := o
  unfold plainOp at hp
  cases op <;> simp only [Bool.false_eq_true] at hp <;> try (exact sem_value h)
  case move x => simp only [execOp, Sem.run_pure] at h; injection h with h1 _; exact ⟨_, h1.symm⟩
  case assign x => simp only [execOp, Sem.run_pure] at h; injection h with h1 _; exact ⟨_, h1.symm⟩
  case pick c x y =>
    simp only [execOp, Sem.run_bind] at h
    cases hs : (asBool (ρ c)).run P w with
    | ok v w1 =>
      rw [hs, Result.andThen_ok] at h
      first
        | (rw [Sem.run_pure] at h; injection h with h1 _; exact ⟨_, h1.symm⟩)
        | (split at h <;> (rw [Sem.run_pure] at h; injection h with h1 _; exact ⟨_, h1.symm⟩))
    | halt x w1 =>
      rw [hs] at h
      cases h
  case call c =>
    obtain ⟨cal, xs, ats⟩ := c
    cases cal
    case builtin b => cases b <;> first | exact sem_value (s := Builtin.len_ ats type (xs.map ρ)) h | cases hp
    all_goals cases hp

theorem yieldsIf_of_quiet {o : Oper} {a : Act} {K : Act → Prop} (hp : plainOp o = true)
    (h : if Region.wanted o (yielded ops a.tmps) then o.quiet P a C K else K (a.put o.dst undef)) : ∃ v, YieldsIf P ops C o v a ∧ K (a.put o.dst v) := by
  by_cases hw : Region.wanted o (yielded ops a.tmps) = true
  · rw [if_pos hw] at h
    obtain ⟨v, h1, h2⟩ := h
    refine ⟨v, .inl ⟨hw, fun w hcw => ?_⟩, h2⟩
    have h3 := h1 w hcw
    unfold Oper.quietAt at h3
    generalize hr : (execOp a.eval o).run P w = r at *
    cases r with
    | ok n w' =>
      obtain ⟨u, rfl⟩ := plainOp_value hp hr
      simp only [Oper.quietUpon] at h3
      rw [h3.1, h3.2]
    | halt x w' => simp only [Oper.quietUpon] at h3
  · rw [if_neg hw] at h
    exact ⟨undef, .inr ⟨by simpa using hw, rfl⟩, h⟩

/-- Q, but nothing at a panic. -/
def calmQ (Q : Exit → Act → World → Prop) : Exit → Act → World → Prop
  | .panic _, _, _ => False
  | e, a, w => Q e a w

def pickOps (l : List Oper) : List Nat → List Oper
  | [] => []
  | i :: r => (match l[i]? with | some o => [o] | none => []) ++ pickOps l r
def quietB (md : Region.Mode) (ops : Array Oper) : List Nat → Array Bool → Option (Array Bool)
  | [], L => some L
  | i :: q, L => if ((ops[i]?).map plainOp).getD false && (Region.ready md ops L).contains i && Region.free md ops L i then quietB md ops q (L.setIfInBounds i true) else none
end

/-- A world that is as w0 was below block number B. -/
structure From (B : Nat) (w0 : World) where
  w : World
  ok : Below B w0 w
instance from_nonempty (B : Nat) (w : World) : Nonempty (From B w) := ⟨⟨w, Below.refl _ _⟩⟩
theorem From.cell {B : Nat} {w0 : World} {a : Addr} {v : Value} (h : w0.cell? a = some v) (hB : a.block < B) (s : From B w0) : s.w.cell? a = some v := (s.ok.cell hB).trans h
/-- A contract's world, met in the midst of a region. -/
theorem mixed {B : Nat} {W a b : World} (hB : B ≤ W.heap.size) (h : Below B W a) (k : Below a.heap.size a b) : Below B W b := h.trans (k.mono (Nat.le_trans hB h.size))
end Go.Proofs.Ytbbfnpfkbbpjgaa

/- Hashes in memory: a block that holds one; the steps of a walk that load, store, compare and return them. -/
namespace Go.Proofs.Ytbbfnpfkbbpjgaa
open Go.RowKit Go.Lib

/-- Block b holds the hash l. -/
def HashAt (w : World) (b : Nat) (l : List UInt8) : Prop := l.length = 32 ∧ Arr w b 27 (bvs l)
section
variable {w w' : World} {b : Nat} {l : List UInt8}
theorem HashAt.lt (h : HashAt w b l) : b < w.heap.size := Arr.lt h.2
theorem HashAt.below (h : HashAt w b l) {B : Nat} (hb : Below B w w') (hB : b < B) : HashAt w' b l := ⟨h.1, Arr.below h.2 hb hB⟩
theorem HashAt.later (h : HashAt w b l) (hb : Below w.heap.size w w') : HashAt w' b l := h.below hb h.lt
theorem HashAt.alloc (h : HashAt w b l) (o : Obj) : HashAt (w.alloc o) b l := h.later ((Below.refl _ _).alloc (Nat.le_refl _) _)
theorem HashAt.new (w : World) (l : List UInt8) (hl : l.length = 32) : HashAt (w.alloc (.cells (bvs l).toArray 27)) w.heap.size l := ⟨hl, Arr.new _ _ _⟩
theorem HashAt.row (h : HashAt w b l) (l' : List UInt8) (hl : l'.length = 32) : HashAt (w.setRow b (bvs l').toArray) b l' := ⟨hl, Arr.row h.2 _⟩
theorem HashAt.zero (w : World) : HashAt (w.alloc (.cells (bvs zero32).toArray 27)) w.heap.size zero32 := HashAt.new w zero32 rfl
end
theorem hashInfo : (Try.prog.info? 27).map (·.size) = some 32 := by kernel_rfl
theorem hashInfoOf (l : List UInt8) (h : l.length = 32) : (Try.prog.info? 27).map (·.size) = some (bvs l).toArray.size := by
  rw [show (bvs l).toArray.size = 32 by simp [bvs, h]]; exact hashInfo
theorem hashBuilt : Try.prog.built 27 [] = some (bvs zero32).toArray := by kernel_rfl
section
variable {ops : Array Oper} {rest : List Oper} {o : Oper} {a : Act} {w : World} {Q : Exit → Act → World → Prop}
theorem wpl_load_hash (hw : Region.wanted o (yielded ops a.tmps) = true) (x : Operand) (ho : o.op = .load 27 x) {g : Nat} {l : List UInt8} (hx : a.eval x = .pointer (some ⟨g, 0, none⟩)) (h : HashAt w g l)
    (hk : wpList Try.prog ops Q rest (a.put o.dst (hv l)) w) : wpList Try.prog ops Q (o :: rest) a w :=
  BigFrame.wpList_want hw fun _ hK => wp_load_row 27 x ho g hx 27 (bvs l).toArray (0, 0) _ h.2 Try.underlying27 rfl (hashInfoOf l h.1) (hK _ _ hk)
theorem ne_hash (a b : List UInt8) (ha : a.length = 32) (hb : b.length = 32) (w : World) :
    (binOp .neq 27 (.agg (bvs a).toArray) (.agg (bvs b).toArray)).run Try.prog w = .ok (.bool (!decide (a = b))) w := by
  rw [run_neq_struct, run_eq_hash a b ha hb]; rfl
theorem wpl_build {P : Program} (hw : Region.wanted o (yielded ops a.tmps) = true) (t : TypeId) (parts : Array (Nat × Operand)) (ho : o.op = .build t parts) (cs : Array Value) (hc : P.built t (parts.map fun (i, x) => (i, a.eval x)).toList = some cs)
    (hk : wpList P ops Q rest (a.put o.dst (.agg cs)) w) : wpList P ops Q (o :: rest) a w :=
  BigFrame.wpList_want hw fun _ hK => by
    unfold Oper.wp execOp
    simp only [ho, Sem.run_bind, run_build w t _ cs hc, Result.andThen_ok]
    exact hK _ _ hk
set_option maxRecDepth 100000 in
theorem wpl_zero_hash (hw : Region.wanted o (yielded ops a.tmps) = true) (ho : o.op = .build 27 #[])
    (hk : wpList Try.prog ops Q rest (a.put o.dst (hv zero32)) w) : wpList Try.prog ops Q (o :: rest) a w :=
  wpl_build hw 27 #[] ho (bvs zero32).toArray (by rw [Array.map_empty]; exact hashBuilt) hk
/-- A function whose one result is a hash. -/
theorem ret_hash {fn : Func} {p : Tmp} (hr : fn.results = #[.cell p 27]) (tmps : Array Value) (w : World) {g : Nat} {l : List UInt8} (hp : tmps.getD p undef = .pointer (some ⟨g, 0, none⟩)) (h : HashAt w g l) :
    (results fn tmps).run Try.prog w = .ok (hv l) w :=
  results_cell_row hr tmps w g 27 (bvs l).toArray (0, 0) _ hp h.2 Try.underlying27 rfl (hashInfoOf l h.1)
end

/-! ### In a region that draws its order -/
section
variable {o : Oper} {a : Act} {K : Act → Prop} {w0 : World}
theorem quiet_build {P : Program} {C : World → Prop} (t : TypeId) (parts : Array (Nat × Operand)) (ho : o.op = .build t parts) (cs : Array Value) (hc : P.built t (parts.map fun (i, x) => (i, a.eval x)).toList = some cs)
    (hk : K (a.put o.dst (.agg cs))) : o.quiet P a C K := by
  refine quiet_value _ (fun w _ => ?_) hk
  unfold execOp
  simp only [ho, Sem.run_bind, run_build w t _ cs hc, Result.andThen_ok]
  rfl
theorem quiet_eq {C : World → Prop} (x y : Operand) (ho : o.op = .binOp .eql 27 x y 27) {l g : List UInt8} (hx : a.eval x = hv l) (hy : a.eval y = hv g) (hl : l.length = 32) (hg : g.length = 32)
    (hk : K (a.put o.dst (.bool (decide (l = g))))) : o.quiet Try.prog a C K := quiet_eq_hash x y ho l g hl hg hx hy hk
theorem quiet_ne {C : World → Prop} (x y : Operand) (ho : o.op = .binOp .neq 27 x y 27) {l g : List UInt8} (hx : a.eval x = hv l) (hy : a.eval y = hv g) (hl : l.length = 32) (hg : g.length = 32)
    (hk : K (a.put o.dst (.bool (!decide (l = g))))) : o.quiet Try.prog a C K := by
  refine quiet_value _ (fun w _ => ?_) hk
  unfold execOp
  simp only [ho, hx, hy, hv, Sem.run_bind]
  rw [run_eqGuard_agg w .neq 27 x y _ _ Try.eqGuardType27]
  simp only [Result.andThen_ok]
  rw [ne_hash l g hl hg]
  rfl
end
end Go.Proofs.Ytbbfnpfkbbpjgaa

/- Rows that a call owns, whatever mark they bear that hits none of their cells: what they hold, and the append onto them; []byte(s) makes one. -/
namespace Go.Proofs.Ytbbfnpfkbbpjgaa
open Go.RowKit Go.Lib

section
variable {w w' : World} {base : Nat} {e : TypeId} {size : Nat} {v : Value} {n : Nat} {xs : List Value}
end

section
variable {P : Program} {w : World}
/-! ### []byte(s) -/
end
end Go.Proofs.Ytbbfnpfkbbpjgaa

/- digit.Put, digit.PutText as contracts. -/
namespace Go.Proofs.Ytbbfnpfkbbpjgaa
open Go.RowKit Go.Lib

/-- A number in groups of seven bits. -/
def putF : Nat → Nat → List UInt8
  | 0, _ => []
  | f + 1, n => if n < 128 then [UInt8.ofNat n] else UInt8.ofNat (n % 128 + 128) :: putF f (n / 128)
def putL (n : Nat) : List UInt8 := putF 10 n
theorem putF_length (f n : Nat) : (putF f n).length ≤ f := by
  induction f generalizing n with
  | zero => simp [putF]
  | succ f ih =>
    simp only [putF]
    split
    · simp
    · simp only [List.length_cons]; have := ih (n / 128); omega
def putText (s : List UInt8) : List UInt8 := putL s.length ++ s
/-- The bytes that are laid, then noughts. -/
def bpad (l : List UInt8) (n : Nat) : List UInt8 := l ++ List.replicate (n - l.length) 0
theorem bpad_length (l : List UInt8) (n : Nat) (h : l.length ≤ n) : (bpad l n).length = n := by simp [bpad]; omega
theorem bpad_next (l : List UInt8) (n : Nat) (h : l.length < n) (x : UInt8) : (bpad l n).set l.length x = bpad (l ++ [x]) n := by
  unfold bpad
  rw [List.set_append_right _ _ (Nat.le_refl _), Nat.sub_self]
  obtain ⟨m, hm⟩ : ∃ m, n - l.length = m + 1 := ⟨n - l.length - 1, by omega⟩
  rw [hm, List.replicate_succ, List.set_cons_zero, List.append_assoc]
  simp only [List.length_append, List.length_cons, List.length_nil, List.singleton_append]
  congr 3
  omega
theorem Byts.head_text {P : Program} {w : World} {b : Nat} {t : TypeId} {l more : List UInt8} (h : Byts w b t (l ++ more)) (src dst e : TypeId) (n cap : Nat) (hn : l.length = n) (hs : P.underlying src = some (.slice e)) (he : P.underlying e = some (.int .u8)) (hd : P.underlying dst = some .string) :
    (convert src dst (.slice (some ⟨b, 0, none⟩) n cap)).run P w = .ok (.string ⟨l.toArray⟩) w := by
  subst hn
  refine run_convert_bytes_back w src dst e ⟨b, 0, none⟩ cap l hs he hd (fun j hj => ?_)
  have hadd : (⟨b, 0, none⟩ : Addr).add j = ⟨b, j, none⟩ := by unfold Addr.add; split <;> simp_all
  rw [hadd, h.cell (by simp; omega)]
  simp [List.getElem?_append_left hj, hj]
theorem or128 (n : Nat) : bits .or .u8 ((n : Int) % 256) 128 = ((n % 128 + 128 : Nat) : Int) := by
  have e : (n : Int) % 256 = ((n % 256 : Nat) : Int) := by omega
  rw [e, show (128 : Int) = ((128 : Nat) : Int) by rfl, u8_or_nat _ 128 (by omega) (by omega)]
  congr 1
  have : ∀ m : Fin 256, m.1 ||| 128 = m.1 % 128 + 128 := by decide +kernel
  have h := this ⟨n % 256, by omega⟩
  simp only at h
  rw [h]
  omega

set_option maxRecDepth 100000 in
set_option maxHeartbeats 3200000 in
theorem put_any (n0 : Nat) (w : World) (hn : n0 < 18446744073709551616) :
    Calls Try.prog 68 #[.int .u64 n0] w fun e w' => e = .returned (.string ⟨(putL n0).toArray⟩) ∧ Below w.heap.size w w' := by
  obtain ⟨R, hR⟩ : ∃ R, R = putL n0 := ⟨_, rfl⟩
  rw [← hR]
  have HR := hide hR
  clear hR
  have HN := hide hn
  clear hn
  go_enter Try.func68, Try.ntmps68
  go_wp2_with fail
  have r0 : Byts (w.alloc (.cells (bvs (bpad [] 10)).toArray 177)) w.heap.size 177 (bpad [] 10) := Arr.new w _ _
  have hb := below1 w (.cells (bvs (bpad [] 10)).toArray 177)
  show Code.wp _ _ _ _ (w.alloc (.cells (bvs (bpad [] 10)).toArray 177))
  generalize w.alloc (.cells (bvs (bpad [] 10)).toArray 177) = W at *
  go_loopw [0, 4] (fun m i wr => ∃ (n k : Nat) (pre : List UInt8), m = .int .u64 n ∧ i = .int .i64 k ∧ k ≤ 9 ∧ n < 2 ^ (64 - 7 * k) ∧ pre.length = k ∧ R = pre ++ putF (10 - k) n ∧ Byts wr w.heap.size 177 (bpad pre 10) ∧ Below w.heap.size w wr) (fun m _ _ => (RowKit.intOf m).toNat)
  case atStart => exact ⟨n0, 0, [], rfl, rfl, by omega, by have := HN.out; omega, rfl, HR.out, r0, hb⟩
  case round =>
    obtain ⟨n, k, pre, rfl, rfl, hk, hnk, hpl, hpre, q0, qb⟩ := hrel
    have HNK := hide hnk
    have HPL := hide hpl
    have HPRE := hide hpre
    clear hnk hpl hpre
    have t0 := Arr.thaw q0 k
    have c0 := q0.cell (i := k) (by rw [bpad_length _ _ (by rw [HPL.out]; omega)]; omega)
    by_cases hge : 128 ≤ n
    · have hk9 : k < 9 := by
        rcases Nat.lt_or_ge k 9 with h | h
        · exact h
        · have : k = 9 := by omega
          subst this
          have := HNK.out
          simp at this
          omega
      have HN2 : Hid (n / 128 < 2 ^ (64 - 7 * (k + 1))) := by
        unfold Hid
        have h := HNK.out
        rw [show 64 - 7 * k = (64 - 7 * (k + 1)) + 7 by omega, Nat.pow_add] at h
        exact Nat.div_lt_of_lt_mul (by rw [Nat.mul_comm]; exact h)
      have HP2 : Hid (R = (pre ++ [UInt8.ofNat (n % 128 + 128)]) ++ putF (10 - (k + 1)) (n / 128)) := by
        unfold Hid
        rw [HPRE.out, show 10 - k = (10 - (k + 1)) + 1 by omega]
        simp only [putF]
        rw [if_neg (by omega)]
        simp
      have d1 := Byts.set q0 k (UInt8.ofNat (n % 128 + 128))
      have en := bpad_next pre 10 (by rw [HPL.out]; omega) (UInt8.ofNat (n % 128 + 128))
      rw [HPL.out] at en
      have e8 : ((UInt8.ofNat (n % 128 + 128)).toNat : Int) = ((n % 128 + 128 : Nat) : Int) := by rw [UInt8.toNat_ofNat']; omega
      rw [en, e8] at d1
      have o1 := or128 n
      generalize n % 128 + 128 = y at *
      have d2 := qb.setCell (p := ⟨w.heap.size, k, none⟩) (Nat.le_refl _) (.int .u8 (y : Int))
      have i0 : (k : Int) < 10 := by omega
      have i1 : (128 : Int) ≤ (n : Int) := by omega
      have HD : Hid (n / 128 < n) := by unfold Hid; omega
      clear en e8 q0 qb
      go_wp2_with fail
      go_roundw
      case rel => exact ⟨n / 128, k + 1, pre ++ [UInt8.ofNat y], by simp, by simp, by omega, HN2.out, by simp [HPL.out], HP2.out, d1, d2⟩
      case measure => simp [RowKit.intOf]; omega
    · have hlt : n < 128 := by omega
      have HP2 : Hid (R = pre ++ [UInt8.ofNat n]) := by
        unfold Hid
        rw [HPRE.out, show 10 - k = (9 - k) + 1 by omega]
        simp only [putF]
        rw [if_pos hlt]
      have d1 := Byts.set q0 k (UInt8.ofNat n)
      have en := bpad_next pre 10 (by rw [HPL.out]; omega) (UInt8.ofNat n)
      rw [HPL.out] at en
      have e8 : ((UInt8.ofNat n).toNat : Int) = (n : Int) := by rw [UInt8.toNat_ofNat']; omega
      rw [en, e8] at d1
      have m1 : (n : Int) % 256 = (n : Int) := by omega
      have i0 : (k : Int) < 10 := by omega
      have i1 : (n : Int) < 128 := by omega
      have ht := Byts.head_text (P := Try.prog) d1 63 9 5 (k + 1) 10 (by simp [HPL.out]) Try.underlying63 Try.underlying5 Try.underlying9
      have d2 := qb.setCell (p := ⟨w.heap.size, k, none⟩) (Nat.le_refl _) (.int .u8 (n : Int))
      have i5 : (k : Int) + 1 ≤ 10 := by omega
      have i6 : 0 ≤ (k : Int) + 1 := by omega
      clear en e8 q0 qb d1
      go_wp2_with fail
      go_ret
      exact ⟨by rw [HP2.out]; rfl, d2⟩
theorem putL_length (n : Nat) : (putL n).length ≤ 10 := putF_length 10 n
end Go.Proofs.Ytbbfnpfkbbpjgaa

/- sha.Of as a contract. -/
namespace Go.Proofs.Ytbbfnpfkbbpjgaa
open Go.RowKit Go.Lib

/-- A builder is as it was in every later world. -/
theorem builder_later {T e : TypeId} {B b : Nat} {bs : List Value} {w w' : World} (h : Lib.IsBuilder T e B b bs w) (hb : Below w.heap.size w w') : Lib.IsBuilder T e B b bs w' := by
  have key : ∀ p, Lib.BuilderAt T e B b p bs w → Lib.BuilderAt T e B b p bs w' := by
    rintro p ⟨hB, v, hbk, hown, hne⟩
    have hlt : b < w.heap.size := (Array.getElem?_eq_some_iff.1 hbk).1
    refine ⟨hB, v, by rw [hb.block b hlt]; exact hbk, ?_, hne⟩
    obtain ⟨hl, h⟩ := hown
    refine ⟨hl, ?_⟩
    rcases h with h | ⟨g, cap, cur, hv, hg, hgk, r⟩
    · exact Or.inl h
    · have hglt : g < w.heap.size := (Array.getElem?_eq_some_iff.1 hgk).1
      exact Or.inr ⟨g, cap, cur, hv, hg, by rw [hb.block g hglt]; exact hgk, r⟩
  rcases h with h | h
  · exact Or.inl (key _ h)
  · exact Or.inr (key _ h)

end Go.Proofs.Ytbbfnpfkbbpjgaa

/- A region that draws its order, walked by a schedule in which calls that only make new memory, and yield one value in every world of a class, may come up anywhere: operations that look, such calls, and operations that come up alone, proved from every later world. -/
namespace Go.Proofs.Ytbbfnpfkbbpjgaa
open Go.RowKit

section
variable {P : Program} {ops : Array Oper} {md : Region.Mode} {C : World → Prop} {Q : Exit → Act → World → Prop}

/-- One operation in one world: the value v, the world as it was; or a call that hands back v and only makes new memory. -/
def flUpon (P : Program) (w : World) (v : Value) : Result Next → Prop
  | .ok (.value u) w' => w' = w ∧ u = v
  | .ok (.enter f args) w' => w' = w ∧ Calls P f args w (fun e w'' => e = .returned v ∧ Below w.heap.size w w'')
  | _ => False
def YieldsFl (P : Program) (ops : Array Oper) (C : World → Prop) (o : Oper) (v : Value) (a : Act) : Prop :=
  (Region.wanted o (yielded ops a.tmps) = true ∧ ∀ w, C w → flUpon P w v ((execOp a.eval o).run P w)) ∨
  (Region.wanted o (yielded ops a.tmps) = false ∧ v = undef)
theorem YieldsFl.of_same {o : Oper} {v : Value} {a a' : Act} (hy : YieldsFl P ops C o v a) (he : execOp a'.eval o = execOp a.eval o)
    (hw : Region.wanted o (yielded ops a'.tmps) = Region.wanted o (yielded ops a.tmps)) : YieldsFl P ops C o v a' := by
  unfold YieldsFl at *
  rw [he, hw]
  exact hy
theorem YieldsFl.wpOp {i : Nat} {o : Oper} {v : Value} {a : Act} (hi : ops[i]? = some o) (hy : YieldsFl P ops C o v a) {K : Act → World → Prop} {w : World} (hC : C w)
    (h : ∀ w', Below w.heap.size w w' → K (a.put o.dst v) w') : wpOp P ops Q i K a w := by
  unfold Go.wpOp
  simp only [hi]
  rcases hy with ⟨hw, hv⟩ | ⟨hw, rfl⟩
  · simp only [hw, if_true]
    refine .inl ?_
    have h1 := hv w hC
    unfold Oper.wp
    generalize (execOp a.eval o).run P w = r at *
    cases r with
    | ok n w' =>
      cases n <;> simp only [flUpon] at h1 <;> simp only [Oper.upon]
      case value u => obtain ⟨rfl, rfl⟩ := h1; exact h _ (Below.refl _ _)
      case enter f args =>
        obtain ⟨rfl, hc⟩ := h1
        exact hc.mono fun e w'' ⟨he, hb⟩ => by subst he; exact h _ hb
    | halt x w' => simp only [flUpon] at h1
  · simp only [hw, Bool.false_eq_true, if_false]; exact h _ (Below.refl _ _)
theorem wpOp_putFl {j : Nat} {oi oj : Oper} {v : Value} (hj : ops[j]? = some oj) (hap : oi.apart ops oj = true)
    (hsi : ∀ cs b, oi.op ≠ .select cs b) (hsj : ∀ cs b, oj.op ≠ .select cs b)
    (hQ : ∀ c a w, Q (.panic c) (a.put oi.dst v) w → Q (.panic c) a w) {K : Act → World → Prop} {a : Act} {w : World}
    (hy : YieldsFl P ops C oi v a) (h : wpOp P ops Q j K (a.put oi.dst v) w) :
    wpOp P ops Q j (fun a' w' => YieldsFl P ops C oi v a' ∧ K (a'.put oi.dst v) w') a w := by
  obtain ⟨h1, h2, h3⟩ := Oper.apart_spec hap
  have keep : ∀ (a : Act), YieldsFl P ops C oi v a → ∀ u, YieldsFl P ops C oi v (a.put oj.dst u) := fun a hy u =>
    hy.of_same (execOp_put oi hsi a oj.dst u h3) (wanted_put oi a oj.dst u h3)
  have keepD : ∀ d, YieldsFl P ops C oi v { a with defers := d :: a.defers } := fun d => hy.of_same rfl rfl
  unfold wpOp at *
  simp only [hj] at *
  rw [wanted_put oj a oi.dst v h1] at h
  split
  · rename_i hw
    simp only [hw, if_true] at h
    rcases h with h | ⟨hasks, hlets⟩
    case inr => exact .inr ⟨by unfold Oper.asks at *; rw [execOp_put oj hsj a oi.dst v h1] at hasks; exact hasks, hlets⟩
    refine .inl ?_
    unfold Oper.wp at *
    rw [execOp_put oj hsj a oi.dst v h1] at h
    generalize (execOp a.eval oj).run P w = r at *
    cases r with
    | ok n w' =>
      cases n <;> simp only [Oper.upon] at h ⊢
      case value u => exact ⟨keep a hy u, by rw [← Act.put_comm a v u h2]; exact h⟩
      case skip => exact ⟨keep a hy _, by rw [← Act.put_comm a v undef h2]; exact h⟩
      case defer d =>
        refine ⟨keep _ (keepD d) _, ?_⟩
        rw [← Act.put_comm _ v undef h2, ← Act.put_defers]
        exact h
      case enter f args =>
        refine Calls.mono h fun e w'' he => ?_
        cases e with
        | returned u => exact ⟨keep a hy u, by rw [← Act.put_comm a v u h2]; exact he⟩
        | panicked c => exact hQ _ _ _ he
        | outgrown => exact he
      case row row args => exact Rows.mono h fun u w'' he => ⟨keep a hy u, by rw [← Act.put_comm a v u h2]; exact he⟩
    | halt x w' =>
      cases x <;> simp only [Oper.upon] at h ⊢
      case panic u => exact hQ _ _ _ h
  · rename_i hw
    simp only [hw] at h
    exact ⟨keep a hy _, by rw [← Act.put_comm a v undef h2]; exact h⟩

/-! ### The schedule: each step: operations that look, then a call that may come up anywhere (true), or one that comes up alone (false) -/
/-- One call that may come up anywhere. -/
def Floats (P : Program) (ops : Array Oper) (C : World → Prop) (o : Oper) (a : Act) (K : Act → Prop) : Prop := ∃ v, YieldsFl P ops C o v a ∧ K (a.put o.dst v)
/-- The function has a body of its own. -/
def bodied (P : Program) (f : FuncId) : Bool := match P.funcs[f]? with
  | some fn => !(fn.name == "runtime.NumGoroutine") && fn.body.isSome
  | none => false
theorem run_bodied {f : FuncId} (h : bodied P f = true) (args : Array Value) (w : World) : (callFunc f args).run P w = .ok (.enter f args) w := by
  unfold bodied at h
  split at h
  · rename_i fn hf
    simp only [Bool.and_eq_true, Bool.not_eq_true', beq_eq_false_iff_ne, ne_eq] at h
    obtain ⟨h1, h2⟩ := h
    cases hb : fn.body with
    | none => rw [hb] at h2; cases h2
    | some c => simp [callFunc, hf, h1, hb]
  · cases h
/-- A call of a named function, that may come up anywhere. -/
theorem fl_call {o : Oper} {a : Act} {K : Act → Prop} (hw : Region.wanted o (yielded ops a.tmps) = true) {f : FuncId} {xs : Array Operand} {ats : Array TypeId} (ho : o.op = .call { callee := .value (.func f), args := xs, argTypes := ats }) (hf : bodied P f = true) {args : Array Value}
    (hargs : xs.map a.eval = args) {v : Value} (h : ∀ w, C w → Calls P f args w fun e w'' => e = .returned v ∧ Below w.heap.size w w'') (hk : K (a.put o.dst v)) : Floats P ops C o a K := by
  refine ⟨v, .inl ⟨hw, fun w hC => ?_⟩, hk⟩
  obtain ⟨dst, op, type, pos, after, guard⟩ := o
  simp only at ho
  subst ho
  rw [execOp_call_go, hargs]
  have e : (#[] ++ args ++ #[] : Array Value) = args := by simp
  first | rw [e] | skip
  have := h w hC
  rw [run_bodied hf]
  exact ⟨rfl, this⟩

end

/-- A world of which K holds. -/
structure Kept (K : World → Prop) where
  w : World
  ok : K w
theorem kept {K : World → Prop} {w : World} (h : K w) : ∃ s : Kept K, w = s.w := ⟨⟨w, h⟩, rfl⟩
end Go.Proofs.Ytbbfnpfkbbpjgaa
