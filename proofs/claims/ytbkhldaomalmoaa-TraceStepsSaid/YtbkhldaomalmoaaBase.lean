/- Words, addresses and places as numbers, and their cells; '==' on them; owned rows; loads, stores and results of whole structs and arrays: small laws that all later texts use. -/
import Derived.Test.YtbkhldaomalmoaaProg
import Derived.WalkKit
import Derived.WalkLawsBesides
import Derived.WalkSpells
import Derived.Deep.RegionHeld3
import Derived.Deep.MidRow
import Derived.Lib.Hide
import Derived.Sort.Grow
import Derived.Laws.StructEq
namespace Go.Proofs.Ytbkhldaomalmoaa
open Go.RowKit
/-! ## Base -/

/-! ### Words -/
/-- limb i of a number -/
def limb (v : Nat) (i : Nat) : Int := ((v / 18446744073709551616 ^ i % 18446744073709551616 : Nat) : Int)
/-- a word's cells -/
def wC (v : Nat) : List Value := [.int .u64 (limb v 0), .int .u64 (limb v 1), .int .u64 (limb v 2), .int .u64 (limb v 3)]
/-- a word as a value -/
def wV (v : Nat) : Value := .agg #[.int .u64 (limb v 0), .int .u64 (limb v 1), .int .u64 (limb v 2), .int .u64 (limb v 3)]
theorem wV_eq (v : Nat) : wV v = .agg (wC v).toArray := rfl
theorem wC_len (v : Nat) : (wC v).length = 4 := rfl
theorem limb_bd (v i : Nat) : 0 ≤ limb v i ∧ limb v i < 18446744073709551616 := by
  unfold limb
  have := Nat.mod_lt (v / 18446744073709551616 ^ i) (show 0 < 18446744073709551616 by decide)
  omega
def W256 : Nat := 115792089237316195423570985008687907853269984665640564039457584007913129639936
theorem limb0 (v : Nat) : limb v 0 = ((v % 18446744073709551616 : Nat) : Int) := by simp [limb]
theorem limb1 (v : Nat) : limb v 1 = ((v / 18446744073709551616 % 18446744073709551616 : Nat) : Int) := by simp [limb]
theorem limb2 (v : Nat) : limb v 2 = ((v / 340282366920938463463374607431768211456 % 18446744073709551616 : Nat) : Int) := rfl
theorem limb3 (v : Nat) : limb v 3 = ((v / 6277101735386680763835789423207666416102355444464034512896 % 18446744073709551616 : Nat) : Int) := rfl
/-- a number below 2^256 is its limbs -/
theorem limb_sum (v : Nat) (h : v < W256) : (v : Int) = limb v 0 + limb v 1 * 18446744073709551616 + limb v 2 * 340282366920938463463374607431768211456 + limb v 3 * 6277101735386680763835789423207666416102355444464034512896 := by
  rw [limb0, limb1, limb2, limb3]
  unfold W256 at h
  omega
/-- limbs of what is summed of limbs -/
theorem limb_of (a0 a1 a2 a3 : Nat) (h0 : a0 < 18446744073709551616) (h1 : a1 < 18446744073709551616) (h2 : a2 < 18446744073709551616) (h3 : a3 < 18446744073709551616) :
    wC (a0 + a1 * 18446744073709551616 + a2 * 340282366920938463463374607431768211456 + a3 * 6277101735386680763835789423207666416102355444464034512896) = [.int .u64 a0, .int .u64 a1, .int .u64 a2, .int .u64 a3] := by
  unfold wC
  rw [limb0, limb1, limb2, limb3]
  simp only [List.cons.injEq, Value.int.injEq, true_and, and_true]
  refine ⟨?_, ?_, ?_, ?_⟩ <;> omega
theorem wsum_lt (a0 a1 a2 a3 : Nat) (h0 : a0 < 18446744073709551616) (h1 : a1 < 18446744073709551616) (h2 : a2 < 18446744073709551616) (h3 : a3 < 18446744073709551616) :
    a0 + a1 * 18446744073709551616 + a2 * 340282366920938463463374607431768211456 + a3 * 6277101735386680763835789423207666416102355444464034512896 < W256 := by
  unfold W256; omega
theorem W256_pos : 0 < W256 := by unfold W256; omega
/-- words are one where their cells are -/
theorem wC_inj {a b : Nat} (ha : a < W256) (hb : b < W256) (h : wC a = wC b) : a = b := by
  unfold wC at h
  injection h with h0 h
  injection h with h1 h
  injection h with h2 h
  injection h with h3 h
  injection h0 with _ h0
  injection h1 with _ h1
  injection h2 with _ h2
  injection h3 with _ h3
  have := limb_sum a ha
  have := limb_sum b hb
  rw [h0, h1, h2, h3] at *
  omega
theorem wC_one (v : Nat) : ∀ u ∈ wC v, u.oneCell' = true := by
  intro u hu
  simp only [wC, List.mem_cons, List.not_mem_nil, or_false] at hu
  rcases hu with rfl | rfl | rfl | rfl <;> rfl

/-! ### Addresses -/
/-- byte i of a number of n bytes, the highest first -/
def byteOf (n v i : Nat) : Int := ((v / 256 ^ (n - 1 - i) % 256 : Nat) : Int)
theorem byteOf_bd (n v i : Nat) : 0 ≤ byteOf n v i ∧ byteOf n v i ≤ 255 := by
  unfold byteOf
  have := Nat.mod_lt (v / 256 ^ (n - 1 - i)) (show 0 < 256 by decide)
  omega
/-- an address' cells -/
def aC (v : Nat) : List Value := (List.range 20).map fun i => .int .u8 (byteOf 20 v i)
/-- an address as a value -/
def aV (v : Nat) : Value := .agg (aC v).toArray
theorem aC_len (v : Nat) : (aC v).length = 20 := by simp [aC]
theorem aC_get (v i : Nat) (h : i < 20) : (aC v)[i]? = some (.int .u8 (byteOf 20 v i)) := by
  simp [aC, h]
theorem aC_one (v : Nat) : ∀ u ∈ aC v, u.oneCell' = true := by
  intro u hu
  simp only [aC, List.mem_map] at hu
  obtain ⟨_, _, rfl⟩ := hu
  rfl
def A160 : Nat := 1461501637330902918203684832716283019655932542976

/-! ### Blocks -/
theorem below_a' {B : Nat} {a w : World} (h : Below B a w) (hB : B ≤ w.heap.size) (o : Obj) : Below B a (w.alloc o) := h.alloc hB o
theorem at_new (w : World) (o : Obj) {n : Nat} (hn : n = w.heap.size) : (w.alloc o).heap[n]? = some o := by
  subst hn
  show (w.heap.push o)[w.heap.size]? = _
  simp
theorem at_old {w : World} {g : Nat} {o : Obj} (h : w.heap[g]? = some o) (o' : Obj) : (w.alloc o').heap[g]? = some o := by
  have hg : g < w.heap.size := (Array.getElem?_eq_some_iff.1 h).1
  exact (Below.heap_alloc w o' g hg).trans h
theorem at_lt {w : World} {g : Nat} {o : Obj} (h : w.heap[g]? = some o) : g < w.heap.size := (Array.getElem?_eq_some_iff.1 h).1
/-- a store into a block that is known whole -/
theorem heap_set {w : World} {g o : Nat} {cs : Array Value} {t : TypeId} {fr : Nat × Nat} (h : w.heap[g]? = some (.cells cs t fr)) (u : Value) : (w.setCell ⟨g, o, none⟩ u).heap[g]? = some (.cells (cs.setIfInBounds o u) t fr) := by
  simp only [World.setCell, Array.getElem?_modify, h]
  simp
theorem heap_set_ne {w : World} {g g' o : Nat} {ob : Obj} (h : w.heap[g]? = some ob) (hne : g ≠ g') (u : Value) : (w.setCell ⟨g', o, none⟩ u).heap[g]? = some ob :=
  (Below.heap_setCell _ _ _ _ hne).trans h
/-- a block that is known whole: its cells -/
theorem cell_in {w : World} {g : Nat} {cs : Array Value} {t : TypeId} {fr : Nat × Nat} (h : w.heap[g]? = some (.cells cs t fr)) (o : Nat) {u : Value} (hu : cs[o]? = some u) : w.cell? ⟨g, o, none⟩ = some u := by
  rw [cell_of_row w g o cs t fr h]; exact hu
theorem free_in {w : World} {g : Nat} {cs : Array Value} {t : TypeId} (h : w.heap[g]? = some (.cells cs t (0, 0))) (o : Nat) : w.frozen? ⟨g, o, none⟩ = false := by
  simp [World.frozen?, h]
theorem heap_below {B : Nat} {w w1 : World} (hb : Below B w w1) {g : Nat} {o : Obj} (h : w.heap[g]? = some o) (hg : g < B) : w1.heap[g]? = some o := (hb.block g hg).trans h
theorem heap_grown {w w1 : World} {row : Option Nat} (hg : w.grownBy w1 row) {g : Nat} {o : Obj} (h : w.heap[g]? = some o) (hne : some g ≠ row) : w1.heap[g]? = some o := (hg.block g (at_lt h) hne).trans h
theorem own_ne {w : World} {base : Nat} {e : TypeId} {size : Nat} {v : Value} {n : Nat} {xs : List Value} (h : w.ownsRow base e size v n xs) {g : Nat} (hg : g < base) : some g ≠ v.ownBlock := fun he => by
  have := (h.lt g he.symm).1
  omega
/-- behind an append onto an owned row: what lay below the row's base lies there -/
theorem ap_step {B base : Nat} {w wr w1 : World} {e : TypeId} {size : Nat} {v : Value} {n : Nat} {xs : List Value} {o : Obj} (hB : Below B w wr) (hBs : B ≤ wr.heap.size) (h : wr.ownsRow base e size v n xs) (hbase : B ≤ base) (hg : (wr.alloc o).grownBy w1 v.ownBlock) :
    Below B w w1 ∧ (∀ g ob, g < base → wr.heap[g]? = some ob → w1.heap[g]? = some ob) ∧ wr.heap.size < w1.heap.size :=
  ⟨(below_a' hB hBs o).grown hg (by simp; omega) (fun k hk => Nat.le_trans hbase (h.lt k hk).1), fun g ob hl hh => heap_grown hg (at_old hh o) (own_ne h hl), by have := hg.size; simp at this; omega⟩
/-! ### Nothing but new blocks and draws -/
/-- w' is w with some orders drawn and some blocks laid behind its heap -/
def Grw (w w' : World) : Prop := ∃ q os, w' = Sort.grow (w.drewN q) os
theorem Grw.refl (w : World) : Grw w w := ⟨0, #[], by rw [Sort.grow_empty]; rfl⟩
theorem Grw.alloc {w W : World} (h : Grw w W) (o : Obj) : Grw w (W.alloc o) := by
  obtain ⟨q, os, rfl⟩ := h
  exact ⟨q, os ++ #[o], by rw [Sort.alloc_eq_grow, Sort.grow_grow]⟩
theorem Grw.drew {w W : World} (h : Grw w W) : Grw w W.drew := by
  obtain ⟨q, os, rfl⟩ := h
  exact ⟨q + 1, os, rfl⟩
theorem Grw.drewN {w W : World} (h : Grw w W) (n : Nat) : Grw w (W.drewN n) := by
  obtain ⟨q, os, rfl⟩ := h
  exact ⟨q + n, os, by rw [← World.drewN_drewN]; rfl⟩
theorem Grw.trans {a b c : World} (h : Grw a b) (k : Grw b c) : Grw a c := by
  obtain ⟨q, os, rfl⟩ := h
  obtain ⟨r, os', rfl⟩ := k
  exact ⟨q + r, os ++ os', by rw [← World.drewN_drewN, ← Sort.grow_grow]; rfl⟩
theorem Grw.below {w w' : World} (h : Grw w w') : Below w.heap.size w w' := by
  obtain ⟨q, os, rfl⟩ := h
  exact ⟨rfl, rfl, rfl, by rw [Sort.size_grow]; exact Nat.le_add_right _ _, fun k hk => Sort.heap_grow_old _ os hk⟩
/-! ### Closing a walk: below -/
theorem bcell {W w1 : World} (hb : Below W.heap.size W w1) : (∀ b o, b < W.heap.size → w1.cell? ⟨b, o, none⟩ = W.cell? ⟨b, o, none⟩) ∧ (∀ b o, b < W.heap.size → w1.frozen? ⟨b, o, none⟩ = W.frozen? ⟨b, o, none⟩) :=
  ⟨fun b o h => hb.cell (p := ⟨b, o, none⟩) h, fun b o h => hb.frozen (p := ⟨b, o, none⟩) h⟩
/-- a call in the midst: what it laid lies above what lay before it -/
theorem below_c {B : Nat} {a w w1 : World} (h : Below B a w) (k : Below w.heap.size w w1) (hB : B ≤ w.heap.size) : Below B a w1 := h.trans (k.mono hB)
theorem below_a {B : Nat} {a w : World} (h : Below B a w) (hB : B ≤ w.heap.size) (o : Obj) : Below B a (w.alloc o) := h.alloc hB o

/-! ## Eq -/

def ints (k : IntKind) (xs : List Int) : List Value := xs.map fun x => .int k x
theorem all_range_int : ∀ (xs ys : List Int), xs.length = ys.length → ((List.range xs.length).all fun i => xs.getD i 0 == ys.getD i 0) = (xs == ys)
  | [], [], _ => rfl
  | x :: xs, y :: ys, h => by
    have ih := all_range_int xs ys (by simpa using h)
    rw [List.length_cons, List.range_succ_eq_map, List.all_cons, List.all_map]
    simp only [List.getD_cons_zero, Function.comp_def, List.getD_cons_succ, ih]
    simp [List.cons_beq_cons]
  | [], _ :: _, h => by simp at h
  | _ :: _, [], h => by simp at h
section
variable {P : Program} (w : World)
theorem run_equalIn_ints (d : Nat) (t e : TypeId) (n : Nat) (k : IntKind) (ht : P.underlying t = some (.array n e)) (he : P.underlying e = some (.int k)) (hsz : ∀ w, (sizeOf e).run P w = .ok 1 w)
    (xs ys : List Int) (hx : xs.length = n) (hy : ys.length = n) :
    (Op.equalIn (d + 2) t (.agg (ints k xs).toArray) (.agg (ints k ys).toArray)).run P w = .ok (xs == ys) w := by
  rw [← all_range_int xs ys (hx.trans hy.symm), hx, List.range_eq_range', Op.equalIn]
  simp only [Sem.run_bind, run_underlying ht, Result.andThen_ok, hsz, Std.Legacy.Range.forIn_eq_forIn_range', Std.Legacy.Range.size, Nat.sub_zero, Nat.add_sub_cancel, Nat.div_one]
  have hl : ∀ i ∈ List.range' 0 n 1, i < n := fun i hi => by simpa using (List.mem_range'_1.1 hi).2
  generalize List.range' 0 n 1 = l at hl ⊢
  induction l with
  | nil => simp
  | cons i l ih =>
    have hi : i < n := hl i (by simp)
    have px : (part e (ints k xs).toArray (i * 1)).run P w = .ok (.int k (xs.getD i 0)) w := by
      simp [part, isAgg, run_underlying he, List.getD, ints, List.getElem?_eq_getElem (show i < xs.length by omega)]
    have py : (part e (ints k ys).toArray (i * 1)).run P w = .ok (.int k (ys.getD i 0)) w := by
      simp [part, isAgg, run_underlying he, List.getD, ints, List.getElem?_eq_getElem (show i < ys.length by omega)]
    have pe : (Op.equalIn (d + 1) e (.int k (xs.getD i 0)) (.int k (ys.getD i 0))).run P w = .ok (xs.getD i 0 == ys.getD i 0) w := run_equalIn_int w d e k k _ _ he
    simp only [List.forIn_cons, Sem.run_bind, px, py, pe, Result.andThen_ok, List.all_cons]
    cases hb : (xs.getD i 0 == ys.getD i 0)
    · simp
    · simp only [Bool.not_true, Bool.false_eq_true, if_false, Sem.run_pure, Result.andThen_ok, Bool.true_and]
      exact ih fun j hj => hl j (by simp [hj])
end

/-! ### words -/
theorem limbs_ne {a b : Nat} (ha : a < W256) (hb : b < W256) (h : a ≠ b) : ¬ (limb a 0 = limb b 0 ∧ limb a 1 = limb b 1 ∧ limb a 2 = limb b 2 ∧ limb a 3 = limb b 3) := by
  rintro ⟨h0, h1, h2, h3⟩
  exact h (wC_inj ha hb (by simp [wC, h0, h1, h2, h3]))
theorem limbs_eq {a b : Nat} (ha : a < W256) (hb : b < W256) : ([limb a 0, limb a 1, limb a 2, limb a 3] == [limb b 0, limb b 1, limb b 2, limb b 3]) = decide (a = b) := by
  by_cases h : a = b
  · subst h; simp
  · have := limbs_ne ha hb h
    rw [decide_eq_false h]
    simpa using this
/-- '==' of two words -/
theorem wV_ints (v : Nat) : wV v = .agg (ints .u64 [limb v 0, limb v 1, limb v 2, limb v 3]).toArray := by simp [wV, ints]
theorem eqW {a b : Nat} (ha : a < W256) (hb : b < W256) (d : Nat) (w : World) : (Op.equalIn (d + 2) 36 (wV a) (wV b)).run Try.prog w = .ok (decide (a = b)) w := by
  rw [← limbs_eq ha hb, wV_ints, wV_ints]
  exact run_equalIn_ints w d 36 34 4 .u64 Try.underlying36 Try.underlying34 (fun w => by kernel_rfl) _ _ rfl rfl
theorem eqW' {a b : Nat} (ha : a < W256) (hb : b < W256) (w : World) : (Op.equalIn 10000 36 (.agg #[.int .u64 (limb a 0), .int .u64 (limb a 1), .int .u64 (limb a 2), .int .u64 (limb a 3)]) (.agg #[.int .u64 (limb b 0), .int .u64 (limb b 1), .int .u64 (limb b 2), .int .u64 (limb b 3)])).run Try.prog w = .ok (decide (a = b)) w :=
  eqW ha hb 9998 w

/-! ### addresses -/
theorem byte_sum (n v : Nat) (h : v < 256 ^ n) : (List.range n).foldl (fun s i => s * 256 + (byteOf n v i).toNat) 0 = v := by
  have key : ∀ k, k ≤ n → (List.range k).foldl (fun s i => s * 256 + (byteOf n v i).toNat) 0 = v / 256 ^ (n - k) := by
    intro k
    induction k with
    | zero => intro _; simp [Nat.div_eq_of_lt h]
    | succ k ih =>
      intro hk
      rw [List.range_succ, List.foldl_append, ih (by omega)]
      simp only [List.foldl_cons, List.foldl_nil, byteOf, Int.toNat_natCast]
      have e1 : n - k = (n - (k + 1)) + 1 := by omega
      have e2 : n - 1 - k = n - (k + 1) := by omega
      rw [e1, e2, Nat.pow_succ, ← Nat.div_div_eq_div_mul]
      omega
  have := key n (Nat.le_refl n)
  simpa using this
theorem bytes_inj {n a b : Nat} (ha : a < 256 ^ n) (hb : b < 256 ^ n) (h : (List.range n).map (byteOf n a) = (List.range n).map (byteOf n b)) : a = b := by
  rw [← byte_sum n a ha, ← byte_sum n b hb]
  have : ∀ (l : List Nat), (l.map (byteOf n a) = l.map (byteOf n b)) → ∀ s, l.foldl (fun s i => s * 256 + (byteOf n a i).toNat) s = l.foldl (fun s i => s * 256 + (byteOf n b i).toNat) s := by
    intro l
    induction l with
    | nil => intros; rfl
    | cons x l ih =>
      intro h s
      simp only [List.map_cons, List.cons.injEq] at h
      simp only [List.foldl_cons, h.1]
      exact ih h.2 _
  exact this _ h 0
theorem A160_eq : A160 = 256 ^ 20 := by decide
theorem aC_ints (v : Nat) : aC v = ints .u8 ((List.range 20).map (byteOf 20 v)) := by simp [aC, ints]
theorem aC_inj {a b : Nat} (ha : a < A160) (hb : b < A160) (h : aC a = aC b) : a = b := by
  rw [A160_eq] at ha hb
  refine bytes_inj ha hb ?_
  rw [aC_ints, aC_ints] at h
  exact List.map_inj_right (fun x y e => by injection e) |>.1 h
theorem eqA {a b : Nat} (ha : a < A160) (hb : b < A160) (d : Nat) (w : World) : (Op.equalIn (d + 2) 33 (aV a) (aV b)).run Try.prog w = .ok (decide (a = b)) w := by
  have h : ((List.range 20).map (byteOf 20 a) == (List.range 20).map (byteOf 20 b)) = decide (a = b) := by
    by_cases h : a = b
    · subst h; simp
    · rw [decide_eq_false h, beq_eq_false_iff_ne]
      intro e
      rw [A160_eq] at ha hb
      exact h (bytes_inj ha hb e)
  rw [← h, aV, aV, aC_ints, aC_ints]
  exact run_equalIn_ints w d 33 5 20 .u8 Try.underlying33 Try.underlying5 (fun w => by kernel_rfl) _ _ (by simp) (by simp)

/-! ## More -/
/-- a row that is not empty: its slice written out, its cells -/
theorem own_form {w : World} {base : Nat} {e : TypeId} {size : Nat} {v : Value} {n : Nat} {xs : List Value} (h : w.ownsRow base e size v n xs) (hn : 0 < n) :
    ∃ g cap, v = .slice (some ⟨g, 0, none⟩) n cap ∧ base ≤ g ∧ g < w.heap.size ∧ n ≤ cap ∧ (∀ j u, xs[j]? = some u → w.cell? ⟨g, j, none⟩ = some u) := by
  have hc := fun g hg => h.cells (g := g) hg
  have hl := h.lt
  obtain ⟨_, h | ⟨g, cap, cur, rfl, hg, hh, hcap, _⟩⟩ := h
  · omega
  · refine ⟨g, cap, rfl, hg, (hl g rfl).2, hcap, fun j u hu => ?_⟩
    have := hc g rfl j u hu
    rwa [Addr.add_mid, Nat.zero_add] at this

/-! ## Agg -/

theorem range_block {w : World} {b : Nat} {cs : List Value} {t : TypeId} {fr : Nat × Nat} (h : w.heap[b]? = some (.cells cs.toArray t fr)) : w.rangeAt b 0 cs := fun j v hv => by
  rw [Nat.zero_add]
  exact cell_in h j (by simpa using hv)
theorem range_mid {w : World} {b o : Nat} {l1 l2 l3 : List Value} {t : TypeId} {fr : Nat × Nat} (h : w.heap[b]? = some (.cells (l1 ++ l2 ++ l3).toArray t fr)) (ho : o = l1.length) : w.rangeAt b o l2 := fun j v hv => by
  subst ho
  have hj := (List.getElem?_eq_some_iff.1 hv).1
  refine cell_in h _ ?_
  rw [List.getElem?_toArray, List.append_assoc, List.getElem?_append_right (by omega), Nat.add_sub_cancel_left, List.getElem?_append_left hj]
  exact hv
theorem there_block {w : World} {b : Nat} {C : Array Value} {t : TypeId} (h : w.heap[b]? = some (.cells C t (0, 0))) {o n : Nat} (hn : o + n ≤ C.size) : w.there b o n := fun j hj => by
  refine ⟨?_, free_in h _⟩
  rw [cell_in h (o + j) (Array.getElem?_eq_getElem (by omega))]; rfl
theorem splice_step (L : List Value) (o : Nat) (v : Value) (vs : List Value) (h : o + (vs.length + 1) ≤ L.length) : (L.set o v).take (o + 1) ++ vs ++ (L.set o v).drop (o + 1 + vs.length) = L.take o ++ (v :: vs) ++ L.drop (o + (vs.length + 1)) := by
  have e : L.set o v = L.take o ++ v :: L.drop (o + 1) := by
    rw [List.set_eq_take_append_cons_drop, if_pos (by omega)]
  have l : (L.take o).length = o := by rw [List.length_take]; omega
  have e1 : (L.set o v).take (o + 1) = L.take o ++ [v] := by
    rw [e, List.take_append, l, List.take_of_length_le (by omega), show o + 1 - o = 1 by omega]
    rfl
  have e2 : (L.set o v).drop (o + 1 + vs.length) = L.drop (o + (vs.length + 1)) := by
    rw [List.drop_set, if_pos (by omega)]
    congr 1; omega
  rw [e1, e2]
  simp
theorem setCells_heap {t : TypeId} {fr : Nat × Nat} : ∀ (vs : List Value) (w : World) (b o : Nat) (C : Array Value), w.heap[b]? = some (.cells C t fr) → o + vs.length ≤ C.size →
    (w.setCells b o vs).heap[b]? = some (.cells (C.toList.take o ++ vs ++ C.toList.drop (o + vs.length)).toArray t fr)
  | [], w, b, o, C, h, _ => by
    rw [World.setCells]
    simpa using h
  | v :: vs, w, b, o, C, h, hl => by
    rw [World.setCells]
    simp only [List.length_cons] at hl
    have := setCells_heap vs _ b (o + 1) _ (heap_set (o := o) h v) (by rw [Array.size_setIfInBounds]; omega)
    rw [this]
    congr 3
    simp only [Array.toList_setIfInBounds, List.length_cons]
    exact splice_step C.toList o v vs (by simpa using hl)
/-- the block behind a store of all its cells -/
theorem setCells_whole {w : World} {b : Nat} {C : Array Value} {t : TypeId} {fr : Nat × Nat} (h : w.heap[b]? = some (.cells C t fr)) (vs : List Value) (hl : vs.length = C.size) : (w.setCells b 0 vs).heap[b]? = some (.cells vs.toArray t fr) := by
  rw [setCells_heap vs w b 0 C h (by omega), Nat.zero_add, hl, List.drop_of_length_le (by simp)]
  simp
/-- behind a store in the midst of a block -/
theorem setCells_mid {w : World} {b o : Nat} {l1 l2 l3 : List Value} {t : TypeId} {fr : Nat × Nat} (h : w.heap[b]? = some (.cells (l1 ++ l2 ++ l3).toArray t fr)) (ho : o = l1.length) (vs : List Value) (hl : vs.length = l2.length) : (w.setCells b o vs).heap[b]? = some (.cells (l1 ++ vs ++ l3).toArray t fr) := by
  subst ho
  rw [setCells_heap vs w b _ _ h (by simp; omega)]
  simp [hl]
theorem setCells_other : ∀ (vs : List Value) (w : World) (b o k : Nat), k ≠ b → (w.setCells b o vs).heap[k]? = w.heap[k]?
  | [], _, _, _, _, _ => rfl
  | v :: vs, w, b, o, k, h => by
    rw [World.setCells, setCells_other vs _ b (o + 1) k h]
    exact Below.heap_setCell _ _ _ _ h
theorem setCells_same (vs : List Value) : ∀ (w : World) (b o : Nat), (w.setCells b o vs).os = w.os ∧ (w.setCells b o vs).tape = w.tape ∧ (w.setCells b o vs).output = w.output ∧ (w.setCells b o vs).heap.size = w.heap.size := by
  induction vs with
  | nil => intros; exact ⟨rfl, rfl, rfl, rfl⟩
  | cons v vs ih =>
    intro w b o
    rw [World.setCells]
    obtain ⟨h1, h2, h3, h4⟩ := ih (w.setCell ⟨b, o, none⟩ v) b (o + 1)
    exact ⟨h1, h2, h3, h4.trans (by simp [World.setCell])⟩
theorem below_setCells {B : Nat} {a w : World} (h : Below B a w) {b : Nat} (hb : B ≤ b) (o : Nat) (vs : List Value) : Below B a (w.setCells b o vs) := by
  obtain ⟨h1, h2, h3, h4⟩ := setCells_same vs w b o
  exact h.trans ⟨h1, h2, h3, by omega, fun k hk => setCells_other vs w b o k (by omega)⟩
/-- a function's one result that lies in a block -/
theorem ret_cell {P : Program} {fn : Func} {R : Ending → World → Prop} {a : Act} {w : World} {p : Tmp} {ty : TypeId} {b : Nat} {cs : List Value} {d : TypeDesc} (h : fn.results = #[.cell p ty]) (hp : a.tmps.getD p undef = .pointer (some ⟨b, 0, none⟩))
    (hc : w.rangeAt b 0 cs) (hu : P.underlying ty = some d) (hd : d.isRow = true) (hi : (P.info? ty).map (·.size) = some cs.length) (hdf : a.defers = []) (hR : R (.returned (.agg cs.toArray)) w) : bodyPost P fn R .ret a w := by
  refine bodyPost_ret (v := .agg cs.toArray) ?_ hdf hR
  have hp' : a.tmps[p]?.getD undef = .pointer (some ⟨b, 0, none⟩) := by simpa using hp
  simp only [results, h]
  simp [hp', asAddr, run_loadVar_mid (P := P) w b 0 ty cs d hc hu hd hi]
end Go.Proofs.Ytbkhldaomalmoaa
