/- Words, addresses and places as numbers, and their cells; small laws that all later texts of this seat use. -/
import Derived.Test.YtbkhldaomalmoaaProg
import Derived.WalkKit
import Derived.WalkLawsBesides
import Derived.WalkSpells
import Derived.Deep.RegionHeld3
import Derived.Deep.MidRow
import Derived.Lib.Hide
import Derived.Sort.Grow
namespace Go.Proofs.Ytbkhldaomalmoaa
open Go.RowKit

/-! ### Words -/
/-- limb i of a number -/
def limb (v : Nat) (i : Nat) : Int := ((v / 18446744073709551616 ^ i % 18446744073709551616 : Nat) : Int)
/-- a word's cells -/
def wC (v : Nat) : List Value := [.int .u64 (limb v 0), .int .u64 (limb v 1), .int .u64 (limb v 2), .int .u64 (limb v 3)]
/-- a word as a value -/
def wV (v : Nat) : Value := .agg #[.int .u64 (limb v 0), .int .u64 (limb v 1), .int .u64 (limb v 2), .int .u64 (limb v 3)]
theorem wV_eq (v : Nat) : wV v = .agg (wC v).toArray := rfl
theorem wC_len (v : Nat) : (wC v).length = 4 := rfl
theorem limb_bd (v i : Nat) : 0 ≤ limb v i ∧ limb v i < 18446744073709551616 := by
  unfold limb
  have := Nat.mod_lt (v / 18446744073709551616 ^ i) (show 0 < 18446744073709551616 by decide)
  omega
def W256 : Nat := 115792089237316195423570985008687907853269984665640564039457584007913129639936
theorem limb0 (v : Nat) : limb v 0 = ((v % 18446744073709551616 : Nat) : Int) := by simp [limb]
theorem limb1 (v : Nat) : limb v 1 = ((v / 18446744073709551616 % 18446744073709551616 : Nat) : Int) := by simp [limb]
theorem limb2 (v : Nat) : limb v 2 = ((v / 340282366920938463463374607431768211456 % 18446744073709551616 : Nat) : Int) := rfl
theorem limb3 (v : Nat) : limb v 3 = ((v / 6277101735386680763835789423207666416102355444464034512896 % 18446744073709551616 : Nat) : Int) := rfl
/-- a number below 2^256 is its limbs -/
theorem limb_sum (v : Nat) (h : v < W256) : (v : Int) = limb v 0 + limb v 1 * 18446744073709551616 + limb v 2 * 340282366920938463463374607431768211456 + limb v 3 * 6277101735386680763835789423207666416102355444464034512896 := by
  rw [limb0, limb1, limb2, limb3]
  unfold W256 at h
  omega
/-- limbs of what is summed of limbs -/
theorem limb_of (a0 a1 a2 a3 : Nat) (h0 : a0 < 18446744073709551616) (h1 : a1 < 18446744073709551616) (h2 : a2 < 18446744073709551616) (h3 : a3 < 18446744073709551616) :
    wC (a0 + a1 * 18446744073709551616 + a2 * 340282366920938463463374607431768211456 + a3 * 6277101735386680763835789423207666416102355444464034512896) = [.int .u64 a0, .int .u64 a1, .int .u64 a2, .int .u64 a3] := by
  unfold wC
  rw [limb0, limb1, limb2, limb3]
  simp only [List.cons.injEq, Value.int.injEq, true_and, and_true]
  refine ⟨?_, ?_, ?_, ?_⟩ <;> omega
theorem wsum_lt (a0 a1 a2 a3 : Nat) (h0 : a0 < 18446744073709551616) (h1 : a1 < 18446744073709551616) (h2 : a2 < 18446744073709551616) (h3 : a3 < 18446744073709551616) :
    a0 + a1 * 18446744073709551616 + a2 * 340282366920938463463374607431768211456 + a3 * 6277101735386680763835789423207666416102355444464034512896 < W256 := by
  unfold W256; omega
theorem W256_pos : 0 < W256 := by unfold W256; omega
/-- words are one where their cells are -/
theorem wC_inj {a b : Nat} (ha : a < W256) (hb : b < W256) (h : wC a = wC b) : a = b := by
  unfold wC at h
  injection h with h0 h
  injection h with h1 h
  injection h with h2 h
  injection h with h3 h
  injection h0 with _ h0
  injection h1 with _ h1
  injection h2 with _ h2
  injection h3 with _ h3
  have := limb_sum a ha
  have := limb_sum b hb
  rw [h0, h1, h2, h3] at *
  omega
theorem wC_one (v : Nat) : ∀ u ∈ wC v, u.oneCell' = true := by
  intro u hu
  simp only [wC, List.mem_cons, List.not_mem_nil, or_false] at hu
  rcases hu with rfl | rfl | rfl | rfl <;> rfl

/-! ### Addresses -/
/-- byte i of a number of n bytes, the highest first -/
def byteOf (n v i : Nat) : Int := ((v / 256 ^ (n - 1 - i) % 256 : Nat) : Int)
theorem byteOf_bd (n v i : Nat) : 0 ≤ byteOf n v i ∧ byteOf n v i ≤ 255 := by
  unfold byteOf
  have := Nat.mod_lt (v / 256 ^ (n - 1 - i)) (show 0 < 256 by decide)
  omega
/-- an address' cells -/
def aC (v : Nat) : List Value := (List.range 20).map fun i => .int .u8 (byteOf 20 v i)
/-- an address as a value -/
def aV (v : Nat) : Value := .agg (aC v).toArray
theorem aC_len (v : Nat) : (aC v).length = 20 := by simp [aC]
theorem aC_get (v i : Nat) (h : i < 20) : (aC v)[i]? = some (.int .u8 (byteOf 20 v i)) := by
  simp [aC, h]
theorem aC_one (v : Nat) : ∀ u ∈ aC v, u.oneCell' = true := by
  intro u hu
  simp only [aC, List.mem_map] at hu
  obtain ⟨_, _, rfl⟩ := hu
  rfl
def A160 : Nat := 1461501637330902918203684832716283019655932542976

/-! ### Blocks -/
theorem below_a' {B : Nat} {a w : World} (h : Below B a w) (hB : B ≤ w.heap.size) (o : Obj) : Below B a (w.alloc o) := h.alloc hB o
theorem at_new (w : World) (o : Obj) {n : Nat} (hn : n = w.heap.size) : (w.alloc o).heap[n]? = some o := by
  subst hn
  show (w.heap.push o)[w.heap.size]? = _
  simp
theorem at_old {w : World} {g : Nat} {o : Obj} (h : w.heap[g]? = some o) (o' : Obj) : (w.alloc o').heap[g]? = some o := by
  have hg : g < w.heap.size := (Array.getElem?_eq_some_iff.1 h).1
  exact (Below.heap_alloc w o' g hg).trans h
theorem at_lt {w : World} {g : Nat} {o : Obj} (h : w.heap[g]? = some o) : g < w.heap.size := (Array.getElem?_eq_some_iff.1 h).1
/-- a store into a block that is known whole -/
theorem heap_set {w : World} {g o : Nat} {cs : Array Value} {t : TypeId} {fr : Nat × Nat} (h : w.heap[g]? = some (.cells cs t fr)) (u : Value) : (w.setCell ⟨g, o, none⟩ u).heap[g]? = some (.cells (cs.setIfInBounds o u) t fr) := by
  simp only [World.setCell, Array.getElem?_modify, h]
  simp
theorem heap_set_ne {w : World} {g g' o : Nat} {ob : Obj} (h : w.heap[g]? = some ob) (hne : g ≠ g') (u : Value) : (w.setCell ⟨g', o, none⟩ u).heap[g]? = some ob :=
  (Below.heap_setCell _ _ _ _ hne).trans h
/-- a block that is known whole: its cells -/
theorem cell_in {w : World} {g : Nat} {cs : Array Value} {t : TypeId} {fr : Nat × Nat} (h : w.heap[g]? = some (.cells cs t fr)) (o : Nat) {u : Value} (hu : cs[o]? = some u) : w.cell? ⟨g, o, none⟩ = some u := by
  rw [cell_of_row w g o cs t fr h]; exact hu
theorem free_in {w : World} {g : Nat} {cs : Array Value} {t : TypeId} (h : w.heap[g]? = some (.cells cs t (0, 0))) (o : Nat) : w.frozen? ⟨g, o, none⟩ = false := by
  simp [World.frozen?, h]
theorem heap_below {B : Nat} {w w1 : World} (hb : Below B w w1) {g : Nat} {o : Obj} (h : w.heap[g]? = some o) (hg : g < B) : w1.heap[g]? = some o := (hb.block g hg).trans h
theorem heap_grown {w w1 : World} {row : Option Nat} (hg : w.grownBy w1 row) {g : Nat} {o : Obj} (h : w.heap[g]? = some o) (hne : some g ≠ row) : w1.heap[g]? = some o := (hg.block g (at_lt h) hne).trans h
theorem own_ne {w : World} {base : Nat} {e : TypeId} {size : Nat} {v : Value} {n : Nat} {xs : List Value} (h : w.ownsRow base e size v n xs) {g : Nat} (hg : g < base) : some g ≠ v.ownBlock := fun he => by
  have := (h.lt g he.symm).1
  omega
/-- behind an append onto an owned row: what lay below the row's base lies there -/
theorem ap_step {B base : Nat} {w wr w1 : World} {e : TypeId} {size : Nat} {v : Value} {n : Nat} {xs : List Value} {o : Obj} (hB : Below B w wr) (hBs : B ≤ wr.heap.size) (h : wr.ownsRow base e size v n xs) (hbase : B ≤ base) (hg : (wr.alloc o).grownBy w1 v.ownBlock) :
    Below B w w1 ∧ (∀ g ob, g < base → wr.heap[g]? = some ob → w1.heap[g]? = some ob) ∧ wr.heap.size < w1.heap.size :=
  ⟨(below_a' hB hBs o).grown hg (by simp; omega) (fun k hk => Nat.le_trans hbase (h.lt k hk).1), fun g ob hl hh => heap_grown hg (at_old hh o) (own_ne h hl), by have := hg.size; simp at this; omega⟩
/-! ### Nothing but new blocks and draws -/
/-- w' is w with some orders drawn and some blocks laid behind its heap -/
def Grw (w w' : World) : Prop := ∃ q os, w' = Sort.grow (w.drewN q) os
theorem Grw.refl (w : World) : Grw w w := ⟨0, #[], by rw [Sort.grow_empty]; rfl⟩
theorem Grw.alloc {w W : World} (h : Grw w W) (o : Obj) : Grw w (W.alloc o) := by
  obtain ⟨q, os, rfl⟩ := h
  exact ⟨q, os ++ #[o], by rw [Sort.alloc_eq_grow, Sort.grow_grow]⟩
theorem Grw.drew {w W : World} (h : Grw w W) : Grw w W.drew := by
  obtain ⟨q, os, rfl⟩ := h
  exact ⟨q + 1, os, rfl⟩
theorem Grw.drewN {w W : World} (h : Grw w W) (n : Nat) : Grw w (W.drewN n) := by
  obtain ⟨q, os, rfl⟩ := h
  exact ⟨q + n, os, by rw [← World.drewN_drewN]; rfl⟩
theorem Grw.trans {a b c : World} (h : Grw a b) (k : Grw b c) : Grw a c := by
  obtain ⟨q, os, rfl⟩ := h
  obtain ⟨r, os', rfl⟩ := k
  exact ⟨q + r, os ++ os', by rw [← World.drewN_drewN, ← Sort.grow_grow]; rfl⟩
theorem Grw.below {w w' : World} (h : Grw w w') : Below w.heap.size w w' := by
  obtain ⟨q, os, rfl⟩ := h
  exact ⟨rfl, rfl, rfl, by rw [Sort.size_grow]; exact Nat.le_add_right _ _, fun k hk => Sort.heap_grow_old _ os hk⟩
/-! ### Closing a walk: below -/
theorem bcell {W w1 : World} (hb : Below W.heap.size W w1) : (∀ b o, b < W.heap.size → w1.cell? ⟨b, o, none⟩ = W.cell? ⟨b, o, none⟩) ∧ (∀ b o, b < W.heap.size → w1.frozen? ⟨b, o, none⟩ = W.frozen? ⟨b, o, none⟩) :=
  ⟨fun b o h => hb.cell (p := ⟨b, o, none⟩) h, fun b o h => hb.frozen (p := ⟨b, o, none⟩) h⟩
/-- a call in the midst: what it laid lies above what lay before it -/
theorem below_c {B : Nat} {a w w1 : World} (h : Below B a w) (k : Below w.heap.size w w1) (hB : B ≤ w.heap.size) : Below B a w1 := h.trans (k.mono hB)
theorem below_a {B : Nat} {a w : World} (h : Below B a w) (hB : B ≤ w.heap.size) (o : Obj) : Below B a (w.alloc o) := h.alloc hB o
end Go.Proofs.Ytbkhldaomalmoaa
