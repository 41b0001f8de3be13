/- word.Bytes. (Printed by wip/tpl/gen_bytes.py.) -/
import Derived.Test.YtbkhldaomalmoaaReadMath
import Derived.Test.YtbkhldaomalmoaaBase
namespace Go.Proofs.Ytbkhldaomalmoaa
open Go.RowKit
attribute [local go_sem] wV

/-- k bytes are laid, from the last one on -/
def fillB (a k : Nat) : Array Value := ((List.range 32).map fun j => Value.int .u8 (if 32 ≤ j + k then byteOf 32 a j else 0)).toArray
theorem fillB_zero (a : Nat) : fillB a 0 = (List.replicate 32 (Value.int .u8 0)).toArray := by
  unfold fillB
  congr 1
theorem fillB_size (a k : Nat) : (fillB a k).size = 32 := by simp [fillB]
theorem fillB_next (a k : Nat) (h : k < 32) : (fillB a k).setIfInBounds (31 - k) (.int .u8 (byteOf 32 a (31 - k))) = fillB a (k + 1) := by
  apply Array.ext
  · simp [fillB]
  · intro i h1 h2
    simp only [Array.size_setIfInBounds, fillB_size] at h1
    rw [Array.getElem_setIfInBounds (by rw [fillB_size]; exact h1)]
    by_cases he : 31 - k = i
    · subst he
      simp [fillB]
      omega
    · simp [fillB, he]
      by_cases h3 : 32 ≤ i + k
      · rw [if_pos h3, if_pos (by omega)]
      · rw [if_neg h3, if_neg (by omega)]
def bC32 (a : Nat) : List Value := (List.range 32).map fun j => Value.int .u8 (byteOf 32 a j)
theorem fillB_full (a : Nat) : fillB a 32 = (bC32 a).toArray := by
  simp [fillB, bC32]

theorem byte_at (a q r : Nat) (hr : r < 8) (hq : q < 4) (c : Int) (hc : c = ((256 ^ r : Nat) : Int)) : limb a q / c % 256 = byteOf 32 a (31 - (8 * q + r)) := by
  subst hc
  rw [show 31 - (8 * q + r) = 32 - 1 - (8 * q + r) by omega, byteOf_rev 32 a _ (by omega)]
  unfold limb
  have e : a / 256 ^ (8 * q + r) = a / 18446744073709551616 ^ q / 256 ^ r := by
    rw [Nat.div_div_eq_div_mul, show (18446744073709551616 : Nat) = 256 ^ 8 by decide, ← Nat.pow_mul, ← Nat.pow_add]
  rw [e]
  generalize a / 18446744073709551616 ^ q = m
  have h8 : (18446744073709551616 : Nat) = 256 ^ r * (256 * 256 ^ (7 - r)) := by
    rw [show (18446744073709551616 : Nat) = 256 ^ 8 by decide, ← Nat.pow_succ', ← Nat.pow_add]
    congr 1; omega
  rw [← Int.natCast_ediv, h8, Nat.mod_mul_right_div_self]
  have : (m / 256 ^ r % (256 * 256 ^ (7 - r))) % 256 = m / 256 ^ r % 256 := Nat.mod_mul_right_mod _ _ _
  omega
theorem byte_at0 (a q : Nat) (hq : q < 4) : limb a q % 256 = byteOf 32 a (31 - 8 * q) := by
  have := byte_at a q 0 (by decide) hq 1 (by decide)
  simpa using this
set_option maxRecDepth 100000 in
set_option maxHeartbeats 8000000 in
theorem bytes_calls (a : Nat) (w : World) :
    Calls Try.prog 23 #[wV a] w fun e w' => e = .returned (.slice (some ⟨w.heap.size + 1, 0, none⟩) 32 32) ∧ w'.heap[w.heap.size + 1]? = some (.cells (bC32 a).toArray 5 (0, 0)) ∧ Below w.heap.size w w' := by
  have hmk : ∀ w, (Instr.makeSlice 42 (.int .i64 32) (.int .i64 32)).run Try.prog w = .ok (.slice (some ⟨w.heap.size, 0, none⟩) 32 32) (w.alloc (.cells (List.replicate 32 (Value.int .u8 0)).toArray 5)) := fun _ => by kernel_rfl
  rw [← fillB_zero a] at hmk
  simp only [wV]
  go_enter Try.func23, Try.ntmps23
  go_wp2
  clear hmk
  go_loopw [6] (fun i wr => ∃ k : Nat, k ≤ 32 ∧ i = .int .i64 k ∧ wr.heap[w.heap.size]? = some (.cells #[.int .u64 (limb a 0), .int .u64 (limb a 1), .int .u64 (limb a 2), .int .u64 (limb a 3)] 36 (0, 0)) ∧ wr.heap[w.heap.size + 1]? = some (.cells (fillB a k) 5 (0, 0)) ∧ Below w.heap.size w wr) (fun i _ => 32 - (intOf i).toNat)
  case atStart => exact ⟨0, by omega, rfl, at_old (at_new _ _ rfl) _, at_new _ _ (by simp), below_a (below_a (Below.refl _ _) (by simp) _) (by simp) _⟩
  case round =>
    obtain ⟨k, hk, rfl, hR, hO, hB⟩ := hrel
    have hsz := at_lt hO
    have HR := Lib.hid hR
    have HO := Lib.hid hO
    have HB := Lib.hid hB
    clear hR hO hB
    have hk' : k = 0 ∨ k = 1 ∨ k = 2 ∨ k = 3 ∨ k = 4 ∨ k = 5 ∨ k = 6 ∨ k = 7 ∨ k = 8 ∨ k = 9 ∨ k = 10 ∨ k = 11 ∨ k = 12 ∨ k = 13 ∨ k = 14 ∨ k = 15 ∨ k = 16 ∨ k = 17 ∨ k = 18 ∨ k = 19 ∨ k = 20 ∨ k = 21 ∨ k = 22 ∨ k = 23 ∨ k = 24 ∨ k = 25 ∨ k = 26 ∨ k = 27 ∨ k = 28 ∨ k = 29 ∨ k = 30 ∨ k = 31 ∨ k = 32 := by omega
    clear hk
    rcases hk' with rfl | rfl | rfl | rfl | rfl | rfl | rfl | rfl | rfl | rfl | rfl | rfl | rfl | rfl | rfl | rfl | rfl | rfl | rfl | rfl | rfl | rfl | rfl | rfl | rfl | rfl | rfl | rfl | rfl | rfl | rfl | rfl | rfl
    · have c2 : wr.cell? ⟨w.heap.size, 0, none⟩ = some (.int .u64 (limb a 0)) := cell_in HR.out 0 rfl
      have c3 : wr.cell? ⟨w.heap.size + 1, 31, none⟩ = some (.int .u8 0) := cell_in HO.out 31 (by simp [fillB])
      have f3 : wr.frozen? ⟨w.heap.size + 1, 31, none⟩ = false := free_in HO.out 31
      have e : limb a 0 % 256 = byteOf 32 a 31 := byte_at0 a 0 (by decide)
      go_wp2
      go_roundw
      case rel =>
        refine ⟨1, by omega, rfl, heap_set_ne HR.out (by simp) _, (heap_set HO.out _).trans (by rw [fillB_next a 0 (by decide)]), HB.out.setCell (p := ⟨w.heap.size + 1, 31, none⟩) (by simp) _⟩
      case measure => simp [intOf]
    · have c2 : wr.cell? ⟨w.heap.size, 0, none⟩ = some (.int .u64 (limb a 0)) := cell_in HR.out 0 rfl
      have c3 : wr.cell? ⟨w.heap.size + 1, 30, none⟩ = some (.int .u8 0) := cell_in HO.out 30 (by simp [fillB])
      have f3 : wr.frozen? ⟨w.heap.size + 1, 30, none⟩ = false := free_in HO.out 30
      have e : limb a 0 / 256 % 256 = byteOf 32 a 30 := byte_at a 0 1 (by decide) (by decide) _ (by decide)
      go_wp2
      go_roundw
      case rel =>
        refine ⟨2, by omega, rfl, heap_set_ne HR.out (by simp) _, (heap_set HO.out _).trans (by rw [fillB_next a 1 (by decide)]), HB.out.setCell (p := ⟨w.heap.size + 1, 30, none⟩) (by simp) _⟩
      case measure => simp [intOf]
    · have c2 : wr.cell? ⟨w.heap.size, 0, none⟩ = some (.int .u64 (limb a 0)) := cell_in HR.out 0 rfl
      have c3 : wr.cell? ⟨w.heap.size + 1, 29, none⟩ = some (.int .u8 0) := cell_in HO.out 29 (by simp [fillB])
      have f3 : wr.frozen? ⟨w.heap.size + 1, 29, none⟩ = false := free_in HO.out 29
      have e : limb a 0 / 65536 % 256 = byteOf 32 a 29 := byte_at a 0 2 (by decide) (by decide) _ (by decide)
      go_wp2
      go_roundw
      case rel =>
        refine ⟨3, by omega, rfl, heap_set_ne HR.out (by simp) _, (heap_set HO.out _).trans (by rw [fillB_next a 2 (by decide)]), HB.out.setCell (p := ⟨w.heap.size + 1, 29, none⟩) (by simp) _⟩
      case measure => simp [intOf]
    · have c2 : wr.cell? ⟨w.heap.size, 0, none⟩ = some (.int .u64 (limb a 0)) := cell_in HR.out 0 rfl
      have c3 : wr.cell? ⟨w.heap.size + 1, 28, none⟩ = some (.int .u8 0) := cell_in HO.out 28 (by simp [fillB])
      have f3 : wr.frozen? ⟨w.heap.size + 1, 28, none⟩ = false := free_in HO.out 28
      have e : limb a 0 / 16777216 % 256 = byteOf 32 a 28 := byte_at a 0 3 (by decide) (by decide) _ (by decide)
      go_wp2
      go_roundw
      case rel =>
        refine ⟨4, by omega, rfl, heap_set_ne HR.out (by simp) _, (heap_set HO.out _).trans (by rw [fillB_next a 3 (by decide)]), HB.out.setCell (p := ⟨w.heap.size + 1, 28, none⟩) (by simp) _⟩
      case measure => simp [intOf]
    · have c2 : wr.cell? ⟨w.heap.size, 0, none⟩ = some (.int .u64 (limb a 0)) := cell_in HR.out 0 rfl
      have c3 : wr.cell? ⟨w.heap.size + 1, 27, none⟩ = some (.int .u8 0) := cell_in HO.out 27 (by simp [fillB])
      have f3 : wr.frozen? ⟨w.heap.size + 1, 27, none⟩ = false := free_in HO.out 27
      have e : limb a 0 / 4294967296 % 256 = byteOf 32 a 27 := byte_at a 0 4 (by decide) (by decide) _ (by decide)
      go_wp2
      go_roundw
      case rel =>
        refine ⟨5, by omega, rfl, heap_set_ne HR.out (by simp) _, (heap_set HO.out _).trans (by rw [fillB_next a 4 (by decide)]), HB.out.setCell (p := ⟨w.heap.size + 1, 27, none⟩) (by simp) _⟩
      case measure => simp [intOf]
    · have c2 : wr.cell? ⟨w.heap.size, 0, none⟩ = some (.int .u64 (limb a 0)) := cell_in HR.out 0 rfl
      have c3 : wr.cell? ⟨w.heap.size + 1, 26, none⟩ = some (.int .u8 0) := cell_in HO.out 26 (by simp [fillB])
      have f3 : wr.frozen? ⟨w.heap.size + 1, 26, none⟩ = false := free_in HO.out 26
      have e : limb a 0 / 1099511627776 % 256 = byteOf 32 a 26 := byte_at a 0 5 (by decide) (by decide) _ (by decide)
      go_wp2
      go_roundw
      case rel =>
        refine ⟨6, by omega, rfl, heap_set_ne HR.out (by simp) _, (heap_set HO.out _).trans (by rw [fillB_next a 5 (by decide)]), HB.out.setCell (p := ⟨w.heap.size + 1, 26, none⟩) (by simp) _⟩
      case measure => simp [intOf]
    · have c2 : wr.cell? ⟨w.heap.size, 0, none⟩ = some (.int .u64 (limb a 0)) := cell_in HR.out 0 rfl
      have c3 : wr.cell? ⟨w.heap.size + 1, 25, none⟩ = some (.int .u8 0) := cell_in HO.out 25 (by simp [fillB])
      have f3 : wr.frozen? ⟨w.heap.size + 1, 25, none⟩ = false := free_in HO.out 25
      have e : limb a 0 / 281474976710656 % 256 = byteOf 32 a 25 := byte_at a 0 6 (by decide) (by decide) _ (by decide)
      go_wp2
      go_roundw
      case rel =>
        refine ⟨7, by omega, rfl, heap_set_ne HR.out (by simp) _, (heap_set HO.out _).trans (by rw [fillB_next a 6 (by decide)]), HB.out.setCell (p := ⟨w.heap.size + 1, 25, none⟩) (by simp) _⟩
      case measure => simp [intOf]
    · have c2 : wr.cell? ⟨w.heap.size, 0, none⟩ = some (.int .u64 (limb a 0)) := cell_in HR.out 0 rfl
      have c3 : wr.cell? ⟨w.heap.size + 1, 24, none⟩ = some (.int .u8 0) := cell_in HO.out 24 (by simp [fillB])
      have f3 : wr.frozen? ⟨w.heap.size + 1, 24, none⟩ = false := free_in HO.out 24
      have e : limb a 0 / 72057594037927936 % 256 = byteOf 32 a 24 := byte_at a 0 7 (by decide) (by decide) _ (by decide)
      go_wp2
      go_roundw
      case rel =>
        refine ⟨8, by omega, rfl, heap_set_ne HR.out (by simp) _, (heap_set HO.out _).trans (by rw [fillB_next a 7 (by decide)]), HB.out.setCell (p := ⟨w.heap.size + 1, 24, none⟩) (by simp) _⟩
      case measure => simp [intOf]
    · have c2 : wr.cell? ⟨w.heap.size, 1, none⟩ = some (.int .u64 (limb a 1)) := cell_in HR.out 1 rfl
      have c3 : wr.cell? ⟨w.heap.size + 1, 23, none⟩ = some (.int .u8 0) := cell_in HO.out 23 (by simp [fillB])
      have f3 : wr.frozen? ⟨w.heap.size + 1, 23, none⟩ = false := free_in HO.out 23
      have e : limb a 1 % 256 = byteOf 32 a 23 := byte_at0 a 1 (by decide)
      go_wp2
      go_roundw
      case rel =>
        refine ⟨9, by omega, rfl, heap_set_ne HR.out (by simp) _, (heap_set HO.out _).trans (by rw [fillB_next a 8 (by decide)]), HB.out.setCell (p := ⟨w.heap.size + 1, 23, none⟩) (by simp) _⟩
      case measure => simp [intOf]
    · have c2 : wr.cell? ⟨w.heap.size, 1, none⟩ = some (.int .u64 (limb a 1)) := cell_in HR.out 1 rfl
      have c3 : wr.cell? ⟨w.heap.size + 1, 22, none⟩ = some (.int .u8 0) := cell_in HO.out 22 (by simp [fillB])
      have f3 : wr.frozen? ⟨w.heap.size + 1, 22, none⟩ = false := free_in HO.out 22
      have e : limb a 1 / 256 % 256 = byteOf 32 a 22 := byte_at a 1 1 (by decide) (by decide) _ (by decide)
      go_wp2
      go_roundw
      case rel =>
        refine ⟨10, by omega, rfl, heap_set_ne HR.out (by simp) _, (heap_set HO.out _).trans (by rw [fillB_next a 9 (by decide)]), HB.out.setCell (p := ⟨w.heap.size + 1, 22, none⟩) (by simp) _⟩
      case measure => simp [intOf]
    · have c2 : wr.cell? ⟨w.heap.size, 1, none⟩ = some (.int .u64 (limb a 1)) := cell_in HR.out 1 rfl
      have c3 : wr.cell? ⟨w.heap.size + 1, 21, none⟩ = some (.int .u8 0) := cell_in HO.out 21 (by simp [fillB])
      have f3 : wr.frozen? ⟨w.heap.size + 1, 21, none⟩ = false := free_in HO.out 21
      have e : limb a 1 / 65536 % 256 = byteOf 32 a 21 := byte_at a 1 2 (by decide) (by decide) _ (by decide)
      go_wp2
      go_roundw
      case rel =>
        refine ⟨11, by omega, rfl, heap_set_ne HR.out (by simp) _, (heap_set HO.out _).trans (by rw [fillB_next a 10 (by decide)]), HB.out.setCell (p := ⟨w.heap.size + 1, 21, none⟩) (by simp) _⟩
      case measure => simp [intOf]
    · have c2 : wr.cell? ⟨w.heap.size, 1, none⟩ = some (.int .u64 (limb a 1)) := cell_in HR.out 1 rfl
      have c3 : wr.cell? ⟨w.heap.size + 1, 20, none⟩ = some (.int .u8 0) := cell_in HO.out 20 (by simp [fillB])
      have f3 : wr.frozen? ⟨w.heap.size + 1, 20, none⟩ = false := free_in HO.out 20
      have e : limb a 1 / 16777216 % 256 = byteOf 32 a 20 := byte_at a 1 3 (by decide) (by decide) _ (by decide)
      go_wp2
      go_roundw
      case rel =>
        refine ⟨12, by omega, rfl, heap_set_ne HR.out (by simp) _, (heap_set HO.out _).trans (by rw [fillB_next a 11 (by decide)]), HB.out.setCell (p := ⟨w.heap.size + 1, 20, none⟩) (by simp) _⟩
      case measure => simp [intOf]
    · have c2 : wr.cell? ⟨w.heap.size, 1, none⟩ = some (.int .u64 (limb a 1)) := cell_in HR.out 1 rfl
      have c3 : wr.cell? ⟨w.heap.size + 1, 19, none⟩ = some (.int .u8 0) := cell_in HO.out 19 (by simp [fillB])
      have f3 : wr.frozen? ⟨w.heap.size + 1, 19, none⟩ = false := free_in HO.out 19
      have e : limb a 1 / 4294967296 % 256 = byteOf 32 a 19 := byte_at a 1 4 (by decide) (by decide) _ (by decide)
      go_wp2
      go_roundw
      case rel =>
        refine ⟨13, by omega, rfl, heap_set_ne HR.out (by simp) _, (heap_set HO.out _).trans (by rw [fillB_next a 12 (by decide)]), HB.out.setCell (p := ⟨w.heap.size + 1, 19, none⟩) (by simp) _⟩
      case measure => simp [intOf]
    · have c2 : wr.cell? ⟨w.heap.size, 1, none⟩ = some (.int .u64 (limb a 1)) := cell_in HR.out 1 rfl
      have c3 : wr.cell? ⟨w.heap.size + 1, 18, none⟩ = some (.int .u8 0) := cell_in HO.out 18 (by simp [fillB])
      have f3 : wr.frozen? ⟨w.heap.size + 1, 18, none⟩ = false := free_in HO.out 18
      have e : limb a 1 / 1099511627776 % 256 = byteOf 32 a 18 := byte_at a 1 5 (by decide) (by decide) _ (by decide)
      go_wp2
      go_roundw
      case rel =>
        refine ⟨14, by omega, rfl, heap_set_ne HR.out (by simp) _, (heap_set HO.out _).trans (by rw [fillB_next a 13 (by decide)]), HB.out.setCell (p := ⟨w.heap.size + 1, 18, none⟩) (by simp) _⟩
      case measure => simp [intOf]
    · have c2 : wr.cell? ⟨w.heap.size, 1, none⟩ = some (.int .u64 (limb a 1)) := cell_in HR.out 1 rfl
      have c3 : wr.cell? ⟨w.heap.size + 1, 17, none⟩ = some (.int .u8 0) := cell_in HO.out 17 (by simp [fillB])
      have f3 : wr.frozen? ⟨w.heap.size + 1, 17, none⟩ = false := free_in HO.out 17
      have e : limb a 1 / 281474976710656 % 256 = byteOf 32 a 17 := byte_at a 1 6 (by decide) (by decide) _ (by decide)
      go_wp2
      go_roundw
      case rel =>
        refine ⟨15, by omega, rfl, heap_set_ne HR.out (by simp) _, (heap_set HO.out _).trans (by rw [fillB_next a 14 (by decide)]), HB.out.setCell (p := ⟨w.heap.size + 1, 17, none⟩) (by simp) _⟩
      case measure => simp [intOf]
    · have c2 : wr.cell? ⟨w.heap.size, 1, none⟩ = some (.int .u64 (limb a 1)) := cell_in HR.out 1 rfl
      have c3 : wr.cell? ⟨w.heap.size + 1, 16, none⟩ = some (.int .u8 0) := cell_in HO.out 16 (by simp [fillB])
      have f3 : wr.frozen? ⟨w.heap.size + 1, 16, none⟩ = false := free_in HO.out 16
      have e : limb a 1 / 72057594037927936 % 256 = byteOf 32 a 16 := byte_at a 1 7 (by decide) (by decide) _ (by decide)
      go_wp2
      go_roundw
      case rel =>
        refine ⟨16, by omega, rfl, heap_set_ne HR.out (by simp) _, (heap_set HO.out _).trans (by rw [fillB_next a 15 (by decide)]), HB.out.setCell (p := ⟨w.heap.size + 1, 16, none⟩) (by simp) _⟩
      case measure => simp [intOf]
    · have c2 : wr.cell? ⟨w.heap.size, 2, none⟩ = some (.int .u64 (limb a 2)) := cell_in HR.out 2 rfl
      have c3 : wr.cell? ⟨w.heap.size + 1, 15, none⟩ = some (.int .u8 0) := cell_in HO.out 15 (by simp [fillB])
      have f3 : wr.frozen? ⟨w.heap.size + 1, 15, none⟩ = false := free_in HO.out 15
      have e : limb a 2 % 256 = byteOf 32 a 15 := byte_at0 a 2 (by decide)
      go_wp2
      go_roundw
      case rel =>
        refine ⟨17, by omega, rfl, heap_set_ne HR.out (by simp) _, (heap_set HO.out _).trans (by rw [fillB_next a 16 (by decide)]), HB.out.setCell (p := ⟨w.heap.size + 1, 15, none⟩) (by simp) _⟩
      case measure => simp [intOf]
    · have c2 : wr.cell? ⟨w.heap.size, 2, none⟩ = some (.int .u64 (limb a 2)) := cell_in HR.out 2 rfl
      have c3 : wr.cell? ⟨w.heap.size + 1, 14, none⟩ = some (.int .u8 0) := cell_in HO.out 14 (by simp [fillB])
      have f3 : wr.frozen? ⟨w.heap.size + 1, 14, none⟩ = false := free_in HO.out 14
      have e : limb a 2 / 256 % 256 = byteOf 32 a 14 := byte_at a 2 1 (by decide) (by decide) _ (by decide)
      go_wp2
      go_roundw
      case rel =>
        refine ⟨18, by omega, rfl, heap_set_ne HR.out (by simp) _, (heap_set HO.out _).trans (by rw [fillB_next a 17 (by decide)]), HB.out.setCell (p := ⟨w.heap.size + 1, 14, none⟩) (by simp) _⟩
      case measure => simp [intOf]
    · have c2 : wr.cell? ⟨w.heap.size, 2, none⟩ = some (.int .u64 (limb a 2)) := cell_in HR.out 2 rfl
      have c3 : wr.cell? ⟨w.heap.size + 1, 13, none⟩ = some (.int .u8 0) := cell_in HO.out 13 (by simp [fillB])
      have f3 : wr.frozen? ⟨w.heap.size + 1, 13, none⟩ = false := free_in HO.out 13
      have e : limb a 2 / 65536 % 256 = byteOf 32 a 13 := byte_at a 2 2 (by decide) (by decide) _ (by decide)
      go_wp2
      go_roundw
      case rel =>
        refine ⟨19, by omega, rfl, heap_set_ne HR.out (by simp) _, (heap_set HO.out _).trans (by rw [fillB_next a 18 (by decide)]), HB.out.setCell (p := ⟨w.heap.size + 1, 13, none⟩) (by simp) _⟩
      case measure => simp [intOf]
    · have c2 : wr.cell? ⟨w.heap.size, 2, none⟩ = some (.int .u64 (limb a 2)) := cell_in HR.out 2 rfl
      have c3 : wr.cell? ⟨w.heap.size + 1, 12, none⟩ = some (.int .u8 0) := cell_in HO.out 12 (by simp [fillB])
      have f3 : wr.frozen? ⟨w.heap.size + 1, 12, none⟩ = false := free_in HO.out 12
      have e : limb a 2 / 16777216 % 256 = byteOf 32 a 12 := byte_at a 2 3 (by decide) (by decide) _ (by decide)
      go_wp2
      go_roundw
      case rel =>
        refine ⟨20, by omega, rfl, heap_set_ne HR.out (by simp) _, (heap_set HO.out _).trans (by rw [fillB_next a 19 (by decide)]), HB.out.setCell (p := ⟨w.heap.size + 1, 12, none⟩) (by simp) _⟩
      case measure => simp [intOf]
    · have c2 : wr.cell? ⟨w.heap.size, 2, none⟩ = some (.int .u64 (limb a 2)) := cell_in HR.out 2 rfl
      have c3 : wr.cell? ⟨w.heap.size + 1, 11, none⟩ = some (.int .u8 0) := cell_in HO.out 11 (by simp [fillB])
      have f3 : wr.frozen? ⟨w.heap.size + 1, 11, none⟩ = false := free_in HO.out 11
      have e : limb a 2 / 4294967296 % 256 = byteOf 32 a 11 := byte_at a 2 4 (by decide) (by decide) _ (by decide)
      go_wp2
      go_roundw
      case rel =>
        refine ⟨21, by omega, rfl, heap_set_ne HR.out (by simp) _, (heap_set HO.out _).trans (by rw [fillB_next a 20 (by decide)]), HB.out.setCell (p := ⟨w.heap.size + 1, 11, none⟩) (by simp) _⟩
      case measure => simp [intOf]
    · have c2 : wr.cell? ⟨w.heap.size, 2, none⟩ = some (.int .u64 (limb a 2)) := cell_in HR.out 2 rfl
      have c3 : wr.cell? ⟨w.heap.size + 1, 10, none⟩ = some (.int .u8 0) := cell_in HO.out 10 (by simp [fillB])
      have f3 : wr.frozen? ⟨w.heap.size + 1, 10, none⟩ = false := free_in HO.out 10
      have e : limb a 2 / 1099511627776 % 256 = byteOf 32 a 10 := byte_at a 2 5 (by decide) (by decide) _ (by decide)
      go_wp2
      go_roundw
      case rel =>
        refine ⟨22, by omega, rfl, heap_set_ne HR.out (by simp) _, (heap_set HO.out _).trans (by rw [fillB_next a 21 (by decide)]), HB.out.setCell (p := ⟨w.heap.size + 1, 10, none⟩) (by simp) _⟩
      case measure => simp [intOf]
    · have c2 : wr.cell? ⟨w.heap.size, 2, none⟩ = some (.int .u64 (limb a 2)) := cell_in HR.out 2 rfl
      have c3 : wr.cell? ⟨w.heap.size + 1, 9, none⟩ = some (.int .u8 0) := cell_in HO.out 9 (by simp [fillB])
      have f3 : wr.frozen? ⟨w.heap.size + 1, 9, none⟩ = false := free_in HO.out 9
      have e : limb a 2 / 281474976710656 % 256 = byteOf 32 a 9 := byte_at a 2 6 (by decide) (by decide) _ (by decide)
      go_wp2
      go_roundw
      case rel =>
        refine ⟨23, by omega, rfl, heap_set_ne HR.out (by simp) _, (heap_set HO.out _).trans (by rw [fillB_next a 22 (by decide)]), HB.out.setCell (p := ⟨w.heap.size + 1, 9, none⟩) (by simp) _⟩
      case measure => simp [intOf]
    · have c2 : wr.cell? ⟨w.heap.size, 2, none⟩ = some (.int .u64 (limb a 2)) := cell_in HR.out 2 rfl
      have c3 : wr.cell? ⟨w.heap.size + 1, 8, none⟩ = some (.int .u8 0) := cell_in HO.out 8 (by simp [fillB])
      have f3 : wr.frozen? ⟨w.heap.size + 1, 8, none⟩ = false := free_in HO.out 8
      have e : limb a 2 / 72057594037927936 % 256 = byteOf 32 a 8 := byte_at a 2 7 (by decide) (by decide) _ (by decide)
      go_wp2
      go_roundw
      case rel =>
        refine ⟨24, by omega, rfl, heap_set_ne HR.out (by simp) _, (heap_set HO.out _).trans (by rw [fillB_next a 23 (by decide)]), HB.out.setCell (p := ⟨w.heap.size + 1, 8, none⟩) (by simp) _⟩
      case measure => simp [intOf]
    · have c2 : wr.cell? ⟨w.heap.size, 3, none⟩ = some (.int .u64 (limb a 3)) := cell_in HR.out 3 rfl
      have c3 : wr.cell? ⟨w.heap.size + 1, 7, none⟩ = some (.int .u8 0) := cell_in HO.out 7 (by simp [fillB])
      have f3 : wr.frozen? ⟨w.heap.size + 1, 7, none⟩ = false := free_in HO.out 7
      have e : limb a 3 % 256 = byteOf 32 a 7 := byte_at0 a 3 (by decide)
      go_wp2
      go_roundw
      case rel =>
        refine ⟨25, by omega, rfl, heap_set_ne HR.out (by simp) _, (heap_set HO.out _).trans (by rw [fillB_next a 24 (by decide)]), HB.out.setCell (p := ⟨w.heap.size + 1, 7, none⟩) (by simp) _⟩
      case measure => simp [intOf]
    · have c2 : wr.cell? ⟨w.heap.size, 3, none⟩ = some (.int .u64 (limb a 3)) := cell_in HR.out 3 rfl
      have c3 : wr.cell? ⟨w.heap.size + 1, 6, none⟩ = some (.int .u8 0) := cell_in HO.out 6 (by simp [fillB])
      have f3 : wr.frozen? ⟨w.heap.size + 1, 6, none⟩ = false := free_in HO.out 6
      have e : limb a 3 / 256 % 256 = byteOf 32 a 6 := byte_at a 3 1 (by decide) (by decide) _ (by decide)
      go_wp2
      go_roundw
      case rel =>
        refine ⟨26, by omega, rfl, heap_set_ne HR.out (by simp) _, (heap_set HO.out _).trans (by rw [fillB_next a 25 (by decide)]), HB.out.setCell (p := ⟨w.heap.size + 1, 6, none⟩) (by simp) _⟩
      case measure => simp [intOf]
    · have c2 : wr.cell? ⟨w.heap.size, 3, none⟩ = some (.int .u64 (limb a 3)) := cell_in HR.out 3 rfl
      have c3 : wr.cell? ⟨w.heap.size + 1, 5, none⟩ = some (.int .u8 0) := cell_in HO.out 5 (by simp [fillB])
      have f3 : wr.frozen? ⟨w.heap.size + 1, 5, none⟩ = false := free_in HO.out 5
      have e : limb a 3 / 65536 % 256 = byteOf 32 a 5 := byte_at a 3 2 (by decide) (by decide) _ (by decide)
      go_wp2
      go_roundw
      case rel =>
        refine ⟨27, by omega, rfl, heap_set_ne HR.out (by simp) _, (heap_set HO.out _).trans (by rw [fillB_next a 26 (by decide)]), HB.out.setCell (p := ⟨w.heap.size + 1, 5, none⟩) (by simp) _⟩
      case measure => simp [intOf]
    · have c2 : wr.cell? ⟨w.heap.size, 3, none⟩ = some (.int .u64 (limb a 3)) := cell_in HR.out 3 rfl
      have c3 : wr.cell? ⟨w.heap.size + 1, 4, none⟩ = some (.int .u8 0) := cell_in HO.out 4 (by simp [fillB])
      have f3 : wr.frozen? ⟨w.heap.size + 1, 4, none⟩ = false := free_in HO.out 4
      have e : limb a 3 / 16777216 % 256 = byteOf 32 a 4 := byte_at a 3 3 (by decide) (by decide) _ (by decide)
      go_wp2
      go_roundw
      case rel =>
        refine ⟨28, by omega, rfl, heap_set_ne HR.out (by simp) _, (heap_set HO.out _).trans (by rw [fillB_next a 27 (by decide)]), HB.out.setCell (p := ⟨w.heap.size + 1, 4, none⟩) (by simp) _⟩
      case measure => simp [intOf]
    · have c2 : wr.cell? ⟨w.heap.size, 3, none⟩ = some (.int .u64 (limb a 3)) := cell_in HR.out 3 rfl
      have c3 : wr.cell? ⟨w.heap.size + 1, 3, none⟩ = some (.int .u8 0) := cell_in HO.out 3 (by simp [fillB])
      have f3 : wr.frozen? ⟨w.heap.size + 1, 3, none⟩ = false := free_in HO.out 3
      have e : limb a 3 / 4294967296 % 256 = byteOf 32 a 3 := byte_at a 3 4 (by decide) (by decide) _ (by decide)
      go_wp2
      go_roundw
      case rel =>
        refine ⟨29, by omega, rfl, heap_set_ne HR.out (by simp) _, (heap_set HO.out _).trans (by rw [fillB_next a 28 (by decide)]), HB.out.setCell (p := ⟨w.heap.size + 1, 3, none⟩) (by simp) _⟩
      case measure => simp [intOf]
    · have c2 : wr.cell? ⟨w.heap.size, 3, none⟩ = some (.int .u64 (limb a 3)) := cell_in HR.out 3 rfl
      have c3 : wr.cell? ⟨w.heap.size + 1, 2, none⟩ = some (.int .u8 0) := cell_in HO.out 2 (by simp [fillB])
      have f3 : wr.frozen? ⟨w.heap.size + 1, 2, none⟩ = false := free_in HO.out 2
      have e : limb a 3 / 1099511627776 % 256 = byteOf 32 a 2 := byte_at a 3 5 (by decide) (by decide) _ (by decide)
      go_wp2
      go_roundw
      case rel =>
        refine ⟨30, by omega, rfl, heap_set_ne HR.out (by simp) _, (heap_set HO.out _).trans (by rw [fillB_next a 29 (by decide)]), HB.out.setCell (p := ⟨w.heap.size + 1, 2, none⟩) (by simp) _⟩
      case measure => simp [intOf]
    · have c2 : wr.cell? ⟨w.heap.size, 3, none⟩ = some (.int .u64 (limb a 3)) := cell_in HR.out 3 rfl
      have c3 : wr.cell? ⟨w.heap.size + 1, 1, none⟩ = some (.int .u8 0) := cell_in HO.out 1 (by simp [fillB])
      have f3 : wr.frozen? ⟨w.heap.size + 1, 1, none⟩ = false := free_in HO.out 1
      have e : limb a 3 / 281474976710656 % 256 = byteOf 32 a 1 := byte_at a 3 6 (by decide) (by decide) _ (by decide)
      go_wp2
      go_roundw
      case rel =>
        refine ⟨31, by omega, rfl, heap_set_ne HR.out (by simp) _, (heap_set HO.out _).trans (by rw [fillB_next a 30 (by decide)]), HB.out.setCell (p := ⟨w.heap.size + 1, 1, none⟩) (by simp) _⟩
      case measure => simp [intOf]
    · have c2 : wr.cell? ⟨w.heap.size, 3, none⟩ = some (.int .u64 (limb a 3)) := cell_in HR.out 3 rfl
      have c3 : wr.cell? ⟨w.heap.size + 1, 0, none⟩ = some (.int .u8 0) := cell_in HO.out 0 (by simp [fillB])
      have f3 : wr.frozen? ⟨w.heap.size + 1, 0, none⟩ = false := free_in HO.out 0
      have e : limb a 3 / 72057594037927936 % 256 = byteOf 32 a 0 := byte_at a 3 7 (by decide) (by decide) _ (by decide)
      go_wp2
      go_roundw
      case rel =>
        refine ⟨32, by omega, rfl, heap_set_ne HR.out (by simp) _, (heap_set HO.out _).trans (by rw [fillB_next a 31 (by decide)]), HB.out.setCell (p := ⟨w.heap.size + 1, 0, none⟩) (by simp) _⟩
      case measure => simp [intOf]
    · go_wp2
      go_ret
      exact ⟨rfl, by rw [← fillB_full]; exact HO.out, HB.out⟩
end Go.Proofs.Ytbkhldaomalmoaa
