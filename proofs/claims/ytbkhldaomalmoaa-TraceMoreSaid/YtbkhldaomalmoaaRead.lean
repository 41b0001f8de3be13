/- word.Read at twenty bytes: the number. (Printed by wip/tpl/gen_read2.py.) -/
import Derived.Test.YtbkhldaomalmoaaReadMath
namespace Go.Proofs.Ytbkhldaomalmoaa
open Go.RowKit
attribute [local go_sem] wV
set_option maxHeartbeats 8000000 in
set_option maxRecDepth 100000 in
theorem read20 (v : Nat) (hv : v < 256 ^ 20) (b cap : Nat) (w : World) (h : ∀ j, j < 20 → w.cell? ⟨b, j, none⟩ = some (.int .u8 (byteOf 20 v j))) :
    Calls Try.prog 41 #[.slice (some ⟨b, 0, none⟩) 20 cap] w fun e w' => e = .returned (wV v) ∧ Below w.heap.size w w' := by
  have hb : b < w.heap.size := World.block_lt_of_cell? w _ (h 0 (by decide))
  have hfin := Lib.hid (cwC_full v 20 hv)
  have H := Lib.hid h
  clear h hv
  go_enter Try.func41, Try.ntmps41
  go_wp2
  go_loopw [13] (fun i wr => ∃ k : Nat, k ≤ 20 ∧ i = .int .i64 k ∧ wr.heap[w.heap.size]? = some (.cells #[.int .u64 0, .int .u64 0, .int .u64 0, .int .u64 0] 36 (0, 0)) ∧ wr.heap[w.heap.size + 1]? = some (.cells (cwC v k) 36 (0, 0)) ∧ Below w.heap.size w wr) (fun i _ => 20 - (intOf i).toNat)
  case atStart =>
    refine ⟨0, by omega, rfl, ?_, ?_, ?_⟩
    · exact at_old (at_new _ _ rfl) _
    · rw [cwC_zero]; exact at_new _ _ (by simp)
    · exact below_a (below_a (Below.refl _ _) (by simp) _) (by simp) _
  case round =>
    obtain ⟨k, hk, rfl, hR, hO, hB⟩ := hrel
    have hsz : w.heap.size + 1 < wr.heap.size := by
      rcases Nat.lt_or_ge (w.heap.size + 1) wr.heap.size with h | h
      · exact h
      · rw [Array.getElem?_eq_none h] at hO; cases hO
    have hk' : k = 0 ∨ k = 1 ∨ k = 2 ∨ k = 3 ∨ k = 4 ∨ k = 5 ∨ k = 6 ∨ k = 7 ∨ k = 8 ∨ k = 9 ∨ k = 10 ∨ k = 11 ∨ k = 12 ∨ k = 13 ∨ k = 14 ∨ k = 15 ∨ k = 16 ∨ k = 17 ∨ k = 18 ∨ k = 19 ∨ k = 20 := by omega
    have HR := Lib.hid hR
    have HO := Lib.hid hO
    have HB := Lib.hid hB
    clear hR hO hB hk
    rcases hk' with rfl | rfl | rfl | rfl | rfl | rfl | rfl | rfl | rfl | rfl | rfl | rfl | rfl | rfl | rfl | rfl | rfl | rfl | rfl | rfl | rfl
    · have c := (HB.out.cell (p := ⟨b, 19, none⟩) hb).trans (H.out 19 (by decide))
      have c2 : wr.cell? ⟨w.heap.size + 1, 0, none⟩ = some (.int .u64 (cw v 0 0)) := cell_in HO.out 0 rfl
      have f2 : wr.frozen? ⟨w.heap.size + 1, 0, none⟩ = false := free_in HO.out 0
      have e : bits BinOp.or IntKind.u64 (cw v 0 0) (IntKind.u64.wrap (IntKind.u64.wrap (byteOf 20 v 19))) = cw v 1 0 := cw_step0 20 v 0 (by decide)
      go_wp2
      go_region
      go_wp2
      go_roundw
      case rel =>
        refine ⟨1, by omega, rfl, ?_, ?_, ?_⟩
        · exact (Below.heap_setCell _ _ _ _ (by simp)).trans HR.out
        · exact (heap_set HO.out _).trans (by rw [cwC_next v 0 0 (by decide) (by decide)])
        · exact (HB.out.setCell (p := ⟨w.heap.size + 1, 0, none⟩) (by simp) _).drew
      case measure => simp [intOf]
    · have c := (HB.out.cell (p := ⟨b, 18, none⟩) hb).trans (H.out 18 (by decide))
      have c2 : wr.cell? ⟨w.heap.size + 1, 0, none⟩ = some (.int .u64 (cw v 1 0)) := cell_in HO.out 0 rfl
      have f2 : wr.frozen? ⟨w.heap.size + 1, 0, none⟩ = false := free_in HO.out 0
      have e : bits BinOp.or IntKind.u64 (cw v 1 0) (IntKind.u64.wrap (IntKind.u64.wrap (byteOf 20 v 18) * 256)) = cw v 2 0 := cw_stepc 20 v 0 1 (by decide) (by decide) _ (by decide)
      go_wp2
      go_region
      go_wp2
      go_roundw
      case rel =>
        refine ⟨2, by omega, rfl, ?_, ?_, ?_⟩
        · exact (Below.heap_setCell _ _ _ _ (by simp)).trans HR.out
        · exact (heap_set HO.out _).trans (by rw [cwC_next v 0 1 (by decide) (by decide)])
        · exact (HB.out.setCell (p := ⟨w.heap.size + 1, 0, none⟩) (by simp) _).drew
      case measure => simp [intOf]
    · have c := (HB.out.cell (p := ⟨b, 17, none⟩) hb).trans (H.out 17 (by decide))
      have c2 : wr.cell? ⟨w.heap.size + 1, 0, none⟩ = some (.int .u64 (cw v 2 0)) := cell_in HO.out 0 rfl
      have f2 : wr.frozen? ⟨w.heap.size + 1, 0, none⟩ = false := free_in HO.out 0
      have e : bits BinOp.or IntKind.u64 (cw v 2 0) (IntKind.u64.wrap (IntKind.u64.wrap (byteOf 20 v 17) * 65536)) = cw v 3 0 := cw_stepc 20 v 0 2 (by decide) (by decide) _ (by decide)
      go_wp2
      go_region
      go_wp2
      go_roundw
      case rel =>
        refine ⟨3, by omega, rfl, ?_, ?_, ?_⟩
        · exact (Below.heap_setCell _ _ _ _ (by simp)).trans HR.out
        · exact (heap_set HO.out _).trans (by rw [cwC_next v 0 2 (by decide) (by decide)])
        · exact (HB.out.setCell (p := ⟨w.heap.size + 1, 0, none⟩) (by simp) _).drew
      case measure => simp [intOf]
    · have c := (HB.out.cell (p := ⟨b, 16, none⟩) hb).trans (H.out 16 (by decide))
      have c2 : wr.cell? ⟨w.heap.size + 1, 0, none⟩ = some (.int .u64 (cw v 3 0)) := cell_in HO.out 0 rfl
      have f2 : wr.frozen? ⟨w.heap.size + 1, 0, none⟩ = false := free_in HO.out 0
      have e : bits BinOp.or IntKind.u64 (cw v 3 0) (IntKind.u64.wrap (IntKind.u64.wrap (byteOf 20 v 16) * 16777216)) = cw v 4 0 := cw_stepc 20 v 0 3 (by decide) (by decide) _ (by decide)
      go_wp2
      go_region
      go_wp2
      go_roundw
      case rel =>
        refine ⟨4, by omega, rfl, ?_, ?_, ?_⟩
        · exact (Below.heap_setCell _ _ _ _ (by simp)).trans HR.out
        · exact (heap_set HO.out _).trans (by rw [cwC_next v 0 3 (by decide) (by decide)])
        · exact (HB.out.setCell (p := ⟨w.heap.size + 1, 0, none⟩) (by simp) _).drew
      case measure => simp [intOf]
    · have c := (HB.out.cell (p := ⟨b, 15, none⟩) hb).trans (H.out 15 (by decide))
      have c2 : wr.cell? ⟨w.heap.size + 1, 0, none⟩ = some (.int .u64 (cw v 4 0)) := cell_in HO.out 0 rfl
      have f2 : wr.frozen? ⟨w.heap.size + 1, 0, none⟩ = false := free_in HO.out 0
      have e : bits BinOp.or IntKind.u64 (cw v 4 0) (IntKind.u64.wrap (IntKind.u64.wrap (byteOf 20 v 15) * 4294967296)) = cw v 5 0 := cw_stepc 20 v 0 4 (by decide) (by decide) _ (by decide)
      go_wp2
      go_region
      go_wp2
      go_roundw
      case rel =>
        refine ⟨5, by omega, rfl, ?_, ?_, ?_⟩
        · exact (Below.heap_setCell _ _ _ _ (by simp)).trans HR.out
        · exact (heap_set HO.out _).trans (by rw [cwC_next v 0 4 (by decide) (by decide)])
        · exact (HB.out.setCell (p := ⟨w.heap.size + 1, 0, none⟩) (by simp) _).drew
      case measure => simp [intOf]
    · have c := (HB.out.cell (p := ⟨b, 14, none⟩) hb).trans (H.out 14 (by decide))
      have c2 : wr.cell? ⟨w.heap.size + 1, 0, none⟩ = some (.int .u64 (cw v 5 0)) := cell_in HO.out 0 rfl
      have f2 : wr.frozen? ⟨w.heap.size + 1, 0, none⟩ = false := free_in HO.out 0
      have e : bits BinOp.or IntKind.u64 (cw v 5 0) (IntKind.u64.wrap (IntKind.u64.wrap (byteOf 20 v 14) * 1099511627776)) = cw v 6 0 := cw_stepc 20 v 0 5 (by decide) (by decide) _ (by decide)
      go_wp2
      go_region
      go_wp2
      go_roundw
      case rel =>
        refine ⟨6, by omega, rfl, ?_, ?_, ?_⟩
        · exact (Below.heap_setCell _ _ _ _ (by simp)).trans HR.out
        · exact (heap_set HO.out _).trans (by rw [cwC_next v 0 5 (by decide) (by decide)])
        · exact (HB.out.setCell (p := ⟨w.heap.size + 1, 0, none⟩) (by simp) _).drew
      case measure => simp [intOf]
    · have c := (HB.out.cell (p := ⟨b, 13, none⟩) hb).trans (H.out 13 (by decide))
      have c2 : wr.cell? ⟨w.heap.size + 1, 0, none⟩ = some (.int .u64 (cw v 6 0)) := cell_in HO.out 0 rfl
      have f2 : wr.frozen? ⟨w.heap.size + 1, 0, none⟩ = false := free_in HO.out 0
      have e : bits BinOp.or IntKind.u64 (cw v 6 0) (IntKind.u64.wrap (IntKind.u64.wrap (byteOf 20 v 13) * 281474976710656)) = cw v 7 0 := cw_stepc 20 v 0 6 (by decide) (by decide) _ (by decide)
      go_wp2
      go_region
      go_wp2
      go_roundw
      case rel =>
        refine ⟨7, by omega, rfl, ?_, ?_, ?_⟩
        · exact (Below.heap_setCell _ _ _ _ (by simp)).trans HR.out
        · exact (heap_set HO.out _).trans (by rw [cwC_next v 0 6 (by decide) (by decide)])
        · exact (HB.out.setCell (p := ⟨w.heap.size + 1, 0, none⟩) (by simp) _).drew
      case measure => simp [intOf]
    · have c := (HB.out.cell (p := ⟨b, 12, none⟩) hb).trans (H.out 12 (by decide))
      have c2 : wr.cell? ⟨w.heap.size + 1, 0, none⟩ = some (.int .u64 (cw v 7 0)) := cell_in HO.out 0 rfl
      have f2 : wr.frozen? ⟨w.heap.size + 1, 0, none⟩ = false := free_in HO.out 0
      have e : bits BinOp.or IntKind.u64 (cw v 7 0) (IntKind.u64.wrap (IntKind.u64.wrap (byteOf 20 v 12) * 72057594037927936)) = cw v 8 0 := cw_stepc 20 v 0 7 (by decide) (by decide) _ (by decide)
      go_wp2
      go_region
      go_wp2
      go_roundw
      case rel =>
        refine ⟨8, by omega, rfl, ?_, ?_, ?_⟩
        · exact (Below.heap_setCell _ _ _ _ (by simp)).trans HR.out
        · exact (heap_set HO.out _).trans (by rw [cwC_next v 0 7 (by decide) (by decide)])
        · exact (HB.out.setCell (p := ⟨w.heap.size + 1, 0, none⟩) (by simp) _).drew
      case measure => simp [intOf]
    · have c := (HB.out.cell (p := ⟨b, 11, none⟩) hb).trans (H.out 11 (by decide))
      have c2 : wr.cell? ⟨w.heap.size + 1, 1, none⟩ = some (.int .u64 (cw v 8 1)) := cell_in HO.out 1 rfl
      have f2 : wr.frozen? ⟨w.heap.size + 1, 1, none⟩ = false := free_in HO.out 1
      have e : bits BinOp.or IntKind.u64 (cw v 8 1) (IntKind.u64.wrap (IntKind.u64.wrap (byteOf 20 v 11))) = cw v 9 1 := cw_step0 20 v 1 (by decide)
      go_wp2
      go_region
      go_wp2
      go_roundw
      case rel =>
        refine ⟨9, by omega, rfl, ?_, ?_, ?_⟩
        · exact (Below.heap_setCell _ _ _ _ (by simp)).trans HR.out
        · exact (heap_set HO.out _).trans (by rw [cwC_next v 1 0 (by decide) (by decide)])
        · exact (HB.out.setCell (p := ⟨w.heap.size + 1, 1, none⟩) (by simp) _).drew
      case measure => simp [intOf]
    · have c := (HB.out.cell (p := ⟨b, 10, none⟩) hb).trans (H.out 10 (by decide))
      have c2 : wr.cell? ⟨w.heap.size + 1, 1, none⟩ = some (.int .u64 (cw v 9 1)) := cell_in HO.out 1 rfl
      have f2 : wr.frozen? ⟨w.heap.size + 1, 1, none⟩ = false := free_in HO.out 1
      have e : bits BinOp.or IntKind.u64 (cw v 9 1) (IntKind.u64.wrap (IntKind.u64.wrap (byteOf 20 v 10) * 256)) = cw v 10 1 := cw_stepc 20 v 1 1 (by decide) (by decide) _ (by decide)
      go_wp2
      go_region
      go_wp2
      go_roundw
      case rel =>
        refine ⟨10, by omega, rfl, ?_, ?_, ?_⟩
        · exact (Below.heap_setCell _ _ _ _ (by simp)).trans HR.out
        · exact (heap_set HO.out _).trans (by rw [cwC_next v 1 1 (by decide) (by decide)])
        · exact (HB.out.setCell (p := ⟨w.heap.size + 1, 1, none⟩) (by simp) _).drew
      case measure => simp [intOf]
    · have c := (HB.out.cell (p := ⟨b, 9, none⟩) hb).trans (H.out 9 (by decide))
      have c2 : wr.cell? ⟨w.heap.size + 1, 1, none⟩ = some (.int .u64 (cw v 10 1)) := cell_in HO.out 1 rfl
      have f2 : wr.frozen? ⟨w.heap.size + 1, 1, none⟩ = false := free_in HO.out 1
      have e : bits BinOp.or IntKind.u64 (cw v 10 1) (IntKind.u64.wrap (IntKind.u64.wrap (byteOf 20 v 9) * 65536)) = cw v 11 1 := cw_stepc 20 v 1 2 (by decide) (by decide) _ (by decide)
      go_wp2
      go_region
      go_wp2
      go_roundw
      case rel =>
        refine ⟨11, by omega, rfl, ?_, ?_, ?_⟩
        · exact (Below.heap_setCell _ _ _ _ (by simp)).trans HR.out
        · exact (heap_set HO.out _).trans (by rw [cwC_next v 1 2 (by decide) (by decide)])
        · exact (HB.out.setCell (p := ⟨w.heap.size + 1, 1, none⟩) (by simp) _).drew
      case measure => simp [intOf]
    · have c := (HB.out.cell (p := ⟨b, 8, none⟩) hb).trans (H.out 8 (by decide))
      have c2 : wr.cell? ⟨w.heap.size + 1, 1, none⟩ = some (.int .u64 (cw v 11 1)) := cell_in HO.out 1 rfl
      have f2 : wr.frozen? ⟨w.heap.size + 1, 1, none⟩ = false := free_in HO.out 1
      have e : bits BinOp.or IntKind.u64 (cw v 11 1) (IntKind.u64.wrap (IntKind.u64.wrap (byteOf 20 v 8) * 16777216)) = cw v 12 1 := cw_stepc 20 v 1 3 (by decide) (by decide) _ (by decide)
      go_wp2
      go_region
      go_wp2
      go_roundw
      case rel =>
        refine ⟨12, by omega, rfl, ?_, ?_, ?_⟩
        · exact (Below.heap_setCell _ _ _ _ (by simp)).trans HR.out
        · exact (heap_set HO.out _).trans (by rw [cwC_next v 1 3 (by decide) (by decide)])
        · exact (HB.out.setCell (p := ⟨w.heap.size + 1, 1, none⟩) (by simp) _).drew
      case measure => simp [intOf]
    · have c := (HB.out.cell (p := ⟨b, 7, none⟩) hb).trans (H.out 7 (by decide))
      have c2 : wr.cell? ⟨w.heap.size + 1, 1, none⟩ = some (.int .u64 (cw v 12 1)) := cell_in HO.out 1 rfl
      have f2 : wr.frozen? ⟨w.heap.size + 1, 1, none⟩ = false := free_in HO.out 1
      have e : bits BinOp.or IntKind.u64 (cw v 12 1) (IntKind.u64.wrap (IntKind.u64.wrap (byteOf 20 v 7) * 4294967296)) = cw v 13 1 := cw_stepc 20 v 1 4 (by decide) (by decide) _ (by decide)
      go_wp2
      go_region
      go_wp2
      go_roundw
      case rel =>
        refine ⟨13, by omega, rfl, ?_, ?_, ?_⟩
        · exact (Below.heap_setCell _ _ _ _ (by simp)).trans HR.out
        · exact (heap_set HO.out _).trans (by rw [cwC_next v 1 4 (by decide) (by decide)])
        · exact (HB.out.setCell (p := ⟨w.heap.size + 1, 1, none⟩) (by simp) _).drew
      case measure => simp [intOf]
    · have c := (HB.out.cell (p := ⟨b, 6, none⟩) hb).trans (H.out 6 (by decide))
      have c2 : wr.cell? ⟨w.heap.size + 1, 1, none⟩ = some (.int .u64 (cw v 13 1)) := cell_in HO.out 1 rfl
      have f2 : wr.frozen? ⟨w.heap.size + 1, 1, none⟩ = false := free_in HO.out 1
      have e : bits BinOp.or IntKind.u64 (cw v 13 1) (IntKind.u64.wrap (IntKind.u64.wrap (byteOf 20 v 6) * 1099511627776)) = cw v 14 1 := cw_stepc 20 v 1 5 (by decide) (by decide) _ (by decide)
      go_wp2
      go_region
      go_wp2
      go_roundw
      case rel =>
        refine ⟨14, by omega, rfl, ?_, ?_, ?_⟩
        · exact (Below.heap_setCell _ _ _ _ (by simp)).trans HR.out
        · exact (heap_set HO.out _).trans (by rw [cwC_next v 1 5 (by decide) (by decide)])
        · exact (HB.out.setCell (p := ⟨w.heap.size + 1, 1, none⟩) (by simp) _).drew
      case measure => simp [intOf]
    · have c := (HB.out.cell (p := ⟨b, 5, none⟩) hb).trans (H.out 5 (by decide))
      have c2 : wr.cell? ⟨w.heap.size + 1, 1, none⟩ = some (.int .u64 (cw v 14 1)) := cell_in HO.out 1 rfl
      have f2 : wr.frozen? ⟨w.heap.size + 1, 1, none⟩ = false := free_in HO.out 1
      have e : bits BinOp.or IntKind.u64 (cw v 14 1) (IntKind.u64.wrap (IntKind.u64.wrap (byteOf 20 v 5) * 281474976710656)) = cw v 15 1 := cw_stepc 20 v 1 6 (by decide) (by decide) _ (by decide)
      go_wp2
      go_region
      go_wp2
      go_roundw
      case rel =>
        refine ⟨15, by omega, rfl, ?_, ?_, ?_⟩
        · exact (Below.heap_setCell _ _ _ _ (by simp)).trans HR.out
        · exact (heap_set HO.out _).trans (by rw [cwC_next v 1 6 (by decide) (by decide)])
        · exact (HB.out.setCell (p := ⟨w.heap.size + 1, 1, none⟩) (by simp) _).drew
      case measure => simp [intOf]
    · have c := (HB.out.cell (p := ⟨b, 4, none⟩) hb).trans (H.out 4 (by decide))
      have c2 : wr.cell? ⟨w.heap.size + 1, 1, none⟩ = some (.int .u64 (cw v 15 1)) := cell_in HO.out 1 rfl
      have f2 : wr.frozen? ⟨w.heap.size + 1, 1, none⟩ = false := free_in HO.out 1
      have e : bits BinOp.or IntKind.u64 (cw v 15 1) (IntKind.u64.wrap (IntKind.u64.wrap (byteOf 20 v 4) * 72057594037927936)) = cw v 16 1 := cw_stepc 20 v 1 7 (by decide) (by decide) _ (by decide)
      go_wp2
      go_region
      go_wp2
      go_roundw
      case rel =>
        refine ⟨16, by omega, rfl, ?_, ?_, ?_⟩
        · exact (Below.heap_setCell _ _ _ _ (by simp)).trans HR.out
        · exact (heap_set HO.out _).trans (by rw [cwC_next v 1 7 (by decide) (by decide)])
        · exact (HB.out.setCell (p := ⟨w.heap.size + 1, 1, none⟩) (by simp) _).drew
      case measure => simp [intOf]
    · have c := (HB.out.cell (p := ⟨b, 3, none⟩) hb).trans (H.out 3 (by decide))
      have c2 : wr.cell? ⟨w.heap.size + 1, 2, none⟩ = some (.int .u64 (cw v 16 2)) := cell_in HO.out 2 rfl
      have f2 : wr.frozen? ⟨w.heap.size + 1, 2, none⟩ = false := free_in HO.out 2
      have e : bits BinOp.or IntKind.u64 (cw v 16 2) (IntKind.u64.wrap (IntKind.u64.wrap (byteOf 20 v 3))) = cw v 17 2 := cw_step0 20 v 2 (by decide)
      go_wp2
      go_region
      go_wp2
      go_roundw
      case rel =>
        refine ⟨17, by omega, rfl, ?_, ?_, ?_⟩
        · exact (Below.heap_setCell _ _ _ _ (by simp)).trans HR.out
        · exact (heap_set HO.out _).trans (by rw [cwC_next v 2 0 (by decide) (by decide)])
        · exact (HB.out.setCell (p := ⟨w.heap.size + 1, 2, none⟩) (by simp) _).drew
      case measure => simp [intOf]
    · have c := (HB.out.cell (p := ⟨b, 2, none⟩) hb).trans (H.out 2 (by decide))
      have c2 : wr.cell? ⟨w.heap.size + 1, 2, none⟩ = some (.int .u64 (cw v 17 2)) := cell_in HO.out 2 rfl
      have f2 : wr.frozen? ⟨w.heap.size + 1, 2, none⟩ = false := free_in HO.out 2
      have e : bits BinOp.or IntKind.u64 (cw v 17 2) (IntKind.u64.wrap (IntKind.u64.wrap (byteOf 20 v 2) * 256)) = cw v 18 2 := cw_stepc 20 v 2 1 (by decide) (by decide) _ (by decide)
      go_wp2
      go_region
      go_wp2
      go_roundw
      case rel =>
        refine ⟨18, by omega, rfl, ?_, ?_, ?_⟩
        · exact (Below.heap_setCell _ _ _ _ (by simp)).trans HR.out
        · exact (heap_set HO.out _).trans (by rw [cwC_next v 2 1 (by decide) (by decide)])
        · exact (HB.out.setCell (p := ⟨w.heap.size + 1, 2, none⟩) (by simp) _).drew
      case measure => simp [intOf]
    · have c := (HB.out.cell (p := ⟨b, 1, none⟩) hb).trans (H.out 1 (by decide))
      have c2 : wr.cell? ⟨w.heap.size + 1, 2, none⟩ = some (.int .u64 (cw v 18 2)) := cell_in HO.out 2 rfl
      have f2 : wr.frozen? ⟨w.heap.size + 1, 2, none⟩ = false := free_in HO.out 2
      have e : bits BinOp.or IntKind.u64 (cw v 18 2) (IntKind.u64.wrap (IntKind.u64.wrap (byteOf 20 v 1) * 65536)) = cw v 19 2 := cw_stepc 20 v 2 2 (by decide) (by decide) _ (by decide)
      go_wp2
      go_region
      go_wp2
      go_roundw
      case rel =>
        refine ⟨19, by omega, rfl, ?_, ?_, ?_⟩
        · exact (Below.heap_setCell _ _ _ _ (by simp)).trans HR.out
        · exact (heap_set HO.out _).trans (by rw [cwC_next v 2 2 (by decide) (by decide)])
        · exact (HB.out.setCell (p := ⟨w.heap.size + 1, 2, none⟩) (by simp) _).drew
      case measure => simp [intOf]
    · have c := (HB.out.cell (p := ⟨b, 0, none⟩) hb).trans (H.out 0 (by decide))
      have c2 : wr.cell? ⟨w.heap.size + 1, 2, none⟩ = some (.int .u64 (cw v 19 2)) := cell_in HO.out 2 rfl
      have f2 : wr.frozen? ⟨w.heap.size + 1, 2, none⟩ = false := free_in HO.out 2
      have e : bits BinOp.or IntKind.u64 (cw v 19 2) (IntKind.u64.wrap (IntKind.u64.wrap (byteOf 20 v 0) * 16777216)) = cw v 20 2 := cw_stepc 20 v 2 3 (by decide) (by decide) _ (by decide)
      go_wp2
      go_region
      go_wp2
      go_roundw
      case rel =>
        refine ⟨20, by omega, rfl, ?_, ?_, ?_⟩
        · exact (Below.heap_setCell _ _ _ _ (by simp)).trans HR.out
        · exact (heap_set HO.out _).trans (by rw [cwC_next v 2 3 (by decide) (by decide)])
        · exact (HB.out.setCell (p := ⟨w.heap.size + 1, 2, none⟩) (by simp) _).drew
      case measure => simp [intOf]
    · have HO' := HO.out
      rw [hfin.out] at HO'
      have c0 : wr.cell? ⟨w.heap.size + 1, 0, none⟩ = some (.int .u64 (limb v 0)) := cell_in HO' 0 rfl
      have c1 : wr.cell? ⟨w.heap.size + 1, 1, none⟩ = some (.int .u64 (limb v 1)) := cell_in HO' 1 rfl
      have c2 : wr.cell? ⟨w.heap.size + 1, 2, none⟩ = some (.int .u64 (limb v 2)) := cell_in HO' 2 rfl
      have c3 : wr.cell? ⟨w.heap.size + 1, 3, none⟩ = some (.int .u64 (limb v 3)) := cell_in HO' 3 rfl
      have d0 : wr.cell? ⟨w.heap.size, 0, none⟩ = some (.int .u64 0) := cell_in HR.out 0 rfl
      have d1 : wr.cell? ⟨w.heap.size, 1, none⟩ = some (.int .u64 0) := cell_in HR.out 1 rfl
      have d2 : wr.cell? ⟨w.heap.size, 2, none⟩ = some (.int .u64 0) := cell_in HR.out 2 rfl
      have d3 : wr.cell? ⟨w.heap.size, 3, none⟩ = some (.int .u64 0) := cell_in HR.out 3 rfl
      have g0 : wr.frozen? ⟨w.heap.size, 0, none⟩ = false := free_in HR.out 0
      have g1 : wr.frozen? ⟨w.heap.size, 1, none⟩ = false := free_in HR.out 1
      have g2 : wr.frozen? ⟨w.heap.size, 2, none⟩ = false := free_in HR.out 2
      have g3 : wr.frozen? ⟨w.heap.size, 3, none⟩ = false := free_in HR.out 3
      clear HO'
      go_wp2
      have hW := heap_set (o := 3) (heap_set (o := 2) (heap_set (o := 1) (heap_set (o := 0) HR.out (.int .u64 (limb v 0))) (.int .u64 (limb v 1))) (.int .u64 (limb v 2))) (.int .u64 (limb v 3))
      have k0 := cell_in hW 0 (u := .int .u64 (limb v 0)) rfl
      have k1 := cell_in hW 1 (u := .int .u64 (limb v 1)) rfl
      have k2 := cell_in hW 2 (u := .int .u64 (limb v 2)) rfl
      have k3 := cell_in hW 3 (u := .int .u64 (limb v 3)) rfl
      refine bodyPost_ret (v := wV v) (by simp only [results, wV]; simp [Try.results41, go_sem, k0, k1, k2, k3]) rfl ⟨rfl, ?_⟩
      skip -- (by simp [results, Try.results41, go_sem, wV]) rfl ⟨rfl, ?_⟩
      have B := HB.out
      exact (((B.setCell (p := ⟨w.heap.size, 0, none⟩) (by simp) _).setCell (p := ⟨w.heap.size, 1, none⟩) (by simp) _).setCell (p := ⟨w.heap.size, 2, none⟩) (by simp) _).setCell (p := ⟨w.heap.size, 3, none⟩) (by simp) _
end Go.Proofs.Ytbkhldaomalmoaa
