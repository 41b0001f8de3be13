/- quaestorref01.Bytes. (Printed by wip/tpl/gen_bytes.py.) -/
import Derived.Test.YtbkhldaomalmoaaBytes
import Derived.Test.YtbkhldaomalmoaaRefWide
namespace Go.Proofs.Ytbkhldaomalmoaa
open Go.RowKit
attribute [local go_sem] wV
theorem bC32_len (a : Nat) : (bC32 a).length = 32 := by simp [bC32]
theorem bC32_get (a k : Nat) (h : k < 32) : (bC32 a)[k]? = some (.int .u8 (byteOf 32 a k)) := by simp [bC32, h]
theorem bC32_take_succ (a k : Nat) (h : k < 32) : (bC32 a).take k ++ [.int .u8 (byteOf 32 a k)] = (bC32 a).take (k + 1) := by
  rw [List.take_succ_eq_append_getElem (by rw [bC32_len]; exact h)]
  congr 2
  have := bC32_get a k h
  rw [List.getElem?_eq_getElem (by rw [bC32_len]; exact h)] at this
  exact (Option.some.inj this).symm
set_option maxRecDepth 100000 in
set_option maxHeartbeats 8000000 in
theorem rbytes_calls (a : Nat) (w : World) :
    Calls Try.prog 39 #[wV a] w fun e w' => ∃ v, e = .returned v ∧ w'.ownsRow (w.heap.size + 1) 5 1 v 32 (bC32 a) ∧ Below w.heap.size w w' := by
  obtain ⟨i0, hi, hz0, hz1, hz2⟩ := info_parts info_u8
  simp only [wV]
  go_enter Try.func39, Try.ntmps39
  go_wp2
  go_loopw [3, 4] (fun v i wr => ∃ k : Nat, k ≤ 32 ∧ i = .int .i64 k ∧ wr.heap[w.heap.size]? = some (.cells #[.int .u64 (limb a 0), .int .u64 (limb a 1), .int .u64 (limb a 2), .int .u64 (limb a 3)] 36 (0, 0)) ∧ wr.ownsRow (w.heap.size + 1) 5 1 v k ((bC32 a).take k) ∧ Below w.heap.size w wr) (fun _ i _ => 32 - (intOf i).toNat)
  case atStart => exact ⟨0, by omega, rfl, at_new _ _ rfl, World.ownsRow_nil _ _ _ _, below_a (Below.refl _ _) (by simp) _⟩
  case round =>
    obtain ⟨k, hk, rfl, hR, hown, hB⟩ := hrel
    have hsz := at_lt hR
    have HR := Lib.hid hR
    have HO := Lib.hid hown
    have HB := Lib.hid hB
    clear hR hown hB
    have hk' : k = 0 ∨ k = 1 ∨ k = 2 ∨ k = 3 ∨ k = 4 ∨ k = 5 ∨ k = 6 ∨ k = 7 ∨ k = 8 ∨ k = 9 ∨ k = 10 ∨ k = 11 ∨ k = 12 ∨ k = 13 ∨ k = 14 ∨ k = 15 ∨ k = 16 ∨ k = 17 ∨ k = 18 ∨ k = 19 ∨ k = 20 ∨ k = 21 ∨ k = 22 ∨ k = 23 ∨ k = 24 ∨ k = 25 ∨ k = 26 ∨ k = 27 ∨ k = 28 ∨ k = 29 ∨ k = 30 ∨ k = 31 ∨ k = 32 := by omega
    clear hk
    rcases hk' with rfl | rfl | rfl | rfl | rfl | rfl | rfl | rfl | rfl | rfl | rfl | rfl | rfl | rfl | rfl | rfl | rfl | rfl | rfl | rfl | rfl | rfl | rfl | rfl | rfl | rfl | rfl | rfl | rfl | rfl | rfl | rfl | rfl
    · have c2 : wr.cell? ⟨w.heap.size, 3, none⟩ = some (.int .u64 (limb a 3)) := cell_in HR.out 3 rfl
      have e : limb a 3 / 72057594037927936 % 256 = byteOf 32 a 0 := byte_at a 3 7 (by decide) (by decide) _ (by decide)
      go_wp2_with (at_builtin; refine wpList_append_own _ rfl _ _ 42 rfl (w.heap.size + 1) 5 i0 (.int .u8 0) 1 1 Try.underlying42 hi hz0 hz1 hz2 rfl (by decide) _ _ _ rfl (HO.out.alloc _) ⟨wr.heap.size, 0, none⟩ 1 1 [.int .u8 (byteOf 32 a 0)] rfl rfl ?c1 ?c2 ?c3 ?c4 ?c5 ?_)
      case c1 => exact cell_one_new _ _ _
      case c2 => simp [Value.oneCell']
      case c3 => unfold maxLen; omega
      case c4 => omega
      case c5 => simp; omega
      intro v' w1 hown' hgrow _
      have HO' := Lib.hid hown'
      have HG := Lib.hid hgrow
      clear hown' hgrow
      go_wp2
      go_roundw
      case rel =>
        obtain ⟨b1, b2, _⟩ := ap_step HB.out (by omega) HO.out (by omega) HG.out
        exact ⟨1, by omega, rfl, b2 _ _ (by omega) HR.out, by rw [← bC32_take_succ a 0 (by decide)]; exact HO'.out, b1⟩
      case measure => simp [intOf]
    · have c2 : wr.cell? ⟨w.heap.size, 3, none⟩ = some (.int .u64 (limb a 3)) := cell_in HR.out 3 rfl
      have e : limb a 3 / 281474976710656 % 256 = byteOf 32 a 1 := byte_at a 3 6 (by decide) (by decide) _ (by decide)
      go_wp2_with (at_builtin; refine wpList_append_own _ rfl _ _ 42 rfl (w.heap.size + 1) 5 i0 (.int .u8 0) 1 1 Try.underlying42 hi hz0 hz1 hz2 rfl (by decide) _ _ _ rfl (HO.out.alloc _) ⟨wr.heap.size, 0, none⟩ 1 1 [.int .u8 (byteOf 32 a 1)] rfl rfl ?c1 ?c2 ?c3 ?c4 ?c5 ?_)
      case c1 => exact cell_one_new _ _ _
      case c2 => simp [Value.oneCell']
      case c3 => unfold maxLen; omega
      case c4 => omega
      case c5 => simp; omega
      intro v' w1 hown' hgrow _
      have HO' := Lib.hid hown'
      have HG := Lib.hid hgrow
      clear hown' hgrow
      go_wp2
      go_roundw
      case rel =>
        obtain ⟨b1, b2, _⟩ := ap_step HB.out (by omega) HO.out (by omega) HG.out
        exact ⟨2, by omega, rfl, b2 _ _ (by omega) HR.out, by rw [← bC32_take_succ a 1 (by decide)]; exact HO'.out, b1⟩
      case measure => simp [intOf]
    · have c2 : wr.cell? ⟨w.heap.size, 3, none⟩ = some (.int .u64 (limb a 3)) := cell_in HR.out 3 rfl
      have e : limb a 3 / 1099511627776 % 256 = byteOf 32 a 2 := byte_at a 3 5 (by decide) (by decide) _ (by decide)
      go_wp2_with (at_builtin; refine wpList_append_own _ rfl _ _ 42 rfl (w.heap.size + 1) 5 i0 (.int .u8 0) 1 1 Try.underlying42 hi hz0 hz1 hz2 rfl (by decide) _ _ _ rfl (HO.out.alloc _) ⟨wr.heap.size, 0, none⟩ 1 1 [.int .u8 (byteOf 32 a 2)] rfl rfl ?c1 ?c2 ?c3 ?c4 ?c5 ?_)
      case c1 => exact cell_one_new _ _ _
      case c2 => simp [Value.oneCell']
      case c3 => unfold maxLen; omega
      case c4 => omega
      case c5 => simp; omega
      intro v' w1 hown' hgrow _
      have HO' := Lib.hid hown'
      have HG := Lib.hid hgrow
      clear hown' hgrow
      go_wp2
      go_roundw
      case rel =>
        obtain ⟨b1, b2, _⟩ := ap_step HB.out (by omega) HO.out (by omega) HG.out
        exact ⟨3, by omega, rfl, b2 _ _ (by omega) HR.out, by rw [← bC32_take_succ a 2 (by decide)]; exact HO'.out, b1⟩
      case measure => simp [intOf]
    · have c2 : wr.cell? ⟨w.heap.size, 3, none⟩ = some (.int .u64 (limb a 3)) := cell_in HR.out 3 rfl
      have e : limb a 3 / 4294967296 % 256 = byteOf 32 a 3 := byte_at a 3 4 (by decide) (by decide) _ (by decide)
      go_wp2_with (at_builtin; refine wpList_append_own _ rfl _ _ 42 rfl (w.heap.size + 1) 5 i0 (.int .u8 0) 1 1 Try.underlying42 hi hz0 hz1 hz2 rfl (by decide) _ _ _ rfl (HO.out.alloc _) ⟨wr.heap.size, 0, none⟩ 1 1 [.int .u8 (byteOf 32 a 3)] rfl rfl ?c1 ?c2 ?c3 ?c4 ?c5 ?_)
      case c1 => exact cell_one_new _ _ _
      case c2 => simp [Value.oneCell']
      case c3 => unfold maxLen; omega
      case c4 => omega
      case c5 => simp; omega
      intro v' w1 hown' hgrow _
      have HO' := Lib.hid hown'
      have HG := Lib.hid hgrow
      clear hown' hgrow
      go_wp2
      go_roundw
      case rel =>
        obtain ⟨b1, b2, _⟩ := ap_step HB.out (by omega) HO.out (by omega) HG.out
        exact ⟨4, by omega, rfl, b2 _ _ (by omega) HR.out, by rw [← bC32_take_succ a 3 (by decide)]; exact HO'.out, b1⟩
      case measure => simp [intOf]
    · have c2 : wr.cell? ⟨w.heap.size, 3, none⟩ = some (.int .u64 (limb a 3)) := cell_in HR.out 3 rfl
      have e : limb a 3 / 16777216 % 256 = byteOf 32 a 4 := byte_at a 3 3 (by decide) (by decide) _ (by decide)
      go_wp2_with (at_builtin; refine wpList_append_own _ rfl _ _ 42 rfl (w.heap.size + 1) 5 i0 (.int .u8 0) 1 1 Try.underlying42 hi hz0 hz1 hz2 rfl (by decide) _ _ _ rfl (HO.out.alloc _) ⟨wr.heap.size, 0, none⟩ 1 1 [.int .u8 (byteOf 32 a 4)] rfl rfl ?c1 ?c2 ?c3 ?c4 ?c5 ?_)
      case c1 => exact cell_one_new _ _ _
      case c2 => simp [Value.oneCell']
      case c3 => unfold maxLen; omega
      case c4 => omega
      case c5 => simp; omega
      intro v' w1 hown' hgrow _
      have HO' := Lib.hid hown'
      have HG := Lib.hid hgrow
      clear hown' hgrow
      go_wp2
      go_roundw
      case rel =>
        obtain ⟨b1, b2, _⟩ := ap_step HB.out (by omega) HO.out (by omega) HG.out
        exact ⟨5, by omega, rfl, b2 _ _ (by omega) HR.out, by rw [← bC32_take_succ a 4 (by decide)]; exact HO'.out, b1⟩
      case measure => simp [intOf]
    · have c2 : wr.cell? ⟨w.heap.size, 3, none⟩ = some (.int .u64 (limb a 3)) := cell_in HR.out 3 rfl
      have e : limb a 3 / 65536 % 256 = byteOf 32 a 5 := byte_at a 3 2 (by decide) (by decide) _ (by decide)
      go_wp2_with (at_builtin; refine wpList_append_own _ rfl _ _ 42 rfl (w.heap.size + 1) 5 i0 (.int .u8 0) 1 1 Try.underlying42 hi hz0 hz1 hz2 rfl (by decide) _ _ _ rfl (HO.out.alloc _) ⟨wr.heap.size, 0, none⟩ 1 1 [.int .u8 (byteOf 32 a 5)] rfl rfl ?c1 ?c2 ?c3 ?c4 ?c5 ?_)
      case c1 => exact cell_one_new _ _ _
      case c2 => simp [Value.oneCell']
      case c3 => unfold maxLen; omega
      case c4 => omega
      case c5 => simp; omega
      intro v' w1 hown' hgrow _
      have HO' := Lib.hid hown'
      have HG := Lib.hid hgrow
      clear hown' hgrow
      go_wp2
      go_roundw
      case rel =>
        obtain ⟨b1, b2, _⟩ := ap_step HB.out (by omega) HO.out (by omega) HG.out
        exact ⟨6, by omega, rfl, b2 _ _ (by omega) HR.out, by rw [← bC32_take_succ a 5 (by decide)]; exact HO'.out, b1⟩
      case measure => simp [intOf]
    · have c2 : wr.cell? ⟨w.heap.size, 3, none⟩ = some (.int .u64 (limb a 3)) := cell_in HR.out 3 rfl
      have e : limb a 3 / 256 % 256 = byteOf 32 a 6 := byte_at a 3 1 (by decide) (by decide) _ (by decide)
      go_wp2_with (at_builtin; refine wpList_append_own _ rfl _ _ 42 rfl (w.heap.size + 1) 5 i0 (.int .u8 0) 1 1 Try.underlying42 hi hz0 hz1 hz2 rfl (by decide) _ _ _ rfl (HO.out.alloc _) ⟨wr.heap.size, 0, none⟩ 1 1 [.int .u8 (byteOf 32 a 6)] rfl rfl ?c1 ?c2 ?c3 ?c4 ?c5 ?_)
      case c1 => exact cell_one_new _ _ _
      case c2 => simp [Value.oneCell']
      case c3 => unfold maxLen; omega
      case c4 => omega
      case c5 => simp; omega
      intro v' w1 hown' hgrow _
      have HO' := Lib.hid hown'
      have HG := Lib.hid hgrow
      clear hown' hgrow
      go_wp2
      go_roundw
      case rel =>
        obtain ⟨b1, b2, _⟩ := ap_step HB.out (by omega) HO.out (by omega) HG.out
        exact ⟨7, by omega, rfl, b2 _ _ (by omega) HR.out, by rw [← bC32_take_succ a 6 (by decide)]; exact HO'.out, b1⟩
      case measure => simp [intOf]
    · have c2 : wr.cell? ⟨w.heap.size, 3, none⟩ = some (.int .u64 (limb a 3)) := cell_in HR.out 3 rfl
      have e : limb a 3 % 256 = byteOf 32 a 7 := byte_at0 a 3 (by decide)
      go_wp2_with (at_builtin; refine wpList_append_own _ rfl _ _ 42 rfl (w.heap.size + 1) 5 i0 (.int .u8 0) 1 1 Try.underlying42 hi hz0 hz1 hz2 rfl (by decide) _ _ _ rfl (HO.out.alloc _) ⟨wr.heap.size, 0, none⟩ 1 1 [.int .u8 (byteOf 32 a 7)] rfl rfl ?c1 ?c2 ?c3 ?c4 ?c5 ?_)
      case c1 => exact cell_one_new _ _ _
      case c2 => simp [Value.oneCell']
      case c3 => unfold maxLen; omega
      case c4 => omega
      case c5 => simp; omega
      intro v' w1 hown' hgrow _
      have HO' := Lib.hid hown'
      have HG := Lib.hid hgrow
      clear hown' hgrow
      go_wp2
      go_roundw
      case rel =>
        obtain ⟨b1, b2, _⟩ := ap_step HB.out (by omega) HO.out (by omega) HG.out
        exact ⟨8, by omega, rfl, b2 _ _ (by omega) HR.out, by rw [← bC32_take_succ a 7 (by decide)]; exact HO'.out, b1⟩
      case measure => simp [intOf]
    · have c2 : wr.cell? ⟨w.heap.size, 2, none⟩ = some (.int .u64 (limb a 2)) := cell_in HR.out 2 rfl
      have e : limb a 2 / 72057594037927936 % 256 = byteOf 32 a 8 := byte_at a 2 7 (by decide) (by decide) _ (by decide)
      go_wp2_with (at_builtin; refine wpList_append_own _ rfl _ _ 42 rfl (w.heap.size + 1) 5 i0 (.int .u8 0) 1 1 Try.underlying42 hi hz0 hz1 hz2 rfl (by decide) _ _ _ rfl (HO.out.alloc _) ⟨wr.heap.size, 0, none⟩ 1 1 [.int .u8 (byteOf 32 a 8)] rfl rfl ?c1 ?c2 ?c3 ?c4 ?c5 ?_)
      case c1 => exact cell_one_new _ _ _
      case c2 => simp [Value.oneCell']
      case c3 => unfold maxLen; omega
      case c4 => omega
      case c5 => simp; omega
      intro v' w1 hown' hgrow _
      have HO' := Lib.hid hown'
      have HG := Lib.hid hgrow
      clear hown' hgrow
      go_wp2
      go_roundw
      case rel =>
        obtain ⟨b1, b2, _⟩ := ap_step HB.out (by omega) HO.out (by omega) HG.out
        exact ⟨9, by omega, rfl, b2 _ _ (by omega) HR.out, by rw [← bC32_take_succ a 8 (by decide)]; exact HO'.out, b1⟩
      case measure => simp [intOf]
    · have c2 : wr.cell? ⟨w.heap.size, 2, none⟩ = some (.int .u64 (limb a 2)) := cell_in HR.out 2 rfl
      have e : limb a 2 / 281474976710656 % 256 = byteOf 32 a 9 := byte_at a 2 6 (by decide) (by decide) _ (by decide)
      go_wp2_with (at_builtin; refine wpList_append_own _ rfl _ _ 42 rfl (w.heap.size + 1) 5 i0 (.int .u8 0) 1 1 Try.underlying42 hi hz0 hz1 hz2 rfl (by decide) _ _ _ rfl (HO.out.alloc _) ⟨wr.heap.size, 0, none⟩ 1 1 [.int .u8 (byteOf 32 a 9)] rfl rfl ?c1 ?c2 ?c3 ?c4 ?c5 ?_)
      case c1 => exact cell_one_new _ _ _
      case c2 => simp [Value.oneCell']
      case c3 => unfold maxLen; omega
      case c4 => omega
      case c5 => simp; omega
      intro v' w1 hown' hgrow _
      have HO' := Lib.hid hown'
      have HG := Lib.hid hgrow
      clear hown' hgrow
      go_wp2
      go_roundw
      case rel =>
        obtain ⟨b1, b2, _⟩ := ap_step HB.out (by omega) HO.out (by omega) HG.out
        exact ⟨10, by omega, rfl, b2 _ _ (by omega) HR.out, by rw [← bC32_take_succ a 9 (by decide)]; exact HO'.out, b1⟩
      case measure => simp [intOf]
    · have c2 : wr.cell? ⟨w.heap.size, 2, none⟩ = some (.int .u64 (limb a 2)) := cell_in HR.out 2 rfl
      have e : limb a 2 / 1099511627776 % 256 = byteOf 32 a 10 := byte_at a 2 5 (by decide) (by decide) _ (by decide)
      go_wp2_with (at_builtin; refine wpList_append_own _ rfl _ _ 42 rfl (w.heap.size + 1) 5 i0 (.int .u8 0) 1 1 Try.underlying42 hi hz0 hz1 hz2 rfl (by decide) _ _ _ rfl (HO.out.alloc _) ⟨wr.heap.size, 0, none⟩ 1 1 [.int .u8 (byteOf 32 a 10)] rfl rfl ?c1 ?c2 ?c3 ?c4 ?c5 ?_)
      case c1 => exact cell_one_new _ _ _
      case c2 => simp [Value.oneCell']
      case c3 => unfold maxLen; omega
      case c4 => omega
      case c5 => simp; omega
      intro v' w1 hown' hgrow _
      have HO' := Lib.hid hown'
      have HG := Lib.hid hgrow
      clear hown' hgrow
      go_wp2
      go_roundw
      case rel =>
        obtain ⟨b1, b2, _⟩ := ap_step HB.out (by omega) HO.out (by omega) HG.out
        exact ⟨11, by omega, rfl, b2 _ _ (by omega) HR.out, by rw [← bC32_take_succ a 10 (by decide)]; exact HO'.out, b1⟩
      case measure => simp [intOf]
    · have c2 : wr.cell? ⟨w.heap.size, 2, none⟩ = some (.int .u64 (limb a 2)) := cell_in HR.out 2 rfl
      have e : limb a 2 / 4294967296 % 256 = byteOf 32 a 11 := byte_at a 2 4 (by decide) (by decide) _ (by decide)
      go_wp2_with (at_builtin; refine wpList_append_own _ rfl _ _ 42 rfl (w.heap.size + 1) 5 i0 (.int .u8 0) 1 1 Try.underlying42 hi hz0 hz1 hz2 rfl (by decide) _ _ _ rfl (HO.out.alloc _) ⟨wr.heap.size, 0, none⟩ 1 1 [.int .u8 (byteOf 32 a 11)] rfl rfl ?c1 ?c2 ?c3 ?c4 ?c5 ?_)
      case c1 => exact cell_one_new _ _ _
      case c2 => simp [Value.oneCell']
      case c3 => unfold maxLen; omega
      case c4 => omega
      case c5 => simp; omega
      intro v' w1 hown' hgrow _
      have HO' := Lib.hid hown'
      have HG := Lib.hid hgrow
      clear hown' hgrow
      go_wp2
      go_roundw
      case rel =>
        obtain ⟨b1, b2, _⟩ := ap_step HB.out (by omega) HO.out (by omega) HG.out
        exact ⟨12, by omega, rfl, b2 _ _ (by omega) HR.out, by rw [← bC32_take_succ a 11 (by decide)]; exact HO'.out, b1⟩
      case measure => simp [intOf]
    · have c2 : wr.cell? ⟨w.heap.size, 2, none⟩ = some (.int .u64 (limb a 2)) := cell_in HR.out 2 rfl
      have e : limb a 2 / 16777216 % 256 = byteOf 32 a 12 := byte_at a 2 3 (by decide) (by decide) _ (by decide)
      go_wp2_with (at_builtin; refine wpList_append_own _ rfl _ _ 42 rfl (w.heap.size + 1) 5 i0 (.int .u8 0) 1 1 Try.underlying42 hi hz0 hz1 hz2 rfl (by decide) _ _ _ rfl (HO.out.alloc _) ⟨wr.heap.size, 0, none⟩ 1 1 [.int .u8 (byteOf 32 a 12)] rfl rfl ?c1 ?c2 ?c3 ?c4 ?c5 ?_)
      case c1 => exact cell_one_new _ _ _
      case c2 => simp [Value.oneCell']
      case c3 => unfold maxLen; omega
      case c4 => omega
      case c5 => simp; omega
      intro v' w1 hown' hgrow _
      have HO' := Lib.hid hown'
      have HG := Lib.hid hgrow
      clear hown' hgrow
      go_wp2
      go_roundw
      case rel =>
        obtain ⟨b1, b2, _⟩ := ap_step HB.out (by omega) HO.out (by omega) HG.out
        exact ⟨13, by omega, rfl, b2 _ _ (by omega) HR.out, by rw [← bC32_take_succ a 12 (by decide)]; exact HO'.out, b1⟩
      case measure => simp [intOf]
    · have c2 : wr.cell? ⟨w.heap.size, 2, none⟩ = some (.int .u64 (limb a 2)) := cell_in HR.out 2 rfl
      have e : limb a 2 / 65536 % 256 = byteOf 32 a 13 := byte_at a 2 2 (by decide) (by decide) _ (by decide)
      go_wp2_with (at_builtin; refine wpList_append_own _ rfl _ _ 42 rfl (w.heap.size + 1) 5 i0 (.int .u8 0) 1 1 Try.underlying42 hi hz0 hz1 hz2 rfl (by decide) _ _ _ rfl (HO.out.alloc _) ⟨wr.heap.size, 0, none⟩ 1 1 [.int .u8 (byteOf 32 a 13)] rfl rfl ?c1 ?c2 ?c3 ?c4 ?c5 ?_)
      case c1 => exact cell_one_new _ _ _
      case c2 => simp [Value.oneCell']
      case c3 => unfold maxLen; omega
      case c4 => omega
      case c5 => simp; omega
      intro v' w1 hown' hgrow _
      have HO' := Lib.hid hown'
      have HG := Lib.hid hgrow
      clear hown' hgrow
      go_wp2
      go_roundw
      case rel =>
        obtain ⟨b1, b2, _⟩ := ap_step HB.out (by omega) HO.out (by omega) HG.out
        exact ⟨14, by omega, rfl, b2 _ _ (by omega) HR.out, by rw [← bC32_take_succ a 13 (by decide)]; exact HO'.out, b1⟩
      case measure => simp [intOf]
    · have c2 : wr.cell? ⟨w.heap.size, 2, none⟩ = some (.int .u64 (limb a 2)) := cell_in HR.out 2 rfl
      have e : limb a 2 / 256 % 256 = byteOf 32 a 14 := byte_at a 2 1 (by decide) (by decide) _ (by decide)
      go_wp2_with (at_builtin; refine wpList_append_own _ rfl _ _ 42 rfl (w.heap.size + 1) 5 i0 (.int .u8 0) 1 1 Try.underlying42 hi hz0 hz1 hz2 rfl (by decide) _ _ _ rfl (HO.out.alloc _) ⟨wr.heap.size, 0, none⟩ 1 1 [.int .u8 (byteOf 32 a 14)] rfl rfl ?c1 ?c2 ?c3 ?c4 ?c5 ?_)
      case c1 => exact cell_one_new _ _ _
      case c2 => simp [Value.oneCell']
      case c3 => unfold maxLen; omega
      case c4 => omega
      case c5 => simp; omega
      intro v' w1 hown' hgrow _
      have HO' := Lib.hid hown'
      have HG := Lib.hid hgrow
      clear hown' hgrow
      go_wp2
      go_roundw
      case rel =>
        obtain ⟨b1, b2, _⟩ := ap_step HB.out (by omega) HO.out (by omega) HG.out
        exact ⟨15, by omega, rfl, b2 _ _ (by omega) HR.out, by rw [← bC32_take_succ a 14 (by decide)]; exact HO'.out, b1⟩
      case measure => simp [intOf]
    · have c2 : wr.cell? ⟨w.heap.size, 2, none⟩ = some (.int .u64 (limb a 2)) := cell_in HR.out 2 rfl
      have e : limb a 2 % 256 = byteOf 32 a 15 := byte_at0 a 2 (by decide)
      go_wp2_with (at_builtin; refine wpList_append_own _ rfl _ _ 42 rfl (w.heap.size + 1) 5 i0 (.int .u8 0) 1 1 Try.underlying42 hi hz0 hz1 hz2 rfl (by decide) _ _ _ rfl (HO.out.alloc _) ⟨wr.heap.size, 0, none⟩ 1 1 [.int .u8 (byteOf 32 a 15)] rfl rfl ?c1 ?c2 ?c3 ?c4 ?c5 ?_)
      case c1 => exact cell_one_new _ _ _
      case c2 => simp [Value.oneCell']
      case c3 => unfold maxLen; omega
      case c4 => omega
      case c5 => simp; omega
      intro v' w1 hown' hgrow _
      have HO' := Lib.hid hown'
      have HG := Lib.hid hgrow
      clear hown' hgrow
      go_wp2
      go_roundw
      case rel =>
        obtain ⟨b1, b2, _⟩ := ap_step HB.out (by omega) HO.out (by omega) HG.out
        exact ⟨16, by omega, rfl, b2 _ _ (by omega) HR.out, by rw [← bC32_take_succ a 15 (by decide)]; exact HO'.out, b1⟩
      case measure => simp [intOf]
    · have c2 : wr.cell? ⟨w.heap.size, 1, none⟩ = some (.int .u64 (limb a 1)) := cell_in HR.out 1 rfl
      have e : limb a 1 / 72057594037927936 % 256 = byteOf 32 a 16 := byte_at a 1 7 (by decide) (by decide) _ (by decide)
      go_wp2_with (at_builtin; refine wpList_append_own _ rfl _ _ 42 rfl (w.heap.size + 1) 5 i0 (.int .u8 0) 1 1 Try.underlying42 hi hz0 hz1 hz2 rfl (by decide) _ _ _ rfl (HO.out.alloc _) ⟨wr.heap.size, 0, none⟩ 1 1 [.int .u8 (byteOf 32 a 16)] rfl rfl ?c1 ?c2 ?c3 ?c4 ?c5 ?_)
      case c1 => exact cell_one_new _ _ _
      case c2 => simp [Value.oneCell']
      case c3 => unfold maxLen; omega
      case c4 => omega
      case c5 => simp; omega
      intro v' w1 hown' hgrow _
      have HO' := Lib.hid hown'
      have HG := Lib.hid hgrow
      clear hown' hgrow
      go_wp2
      go_roundw
      case rel =>
        obtain ⟨b1, b2, _⟩ := ap_step HB.out (by omega) HO.out (by omega) HG.out
        exact ⟨17, by omega, rfl, b2 _ _ (by omega) HR.out, by rw [← bC32_take_succ a 16 (by decide)]; exact HO'.out, b1⟩
      case measure => simp [intOf]
    · have c2 : wr.cell? ⟨w.heap.size, 1, none⟩ = some (.int .u64 (limb a 1)) := cell_in HR.out 1 rfl
      have e : limb a 1 / 281474976710656 % 256 = byteOf 32 a 17 := byte_at a 1 6 (by decide) (by decide) _ (by decide)
      go_wp2_with (at_builtin; refine wpList_append_own _ rfl _ _ 42 rfl (w.heap.size + 1) 5 i0 (.int .u8 0) 1 1 Try.underlying42 hi hz0 hz1 hz2 rfl (by decide) _ _ _ rfl (HO.out.alloc _) ⟨wr.heap.size, 0, none⟩ 1 1 [.int .u8 (byteOf 32 a 17)] rfl rfl ?c1 ?c2 ?c3 ?c4 ?c5 ?_)
      case c1 => exact cell_one_new _ _ _
      case c2 => simp [Value.oneCell']
      case c3 => unfold maxLen; omega
      case c4 => omega
      case c5 => simp; omega
      intro v' w1 hown' hgrow _
      have HO' := Lib.hid hown'
      have HG := Lib.hid hgrow
      clear hown' hgrow
      go_wp2
      go_roundw
      case rel =>
        obtain ⟨b1, b2, _⟩ := ap_step HB.out (by omega) HO.out (by omega) HG.out
        exact ⟨18, by omega, rfl, b2 _ _ (by omega) HR.out, by rw [← bC32_take_succ a 17 (by decide)]; exact HO'.out, b1⟩
      case measure => simp [intOf]
    · have c2 : wr.cell? ⟨w.heap.size, 1, none⟩ = some (.int .u64 (limb a 1)) := cell_in HR.out 1 rfl
      have e : limb a 1 / 1099511627776 % 256 = byteOf 32 a 18 := byte_at a 1 5 (by decide) (by decide) _ (by decide)
      go_wp2_with (at_builtin; refine wpList_append_own _ rfl _ _ 42 rfl (w.heap.size + 1) 5 i0 (.int .u8 0) 1 1 Try.underlying42 hi hz0 hz1 hz2 rfl (by decide) _ _ _ rfl (HO.out.alloc _) ⟨wr.heap.size, 0, none⟩ 1 1 [.int .u8 (byteOf 32 a 18)] rfl rfl ?c1 ?c2 ?c3 ?c4 ?c5 ?_)
      case c1 => exact cell_one_new _ _ _
      case c2 => simp [Value.oneCell']
      case c3 => unfold maxLen; omega
      case c4 => omega
      case c5 => simp; omega
      intro v' w1 hown' hgrow _
      have HO' := Lib.hid hown'
      have HG := Lib.hid hgrow
      clear hown' hgrow
      go_wp2
      go_roundw
      case rel =>
        obtain ⟨b1, b2, _⟩ := ap_step HB.out (by omega) HO.out (by omega) HG.out
        exact ⟨19, by omega, rfl, b2 _ _ (by omega) HR.out, by rw [← bC32_take_succ a 18 (by decide)]; exact HO'.out, b1⟩
      case measure => simp [intOf]
    · have c2 : wr.cell? ⟨w.heap.size, 1, none⟩ = some (.int .u64 (limb a 1)) := cell_in HR.out 1 rfl
      have e : limb a 1 / 4294967296 % 256 = byteOf 32 a 19 := byte_at a 1 4 (by decide) (by decide) _ (by decide)
      go_wp2_with (at_builtin; refine wpList_append_own _ rfl _ _ 42 rfl (w.heap.size + 1) 5 i0 (.int .u8 0) 1 1 Try.underlying42 hi hz0 hz1 hz2 rfl (by decide) _ _ _ rfl (HO.out.alloc _) ⟨wr.heap.size, 0, none⟩ 1 1 [.int .u8 (byteOf 32 a 19)] rfl rfl ?c1 ?c2 ?c3 ?c4 ?c5 ?_)
      case c1 => exact cell_one_new _ _ _
      case c2 => simp [Value.oneCell']
      case c3 => unfold maxLen; omega
      case c4 => omega
      case c5 => simp; omega
      intro v' w1 hown' hgrow _
      have HO' := Lib.hid hown'
      have HG := Lib.hid hgrow
      clear hown' hgrow
      go_wp2
      go_roundw
      case rel =>
        obtain ⟨b1, b2, _⟩ := ap_step HB.out (by omega) HO.out (by omega) HG.out
        exact ⟨20, by omega, rfl, b2 _ _ (by omega) HR.out, by rw [← bC32_take_succ a 19 (by decide)]; exact HO'.out, b1⟩
      case measure => simp [intOf]
    · have c2 : wr.cell? ⟨w.heap.size, 1, none⟩ = some (.int .u64 (limb a 1)) := cell_in HR.out 1 rfl
      have e : limb a 1 / 16777216 % 256 = byteOf 32 a 20 := byte_at a 1 3 (by decide) (by decide) _ (by decide)
      go_wp2_with (at_builtin; refine wpList_append_own _ rfl _ _ 42 rfl (w.heap.size + 1) 5 i0 (.int .u8 0) 1 1 Try.underlying42 hi hz0 hz1 hz2 rfl (by decide) _ _ _ rfl (HO.out.alloc _) ⟨wr.heap.size, 0, none⟩ 1 1 [.int .u8 (byteOf 32 a 20)] rfl rfl ?c1 ?c2 ?c3 ?c4 ?c5 ?_)
      case c1 => exact cell_one_new _ _ _
      case c2 => simp [Value.oneCell']
      case c3 => unfold maxLen; omega
      case c4 => omega
      case c5 => simp; omega
      intro v' w1 hown' hgrow _
      have HO' := Lib.hid hown'
      have HG := Lib.hid hgrow
      clear hown' hgrow
      go_wp2
      go_roundw
      case rel =>
        obtain ⟨b1, b2, _⟩ := ap_step HB.out (by omega) HO.out (by omega) HG.out
        exact ⟨21, by omega, rfl, b2 _ _ (by omega) HR.out, by rw [← bC32_take_succ a 20 (by decide)]; exact HO'.out, b1⟩
      case measure => simp [intOf]
    · have c2 : wr.cell? ⟨w.heap.size, 1, none⟩ = some (.int .u64 (limb a 1)) := cell_in HR.out 1 rfl
      have e : limb a 1 / 65536 % 256 = byteOf 32 a 21 := byte_at a 1 2 (by decide) (by decide) _ (by decide)
      go_wp2_with (at_builtin; refine wpList_append_own _ rfl _ _ 42 rfl (w.heap.size + 1) 5 i0 (.int .u8 0) 1 1 Try.underlying42 hi hz0 hz1 hz2 rfl (by decide) _ _ _ rfl (HO.out.alloc _) ⟨wr.heap.size, 0, none⟩ 1 1 [.int .u8 (byteOf 32 a 21)] rfl rfl ?c1 ?c2 ?c3 ?c4 ?c5 ?_)
      case c1 => exact cell_one_new _ _ _
      case c2 => simp [Value.oneCell']
      case c3 => unfold maxLen; omega
      case c4 => omega
      case c5 => simp; omega
      intro v' w1 hown' hgrow _
      have HO' := Lib.hid hown'
      have HG := Lib.hid hgrow
      clear hown' hgrow
      go_wp2
      go_roundw
      case rel =>
        obtain ⟨b1, b2, _⟩ := ap_step HB.out (by omega) HO.out (by omega) HG.out
        exact ⟨22, by omega, rfl, b2 _ _ (by omega) HR.out, by rw [← bC32_take_succ a 21 (by decide)]; exact HO'.out, b1⟩
      case measure => simp [intOf]
    · have c2 : wr.cell? ⟨w.heap.size, 1, none⟩ = some (.int .u64 (limb a 1)) := cell_in HR.out 1 rfl
      have e : limb a 1 / 256 % 256 = byteOf 32 a 22 := byte_at a 1 1 (by decide) (by decide) _ (by decide)
      go_wp2_with (at_builtin; refine wpList_append_own _ rfl _ _ 42 rfl (w.heap.size + 1) 5 i0 (.int .u8 0) 1 1 Try.underlying42 hi hz0 hz1 hz2 rfl (by decide) _ _ _ rfl (HO.out.alloc _) ⟨wr.heap.size, 0, none⟩ 1 1 [.int .u8 (byteOf 32 a 22)] rfl rfl ?c1 ?c2 ?c3 ?c4 ?c5 ?_)
      case c1 => exact cell_one_new _ _ _
      case c2 => simp [Value.oneCell']
      case c3 => unfold maxLen; omega
      case c4 => omega
      case c5 => simp; omega
      intro v' w1 hown' hgrow _
      have HO' := Lib.hid hown'
      have HG := Lib.hid hgrow
      clear hown' hgrow
      go_wp2
      go_roundw
      case rel =>
        obtain ⟨b1, b2, _⟩ := ap_step HB.out (by omega) HO.out (by omega) HG.out
        exact ⟨23, by omega, rfl, b2 _ _ (by omega) HR.out, by rw [← bC32_take_succ a 22 (by decide)]; exact HO'.out, b1⟩
      case measure => simp [intOf]
    · have c2 : wr.cell? ⟨w.heap.size, 1, none⟩ = some (.int .u64 (limb a 1)) := cell_in HR.out 1 rfl
      have e : limb a 1 % 256 = byteOf 32 a 23 := byte_at0 a 1 (by decide)
      go_wp2_with (at_builtin; refine wpList_append_own _ rfl _ _ 42 rfl (w.heap.size + 1) 5 i0 (.int .u8 0) 1 1 Try.underlying42 hi hz0 hz1 hz2 rfl (by decide) _ _ _ rfl (HO.out.alloc _) ⟨wr.heap.size, 0, none⟩ 1 1 [.int .u8 (byteOf 32 a 23)] rfl rfl ?c1 ?c2 ?c3 ?c4 ?c5 ?_)
      case c1 => exact cell_one_new _ _ _
      case c2 => simp [Value.oneCell']
      case c3 => unfold maxLen; omega
      case c4 => omega
      case c5 => simp; omega
      intro v' w1 hown' hgrow _
      have HO' := Lib.hid hown'
      have HG := Lib.hid hgrow
      clear hown' hgrow
      go_wp2
      go_roundw
      case rel =>
        obtain ⟨b1, b2, _⟩ := ap_step HB.out (by omega) HO.out (by omega) HG.out
        exact ⟨24, by omega, rfl, b2 _ _ (by omega) HR.out, by rw [← bC32_take_succ a 23 (by decide)]; exact HO'.out, b1⟩
      case measure => simp [intOf]
    · have c2 : wr.cell? ⟨w.heap.size, 0, none⟩ = some (.int .u64 (limb a 0)) := cell_in HR.out 0 rfl
      have e : limb a 0 / 72057594037927936 % 256 = byteOf 32 a 24 := byte_at a 0 7 (by decide) (by decide) _ (by decide)
      go_wp2_with (at_builtin; refine wpList_append_own _ rfl _ _ 42 rfl (w.heap.size + 1) 5 i0 (.int .u8 0) 1 1 Try.underlying42 hi hz0 hz1 hz2 rfl (by decide) _ _ _ rfl (HO.out.alloc _) ⟨wr.heap.size, 0, none⟩ 1 1 [.int .u8 (byteOf 32 a 24)] rfl rfl ?c1 ?c2 ?c3 ?c4 ?c5 ?_)
      case c1 => exact cell_one_new _ _ _
      case c2 => simp [Value.oneCell']
      case c3 => unfold maxLen; omega
      case c4 => omega
      case c5 => simp; omega
      intro v' w1 hown' hgrow _
      have HO' := Lib.hid hown'
      have HG := Lib.hid hgrow
      clear hown' hgrow
      go_wp2
      go_roundw
      case rel =>
        obtain ⟨b1, b2, _⟩ := ap_step HB.out (by omega) HO.out (by omega) HG.out
        exact ⟨25, by omega, rfl, b2 _ _ (by omega) HR.out, by rw [← bC32_take_succ a 24 (by decide)]; exact HO'.out, b1⟩
      case measure => simp [intOf]
    · have c2 : wr.cell? ⟨w.heap.size, 0, none⟩ = some (.int .u64 (limb a 0)) := cell_in HR.out 0 rfl
      have e : limb a 0 / 281474976710656 % 256 = byteOf 32 a 25 := byte_at a 0 6 (by decide) (by decide) _ (by decide)
      go_wp2_with (at_builtin; refine wpList_append_own _ rfl _ _ 42 rfl (w.heap.size + 1) 5 i0 (.int .u8 0) 1 1 Try.underlying42 hi hz0 hz1 hz2 rfl (by decide) _ _ _ rfl (HO.out.alloc _) ⟨wr.heap.size, 0, none⟩ 1 1 [.int .u8 (byteOf 32 a 25)] rfl rfl ?c1 ?c2 ?c3 ?c4 ?c5 ?_)
      case c1 => exact cell_one_new _ _ _
      case c2 => simp [Value.oneCell']
      case c3 => unfold maxLen; omega
      case c4 => omega
      case c5 => simp; omega
      intro v' w1 hown' hgrow _
      have HO' := Lib.hid hown'
      have HG := Lib.hid hgrow
      clear hown' hgrow
      go_wp2
      go_roundw
      case rel =>
        obtain ⟨b1, b2, _⟩ := ap_step HB.out (by omega) HO.out (by omega) HG.out
        exact ⟨26, by omega, rfl, b2 _ _ (by omega) HR.out, by rw [← bC32_take_succ a 25 (by decide)]; exact HO'.out, b1⟩
      case measure => simp [intOf]
    · have c2 : wr.cell? ⟨w.heap.size, 0, none⟩ = some (.int .u64 (limb a 0)) := cell_in HR.out 0 rfl
      have e : limb a 0 / 1099511627776 % 256 = byteOf 32 a 26 := byte_at a 0 5 (by decide) (by decide) _ (by decide)
      go_wp2_with (at_builtin; refine wpList_append_own _ rfl _ _ 42 rfl (w.heap.size + 1) 5 i0 (.int .u8 0) 1 1 Try.underlying42 hi hz0 hz1 hz2 rfl (by decide) _ _ _ rfl (HO.out.alloc _) ⟨wr.heap.size, 0, none⟩ 1 1 [.int .u8 (byteOf 32 a 26)] rfl rfl ?c1 ?c2 ?c3 ?c4 ?c5 ?_)
      case c1 => exact cell_one_new _ _ _
      case c2 => simp [Value.oneCell']
      case c3 => unfold maxLen; omega
      case c4 => omega
      case c5 => simp; omega
      intro v' w1 hown' hgrow _
      have HO' := Lib.hid hown'
      have HG := Lib.hid hgrow
      clear hown' hgrow
      go_wp2
      go_roundw
      case rel =>
        obtain ⟨b1, b2, _⟩ := ap_step HB.out (by omega) HO.out (by omega) HG.out
        exact ⟨27, by omega, rfl, b2 _ _ (by omega) HR.out, by rw [← bC32_take_succ a 26 (by decide)]; exact HO'.out, b1⟩
      case measure => simp [intOf]
    · have c2 : wr.cell? ⟨w.heap.size, 0, none⟩ = some (.int .u64 (limb a 0)) := cell_in HR.out 0 rfl
      have e : limb a 0 / 4294967296 % 256 = byteOf 32 a 27 := byte_at a 0 4 (by decide) (by decide) _ (by decide)
      go_wp2_with (at_builtin; refine wpList_append_own _ rfl _ _ 42 rfl (w.heap.size + 1) 5 i0 (.int .u8 0) 1 1 Try.underlying42 hi hz0 hz1 hz2 rfl (by decide) _ _ _ rfl (HO.out.alloc _) ⟨wr.heap.size, 0, none⟩ 1 1 [.int .u8 (byteOf 32 a 27)] rfl rfl ?c1 ?c2 ?c3 ?c4 ?c5 ?_)
      case c1 => exact cell_one_new _ _ _
      case c2 => simp [Value.oneCell']
      case c3 => unfold maxLen; omega
      case c4 => omega
      case c5 => simp; omega
      intro v' w1 hown' hgrow _
      have HO' := Lib.hid hown'
      have HG := Lib.hid hgrow
      clear hown' hgrow
      go_wp2
      go_roundw
      case rel =>
        obtain ⟨b1, b2, _⟩ := ap_step HB.out (by omega) HO.out (by omega) HG.out
        exact ⟨28, by omega, rfl, b2 _ _ (by omega) HR.out, by rw [← bC32_take_succ a 27 (by decide)]; exact HO'.out, b1⟩
      case measure => simp [intOf]
    · have c2 : wr.cell? ⟨w.heap.size, 0, none⟩ = some (.int .u64 (limb a 0)) := cell_in HR.out 0 rfl
      have e : limb a 0 / 16777216 % 256 = byteOf 32 a 28 := byte_at a 0 3 (by decide) (by decide) _ (by decide)
      go_wp2_with (at_builtin; refine wpList_append_own _ rfl _ _ 42 rfl (w.heap.size + 1) 5 i0 (.int .u8 0) 1 1 Try.underlying42 hi hz0 hz1 hz2 rfl (by decide) _ _ _ rfl (HO.out.alloc _) ⟨wr.heap.size, 0, none⟩ 1 1 [.int .u8 (byteOf 32 a 28)] rfl rfl ?c1 ?c2 ?c3 ?c4 ?c5 ?_)
      case c1 => exact cell_one_new _ _ _
      case c2 => simp [Value.oneCell']
      case c3 => unfold maxLen; omega
      case c4 => omega
      case c5 => simp; omega
      intro v' w1 hown' hgrow _
      have HO' := Lib.hid hown'
      have HG := Lib.hid hgrow
      clear hown' hgrow
      go_wp2
      go_roundw
      case rel =>
        obtain ⟨b1, b2, _⟩ := ap_step HB.out (by omega) HO.out (by omega) HG.out
        exact ⟨29, by omega, rfl, b2 _ _ (by omega) HR.out, by rw [← bC32_take_succ a 28 (by decide)]; exact HO'.out, b1⟩
      case measure => simp [intOf]
    · have c2 : wr.cell? ⟨w.heap.size, 0, none⟩ = some (.int .u64 (limb a 0)) := cell_in HR.out 0 rfl
      have e : limb a 0 / 65536 % 256 = byteOf 32 a 29 := byte_at a 0 2 (by decide) (by decide) _ (by decide)
      go_wp2_with (at_builtin; refine wpList_append_own _ rfl _ _ 42 rfl (w.heap.size + 1) 5 i0 (.int .u8 0) 1 1 Try.underlying42 hi hz0 hz1 hz2 rfl (by decide) _ _ _ rfl (HO.out.alloc _) ⟨wr.heap.size, 0, none⟩ 1 1 [.int .u8 (byteOf 32 a 29)] rfl rfl ?c1 ?c2 ?c3 ?c4 ?c5 ?_)
      case c1 => exact cell_one_new _ _ _
      case c2 => simp [Value.oneCell']
      case c3 => unfold maxLen; omega
      case c4 => omega
      case c5 => simp; omega
      intro v' w1 hown' hgrow _
      have HO' := Lib.hid hown'
      have HG := Lib.hid hgrow
      clear hown' hgrow
      go_wp2
      go_roundw
      case rel =>
        obtain ⟨b1, b2, _⟩ := ap_step HB.out (by omega) HO.out (by omega) HG.out
        exact ⟨30, by omega, rfl, b2 _ _ (by omega) HR.out, by rw [← bC32_take_succ a 29 (by decide)]; exact HO'.out, b1⟩
      case measure => simp [intOf]
    · have c2 : wr.cell? ⟨w.heap.size, 0, none⟩ = some (.int .u64 (limb a 0)) := cell_in HR.out 0 rfl
      have e : limb a 0 / 256 % 256 = byteOf 32 a 30 := byte_at a 0 1 (by decide) (by decide) _ (by decide)
      go_wp2_with (at_builtin; refine wpList_append_own _ rfl _ _ 42 rfl (w.heap.size + 1) 5 i0 (.int .u8 0) 1 1 Try.underlying42 hi hz0 hz1 hz2 rfl (by decide) _ _ _ rfl (HO.out.alloc _) ⟨wr.heap.size, 0, none⟩ 1 1 [.int .u8 (byteOf 32 a 30)] rfl rfl ?c1 ?c2 ?c3 ?c4 ?c5 ?_)
      case c1 => exact cell_one_new _ _ _
      case c2 => simp [Value.oneCell']
      case c3 => unfold maxLen; omega
      case c4 => omega
      case c5 => simp; omega
      intro v' w1 hown' hgrow _
      have HO' := Lib.hid hown'
      have HG := Lib.hid hgrow
      clear hown' hgrow
      go_wp2
      go_roundw
      case rel =>
        obtain ⟨b1, b2, _⟩ := ap_step HB.out (by omega) HO.out (by omega) HG.out
        exact ⟨31, by omega, rfl, b2 _ _ (by omega) HR.out, by rw [← bC32_take_succ a 30 (by decide)]; exact HO'.out, b1⟩
      case measure => simp [intOf]
    · have c2 : wr.cell? ⟨w.heap.size, 0, none⟩ = some (.int .u64 (limb a 0)) := cell_in HR.out 0 rfl
      have e : limb a 0 % 256 = byteOf 32 a 31 := byte_at0 a 0 (by decide)
      go_wp2_with (at_builtin; refine wpList_append_own _ rfl _ _ 42 rfl (w.heap.size + 1) 5 i0 (.int .u8 0) 1 1 Try.underlying42 hi hz0 hz1 hz2 rfl (by decide) _ _ _ rfl (HO.out.alloc _) ⟨wr.heap.size, 0, none⟩ 1 1 [.int .u8 (byteOf 32 a 31)] rfl rfl ?c1 ?c2 ?c3 ?c4 ?c5 ?_)
      case c1 => exact cell_one_new _ _ _
      case c2 => simp [Value.oneCell']
      case c3 => unfold maxLen; omega
      case c4 => omega
      case c5 => simp; omega
      intro v' w1 hown' hgrow _
      have HO' := Lib.hid hown'
      have HG := Lib.hid hgrow
      clear hown' hgrow
      go_wp2
      go_roundw
      case rel =>
        obtain ⟨b1, b2, _⟩ := ap_step HB.out (by omega) HO.out (by omega) HG.out
        exact ⟨32, by omega, rfl, b2 _ _ (by omega) HR.out, by rw [← bC32_take_succ a 31 (by decide)]; exact HO'.out, b1⟩
      case measure => simp [intOf]
    · go_wp2
      go_ret
      refine ⟨u3, rfl, ?_, HB.out⟩
      have := HO.out
      rwa [List.take_of_length_le (by rw [bC32_len]; omega)] at this
end Go.Proofs.Ytbkhldaomalmoaa
