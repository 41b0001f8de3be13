/- quaestorref01.Wide: the number. -/
import Derived.Test.YtbkhldaomalmoaaRefRead
import Derived.Test.YtbkhldaomalmoaaBase
namespace Go.Proofs.Ytbkhldaomalmoaa
open Go.RowKit
attribute [local go_sem] wV

theorem info_u8 : (Try.prog.info? 5).map (fun i => (i.zero, i.size, i.bytes)) = some (some (.int .u8 0), 1, 1) := by kernel_rfl
theorem aC_take_succ (a k : Nat) (h : k < 20) : (aC a).take (k + 1) = (aC a).take k ++ [.int .u8 (byteOf 20 a k)] := by
  rw [List.take_succ_eq_append_getElem (by rw [aC_len]; exact h)]
  congr 2
  have := aC_get a k h
  rw [List.getElem?_eq_getElem (by rw [aC_len]; exact h)] at this
  exact Option.some.inj this

set_option maxRecDepth 100000 in
set_option maxHeartbeats 1000000 in
theorem rwide_calls (a : Nat) (ha : a < A160) (w : World) :
    Calls Try.prog 51 #[aV a] w fun e w' => e = .returned (wV a) ∧ Below w.heap.size w w' := by
  have hl := aC_len a
  have hr := Lib.hid fun (b cap : Nat) (W : World) h => rread20 a (by rw [← A160_eq]; exact ha) b cap W h
  obtain ⟨i0, hi, hz0, hz1, hz2⟩ := info_parts info_u8
  unfold aV
  go_enter Try.func51, Try.ntmps51
  go_wp2
  go_loopw [3, 4] (fun v i wr => ∃ k : Nat, k ≤ 20 ∧ i = .int .i64 k ∧ wr.ownsRow (w.heap.size + 2) 5 1 v k ((aC a).take k) ∧ wr.heap[w.heap.size]? = some (.cells (aC a).toArray 33 (0, 0)) ∧ wr.heap[w.heap.size + 1]? = some (.cells #[.int .u64 0, .int .u64 0, .int .u64 0, .int .u64 0] 36 (0, 0)) ∧ Below w.heap.size w wr) (fun _ i _ => 20 - (intOf i).toNat)
  case atStart =>
    refine ⟨0, by omega, rfl, World.ownsRow_nil _ _ _ _, at_old (at_new _ _ rfl) _, at_new _ _ (by simp), ?_⟩
    exact below_a (below_a (Below.refl _ _) (by simp) _) (by simp) _
  case round =>
    obtain ⟨k, hk, rfl, hown, hA, hR, hB⟩ := hrel
    have hz := at_lt hR
    have HB := Lib.hid hB
    have HA := Lib.hid hA
    have HR := Lib.hid hR
    clear hA hR hB
    by_cases hlt : k < 20
    · have c := cell_in HA.out k (u := .int .u8 (byteOf 20 a k)) (by simpa using aC_get a k hlt)
      go_wp2_with (at_builtin; refine wpList_append_own _ rfl _ _ 42 rfl (w.heap.size + 2) 5 i0 (.int .u8 0) 1 1 Try.underlying42 hi hz0 hz1 hz2 rfl (by decide) _ _ _ rfl (hown.alloc _) ⟨wr.heap.size, 0, none⟩ 1 1 [.int .u8 (byteOf 20 a k)] rfl rfl ?c1 ?c2 ?c3 ?c4 ?c5 ?_)
      case c1 => exact cell_one_new _ _ _
      case c2 => simp [Value.oneCell']
      case c3 => unfold maxLen; omega
      case c4 => omega
      case c5 => simp; omega
      intro v' w1 hown' hgrow _
      go_wp2
      go_roundw
      case rel =>
        obtain ⟨b1, b2, _⟩ := ap_step HB.out (by omega) hown (by omega) hgrow
        exact ⟨k + 1, by omega, by go_num, by rw [aC_take_succ a k hlt]; exact hown', b2 _ _ (by omega) HA.out, b2 _ _ (by omega) HR.out, b1⟩
      case measure => simp [intOf]; omega
    · obtain rfl : k = 20 := by omega
      obtain ⟨g, cap, rfl, hg1, hg2, hg3, hgc⟩ := own_form hown (by decide)
      rw [List.take_of_length_le (by rw [aC_len]; omega)] at hgc
      have HGC := Lib.hid hgc
      clear hgc hown
      go_wp2_with fail
      refine (hr.out _ _ _ ?h).mono ?_
      case h => exact fun j hj => HGC.out j _ (aC_get a j hj)
      rintro e w' ⟨rfl, hb⟩
      obtain ⟨hc, hf⟩ := bcell hb
      have hz1 : w.heap.size + 1 < w'.heap.size := by have := hb.size; omega
      have h1 := heap_below hb HR.out hz
      have c0 := cell_in h1 0 (u := .int .u64 0) rfl
      have c1 := cell_in h1 1 (u := .int .u64 0) rfl
      have c2 := cell_in h1 2 (u := .int .u64 0) rfl
      have c3 := cell_in h1 3 (u := .int .u64 0) rfl
      have g0 := free_in h1 0
      have g1 := free_in h1 1
      have g2 := free_in h1 2
      have g3 := free_in h1 3
      clear hc hf
      go_wp2
      have hW := heap_set (o := 3) (heap_set (o := 2) (heap_set (o := 1) (heap_set (o := 0) h1 (.int .u64 (limb a 0))) (.int .u64 (limb a 1))) (.int .u64 (limb a 2))) (.int .u64 (limb a 3))
      have k0 := cell_in hW 0 (u := .int .u64 (limb a 0)) rfl
      have k1 := cell_in hW 1 (u := .int .u64 (limb a 1)) rfl
      have k2 := cell_in hW 2 (u := .int .u64 (limb a 2)) rfl
      have k3 := cell_in hW 3 (u := .int .u64 (limb a 3)) rfl
      refine bodyPost_ret (v := wV a) (by simp only [results, wV]; simp [Try.results51, go_sem, k0, k1, k2, k3]) rfl ⟨rfl, ?_⟩
      have B := below_c HB.out hb (by omega)
      exact (((B.setCell (p := ⟨w.heap.size + 1, 0, none⟩) (by simp) _).setCell (p := ⟨w.heap.size + 1, 1, none⟩) (by simp) _).setCell (p := ⟨w.heap.size + 1, 2, none⟩) (by simp) _).setCell (p := ⟨w.heap.size + 1, 3, none⟩) (by simp) _
end Go.Proofs.Ytbkhldaomalmoaa
