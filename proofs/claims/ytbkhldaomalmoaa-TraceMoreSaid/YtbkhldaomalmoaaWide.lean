/- word.Wide: the number. -/
import Derived.Test.YtbkhldaomalmoaaRead
namespace Go.Proofs.Ytbkhldaomalmoaa
open Go.RowKit
attribute [local go_sem] wV

set_option maxHeartbeats 1000000 in
theorem wide_calls (a : Nat) (ha : a < A160) (w : World) :
    Calls Try.prog 24 #[aV a] w fun e w' => e = .returned (wV a) ∧ Below w.heap.size w w' := by
  have hl := aC_len a
  have hg := fun j hj => aC_get a j hj
  have HG := Lib.hid hg
  clear hg
  have hr := Lib.hid fun (b cap : Nat) (W : World) h => read20 a (by rw [← A160_eq]; exact ha) b cap W h
  unfold aV
  go_enter Try.func24, Try.ntmps24
  go_wp2_with fail
  refine (hr.out _ _ _ ?h).mono ?_
  case h =>
    intro j hj
    refine cell_in (at_old (at_new _ _ rfl) _) j ?_
    simpa using HG.out j hj
  rintro e w' ⟨rfl, hb⟩
  obtain ⟨hc, hf⟩ := bcell hb
  have hz1 : w.heap.size + 1 < w'.heap.size := by have := hb.size; simp at this; omega
  go_wp2
  have h1 : w'.heap[w.heap.size + 1]? = some (.cells #[.int .u64 0, .int .u64 0, .int .u64 0, .int .u64 0] 36 (0, 0)) := heap_below hb (at_new _ _ (by simp)) (by simp)
  have hW := heap_set (o := 3) (heap_set (o := 2) (heap_set (o := 1) (heap_set (o := 0) h1 (.int .u64 (limb a 0))) (.int .u64 (limb a 1))) (.int .u64 (limb a 2))) (.int .u64 (limb a 3))
  have k0 := cell_in hW 0 (u := .int .u64 (limb a 0)) rfl
  have k1 := cell_in hW 1 (u := .int .u64 (limb a 1)) rfl
  have k2 := cell_in hW 2 (u := .int .u64 (limb a 2)) rfl
  have k3 := cell_in hW 3 (u := .int .u64 (limb a 3)) rfl
  refine bodyPost_ret (v := wV a) (by simp only [results, wV]; simp [Try.results24, go_sem, k0, k1, k2, k3]) rfl ⟨rfl, ?_⟩
  have B := below_c (below_a (below_a (Below.refl w.heap.size w) (by simp) _) (by simp) _) hb (by simp; omega)
  exact (((B.setCell (p := ⟨w.heap.size + 1, 0, none⟩) (by simp) _).setCell (p := ⟨w.heap.size + 1, 1, none⟩) (by simp) _).setCell (p := ⟨w.heap.size + 1, 2, none⟩) (by simp) _).setCell (p := ⟨w.heap.size + 1, 3, none⟩) (by simp) _
end Go.Proofs.Ytbkhldaomalmoaa
