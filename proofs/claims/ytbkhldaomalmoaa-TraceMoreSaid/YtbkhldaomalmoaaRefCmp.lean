/- quaestorref01.Cmp: -1, 0, 1. (Printed by wip/tpl/gen_refcmp.py.) -/
import Derived.Test.YtbkhldaomalmoaaCmp
import Derived.Deep.QuietTactic
import Derived.BigQuiet
namespace Go.Proofs.Ytbkhldaomalmoaa
open Go.RowKit
attribute [local go_sem] wV

theorem pw_drewN {B : Nat} {w W : World} (h : Below B w W) (n : Nat) : Below B w (W.drewN n) := ⟨h.os, h.tape, h.output, h.size, h.block⟩

set_option maxHeartbeats 1000000 in
theorem rcmp_lt3 (a b : Nat) (h0 : limb a 3 < limb b 3) (w : World) :
    Calls Try.prog 50 #[wV a, wV b] w fun e w' => e = .returned (.int .i64 (-1)) ∧ Below w.heap.size w w' := by
  simp only [wV]
  go_enter Try.func50, Try.ntmps50
  go_wp2
  refine wp_loop_rounds 5 ?_
  rw [rounds_succ]
  go_wp2
  go_quiet (fail)
  go_wp2
  go_ret
  refine ⟨rfl, ?_⟩
  repeat (first | exact Below.refl _ _ | refine Below.drew ?_ | refine pw_drewN ?_ _ | refine below_a ?_ (by first | (simp; done) | (simp; omega)) _)

set_option maxHeartbeats 1000000 in
theorem rcmp_gt3 (a b : Nat) (h0 : ¬ limb a 3 < limb b 3) (h1 : limb b 3 < limb a 3) (w : World) :
    Calls Try.prog 50 #[wV a, wV b] w fun e w' => e = .returned (.int .i64 1) ∧ Below w.heap.size w w' := by
  simp only [wV]
  go_enter Try.func50, Try.ntmps50
  go_wp2
  refine wp_loop_rounds 5 ?_
  rw [rounds_succ]
  go_wp2
  go_quiet (fail)
  go_wp2
  go_quiet (fail)
  go_wp2
  go_ret
  refine ⟨rfl, ?_⟩
  repeat (first | exact Below.refl _ _ | refine Below.drew ?_ | refine pw_drewN ?_ _ | refine below_a ?_ (by first | (simp; done) | (simp; omega)) _)

set_option maxHeartbeats 1000000 in
theorem rcmp_lt2 (a b : Nat) (h0 : ¬ limb a 3 < limb b 3) (h1 : ¬ limb b 3 < limb a 3) (h2 : limb a 2 < limb b 2) (w : World) :
    Calls Try.prog 50 #[wV a, wV b] w fun e w' => e = .returned (.int .i64 (-1)) ∧ Below w.heap.size w w' := by
  simp only [wV]
  go_enter Try.func50, Try.ntmps50
  go_wp2
  refine wp_loop_rounds 5 ?_
  rw [rounds_succ]
  go_wp2
  go_quiet (fail)
  go_wp2
  go_quiet (fail)
  go_wp2
  rw [rounds_succ]
  go_wp2
  go_quiet (fail)
  go_wp2
  go_ret
  refine ⟨rfl, ?_⟩
  repeat (first | exact Below.refl _ _ | refine Below.drew ?_ | refine pw_drewN ?_ _ | refine below_a ?_ (by first | (simp; done) | (simp; omega)) _)

set_option maxHeartbeats 1000000 in
theorem rcmp_gt2 (a b : Nat) (h0 : ¬ limb a 3 < limb b 3) (h1 : ¬ limb b 3 < limb a 3) (h2 : ¬ limb a 2 < limb b 2) (h3 : limb b 2 < limb a 2) (w : World) :
    Calls Try.prog 50 #[wV a, wV b] w fun e w' => e = .returned (.int .i64 1) ∧ Below w.heap.size w w' := by
  simp only [wV]
  go_enter Try.func50, Try.ntmps50
  go_wp2
  refine wp_loop_rounds 5 ?_
  rw [rounds_succ]
  go_wp2
  go_quiet (fail)
  go_wp2
  go_quiet (fail)
  go_wp2
  rw [rounds_succ]
  go_wp2
  go_quiet (fail)
  go_wp2
  go_quiet (fail)
  go_wp2
  go_ret
  refine ⟨rfl, ?_⟩
  repeat (first | exact Below.refl _ _ | refine Below.drew ?_ | refine pw_drewN ?_ _ | refine below_a ?_ (by first | (simp; done) | (simp; omega)) _)

set_option maxHeartbeats 1000000 in
theorem rcmp_lt1 (a b : Nat) (h0 : ¬ limb a 3 < limb b 3) (h1 : ¬ limb b 3 < limb a 3) (h2 : ¬ limb a 2 < limb b 2) (h3 : ¬ limb b 2 < limb a 2) (h4 : limb a 1 < limb b 1) (w : World) :
    Calls Try.prog 50 #[wV a, wV b] w fun e w' => e = .returned (.int .i64 (-1)) ∧ Below w.heap.size w w' := by
  simp only [wV]
  go_enter Try.func50, Try.ntmps50
  go_wp2
  refine wp_loop_rounds 5 ?_
  rw [rounds_succ]
  go_wp2
  go_quiet (fail)
  go_wp2
  go_quiet (fail)
  go_wp2
  rw [rounds_succ]
  go_wp2
  go_quiet (fail)
  go_wp2
  go_quiet (fail)
  go_wp2
  rw [rounds_succ]
  go_wp2
  go_quiet (fail)
  go_wp2
  go_ret
  refine ⟨rfl, ?_⟩
  repeat (first | exact Below.refl _ _ | refine Below.drew ?_ | refine pw_drewN ?_ _ | refine below_a ?_ (by first | (simp; done) | (simp; omega)) _)

set_option maxHeartbeats 1000000 in
theorem rcmp_gt1 (a b : Nat) (h0 : ¬ limb a 3 < limb b 3) (h1 : ¬ limb b 3 < limb a 3) (h2 : ¬ limb a 2 < limb b 2) (h3 : ¬ limb b 2 < limb a 2) (h4 : ¬ limb a 1 < limb b 1) (h5 : limb b 1 < limb a 1) (w : World) :
    Calls Try.prog 50 #[wV a, wV b] w fun e w' => e = .returned (.int .i64 1) ∧ Below w.heap.size w w' := by
  simp only [wV]
  go_enter Try.func50, Try.ntmps50
  go_wp2
  refine wp_loop_rounds 5 ?_
  rw [rounds_succ]
  go_wp2
  go_quiet (fail)
  go_wp2
  go_quiet (fail)
  go_wp2
  rw [rounds_succ]
  go_wp2
  go_quiet (fail)
  go_wp2
  go_quiet (fail)
  go_wp2
  rw [rounds_succ]
  go_wp2
  go_quiet (fail)
  go_wp2
  go_quiet (fail)
  go_wp2
  go_ret
  refine ⟨rfl, ?_⟩
  repeat (first | exact Below.refl _ _ | refine Below.drew ?_ | refine pw_drewN ?_ _ | refine below_a ?_ (by first | (simp; done) | (simp; omega)) _)

set_option maxHeartbeats 1000000 in
theorem rcmp_lt0 (a b : Nat) (h0 : ¬ limb a 3 < limb b 3) (h1 : ¬ limb b 3 < limb a 3) (h2 : ¬ limb a 2 < limb b 2) (h3 : ¬ limb b 2 < limb a 2) (h4 : ¬ limb a 1 < limb b 1) (h5 : ¬ limb b 1 < limb a 1) (h6 : limb a 0 < limb b 0) (w : World) :
    Calls Try.prog 50 #[wV a, wV b] w fun e w' => e = .returned (.int .i64 (-1)) ∧ Below w.heap.size w w' := by
  simp only [wV]
  go_enter Try.func50, Try.ntmps50
  go_wp2
  refine wp_loop_rounds 5 ?_
  rw [rounds_succ]
  go_wp2
  go_quiet (fail)
  go_wp2
  go_quiet (fail)
  go_wp2
  rw [rounds_succ]
  go_wp2
  go_quiet (fail)
  go_wp2
  go_quiet (fail)
  go_wp2
  rw [rounds_succ]
  go_wp2
  go_quiet (fail)
  go_wp2
  go_quiet (fail)
  go_wp2
  rw [rounds_succ]
  go_wp2
  go_quiet (fail)
  go_wp2
  go_ret
  refine ⟨rfl, ?_⟩
  repeat (first | exact Below.refl _ _ | refine Below.drew ?_ | refine pw_drewN ?_ _ | refine below_a ?_ (by first | (simp; done) | (simp; omega)) _)

set_option maxHeartbeats 1000000 in
theorem rcmp_gt0 (a b : Nat) (h0 : ¬ limb a 3 < limb b 3) (h1 : ¬ limb b 3 < limb a 3) (h2 : ¬ limb a 2 < limb b 2) (h3 : ¬ limb b 2 < limb a 2) (h4 : ¬ limb a 1 < limb b 1) (h5 : ¬ limb b 1 < limb a 1) (h6 : ¬ limb a 0 < limb b 0) (h7 : limb b 0 < limb a 0) (w : World) :
    Calls Try.prog 50 #[wV a, wV b] w fun e w' => e = .returned (.int .i64 1) ∧ Below w.heap.size w w' := by
  simp only [wV]
  go_enter Try.func50, Try.ntmps50
  go_wp2
  refine wp_loop_rounds 5 ?_
  rw [rounds_succ]
  go_wp2
  go_quiet (fail)
  go_wp2
  go_quiet (fail)
  go_wp2
  rw [rounds_succ]
  go_wp2
  go_quiet (fail)
  go_wp2
  go_quiet (fail)
  go_wp2
  rw [rounds_succ]
  go_wp2
  go_quiet (fail)
  go_wp2
  go_quiet (fail)
  go_wp2
  rw [rounds_succ]
  go_wp2
  go_quiet (fail)
  go_wp2
  go_quiet (fail)
  go_wp2
  go_ret
  refine ⟨rfl, ?_⟩
  repeat (first | exact Below.refl _ _ | refine Below.drew ?_ | refine pw_drewN ?_ _ | refine below_a ?_ (by first | (simp; done) | (simp; omega)) _)

set_option maxHeartbeats 1000000 in
theorem rcmp_eq (a b : Nat) (h0 : ¬ limb a 3 < limb b 3) (h1 : ¬ limb b 3 < limb a 3) (h2 : ¬ limb a 2 < limb b 2) (h3 : ¬ limb b 2 < limb a 2) (h4 : ¬ limb a 1 < limb b 1) (h5 : ¬ limb b 1 < limb a 1) (h6 : ¬ limb a 0 < limb b 0) (h7 : ¬ limb b 0 < limb a 0) (w : World) :
    Calls Try.prog 50 #[wV a, wV b] w fun e w' => e = .returned (.int .i64 0) ∧ Below w.heap.size w w' := by
  simp only [wV]
  go_enter Try.func50, Try.ntmps50
  go_wp2
  refine wp_loop_rounds 5 ?_
  rw [rounds_succ]
  go_wp2
  go_quiet (fail)
  go_wp2
  go_quiet (fail)
  go_wp2
  rw [rounds_succ]
  go_wp2
  go_quiet (fail)
  go_wp2
  go_quiet (fail)
  go_wp2
  rw [rounds_succ]
  go_wp2
  go_quiet (fail)
  go_wp2
  go_quiet (fail)
  go_wp2
  rw [rounds_succ]
  go_wp2
  go_quiet (fail)
  go_wp2
  go_quiet (fail)
  go_wp2
  rw [rounds_succ]
  go_wp2
  go_ret
  refine ⟨rfl, ?_⟩
  repeat (first | exact Below.refl _ _ | refine Below.drew ?_ | refine pw_drewN ?_ _ | refine below_a ?_ (by first | (simp; done) | (simp; omega)) _)

theorem cmp_limbs (a b : Nat) (ha : a < W256) (hb : b < W256) : cmpN a b =
    if limb a 3 < limb b 3 then -1 else if limb b 3 < limb a 3 then 1 else if limb a 2 < limb b 2 then -1 else if limb b 2 < limb a 2 then 1 else
    if limb a 1 < limb b 1 then -1 else if limb b 1 < limb a 1 then 1 else if limb a 0 < limb b 0 then -1 else if limb b 0 < limb a 0 then 1 else 0 := by
  have A := limb_sum a ha
  have B := limb_sum b hb
  have p0 := limb_bd a 0; have p1 := limb_bd a 1; have p2 := limb_bd a 2; have p3 := limb_bd a 3
  have q0 := limb_bd b 0; have q1 := limb_bd b 1; have q2 := limb_bd b 2; have q3 := limb_bd b 3
  unfold cmpN
  generalize limb a 0 = a0 at *; generalize limb a 1 = a1 at *; generalize limb a 2 = a2 at *; generalize limb a 3 = a3 at *
  generalize limb b 0 = b0 at *; generalize limb b 1 = b1 at *; generalize limb b 2 = b2 at *; generalize limb b 3 = b3 at *
  have lo : ∀ x0 x1 x2 y0 y1 y2 : Int, 0 ≤ x0 ∧ x0 < 18446744073709551616 → 0 ≤ x1 ∧ x1 < 18446744073709551616 → 0 ≤ x2 ∧ x2 < 18446744073709551616 → 0 ≤ y0 ∧ y0 < 18446744073709551616 → 0 ≤ y1 ∧ y1 < 18446744073709551616 → 0 ≤ y2 ∧ y2 < 18446744073709551616 →
      x0 + x1 * 18446744073709551616 + x2 * 340282366920938463463374607431768211456 < y0 + y1 * 18446744073709551616 + y2 * 340282366920938463463374607431768211456 + 6277101735386680763835789423207666416102355444464034512896 := by
    intros; omega
  by_cases c3 : a3 < b3
  · rw [if_pos c3, if_pos (by omega)]
  rw [if_neg c3]
  by_cases d3 : b3 < a3
  · rw [if_pos d3, if_neg (by omega), if_neg (by omega)]
  rw [if_neg d3]
  obtain rfl : a3 = b3 := by omega
  by_cases c2 : a2 < b2
  · rw [if_pos c2, if_pos (by omega)]
  rw [if_neg c2]
  by_cases d2 : b2 < a2
  · rw [if_pos d2, if_neg (by omega), if_neg (by omega)]
  rw [if_neg d2]
  obtain rfl : a2 = b2 := by omega
  by_cases c1 : a1 < b1
  · rw [if_pos c1, if_pos (by omega)]
  rw [if_neg c1]
  by_cases d1 : b1 < a1
  · rw [if_pos d1, if_neg (by omega), if_neg (by omega)]
  rw [if_neg d1]
  obtain rfl : a1 = b1 := by omega
  by_cases c0 : a0 < b0
  · rw [if_pos c0, if_pos (by omega)]
  rw [if_neg c0]
  by_cases d0 : b0 < a0
  · rw [if_pos d0, if_neg (by omega), if_neg (by omega)]
  rw [if_neg d0, if_neg (by omega), if_pos (by omega)]
theorem rcmp_calls (a b : Nat) (ha : a < W256) (hb : b < W256) (w : World) :
    Calls Try.prog 50 #[wV a, wV b] w fun e w' => e = .returned (.int .i64 (cmpN a b)) ∧ Below w.heap.size w w' := by
  rw [cmp_limbs a b ha hb]
  by_cases c3 : limb a 3 < limb b 3
  · rw [if_pos c3]; exact rcmp_lt3 a b c3 w
  rw [if_neg c3]
  by_cases d3 : limb b 3 < limb a 3
  · rw [if_pos d3]; exact rcmp_gt3 a b c3 d3 w
  rw [if_neg d3]
  by_cases c2 : limb a 2 < limb b 2
  · rw [if_pos c2]; exact rcmp_lt2 a b c3 d3 c2 w
  rw [if_neg c2]
  by_cases d2 : limb b 2 < limb a 2
  · rw [if_pos d2]; exact rcmp_gt2 a b c3 d3 c2 d2 w
  rw [if_neg d2]
  by_cases c1 : limb a 1 < limb b 1
  · rw [if_pos c1]; exact rcmp_lt1 a b c3 d3 c2 d2 c1 w
  rw [if_neg c1]
  by_cases d1 : limb b 1 < limb a 1
  · rw [if_pos d1]; exact rcmp_gt1 a b c3 d3 c2 d2 c1 d1 w
  rw [if_neg d1]
  by_cases c0 : limb a 0 < limb b 0
  · rw [if_pos c0]; exact rcmp_lt0 a b c3 d3 c2 d2 c1 d1 c0 w
  rw [if_neg c0]
  by_cases d0 : limb b 0 < limb a 0
  · rw [if_pos d0]; exact rcmp_gt0 a b c3 d3 c2 d2 c1 d1 c0 d0 w
  rw [if_neg d0]
  exact rcmp_eq a b c3 d3 c2 d2 c1 d1 c0 d0 w
end Go.Proofs.Ytbkhldaomalmoaa
