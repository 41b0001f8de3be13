/- word.Small, word.Cmp, quaestorref01.Cmp: what they answer, as numbers. -/
import Derived.Test.YtbkhldaomalmoaaSub
import Derived.Test.YtbkhldaomalmoaaBase
namespace Go.Proofs.Ytbkhldaomalmoaa
open Go.RowKit
attribute [local go_sem] wV

theorem or_zero (x y : Int) (h1 : 0 ≤ x) (h2 : x < 18446744073709551616) (h3 : 0 ≤ y) (h4 : y < 18446744073709551616) : (bits .or .u64 x y = 0 ↔ x = 0 ∧ y = 0) ∧ 0 ≤ bits .or .u64 x y ∧ bits .or .u64 x y < 18446744073709551616 := by
  rw [u64_or x y h1 h2 h3 h4]
  have hlt : x.toNat ||| y.toNat < 2 ^ 64 := Nat.or_lt_two_pow (by omega) (by omega)
  refine ⟨?_, by omega, by omega⟩
  constructor
  · intro h
    have h : x.toNat ||| y.toNat = 0 := by omega
    have := Nat.or_eq_zero_iff.1 h
    omega
  · rintro ⟨rfl, rfl⟩; rfl
theorem small_math (v : Nat) (h : v < W256) : (bits .or .u64 (bits .or .u64 (limb v 1) (limb v 2)) (limb v 3) != 0) = !decide (v < 18446744073709551616) := by
  have p1 := limb_bd v 1; have p2 := limb_bd v 2; have p3 := limb_bd v 3
  obtain ⟨a1, a2, a3⟩ := or_zero _ _ p1.1 p1.2 p2.1 p2.2
  obtain ⟨b1, b2, b3⟩ := or_zero _ _ a2 a3 p3.1 p3.2
  have key : bits .or .u64 (bits .or .u64 (limb v 1) (limb v 2)) (limb v 3) = 0 ↔ v < 18446744073709551616 := by
    rw [b1, a1, limb1, limb2, limb3]
    unfold W256 at h
    omega
  by_cases hv : v < 18446744073709551616
  · simp [hv, key.2 hv]
  · simp [hv, key]
theorem small_yes (v : Nat) (h : v < 18446744073709551616) (w : World) :
    Calls Try.prog 29 #[wV v] w fun e w' => e = .returned (.tuple #[.int .u64 (v : Int), .bool true]) ∧ Grw w w' := by
  have hm := small_math v (by unfold W256; omega)
  rw [decide_eq_true h] at hm
  have h0 : limb v 0 = v := by rw [limb0]; omega
  simp only [wV]
  go_enter Try.func29, Try.ntmps29
  go_wp2
  go_ret2
  exact ⟨rfl, (Grw.refl _).alloc _⟩
theorem small_no (v : Nat) (hv : v < W256) (h : ¬ v < 18446744073709551616) (w : World) :
    Calls Try.prog 29 #[wV v] w fun e w' => e = .returned (.tuple #[.int .u64 0, .bool false]) ∧ Grw w w' := by
  have hm := small_math v hv
  rw [decide_eq_false h] at hm
  clear h hv
  simp only [wV]
  go_enter Try.func29, Try.ntmps29
  go_wp2
  go_ret2
  exact ⟨rfl, (Grw.refl _).alloc _⟩

/-- -1, 0, 1 -/
def cmpN (a b : Nat) : Int := if a < b then -1 else if a = b then 0 else 1
theorem cmp_lt (a b : Nat) (ha : a < W256) (hb : b < W256) (h : a < b) (w : World) :
    Calls Try.prog 38 #[wV a, wV b] w fun e w' => e = .returned (.int .i64 (-1)) ∧ Grw w w' := by
  have hs := Lib.hid fun w => sub_calls a b ha hb w
  have hd : decide (a < b) = true := decide_eq_true h
  clear h ha hb
  simp only [wV]
  go_enter Try.func38, Try.ntmps38
  go_wp2_with (go_at_call 28; refine (hs.out _).mono ?_; rintro e w' ⟨rfl, hg⟩)
  go_ret
  refine ⟨rfl, ?_⟩
  exact (Grw.trans (((Grw.refl _).alloc _).alloc _) hg).alloc _
set_option maxRecDepth 100000 in
theorem cmp_eq (a : Nat) (ha : a < W256) (w : World) :
    Calls Try.prog 38 #[wV a, wV a] w fun e w' => e = .returned (.int .i64 0) ∧ Grw w w' := by
  have hs := Lib.hid fun w => sub_calls a a ha ha w
  have hd : decide (a < a) = false := decide_eq_false (by omega)
  have he := fun w => eqW' ha ha w
  clear ha
  simp only [wV]
  go_enter Try.func38, Try.ntmps38
  go_wp2_with (go_at_call 28; refine (hs.out _).mono ?_; rintro e w' ⟨rfl, hg⟩; have hb := hg.below; obtain ⟨hc, hf⟩ := bcell hb; have hz1 : w.heap.size < w'.heap.size := (by have := hb.size; simp at this; omega); have hz2 : w.heap.size + 1 < w'.heap.size := (by have := hb.size; simp at this; omega))
  go_ret
  refine ⟨rfl, ?_⟩
  exact (Grw.trans (((Grw.refl _).alloc _).alloc _) hg).alloc _
set_option maxRecDepth 100000 in
theorem cmp_gt (a b : Nat) (ha : a < W256) (hb : b < W256) (h : b < a) (w : World) :
    Calls Try.prog 38 #[wV a, wV b] w fun e w' => e = .returned (.int .i64 1) ∧ Grw w w' := by
  have hs := Lib.hid fun w => sub_calls a b ha hb w
  have hd : decide (a < b) = false := decide_eq_false (by omega)
  have he := fun w => eqW' ha hb w
  rw [decide_eq_false (show ¬ a = b by omega)] at he
  clear h ha hb
  simp only [wV]
  go_enter Try.func38, Try.ntmps38
  go_wp2_with (go_at_call 28; refine (hs.out _).mono ?_; rintro e w' ⟨rfl, hg⟩; have hb := hg.below; obtain ⟨hc, hf⟩ := bcell hb; have hz1 : w.heap.size < w'.heap.size := (by have := hb.size; simp at this; omega); have hz2 : w.heap.size + 1 < w'.heap.size := (by have := hb.size; simp at this; omega))
  go_ret
  refine ⟨rfl, ?_⟩
  exact (Grw.trans (((Grw.refl _).alloc _).alloc _) hg).alloc _
theorem cmp_calls (a b : Nat) (ha : a < W256) (hb : b < W256) (w : World) :
    Calls Try.prog 38 #[wV a, wV b] w fun e w' => e = .returned (.int .i64 (cmpN a b)) ∧ Grw w w' := by
  unfold cmpN
  by_cases h : a < b
  · rw [if_pos h]; exact cmp_lt a b ha hb h w
  · rw [if_neg h]
    by_cases h2 : a = b
    · subst h2; rw [if_pos rfl]; exact cmp_eq a ha w
    · rw [if_neg h2]; exact cmp_gt a b ha hb (by omega) w
end Go.Proofs.Ytbkhldaomalmoaa
