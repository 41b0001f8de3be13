/- word.Sub, word.Small, word.Cmp: what they answer, as numbers. -/
import Derived.Test.YtbkhldaomalmoaaBase
namespace Go.Proofs.Ytbkhldaomalmoaa
open Go.RowKit
attribute [local go_sem] wV

/-- a borrow -/
def bor (x y b : Int) : Int := if x < y + b then 1 else 0
theorem bor_bd (x y b : Int) : 0 ≤ bor x y b ∧ bor x y b ≤ 1 := by unfold bor; split <;> omega
def sub64Entry : Array Value → Sem Value := fun args => do
  let (x, y, b) ← Extern.MathBitsCarry.three "Sub64" args
  pure (Extern.MathBitsCarry.pair ((x + Extern.MathBitsCarry.m64 - y - b) % Extern.MathBitsCarry.m64) (if x < y + b then 1 else 0))
theorem run_sub64E {P : Program} (x y c : Int) (hx : 0 ≤ x) (hy : 0 ≤ y) (hy' : y < 18446744073709551616) (hc0 : 0 ≤ c) (hc : c ≤ 1) (w : World) :
    (sub64Entry #[.int .u64 x, .int .u64 y, .int .u64 c]).run P w =
      .ok (.tuple #[.int .u64 ((x - y - c) % 18446744073709551616), .int .u64 (bor x y c)]) w := by
  have key : ∀ k : Nat, k ≤ 1 → (sub64Entry #[.int .u64 x, .int .u64 y, .int .u64 (k : Int)]).run P w =
      .ok (Extern.MathBitsCarry.pair ((x.toNat + Extern.MathBitsCarry.m64 - y.toNat - k) % Extern.MathBitsCarry.m64) (if x.toNat < y.toNat + k then 1 else 0)) w := by
    intro k hk
    have : k = 0 ∨ k = 1 := by omega
    rcases this with rfl | rfl <;> rfl
  obtain ⟨k, rfl⟩ := Int.eq_ofNat_of_zero_le hc0
  rw [key k (by omega)]
  obtain ⟨X, rfl⟩ := Int.eq_ofNat_of_zero_le hx
  obtain ⟨Y, rfl⟩ := Int.eq_ofNat_of_zero_le hy
  simp only [Extern.MathBitsCarry.pair, Extern.MathBitsCarry.m64, Int.toNat_natCast]
  have e1 : Int.ofNat ((X + 2 ^ 64 - Y - k) % 2 ^ 64) = ((X : Int) - Y - k) % 18446744073709551616 := by simp; omega
  have e2 : Int.ofNat (if X < Y + k then 1 else 0) = bor X Y k := by unfold bor; split <;> split <;> simp <;> omega
  rw [e1, e2]
theorem sub64 (x y c : Int) (hx : 0 ≤ x) (hy : 0 ≤ y) (hy' : y < 18446744073709551616) (hc0 : 0 ≤ c) (hc : c ≤ 1) (w : World) :
    (callFunc 44 #[.int .u64 x, .int .u64 y, .int .u64 c]).run Try.prog w =
      .ok (.value (.tuple #[.int .u64 ((x - y - c) % 18446744073709551616), .int .u64 (bor x y c)])) w := by
  rw [run_callFunc_extern (f := 44) (fn := Try.f44) (e := sub64Entry) Try.func44 (by kernel_rfl) (by kernel_rfl) (by kernel_rfl) (by kernel_rfl)]
  rw [run_sub64E x y c hx hy hy' hc0 hc]
  rfl

/-- one step of a subtraction -/
theorem bor_step (x y b : Int) (hx : 0 ≤ x) (hx' : x < 18446744073709551616) (hy : 0 ≤ y) (hy' : y < 18446744073709551616) (hb : 0 ≤ b) (hb' : b ≤ 1) :
    x - y - b = (x - y - b) % 18446744073709551616 - bor x y b * 18446744073709551616 := by
  unfold bor; split <;> omega
def sb0 (a b : Nat) : Int := bor (limb a 0) (limb b 0) 0
def sb1 (a b : Nat) : Int := bor (limb a 1) (limb b 1) (sb0 a b)
def sb2 (a b : Nat) : Int := bor (limb a 2) (limb b 2) (sb1 a b)
def sb3 (a b : Nat) : Int := bor (limb a 3) (limb b 3) (sb2 a b)
theorem sub_lin (a0 a1 a2 a3 b0 b1 b2 b3 r0 r1 r2 r3 e0 e1 e2 e3 : Int) (s0 : a0 - b0 - 0 = r0 - e0 * 18446744073709551616) (s1 : a1 - b1 - e0 = r1 - e1 * 18446744073709551616) (s2 : a2 - b2 - e1 = r2 - e2 * 18446744073709551616) (s3 : a3 - b3 - e2 = r3 - e3 * 18446744073709551616) :
    (a0 + a1 * 18446744073709551616 + a2 * 340282366920938463463374607431768211456 + a3 * 6277101735386680763835789423207666416102355444464034512896) - (b0 + b1 * 18446744073709551616 + b2 * 340282366920938463463374607431768211456 + b3 * 6277101735386680763835789423207666416102355444464034512896) = r0 + r1 * 18446744073709551616 + r2 * 340282366920938463463374607431768211456 + r3 * 6277101735386680763835789423207666416102355444464034512896 - e3 * 115792089237316195423570985008687907853269984665640564039457584007913129639936 := by
  omega
theorem sub_fin (a b S : Nat) (e : Int) (ha : a < W256) (hb : b < W256) (hS : S < W256) (he : e = 0 ∨ e = 1) (h : (a : Int) - b = S - e * 115792089237316195423570985008687907853269984665640564039457584007913129639936) :
    (a + W256 - b) % W256 = S ∧ (e != 0) = decide (a < b) := by
  unfold W256 at *
  rcases he with rfl | rfl
  · have h : (a : Int) - b = S := by simpa using h
    refine ⟨by omega, ?_⟩
    have : ¬ a < b := by omega
    simp [this]
  · have h : (a : Int) - b = S - 115792089237316195423570985008687907853269984665640564039457584007913129639936 := by simpa using h
    refine ⟨by omega, ?_⟩
    have : a < b := by omega
    simp [this]
theorem emod_bd (x : Int) : 0 ≤ x % 18446744073709551616 ∧ x % 18446744073709551616 < 18446744073709551616 := ⟨Int.emod_nonneg _ (by decide), Int.emod_lt_of_pos _ (by decide)⟩
theorem sub_math (a b : Nat) (ha : a < W256) (hb : b < W256) :
    (Value.agg #[.int .u64 ((limb a 0 - limb b 0 - 0) % 18446744073709551616), .int .u64 ((limb a 1 - limb b 1 - sb0 a b) % 18446744073709551616), .int .u64 ((limb a 2 - limb b 2 - sb1 a b) % 18446744073709551616), .int .u64 ((limb a 3 - limb b 3 - sb2 a b) % 18446744073709551616)] = wV ((a + W256 - b) % W256)) ∧
    (sb3 a b != 0) = decide (a < b) := by
  have p0 := limb_bd a 0; have p1 := limb_bd a 1; have p2 := limb_bd a 2; have p3 := limb_bd a 3
  have q0 := limb_bd b 0; have q1 := limb_bd b 1; have q2 := limb_bd b 2; have q3 := limb_bd b 3
  have s0 := bor_step (limb a 0) (limb b 0) 0 p0.1 p0.2 q0.1 q0.2 (by decide) (by decide)
  have c0 := bor_bd (limb a 0) (limb b 0) 0
  have s1 := bor_step (limb a 1) (limb b 1) (sb0 a b) p1.1 p1.2 q1.1 q1.2 c0.1 c0.2
  have c1 := bor_bd (limb a 1) (limb b 1) (sb0 a b)
  have s2 := bor_step (limb a 2) (limb b 2) (sb1 a b) p2.1 p2.2 q2.1 q2.2 c1.1 c1.2
  have c2 := bor_bd (limb a 2) (limb b 2) (sb1 a b)
  have s3 := bor_step (limb a 3) (limb b 3) (sb2 a b) p3.1 p3.2 q3.1 q3.2 c2.1 c2.2
  have c3 : 0 ≤ sb3 a b ∧ sb3 a b ≤ 1 := bor_bd (limb a 3) (limb b 3) (sb2 a b)
  have L := sub_lin _ _ _ _ _ _ _ _ _ _ _ _ _ _ _ _ s0 s1 s2 s3
  rw [← limb_sum a ha, ← limb_sum b hb] at L
  clear s0 s1 s2 s3 c0 c1 c2 p0 p1 p2 p3 q0 q1 q2 q3
  have m0 := emod_bd (limb a 0 - limb b 0 - 0)
  have m1 := emod_bd (limb a 1 - limb b 1 - sb0 a b)
  have m2 := emod_bd (limb a 2 - limb b 2 - sb1 a b)
  have m3 := emod_bd (limb a 3 - limb b 3 - sb2 a b)
  generalize (limb a 0 - limb b 0 - 0) % 18446744073709551616 = r0 at *
  generalize (limb a 1 - limb b 1 - sb0 a b) % 18446744073709551616 = r1 at *
  generalize (limb a 2 - limb b 2 - sb1 a b) % 18446744073709551616 = r2 at *
  generalize (limb a 3 - limb b 3 - sb2 a b) % 18446744073709551616 = r3 at *
  obtain ⟨n0, rfl⟩ := Int.eq_ofNat_of_zero_le m0.1
  obtain ⟨n1, rfl⟩ := Int.eq_ofNat_of_zero_le m1.1
  obtain ⟨n2, rfl⟩ := Int.eq_ofNat_of_zero_le m2.1
  obtain ⟨n3, rfl⟩ := Int.eq_ofNat_of_zero_le m3.1
  have k0 : n0 < 18446744073709551616 := Int.ofNat_lt.1 m0.2
  have k1 : n1 < 18446744073709551616 := Int.ofNat_lt.1 m1.2
  have k2 : n2 < 18446744073709551616 := Int.ofNat_lt.1 m2.2
  have k3 : n3 < 18446744073709551616 := Int.ofNat_lt.1 m3.2
  have hs := limb_of n0 n1 n2 n3 k0 k1 k2 k3
  have hl := wsum_lt n0 n1 n2 n3 k0 k1 k2 k3
  have L' : (a : Int) - b = ((n0 + n1 * 18446744073709551616 + n2 * 340282366920938463463374607431768211456 + n3 * 6277101735386680763835789423207666416102355444464034512896 : Nat) : Int) - sb3 a b * 115792089237316195423570985008687907853269984665640564039457584007913129639936 := by
    rw [L]; rfl
  obtain ⟨F1, F2⟩ := sub_fin a b _ (sb3 a b) ha hb hl (by omega) L'
  exact ⟨by rw [F1, wV_eq, hs], F2⟩

set_option maxHeartbeats 1000000 in
theorem sub_calls (a b : Nat) (ha : a < W256) (hb : b < W256) (w : World) :
    Calls Try.prog 28 #[wV a, wV b] w fun e w' =>
      e = .returned (.tuple #[wV ((a + W256 - b) % W256), .bool (decide (a < b))]) ∧ Grw w w' := by
  obtain ⟨M1, M2⟩ := sub_math a b ha hb
  rw [← M1, ← M2]
  clear M1 M2 ha hb
  have p0 := limb_bd a 0; have p1 := limb_bd a 1; have p2 := limb_bd a 2; have p3 := limb_bd a 3
  have q0 := limb_bd b 0; have q1 := limb_bd b 1; have q2 := limb_bd b 2; have q3 := limb_bd b 3
  have e0 := fun w => sub64 (limb a 0) (limb b 0) 0 p0.1 q0.1 q0.2 (by omega) (by omega) w
  have e1 := fun w => sub64 (limb a 1) (limb b 1) (sb0 a b) p1.1 q1.1 q1.2 (bor_bd _ _ _).1 (bor_bd _ _ _).2 w
  have e2 := fun w => sub64 (limb a 2) (limb b 2) (sb1 a b) p2.1 q2.1 q2.2 (bor_bd _ _ _).1 (bor_bd _ _ _).2 w
  have e3 := fun w => sub64 (limb a 3) (limb b 3) (sb2 a b) p3.1 q3.1 q3.2 (bor_bd _ _ _).1 (bor_bd _ _ _).2 w
  rw [show bor (limb a 0) (limb b 0) 0 = sb0 a b from rfl] at e0
  rw [show bor (limb a 1) (limb b 1) (sb0 a b) = sb1 a b from rfl] at e1
  rw [show bor (limb a 2) (limb b 2) (sb1 a b) = sb2 a b from rfl] at e2
  rw [show bor (limb a 3) (limb b 3) (sb2 a b) = sb3 a b from rfl] at e3
  clear p0 p1 p2 p3 q0 q1 q2 q3
  simp only [wV]
  go_enter Try.func28, Try.ntmps28
  go_wp2
  refine wp_loop_rounds 5 ?_
  rw [rounds_succ]
  go_wp2
  go_region_held3 (fun w' => w'.cell? ⟨w.heap.size, 0, none⟩ = some (.int .u64 (limb a 0)) ∧ w'.cell? ⟨w.heap.size + 1, 0, none⟩ = some (.int .u64 (limb b 0))) (simp [go_sem, World.cell?_alloc_past]) (fail)
  go_wp2
  rw [rounds_succ]
  go_wp2
  go_region_held3 (fun w' => w'.cell? ⟨w.heap.size, 1, none⟩ = some (.int .u64 (limb a 1)) ∧ w'.cell? ⟨w.heap.size + 1, 1, none⟩ = some (.int .u64 (limb b 1))) (simp [go_sem, World.cell?_alloc_past]) (fail)
  go_wp2
  rw [rounds_succ]
  go_wp2
  go_region_held3 (fun w' => w'.cell? ⟨w.heap.size, 2, none⟩ = some (.int .u64 (limb a 2)) ∧ w'.cell? ⟨w.heap.size + 1, 2, none⟩ = some (.int .u64 (limb b 2))) (simp [go_sem, World.cell?_alloc_past]) (fail)
  go_wp2
  rw [rounds_succ]
  go_wp2
  go_region_held3 (fun w' => w'.cell? ⟨w.heap.size, 3, none⟩ = some (.int .u64 (limb a 3)) ∧ w'.cell? ⟨w.heap.size + 1, 3, none⟩ = some (.int .u64 (limb b 3))) (simp [go_sem, World.cell?_alloc_past]) (fail)
  go_wp2
  rw [rounds_succ]
  go_wp2
  refine bodyPost_ret (v := .tuple #[.agg #[.int .u64 ((limb a 0 - limb b 0 - 0) % 18446744073709551616), .int .u64 ((limb a 1 - limb b 1 - sb0 a b) % 18446744073709551616), .int .u64 ((limb a 2 - limb b 2 - sb1 a b) % 18446744073709551616), .int .u64 ((limb a 3 - limb b 3 - sb2 a b) % 18446744073709551616)], .bool (sb3 a b != 0)]) (by simp [results, Try.results28, go_sem]) rfl ⟨rfl, ?_⟩
  repeat (first | exact Grw.refl _ | refine Grw.drew ?_ | refine Grw.alloc ?_ _)
end Go.Proofs.Ytbkhldaomalmoaa
