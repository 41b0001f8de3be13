/- word.Read, quaestorref01.Read at twenty bytes. (Printed by wip/tpl/gen_read.py.) -/
import Derived.Test.YtbkhldaomalmoaaBase
import Derived.Deep.QuietTactic
import Derived.BigQuiet
namespace Go.Proofs.Ytbkhldaomalmoaa
open Go.RowKit
attribute [local go_sem] wV

theorem byteOf_rev (n v k : Nat) (h : k < n) : byteOf n v (n - 1 - k) = ((v / 256 ^ k % 256 : Nat) : Int) := by
  unfold byteOf
  rw [show n - 1 - (n - 1 - k) = k by omega]
theorem wrap_byte (n v i : Nat) : IntKind.u64.wrap (byteOf n v i) = byteOf n v i := by
  have := byteOf_bd n v i
  simp [IntKind.wrap, IntKind.bits, IntKind.signed]
  omega
/-- limb j of the lowest k bytes -/
def cw (v k j : Nat) : Int := limb (v % 256 ^ k) j
theorem cw_at (v q r : Nat) (hr : r ≤ 8) : cw v (8 * q + r) q = ((v / 18446744073709551616 ^ q % 256 ^ r : Nat) : Int) := by
  unfold cw limb
  rw [show (18446744073709551616 : Nat) = 256 ^ 8 by decide, ← Nat.pow_mul, Nat.pow_add, Nat.mod_mul_right_div_self]
  rw [Nat.mod_eq_of_lt (b := 256 ^ 8)]
  exact Nat.lt_of_lt_of_le (Nat.mod_lt _ (Nat.pow_pos (by decide))) (Nat.pow_le_pow_right (by decide) hr)
theorem cw_low (v k j : Nat) (h : 8 * (j + 1) ≤ k) : cw v k j = limb v j := by
  unfold cw limb
  obtain ⟨d, rfl⟩ : ∃ d, k = 8 * j + (8 + d) := ⟨k - 8 * j - 8, by omega⟩
  rw [show (18446744073709551616 : Nat) = 256 ^ 8 by decide, ← Nat.pow_mul, Nat.pow_add, Nat.mod_mul_right_div_self, Nat.pow_add, Nat.mod_mul_right_mod]
theorem cw_high (v k j : Nat) (h : k ≤ 8 * j) : cw v k j = 0 := by
  unfold cw limb
  rw [show (18446744073709551616 : Nat) = 256 ^ 8 by decide, ← Nat.pow_mul, Nat.div_eq_of_lt]
  · rfl
  · exact Nat.lt_of_lt_of_le (Nat.mod_lt _ (Nat.pow_pos (by decide))) (Nat.pow_le_pow_right (by decide) h)
theorem cw_other (v q r j : Nat) (hr : r < 8) (h : j ≠ q) : cw v (8 * q + r) j = cw v (8 * q + r + 1) j := by
  rcases Nat.lt_or_gt_of_ne h with h | h
  · rw [cw_low v _ j (by omega), cw_low v _ j (by omega)]
  · rw [cw_high v _ j (by omega), cw_high v _ j (by omega)]
theorem or_high (m r : Nat) : (m % 256 ^ r) ||| (m / 256 ^ r % 256 * 256 ^ r) = m % 256 ^ (r + 1) := by
  rw [Nat.or_comm, show (256 : Nat) ^ r = 2 ^ (8 * r) by rw [Nat.pow_mul]]
  rw [nat_join (8 * r) _ _ (by simp) (Nat.mod_lt _ (Nat.two_pow_pos _))]
  rw [show (256 : Nat) ^ (r + 1) = 2 ^ (8 * r) * 256 by rw [Nat.pow_succ, Nat.pow_mul]]
  rw [Nat.mod_mul, Nat.mul_comm (2 ^ (8 * r)) (m / 2 ^ (8 * r) % 256)]
  omega
theorem cw_step (n v q r : Nat) (hr : r < 8) (h : 8 * q + r < n) :
    bits BinOp.or IntKind.u64 (cw v (8 * q + r) q) (IntKind.u64.wrap (byteOf n v (n - 1 - (8 * q + r)) * ((256 ^ r : Nat) : Int))) = cw v (8 * q + r + 1) q := by
  rw [byteOf_rev n v _ h]
  have e1 : v / 256 ^ (8 * q + r) = v / 18446744073709551616 ^ q / 256 ^ r := by
    rw [Nat.div_div_eq_div_mul, show (18446744073709551616 : Nat) = 256 ^ 8 by decide, ← Nat.pow_mul, ← Nat.pow_add]
  rw [e1, cw_at v q r (by omega), show 8 * q + r + 1 = 8 * q + (r + 1) by omega, cw_at v q (r + 1) (by omega)]
  generalize v / 18446744073709551616 ^ q = m
  have hb : m / 256 ^ r % 256 < 256 := Nat.mod_lt _ (by decide)
  have h2 : 0 < (256 : Nat) ^ r := Nat.pow_pos (by decide)
  have hp : (256 : Nat) ^ r * 256 ≤ 18446744073709551616 := by
    rw [← Nat.pow_succ, show (18446744073709551616 : Nat) = 256 ^ 8 by decide]
    exact Nat.pow_le_pow_right (by decide) (by omega)
  have hlt : m / 256 ^ r % 256 * 256 ^ r < 18446744073709551616 := by
    have h1 : m / 256 ^ r % 256 * 256 ^ r ≤ 255 * 256 ^ r := Nat.mul_le_mul_right _ (by omega)
    omega
  have hm : m % 256 ^ r < 18446744073709551616 := by
    have h3 : m % 256 ^ r < 256 ^ r := Nat.mod_lt _ h2
    omega
  have ew : IntKind.u64.wrap (((m / 256 ^ r % 256 : Nat) : Int) * ((256 ^ r : Nat) : Int)) = ((m / 256 ^ r % 256 * 256 ^ r : Nat) : Int) := by
    rw [← Int.natCast_mul]
    generalize m / 256 ^ r % 256 * 256 ^ r = z at *
    simp [IntKind.wrap, IntKind.bits, IntKind.signed]
    omega
  rw [ew, u64_or_nat _ _ hm hlt, or_high m r]
theorem cw_step0 (n v q : Nat) (h : 8 * q < n) : bits BinOp.or IntKind.u64 (cw v (8 * q) q) (IntKind.u64.wrap (IntKind.u64.wrap (byteOf n v (n - 1 - 8 * q)))) = cw v (8 * q + 1) q := by
  have := cw_step n v q 0 (by decide) h
  simp only [Nat.add_zero, Nat.pow_zero, Int.natCast_one, Int.mul_one] at this
  rw [wrap_byte]
  exact this
theorem cw_stepc (n v q r : Nat) (hr : r < 8) (h : 8 * q + r < n) (c : Int) (hc : c = ((256 ^ r : Nat) : Int)) :
    bits BinOp.or IntKind.u64 (cw v (8 * q + r) q) (IntKind.u64.wrap (IntKind.u64.wrap (byteOf n v (n - 1 - (8 * q + r))) * c)) = cw v (8 * q + r + 1) q := by
  subst hc
  rw [wrap_byte]
  exact cw_step n v q r hr h
/-- the cells of the word that grows -/
def cwC (v k : Nat) : Array Value := #[.int .u64 (cw v k 0), .int .u64 (cw v k 1), .int .u64 (cw v k 2), .int .u64 (cw v k 3)]
theorem cwC_zero (v : Nat) : cwC v 0 = #[.int .u64 0, .int .u64 0, .int .u64 0, .int .u64 0] := by
  simp [cwC, cw_high v 0]
theorem cwC_full (v n : Nat) (h : v < 256 ^ n) : cwC v n = #[.int .u64 (limb v 0), .int .u64 (limb v 1), .int .u64 (limb v 2), .int .u64 (limb v 3)] := by
  simp [cwC, cw, Nat.mod_eq_of_lt h]
theorem cwC_next (v q r : Nat) (hr : r < 8) (hq : q < 4) : (cwC v (8 * q + r)).setIfInBounds q (.int .u64 (cw v (8 * q + r + 1) q)) = cwC v (8 * q + r + 1) := by
  have h := cw_other v q r
  have hc : q = 0 ∨ q = 1 ∨ q = 2 ∨ q = 3 := by omega
  rcases hc with rfl | rfl | rfl | rfl
  · simp [cwC]
    exact ⟨by simpa using h 1 hr (by decide), by simpa using h 2 hr (by decide), by simpa using h 3 hr (by decide)⟩
  · simp [cwC]
    exact ⟨by simpa using h 0 hr (by decide), by simpa using h 2 hr (by decide), by simpa using h 3 hr (by decide)⟩
  · simp [cwC]
    exact ⟨by simpa using h 0 hr (by decide), by simpa using h 1 hr (by decide), by simpa using h 3 hr (by decide)⟩
  · simp [cwC]
    exact ⟨by simpa using h 0 hr (by decide), by simpa using h 1 hr (by decide), by simpa using h 2 hr (by decide)⟩

end Go.Proofs.Ytbkhldaomalmoaa