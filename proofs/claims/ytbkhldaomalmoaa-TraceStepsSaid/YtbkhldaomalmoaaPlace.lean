/- Places: their cells, their order, '=='. -/
import Derived.Test.YtbkhldaomalmoaaBase
import Derived.Laws.StructEq
namespace Go.Proofs.Ytbkhldaomalmoaa
open Go.RowKit

structure Pl where
  addr : Nat
  whole : Bool
  key : Nat
  deriving DecidableEq
structure Pl.Ok (p : Pl) : Prop where
  addr : p.addr < A160
  key : p.key < W256
def plC (p : Pl) : List Value := aC p.addr ++ [.bool p.whole] ++ wC p.key
def plV (p : Pl) : Value := .agg (plC p).toArray
theorem plC_len (p : Pl) : (plC p).length = 25 := by simp [plC, aC_len, wC_len]
theorem plC_one (p : Pl) : ∀ u ∈ plC p, u.oneCell' = true := by
  intro u hu
  simp only [plC, List.mem_append, List.mem_singleton] at hu
  rcases hu with (hu | rfl) | hu
  · exact aC_one _ u hu
  · rfl
  · exact wC_one _ u hu
theorem plC_addr (p : Pl) (i : Nat) (h : i < 20) : (plC p)[i]? = some (.int .u8 (byteOf 20 p.addr i)) := by
  rw [plC, List.append_assoc, List.getElem?_append_left (by rw [aC_len]; exact h), aC_get _ _ h]
theorem plC_whole (p : Pl) : (plC p)[20]? = some (.bool p.whole) := by
  rw [plC, List.append_assoc, List.getElem?_append_right (by rw [aC_len]; omega), aC_len]; rfl
theorem plC_key (p : Pl) (i : Nat) (h : i < 4) : (plC p)[21 + i]? = some (.int .u64 (limb p.key i)) := by
  rw [plC, List.getElem?_append_right (by simp [aC_len])]
  simp only [List.length_append, aC_len, List.length_singleton, show 21 + i - (20 + 1) = i by omega]
  rcases (show i = 0 ∨ i = 1 ∨ i = 2 ∨ i = 3 by omega) with rfl | rfl | rfl | rfl <;> rfl
theorem info_place : (Try.prog.info? 50).map (·.size) = some 25 := by kernel_rfl
theorem plC_extract_addr (p : Pl) : (plC p).toArray.extract 0 20 = (aC p.addr).toArray := by
  rw [← Array.toList_inj]
  simp [plC, List.extract, aC_len]
theorem plC_extract_key (p : Pl) : (plC p).toArray.extract 21 25 = (wC p.key).toArray := by
  rw [← Array.toList_inj]
  have h : (aC p.addr ++ [Value.bool p.whole]).length = 21 := by simp [aC_len]
  simp only [List.extract_toArray, List.extract, plC]
  rw [List.drop_append, List.drop_of_length_le (by omega), h]
  rfl
/-- '==' of two places -/
theorem eqP {p q : Pl} (hp : p.Ok) (hq : q.Ok) (w : World) : (Op.equalIn 10000 50 (plV p) (plV q)).run Try.prog w = .ok (decide (p = q)) w := by
  have hS : Try.prog.underlying 50 = some (.struct (Try.prog.fieldsOf 50)) := by kernel_rfl
  have hh : Try.prog.stoodInHeld 50 = false := by kernel_rfl
  have aA : ∀ w, (isAgg 33).run Try.prog w = .ok true w := fun w => by kernel_rfl
  have sA : ∀ w, (sizeOf 33).run Try.prog w = .ok 20 w := fun w => by kernel_rfl
  have aW : ∀ w, (isAgg 36).run Try.prog w = .ok true w := fun w => by kernel_rfl
  have sW : ∀ w, (sizeOf 36).run Try.prog w = .ok 4 w := fun w => by kernel_rfl
  have aB : ∀ w, (isAgg 4).run Try.prog w = .ok false w := fun w => by kernel_rfl
  have pA : ∀ p w, (part 33 (plC p).toArray 0).run Try.prog w = .ok (aV p.addr) w := fun p w => by
    simp only [part, Sem.run_bind, aA, sA, Result.andThen_ok, if_true, Nat.zero_add, plC_extract_addr, Sem.run_pure]; rfl
  have pW : ∀ p w, (part 36 (plC p).toArray 21).run Try.prog w = .ok (wV p.key) w := fun p w => by
    simp only [part, Sem.run_bind, aW, sW, Result.andThen_ok, if_true, Nat.reduceAdd, plC_extract_key, Sem.run_pure]; rfl
  have pB : ∀ p w, (part 4 (plC p).toArray 20).run Try.prog w = .ok (.bool p.whole) w := fun p w => by
    have := plC_whole p
    simp only [part, Sem.run_bind, aB, Result.andThen_ok, List.getElem?_toArray, this]
    simp
  rw [plV, plV, show (10000 : Nat) = 9999 + 1 from rfl, run_equalIn_agg w 9999 50 _ _ hS hh]
  have e1 := eqA hp.addr hq.addr 9997 w
  have e2 := eqW hp.key hq.key 9997 w
  have e3 := run_equalIn_bool' (P := Try.prog) w 9998 4 p.whole q.whole Try.underlying4
  simp only [Nat.reduceAdd] at e1 e2 e3
  simp only [Program.fieldsOf, Try.underlying50]
  simp only [Op.eqFields, Sem.run_bind, Sem.run_ite, Sem.run_pure]
  simp only [pA, pW, pB, e1, e2, e3, Result.andThen_ok]
  have hpq : p = q ↔ (p.addr = q.addr ∧ p.whole = q.whole ∧ p.key = q.key) := by
    cases p; cases q; simp
  by_cases h1 : p.addr = q.addr <;> by_cases h2 : p.whole = q.whole <;> by_cases h3 : p.key = q.key <;> simp [hpq, h1, h2, h3, pA, pW, pB, e1, e2, e3]
theorem eqP_bin {p q : Pl} (hp : p.Ok) (hq : q.Ok) (w : World) : (binOp .eql 50 (plV p) (plV q)).run Try.prog w = .ok (.bool (decide (p = q))) w := by
  rw [plV, plV, run_eql_struct]
  have := eqP hp hq w
  rw [plV, plV] at this
  rw [this]; rfl
theorem neP_bin {p q : Pl} (hp : p.Ok) (hq : q.Ok) (w : World) : (binOp .neq 50 (plV p) (plV q)).run Try.prog w = .ok (.bool (!decide (p = q))) w := by
  rw [plV, plV, run_neq_struct]
  have := eqP hp hq w
  rw [plV, plV] at this
  rw [this]; rfl
theorem eqP_guard (p q : Pl) (op : BinOp) (x y : Operand) (w : World) : (eqGuard op 50 x y (plV p) (plV q)).run Try.prog w = .ok () w :=
  run_eqGuard_agg (P := Try.prog) w op 50 x y _ _ (by kernel_rfl)
/-- the order of places, as a number -/
def Pl.code (p : Pl) : Nat := p.addr * (2 * W256) + (if p.whole then 0 else W256) + p.key
theorem Pl.code_inj {p q : Pl} (hp : p.Ok) (hq : q.Ok) (h : p.code = q.code) : p = q := by
  obtain ⟨a, b, c⟩ := p
  obtain ⟨a', b', c'⟩ := q
  have h1 := hp.key
  have h2 := hq.key
  simp only [Pl.code] at *
  have hw := W256_pos
  generalize W256 = W at *
  have ha : a = a' := by
    rcases Nat.lt_trichotomy a a' with h3 | h3 | h3
    · have := Nat.mul_le_mul_right (2 * W) (show a + 1 ≤ a' from h3)
      rw [Nat.add_mul] at this
      split at h <;> split at h <;> omega
    · exact h3
    · have := Nat.mul_le_mul_right (2 * W) (show a' + 1 ≤ a from h3)
      rw [Nat.add_mul] at this
      split at h <;> split at h <;> omega
  subst ha
  cases b <;> cases b' <;> simp at h ⊢ <;> omega
end Go.Proofs.Ytbkhldaomalmoaa
