/- '==' on words, addresses: one Bool each. -/
import Derived.Test.YtbkhldaomalmoaaBase
import Derived.Laws.StructEq
namespace Go.Proofs.Ytbkhldaomalmoaa
open Go.RowKit

def ints (k : IntKind) (xs : List Int) : List Value := xs.map fun x => .int k x
theorem all_range_int : ∀ (xs ys : List Int), xs.length = ys.length → ((List.range xs.length).all fun i => xs.getD i 0 == ys.getD i 0) = (xs == ys)
  | [], [], _ => rfl
  | x :: xs, y :: ys, h => by
    have ih := all_range_int xs ys (by simpa using h)
    rw [List.length_cons, List.range_succ_eq_map, List.all_cons, List.all_map]
    simp only [List.getD_cons_zero, Function.comp_def, List.getD_cons_succ, ih]
    simp [List.cons_beq_cons]
  | [], _ :: _, h => by simp at h
  | _ :: _, [], h => by simp at h
section
variable {P : Program} (w : World)
theorem run_equalIn_ints (d : Nat) (t e : TypeId) (n : Nat) (k : IntKind) (ht : P.underlying t = some (.array n e)) (he : P.underlying e = some (.int k)) (hsz : ∀ w, (sizeOf e).run P w = .ok 1 w)
    (xs ys : List Int) (hx : xs.length = n) (hy : ys.length = n) :
    (Op.equalIn (d + 2) t (.agg (ints k xs).toArray) (.agg (ints k ys).toArray)).run P w = .ok (xs == ys) w := by
  rw [← all_range_int xs ys (hx.trans hy.symm), hx, List.range_eq_range', Op.equalIn]
  simp only [Sem.run_bind, run_underlying ht, Result.andThen_ok, hsz, Std.Legacy.Range.forIn_eq_forIn_range', Std.Legacy.Range.size, Nat.sub_zero, Nat.add_sub_cancel, Nat.div_one]
  have hl : ∀ i ∈ List.range' 0 n 1, i < n := fun i hi => by simpa using (List.mem_range'_1.1 hi).2
  generalize List.range' 0 n 1 = l at hl ⊢
  induction l with
  | nil => simp
  | cons i l ih =>
    have hi : i < n := hl i (by simp)
    have px : (part e (ints k xs).toArray (i * 1)).run P w = .ok (.int k (xs.getD i 0)) w := by
      simp [part, isAgg, run_underlying he, List.getD, ints, List.getElem?_eq_getElem (show i < xs.length by omega)]
    have py : (part e (ints k ys).toArray (i * 1)).run P w = .ok (.int k (ys.getD i 0)) w := by
      simp [part, isAgg, run_underlying he, List.getD, ints, List.getElem?_eq_getElem (show i < ys.length by omega)]
    have pe : (Op.equalIn (d + 1) e (.int k (xs.getD i 0)) (.int k (ys.getD i 0))).run P w = .ok (xs.getD i 0 == ys.getD i 0) w := run_equalIn_int w d e k k _ _ he
    simp only [List.forIn_cons, Sem.run_bind, px, py, pe, Result.andThen_ok, List.all_cons]
    cases hb : (xs.getD i 0 == ys.getD i 0)
    · simp
    · simp only [Bool.not_true, Bool.false_eq_true, if_false, Sem.run_pure, Result.andThen_ok, Bool.true_and]
      exact ih fun j hj => hl j (by simp [hj])
end

/-! ### words -/
theorem limbs_ne {a b : Nat} (ha : a < W256) (hb : b < W256) (h : a ≠ b) : ¬ (limb a 0 = limb b 0 ∧ limb a 1 = limb b 1 ∧ limb a 2 = limb b 2 ∧ limb a 3 = limb b 3) := by
  rintro ⟨h0, h1, h2, h3⟩
  exact h (wC_inj ha hb (by simp [wC, h0, h1, h2, h3]))
theorem limbs_eq {a b : Nat} (ha : a < W256) (hb : b < W256) : ([limb a 0, limb a 1, limb a 2, limb a 3] == [limb b 0, limb b 1, limb b 2, limb b 3]) = decide (a = b) := by
  by_cases h : a = b
  · subst h; simp
  · have := limbs_ne ha hb h
    rw [decide_eq_false h]
    simpa using this
/-- '==' of two words -/
theorem wV_ints (v : Nat) : wV v = .agg (ints .u64 [limb v 0, limb v 1, limb v 2, limb v 3]).toArray := by simp [wV, ints]
theorem eqW {a b : Nat} (ha : a < W256) (hb : b < W256) (d : Nat) (w : World) : (Op.equalIn (d + 2) 36 (wV a) (wV b)).run Try.prog w = .ok (decide (a = b)) w := by
  rw [← limbs_eq ha hb, wV_ints, wV_ints]
  exact run_equalIn_ints w d 36 34 4 .u64 Try.underlying36 Try.underlying34 (fun w => by kernel_rfl) _ _ rfl rfl
theorem eqW' {a b : Nat} (ha : a < W256) (hb : b < W256) (w : World) : (Op.equalIn 10000 36 (.agg #[.int .u64 (limb a 0), .int .u64 (limb a 1), .int .u64 (limb a 2), .int .u64 (limb a 3)]) (.agg #[.int .u64 (limb b 0), .int .u64 (limb b 1), .int .u64 (limb b 2), .int .u64 (limb b 3)])).run Try.prog w = .ok (decide (a = b)) w :=
  eqW ha hb 9998 w

/-! ### addresses -/
theorem byte_sum (n v : Nat) (h : v < 256 ^ n) : (List.range n).foldl (fun s i => s * 256 + (byteOf n v i).toNat) 0 = v := by
  have key : ∀ k, k ≤ n → (List.range k).foldl (fun s i => s * 256 + (byteOf n v i).toNat) 0 = v / 256 ^ (n - k) := by
    intro k
    induction k with
    | zero => intro _; simp [Nat.div_eq_of_lt h]
    | succ k ih =>
      intro hk
      rw [List.range_succ, List.foldl_append, ih (by omega)]
      simp only [List.foldl_cons, List.foldl_nil, byteOf, Int.toNat_natCast]
      have e1 : n - k = (n - (k + 1)) + 1 := by omega
      have e2 : n - 1 - k = n - (k + 1) := by omega
      rw [e1, e2, Nat.pow_succ, ← Nat.div_div_eq_div_mul]
      omega
  have := key n (Nat.le_refl n)
  simpa using this
theorem bytes_inj {n a b : Nat} (ha : a < 256 ^ n) (hb : b < 256 ^ n) (h : (List.range n).map (byteOf n a) = (List.range n).map (byteOf n b)) : a = b := by
  rw [← byte_sum n a ha, ← byte_sum n b hb]
  have : ∀ (l : List Nat), (l.map (byteOf n a) = l.map (byteOf n b)) → ∀ s, l.foldl (fun s i => s * 256 + (byteOf n a i).toNat) s = l.foldl (fun s i => s * 256 + (byteOf n b i).toNat) s := by
    intro l
    induction l with
    | nil => intros; rfl
    | cons x l ih =>
      intro h s
      simp only [List.map_cons, List.cons.injEq] at h
      simp only [List.foldl_cons, h.1]
      exact ih h.2 _
  exact this _ h 0
theorem A160_eq : A160 = 256 ^ 20 := by decide
theorem aC_ints (v : Nat) : aC v = ints .u8 ((List.range 20).map (byteOf 20 v)) := by simp [aC, ints]
theorem aC_inj {a b : Nat} (ha : a < A160) (hb : b < A160) (h : aC a = aC b) : a = b := by
  rw [A160_eq] at ha hb
  refine bytes_inj ha hb ?_
  rw [aC_ints, aC_ints] at h
  exact List.map_inj_right (fun x y e => by injection e) |>.1 h
theorem eqA {a b : Nat} (ha : a < A160) (hb : b < A160) (d : Nat) (w : World) : (Op.equalIn (d + 2) 33 (aV a) (aV b)).run Try.prog w = .ok (decide (a = b)) w := by
  have h : ((List.range 20).map (byteOf 20 a) == (List.range 20).map (byteOf 20 b)) = decide (a = b) := by
    by_cases h : a = b
    · subst h; simp
    · rw [decide_eq_false h, beq_eq_false_iff_ne]
      intro e
      rw [A160_eq] at ha hb
      exact h (bytes_inj ha hb e)
  rw [← h, aV, aV, aC_ints, aC_ints]
  exact run_equalIn_ints w d 33 5 20 .u8 Try.underlying33 Try.underlying5 (fun w => by kernel_rfl) _ _ (by simp) (by simp)
end Go.Proofs.Ytbkhldaomalmoaa
