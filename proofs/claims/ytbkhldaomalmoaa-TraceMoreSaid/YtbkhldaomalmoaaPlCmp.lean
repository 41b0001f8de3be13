/- trace.compare: as the places' numbers. -/
import Derived.Test.YtbkhldaomalmoaaCompare
import Derived.Test.YtbkhldaomalmoaaOp
namespace Go.Proofs.Ytbkhldaomalmoaa
open Go.RowKit
attribute [local go_sem] wV

attribute [local go_sem ↓] exec_loadP
/-- two places lie at the heads of two blocks -/
structure TCS (b : Nat) (p q : Pl) (W : World) : Prop where
  sz : b + 1 < W.heap.size
  r1 : W.rangeAt b 0 (plC p)
  r2 : W.rangeAt (b + 1) 0 (plC q)
theorem TCS.grw {b : Nat} {p q : Pl} {W W1 : World} (h : TCS b p q W) (hg : Grw W W1) : TCS b p q W1 :=
  ⟨Nat.lt_of_lt_of_le h.sz hg.below.size, rangeAt_grw h.r1 hg, rangeAt_grw h.r2 hg⟩
theorem keepS {b : Nat} {p q : Pl} {w W W1 : World} (h : TCS b p q W ∧ Grw w W) (hg : Grw W W1) : TCS b p q W1 ∧ Grw w W1 := ⟨h.1.grw hg, h.2.trans hg⟩
theorem keepA {b : Nat} {p q : Pl} {w W : World} (h : TCS b p q W ∧ Grw w W) (o : Obj) : TCS b p q (W.alloc o) ∧ Grw w (W.alloc o) := keepS h ((Grw.refl _).alloc o)
/-- the three tests as one number -/
theorem code_cmp (p q : Pl) (hp : p.Ok) (hq : q.Ok) : or3 (cmpN p.addr q.addr) (cmpI (sideN p.whole) (sideN q.whole)) (cmpN p.key q.key) = cmpN p.code q.code := by
  have h1 := hp.key
  have h2 := hq.key
  have hw := W256_pos
  obtain ⟨a, b, c⟩ := p
  obtain ⟨a', b', c'⟩ := q
  simp only [Pl.code] at *
  generalize W256 = W at *
  rcases Nat.lt_trichotomy a a' with h3 | h3 | h3
  · have := Nat.mul_le_mul_right (2 * W) (show a + 1 ≤ a' from h3)
    rw [Nat.add_mul] at this
    have hlt : a * (2 * W) + (if b = true then 0 else W) + c < a' * (2 * W) + (if b' = true then 0 else W) + c' := by
      split <;> split <;> omega
    simp [or3, cmpN, if_pos h3, if_pos hlt]
  · subst h3
    have e : cmpN a a = 0 := by simp [cmpN]
    rw [or3, if_neg (by simp [e])]
    cases b <;> cases b' <;> simp [cmpI, cmpN, sideN] <;> omega
  · have := Nat.mul_le_mul_right (2 * W) (show a' + 1 ≤ a from h3)
    rw [Nat.add_mul] at this
    have hlt : a' * (2 * W) + (if b' = true then 0 else W) + c' < a * (2 * W) + (if b = true then 0 else W) + c := by
      split <;> split <;> omega
    rw [or3, if_pos]
    · rw [cmpN, if_neg (by omega), if_neg (by omega), cmpN, if_neg (by omega), if_neg (by omega)]
    · rw [cmpN, if_neg (by omega), if_neg (by omega)]; decide

set_option maxRecDepth 100000 in
set_option maxHeartbeats 4000000 in
theorem tcompare_calls (p q : Pl) (hp : p.Ok) (hq : q.Ok) (w : World) : Calls Try.prog 20 #[plV p, plV q] w fun e w' => e = .returned (.int .i64 (cmpN p.code q.code)) ∧ Grw w w' := by
  rw [← code_cmp p q hp hq]
  have hl := plC_len p
  have hl' := plC_len q
  have f1 : ∀ W, TCS w.heap.size p q W → LD 50 (.pointer (some ⟨w.heap.size, 0, none⟩)) W = .ok (plV p) W := fun W h => LD_place h.r1
  have f2 : ∀ W, TCS w.heap.size p q W → LD 50 (.pointer (some ⟨w.heap.size + 1, 0, none⟩)) W = .ok (plV q) W := fun W h => LD_place h.r2
  have k1 : ∀ W, TCS w.heap.size p q W → W.cell? ⟨w.heap.size, 21, none⟩ = some (.int .u64 (limb p.key 0)) := fun W h => range_cell h.r1 21 (plC_key p 0 (by decide))
  have k2 : ∀ W, TCS w.heap.size p q W → W.cell? ⟨w.heap.size, 22, none⟩ = some (.int .u64 (limb p.key 1)) := fun W h => range_cell h.r1 22 (plC_key p 1 (by decide))
  have k3 : ∀ W, TCS w.heap.size p q W → W.cell? ⟨w.heap.size, 23, none⟩ = some (.int .u64 (limb p.key 2)) := fun W h => range_cell h.r1 23 (plC_key p 2 (by decide))
  have k4 : ∀ W, TCS w.heap.size p q W → W.cell? ⟨w.heap.size, 24, none⟩ = some (.int .u64 (limb p.key 3)) := fun W h => range_cell h.r1 24 (plC_key p 3 (by decide))
  have l1 : ∀ W, TCS w.heap.size p q W → W.cell? ⟨w.heap.size + 1, 21, none⟩ = some (.int .u64 (limb q.key 0)) := fun W h => range_cell h.r2 21 (plC_key q 0 (by decide))
  have l2 : ∀ W, TCS w.heap.size p q W → W.cell? ⟨w.heap.size + 1, 22, none⟩ = some (.int .u64 (limb q.key 1)) := fun W h => range_cell h.r2 22 (plC_key q 1 (by decide))
  have l3 : ∀ W, TCS w.heap.size p q W → W.cell? ⟨w.heap.size + 1, 23, none⟩ = some (.int .u64 (limb q.key 2)) := fun W h => range_cell h.r2 23 (plC_key q 2 (by decide))
  have l4 : ∀ W, TCS w.heap.size p q W → W.cell? ⟨w.heap.size + 1, 24, none⟩ = some (.int .u64 (limb q.key 3)) := fun W h => range_cell h.r2 24 (plC_key q 3 (by decide))
  have hpa := Lib.hid hp.addr
  have hqa := Lib.hid hq.addr
  have hpk := Lib.hid hp.key
  have hqk := Lib.hid hq.key
  clear hp hq
  unfold plV
  go_enter Try.func20, Try.ntmps20
  go_wp2
  have hS0 : TCS w.heap.size p q ((w.alloc (.cells (plC p).toArray 50)).alloc (.cells (plC q).toArray 50)).drew ∧ Grw w ((w.alloc (.cells (plC p).toArray 50)).alloc (.cells (plC q).toArray 50)).drew := by
    refine ⟨⟨by simp, ?_, ?_⟩, (((Grw.refl _).alloc _).alloc _).drew⟩
    · exact range_block (t := 50) (fr := (0, 0)) (at_old (at_new _ _ rfl) _)
    · exact range_block (t := 50) (fr := (0, 0)) (at_new _ _ (by simp))
  go_region_held3 (fun w' => TCS w.heap.size p q w' ∧ Grw w w') (first | assumption | exact keepS (by assumption) (by assumption) | exact keepA (by assumption) _)
    (first
     | (go_at_call 36; refine (bcompare_calls _ _ _ p.addr _ _ q.addr hpa.out hqa.out (range_addr (And.left ‹TCS w.heap.size p q _ ∧ Grw w _›).r1) (range_addr (And.left ‹TCS w.heap.size p q _ ∧ Grw w _›).r2)).mono ?_; rintro e w' ⟨rfl, rfl⟩)
     | (go_at_call 34; refine (side_calls p _).mono ?_; rintro e w' ⟨rfl, hg⟩)
     | (go_at_call 34; refine (side_calls q _).mono ?_; rintro e w' ⟨rfl, hg⟩)
     | (go_at_call 37; refine (icompare_calls _ _ _).mono ?_; rintro e w' ⟨rfl, rfl⟩)
     | (go_at_call 38; refine (cmp_calls p.key q.key hpk.out hqk.out _).mono ?_; rintro e w' ⟨rfl, hg⟩)
     | (go_at_call 35; refine (or_calls _ _ _ _ _ (cell_in (at_new _ _ rfl) 0 rfl) (cell_in (at_new _ _ rfl) 1 rfl) (cell_in (at_new _ _ rfl) 2 rfl)).mono ?_; rintro e w' ⟨rfl, rfl⟩))
  go_wp2
  go_ret
  exact ⟨rfl, And.right ‹TCS w.heap.size p q _ ∧ Grw w _›⟩
end Go.Proofs.Ytbkhldaomalmoaa
