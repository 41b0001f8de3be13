/- trace.Belongs. -/
import Derived.Test.YtbkhldaomalmoaaIndex
namespace Go.Proofs.Ytbkhldaomalmoaa
open Go.RowKit
attribute [local go_sem ↓] exec_load

theorem eqW_bin {a b : Nat} (ha : a < W256) (hb : b < W256) (w : World) : (binOp .eql 36 (wV a) (wV b)).run Try.prog w = .ok (.bool (decide (a = b))) w := by
  have h := eqW ha hb 9998 w
  rw [wV, wV, run_eql_struct]
  rw [wV, wV] at h
  rw [h]; rfl
theorem W_guard2 (a b : Nat) (op : BinOp) (x y : Operand) (w : World) : (eqGuard op 36 x y (wV a) (wV b)).run Try.prog w = .ok () w :=
  run_eqGuard_agg (P := Try.prog) w op 36 x y _ _ (by kernel_rfl)
def belL (a slot : Nat) (L : List Ev) : Bool := decide (slot = a) || L.any (belE a slot)
set_option maxRecDepth 100000 in
set_option maxHeartbeats 4000000 in
theorem belongs_calls (a slot : Nat) (ha : a < A160) (hs : slot < W256) (L : List Ev) (v : Value) (w : World) (hrow : EvRow w v L) (hE : ∀ e ∈ L, EvIn w e) (hn : L.length < 1000000) :
    Calls Try.prog 11 #[v, aV a, wV slot] w fun x w' => x = .returned (.bool (belL a slot L)) ∧ Below w.heap.size w w' := by
  obtain ⟨va, vc, rfl, hc, -⟩ := id hrow
  obtain ⟨w1, hw1⟩ : ∃ w1, (w.alloc (.cells (aC a).toArray 33)).alloc (.cells (wC slot).toArray 36) = w1 := ⟨_, rfl⟩
  have b0 : w1.heap[w.heap.size]? = some (.cells (aC a).toArray 33 (0, 0)) := by rw [← hw1]; exact at_old (at_new w _ rfl) _
  have b1 : w1.heap[w.heap.size + 1]? = some (.cells (wC slot).toArray 36 (0, 0)) := by rw [← hw1]; exact at_new _ _ (by simp)
  have s1 : w1.heap.size = w.heap.size + 2 := by rw [← hw1]; simp
  have hB1 : Below w.heap.size w w1 := by rw [← hw1]; exact below_a (below_a (Below.refl _ _) (Nat.le_refl _) _) (by simp) _
  have f1 : LD 33 (.pointer (some ⟨w.heap.size, 0, none⟩)) w1 = .ok (aV a) w1 := LD_addr (range_block b0)
  have HW := Lib.hid fun W => wide_calls a ha W
  have HBy := Lib.hid fun W => bytes_calls a W
  have HB1 := Lib.hid hB1
  have B0 := Lib.hid b0
  have B1 := Lib.hid b1
  have HRow := Lib.hid hrow
  have HE := Lib.hid hE
  clear hrow hE hB1 b0 b1
  rw [show aV a = .agg (aC a).toArray from rfl, wV_eq]
  go_enter Try.func11, Try.ntmps11
  go_wp2_with (first
    | (go_at_call 24; refine (HW.out _).mono ?_; rintro x w2 ⟨rfl, hb2⟩; have HB2 := Lib.hid hb2; clear hb2)
    | (go_at_call 23; refine (HBy.out _).mono ?_; rintro x w3 ⟨rfl, hbl, hb3⟩; have HBL := Lib.hid hbl; have HB3 := Lib.hid hb3; clear hbl hb3))
  obtain ⟨w4, hw4⟩ : ∃ w4, w3.alloc (.cells #[.slice (some ⟨w2.heap.size + 1, 0, none⟩) 32 32] 42) = w4 := ⟨_, rfl⟩
  rw [hw4]
  have hB4 : Below w1.heap.size w1 w4 := by rw [← hw4]; exact below_a (HB2.out.trans (HB3.out.mono HB2.out.size)) (by have := HB2.out.size; have := HB3.out.size; omega) _
  have f2 : ∀ W, (Below w4.heap.size w4 W ∧ w4.heap.size ≤ W.heap.size) → LD 33 (.pointer (some ⟨w.heap.size, 0, none⟩)) W = .ok (aV a) W := fun W h =>
    LD_addr (rangeAt_below (rangeAt_below (range_block B0.out) hB4) h.1)
  have f3 : ∀ W, (Below w4.heap.size w4 W ∧ w4.heap.size ≤ W.heap.size) → LD 36 (.pointer (some ⟨w.heap.size + 1, 0, none⟩)) W = .ok (wV slot) W := fun W h =>
    LD_word (rangeAt_below (rangeAt_below (range_block B1.out) hB4) h.1)
  have h0 : Below w4.heap.size w4 w4 ∧ w4.heap.size ≤ w4.heap.size := ⟨Below.refl _ _, Nat.le_refl _⟩
  have he : ∀ W, (binOp .eql 36 (.agg (wC slot).toArray) (wV a)).run Try.prog W = .ok (.bool (decide (slot = a))) W := fun W => eqW_bin hs (Nat.lt_trans ha A160_lt) W
  have hgd : ∀ op x y W, (eqGuard op 36 x y (.agg (wC slot).toArray) (wV a)).run Try.prog W = .ok () W := fun op x y W => W_guard2 slot a op x y W
  have hS0 : Below w4.heap.size w4 w4.drew ∧ w4.heap.size ≤ w4.drew.heap.size := ⟨Below.drew h0.1, h0.2⟩
  have C4 := Lib.hid (show w4.heap[w3.heap.size]? = some (.cells #[.slice (some ⟨w2.heap.size + 1, 0, none⟩) 32 32] 42 (0, 0)) by rw [← hw4]; exact at_new _ _ rfl)
  have D4 := Lib.hid (show w4.heap[w2.heap.size + 1]? = some (.cells (bC32 a).toArray 5 (0, 0)) by rw [← hw4]; exact at_old HBL.out _)
  have HB4 := Lib.hid hB4
  clear hw4 h0 f1
  refine wp_region_held_drew (S := fun W => Below w4.heap.size w4 W ∧ w4.heap.size ≤ W.heap.size) (by kernel_rfl) hS0 (fun hHeld => ?_)
  refine wpAnyH_take (i := 0) (v := .agg (wC slot).toArray) rfl (by kernel_rfl) (by kernel_rfl) (by kernel_rfl) (fun _ _ _ h => h) (yieldsIf_load_mid (by rfl) _ _ rfl _ _ rfl (wC slot) _ (fun W h => rangeAt_below (rangeAt_below (range_block B1.out) hB4) h.1) Try.underlying36 rfl (by kernel_rfl)) hHeld ?_
  try simp only [Act.put, List.getElem_toArray, List.getElem_cons_succ, List.getElem_cons_zero, List.setIfInBounds_toArray, List.set_cons_zero, List.set_cons_succ]
  refine wpAnyH_take (i := 1) (v := .agg (aC a).toArray) rfl (by kernel_rfl) (by kernel_rfl) (by kernel_rfl) (fun _ _ _ h => h) (yieldsIf_load_mid (by rfl) _ _ rfl _ _ rfl (aC a) _ (fun W h => rangeAt_below (rangeAt_below (range_block B0.out) hB4) h.1) Try.underlying33 rfl (by rw [aC_len]; exact info_addr)) hHeld ?_
  try simp only [Act.put, List.getElem_toArray, List.getElem_cons_succ, List.getElem_cons_zero, List.setIfInBounds_toArray, List.set_cons_zero, List.set_cons_succ]
  refine wpAnyH_ready (rs := [2]) (by kernel_rfl) (by simp) ?_
  refine AllReadyH.cons rfl (fun K hK => ?_) AllReadyH.nil
  go_simp
  refine (HW.out _).mono ?_
  rintro e W1 ⟨rfl, hg⟩
  go_wp2_with fail
  refine hK.out _ _ ⟨below_c hHeld.1 hg hHeld.2, Nat.le_trans hHeld.2 hg.size⟩ (fun hHeld => ?_)
  clear hK K
  try simp only [Act.put, List.getElem_toArray, List.getElem_cons_succ, List.getElem_cons_zero, List.setIfInBounds_toArray, List.set_cons_zero, List.set_cons_succ]
  refine wpAnyH_take (i := 3) (v := .bool (decide (slot = a))) rfl (by kernel_rfl) (by kernel_rfl) (by kernel_rfl) (fun _ _ _ h => h) (Or.inl ⟨by rfl, fun W hSw => by go_simp⟩) hHeld ?_
  try simp only [Act.put, List.getElem_toArray, List.getElem_cons_succ, List.getElem_cons_zero, List.setIfInBounds_toArray, List.set_cons_zero, List.set_cons_succ]
  refine wpAnyH_done (by kernel_rfl) ?_ _
  have hz1 : w1.heap.size ≤ w4.heap.size := HB4.out.size
  have hBw : Below w.heap.size w W1 := (HB1.out.trans (HB4.out.mono HB1.out.size)).trans (hHeld.1.mono (by omega))
  have HBw := Lib.hid hBw
  have e1 : W1.cell? ⟨w3.heap.size, 0, none⟩ = some (.slice (some ⟨w2.heap.size + 1, 0, none⟩) 32 32) := cell_in (heap_below hHeld.1 C4.out (at_lt C4.out)) 0 rfl
  have e2 : ∀ k x, (own a)[k]? = some x → W1.cell? ⟨w2.heap.size + 1, 0 + k, none⟩ = some (.int .u8 x) := fun k x hk => cell_in (heap_below hHeld.1 D4.out (at_lt D4.out)) (0 + k) (by
    have : (bC32 a)[k]? = some (.int .u8 x) := by
      have h := congrArg (Option.map (Value.int .u8)) hk
      simpa [own, bC32] using h
    simpa using this)
  have e3 : W1.rangeAt (w.heap.size + 1) 0 (wC slot) := rangeAt_below (rangeAt_below (range_block B1.out) HB4.out) hHeld.1
  have HCF := Lib.hid (contains_calls a slot hs L (.slice va L.length vc) W1 (HRow.out.below hBw) (fun e he => (HE.out e he).below hBw) hn w3.heap.size (w.heap.size + 1) (w2.heap.size + 1) e1 e2 e3 (by have := at_lt C4.out; have := hHeld.2; omega) (by omega) (by have := at_lt D4.out; have := hHeld.2; omega))
  clear hBw e1 e2 e3 hHeld he hgd f2 f3 hS0 hB4
  rcases hd : decide (slot = a) with _ | _
  · go_wp2_with (go_at_call 25; refine HCF.out.mono ?_; rintro x w' ⟨rfl, hb⟩)
    go_ret
    exact ⟨by rw [belL, hd]; rfl, HBw.out.trans (hb.mono HBw.out.size)⟩
  · go_wp2
    go_ret
    exact ⟨by rw [belL, hd]; rfl, HBw.out⟩
end Go.Proofs.Ytbkhldaomalmoaa
