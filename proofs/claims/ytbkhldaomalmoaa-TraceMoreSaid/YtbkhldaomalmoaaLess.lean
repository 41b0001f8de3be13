/- quaestorref14.less: the order of the places' numbers. -/
import Derived.Test.YtbkhldaomalmoaaPlCmp
import Derived.Test.YtbkhldaomalmoaaRefCmp
import Derived.Test.YtbkhldaomalmoaaRefWide
import Derived.Test.YtbkhldaomalmoaaAddr
namespace Go.Proofs.Ytbkhldaomalmoaa
open Go.RowKit
attribute [local go_sem] wV
attribute [local go_sem ↓] exec_loadP

theorem rangeAt_below {W W1 : World} {b o : Nat} {cs : List Value} (h : W.rangeAt b o cs) (hg : Below W.heap.size W W1) : W1.rangeAt b o cs := fun j v hv => by
  have hc := h j v hv
  have hb := World.block_lt_of_cell? W _ hc
  exact (hg.cell (p := ⟨b, o + j, none⟩) hb).trans hc
theorem TCS.below {b : Nat} {p q : Pl} {W W1 : World} (h : TCS b p q W) (hg : Below W.heap.size W W1) : TCS b p q W1 :=
  ⟨Nat.lt_of_lt_of_le h.sz hg.size, rangeAt_below h.r1 hg, rangeAt_below h.r2 hg⟩
/-- all that the walk keeps -/
def LS (w : World) (p q : Pl) (W : World) : Prop := TCS w.heap.size p q W ∧ Below w.heap.size w W
theorem LS.step {w : World} {p q : Pl} {W W1 : World} (h : LS w p q W) (hg : Below W.heap.size W W1) : LS w p q W1 := ⟨h.1.below hg, h.2.trans (hg.mono h.2.size)⟩
theorem keepL {w : World} {p q : Pl} {W W1 : World} (h : LS w p q W ∧ W.rangeAt w.heap.size 0 (aC p.addr) ∧ W.rangeAt (w.heap.size + 1) 0 (aC q.addr)) (hg : Below W.heap.size W W1) : LS w p q W1 ∧ W1.rangeAt w.heap.size 0 (aC p.addr) ∧ W1.rangeAt (w.heap.size + 1) 0 (aC q.addr) :=
  ⟨h.1.step hg, rangeAt_below h.2.1 hg, rangeAt_below h.2.2 hg⟩
theorem A160_lt : A160 < W256 := by unfold A160 W256; omega

theorem code_lt (p q : Pl) (hp : p.Ok) (hq : q.Ok) : decide (p.code < q.code) = if p.addr ≠ q.addr then decide (cmpN p.addr q.addr < 0) else if p.whole ≠ q.whole then p.whole else decide (cmpN p.key q.key < 0) := by
  have h := code_cmp p q hp hq
  have e : ∀ a b : Nat, decide (a < b) = decide (cmpN a b < 0) := by
    intro a b
    unfold cmpN
    by_cases h1 : a < b
    · simp [h1]
    · by_cases h2 : a = b
      · simp [h1, h2]
      · simp [h1, h2]
  rw [e, ← h]
  by_cases h1 : p.addr = q.addr
  · rw [if_neg (by simpa using h1), h1]
    have e0 : cmpN q.addr q.addr = 0 := by simp [cmpN]
    rw [e0]
    by_cases h2 : p.whole = q.whole
    · rw [if_neg (by simpa using h2), h2]
      have e1 : cmpI (sideN q.whole) (sideN q.whole) = 0 := by simp [cmpI]
      rw [e1]; simp [or3]
    · rw [if_pos h2]
      revert h2
      cases p.whole <;> cases q.whole <;> simp [or3, cmpI, sideN]
  · rw [if_pos h1]
    have : cmpN p.addr q.addr ≠ 0 := by unfold cmpN; split <;> simp_all
    simp [or3, this]

set_option maxRecDepth 100000 in
set_option maxHeartbeats 4000000 in
theorem less_calls (p q : Pl) (hp : p.Ok) (hq : q.Ok) (w : World) : Calls Try.prog 40 #[plV p, plV q] w fun e w' => e = .returned (.bool (decide (p.code < q.code))) ∧ Below w.heap.size w w' := by
  have HC := Lib.hid (code_lt p q hp hq)
  have hl := plC_len p
  have hl' := plC_len q
  have u1 := Try.underlying33
  have u2 : (Try.prog.info? 33).map (·.size) = some (aC p.addr).length := by rw [aC_len]; exact info_addr
  have u3 : (Try.prog.info? 33).map (·.size) = some (aC q.addr).length := by rw [aC_len]; exact info_addr
  have hpa := Lib.hid hp.addr
  have hqa := Lib.hid hq.addr
  have hpk := Lib.hid hp.key
  have hqk := Lib.hid hq.key
  clear hp hq
  unfold plV
  go_enter Try.func40, Try.ntmps40
  go_wp2
  have hS0 : LS w p q ((w.alloc (.cells (plC p).toArray 50)).alloc (.cells (plC q).toArray 50)).drew := by
    have r1 : ((w.alloc (.cells (plC p).toArray 50)).alloc (.cells (plC q).toArray 50)).drew.rangeAt w.heap.size 0 (plC p) := range_block (t := 50) (fr := (0, 0)) (at_old (at_new _ _ rfl) _)
    have r2 : ((w.alloc (.cells (plC p).toArray 50)).alloc (.cells (plC q).toArray 50)).drew.rangeAt (w.heap.size + 1) 0 (plC q) := range_block (t := 50) (fr := (0, 0)) (at_new _ _ (by simp))
    exact ⟨⟨by simp, r1, r2⟩, (((Grw.refl _).alloc _).alloc _).drew.below⟩
  refine wp_region_held_drew (S := LS w p q) (by kernel_rfl) hS0 (fun hHeld => ?_)
  refine wpAnyH_take (i := 0) (v := .pointer (some ⟨w.heap.size, 0, none⟩)) rfl (by kernel_rfl) (by kernel_rfl) (by kernel_rfl) (fun _ _ _ h => h) (Or.inl ⟨by rfl, fun W hSw => by go_simp⟩) hHeld ?_
  try simp only [Act.put, List.getElem_toArray, List.getElem_cons_succ, List.getElem_cons_zero, List.setIfInBounds_toArray, List.set_cons_zero, List.set_cons_succ]
  refine wpAnyH_take (i := 1) (v := .agg (aC p.addr).toArray) rfl (by kernel_rfl) (by kernel_rfl) (by kernel_rfl) (fun _ _ _ h => h) (yieldsIf_load_mid (by rfl) _ _ rfl _ _ rfl (aC p.addr) _ (fun W h => range_addr h.1.r1) u1 rfl u2) hHeld ?_
  try simp only [Act.put, List.getElem_toArray, List.getElem_cons_succ, List.getElem_cons_zero, List.setIfInBounds_toArray, List.set_cons_zero, List.set_cons_succ]
  refine wpAnyH_take (i := 3) (v := .pointer (some ⟨w.heap.size + 1, 0, none⟩)) rfl (by kernel_rfl) (by kernel_rfl) (by kernel_rfl) (fun _ _ _ h => h) (Or.inl ⟨by rfl, fun W hSw => by go_simp⟩) hHeld ?_
  try simp only [Act.put, List.getElem_toArray, List.getElem_cons_succ, List.getElem_cons_zero, List.setIfInBounds_toArray, List.set_cons_zero, List.set_cons_succ]
  refine wpAnyH_take (i := 4) (v := .agg (aC q.addr).toArray) rfl (by kernel_rfl) (by kernel_rfl) (by kernel_rfl) (fun _ _ _ h => h) (yieldsIf_load_mid (by rfl) _ _ rfl _ _ rfl (aC q.addr) _ (fun W h => range_addr h.1.r2) u1 rfl u3) hHeld ?_
  try simp only [Act.put, List.getElem_toArray, List.getElem_cons_succ, List.getElem_cons_zero, List.setIfInBounds_toArray, List.set_cons_zero, List.set_cons_succ]
  refine wpAnyH_ready (rs := [2]) (by kernel_rfl) (by simp) ?_
  refine AllReadyH.cons rfl (fun K hK => ?_) AllReadyH.nil
  go_simp
  refine (rwide_calls p.addr hpa.out _).mono ?_
  rintro e W1 ⟨rfl, hg⟩
  go_wp2_with fail
  refine hK.out _ _ (hHeld.step hg) (fun hHeld => ?_)
  clear hK K
  try simp only [Act.put, List.getElem_toArray, List.getElem_cons_succ, List.getElem_cons_zero, List.setIfInBounds_toArray, List.set_cons_zero, List.set_cons_succ]
  refine wpAnyH_ready (rs := [5]) (by kernel_rfl) (by simp) ?_
  refine AllReadyH.cons rfl (fun K hK => ?_) AllReadyH.nil
  go_simp
  refine (rwide_calls q.addr hqa.out _).mono ?_
  rintro e W1 ⟨rfl, hg⟩
  go_wp2_with fail
  refine hK.out _ _ (hHeld.step hg) (fun hHeld => ?_)
  clear hK K
  try simp only [Act.put, List.getElem_toArray, List.getElem_cons_succ, List.getElem_cons_zero, List.setIfInBounds_toArray, List.set_cons_zero, List.set_cons_succ]
  refine wpAnyH_ready (rs := [6]) (by kernel_rfl) (by simp) ?_
  refine AllReadyH.cons rfl (fun K hK => ?_) AllReadyH.nil
  go_simp
  refine (rcmp_calls p.addr q.addr (Nat.lt_trans hpa.out A160_lt) (Nat.lt_trans hqa.out A160_lt) _).mono ?_
  rintro e W1 ⟨rfl, hg⟩
  go_wp2_with fail
  refine hK.out _ _ (hHeld.step hg) (fun hHeld => ?_)
  clear hK K
  try simp only [Act.put, List.getElem_toArray, List.getElem_cons_succ, List.getElem_cons_zero, List.setIfInBounds_toArray, List.set_cons_zero, List.set_cons_succ]
  refine wpAnyH_take (i := 7) (v := .int .i64 (cmpN p.addr q.addr)) rfl (by kernel_rfl) (by kernel_rfl) (by kernel_rfl) (fun _ _ _ h => h) (Or.inl ⟨by rfl, fun W hSw => by go_simp⟩) hHeld ?_
  try simp only [Act.put, List.getElem_toArray, List.getElem_cons_succ, List.getElem_cons_zero, List.setIfInBounds_toArray, List.set_cons_zero, List.set_cons_succ]
  refine wpAnyH_done (by kernel_rfl) ?_ _
  have hz : w.heap.size + 1 < W1.heap.size := hHeld.1.sz
  have c1 : W1.cell? ⟨w.heap.size, 20, none⟩ = some (.bool p.whole) := range_cell hHeld.1.r1 20 (plC_whole p)
  have c2 : W1.cell? ⟨w.heap.size + 1, 20, none⟩ = some (.bool q.whole) := range_cell hHeld.1.r2 20 (plC_whole q)
  have k1 : W1.cell? ⟨w.heap.size, 21, none⟩ = some (.int .u64 (limb p.key 0)) := range_cell hHeld.1.r1 21 (plC_key p 0 (by decide))
  have k2 : W1.cell? ⟨w.heap.size, 22, none⟩ = some (.int .u64 (limb p.key 1)) := range_cell hHeld.1.r1 22 (plC_key p 1 (by decide))
  have k3 : W1.cell? ⟨w.heap.size, 23, none⟩ = some (.int .u64 (limb p.key 2)) := range_cell hHeld.1.r1 23 (plC_key p 2 (by decide))
  have k4 : W1.cell? ⟨w.heap.size, 24, none⟩ = some (.int .u64 (limb p.key 3)) := range_cell hHeld.1.r1 24 (plC_key p 3 (by decide))
  have l1 : W1.cell? ⟨w.heap.size + 1, 21, none⟩ = some (.int .u64 (limb q.key 0)) := range_cell hHeld.1.r2 21 (plC_key q 0 (by decide))
  have l2 : W1.cell? ⟨w.heap.size + 1, 22, none⟩ = some (.int .u64 (limb q.key 1)) := range_cell hHeld.1.r2 22 (plC_key q 1 (by decide))
  have l3 : W1.cell? ⟨w.heap.size + 1, 23, none⟩ = some (.int .u64 (limb q.key 2)) := range_cell hHeld.1.r2 23 (plC_key q 2 (by decide))
  have l4 : W1.cell? ⟨w.heap.size + 1, 24, none⟩ = some (.int .u64 (limb q.key 3)) := range_cell hHeld.1.r2 24 (plC_key q 3 (by decide))
  have HB := Lib.hid hHeld.2
  clear hHeld u1 u2 u3 hl hl'
  by_cases hA : p.addr = q.addr
  · have e : cmpN p.addr q.addr = 0 := by simp [cmpN, hA]
    have e0 : (cmpN p.addr q.addr != 0) = false := by simp [e]
    have HC2 : Hid (decide (p.code < q.code) = if p.whole ≠ q.whole then p.whole else decide (cmpN p.key q.key < 0)) := by
      rw [HC.out, if_neg (by simpa using hA)]; exact rfl
    clear e hA HC
    have key3 : p.whole = q.whole → Hid (decide (p.code < q.code) = decide (cmpN p.key q.key < 0)) := fun h => by
      rw [HC2.out, if_neg (by simpa using h)]; exact rfl
    have key2 : p.whole ≠ q.whole → Hid (decide (p.code < q.code) = p.whole) := fun h => by
      rw [HC2.out, if_pos h]; exact rfl
    cases hp2 : p.whole <;> cases hq2 : q.whole <;> rw [hp2] at c1 key2 key3 <;> rw [hq2] at c2 key2 key3
    · have HR := key3 rfl
      clear hp2 hq2 key2 key3 HC2
      go_wp2_with (go_at_call 50; refine (rcmp_calls p.key q.key hpk.out hqk.out _).mono ?_; rintro e w' ⟨rfl, hg'⟩)
      go_ret
      exact ⟨by rw [HR.out]; rfl, HB.out.trans (hg'.mono HB.out.size)⟩
    · have HR := key2 (by decide)
      clear hp2 hq2 key2 key3 HC2
      go_wp2
      go_ret
      exact ⟨by rw [HR.out]; rfl, HB.out⟩
    · have HR := key2 (by decide)
      clear hp2 hq2 key2 key3 HC2
      go_wp2
      go_ret
      exact ⟨by rw [HR.out]; rfl, HB.out⟩
    · have HR := key3 rfl
      clear hp2 hq2 key2 key3 HC2
      go_wp2_with (go_at_call 50; refine (rcmp_calls p.key q.key hpk.out hqk.out _).mono ?_; rintro e w' ⟨rfl, hg'⟩)
      go_ret
      exact ⟨by rw [HR.out]; rfl, HB.out.trans (hg'.mono HB.out.size)⟩
  · have e0 : (cmpN p.addr q.addr != 0) = true := by
      have : cmpN p.addr q.addr ≠ 0 := by unfold cmpN; split <;> simp_all
      simpa using this
    have HC2 : Hid (decide (p.code < q.code) = decide (cmpN p.addr q.addr < 0)) := by
      rw [HC.out, if_pos hA]; exact rfl
    clear hA HC
    go_wp2
    go_ret
    exact ⟨by rw [HC2.out]; rfl, HB.out⟩
end Go.Proofs.Ytbkhldaomalmoaa
