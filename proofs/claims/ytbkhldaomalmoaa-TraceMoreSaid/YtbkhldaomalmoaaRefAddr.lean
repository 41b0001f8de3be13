/- quaestorref01.Addr: the lowest twenty bytes. -/
import Derived.Test.YtbkhldaomalmoaaAddr
namespace Go.Proofs.Ytbkhldaomalmoaa
open Go.RowKit
attribute [local go_sem] wV

/-- k bytes are laid -/
def fillA (v k : Nat) : List Value := (List.range 20).map fun j => Value.int .u8 (if j < k then byteOf 20 v j else 0)
theorem fillA_len (v k : Nat) : (fillA v k).length = 20 := by simp [fillA]
theorem fillA_zero (v : Nat) : (fillA v 0).toArray = #[.int .u8 0, .int .u8 0, .int .u8 0, .int .u8 0, .int .u8 0, .int .u8 0, .int .u8 0, .int .u8 0, .int .u8 0, .int .u8 0, .int .u8 0, .int .u8 0, .int .u8 0, .int .u8 0, .int .u8 0, .int .u8 0, .int .u8 0, .int .u8 0, .int .u8 0, .int .u8 0] := by
  simp [fillA, List.range, List.range.loop]
theorem fillA_full (v : Nat) : fillA v 20 = aC v := by
  unfold fillA aC
  apply List.map_congr_left
  intro j hj
  rw [if_pos (by simpa using hj)]
theorem fillA_next (v k : Nat) (h : k < 20) : ((fillA v k).toArray.setIfInBounds k (.int .u8 (byteOf 20 v k))) = (fillA v (k + 1)).toArray := by
  apply Array.ext
  · simp [fillA]
  · intro i h1 h2
    have hi : i < 20 := by simpa [fillA] using h2
    rw [Array.getElem_setIfInBounds (by simpa [fillA] using hi)]
    by_cases he : k = i
    · subst he; simp [fillA]
    · simp [fillA, he]
      by_cases h3 : i < k
      · rw [if_pos h3, if_pos (by omega)]
      · rw [if_neg h3, if_neg (by omega)]
theorem fillA_get (v k j : Nat) (hj : j < 20) : ∃ u, (fillA v k).toArray[j]? = some u := ⟨(fillA v k).toArray[j]'(by simpa [fillA] using hj), by simp [fillA, hj]⟩
theorem byte_low (a j : Nat) (h : j < 20) : byteOf 32 a (12 + j) = byteOf 20 (a % A160) j := by
  have h1 := aC_get (a % A160) j h
  rw [← bC32_drop, List.getElem?_drop, bC32_get a (12 + j) (by omega)] at h1
  injection h1 with h1
  injection h1 with _ h1

set_option maxRecDepth 100000 in
set_option maxHeartbeats 2000000 in
theorem raddr_calls (a : Nat) (w : World) :
    Calls Try.prog 21 #[wV a] w fun e w' => e = .returned (aV (a % A160)) ∧ Below w.heap.size w w' := by
  have hs := Lib.hid fun W => rbytes_calls a W
  simp only [wV]
  go_enter Try.func21, Try.ntmps21
  go_wp2_with fail
  refine (hs.out _).mono ?_
  rintro e w' ⟨v, rfl, hown, hb⟩
  obtain ⟨g, cap, rfl, hg1, hg2, hg3, hgc⟩ := own_form hown (by decide)
  have h1 := heap_below (g := w.heap.size + 1) hb (at_old (at_new _ _ (by simp)) _) (by first | (simp; done) | (simp; omega))
  have h2 := heap_below (g := w.heap.size + 1 + 1) hb (at_new _ _ (by simp)) (by first | (simp; done) | (simp; omega))
  have hB : Below w.heap.size w w' := below_c (below_a (below_a (below_a (Below.refl _ _) (by simp) _) (by first | (simp; done) | (simp; omega)) _) (by first | (simp; done) | (simp; omega)) _) hb (by first | (simp; done) | (simp; omega))
  rw [← fillA_zero (a % A160)] at h1 h2
  have hne : w.heap.size + 1 + 1 < g := by simp at hg1; omega
  have HGC := Lib.hid hgc
  have H1 := Lib.hid h1
  have H2 := Lib.hid h2
  have HB := Lib.hid hB
  have hz := at_lt h2
  clear hgc h1 h2 hown hg1 hb hB
  go_wp2
  go_loopw [5] (fun i wr => ∃ k : Nat, k ≤ 20 ∧ i = .int .i64 k ∧ wr.heap[w.heap.size + 1]? = some (.cells (fillA (a % A160) 0).toArray 33 (0, 0)) ∧ wr.heap[w.heap.size + 1 + 1]? = some (.cells (fillA (a % A160) k).toArray 33 (0, 0)) ∧ (∀ j u, (bC32 a)[j]? = some u → wr.cell? ⟨g, j, none⟩ = some u) ∧ Below w.heap.size w wr ∧ g < wr.heap.size) (fun i _ => 20 - (intOf i).toNat)
  case atStart => exact ⟨0, by omega, rfl, H1.out, H2.out, HGC.out, HB.out, hg2⟩
  case round =>
    obtain ⟨k, hk, rfl, h1, h2, h3, hB, h4⟩ := hrel
    clear H1 H2 HGC HB hz hg2
    have H1 := Lib.hid h1
    have H2 := Lib.hid h2
    have H3 := Lib.hid h3
    have HB := Lib.hid hB
    have hz := at_lt h2
    clear h1 h2 h3 hB
    by_cases hlt : k < 20
    · have c := H3.out (12 + k) (.int .u8 (byteOf 20 (a % A160) k)) (by rw [bC32_get a _ (by omega), byte_low a k hlt])
      obtain ⟨u, hu⟩ := fillA_get (a % A160) k k hlt
      have c2 := cell_in H2.out k hu
      have f2 := free_in H2.out k
      go_wp2
      go_roundw
      case rel =>
        refine ⟨k + 1, by omega, by go_num, heap_set_ne H1.out (by omega) _, (heap_set H2.out _).trans (by rw [fillA_next _ k hlt]), fun j u hu => ?_, HB.out.setCell (p := ⟨w.heap.size + 1 + 1, k, none⟩) (by simp; omega) _, by simpa [World.setCell] using h4⟩
        rw [World.cell?_setCell_other _ _ _ _ (by intro e; injection e with e; omega)]
        exact H3.out j u hu
      case measure => simp [intOf]; omega
    · obtain rfl : k = 20 := by omega
      have hR := range_block H2.out
      rw [fillA_full] at hR
      have HR := Lib.hid hR
      have hT : wr.there (w.heap.size + 1) 0 (aC (a % A160)).toArray.size := by
        have := there_block (o := 0) (n := 20) H1.out (by simp [fillA_len])
        simpa [aC_len] using this
      have HT := Lib.hid hT
      have HW := Lib.hid (setCells_whole H1.out (aC (a % A160)) (by simp [aC_len, fillA_len]))
      clear hR hT
      go_wp2_with (first | (refine wpList_load_mid rfl 33 _ rfl _ _ rfl (aC (a % A160)) _ HR.out Try.underlying33 rfl (by rw [aC_len]; exact info_addr) ?_) | (refine wpList_store_mid rfl 33 _ _ rfl _ _ _ rfl rfl HT.out (by simpa [aC_len] using info_addr) (all_oneCell_toArray (aC_one _)) ?_))
      exact ret_cell (b := w.heap.size + 1) (cs := aC (a % A160)) rfl rfl (range_block (t := 33) (fr := (0, 0)) HW.out) Try.underlying33 rfl (by rw [aC_len]; exact info_addr) rfl ⟨rfl, below_setCells HB.out (by omega) 0 _⟩
end Go.Proofs.Ytbkhldaomalmoaa
