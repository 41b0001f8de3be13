/- quaestorlaw14.known: the chapter's examples. -/
import Derived.Test.YtbkhldaomalmoaaLoose
import Derived.Test.YtbkhldaomalmoaaBelongs
import Derived.Test.YtbkhldaomalmoaaAny
namespace Go.Proofs.Ytbkhldaomalmoaa
open Go.RowKit
attribute [local go_sem ↓] exec_load exec_store exec_build exec_buildSlice exec_alloc

def ev0 (op : Int) : Ev := ⟨op, 0, 0, 0, 0, .slice none 0 0, 0, []⟩
theorem ev0_ok (op : Int) (h0 : 0 ≤ op) (h1 : op ≤ 255) : (ev0 op).Ok := ⟨h0, h1, by show 0 < A160; decide, by show 0 < W256; decide, by show 0 < W256; decide, by simp [ev0], by simp [ev0], ⟨none, 0, rfl⟩, by show 0 ≤ maxLen; decide⟩
def bytes64 : List Int := List.replicate 31 0 ++ [5] ++ List.replicate 32 0
def evK (g : Nat) : Ev := ⟨32, 0, 0, 0, 100, .slice (some ⟨g, 0, none⟩) 64 64, 0, bytes64⟩
theorem evK_ok (g : Nat) : (evK g).Ok := ⟨by simp [evK], by simp [evK], by show 0 < A160; decide, by show 0 < W256; decide, by show 100 < W256; decide, by simp [evK], by simp [evK], ⟨some ⟨g, 0, none⟩, 64, rfl⟩, by show 64 ≤ maxLen; decide⟩
theorem bel_102 (g : Nat) : belL 5 102 [evK g] = true := by kernel_rfl
theorem bel_229 (g : Nat) : belL 5 229 [evK g] = false := by kernel_rfl
theorem bel_5 : belL 5 5 [] = true := by rfl
theorem BD_a5 (W : World) : BD 33 #[(19, .int .u8 5)] W = .ok (aV 5) W := by kernel_rfl
theorem BD_w100 (W : World) : BD 36 #[(0, .int .u64 100)] W = .ok (wV 100) W := by kernel_rfl
theorem BD_w102 (W : World) : BD 36 #[(0, .int .u64 102)] W = .ok (wV 102) W := by kernel_rfl
theorem BD_w229 (W : World) : BD 36 #[(0, .int .u64 229)] W = .ok (wV 229) W := by kernel_rfl
theorem BD_w5 (W : World) : BD 36 #[(0, .int .u64 5)] W = .ok (wV 5) W := by kernel_rfl
theorem BD_evK (g : Nat) (W : World) : BD 46 #[(0, .int .u8 32), (5, .slice (some ⟨g, 0, none⟩) 64 64), (4, wV 100)] W = .ok (evV (evK g)) W := by kernel_rfl
theorem BD_90 (W : World) : BD 46 #[(0, .int .u8 90)] W = .ok (evV (ev0 90)) W := by kernel_rfl
theorem BD_241 (W : World) : BD 46 #[(0, .int .u8 241)] W = .ok (evV (ev0 241)) W := by kernel_rfl
theorem BD_1 (W : World) : BD 46 #[(0, .int .u8 1)] W = .ok (evV (ev0 1)) W := by kernel_rfl
theorem evRow_two (W : World) (x y : Ev) : EvRow (W.alloc (.cells (evC x ++ evC y).toArray 46)) (.slice (some ⟨W.heap.size, 0, none⟩) 2 2) [x, y] := by
  have hb := at_new W (.cells (evC x ++ evC y).toArray 46 (0, 0)) rfl
  refine ⟨_, 2, rfl, by simp, .inr ⟨W.heap.size, 0, rfl, by simp, fun k z hz => ?_⟩⟩
  match k, hz with
  | 0, hz =>
    obtain rfl : x = z := by simpa using hz
    have := range_mid (l1 := []) (l2 := evC x) (l3 := evC y) (o := 0) (t := 46) (fr := (0, 0)) hb rfl
    simpa using this
  | 1, hz =>
    obtain rfl : y = z := by simpa using hz
    have := range_mid (l1 := evC x) (l2 := evC y) (l3 := []) (o := 32) (t := 46) (fr := (0, 0)) (by rw [List.append_nil]; exact hb) (by rw [evC_len])
    simpa using this
  | k + 2, hz => simp at hz
attribute [local go_sem] BD_a5 BD_w100 BD_w102 BD_w229 BD_w5 BD_evK BD_90 BD_241 BD_1 BL_ev2 AL_addr
def z64 : Array Value := (List.replicate 64 (Value.int .u8 0)).toArray
theorem make64 (w : World) : (Instr.makeSlice 42 (.int .i64 64) (.int .i64 64)).run Try.prog w = .ok (.slice (some ⟨w.heap.size, 0, none⟩) 64 64) (w.alloc (.cells z64 5)) := by kernel_rfl
theorem SD_byte {W : World} {b o : Nat} {C : Array Value} {ty : TypeId} {n : Int} (hb : W.heap[b]? = some (.cells C ty (0, 0))) (ho : o < C.size) : SD 5 (.pointer (some ⟨b, o, none⟩)) (.int .u8 n) W = .ok () (W.setCell ⟨b, o, none⟩ (.int .u8 n)) := by
  have hs : (sizeOf 5).run Try.prog W = .ok 1 W := by kernel_rfl
  have h1 : Value.cells (.int .u8 n) = #[.int .u8 n] := rfl
  have h2 := run_storeCells_cells (P := Try.prog) b o [.int .u8 n] 0 W (fun j hj => by
      simp at hj; subst hj
      have h3 := cell_in hb o (Array.getElem?_eq_getElem ho)
      simp [h3]) (fun j hj => free_in hb _) (fun v hv => by simp at hv; subst hv; rfl)
  simp only [SD, Instr.storeAt, Instr.sureAddr, Sem.run_bind, Sem.run_pure, Result.andThen_ok, storeVar, h1, hs]
  rw [if_neg (by simp)]
  simpa [World.setCells] using h2
theorem data_stage (w : World) : ∃ w1, SD 5 (.pointer (some ⟨w.heap.size, 31, none⟩)) (.int .u8 5) (w.alloc (.cells z64 5)) = .ok () w1 ∧ w1.heap[w.heap.size]? = some (.cells (bytes64.map (Value.int .u8)).toArray 5 (0, 0)) ∧ Below w.heap.size w w1 ∧ w.heap.size < w1.heap.size := by
  have h0 := at_new w (.cells z64 5 (0, 0)) rfl
  refine ⟨_, SD_byte h0 (by decide), ?_, (below_a (Below.refl _ _) (Nat.le_refl _) _).setCell (p := ⟨w.heap.size, 31, none⟩) (Nat.le_refl _) _, by simp [World.setCell]⟩
  have h := heap_set (o := 31) h0 (.int .u8 5)
  exact h
theorem evK_in {W : World} {g : Nat} (h : W.heap[g]? = some (.cells (bytes64.map (Value.int .u8)).toArray 5 (0, 0))) : EvIn W (evK g) := by
  refine ⟨evK_ok g, ⟨some ⟨g, 0, none⟩, 64, rfl, Nat.le_refl _, .inr ⟨g, 0, rfl, at_lt h, fun k x hk => ?_⟩⟩, ?_⟩
  · have hk' : bytes64[k]? = some x := hk
    exact cell_in h (0 + k) (by simp [hk'])
  · intro x hx
    have hx' : x ∈ bytes64 := hx
    simp [bytes64] at hx'
    omega
set_option maxRecDepth 100000 in
set_option maxHeartbeats 8000000 in
theorem known_calls (w : World) : Calls Try.prog 7 #[] w fun e w' => e = .returned (.bool true) ∧ Below w.heap.size w w' := by
  obtain ⟨w1, f1, h1, hB1, hz1⟩ := data_stage w
  obtain ⟨w2, hw2⟩ : ∃ w2, w1.alloc (.cells (aC 5).toArray 33) = w2 := ⟨_, rfl⟩
  obtain ⟨w3, hw3⟩ : ∃ w3, w2.alloc (.cells (evC (evK w.heap.size)).toArray 46) = w3 := ⟨_, rfl⟩
  have f2 : SD 33 (.pointer (some ⟨w1.heap.size, 0, none⟩)) (aV 5) (w1.alloc (.cells (zC 33) 33)) = .ok () w2 := by rw [← hw2]; exact SD_newA rfl
  have f3 : BL 22 1 #[(0, evV (evK w.heap.size))] w2 = .ok (.slice (some ⟨w2.heap.size, 0, none⟩) 1 1) w3 := by rw [← hw3]; exact BL_ev1 _ _
  have a2 : w2.heap[w1.heap.size]? = some (.cells (aC 5).toArray 33 (0, 0)) := by rw [← hw2]; exact at_new _ _ rfl
  have a3 : w3.heap[w1.heap.size]? = some (.cells (aC 5).toArray 33 (0, 0)) := by rw [← hw3]; exact at_old a2 _
  have d3 : w3.heap[w.heap.size]? = some (.cells (bytes64.map (Value.int .u8)).toArray 5 (0, 0)) := by rw [← hw3, ← hw2]; exact at_old (at_old h1 _) _
  have e3 : w3.heap[w2.heap.size]? = some (.cells (evC (evK w.heap.size)).toArray 46 (0, 0)) := by rw [← hw3]; exact at_new _ _ rfl
  have hB3 : Below w.heap.size w w3 := by rw [← hw3, ← hw2]; exact below_a (below_a hB1 (by omega) _) (by simp; omega) _
  have hrow : EvRow w3 (.slice (some ⟨w2.heap.size, 0, none⟩) 1 1) [evK w.heap.size] := ⟨_, 1, rfl, Nat.le_refl _, .inr ⟨w2.heap.size, 0, rfl, at_lt e3, fun k x hk => by
    match k, hk with
    | 0, hk =>
      obtain rfl : evK w.heap.size = x := by simpa using hk
      exact range_block e3
    | k + 1, hk => simp at hk⟩⟩
  have hin : ∀ e ∈ [evK w.heap.size], EvIn w3 e := fun e he => by
    obtain rfl : e = evK w.heap.size := by simpa using he
    exact evK_in d3
  have C1 := Lib.hid fun W (h : Below w3.heap.size w3 W) => belongs_calls 5 102 (by decide) (by decide) _ _ W (hrow.below h) (fun e he => (hin e he).below h) (by simp)
  have C2 := Lib.hid fun W (h : Below w3.heap.size w3 W) => belongs_calls 5 229 (by decide) (by decide) _ _ W (hrow.below h) (fun e he => (hin e he).below h) (by simp)
  have C3 := Lib.hid fun W => belongs_calls 5 5 (by decide) (by decide) [] (.slice none 0 0) W ⟨none, 0, rfl, Nat.le_refl _, .inl rfl⟩ (fun e he => by simp at he) (by simp)
  rw [bel_102] at C1
  rw [bel_229] at C2
  rw [bel_5] at C3
  have C4 := Lib.hid fun W => loose_yes (ev0 90) (ev0 241) (ev0_ok _ (by decide) (by decide)) (ev0_ok _ (by decide) (by decide)) _ _ (evRow_two W _ _) rfl rfl rfl rfl rfl rfl
  have C5 := Lib.hid fun W => loose_no (ev0 90) (ev0 1) (ev0_ok _ (by decide) (by decide)) (ev0_ok _ (by decide) (by decide)) _ _ (evRow_two W _ _) rfl rfl rfl rfl rfl rfl
  have fA : ∀ W, Below w3.heap.size w3 W → LD 33 (.pointer (some ⟨w1.heap.size, 0, none⟩)) W = .ok (aV 5) W := fun W h => LD_addr (rangeAt_below (range_block a3) h)
  have hmk := make64
  have hb0 : Below w3.heap.size w3 w3 := Below.refl _ _
  have HB3 := Lib.hid hB3
  clear hw2 hw3 hB3 h1 hB1 hz1 a2 a3 d3 e3 hrow hin
  go_enter Try.func7, Try.ntmps7
  go_wp2_with (first
    | (go_at_call 11; (with_reducible refine (C1.out _ (by assumption)).mono ?_); rintro e w4 ⟨rfl, hb4⟩; clear C1)
    | (go_at_call 11; (with_reducible refine (C2.out _ (by assumption)).mono ?_); rintro e w5 ⟨rfl, hb5⟩; have hB5 := hb4.trans (hb5.mono hb4.size); clear C2 hb5)
    | (go_at_call 11; (with_reducible refine (C3.out _).mono ?_); rintro e w6 ⟨rfl, hb6⟩; have hB6 := hB5.trans (hb6.mono hB5.size); clear C3 hb6)
    | (go_at_call 14; (with_reducible refine (C4.out _).mono ?_); rintro e w7 ⟨la, lc, rfl, hb7⟩; have HB7 := Lib.hid (below_c (below_a hB6 hB6.size _) hb7 (by have := hB6.size; simp; omega)); clear C4 hb7)
    | (go_at_call 14; (with_reducible refine (C5.out _).mono ?_); rintro e w8 ⟨ma, mc, rfl, hb8⟩; have HB8 := Lib.hid (below_c (below_a HB7.out HB7.out.size _) hb8 (by have := HB7.out.size; simp; omega)); clear C5 hb8))
  go_ret
  exact ⟨rfl, HB3.out.trans (HB8.out.mono HB3.out.size)⟩
end Go.Proofs.Ytbkhldaomalmoaa
