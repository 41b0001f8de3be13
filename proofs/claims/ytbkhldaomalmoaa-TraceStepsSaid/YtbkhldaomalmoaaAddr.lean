/- word.Addr, quaestorref01.Addr: the lowest twenty bytes. -/
import Derived.Test.YtbkhldaomalmoaaBase
import Derived.Test.YtbkhldaomalmoaaRefBytes
namespace Go.Proofs.Ytbkhldaomalmoaa
open Go.RowKit
attribute [local go_sem] wV

theorem bC32_drop (a : Nat) : (bC32 a).drop 12 = aC (a % A160) := by
  apply List.ext_getElem?
  intro i
  rw [List.getElem?_drop]
  by_cases h : i < 20
  · rw [bC32_get a (12 + i) (by omega), aC_get _ i h]
    congr 2
    unfold byteOf
    rw [A160_eq, show 32 - 1 - (12 + i) = 19 - i by omega, show 20 - 1 - i = 19 - i by omega]
    have e : (256 : Nat) ^ 20 = 256 ^ (19 - i) * (256 * 256 ^ i) := by
      rw [← Nat.pow_succ', ← Nat.pow_add]; congr 1; omega
    rw [e, Nat.mod_mul_right_div_self, Nat.mod_mul_right_mod]
  · rw [List.getElem?_eq_none (by rw [bC32_len]; omega), List.getElem?_eq_none (by rw [aC_len]; omega)]
theorem bC32_split (a : Nat) : bC32 a = (bC32 a).take 12 ++ aC (a % A160) ++ [] := by
  rw [List.append_nil, ← bC32_drop, List.take_append_drop]
theorem info_addr : (Try.prog.info? 33).map (·.size) = some 20 := by kernel_rfl

theorem array_at (ad : Option Addr) (c : Nat) (w : World) : (Instr.arrayAt 33 (.slice ad 20 c)).run Try.prog w = .ok (.pointer ad) w := by
  simp [Instr.arrayAt, run_underlying Try.underlying33]
theorem below_addr {a : Nat} {w w' : World} {C : Array Value} {t u : TypeId} {D : Array Value} (hb : Below ((w.alloc (.cells C t)).alloc (.cells D u)).heap.size ((w.alloc (.cells C t)).alloc (.cells D u)) w') (vs : List Value) : Below w.heap.size w (w'.setCells (w.heap.size + 1) 0 vs) :=
  below_setCells (below_c (below_a (below_a (Below.refl w.heap.size w) (by simp) _) (by simp) _) hb (by simp; omega)) (by omega) 0 vs
set_option maxRecDepth 100000 in
set_option maxHeartbeats 1000000 in
theorem addr_calls (a : Nat) (w : World) :
    Calls Try.prog 16 #[wV a] w fun e w' => e = .returned (aV (a % A160)) ∧ Below w.heap.size w w' := by
  have hs := Lib.hid fun W => bytes_calls a W
  simp only [wV]
  go_enter Try.func16, Try.ntmps16
  go_wp2_with fail
  refine (hs.out _).mono ?_
  rintro e w' ⟨rfl, hh, hb⟩
  rw [bC32_split] at hh
  have hr : w'.rangeAt (w.heap.size + 1 + 1 + 1) 12 (aC (a % A160)) := by
    have := range_mid (o := 12) hh (by simp [bC32_len])
    simpa using this
  have HR := Lib.hid hr
  have h1 := heap_below hb (at_new _ _ rfl) (by simp)
  have ht : w'.there (w.heap.size + 1) 0 (aC (a % A160)).toArray.size := by
    have := there_block (o := 0) (n := 20) h1 (by simp)
    simpa [aC_len] using this
  have hW := setCells_whole h1 (aC (a % A160)) (by simp [aC_len])
  have HT := Lib.hid ht
  have HW := Lib.hid hW
  have HB := Lib.hid hb
  have harr := array_at
  clear hr hh h1 ht hW hb
  go_wp2_with (first | (refine wpList_load_mid rfl 33 _ rfl _ _ rfl (aC (a % A160)) _ HR.out Try.underlying33 rfl (by rw [aC_len]; exact info_addr) ?_) | (refine wpList_store_mid rfl 33 _ _ rfl _ _ _ rfl rfl HT.out (by simpa [aC_len] using info_addr) (all_oneCell_toArray (aC_one _)) ?_))
  refine ret_cell (b := w.heap.size + 1) (cs := aC (a % A160)) rfl rfl (range_block (t := 33) (fr := (0, 0)) ?_) Try.underlying33 rfl (by rw [aC_len]; exact info_addr) rfl ⟨rfl, below_addr (a := a) HB.out _⟩
  simpa using HW.out
end Go.Proofs.Ytbkhldaomalmoaa
