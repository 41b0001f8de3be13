/- trace.Belongs and its closure. -/
import Derived.Test.YtbkhldaomalmoaaEqual
import Derived.Test.YtbkhldaomalmoaaBytes
import Derived.Test.YtbkhldaomalmoaaWide
namespace Go.Proofs.Ytbkhldaomalmoaa
open Go.RowKit
attribute [local go_sem ↓] exec_load exec_store

def own (a : Nat) : List Int := (List.range 32).map fun j => byteOf 32 a j
theorem own_len (a : Nat) : (own a).length = 32 := by simp [own]
theorem own_bytes (a : Nat) : bytesOk (own a) := fun x hx => by
  obtain ⟨j, _, rfl⟩ := List.mem_map.1 hx
  exact byteOf_bd 32 a j
def near (slot v : Nat) : Bool := decide ((slot + W256 - v) % W256 ≤ 128)
def belE (a slot : Nat) (e : Ev) : Bool := (e.op == 32) && ((e.fault == 0) && ((decide (32 ≤ e.bytes.length) && decide (e.bytes.take 32 = own a)) && near slot e.value))
/-- the event's bytes, in the world -/
structure EvIn (w : World) (e : Ev) : Prop where
  ok : e.Ok
  row : BtRow w e.data e.bytes
  bytes : bytesOk e.bytes
theorem EvIn.below {w w' : World} {e : Ev} (h : EvIn w e) (hb : Below w.heap.size w w') : EvIn w' e := ⟨h.ok, h.row.below hb, h.bytes⟩
theorem small_calls (v : Nat) (hv : v < W256) (w : World) :
    Calls Try.prog 29 #[wV v] w fun e w' => (∃ (n : Nat) (b : Bool), e = .returned (.tuple #[.int .u64 n, .bool b]) ∧ n < 18446744073709551616 ∧ (b && decide (n ≤ 128)) = decide (v ≤ 128)) ∧ Below w.heap.size w w' := by
  by_cases h : v < 18446744073709551616
  · refine (small_yes v h w).mono ?_
    rintro e w' ⟨rfl, hg⟩
    exact ⟨⟨v, true, rfl, h, by simp⟩, hg.below⟩
  · refine (small_no v hv h w).mono ?_
    rintro e w' ⟨rfl, hg⟩
    exact ⟨⟨0, false, rfl, by omega, by simp; omega⟩, hg.below⟩
set_option maxRecDepth 100000 in
set_option maxHeartbeats 4000000 in
theorem bel1_walk (slot d : Nat) (pf u : Bool) (e : Ev) (w w1 : World) (da : Option Addr) (dc bo bs g : Nat) (hw1 : w.alloc (.cells (evC e).toArray 46) = w1)
    (f1 : LD 5 (.pointer (some ⟨w.heap.size, 0, none⟩)) w1 = .ok (.int .u8 e.op) w1) (f2 : LD 44 (.pointer (some ⟨w.heap.size, 31, none⟩)) w1 = .ok (.int .u16 e.fault) w1)
    (f3 : LD 42 (.pointer (some ⟨w.heap.size, 30, none⟩)) w1 = .ok (.slice da e.bytes.length dc) w1) (f4 : LD 42 (.pointer (some ⟨bo, 0, none⟩)) w1 = .ok (.slice (some ⟨g, 0, none⟩) 32 32) w1)
    (f5 : LD 36 (.pointer (some ⟨bs, 0, none⟩)) w1 = .ok (wV slot) w1) (f6 : LD 36 (.pointer (some ⟨w.heap.size, 26, none⟩)) w1 = .ok (wV e.value) w1)
    (HP : Hid (Calls Try.prog 27 #[.slice da e.bytes.length dc, .slice (some ⟨g, 0, none⟩) 32 32] w1 fun x w' => x = .returned (.bool pf) ∧ w' = w1))
    (HS : Hid (Calls Try.prog 28 #[wV slot, wV e.value] w1 fun x w' => x = .returned (.tuple #[wV d, .bool u]) ∧ Grw w1 w'))
    (HSm : Hid (∀ W, Calls Try.prog 29 #[wV d] W fun x w' => (∃ (n : Nat) (b : Bool), x = .returned (.tuple #[.int .u64 n, .bool b]) ∧ n < 18446744073709551616 ∧ (b && decide (n ≤ 128)) = decide (d ≤ 128)) ∧ Below W.heap.size W w'))
    (HBx : Hid (Below w.heap.size w w1)) :
    Calls Try.prog 26 #[.agg (evC e).toArray, .pointer (some ⟨bo, 0, none⟩), .pointer (some ⟨bs, 0, none⟩)] w fun x w' => x = .returned (.bool ((e.op == 32) && ((e.fault == 0) && (pf && decide (d ≤ 128))))) ∧ Below w.heap.size w w' := by
  rcases o1 : (e.op == 32) with _ | _
  · have o1' : (e.op != 32) = true := by rw [bne, o1]; rfl
    clear HP HS HSm
    go_enter Try.func26, Try.ntmps26
    go_wp2
    go_ret
    exact ⟨rfl, HBx.out⟩
  · have o1' : (e.op != 32) = false := by rw [bne, o1]; rfl
    rcases o2 : (e.fault == 0) with _ | _
    · have o2' : (e.fault != 0) = true := by rw [bne, o2]; rfl
      clear HP HS HSm
      go_enter Try.func26, Try.ntmps26
      go_wp2
      go_ret
      exact ⟨rfl, HBx.out⟩
    · have o2' : (e.fault != 0) = false := by rw [bne, o2]; rfl
      cases pf
      · clear HS HSm
        go_enter Try.func26, Try.ntmps26
        go_wp2_with (go_at_call 27; refine HP.out.mono ?_; rintro x w' ⟨rfl, rfl⟩)
        go_ret
        exact ⟨rfl, HBx.out⟩
      · go_enter Try.func26, Try.ntmps26
        go_wp2_with (first
          | (go_at_call 27; refine HP.out.mono ?_; rintro x w' ⟨rfl, rfl⟩; clear HP)
          | (go_at_call 28; refine HS.out.mono ?_; rintro x w2 ⟨rfl, hg2⟩; clear HS; have H2 := Lib.hid (HBx.out.trans (hg2.below.mono HBx.out.size)); have hsd := SD_new (t := 36) (W := w2) (n := w2.heap.size) (z := #[.int .u64 0, .int .u64 0, .int .u64 0, .int .u64 0]) (cs := wC d) rfl rfl (by kernel_rfl) (wC_one d); have hld := LD_word (range_block (at_new w2 (.cells (wC d).toArray 36 (0, 0)) rfl)); change SD _ _ (wV d) _ = _ at hsd; clear hg2)
          | (go_at_call 29; refine (HSm.out _).mono ?_; rintro x w3 ⟨⟨n, b, rfl, hn, hnb⟩, hb3⟩; clear HSm))
        all_goals go_ret
        · refine ⟨?_, (H2.out.alloc H2.out.size _).trans (hb3.mono (by have := H2.out.size; simp; omega))⟩
          have hb' : b = true := by assumption
          rw [hb', Bool.true_and] at hnb
          have hnb2 : decide ((n : Int) ≤ 128) = decide (d ≤ 128) := by rw [← hnb]; exact decide_eq_decide.2 (by omega)
          show Ending.returned (.bool (decide ((n : Int) ≤ 128))) = _
          rw [hnb2]; rfl
        · refine ⟨?_, (H2.out.alloc H2.out.size _).trans (hb3.mono (by have := H2.out.size; simp; omega))⟩
          have hb' : b = false := by cases b <;> simp_all
          show Ending.returned (.bool false) = _
          rw [← hnb, hb']; rfl
theorem bel1_calls (a slot : Nat) (hs : slot < W256) (e : Ev) (w : World) (he : EvIn w e) (bo bs g : Nat) (h1 : w.cell? ⟨bo, 0, none⟩ = some (.slice (some ⟨g, 0, none⟩) 32 32)) (h2 : ∀ k x, (own a)[k]? = some x → w.cell? ⟨g, 0 + k, none⟩ = some (.int .u8 x)) (h3 : w.rangeAt bs 0 (wC slot)) (hbo : bo < w.heap.size) (hbs : bs < w.heap.size) (hg : g < w.heap.size) :
    Calls Try.prog 26 #[evV e, .pointer (some ⟨bo, 0, none⟩), .pointer (some ⟨bs, 0, none⟩)] w fun x w' => x = .returned (.bool (belE a slot e)) ∧ Below w.heap.size w w' := by
  obtain ⟨w1, hw1⟩ : ∃ w1, w.alloc (.cells (evC e).toArray 46) = w1 := ⟨_, rfl⟩
  have hb : w1.heap[w.heap.size]? = some (.cells (evC e).toArray 46 (0, 0)) := by rw [← hw1]; exact at_new w _ rfl
  have hB : Below w.heap.size w w1 := by rw [← hw1]; exact below_a (Below.refl w.heap.size w) (Nat.le_refl _) _
  obtain ⟨da, dc, hdat⟩ := he.ok.data
  have hlen : e.bytes.length ≤ 9223372036854775807 := he.ok.len
  have hp := hasPrefix_calls w1 e.data e.bytes (own a) g 32 he.bytes (own_bytes a) (own_len a) (he.row.below hB) hlen (fun k x hk => (hB.cell (p := ⟨g, 0 + k, none⟩) hg).trans (h2 k x hk))
  rw [hdat] at hp
  exact bel1_walk slot ((slot + W256 - e.value) % W256) _ (decide (slot < e.value)) e w w1 da dc bo bs g hw1 (LD_cell (ev_op (range_block hb)) Try.underlying5 rfl)
    (by have := LD_cell (ev_fault (range_block hb)) Try.underlying44 rfl; simpa using this) (by have := LD_cell (ev_data (range_block hb)) Try.underlying42 rfl; rw [hdat] at this; simpa using this)
    (LD_cell ((hB.cell (p := ⟨bo, 0, none⟩) hbo).trans h1) Try.underlying42 rfl) (LD_word (rangeAt_below h3 hB)) (by have := LD_word (ev_value (range_block hb)); simpa using this)
    (Lib.hid hp) (Lib.hid (sub_calls slot e.value hs he.ok.value w1)) (Lib.hid fun W => small_calls _ (Nat.mod_lt _ W256_pos) W) (Lib.hid hB)
end Go.Proofs.Ytbkhldaomalmoaa
