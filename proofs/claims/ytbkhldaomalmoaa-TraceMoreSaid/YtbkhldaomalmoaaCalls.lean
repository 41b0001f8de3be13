/- trace.calls; bytes.Equal, bytes.HasPrefix. -/
import Derived.Test.YtbkhldaomalmoaaMaps
namespace Go.Proofs.Ytbkhldaomalmoaa
open Go.RowKit
attribute [local go_sem ↓] exec_load

def isCall (e : Ev) : Bool := (e.op == 241 || e.op == 242 || e.op == 244 || e.op == 250) && e.fault == 0
set_option maxRecDepth 100000 in
set_option maxHeartbeats 4000000 in
theorem calls_calls (e : Ev) (w : World) : Calls Try.prog 30 #[evV e] w fun x w' => x = .returned (.bool (isCall e)) ∧ Below w.heap.size w w' := by
  have hb := at_new w (.cells (evC e).toArray 46 (0, 0)) rfl
  have f1 : LD 5 (.pointer (some ⟨w.heap.size, 0, none⟩)) (w.alloc (.cells (evC e).toArray 46)) = .ok (.int .u8 e.op) (w.alloc (.cells (evC e).toArray 46)) := LD_cell (ev_op (range_block hb)) Try.underlying5 rfl
  have f2 : LD 44 (.pointer (some ⟨w.heap.size, 31, none⟩)) (w.alloc (.cells (evC e).toArray 46)) = .ok (.int .u16 e.fault) (w.alloc (.cells (evC e).toArray 46)) := by have := LD_cell (ev_fault (range_block hb)) Try.underlying44 rfl; simpa using this
  have hB := Lib.hid (below_a (Below.refl w.heap.size w) (Nat.le_refl _) (.cells (evC e).toArray 46))
  clear hb
  unfold evV
  go_enter Try.func30, Try.ntmps30
  go_wp2
  all_goals go_ret
  all_goals refine ⟨?_, hB.out⟩
  all_goals (show Ending.returned (.bool _) = _; simp only [isCall, *]; rfl)
/-! ### bytes -/
/-- a slice of bytes that holds bs -/
def BtRow (w : World) (v : Value) (bs : List Int) : Prop :=
  ∃ a c, v = .slice a bs.length c ∧ bs.length ≤ c ∧ (bs = [] ∨ ∃ g o, a = some ⟨g, o, none⟩ ∧ g < w.heap.size ∧ ∀ k x, bs[k]? = some x → w.cell? ⟨g, o + k, none⟩ = some (.int .u8 x))
theorem BtRow.below {w w' : World} {v : Value} {L : List Int} (h : BtRow w v L) (hb : Below w.heap.size w w') : BtRow w' v L := by
  obtain ⟨a, c, h1, h2, h3⟩ := h
  refine ⟨a, c, h1, h2, ?_⟩
  rcases h3 with h3 | ⟨g, o, h3, h4, h5⟩
  · exact .inl h3
  · exact .inr ⟨g, o, h3, by have := hb.size; omega, fun k x hx => (hb.cell (p := ⟨g, o + k, none⟩) h4).trans (h5 k x hx)⟩
end Go.Proofs.Ytbkhldaomalmoaa
