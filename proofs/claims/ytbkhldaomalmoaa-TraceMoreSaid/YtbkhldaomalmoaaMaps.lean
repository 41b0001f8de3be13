/- trace.Steps: the two maps, a round's blocks. -/
import Derived.Test.YtbkhldaomalmoaaRefSteps
import Derived.Test.YtbkhldaomalmoaaAddr
namespace Go.Proofs.Ytbkhldaomalmoaa
open Go.RowKit Go.Maps

/-- the two maps -/
structure MB (w : World) (b1 b2 n1 n2 : Nat) (S1 S2 : List Pl) (W : World) : Prop where
  m1 : OwnsP W b1 n1 S1
  m2 : OwnsP W b2 n2 S2
  below : Below w.heap.size w W
  res : W.heap[w.heap.size]? = some (.cells #[.slice none 0 0, .slice none 0 0] 28 (0, 0))
theorem ownsP_below {W W' : World} {b n : Nat} {S : List Pl} (h : OwnsP W b n S) (hb : Below W.heap.size W W') : OwnsP W' b n S :=
  World.ownsMap.kept h (row := none) ⟨hb.os, hb.tape, hb.output, hb.size, fun k hk _ => hb.block k hk⟩ (by simp)
theorem below_put {w W W' : World} {b : Nat} (h : Below w.heap.size w W) (hg : W.grownBy W' (some b)) (hb : w.heap.size ≤ b) : Below w.heap.size w W' :=
  h.grown hg h.size (fun k e => by cases e; exact hb)
section
variable {w : World} {b1 b2 n1 n2 : Nat} {S1 S2 : List Pl} {W : World}
theorem MB.keep (h : MB w b1 b2 n1 n2 S1 S2 W) {W' : World} (hb : Below W.heap.size W W') : MB w b1 b2 n1 n2 S1 S2 W' :=
  ⟨ownsP_below h.m1 hb, ownsP_below h.m2 hb, below_c h.below hb h.below.size, heap_below hb h.res (at_lt h.res)⟩
theorem MB.alloc (h : MB w b1 b2 n1 n2 S1 S2 W) (o : Obj) : MB w b1 b2 n1 n2 S1 S2 (W.alloc o) := h.keep (below_a (Below.refl _ _) (Nat.le_refl _) o)
end
/-- a round's state -/
structure MW (w : World) (b1 b2 n1 n2 c1 c7 c8 c9 : Nat) (S1 S2 : List Pl) (e : Ev) (W : World) : Prop extends MB w b1 b2 n1 n2 S1 S2 W where
  ev : W.heap[c1]? = some (.cells (evC e).toArray 46 (0, 0))
  s7 : W.heap[c7]? = some (.cells (plC (slotP e)).toArray 50 (0, 0))
  s8 : W.heap[c8]? = some (.cells (plC (selfP e)).toArray 50 (0, 0))
  s9 : W.heap[c9]? = some (.cells (plC (argP e)).toArray 50 (0, 0))
section
variable {w : World} {b1 b2 n1 n2 c1 c7 c8 c9 : Nat} {S1 S2 : List Pl} {e : Ev} {W : World}
theorem MW.loads (h : MW w b1 b2 n1 n2 c1 c7 c8 c9 S1 S2 e W) : LD 5 (.pointer (some ⟨c1, 0, none⟩)) W = .ok (.int .u8 e.op) W ∧ LD 36 (.pointer (some ⟨c1, 26, none⟩)) W = .ok (wV e.value) W ∧
    LD 50 (.pointer (some ⟨c7, 0, none⟩)) W = .ok (plV (slotP e)) W ∧ LD 50 (.pointer (some ⟨c8, 0, none⟩)) W = .ok (plV (selfP e)) W ∧ LD 50 (.pointer (some ⟨c9, 0, none⟩)) W = .ok (plV (argP e)) W :=
  ⟨LD_cell (ev_op (range_block h.ev)) Try.underlying5 rfl, by have := LD_word (ev_value (range_block h.ev)); simpa using this, LD_place (range_block h.s7), LD_place (range_block h.s8), LD_place (range_block h.s9)⟩
/-- the slice that a put is handed -/
theorem put_range (W : World) (ps : List Pl) : (W.alloc (.cells (ps.flatMap plC).toArray 50)).rangeAt W.heap.size 0 (ps.flatMap plC) := range_block (at_new W _ rfl)
theorem MW.puts1 (h : MW w b1 b2 n1 n2 c1 c7 c8 c9 S1 S2 e W) (hb : w.heap.size < b1) (hne : b1 ≠ b2) (hc : b1 ≠ c1 ∧ b1 ≠ c7 ∧ b1 ≠ c8 ∧ b1 ≠ c9) (ps : List Pl) {C : Array Value} {W2 : World} {m : Nat}
    (hm : OwnsP W2 b1 m (S1 ++ ps)) (hg : (W.alloc (.cells C 50)).grownBy W2 (some b1)) : MW w b1 b2 m n2 c1 c7 c8 c9 (S1 ++ ps) S2 e W2 ∧ W.heap.size ≤ W2.heap.size := by
  have hz := hg.size
  simp at hz
  refine ⟨⟨⟨hm, World.ownsMap.kept (World.ownsMap.alloc h.m2 _) hg (by simpa using hne.symm), below_put (below_a h.below h.below.size _) hg (Nat.le_of_lt hb), heap_grown hg (at_old h.res _) (by simp; omega)⟩,
    heap_grown hg (at_old h.ev _) (by simpa using hc.1.symm), heap_grown hg (at_old h.s7 _) (by simpa using hc.2.1.symm), heap_grown hg (at_old h.s8 _) (by simpa using hc.2.2.1.symm), heap_grown hg (at_old h.s9 _) (by simpa using hc.2.2.2.symm)⟩, by omega⟩
theorem MW.puts2 (h : MW w b1 b2 n1 n2 c1 c7 c8 c9 S1 S2 e W) (hb : w.heap.size < b2) (hne : b1 ≠ b2) (hc : b2 ≠ c1 ∧ b2 ≠ c7 ∧ b2 ≠ c8 ∧ b2 ≠ c9) (ps : List Pl) {C : Array Value} {W2 : World} {m : Nat}
    (hm : OwnsP W2 b2 m (S2 ++ ps)) (hg : (W.alloc (.cells C 50)).grownBy W2 (some b2)) : MW w b1 b2 n1 m c1 c7 c8 c9 S1 (S2 ++ ps) e W2 ∧ W.heap.size ≤ W2.heap.size := by
  have hz := hg.size
  simp at hz
  refine ⟨⟨⟨World.ownsMap.kept (World.ownsMap.alloc h.m1 _) hg (by simpa using hne), hm, below_put (below_a h.below h.below.size _) hg (Nat.le_of_lt hb), heap_grown hg (at_old h.res _) (by simp; omega)⟩,
    heap_grown hg (at_old h.ev _) (by simpa using hc.1.symm), heap_grown hg (at_old h.s7 _) (by simpa using hc.2.1.symm), heap_grown hg (at_old h.s8 _) (by simpa using hc.2.2.1.symm), heap_grown hg (at_old h.s9 _) (by simpa using hc.2.2.2.symm)⟩, by omega⟩
theorem mstage {wr : World} (h : MB w b1 b2 n1 n2 S1 S2 wr) (hok : e.Ok) :
    ∃ w1 w2 w3, (SD 46 (.pointer (some ⟨wr.heap.size, 0, none⟩)) (evV e) (wr.alloc (.cells zEc 46)) = .ok () w1 ∧ LD 44 (.pointer (some ⟨wr.heap.size, 31, none⟩)) w1 = .ok (.int .u16 e.fault) w1 ∧
      LD 33 (.pointer (some ⟨wr.heap.size, 2, none⟩)) w1 = .ok (aV e.self) w1 ∧ LD 36 (.pointer (some ⟨wr.heap.size, 22, none⟩)) w1 = .ok (wV e.arg) w1 ∧
      SD 50 (.pointer (some ⟨w1.heap.size, 0, none⟩)) (plV ⟨e.self, false, e.arg⟩) (w1.alloc (.cells zPc 50)) = .ok () w2 ∧
      LD 33 (.pointer (some ⟨wr.heap.size, 2, none⟩)) w2 = .ok (aV e.self) w2 ∧ SD 50 (.pointer (some ⟨w2.heap.size, 0, none⟩)) (plV ⟨e.self, true, 0⟩) (w2.alloc (.cells zPc 50)) = .ok () w3 ∧
      LD 36 (.pointer (some ⟨wr.heap.size, 22, none⟩)) w3 = .ok (wV e.arg) w3 ∧ MB w b1 b2 n1 n2 S1 S2 w1) ∧
      ∀ w4, Below w3.heap.size w3 w4 → ∃ w5, SD 50 (.pointer (some ⟨w4.heap.size, 0, none⟩)) (plV ⟨e.arg % A160, true, 0⟩) (w4.alloc (.cells zPc 50)) = .ok () w5 ∧
        MW w b1 b2 n1 n2 wr.heap.size w1.heap.size w2.heap.size w4.heap.size S1 S2 e w5 ∧ wr.heap.size ≤ w5.heap.size ∧ wr.heap.size < w1.heap.size ∧ wr.heap.size < w2.heap.size ∧ wr.heap.size < w4.heap.size := by
  obtain ⟨w1, hw1⟩ : ∃ w1, wr.alloc (.cells (evC e).toArray 46) = w1 := ⟨_, rfl⟩
  obtain ⟨w2, hw2⟩ : ∃ w2, w1.alloc (.cells (plC (slotP e)).toArray 50) = w2 := ⟨_, rfl⟩
  obtain ⟨w3, hw3⟩ : ∃ w3, w2.alloc (.cells (plC (selfP e)).toArray 50) = w3 := ⟨_, rfl⟩
  have s1 : w1.heap.size = wr.heap.size + 1 := by rw [← hw1]; simp
  have s2 : w2.heap.size = w1.heap.size + 1 := by rw [← hw2]; simp
  have s3 : w3.heap.size = w2.heap.size + 1 := by rw [← hw3]; simp
  have e1 : w1.heap[wr.heap.size]? = some (.cells (evC e).toArray 46 (0, 0)) := by rw [← hw1]; exact at_new _ _ rfl
  have e2 : w2.heap[wr.heap.size]? = some (.cells (evC e).toArray 46 (0, 0)) := by rw [← hw2]; exact at_old e1 _
  have e3 : w3.heap[wr.heap.size]? = some (.cells (evC e).toArray 46 (0, 0)) := by rw [← hw3]; exact at_old e2 _
  have p2 : w2.heap[w1.heap.size]? = some (.cells (plC (slotP e)).toArray 50 (0, 0)) := by rw [← hw2]; exact at_new _ _ rfl
  have p3 : w3.heap[w1.heap.size]? = some (.cells (plC (slotP e)).toArray 50 (0, 0)) := by rw [← hw3]; exact at_old p2 _
  have q3 : w3.heap[w2.heap.size]? = some (.cells (plC (selfP e)).toArray 50 (0, 0)) := by rw [← hw3]; exact at_new _ _ rfl
  have r1 : MB w b1 b2 n1 n2 S1 S2 w1 := by rw [← hw1]; exact h.alloc _
  have r2 : MB w b1 b2 n1 n2 S1 S2 w2 := by rw [← hw2]; exact r1.alloc _
  have r3 : MB w b1 b2 n1 n2 S1 S2 w3 := by rw [← hw3]; exact r2.alloc _
  refine ⟨w1, w2, w3, ⟨by rw [← hw1]; exact SD_newE hok rfl, by have := LD_cell (ev_fault (range_block e1)) Try.underlying44 rfl; simpa using this, by have := LD_addr (ev_self (range_block e1)); simpa using this,
    by have := LD_word (ev_arg (range_block e1)); simpa using this, by rw [← hw2]; exact SD_newP rfl, by have := LD_addr (ev_self (range_block e2)); simpa using this, by rw [← hw3]; exact SD_newP rfl,
    by have := LD_word (ev_arg (range_block e3)); simpa using this, r1⟩, fun w4 hb => ?_⟩
  have s4 := hb.size
  obtain ⟨w5, hw5⟩ : ∃ w5, w4.alloc (.cells (plC (argP e)).toArray 50) = w5 := ⟨_, rfl⟩
  have s5 : w5.heap.size = w4.heap.size + 1 := by rw [← hw5]; simp
  have r5 : MB w b1 b2 n1 n2 S1 S2 w5 := by rw [← hw5]; exact (r3.keep hb).alloc _
  refine ⟨w5, by rw [← hw5]; exact SD_newP rfl, ⟨r5, ?_, ?_, ?_, ?_⟩, by omega, by omega, by omega, by omega⟩
  · rw [← hw5]; exact at_old (heap_below hb e3 (at_lt e3)) _
  · rw [← hw5]; exact at_old (heap_below hb p3 (at_lt p3)) _
  · rw [← hw5]; exact at_old (heap_below hb q3 (at_lt q3)) _
  · rw [← hw5]; exact at_new _ _ rfl
end
end Go.Proofs.Ytbkhldaomalmoaa
