/- quaestorref14.Steps. -/
import Derived.Test.YtbkhldaomalmoaaFoot
import Derived.Test.YtbkhldaomalmoaaRefAddr
namespace Go.Proofs.Ytbkhldaomalmoaa
open Go.RowKit
attribute [local go_sem ↓] exec_load exec_store exec_allocE exec_allocP exec_buildPl
attribute [local go_sem] BP_whole BP_slot

theorem own_base {W : World} {base base' : Nat} {e : TypeId} {size : Nat} {v : Value} {k : Nat} {xs : List Value} (h : W.ownsRow base e size v k xs) (hb : base' ≤ base) : W.ownsRow base' e size v k xs := by
  refine ⟨h.1, ?_⟩
  rcases h.2 with hn | ⟨g, cap, cur, hv, hbg, rest⟩
  · exact .inl hn
  · exact .inr ⟨g, cap, cur, hv, Nat.le_trans hb hbg, rest⟩
theorem own_val {W : World} {base : Nat} {e : TypeId} {size : Nat} {v : Value} {k : Nat} {xs : List Value} (h : W.ownsRow base e size v k xs) : v.oneCell' = true := by
  rcases h.2 with ⟨rfl, _⟩ | ⟨g, cap, cur, rfl, _⟩ <;> rfl
theorem own_set {W : World} {base : Nat} {e : TypeId} {size : Nat} {v : Value} {k : Nat} {xs : List Value} (h : W.ownsRow base e size v k xs) {B : Nat} (hB : B < base) (o : Nat) (u : Value) : (W.setCell ⟨B, o, none⟩ u).ownsRow base e size v k xs := by
  have hg : W.grownBy (W.setCell ⟨B, o, none⟩ u) (some B) := ⟨rfl, rfl, rfl, by simp [World.setCell], fun j _ hj => Below.heap_setCell _ _ _ j (fun e => hj (by rw [e]))⟩
  exact h.kept hg (.inr fun e' => own_ne h hB e'.symm)
theorem own_slice {W : World} {base : Nat} {e : TypeId} {size : Nat} {v : Value} {k : Nat} {xs : List Value} (h : W.ownsRow base e size v k xs) : ∃ a c, v = .slice a k c := by
  rcases h.2 with ⟨rfl, rfl⟩ | ⟨g, cap, cur, rfl, _⟩
  · exact ⟨_, _, rfl⟩
  · exact ⟨_, _, rfl⟩
theorem SD_slice {W : World} {b o : Nat} {C : Array Value} {ty : TypeId} {v : Value} (hb : W.heap[b]? = some (.cells C ty (0, 0))) (ho : o < C.size) (hv : ∃ a n c, v = .slice a n c) : SD 26 (.pointer (some ⟨b, o, none⟩)) v W = .ok () (W.setCell ⟨b, o, none⟩ v) := by
  obtain ⟨a, n, c, rfl⟩ := hv
  have hs : (sizeOf 26).run Try.prog W = .ok 1 W := by kernel_rfl
  have h1 : Value.cells (.slice a n c) = #[.slice a n c] := rfl
  have h2 := run_storeCells_cells (P := Try.prog) b o [.slice a n c] 0 W (fun j hj => by
      simp at hj; subst hj
      have h3 := cell_in hb o (Array.getElem?_eq_getElem ho)
      simp [h3]) (fun j hj => free_in hb _) (fun v hv => by simp at hv; subst hv; rfl)
  simp only [SD, Instr.storeAt, Instr.sureAddr, Sem.run_bind, Sem.run_pure, Result.andThen_ok, storeVar, h1, hs]
  rw [if_neg (by simp)]
  simpa [World.setCells] using h2
/-- the loop's state: the two lists, in the block B, and the round's blocks -/
structure RW (w : World) (B lo n1 n2 n4 n5 : Nat) (v1 v2 : Value) (Q R : List Pl) (e : Ev) (p4 : Pl) (W : World) : Prop where
  box : W.heap[B]? = some (.cells #[v1, v2] 28 (0, 0))
  o1 : W.ownsRow lo 50 25 v1 Q.length (Q.flatMap plC)
  o2 : W.ownsRow lo 50 25 v2 R.length (R.flatMap plC)
  below : Below w.heap.size w W
  ev : W.heap[n1]? = some (.cells (evC e).toArray 46 (0, 0))
  s2 : W.heap[n2]? = some (.cells (plC (selfP e)).toArray 50 (0, 0))
  s4 : W.heap[n4]? = some (.cells (plC p4).toArray 50 (0, 0))
  s5 : W.heap[n5]? = some (.cells (plC (slotP e)).toArray 50 (0, 0))
  res : W.heap[w.heap.size]? = some (.cells #[.slice none 0 0, .slice none 0 0] 28 (0, 0))
section
variable {w : World} {B lo n1 n2 n4 n5 : Nat} {v1 v2 : Value} {Q R : List Pl} {e : Ev} {p4 : Pl} {W : World}
theorem RW.put1 (h : RW w B lo n1 n2 n4 n5 v1 v2 Q R e p4 W) (hB : w.heap.size < B) (hlo : B < lo) (hn : B ≠ n1 ∧ B ≠ n2 ∧ B ≠ n4 ∧ B ≠ n5) {v' : Value} {Q' : List Pl} {W1 : World} (hsz : lo ≤ W.heap.size + 1)
    (ho : W1.ownsRow (W.heap.size + 1) 50 25 v' Q'.length (Q'.flatMap plC)) (hb : Below W.heap.size W W1) :
    ∃ W2, SD 26 (.pointer (some ⟨B, 0, none⟩)) v' W1 = .ok () W2 ∧ RW w B lo n1 n2 n4 n5 v' v2 Q' R e p4 W2 ∧ W.heap.size ≤ W2.heap.size := by
  obtain ⟨a, c, hv⟩ := own_slice ho
  have hbx := heap_below hb h.box (at_lt h.box)
  refine ⟨_, SD_slice hbx (by simp) ⟨_, _, _, hv⟩, ?_, by have := hb.size; simpa [World.setCell] using this⟩
  refine ⟨by have := heap_set hbx (o := 0) v'; simpa using this, own_set (own_base ho hsz) hlo _ _, own_set (own_below h.o2 hb) hlo _ _, ?_, ?_, ?_, ?_, ?_, ?_⟩
  · exact (below_c h.below hb h.below.size).setCell (p := ⟨B, 0, none⟩) (Nat.le_of_lt hB) _
  · exact heap_set_ne (heap_below hb h.ev (at_lt h.ev)) (fun e => hn.1 e.symm) _
  · exact heap_set_ne (heap_below hb h.s2 (at_lt h.s2)) (fun e => hn.2.1 e.symm) _
  · exact heap_set_ne (heap_below hb h.s4 (at_lt h.s4)) (fun e => hn.2.2.1 e.symm) _
  · exact heap_set_ne (heap_below hb h.s5 (at_lt h.s5)) (fun e => hn.2.2.2 e.symm) _
  · exact heap_set_ne (heap_below hb h.res (at_lt h.res)) (by omega) _
theorem RW.put2 (h : RW w B lo n1 n2 n4 n5 v1 v2 Q R e p4 W) (hB : w.heap.size < B) (hlo : B < lo) (hn : B ≠ n1 ∧ B ≠ n2 ∧ B ≠ n4 ∧ B ≠ n5) {v' : Value} {Q' : List Pl} {W1 : World} (hsz : lo ≤ W.heap.size + 1)
    (ho : W1.ownsRow (W.heap.size + 1) 50 25 v' Q'.length (Q'.flatMap plC)) (hb : Below W.heap.size W W1) :
    ∃ W2, SD 26 (.pointer (some ⟨B, 1, none⟩)) v' W1 = .ok () W2 ∧ RW w B lo n1 n2 n4 n5 v1 v' Q Q' e p4 W2 ∧ W.heap.size ≤ W2.heap.size := by
  obtain ⟨a, c, hv⟩ := own_slice ho
  have hbx := heap_below hb h.box (at_lt h.box)
  refine ⟨_, SD_slice hbx (by simp) ⟨_, _, _, hv⟩, ?_, by have := hb.size; simpa [World.setCell] using this⟩
  refine ⟨by have := heap_set hbx (o := 1) v'; simpa using this, own_set (own_below h.o1 hb) hlo _ _, own_set (own_base ho hsz) hlo _ _, ?_, ?_, ?_, ?_, ?_, ?_⟩
  · exact (below_c h.below hb h.below.size).setCell (p := ⟨B, 1, none⟩) (Nat.le_of_lt hB) _
  · exact heap_set_ne (heap_below hb h.ev (at_lt h.ev)) (fun e => hn.1 e.symm) _
  · exact heap_set_ne (heap_below hb h.s2 (at_lt h.s2)) (fun e => hn.2.1 e.symm) _
  · exact heap_set_ne (heap_below hb h.s4 (at_lt h.s4)) (fun e => hn.2.2.1 e.symm) _
  · exact heap_set_ne (heap_below hb h.s5 (at_lt h.s5)) (fun e => hn.2.2.2 e.symm) _
  · exact heap_set_ne (heap_below hb h.res (at_lt h.res)) (by omega) _
/-- what the loads give -/
theorem RW.loads (h : RW w B lo n1 n2 n4 n5 v1 v2 Q R e p4 W) : LD 26 (.pointer (some ⟨B, 0, none⟩)) W = .ok v1 W ∧ LD 26 (.pointer (some ⟨B, 1, none⟩)) W = .ok v2 W ∧ LD 36 (.pointer (some ⟨n1, 26, none⟩)) W = .ok (wV e.value) W ∧
    LD 50 (.pointer (some ⟨n2, 0, none⟩)) W = .ok (plV (selfP e)) W ∧ LD 50 (.pointer (some ⟨n4, 0, none⟩)) W = .ok (plV p4) W ∧ LD 50 (.pointer (some ⟨n5, 0, none⟩)) W = .ok (plV (slotP e)) W ∧ LD 5 (.pointer (some ⟨n1, 0, none⟩)) W = .ok (.int .u8 e.op) W :=
  ⟨LD_cell (cell_in h.box 0 rfl) Try.underlying26 rfl, LD_cell (cell_in h.box 1 rfl) Try.underlying26 rfl,
   by have := LD_word (ev_value (range_block h.ev)); simpa using this, LD_place (range_block h.s2), LD_place (range_block h.s4), LD_place (range_block h.s5), LD_cell (ev_op (range_block h.ev)) Try.underlying5 rfl⟩
end
/-- the two lists alone -/
structure RB (w : World) (B lo : Nat) (v1 v2 : Value) (Q R : List Pl) (W : World) : Prop where
  box : W.heap[B]? = some (.cells #[v1, v2] 28 (0, 0))
  o1 : W.ownsRow lo 50 25 v1 Q.length (Q.flatMap plC)
  o2 : W.ownsRow lo 50 25 v2 R.length (R.flatMap plC)
  below : Below w.heap.size w W
  res : W.heap[w.heap.size]? = some (.cells #[.slice none 0 0, .slice none 0 0] 28 (0, 0))
section
variable {w : World} {B lo n1 n2 n4 n5 : Nat} {v1 v2 : Value} {Q R : List Pl} {e : Ev} {p4 : Pl} {W : World}
theorem RB.keep (h : RB w B lo v1 v2 Q R W) {W' : World} (hb : Below W.heap.size W W') : RB w B lo v1 v2 Q R W' :=
  ⟨heap_below hb h.box (at_lt h.box), own_below h.o1 hb, own_below h.o2 hb, below_c h.below hb h.below.size, heap_below hb h.res (at_lt h.res)⟩
theorem RB.alloc (h : RB w B lo v1 v2 Q R W) (o : Obj) : RB w B lo v1 v2 Q R (W.alloc o) := h.keep (below_a (Below.refl _ _) (Nat.le_refl _) o)
theorem RW.rb (h : RW w B lo n1 n2 n4 n5 v1 v2 Q R e p4 W) : RB w B lo v1 v2 Q R W := ⟨h.box, h.o1, h.o2, h.below, h.res⟩
theorem rstage {wr : World} (h : RB w B lo v1 v2 Q R wr) (hok : e.Ok) :
    ∃ w1 w2, (SD 46 (.pointer (some ⟨wr.heap.size, 0, none⟩)) (evV e) (wr.alloc (.cells zEc 46)) = .ok () w1 ∧ LD 44 (.pointer (some ⟨wr.heap.size, 31, none⟩)) w1 = .ok (.int .u16 e.fault) w1 ∧
      LD 33 (.pointer (some ⟨wr.heap.size, 2, none⟩)) w1 = .ok (aV e.self) w1 ∧ SD 50 (.pointer (some ⟨w1.heap.size, 0, none⟩)) (plV ⟨e.self, true, 0⟩) (w1.alloc (.cells zPc 50)) = .ok () w2 ∧
      LD 36 (.pointer (some ⟨wr.heap.size, 22, none⟩)) w2 = .ok (wV e.arg) w2 ∧ RB w B lo v1 v2 Q R w1) ∧
      ∀ w3, Below w2.heap.size w2 w3 → ∃ w4 w5, (SD 50 (.pointer (some ⟨w3.heap.size, 0, none⟩)) (plV ⟨e.arg % A160, true, 0⟩) (w3.alloc (.cells zPc 50)) = .ok () w4 ∧
        LD 33 (.pointer (some ⟨wr.heap.size, 2, none⟩)) w4 = .ok (aV e.self) w4 ∧ LD 36 (.pointer (some ⟨wr.heap.size, 22, none⟩)) w4 = .ok (wV e.arg) w4 ∧
        SD 50 (.pointer (some ⟨w4.heap.size, 0, none⟩)) (plV ⟨e.self, false, e.arg⟩) (w4.alloc (.cells zPc 50)) = .ok () w5) ∧ RW w B lo wr.heap.size w1.heap.size w3.heap.size w4.heap.size v1 v2 Q R e (argP e) w5 ∧ wr.heap.size ≤ w5.heap.size ∧ wr.heap.size < w1.heap.size ∧ wr.heap.size < w3.heap.size ∧ wr.heap.size < w4.heap.size := by
  obtain ⟨w1, hw1⟩ : ∃ w1, wr.alloc (.cells (evC e).toArray 46) = w1 := ⟨_, rfl⟩
  obtain ⟨w2, hw2⟩ : ∃ w2, w1.alloc (.cells (plC (selfP e)).toArray 50) = w2 := ⟨_, rfl⟩
  have s1 : w1.heap.size = wr.heap.size + 1 := by rw [← hw1]; simp
  have s2 : w2.heap.size = w1.heap.size + 1 := by rw [← hw2]; simp
  have e1 : w1.heap[wr.heap.size]? = some (.cells (evC e).toArray 46 (0, 0)) := by rw [← hw1]; exact at_new _ _ rfl
  have e2 : w2.heap[wr.heap.size]? = some (.cells (evC e).toArray 46 (0, 0)) := by rw [← hw2]; exact at_old e1 _
  have p2 : w2.heap[w1.heap.size]? = some (.cells (plC (selfP e)).toArray 50 (0, 0)) := by rw [← hw2]; exact at_new _ _ rfl
  have r1 : RB w B lo v1 v2 Q R w1 := by rw [← hw1]; exact h.alloc _
  have r2 : RB w B lo v1 v2 Q R w2 := by rw [← hw2]; exact r1.alloc _
  refine ⟨w1, w2, ⟨by rw [← hw1]; exact SD_newE hok rfl, by have := LD_cell (ev_fault (range_block e1)) Try.underlying44 rfl; simpa using this, by have := LD_addr (ev_self (range_block e1)); simpa using this,
    by rw [← hw2]; exact SD_newP rfl, by have := LD_word (ev_arg (range_block e2)); simpa using this, r1⟩, fun w3 hb => ?_⟩
  have e3 := heap_below hb e2 (at_lt e2)
  have p3 := heap_below hb p2 (at_lt p2)
  have r3 := r2.keep hb
  have s3 := hb.size
  obtain ⟨w4, hw4⟩ : ∃ w4, w3.alloc (.cells (plC (argP e)).toArray 50) = w4 := ⟨_, rfl⟩
  obtain ⟨w5, hw5⟩ : ∃ w5, w4.alloc (.cells (plC (slotP e)).toArray 50) = w5 := ⟨_, rfl⟩
  have s4 : w4.heap.size = w3.heap.size + 1 := by rw [← hw4]; simp
  have s5 : w5.heap.size = w4.heap.size + 1 := by rw [← hw5]; simp
  have e4 : w4.heap[wr.heap.size]? = some (.cells (evC e).toArray 46 (0, 0)) := by rw [← hw4]; exact at_old e3 _
  have e5 : w5.heap[wr.heap.size]? = some (.cells (evC e).toArray 46 (0, 0)) := by rw [← hw5]; exact at_old e4 _
  have p4' : w4.heap[w1.heap.size]? = some (.cells (plC (selfP e)).toArray 50 (0, 0)) := by rw [← hw4]; exact at_old p3 _
  have p5 : w5.heap[w1.heap.size]? = some (.cells (plC (selfP e)).toArray 50 (0, 0)) := by rw [← hw5]; exact at_old p4' _
  have q4 : w4.heap[w3.heap.size]? = some (.cells (plC (argP e)).toArray 50 (0, 0)) := by rw [← hw4]; exact at_new _ _ rfl
  have q5 : w5.heap[w3.heap.size]? = some (.cells (plC (argP e)).toArray 50 (0, 0)) := by rw [← hw5]; exact at_old q4 _
  have t5 : w5.heap[w4.heap.size]? = some (.cells (plC (slotP e)).toArray 50 (0, 0)) := by rw [← hw5]; exact at_new _ _ rfl
  have r4 : RB w B lo v1 v2 Q R w4 := by rw [← hw4]; exact r3.alloc _
  have r5 : RB w B lo v1 v2 Q R w5 := by rw [← hw5]; exact r4.alloc _
  refine ⟨w4, w5, ⟨by rw [← hw4]; exact SD_newP rfl, by have := LD_addr (ev_self (range_block e4)); simpa using this, by have := LD_word (ev_arg (range_block e4)); simpa using this, by rw [← hw5]; exact SD_newP rfl⟩,
    ⟨r5.box, r5.o1, r5.o2, r5.below, e5, p5, q5, t5, r5.res⟩, by omega, by omega, by omega, by omega⟩
end
end Go.Proofs.Ytbkhldaomalmoaa
