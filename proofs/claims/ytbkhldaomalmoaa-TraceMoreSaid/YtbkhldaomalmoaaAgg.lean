/- Loads, stores and results of whole structs and arrays. -/
import Derived.Test.YtbkhldaomalmoaaMore
import Derived.Deep.MidRow
namespace Go.Proofs.Ytbkhldaomalmoaa
open Go.RowKit

theorem range_block {w : World} {b : Nat} {cs : List Value} {t : TypeId} {fr : Nat × Nat} (h : w.heap[b]? = some (.cells cs.toArray t fr)) : w.rangeAt b 0 cs := fun j v hv => by
  rw [Nat.zero_add]
  exact cell_in h j (by simpa using hv)
theorem range_mid {w : World} {b o : Nat} {l1 l2 l3 : List Value} {t : TypeId} {fr : Nat × Nat} (h : w.heap[b]? = some (.cells (l1 ++ l2 ++ l3).toArray t fr)) (ho : o = l1.length) : w.rangeAt b o l2 := fun j v hv => by
  subst ho
  have hj := (List.getElem?_eq_some_iff.1 hv).1
  refine cell_in h _ ?_
  rw [List.getElem?_toArray, List.append_assoc, List.getElem?_append_right (by omega), Nat.add_sub_cancel_left, List.getElem?_append_left hj]
  exact hv
theorem there_block {w : World} {b : Nat} {C : Array Value} {t : TypeId} (h : w.heap[b]? = some (.cells C t (0, 0))) {o n : Nat} (hn : o + n ≤ C.size) : w.there b o n := fun j hj => by
  refine ⟨?_, free_in h _⟩
  rw [cell_in h (o + j) (Array.getElem?_eq_getElem (by omega))]; rfl
theorem splice_step (L : List Value) (o : Nat) (v : Value) (vs : List Value) (h : o + (vs.length + 1) ≤ L.length) : (L.set o v).take (o + 1) ++ vs ++ (L.set o v).drop (o + 1 + vs.length) = L.take o ++ (v :: vs) ++ L.drop (o + (vs.length + 1)) := by
  have e : L.set o v = L.take o ++ v :: L.drop (o + 1) := by
    rw [List.set_eq_take_append_cons_drop, if_pos (by omega)]
  have l : (L.take o).length = o := by rw [List.length_take]; omega
  have e1 : (L.set o v).take (o + 1) = L.take o ++ [v] := by
    rw [e, List.take_append, l, List.take_of_length_le (by omega), show o + 1 - o = 1 by omega]
    rfl
  have e2 : (L.set o v).drop (o + 1 + vs.length) = L.drop (o + (vs.length + 1)) := by
    rw [List.drop_set, if_pos (by omega)]
    congr 1; omega
  rw [e1, e2]
  simp
theorem setCells_heap {t : TypeId} {fr : Nat × Nat} : ∀ (vs : List Value) (w : World) (b o : Nat) (C : Array Value), w.heap[b]? = some (.cells C t fr) → o + vs.length ≤ C.size →
    (w.setCells b o vs).heap[b]? = some (.cells (C.toList.take o ++ vs ++ C.toList.drop (o + vs.length)).toArray t fr)
  | [], w, b, o, C, h, _ => by
    rw [World.setCells]
    simpa using h
  | v :: vs, w, b, o, C, h, hl => by
    rw [World.setCells]
    simp only [List.length_cons] at hl
    have := setCells_heap vs _ b (o + 1) _ (heap_set (o := o) h v) (by rw [Array.size_setIfInBounds]; omega)
    rw [this]
    congr 3
    simp only [Array.toList_setIfInBounds, List.length_cons]
    exact splice_step C.toList o v vs (by simpa using hl)
/-- the block behind a store of all its cells -/
theorem setCells_whole {w : World} {b : Nat} {C : Array Value} {t : TypeId} {fr : Nat × Nat} (h : w.heap[b]? = some (.cells C t fr)) (vs : List Value) (hl : vs.length = C.size) : (w.setCells b 0 vs).heap[b]? = some (.cells vs.toArray t fr) := by
  rw [setCells_heap vs w b 0 C h (by omega), Nat.zero_add, hl, List.drop_of_length_le (by simp)]
  simp
/-- behind a store in the midst of a block -/
theorem setCells_mid {w : World} {b o : Nat} {l1 l2 l3 : List Value} {t : TypeId} {fr : Nat × Nat} (h : w.heap[b]? = some (.cells (l1 ++ l2 ++ l3).toArray t fr)) (ho : o = l1.length) (vs : List Value) (hl : vs.length = l2.length) : (w.setCells b o vs).heap[b]? = some (.cells (l1 ++ vs ++ l3).toArray t fr) := by
  subst ho
  rw [setCells_heap vs w b _ _ h (by simp; omega)]
  simp [hl]
theorem setCells_other : ∀ (vs : List Value) (w : World) (b o k : Nat), k ≠ b → (w.setCells b o vs).heap[k]? = w.heap[k]?
  | [], _, _, _, _, _ => rfl
  | v :: vs, w, b, o, k, h => by
    rw [World.setCells, setCells_other vs _ b (o + 1) k h]
    exact Below.heap_setCell _ _ _ _ h
theorem setCells_same (vs : List Value) : ∀ (w : World) (b o : Nat), (w.setCells b o vs).os = w.os ∧ (w.setCells b o vs).tape = w.tape ∧ (w.setCells b o vs).output = w.output ∧ (w.setCells b o vs).heap.size = w.heap.size := by
  induction vs with
  | nil => intros; exact ⟨rfl, rfl, rfl, rfl⟩
  | cons v vs ih =>
    intro w b o
    rw [World.setCells]
    obtain ⟨h1, h2, h3, h4⟩ := ih (w.setCell ⟨b, o, none⟩ v) b (o + 1)
    exact ⟨h1, h2, h3, h4.trans (by simp [World.setCell])⟩
theorem below_setCells {B : Nat} {a w : World} (h : Below B a w) {b : Nat} (hb : B ≤ b) (o : Nat) (vs : List Value) : Below B a (w.setCells b o vs) := by
  obtain ⟨h1, h2, h3, h4⟩ := setCells_same vs w b o
  exact h.trans ⟨h1, h2, h3, by omega, fun k hk => setCells_other vs w b o k (by omega)⟩
/-- a function's one result that lies in a block -/
theorem ret_cell {P : Program} {fn : Func} {R : Ending → World → Prop} {a : Act} {w : World} {p : Tmp} {ty : TypeId} {b : Nat} {cs : List Value} {d : TypeDesc} (h : fn.results = #[.cell p ty]) (hp : a.tmps.getD p undef = .pointer (some ⟨b, 0, none⟩))
    (hc : w.rangeAt b 0 cs) (hu : P.underlying ty = some d) (hd : d.isRow = true) (hi : (P.info? ty).map (·.size) = some cs.length) (hdf : a.defers = []) (hR : R (.returned (.agg cs.toArray)) w) : bodyPost P fn R .ret a w := by
  refine bodyPost_ret (v := .agg cs.toArray) ?_ hdf hR
  have hp' : a.tmps[p]?.getD undef = .pointer (some ⟨b, 0, none⟩) := by simpa using hp
  simp only [results, h]
  simp [hp', asAddr, run_loadVar_mid (P := P) w b 0 ty cs d hc hu hd hi]
end Go.Proofs.Ytbkhldaomalmoaa
