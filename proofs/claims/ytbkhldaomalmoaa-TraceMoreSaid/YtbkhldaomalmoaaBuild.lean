/- Slice literals of structs. -/
import Derived.Test.YtbkhldaomalmoaaOp
namespace Go.Proofs.Ytbkhldaomalmoaa
open Go.RowKit

theorem fold_set (off : Nat) : ∀ (l : List Value) (k : Nat) (F : Array Value), off + k + l.length ≤ F.size →
    (l.zipIdx k).foldl (fun cs (x : Value × Nat) => cs.setIfInBounds (off + x.2) x.1) F = (F.toList.take (off + k) ++ l ++ F.toList.drop (off + k + l.length)).toArray
  | [], k, F, _ => by simp
  | v :: l, k, F, h => by
    simp only [List.length_cons] at h
    rw [List.zipIdx_cons, List.foldl_cons, fold_set off l (k + 1) _ (by rw [Array.size_setIfInBounds]; omega)]
    congr 1
    simp only [Array.toList_setIfInBounds, List.length_cons]
    rw [show off + (k + 1) = off + k + 1 by omega]
    exact splice_step F.toList (off + k) v l (by simpa using (by omega : off + k + (l.length + 1) ≤ F.size))
theorem fold_set' (off : Nat) (vs F : Array Value) (h : off + vs.size ≤ F.size) :
    (vs.zipIdx.foldl (fun cs (x : Value × Nat) => cs.setIfInBounds (off + x.2) x.1) F) = (F.toList.take off ++ vs.toList ++ F.toList.drop (off + vs.size)).toArray := by
  rw [← Array.foldl_toList, Array.toList_zipIdx, fold_set off vs.toList 0 F (by simpa using h)]
  simp
theorem fill_step (size : Nat) (F : Array Value) (i : Nat) (cs : List Value) (rest : List (Nat × Value)) (hl : cs.length = size) (hF : i * size + size ≤ F.size) :
    Instr.fill (fun i => some (i * size, size)) F ((i, .agg cs.toArray) :: rest) = Instr.fill (fun i => some (i * size, size)) (F.toList.take (i * size) ++ cs ++ F.toList.drop (i * size + size)).toArray rest := by
  rw [Instr.fill]
  have h1 : (Value.agg cs.toArray).cells = cs.toArray := rfl
  simp only [h1, List.size_toArray, hl]
  rw [if_neg (by simp; omega)]
  rw [fold_set' (i * size) cs.toArray F (by simpa [hl] using hF)]
  simp [hl]
section
variable {P : Program}
theorem run_buildSlice1 (w : World) (t e : TypeId) (size : Nat) (z : Value) (ht : P.underlying t = some (.slice e)) (hs : ∀ w, (sizeOf e).run P w = .ok size w) (hz : ∀ w, (zeroValue e).run P w = .ok z w) (hpos : 0 < size) (hle : size ≤ 65536) (cs : List Value) (hl : cs.length = size) :
    (Instr.buildSlice t 1 #[(0, .agg cs.toArray)]).run P w = .ok (.slice (some ⟨w.heap.size, 0, none⟩) 1 1) (w.alloc (.cells cs.toArray e)) := by
  have hF : Instr.fill (fun i => some (i * size, size)) ((Array.range (1 * size)).map (fun i => z.cells[i % z.cells.size]!)) [(0, .agg cs.toArray)] = some cs.toArray := by
    rw [fill_step size _ 0 cs [] hl (by simp)]
    simp [Instr.fill]
  simp only [Instr.buildSlice, Sem.run_bind, run_underlying ht, hs, Result.andThen_ok]
  rw [if_neg (by omega), if_neg (by omega)]
  simp only [Sem.run_bind, hz, Result.andThen_ok, Sem.run_pure, hF]
  simp [newRow]
theorem run_buildSlice2 (w : World) (t e : TypeId) (size : Nat) (z : Value) (ht : P.underlying t = some (.slice e)) (hs : ∀ w, (sizeOf e).run P w = .ok size w) (hz : ∀ w, (zeroValue e).run P w = .ok z w) (hpos : 0 < size) (hle : size ≤ 65536) (cs ds : List Value) (hl : cs.length = size) (hd : ds.length = size) :
    (Instr.buildSlice t 2 #[(0, .agg cs.toArray), (1, .agg ds.toArray)]).run P w = .ok (.slice (some ⟨w.heap.size, 0, none⟩) 2 2) (w.alloc (.cells (cs ++ ds).toArray e)) := by
  have hF : Instr.fill (fun i => some (i * size, size)) ((Array.range (2 * size)).map (fun i => z.cells[i % z.cells.size]!)) [(0, .agg cs.toArray), (1, .agg ds.toArray)] = some (cs ++ ds).toArray := by
    rw [fill_step size _ 0 cs _ hl (by simp; omega)]
    rw [fill_step size _ 1 ds [] hd (by simp [hl]; omega)]
    rw [Instr.fill]
    congr 2
    simp only [Nat.zero_mul, List.take_zero, List.nil_append, Nat.zero_add, Nat.one_mul]
    rw [List.take_left' hl, List.drop_of_length_le (by simp [hl]; omega), List.append_nil]
  simp only [Instr.buildSlice, Sem.run_bind, run_underlying ht, hs, Result.andThen_ok]
  rw [if_neg (by omega), if_neg (by omega)]
  simp only [Sem.run_bind, hz, Result.andThen_ok, Sem.run_pure, hF]
  simp [newRow]
end
/-- slices of places, of one place, of two -/
noncomputable def BS (n : Nat) (parts : Array (Nat × Value)) (W : World) : Result Value := Sem.run Try.prog (Instr.buildSlice 26 n parts) W
theorem exec_buildP (ρ : Operand → Value) (d : Option Tmp) (n : Nat) (parts : Array (Nat × Operand)) (ty : TypeId) (pos : String) (after : Array Edge) (g : Option (Nat × Bool)) (W : World) :
    Sem.run Try.prog (execOp ρ { dst := d, op := .buildSlice 26 n parts, type := ty, pos := pos, after := after, guard := g }) W = (BS n (parts.map fun (i, x) => (i, ρ x)) W).andThen fun v w' => .ok (.value v) w' := by
  simp only [execOp, Sem.run_bind, Sem.run_pure]; rfl
theorem BS_one (p : Pl) (W : World) : BS 1 #[(0, plV p)] W = .ok (.slice (some ⟨W.heap.size, 0, none⟩) 1 1) (W.alloc (.cells (plC p).toArray 50)) :=
  run_buildSlice1 W 26 50 25 _ Try.underlying26 (fun w => by kernel_rfl) (fun w => Try.zeroValue50 w) (by decide) (by decide) (plC p) (plC_len p)
theorem BS_two (p q : Pl) (W : World) : BS 2 #[(0, plV p), (1, plV q)] W = .ok (.slice (some ⟨W.heap.size, 0, none⟩) 2 2) (W.alloc (.cells (plC p ++ plC q).toArray 50)) :=
  run_buildSlice2 W 26 50 25 _ Try.underlying26 (fun w => by kernel_rfl) (fun w => Try.zeroValue50 w) (by decide) (by decide) (plC p) (plC q) (plC_len p) (plC_len q)
end Go.Proofs.Ytbkhldaomalmoaa
