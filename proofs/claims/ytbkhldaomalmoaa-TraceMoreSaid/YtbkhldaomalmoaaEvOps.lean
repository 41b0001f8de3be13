/- Events' blocks, places built of parts. -/
import Derived.Test.YtbkhldaomalmoaaSameFoot
namespace Go.Proofs.Ytbkhldaomalmoaa
open Go.RowKit

noncomputable def zEc : Array Value := (((Try.prog.info? 46).bind (·.zero)).getD .nilIface).cells
theorem zEc_size : zEc.size = 32 := by kernel_rfl
theorem exec_allocE (ρ : Operand → Value) (d : Option Tmp) (ty : TypeId) (pos : String) (after : Array Edge) (g : Option (Nat × Bool)) (W : World) :
    Sem.run Try.prog (execOp ρ { dst := d, op := .alloc 46, type := ty, pos := pos, after := after, guard := g }) W = .ok (.value (.pointer (some ⟨W.heap.size, 0, none⟩))) (W.alloc (.cells zEc 46)) := by
  have hz : ∀ w, (zeroValue 46).run Try.prog w = .ok (((Try.prog.info? 46).bind (·.zero)).getD .nilIface) w := fun w => by kernel_rfl
  simp only [execOp, Sem.run_bind, Sem.run_pure, Instr.alloc, hz, Result.andThen_ok, newVar, run_newObj_alloc]
  rfl
theorem exec_storeE (ρ : Operand → Value) (d : Option Tmp) (x y : Operand) (ty : TypeId) (pos : String) (after : Array Edge) (g : Option (Nat × Bool)) (W : World) :
    Sem.run Try.prog (execOp ρ { dst := d, op := .store 46 x y, type := ty, pos := pos, after := after, guard := g }) W = (SD 46 (ρ x) (ρ y) W).andThen fun _ w' => .ok .skip w' := exec_store ρ d _ x y ty pos after g W
theorem SD_newE {W : World} {n : Nat} {e : Ev} (he : e.Ok) (hn : n = W.heap.size) : SD 46 (.pointer (some ⟨n, 0, none⟩)) (evV e) (W.alloc (.cells zEc 46)) = .ok () (W.alloc (.cells (evC e).toArray 46)) :=
  SD_new hn (by rw [zEc_size, evC_len]) (by rw [evC_len]; kernel_rfl) (evC_one he)
theorem fill_part (f : Nat → Option (Nat × Nat)) (F : Array Value) (i off size : Nat) (v : Value) (rest : List (Nat × Value)) (hf : f i = some (off, size)) (hv : v.cells.size = size) (hF : off + size ≤ F.size) :
    Instr.fill f F ((i, v) :: rest) = Instr.fill f (F.toList.take off ++ v.cells.toList ++ F.toList.drop (off + size)).toArray rest := by
  rw [Instr.fill]
  simp only [hf, hv]
  rw [if_neg (by simp; omega)]
  rw [fold_set' off v.cells F (by omega)]
  simp [hv]
theorem zP_cells : zP.cells = (plC ⟨0, false, 0⟩).toArray := by kernel_rfl
noncomputable def BP (parts : Array (Nat × Value)) (W : World) : Result Value := Sem.run Try.prog (Instr.build 50 parts) W
theorem exec_buildPl (ρ : Operand → Value) (d : Option Tmp) (parts : Array (Nat × Operand)) (ty : TypeId) (pos : String) (after : Array Edge) (g : Option (Nat × Bool)) (W : World) :
    Sem.run Try.prog (execOp ρ { dst := d, op := .build 50 parts, type := ty, pos := pos, after := after, guard := g }) W = (BP (parts.map fun (i, x) => (i, ρ x)) W).andThen fun v w' => .ok (.value v) w' := by
  simp only [execOp, Sem.run_bind, Sem.run_pure]; rfl
theorem BP_run (parts : List (Nat × Value)) (cells : Array Value) (W : World) (h : Instr.fill ((#[(0, 20), (20, 1), (21, 4)] : Array (Nat × Nat))[·]?) (plC ⟨0, false, 0⟩).toArray parts = some cells) :
    BP parts.toArray W = .ok (.agg cells) W := by
  have hz : ∀ w, (zeroValue 50).run Try.prog w = .ok zP w := fun w => by kernel_rfl
  have hS : Try.prog.underlying 50 = some (.struct (Try.prog.fieldsOf 50)) := by kernel_rfl
  have hm : ∀ w, ((Try.prog.fieldsOf 50).mapM fun f => do pure (f.offset, ← sizeOf f.type) : Sem (Array (Nat × Nat))).run Try.prog w = .ok #[(0, 20), (20, 1), (21, 4)] w := fun w => by kernel_rfl
  unfold BP Instr.build
  simp only [Sem.run_bind, hz, Result.andThen_ok, run_underlying hS, hm, zP_cells, h, Sem.run_pure]
theorem BP_whole (a : Nat) (W : World) : BP #[(0, aV a), (1, .bool true)] W = .ok (plV ⟨a, true, 0⟩) W := by
  refine BP_run [(0, aV a), (1, .bool true)] (plC ⟨a, true, 0⟩).toArray W ?_
  rw [fill_part _ _ 0 0 20 (aV a) _ rfl (by show (aC a).toArray.size = 20; simp [aC_len]) (by simp [plC_len])]
  rw [fill_part _ _ 1 20 1 (.bool true) _ rfl rfl (by simp [plC_len, aV, Value.cells, aC_len])]
  rw [Instr.fill]
  have h1 : (aV a).cells.toList = aC a := rfl
  have h2 : (Value.bool true).cells.toList = [.bool true] := rfl
  simp [h1, h2, plC, aC_len, wC_len, List.take_append, List.drop_append, List.take_of_length_le, List.drop_of_length_le]
theorem BP_slot (a k : Nat) (W : World) : BP #[(0, aV a), (2, wV k)] W = .ok (plV ⟨a, false, k⟩) W := by
  refine BP_run [(0, aV a), (2, wV k)] (plC ⟨a, false, k⟩).toArray W ?_
  rw [fill_part _ _ 0 0 20 (aV a) _ rfl (by show (aC a).toArray.size = 20; simp [aC_len]) (by simp [plC_len])]
  rw [fill_part _ _ 2 21 4 (wV k) _ rfl rfl (by simp [plC_len, aV, Value.cells, aC_len])]
  rw [Instr.fill]
  have h1 : (aV a).cells.toList = aC a := rfl
  have h2 : (wV k).cells.toList = wC k := rfl
  simp [h1, h2, plC, aC_len, wC_len, List.take_append, List.drop_append, List.take_of_length_le, List.drop_of_length_le]
theorem neW0 {v : Nat} (hv : v < W256) (w : World) : (binOp .neq 36 (wV v) (.agg #[.int .u64 0, .int .u64 0, .int .u64 0, .int .u64 0])).run Try.prog w = .ok (.bool (!decide (v = 0))) w := by
  have h := eqW hv W256_pos 9998 w
  have h0 : wV 0 = .agg #[.int .u64 0, .int .u64 0, .int .u64 0, .int .u64 0] := by simp [wV, limb]
  rw [h0] at h
  rw [wV, run_neq_struct]
  rw [wV] at h
  rw [h]; rfl
theorem W_guard (v : Nat) (u : Array Value) (op : BinOp) (x y : Operand) (w : World) : (eqGuard op 36 x y (wV v) (.agg u)).run Try.prog w = .ok () w :=
  run_eqGuard_agg (P := Try.prog) w op 36 x y _ _ (by kernel_rfl)
end Go.Proofs.Ytbkhldaomalmoaa
