/- Builds, slice literals and blocks of any type, unopened. -/
import Derived.Test.YtbkhldaomalmoaaMaps
namespace Go.Proofs.Ytbkhldaomalmoaa
open Go.RowKit

/-- a build, unopened -/
noncomputable def BD (t : TypeId) (parts : Array (Nat × Value)) (W : World) : Result Value := Sem.run Try.prog (Instr.build t parts) W
theorem exec_build (ρ : Operand → Value) (d : Option Tmp) (t : TypeId) (parts : Array (Nat × Operand)) (ty : TypeId) (pos : String) (after : Array Edge) (g : Option (Nat × Bool)) (W : World) :
    Sem.run Try.prog (execOp ρ { dst := d, op := .build t parts, type := ty, pos := pos, after := after, guard := g }) W = (BD t (parts.map fun (i, x) => (i, ρ x)) W).andThen fun v w' => .ok (.value v) w' := by
  simp only [execOp, Sem.run_bind, Sem.run_pure]; rfl
/-- a slice literal, unopened -/
noncomputable def BL (t : TypeId) (n : Nat) (parts : Array (Nat × Value)) (W : World) : Result Value := Sem.run Try.prog (Instr.buildSlice t n parts) W
theorem exec_buildSlice (ρ : Operand → Value) (d : Option Tmp) (t : TypeId) (n : Nat) (parts : Array (Nat × Operand)) (ty : TypeId) (pos : String) (after : Array Edge) (g : Option (Nat × Bool)) (W : World) :
    Sem.run Try.prog (execOp ρ { dst := d, op := .buildSlice t n parts, type := ty, pos := pos, after := after, guard := g }) W = (BL t n (parts.map fun (i, x) => (i, ρ x)) W).andThen fun v w' => .ok (.value v) w' := by
  simp only [execOp, Sem.run_bind, Sem.run_pure]; rfl
/-- a type's zero cells -/
noncomputable def zC (t : TypeId) : Array Value := (((Try.prog.info? t).bind (·.zero)).getD .nilIface).cells
/-- a block, unopened -/
noncomputable def AL (t : TypeId) (W : World) : Result Value := Sem.run Try.prog (Instr.alloc t true (.tuple #[])) W
theorem exec_alloc (ρ : Operand → Value) (d : Option Tmp) (t : TypeId) (ty : TypeId) (pos : String) (after : Array Edge) (g : Option (Nat × Bool)) (W : World) :
    Sem.run Try.prog (execOp ρ { dst := d, op := .alloc t, type := ty, pos := pos, after := after, guard := g }) W = (AL t W).andThen fun v w' => .ok (.value v) w' := by
  simp only [execOp, Sem.run_bind, Sem.run_pure]; rfl
theorem AL_run {t : TypeId} {z : Value} (hz : ∀ w, (zeroValue t).run Try.prog w = .ok z w) (h : zC t = z.cells) (W : World) : AL t W = .ok (.pointer (some ⟨W.heap.size, 0, none⟩)) (W.alloc (.cells (zC t) t)) := by
  simp only [AL, Instr.alloc, Sem.run_bind, hz, Result.andThen_ok, newVar, run_newObj_alloc, h]
  rfl
theorem AL_addr (W : World) : AL 33 W = .ok (.pointer (some ⟨W.heap.size, 0, none⟩)) (W.alloc (.cells (zC 33) 33)) :=
  AL_run (z := (((Try.prog.info? 33).bind (·.zero)).getD .nilIface)) (fun w => by kernel_rfl) rfl W
theorem zC_addr : (zC 33).size = 20 := by kernel_rfl
theorem SD_newA {W : World} {n : Nat} {a : Nat} (hn : n = W.heap.size) : SD 33 (.pointer (some ⟨n, 0, none⟩)) (aV a) (W.alloc (.cells (zC 33) 33)) = .ok () (W.alloc (.cells (aC a).toArray 33)) :=
  SD_new hn (by rw [zC_addr, aC_len]) (by rw [aC_len]; kernel_rfl) (aC_one a)
/-- a piece of a slice, unopened -/
noncomputable def SL (t : TypeId) (x : Value) (lo hi mx : Option Value) (W : World) : Result Value := Sem.run Try.prog (Instr.sliceAt t x lo hi mx) W
theorem exec_slice (ρ : Operand → Value) (d : Option Tmp) (t : TypeId) (x : Operand) (lo hi mx : Option Operand) (ty : TypeId) (pos : String) (after : Array Edge) (g : Option (Nat × Bool)) (W : World) :
    Sem.run Try.prog (execOp ρ { dst := d, op := .slice t x lo hi mx, type := ty, pos := pos, after := after, guard := g }) W = (SL t (ρ x) (lo.map ρ) (hi.map ρ) (mx.map ρ) W).andThen fun v w' => .ok (.value v) w' := by
  simp only [execOp, Sem.run_bind, Sem.run_pure]; rfl
theorem BL_ev1 (e : Ev) (W : World) : BL 22 1 #[(0, evV e)] W = .ok (.slice (some ⟨W.heap.size, 0, none⟩) 1 1) (W.alloc (.cells (evC e).toArray 46)) :=
  run_buildSlice1 W 22 46 32 _ Try.underlying22 (fun w => by kernel_rfl) (fun w => Try.zeroValue46 w) (by decide) (by decide) (evC e) (evC_len e)
theorem BL_ev2 (e f : Ev) (W : World) : BL 22 2 #[(0, evV e), (1, evV f)] W = .ok (.slice (some ⟨W.heap.size, 0, none⟩) 2 2) (W.alloc (.cells (evC e ++ evC f).toArray 46)) :=
  run_buildSlice2 W 22 46 32 _ Try.underlying22 (fun w => by kernel_rfl) (fun w => Try.zeroValue46 w) (by decide) (by decide) (evC e) (evC f) (evC_len e) (evC_len f)
end Go.Proofs.Ytbkhldaomalmoaa
