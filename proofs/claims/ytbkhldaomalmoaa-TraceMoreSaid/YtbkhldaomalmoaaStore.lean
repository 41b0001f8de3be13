/- Blocks that are laid and filled at once. -/
import Derived.Test.YtbkhldaomalmoaaKey
import Derived.OwnWalkIn
namespace Go.Proofs.Ytbkhldaomalmoaa
open Go.RowKit Go.Maps

theorem world_ext {w w' : World} (h1 : w.heap = w'.heap) (h2 : w.tape = w'.tape) (h3 : w.drawn = w'.drawn) (h4 : w.os = w'.os) (h5 : w.output = w'.output) : w = w' := by
  cases w; cases w'; simp at *; exact ⟨h1, h2, h3, h4, h5⟩
theorem setCells_drawn : ∀ (vs : List Value) (w : World) (b o : Nat), (w.setCells b o vs).drawn = w.drawn
  | [], _, _, _ => rfl
  | v :: vs, w, b, o => by rw [World.setCells, setCells_drawn vs]; rfl
theorem setCells_new (W : World) (z : Array Value) (t : TypeId) (vs : List Value) (hl : vs.length = z.size) :
    (W.alloc (.cells z t)).setCells W.heap.size 0 vs = W.alloc (.cells vs.toArray t) := by
  obtain ⟨h1, h2, h3, h4⟩ := setCells_same vs (W.alloc (.cells z t)) W.heap.size 0
  refine world_ext ?_ h2 (setCells_drawn _ _ _ _) h1 h3
  apply Array.ext_getElem?
  intro k
  by_cases hk : k = W.heap.size
  · subst hk
    rw [setCells_whole (at_new W _ rfl) vs hl, at_new W _ rfl]
  · rw [setCells_other vs _ _ 0 k hk]
    by_cases hlt : k < W.heap.size
    · rw [Below.heap_alloc W _ k hlt, Below.heap_alloc W _ k hlt]
    · rw [Array.getElem?_eq_none (by simp; omega), Array.getElem?_eq_none (by simp; omega)]
/-- a store into a block that has just been laid -/
theorem SD_new {t : TypeId} {W : World} {n : Nat} {z : Array Value} {cs : List Value} (hn : n = W.heap.size) (hz : z.size = cs.length) (hi : (Try.prog.info? t).map (·.size) = some cs.length) (h1 : ∀ v ∈ cs, v.oneCell' = true) :
    SD t (.pointer (some ⟨n, 0, none⟩)) (.agg cs.toArray) (W.alloc (.cells z t)) = .ok () (W.alloc (.cells cs.toArray t)) := by
  subst hn
  rw [SD_there (there_block (at_new W _ rfl) (by omega)) hi h1, setCells_new W z t cs hz.symm]
/-- a place's block, laid -/
noncomputable def zPc : Array Value := zP.cells
theorem zPc_size : zPc.size = 25 := zP_size
theorem exec_allocP (ρ : Operand → Value) (d : Option Tmp) (ty : TypeId) (pos : String) (after : Array Edge) (g : Option (Nat × Bool)) (W : World) :
    Sem.run Try.prog (execOp ρ { dst := d, op := .alloc 50, type := ty, pos := pos, after := after, guard := g }) W = .ok (.value (.pointer (some ⟨W.heap.size, 0, none⟩))) (W.alloc (.cells zPc 50)) := by
  have hz : ∀ w, (zeroValue 50).run Try.prog w = .ok zP w := fun w => by kernel_rfl
  simp only [execOp, Sem.run_bind, Sem.run_pure, Instr.alloc, hz, Result.andThen_ok, newVar, run_newObj_alloc]
  rfl
theorem exec_storeP (ρ : Operand → Value) (d : Option Tmp) (x y : Operand) (ty : TypeId) (pos : String) (after : Array Edge) (g : Option (Nat × Bool)) (W : World) :
    Sem.run Try.prog (execOp ρ { dst := d, op := .store 50 x y, type := ty, pos := pos, after := after, guard := g }) W = (SD 50 (ρ x) (ρ y) W).andThen fun _ w' => .ok .skip w' := exec_store ρ d _ x y ty pos after g W
theorem SD_newP {W : World} {n : Nat} {p : Pl} (hn : n = W.heap.size) : SD 50 (.pointer (some ⟨n, 0, none⟩)) (plV p) (W.alloc (.cells zPc 50)) = .ok () (W.alloc (.cells (plC p).toArray 50)) :=
  SD_new hn (by rw [zPc_size, plC_len]) (by rw [plC_len]; exact info_place) (plC_one p)
/-- the same inside a fence -/
theorem semAt_allocP (ro : Option Nat) (ρ : Operand → Value) (d : Option Tmp) (ty : TypeId) (pos : String) (after : Array Edge) (g : Option (Nat × Bool)) (W : World) :
    Sem.run Try.prog (Oper.semAt ro ρ { dst := d, op := .alloc 50, type := ty, pos := pos, after := after, guard := g }) W = .ok (.value (.pointer (some ⟨W.heap.size, 0, none⟩))) (W.alloc (.cells zPc 50)) := by
  rw [Oper.semAt_eq _ _ _ (fun c h => by cases h)]; exact exec_allocP ρ d ty pos after g W
theorem semAt_storeP (ro : Option Nat) (ρ : Operand → Value) (d : Option Tmp) (x y : Operand) (ty : TypeId) (pos : String) (after : Array Edge) (g : Option (Nat × Bool)) (W : World) :
    Sem.run Try.prog (Oper.semAt ro ρ { dst := d, op := .store 50 x y, type := ty, pos := pos, after := after, guard := g }) W = (SD 50 (ρ x) (ρ y) W).andThen fun _ w' => .ok .skip w' := by
  rw [Oper.semAt_eq _ _ _ (fun c h => by cases h)]; exact exec_storeP ρ d x y ty pos after g W
theorem semAt_loadP (ro : Option Nat) (ρ : Operand → Value) (d : Option Tmp) (x : Operand) (ty : TypeId) (pos : String) (after : Array Edge) (g : Option (Nat × Bool)) (W : World) :
    Sem.run Try.prog (Oper.semAt ro ρ { dst := d, op := .load 50 x, type := ty, pos := pos, after := after, guard := g }) W = (LD 50 (ρ x) W).andThen fun v w' => .ok (.value v) w' := by
  rw [Oper.semAt_eq _ _ _ (fun c h => by cases h)]; exact exec_loadP ρ d x ty pos after g W
theorem semAt_buildP (ro : Option Nat) (ρ : Operand → Value) (d : Option Tmp) (n : Nat) (parts : Array (Nat × Operand)) (ty : TypeId) (pos : String) (after : Array Edge) (g : Option (Nat × Bool)) (W : World) :
    Sem.run Try.prog (Oper.semAt ro ρ { dst := d, op := .buildSlice 26 n parts, type := ty, pos := pos, after := after, guard := g }) W = (BS n (parts.map fun (i, x) => (i, ρ x)) W).andThen fun v w' => .ok (.value v) w' := by
  rw [Oper.semAt_eq _ _ _ (fun c h => by cases h)]; exact exec_buildP ρ d n parts ty pos after g W
/-- a place's block, read -/
theorem LD_newP {W : World} {n : Nat} {p : Pl} (hn : n = W.heap.size) : LD 50 (.pointer (some ⟨n, 0, none⟩)) (W.alloc (.cells (plC p).toArray 50)) = .ok (plV p) (W.alloc (.cells (plC p).toArray 50)) :=
  LD_place (range_block (t := 50) (fr := (0, 0)) (at_new W _ hn))
end Go.Proofs.Ytbkhldaomalmoaa
