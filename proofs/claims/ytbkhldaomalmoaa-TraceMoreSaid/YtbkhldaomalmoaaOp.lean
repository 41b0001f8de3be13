/- Loads and stores of whole structs and arrays, kept from the walk's own steps (cell by cell): rules at the level of the whole operation. -/
import Derived.Test.YtbkhldaomalmoaaPlace
namespace Go.Proofs.Ytbkhldaomalmoaa
open Go.RowKit

/-- a load, unopened -/
noncomputable def LD (t : TypeId) (v : Value) (W : World) : Result Value := Sem.run Try.prog (Instr.loadAt t v) W
/-- a store, unopened -/
noncomputable def SD (t : TypeId) (v u : Value) (W : World) : Result Unit := Sem.run Try.prog (Instr.storeAt t v u) W
theorem exec_load (ρ : Operand → Value) (d : Option Tmp) (t : TypeId) (x : Operand) (ty : TypeId) (pos : String) (after : Array Edge) (g : Option (Nat × Bool)) (W : World) :
    Sem.run Try.prog (execOp ρ { dst := d, op := .load t x, type := ty, pos := pos, after := after, guard := g }) W = (LD t (ρ x) W).andThen fun v w' => .ok (.value v) w' := by
  simp only [execOp, Sem.run_bind, Sem.run_pure]; rfl
theorem exec_store (ρ : Operand → Value) (d : Option Tmp) (t : TypeId) (x y : Operand) (ty : TypeId) (pos : String) (after : Array Edge) (g : Option (Nat × Bool)) (W : World) :
    Sem.run Try.prog (execOp ρ { dst := d, op := .store t x y, type := ty, pos := pos, after := after, guard := g }) W = (SD t (ρ x) (ρ y) W).andThen fun _ w' => .ok .skip w' := by
  simp only [execOp, Sem.run_bind, Sem.run_pure]; rfl
theorem LD_range {t : TypeId} {W : World} {b o : Nat} {cs : List Value} {d : TypeDesc} (hc : W.rangeAt b o cs) (hu : Try.prog.underlying t = some d) (hd : d.isRow = true) (hi : (Try.prog.info? t).map (·.size) = some cs.length) :
    LD t (.pointer (some ⟨b, o, none⟩)) W = .ok (.agg cs.toArray) W := run_loadAt_mid W b o t cs d hc hu hd hi
theorem SD_there {t : TypeId} {W : World} {b o : Nat} {cs : List Value} (ht : W.there b o cs.length) (hi : (Try.prog.info? t).map (·.size) = some cs.length) (h1 : ∀ v ∈ cs, v.oneCell' = true) :
    SD t (.pointer (some ⟨b, o, none⟩)) (.agg cs.toArray) W = .ok () (W.setCells b o cs) := run_storeAt_mid W b o t cs.toArray (by simpa using ht) (by simpa using hi) (all_oneCell_toArray h1)
/-- places -/
theorem exec_loadP (ρ : Operand → Value) (d : Option Tmp) (x : Operand) (ty : TypeId) (pos : String) (after : Array Edge) (g : Option (Nat × Bool)) (W : World) :
    Sem.run Try.prog (execOp ρ { dst := d, op := .load 50 x, type := ty, pos := pos, after := after, guard := g }) W = (LD 50 (ρ x) W).andThen fun v w' => .ok (.value v) w' := exec_load ρ d _ x ty pos after g W
theorem LD_place {W : World} {b o : Nat} {p : Pl} (h : W.rangeAt b o (plC p)) : LD 50 (.pointer (some ⟨b, o, none⟩)) W = .ok (plV p) W :=
  LD_range h Try.underlying50 rfl (by rw [plC_len]; exact info_place)

theorem rangeAt_grw {W W1 : World} {b o : Nat} {cs : List Value} (h : W.rangeAt b o cs) (hg : Grw W W1) : W1.rangeAt b o cs := fun j v hv => by
  have hc := h j v hv
  have hb := World.block_lt_of_cell? W _ hc
  exact (hg.below.cell (p := ⟨b, o + j, none⟩) hb).trans hc
theorem range_sub {W : World} {b : Nat} {l1 l2 : List Value} (h : W.rangeAt b 0 (l1 ++ l2)) : W.rangeAt b 0 l1 := fun j v hv => by
  have hj := (List.getElem?_eq_some_iff.1 hv).1
  exact h j v (by rw [List.getElem?_append_left hj]; exact hv)
theorem range_addr {W : World} {b : Nat} {p : Pl} (h : W.rangeAt b 0 (plC p)) : W.rangeAt b 0 (aC p.addr) := by
  rw [plC, List.append_assoc] at h
  exact range_sub h
theorem range_cell {W : World} {b : Nat} {cs : List Value} (h : W.rangeAt b 0 cs) (j : Nat) {v : Value} (hv : cs[j]? = some v) : W.cell? ⟨b, j, none⟩ = some v := by
  have := h j v hv
  rwa [Nat.zero_add] at this
end Go.Proofs.Ytbkhldaomalmoaa
