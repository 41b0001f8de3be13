/- Events: their cells; loads and stores unopened. -/
import Derived.Test.YtbkhldaomalmoaaSeq
import Derived.Test.YtbkhldaomalmoaaPlCmp
import Derived.Test.YtbkhldaomalmoaaPut
namespace Go.Proofs.Ytbkhldaomalmoaa
open Go.RowKit

structure Ev where
  op : Int
  depth : Int
  self : Nat
  arg : Nat
  value : Nat
  data : Value
  fault : Int
  bytes : List Int
def evC (e : Ev) : List Value := [.int .u8 e.op, .int .i64 e.depth] ++ (aC e.self ++ (wC e.arg ++ (wC e.value ++ [e.data, .int .u16 e.fault])))
def evV (e : Ev) : Value := .agg (evC e).toArray
structure Ev.Ok (e : Ev) : Prop where
  op0 : 0 ≤ e.op
  op1 : e.op ≤ 255
  self : e.self < A160
  arg : e.arg < W256
  value : e.value < W256
  f0 : 0 ≤ e.fault
  f1 : e.fault ≤ 65535
  data : ∃ a c, e.data = .slice a e.bytes.length c
  len : e.bytes.length ≤ maxLen
theorem evC_len (e : Ev) : (evC e).length = 32 := by simp [evC, aC_len, wC_len]
theorem evC_one {e : Ev} (h : e.Ok) : ∀ u ∈ evC e, u.oneCell' = true := by
  intro u hu
  simp only [evC, List.mem_append, List.mem_cons, List.not_mem_nil, or_false] at hu
  rcases hu with (rfl | rfl) | hu | hu | hu | (rfl | rfl)
  · rfl
  · rfl
  · exact aC_one _ u hu
  · exact wC_one _ u hu
  · exact wC_one _ u hu
  · obtain ⟨a, c, h⟩ := h.data
    rw [h]; rfl
  · rfl
theorem range_part {W : World} {b o o2 : Nat} {l1 l2 l3 : List Value} (h : W.rangeAt b o (l1 ++ (l2 ++ l3))) (ho : o2 = o + l1.length) : W.rangeAt b o2 l2 := fun j v hv => by
  have hj := (List.getElem?_eq_some_iff.1 hv).1
  have h1 := h (l1.length + j) v (by rw [List.getElem?_append_right (by omega), show l1.length + j - l1.length = j by omega, List.getElem?_append_left hj]; exact hv)
  rw [ho, Nat.add_assoc]; exact h1
theorem ev_op {W : World} {b o : Nat} {e : Ev} (h : W.rangeAt b o (evC e)) : W.cell? ⟨b, o, none⟩ = some (.int .u8 e.op) := h 0 _ rfl
theorem ev_depth {W : World} {b o : Nat} {e : Ev} (h : W.rangeAt b o (evC e)) : W.cell? ⟨b, o + 1, none⟩ = some (.int .i64 e.depth) := h 1 _ rfl
theorem ev_self {W : World} {b o : Nat} {e : Ev} (h : W.rangeAt b o (evC e)) : W.rangeAt b (o + 2) (aC e.self) := range_part (o2 := o + 2) (l1 := [.int .u8 e.op, .int .i64 e.depth]) h rfl
theorem ev_tail {W : World} {b o : Nat} {e : Ev} (h : W.rangeAt b o (evC e)) : W.rangeAt b (o + 22) (wC e.arg ++ (wC e.value ++ [e.data, .int .u16 e.fault])) := by
  refine range_part (o := o) (l1 := [.int .u8 e.op, .int .i64 e.depth] ++ aC e.self) (l3 := []) ?_ (by simp [aC_len])
  simpa [evC] using h
theorem ev_arg {W : World} {b o : Nat} {e : Ev} (h : W.rangeAt b o (evC e)) : W.rangeAt b (o + 22) (wC e.arg) := by
  have := ev_tail h
  exact range_part (o := o + 22) (l1 := []) this rfl
theorem ev_value {W : World} {b o : Nat} {e : Ev} (h : W.rangeAt b o (evC e)) : W.rangeAt b (o + 26) (wC e.value) := range_part (o := o + 22) (l1 := wC e.arg) (ev_tail h) rfl
theorem ev_last {W : World} {b o : Nat} {e : Ev} (h : W.rangeAt b o (evC e)) : W.rangeAt b (o + 30) [e.data, .int .u16 e.fault] := by
  refine range_part (o := o + 22) (l1 := wC e.arg ++ wC e.value) (l3 := []) ?_ (by simp [wC_len])
  simpa using ev_tail h
theorem ev_data {W : World} {b o : Nat} {e : Ev} (h : W.rangeAt b o (evC e)) : W.cell? ⟨b, o + 30, none⟩ = some e.data := ev_last h 0 _ rfl
theorem ev_fault {W : World} {b o : Nat} {e : Ev} (h : W.rangeAt b o (evC e)) : W.cell? ⟨b, o + 31, none⟩ = some (.int .u16 e.fault) := ev_last h 1 _ rfl
/-- any load, any store, unopened -/
theorem semAt_load (ro : Option Nat) (ρ : Operand → Value) (d : Option Tmp) (t : TypeId) (x : Operand) (ty : TypeId) (pos : String) (after : Array Edge) (g : Option (Nat × Bool)) (W : World) :
    Sem.run Try.prog (Oper.semAt ro ρ { dst := d, op := .load t x, type := ty, pos := pos, after := after, guard := g }) W = (LD t (ρ x) W).andThen fun v w' => .ok (.value v) w' := by
  rw [Oper.semAt_eq _ _ _ (fun c h => by cases h)]; exact exec_load ρ d t x ty pos after g W
theorem LD_ev {W : World} {b o : Nat} {e : Ev} (h : W.rangeAt b o (evC e)) : LD 46 (.pointer (some ⟨b, o, none⟩)) W = .ok (evV e) W :=
  LD_range h Try.underlying46 rfl (by rw [evC_len]; kernel_rfl)
theorem LD_addr {W : World} {b o : Nat} {a : Nat} (h : W.rangeAt b o (aC a)) : LD 33 (.pointer (some ⟨b, o, none⟩)) W = .ok (aV a) W :=
  LD_range h Try.underlying33 rfl (by rw [aC_len]; kernel_rfl)
theorem LD_word {W : World} {b o : Nat} {v : Nat} (h : W.rangeAt b o (wC v)) : LD 36 (.pointer (some ⟨b, o, none⟩)) W = .ok (wV v) W :=
  LD_range h Try.underlying36 rfl (by kernel_rfl)
/-- one cell -/
theorem LD_cell {t : TypeId} {W : World} {p : Addr} {v : Value} {d : TypeDesc} (hc : W.cell? p = some v) (hu : Try.prog.underlying t = some d) (hd : d.isRow = false) : LD t (.pointer (some p)) W = .ok v W := by
  have hagg : (isAgg t).run Try.prog W = .ok false W := by
    unfold isAgg
    rw [Sem.run_bind, run_underlying hu W]
    cases d <;> simp_all
  simp [LD, Instr.loadAt, Instr.sureAddr, Sem.run_bind, loadVar, hagg, hc]
end Go.Proofs.Ytbkhldaomalmoaa
