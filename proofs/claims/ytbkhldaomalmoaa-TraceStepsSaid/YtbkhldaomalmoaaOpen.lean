/- Arguments opened: words, addresses, bytes, numbers out of what is read. -/
import Derived.Test.YtbkhldaomalmoaaBase
import Derived.Deep.Slices
import Derived.OpenShut
namespace Go.Proofs.Ytbkhldaomalmoaa
open Go.ChangeShapes Go.WideShapes Go.RowKit Go.Deep

section
variable {H : Type} {enc : TypeId × Value → H} {P : Program} {w : World} {base : Nat} {spare : Nat → Bool} {held : Bool} {fuel : Nat}
/-- an array of whole numbers: its cells -/
theorem open_arr_ints {t e : TypeId} {n : Nat} {k : IntKind} {cs : List Value} {x : DataW H × List MemPlace} (ht : P.underlying t = some (.array n e)) (he : P.underlying e = some (.int k)) (hc : P.cellsOf e = 1) (hct : P.cellsOf t = n)
    (h : DataW.trod enc P w base spare held fuel t cs = some x) : ∃ zs : List Int, cs = zs.map (Value.int k) ∧ zs.length = n ∧ ∀ z ∈ zs, (Lit.int k z).wf = true := by
  obtain ⟨xs, m, -, -, hl, hxl, hi⟩ := DataW.trod_array ht h
  rw [hct] at hl
  have key : ∀ i, i < n → ∃ z : Int, cs[i]? = some (.int k z) ∧ (Lit.int k z).wf = true := by
    intro i hin
    have h1 := hi i hin
    rw [hc, Nat.mul_one, List.getElem?_eq_getElem (by omega)] at h1
    obtain ⟨z, hz, -, hw⟩ := DataW.trod_int he h1
    refine ⟨z, ?_, hw⟩
    have h2 : ((cs.drop i).take 1)[0]? = some (.int k z) := by rw [hz]; rfl
    rw [List.getElem?_take_of_lt (by omega), List.getElem?_drop, Nat.add_zero] at h2
    exact h2
  obtain ⟨f, hf⟩ := choose_lt key
  refine ⟨(List.range n).map f, ?_, by simp, fun z hz => ?_⟩
  · apply List.ext_getElem?
    intro i
    by_cases hin : i < n
    · rw [(hf i hin).1]; simp [hin]
    · rw [List.getElem?_eq_none (by omega), List.getElem?_eq_none (by simp; omega)]
  · obtain ⟨i, hir, rfl⟩ := List.mem_map.1 hz
    exact (hf i (by simpa using hir)).2
/-- a struct's field -/
theorem trod_field {t : TypeId} {fs : Array Field} {cs : List Value} {x : DataW H × List MemPlace} (ht : P.underlying t = some (.struct fs)) (h : DataW.trod enc P w base spare held fuel t cs = some x) (i : Nat) {ty : TypeId} {off n : Nat}
    (hfi : (fs[i]?).map (fun f => (f.type, f.offset)) = some (ty, off)) (hc : P.cellsOf ty = n) : ∃ y m, DataW.trod enc P w base spare held m ty ((cs.drop off).take n) = some y := by
  obtain ⟨xs, m, -, -, hl, hxl, hf⟩ := DataW.trod_struct ht h
  rcases hfe : fs[i]? with _ | f
  · rw [hfe] at hfi; simp at hfi
  · rw [hfe] at hfi
    simp only [Option.map_some, Option.some.injEq, Prod.mk.injEq] at hfi
    obtain ⟨rfl, rfl⟩ := hfi
    have h1 := hf i f hfe
    have hi : i < xs.length := by rw [hxl]; exact (Array.getElem?_eq_some_iff.1 hfe).1
    rw [hc, List.getElem?_eq_getElem hi] at h1
    exact ⟨_, m, h1⟩
theorem trod_cells {t : TypeId} {fs : Array Field} {cs : List Value} {x : DataW H × List MemPlace} {n : Nat} (ht : P.underlying t = some (.struct fs)) (h : DataW.trod enc P w base spare held fuel t cs = some x) (hc : P.cellsOf t = n) : cs.length = n := by
  obtain ⟨xs, m, -, -, hl, hxl, hf⟩ := DataW.trod_struct ht h
  rw [hl, hc]
end

/-! ### numbers out of bytes, out of limbs -/
def valOf (zs : List Nat) : Nat := zs.foldl (fun s z => s * 256 + z) 0
theorem valOf_snoc (zs : List Nat) (z : Nat) : valOf (zs ++ [z]) = valOf zs * 256 + z := by simp [valOf]
theorem snocInd {α : Type} {M : List α → Prop} (h0 : M []) (h1 : ∀ l x, M l → M (l ++ [x])) (l : List α) : M l := by
  rw [← List.reverse_reverse l]
  induction l.reverse with
  | nil => exact h0
  | cons x l ih => rw [List.reverse_cons]; exact h1 _ _ ih
theorem valOf_spec (zs : List Nat) : (∀ z ∈ zs, z < 256) → valOf zs < 256 ^ zs.length ∧ ∀ i, i < zs.length → valOf zs / 256 ^ (zs.length - 1 - i) % 256 = zs.getD i 0 := by
  refine snocInd (M := fun zs => (∀ z ∈ zs, z < 256) → valOf zs < 256 ^ zs.length ∧ ∀ i, i < zs.length → valOf zs / 256 ^ (zs.length - 1 - i) % 256 = zs.getD i 0) ?_ ?_ zs
  · intro _; exact ⟨by simp [valOf], fun i hi => by simp at hi⟩
  · intro l z ih h
    obtain ⟨h1, h2⟩ := ih (fun x hx => h x (by simp [hx]))
    have hz := h z (by simp)
    rw [valOf_snoc]
    simp only [List.length_append, List.length_singleton]
    refine ⟨by rw [Nat.pow_succ]; omega, fun i hi => ?_⟩
    by_cases hil : i < l.length
    · have e1 : l.length + 1 - 1 - i = (l.length - 1 - i) + 1 := by omega
      rw [e1, Nat.pow_succ, Nat.mul_comm (256 ^ _) 256, ← Nat.div_div_eq_div_mul]
      have e2 : (valOf l * 256 + z) / 256 = valOf l := by omega
      rw [e2, h2 i hil]
      simp [List.getD, List.getElem?_append_left hil]
    · obtain rfl : i = l.length := by omega
      have e1 : l.length + 1 - 1 - l.length = 0 := by omega
      rw [e1, Nat.pow_zero, Nat.div_one]
      have e2 : (valOf l * 256 + z) % 256 = z := by omega
      rw [e2]
      simp [List.getD]
theorem of_u8 {z : Int} (h : (Lit.int .u8 z).wf = true) : 0 ≤ z ∧ z ≤ 255 := bounds_u8 h
theorem aC_of (zs : List Int) (hl : zs.length = 20) (h : ∀ z ∈ zs, (Lit.int .u8 z).wf = true) : ∃ v, v < A160 ∧ zs.map (Value.int .u8) = aC v := by
  obtain ⟨h1, h2⟩ := valOf_spec (zs.map Int.toNat) (fun z hz => by
    obtain ⟨y, hy, rfl⟩ := List.mem_map.1 hz
    have := of_u8 (h y hy)
    omega)
  rw [List.length_map, hl] at h1 h2
  refine ⟨valOf (zs.map Int.toNat), by rw [show A160 = 256 ^ 20 by decide]; exact h1, ?_⟩
  apply List.ext_getElem?
  intro i
  by_cases hi : i < 20
  · have hi' : i < zs.length := by omega
    rw [aC_get _ _ hi, List.getElem?_map, List.getElem?_eq_getElem hi']
    have h3 := h2 i hi
    have h4 := of_u8 (h _ (List.getElem_mem hi'))
    simp [List.getD, hi'] at h3
    simp only [Option.map_some, Option.some.injEq, Value.int.injEq, true_and, byteOf]
    rw [h3]; omega
  · rw [List.getElem?_eq_none (by simp; omega), List.getElem?_eq_none (by rw [aC_len]; omega)]
theorem wC_of (zs : List Int) (hl : zs.length = 4) (h : ∀ z ∈ zs, (Lit.int .u64 z).wf = true) : ∃ v, v < W256 ∧ zs.map (Value.int .u64) = wC v := by
  match zs, hl with
  | [a, b, c, d], _ =>
    have ha := bounds_u64 (h a (by simp))
    have hb := bounds_u64 (h b (by simp))
    have hc := bounds_u64 (h c (by simp))
    have hd := bounds_u64 (h d (by simp))
    obtain ⟨a, rfl⟩ := Int.eq_ofNat_of_zero_le ha.1
    obtain ⟨b, rfl⟩ := Int.eq_ofNat_of_zero_le hb.1
    obtain ⟨c, rfl⟩ := Int.eq_ofNat_of_zero_le hc.1
    obtain ⟨d, rfl⟩ := Int.eq_ofNat_of_zero_le hd.1
    refine ⟨_, wsum_lt a b c d (by omega) (by omega) (by omega) (by omega), ?_⟩
    rw [limb_of a b c d (by omega) (by omega) (by omega) (by omega)]
    rfl
section
variable {H : Type} {enc : TypeId × Value → H} {w : World} {base : Nat} {spare : Nat → Bool} {held : Bool} {fuel : Nat}
theorem open_addr {cs : List Value} {x : DataW H × List MemPlace} (h : DataW.trod enc Try.prog w base spare held fuel 33 cs = some x) : ∃ v, v < A160 ∧ cs = aC v := by
  obtain ⟨zs, rfl, hl, hw⟩ := open_arr_ints Try.underlying33 Try.underlying5 (by kernel_rfl) (by kernel_rfl) h
  exact aC_of zs hl hw
theorem open_word {cs : List Value} {x : DataW H × List MemPlace} (h : DataW.trod enc Try.prog w base spare held fuel 36 cs = some x) : ∃ v, v < W256 ∧ cs = wC v := by
  obtain ⟨zs, rfl, hl, hw⟩ := open_arr_ints Try.underlying36 Try.underlying34 (by kernel_rfl) (by kernel_rfl) h
  exact wC_of zs hl hw
theorem agg_of {v : Value} {l : List Value} (h : v.cells.toList = l) (hl : l.length ≠ 1) : v = .agg l.toArray := by
  subst h
  cases v <;> first | rfl | exact absurd rfl hl
theorem plain_addr {a : Addr} {v : Value} (h : w.cell? (a.add 0) = some v) : ∃ b o, a = ⟨b, o, none⟩ := by
  obtain ⟨b, off, spot⟩ := a
  have hspot : spot = none := by simpa [Addr.add] using World.cell?_spot h
  subst hspot
  exact ⟨b, off, rfl⟩
theorem cells_range {a : Addr} {n : Nat} {cs : List Value} (h : w.cells? base a n = some cs) (hn : 0 < n) : ∃ b o, a = ⟨b, o, none⟩ ∧ b < w.heap.size ∧ w.rangeAt b o cs ∧ cs.length = n := by
  obtain ⟨_, hl, hc⟩ := World.cells?_some h
  have h0 := hc 0 hn
  rw [List.getElem?_eq_getElem (by omega)] at h0
  obtain ⟨b, o, rfl⟩ := plain_addr h0
  refine ⟨b, o, rfl, ?_, fun j v hv => ?_, hl⟩
  · rw [Go.WideShapes.add_plain] at h0
    exact World.block_lt_of_cell? w _ h0
  · have hj := (List.getElem?_eq_some_iff.1 hv).1
    have h1 := hc j (by omega)
    rw [Go.WideShapes.add_plain] at h1
    rw [h1, hv]
theorem cut_at {α : Type} (cs : List α) (o n m : Nat) (h : m = o + n) : cs.drop o = (cs.drop o).take n ++ cs.drop m := by
  subst h
  rw [← List.drop_drop, List.take_append_drop]
end
end Go.Proofs.Ytbkhldaomalmoaa
