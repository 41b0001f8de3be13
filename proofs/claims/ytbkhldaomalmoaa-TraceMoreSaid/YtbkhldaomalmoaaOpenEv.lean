/- A slice of events, opened. -/
import Derived.Test.YtbkhldaomalmoaaOpen
import Derived.Test.YtbkhldaomalmoaaBelongs
namespace Go.Proofs.Ytbkhldaomalmoaa
open Go.ChangeShapes Go.WideShapes Go.RowKit Go.Deep

section
variable {H : Type} {enc : TypeId × Value → H} {w : World} {base : Nat} {spare : Nat → Bool} {held : Bool} {fuel : Nat}
theorem open_bytes {cs : List Value} {x : DataW H × List MemPlace} (h : DataW.trod enc Try.prog w base spare held fuel 42 cs = some x) :
    ∃ (v : Value) (bs : List Int), cs = [v] ∧ BtRow w v bs ∧ bytesOk bs ∧ (∃ a c, v = .slice a bs.length c) ∧ bs.length ≤ maxLen := by
  rcases open_ints Try.underlying42 Try.underlying5 (by kernel_rfl) h with ⟨rfl, -⟩ | ⟨a, len, cap, zs, rfl, hb, hl, hm, hzl, -, hc, hw⟩
  · exact ⟨_, [], rfl, ⟨none, 0, rfl, Nat.le_refl _, .inl rfl⟩, fun x hx => by simp at hx, ⟨none, 0, rfl⟩, by simp⟩
  · have hle : len ≤ zs.length := by rw [hzl]; split <;> omega
    have e : (zs.take len).length = len := by rw [List.length_take]; omega
    refine ⟨_, zs.take len, rfl, ?_, fun x hx => of_u8 (hw x (List.mem_of_mem_take hx)), ⟨some a, cap, by rw [e]⟩, by omega⟩
    refine ⟨some a, cap, by rw [e], by omega, ?_⟩
    by_cases h0 : len = 0
    · exact .inl (by rw [h0]; rfl)
    · right
      have h1 := hc 0 (by omega)
      obtain ⟨b, o, rfl⟩ := plain_addr h1
      refine ⟨b, o, rfl, ?_, fun k x hk => ?_⟩
      · rw [add_plain] at h1
        exact World.block_lt_of_cell? w _ h1
      · have hkl := (List.getElem?_eq_some_iff.1 hk).1
        rw [e] at hkl
        have h2 := hc k (by omega)
        rw [add_plain] at h2
        rw [List.getElem?_take_of_lt hkl] at hk
        rw [h2]
        simp [List.getD, hk]
theorem open_event {cs : List Value} {x : DataW H × List MemPlace} (h : DataW.trod enc Try.prog w base spare held fuel 46 cs = some x) : ∃ e : Ev, cs = evC e ∧ EvIn w e := by
  have hl := trod_cells (n := 32) Try.underlying46 h (by kernel_rfl)
  obtain ⟨x0, m0, h0⟩ := trod_field (ty := 5) (off := 0) (n := 1) Try.underlying46 h 0 rfl (by kernel_rfl)
  obtain ⟨x1, m1, h1⟩ := trod_field (ty := 3) (off := 1) (n := 1) Try.underlying46 h 1 rfl (by kernel_rfl)
  obtain ⟨x2, m2, h2⟩ := trod_field (ty := 33) (off := 2) (n := 20) Try.underlying46 h 2 rfl (by kernel_rfl)
  obtain ⟨x3, m3, h3⟩ := trod_field (ty := 36) (off := 22) (n := 4) Try.underlying46 h 3 rfl (by kernel_rfl)
  obtain ⟨x4, m4, h4⟩ := trod_field (ty := 36) (off := 26) (n := 4) Try.underlying46 h 4 rfl (by kernel_rfl)
  obtain ⟨x5, m5, h5⟩ := trod_field (ty := 42) (off := 30) (n := 1) Try.underlying46 h 5 rfl (by kernel_rfl)
  obtain ⟨x6, m6, h6⟩ := trod_field (ty := 44) (off := 31) (n := 1) Try.underlying46 h 6 rfl (by kernel_rfl)
  obtain ⟨op, c0, -, w0⟩ := DataW.trod_int Try.underlying5 h0
  obtain ⟨dp, c1, -, w1⟩ := DataW.trod_int Try.underlying3 h1
  obtain ⟨self, hs, c2⟩ := open_addr h2
  obtain ⟨arg, ha, c3⟩ := open_word h3
  obtain ⟨val, hv, c4⟩ := open_word h4
  obtain ⟨d, bs, c5, hb, hbo, hd, hbl⟩ := open_bytes h5
  obtain ⟨ft, c6, -, w6⟩ := DataW.trod_int Try.underlying44 h6
  have b0 := bounds_u8 w0
  have b6 := bounds_u16 w6
  refine ⟨⟨op, dp, self, arg, val, d, ft, bs⟩, ?_, ⟨⟨b0.1, b0.2, hs, ha, hv, b6.1, b6.2, hd, hbl⟩, hb, hbo⟩⟩
  have e : cs = cs.drop 0 := rfl
  rw [e, cut_at cs 0 1 1 rfl, cut_at cs 1 1 2 rfl, cut_at cs 2 20 22 rfl, cut_at cs 22 4 26 rfl, cut_at cs 26 4 30 rfl, cut_at cs 30 1 31 rfl, cut_at cs 31 1 32 rfl]
  rw [List.drop_of_length_le (by omega : cs.length ≤ 32)]
  rw [c0, c1, c2, c3, c4, c5, c6]
  simp [evC]
theorem open_events {v : Value} {fuel : Nat} {x : DataW H × List MemPlace} (h : DataW.trod enc Try.prog w base spare held fuel 22 [v] = some x) :
    ∃ L : List Ev, EvRow w v L ∧ (∀ e ∈ L, EvIn w e) ∧ L.length ≤ maxLen := by
  rcases open_slice Try.underlying22 h with ⟨hv, -⟩ | ⟨a, len, cap, m, n, D, Pl, hv, hb, hl, hm, hmm, -, hx⟩
  · simp only [List.cons.injEq, and_true] at hv
    exact ⟨[], ⟨none, 0, hv, Nat.le_refl _, .inl rfl⟩, fun e he => by simp at he, by simp⟩
  · simp only [List.cons.injEq, and_true] at hv
    have hle : len ≤ m := by rw [hmm]; split <;> omega
    rw [show Try.prog.cellsOf 46 = 32 by kernel_rfl] at hx
    have key : ∀ i, i < len → ∃ e : Ev, w.cells? base (a.add (i * 32)) 32 = some (evC e) ∧ EvIn w e := fun i hi => by
      obtain ⟨cs, h1, h2⟩ := hx i (by omega)
      obtain ⟨e, rfl, he⟩ := open_event h2
      exact ⟨e, h1, he⟩
    haveI : Inhabited Ev := ⟨⟨0, 0, 0, 0, 0, .nilIface, 0, []⟩⟩
    obtain ⟨f, hf⟩ := choose_lt key
    have hlen : ((List.range len).map f).length = len := by simp
    refine ⟨(List.range len).map f, ⟨some a, cap, by rw [hlen]; exact hv, by omega, ?_⟩, fun e he => ?_, by rw [hlen]; omega⟩
    · by_cases h0 : len = 0
      · exact .inl (by rw [h0]; rfl)
      · right
        obtain ⟨b, o, hbo, hlt, -, -⟩ := cells_range (hf 0 (by omega)).1 (by omega)
        rw [Nat.zero_mul] at hbo
        have ha : a = ⟨b, o, none⟩ := by simpa [Addr.add] using hbo
        refine ⟨b, o, by rw [ha], hlt, fun k x hk => ?_⟩
        have hkl := (List.getElem?_eq_some_iff.1 hk).1
        rw [hlen] at hkl
        obtain ⟨b', o', hbo', _, hr, -⟩ := cells_range (hf k hkl).1 (by omega)
        rw [ha, add_plain] at hbo'
        simp only [Addr.mk.injEq, and_true] at hbo'
        obtain ⟨rfl, rfl⟩ := hbo'
        have hx' : f k = x := by simpa [hkl] using hk
        rw [← hx']; exact hr
    · obtain ⟨i, hi, rfl⟩ := List.mem_map.1 he
      exact (hf i (by simpa using hi)).2
end
end Go.Proofs.Ytbkhldaomalmoaa
