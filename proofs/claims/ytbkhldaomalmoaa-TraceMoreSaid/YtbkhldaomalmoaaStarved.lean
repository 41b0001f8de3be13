/- trace.Starved: how many. -/
import Derived.Test.YtbkhldaomalmoaaMaps
namespace Go.Proofs.Ytbkhldaomalmoaa
open Go.RowKit
attribute [local go_sem ↓] exec_load exec_store exec_allocE

theorem info_int : (Try.prog.info? 3).map (fun i => (i.zero, i.size, i.bytes)) = some (some (.int .i64 0), 1, 8) := by kernel_rfl
def starvedN (L : List Ev) : Nat := (L.filter fun e => e.fault == 130).length
theorem starvedN_snoc (L : List Ev) (k : Nat) (e : Ev) (h : L[k]? = some e) : starvedN (L.take (k + 1)) = starvedN (L.take k) + if (e.fault == 130) then 1 else 0 := by
  unfold starvedN
  rw [takeE_snoc L k e h, List.filter_append, List.length_append]
  cases hf : (e.fault == 130) <;> simp [hf]
theorem starvedN_le (L : List Ev) : starvedN L ≤ L.length := List.length_filter_le _ _
set_option maxRecDepth 100000 in
set_option maxHeartbeats 8000000 in
theorem starved_calls (L : List Ev) (hL : ∀ x ∈ L, x.Ok) (hn : L.length ≤ 2000) (v : Value) (w : World) (hrow : EvRow w v L) :
    Calls Try.prog 13 #[v] w fun e w' => ∃ a c, e = .returned (.slice a (starvedN L) c) ∧ Below w.heap.size w w' := by
  obtain ⟨i0, hi, hz0, hz1, hz2⟩ := info_parts info_int
  obtain ⟨a, c, rfl, hc, h3⟩ := id hrow
  have HR := Lib.hid hrow
  have HL := Lib.hid hL
  clear hrow hL h3
  go_enter Try.func13, Try.ntmps13
  go_wp2
  go_loopw [3, 8] (fun v i wr => ∃ (k : Nat) (sv : Value), k ≤ L.length ∧ i = .int .i64 k ∧ sv = v ∧ (∃ xs, wr.ownsRow w.heap.size 3 1 sv (starvedN (L.take k)) xs) ∧ Below w.heap.size w wr) (fun _ i _ => L.length - (intOf i).toNat)
  case atStart => exact ⟨0, _, by omega, rfl, rfl, ⟨[], by simpa [starvedN] using World.ownsRow_nil _ _ _ _⟩, Below.refl _ _⟩
  case round =>
    obtain ⟨k, sv, hk, rfl, rfl, ⟨xs, hown⟩, hB⟩ := hrel
    have hst : starvedN (L.take k) ≤ k := Nat.le_trans (starvedN_le _) (List.length_take_le _ _)
    by_cases hlt : k < L.length
    · obtain ⟨g, o, rfl, hg, hx⟩ := HR.out.at (by omega)
      obtain ⟨e, hek⟩ : ∃ e, L[k]? = some e := ⟨L[k], List.getElem?_eq_getElem hlt⟩
      have hok := HL.out e (List.mem_of_getElem? hek)
      have HSN := Lib.hid (starvedN_snoc L k e hek)
      have f0 : LD 46 (.pointer (some ⟨g, o + k * 32, none⟩)) wr = .ok (evV e) wr := LD_ev (rangeAt_below (hx k e hek) hB)
      obtain ⟨w1, hw1⟩ : ∃ w1, wr.alloc (.cells (evC e).toArray 46) = w1 := ⟨_, rfl⟩
      have e1 : w1.heap[wr.heap.size]? = some (.cells (evC e).toArray 46 (0, 0)) := by rw [← hw1]; exact at_new _ _ rfl
      have f1 : SD 46 (.pointer (some ⟨wr.heap.size, 0, none⟩)) (evV e) (wr.alloc (.cells zEc 46)) = .ok () w1 := by rw [← hw1]; exact SD_newE hok rfl
      have f2 : LD 44 (.pointer (some ⟨wr.heap.size, 31, none⟩)) w1 = .ok (.int .u16 e.fault) w1 := by have := LD_cell (ev_fault (range_block e1)) Try.underlying44 rfl; simpa using this
      have HB1 := Lib.hid (show Below w.heap.size w w1 by rw [← hw1]; exact hB.alloc hB.size _)
      have HO1 := Lib.hid (show w1.ownsRow w.heap.size 3 1 sv (starvedN (L.take k)) xs by rw [← hw1]; exact hown.alloc _)
      clear hx hek hok hown hB hw1 e1
      rcases hf : (e.fault == 130) with _ | _
      · go_wp2
        go_roundw
        case rel => exact ⟨k + 1, _, by omega, by go_num, rfl, ⟨xs, by rw [HSN.out, hf]; exact HO1.out⟩, HB1.out⟩
        case measure => simp [intOf]; omega
      · go_wp2_with (at_builtin; refine wpList_append_own _ rfl _ _ 39 rfl w.heap.size 3 i0 (.int .i64 0) 1 8 Try.underlying39 hi hz0 hz1 hz2 rfl (by decide) _ _ _ rfl (HO1.out.alloc _) ⟨w1.heap.size, 0, none⟩ 1 1 [.int .i64 k] rfl rfl ?c1 ?c2 ?c3 ?c4 ?c5 ?_)
        case c1 => exact fun j u hu => news_block (cs := [.int .i64 k]) j u hu
        case c2 => intro u hu; simp at hu; subst hu; rfl
        case c3 => unfold maxLen; omega
        case c4 => omega
        case c5 => have := HB1.out.size; simp; omega
        intro v2 w2 hown2 hgrow2 _
        have HO2 := Lib.hid hown2
        have HB2 := Lib.hid ((HB1.out.alloc HB1.out.size _).grown hgrow2 (by have := HB1.out.size; simp; omega) (fun k hk => (HO1.out.lt k hk).1))
        clear hown2 hgrow2
        go_wp2
        go_roundw
        case rel => exact ⟨k + 1, _, by omega, by go_num, rfl, ⟨_, by rw [HSN.out, hf]; exact HO2.out⟩, HB2.out⟩
        case measure => simp [intOf]; omega
    · obtain rfl : k = L.length := by omega
      obtain ⟨sa, sc, rfl⟩ := own_slice hown
      rw [List.take_length] at *
      go_wp2
      go_ret
      exact ⟨sa, sc, rfl, hB⟩
end Go.Proofs.Ytbkhldaomalmoaa
