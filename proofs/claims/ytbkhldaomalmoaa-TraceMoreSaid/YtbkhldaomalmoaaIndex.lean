/- slices.IndexFunc, ContainsFunc at Belongs' closure; trace.Belongs. -/
import Derived.Test.YtbkhldaomalmoaaBel
namespace Go.Proofs.Ytbkhldaomalmoaa
open Go.RowKit
attribute [local go_sem ↓] exec_load exec_store

set_option maxRecDepth 100000 in
set_option maxHeartbeats 4000000 in
theorem index_calls (a slot : Nat) (hs : slot < W256) (L : List Ev) (v : Value) (w : World) (hrow : EvRow w v L) (hE : ∀ e ∈ L, EvIn w e) (hn : L.length < 1000000) (bo bs g : Nat) (h1 : w.cell? ⟨bo, 0, none⟩ = some (.slice (some ⟨g, 0, none⟩) 32 32)) (h2 : ∀ k x, (own a)[k]? = some x → w.cell? ⟨g, 0 + k, none⟩ = some (.int .u8 x)) (h3 : w.rangeAt bs 0 (wC slot)) (hbo : bo < w.heap.size) (hbs : bs < w.heap.size) (hg : g < w.heap.size) :
    Calls Try.prog 42 #[v, .func (.func 26) #[] #[.pointer (some ⟨bo, 0, none⟩), .pointer (some ⟨bs, 0, none⟩)]] w fun x w' => (∃ n : Int, x = .returned (.int .i64 n) ∧ decide (n ≥ 0) = L.any (belE a slot)) ∧ Below w.heap.size w w' := by
  obtain ⟨va, vc, rfl, hc, -⟩ := id hrow
  have HR := Lib.hid hrow
  have HC := Lib.hid fun (e : Ev) (W : World) (he : e ∈ L) (hb : Below w.heap.size w W) => bel1_calls a slot hs e W ((hE e he).below hb) bo bs g ((hb.cell (p := ⟨bo, 0, none⟩) hbo).trans h1) (fun k x hk => (hb.cell (p := ⟨g, 0 + k, none⟩) hg).trans (h2 k x hk)) (rangeAt_below h3 hb) (by have := hb.size; omega) (by have := hb.size; omega) (by have := hb.size; omega)
  clear hrow hE h1 h2 h3 hbo hbs hg hs
  go_enter Try.func42, Try.ntmps42
  go_wp2
  go_loopw [8] (fun i wr => ∃ k : Nat, k ≤ L.length ∧ i = .int .i64 k ∧ (L.take k).any (belE a slot) = false ∧ Below w.heap.size w wr) (fun i _ => L.length - (intOf i).toNat)
  case atStart => exact ⟨0, by omega, rfl, by simp, Below.refl _ _⟩
  case round =>
    obtain ⟨k, hk, rfl, hany, hB⟩ := hrel
    have HA := Lib.hid hany
    clear hany
    by_cases hlt : k < L.length
    · obtain ⟨g', o, rfl, hg', hx⟩ := HR.out.at (by omega)
      obtain ⟨e, hek⟩ : ∃ e, L[k]? = some e := ⟨L[k], List.getElem?_eq_getElem hlt⟩
      have f0 : LD 46 (.pointer (some ⟨g', o + k * 32, none⟩)) wr = .ok (evV e) wr := LD_ev (rangeAt_below (hx k e hek) hB)
      have HM := Lib.hid (List.mem_of_getElem? hek)
      have HT := Lib.hid (takeE_snoc L k e hek)
      have HB := Lib.hid hB
      clear hx hek hB
      go_wp2_with (go_at_call 26; refine (HC.out e _ HM.out HB.out).mono ?_; rintro x w' ⟨rfl, hb⟩; have HB2 := Lib.hid (HB.out.trans (hb.mono HB.out.size)); clear hb)
      · have hb' : belE a slot e = true := by assumption
        go_ret
        refine ⟨⟨k, rfl, ?_⟩, HB2.out⟩
        rw [decide_eq_true (by omega : (k : Int) ≥ 0)]
        exact (List.any_eq_true.2 ⟨e, HM.out, hb'⟩).symm
      · have hb' : belE a slot e = false := by
          cases hq : belE a slot e <;> simp_all
        refine ⟨⟨k + 1, by omega, by go_num, ?_, HB2.out⟩, ?_⟩
        · rw [HT.out, List.any_append, HA.out, List.any_cons, hb']; rfl
        · simp [intOf]; omega
    · obtain rfl : k = L.length := by omega
      have hx := HA.out
      rw [List.take_length] at hx
      have HX := Lib.hid hx
      clear hx
      go_wp2
      go_ret
      exact ⟨⟨-1, rfl, by rw [HX.out]; decide⟩, hB⟩
set_option maxRecDepth 100000 in
theorem contains_calls (a slot : Nat) (hs : slot < W256) (L : List Ev) (v : Value) (w : World) (hrow : EvRow w v L) (hE : ∀ e ∈ L, EvIn w e) (hn : L.length < 1000000) (bo bs g : Nat) (h1 : w.cell? ⟨bo, 0, none⟩ = some (.slice (some ⟨g, 0, none⟩) 32 32)) (h2 : ∀ k x, (own a)[k]? = some x → w.cell? ⟨g, 0 + k, none⟩ = some (.int .u8 x)) (h3 : w.rangeAt bs 0 (wC slot)) (hbo : bo < w.heap.size) (hbs : bs < w.heap.size) (hg : g < w.heap.size) :
    Calls Try.prog 25 #[v, .func (.func 26) #[] #[.pointer (some ⟨bo, 0, none⟩), .pointer (some ⟨bs, 0, none⟩)]] w fun x w' => x = .returned (.bool (L.any (belE a slot))) ∧ Below w.heap.size w w' := by
  have HC := Lib.hid (index_calls a slot hs L v w hrow hE hn bo bs g h1 h2 h3 hbo hbs hg)
  clear h1 h2 h3 hrow hE
  go_enter Try.func25, Try.ntmps25
  go_wp2_with (go_at_call 42; refine HC.out.mono ?_; rintro x w' ⟨⟨n, rfl, hd⟩, hb⟩; have HD := Lib.hid hd; clear hd)
  go_ret
  refine ⟨?_, hb⟩
  rw [← HD.out]; rfl
end Go.Proofs.Ytbkhldaomalmoaa
