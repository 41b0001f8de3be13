/- quaestorref00.Events: a bound on how many events there are. -/
import Derived.Test.YtbkhldaomalmoaaEv
namespace Go.Proofs.Ytbkhldaomalmoaa
open Go.RowKit
attribute [local go_sem ↓] exec_load

/-- a slice of events -/
def EvRow (w : World) (v : Value) (L : List Ev) : Prop :=
  ∃ a c, v = .slice a L.length c ∧ L.length ≤ c ∧ (L = [] ∨ ∃ g o, a = some ⟨g, o, none⟩ ∧ g < w.heap.size ∧ ∀ k x, L[k]? = some x → w.rangeAt g (o + k * 32) (evC x))
theorem EvRow.below {w w' : World} {v : Value} {L : List Ev} (h : EvRow w v L) (hb : Below w.heap.size w w') : EvRow w' v L := by
  obtain ⟨a, c, h1, h2, h3⟩ := h
  refine ⟨a, c, h1, h2, ?_⟩
  rcases h3 with h3 | ⟨g, o, h3, h4, h5⟩
  · exact .inl h3
  · exact .inr ⟨g, o, h3, by have := hb.size; omega, fun k x hx => rangeAt_below (h5 k x hx) hb⟩
theorem EvRow.at {w : World} {a : Option Addr} {L : List Ev} {c : Nat} (h : EvRow w (.slice a L.length c) L) (hl : 0 < L.length) : ∃ g o, a = some ⟨g, o, none⟩ ∧ g < w.heap.size ∧ ∀ k x, L[k]? = some x → w.rangeAt g (o + k * 32) (evC x) := by
  obtain ⟨a', c', h1, h2, h3⟩ := h
  obtain ⟨rfl, -, rfl⟩ : a = a' ∧ True ∧ c = c' := by simpa using h1
  rcases h3 with h3 | h3
  · subst h3; simp at hl
  · exact h3
set_option maxRecDepth 100000 in
set_option maxHeartbeats 1000000 in
theorem events_calls (L : List Ev) (hL : ∀ x ∈ L, x.Ok) (v : Value) (b : Nat) (hb : b ≤ 10000) (w : World) (hrow : EvRow w v L) :
    Calls Try.prog 6 #[v, .int .i64 b] w fun e w' => ∃ m : Nat, e = .returned (.int .i64 m) ∧ w' = w ∧ (m ≤ b → L.length ≤ b) := by
  obtain ⟨a, c, rfl, hc, h3⟩ := id hrow
  have HR := Lib.hid hrow
  have HL := Lib.hid hL
  clear hrow hL h3
  go_enter Try.func6, Try.ntmps6
  go_wp2
  go_loop [5, 6] (fun s i => ∃ k m : Nat, k ≤ L.length ∧ i = .int .i64 k ∧ s = .int .i64 m ∧ k ≤ m ∧ m ≤ 288230376151721711 + 20000) (fun _ i => L.length - (intOf i).toNat)
  case atStart => exact ⟨0, 0, by omega, rfl, rfl, by omega, by omega⟩
  case round =>
    obtain ⟨k, m, hk, rfl, rfl, hkm, hm⟩ := hrel
    by_cases hlt : k < L.length
    · obtain ⟨g, o, rfl, hg, hx⟩ := HR.out.at (by omega)
      obtain ⟨x, hxk⟩ : ∃ x, L[k]? = some x := ⟨L[k], List.getElem?_eq_getElem hlt⟩
      have hok := HL.out x (List.mem_of_getElem? hxk)
      obtain ⟨da, dc, hd⟩ := hok.data
      have hlen : x.bytes.length ≤ 9223372036854775807 := hok.len
      have f1 := LD_cell (ev_data (hx k x hxk)) Try.underlying42 rfl
      rw [hd] at f1
      clear hx hxk hok hd
      go_wp2
      · have hmb : m ≤ b := by assumption
        refine ⟨⟨k + 1, m + (1 + x.bytes.length / 32), by omega, by go_num, congrArg _ (by omega), by omega, by omega⟩, ?_⟩
        simp [intOf]; omega
      · have hmb : ¬ m ≤ b := by assumption
        go_ret
        exact ⟨m, rfl, rfl, fun h => absurd h hmb⟩
    · obtain rfl : k = L.length := by omega
      go_wp2
      go_ret
      exact ⟨m, rfl, rfl, fun h => by omega⟩
end Go.Proofs.Ytbkhldaomalmoaa
