/- Small laws on owned rows. -/
import Derived.Test.YtbkhldaomalmoaaBase
namespace Go.Proofs.Ytbkhldaomalmoaa
open Go.RowKit
/-- a row that is not empty: its slice written out, its cells -/
theorem own_form {w : World} {base : Nat} {e : TypeId} {size : Nat} {v : Value} {n : Nat} {xs : List Value} (h : w.ownsRow base e size v n xs) (hn : 0 < n) :
    ∃ g cap, v = .slice (some ⟨g, 0, none⟩) n cap ∧ base ≤ g ∧ g < w.heap.size ∧ n ≤ cap ∧ (∀ j u, xs[j]? = some u → w.cell? ⟨g, j, none⟩ = some u) := by
  have hc := fun g hg => h.cells (g := g) hg
  have hl := h.lt
  obtain ⟨_, h | ⟨g, cap, cur, rfl, hg, hh, hcap, _⟩⟩ := h
  · omega
  · refine ⟨g, cap, rfl, hg, (hl g rfl).2, hcap, fun j u hu => ?_⟩
    have := hc g rfl j u hu
    rwa [Addr.add_mid, Nat.zero_add] at this
end Go.Proofs.Ytbkhldaomalmoaa
