/- trace.Steps is the document's: both lists are refR, refW. -/
import Derived.Test.YtbkhldaomalmoaaSteps
import Derived.Test.YtbkhldaomalmoaaRefSteps2
namespace Go.Proofs.Ytbkhldaomalmoaa
open Go.RowKit

theorem wr2_mem (L : List Ev) (x : Pl) : x ∈ L.flatMap wr2 ↔ x ∈ L.flatMap writesOf := by
  simp [List.mem_flatMap, wr2]
theorem steps_calls (L : List Ev) (hL : ∀ x ∈ L, x.Ok) (hn : L.length ≤ 2000) (v : Value) (w : World) (hrow : EvRow w v L) :
    Calls Try.prog 9 #[v] w fun e w' => ∃ u, e = .returned u ∧ FtVal w' u ⟨refR L, refW L⟩ ∧ Below w.heap.size w w' :=
  (steps_loop L hL hn v w hrow).mono fun e w' ⟨u, f, he, hv, h1, h2, hb⟩ => by
    have r1 : f.reads = refR L := up_ext h1.lt (refR_up hL).1.lt (fun x => by rw [h1.mem, (refR_up hL).2])
    have r2 : f.writes = refW L := up_ext h2.lt (refW_up hL).1.lt (fun x => by rw [h2.mem, (refW_up hL).2, wr2_mem])
    have hf : f = ⟨refR L, refW L⟩ := by cases f; cases r1; cases r2; rfl
    rw [hf] at hv
    exact ⟨u, he, hv, hb⟩
theorem foot_ok {L : List Ev} (hL : ∀ x ∈ L, x.Ok) : FtOk ⟨refR L, refW L⟩ := ⟨(refR_up hL).1.ok, (refW_up hL).1.ok⟩
end Go.Proofs.Ytbkhldaomalmoaa
