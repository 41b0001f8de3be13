/- quaestorlaw14.TraceSteps: the walk. -/
import Derived.Test.YtbkhldaomalmoaaKnown
import Derived.Test.YtbkhldaomalmoaaStepsIs
namespace Go.Proofs.Ytbkhldaomalmoaa
open Go.RowKit

theorem footEq_self (f : Foot) : footEq f f = true := by simp [footEq]
set_option maxRecDepth 100000 in
set_option maxHeartbeats 4000000 in
theorem lawSteps_calls (L : List Ev) (v : Value) (w : World) (hrow : EvRow w v L) (hL : ∀ e ∈ L, e.Ok) :
    Calls Try.prog 3 #[v] w fun e w' => e = .returned (.bool true) ∧ Below w.heap.size w w' := by
  have h0 := events_calls L hL v 500 (by decide) w hrow
  rw [show ((500 : Nat) : Int) = 500 from rfl] at h0
  have CE := Lib.hid h0
  clear h0
  have CK := Lib.hid fun W => known_calls W
  have CS := Lib.hid fun (hn : L.length ≤ 2000) W (h : Below w.heap.size w W) => steps_calls L hL hn v W (hrow.below h)
  have CR := Lib.hid fun (hn : L.length ≤ 2000) W (h : Below w.heap.size w W) => rsteps_calls L hL hn v W (hrow.below h)
  have CF := Lib.hid fun (hn : L.length ≤ 2000) W (u v : Value) (hu : FtVal W u ⟨refR L, refW L⟩) (hv : FtVal W v ⟨refR L, refW L⟩) =>
    sameFoot_calls ⟨refR L, refW L⟩ ⟨refR L, refW L⟩ (foot_ok hL) (foot_ok hL) u v W hu hv (by have := refR_len L; show (refR L).length < 1000000; omega) (by have := refW_len L; show (refW L).length < 1000000; omega)
  rw [footEq_self] at CF
  clear hrow hL
  go_enter Try.func3, Try.ntmps3
  go_wp2_with (first
    | (go_at_call 6; (with_reducible refine CE.out.mono ?_); rintro e w1 ⟨m, rfl, rfl, hm⟩; have HM := Lib.hid hm; clear hm CE)
    | (go_at_call 7; (with_reducible refine (CK.out _).mono ?_); rintro e w2 ⟨rfl, hb2⟩; have hn : L.length ≤ 2000 := Nat.le_trans (HM.out (by omega)) (by decide); have HN := Lib.hid hn; clear CK hn)
    | (go_at_call 9; (with_reducible refine (CS.out HN.out _ (by assumption)).mono ?_); rintro e w3 ⟨u, rfl, hu, hb3⟩; have hB3 := hb2.trans (hb3.mono hb2.size); have HU := Lib.hid hu; clear CS hu)
    | (go_at_call 10; (with_reducible refine (CR.out HN.out _ (by assumption)).mono ?_); rintro e w4 ⟨u', rfl, hu', hb4⟩; have HB4 := Lib.hid (hB3.trans (hb4.mono hB3.size)); have HU4 := Lib.hid (HU.out.below hb4); have HU' := Lib.hid hu'; clear CR hu')
    | (go_at_call 8; (with_reducible refine (CF.out HN.out _ _ _ HU4.out HU'.out).mono ?_); rintro e w5 ⟨rfl, hb5⟩; have HB5 := Lib.hid (HB4.out.trans (hb5.mono HB4.out.size)); clear CF hb5))
  · go_ret
    exact ⟨rfl, Below.refl _ _⟩
  · go_ret
    exact ⟨rfl, HB5.out⟩
end Go.Proofs.Ytbkhldaomalmoaa
