/- quaestorref00.SameFoot. -/
import Derived.Test.YtbkhldaomalmoaaSame
namespace Go.Proofs.Ytbkhldaomalmoaa
open Go.RowKit

set_option maxRecDepth 100000 in
set_option maxHeartbeats 1000000 in
theorem sameFoot_calls (f g : Foot) (hf : FtOk f) (hg : FtOk g) (u v : Value) (w : World) (hu : FtVal w u f) (hv : FtVal w v g) (hn : g.reads.length < 1000000) (hn2 : g.writes.length < 1000000) :
    Calls Try.prog 8 #[u, v] w fun e w' => e = .returned (.bool (footEq f g)) ∧ Below w.heap.size w w' := by
  obtain ⟨a, b, rfl, ha, hb⟩ := hu
  obtain ⟨c, d, rfl, hc, hd⟩ := hv
  obtain ⟨aa, ac, rfl, -, -⟩ := id ha
  obtain ⟨ba, bc, rfl, -, -⟩ := id hb
  obtain ⟨ca, cc, rfl, -, -⟩ := id hc
  obtain ⟨da, dc, rfl, -, -⟩ := id hd
  have C1 := Lib.hid fun W (h : Below w.heap.size w W) => samePlaces_calls f.reads g.reads hf.1 hg.1 _ _ W (ha.below h) (hc.below h) hn
  have C2 := Lib.hid fun W (h : Below w.heap.size w W) => samePlaces_calls f.writes g.writes hf.2 hg.2 _ _ W (hb.below h) (hd.below h) hn2
  clear hf hg ha hb hc hd hn hn2
  unfold footEq
  have h0 : Below w.heap.size w ((w.alloc (.cells #[.slice aa f.reads.length ac, .slice ba f.writes.length bc] 28)).alloc (.cells #[.slice ca g.reads.length cc, .slice da g.writes.length dc] 28)) := below_a (below_a (Below.refl _ _) (by simp) _) (by simp) _
  have H0 := Lib.hid h0
  clear h0
  have hz : w.heap.size + 1 < ((w.alloc (.cells #[.slice aa f.reads.length ac, .slice ba f.writes.length bc] 28)).alloc (.cells #[.slice ca g.reads.length cc, .slice da g.writes.length dc] 28)).heap.size := by simp
  have hz0 : w.heap.size < ((w.alloc (.cells #[.slice aa f.reads.length ac, .slice ba f.writes.length bc] 28)).alloc (.cells #[.slice ca g.reads.length cc, .slice da g.writes.length dc] 28)).heap.size := by simp; omega
  have HZ := Lib.hid hz
  have HZ0 := Lib.hid hz0
  clear hz hz0
  generalize hr1 : decide (f.reads = g.reads) = r1 at *
  clear hr1
  cases r1
  · go_enter Try.func8, Try.ntmps8
    go_wp2_with (go_at_call 15; refine (C1.out _ H0.out).mono ?_; rintro e w1 ⟨rfl, hb1⟩)
    go_ret
    exact ⟨rfl, below_c H0.out hb1 (Nat.le_of_lt HZ0.out)⟩
  · go_enter Try.func8, Try.ntmps8
    go_wp2_with (go_at_call 15; refine (C1.out _ H0.out).mono ?_; rintro e w1 ⟨rfl, hb1⟩; have HB1 := Lib.hid (below_c H0.out hb1 (Nat.le_of_lt HZ0.out)); obtain ⟨hc, hf⟩ := bcell hb1; have c1 := (hc _ 1 HZ0.out); have c2 := (hc _ 1 HZ.out); clear hc hf hb1 C1 H0 HZ HZ0)
    clear c1 c2
    go_wp2_with (go_at_call 15; refine (C2.out _ HB1.out).mono ?_; rintro e w2 ⟨rfl, hb2⟩)
    go_ret
    exact ⟨by simp, HB1.out.trans (hb2.mono HB1.out.size)⟩
end Go.Proofs.Ytbkhldaomalmoaa
