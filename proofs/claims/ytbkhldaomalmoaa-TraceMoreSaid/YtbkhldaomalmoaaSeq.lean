/- slices.AppendSeq, slices.Collect at places, over whatever iterator. -/
import Derived.Test.YtbkhldaomalmoaaKeys
import Derived.Maps.AppendAt
namespace Go.Proofs.Ytbkhldaomalmoaa
open Go.RowKit Go.Maps Go.Sort Go.Shelf
attribute [local go_sem ↓] exec_loadP exec_allocP exec_storeP exec_buildP semAt_loadP semAt_allocP semAt_storeP semAt_buildP
attribute [local go_sem] BS_one BS_two
attribute [local go_sem] Oper.semAt_some

set_option maxRecDepth 100000 in
set_option maxHeartbeats 4000000 in
theorem appendSeq_in (F : Fence) (n : Nat) (h11 : F.fn 45) (hro : F.round = none) (hn : 2 ≤ n) (g : Nat) (lb : Array Value) (hFg : F.fn g) (eg : ∀ args w, (callFunc g args).run Try.prog w = .ok (.enter g args) w)
    (S Sp : List Pl → Prop) (N : Nat) (hN : N < 1000000) (w : World) (hseq : SeqStopsK F (n - 1) Try.prog g lb (fun p : Pl => #[plV p]) KeepsWalks S Sp N w) :
    CallsIn F n Try.prog 45 #[.slice none 0 0, .func (.func g) #[] lb] w fun e w' => ∃ (v : Value) (ps : List Pl), e = .returned v ∧ S ps ∧ w'.ownsRow w.heap.size 50 25 v ps.length (ps.flatMap plC) ∧ Below w.heap.size w w' := by
  have h1 : 1 ≤ n := by omega
  obtain ⟨i0, hi, hz0, hz1, hz2⟩ := info_parts info_pl
  refine callsIn_of_wp_marks Try.func45 rfl h11 ?_ hro
  simp only [Try.ntmps45, List.size_toArray, List.length_cons, List.length_nil, Nat.reduceAdd, Nat.reduceSub, Array.replicate_succ, Array.replicate_zero, List.push_toArray, List.append_toArray, List.nil_append, List.cons_append]
  gi_wp2
  have bS := Boxed.new w 26 (.slice none 0 0)
  have hB0 : Below w.heap.size w (w.alloc (.cells #[.slice none 0 0] 26)) := (Below.refl _ w).alloc (Nat.le_refl _) _
  have hsz : (w.alloc (.cells #[.slice none 0 0] 26)).heap.size = w.heap.size + 1 := by simp
  obtain ⟨W0, hW0⟩ : ∃ W0, w.alloc (.cells #[.slice none 0 0] 26) = W0 := ⟨_, rfl⟩
  rw [hW0] at bS hB0 hsz ⊢
  have hb0 : Below w.heap.size w W0 := hB0
  clear hW0
  refine wpIn_rangeFunc_ownH hro h1 (gf := g) (lb := lb) rfl hFg eg hseq walksK_t walksK_b hb0 (fun _ => rfl)
    (fun pre W => (∃ v, Boxed W w.heap.size 26 v ∧ W.ownsRow w.heap.size 50 25 v pre.length (pre.flatMap plC) ∧ True) ∧ Below w.heap.size w W)
    (fun _ _ _ => False)
    (OwnFrom.and (Own.from (holdsRow_own w.heap.size w.heap.size 26 50 25 (fun pre : List Pl => pre.length) (fun pre => pre.flatMap plC) (fun _ _ => True)) _) (ownFrom_below (Nat.le_refl _) (by omega)))
    (fun _ _ _ _ _ hs _ _ => hs)
    ⟨⟨_, bS, World.ownsRow_nil _ _ _ _, trivial⟩, hB0⟩
    (fun x a' W => ∃ Bx, w.heap.size < Bx ∧ W.heap[Bx]? = some (.cells (plC x).toArray 50 (0, 0)) ∧ a' = { tmps := #[.slice none 0 0, .func (.func g) #[] lb, .pointer (some ⟨w.heap.size, 0, none⟩), undef, .slice none 0 0, .pointer (some ⟨Bx, 0, none⟩), .func (.func g) #[] lb, plV x, undef, undef, undef, undef, undef], defers := [] })
    (fun x a' _ X Y row hs hg hr => by
      obtain ⟨Bx, h1, h2, h3⟩ := hs
      refine ⟨Bx, h1, (hg.block Bx (at_lt h2) (fun e => ?_)).trans h2, h3⟩
      obtain ⟨_, o, ho, hc⟩ := hr Bx e.symm
      rw [h2] at ho; cases ho; cases hc)
    ?assign ?body ?done ?stop
  case assign =>
    rintro l pre x W K ⟨⟨v, hv, hrow, -⟩, hB⟩ hK
    have f4 : SD 50 (.pointer (some ⟨W.heap.size, 0, none⟩)) (plV x) (W.alloc (.cells zPc 50)) = .ok () (W.alloc (.cells (plC x).toArray 50)) := SD_newP rfl
    have HV := Lib.hid hv
    have HR := Lib.hid hrow
    have HB := Lib.hid hB
    clear hv hrow hB
    gi_wp2
    exact hK _ _ ((KeepsOthers.alloc _ _).from _) (KeepsWalks.alloc _ _) ⟨⟨v, HV.out.alloc _, HR.out.alloc _, trivial⟩, HB.out.alloc HB.out.size _⟩ ⟨W.heap.size, HV.out.lt, at_new W _ rfl, rfl⟩
  case body =>
    rintro l pre x a' W hl ⟨r, hr⟩ ⟨⟨v, hv, hrow, -⟩, hB⟩ ⟨Bx, hBx, bX, rfl⟩ hlt
    have cV := hv.cell
    have fX : LD 50 (.pointer (some ⟨Bx, 0, none⟩)) W = .ok (plV x) W := LD_place (range_block bX)
    have hpl := plC_len x
    have HV := Lib.hid hv
    have HR := Lib.hid hrow
    have HB := Lib.hid hB
    clear hv hrow hB bX hr
    gi_wp2_with (gi_at_builtin; refine wpListIn_append_own _ rfl _ _ 26 rfl w.heap.size 50 i0 zP 25 56 Try.underlying26 hi hz0 hz1 hz2 zP_size (by decide) _ _ _ rfl (HR.out.alloc _) ⟨W.heap.size, 0, none⟩ 1 1 (plC x) rfl ?c1 ?c2 ?c3 ?c4 ?c5 ?c6 ?_)
    case c1 => omega
    case c2 => exact fun j u hu => news_block j u hu
    case c3 => exact plC_one x
    case c4 => unfold maxLen; omega
    case c5 => omega
    case c6 => have := HB.out.size; simp; omega
    intro v' w1 hown' hgrow _
    obtain ⟨g', cap', rfl⟩ := ownsRow_succ hown'
    obtain ⟨hv1, hv2, hr2, hk2, hb2⟩ := HV.out.appended (by decide) HR.out HB.out.size (Nat.le_refl _) hown' hgrow
    have hc1 := hv1.cell
    have hf1 := hv1.frozen
    have HV2 := Lib.hid hv2
    have HR2 := Lib.hid hr2
    have HK2 := Lib.hid hk2
    have HB2 := Lib.hid hb2
    clear hv1 hv2 hr2 hk2 hb2 hown' hgrow
    gi_wp2
    refine ⟨HK2.out.from _, HK2.out.walks, ⟨_, HV2.out, ?_, trivial⟩, HB.out.trans HB2.out⟩
    simpa using HR2.out
  case done =>
    rintro D ps W hD hS ⟨⟨v, hv, hrow, -⟩, hB⟩ hK
    have cV := hv.cell
    have HR := Lib.hid hrow
    have HB := Lib.hid hB
    have HS := Lib.hid hS
    clear hrow hB hv hS
    gi_wp2
    refine ⟨by simp, .inl ⟨_, _, rfl, run_takeDeferred hK, ?_⟩⟩
    exact ⟨_, results_tmp rfl _ _ _, v, ps, rfl, HS.out, ownsRow_putObj HR.out _ hK rfl, HB.out.trans (belowK_b (w := w) (Nat.le_refl _) W D _ _ (by omega) hK rfl rfl)⟩
  case stop =>
    rintro D c pre W _ _ h _
    exact h.elim

set_option maxHeartbeats 1000000 in
theorem collect_in (F : Fence) (n : Nat) (h8 : F.fn 31) (h11 : F.fn 45) (hro : F.round = none) (hn : 3 ≤ n) (g : Nat) (lb : Array Value) (hFg : F.fn g) (eg : ∀ args w, (callFunc g args).run Try.prog w = .ok (.enter g args) w)
    (S Sp : List Pl → Prop) (N : Nat) (hN : N < 1000000) (w : World) (hseq : SeqStopsK F (n - 1 - 1) Try.prog g lb (fun p : Pl => #[plV p]) KeepsWalks S Sp N w) :
    CallsIn F n Try.prog 31 #[.func (.func g) #[] lb] w fun e w' => ∃ (v : Value) (ps : List Pl), e = .returned v ∧ S ps ∧ w'.ownsRow w.heap.size 50 25 v ps.length (ps.flatMap plC) ∧ Below w.heap.size w w' := by
  have h1 : 1 ≤ n := by omega
  refine callsIn_of_wp Try.func31 rfl h8 ?_ hro
  simp only [Try.ntmps31, List.size_toArray, List.length_cons, List.length_nil, Nat.reduceAdd, Nat.reduceSub, Array.replicate_succ, Array.replicate_zero, List.push_toArray, List.append_toArray, List.nil_append, List.cons_append]
  gi_wp2_with (gi_at_call 45; refine (appendSeq_in F (n - 1) h11 hro (by omega) g lb hFg eg S Sp N hN _ hseq).mono ?_; rintro e w' ⟨v, ss, rfl, hS, hrow, hb⟩)
  go_ret
  exact ⟨v, ss, rfl, hS, hrow, hb⟩
end Go.Proofs.Ytbkhldaomalmoaa
