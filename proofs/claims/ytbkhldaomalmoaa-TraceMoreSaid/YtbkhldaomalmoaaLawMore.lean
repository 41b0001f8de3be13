/- quaestorlaw14.TraceMore: the walk. -/
import Derived.Test.YtbkhldaomalmoaaKnown
import Derived.Test.YtbkhldaomalmoaaStepsIs
import Derived.Test.YtbkhldaomalmoaaWithin
namespace Go.Proofs.Ytbkhldaomalmoaa
open Go.RowKit
attribute [local go_sem ↓] exec_load exec_store exec_alloc

theorem AL_foot (W : World) : AL 28 W = .ok (.pointer (some ⟨W.heap.size, 0, none⟩)) (W.alloc (.cells (zC 28) 28)) :=
  AL_run (z := (((Try.prog.info? 28).bind (·.zero)).getD .nilIface)) (fun w => by kernel_rfl) rfl W
theorem zC_foot : (zC 28).size = 2 := by kernel_rfl
theorem PlRow.one {w : World} {v : Value} {L : List Pl} (h : PlRow w v L) : v.oneCell' = true := by
  obtain ⟨a, c, rfl, -⟩ := h; rfl
/-- what was read and written, stored into its block -/
theorem foot_stage {W : World} {u : Value} {f : Foot} (h : FtVal W u f) : ∃ (w1 : World) (a b : Value), SD 28 (.pointer (some ⟨W.heap.size, 0, none⟩)) u (W.alloc (.cells (zC 28) 28)) = .ok () w1 ∧ PlRow w1 a f.reads ∧ PlRow w1 b f.writes ∧
    (∀ W', Below w1.heap.size w1 W' → LD 26 (.pointer (some ⟨W.heap.size, 0, none⟩)) W' = .ok a W') ∧ (∀ W', Below w1.heap.size w1 W' → LD 26 (.pointer (some ⟨W.heap.size, 1, none⟩)) W' = .ok b W') ∧
    (∀ W', Below w1.heap.size w1 W' → LD 28 (.pointer (some ⟨W.heap.size, 0, none⟩)) W' = .ok u W') ∧ Below W.heap.size W w1 := by
  obtain ⟨a, b, rfl, ha, hb⟩ := h
  have h1 := at_new W (.cells [a, b].toArray 28 (0, 0)) rfl
  have hB : Below W.heap.size W (W.alloc (.cells [a, b].toArray 28)) := below_a (Below.refl _ _) (Nat.le_refl _) _
  have hs : SD 28 (.pointer (some ⟨W.heap.size, 0, none⟩)) (.agg [a, b].toArray) (W.alloc (.cells (zC 28) 28)) = .ok () (W.alloc (.cells [a, b].toArray 28)) :=
    SD_new rfl (by rw [zC_foot]; rfl) (by kernel_rfl) (fun v hv => by
      simp only [List.mem_cons, List.not_mem_nil, or_false] at hv
      rcases hv with rfl | rfl
      · exact ha.one
      · exact hb.one)
  refine ⟨_, a, b, hs, ha.below hB, hb.below hB, fun W' h' => ?_, fun W' h' => ?_, fun W' h' => ?_, hB⟩
  · exact LD_cell (cell_in (heap_below h' h1 (at_lt h1)) 0 rfl) Try.underlying26 rfl
  · exact LD_cell (cell_in (heap_below h' h1 (at_lt h1)) 1 rfl) Try.underlying26 rfl
  · exact LD_range (rangeAt_below (range_block h1) h') Try.underlying28 rfl (by kernel_rfl)
theorem up_sub : ∀ {p q : List Pl}, p.Pairwise (fun x y => x.code < y.code) → q.Pairwise (fun x y => x.code < y.code) → (∀ x ∈ p, x ∈ q) → p.Sublist q
  | [], q, _, _, _ => List.nil_sublist q
  | x :: p, [], _, _, h => absurd (h x (by simp)) (by simp)
  | x :: p, y :: q, hp, hq, h => by
    by_cases e : x = y
    · subst e
      refine List.Sublist.cons_cons x (up_sub (List.pairwise_cons.1 hp).2 (List.pairwise_cons.1 hq).2 (fun z hz => ?_))
      have h1 := (List.pairwise_cons.1 hp).1 z hz
      rcases List.mem_cons.1 (h z (by simp [hz])) with rfl | h2
      · omega
      · exact h2
    · refine List.Sublist.cons y (up_sub hp (List.pairwise_cons.1 hq).2 (fun z hz => ?_))
      rcases List.mem_cons.1 (h z hz) with rfl | h2
      · rcases List.mem_cons.1 hz with rfl | hz
        · exact absurd rfl e
        · have h1 := (List.pairwise_cons.1 hp).1 z hz
          rcases List.mem_cons.1 (h x (by simp)) with rfl | h3
          · exact absurd rfl e
          · have := (List.pairwise_cons.1 hq).1 x h3
            omega
      · exact h2
theorem refR_sub {L : List Ev} (hL : ∀ e ∈ L, e.Ok) (n : Nat) : (refR (L.take n)).Sublist (refR L) := by
  have h1 := refR_up (L := L.take n) (fun e he => hL e (List.mem_of_mem_take he))
  have h2 := refR_up hL
  refine up_sub h1.1.lt h2.1.lt (fun x hx => ?_)
  rw [h2.2]
  rw [h1.2] at hx
  obtain ⟨e, he, hx⟩ := List.mem_flatMap.1 hx
  exact List.mem_flatMap.2 ⟨e, List.mem_of_mem_take he, hx⟩
theorem refW_sub {L : List Ev} (hL : ∀ e ∈ L, e.Ok) (n : Nat) : (refW (L.take n)).Sublist (refW L) := by
  have h1 := refW_up (L := L.take n) (fun e he => hL e (List.mem_of_mem_take he))
  have h2 := refW_up hL
  refine up_sub h1.1.lt h2.1.lt (fun x hx => ?_)
  rw [h2.2]
  rw [h1.2] at hx
  obtain ⟨e, he, hx⟩ := List.mem_flatMap.1 hx
  exact List.mem_flatMap.2 ⟨e, List.mem_of_mem_take he, hx⟩
theorem belL_take (a slot : Nat) (L : List Ev) (n : Nat) (h : belL a slot (L.take n) = true) : belL a slot L = true := by
  unfold belL at *
  rw [Bool.or_eq_true] at *
  refine h.imp id fun h => ?_
  rw [List.any_eq_true] at *
  obtain ⟨e, he, h⟩ := h
  exact ⟨e, List.mem_of_mem_take he, h⟩
theorem starved_take (L : List Ev) (n : Nat) : starvedN (L.take n) ≤ starvedN L := ((List.take_sublist n L).filter _).length_le
theorem evRow_take {W : World} {a : Option Addr} {len c : Nat} {L : List Ev} (h : EvRow W (.slice a len c) L) (n : Nat) (hn : n ≤ L.length) : EvRow W (.slice a n c) (L.take n) := by
  obtain ⟨a', c', h1, h2, h3⟩ := h
  obtain ⟨rfl, rfl, rfl⟩ : a = a' ∧ len = L.length ∧ c = c' := by simpa using h1
  have e : (L.take n).length = n := by rw [List.length_take]; omega
  refine ⟨a, c, by rw [e], by omega, ?_⟩
  rcases h3 with rfl | ⟨g, o, rfl, hg, hx⟩
  · exact .inl (by simp)
  · refine .inr ⟨g, o, rfl, hg, fun k x hk => hx k x ?_⟩
    have hkl := (List.getElem?_eq_some_iff.1 hk).1
    rw [e] at hkl
    rwa [List.getElem?_take_of_lt hkl] at hk
/-- the number of events that are taken -/
def turnN (k : Int) (n : Nat) : Nat := k.toNat % (n + 1)
theorem turnN_le (k : Int) (n : Nat) : turnN k n ≤ n := by
  have := Nat.mod_lt k.toNat (show 0 < n + 1 by omega)
  unfold turnN; omega
attribute [local go_sem] AL_foot
set_option maxRecDepth 100000 in
set_option maxHeartbeats 8000000 in
theorem lawMore_calls (L : List Ev) (v : Value) (k : Int) (hk : -9223372036854775808 ≤ k ∧ k ≤ 9223372036854775807) (a slot : Nat) (ha : a < A160) (hs : slot < W256) (w : World) (hrow : EvRow w v L) (hE : ∀ e ∈ L, EvIn w e) :
    Calls Try.prog 5 #[v, .int .i64 k, aV a, wV slot] w fun e w' => e = .returned (.bool true) ∧ Below w.heap.size w w' := by
  obtain ⟨va, vc, rfl, hvc, -⟩ := id hrow
  have hL : ∀ e ∈ L, e.Ok := fun e he => (hE e he).ok
  obtain ⟨w1, hw1⟩ : ∃ w1, (w.alloc (.cells (aC a).toArray 33)).alloc (.cells (wC slot).toArray 36) = w1 := ⟨_, rfl⟩
  have b0 : w1.heap[w.heap.size]? = some (.cells (aC a).toArray 33 (0, 0)) := by rw [← hw1]; exact at_old (at_new w _ rfl) _
  have b1 : w1.heap[w.heap.size + 1]? = some (.cells (wC slot).toArray 36 (0, 0)) := by rw [← hw1]; exact at_new _ _ (by simp)
  have hB1 : Below w.heap.size w w1 := by rw [← hw1]; exact below_a (below_a (Below.refl _ _) (Nat.le_refl _) _) (by simp) _
  have hrow1 := hrow.below hB1
  have hE1 : ∀ e ∈ L, EvIn w1 e := fun e he => (hE e he).below hB1
  have h0 := events_calls L hL _ 500 (by decide) w1 hrow1
  rw [show ((500 : Nat) : Int) = 500 from rfl] at h0
  have CE := Lib.hid h0
  have CK := Lib.hid fun W => known_calls W
  have HB1 := Lib.hid hB1
  have HROW := Lib.hid hrow1
  clear h0 hrow hrow1 hB1
  rw [show aV a = .agg (aC a).toArray from rfl, wV_eq]
  go_enter Try.func5, Try.ntmps5
  go_wp2_with fail
  refine CE.out.mono ?_
  rintro e wz ⟨m, rfl, hw, hm⟩
  obtain rfl := hw.symm
  rcases Nat.lt_or_ge 500 m with hlt | hge
  · have hlt' : (500 : Int) < m := by omega
    clear hlt hm hw1 b0 b1 hE hE1 hL
    go_wp2_with (go_at_call 7; (with_reducible refine (CK.out _).mono ?_); rintro e w2 ⟨rfl, hb2⟩)
    go_ret
    exact ⟨rfl, HB1.out.trans (hb2.mono HB1.out.size)⟩
  · have hge' : ¬ (500 : Int) < m := by omega
    have hn := hm hge
    obtain ⟨K, hK1⟩ : ∃ K : Nat, max k 0 = (K : Int) := ⟨k.toNat, by omega⟩
    obtain ⟨n, hnL, hr1, hr2⟩ : ∃ n : Nat, n ≤ L.length ∧ (K : Int).tmod ((L.length : Int) + 1) = n ∧ (K : Int) % ((L.length : Int) + 1) = n := by
      have h1 := Nat.mod_lt K (show 0 < L.length + 1 by omega)
      exact ⟨K % (L.length + 1), by omega, rfl, rfl⟩
    have hnc : n ≤ vc := by omega
    have hLt : ∀ e ∈ L.take n, e.Ok := fun e he => hL e (List.mem_of_mem_take he)
    have hlt0 : (L.take n).length ≤ 500 := by rw [List.length_take]; omega
    have hrt := evRow_take HROW.out n hnL
    have CS1 := Lib.hid fun W (h : Below w1.heap.size w1 W) => steps_calls (L.take n) hLt (by omega) _ W (hrt.below h)
    have CS2 := Lib.hid fun W (h : Below w1.heap.size w1 W) => steps_calls L hL (by omega) _ W (HROW.out.below h)
    have CB1 := Lib.hid fun W (h : Below w1.heap.size w1 W) => belongs_calls a slot ha hs (L.take n) _ W (hrt.below h) (fun e he => (hE1 e (List.mem_of_mem_take he)).below h) (by omega)
    have CB2 := Lib.hid fun W (h : Below w1.heap.size w1 W) => belongs_calls a slot ha hs L _ W (HROW.out.below h) (fun e he => (hE1 e he).below h) (by omega)
    have CT1 := Lib.hid fun W (h : Below w1.heap.size w1 W) => starved_calls (L.take n) hLt (by omega) _ W (hrt.below h)
    have CT2 := Lib.hid fun W (h : Below w1.heap.size w1 W) => starved_calls L hL (by omega) _ W (HROW.out.below h)
    have CW1 := Lib.hid fun W u v (hu : PlRow W u (refR (L.take n))) (hv : PlRow W v (refR L)) => within_calls _ _ (refR_up hLt).1.ok (refR_up hL).1.ok u v W hu hv (refR_sub hL n) (by have := refR_len L; omega)
    have CW2 := Lib.hid fun W u v (hu : PlRow W u (refW (L.take n))) (hv : PlRow W v (refW L)) => within_calls _ _ (refW_up hLt).1.ok (refW_up hL).1.ok u v W hu hv (refW_sub hL n) (by have := refW_len L; omega)
    have fA : ∀ W, Below w1.heap.size w1 W → LD 33 (.pointer (some ⟨w.heap.size, 0, none⟩)) W = .ok (aV a) W := fun W h => LD_addr (rangeAt_below (range_block b0) h)
    have fW : ∀ W, Below w1.heap.size w1 W → LD 36 (.pointer (some ⟨w.heap.size + 1, 0, none⟩)) W = .ok (wV slot) W := fun W h => LD_word (rangeAt_below (range_block b1) h)
    have hst : ((starvedN (L.take n) : Nat) : Int) ≤ ((starvedN L : Nat) : Int) := by have := starved_take L n; omega
    have HBT := Lib.hid (belL_take a slot L n)
    have hbw1 : Below w1.heap.size w1 w1 := Below.refl _ _
    have HLT := Lib.hid hlt0
    clear hm hge hw1 b0 b1 hE hE1 hL hLt hrt hlt0 ha hs
    go_wp2_with (first
      | (go_at_call 7; (with_reducible refine (CK.out _).mono ?_); rintro e w2 ⟨rfl, hb2⟩; clear CK)
      | (go_at_call 9; (with_reducible refine (CS1.out _ (by assumption)).mono ?_); rintro e w3 ⟨u3, rfl, hu3, hb3⟩; obtain ⟨w4, fa, fb, s1, hfa, hfb, l1, l2, -, hb4⟩ := foot_stage hu3; have hB4 := (hb2.trans (hb3.mono hb2.size)).trans (hb4.mono (hb2.trans (hb3.mono hb2.size)).size); have HFA := Lib.hid hfa; have HFB := Lib.hid hfb; clear hu3 hb3 hb4 hfa hfb CS1)
      | (go_at_call 9; (with_reducible refine (CS2.out _ (by assumption)).mono ?_); rintro e w5 ⟨u5, rfl, hu5, hb5⟩; obtain ⟨w6, ga, gb, s2, hga, hgb, m1, m2, -, hb6⟩ := foot_stage hu5; have hb46 := hb5.trans (hb6.mono hb5.size); have HB46 := Lib.hid hb46; have HB6 := Lib.hid (hB4.trans (hb46.mono hB4.size)); have HGA := Lib.hid hga; have HGB := Lib.hid hgb; clear hu5 hb5 hb6 hga hgb hb46 CS2))
    obtain ⟨r, hbt⟩ : ∃ r, belL a slot (L.take n) = r := ⟨_, rfl⟩
    rw [hbt] at CB1
    have fA6 : ∀ W, (Below w6.heap.size w6 W ∧ w6.heap.size ≤ W.heap.size) → LD 33 (.pointer (some ⟨w.heap.size, 0, none⟩)) W = .ok (aV a) W := fun W h => fA W (HB6.out.trans (h.1.mono HB6.out.size))
    have fW6 : ∀ W, (Below w6.heap.size w6 W ∧ w6.heap.size ≤ W.heap.size) → LD 36 (.pointer (some ⟨w.heap.size + 1, 0, none⟩)) W = .ok (wV slot) W := fun W h => fW W (HB6.out.trans (h.1.mono HB6.out.size))
    have hS0 : Below w6.heap.size w6 w6.drew ∧ w6.heap.size ≤ w6.drew.heap.size := ⟨(Below.refl _ _).drew, Nat.le_refl _⟩
    have HBT2 := Lib.hid hbt
    clear s1 s2 hbt
    refine wp_region_held_drew (S := fun W => Below w6.heap.size w6 W ∧ w6.heap.size ≤ W.heap.size) (by kernel_rfl) hS0 (fun hHeld => ?_)
    refine wpAnyH_take (i := 0) (v := ?v0) rfl (by kernel_rfl) (by kernel_rfl) (by kernel_rfl) (fun _ _ _ h => h) (Or.inl ⟨by rfl, fun W hSw => ?h0⟩) hHeld ?_
    case h0 => ((try dsimp only at hSw); (try simp only [List.getElem_toArray, List.getElem_cons_succ, List.getElem_cons_zero]); go_simp; try with_reducible rfl)
    try simp only [Act.put, List.getElem_toArray, List.getElem_cons_succ, List.getElem_cons_zero, List.setIfInBounds_toArray, List.set_cons_zero, List.set_cons_succ]
    refine wpAnyH_take (i := 1) (v := ?v1) rfl (by kernel_rfl) (by kernel_rfl) (by kernel_rfl) (fun _ _ _ h => h) (Or.inl ⟨by rfl, fun W hSw => ?h1⟩) hHeld ?_
    case h1 => ((try dsimp only at hSw); (try simp only [List.getElem_toArray, List.getElem_cons_succ, List.getElem_cons_zero]); go_simp; try with_reducible rfl)
    try simp only [Act.put, List.getElem_toArray, List.getElem_cons_succ, List.getElem_cons_zero, List.setIfInBounds_toArray, List.set_cons_zero, List.set_cons_succ]
    refine wpAnyH_take (i := 2) (v := ?v2) rfl (by kernel_rfl) (by kernel_rfl) (by kernel_rfl) (fun _ _ _ h => h) (Or.inl ⟨by rfl, fun W hSw => ?h2⟩) hHeld ?_
    case h2 => ((try dsimp only at hSw); (try simp only [List.getElem_toArray, List.getElem_cons_succ, List.getElem_cons_zero]); go_simp; try with_reducible rfl)
    try simp only [Act.put, List.getElem_toArray, List.getElem_cons_succ, List.getElem_cons_zero, List.setIfInBounds_toArray, List.set_cons_zero, List.set_cons_succ]
    refine wpAnyH_take (i := 3) (v := ?v3) rfl (by kernel_rfl) (by kernel_rfl) (by kernel_rfl) (fun _ _ _ h => h) (Or.inl ⟨by rfl, fun W hSw => ?h3⟩) hHeld ?_
    case h3 => ((try dsimp only at hSw); (try simp only [List.getElem_toArray, List.getElem_cons_succ, List.getElem_cons_zero]); go_simp; try with_reducible rfl)
    try simp only [Act.put, List.getElem_toArray, List.getElem_cons_succ, List.getElem_cons_zero, List.setIfInBounds_toArray, List.set_cons_zero, List.set_cons_succ]
    refine wpAnyH_take (i := 4) (v := ?v4) rfl (by kernel_rfl) (by kernel_rfl) (by kernel_rfl) (fun _ _ _ h => h) (Or.inl ⟨by rfl, fun W hSw => ?h4⟩) hHeld ?_
    case h4 => ((try dsimp only at hSw); (try simp only [List.getElem_toArray, List.getElem_cons_succ, List.getElem_cons_zero]); go_simp; try with_reducible rfl)
    try simp only [Act.put, List.getElem_toArray, List.getElem_cons_succ, List.getElem_cons_zero, List.setIfInBounds_toArray, List.set_cons_zero, List.set_cons_succ]
    refine wpAnyH_ready (rs := [5]) (by kernel_rfl) (by simp) ?_
    refine AllReadyH.cons rfl (fun K hK => ?_) AllReadyH.nil
    go_simp
    refine (CB1.out _ (HB6.out.trans (hHeld.1.mono HB6.out.size))).mono ?_
    rintro e' W1 ⟨rfl, hg⟩
    go_wp2_with fail
    refine hK.out _ _ ⟨below_c hHeld.1 hg hHeld.2, Nat.le_trans hHeld.2 hg.size⟩ (fun hHeld => ?_)
    clear hK K
    try simp only [Act.put, List.getElem_toArray, List.getElem_cons_succ, List.getElem_cons_zero, List.setIfInBounds_toArray, List.set_cons_zero, List.set_cons_succ]
    refine wpAnyH_take (i := 6) (v := .bool r) rfl (by kernel_rfl) (by kernel_rfl) (by kernel_rfl) (fun _ _ _ h => h) (Or.inl ⟨by rfl, fun W hSw => ?h6⟩) hHeld ?_
    case h6 => ((try dsimp only at hSw); (try simp only [List.getElem_toArray, List.getElem_cons_succ, List.getElem_cons_zero]); go_simp; try with_reducible rfl)
    try simp only [Act.put, List.getElem_toArray, List.getElem_cons_succ, List.getElem_cons_zero, List.setIfInBounds_toArray, List.set_cons_zero, List.set_cons_succ]
    refine wpAnyH_done (by kernel_rfl) ?_ _
    have hW1 := HB6.out.trans (hHeld.1.mono HB6.out.size)
    have HW1 := Lib.hid hW1
    have hB46 := HB46.out.trans (hHeld.1.mono HB46.out.size)
    have hB6 := hHeld.1
    clear fA6 fW6 hS0 hHeld
    cases r
    · clear CB2
      go_wp2_with (first
        | (go_at_call 12; (with_reducible refine (CW1.out _ _ _ (HFA.out.below hB46) (HGA.out.below hB6)).mono ?_); rintro e x1 ⟨rfl, hx1⟩; have k4 := hB46.trans (hx1.mono hB46.size); have k6 := hB6.trans (hx1.mono hB6.size); have HX1 := Lib.hid (HW1.out.trans (hx1.mono HW1.out.size)); clear hx1 CW1)
        | (go_at_call 12; (with_reducible refine (CW2.out _ _ _ (HFB.out.below k4) (HGB.out.below k6)).mono ?_); rintro e x2 ⟨rfl, hx2⟩; have hX2 := HX1.out.trans (hx2.mono HX1.out.size); clear hx2 CW2 l1 l2 m1 m2)
        | (go_at_call 13; (with_reducible refine (CT1.out _ (by assumption)).mono ?_); rintro e x4 ⟨sa, sc, rfl, hx4⟩; have hX4 := hX2.trans (hx4.mono hX2.size); clear hx4 CT1)
        | (go_at_call 13; (with_reducible refine (CT2.out _ (by assumption)).mono ?_); rintro e x5 ⟨ta, tc, rfl, hx5⟩; have HX5 := Lib.hid (hX4.trans (hx5.mono hX4.size)); clear hx5 CT2))
      go_ret
      exact ⟨rfl, HB1.out.trans (HX5.out.mono HB1.out.size)⟩
    · rw [HBT.out HBT2.out] at CB2
      go_wp2_with (first
        | (go_at_call 12; (with_reducible refine (CW1.out _ _ _ (HFA.out.below hB46) (HGA.out.below hB6)).mono ?_); rintro e x1 ⟨rfl, hx1⟩; have k4 := hB46.trans (hx1.mono hB46.size); have k6 := hB6.trans (hx1.mono hB6.size); have HX1 := Lib.hid (HW1.out.trans (hx1.mono HW1.out.size)); clear hx1 CW1)
        | (go_at_call 12; (with_reducible refine (CW2.out _ _ _ (HFB.out.below k4) (HGB.out.below k6)).mono ?_); rintro e x2 ⟨rfl, hx2⟩; have hX2 := HX1.out.trans (hx2.mono HX1.out.size); clear hx2 CW2 l1 l2 m1 m2)
        | (go_at_call 11; (with_reducible refine (CB2.out _ (by assumption)).mono ?_); rintro e x3 ⟨rfl, hx3⟩; have hX3 := hX2.trans (hx3.mono hX2.size); clear hx3 CB2)
        | (go_at_call 13; (with_reducible refine (CT1.out _ (by assumption)).mono ?_); rintro e x4 ⟨sa, sc, rfl, hx4⟩; have hX4 := hX3.trans (hx4.mono hX3.size); clear hx4 CT1)
        | (go_at_call 13; (with_reducible refine (CT2.out _ (by assumption)).mono ?_); rintro e x5 ⟨ta, tc, rfl, hx5⟩; have HX5 := Lib.hid (hX4.trans (hx5.mono hX4.size)); clear hx5 CT2))
      go_ret
      exact ⟨rfl, HB1.out.trans (HX5.out.mono HB1.out.size)⟩
end Go.Proofs.Ytbkhldaomalmoaa
