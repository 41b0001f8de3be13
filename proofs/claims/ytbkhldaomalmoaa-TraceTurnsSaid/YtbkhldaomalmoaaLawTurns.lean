/- quaestorlaw14.TraceTurns: the walk. -/
import Derived.Test.YtbkhldaomalmoaaAppEv
namespace Go.Proofs.Ytbkhldaomalmoaa
open Go.RowKit
attribute [local go_sem ↓] exec_load exec_store exec_alloc exec_slice
attribute [local go_sem] AL_foot

theorem footEq_self' (f : Foot) : footEq f f = true := by simp [footEq]
theorem refR_same {L M : List Ev} (hL : ∀ e ∈ L, e.Ok) (h : ∀ e, e ∈ M ↔ e ∈ L) : refR M = refR L := by
  have hM : ∀ e ∈ M, e.Ok := fun e he => hL e ((h e).1 he)
  refine up_ext (refR_up hM).1.lt (refR_up hL).1.lt (fun x => ?_)
  rw [(refR_up hM).2, (refR_up hL).2, List.mem_flatMap, List.mem_flatMap]
  exact ⟨fun ⟨e, he, hx⟩ => ⟨e, (h e).1 he, hx⟩, fun ⟨e, he, hx⟩ => ⟨e, (h e).2 he, hx⟩⟩
theorem refW_same {L M : List Ev} (hL : ∀ e ∈ L, e.Ok) (h : ∀ e, e ∈ M ↔ e ∈ L) : refW M = refW L := by
  have hM : ∀ e ∈ M, e.Ok := fun e he => hL e ((h e).1 he)
  refine up_ext (refW_up hM).1.lt (refW_up hL).1.lt (fun x => ?_)
  rw [(refW_up hM).2, (refW_up hL).2, List.mem_flatMap, List.mem_flatMap]
  exact ⟨fun ⟨e, he, hx⟩ => ⟨e, (h e).1 he, hx⟩, fun ⟨e, he, hx⟩ => ⟨e, (h e).2 he, hx⟩⟩
theorem SL_drop (W : World) (a : Option Addr) (len c n : Nat) (h : n ≤ len) : SL 22 (.slice a len c) (some (.int .i64 n)) none none W = .ok (.slice (if c = n then a else a.map (·.add (n * 32))) (len - n) (c - n)) W := by
  have ht : Try.prog.underlying 22 = some (.slice (Try.prog.elem 22)) := by kernel_rfl
  have hs : (sizeOf (Try.prog.elem 22)).run Try.prog W = .ok 32 W := by kernel_rfl
  rw [SL, run_sliceAt_slice W 22 _ _ _ _ ht, run_slice_l W 22 a len c ht .i64 (n : Int) (by omega) (by omega), hs]
  simp [sliced]
theorem SL_take (W : World) (a : Option Addr) (len c n : Nat) (h : n ≤ c) : SL 22 (.slice a len c) none (some (.int .i64 n)) none W = .ok (.slice (if c = 0 then a else a.map (·.add 0)) n c) W := by
  have ht : Try.prog.underlying 22 = some (.slice (Try.prog.elem 22)) := by kernel_rfl
  have hs : (sizeOf (Try.prog.elem 22)).run Try.prog W = .ok 32 W := by kernel_rfl
  rw [SL, run_sliceAt_slice W 22 _ _ _ _ ht, run_slice_h W 22 a len c ht .i64 (n : Int) (by omega) (by omega), hs]
  simp [sliced]
theorem add_zero' (a : Option Addr) (c : Nat) : (if c = 0 then a else a.map (·.add 0)) = a := by
  have h : a.map (·.add 0) = a := by cases a <;> simp [Addr.add]
  rw [h, ite_self]
theorem turn_mem (L : List Ev) (n : Nat) : ∀ e, e ∈ L.drop n ++ L.take n ↔ e ∈ L := fun e => by
  conv => rhs; rw [← List.take_append_drop n L]
  rw [List.mem_append, List.mem_append, or_comm]
theorem twice_mem (L : List Ev) (n : Nat) : ∀ e, e ∈ L ++ (L.drop n ++ L.take n) ↔ e ∈ L := fun e => by
  rw [List.mem_append, turn_mem, or_self]
set_option maxRecDepth 100000 in
set_option maxHeartbeats 8000000 in
theorem lawTurns_calls (L : List Ev) (v : Value) (k : Int) (hk : -9223372036854775808 ≤ k ∧ k ≤ 9223372036854775807) (w : World) (hrow : EvRow w v L) (hL : ∀ e ∈ L, e.Ok) :
    Calls Try.prog 4 #[v, .int .i64 k] w fun e w' => e = .returned (.bool true) ∧ Below w.heap.size w w' := by
  obtain ⟨va, vc, rfl, hvc, -⟩ := id hrow
  have h0 := events_calls L hL _ 500 (by decide) w hrow
  rw [show ((500 : Nat) : Int) = 500 from rfl] at h0
  have CE := Lib.hid h0
  have CK := Lib.hid fun W => known_calls W
  have HROW := Lib.hid hrow
  clear h0 hrow
  go_enter Try.func4, Try.ntmps4
  go_wp2_with fail
  refine CE.out.mono ?_
  rintro e wz ⟨m, rfl, hw, hm⟩
  obtain rfl := hw.symm
  rcases Nat.lt_or_ge 500 m with hlt | hge
  · have hlt' : (500 : Int) < m := by omega
    clear hlt hm hL
    go_wp2_with (go_at_call 7; (with_reducible refine (CK.out _).mono ?_); rintro e w2 ⟨rfl, hb2⟩)
    go_ret
    exact ⟨rfl, hb2⟩
  · have hge' : ¬ (500 : Int) < m := by omega
    have hn := hm hge
    obtain ⟨K, hK1⟩ : ∃ K : Nat, max k 0 = (K : Int) := ⟨k.toNat, by omega⟩
    obtain ⟨n, hnL, hr1, hr2⟩ : ∃ n : Nat, n ≤ L.length ∧ (K : Int).tmod ((L.length : Int) + 1) = n ∧ (K : Int) % ((L.length : Int) + 1) = n := by
      have h1 := Nat.mod_lt K (show 0 < L.length + 1 by omega)
      exact ⟨K % (L.length + 1), by omega, rfl, rfl⟩
    have hnc : n ≤ vc := by omega
    have hLd : ∀ e ∈ L.drop n, e.Ok := fun e he => hL e (List.mem_of_mem_drop he)
    have hLt : ∀ e ∈ L.take n, e.Ok := fun e he => hL e (List.mem_of_mem_take he)
    have hLu : ∀ e ∈ L.drop n ++ L.take n, e.Ok := fun e he => hL e ((turn_mem L n e).1 he)
    have hLw : ∀ e ∈ L ++ (L.drop n ++ L.take n), e.Ok := fun e he => hL e ((twice_mem L n e).1 he)
    have hld : (L.drop n).length = L.length - n := List.length_drop
    have hlt : (L.take n).length = n := by rw [List.length_take]; omega
    have hlu : (L.drop n ++ L.take n).length = L.length := by rw [List.length_append, hld, hlt]; omega
    have hlw : (L ++ (L.drop n ++ L.take n)).length = 2 * L.length := by rw [List.length_append, hlu]; omega
    obtain ⟨sv, hsv, hsd⟩ : ∃ sv : Value, (∀ W, SL 22 (.slice va L.length vc) (some (.int .i64 n)) none none W = .ok sv W) ∧ (∀ W, Below w.heap.size w W → EvRow W sv (L.drop n)) := ⟨_, fun W => SL_drop W va L.length vc n hnL, fun W h => evRow_drop (HROW.out.below h) n hnL⟩
    obtain ⟨st, hsv2, hst⟩ : ∃ st : Value, (∀ W, SL 22 (.slice va L.length vc) none (some (.int .i64 n)) none W = .ok st W) ∧ (∀ W, Below w.heap.size w W → EvRow W st (L.take n)) := ⟨_, fun W => by rw [SL_take W va L.length vc n hnc, add_zero'], fun W h => evRow_take (HROW.out.below h) n hnL⟩
    have HSD := Lib.hid hsd
    have HST := Lib.hid hst
    clear hsd hst
    have CS1 := Lib.hid fun W (h : Below w.heap.size w W) => steps_calls L hL (by omega) _ W (HROW.out.below h)
    have hS2 := fun v W (h : EvRow W v (L.drop n ++ L.take n)) => steps_calls (L.drop n ++ L.take n) hLu (by omega) v W h
    rw [refR_same hL (turn_mem L n), refW_same hL (turn_mem L n)] at hS2
    have hS3 := fun v W (h : EvRow W v (L ++ (L.drop n ++ L.take n))) => steps_calls (L ++ (L.drop n ++ L.take n)) hLw (by omega) v W h
    rw [refR_same hL (twice_mem L n), refW_same hL (twice_mem L n)] at hS3
    have hF := fun W u v (hu : FtVal W u ⟨refR L, refW L⟩) (hv : FtVal W v ⟨refR L, refW L⟩) => sameFoot_calls ⟨refR L, refW L⟩ ⟨refR L, refW L⟩ (foot_ok hL) (foot_ok hL) u v W hu hv (by have := refR_len L; show (refR L).length < 1000000; omega) (by have := refW_len L; show (refW L).length < 1000000; omega)
    rw [footEq_self'] at hF
    have hnil : ∀ (W : World) b, W.ownsRow b 46 32 (.slice none 0 0) ([] : List Ev).length (([] : List Ev).flatMap evC) := fun W b => World.ownsRow_nil _ _ _ _
    have h1 : ([] : List Ev).length + (L.drop n).length ≤ 1000000 := by rw [hld]; simp; omega
    have h2 : ([] ++ L.drop n : List Ev).length + (L.take n).length ≤ 1000000 := by rw [List.nil_append, hld, hlt]; omega
    have h3 : ([] : List Ev).length + L.length ≤ 1000000 := by simp; omega
    have h4 : ([] ++ L : List Ev).length + (L.drop n ++ L.take n).length ≤ 1000000 := by rw [List.nil_append, hlu]; omega
    have HL := Lib.hid hL
    have HLd := Lib.hid hLd
    have HLt := Lib.hid hLt
    have HLu := Lib.hid hLu
    have CS2 := Lib.hid hS2
    have CS3 := Lib.hid hS3
    have CF := Lib.hid hF
    have HN := Lib.hid hnil
    have H1 := Lib.hid h1
    have H2 := Lib.hid h2
    have H3 := Lib.hid h3
    have H4 := Lib.hid h4
    clear hm hge hL hLd hLt hLu hLw hld hlt hlu hlw hS2 hS3 hF hnil h1 h2 h3 h4
    go_wp2_with (first
      | (go_at_call 7; (with_reducible refine (CK.out _).mono ?_); rintro e w2 ⟨rfl, hb2⟩; have HB2 := Lib.hid hb2; clear CK hb2)
      | (at_builtin; refine wpList_append_ev _ rfl (.tmp 23) (.tmp 26) rfl w.heap.size (.slice none 0 0) [] rfl (HN.out _ _) (L.drop n) HLd.out sv rfl (HSD.out _ HB2.out) H1.out HB2.out.size ?_; intro v1 x1 hown1 hg1; have HO1 := Lib.hid hown1; have HB3 := Lib.hid (HB2.out.grown hg1 HB2.out.size (by intro k hk; cases hk)); clear hown1 hg1)
      | (at_builtin; refine wpList_append_ev _ rfl (.tmp 28) (.tmp 31) rfl w.heap.size v1 ([] ++ L.drop n) rfl HO1.out (L.take n) HLt.out st rfl (HST.out _ HB3.out) H2.out HB3.out.size ?_; intro v2 x2 hown2 hg2; have HO2 := Lib.hid hown2; have HB4 := Lib.hid (HB3.out.grown hg2 HB3.out.size (fun k hk => (HO1.out.lt k hk).1)); clear hown2 hg2)
      | (at_builtin; refine wpList_append_ev _ rfl (.tmp 33) (.tmp 34) rfl x2.heap.size (.slice none 0 0) [] rfl (HN.out _ _) L HL.out (.slice va L.length vc) rfl (HROW.out.below HB4.out) H3.out (Nat.le_refl _) ?_; intro v3 x3 hown3 hg3; have HO3 := Lib.hid hown3; have HB5 := Lib.hid ((Below.refl x2.heap.size x2).grown hg3 (Nat.le_refl _) (by intro k hk; cases hk)); clear hown3 hg3)
      | (at_builtin; refine wpList_append_ev _ rfl (.tmp 36) (.tmp 37) rfl x2.heap.size v3 ([] ++ L) rfl HO3.out (L.drop n ++ L.take n) HLu.out v2 rfl ((evRow_own HO2.out).below HB5.out) H4.out HB5.out.size ?_; intro v4 x4 hown4 hg4; have HO4 := Lib.hid hown4; have HB6 := Lib.hid (HB5.out.grown hg4 HB5.out.size (fun k hk => (HO3.out.lt k hk).1)); have hbx4 := HB4.out.trans (HB6.out.mono HB4.out.size); clear hown4 hg4)
      | (go_at_call 9; (with_reducible refine (CS1.out _ (by assumption)).mono ?_); rintro e x5 ⟨u5, rfl, hu5, hb5⟩; obtain ⟨x6, ga, gb, s2, -, -, -, -, m3, hb6⟩ := foot_stage hu5; have HT := Lib.hid (((evRow_own HO2.out).below HB6.out).below (hb5.trans (hb6.mono hb5.size))); have HW := Lib.hid ((evRow_own HO4.out).below (hb5.trans (hb6.mono hb5.size))); have HF := Lib.hid (hu5.below hb6); have HB7 := Lib.hid (hbx4.trans ((hb5.trans (hb6.mono hb5.size)).mono hbx4.size)); clear hu5 hb5 hb6 CS1))
    rw [List.nil_append] at HT
    rw [List.nil_append] at HW
    have m4 : ∀ W, (Below x6.heap.size x6 W ∧ x6.heap.size ≤ W.heap.size) → LD 28 (.pointer (some ⟨x5.heap.size, 0, none⟩)) W = .ok u5 W := fun W h => m3 W h.1
    have hS0 : Below x6.heap.size x6 x6.drew ∧ x6.heap.size ≤ x6.drew.heap.size := ⟨(Below.refl _ _).drew, Nat.le_refl _⟩
    clear s2 m3
    refine wp_region_held_drew (S := fun W => Below x6.heap.size x6 W ∧ x6.heap.size ≤ W.heap.size) (by kernel_rfl) hS0 (fun hHeld => ?_)
    refine wpAnyH_take (i := 0) (v := ?v0) rfl (by kernel_rfl) (by kernel_rfl) (by kernel_rfl) (fun _ _ _ h => h) (Or.inl ⟨by rfl, fun W hSw => ?h0⟩) hHeld ?_
    case h0 => ((try dsimp only at hSw); (try simp only [List.getElem_toArray, List.getElem_cons_succ, List.getElem_cons_zero]); go_simp; try with_reducible rfl)
    try simp only [Act.put, List.getElem_toArray, List.getElem_cons_succ, List.getElem_cons_zero, List.setIfInBounds_toArray, List.set_cons_zero, List.set_cons_succ]
    refine wpAnyH_take (i := 1) (v := ?v1) rfl (by kernel_rfl) (by kernel_rfl) (by kernel_rfl) (fun _ _ _ h => h) (Or.inl ⟨by rfl, fun W hSw => ?h1⟩) hHeld ?_
    case h1 => ((try dsimp only at hSw); (try simp only [List.getElem_toArray, List.getElem_cons_succ, List.getElem_cons_zero]); go_simp; try with_reducible rfl)
    try simp only [Act.put, List.getElem_toArray, List.getElem_cons_succ, List.getElem_cons_zero, List.setIfInBounds_toArray, List.set_cons_zero, List.set_cons_succ]
    refine wpAnyH_ready (rs := [2]) (by kernel_rfl) (by simp) ?_
    refine AllReadyH.cons rfl (fun K hK => ?_) AllReadyH.nil
    go_simp
    refine (CS2.out _ _ (HT.out.below hHeld.1)).mono ?_
    rintro e' W1 ⟨u2, rfl, hu2, hg⟩
    go_wp2_with fail
    refine hK.out _ _ ⟨below_c hHeld.1 hg hHeld.2, Nat.le_trans hHeld.2 hg.size⟩ (fun hHeld => ?_)
    have HU2 := Lib.hid hu2
    have HF1 := Lib.hid ((HF.out.below hHeld.1))
    clear hK K
    try simp only [Act.put, List.getElem_toArray, List.getElem_cons_succ, List.getElem_cons_zero, List.setIfInBounds_toArray, List.set_cons_zero, List.set_cons_succ]
    refine wpAnyH_ready (rs := [3]) (by kernel_rfl) (by simp) ?_
    refine AllReadyH.cons rfl (fun K hK => ?_) AllReadyH.nil
    go_simp
    refine (CF.out _ _ _ HF1.out HU2.out).mono ?_
    rintro e' W2 ⟨rfl, hg⟩
    go_wp2_with fail
    refine hK.out _ _ ⟨below_c hHeld.1 hg hHeld.2, Nat.le_trans hHeld.2 hg.size⟩ (fun hHeld => ?_)
    clear hK K
    try simp only [Act.put, List.getElem_toArray, List.getElem_cons_succ, List.getElem_cons_zero, List.setIfInBounds_toArray, List.set_cons_zero, List.set_cons_succ]
    refine wpAnyH_take (i := 4) (v := .bool true) rfl (by kernel_rfl) (by kernel_rfl) (by kernel_rfl) (fun _ _ _ h => h) (Or.inl ⟨by rfl, fun W hSw => ?h4⟩) hHeld ?_
    case h4 => ((try dsimp only at hSw); (try simp only [List.getElem_toArray, List.getElem_cons_succ, List.getElem_cons_zero]); go_simp; try with_reducible rfl)
    try simp only [Act.put, List.getElem_toArray, List.getElem_cons_succ, List.getElem_cons_zero, List.setIfInBounds_toArray, List.set_cons_zero, List.set_cons_succ]
    refine wpAnyH_take (i := 5) (v := ?v5) rfl (by kernel_rfl) (by kernel_rfl) (by kernel_rfl) (fun _ _ _ h => h) (Or.inl ⟨by rfl, fun W hSw => ?h5⟩) hHeld ?_
    case h5 => ((try dsimp only at hSw); (try simp only [List.getElem_toArray, List.getElem_cons_succ, List.getElem_cons_zero]); go_simp; try with_reducible rfl)
    try simp only [Act.put, List.getElem_toArray, List.getElem_cons_succ, List.getElem_cons_zero, List.setIfInBounds_toArray, List.set_cons_zero, List.set_cons_succ]
    refine wpAnyH_take (i := 6) (v := ?v6) rfl (by kernel_rfl) (by kernel_rfl) (by kernel_rfl) (fun _ _ _ h => h) (Or.inl ⟨by rfl, fun W hSw => ?h6⟩) hHeld ?_
    case h6 => ((try dsimp only at hSw); (try simp only [List.getElem_toArray, List.getElem_cons_succ, List.getElem_cons_zero]); go_simp; try with_reducible rfl)
    try simp only [Act.put, List.getElem_toArray, List.getElem_cons_succ, List.getElem_cons_zero, List.setIfInBounds_toArray, List.set_cons_zero, List.set_cons_succ]
    refine wpAnyH_ready (rs := [7]) (by kernel_rfl) (by simp) ?_
    refine AllReadyH.cons rfl (fun K hK => ?_) AllReadyH.nil
    go_simp
    refine (CS3.out _ _ (HW.out.below hHeld.1)).mono ?_
    rintro e' W3 ⟨u3, rfl, hu3, hg⟩
    go_wp2_with fail
    refine hK.out _ _ ⟨below_c hHeld.1 hg hHeld.2, Nat.le_trans hHeld.2 hg.size⟩ (fun hHeld => ?_)
    have HU3 := Lib.hid hu3
    have HF3 := Lib.hid (HF.out.below hHeld.1)
    clear hK K
    try simp only [Act.put, List.getElem_toArray, List.getElem_cons_succ, List.getElem_cons_zero, List.setIfInBounds_toArray, List.set_cons_zero, List.set_cons_succ]
    refine wpAnyH_ready (rs := [8]) (by kernel_rfl) (by simp) ?_
    refine AllReadyH.cons rfl (fun K hK => ?_) AllReadyH.nil
    go_simp
    refine (CF.out _ _ _ HF3.out HU3.out).mono ?_
    rintro e' W4 ⟨rfl, hg⟩
    go_wp2_with fail
    refine hK.out _ _ ⟨below_c hHeld.1 hg hHeld.2, Nat.le_trans hHeld.2 hg.size⟩ (fun hHeld => ?_)
    clear hK K
    try simp only [Act.put, List.getElem_toArray, List.getElem_cons_succ, List.getElem_cons_zero, List.setIfInBounds_toArray, List.set_cons_zero, List.set_cons_succ]
    refine wpAnyH_take (i := 9) (v := .bool true) rfl (by kernel_rfl) (by kernel_rfl) (by kernel_rfl) (fun _ _ _ h => h) (Or.inl ⟨by rfl, fun W hSw => ?h9⟩) hHeld ?_
    case h9 => ((try dsimp only at hSw); (try simp only [List.getElem_toArray, List.getElem_cons_succ, List.getElem_cons_zero]); go_simp; try with_reducible rfl)
    try simp only [Act.put, List.getElem_toArray, List.getElem_cons_succ, List.getElem_cons_zero, List.setIfInBounds_toArray, List.set_cons_zero, List.set_cons_succ]
    refine wpAnyH_take (i := 10) (v := .bool true) rfl (by kernel_rfl) (by kernel_rfl) (by kernel_rfl) (fun _ _ _ h => h) (Or.inl ⟨by rfl, fun W hSw => ?h10⟩) hHeld ?_
    case h10 => ((try dsimp only at hSw); (try simp only [List.getElem_toArray, List.getElem_cons_succ, List.getElem_cons_zero]); go_simp; try with_reducible rfl)
    try simp only [Act.put, List.getElem_toArray, List.getElem_cons_succ, List.getElem_cons_zero, List.setIfInBounds_toArray, List.set_cons_zero, List.set_cons_succ]
    refine wpAnyH_done (by kernel_rfl) ?_ _
    have HE := Lib.hid (HB7.out.trans (hHeld.1.mono HB7.out.size))
    clear m4 hHeld hS0
    go_wp2
    go_ret
    exact ⟨rfl, HE.out⟩
end Go.Proofs.Ytbkhldaomalmoaa
