/- trace.Steps: the walk. -/
import Derived.Test.YtbkhldaomalmoaaMaps
import Derived.Test.YtbkhldaomalmoaaSorted
namespace Go.Proofs.Ytbkhldaomalmoaa
open Go.RowKit Go.Maps
attribute [local go_sem ↓] exec_load exec_store exec_allocE exec_allocP exec_buildPl exec_buildP
attribute [local go_sem] BP_whole BP_slot BS_one BS_two

theorem mono_eq {W : World} {b n n' : Nat} {S S' : List Pl} (h : OwnsP W b n S) (hn : n ≤ n') (e : S = S') : OwnsP W b n' S' := by
  subst e
  exact World.ownsMap.mono h hn
theorem flat_le {α β : Type} (f : α → List β) (m : Nat) (hf : ∀ x, (f x).length ≤ m) : ∀ L : List α, (L.flatMap f).length ≤ m * L.length
  | [] => by simp
  | x :: L => by
    have h1 := hf x
    have h2 := flat_le f m hf L
    rw [List.flatMap_cons, List.length_append, List.length_cons, Nat.mul_add]
    omega
def wr2 (e : Ev) : List Pl := (writesOf e).reverse
set_option maxRecDepth 100000 in
set_option maxHeartbeats 16000000 in
theorem steps_loop (L : List Ev) (hL : ∀ x ∈ L, x.Ok) (hn : L.length ≤ 2000) (v : Value) (w : World) (hrow : EvRow w v L) :
    Calls Try.prog 9 #[v] w fun e w' => ∃ (u : Value) (f : Foot), e = .returned u ∧ FtVal w' u f ∧ Rises (L.flatMap readsOf) f.reads ∧ Rises (L.flatMap wr2) f.writes ∧ Below w.heap.size w w' := by
  obtain ⟨a, c, rfl, hc, h3⟩ := id hrow
  have HR := Lib.hid hrow
  have HL := Lib.hid hL
  clear hrow hL h3
  have hmm := @run_makeMap Try.prog
  go_enter Try.func9, Try.ntmps9
  go_wp2
  clear hmm
  go_loopw [14] (fun i wr => ∃ k : Nat, k ≤ L.length ∧ i = .int .i64 k ∧ MB w (w.heap.size + 1) (w.heap.size + 1 + 1) (2 * k) (2 * k) ((L.take k).flatMap readsOf) ((L.take k).flatMap wr2) wr) (fun i _ => L.length - (intOf i).toNat)
  case atStart =>
    refine ⟨0, by omega, rfl, ?_, ?_, below_a (below_a (below_a (Below.refl _ _) (by simp) _) (by simp) _) (by simp; omega) _, at_old (at_old (at_new _ _ rfl) _) _⟩
    · have h1 := World.ownsMap_made (H := Unit) (w.alloc (.cells #[.slice none 0 0, .slice none 0 0] 28)) Try.prog 50 Go.unitElem
      rw [World.size_alloc] at h1
      exact World.ownsMap.alloc h1 _
    · have h1 := World.ownsMap_made (H := Unit) ((w.alloc (.cells #[.slice none 0 0, .slice none 0 0] 28)).alloc (.map #[] 0)) Try.prog 50 Go.unitElem
      rw [World.size_alloc, World.size_alloc] at h1
      exact h1
  case round =>
    obtain ⟨k, hk, rfl, hmb⟩ := hrel
    by_cases hlt : k < L.length
    · obtain ⟨g, o, rfl, hg, hx⟩ := HR.out.at (by omega)
      obtain ⟨e, hek⟩ : ∃ e, L[k]? = some e := ⟨L[k], List.getElem?_eq_getElem hlt⟩
      have hok := HL.out e (List.mem_of_getElem? hek)
      have hsz : w.heap.size + 1 + 1 < wr.heap.size := World.ownsMap.lt hmb.m2
      have HSR := Lib.hid (show (L.take (k + 1)).flatMap readsOf = (L.take k).flatMap readsOf ++ readsOf e by rw [takeE_snoc L k e hek]; simp)
      have HSW := Lib.hid (show (L.take (k + 1)).flatMap wr2 = (L.take k).flatMap wr2 ++ (writesOf e).reverse by rw [takeE_snoc L k e hek]; simp [wr2])
      have f0 : LD 46 (.pointer (some ⟨g, o + k * 32, none⟩)) wr = .ok (evV e) wr := LD_ev (rangeAt_below (hx k e hek) hmb.below)
      generalize (L.take k).flatMap readsOf = S1 at *
      generalize (L.take k).flatMap wr2 = S2 at *
      obtain ⟨w1, w2, w3, ⟨f1, f2, f3, f4, f5, f6, f7, f8, hmb1⟩, hst⟩ := mstage hmb hok
      have HST := Lib.hid hst
      have HMB1 := Lib.hid hmb1
      have HOK := Lib.hid hok
      have HADDR := Lib.hid fun W => addr_calls e.arg W
      clear hst hmb1 hmb hx hek
      by_cases hfault : e.fault = 0
      · have HF := Lib.hid hfault
        rw [hfault] at f2
        clear hfault
        -- CASES
        have hnq := fun W => neW0 HOK.out.value W
        have hgd := fun op x y W => W_guard e.value #[.int .u64 0, .int .u64 0, .int .u64 0, .int .u64 0] op x y W
        rcases hv0 : decide (e.value = 0) with _ | _
        · have HV := Lib.hid (of_decide_eq_false hv0)
          rw [hv0] at hnq
          clear hv0
          go_wp2_with (go_at_call 16; refine (HADDR.out _).mono ?_; rintro e' w4 ⟨rfl, hb3⟩; obtain ⟨w5, g1, hmw, hz1, hz2, hz3, hz4⟩ := HST.out w4 hb3; obtain ⟨l1, l2, l3, l4, l5⟩ := hmw.loads; have HMW := Lib.hid hmw; clear hb3 hmw HST HADDR f0 f1 f2 f3 f4 f5 f6 f7 f8)
          · have hop : e.op = 84 := eq_of_beq (by assumption)
            go_wp2_with (go_at_call 17; refine (mapput_calls (S1) [slotP e] (w.heap.size + 1) (2 * k) _ _ (World.ownsMap.alloc HMW.out.toMB.m1 _) (by simp; omega) (put_range _ [slotP e]) (by omega) (by simp)).mono ?_; rintro e' X1 ⟨rfl, hown, hg⟩; obtain ⟨hmw, hz1⟩ := HMW.out.puts1 (by omega) (by omega) ⟨by omega, by omega, by omega, by omega⟩ [slotP e] hown hg; clear l1 l2 l3 l4 l5; obtain ⟨l1, l2, l3, l4, l5⟩ := hmw.loads; have H1 := Lib.hid hmw; clear hown hg hmw HMW)
            go_roundw
            case rel =>
              refine ⟨k + 1, by omega, by go_num, ⟨?_, ?_, H1.out.toMB.below, H1.out.toMB.res⟩⟩
              · have e1 : readsOf e = [slotP e] := by simp [readsOf, hop, HF.out]
                rw [HSR.out, e1]
                exact mono_eq H1.out.toMB.m1 (by first | omega | (simp; omega) | simp) (by simp)
              · have e2 : (writesOf e).reverse = [] := by simp [writesOf, hop, HF.out]
                rw [HSW.out, e2]
                exact mono_eq H1.out.toMB.m2 (by first | omega | (simp; omega) | simp) (by simp)
            case measure => simp [intOf]; omega
          · have hop : e.op = 85 := eq_of_beq (by assumption)
            go_wp2_with (go_at_call 17; refine (mapput_calls (S2) [slotP e] (w.heap.size + 1 + 1) (2 * k) _ _ (World.ownsMap.alloc HMW.out.toMB.m2 _) (by simp; omega) (put_range _ [slotP e]) (by omega) (by simp)).mono ?_; rintro e' X1 ⟨rfl, hown, hg⟩; obtain ⟨hmw, hz1⟩ := HMW.out.puts2 (by omega) (by omega) ⟨by omega, by omega, by omega, by omega⟩ [slotP e] hown hg; clear l1 l2 l3 l4 l5; obtain ⟨l1, l2, l3, l4, l5⟩ := hmw.loads; have H1 := Lib.hid hmw; clear hown hg hmw HMW)
            go_roundw
            case rel =>
              refine ⟨k + 1, by omega, by go_num, ⟨?_, ?_, H1.out.toMB.below, H1.out.toMB.res⟩⟩
              · have e1 : readsOf e = [] := by simp [readsOf, hop, HF.out]
                rw [HSR.out, e1]
                exact mono_eq H1.out.toMB.m1 (by first | omega | (simp; omega) | simp) (by simp)
              · have e2 : (writesOf e).reverse = [slotP e] := by simp [writesOf, hop, HF.out]
                rw [HSW.out, e2]
                exact mono_eq H1.out.toMB.m2 (by first | omega | (simp; omega) | simp) (by simp)
            case measure => simp [intOf]; omega
          · have hop : e.op = 49 := eq_of_beq (by assumption)
            go_wp2_with (go_at_call 17; refine (mapput_calls (S1) [argP e] (w.heap.size + 1) (2 * k) _ _ (World.ownsMap.alloc HMW.out.toMB.m1 _) (by simp; omega) (put_range _ [argP e]) (by omega) (by simp)).mono ?_; rintro e' X1 ⟨rfl, hown, hg⟩; obtain ⟨hmw, hz1⟩ := HMW.out.puts1 (by omega) (by omega) ⟨by omega, by omega, by omega, by omega⟩ [argP e] hown hg; clear l1 l2 l3 l4 l5; obtain ⟨l1, l2, l3, l4, l5⟩ := hmw.loads; have H1 := Lib.hid hmw; clear hown hg hmw HMW)
            go_roundw
            case rel =>
              refine ⟨k + 1, by omega, by go_num, ⟨?_, ?_, H1.out.toMB.below, H1.out.toMB.res⟩⟩
              · have e1 : readsOf e = [argP e] := by simp [readsOf, hop, HF.out]
                rw [HSR.out, e1]
                exact mono_eq H1.out.toMB.m1 (by first | omega | (simp; omega) | simp) (by simp)
              · have e2 : (writesOf e).reverse = [] := by simp [writesOf, hop, HF.out]
                rw [HSW.out, e2]
                exact mono_eq H1.out.toMB.m2 (by first | omega | (simp; omega) | simp) (by simp)
            case measure => simp [intOf]; omega
          · have hop : e.op = 59 := eq_of_beq (by assumption)
            go_wp2_with (go_at_call 17; refine (mapput_calls (S1) [argP e] (w.heap.size + 1) (2 * k) _ _ (World.ownsMap.alloc HMW.out.toMB.m1 _) (by simp; omega) (put_range _ [argP e]) (by omega) (by simp)).mono ?_; rintro e' X1 ⟨rfl, hown, hg⟩; obtain ⟨hmw, hz1⟩ := HMW.out.puts1 (by omega) (by omega) ⟨by omega, by omega, by omega, by omega⟩ [argP e] hown hg; clear l1 l2 l3 l4 l5; obtain ⟨l1, l2, l3, l4, l5⟩ := hmw.loads; have H1 := Lib.hid hmw; clear hown hg hmw HMW)
            go_roundw
            case rel =>
              refine ⟨k + 1, by omega, by go_num, ⟨?_, ?_, H1.out.toMB.below, H1.out.toMB.res⟩⟩
              · have e1 : readsOf e = [argP e] := by simp [readsOf, hop, HF.out]
                rw [HSR.out, e1]
                exact mono_eq H1.out.toMB.m1 (by first | omega | (simp; omega) | simp) (by simp)
              · have e2 : (writesOf e).reverse = [] := by simp [writesOf, hop, HF.out]
                rw [HSW.out, e2]
                exact mono_eq H1.out.toMB.m2 (by first | omega | (simp; omega) | simp) (by simp)
            case measure => simp [intOf]; omega
          · have hop : e.op = 60 := eq_of_beq (by assumption)
            go_wp2_with (go_at_call 17; refine (mapput_calls (S1) [argP e] (w.heap.size + 1) (2 * k) _ _ (World.ownsMap.alloc HMW.out.toMB.m1 _) (by simp; omega) (put_range _ [argP e]) (by omega) (by simp)).mono ?_; rintro e' X1 ⟨rfl, hown, hg⟩; obtain ⟨hmw, hz1⟩ := HMW.out.puts1 (by omega) (by omega) ⟨by omega, by omega, by omega, by omega⟩ [argP e] hown hg; clear l1 l2 l3 l4 l5; obtain ⟨l1, l2, l3, l4, l5⟩ := hmw.loads; have H1 := Lib.hid hmw; clear hown hg hmw HMW)
            go_roundw
            case rel =>
              refine ⟨k + 1, by omega, by go_num, ⟨?_, ?_, H1.out.toMB.below, H1.out.toMB.res⟩⟩
              · have e1 : readsOf e = [argP e] := by simp [readsOf, hop, HF.out]
                rw [HSR.out, e1]
                exact mono_eq H1.out.toMB.m1 (by first | omega | (simp; omega) | simp) (by simp)
              · have e2 : (writesOf e).reverse = [] := by simp [writesOf, hop, HF.out]
                rw [HSW.out, e2]
                exact mono_eq H1.out.toMB.m2 (by first | omega | (simp; omega) | simp) (by simp)
            case measure => simp [intOf]; omega
          · have hop : e.op = 63 := eq_of_beq (by assumption)
            go_wp2_with (go_at_call 17; refine (mapput_calls (S1) [argP e] (w.heap.size + 1) (2 * k) _ _ (World.ownsMap.alloc HMW.out.toMB.m1 _) (by simp; omega) (put_range _ [argP e]) (by omega) (by simp)).mono ?_; rintro e' X1 ⟨rfl, hown, hg⟩; obtain ⟨hmw, hz1⟩ := HMW.out.puts1 (by omega) (by omega) ⟨by omega, by omega, by omega, by omega⟩ [argP e] hown hg; clear l1 l2 l3 l4 l5; obtain ⟨l1, l2, l3, l4, l5⟩ := hmw.loads; have H1 := Lib.hid hmw; clear hown hg hmw HMW)
            go_roundw
            case rel =>
              refine ⟨k + 1, by omega, by go_num, ⟨?_, ?_, H1.out.toMB.below, H1.out.toMB.res⟩⟩
              · have e1 : readsOf e = [argP e] := by simp [readsOf, hop, HF.out]
                rw [HSR.out, e1]
                exact mono_eq H1.out.toMB.m1 (by first | omega | (simp; omega) | simp) (by simp)
              · have e2 : (writesOf e).reverse = [] := by simp [writesOf, hop, HF.out]
                rw [HSW.out, e2]
                exact mono_eq H1.out.toMB.m2 (by first | omega | (simp; omega) | simp) (by simp)
            case measure => simp [intOf]; omega
          · have hop : e.op = 71 := eq_of_beq (by assumption)
            go_wp2_with (go_at_call 17; refine (mapput_calls (S1) [selfP e] (w.heap.size + 1) (2 * k) _ _ (World.ownsMap.alloc HMW.out.toMB.m1 _) (by simp; omega) (put_range _ [selfP e]) (by omega) (by simp)).mono ?_; rintro e' X1 ⟨rfl, hown, hg⟩; obtain ⟨hmw, hz1⟩ := HMW.out.puts1 (by omega) (by omega) ⟨by omega, by omega, by omega, by omega⟩ [selfP e] hown hg; clear l1 l2 l3 l4 l5; obtain ⟨l1, l2, l3, l4, l5⟩ := hmw.loads; have H1 := Lib.hid hmw; clear hown hg hmw HMW)
            go_roundw
            case rel =>
              refine ⟨k + 1, by omega, by go_num, ⟨?_, ?_, H1.out.toMB.below, H1.out.toMB.res⟩⟩
              · have e1 : readsOf e = [selfP e] := by simp [readsOf, hop, HF.out]
                rw [HSR.out, e1]
                exact mono_eq H1.out.toMB.m1 (by first | omega | (simp; omega) | simp) (by simp)
              · have e2 : (writesOf e).reverse = [] := by simp [writesOf, hop, HF.out]
                rw [HSW.out, e2]
                exact mono_eq H1.out.toMB.m2 (by first | omega | (simp; omega) | simp) (by simp)
            case measure => simp [intOf]; omega
          · have hop : e.op = 240 := eq_of_beq (by assumption)
            go_wp2_with (go_at_call 17; refine (mapput_calls (S2) [selfP e, argP e] (w.heap.size + 1 + 1) (2 * k) _ _ (World.ownsMap.alloc HMW.out.toMB.m2 _) (by simp; omega) (put_range _ [selfP e, argP e]) (by omega) (by simp)).mono ?_; rintro e' X1 ⟨rfl, hown, hg⟩; obtain ⟨hmw, hz1⟩ := HMW.out.puts2 (by omega) (by omega) ⟨by omega, by omega, by omega, by omega⟩ [selfP e, argP e] hown hg; clear l1 l2 l3 l4 l5; obtain ⟨l1, l2, l3, l4, l5⟩ := hmw.loads; have H1 := Lib.hid hmw; clear hown hg hmw HMW)
            go_roundw
            case rel =>
              refine ⟨k + 1, by omega, by go_num, ⟨?_, ?_, H1.out.toMB.below, H1.out.toMB.res⟩⟩
              · have e1 : readsOf e = [] := by simp [readsOf, hop, HF.out]
                rw [HSR.out, e1]
                exact mono_eq H1.out.toMB.m1 (by first | omega | (simp; omega) | simp) (by simp)
              · have e2 : (writesOf e).reverse = [selfP e, argP e] := by simp [writesOf, hop, HF.out]
                rw [HSW.out, e2]
                exact mono_eq H1.out.toMB.m2 (by first | omega | (simp; omega) | simp) (by simp)
            case measure => simp [intOf]; omega
          · have hop : e.op = 245 := eq_of_beq (by assumption)
            go_wp2_with (go_at_call 17; refine (mapput_calls (S2) [selfP e, argP e] (w.heap.size + 1 + 1) (2 * k) _ _ (World.ownsMap.alloc HMW.out.toMB.m2 _) (by simp; omega) (put_range _ [selfP e, argP e]) (by omega) (by simp)).mono ?_; rintro e' X1 ⟨rfl, hown, hg⟩; obtain ⟨hmw, hz1⟩ := HMW.out.puts2 (by omega) (by omega) ⟨by omega, by omega, by omega, by omega⟩ [selfP e, argP e] hown hg; clear l1 l2 l3 l4 l5; obtain ⟨l1, l2, l3, l4, l5⟩ := hmw.loads; have H1 := Lib.hid hmw; clear hown hg hmw HMW)
            go_roundw
            case rel =>
              refine ⟨k + 1, by omega, by go_num, ⟨?_, ?_, H1.out.toMB.below, H1.out.toMB.res⟩⟩
              · have e1 : readsOf e = [] := by simp [readsOf, hop, HF.out]
                rw [HSR.out, e1]
                exact mono_eq H1.out.toMB.m1 (by first | omega | (simp; omega) | simp) (by simp)
              · have e2 : (writesOf e).reverse = [selfP e, argP e] := by simp [writesOf, hop, HF.out]
                rw [HSW.out, e2]
                exact mono_eq H1.out.toMB.m2 (by first | omega | (simp; omega) | simp) (by simp)
            case measure => simp [intOf]; omega
          · have hop : e.op = 255 := eq_of_beq (by assumption)
            go_wp2_with (go_at_call 17; refine (mapput_calls (S2) [selfP e, argP e] (w.heap.size + 1 + 1) (2 * k) _ _ (World.ownsMap.alloc HMW.out.toMB.m2 _) (by simp; omega) (put_range _ [selfP e, argP e]) (by omega) (by simp)).mono ?_; rintro e' X1 ⟨rfl, hown, hg⟩; obtain ⟨hmw, hz1⟩ := HMW.out.puts2 (by omega) (by omega) ⟨by omega, by omega, by omega, by omega⟩ [selfP e, argP e] hown hg; clear l1 l2 l3 l4 l5; obtain ⟨l1, l2, l3, l4, l5⟩ := hmw.loads; have H1 := Lib.hid hmw; clear hown hg hmw HMW)
            go_roundw
            case rel =>
              refine ⟨k + 1, by omega, by go_num, ⟨?_, ?_, H1.out.toMB.below, H1.out.toMB.res⟩⟩
              · have e1 : readsOf e = [] := by simp [readsOf, hop, HF.out]
                rw [HSR.out, e1]
                exact mono_eq H1.out.toMB.m1 (by first | omega | (simp; omega) | simp) (by simp)
              · have e2 : (writesOf e).reverse = [selfP e, argP e] := by simp [writesOf, hop, HF.out]
                rw [HSW.out, e2]
                exact mono_eq H1.out.toMB.m2 (by first | omega | (simp; omega) | simp) (by simp)
            case measure => simp [intOf]; omega
          · have hop : e.op = 241 := eq_of_beq (by assumption)
            go_wp2_with (go_at_call 17; refine (mapput_calls (S1) [argP e] (w.heap.size + 1) (2 * k) _ _ (World.ownsMap.alloc HMW.out.toMB.m1 _) (by simp; omega) (put_range _ [argP e]) (by omega) (by simp)).mono ?_; rintro e' X1 ⟨rfl, hown, hg⟩; obtain ⟨hmw, hz1⟩ := HMW.out.puts1 (by omega) (by omega) ⟨by omega, by omega, by omega, by omega⟩ [argP e] hown hg; clear l1 l2 l3 l4 l5; obtain ⟨l1, l2, l3, l4, l5⟩ := hmw.loads; have H1 := Lib.hid hmw; clear hown hg hmw HMW)
            go_wp2_with (go_at_call 17; refine (mapput_calls (S2) [selfP e, argP e] (w.heap.size + 1 + 1) (2 * k) _ _ (World.ownsMap.alloc H1.out.toMB.m2 _) (by simp; omega) (put_range _ [selfP e, argP e]) (by omega) (by simp)).mono ?_; rintro e' X2 ⟨rfl, hown, hg⟩; obtain ⟨hmw, hz2⟩ := H1.out.puts2 (by omega) (by omega) ⟨by omega, by omega, by omega, by omega⟩ [selfP e, argP e] hown hg; clear l1 l2 l3 l4 l5; obtain ⟨l1, l2, l3, l4, l5⟩ := hmw.loads; have H2 := Lib.hid hmw; clear hown hg hmw H1)
            go_roundw
            case rel =>
              refine ⟨k + 1, by omega, by go_num, ⟨?_, ?_, H2.out.toMB.below, H2.out.toMB.res⟩⟩
              · have e1 : readsOf e = [argP e] := by simp [readsOf, hop, HF.out, HV.out]
                rw [HSR.out, e1]
                exact mono_eq H2.out.toMB.m1 (by first | omega | (simp; omega) | simp) (by simp)
              · have e2 : (writesOf e).reverse = [selfP e, argP e] := by simp [writesOf, hop, HF.out, HV.out]
                rw [HSW.out, e2]
                exact mono_eq H2.out.toMB.m2 (by first | omega | (simp; omega) | simp) (by simp)
            case measure => simp [intOf]; omega
          · have hop : e.op = 242 := eq_of_beq (by assumption)
            go_wp2_with (go_at_call 17; refine (mapput_calls (S1) [argP e] (w.heap.size + 1) (2 * k) _ _ (World.ownsMap.alloc HMW.out.toMB.m1 _) (by simp; omega) (put_range _ [argP e]) (by omega) (by simp)).mono ?_; rintro e' X1 ⟨rfl, hown, hg⟩; obtain ⟨hmw, hz1⟩ := HMW.out.puts1 (by omega) (by omega) ⟨by omega, by omega, by omega, by omega⟩ [argP e] hown hg; clear l1 l2 l3 l4 l5; obtain ⟨l1, l2, l3, l4, l5⟩ := hmw.loads; have H1 := Lib.hid hmw; clear hown hg hmw HMW)
            go_wp2_with (go_at_call 17; refine (mapput_calls (S2) [selfP e, argP e] (w.heap.size + 1 + 1) (2 * k) _ _ (World.ownsMap.alloc H1.out.toMB.m2 _) (by simp; omega) (put_range _ [selfP e, argP e]) (by omega) (by simp)).mono ?_; rintro e' X2 ⟨rfl, hown, hg⟩; obtain ⟨hmw, hz2⟩ := H1.out.puts2 (by omega) (by omega) ⟨by omega, by omega, by omega, by omega⟩ [selfP e, argP e] hown hg; clear l1 l2 l3 l4 l5; obtain ⟨l1, l2, l3, l4, l5⟩ := hmw.loads; have H2 := Lib.hid hmw; clear hown hg hmw H1)
            go_roundw
            case rel =>
              refine ⟨k + 1, by omega, by go_num, ⟨?_, ?_, H2.out.toMB.below, H2.out.toMB.res⟩⟩
              · have e1 : readsOf e = [argP e] := by simp [readsOf, hop, HF.out, HV.out]
                rw [HSR.out, e1]
                exact mono_eq H2.out.toMB.m1 (by first | omega | (simp; omega) | simp) (by simp)
              · have e2 : (writesOf e).reverse = [selfP e, argP e] := by simp [writesOf, hop, HF.out, HV.out]
                rw [HSW.out, e2]
                exact mono_eq H2.out.toMB.m2 (by first | omega | (simp; omega) | simp) (by simp)
            case measure => simp [intOf]; omega
          · have hop : e.op = 244 := eq_of_beq (by assumption)
            go_wp2_with (go_at_call 17; refine (mapput_calls (S1) [argP e] (w.heap.size + 1) (2 * k) _ _ (World.ownsMap.alloc HMW.out.toMB.m1 _) (by simp; omega) (put_range _ [argP e]) (by omega) (by simp)).mono ?_; rintro e' X1 ⟨rfl, hown, hg⟩; obtain ⟨hmw, hz1⟩ := HMW.out.puts1 (by omega) (by omega) ⟨by omega, by omega, by omega, by omega⟩ [argP e] hown hg; clear l1 l2 l3 l4 l5; obtain ⟨l1, l2, l3, l4, l5⟩ := hmw.loads; have H1 := Lib.hid hmw; clear hown hg hmw HMW)
            go_wp2_with (go_at_call 17; refine (mapput_calls (S2) [selfP e, argP e] (w.heap.size + 1 + 1) (2 * k) _ _ (World.ownsMap.alloc H1.out.toMB.m2 _) (by simp; omega) (put_range _ [selfP e, argP e]) (by omega) (by simp)).mono ?_; rintro e' X2 ⟨rfl, hown, hg⟩; obtain ⟨hmw, hz2⟩ := H1.out.puts2 (by omega) (by omega) ⟨by omega, by omega, by omega, by omega⟩ [selfP e, argP e] hown hg; clear l1 l2 l3 l4 l5; obtain ⟨l1, l2, l3, l4, l5⟩ := hmw.loads; have H2 := Lib.hid hmw; clear hown hg hmw H1)
            go_roundw
            case rel =>
              refine ⟨k + 1, by omega, by go_num, ⟨?_, ?_, H2.out.toMB.below, H2.out.toMB.res⟩⟩
              · have e1 : readsOf e = [argP e] := by simp [readsOf, hop, HF.out, HV.out]
                rw [HSR.out, e1]
                exact mono_eq H2.out.toMB.m1 (by first | omega | (simp; omega) | simp) (by simp)
              · have e2 : (writesOf e).reverse = [selfP e, argP e] := by simp [writesOf, hop, HF.out, HV.out]
                rw [HSW.out, e2]
                exact mono_eq H2.out.toMB.m2 (by first | omega | (simp; omega) | simp) (by simp)
            case measure => simp [intOf]; omega
          · have hop : e.op = 250 := eq_of_beq (by assumption)
            go_wp2_with (go_at_call 17; refine (mapput_calls (S1) [argP e] (w.heap.size + 1) (2 * k) _ _ (World.ownsMap.alloc HMW.out.toMB.m1 _) (by simp; omega) (put_range _ [argP e]) (by omega) (by simp)).mono ?_; rintro e' X1 ⟨rfl, hown, hg⟩; obtain ⟨hmw, hz1⟩ := HMW.out.puts1 (by omega) (by omega) ⟨by omega, by omega, by omega, by omega⟩ [argP e] hown hg; clear l1 l2 l3 l4 l5; obtain ⟨l1, l2, l3, l4, l5⟩ := hmw.loads; have H1 := Lib.hid hmw; clear hown hg hmw HMW)
            go_wp2_with (go_at_call 17; refine (mapput_calls (S2) [selfP e, argP e] (w.heap.size + 1 + 1) (2 * k) _ _ (World.ownsMap.alloc H1.out.toMB.m2 _) (by simp; omega) (put_range _ [selfP e, argP e]) (by omega) (by simp)).mono ?_; rintro e' X2 ⟨rfl, hown, hg⟩; obtain ⟨hmw, hz2⟩ := H1.out.puts2 (by omega) (by omega) ⟨by omega, by omega, by omega, by omega⟩ [selfP e, argP e] hown hg; clear l1 l2 l3 l4 l5; obtain ⟨l1, l2, l3, l4, l5⟩ := hmw.loads; have H2 := Lib.hid hmw; clear hown hg hmw H1)
            go_roundw
            case rel =>
              refine ⟨k + 1, by omega, by go_num, ⟨?_, ?_, H2.out.toMB.below, H2.out.toMB.res⟩⟩
              · have e1 : readsOf e = [argP e] := by simp [readsOf, hop, HF.out, HV.out]
                rw [HSR.out, e1]
                exact mono_eq H2.out.toMB.m1 (by first | omega | (simp; omega) | simp) (by simp)
              · have e2 : (writesOf e).reverse = [selfP e, argP e] := by simp [writesOf, hop, HF.out, HV.out]
                rw [HSW.out, e2]
                exact mono_eq H2.out.toMB.m2 (by first | omega | (simp; omega) | simp) (by simp)
            case measure => simp [intOf]; omega
          · have n84 := beq_eq_false_iff_ne.1 (show (e.op == 84) = false by assumption)
            have n85 := beq_eq_false_iff_ne.1 (show (e.op == 85) = false by assumption)
            have n49 := beq_eq_false_iff_ne.1 (show (e.op == 49) = false by assumption)
            have n59 := beq_eq_false_iff_ne.1 (show (e.op == 59) = false by assumption)
            have n60 := beq_eq_false_iff_ne.1 (show (e.op == 60) = false by assumption)
            have n63 := beq_eq_false_iff_ne.1 (show (e.op == 63) = false by assumption)
            have n71 := beq_eq_false_iff_ne.1 (show (e.op == 71) = false by assumption)
            have n240 := beq_eq_false_iff_ne.1 (show (e.op == 240) = false by assumption)
            have n245 := beq_eq_false_iff_ne.1 (show (e.op == 245) = false by assumption)
            have n255 := beq_eq_false_iff_ne.1 (show (e.op == 255) = false by assumption)
            have n241 := beq_eq_false_iff_ne.1 (show (e.op == 241) = false by assumption)
            have n242 := beq_eq_false_iff_ne.1 (show (e.op == 242) = false by assumption)
            have n244 := beq_eq_false_iff_ne.1 (show (e.op == 244) = false by assumption)
            have n250 := beq_eq_false_iff_ne.1 (show (e.op == 250) = false by assumption)
            go_roundw
            case rel =>
              refine ⟨k + 1, by omega, by go_num, ⟨?_, ?_, HMW.out.toMB.below, HMW.out.toMB.res⟩⟩
              · have e1 : readsOf e = [] := by simp [readsOf, HF.out, n84, n85, n49, n59, n60, n63, n71, n240, n245, n255, n241, n242, n244, n250]
                rw [HSR.out, e1]
                exact mono_eq HMW.out.toMB.m1 (by first | omega | (simp; omega) | simp) (by simp)
              · have e2 : (writesOf e).reverse = [] := by simp [writesOf, HF.out, n84, n85, n49, n59, n60, n63, n71, n240, n245, n255, n241, n242, n244, n250]
                rw [HSW.out, e2]
                exact mono_eq HMW.out.toMB.m2 (by first | omega | (simp; omega) | simp) (by simp)
            case measure => simp [intOf]; omega
        · have HV := Lib.hid (of_decide_eq_true hv0)
          rw [hv0] at hnq
          clear hv0
          go_wp2_with (go_at_call 16; refine (HADDR.out _).mono ?_; rintro e' w4 ⟨rfl, hb3⟩; obtain ⟨w5, g1, hmw, hz1, hz2, hz3, hz4⟩ := HST.out w4 hb3; obtain ⟨l1, l2, l3, l4, l5⟩ := hmw.loads; have HMW := Lib.hid hmw; clear hb3 hmw HST HADDR f0 f1 f2 f3 f4 f5 f6 f7 f8)
          · have hop : e.op = 84 := eq_of_beq (by assumption)
            go_wp2_with (go_at_call 17; refine (mapput_calls (S1) [slotP e] (w.heap.size + 1) (2 * k) _ _ (World.ownsMap.alloc HMW.out.toMB.m1 _) (by simp; omega) (put_range _ [slotP e]) (by omega) (by simp)).mono ?_; rintro e' X1 ⟨rfl, hown, hg⟩; obtain ⟨hmw, hz1⟩ := HMW.out.puts1 (by omega) (by omega) ⟨by omega, by omega, by omega, by omega⟩ [slotP e] hown hg; clear l1 l2 l3 l4 l5; obtain ⟨l1, l2, l3, l4, l5⟩ := hmw.loads; have H1 := Lib.hid hmw; clear hown hg hmw HMW)
            go_roundw
            case rel =>
              refine ⟨k + 1, by omega, by go_num, ⟨?_, ?_, H1.out.toMB.below, H1.out.toMB.res⟩⟩
              · have e1 : readsOf e = [slotP e] := by simp [readsOf, hop, HF.out]
                rw [HSR.out, e1]
                exact mono_eq H1.out.toMB.m1 (by first | omega | (simp; omega) | simp) (by simp)
              · have e2 : (writesOf e).reverse = [] := by simp [writesOf, hop, HF.out]
                rw [HSW.out, e2]
                exact mono_eq H1.out.toMB.m2 (by first | omega | (simp; omega) | simp) (by simp)
            case measure => simp [intOf]; omega
          · have hop : e.op = 85 := eq_of_beq (by assumption)
            go_wp2_with (go_at_call 17; refine (mapput_calls (S2) [slotP e] (w.heap.size + 1 + 1) (2 * k) _ _ (World.ownsMap.alloc HMW.out.toMB.m2 _) (by simp; omega) (put_range _ [slotP e]) (by omega) (by simp)).mono ?_; rintro e' X1 ⟨rfl, hown, hg⟩; obtain ⟨hmw, hz1⟩ := HMW.out.puts2 (by omega) (by omega) ⟨by omega, by omega, by omega, by omega⟩ [slotP e] hown hg; clear l1 l2 l3 l4 l5; obtain ⟨l1, l2, l3, l4, l5⟩ := hmw.loads; have H1 := Lib.hid hmw; clear hown hg hmw HMW)
            go_roundw
            case rel =>
              refine ⟨k + 1, by omega, by go_num, ⟨?_, ?_, H1.out.toMB.below, H1.out.toMB.res⟩⟩
              · have e1 : readsOf e = [] := by simp [readsOf, hop, HF.out]
                rw [HSR.out, e1]
                exact mono_eq H1.out.toMB.m1 (by first | omega | (simp; omega) | simp) (by simp)
              · have e2 : (writesOf e).reverse = [slotP e] := by simp [writesOf, hop, HF.out]
                rw [HSW.out, e2]
                exact mono_eq H1.out.toMB.m2 (by first | omega | (simp; omega) | simp) (by simp)
            case measure => simp [intOf]; omega
          · have hop : e.op = 49 := eq_of_beq (by assumption)
            go_wp2_with (go_at_call 17; refine (mapput_calls (S1) [argP e] (w.heap.size + 1) (2 * k) _ _ (World.ownsMap.alloc HMW.out.toMB.m1 _) (by simp; omega) (put_range _ [argP e]) (by omega) (by simp)).mono ?_; rintro e' X1 ⟨rfl, hown, hg⟩; obtain ⟨hmw, hz1⟩ := HMW.out.puts1 (by omega) (by omega) ⟨by omega, by omega, by omega, by omega⟩ [argP e] hown hg; clear l1 l2 l3 l4 l5; obtain ⟨l1, l2, l3, l4, l5⟩ := hmw.loads; have H1 := Lib.hid hmw; clear hown hg hmw HMW)
            go_roundw
            case rel =>
              refine ⟨k + 1, by omega, by go_num, ⟨?_, ?_, H1.out.toMB.below, H1.out.toMB.res⟩⟩
              · have e1 : readsOf e = [argP e] := by simp [readsOf, hop, HF.out]
                rw [HSR.out, e1]
                exact mono_eq H1.out.toMB.m1 (by first | omega | (simp; omega) | simp) (by simp)
              · have e2 : (writesOf e).reverse = [] := by simp [writesOf, hop, HF.out]
                rw [HSW.out, e2]
                exact mono_eq H1.out.toMB.m2 (by first | omega | (simp; omega) | simp) (by simp)
            case measure => simp [intOf]; omega
          · have hop : e.op = 59 := eq_of_beq (by assumption)
            go_wp2_with (go_at_call 17; refine (mapput_calls (S1) [argP e] (w.heap.size + 1) (2 * k) _ _ (World.ownsMap.alloc HMW.out.toMB.m1 _) (by simp; omega) (put_range _ [argP e]) (by omega) (by simp)).mono ?_; rintro e' X1 ⟨rfl, hown, hg⟩; obtain ⟨hmw, hz1⟩ := HMW.out.puts1 (by omega) (by omega) ⟨by omega, by omega, by omega, by omega⟩ [argP e] hown hg; clear l1 l2 l3 l4 l5; obtain ⟨l1, l2, l3, l4, l5⟩ := hmw.loads; have H1 := Lib.hid hmw; clear hown hg hmw HMW)
            go_roundw
            case rel =>
              refine ⟨k + 1, by omega, by go_num, ⟨?_, ?_, H1.out.toMB.below, H1.out.toMB.res⟩⟩
              · have e1 : readsOf e = [argP e] := by simp [readsOf, hop, HF.out]
                rw [HSR.out, e1]
                exact mono_eq H1.out.toMB.m1 (by first | omega | (simp; omega) | simp) (by simp)
              · have e2 : (writesOf e).reverse = [] := by simp [writesOf, hop, HF.out]
                rw [HSW.out, e2]
                exact mono_eq H1.out.toMB.m2 (by first | omega | (simp; omega) | simp) (by simp)
            case measure => simp [intOf]; omega
          · have hop : e.op = 60 := eq_of_beq (by assumption)
            go_wp2_with (go_at_call 17; refine (mapput_calls (S1) [argP e] (w.heap.size + 1) (2 * k) _ _ (World.ownsMap.alloc HMW.out.toMB.m1 _) (by simp; omega) (put_range _ [argP e]) (by omega) (by simp)).mono ?_; rintro e' X1 ⟨rfl, hown, hg⟩; obtain ⟨hmw, hz1⟩ := HMW.out.puts1 (by omega) (by omega) ⟨by omega, by omega, by omega, by omega⟩ [argP e] hown hg; clear l1 l2 l3 l4 l5; obtain ⟨l1, l2, l3, l4, l5⟩ := hmw.loads; have H1 := Lib.hid hmw; clear hown hg hmw HMW)
            go_roundw
            case rel =>
              refine ⟨k + 1, by omega, by go_num, ⟨?_, ?_, H1.out.toMB.below, H1.out.toMB.res⟩⟩
              · have e1 : readsOf e = [argP e] := by simp [readsOf, hop, HF.out]
                rw [HSR.out, e1]
                exact mono_eq H1.out.toMB.m1 (by first | omega | (simp; omega) | simp) (by simp)
              · have e2 : (writesOf e).reverse = [] := by simp [writesOf, hop, HF.out]
                rw [HSW.out, e2]
                exact mono_eq H1.out.toMB.m2 (by first | omega | (simp; omega) | simp) (by simp)
            case measure => simp [intOf]; omega
          · have hop : e.op = 63 := eq_of_beq (by assumption)
            go_wp2_with (go_at_call 17; refine (mapput_calls (S1) [argP e] (w.heap.size + 1) (2 * k) _ _ (World.ownsMap.alloc HMW.out.toMB.m1 _) (by simp; omega) (put_range _ [argP e]) (by omega) (by simp)).mono ?_; rintro e' X1 ⟨rfl, hown, hg⟩; obtain ⟨hmw, hz1⟩ := HMW.out.puts1 (by omega) (by omega) ⟨by omega, by omega, by omega, by omega⟩ [argP e] hown hg; clear l1 l2 l3 l4 l5; obtain ⟨l1, l2, l3, l4, l5⟩ := hmw.loads; have H1 := Lib.hid hmw; clear hown hg hmw HMW)
            go_roundw
            case rel =>
              refine ⟨k + 1, by omega, by go_num, ⟨?_, ?_, H1.out.toMB.below, H1.out.toMB.res⟩⟩
              · have e1 : readsOf e = [argP e] := by simp [readsOf, hop, HF.out]
                rw [HSR.out, e1]
                exact mono_eq H1.out.toMB.m1 (by first | omega | (simp; omega) | simp) (by simp)
              · have e2 : (writesOf e).reverse = [] := by simp [writesOf, hop, HF.out]
                rw [HSW.out, e2]
                exact mono_eq H1.out.toMB.m2 (by first | omega | (simp; omega) | simp) (by simp)
            case measure => simp [intOf]; omega
          · have hop : e.op = 71 := eq_of_beq (by assumption)
            go_wp2_with (go_at_call 17; refine (mapput_calls (S1) [selfP e] (w.heap.size + 1) (2 * k) _ _ (World.ownsMap.alloc HMW.out.toMB.m1 _) (by simp; omega) (put_range _ [selfP e]) (by omega) (by simp)).mono ?_; rintro e' X1 ⟨rfl, hown, hg⟩; obtain ⟨hmw, hz1⟩ := HMW.out.puts1 (by omega) (by omega) ⟨by omega, by omega, by omega, by omega⟩ [selfP e] hown hg; clear l1 l2 l3 l4 l5; obtain ⟨l1, l2, l3, l4, l5⟩ := hmw.loads; have H1 := Lib.hid hmw; clear hown hg hmw HMW)
            go_roundw
            case rel =>
              refine ⟨k + 1, by omega, by go_num, ⟨?_, ?_, H1.out.toMB.below, H1.out.toMB.res⟩⟩
              · have e1 : readsOf e = [selfP e] := by simp [readsOf, hop, HF.out]
                rw [HSR.out, e1]
                exact mono_eq H1.out.toMB.m1 (by first | omega | (simp; omega) | simp) (by simp)
              · have e2 : (writesOf e).reverse = [] := by simp [writesOf, hop, HF.out]
                rw [HSW.out, e2]
                exact mono_eq H1.out.toMB.m2 (by first | omega | (simp; omega) | simp) (by simp)
            case measure => simp [intOf]; omega
          · have hop : e.op = 240 := eq_of_beq (by assumption)
            go_wp2_with (go_at_call 17; refine (mapput_calls (S2) [selfP e, argP e] (w.heap.size + 1 + 1) (2 * k) _ _ (World.ownsMap.alloc HMW.out.toMB.m2 _) (by simp; omega) (put_range _ [selfP e, argP e]) (by omega) (by simp)).mono ?_; rintro e' X1 ⟨rfl, hown, hg⟩; obtain ⟨hmw, hz1⟩ := HMW.out.puts2 (by omega) (by omega) ⟨by omega, by omega, by omega, by omega⟩ [selfP e, argP e] hown hg; clear l1 l2 l3 l4 l5; obtain ⟨l1, l2, l3, l4, l5⟩ := hmw.loads; have H1 := Lib.hid hmw; clear hown hg hmw HMW)
            go_roundw
            case rel =>
              refine ⟨k + 1, by omega, by go_num, ⟨?_, ?_, H1.out.toMB.below, H1.out.toMB.res⟩⟩
              · have e1 : readsOf e = [] := by simp [readsOf, hop, HF.out]
                rw [HSR.out, e1]
                exact mono_eq H1.out.toMB.m1 (by first | omega | (simp; omega) | simp) (by simp)
              · have e2 : (writesOf e).reverse = [selfP e, argP e] := by simp [writesOf, hop, HF.out]
                rw [HSW.out, e2]
                exact mono_eq H1.out.toMB.m2 (by first | omega | (simp; omega) | simp) (by simp)
            case measure => simp [intOf]; omega
          · have hop : e.op = 245 := eq_of_beq (by assumption)
            go_wp2_with (go_at_call 17; refine (mapput_calls (S2) [selfP e, argP e] (w.heap.size + 1 + 1) (2 * k) _ _ (World.ownsMap.alloc HMW.out.toMB.m2 _) (by simp; omega) (put_range _ [selfP e, argP e]) (by omega) (by simp)).mono ?_; rintro e' X1 ⟨rfl, hown, hg⟩; obtain ⟨hmw, hz1⟩ := HMW.out.puts2 (by omega) (by omega) ⟨by omega, by omega, by omega, by omega⟩ [selfP e, argP e] hown hg; clear l1 l2 l3 l4 l5; obtain ⟨l1, l2, l3, l4, l5⟩ := hmw.loads; have H1 := Lib.hid hmw; clear hown hg hmw HMW)
            go_roundw
            case rel =>
              refine ⟨k + 1, by omega, by go_num, ⟨?_, ?_, H1.out.toMB.below, H1.out.toMB.res⟩⟩
              · have e1 : readsOf e = [] := by simp [readsOf, hop, HF.out]
                rw [HSR.out, e1]
                exact mono_eq H1.out.toMB.m1 (by first | omega | (simp; omega) | simp) (by simp)
              · have e2 : (writesOf e).reverse = [selfP e, argP e] := by simp [writesOf, hop, HF.out]
                rw [HSW.out, e2]
                exact mono_eq H1.out.toMB.m2 (by first | omega | (simp; omega) | simp) (by simp)
            case measure => simp [intOf]; omega
          · have hop : e.op = 255 := eq_of_beq (by assumption)
            go_wp2_with (go_at_call 17; refine (mapput_calls (S2) [selfP e, argP e] (w.heap.size + 1 + 1) (2 * k) _ _ (World.ownsMap.alloc HMW.out.toMB.m2 _) (by simp; omega) (put_range _ [selfP e, argP e]) (by omega) (by simp)).mono ?_; rintro e' X1 ⟨rfl, hown, hg⟩; obtain ⟨hmw, hz1⟩ := HMW.out.puts2 (by omega) (by omega) ⟨by omega, by omega, by omega, by omega⟩ [selfP e, argP e] hown hg; clear l1 l2 l3 l4 l5; obtain ⟨l1, l2, l3, l4, l5⟩ := hmw.loads; have H1 := Lib.hid hmw; clear hown hg hmw HMW)
            go_roundw
            case rel =>
              refine ⟨k + 1, by omega, by go_num, ⟨?_, ?_, H1.out.toMB.below, H1.out.toMB.res⟩⟩
              · have e1 : readsOf e = [] := by simp [readsOf, hop, HF.out]
                rw [HSR.out, e1]
                exact mono_eq H1.out.toMB.m1 (by first | omega | (simp; omega) | simp) (by simp)
              · have e2 : (writesOf e).reverse = [selfP e, argP e] := by simp [writesOf, hop, HF.out]
                rw [HSW.out, e2]
                exact mono_eq H1.out.toMB.m2 (by first | omega | (simp; omega) | simp) (by simp)
            case measure => simp [intOf]; omega
          · have hop : e.op = 241 := eq_of_beq (by assumption)
            go_wp2_with (go_at_call 17; refine (mapput_calls (S1) [argP e] (w.heap.size + 1) (2 * k) _ _ (World.ownsMap.alloc HMW.out.toMB.m1 _) (by simp; omega) (put_range _ [argP e]) (by omega) (by simp)).mono ?_; rintro e' X1 ⟨rfl, hown, hg⟩; obtain ⟨hmw, hz1⟩ := HMW.out.puts1 (by omega) (by omega) ⟨by omega, by omega, by omega, by omega⟩ [argP e] hown hg; clear l1 l2 l3 l4 l5; obtain ⟨l1, l2, l3, l4, l5⟩ := hmw.loads; have H1 := Lib.hid hmw; clear hown hg hmw HMW)
            go_roundw
            case rel =>
              refine ⟨k + 1, by omega, by go_num, ⟨?_, ?_, H1.out.toMB.below, H1.out.toMB.res⟩⟩
              · have e1 : readsOf e = [argP e] := by simp [readsOf, hop, HF.out, HV.out]
                rw [HSR.out, e1]
                exact mono_eq H1.out.toMB.m1 (by first | omega | (simp; omega) | simp) (by simp)
              · have e2 : (writesOf e).reverse = [] := by simp [writesOf, hop, HF.out, HV.out]
                rw [HSW.out, e2]
                exact mono_eq H1.out.toMB.m2 (by first | omega | (simp; omega) | simp) (by simp)
            case measure => simp [intOf]; omega
          · have hop : e.op = 242 := eq_of_beq (by assumption)
            go_wp2_with (go_at_call 17; refine (mapput_calls (S1) [argP e] (w.heap.size + 1) (2 * k) _ _ (World.ownsMap.alloc HMW.out.toMB.m1 _) (by simp; omega) (put_range _ [argP e]) (by omega) (by simp)).mono ?_; rintro e' X1 ⟨rfl, hown, hg⟩; obtain ⟨hmw, hz1⟩ := HMW.out.puts1 (by omega) (by omega) ⟨by omega, by omega, by omega, by omega⟩ [argP e] hown hg; clear l1 l2 l3 l4 l5; obtain ⟨l1, l2, l3, l4, l5⟩ := hmw.loads; have H1 := Lib.hid hmw; clear hown hg hmw HMW)
            go_roundw
            case rel =>
              refine ⟨k + 1, by omega, by go_num, ⟨?_, ?_, H1.out.toMB.below, H1.out.toMB.res⟩⟩
              · have e1 : readsOf e = [argP e] := by simp [readsOf, hop, HF.out, HV.out]
                rw [HSR.out, e1]
                exact mono_eq H1.out.toMB.m1 (by first | omega | (simp; omega) | simp) (by simp)
              · have e2 : (writesOf e).reverse = [] := by simp [writesOf, hop, HF.out, HV.out]
                rw [HSW.out, e2]
                exact mono_eq H1.out.toMB.m2 (by first | omega | (simp; omega) | simp) (by simp)
            case measure => simp [intOf]; omega
          · have hop : e.op = 244 := eq_of_beq (by assumption)
            go_wp2_with (go_at_call 17; refine (mapput_calls (S1) [argP e] (w.heap.size + 1) (2 * k) _ _ (World.ownsMap.alloc HMW.out.toMB.m1 _) (by simp; omega) (put_range _ [argP e]) (by omega) (by simp)).mono ?_; rintro e' X1 ⟨rfl, hown, hg⟩; obtain ⟨hmw, hz1⟩ := HMW.out.puts1 (by omega) (by omega) ⟨by omega, by omega, by omega, by omega⟩ [argP e] hown hg; clear l1 l2 l3 l4 l5; obtain ⟨l1, l2, l3, l4, l5⟩ := hmw.loads; have H1 := Lib.hid hmw; clear hown hg hmw HMW)
            go_roundw
            case rel =>
              refine ⟨k + 1, by omega, by go_num, ⟨?_, ?_, H1.out.toMB.below, H1.out.toMB.res⟩⟩
              · have e1 : readsOf e = [argP e] := by simp [readsOf, hop, HF.out, HV.out]
                rw [HSR.out, e1]
                exact mono_eq H1.out.toMB.m1 (by first | omega | (simp; omega) | simp) (by simp)
              · have e2 : (writesOf e).reverse = [] := by simp [writesOf, hop, HF.out, HV.out]
                rw [HSW.out, e2]
                exact mono_eq H1.out.toMB.m2 (by first | omega | (simp; omega) | simp) (by simp)
            case measure => simp [intOf]; omega
          · have hop : e.op = 250 := eq_of_beq (by assumption)
            go_wp2_with (go_at_call 17; refine (mapput_calls (S1) [argP e] (w.heap.size + 1) (2 * k) _ _ (World.ownsMap.alloc HMW.out.toMB.m1 _) (by simp; omega) (put_range _ [argP e]) (by omega) (by simp)).mono ?_; rintro e' X1 ⟨rfl, hown, hg⟩; obtain ⟨hmw, hz1⟩ := HMW.out.puts1 (by omega) (by omega) ⟨by omega, by omega, by omega, by omega⟩ [argP e] hown hg; clear l1 l2 l3 l4 l5; obtain ⟨l1, l2, l3, l4, l5⟩ := hmw.loads; have H1 := Lib.hid hmw; clear hown hg hmw HMW)
            go_roundw
            case rel =>
              refine ⟨k + 1, by omega, by go_num, ⟨?_, ?_, H1.out.toMB.below, H1.out.toMB.res⟩⟩
              · have e1 : readsOf e = [argP e] := by simp [readsOf, hop, HF.out, HV.out]
                rw [HSR.out, e1]
                exact mono_eq H1.out.toMB.m1 (by first | omega | (simp; omega) | simp) (by simp)
              · have e2 : (writesOf e).reverse = [] := by simp [writesOf, hop, HF.out, HV.out]
                rw [HSW.out, e2]
                exact mono_eq H1.out.toMB.m2 (by first | omega | (simp; omega) | simp) (by simp)
            case measure => simp [intOf]; omega
          · have n84 := beq_eq_false_iff_ne.1 (show (e.op == 84) = false by assumption)
            have n85 := beq_eq_false_iff_ne.1 (show (e.op == 85) = false by assumption)
            have n49 := beq_eq_false_iff_ne.1 (show (e.op == 49) = false by assumption)
            have n59 := beq_eq_false_iff_ne.1 (show (e.op == 59) = false by assumption)
            have n60 := beq_eq_false_iff_ne.1 (show (e.op == 60) = false by assumption)
            have n63 := beq_eq_false_iff_ne.1 (show (e.op == 63) = false by assumption)
            have n71 := beq_eq_false_iff_ne.1 (show (e.op == 71) = false by assumption)
            have n240 := beq_eq_false_iff_ne.1 (show (e.op == 240) = false by assumption)
            have n245 := beq_eq_false_iff_ne.1 (show (e.op == 245) = false by assumption)
            have n255 := beq_eq_false_iff_ne.1 (show (e.op == 255) = false by assumption)
            have n241 := beq_eq_false_iff_ne.1 (show (e.op == 241) = false by assumption)
            have n242 := beq_eq_false_iff_ne.1 (show (e.op == 242) = false by assumption)
            have n244 := beq_eq_false_iff_ne.1 (show (e.op == 244) = false by assumption)
            have n250 := beq_eq_false_iff_ne.1 (show (e.op == 250) = false by assumption)
            go_roundw
            case rel =>
              refine ⟨k + 1, by omega, by go_num, ⟨?_, ?_, HMW.out.toMB.below, HMW.out.toMB.res⟩⟩
              · have e1 : readsOf e = [] := by simp [readsOf, HF.out, n84, n85, n49, n59, n60, n63, n71, n240, n245, n255, n241, n242, n244, n250]
                rw [HSR.out, e1]
                exact mono_eq HMW.out.toMB.m1 (by first | omega | (simp; omega) | simp) (by simp)
              · have e2 : (writesOf e).reverse = [] := by simp [writesOf, HF.out, n84, n85, n49, n59, n60, n63, n71, n240, n245, n255, n241, n242, n244, n250]
                rw [HSW.out, e2]
                exact mono_eq HMW.out.toMB.m2 (by first | omega | (simp; omega) | simp) (by simp)
            case measure => simp [intOf]; omega
        -- END
      · have HF := Lib.hid hfault
        have hfb : (e.fault != 0) = true := by simp [hfault]
        clear hfault
        go_wp2
        go_roundw
        case rel =>
          refine ⟨k + 1, by omega, by go_num, ⟨?_, ?_, HMB1.out.below, HMB1.out.res⟩⟩
          · have e1 : readsOf e = [] := by simp [readsOf, HF.out]
            rw [HSR.out, e1]
            exact mono_eq HMB1.out.m1 (by omega) (by simp)
          · have e2 : (writesOf e).reverse = [] := by simp [writesOf, HF.out]
            rw [HSW.out, e2]
            exact mono_eq HMB1.out.m2 (by omega) (by simp)
        case measure => simp [intOf]; omega
    · obtain rfl : k = L.length := by omega
      rw [List.take_length] at hmb
      have hokR : ∀ x ∈ L.flatMap readsOf, x.Ok := fun x hx => by
        obtain ⟨e, he, hx⟩ := List.mem_flatMap.1 hx
        exact reads_ok (HL.out e he) x hx
      have hokW : ∀ x ∈ L.flatMap wr2, x.Ok := fun x hx => by
        obtain ⟨e, he, hx⟩ := List.mem_flatMap.1 hx
        exact writes_ok (HL.out e he) x (by simpa [wr2] using hx)
      have hlR : (L.flatMap readsOf).length ≤ 2 * L.length := flat_le readsOf 2 reads_len L
      have hlW : (L.flatMap wr2).length ≤ 2 * L.length := flat_le wr2 2 (fun e => by simpa [wr2] using writes_len e) L
      obtain ⟨S1, hS1⟩ : ∃ S1, L.flatMap readsOf = S1 := ⟨_, rfl⟩
      obtain ⟨S2, hS2⟩ : ∃ S2, L.flatMap wr2 = S2 := ⟨_, rfl⟩
      rw [hS1] at hmb hokR hlR
      rw [hS2] at hmb hokW hlW
      have HS1 := Lib.hid hS1
      have HS2 := Lib.hid hS2
      clear hS1 hS2
      have HK := Lib.hid fun mb W => callsIn_wide.1 (keys_in Fence.wide 1 trivial rfl mb W)
      have HSF := Lib.hid fun (S : List Pl) (hS : ∀ x ∈ S, x.Ok) (b nn : Nat) (hnn : nn < 1000000) (hl : S.length < 1000000) (W : World) (ho : OwnsP W b nn S) => sortedfunc_calls S hS b nn W.heap.size hnn hl (W.alloc (.cells #[.map (some b)] 48)) (by simp) (cell_in (at_new W _ rfl) 0 rfl) (World.ownsMap.alloc ho _)
      have hszr : w.heap.size < wr.heap.size := at_lt hmb.res
      have HMB := Lib.hid hmb
      have HOR := Lib.hid hokR
      have HOW := Lib.hid hokW
      clear hmb hokR hokW
      go_wp2_with (first
        | (go_at_call 19; refine (HK.out _ _).mono ?_; rintro e w' ⟨rfl, rfl⟩)
        | (go_at_call 18; refine (HSF.out S1 HOR.out (w.heap.size + 1) (2 * L.length) (by omega) (by omega) _ HMB.out.m1).mono ?_; rintro e w3 ⟨v, qs, rfl, hrise, hrow, hb⟩; obtain ⟨va, vc, rfl⟩ := own_slice hrow; have HMB3 := Lib.hid ((HMB.out.alloc _).keep hb); have HRI := Lib.hid hrise; have HRO := Lib.hid hrow; clear hrise hrow hb HMB))
      refine (HSF.out S2 HOW.out (w.heap.size + 1 + 1) (2 * L.length) (by omega) (by omega) _ HMB3.out.m2).mono ?_
      rintro e w4 ⟨v2, qs2, rfl, hrise2, hrow2, hb2⟩
      obtain ⟨vb, vd, rfl⟩ := own_slice hrow2
      have hmb4 := (HMB3.out.alloc (.cells #[.map (some (w.heap.size + 1 + 1))] 48)).keep hb2
      have hrow4 := own_below (World.ownsRow.alloc HRO.out (.cells #[.map (some (w.heap.size + 1 + 1))] 48)) hb2
      have hz : w.heap.size < w4.heap.size := at_lt hmb4.res
      have l1 : SD 28 (.pointer (some ⟨w.heap.size, 0, none⟩)) (.agg #[.slice va qs.length vc, .slice vb qs2.length vd]) w4 = .ok () (w4.setCells w.heap.size 0 [.slice va qs.length vc, .slice vb qs2.length vd]) := SD_there (cs := [.slice va qs.length vc, .slice vb qs2.length vd]) (there_block hmb4.res (by simp)) (by kernel_rfl) (by
        intro u hu
        simp at hu
        rcases hu with rfl | rfl <;> rfl)
      have hc := range_block (cs := [.slice va qs.length vc, .slice vb qs2.length vd]) (setCells_whole hmb4.res [.slice va qs.length vc, .slice vb qs2.length vd] rfl)
      have hsz3 : w.heap.size < w3.heap.size := at_lt HMB3.out.res
      have o1 : (w4.setCells w.heap.size 0 [.slice va qs.length vc, .slice vb qs2.length vd]).ownsRow (w.heap.size + 1) 50 25 (.slice va qs.length vc) qs.length (qs.flatMap plC) := own_set (own_set (own_base hrow4 (by simp; omega)) (by omega) _ _) (by omega) _ _
      have o2 : (w4.setCells w.heap.size 0 [.slice va qs.length vc, .slice vb qs2.length vd]).ownsRow (w.heap.size + 1) 50 25 (.slice vb qs2.length vd) qs2.length (qs2.flatMap plC) := own_set (own_set (own_base hrow2 (by simp; omega)) (by omega) _ _) (by omega) _ _
      have hb := below_setCells hmb4.below (Nat.le_refl _) 0 [.slice va qs.length vc, .slice vb qs2.length vd]
      generalize w4.setCells w.heap.size 0 [.slice va qs.length vc, .slice vb qs2.length vd] = wz at *
      have HC := Lib.hid hc
      have O1 := Lib.hid (plRow_own o1)
      have O2 := Lib.hid (plRow_own o2)
      have HB := Lib.hid hb
      have HR2 := Lib.hid hrise2
      clear hmb4 hrow4 hrow2 hb2 hc o1 o2 hb hrise2
      go_wp2
      exact ret_cell (cs := [.slice va qs.length vc, .slice vb qs2.length vd]) rfl rfl HC.out Try.underlying28 rfl (by kernel_rfl) rfl ⟨_, ⟨qs, qs2⟩, rfl, ⟨_, _, rfl, O1.out, O2.out⟩, by rw [HS1.out]; exact HRI.out, by rw [HS2.out]; exact HR2.out, HB.out⟩
end Go.Proofs.Ytbkhldaomalmoaa
