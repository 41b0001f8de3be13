/- quaestorref14.Steps: the walk. -/
import Derived.Test.YtbkhldaomalmoaaRefSteps
namespace Go.Proofs.Ytbkhldaomalmoaa
open Go.RowKit
attribute [local go_sem ↓] exec_load exec_store exec_allocE exec_allocP exec_buildPl
attribute [local go_sem] BP_whole BP_slot

set_option maxRecDepth 100000 in
set_option maxHeartbeats 16000000 in
theorem rsteps_calls (L : List Ev) (hL : ∀ x ∈ L, x.Ok) (hn : L.length ≤ 2000) (v : Value) (w : World) (hrow : EvRow w v L) :
    Calls Try.prog 10 #[v] w fun e w' => ∃ u, e = .returned u ∧ FtVal w' u ⟨refR L, refW L⟩ ∧ Below w.heap.size w w' := by
  obtain ⟨a, c, rfl, hc, h3⟩ := id hrow
  have HR := Lib.hid hrow
  have HL := Lib.hid hL
  clear hrow hL h3
  go_enter Try.func10, Try.ntmps10
  go_wp2
  go_loopw [4] (fun i wr => ∃ (k : Nat) (v1 v2 : Value), k ≤ L.length ∧ i = .int .i64 k ∧ wr.heap[w.heap.size + 1]? = some (.cells #[v1, v2] 28 (0, 0)) ∧ wr.ownsRow (w.heap.size + 2) 50 25 v1 (refR (L.take k)).length ((refR (L.take k)).flatMap plC) ∧
      wr.ownsRow (w.heap.size + 2) 50 25 v2 (refW (L.take k)).length ((refW (L.take k)).flatMap plC) ∧ Below w.heap.size w wr ∧ wr.heap[w.heap.size]? = some (.cells #[.slice none 0 0, .slice none 0 0] 28 (0, 0))) (fun i _ => L.length - (intOf i).toNat)
  case atStart =>
    refine ⟨0, .slice none 0 0, .slice none 0 0, by omega, rfl, at_new _ _ (by simp), World.ownsRow_nil _ _ _ _, World.ownsRow_nil _ _ _ _, below_a (below_a (Below.refl _ _) (by simp) _) (by simp) _, at_old (at_new _ _ rfl) _⟩
  case round =>
    obtain ⟨k, v1, v2, hk, rfl, hbox, ho1, ho2, hB, hres⟩ := hrel
    by_cases hlt : k < L.length
    · obtain ⟨g, o, rfl, hg, hx⟩ := HR.out.at (by omega)
      obtain ⟨e, hek⟩ : ∃ e, L[k]? = some e := ⟨L[k], List.getElem?_eq_getElem hlt⟩
      have hok := HL.out e (List.mem_of_getElem? hek)
      have hsz : w.heap.size + 1 < wr.heap.size := at_lt hbox
      have hqr : (refR (L.take k)).length ≤ 2 * k := by have := refR_len (L.take k); rw [List.length_take] at this; omega
      have hqw : (refW (L.take k)).length ≤ 2 * k := by have := refW_len (L.take k); rw [List.length_take] at this; omega
      have hokR := Lib.hid (refR_up (L := L.take k) (fun x hx => HL.out x (List.mem_of_mem_take hx))).1
      have hokW := Lib.hid (refW_up (L := L.take k) (fun x hx => HL.out x (List.mem_of_mem_take hx))).1
      have HSR := Lib.hid (show refR (L.take (k + 1)) = putAll (refR (L.take k)) (readsOf e) by rw [takeE_snoc L k e hek, refR_snoc])
      have HSW := Lib.hid (show refW (L.take (k + 1)) = putAll (refW (L.take k)) (writesOf e) by rw [takeE_snoc L k e hek, refW_snoc])
      have f0 : LD 46 (.pointer (some ⟨g, o + k * 32, none⟩)) wr = .ok (evV e) wr := LD_ev (rangeAt_below (hx k e hek) hB)
      generalize refR (L.take k) = Q at *
      generalize refW (L.take k) = R at *
      have hrb : RB w (w.heap.size + 1) (w.heap.size + 2) v1 v2 Q R wr := ⟨hbox, ho1, ho2, hB, hres⟩
      obtain ⟨w1, w2, ⟨f1, f2, f3, f4, f5, hrb1⟩, hst⟩ := rstage hrb hok
      have HST := Lib.hid hst
      have HRB1 := Lib.hid hrb1
      have HOK := Lib.hid hok
      have HADDR := Lib.hid fun W => raddr_calls e.arg W
      clear hst hrb1 hrb hbox hres ho1 ho2 hB hx hek
      by_cases hfault : e.fault = 0
      · have HF := Lib.hid hfault
        rw [hfault] at f2
        clear hfault
        -- CASES
        have hnq := fun W => neW0 HOK.out.value W
        have hgd := fun op x y W => W_guard e.value #[.int .u64 0, .int .u64 0, .int .u64 0, .int .u64 0] op x y W
        rcases hv0 : decide (e.value = 0) with _ | _
        · have HV := Lib.hid (of_decide_eq_false hv0)
          rw [hv0] at hnq
          clear hv0
          go_wp2_with (go_at_call 21; refine (HADDR.out _).mono ?_; rintro e' w3 ⟨rfl, hb3⟩; obtain ⟨w4, w5, ⟨g1, g2, g3, g4⟩, hrw, hz1, hz2, hz3, hz4⟩ := HST.out w3 hb3; obtain ⟨l1, l2, l3, l4, l5, l6, l7⟩ := hrw.loads; have HRW := Lib.hid hrw; clear hb3 hrw HST HADDR f0 f1 f2 f3 f4 f5)
          · have hop : e.op = 84 := eq_of_beq (by assumption)
            go_wp2_with (go_at_call 22; refine (put_calls (Q) hokR.out.ok _ (slotP_ok HOK.out) v1 _ _ HRW.out.o1 (by omega)).mono ?_; rintro e' X1 ⟨u1, rfl, hown, hb⟩; obtain ⟨Y1, hsd1, hrw, hz1⟩ := HRW.out.put1 (by omega) (by omega) ⟨by omega, by omega, by omega, by omega⟩ (by omega) hown hb; clear l1 l2 l3 l4 l5 l6 l7; obtain ⟨l1, l2, l3, l4, l5, l6, l7⟩ := hrw.loads; have H1 := Lib.hid hrw; have U1 := Lib.hid (putL_up (slotP_ok HOK.out) hokR.out).1; have hlen1 := putL_len (Q) (slotP e); clear hown hb hrw HRW)
            go_roundw
            case rel =>
              refine ⟨k + 1, u1, v2, by omega, by go_num, H1.out.box, ?_, ?_, H1.out.below, H1.out.res⟩
              · have e1 : readsOf e = [slotP e] := by simp [readsOf, hop, HF.out]
                rw [HSR.out, e1]
                exact H1.out.o1
              · have e2 : writesOf e = [] := by simp [writesOf, hop, HF.out]
                rw [HSW.out, e2]
                exact H1.out.o2
            case measure => simp [intOf]; omega
          · have hop : e.op = 85 := eq_of_beq (by assumption)
            go_wp2_with (go_at_call 22; refine (put_calls (R) hokW.out.ok _ (slotP_ok HOK.out) v2 _ _ HRW.out.o2 (by omega)).mono ?_; rintro e' X1 ⟨u1, rfl, hown, hb⟩; obtain ⟨Y1, hsd1, hrw, hz1⟩ := HRW.out.put2 (by omega) (by omega) ⟨by omega, by omega, by omega, by omega⟩ (by omega) hown hb; clear l1 l2 l3 l4 l5 l6 l7; obtain ⟨l1, l2, l3, l4, l5, l6, l7⟩ := hrw.loads; have H1 := Lib.hid hrw; have U1 := Lib.hid (putL_up (slotP_ok HOK.out) hokW.out).1; have hlen1 := putL_len (R) (slotP e); clear hown hb hrw HRW)
            go_roundw
            case rel =>
              refine ⟨k + 1, v1, u1, by omega, by go_num, H1.out.box, ?_, ?_, H1.out.below, H1.out.res⟩
              · have e1 : readsOf e = [] := by simp [readsOf, hop, HF.out]
                rw [HSR.out, e1]
                exact H1.out.o1
              · have e2 : writesOf e = [slotP e] := by simp [writesOf, hop, HF.out]
                rw [HSW.out, e2]
                exact H1.out.o2
            case measure => simp [intOf]; omega
          · have hop : e.op = 49 := eq_of_beq (by assumption)
            go_wp2_with (go_at_call 22; refine (put_calls (Q) hokR.out.ok _ (argP_ok e) v1 _ _ HRW.out.o1 (by omega)).mono ?_; rintro e' X1 ⟨u1, rfl, hown, hb⟩; obtain ⟨Y1, hsd1, hrw, hz1⟩ := HRW.out.put1 (by omega) (by omega) ⟨by omega, by omega, by omega, by omega⟩ (by omega) hown hb; clear l1 l2 l3 l4 l5 l6 l7; obtain ⟨l1, l2, l3, l4, l5, l6, l7⟩ := hrw.loads; have H1 := Lib.hid hrw; have U1 := Lib.hid (putL_up (argP_ok e) hokR.out).1; have hlen1 := putL_len (Q) (argP e); clear hown hb hrw HRW)
            go_roundw
            case rel =>
              refine ⟨k + 1, u1, v2, by omega, by go_num, H1.out.box, ?_, ?_, H1.out.below, H1.out.res⟩
              · have e1 : readsOf e = [argP e] := by simp [readsOf, hop, HF.out]
                rw [HSR.out, e1]
                exact H1.out.o1
              · have e2 : writesOf e = [] := by simp [writesOf, hop, HF.out]
                rw [HSW.out, e2]
                exact H1.out.o2
            case measure => simp [intOf]; omega
          · have hop : e.op = 59 := eq_of_beq (by assumption)
            go_wp2_with (go_at_call 22; refine (put_calls (Q) hokR.out.ok _ (argP_ok e) v1 _ _ HRW.out.o1 (by omega)).mono ?_; rintro e' X1 ⟨u1, rfl, hown, hb⟩; obtain ⟨Y1, hsd1, hrw, hz1⟩ := HRW.out.put1 (by omega) (by omega) ⟨by omega, by omega, by omega, by omega⟩ (by omega) hown hb; clear l1 l2 l3 l4 l5 l6 l7; obtain ⟨l1, l2, l3, l4, l5, l6, l7⟩ := hrw.loads; have H1 := Lib.hid hrw; have U1 := Lib.hid (putL_up (argP_ok e) hokR.out).1; have hlen1 := putL_len (Q) (argP e); clear hown hb hrw HRW)
            go_roundw
            case rel =>
              refine ⟨k + 1, u1, v2, by omega, by go_num, H1.out.box, ?_, ?_, H1.out.below, H1.out.res⟩
              · have e1 : readsOf e = [argP e] := by simp [readsOf, hop, HF.out]
                rw [HSR.out, e1]
                exact H1.out.o1
              · have e2 : writesOf e = [] := by simp [writesOf, hop, HF.out]
                rw [HSW.out, e2]
                exact H1.out.o2
            case measure => simp [intOf]; omega
          · have hop : e.op = 60 := eq_of_beq (by assumption)
            go_wp2_with (go_at_call 22; refine (put_calls (Q) hokR.out.ok _ (argP_ok e) v1 _ _ HRW.out.o1 (by omega)).mono ?_; rintro e' X1 ⟨u1, rfl, hown, hb⟩; obtain ⟨Y1, hsd1, hrw, hz1⟩ := HRW.out.put1 (by omega) (by omega) ⟨by omega, by omega, by omega, by omega⟩ (by omega) hown hb; clear l1 l2 l3 l4 l5 l6 l7; obtain ⟨l1, l2, l3, l4, l5, l6, l7⟩ := hrw.loads; have H1 := Lib.hid hrw; have U1 := Lib.hid (putL_up (argP_ok e) hokR.out).1; have hlen1 := putL_len (Q) (argP e); clear hown hb hrw HRW)
            go_roundw
            case rel =>
              refine ⟨k + 1, u1, v2, by omega, by go_num, H1.out.box, ?_, ?_, H1.out.below, H1.out.res⟩
              · have e1 : readsOf e = [argP e] := by simp [readsOf, hop, HF.out]
                rw [HSR.out, e1]
                exact H1.out.o1
              · have e2 : writesOf e = [] := by simp [writesOf, hop, HF.out]
                rw [HSW.out, e2]
                exact H1.out.o2
            case measure => simp [intOf]; omega
          · have hop : e.op = 63 := eq_of_beq (by assumption)
            go_wp2_with (go_at_call 22; refine (put_calls (Q) hokR.out.ok _ (argP_ok e) v1 _ _ HRW.out.o1 (by omega)).mono ?_; rintro e' X1 ⟨u1, rfl, hown, hb⟩; obtain ⟨Y1, hsd1, hrw, hz1⟩ := HRW.out.put1 (by omega) (by omega) ⟨by omega, by omega, by omega, by omega⟩ (by omega) hown hb; clear l1 l2 l3 l4 l5 l6 l7; obtain ⟨l1, l2, l3, l4, l5, l6, l7⟩ := hrw.loads; have H1 := Lib.hid hrw; have U1 := Lib.hid (putL_up (argP_ok e) hokR.out).1; have hlen1 := putL_len (Q) (argP e); clear hown hb hrw HRW)
            go_roundw
            case rel =>
              refine ⟨k + 1, u1, v2, by omega, by go_num, H1.out.box, ?_, ?_, H1.out.below, H1.out.res⟩
              · have e1 : readsOf e = [argP e] := by simp [readsOf, hop, HF.out]
                rw [HSR.out, e1]
                exact H1.out.o1
              · have e2 : writesOf e = [] := by simp [writesOf, hop, HF.out]
                rw [HSW.out, e2]
                exact H1.out.o2
            case measure => simp [intOf]; omega
          · have hop : e.op = 71 := eq_of_beq (by assumption)
            go_wp2_with (go_at_call 22; refine (put_calls (Q) hokR.out.ok _ (selfP_ok HOK.out) v1 _ _ HRW.out.o1 (by omega)).mono ?_; rintro e' X1 ⟨u1, rfl, hown, hb⟩; obtain ⟨Y1, hsd1, hrw, hz1⟩ := HRW.out.put1 (by omega) (by omega) ⟨by omega, by omega, by omega, by omega⟩ (by omega) hown hb; clear l1 l2 l3 l4 l5 l6 l7; obtain ⟨l1, l2, l3, l4, l5, l6, l7⟩ := hrw.loads; have H1 := Lib.hid hrw; have U1 := Lib.hid (putL_up (selfP_ok HOK.out) hokR.out).1; have hlen1 := putL_len (Q) (selfP e); clear hown hb hrw HRW)
            go_roundw
            case rel =>
              refine ⟨k + 1, u1, v2, by omega, by go_num, H1.out.box, ?_, ?_, H1.out.below, H1.out.res⟩
              · have e1 : readsOf e = [selfP e] := by simp [readsOf, hop, HF.out]
                rw [HSR.out, e1]
                exact H1.out.o1
              · have e2 : writesOf e = [] := by simp [writesOf, hop, HF.out]
                rw [HSW.out, e2]
                exact H1.out.o2
            case measure => simp [intOf]; omega
          · have hop : e.op = 241 := eq_of_beq (by assumption)
            go_wp2_with (go_at_call 22; refine (put_calls (Q) hokR.out.ok _ (argP_ok e) v1 _ _ HRW.out.o1 (by omega)).mono ?_; rintro e' X1 ⟨u1, rfl, hown, hb⟩; obtain ⟨Y1, hsd1, hrw, hz1⟩ := HRW.out.put1 (by omega) (by omega) ⟨by omega, by omega, by omega, by omega⟩ (by omega) hown hb; clear l1 l2 l3 l4 l5 l6 l7; obtain ⟨l1, l2, l3, l4, l5, l6, l7⟩ := hrw.loads; have H1 := Lib.hid hrw; have U1 := Lib.hid (putL_up (argP_ok e) hokR.out).1; have hlen1 := putL_len (Q) (argP e); clear hown hb hrw HRW)
            go_wp2_with (go_at_call 22; refine (put_calls (R) hokW.out.ok _ (argP_ok e) v2 _ _ H1.out.o2 (by omega)).mono ?_; rintro e' X2 ⟨u2, rfl, hown, hb⟩; obtain ⟨Y2, hsd2, hrw, hz2⟩ := H1.out.put2 (by omega) (by omega) ⟨by omega, by omega, by omega, by omega⟩ (by omega) hown hb; clear l1 l2 l3 l4 l5 l6 l7; obtain ⟨l1, l2, l3, l4, l5, l6, l7⟩ := hrw.loads; have H2 := Lib.hid hrw; have U2 := Lib.hid (putL_up (argP_ok e) hokW.out).1; have hlen2 := putL_len (R) (argP e); clear hown hb hrw H1)
            go_wp2_with (go_at_call 22; refine (put_calls (putL (R) (argP e)) U2.out.ok _ (selfP_ok HOK.out) u2 _ _ H2.out.o2 (by omega)).mono ?_; rintro e' X3 ⟨u3, rfl, hown, hb⟩; obtain ⟨Y3, hsd3, hrw, hz3⟩ := H2.out.put2 (by omega) (by omega) ⟨by omega, by omega, by omega, by omega⟩ (by omega) hown hb; clear l1 l2 l3 l4 l5 l6 l7; obtain ⟨l1, l2, l3, l4, l5, l6, l7⟩ := hrw.loads; have H3 := Lib.hid hrw; have U3 := Lib.hid (putL_up (selfP_ok HOK.out) U2.out).1; have hlen3 := putL_len (putL (R) (argP e)) (selfP e); clear hown hb hrw H2)
            go_roundw
            case rel =>
              refine ⟨k + 1, u1, u3, by omega, by go_num, H3.out.box, ?_, ?_, H3.out.below, H3.out.res⟩
              · have e1 : readsOf e = [argP e] := by simp [readsOf, hop, HF.out, HV.out]
                rw [HSR.out, e1]
                exact H3.out.o1
              · have e2 : writesOf e = [argP e, selfP e] := by simp [writesOf, hop, HF.out, HV.out]
                rw [HSW.out, e2]
                exact H3.out.o2
            case measure => simp [intOf]; omega
          · have hop : e.op = 242 := eq_of_beq (by assumption)
            go_wp2_with (go_at_call 22; refine (put_calls (Q) hokR.out.ok _ (argP_ok e) v1 _ _ HRW.out.o1 (by omega)).mono ?_; rintro e' X1 ⟨u1, rfl, hown, hb⟩; obtain ⟨Y1, hsd1, hrw, hz1⟩ := HRW.out.put1 (by omega) (by omega) ⟨by omega, by omega, by omega, by omega⟩ (by omega) hown hb; clear l1 l2 l3 l4 l5 l6 l7; obtain ⟨l1, l2, l3, l4, l5, l6, l7⟩ := hrw.loads; have H1 := Lib.hid hrw; have U1 := Lib.hid (putL_up (argP_ok e) hokR.out).1; have hlen1 := putL_len (Q) (argP e); clear hown hb hrw HRW)
            go_wp2_with (go_at_call 22; refine (put_calls (R) hokW.out.ok _ (argP_ok e) v2 _ _ H1.out.o2 (by omega)).mono ?_; rintro e' X2 ⟨u2, rfl, hown, hb⟩; obtain ⟨Y2, hsd2, hrw, hz2⟩ := H1.out.put2 (by omega) (by omega) ⟨by omega, by omega, by omega, by omega⟩ (by omega) hown hb; clear l1 l2 l3 l4 l5 l6 l7; obtain ⟨l1, l2, l3, l4, l5, l6, l7⟩ := hrw.loads; have H2 := Lib.hid hrw; have U2 := Lib.hid (putL_up (argP_ok e) hokW.out).1; have hlen2 := putL_len (R) (argP e); clear hown hb hrw H1)
            go_wp2_with (go_at_call 22; refine (put_calls (putL (R) (argP e)) U2.out.ok _ (selfP_ok HOK.out) u2 _ _ H2.out.o2 (by omega)).mono ?_; rintro e' X3 ⟨u3, rfl, hown, hb⟩; obtain ⟨Y3, hsd3, hrw, hz3⟩ := H2.out.put2 (by omega) (by omega) ⟨by omega, by omega, by omega, by omega⟩ (by omega) hown hb; clear l1 l2 l3 l4 l5 l6 l7; obtain ⟨l1, l2, l3, l4, l5, l6, l7⟩ := hrw.loads; have H3 := Lib.hid hrw; have U3 := Lib.hid (putL_up (selfP_ok HOK.out) U2.out).1; have hlen3 := putL_len (putL (R) (argP e)) (selfP e); clear hown hb hrw H2)
            go_roundw
            case rel =>
              refine ⟨k + 1, u1, u3, by omega, by go_num, H3.out.box, ?_, ?_, H3.out.below, H3.out.res⟩
              · have e1 : readsOf e = [argP e] := by simp [readsOf, hop, HF.out, HV.out]
                rw [HSR.out, e1]
                exact H3.out.o1
              · have e2 : writesOf e = [argP e, selfP e] := by simp [writesOf, hop, HF.out, HV.out]
                rw [HSW.out, e2]
                exact H3.out.o2
            case measure => simp [intOf]; omega
          · have hop : e.op = 244 := eq_of_beq (by assumption)
            go_wp2_with (go_at_call 22; refine (put_calls (Q) hokR.out.ok _ (argP_ok e) v1 _ _ HRW.out.o1 (by omega)).mono ?_; rintro e' X1 ⟨u1, rfl, hown, hb⟩; obtain ⟨Y1, hsd1, hrw, hz1⟩ := HRW.out.put1 (by omega) (by omega) ⟨by omega, by omega, by omega, by omega⟩ (by omega) hown hb; clear l1 l2 l3 l4 l5 l6 l7; obtain ⟨l1, l2, l3, l4, l5, l6, l7⟩ := hrw.loads; have H1 := Lib.hid hrw; have U1 := Lib.hid (putL_up (argP_ok e) hokR.out).1; have hlen1 := putL_len (Q) (argP e); clear hown hb hrw HRW)
            go_wp2_with (go_at_call 22; refine (put_calls (R) hokW.out.ok _ (argP_ok e) v2 _ _ H1.out.o2 (by omega)).mono ?_; rintro e' X2 ⟨u2, rfl, hown, hb⟩; obtain ⟨Y2, hsd2, hrw, hz2⟩ := H1.out.put2 (by omega) (by omega) ⟨by omega, by omega, by omega, by omega⟩ (by omega) hown hb; clear l1 l2 l3 l4 l5 l6 l7; obtain ⟨l1, l2, l3, l4, l5, l6, l7⟩ := hrw.loads; have H2 := Lib.hid hrw; have U2 := Lib.hid (putL_up (argP_ok e) hokW.out).1; have hlen2 := putL_len (R) (argP e); clear hown hb hrw H1)
            go_wp2_with (go_at_call 22; refine (put_calls (putL (R) (argP e)) U2.out.ok _ (selfP_ok HOK.out) u2 _ _ H2.out.o2 (by omega)).mono ?_; rintro e' X3 ⟨u3, rfl, hown, hb⟩; obtain ⟨Y3, hsd3, hrw, hz3⟩ := H2.out.put2 (by omega) (by omega) ⟨by omega, by omega, by omega, by omega⟩ (by omega) hown hb; clear l1 l2 l3 l4 l5 l6 l7; obtain ⟨l1, l2, l3, l4, l5, l6, l7⟩ := hrw.loads; have H3 := Lib.hid hrw; have U3 := Lib.hid (putL_up (selfP_ok HOK.out) U2.out).1; have hlen3 := putL_len (putL (R) (argP e)) (selfP e); clear hown hb hrw H2)
            go_roundw
            case rel =>
              refine ⟨k + 1, u1, u3, by omega, by go_num, H3.out.box, ?_, ?_, H3.out.below, H3.out.res⟩
              · have e1 : readsOf e = [argP e] := by simp [readsOf, hop, HF.out, HV.out]
                rw [HSR.out, e1]
                exact H3.out.o1
              · have e2 : writesOf e = [argP e, selfP e] := by simp [writesOf, hop, HF.out, HV.out]
                rw [HSW.out, e2]
                exact H3.out.o2
            case measure => simp [intOf]; omega
          · have hop : e.op = 250 := eq_of_beq (by assumption)
            go_wp2_with (go_at_call 22; refine (put_calls (Q) hokR.out.ok _ (argP_ok e) v1 _ _ HRW.out.o1 (by omega)).mono ?_; rintro e' X1 ⟨u1, rfl, hown, hb⟩; obtain ⟨Y1, hsd1, hrw, hz1⟩ := HRW.out.put1 (by omega) (by omega) ⟨by omega, by omega, by omega, by omega⟩ (by omega) hown hb; clear l1 l2 l3 l4 l5 l6 l7; obtain ⟨l1, l2, l3, l4, l5, l6, l7⟩ := hrw.loads; have H1 := Lib.hid hrw; have U1 := Lib.hid (putL_up (argP_ok e) hokR.out).1; have hlen1 := putL_len (Q) (argP e); clear hown hb hrw HRW)
            go_wp2_with (go_at_call 22; refine (put_calls (R) hokW.out.ok _ (argP_ok e) v2 _ _ H1.out.o2 (by omega)).mono ?_; rintro e' X2 ⟨u2, rfl, hown, hb⟩; obtain ⟨Y2, hsd2, hrw, hz2⟩ := H1.out.put2 (by omega) (by omega) ⟨by omega, by omega, by omega, by omega⟩ (by omega) hown hb; clear l1 l2 l3 l4 l5 l6 l7; obtain ⟨l1, l2, l3, l4, l5, l6, l7⟩ := hrw.loads; have H2 := Lib.hid hrw; have U2 := Lib.hid (putL_up (argP_ok e) hokW.out).1; have hlen2 := putL_len (R) (argP e); clear hown hb hrw H1)
            go_wp2_with (go_at_call 22; refine (put_calls (putL (R) (argP e)) U2.out.ok _ (selfP_ok HOK.out) u2 _ _ H2.out.o2 (by omega)).mono ?_; rintro e' X3 ⟨u3, rfl, hown, hb⟩; obtain ⟨Y3, hsd3, hrw, hz3⟩ := H2.out.put2 (by omega) (by omega) ⟨by omega, by omega, by omega, by omega⟩ (by omega) hown hb; clear l1 l2 l3 l4 l5 l6 l7; obtain ⟨l1, l2, l3, l4, l5, l6, l7⟩ := hrw.loads; have H3 := Lib.hid hrw; have U3 := Lib.hid (putL_up (selfP_ok HOK.out) U2.out).1; have hlen3 := putL_len (putL (R) (argP e)) (selfP e); clear hown hb hrw H2)
            go_roundw
            case rel =>
              refine ⟨k + 1, u1, u3, by omega, by go_num, H3.out.box, ?_, ?_, H3.out.below, H3.out.res⟩
              · have e1 : readsOf e = [argP e] := by simp [readsOf, hop, HF.out, HV.out]
                rw [HSR.out, e1]
                exact H3.out.o1
              · have e2 : writesOf e = [argP e, selfP e] := by simp [writesOf, hop, HF.out, HV.out]
                rw [HSW.out, e2]
                exact H3.out.o2
            case measure => simp [intOf]; omega
          · have hop : e.op = 240 := eq_of_beq (by assumption)
            go_wp2_with (go_at_call 22; refine (put_calls (R) hokW.out.ok _ (argP_ok e) v2 _ _ HRW.out.o2 (by omega)).mono ?_; rintro e' X1 ⟨u1, rfl, hown, hb⟩; obtain ⟨Y1, hsd1, hrw, hz1⟩ := HRW.out.put2 (by omega) (by omega) ⟨by omega, by omega, by omega, by omega⟩ (by omega) hown hb; clear l1 l2 l3 l4 l5 l6 l7; obtain ⟨l1, l2, l3, l4, l5, l6, l7⟩ := hrw.loads; have H1 := Lib.hid hrw; have U1 := Lib.hid (putL_up (argP_ok e) hokW.out).1; have hlen1 := putL_len (R) (argP e); clear hown hb hrw HRW)
            go_wp2_with (go_at_call 22; refine (put_calls (putL (R) (argP e)) U1.out.ok _ (selfP_ok HOK.out) u1 _ _ H1.out.o2 (by omega)).mono ?_; rintro e' X2 ⟨u2, rfl, hown, hb⟩; obtain ⟨Y2, hsd2, hrw, hz2⟩ := H1.out.put2 (by omega) (by omega) ⟨by omega, by omega, by omega, by omega⟩ (by omega) hown hb; clear l1 l2 l3 l4 l5 l6 l7; obtain ⟨l1, l2, l3, l4, l5, l6, l7⟩ := hrw.loads; have H2 := Lib.hid hrw; have U2 := Lib.hid (putL_up (selfP_ok HOK.out) U1.out).1; have hlen2 := putL_len (putL (R) (argP e)) (selfP e); clear hown hb hrw H1)
            go_roundw
            case rel =>
              refine ⟨k + 1, v1, u2, by omega, by go_num, H2.out.box, ?_, ?_, H2.out.below, H2.out.res⟩
              · have e1 : readsOf e = [] := by simp [readsOf, hop, HF.out]
                rw [HSR.out, e1]
                exact H2.out.o1
              · have e2 : writesOf e = [argP e, selfP e] := by simp [writesOf, hop, HF.out]
                rw [HSW.out, e2]
                exact H2.out.o2
            case measure => simp [intOf]; omega
          · have hop : e.op = 245 := eq_of_beq (by assumption)
            go_wp2_with (go_at_call 22; refine (put_calls (R) hokW.out.ok _ (argP_ok e) v2 _ _ HRW.out.o2 (by omega)).mono ?_; rintro e' X1 ⟨u1, rfl, hown, hb⟩; obtain ⟨Y1, hsd1, hrw, hz1⟩ := HRW.out.put2 (by omega) (by omega) ⟨by omega, by omega, by omega, by omega⟩ (by omega) hown hb; clear l1 l2 l3 l4 l5 l6 l7; obtain ⟨l1, l2, l3, l4, l5, l6, l7⟩ := hrw.loads; have H1 := Lib.hid hrw; have U1 := Lib.hid (putL_up (argP_ok e) hokW.out).1; have hlen1 := putL_len (R) (argP e); clear hown hb hrw HRW)
            go_wp2_with (go_at_call 22; refine (put_calls (putL (R) (argP e)) U1.out.ok _ (selfP_ok HOK.out) u1 _ _ H1.out.o2 (by omega)).mono ?_; rintro e' X2 ⟨u2, rfl, hown, hb⟩; obtain ⟨Y2, hsd2, hrw, hz2⟩ := H1.out.put2 (by omega) (by omega) ⟨by omega, by omega, by omega, by omega⟩ (by omega) hown hb; clear l1 l2 l3 l4 l5 l6 l7; obtain ⟨l1, l2, l3, l4, l5, l6, l7⟩ := hrw.loads; have H2 := Lib.hid hrw; have U2 := Lib.hid (putL_up (selfP_ok HOK.out) U1.out).1; have hlen2 := putL_len (putL (R) (argP e)) (selfP e); clear hown hb hrw H1)
            go_roundw
            case rel =>
              refine ⟨k + 1, v1, u2, by omega, by go_num, H2.out.box, ?_, ?_, H2.out.below, H2.out.res⟩
              · have e1 : readsOf e = [] := by simp [readsOf, hop, HF.out]
                rw [HSR.out, e1]
                exact H2.out.o1
              · have e2 : writesOf e = [argP e, selfP e] := by simp [writesOf, hop, HF.out]
                rw [HSW.out, e2]
                exact H2.out.o2
            case measure => simp [intOf]; omega
          · have hop : e.op = 255 := eq_of_beq (by assumption)
            go_wp2_with (go_at_call 22; refine (put_calls (R) hokW.out.ok _ (argP_ok e) v2 _ _ HRW.out.o2 (by omega)).mono ?_; rintro e' X1 ⟨u1, rfl, hown, hb⟩; obtain ⟨Y1, hsd1, hrw, hz1⟩ := HRW.out.put2 (by omega) (by omega) ⟨by omega, by omega, by omega, by omega⟩ (by omega) hown hb; clear l1 l2 l3 l4 l5 l6 l7; obtain ⟨l1, l2, l3, l4, l5, l6, l7⟩ := hrw.loads; have H1 := Lib.hid hrw; have U1 := Lib.hid (putL_up (argP_ok e) hokW.out).1; have hlen1 := putL_len (R) (argP e); clear hown hb hrw HRW)
            go_wp2_with (go_at_call 22; refine (put_calls (putL (R) (argP e)) U1.out.ok _ (selfP_ok HOK.out) u1 _ _ H1.out.o2 (by omega)).mono ?_; rintro e' X2 ⟨u2, rfl, hown, hb⟩; obtain ⟨Y2, hsd2, hrw, hz2⟩ := H1.out.put2 (by omega) (by omega) ⟨by omega, by omega, by omega, by omega⟩ (by omega) hown hb; clear l1 l2 l3 l4 l5 l6 l7; obtain ⟨l1, l2, l3, l4, l5, l6, l7⟩ := hrw.loads; have H2 := Lib.hid hrw; have U2 := Lib.hid (putL_up (selfP_ok HOK.out) U1.out).1; have hlen2 := putL_len (putL (R) (argP e)) (selfP e); clear hown hb hrw H1)
            go_roundw
            case rel =>
              refine ⟨k + 1, v1, u2, by omega, by go_num, H2.out.box, ?_, ?_, H2.out.below, H2.out.res⟩
              · have e1 : readsOf e = [] := by simp [readsOf, hop, HF.out]
                rw [HSR.out, e1]
                exact H2.out.o1
              · have e2 : writesOf e = [argP e, selfP e] := by simp [writesOf, hop, HF.out]
                rw [HSW.out, e2]
                exact H2.out.o2
            case measure => simp [intOf]; omega
          · have n84 := beq_eq_false_iff_ne.1 (show (e.op == 84) = false by assumption)
            have n85 := beq_eq_false_iff_ne.1 (show (e.op == 85) = false by assumption)
            have n49 := beq_eq_false_iff_ne.1 (show (e.op == 49) = false by assumption)
            have n59 := beq_eq_false_iff_ne.1 (show (e.op == 59) = false by assumption)
            have n60 := beq_eq_false_iff_ne.1 (show (e.op == 60) = false by assumption)
            have n63 := beq_eq_false_iff_ne.1 (show (e.op == 63) = false by assumption)
            have n71 := beq_eq_false_iff_ne.1 (show (e.op == 71) = false by assumption)
            have n241 := beq_eq_false_iff_ne.1 (show (e.op == 241) = false by assumption)
            have n242 := beq_eq_false_iff_ne.1 (show (e.op == 242) = false by assumption)
            have n244 := beq_eq_false_iff_ne.1 (show (e.op == 244) = false by assumption)
            have n250 := beq_eq_false_iff_ne.1 (show (e.op == 250) = false by assumption)
            have n240 := beq_eq_false_iff_ne.1 (show (e.op == 240) = false by assumption)
            have n245 := beq_eq_false_iff_ne.1 (show (e.op == 245) = false by assumption)
            have n255 := beq_eq_false_iff_ne.1 (show (e.op == 255) = false by assumption)
            go_roundw
            case rel =>
              refine ⟨k + 1, v1, v2, by omega, by go_num, HRW.out.box, ?_, ?_, HRW.out.below, HRW.out.res⟩
              · have e1 : readsOf e = [] := by simp [readsOf, HF.out, n84, n85, n49, n59, n60, n63, n71, n241, n242, n244, n250, n240, n245, n255]
                rw [HSR.out, e1]
                exact HRW.out.o1
              · have e2 : writesOf e = [] := by simp [writesOf, HF.out, n84, n85, n49, n59, n60, n63, n71, n241, n242, n244, n250, n240, n245, n255]
                rw [HSW.out, e2]
                exact HRW.out.o2
            case measure => simp [intOf]; omega
        · have HV := Lib.hid (of_decide_eq_true hv0)
          rw [hv0] at hnq
          clear hv0
          go_wp2_with (go_at_call 21; refine (HADDR.out _).mono ?_; rintro e' w3 ⟨rfl, hb3⟩; obtain ⟨w4, w5, ⟨g1, g2, g3, g4⟩, hrw, hz1, hz2, hz3, hz4⟩ := HST.out w3 hb3; obtain ⟨l1, l2, l3, l4, l5, l6, l7⟩ := hrw.loads; have HRW := Lib.hid hrw; clear hb3 hrw HST HADDR f0 f1 f2 f3 f4 f5)
          · have hop : e.op = 84 := eq_of_beq (by assumption)
            go_wp2_with (go_at_call 22; refine (put_calls (Q) hokR.out.ok _ (slotP_ok HOK.out) v1 _ _ HRW.out.o1 (by omega)).mono ?_; rintro e' X1 ⟨u1, rfl, hown, hb⟩; obtain ⟨Y1, hsd1, hrw, hz1⟩ := HRW.out.put1 (by omega) (by omega) ⟨by omega, by omega, by omega, by omega⟩ (by omega) hown hb; clear l1 l2 l3 l4 l5 l6 l7; obtain ⟨l1, l2, l3, l4, l5, l6, l7⟩ := hrw.loads; have H1 := Lib.hid hrw; have U1 := Lib.hid (putL_up (slotP_ok HOK.out) hokR.out).1; have hlen1 := putL_len (Q) (slotP e); clear hown hb hrw HRW)
            go_roundw
            case rel =>
              refine ⟨k + 1, u1, v2, by omega, by go_num, H1.out.box, ?_, ?_, H1.out.below, H1.out.res⟩
              · have e1 : readsOf e = [slotP e] := by simp [readsOf, hop, HF.out]
                rw [HSR.out, e1]
                exact H1.out.o1
              · have e2 : writesOf e = [] := by simp [writesOf, hop, HF.out]
                rw [HSW.out, e2]
                exact H1.out.o2
            case measure => simp [intOf]; omega
          · have hop : e.op = 85 := eq_of_beq (by assumption)
            go_wp2_with (go_at_call 22; refine (put_calls (R) hokW.out.ok _ (slotP_ok HOK.out) v2 _ _ HRW.out.o2 (by omega)).mono ?_; rintro e' X1 ⟨u1, rfl, hown, hb⟩; obtain ⟨Y1, hsd1, hrw, hz1⟩ := HRW.out.put2 (by omega) (by omega) ⟨by omega, by omega, by omega, by omega⟩ (by omega) hown hb; clear l1 l2 l3 l4 l5 l6 l7; obtain ⟨l1, l2, l3, l4, l5, l6, l7⟩ := hrw.loads; have H1 := Lib.hid hrw; have U1 := Lib.hid (putL_up (slotP_ok HOK.out) hokW.out).1; have hlen1 := putL_len (R) (slotP e); clear hown hb hrw HRW)
            go_roundw
            case rel =>
              refine ⟨k + 1, v1, u1, by omega, by go_num, H1.out.box, ?_, ?_, H1.out.below, H1.out.res⟩
              · have e1 : readsOf e = [] := by simp [readsOf, hop, HF.out]
                rw [HSR.out, e1]
                exact H1.out.o1
              · have e2 : writesOf e = [slotP e] := by simp [writesOf, hop, HF.out]
                rw [HSW.out, e2]
                exact H1.out.o2
            case measure => simp [intOf]; omega
          · have hop : e.op = 49 := eq_of_beq (by assumption)
            go_wp2_with (go_at_call 22; refine (put_calls (Q) hokR.out.ok _ (argP_ok e) v1 _ _ HRW.out.o1 (by omega)).mono ?_; rintro e' X1 ⟨u1, rfl, hown, hb⟩; obtain ⟨Y1, hsd1, hrw, hz1⟩ := HRW.out.put1 (by omega) (by omega) ⟨by omega, by omega, by omega, by omega⟩ (by omega) hown hb; clear l1 l2 l3 l4 l5 l6 l7; obtain ⟨l1, l2, l3, l4, l5, l6, l7⟩ := hrw.loads; have H1 := Lib.hid hrw; have U1 := Lib.hid (putL_up (argP_ok e) hokR.out).1; have hlen1 := putL_len (Q) (argP e); clear hown hb hrw HRW)
            go_roundw
            case rel =>
              refine ⟨k + 1, u1, v2, by omega, by go_num, H1.out.box, ?_, ?_, H1.out.below, H1.out.res⟩
              · have e1 : readsOf e = [argP e] := by simp [readsOf, hop, HF.out]
                rw [HSR.out, e1]
                exact H1.out.o1
              · have e2 : writesOf e = [] := by simp [writesOf, hop, HF.out]
                rw [HSW.out, e2]
                exact H1.out.o2
            case measure => simp [intOf]; omega
          · have hop : e.op = 59 := eq_of_beq (by assumption)
            go_wp2_with (go_at_call 22; refine (put_calls (Q) hokR.out.ok _ (argP_ok e) v1 _ _ HRW.out.o1 (by omega)).mono ?_; rintro e' X1 ⟨u1, rfl, hown, hb⟩; obtain ⟨Y1, hsd1, hrw, hz1⟩ := HRW.out.put1 (by omega) (by omega) ⟨by omega, by omega, by omega, by omega⟩ (by omega) hown hb; clear l1 l2 l3 l4 l5 l6 l7; obtain ⟨l1, l2, l3, l4, l5, l6, l7⟩ := hrw.loads; have H1 := Lib.hid hrw; have U1 := Lib.hid (putL_up (argP_ok e) hokR.out).1; have hlen1 := putL_len (Q) (argP e); clear hown hb hrw HRW)
            go_roundw
            case rel =>
              refine ⟨k + 1, u1, v2, by omega, by go_num, H1.out.box, ?_, ?_, H1.out.below, H1.out.res⟩
              · have e1 : readsOf e = [argP e] := by simp [readsOf, hop, HF.out]
                rw [HSR.out, e1]
                exact H1.out.o1
              · have e2 : writesOf e = [] := by simp [writesOf, hop, HF.out]
                rw [HSW.out, e2]
                exact H1.out.o2
            case measure => simp [intOf]; omega
          · have hop : e.op = 60 := eq_of_beq (by assumption)
            go_wp2_with (go_at_call 22; refine (put_calls (Q) hokR.out.ok _ (argP_ok e) v1 _ _ HRW.out.o1 (by omega)).mono ?_; rintro e' X1 ⟨u1, rfl, hown, hb⟩; obtain ⟨Y1, hsd1, hrw, hz1⟩ := HRW.out.put1 (by omega) (by omega) ⟨by omega, by omega, by omega, by omega⟩ (by omega) hown hb; clear l1 l2 l3 l4 l5 l6 l7; obtain ⟨l1, l2, l3, l4, l5, l6, l7⟩ := hrw.loads; have H1 := Lib.hid hrw; have U1 := Lib.hid (putL_up (argP_ok e) hokR.out).1; have hlen1 := putL_len (Q) (argP e); clear hown hb hrw HRW)
            go_roundw
            case rel =>
              refine ⟨k + 1, u1, v2, by omega, by go_num, H1.out.box, ?_, ?_, H1.out.below, H1.out.res⟩
              · have e1 : readsOf e = [argP e] := by simp [readsOf, hop, HF.out]
                rw [HSR.out, e1]
                exact H1.out.o1
              · have e2 : writesOf e = [] := by simp [writesOf, hop, HF.out]
                rw [HSW.out, e2]
                exact H1.out.o2
            case measure => simp [intOf]; omega
          · have hop : e.op = 63 := eq_of_beq (by assumption)
            go_wp2_with (go_at_call 22; refine (put_calls (Q) hokR.out.ok _ (argP_ok e) v1 _ _ HRW.out.o1 (by omega)).mono ?_; rintro e' X1 ⟨u1, rfl, hown, hb⟩; obtain ⟨Y1, hsd1, hrw, hz1⟩ := HRW.out.put1 (by omega) (by omega) ⟨by omega, by omega, by omega, by omega⟩ (by omega) hown hb; clear l1 l2 l3 l4 l5 l6 l7; obtain ⟨l1, l2, l3, l4, l5, l6, l7⟩ := hrw.loads; have H1 := Lib.hid hrw; have U1 := Lib.hid (putL_up (argP_ok e) hokR.out).1; have hlen1 := putL_len (Q) (argP e); clear hown hb hrw HRW)
            go_roundw
            case rel =>
              refine ⟨k + 1, u1, v2, by omega, by go_num, H1.out.box, ?_, ?_, H1.out.below, H1.out.res⟩
              · have e1 : readsOf e = [argP e] := by simp [readsOf, hop, HF.out]
                rw [HSR.out, e1]
                exact H1.out.o1
              · have e2 : writesOf e = [] := by simp [writesOf, hop, HF.out]
                rw [HSW.out, e2]
                exact H1.out.o2
            case measure => simp [intOf]; omega
          · have hop : e.op = 71 := eq_of_beq (by assumption)
            go_wp2_with (go_at_call 22; refine (put_calls (Q) hokR.out.ok _ (selfP_ok HOK.out) v1 _ _ HRW.out.o1 (by omega)).mono ?_; rintro e' X1 ⟨u1, rfl, hown, hb⟩; obtain ⟨Y1, hsd1, hrw, hz1⟩ := HRW.out.put1 (by omega) (by omega) ⟨by omega, by omega, by omega, by omega⟩ (by omega) hown hb; clear l1 l2 l3 l4 l5 l6 l7; obtain ⟨l1, l2, l3, l4, l5, l6, l7⟩ := hrw.loads; have H1 := Lib.hid hrw; have U1 := Lib.hid (putL_up (selfP_ok HOK.out) hokR.out).1; have hlen1 := putL_len (Q) (selfP e); clear hown hb hrw HRW)
            go_roundw
            case rel =>
              refine ⟨k + 1, u1, v2, by omega, by go_num, H1.out.box, ?_, ?_, H1.out.below, H1.out.res⟩
              · have e1 : readsOf e = [selfP e] := by simp [readsOf, hop, HF.out]
                rw [HSR.out, e1]
                exact H1.out.o1
              · have e2 : writesOf e = [] := by simp [writesOf, hop, HF.out]
                rw [HSW.out, e2]
                exact H1.out.o2
            case measure => simp [intOf]; omega
          · have hop : e.op = 241 := eq_of_beq (by assumption)
            go_wp2_with (go_at_call 22; refine (put_calls (Q) hokR.out.ok _ (argP_ok e) v1 _ _ HRW.out.o1 (by omega)).mono ?_; rintro e' X1 ⟨u1, rfl, hown, hb⟩; obtain ⟨Y1, hsd1, hrw, hz1⟩ := HRW.out.put1 (by omega) (by omega) ⟨by omega, by omega, by omega, by omega⟩ (by omega) hown hb; clear l1 l2 l3 l4 l5 l6 l7; obtain ⟨l1, l2, l3, l4, l5, l6, l7⟩ := hrw.loads; have H1 := Lib.hid hrw; have U1 := Lib.hid (putL_up (argP_ok e) hokR.out).1; have hlen1 := putL_len (Q) (argP e); clear hown hb hrw HRW)
            go_roundw
            case rel =>
              refine ⟨k + 1, u1, v2, by omega, by go_num, H1.out.box, ?_, ?_, H1.out.below, H1.out.res⟩
              · have e1 : readsOf e = [argP e] := by simp [readsOf, hop, HF.out, HV.out]
                rw [HSR.out, e1]
                exact H1.out.o1
              · have e2 : writesOf e = [] := by simp [writesOf, hop, HF.out, HV.out]
                rw [HSW.out, e2]
                exact H1.out.o2
            case measure => simp [intOf]; omega
          · have hop : e.op = 242 := eq_of_beq (by assumption)
            go_wp2_with (go_at_call 22; refine (put_calls (Q) hokR.out.ok _ (argP_ok e) v1 _ _ HRW.out.o1 (by omega)).mono ?_; rintro e' X1 ⟨u1, rfl, hown, hb⟩; obtain ⟨Y1, hsd1, hrw, hz1⟩ := HRW.out.put1 (by omega) (by omega) ⟨by omega, by omega, by omega, by omega⟩ (by omega) hown hb; clear l1 l2 l3 l4 l5 l6 l7; obtain ⟨l1, l2, l3, l4, l5, l6, l7⟩ := hrw.loads; have H1 := Lib.hid hrw; have U1 := Lib.hid (putL_up (argP_ok e) hokR.out).1; have hlen1 := putL_len (Q) (argP e); clear hown hb hrw HRW)
            go_roundw
            case rel =>
              refine ⟨k + 1, u1, v2, by omega, by go_num, H1.out.box, ?_, ?_, H1.out.below, H1.out.res⟩
              · have e1 : readsOf e = [argP e] := by simp [readsOf, hop, HF.out, HV.out]
                rw [HSR.out, e1]
                exact H1.out.o1
              · have e2 : writesOf e = [] := by simp [writesOf, hop, HF.out, HV.out]
                rw [HSW.out, e2]
                exact H1.out.o2
            case measure => simp [intOf]; omega
          · have hop : e.op = 244 := eq_of_beq (by assumption)
            go_wp2_with (go_at_call 22; refine (put_calls (Q) hokR.out.ok _ (argP_ok e) v1 _ _ HRW.out.o1 (by omega)).mono ?_; rintro e' X1 ⟨u1, rfl, hown, hb⟩; obtain ⟨Y1, hsd1, hrw, hz1⟩ := HRW.out.put1 (by omega) (by omega) ⟨by omega, by omega, by omega, by omega⟩ (by omega) hown hb; clear l1 l2 l3 l4 l5 l6 l7; obtain ⟨l1, l2, l3, l4, l5, l6, l7⟩ := hrw.loads; have H1 := Lib.hid hrw; have U1 := Lib.hid (putL_up (argP_ok e) hokR.out).1; have hlen1 := putL_len (Q) (argP e); clear hown hb hrw HRW)
            go_roundw
            case rel =>
              refine ⟨k + 1, u1, v2, by omega, by go_num, H1.out.box, ?_, ?_, H1.out.below, H1.out.res⟩
              · have e1 : readsOf e = [argP e] := by simp [readsOf, hop, HF.out, HV.out]
                rw [HSR.out, e1]
                exact H1.out.o1
              · have e2 : writesOf e = [] := by simp [writesOf, hop, HF.out, HV.out]
                rw [HSW.out, e2]
                exact H1.out.o2
            case measure => simp [intOf]; omega
          · have hop : e.op = 250 := eq_of_beq (by assumption)
            go_wp2_with (go_at_call 22; refine (put_calls (Q) hokR.out.ok _ (argP_ok e) v1 _ _ HRW.out.o1 (by omega)).mono ?_; rintro e' X1 ⟨u1, rfl, hown, hb⟩; obtain ⟨Y1, hsd1, hrw, hz1⟩ := HRW.out.put1 (by omega) (by omega) ⟨by omega, by omega, by omega, by omega⟩ (by omega) hown hb; clear l1 l2 l3 l4 l5 l6 l7; obtain ⟨l1, l2, l3, l4, l5, l6, l7⟩ := hrw.loads; have H1 := Lib.hid hrw; have U1 := Lib.hid (putL_up (argP_ok e) hokR.out).1; have hlen1 := putL_len (Q) (argP e); clear hown hb hrw HRW)
            go_roundw
            case rel =>
              refine ⟨k + 1, u1, v2, by omega, by go_num, H1.out.box, ?_, ?_, H1.out.below, H1.out.res⟩
              · have e1 : readsOf e = [argP e] := by simp [readsOf, hop, HF.out, HV.out]
                rw [HSR.out, e1]
                exact H1.out.o1
              · have e2 : writesOf e = [] := by simp [writesOf, hop, HF.out, HV.out]
                rw [HSW.out, e2]
                exact H1.out.o2
            case measure => simp [intOf]; omega
          · have hop : e.op = 240 := eq_of_beq (by assumption)
            go_wp2_with (go_at_call 22; refine (put_calls (R) hokW.out.ok _ (argP_ok e) v2 _ _ HRW.out.o2 (by omega)).mono ?_; rintro e' X1 ⟨u1, rfl, hown, hb⟩; obtain ⟨Y1, hsd1, hrw, hz1⟩ := HRW.out.put2 (by omega) (by omega) ⟨by omega, by omega, by omega, by omega⟩ (by omega) hown hb; clear l1 l2 l3 l4 l5 l6 l7; obtain ⟨l1, l2, l3, l4, l5, l6, l7⟩ := hrw.loads; have H1 := Lib.hid hrw; have U1 := Lib.hid (putL_up (argP_ok e) hokW.out).1; have hlen1 := putL_len (R) (argP e); clear hown hb hrw HRW)
            go_wp2_with (go_at_call 22; refine (put_calls (putL (R) (argP e)) U1.out.ok _ (selfP_ok HOK.out) u1 _ _ H1.out.o2 (by omega)).mono ?_; rintro e' X2 ⟨u2, rfl, hown, hb⟩; obtain ⟨Y2, hsd2, hrw, hz2⟩ := H1.out.put2 (by omega) (by omega) ⟨by omega, by omega, by omega, by omega⟩ (by omega) hown hb; clear l1 l2 l3 l4 l5 l6 l7; obtain ⟨l1, l2, l3, l4, l5, l6, l7⟩ := hrw.loads; have H2 := Lib.hid hrw; have U2 := Lib.hid (putL_up (selfP_ok HOK.out) U1.out).1; have hlen2 := putL_len (putL (R) (argP e)) (selfP e); clear hown hb hrw H1)
            go_roundw
            case rel =>
              refine ⟨k + 1, v1, u2, by omega, by go_num, H2.out.box, ?_, ?_, H2.out.below, H2.out.res⟩
              · have e1 : readsOf e = [] := by simp [readsOf, hop, HF.out]
                rw [HSR.out, e1]
                exact H2.out.o1
              · have e2 : writesOf e = [argP e, selfP e] := by simp [writesOf, hop, HF.out]
                rw [HSW.out, e2]
                exact H2.out.o2
            case measure => simp [intOf]; omega
          · have hop : e.op = 245 := eq_of_beq (by assumption)
            go_wp2_with (go_at_call 22; refine (put_calls (R) hokW.out.ok _ (argP_ok e) v2 _ _ HRW.out.o2 (by omega)).mono ?_; rintro e' X1 ⟨u1, rfl, hown, hb⟩; obtain ⟨Y1, hsd1, hrw, hz1⟩ := HRW.out.put2 (by omega) (by omega) ⟨by omega, by omega, by omega, by omega⟩ (by omega) hown hb; clear l1 l2 l3 l4 l5 l6 l7; obtain ⟨l1, l2, l3, l4, l5, l6, l7⟩ := hrw.loads; have H1 := Lib.hid hrw; have U1 := Lib.hid (putL_up (argP_ok e) hokW.out).1; have hlen1 := putL_len (R) (argP e); clear hown hb hrw HRW)
            go_wp2_with (go_at_call 22; refine (put_calls (putL (R) (argP e)) U1.out.ok _ (selfP_ok HOK.out) u1 _ _ H1.out.o2 (by omega)).mono ?_; rintro e' X2 ⟨u2, rfl, hown, hb⟩; obtain ⟨Y2, hsd2, hrw, hz2⟩ := H1.out.put2 (by omega) (by omega) ⟨by omega, by omega, by omega, by omega⟩ (by omega) hown hb; clear l1 l2 l3 l4 l5 l6 l7; obtain ⟨l1, l2, l3, l4, l5, l6, l7⟩ := hrw.loads; have H2 := Lib.hid hrw; have U2 := Lib.hid (putL_up (selfP_ok HOK.out) U1.out).1; have hlen2 := putL_len (putL (R) (argP e)) (selfP e); clear hown hb hrw H1)
            go_roundw
            case rel =>
              refine ⟨k + 1, v1, u2, by omega, by go_num, H2.out.box, ?_, ?_, H2.out.below, H2.out.res⟩
              · have e1 : readsOf e = [] := by simp [readsOf, hop, HF.out]
                rw [HSR.out, e1]
                exact H2.out.o1
              · have e2 : writesOf e = [argP e, selfP e] := by simp [writesOf, hop, HF.out]
                rw [HSW.out, e2]
                exact H2.out.o2
            case measure => simp [intOf]; omega
          · have hop : e.op = 255 := eq_of_beq (by assumption)
            go_wp2_with (go_at_call 22; refine (put_calls (R) hokW.out.ok _ (argP_ok e) v2 _ _ HRW.out.o2 (by omega)).mono ?_; rintro e' X1 ⟨u1, rfl, hown, hb⟩; obtain ⟨Y1, hsd1, hrw, hz1⟩ := HRW.out.put2 (by omega) (by omega) ⟨by omega, by omega, by omega, by omega⟩ (by omega) hown hb; clear l1 l2 l3 l4 l5 l6 l7; obtain ⟨l1, l2, l3, l4, l5, l6, l7⟩ := hrw.loads; have H1 := Lib.hid hrw; have U1 := Lib.hid (putL_up (argP_ok e) hokW.out).1; have hlen1 := putL_len (R) (argP e); clear hown hb hrw HRW)
            go_wp2_with (go_at_call 22; refine (put_calls (putL (R) (argP e)) U1.out.ok _ (selfP_ok HOK.out) u1 _ _ H1.out.o2 (by omega)).mono ?_; rintro e' X2 ⟨u2, rfl, hown, hb⟩; obtain ⟨Y2, hsd2, hrw, hz2⟩ := H1.out.put2 (by omega) (by omega) ⟨by omega, by omega, by omega, by omega⟩ (by omega) hown hb; clear l1 l2 l3 l4 l5 l6 l7; obtain ⟨l1, l2, l3, l4, l5, l6, l7⟩ := hrw.loads; have H2 := Lib.hid hrw; have U2 := Lib.hid (putL_up (selfP_ok HOK.out) U1.out).1; have hlen2 := putL_len (putL (R) (argP e)) (selfP e); clear hown hb hrw H1)
            go_roundw
            case rel =>
              refine ⟨k + 1, v1, u2, by omega, by go_num, H2.out.box, ?_, ?_, H2.out.below, H2.out.res⟩
              · have e1 : readsOf e = [] := by simp [readsOf, hop, HF.out]
                rw [HSR.out, e1]
                exact H2.out.o1
              · have e2 : writesOf e = [argP e, selfP e] := by simp [writesOf, hop, HF.out]
                rw [HSW.out, e2]
                exact H2.out.o2
            case measure => simp [intOf]; omega
          · have n84 := beq_eq_false_iff_ne.1 (show (e.op == 84) = false by assumption)
            have n85 := beq_eq_false_iff_ne.1 (show (e.op == 85) = false by assumption)
            have n49 := beq_eq_false_iff_ne.1 (show (e.op == 49) = false by assumption)
            have n59 := beq_eq_false_iff_ne.1 (show (e.op == 59) = false by assumption)
            have n60 := beq_eq_false_iff_ne.1 (show (e.op == 60) = false by assumption)
            have n63 := beq_eq_false_iff_ne.1 (show (e.op == 63) = false by assumption)
            have n71 := beq_eq_false_iff_ne.1 (show (e.op == 71) = false by assumption)
            have n241 := beq_eq_false_iff_ne.1 (show (e.op == 241) = false by assumption)
            have n242 := beq_eq_false_iff_ne.1 (show (e.op == 242) = false by assumption)
            have n244 := beq_eq_false_iff_ne.1 (show (e.op == 244) = false by assumption)
            have n250 := beq_eq_false_iff_ne.1 (show (e.op == 250) = false by assumption)
            have n240 := beq_eq_false_iff_ne.1 (show (e.op == 240) = false by assumption)
            have n245 := beq_eq_false_iff_ne.1 (show (e.op == 245) = false by assumption)
            have n255 := beq_eq_false_iff_ne.1 (show (e.op == 255) = false by assumption)
            go_roundw
            case rel =>
              refine ⟨k + 1, v1, v2, by omega, by go_num, HRW.out.box, ?_, ?_, HRW.out.below, HRW.out.res⟩
              · have e1 : readsOf e = [] := by simp [readsOf, HF.out, n84, n85, n49, n59, n60, n63, n71, n241, n242, n244, n250, n240, n245, n255]
                rw [HSR.out, e1]
                exact HRW.out.o1
              · have e2 : writesOf e = [] := by simp [writesOf, HF.out, n84, n85, n49, n59, n60, n63, n71, n241, n242, n244, n250, n240, n245, n255]
                rw [HSW.out, e2]
                exact HRW.out.o2
            case measure => simp [intOf]; omega
        -- END
      · have HF := Lib.hid hfault
        have hfb : (e.fault != 0) = true := by simp [hfault]
        clear hfault
        go_wp2
        go_roundw
        case rel =>
          refine ⟨k + 1, v1, v2, by omega, by go_num, HRB1.out.box, ?_, ?_, HRB1.out.below, HRB1.out.res⟩
          · have e1 : readsOf e = [] := by simp [readsOf, HF.out]
            rw [HSR.out, e1]
            exact HRB1.out.o1
          · have e2 : writesOf e = [] := by simp [writesOf, HF.out]
            rw [HSW.out, e2]
            exact HRB1.out.o2
        case measure => simp [intOf]; omega
    · obtain rfl : k = L.length := by omega
      rw [List.take_length] at ho1 ho2
      have l0 : LD 28 (.pointer (some ⟨w.heap.size + 1, 0, none⟩)) wr = .ok (.agg #[v1, v2]) wr := LD_range (cs := [v1, v2]) (range_block hbox) Try.underlying28 rfl (by kernel_rfl)
      have l1 : SD 28 (.pointer (some ⟨w.heap.size, 0, none⟩)) (.agg #[v1, v2]) wr = .ok () (wr.setCells w.heap.size 0 [v1, v2]) := SD_there (cs := [v1, v2]) (there_block hres (by simp)) (by kernel_rfl) (by
        intro u hu
        simp at hu
        rcases hu with rfl | rfl
        · exact own_val ho1
        · exact own_val ho2)
      have hc := range_block (cs := [v1, v2]) (setCells_whole hres [v1, v2] rfl)
      have o1 : (wr.setCells w.heap.size 0 [v1, v2]).ownsRow (w.heap.size + 2) 50 25 v1 (refR L).length ((refR L).flatMap plC) := own_set (own_set ho1 (by omega) _ _) (by omega) _ _
      have o2 : (wr.setCells w.heap.size 0 [v1, v2]).ownsRow (w.heap.size + 2) 50 25 v2 (refW L).length ((refW L).flatMap plC) := own_set (own_set ho2 (by omega) _ _) (by omega) _ _
      have hb := below_setCells hB (Nat.le_refl _) 0 [v1, v2]
      generalize wr.setCells w.heap.size 0 [v1, v2] = wz at *
      have HC := Lib.hid hc
      have O1 := Lib.hid (plRow_own o1)
      have O2 := Lib.hid (plRow_own o2)
      have HB := Lib.hid hb
      clear hbox ho1 ho2 hB hres hc o1 o2 hb
      go_wp2
      exact ret_cell (cs := [v1, v2]) rfl rfl HC.out Try.underlying28 rfl (by kernel_rfl) rfl ⟨_, rfl, ⟨v1, v2, rfl, O1.out, O2.out⟩, HB.out⟩
end Go.Proofs.Ytbkhldaomalmoaa
