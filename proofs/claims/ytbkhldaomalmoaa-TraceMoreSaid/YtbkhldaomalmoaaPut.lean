/- quaestorref14.Put: a place among others that rise. -/
import Derived.Test.YtbkhldaomalmoaaLess
import Derived.Test.YtbkhldaomalmoaaBuild
namespace Go.Proofs.Ytbkhldaomalmoaa
open Go.RowKit
attribute [local go_sem] wV
attribute [local go_sem ↓] exec_loadP exec_buildP
attribute [local go_sem] BS_one BS_two

def putStep (p : Pl) (s : List Pl × Bool) (x : Pl) : List Pl × Bool :=
  ((if !s.2 && decide (p.code < x.code) then s.1 ++ [p] else s.1) ++ [x], (s.2 || decide (p.code < x.code)) || decide (x = p))
def putFold (p : Pl) (L : List Pl) : List Pl × Bool := L.foldl (putStep p) ([], false)
def putL (L : List Pl) (p : Pl) : List Pl := if (putFold p L).2 then (putFold p L).1 else (putFold p L).1 ++ [p]
theorem putFold_snoc (p : Pl) (L : List Pl) (x : Pl) : putFold p (L ++ [x]) = putStep p (putFold p L) x := by simp [putFold, List.foldl_append]
theorem putFold_len0 (p : Pl) : ∀ (L : List Pl) (s : List Pl × Bool), (L.foldl (putStep p) s).1.length + (if s.2 then 1 else 0) ≤ s.1.length + L.length + (if (L.foldl (putStep p) s).2 then 1 else 0)
  | [], s => by simp only [List.foldl_nil, List.length_nil]; exact Nat.le_refl _
  | x :: L, s => by
    have ih := putFold_len0 p L (putStep p s x)
    rw [List.foldl_cons, List.length_cons]
    have : (putStep p s x).1.length + (if s.2 then 1 else 0) ≤ s.1.length + 1 + (if (putStep p s x).2 then 1 else 0) := by
      unfold putStep
      cases s.2 <;> cases decide (p.code < x.code) <;> cases decide (x = p) <;> simp
    omega
theorem putFold_len (p : Pl) (L : List Pl) : (putFold p L).1.length ≤ L.length + 1 := by
  have := putFold_len0 p L ([], false)
  unfold putFold
  have h2 : (if (List.foldl (putStep p) ([], false) L).2 then 1 else 0) ≤ 1 := by split <;> omega
  have h3 : ([] : List Pl).length = 0 := rfl
  simp only [Bool.false_eq_true, if_false] at this
  omega
theorem take_snoc {α : Type} (L : List α) (k : Nat) (x : α) (h : L[k]? = some x) : L.take (k + 1) = L.take k ++ [x] := by
  obtain ⟨hk, rfl⟩ := List.getElem?_eq_some_iff.1 h
  rw [List.take_succ_eq_append_getElem hk]
theorem flat_len (L : List Pl) : (L.flatMap plC).length = L.length * 25 := by
  induction L with
  | nil => rfl
  | cons x L ih => rw [List.flatMap_cons, List.length_append, ih, plC_len, List.length_cons]; omega
theorem flat_get (L : List Pl) (k : Nat) (x : Pl) (h : L[k]? = some x) (j : Nat) (u : Value) (hu : (plC x)[j]? = some u) : (L.flatMap plC)[k * 25 + j]? = some u := by
  obtain ⟨hk, rfl⟩ := List.getElem?_eq_some_iff.1 h
  have hj : j < 25 := by have := (List.getElem?_eq_some_iff.1 hu).1; rwa [plC_len] at this
  have e : L = L.take k ++ (L[k] :: L.drop (k + 1)) := by simp
  rw [e, List.flatMap_append, List.flatMap_cons, List.getElem?_append_right (by rw [flat_len, List.length_take]; omega), flat_len, List.length_take, Nat.min_eq_left (by omega), show k * 25 + j - k * 25 = j by omega, List.getElem?_append_left (by rw [plC_len]; exact hj)]
  simpa using hu
/-- what a row of places holds at k -/
theorem row_range {w : World} {g : Nat} {L : List Pl} (h : ∀ j u, (L.flatMap plC)[j]? = some u → w.cell? ⟨g, j, none⟩ = some u) (k : Nat) (x : Pl) (hx : L[k]? = some x) : w.rangeAt g (k * 25) (plC x) := fun j v hv => h _ v (flat_get L k x hx j v hv)
theorem news_block {w : World} {cs : List Value} {t : TypeId} (j : Nat) (u : Value) (h : cs[j]? = some u) : (w.alloc (.cells cs.toArray t)).cell? ((⟨w.heap.size, 0, none⟩ : Addr).add j) = some u := by
  rw [Addr.add_mid, Nat.zero_add]
  exact cell_in (at_new _ _ rfl) j (by simpa using h)
/-- behind an append: below the row's base all is as it was -/
theorem ap_below {B base : Nat} {w wr w1 : World} {e : TypeId} {size : Nat} {v : Value} {n : Nat} {xs : List Value} {o : Obj} (hB : Below B w wr) (hBs : B ≤ wr.heap.size) (h : wr.ownsRow base e size v n xs) (hbase : B ≤ base) (hg : (wr.alloc o).grownBy w1 v.ownBlock) : Below B w w1 ∧ B ≤ w1.heap.size :=
  ⟨(ap_step hB hBs h hbase hg).1, by have := (ap_step hB hBs h hbase hg).2.2; omega⟩

noncomputable def zP : Value := ((Try.prog.info? 50).bind (·.zero)).getD .nilIface
theorem info_pl : (Try.prog.info? 50).map (fun i => (i.zero, i.size, i.bytes)) = some (some zP, 25, 56) := by kernel_rfl
theorem zP_size : zP.cells.size = 25 := by kernel_rfl

theorem own_below {w w1 : World} {base : Nat} {e : TypeId} {size : Nat} {v : Value} {n : Nat} {xs : List Value} (h : w.ownsRow base e size v n xs) (hb : Below w.heap.size w w1) : w1.ownsRow base e size v n xs :=
  h.kept (row := none) ⟨hb.os, hb.tape, hb.output, hb.size, fun k hk _ => hb.block k hk⟩ (by cases v.ownBlock <;> simp)
theorem own_drew {w : World} {base : Nat} {e : TypeId} {size : Nat} {v : Value} {n : Nat} {xs : List Value} (h : w.ownsRow base e size v n xs) : w.drew.ownsRow base e size v n xs := h
theorem size_drew (w : World) : w.drew.heap.size = w.heap.size := rfl
theorem news_drew {w : World} {cs : List Value} {t : TypeId} (j : Nat) (u : Value) (h : cs[j]? = some u) : (w.alloc (.cells cs.toArray t)).drew.cell? ((⟨w.heap.size, 0, none⟩ : Addr).add j) = some u := news_block j u h

set_option maxRecDepth 100000 in
set_option maxHeartbeats 8000000 in
theorem put_calls (L : List Pl) (hL : ∀ x ∈ L, x.Ok) (p : Pl) (hp : p.Ok) (v : Value) (base : Nat) (w : World) (hown : w.ownsRow base 50 25 v L.length (L.flatMap plC)) (hn : L.length < 2147483648) :
    Calls Try.prog 22 #[v, plV p] w fun e w' => ∃ v', e = .returned v' ∧ w'.ownsRow (w.heap.size + 1) 50 25 v' (putL L p).length ((putL L p).flatMap plC) ∧ Below w.heap.size w w' := by
  obtain ⟨i0, hi, hz0, hz1, hz2⟩ := info_parts info_pl
  have hlp := plC_len p
  have HP := Lib.hid hp
  have HO := Lib.hid hown
  have HL := Lib.hid hL
  clear hp hown hL
  have hform : ∃ a c, v = .slice a L.length c := by
    rcases HO.out.2 with ⟨h1, h2⟩ | ⟨g, cap, cur, h1, _⟩
    · exact ⟨none, 0, by rw [h2]; exact h1⟩
    · exact ⟨_, _, h1⟩
  obtain ⟨a, c, rfl⟩ := hform
  unfold plV
  go_enter Try.func22, Try.ntmps22
  go_wp2
  go_loopw [5, 6, 7] (fun o d i wr => ∃ k : Nat, k ≤ L.length ∧ i = .int .i64 k ∧ d = .bool (putFold p (L.take k)).2 ∧ wr.ownsRow (w.heap.size + 1) 50 25 o (putFold p (L.take k)).1.length ((putFold p (L.take k)).1.flatMap plC) ∧ Below (w.heap.size + 1) (w.alloc (.cells (plC p).toArray 50)) wr ∧ w.heap.size + 1 ≤ wr.heap.size) (fun _ _ i _ => L.length - (intOf i).toNat)
  case atStart =>
    exact ⟨0, by omega, rfl, by simp [putFold], by simpa [putFold] using World.ownsRow_nil _ _ _ _, Below.refl _ _, by simp⟩
  case round =>
    obtain ⟨k, hk, rfl, rfl, hown, hB, hsz⟩ := hrel
    by_cases hlt : k < L.length
    · obtain ⟨g, cap, hv, hg1, hg2, hg3, hgc⟩ := own_form HO.out (by omega)
      simp only [Value.slice.injEq, true_and] at hv
      obtain ⟨rfl, rfl⟩ := hv
      obtain ⟨x, hx⟩ : ∃ x, L[k]? = some x := ⟨L[k], List.getElem?_eq_getElem hlt⟩
      have hxO := HL.out x (List.mem_of_getElem? hx)
      have rx := row_range hgc k x hx
      -- what the loads give in every world that has come of the first by what is new
      have f1 : ∀ W, Below (w.heap.size + 1) (w.alloc (.cells (plC p).toArray 50)) W → LD 50 (.pointer (some ⟨w.heap.size, 0, none⟩)) W = .ok (plV p) W := fun W h =>
        LD_place (range_block (t := 50) (fr := (0, 0)) (heap_below h (at_new _ _ rfl) (by omega)))
      have f2 : ∀ W, Below (w.heap.size + 1) (w.alloc (.cells (plC p).toArray 50)) W → LD 50 (.pointer (some ⟨g, k * 25, none⟩)) W = .ok (plV x) W := fun W h =>
        LD_place (fun j u hu => by
          have h1 := rx j u hu
          rw [h.cell (p := ⟨g, k * 25 + j, none⟩) (show g < w.heap.size + 1 by omega)]
          rw [World.cell?_alloc_lt _ _ _ hg2]
          exact h1)
      have he := fun w => eqP_bin hxO HP.out w
      have hgd := fun a b w => eqP_guard x p .eql a b w
      have hless := Lib.hid fun W => less_calls p x HP.out hxO W
      have HX := Lib.hid hx
      have HG := Lib.hid hgc
      have HXO := Lib.hid hxO
      have HOwn := Lib.hid hown
      clear hx hgc hxO rx hown
      -- CASES
      have hpl := putFold_len p (L.take k)
      have hlx := plC_len x
      have hlp := plC_len p
      have htl : (L.take k).length ≤ k := List.length_take_le _ _
      rcases hd : (putFold p (L.take k)).2 with _ | _
      · have HD := Lib.hid hd
        rcases hda : decide (p.code < x.code) with _ | _
        · rcases hde : decide (x = p) with _ | _
          · have h0 : Below (w.heap.size + 1) (w.alloc (.cells (plC p).toArray 50)) wr ∧ w.heap.size + 1 ≤ wr.heap.size := ⟨hB, hsz⟩
            clear hB hsz
            go_wp2
            go_region_held3 (fun W => Below (w.heap.size + 1) (w.alloc (.cells (plC p).toArray 50)) W ∧ w.heap.size + 1 ≤ W.heap.size) (first | assumption | exact ⟨Below.drew (And.left ‹Below _ _ _ ∧ _ ≤ _›), And.right ‹Below _ _ _ ∧ _ ≤ _›⟩ | exact ⟨below_c (And.left ‹Below _ _ _ ∧ _ ≤ _›) (by assumption) (And.right ‹Below _ _ _ ∧ _ ≤ _›), Nat.le_trans (And.right ‹Below _ _ _ ∧ _ ≤ _›) (Below.size (by assumption))⟩)
              (first | (go_at_call 40; refine (hless.out _).mono ?_; rintro e w' ⟨rfl, hg⟩))
            have HO2 := Lib.hid (own_below (own_drew HOwn.out) hg)
            have hS2 : Below (w.heap.size + 1) (w.alloc (.cells (plC p).toArray 50)) w' ∧ w.heap.size + 1 ≤ w'.heap.size := by assumption
            clear h0 hg
            go_wp2
            go_region_held3 (fun W => Below (w.heap.size + 1) (w.alloc (.cells (plC p).toArray 50)) W ∧ w.heap.size + 1 ≤ W.heap.size) (first | assumption | exact ⟨Below.drew (And.left ‹Below _ _ _ ∧ _ ≤ _›), And.right ‹Below _ _ _ ∧ _ ≤ _›⟩ | exact ⟨below_c (And.left ‹Below _ _ _ ∧ _ ≤ _›) (by assumption) (And.right ‹Below _ _ _ ∧ _ ≤ _›), Nat.le_trans (And.right ‹Below _ _ _ ∧ _ ≤ _›) (Below.size (by assumption))⟩) (fail)
            go_wp2_with (at_builtin; refine wpList_append_own _ rfl _ _ 26 rfl (w.heap.size + 1) 50 i0 zP 25 56 Try.underlying26 hi hz0 hz1 hz2 zP_size (by decide) _ _ _ rfl (own_drew (HO2.out.alloc _)) ⟨_, 0, none⟩ 1 1 (plC x) rfl ?q000b1 ?q000b2 ?q000b3 ?q000b4 ?q000b5 ?q000b6 ?_)
            case q000b1 => omega
            case q000b2 => exact fun j u hu => news_drew j u hu
            case q000b3 => exact plC_one x
            case q000b4 => unfold maxLen; omega
            case q000b5 => omega
            case q000b6 => simp; omega
            intro q000bv q000bw q000bo q000bg _
            have HO4 := Lib.hid q000bo
            have HS4 := Lib.hid (ap_below (hS2.1.drew) hS2.2 (own_drew HO2.out) (Nat.le_refl _) q000bg)
            clear q000bo q000bg
            go_wp2
            go_roundw
            case rel =>
              have ht := take_snoc L k x HX.out
              refine ⟨k + 1, by omega, by go_num, ?_, ?_, HS4.out.1, HS4.out.2⟩
              · rw [ht, putFold_snoc]; simp [putStep, HD.out, hda, hde]
              · rw [ht, putFold_snoc]
                have := HO4.out
                simpa [putStep, HD.out, hda, hde, Nat.add_assoc] using this
            case measure => simp [intOf]; omega
          · have h0 : Below (w.heap.size + 1) (w.alloc (.cells (plC p).toArray 50)) wr ∧ w.heap.size + 1 ≤ wr.heap.size := ⟨hB, hsz⟩
            clear hB hsz
            go_wp2
            go_region_held3 (fun W => Below (w.heap.size + 1) (w.alloc (.cells (plC p).toArray 50)) W ∧ w.heap.size + 1 ≤ W.heap.size) (first | assumption | exact ⟨Below.drew (And.left ‹Below _ _ _ ∧ _ ≤ _›), And.right ‹Below _ _ _ ∧ _ ≤ _›⟩ | exact ⟨below_c (And.left ‹Below _ _ _ ∧ _ ≤ _›) (by assumption) (And.right ‹Below _ _ _ ∧ _ ≤ _›), Nat.le_trans (And.right ‹Below _ _ _ ∧ _ ≤ _›) (Below.size (by assumption))⟩)
              (first | (go_at_call 40; refine (hless.out _).mono ?_; rintro e w' ⟨rfl, hg⟩))
            have HO2 := Lib.hid (own_below (own_drew HOwn.out) hg)
            have hS2 : Below (w.heap.size + 1) (w.alloc (.cells (plC p).toArray 50)) w' ∧ w.heap.size + 1 ≤ w'.heap.size := by assumption
            clear h0 hg
            go_wp2
            go_region_held3 (fun W => Below (w.heap.size + 1) (w.alloc (.cells (plC p).toArray 50)) W ∧ w.heap.size + 1 ≤ W.heap.size) (first | assumption | exact ⟨Below.drew (And.left ‹Below _ _ _ ∧ _ ≤ _›), And.right ‹Below _ _ _ ∧ _ ≤ _›⟩ | exact ⟨below_c (And.left ‹Below _ _ _ ∧ _ ≤ _›) (by assumption) (And.right ‹Below _ _ _ ∧ _ ≤ _›), Nat.le_trans (And.right ‹Below _ _ _ ∧ _ ≤ _›) (Below.size (by assumption))⟩) (fail)
            go_wp2_with (at_builtin; refine wpList_append_own _ rfl _ _ 26 rfl (w.heap.size + 1) 50 i0 zP 25 56 Try.underlying26 hi hz0 hz1 hz2 zP_size (by decide) _ _ _ rfl (own_drew (HO2.out.alloc _)) ⟨_, 0, none⟩ 1 1 (plC x) rfl ?q001b1 ?q001b2 ?q001b3 ?q001b4 ?q001b5 ?q001b6 ?_)
            case q001b1 => omega
            case q001b2 => exact fun j u hu => news_drew j u hu
            case q001b3 => exact plC_one x
            case q001b4 => unfold maxLen; omega
            case q001b5 => omega
            case q001b6 => simp; omega
            intro q001bv q001bw q001bo q001bg _
            have HO4 := Lib.hid q001bo
            have HS4 := Lib.hid (ap_below (hS2.1.drew) hS2.2 (own_drew HO2.out) (Nat.le_refl _) q001bg)
            clear q001bo q001bg
            go_wp2
            go_roundw
            case rel =>
              have ht := take_snoc L k x HX.out
              refine ⟨k + 1, by omega, by go_num, ?_, ?_, HS4.out.1, HS4.out.2⟩
              · rw [ht, putFold_snoc]; simp [putStep, HD.out, hda, hde]
              · rw [ht, putFold_snoc]
                have := HO4.out
                simpa [putStep, HD.out, hda, hde, Nat.add_assoc] using this
            case measure => simp [intOf]; omega
        · rcases hde : decide (x = p) with _ | _
          · have h0 : Below (w.heap.size + 1) (w.alloc (.cells (plC p).toArray 50)) wr ∧ w.heap.size + 1 ≤ wr.heap.size := ⟨hB, hsz⟩
            clear hB hsz
            go_wp2
            go_region_held3 (fun W => Below (w.heap.size + 1) (w.alloc (.cells (plC p).toArray 50)) W ∧ w.heap.size + 1 ≤ W.heap.size) (first | assumption | exact ⟨Below.drew (And.left ‹Below _ _ _ ∧ _ ≤ _›), And.right ‹Below _ _ _ ∧ _ ≤ _›⟩ | exact ⟨below_c (And.left ‹Below _ _ _ ∧ _ ≤ _›) (by assumption) (And.right ‹Below _ _ _ ∧ _ ≤ _›), Nat.le_trans (And.right ‹Below _ _ _ ∧ _ ≤ _›) (Below.size (by assumption))⟩)
              (first | (go_at_call 40; refine (hless.out _).mono ?_; rintro e w' ⟨rfl, hg⟩))
            have HO2 := Lib.hid (own_below (own_drew HOwn.out) hg)
            have hS2 : Below (w.heap.size + 1) (w.alloc (.cells (plC p).toArray 50)) w' ∧ w.heap.size + 1 ≤ w'.heap.size := by assumption
            clear h0 hg
            go_wp2_with (at_builtin; refine wpList_append_own _ rfl _ _ 26 rfl (w.heap.size + 1) 50 i0 zP 25 56 Try.underlying26 hi hz0 hz1 hz2 zP_size (by decide) _ _ _ rfl (HO2.out.alloc _) ⟨_, 0, none⟩ 1 1 (plC p) rfl ?q010a1 ?q010a2 ?q010a3 ?q010a4 ?q010a5 ?q010a6 ?_)
            case q010a1 => omega
            case q010a2 => exact fun j u hu => news_block j u hu
            case q010a3 => exact plC_one p
            case q010a4 => unfold maxLen; omega
            case q010a5 => omega
            case q010a6 => simp; omega
            intro q010av q010aw q010ao q010ag _
            have HO3 := Lib.hid q010ao
            have hS3 := ap_below hS2.1 hS2.2 HO2.out (Nat.le_refl _) q010ag
            clear q010ao q010ag hS2 HO2
            go_wp2
            go_region_held3 (fun W => Below (w.heap.size + 1) (w.alloc (.cells (plC p).toArray 50)) W ∧ w.heap.size + 1 ≤ W.heap.size) (first | assumption | exact ⟨Below.drew (And.left ‹Below _ _ _ ∧ _ ≤ _›), And.right ‹Below _ _ _ ∧ _ ≤ _›⟩ | exact ⟨below_c (And.left ‹Below _ _ _ ∧ _ ≤ _›) (by assumption) (And.right ‹Below _ _ _ ∧ _ ≤ _›), Nat.le_trans (And.right ‹Below _ _ _ ∧ _ ≤ _›) (Below.size (by assumption))⟩) (fail)
            go_wp2_with (at_builtin; refine wpList_append_own _ rfl _ _ 26 rfl (w.heap.size + 1) 50 i0 zP 25 56 Try.underlying26 hi hz0 hz1 hz2 zP_size (by decide) _ _ _ rfl (own_drew (HO3.out.alloc _)) ⟨_, 0, none⟩ 1 1 (plC x) rfl ?q010b1 ?q010b2 ?q010b3 ?q010b4 ?q010b5 ?q010b6 ?_)
            case q010b1 => omega
            case q010b2 => exact fun j u hu => news_drew j u hu
            case q010b3 => exact plC_one x
            case q010b4 => unfold maxLen; omega
            case q010b5 => omega
            case q010b6 => simp; omega
            intro q010bv q010bw q010bo q010bg _
            have HO4 := Lib.hid q010bo
            have HS4 := Lib.hid (ap_below (hS3.1.drew) hS3.2 (own_drew HO3.out) (Nat.le_refl _) q010bg)
            clear q010bo q010bg
            go_wp2
            go_roundw
            case rel =>
              have ht := take_snoc L k x HX.out
              refine ⟨k + 1, by omega, by go_num, ?_, ?_, HS4.out.1, HS4.out.2⟩
              · rw [ht, putFold_snoc]; simp [putStep, HD.out, hda, hde]
              · rw [ht, putFold_snoc]
                have := HO4.out
                simpa [putStep, HD.out, hda, hde, Nat.add_assoc] using this
            case measure => simp [intOf]; omega
          · have h0 : Below (w.heap.size + 1) (w.alloc (.cells (plC p).toArray 50)) wr ∧ w.heap.size + 1 ≤ wr.heap.size := ⟨hB, hsz⟩
            clear hB hsz
            go_wp2
            go_region_held3 (fun W => Below (w.heap.size + 1) (w.alloc (.cells (plC p).toArray 50)) W ∧ w.heap.size + 1 ≤ W.heap.size) (first | assumption | exact ⟨Below.drew (And.left ‹Below _ _ _ ∧ _ ≤ _›), And.right ‹Below _ _ _ ∧ _ ≤ _›⟩ | exact ⟨below_c (And.left ‹Below _ _ _ ∧ _ ≤ _›) (by assumption) (And.right ‹Below _ _ _ ∧ _ ≤ _›), Nat.le_trans (And.right ‹Below _ _ _ ∧ _ ≤ _›) (Below.size (by assumption))⟩)
              (first | (go_at_call 40; refine (hless.out _).mono ?_; rintro e w' ⟨rfl, hg⟩))
            have HO2 := Lib.hid (own_below (own_drew HOwn.out) hg)
            have hS2 : Below (w.heap.size + 1) (w.alloc (.cells (plC p).toArray 50)) w' ∧ w.heap.size + 1 ≤ w'.heap.size := by assumption
            clear h0 hg
            go_wp2_with (at_builtin; refine wpList_append_own _ rfl _ _ 26 rfl (w.heap.size + 1) 50 i0 zP 25 56 Try.underlying26 hi hz0 hz1 hz2 zP_size (by decide) _ _ _ rfl (HO2.out.alloc _) ⟨_, 0, none⟩ 1 1 (plC p) rfl ?q011a1 ?q011a2 ?q011a3 ?q011a4 ?q011a5 ?q011a6 ?_)
            case q011a1 => omega
            case q011a2 => exact fun j u hu => news_block j u hu
            case q011a3 => exact plC_one p
            case q011a4 => unfold maxLen; omega
            case q011a5 => omega
            case q011a6 => simp; omega
            intro q011av q011aw q011ao q011ag _
            have HO3 := Lib.hid q011ao
            have hS3 := ap_below hS2.1 hS2.2 HO2.out (Nat.le_refl _) q011ag
            clear q011ao q011ag hS2 HO2
            go_wp2
            go_region_held3 (fun W => Below (w.heap.size + 1) (w.alloc (.cells (plC p).toArray 50)) W ∧ w.heap.size + 1 ≤ W.heap.size) (first | assumption | exact ⟨Below.drew (And.left ‹Below _ _ _ ∧ _ ≤ _›), And.right ‹Below _ _ _ ∧ _ ≤ _›⟩ | exact ⟨below_c (And.left ‹Below _ _ _ ∧ _ ≤ _›) (by assumption) (And.right ‹Below _ _ _ ∧ _ ≤ _›), Nat.le_trans (And.right ‹Below _ _ _ ∧ _ ≤ _›) (Below.size (by assumption))⟩) (fail)
            go_wp2_with (at_builtin; refine wpList_append_own _ rfl _ _ 26 rfl (w.heap.size + 1) 50 i0 zP 25 56 Try.underlying26 hi hz0 hz1 hz2 zP_size (by decide) _ _ _ rfl (own_drew (HO3.out.alloc _)) ⟨_, 0, none⟩ 1 1 (plC x) rfl ?q011b1 ?q011b2 ?q011b3 ?q011b4 ?q011b5 ?q011b6 ?_)
            case q011b1 => omega
            case q011b2 => exact fun j u hu => news_drew j u hu
            case q011b3 => exact plC_one x
            case q011b4 => unfold maxLen; omega
            case q011b5 => omega
            case q011b6 => simp; omega
            intro q011bv q011bw q011bo q011bg _
            have HO4 := Lib.hid q011bo
            have HS4 := Lib.hid (ap_below (hS3.1.drew) hS3.2 (own_drew HO3.out) (Nat.le_refl _) q011bg)
            clear q011bo q011bg
            go_wp2
            go_roundw
            case rel =>
              have ht := take_snoc L k x HX.out
              refine ⟨k + 1, by omega, by go_num, ?_, ?_, HS4.out.1, HS4.out.2⟩
              · rw [ht, putFold_snoc]; simp [putStep, HD.out, hda, hde]
              · rw [ht, putFold_snoc]
                have := HO4.out
                simpa [putStep, HD.out, hda, hde, Nat.add_assoc] using this
            case measure => simp [intOf]; omega
      · have HD := Lib.hid hd
        rcases hda : decide (p.code < x.code) with _ | _
        · rcases hde : decide (x = p) with _ | _
          · have h0 : Below (w.heap.size + 1) (w.alloc (.cells (plC p).toArray 50)) wr ∧ w.heap.size + 1 ≤ wr.heap.size := ⟨hB, hsz⟩
            clear hB hsz
            go_wp2
            go_region_held3 (fun W => Below (w.heap.size + 1) (w.alloc (.cells (plC p).toArray 50)) W ∧ w.heap.size + 1 ≤ W.heap.size) (first | assumption | exact ⟨Below.drew (And.left ‹Below _ _ _ ∧ _ ≤ _›), And.right ‹Below _ _ _ ∧ _ ≤ _›⟩ | exact ⟨below_c (And.left ‹Below _ _ _ ∧ _ ≤ _›) (by assumption) (And.right ‹Below _ _ _ ∧ _ ≤ _›), Nat.le_trans (And.right ‹Below _ _ _ ∧ _ ≤ _›) (Below.size (by assumption))⟩)
              (first | (go_at_call 40; refine (hless.out _).mono ?_; rintro e w' ⟨rfl, hg⟩))
            have HO2 := Lib.hid (own_below (own_drew HOwn.out) hg)
            have hS2 : Below (w.heap.size + 1) (w.alloc (.cells (plC p).toArray 50)) w' ∧ w.heap.size + 1 ≤ w'.heap.size := by assumption
            clear h0 hg
            go_wp2
            go_region_held3 (fun W => Below (w.heap.size + 1) (w.alloc (.cells (plC p).toArray 50)) W ∧ w.heap.size + 1 ≤ W.heap.size) (first | assumption | exact ⟨Below.drew (And.left ‹Below _ _ _ ∧ _ ≤ _›), And.right ‹Below _ _ _ ∧ _ ≤ _›⟩ | exact ⟨below_c (And.left ‹Below _ _ _ ∧ _ ≤ _›) (by assumption) (And.right ‹Below _ _ _ ∧ _ ≤ _›), Nat.le_trans (And.right ‹Below _ _ _ ∧ _ ≤ _›) (Below.size (by assumption))⟩) (fail)
            go_wp2_with (at_builtin; refine wpList_append_own _ rfl _ _ 26 rfl (w.heap.size + 1) 50 i0 zP 25 56 Try.underlying26 hi hz0 hz1 hz2 zP_size (by decide) _ _ _ rfl (own_drew (HO2.out.alloc _)) ⟨_, 0, none⟩ 1 1 (plC x) rfl ?q100b1 ?q100b2 ?q100b3 ?q100b4 ?q100b5 ?q100b6 ?_)
            case q100b1 => omega
            case q100b2 => exact fun j u hu => news_drew j u hu
            case q100b3 => exact plC_one x
            case q100b4 => unfold maxLen; omega
            case q100b5 => omega
            case q100b6 => simp; omega
            intro q100bv q100bw q100bo q100bg _
            have HO4 := Lib.hid q100bo
            have HS4 := Lib.hid (ap_below (hS2.1.drew) hS2.2 (own_drew HO2.out) (Nat.le_refl _) q100bg)
            clear q100bo q100bg
            go_wp2
            go_roundw
            case rel =>
              have ht := take_snoc L k x HX.out
              refine ⟨k + 1, by omega, by go_num, ?_, ?_, HS4.out.1, HS4.out.2⟩
              · rw [ht, putFold_snoc]; simp [putStep, HD.out, hda, hde]
              · rw [ht, putFold_snoc]
                have := HO4.out
                simpa [putStep, HD.out, hda, hde, Nat.add_assoc] using this
            case measure => simp [intOf]; omega
          · have h0 : Below (w.heap.size + 1) (w.alloc (.cells (plC p).toArray 50)) wr ∧ w.heap.size + 1 ≤ wr.heap.size := ⟨hB, hsz⟩
            clear hB hsz
            go_wp2
            go_region_held3 (fun W => Below (w.heap.size + 1) (w.alloc (.cells (plC p).toArray 50)) W ∧ w.heap.size + 1 ≤ W.heap.size) (first | assumption | exact ⟨Below.drew (And.left ‹Below _ _ _ ∧ _ ≤ _›), And.right ‹Below _ _ _ ∧ _ ≤ _›⟩ | exact ⟨below_c (And.left ‹Below _ _ _ ∧ _ ≤ _›) (by assumption) (And.right ‹Below _ _ _ ∧ _ ≤ _›), Nat.le_trans (And.right ‹Below _ _ _ ∧ _ ≤ _›) (Below.size (by assumption))⟩)
              (first | (go_at_call 40; refine (hless.out _).mono ?_; rintro e w' ⟨rfl, hg⟩))
            have HO2 := Lib.hid (own_below (own_drew HOwn.out) hg)
            have hS2 : Below (w.heap.size + 1) (w.alloc (.cells (plC p).toArray 50)) w' ∧ w.heap.size + 1 ≤ w'.heap.size := by assumption
            clear h0 hg
            go_wp2
            go_region_held3 (fun W => Below (w.heap.size + 1) (w.alloc (.cells (plC p).toArray 50)) W ∧ w.heap.size + 1 ≤ W.heap.size) (first | assumption | exact ⟨Below.drew (And.left ‹Below _ _ _ ∧ _ ≤ _›), And.right ‹Below _ _ _ ∧ _ ≤ _›⟩ | exact ⟨below_c (And.left ‹Below _ _ _ ∧ _ ≤ _›) (by assumption) (And.right ‹Below _ _ _ ∧ _ ≤ _›), Nat.le_trans (And.right ‹Below _ _ _ ∧ _ ≤ _›) (Below.size (by assumption))⟩) (fail)
            go_wp2_with (at_builtin; refine wpList_append_own _ rfl _ _ 26 rfl (w.heap.size + 1) 50 i0 zP 25 56 Try.underlying26 hi hz0 hz1 hz2 zP_size (by decide) _ _ _ rfl (own_drew (HO2.out.alloc _)) ⟨_, 0, none⟩ 1 1 (plC x) rfl ?q101b1 ?q101b2 ?q101b3 ?q101b4 ?q101b5 ?q101b6 ?_)
            case q101b1 => omega
            case q101b2 => exact fun j u hu => news_drew j u hu
            case q101b3 => exact plC_one x
            case q101b4 => unfold maxLen; omega
            case q101b5 => omega
            case q101b6 => simp; omega
            intro q101bv q101bw q101bo q101bg _
            have HO4 := Lib.hid q101bo
            have HS4 := Lib.hid (ap_below (hS2.1.drew) hS2.2 (own_drew HO2.out) (Nat.le_refl _) q101bg)
            clear q101bo q101bg
            go_wp2
            go_roundw
            case rel =>
              have ht := take_snoc L k x HX.out
              refine ⟨k + 1, by omega, by go_num, ?_, ?_, HS4.out.1, HS4.out.2⟩
              · rw [ht, putFold_snoc]; simp [putStep, HD.out, hda, hde]
              · rw [ht, putFold_snoc]
                have := HO4.out
                simpa [putStep, HD.out, hda, hde, Nat.add_assoc] using this
            case measure => simp [intOf]; omega
        · rcases hde : decide (x = p) with _ | _
          · have h0 : Below (w.heap.size + 1) (w.alloc (.cells (plC p).toArray 50)) wr ∧ w.heap.size + 1 ≤ wr.heap.size := ⟨hB, hsz⟩
            clear hB hsz
            go_wp2
            go_region_held3 (fun W => Below (w.heap.size + 1) (w.alloc (.cells (plC p).toArray 50)) W ∧ w.heap.size + 1 ≤ W.heap.size) (first | assumption | exact ⟨Below.drew (And.left ‹Below _ _ _ ∧ _ ≤ _›), And.right ‹Below _ _ _ ∧ _ ≤ _›⟩ | exact ⟨below_c (And.left ‹Below _ _ _ ∧ _ ≤ _›) (by assumption) (And.right ‹Below _ _ _ ∧ _ ≤ _›), Nat.le_trans (And.right ‹Below _ _ _ ∧ _ ≤ _›) (Below.size (by assumption))⟩)
              (first | (go_at_call 40; refine (hless.out _).mono ?_; rintro e w' ⟨rfl, hg⟩))
            have HO2 := Lib.hid (own_below (own_drew HOwn.out) hg)
            have hS2 : Below (w.heap.size + 1) (w.alloc (.cells (plC p).toArray 50)) w' ∧ w.heap.size + 1 ≤ w'.heap.size := by assumption
            clear h0 hg
            go_wp2
            go_region_held3 (fun W => Below (w.heap.size + 1) (w.alloc (.cells (plC p).toArray 50)) W ∧ w.heap.size + 1 ≤ W.heap.size) (first | assumption | exact ⟨Below.drew (And.left ‹Below _ _ _ ∧ _ ≤ _›), And.right ‹Below _ _ _ ∧ _ ≤ _›⟩ | exact ⟨below_c (And.left ‹Below _ _ _ ∧ _ ≤ _›) (by assumption) (And.right ‹Below _ _ _ ∧ _ ≤ _›), Nat.le_trans (And.right ‹Below _ _ _ ∧ _ ≤ _›) (Below.size (by assumption))⟩) (fail)
            go_wp2_with (at_builtin; refine wpList_append_own _ rfl _ _ 26 rfl (w.heap.size + 1) 50 i0 zP 25 56 Try.underlying26 hi hz0 hz1 hz2 zP_size (by decide) _ _ _ rfl (own_drew (HO2.out.alloc _)) ⟨_, 0, none⟩ 1 1 (plC x) rfl ?q110b1 ?q110b2 ?q110b3 ?q110b4 ?q110b5 ?q110b6 ?_)
            case q110b1 => omega
            case q110b2 => exact fun j u hu => news_drew j u hu
            case q110b3 => exact plC_one x
            case q110b4 => unfold maxLen; omega
            case q110b5 => omega
            case q110b6 => simp; omega
            intro q110bv q110bw q110bo q110bg _
            have HO4 := Lib.hid q110bo
            have HS4 := Lib.hid (ap_below (hS2.1.drew) hS2.2 (own_drew HO2.out) (Nat.le_refl _) q110bg)
            clear q110bo q110bg
            go_wp2
            go_roundw
            case rel =>
              have ht := take_snoc L k x HX.out
              refine ⟨k + 1, by omega, by go_num, ?_, ?_, HS4.out.1, HS4.out.2⟩
              · rw [ht, putFold_snoc]; simp [putStep, HD.out, hda, hde]
              · rw [ht, putFold_snoc]
                have := HO4.out
                simpa [putStep, HD.out, hda, hde, Nat.add_assoc] using this
            case measure => simp [intOf]; omega
          · have h0 : Below (w.heap.size + 1) (w.alloc (.cells (plC p).toArray 50)) wr ∧ w.heap.size + 1 ≤ wr.heap.size := ⟨hB, hsz⟩
            clear hB hsz
            go_wp2
            go_region_held3 (fun W => Below (w.heap.size + 1) (w.alloc (.cells (plC p).toArray 50)) W ∧ w.heap.size + 1 ≤ W.heap.size) (first | assumption | exact ⟨Below.drew (And.left ‹Below _ _ _ ∧ _ ≤ _›), And.right ‹Below _ _ _ ∧ _ ≤ _›⟩ | exact ⟨below_c (And.left ‹Below _ _ _ ∧ _ ≤ _›) (by assumption) (And.right ‹Below _ _ _ ∧ _ ≤ _›), Nat.le_trans (And.right ‹Below _ _ _ ∧ _ ≤ _›) (Below.size (by assumption))⟩)
              (first | (go_at_call 40; refine (hless.out _).mono ?_; rintro e w' ⟨rfl, hg⟩))
            have HO2 := Lib.hid (own_below (own_drew HOwn.out) hg)
            have hS2 : Below (w.heap.size + 1) (w.alloc (.cells (plC p).toArray 50)) w' ∧ w.heap.size + 1 ≤ w'.heap.size := by assumption
            clear h0 hg
            go_wp2
            go_region_held3 (fun W => Below (w.heap.size + 1) (w.alloc (.cells (plC p).toArray 50)) W ∧ w.heap.size + 1 ≤ W.heap.size) (first | assumption | exact ⟨Below.drew (And.left ‹Below _ _ _ ∧ _ ≤ _›), And.right ‹Below _ _ _ ∧ _ ≤ _›⟩ | exact ⟨below_c (And.left ‹Below _ _ _ ∧ _ ≤ _›) (by assumption) (And.right ‹Below _ _ _ ∧ _ ≤ _›), Nat.le_trans (And.right ‹Below _ _ _ ∧ _ ≤ _›) (Below.size (by assumption))⟩) (fail)
            go_wp2_with (at_builtin; refine wpList_append_own _ rfl _ _ 26 rfl (w.heap.size + 1) 50 i0 zP 25 56 Try.underlying26 hi hz0 hz1 hz2 zP_size (by decide) _ _ _ rfl (own_drew (HO2.out.alloc _)) ⟨_, 0, none⟩ 1 1 (plC x) rfl ?q111b1 ?q111b2 ?q111b3 ?q111b4 ?q111b5 ?q111b6 ?_)
            case q111b1 => omega
            case q111b2 => exact fun j u hu => news_drew j u hu
            case q111b3 => exact plC_one x
            case q111b4 => unfold maxLen; omega
            case q111b5 => omega
            case q111b6 => simp; omega
            intro q111bv q111bw q111bo q111bg _
            have HO4 := Lib.hid q111bo
            have HS4 := Lib.hid (ap_below (hS2.1.drew) hS2.2 (own_drew HO2.out) (Nat.le_refl _) q111bg)
            clear q111bo q111bg
            go_wp2
            go_roundw
            case rel =>
              have ht := take_snoc L k x HX.out
              refine ⟨k + 1, by omega, by go_num, ?_, ?_, HS4.out.1, HS4.out.2⟩
              · rw [ht, putFold_snoc]; simp [putStep, HD.out, hda, hde]
              · rw [ht, putFold_snoc]
                have := HO4.out
                simpa [putStep, HD.out, hda, hde, Nat.add_assoc] using this
            case measure => simp [intOf]; omega
      -- END
    · obtain rfl : k = L.length := by omega
      rw [List.take_length] at hown
      have HOwn := Lib.hid hown
      have f1 : ∀ W, Below (w.heap.size + 1) (w.alloc (.cells (plC p).toArray 50)) W → LD 50 (.pointer (some ⟨w.heap.size, 0, none⟩)) W = .ok (plV p) W := fun W h =>
        LD_place (range_block (t := 50) (fr := (0, 0)) (heap_below h (at_new _ _ rfl) (by omega)))
      have hBw : Below w.heap.size w wr := (below_a (Below.refl _ _) (Nat.le_refl _) _).trans (hB.mono (by omega))
      have HBw := Lib.hid hBw
      have hpl := putFold_len p L
      have hlx := plC_len p
      clear hown hBw
      rw [List.take_length] at *
      cases hd : (putFold p L).2
      · go_wp2_with (at_builtin; refine wpList_append_own _ rfl _ _ 26 rfl (w.heap.size + 1) 50 i0 zP 25 56 Try.underlying26 hi hz0 hz1 hz2 zP_size (by decide) _ _ _ rfl (HOwn.out.alloc _) ⟨_, 0, none⟩ 1 1 (plC p) rfl ?c1 ?c2 ?c3 ?c4 ?c5 ?c6 ?_)
        case c1 => omega
        case c2 => exact fun j u hu => news_block j u hu
        case c3 => exact plC_one p
        case c4 => unfold maxLen; omega
        case c5 => omega
        case c6 => simp; omega
        intro v' w1 hown' hgrow _
        have HO' := Lib.hid hown'
        have HG := Lib.hid hgrow
        clear hown' hgrow
        go_wp2
        go_ret
        refine ⟨v', rfl, ?_, ?_⟩
        · have e : putL L p = (putFold p L).1 ++ [p] := by rw [putL, hd]; rfl
          rw [e]
          simpa using HO'.out
        · exact (ap_step HBw.out (by omega) HOwn.out (by omega) HG.out).1
      · go_wp2
        go_ret
        refine ⟨_, rfl, ?_, HBw.out⟩
        have e : putL L p = (putFold p L).1 := by rw [putL, hd]; rfl
        rw [e]
        exact HOwn.out
end Go.Proofs.Ytbkhldaomalmoaa
