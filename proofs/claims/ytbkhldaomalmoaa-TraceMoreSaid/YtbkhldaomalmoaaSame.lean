/- quaestorref00.SamePlaces, SameFoot. -/
import Derived.Test.YtbkhldaomalmoaaEvents
namespace Go.Proofs.Ytbkhldaomalmoaa
open Go.RowKit
attribute [local go_sem ↓] exec_load

/-- a slice of places -/
def PlRow (w : World) (v : Value) (L : List Pl) : Prop :=
  ∃ a c, v = .slice a L.length c ∧ L.length ≤ c ∧ (L = [] ∨ ∃ g, a = some ⟨g, 0, none⟩ ∧ g < w.heap.size ∧ ∀ k x, L[k]? = some x → w.rangeAt g (k * 25) (plC x))
theorem PlRow.below {w w' : World} {v : Value} {L : List Pl} (h : PlRow w v L) (hb : Below w.heap.size w w') : PlRow w' v L := by
  obtain ⟨a, c, h1, h2, h3⟩ := h
  refine ⟨a, c, h1, h2, ?_⟩
  rcases h3 with h3 | ⟨g, h3, h4, h5⟩
  · exact .inl h3
  · exact .inr ⟨g, h3, by have := hb.size; omega, fun k x hx => rangeAt_below (h5 k x hx) hb⟩
theorem PlRow.at {w : World} {a : Option Addr} {L : List Pl} {c : Nat} (h : PlRow w (.slice a L.length c) L) (hl : 0 < L.length) : ∃ g, a = some ⟨g, 0, none⟩ ∧ g < w.heap.size ∧ ∀ k x, L[k]? = some x → w.rangeAt g (k * 25) (plC x) := by
  obtain ⟨a', c', h1, h2, h3⟩ := h
  obtain ⟨rfl, -, rfl⟩ : a = a' ∧ True ∧ c = c' := by simpa using h1
  rcases h3 with h3 | h3
  · subst h3; simp at hl
  · exact h3
theorem plRow_own {w : World} {base : Nat} {v : Value} {L : List Pl} (h : w.ownsRow base 50 25 v L.length (L.flatMap plC)) : PlRow w v L := by
  rcases h.2 with ⟨rfl, h0⟩ | ⟨g, cap, cur, rfl, _, hb, h1, h2, h3, h4⟩
  · have : L = [] := List.eq_nil_of_length_eq_zero h0
    subst this
    exact ⟨none, 0, rfl, Nat.le_refl _, .inl rfl⟩
  · refine ⟨_, _, rfl, h1, .inr ⟨g, rfl, at_lt hb, fun k x hx => row_range (fun j u hu => ?_) k x hx⟩⟩
    rw [← h4] at hu
    have hj : j < L.length * 25 := by
      have := (List.getElem?_eq_some_iff.1 hu).1
      rw [List.length_take] at this; omega
    rw [List.getElem?_take_of_lt hj, Array.getElem?_toList] at hu
    exact cell_in hb j hu
theorem eq_take {L M : List Pl} {k : Nat} {x y : Pl} (hx : L[k]? = some x) (hy : M[k]? = some y) : L.take (k + 1) = M.take (k + 1) ↔ (L.take k = M.take k ∧ x = y) := by
  rw [take_snoc L k x hx, take_snoc M k y hy]
  constructor
  · intro h
    have hl : (L.take k).length = (M.take k).length := by have := congrArg List.length h; simpa using this
    have := List.append_inj h hl
    exact ⟨this.1, by simpa using this.2⟩
  · rintro ⟨h1, rfl⟩; rw [h1]

set_option maxRecDepth 100000 in
set_option maxHeartbeats 4000000 in
theorem samePlaces_calls (L M : List Pl) (hL : ∀ x ∈ L, x.Ok) (hM : ∀ x ∈ M, x.Ok) (u v : Value) (w : World) (hu : PlRow w u L) (hv : PlRow w v M) (hn : M.length < 1000000) :
    Calls Try.prog 15 #[u, v] w fun e w' => e = .returned (.bool (decide (L = M))) ∧ Below w.heap.size w w' := by
  obtain ⟨a, c, rfl, -, -⟩ := id hu
  obtain ⟨a', c', rfl, -, -⟩ := id hv
  have HU := Lib.hid hu
  have HV := Lib.hid hv
  have HL := Lib.hid hL
  have HM := Lib.hid hM
  clear hu hv hL hM
  by_cases hlen : L.length = M.length
  · rw [hlen] at HU ⊢
    have hlenH := Lib.hid hlen
    clear hlen
    go_enter Try.func15, Try.ntmps15
    go_wp2
    go_loopw [5] (fun i wr => ∃ k : Nat, k ≤ M.length ∧ i = .int .i64 k ∧ L.take k = M.take k ∧ Below w.heap.size w wr) (fun i _ => M.length - (intOf i).toNat)
    case atStart => exact ⟨0, by omega, rfl, by simp, Below.refl _ _⟩
    case round =>
      obtain ⟨k, hk, rfl, heq, hB⟩ := hrel
      have HE := Lib.hid heq
      clear heq
      by_cases hlt : k < M.length
      · obtain ⟨g, rfl, hg, hx⟩ := PlRow.at (c := c) (a := a) (L := L) (by rw [hlenH.out]; exact HU.out) (by have := hlenH.out; omega)
        obtain ⟨g', rfl, hg', hy⟩ := HV.out.at (by omega)
        obtain ⟨x, hxk⟩ : ∃ x, L[k]? = some x := ⟨L[k]'(by have := hlenH.out; omega), List.getElem?_eq_getElem _⟩
        obtain ⟨y, hyk⟩ : ∃ y, M[k]? = some y := ⟨M[k], List.getElem?_eq_getElem hlt⟩
        have hxO := HL.out x (List.mem_of_getElem? hxk)
        have hyO := HM.out y (List.mem_of_getElem? hyk)
        have rx := hx k x hxk
        have ry := hy k y hyk
        have f1 : ∀ W, Below w.heap.size w W → LD 50 (.pointer (some ⟨g, k * 25, none⟩)) W = .ok (plV x) W := fun W h => LD_place (rangeAt_below rx h)
        have f2 : ∀ W, Below w.heap.size w W → LD 50 (.pointer (some ⟨g', k * 25, none⟩)) W = .ok (plV y) W := fun W h => LD_place (rangeAt_below ry h)
        have he := fun w => neP_bin hxO hyO w
        have hgd := fun a b w => eqP_guard x y .neq a b w
        have HET := Lib.hid (eq_take hxk hyk)
        have HNE := Lib.hid (show ¬ x = y → ¬ L = M from fun hn h => hn (by subst h; rw [hxk] at hyk; exact Option.some.inj hyk))
        clear hx hy hxk hyk hxO hyO rx ry
        rcases hd : decide (x = y) with _ | _
        · have HD := Lib.hid hd
          go_wp2
          go_region_held3 (fun W => Below w.heap.size w W) (first | assumption | exact Below.drew (by assumption)) (fail)
          have hB2 : Below w.heap.size w wr.drew := hB.drew
          go_wp2
          go_ret
          have h2 := HNE.out (of_decide_eq_false HD.out)
          exact ⟨by rw [decide_eq_false h2]; rfl, hB2⟩
        · have HD := Lib.hid hd
          go_wp2
          go_region_held3 (fun W => Below w.heap.size w W) (first | assumption | exact Below.drew (by assumption)) (fail)
          go_wp2
          go_roundw
          case rel => exact ⟨k + 1, by omega, by go_num, HET.out.2 ⟨HE.out, of_decide_eq_true HD.out⟩, hB.drew⟩
          case measure => simp [intOf]; omega
      · obtain rfl : k = M.length := by omega
        go_wp2
        go_ret
        have h1 := HE.out
        rw [List.take_length, ← hlenH.out, List.take_length] at h1
        exact ⟨by rw [decide_eq_true h1]; rfl, hB⟩
  · go_enter Try.func15, Try.ntmps15
    go_wp2
    go_ret
    refine ⟨?_, Below.refl _ _⟩
    have : L ≠ M := fun h => hlen (by rw [h])
    rw [decide_eq_false this]; rfl
/-- what Foot holds -/
structure Foot where
  reads : List Pl
  writes : List Pl
def FtOk (f : Foot) : Prop := (∀ x ∈ f.reads, x.Ok) ∧ ∀ x ∈ f.writes, x.Ok
/-- a Foot's value -/
def FtVal (w : World) (v : Value) (f : Foot) : Prop := ∃ a b, v = .agg #[a, b] ∧ PlRow w a f.reads ∧ PlRow w b f.writes
theorem FtVal.below {w w' : World} {v : Value} {f : Foot} (h : FtVal w v f) (hb : Below w.heap.size w w') : FtVal w' v f := by
  obtain ⟨a, b, h1, h2, h3⟩ := h
  exact ⟨a, b, h1, h2.below hb, h3.below hb⟩
def footEq (f g : Foot) : Bool := decide (f.reads = g.reads) && decide (f.writes = g.writes)
end Go.Proofs.Ytbkhldaomalmoaa
