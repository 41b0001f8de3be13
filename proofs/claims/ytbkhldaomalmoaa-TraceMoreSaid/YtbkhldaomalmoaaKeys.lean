/- maps.Keys over a map whose keys are places: the iterator gives each once, in some order. -/
import Derived.Test.YtbkhldaomalmoaaMapPut
import Derived.RangeFuncStops
import Derived.RangeFuncNested
import Derived.RangeFuncBound
import Derived.RangeFuncCalls
import Derived.RangeFuncLeaves
import Derived.Shelf.Abstract
import Derived.Sort.MapsRangeIn
import Derived.OwnWalkIn
import Derived.TacticsInMore
import Derived.RegionIn
import Derived.LoopNIn
import Derived.LoopIn
namespace Go.Proofs.Ytbkhldaomalmoaa
open Go.RowKit Go.Maps Go.Sort Go.Shelf
attribute [local go_sem ↓] exec_loadP exec_allocP exec_storeP semAt_loadP semAt_allocP semAt_storeP

/-- what has come of the places L, left being what is still to come -/
def CollP (L : List Pl) (left : Lit → Bool) (ps : List Pl) : Prop := ps.Nodup ∧ ∀ p, p ∈ ps ↔ (p ∈ L ∧ left (plLit p) = false)
theorem CollP.start {L : List Pl} (hL : ∀ x ∈ L, x.Ok) : CollP L (has (setP L)) [] := by
  refine ⟨List.nodup_nil, fun p => ⟨fun h => by simp at h, fun ⟨h1, h2⟩ => ?_⟩⟩
  have := (has_setP L (plLit p)).2 ⟨p, h1, rfl⟩
  rw [h2] at this; cases this
theorem CollP.step {L : List Pl} (hL : ∀ x ∈ L, x.Ok) {left : Lit → Bool} {ps : List Pl} (h : CollP L left ps) {p : Pl} (hp : p ∈ L) (hl : left (plLit p) = true) :
    CollP L (fun z => left z && !z.sameKey (plLit p)) (ps ++ [p]) := by
  refine ⟨?_, fun q => ?_⟩
  · rw [List.nodup_append]
    refine ⟨h.1, by simp, fun a ha b hb => ?_⟩
    rw [List.mem_singleton] at hb
    subst hb
    rintro rfl
    have := ((h.2 a).1 ha).2
    rw [hl] at this; cases this
  · rw [List.mem_append, List.mem_singleton, h.2 q]
    constructor
    · rintro (⟨h1, h2⟩ | rfl)
      · exact ⟨h1, by simp [h2]⟩
      · exact ⟨hp, by simp [WideAt.sameKey_self (keyed.key (key_lit q))]⟩
    · rintro ⟨h1, h2⟩
      by_cases e : q = p
      · exact .inr e
      · refine .inl ⟨h1, ?_⟩
        have h3 := sameKey_ne (fun e' => e (plLit_inj (hL q h1) (hL p hp) e'))
        simpa [h3] using h2

set_option maxRecDepth 100000 in
set_option maxHeartbeats 1000000 in
theorem keys1_in (F : Fence) (n : Nat) (h10 : F.fn 33) (hro : F.round = none) (hn : 1 ≤ n) (l Bm b nn : Nat) (L : List Pl) (hL : ∀ x ∈ L, x.Ok) (J Jx : List Pl → World → Prop)
    (hY : ∀ pre x W, J pre W → pre.length < nn → YieldAt F (n - 1) Try.prog l #[plV x] W fun e W' =>
      (e = .returned (.bool true) ∧ J (pre ++ [x]) W' ∧ KeepsWalks W W') ∨ (e = .returned (.bool false) ∧ Jx (pre ++ [x]) W'))
    (W : World) (hJ : AbidesFrom W.heap.size J) (hm : W.cell? ⟨Bm, 0, none⟩ = some (.map (some b))) (hown : OwnsP W b nn L) (h0 : J [] W) :
    CallsIn F n Try.prog 33 #[.func (.yield l) #[] #[], .pointer (some ⟨Bm, 0, none⟩)] W fun e W' => (∃ v, e = .returned v) ∧
      ((∃ ps : List Pl, (ps.Nodup ∧ ∀ x, x ∈ ps ↔ x ∈ L) ∧ J ps W') ∨ (∃ pre : List Pl, True ∧ Jx pre W')) := by
  refine callsIn_of_wp Try.func33 rfl h10 ?_ hro
  simp only [Try.ntmps33, List.size_toArray, List.length_cons, List.length_nil, Nat.reduceAdd, Nat.reduceSub, Array.replicate_succ, Array.replicate_zero, List.push_toArray, List.append_toArray, List.nil_append, List.cons_append]
  have hsz : Maps.size (setP L) ≤ nn := hown.size_le
  have hown' : W.ownsMap Try.prog 50 (unitElem (H := Unit)) b nn (setP L) := hown
  gi_wp2_with (first
    | (gi_at_range; refine wpListIn_range_own _ rfl _ 48 rfl 50 57 keyed Try.underlying48 _ b nn _ rfl hown' ?_; intro w0 hrg0 hg0 hs0)
    | gi_in)
  go_frame
  gi_loopw [3] (fun _ wr => ∃ (left : Lit → Bool) (cnt : Nat) (ps : List Pl), wr.ranges Try.prog 50 (unitElem (H := Unit)) b W.heap.size nn (setP L) left cnt ∧ ps.length + cnt ≤ nn ∧ CollP L left ps ∧ J ps wr)
    (fun _ wr => wr.rangeLeft b W.heap.size)
  case atStart =>
    exact ⟨_, _, [], hrg0, by simpa using hsz, CollP.start hL, hJ [] W w0 none h0 hg0 (fun r e => by cases e)⟩
  case round =>
    obtain ⟨left, cnt, ps, hrg, hcs, hC, hJs⟩ := hrel
    gi_wp2_with (first
      | (gi_at_next; refine wpListIn_next_ranges _ rfl _ rfl 50 keyed (unitElem (H := Unit)) (id : Value → Value) (id : Value → Value) (fun key kl hk => ⟨key, rfl⟩) (fun v y hv => ⟨v, rfl⟩) b W.heap.size nn _ _ _ rfl hrg ?_ ?_)
      | gi_in)
    · -- nothing is left
      intro hc0 hl0
      gi_wp2
      go_end0
      exact ⟨⟨_, rfl⟩, .inl ⟨ps, ⟨hC.1, fun x => by rw [hC.2 x, hl0]; simp⟩, hJs⟩⟩
    · -- an entry has come
      intro key c kl yd yp w2 cnt2 hkey hlk hv hat hrg2 hlt hg2 hs2 hen
      obtain ⟨p, hp, rfl⟩ := (has_setP L kl).1 (Maps.has_true_of_atKey hat)
      obtain rfl : key = plV p := keyed.inj hkey (key_lit p)
      obtain ⟨rfl, -⟩ := unitElem_inv hv
      have hJ2 : J ps w2 := hJ ps wr w2 (some W.heap.size) hJs hg2 (fun r e => by cases e; exact ⟨Nat.le_refl _, hrg.iter_walk⟩)
      have hJ3 : J ps (w2.alloc (.cells (plC p).toArray 50)) := hJ ps w2 _ none hJ2 (World.grownBy_alloc _ _ _) (fun r e => by cases e)
      obtain ⟨fn, tmps, assign, body, hy, hR⟩ := hY ps p _ hJ3 (by omega)
      have f3 : LD 50 (.pointer (some ⟨w2.heap.size, 0, none⟩)) (w2.alloc (.cells (plC p).toArray 50)) = .ok (plV p) (w2.alloc (.cells (plC p).toArray 50)) := LD_newP rfl
      have f4 : SD 50 (.pointer (some ⟨w2.heap.size, 0, none⟩)) (plV p) (w2.alloc (.cells zPc 50)) = .ok () (w2.alloc (.cells (plC p).toArray 50)) := SD_newP rfl
      have hrg3 := hrg2.alloc (.cells (plC p).toArray 50)
      have hC2 := hC.step hL hp hlk
      have HC2 := Lib.hid hC2
      have HRG3 := Lib.hid hrg3
      have HRG := Lib.hid hrg
      have HLT := Lib.hid hlt
      clear hs2 hC2 hrg3 hrg hrg2 hlt hat hkey hv hC
      gi_wp2
      refine hR.mono ?_
      rintro e W3 (⟨rfl, hJ4, hk3⟩ | ⟨rfl, hJx3⟩)
      · gi_wp2
        have hrg4 := HRG3.out.of_walks hk3
        go_roundw
        case rel => exact ⟨_, cnt2, ps ++ [p], hrg4, by have := HLT.out; simp; omega, HC2.out, hJ4⟩
        case measure => rw [hrg4.left_eq, HRG.out.left_eq]; exact HLT.out
      · gi_wp2
        refine bodyPost_ret (results_none rfl _ _ _) rfl ?_
        exact ⟨⟨_, rfl⟩, .inr ⟨ps ++ [p], trivial, hJx3⟩⟩
/-- maps.Keys hands back a value that gives the places, each once -/
theorem keys_stops (F : Fence) (n : Nat) (h10 : F.fn 33) (hro : F.round = none) (hn : 1 ≤ n) (Bm b nn : Nat) (L : List Pl) (hL : ∀ x ∈ L, x.Ok) (w : World) (hBm : Bm < w.heap.size)
    (hm : w.cell? ⟨Bm, 0, none⟩ = some (.map (some b))) (hown : OwnsP w b nn L) :
    SeqStopsK F n Try.prog 33 #[.pointer (some ⟨Bm, 0, none⟩)] (fun p : Pl => #[plV p]) KeepsWalks (fun ps => ps.Nodup ∧ ∀ x, x ∈ ps ↔ x ∈ L) (fun _ => True) nn w := fun l J Jx W hW hJ _ hY h0 => by
  have hown' : OwnsP W b nn L := by
    have hbl := World.ownsMap.lt hown
    obtain ⟨es, clock, hb, Ft, hs, hD⟩ := hown
    exact ⟨es, clock, (hW.block b hbl).trans hb, Ft, hs, hD⟩
  exact keys1_in F n h10 hro hn l Bm b nn L hL J Jx hY W hJ ((hW.cell (p := ⟨Bm, 0, none⟩) hBm).trans hm) hown' h0
set_option maxHeartbeats 1000000 in
theorem keys_in (F : Fence) (n : Nat) (h7 : F.fn 19) (hro : F.round = none) (mb : Option Nat) (w : World) :
    CallsIn F n Try.prog 19 #[.map mb] w fun e w' => e = .returned (.func (.func 33) #[] #[.pointer (some ⟨w.heap.size, 0, none⟩)]) ∧ w' = w.alloc (.cells #[.map mb] 48) := by
  refine callsIn_of_wp Try.func19 rfl h7 ?_ hro
  simp only [Try.ntmps19, List.size_toArray, List.length_cons, List.length_nil, Nat.reduceAdd, Nat.reduceSub, Array.replicate_succ, Array.replicate_zero, List.push_toArray, List.append_toArray, List.nil_append, List.cons_append]
  gi_wp2
  go_ret
  exact ⟨rfl, rfl⟩
end Go.Proofs.Ytbkhldaomalmoaa
