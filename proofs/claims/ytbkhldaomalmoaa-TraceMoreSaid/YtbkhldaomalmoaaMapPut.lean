/- places.put: places into a map. -/
import Derived.Test.YtbkhldaomalmoaaStore
namespace Go.Proofs.Ytbkhldaomalmoaa
open Go.RowKit Go.Maps
attribute [local go_sem ↓] exec_loadP exec_allocP exec_storeP

set_option maxRecDepth 100000 in
set_option maxHeartbeats 4000000 in
theorem mapput_calls (L ps : List Pl) (b n g : Nat) (w : World) (hm : OwnsP w b n L) (hn : n + ps.length < 1000000) (hc : w.rangeAt g 0 (ps.flatMap plC)) (hgb : g ≠ b) (hgl : g < w.heap.size) :
    Calls Try.prog 17 #[.map (some b), .slice (some ⟨g, 0, none⟩) ps.length ps.length] w fun e w' => e = .returned (.tuple #[]) ∧ OwnsP w' b (n + ps.length) (L ++ ps) ∧ w.grownBy w' (some b) := by
  have HM := Lib.hid hm
  have HC := Lib.hid hc
  clear hm hc
  go_enter Try.func17, Try.ntmps17
  go_wp2
  go_loopw [8] (fun i wr => ∃ k : Nat, k ≤ ps.length ∧ i = .int .i64 k ∧ OwnsP wr b (n + k) (L ++ ps.take k) ∧ w.grownBy wr (some b)) (fun i _ => ps.length - (intOf i).toNat)
  case atStart => exact ⟨0, by omega, rfl, by simpa using HM.out, World.grownBy.refl _ _⟩
  case round =>
    obtain ⟨k, hk, rfl, hmk, hg⟩ := hrel
    have HMk := Lib.hid hmk
    have HG := Lib.hid hg
    clear hmk hg
    by_cases hlt : k < ps.length
    · obtain ⟨x, hx⟩ : ∃ x, ps[k]? = some x := ⟨ps[k], List.getElem?_eq_getElem hlt⟩
      have f2 : LD 50 (.pointer (some ⟨g, k * 25, none⟩)) wr = .ok (plV x) wr := LD_place (fun j u hu => by
        have h1 := row_range (fun j u hu => by have := HC.out j u hu; rwa [Nat.zero_add] at this) k x hx j u hu
        exact HG.out.cell h1 (by simpa using hgb))
      have HX := Lib.hid hx
      have hkl := key_lit x
      have HK := Lib.hid hkl
      have HMa := Lib.hid (show OwnsP (wr.alloc (.cells (plC x).toArray 50)) b (n + k) (L ++ ps.take k) from World.ownsMap.alloc HMk.out _)
      have f3 : LD 50 (.pointer (some ⟨wr.heap.size, 0, none⟩)) (wr.alloc (.cells (plC x).toArray 50)) = .ok (plV x) (wr.alloc (.cells (plC x).toArray 50)) := LD_newP rfl
      have f4 : SD 50 (.pointer (some ⟨wr.heap.size, 0, none⟩)) (plV x) (wr.alloc (.cells zPc 50)) = .ok () (wr.alloc (.cells (plC x).toArray 50)) := SD_newP rfl
      clear hx hkl
      go_wp2_with (first | (at_mapUpdate; refine wpList_mapUpdate_own _ rfl _ _ _ 48 rfl 50 57 keyed Try.underlying48 (unitElem (H := Unit)) b (n + k) _ rfl HMa.out (by unfold maxLen; omega) _ _ _ rfl rfl HK.out _ [] unitElem_mk ?_; intro w1 hown1 hgrow1) | go_in)
      have HO := Lib.hid hown1
      have HG1 := Lib.hid hgrow1
      clear hown1 hgrow1
      go_wp2
      go_roundw
      case rel =>
        have ht := take_snoc ps k x HX.out
        refine ⟨k + 1, by omega, by go_num, ?_, ?_⟩
        · have := HO.out
          rw [ht, ← List.append_assoc, OwnsP, setP_snoc]
          exact this
        · exact (HG.out.trans (World.grownBy_alloc _ _ _)).trans HG1.out
      case measure => simp [intOf]; omega
    · obtain rfl : k = ps.length := by omega
      go_wp2
      go_end0
      refine ⟨rfl, ?_, HG.out⟩
      have := HMk.out
      rwa [List.take_length] at this
end Go.Proofs.Ytbkhldaomalmoaa
