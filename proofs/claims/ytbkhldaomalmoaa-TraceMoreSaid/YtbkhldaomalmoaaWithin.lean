/- quaestorlaw14.within: a list that stands in another one. -/
import Derived.Test.YtbkhldaomalmoaaSame
namespace Go.Proofs.Ytbkhldaomalmoaa
open Go.RowKit
attribute [local go_sem ↓] exec_load

theorem sub_skip {a b : Pl} {A B : List Pl} (h : (a :: A).Sublist (b :: B)) (hne : ¬ b = a) : (a :: A).Sublist B := by
  cases h with
  | cons _ h => exact h
  | cons_cons _ h => exact absurd rfl hne
theorem drop_at {α : Type} {L : List α} {k : Nat} {x : α} (h : L[k]? = some x) : L.drop k = x :: L.drop (k + 1) := by
  obtain ⟨hl, rfl⟩ := List.getElem?_eq_some_iff.1 h
  exact List.drop_eq_getElem_cons hl
theorem sub_here {A B : List Pl} {i k : Nat} (h : (A.drop i).Sublist (B.drop k)) (hi : i < A.length) : k < B.length := by
  have h1 := h.length_le
  rw [List.length_drop, List.length_drop] at h1
  omega
theorem sub_next {A B : List Pl} {i k : Nat} {x y : Pl} (h : (A.drop i).Sublist (B.drop k)) (hx : A[i]? = some x) (hy : B[k]? = some y) (hne : ¬ y = x) : (A.drop i).Sublist (B.drop (k + 1)) := by
  rw [drop_at hx] at h ⊢
  rw [drop_at hy] at h
  exact sub_skip h hne
theorem sub_on {A B : List Pl} {i k : Nat} {x y : Pl} (h : (A.drop i).Sublist (B.drop k)) (hx : A[i]? = some x) : (A.drop (i + 1)).Sublist (B.drop k) := by
  rw [drop_at hx] at h
  exact (List.sublist_cons_self _ _).trans h
set_option maxRecDepth 100000 in
set_option maxHeartbeats 4000000 in
theorem within_calls (A B : List Pl) (hA : ∀ x ∈ A, x.Ok) (hB : ∀ x ∈ B, x.Ok) (u v : Value) (w : World) (hu : PlRow w u A) (hv : PlRow w v B) (hs : A.Sublist B) (hn : B.length < 1000000) :
    Calls Try.prog 12 #[u, v] w fun e w' => e = .returned (.bool true) ∧ Below w.heap.size w w' := by
  obtain ⟨a, c, rfl, -, -⟩ := id hu
  obtain ⟨a', c', rfl, -, -⟩ := id hv
  have hnA := hs.length_le
  have HU := Lib.hid hu
  have HV := Lib.hid hv
  have HA := Lib.hid hA
  have HB := Lib.hid hB
  clear hu hv hA hB
  go_enter Try.func12, Try.ntmps12
  go_wp2
  go_loopw [5, 6] (fun kk i wr => ∃ n k : Nat, n ≤ A.length ∧ k ≤ B.length ∧ i = .int .i64 n ∧ kk = .int .i64 k ∧ (A.drop n).Sublist (B.drop k) ∧ Below w.heap.size w wr) (fun _ i _ => A.length - (intOf i).toNat)
  case atStart => exact ⟨0, 0, by omega, by omega, rfl, rfl, by simpa using hs, Below.refl _ _⟩
  case round =>
    obtain ⟨n, k0, hn1, hk1, rfl, rfl, hsub, hBw⟩ := hrel
    clear hs
    by_cases hlt : n < A.length
    · obtain ⟨g, rfl, hg, hx⟩ := HU.out.at (by omega)
      obtain ⟨x, hxk⟩ : ∃ x, A[n]? = some x := ⟨A[n], List.getElem?_eq_getElem hlt⟩
      have HX := Lib.hid hxk
      have HXO := Lib.hid (HA.out x (List.mem_of_getElem? hxk))
      have rx := hx n x hxk
      have f1 : ∀ W, Below w.heap.size w W → LD 50 (.pointer (some ⟨g, n * 25, none⟩)) W = .ok (plV x) W := fun W h => LD_place (rangeAt_below rx h)
      have HK0 := Lib.hid (sub_here hsub hlt)
      have HS0 := Lib.hid hsub
      clear hx hxk rx hsub
      go_wp2
      obtain ⟨wo, rfl⟩ : ∃ wo : World, wo = wr := ⟨_, rfl⟩
      go_loopw [5] (fun kk wr => ∃ k : Nat, k ≤ B.length ∧ kk = .int .i64 k ∧ (A.drop n).Sublist (B.drop k) ∧ Below w.heap.size w wr) (fun kk _ => B.length - (intOf kk).toNat)
      case atStart => exact ⟨k0, hk1, rfl, HS0.out, hBw⟩
      case round =>
        obtain ⟨k, hk, rfl, hsub, hBr⟩ := hrel
        have hkl := sub_here hsub hlt
        obtain ⟨g', rfl, hg', hy⟩ := HV.out.at (by omega)
        obtain ⟨y, hyk⟩ : ∃ y, B[k]? = some y := ⟨B[k], List.getElem?_eq_getElem hkl⟩
        have hyO := HB.out y (List.mem_of_getElem? hyk)
        have ry := hy k y hyk
        have f2 : ∀ W, Below w.heap.size w W → LD 50 (.pointer (some ⟨g', k * 25, none⟩)) W = .ok (plV y) W := fun W h => LD_place (rangeAt_below ry h)
        have he := fun w => neP_bin hyO HXO.out w
        have hgd := fun a b w => eqP_guard y x .neq a b w
        have HS := Lib.hid hsub
        have HY := Lib.hid hyk
        clear hy hyk hyO ry hsub
        rcases hd : decide (y = x) with _ | _
        · have HD := Lib.hid hd
          go_wp2
          go_region_held3 (fun W => Below w.heap.size w W) (first | assumption | exact Below.drew (by assumption)) (fail)
          go_wp2
          go_roundw
          case rel => exact ⟨k + 1, by omega, by go_num, sub_next HS.out HX.out HY.out (of_decide_eq_false HD.out), hBr.drew⟩
          case measure => simp [intOf]; omega
        · have HD := Lib.hid hd
          go_wp2
          go_region_held3 (fun W => Below w.heap.size w W) (first | assumption | exact Below.drew (by assumption)) (fail)
          have hne : ((k : Int) == (B.length : Int)) = false := by rw [beq_eq_false_iff_ne]; omega
          go_wp2
          go_roundw
          case rel => exact ⟨n + 1, k, by omega, by omega, by go_num, rfl, sub_on (y := y) HS.out HX.out, hBr.drew⟩
          case measure => simp [intOf]; omega
    · obtain rfl : n = A.length := by omega
      go_wp2
      go_ret
      exact ⟨rfl, hBw⟩
end Go.Proofs.Ytbkhldaomalmoaa
