/- bytes.Equal, bytes.HasPrefix at 32 bytes. -/
import Derived.Test.YtbkhldaomalmoaaCalls
import Derived.Laws.BytesArg
import Derived.WideShapes
namespace Go.Proofs.Ytbkhldaomalmoaa
open Go.RowKit

theorem str_inj : ∀ {xs ys : List Int}, (∀ x ∈ xs, 0 ≤ x ∧ x ≤ 255) → (∀ y ∈ ys, 0 ≤ y ∧ y ≤ 255) → (xs.map fun n => UInt8.ofNat n.toNat) = (ys.map fun n => UInt8.ofNat n.toNat) → xs = ys
  | [], [], _, _, _ => rfl
  | [], _ :: _, _, _, h => by simp at h
  | _ :: _, [], _, _, h => by simp at h
  | x :: xs, y :: ys, hx, hy, h => by
    rw [List.map_cons, List.map_cons, List.cons.injEq] at h
    have h1 := hx x (by simp)
    have h2 := hy y (by simp)
    have h3 : x.toNat = y.toNat := by
      have := congrArg UInt8.toNat h.1
      simp only [UInt8.toNat_ofNat'] at this
      omega
    have h4 : x = y := by omega
    rw [h4, str_inj (fun z hz => hx z (by simp [hz])) (fun z hz => hy z (by simp [hz])) h.2]
def bytesOk (xs : List Int) : Prop := ∀ x ∈ xs, 0 ≤ x ∧ x ≤ 255
theorem strOfNums_eq {xs ys : List Int} (hx : bytesOk xs) (hy : bytesOk ys) : strOfNums xs = strOfNums ys ↔ xs = ys := by
  constructor
  · intro h
    have := congrArg (fun b : ByteArray => b.data.toList) h
    exact str_inj hx hy this
  · rintro rfl; rfl
set_option maxHeartbeats 1000000 in
theorem equal_calls (w : World) (g o c g' o' c' : Nat) (xs ys : List Int) (hx : bytesOk xs) (hy : bytesOk ys) (h1 : ∀ k x, xs[k]? = some x → w.cell? ⟨g, o + k, none⟩ = some (.int .u8 x)) (h2 : ∀ k x, ys[k]? = some x → w.cell? ⟨g', o' + k, none⟩ = some (.int .u8 x)) :
    Calls Try.prog 43 #[.slice (some ⟨g, o, none⟩) xs.length c, .slice (some ⟨g', o', none⟩) ys.length c'] w fun e w' => e = .returned (.bool (decide (xs = ys))) ∧ w' = w := by
  have c1 := run_convert_bytes_arg (P := Try.prog) w 42 5 Try.underlying42 Try.underlying5 g o xs.length c xs rfl (fun i hi => by rw [h1 i _ (List.getElem?_eq_getElem hi)]; simp [List.getD, List.getElem?_eq_getElem hi]) 9 Try.underlying9
  have c2 := run_convert_bytes_arg (P := Try.prog) w 42 5 Try.underlying42 Try.underlying5 g' o' ys.length c' ys rfl (fun i hi => by rw [h2 i _ (List.getElem?_eq_getElem hi)]; simp [List.getD, List.getElem?_eq_getElem hi]) 9 Try.underlying9
  have key : ((strOfNums xs).toList == (strOfNums ys).toList) = decide (xs = ys) := by
    by_cases h : xs = ys
    · subst h; simp
    · rw [decide_eq_false h]
      refine beq_eq_false_iff_ne.2 (fun hh => h ((strOfNums_eq hx hy).1 ?_))
      rw [ByteArray.toList_eq, ByteArray.toList_eq] at hh
      exact Go.WideShapes.bytes_inj hh
  clear h1 h2 hx hy
  go_enter Try.func43, Try.ntmps43
  go_wp2
  go_ret
  exact ⟨rfl, rfl⟩
set_option maxHeartbeats 1000000 in
/-- bytes.HasPrefix where 32 bytes are asked for -/
theorem hasPrefix_calls (w : World) (v : Value) (xs ys : List Int) (g' c' : Nat) (hx : bytesOk xs) (hy : bytesOk ys) (hl : ys.length = 32) (hv : BtRow w v xs) (hm : xs.length ≤ 9223372036854775807) (h2 : ∀ k x, ys[k]? = some x → w.cell? ⟨g', 0 + k, none⟩ = some (.int .u8 x)) :
    Calls Try.prog 27 #[v, .slice (some ⟨g', 0, none⟩) 32 c'] w fun e w' => e = .returned (.bool (decide (32 ≤ xs.length) && decide (xs.take 32 = ys))) ∧ w' = w := by
  obtain ⟨a, c, rfl, hc, h3⟩ := hv
  by_cases hlen : 32 ≤ xs.length
  · have h3' := h3.resolve_left (fun h => by rw [h] at hlen; simp at hlen)
    obtain ⟨g, o, rfl, hg, h1⟩ := h3'
    have ht : (xs.take 32).length = 32 := by rw [List.length_take]; omega
    have hE := equal_calls w g o c g' 0 c' (xs.take 32) ys (fun x hx' => hx x (List.mem_of_mem_take hx')) hy (fun k x hk => h1 k x (by
      have hk2 := (List.getElem?_eq_some_iff.1 hk).1
      rw [ht] at hk2
      rwa [List.getElem?_take_of_lt hk2] at hk)) h2
    rw [ht, hl] at hE
    have HE := Lib.hid hE
    clear hE h1 h2 hx hy h3
    have hd : decide (32 ≤ xs.length) = true := decide_eq_true hlen
    rw [hd]
    go_enter Try.func27, Try.ntmps27
    go_wp2_with (go_at_call 43; refine HE.out.mono ?_; rintro e w' ⟨rfl, rfl⟩)
    go_ret
    exact ⟨by simp, rfl⟩
  · have hd : decide (32 ≤ xs.length) = false := decide_eq_false hlen
    rw [hd]
    go_enter Try.func27, Try.ntmps27
    go_wp2
    go_ret
    exact ⟨rfl, rfl⟩
end Go.Proofs.Ytbkhldaomalmoaa
