/- bytes.Compare at two addresses, cmp.Compare, cmp.Or at three, trace.compare. -/
import Derived.Test.YtbkhldaomalmoaaPlace
import Derived.Test.YtbkhldaomalmoaaCmp
import Derived.Lib.BytesEntry
import Derived.Deep.QuietTactic
import Derived.BigQuiet
namespace Go.Proofs.Ytbkhldaomalmoaa
open Go.RowKit
attribute [local go_sem] wV

/-! ### bytes -/
def nums8 (n v : Nat) : List Int := (List.range n).map (byteOf n v)
theorem nums8_len (n v : Nat) : (nums8 n v).length = n := by simp [nums8]
theorem nums8_get (n v i : Nat) (h : i < n) : (nums8 n v).getD i 0 = byteOf n v i := by
  simp [nums8, List.getD, h]
theorem nums8_succ (n v : Nat) (h : v < 256 ^ (n + 1)) : nums8 (n + 1) v = ((v / 256 ^ n : Nat) : Int) :: nums8 n (v % 256 ^ n) := by
  unfold nums8
  rw [List.range_succ_eq_map, List.map_cons, List.map_map]
  congr 1
  · unfold byteOf
    rw [show n + 1 - 1 - 0 = n by omega, Nat.mod_eq_of_lt]
    rw [Nat.div_lt_iff_lt_mul (Nat.pow_pos (by decide))]
    rw [Nat.pow_succ] at h
    omega
  · apply List.map_congr_left
    intro i hi
    have hi : i < n := by simpa using hi
    simp only [Function.comp]
    unfold byteOf
    rw [show n + 1 - 1 - (i + 1) = n - 1 - i by omega]
    have e : (256 : Nat) ^ n = 256 ^ (n - 1 - i) * (256 * 256 ^ i) := by
      rw [← Nat.pow_succ', ← Nat.pow_add]; congr 1; omega
    rw [e, Nat.mod_mul_right_div_self, Nat.mod_mul_right_mod]
theorem cmp_be : ∀ (n a b : Nat), a < 256 ^ n → b < 256 ^ n → Lib.compareBytes (Lib.bytesOf (nums8 n a)) (Lib.bytesOf (nums8 n b)) = cmpN a b
  | 0, a, b, ha, hb => by
    have : a = 0 := by simpa using ha
    have : b = 0 := by simpa using hb
    subst a b
    simp [nums8, Lib.bytesOf, Lib.compareBytes, cmpN]
  | n + 1, a, b, ha, hb => by
    have ih := cmp_be n (a % 256 ^ n) (b % 256 ^ n) (Nat.mod_lt _ (Nat.pow_pos (by decide))) (Nat.mod_lt _ (Nat.pow_pos (by decide)))
    rw [nums8_succ n a ha, nums8_succ n b hb]
    have hp : 0 < (256 : Nat) ^ n := Nat.pow_pos (by decide)
    have ha' : a / 256 ^ n < 256 := by rw [Nat.div_lt_iff_lt_mul hp]; rw [Nat.pow_succ] at ha; omega
    have hb' : b / 256 ^ n < 256 := by rw [Nat.div_lt_iff_lt_mul hp]; rw [Nat.pow_succ] at hb; omega
    have da := Nat.div_add_mod a (256 ^ n)
    have db := Nat.div_add_mod b (256 ^ n)
    have ma := Nat.mod_lt a hp
    have mb := Nat.mod_lt b hp
    simp only [Lib.bytesOf, List.map_cons, Int.toNat_natCast] at ih ⊢
    rw [Lib.compareBytes, ih]
    generalize hx : a / 256 ^ n = x at *
    generalize hy : b / 256 ^ n = y at *
    generalize a % 256 ^ n = a' at *
    generalize b % 256 ^ n = b' at *
    generalize 256 ^ n = M at *
    have hl : ∀ u v : Nat, u < 256 → v < 256 → ((UInt8.ofNat u < UInt8.ofNat v) ↔ u < v) := by
      intro u v hu hv
      rw [UInt8.lt_iff_toNat_lt]
      simp [Nat.mod_eq_of_lt hu, Nat.mod_eq_of_lt hv]
    simp only [hl x y ha' hb', hl y x hb' ha']
    unfold cmpN
    rcases Nat.lt_trichotomy x y with h | h | h
    · have := Nat.mul_le_mul_left M (show x + 1 ≤ y from h)
      rw [Nat.mul_add] at this
      rw [if_pos h, if_pos (by omega)]
    · subst h
      rw [if_neg (by omega), if_neg (by omega)]
      by_cases h1 : a' < b'
      · rw [if_pos h1, if_pos (by omega)]
      · rw [if_neg h1, if_neg (show ¬ a < b by omega)]
        by_cases h2 : a' = b'
        · rw [if_pos h2, if_pos (by omega)]
        · rw [if_neg h2, if_neg (by omega)]
    · have := Nat.mul_le_mul_left M (show y + 1 ≤ x from h)
      rw [Nat.mul_add] at this
      rw [if_neg (by omega), if_pos h, if_neg (by omega), if_neg (by omega)]
theorem run_bytesOf20 {P : Program} (w : World) (b c v : Nat) (h : w.rangeAt b 0 (aC v)) : (Extern.Bytes.bytesOf (.slice (some ⟨b, 0, none⟩) 20 c)).run P w = .ok ⟨(Lib.bytesOf (nums8 20 v)).toArray⟩ w := by
  have := Lib.run_loadBytesX (P := P) w (nums8 20 v) ⟨b, 0, none⟩ .empty (fun j x hj => by
    have hjl : j < 20 := by have := (List.getElem?_eq_some_iff.1 hj).1; rwa [nums8_len] at this
    rw [Addr.add_mid]
    refine h j _ ?_
    rw [aC_get v j hjl]
    have : x = byteOf 20 v j := by
      rw [← nums8_get 20 v j hjl, List.getD_eq_getElem?_getD, hj]; rfl
    rw [this])
  rw [nums8_len] at this
  have he : (⟨ByteArray.empty.data ++ (Lib.bytesOf (nums8 20 v)).toArray⟩ : ByteArray) = ⟨(Lib.bytesOf (nums8 20 v)).toArray⟩ := by
    apply ByteArray.ext
    show (#[] : Array UInt8) ++ (Lib.bytesOf (nums8 20 v)).toArray = (Lib.bytesOf (nums8 20 v)).toArray
    simp
  rw [he] at this
  simp only [Extern.Bytes.bytesOf]
  exact this
theorem run_compare20 {P : Program} (w : World) (b c x b' c' y : Nat) (hx : x < A160) (hy : y < A160) (h : w.rangeAt b 0 (aC x)) (h' : w.rangeAt b' 0 (aC y)) :
    (Extern.BytealgCompare.compare #[.slice (some ⟨b, 0, none⟩) 20 c, .slice (some ⟨b', 0, none⟩) 20 c']).run P w = .ok (.int .i64 (cmpN x y)) w := by
  change Sem.run P (do pure (goInt (Extern.BytealgCompare.cmp (← Extern.Bytes.bytesOf (.slice (some ⟨b, 0, none⟩) 20 c)) (← Extern.Bytes.bytesOf (.slice (some ⟨b', 0, none⟩) 20 c'))))) w = _
  simp only [Sem.run_bind, Sem.run_pure, run_bytesOf20 w b c x h, run_bytesOf20 w b' c' y h', Result.andThen_ok]
  rw [Lib.cmp_eq]
  simp only [goInt]
  rw [A160_eq] at hx hy
  rw [cmp_be 20 x y hx hy]
theorem compare20 (w : World) (b c x b' c' y : Nat) (hx : x < A160) (hy : y < A160) (h : w.rangeAt b 0 (aC x)) (h' : w.rangeAt b' 0 (aC y)) :
    (callFunc 48 #[.slice (some ⟨b, 0, none⟩) 20 c, .slice (some ⟨b', 0, none⟩) 20 c']).run Try.prog w = .ok (.value (.int .i64 (cmpN x y))) w := by
  rw [run_callFunc_extern (f := 48) (fn := Try.f48) (e := Extern.BytealgCompare.compare) Try.func48 (by kernel_rfl) (by kernel_rfl) (by kernel_rfl) (by kernel_rfl)]
  rw [run_compare20 w b c x b' c' y hx hy h h']
  rfl
theorem bcompare_calls (w : World) (b c x b' c' y : Nat) (hx : x < A160) (hy : y < A160) (h : w.rangeAt b 0 (aC x)) (h' : w.rangeAt b' 0 (aC y)) :
    Calls Try.prog 36 #[.slice (some ⟨b, 0, none⟩) 20 c, .slice (some ⟨b', 0, none⟩) 20 c'] w fun e w' => e = .returned (.int .i64 (cmpN x y)) ∧ w = w' := by
  have hr := compare20 w b c x b' c' y hx hy h h'
  clear h h' hx hy
  go_enter Try.func36, Try.ntmps36
  go_wp2
  go_ret
  exact ⟨rfl, rfl⟩
def cmpI (a b : Int) : Int := if a < b then -1 else if b < a then 1 else 0
theorem icompare_calls (a b : Int) (w : World) : Calls Try.prog 37 #[.int .i64 a, .int .i64 b] w fun e w' => e = .returned (.int .i64 (cmpI a b)) ∧ w = w' := by
  unfold cmpI
  by_cases h : a < b
  · rw [if_pos h]
    go_enter Try.func37, Try.ntmps37
    go_wp2
    go_ret
    exact ⟨rfl, rfl⟩
  · rw [if_neg h]
    by_cases h2 : b < a
    · rw [if_pos h2]
      go_enter Try.func37, Try.ntmps37
      go_wp2
      go_ret
      exact ⟨rfl, rfl⟩
    · rw [if_neg h2]
      go_enter Try.func37, Try.ntmps37
      go_wp2
      go_ret
      exact ⟨rfl, rfl⟩
/-- the first that is not 0 -/
def or3 (x y z : Int) : Int := if x ≠ 0 then x else if y ≠ 0 then y else z
theorem or_calls (x y z : Int) (b : Nat) (w : World) (h0 : w.cell? ⟨b, 0, none⟩ = some (.int .i64 x)) (h1 : w.cell? ⟨b, 1, none⟩ = some (.int .i64 y)) (h2 : w.cell? ⟨b, 2, none⟩ = some (.int .i64 z)) :
    Calls Try.prog 35 #[.slice (some ⟨b, 0, none⟩) 3 3] w fun e w' => e = .returned (.int .i64 (or3 x y z)) ∧ w = w' := by
  unfold or3
  by_cases hx : x = 0
  · rw [if_neg (by simpa using hx)]
    by_cases hy : y = 0
    · rw [if_neg (by simpa using hy)]
      have e0 : (x != 0) = false := by simp [hx]
      have e1 : (y != 0) = false := by simp [hy]
      by_cases hz : z = 0
      · subst hx hy hz
        clear e0 e1
        go_enter Try.func35, Try.ntmps35
        go_wp2
        refine wp_loop_rounds 4 ?_
        rw [rounds_succ]
        go_wp2
        rw [rounds_succ]
        go_wp2
        rw [rounds_succ]
        go_wp2
        rw [rounds_succ]
        go_wp2
        go_ret
        exact ⟨rfl, rfl⟩
      · have e2 : (z != 0) = true := by simp [hz]
        clear hx hy hz
        go_enter Try.func35, Try.ntmps35
        go_wp2
        refine wp_loop_rounds 4 ?_
        rw [rounds_succ]
        go_wp2
        rw [rounds_succ]
        go_wp2
        rw [rounds_succ]
        go_wp2
        go_ret
        exact ⟨rfl, rfl⟩
    · rw [if_pos hy]
      have e0 : (x != 0) = false := by simp [hx]
      have e1 : (y != 0) = true := by simp [hy]
      clear hx hy
      go_enter Try.func35, Try.ntmps35
      go_wp2
      refine wp_loop_rounds 4 ?_
      rw [rounds_succ]
      go_wp2
      rw [rounds_succ]
      go_wp2
      go_ret
      exact ⟨rfl, rfl⟩
  · rw [if_pos hx]
    have e0 : (x != 0) = true := by simp [hx]
    clear hx
    go_enter Try.func35, Try.ntmps35
    go_wp2
    refine wp_loop_rounds 4 ?_
    rw [rounds_succ]
    go_wp2
    go_ret
    exact ⟨rfl, rfl⟩
/-- a whole account stands ahead of its slots -/
def sideN (b : Bool) : Int := if b then 0 else 1
theorem side_calls (p : Pl) (w : World) : Calls Try.prog 34 #[plV p] w fun e w' => e = .returned (.int .i64 (sideN p.whole)) ∧ Grw w w' := by
  have hl := plC_len p
  have hw : ∀ h, (plC p)[20]'h = .bool p.whole := fun h => by
    have := plC_whole p
    rw [List.getElem?_eq_getElem h] at this
    exact Option.some.inj this
  unfold plV
  cases hb : p.whole
  · rw [hb] at hw
    clear hb
    go_enter Try.func34, Try.ntmps34
    go_wp2
    go_ret
    exact ⟨rfl, (Grw.refl _).alloc _⟩
  · rw [hb] at hw
    clear hb
    go_enter Try.func34, Try.ntmps34
    go_wp2
    go_ret
    exact ⟨rfl, (Grw.refl _).alloc _⟩
end Go.Proofs.Ytbkhldaomalmoaa
