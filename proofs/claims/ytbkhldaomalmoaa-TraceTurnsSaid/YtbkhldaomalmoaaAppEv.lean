/- append of a slice of events onto a list of the call's own. -/
import Derived.Test.YtbkhldaomalmoaaLawMore
import Derived.Maps.AppendAt
namespace Go.Proofs.Ytbkhldaomalmoaa
open Go.RowKit

theorem info_ev : (Try.prog.info? 46).map (fun i => (i.zero, i.size, i.bytes)) = some (some (((Try.prog.info? 46).bind (·.zero)).getD .nilIface), 32, 136) := by kernel_rfl
theorem evs_len (L : List Ev) : (L.flatMap evC).length = L.length * 32 := by
  induction L with
  | nil => rfl
  | cons e L ih => rw [List.flatMap_cons, List.length_append, evC_len, ih, List.length_cons]; omega
theorem evs_get : ∀ (L : List Ev) (k : Nat) (x : Ev), L[k]? = some x → ∀ j u, (evC x)[j]? = some u → (L.flatMap evC)[k * 32 + j]? = some u
  | [], k, x, h, _, _, _ => by simp at h
  | e :: L, 0, x, h, j, u, hu => by
    obtain rfl : e = x := by simpa using h
    have hj := (List.getElem?_eq_some_iff.1 hu).1
    rw [List.flatMap_cons, Nat.zero_mul, Nat.zero_add, List.getElem?_append_left hj]
    exact hu
  | e :: L, k + 1, x, h, j, u, hu => by
    rw [List.flatMap_cons, List.getElem?_append_right (by rw [evC_len]; omega), evC_len, show (k + 1) * 32 + j - 32 = k * 32 + j by omega]
    exact evs_get L k x (by simpa using h) j u hu
theorem evs_inv (L : List Ev) (i : Nat) (u : Value) (h : (L.flatMap evC)[i]? = some u) : ∃ x, L[i / 32]? = some x ∧ (evC x)[i % 32]? = some u := by
  have hi := (List.getElem?_eq_some_iff.1 h).1
  rw [evs_len] at hi
  have hk : i / 32 < L.length := by omega
  have hx : L[i / 32]? = some L[i / 32] := List.getElem?_eq_getElem hk
  have hj : i % 32 < (evC L[i / 32]).length := by rw [evC_len]; omega
  have := evs_get L (i / 32) L[i / 32] hx (i % 32) _ (List.getElem?_eq_getElem hj)
  rw [show i / 32 * 32 + i % 32 = i by omega] at this
  rw [this] at h
  exact ⟨_, hx, by rw [← h]; exact List.getElem?_eq_getElem hj⟩
theorem evs_one {L : List Ev} (hL : ∀ e ∈ L, e.Ok) : ∀ u ∈ L.flatMap evC, u.oneCell' = true := by
  intro u hu
  obtain ⟨e, he, hu⟩ := List.mem_flatMap.1 hu
  exact evC_one (hL e he) u hu
theorem evRow_cells {w : World} {g o len c : Nat} {L : List Ev} (h : EvRow w (.slice (some ⟨g, o, none⟩) len c) L) : ∀ j u, (L.flatMap evC)[j]? = some u → w.cell? ((⟨g, o, none⟩ : Addr).add j) = some u := by
  intro j u hu
  obtain ⟨x, hx, hj⟩ := evs_inv L j u hu
  obtain ⟨a', c', h1, h2, h3⟩ := h
  rcases h3 with rfl | ⟨g', o', ha, hg, hr⟩
  · simp at hx
  · have e : (⟨g, o, none⟩ : Addr) = ⟨g', o', none⟩ := by
      have h4 : some (⟨g, o, none⟩ : Addr) = a' := by injection h1
      rw [ha] at h4
      exact Option.some.inj h4
    simp only [Addr.mk.injEq, and_true] at e
    obtain ⟨rfl, rfl⟩ := e
    have := hr _ x hx _ u hj
    rw [Go.WideShapes.add_plain]
    rw [← this]
    congr 2
    omega
theorem evRow_own {w : World} {base : Nat} {v : Value} {L : List Ev} (h : w.ownsRow base 46 32 v L.length (L.flatMap evC)) : EvRow w v L := by
  rcases h.2 with ⟨rfl, h0⟩ | ⟨g, cap, cur, rfl, _, hb, h1, h2, h3, h4⟩
  · have : L = [] := List.eq_nil_of_length_eq_zero h0
    subst this
    exact ⟨none, 0, rfl, Nat.le_refl _, .inl rfl⟩
  · refine ⟨_, _, rfl, h1, .inr ⟨g, 0, rfl, at_lt hb, fun k x hk j u hu => ?_⟩⟩
    have hkl := (List.getElem?_eq_some_iff.1 hk).1
    have hj := (List.getElem?_eq_some_iff.1 hu).1
    rw [evC_len] at hj
    have h5 := evs_get L k x hk j u hu
    rw [← h4, List.getElem?_take_of_lt (by omega), Array.getElem?_toList] at h5
    rw [Nat.zero_add]
    exact cell_in hb _ h5
theorem app_nil {w : World} {base : Nat} {v : Value} {n : Nat} {xs : List Value} (hown : w.ownsRow base 46 32 v n xs) (c : Nat) (ty : TypeId) : (Builtin.append_ #[22, 22] ty #[v, .slice none 0 c]).run Try.prog w = .ok v w := by
  obtain ⟨i0, hi, hz0, hz1, hz2⟩ := info_parts info_ev
  rcases hown.2 with ⟨rfl, rfl⟩ | ⟨g, cap, cur, rfl, _, _, hnc, _⟩
  · simp [Builtin.append_, run_underlying Try.underlying22, sizeOf, typeInfo, hi, Builtin.lenOf, Builtin.firstCells]
  · simp [Builtin.append_, run_underlying Try.underlying22, sizeOf, typeInfo, hi, Builtin.lenOf, Builtin.firstCells, hnc, storeCells]
/-- append, the source nil, empty or not -/
theorem wpList_append_ev {ops : Array Oper} {rest : List Oper} {o : Oper} {a : Act} {Q : Exit → Act → World → Prop} (w : World) (hgd : o.guard = none) (s x : Operand)
    (ho : o.op = .call { callee := .builtin .append, args := #[s, x], argTypes := #[22, 22] })
    (base : Nat) (v : Value) (D : List Ev) (hs : a.eval s = v) (hown : w.ownsRow base 46 32 v D.length (D.flatMap evC))
    (M : List Ev) (hM : ∀ e ∈ M, e.Ok) (u : Value) (hx : a.eval x = u) (hr : EvRow w u M) (h63 : D.length + M.length ≤ 1000000) (hbase : base ≤ w.heap.size)
    (h : ∀ v' w', w'.ownsRow base 46 32 v' (D ++ M).length ((D ++ M).flatMap evC) → w.grownBy w' v.ownBlock → wpList Try.prog ops Q rest (a.put o.dst v') w') : wpList Try.prog ops Q (o :: rest) a w := by
  obtain ⟨i0, hi, hz0, hz1, hz2⟩ := info_parts info_ev
  obtain ⟨ad, c, rfl, hc, h3⟩ := id hr
  rcases ad with _ | ⟨g, off, spot⟩
  · have hm : M = [] := by
      rcases h3 with h3 | ⟨g, o', h3, -⟩
      · exact h3
      · cases h3
    subst hm
    refine wpList_plain hgd fun _ hK => ?_
    have hrun := app_nil hown c o.type
    unfold Oper.wp execOp
    simp only [ho, resolve, invoke, builtin, Sem.run_bind, Sem.run_pure, Result.andThen_ok, List.map_toArray, List.map_cons, List.map_nil, hs, hx, List.length_nil, hrun]
    exact hK _ _ (h v w (by simpa using hown) (World.grownBy.refl w _))
  · refine wpList_append_own w hgd s x 22 ho base 46 i0 _ 32 136 Try.underlying22 hi hz0 hz1 hz2 zEc_size (by decide) v D.length _ hs hown ⟨g, off, spot⟩ M.length c (M.flatMap evC) hx (evs_len M) ?_ (evs_one hM) (by unfold maxLen; omega) (by omega) hbase (fun v' w' h1 h2 _ => h v' w' (by simpa using h1) h2)
    rcases h3 with rfl | ⟨g', o', ha, hg', hx'⟩
    · intro j u hu; simp at hu
    · cases ha
      exact evRow_cells hr
theorem evRow_drop {W : World} {a : Option Addr} {len c : Nat} {L : List Ev} (h : EvRow W (.slice a len c) L) (n : Nat) (hn : n ≤ L.length) : EvRow W (.slice (if c = n then a else a.map (·.add (n * 32))) (L.length - n) (c - n)) (L.drop n) := by
  obtain ⟨a', c', h1, h2, h3⟩ := h
  obtain ⟨rfl, rfl, rfl⟩ : a = a' ∧ len = L.length ∧ c = c' := by simpa using h1
  refine ⟨_, _, by rw [List.length_drop], by rw [List.length_drop]; omega, ?_⟩
  by_cases hl : n = L.length
  · exact .inl (by rw [hl, List.drop_length])
  · rcases h3 with rfl | ⟨g, o, rfl, hg, hx⟩
    · simp at hn; subst hn; exact .inl rfl
    · rw [if_neg (by omega)]
      refine .inr ⟨g, o + n * 32, by simp [Go.WideShapes.add_plain], hg, fun k x hk => ?_⟩
      rw [List.getElem?_drop] at hk
      have := hx (n + k) x hk
      rwa [show o + (n + k) * 32 = o + n * 32 + k * 32 by omega] at this
end Go.Proofs.Ytbkhldaomalmoaa
