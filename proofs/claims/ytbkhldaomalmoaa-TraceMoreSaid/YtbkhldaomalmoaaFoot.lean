/- What events read and write, as places: plain. -/
import Derived.Test.YtbkhldaomalmoaaEvOps
namespace Go.Proofs.Ytbkhldaomalmoaa
open Go.RowKit

def slotP (e : Ev) : Pl := ⟨e.self, false, e.arg⟩
def selfP (e : Ev) : Pl := ⟨e.self, true, 0⟩
def argP (e : Ev) : Pl := ⟨e.arg % A160, true, 0⟩
def readsOf (e : Ev) : List Pl :=
  if e.fault ≠ 0 then [] else if e.op = 84 then [slotP e] else if e.op = 49 ∨ e.op = 59 ∨ e.op = 60 ∨ e.op = 63 then [argP e] else if e.op = 71 then [selfP e]
  else if e.op = 241 ∨ e.op = 242 ∨ e.op = 244 ∨ e.op = 250 then [argP e] else []
def writesOf (e : Ev) : List Pl :=
  if e.fault ≠ 0 then [] else if e.op = 85 then [slotP e] else if e.op = 240 ∨ e.op = 245 ∨ e.op = 255 then [argP e, selfP e]
  else if e.op = 241 ∨ e.op = 242 ∨ e.op = 244 ∨ e.op = 250 then (if e.value = 0 then [] else [argP e, selfP e]) else []
theorem slotP_ok {e : Ev} (h : e.Ok) : (slotP e).Ok := ⟨h.self, h.arg⟩
theorem selfP_ok {e : Ev} (h : e.Ok) : (selfP e).Ok := ⟨h.self, W256_pos⟩
theorem A160_pos : 0 < A160 := by unfold A160; decide
theorem argP_ok (e : Ev) : (argP e).Ok := ⟨Nat.mod_lt _ A160_pos, W256_pos⟩
theorem reads_ok {e : Ev} (h : e.Ok) : ∀ x ∈ readsOf e, x.Ok := by
  intro x hx
  unfold readsOf at hx
  repeat' split at hx
  all_goals simp at hx
  all_goals subst hx
  all_goals first | exact slotP_ok h | exact selfP_ok h | exact argP_ok e
theorem writes_ok {e : Ev} (h : e.Ok) : ∀ x ∈ writesOf e, x.Ok := by
  intro x hx
  unfold writesOf at hx
  repeat' split at hx
  all_goals simp at hx
  all_goals first | (subst hx; exact slotP_ok h) | (rcases hx with rfl | rfl; exact argP_ok e; exact selfP_ok h)
theorem reads_len (e : Ev) : (readsOf e).length ≤ 2 := by unfold readsOf; (repeat' split) <;> simp
theorem writes_len (e : Ev) : (writesOf e).length ≤ 2 := by unfold writesOf; (repeat' split) <;> simp
theorem putL_len (L : List Pl) (p : Pl) : (putL L p).length ≤ L.length + 1 := by
  have h := putFold_len0 p L ([], false)
  unfold putL putFold
  simp only [List.length_nil, Bool.false_eq_true, if_false, Nat.zero_add, Nat.add_zero] at h
  cases hd : (List.foldl (putStep p) ([], false) L).2
  · rw [hd] at h; simp at h ⊢; omega
  · rw [hd] at h; simp at h ⊢; omega
/-- the document's lists -/
def putAll (Q : List Pl) (ps : List Pl) : List Pl := ps.foldl putL Q
def refR (L : List Ev) : List Pl := L.foldl (fun Q e => putAll Q (readsOf e)) []
def refW (L : List Ev) : List Pl := L.foldl (fun Q e => putAll Q (writesOf e)) []
theorem refR_snoc (L : List Ev) (e : Ev) : refR (L ++ [e]) = putAll (refR L) (readsOf e) := by simp [refR, List.foldl_append]
theorem refW_snoc (L : List Ev) (e : Ev) : refW (L ++ [e]) = putAll (refW L) (writesOf e) := by simp [refW, List.foldl_append]
theorem takeE_snoc (L : List Ev) (k : Nat) (x : Ev) (h : L[k]? = some x) : L.take (k + 1) = L.take k ++ [x] := take_snoc L k x h
theorem putAll_len (ps : List Pl) : ∀ Q : List Pl, (putAll Q ps).length ≤ Q.length + ps.length := by
  induction ps with
  | nil => intro Q; simp [putAll]
  | cons p ps ih =>
    intro Q
    have h1 := ih (putL Q p)
    have h2 := putL_len Q p
    have e : putAll Q (p :: ps) = putAll (putL Q p) ps := rfl
    rw [e, List.length_cons]; omega

/-! ### a place put among places that rise -/
theorem snocRec {α : Type} {M : List α → Prop} (h0 : M []) (h1 : ∀ L x, M L → M (L ++ [x])) (L : List α) : M L := by
  rw [← List.reverse_reverse L]
  induction L.reverse with
  | nil => exact h0
  | cons x l ih => rw [List.reverse_cons]; exact h1 _ _ ih
structure Up (qs : List Pl) : Prop where
  ok : ∀ x ∈ qs, x.Ok
  lt : qs.Pairwise (fun x y => x.code < y.code)
def Spec (p : Pl) (L : List Pl) : Prop :=
  Up L → ((putFold p L).2 = false → (putFold p L).1 = L ∧ ∀ x ∈ L, x.code < p.code) ∧
    ((putFold p L).2 = true → (Up (putFold p L).1 ∧ ∀ x, x ∈ (putFold p L).1 ↔ (x = p ∨ x ∈ L)) ∧ ∃ y ∈ L, p.code ≤ y.code)
theorem putFold_spec {p : Pl} (hp : p.Ok) (L : List Pl) : Spec p L := by
  refine snocRec ?_ ?_ L
  · intro _
    exact ⟨fun _ => ⟨rfl, fun x hx => by simp at hx⟩, fun h => by simp [putFold] at h⟩
  · intro L x ih hU
    have hUL : Up L := ⟨fun y hy => hU.ok y (by simp [hy]), (List.pairwise_append.1 hU.lt).1⟩
    have hx : x.Ok := hU.ok x (by simp)
    have hlx : ∀ y ∈ L, y.code < x.code := fun y hy => (List.pairwise_append.1 hU.lt).2.2 y hy x (by simp)
    obtain ⟨ih1, ih2⟩ := ih hUL
    rw [putFold_snoc]
    cases hd : (putFold p L).2
    · obtain ⟨e1, e2⟩ := ih1 hd
      rcases Nat.lt_trichotomy p.code x.code with h | h | h
      · have hne : ¬ x = p := by rintro rfl; omega
        refine ⟨fun hc => by simp [putStep, hd, h] at hc, fun _ => ?_⟩
        have es : (putStep p (putFold p L) x).1 = L ++ [p] ++ [x] := by simp [putStep, hd, h, e1]
        rw [es]
        refine ⟨⟨⟨?_, ?_⟩, ?_⟩, x, by simp, by omega⟩
        · intro y hy
          simp at hy
          rcases hy with hy | rfl | rfl
          · exact hUL.ok y hy
          · exact hp
          · exact hx
        · rw [List.append_assoc, List.pairwise_append]
          refine ⟨hUL.lt, by simpa using h, fun a ha b hb => ?_⟩
          simp at hb
          rcases hb with rfl | rfl
          · exact e2 a ha
          · exact hlx a ha
        · intro y; simp; constructor
          · rintro (h | h | h) <;> simp [h]
          · rintro (h | h | h) <;> simp [h]
      · have hpx : x = p := Pl.code_inj hx hp h.symm
        refine ⟨fun hc => by simp [putStep, hpx] at hc, fun _ => ?_⟩
        have es : (putStep p (putFold p L) x).1 = L ++ [x] := by
          have : ¬ p.code < x.code := by omega
          simp [putStep, this, e1]
        rw [es]
        refine ⟨⟨hU, fun y => ?_⟩, x, by simp, by omega⟩
        subst hpx
        simp
        intro h
        simp [h]
      · have hne : ¬ x = p := by rintro rfl; omega
        have hnl : ¬ p.code < x.code := by omega
        refine ⟨fun _ => ⟨by simp [putStep, hnl, e1], fun y hy => ?_⟩, fun hc => by simp [putStep, hd, hnl, hne] at hc⟩
        simp at hy
        rcases hy with hy | rfl
        · exact e2 y hy
        · exact h
    · obtain ⟨⟨hu, hm⟩, y, hy, hpy⟩ := ih2 hd
      refine ⟨fun hc => by simp [putStep, hd] at hc, fun _ => ?_⟩
      have es : (putStep p (putFold p L) x).1 = (putFold p L).1 ++ [x] := by simp [putStep, hd]
      have hpx : p.code < x.code := by have := hlx y hy; omega
      rw [es]
      refine ⟨⟨⟨?_, ?_⟩, ?_⟩, y, by simp [hy], hpy⟩
      · intro y hy
        simp at hy
        rcases hy with hy | rfl
        · exact hu.ok y hy
        · exact hx
      · rw [List.pairwise_append]
        refine ⟨hu.lt, by simp, fun a ha b hb => ?_⟩
        simp at hb
        subst hb
        rcases (hm a).1 ha with rfl | h
        · exact hpx
        · exact hlx a h
      · intro y
        simp [hm y, or_assoc]
theorem putL_up {p : Pl} (hp : p.Ok) {L : List Pl} (hU : Up L) : Up (putL L p) ∧ ∀ x, x ∈ putL L p ↔ (x = p ∨ x ∈ L) := by
  obtain ⟨h1, h2⟩ := putFold_spec hp L hU
  unfold putL
  cases hd : (putFold p L).2
  · obtain ⟨e1, e2⟩ := h1 hd
    simp only [Bool.false_eq_true, if_false, e1]
    refine ⟨⟨?_, ?_⟩, ?_⟩
    · intro y hy
      simp at hy
      rcases hy with hy | rfl
      · exact hU.ok y hy
      · exact hp
    · rw [List.pairwise_append]
      exact ⟨hU.lt, by simp, fun a ha b hb => by simp at hb; subst hb; exact e2 a ha⟩
    · intro y; simp [or_comm]
  · simp only [if_true]
    exact (h2 hd).1
theorem putAll_up : ∀ (ps : List Pl), (∀ x ∈ ps, x.Ok) → ∀ {Q : List Pl}, Up Q → Up (putAll Q ps) ∧ ∀ x, x ∈ putAll Q ps ↔ (x ∈ ps ∨ x ∈ Q)
  | [], _, Q, h => ⟨h, fun x => by simp [putAll]⟩
  | p :: ps, hp, Q, h => by
    have h1 := putL_up (hp p (by simp)) h
    have h2 := putAll_up ps (fun x hx => hp x (by simp [hx])) h1.1
    have e : putAll Q (p :: ps) = putAll (putL Q p) ps := rfl
    rw [e]
    refine ⟨h2.1, fun x => ?_⟩
    rw [h2.2, h1.2, List.mem_cons]
    constructor
    · rintro (h | h | h) <;> simp [h]
    · rintro ((h | h) | h) <;> simp [h]
theorem fold_up (f : Ev → List Pl) (hf : ∀ e : Ev, e.Ok → ∀ x ∈ f e, x.Ok) (L : List Ev) : (∀ e ∈ L, e.Ok) → Up (L.foldl (fun Q e => putAll Q (f e)) []) ∧ ∀ x, x ∈ L.foldl (fun Q e => putAll Q (f e)) [] ↔ x ∈ L.flatMap f := by
  refine snocRec (M := fun L => (∀ e ∈ L, e.Ok) → Up (L.foldl (fun Q e => putAll Q (f e)) []) ∧ ∀ x, x ∈ L.foldl (fun Q e => putAll Q (f e)) [] ↔ x ∈ L.flatMap f) ?_ ?_ L
  · intro _; exact ⟨⟨by simp, by simp⟩, by simp⟩
  · intro L e ih h
    obtain ⟨i1, i2⟩ := ih (fun x hx => h x (by simp [hx]))
    rw [List.foldl_append]
    obtain ⟨j1, j2⟩ := putAll_up (f e) (hf e (h e (by simp))) i1
    refine ⟨j1, fun x => ?_⟩
    rw [List.flatMap_append, List.mem_append, List.flatMap_cons, List.flatMap_nil, List.append_nil]
    show x ∈ putAll _ (f e) ↔ _
    rw [j2, i2, or_comm]
theorem refR_up {L : List Ev} (h : ∀ e ∈ L, e.Ok) : Up (refR L) ∧ ∀ x, x ∈ refR L ↔ x ∈ L.flatMap readsOf := fold_up readsOf (fun _ h => reads_ok h) L h
theorem refW_up {L : List Ev} (h : ∀ e ∈ L, e.Ok) : Up (refW L) ∧ ∀ x, x ∈ refW L ↔ x ∈ L.flatMap writesOf := fold_up writesOf (fun _ h => writes_ok h) L h
/-- places that rise are told by which they are -/
theorem up_ext : ∀ {p q : List Pl}, p.Pairwise (fun x y => x.code < y.code) → q.Pairwise (fun x y => x.code < y.code) → (∀ x, x ∈ p ↔ x ∈ q) → p = q
  | [], [], _, _, _ => rfl
  | [], y :: q, _, _, h => absurd ((h y).2 (by simp)) (by simp)
  | x :: p, [], _, _, h => absurd ((h x).1 (by simp)) (by simp)
  | x :: p, y :: q, hp, hq, h => by
    rw [List.pairwise_cons] at hp hq
    have e : x = y := by
      have h1 := (h x).1 (by simp)
      have h2 := (h y).2 (by simp)
      rw [List.mem_cons] at h1 h2
      rcases h1 with rfl | h1
      · rfl
      · rcases h2 with rfl | h2
        · rfl
        · have := hp.1 y h2; have := hq.1 x h1; omega
    subst e
    congr 1
    refine up_ext hp.2 hq.2 (fun z => ?_)
    constructor
    · intro hz
      have h1 := (h z).1 (by simp [hz])
      rw [List.mem_cons] at h1
      rcases h1 with rfl | h1
      · have := hp.1 z hz; omega
      · exact h1
    · intro hz
      have h1 := (h z).2 (by simp [hz])
      rw [List.mem_cons] at h1
      rcases h1 with rfl | h1
      · have := hq.1 z hz; omega
      · exact h1
theorem refR_len (L : List Ev) : (refR L).length ≤ 2 * L.length := by
  refine snocRec (M := fun L => (refR L).length ≤ 2 * L.length) (by simp [refR]) (fun L e ih => ?_) L
  rw [refR_snoc, List.length_append, List.length_singleton]
  have := putAll_len (readsOf e) (refR L); have := reads_len e; omega
theorem refW_len (L : List Ev) : (refW L).length ≤ 2 * L.length := by
  refine snocRec (M := fun L => (refW L).length ≤ 2 * L.length) (by simp [refW]) (fun L e ih => ?_) L
  rw [refW_snoc, List.length_append, List.length_singleton]
  have := putAll_len (writesOf e) (refW L); have := writes_len e; omega
end Go.Proofs.Ytbkhldaomalmoaa
